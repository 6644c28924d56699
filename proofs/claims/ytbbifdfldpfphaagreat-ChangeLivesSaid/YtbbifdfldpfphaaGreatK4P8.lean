import Derived.Test.YtbbifdfldpfphaaGreatK4P6
import Derived.Test.YtbbifdfldpfphaaGreatK4P7
import Derived.Test.YtbbifdfldpfphaaGreatK4P3
import Derived.Test.YtbbifdfldpfphaaGreatK4P5
import Derived.Test.YtbbifdfldpfphaaGreatK4P4
set_option linter.unusedSimpArgs false
set_option linter.unusedVariables false
set_option maxHeartbeats 4000000
set_option maxRecDepth 100000
namespace Go.Vm
def rM (l:List (Int×Nat)):List (Value×Value):=l.map λx=>(.int .i64 x.1,.func (.func x.2) #[] #[])
theorem o0 (x:Int):∀(l:List (Int×Nat)) (ents:List MapEntry) (i:Nat),ents.map (λe=>(e.key,e.val))=rM l→
    (∀e,l.find? (λe=>e.1==x)=some e→∃j,Instr.findNow (.int .i64) (.int .i64 x) ents i=some (some (j,.func (.func e.2) #[] #[])))∧
    (l.find? (λe=>e.1==x)=none→Instr.findNow (.int .i64) (.int .i64 x) ents i=some none)
  | [], [],i,_=>⟨λe h=>by simp at h,λ_=>rfl⟩
  | [],_::_,_,h=>by simp[rM] at h
  | _::_, [],_,h=>by simp[rM] at h
  | y::l,e::ents,i,h=>by
    simp only[List.map_cons,rM,List.cons.injEq,Prod.mk.injEq] at h
    obtain⟨⟨h1,h2⟩,h3⟩:=h
    obtain⟨ih1,ih2⟩:=o0 x l ents (i+1) h3
    have hn:Instr.findNow (.int .i64) (.int .i64 x) (e::ents) i=(if (y.1==x)=true then some (some (i,e.val)) else Instr.findNow (.int .i64) (.int .i64 x) ents (i+1)):=by
      simp only[Instr.findNow,h1,Instr.sameNow,if_true]
      by_cases q:x=y.1
      · subst q; simp
      · have q1:(x==y.1)=false:=by simpa using q
        have q2:(y.1==x)=false:=by simpa using Ne.symm q
        rw[q1,q2]; simp
    rw[hn]
    simp only[List.find?_cons]
    cases q:(y.1==x)
    · exact⟨λe' he=>by obtain⟨j,hj⟩:=ih1 e' (by simpa using he); exact⟨j,by simpa using hj⟩,λhe=>by simpa using ih2 (by simpa using he)⟩
    · exact⟨λe' he=>by simp at he; subst he; exact⟨i,by simp[h2]⟩,λhe=>by simp at he⟩
section
variable {P:Program} {h h0:aF} {L:HL} {n:Nat} {kvs:KV} {ty:TypeId} {pos:String} {dP:Array Edge}
theorem IV {l:List (Int×Nat)} {x:Int} {dst:Option Tmp} {t kt et:TypeId} {m y:Operand} {q:cE} {z:Value} (ht:P.underlying t=some (.map kt et)) (hz:(P.info? et).bind (·.zero)=some z) (hkt:P.underlying kt=some (.int .i64))
    (hm:dK n kvs m= .mpv q) (hy:dK n kvs y= .sc (.int .i64 x)) (hq:h q=some (.mp (rM l))):
    eK P ⟨dst,.lookup t m y true,ty,pos,dP,none⟩ (match l.find? (λe=>e.1==x) with | some e=>.tup [.fn (.func e.2) [],.sc (.bool true)] | none=>.tup [.any,.sc (.bool false)]) (fm n kvs) h:=by
  refine dZ (x:=match l.find? (λe=>e.1==x) with | some e=>.tup [.fn (.func e.2) [],.sc (.bool true)] | none=>.tup [.any,.sc (.bool false)]) (λE w ac r hv=> ?_) ⟨rfl,rfl⟩
  have vm:=hv m (by simp[Op.operands])
  have vy:=hv y (by simp[Op.operands])
  rw[bN,hm] at vm; rw[bN,hy] at vy
  simp only[VR] at vm vy
  obtain⟨g,hg,em⟩:=vm
  obtain⟨g',ents,clk,e1,e2,e3⟩:=r.mp q _ hq
  rw[hg] at e1; cases e1
  have hck:=λb=>oG (P:=P) hkt 9999 x b w
  obtain⟨f1,f2⟩:=o0 x l ents.toList 0 e3
  have hz1:(zeroValue et).run P w= .ok z w:=by
    cases hi:P.info? et with
    | none=>rw[hi] at hz; simp at hz
    | some i=>
      rw[hi] at hz
      simp at hz
      simp[zeroValue,typeInfo,hi,hz]
  have hgo:(getObj g).run P w= .ok (.map ents clk) w:=by simp[getObj,Sem.run,e2]
  simp only[execOp,em,vy,Instr.lookup,Sem.run_bind,run_underlying ht,Result.andThen_ok,hgo,Sem.run_pure,hck,Instr.findKey,run_underlying hkt]
  cases ha:l.find? (λe=>e.1==x) with
  | some e=>
    obtain⟨j,a1⟩:=f1 e ha
    refine⟨.tuple #[.func (.func e.2) #[] #[],.bool true],by simp[a1], ?_⟩
    simp only[VR]
    exact⟨_,rfl,by simp[cZ,VR]⟩
  | none=>
    have a1:=f2 ha
    refine⟨.tuple #[z,.bool false],by simp[a1,hz1], ?_⟩
    simp only[VR]
    exact⟨_,rfl,by simp[cZ,VR]⟩
theorem zK {K:AV→aF→Prop} {l:List (Int×Nat)} {x:Int} {f:Nat} {dst:Option Tmp} {t kt et:TypeId} {m y v:Operand} {q:cE} (i:Nat) (hk:bV h0 L) (ht:P.underlying t=some (.map kt et)) (hkt:P.underlying kt=some (.int .i64))
    (hm:dK n kvs m= .mpv q) (hy:dK n kvs y= .sc (.int .i64 x)) (hv:dK n kvs v= .fn (.func f) []) (hi:L[i]? =some (some q,.mp (rM l))) (hnew:l.find? (λe=>e.1==x)=none)
    (k:bV h0 (L.set i (some q,.mp (rM (l++ [(x,f)]))))→K (.sc undef) (hp h0 (L.set i (some q,.mp (rM (l++ [(x,f)])))))):
    i7 P ⟨dst,.insert t m y v,ty,pos,dP,none⟩ K (fm n kvs) (hp h0 L):=by
  intro E w a r hva Nx Qx hn
  have vm:=hva m (by simp[Op.operands])
  have vy:=hva y (by simp[Op.operands])
  have vv:=hva v (by simp[Op.operands])
  rw[bN,hm] at vm; rw[bN,hy] at vy; rw[bN,hv] at vv
  simp only[VR] at vm vy vv
  obtain⟨g,hg,em⟩:=vm
  obtain⟨cs,ev,hcs⟩:=vv
  have hc0:cs= #[]:=by
    have:cs.toList= []:=by
      cases hh:cs.toList with
      | nil=>rfl
      | cons a b=>rw[hh] at hcs; simp only[cZ] at hcs
    simpa using this
  subst hc0
  obtain⟨g',ents,clk,e1,e2,e3⟩:=r.mp q _ (bC i hk hi)
  rw[hg] at e1; cases e1
  have hq:=bC i hk hi
  have hck:=λb=>oG (P:=P) hkt 9999 x b w
  obtain⟨f1,f2⟩:=o0 x l ents.toList 0 e3
  have hf:=f2 hnew
  have hgo:(getObj g).run P w= .ok (.map ents clk) w:=by simp[getObj,Sem.run,e2]
  have hglt:=(Array.getElem?_eq_some_iff.1 e2).1
  obtain⟨h1,h2,_⟩:=jD (e':=.mp (rM (l++ [(x,f)]))) i hk hi (.inl rfl)
  have hes:(ents.push { key:=.int .i64 x,val:=.func (.func f) #[] #[],born:=clk}).toList.map (λe=>(e.key,e.val))=rM (l++ [(x,f)]):=by
    simp only[Array.toList_push,List.map_append,e3,rM,List.map_cons,List.map_nil]
  have hfind:(Instr.findKey kt (.int .i64 x) ents.toList).run P w= .ok none w:=by
    simp only[Instr.findKey,Sem.run_bind,run_underlying hkt,Result.andThen_ok,hf,Sem.run_pure]
  have hrun:(execOp a.eval ⟨dst,.insert t m y v,ty,pos,dP,none⟩).run P w= .ok .skip { w with heap:=w.heap.setIfInBounds g (.map (ents.push { key:=.int .i64 x,val:=.func (.func f) #[] #[],born:=clk}) (clk+1))}:=by
    simp only[execOp,em,vy,ev,Instr.mapUpdate,Sem.run_bind,run_underlying ht,Result.andThen_ok,hgo,hck,hfind]
    simp[setObj,Sem.run,e2]
  obtain⟨k1,r1⟩:=r.set_mp hq hg (ents.push { key:=.int .i64 x,val:=.func (.func f) #[] #[],born:=clk}) (clk+1) (w':= { w with heap:=w.heap.setIfInBounds g (.map (ents.push { key:=.int .i64 x,val:=.func (.func f) #[] #[],born:=clk}) (clk+1))}) (by simp[hglt]) (λg' hg'=>by simp[Ne.symm hg']) (by simp) rfl rfl rfl
  unfold Oper.wp
  rw[hrun]
  rw[hes,h1] at r1
  exact hn (.sc undef) undef _ E _ k1 r1 (by simp only[VR]) (k h2)
end
theorem QY (args:List AV):fm args.length (CI 0 args).k=args:=by
 apply List.ext_getElem?
 intro i
 rw[pK,GR]
 have e:=uQ 0 0 args i
 rw[Nat.zero_add,List.replicate_zero,List.append_nil] at e
 by_cases h:i < args.length
 ·rw[if_pos h,e,List.getElem?_eq_getElem h]
  simp[List.getD,h]
 ·rw[if_neg h,List.getElem?_eq_none (by omega)]
theorem vO {P:Program} {f:FuncId} {args:List AV} {Q:AV→aF→Prop} {H H':aF} (le:i8 (fm args.length (CI 0 args).k) H' (fm args.length (CI 0 args).k) H) (hc:aL P f args H' Q):aL P f args H Q:=by
 rw[QY] at le
 intro E w vs r v
 obtain⟨E1,k1,r1,v1⟩:=le E w _ r v
 refine(hc E1 w vs r1 v1).mono ?_
 rintro e w' ⟨v',E',x,h',rfl,k,r',vx,q⟩
 exact⟨v',E',x,h',rfl,k1.trans k,r',vx,q⟩
theorem lU {P:Program} {f:FuncId} {args:List AV} {Q Q':AV→aF→Prop} {H:aF} (hc:aL P f args H Q) (hq:∀r h',Q r h'→Q' r h'):aL P f args H Q':=hc.mono hq
end Go.Vm
namespace Go.Proofs.YtbbifdfldpfphaaGreat
open Go.Vm
def kB:List (Int×Nat):= [(1,72),(2,73),(3,74),(4,75),(5,76)]
def gW (m:Nat) (f:Nat) (d:aA) (x:aR):Option (aA×Int):=
 if f=72 then (V0 m d x).bind λo=>some ({ d with Seq:=o.2.1,Snaps:=o.2.2.1,Chunks:=o.2.2.2},o.1)
 else if f=73 then (VX m d x).bind λo=>some ({ d with Snaps:=o.2.1,Chunks:=o.2.2},o.1)
 else if f=74 then (VY m d x).bind λo=>some ({ Seq:=o.2.1,Snaps:=o.2.2.1,Chunks:=o.2.2.2.1,Exps:=o.2.2.2.2.1,Vols:=o.2.2.2.2.2},o.1)
 else if f=75 then (VZ m d x).bind λo=>some ({ d with Snaps:=o.2.1,Chunks:=o.2.2.1,Exps:=o.2.2.2.1,Vols:=o.2.2.2.2},o.1)
 else if f=76 then (VW m d x).bind λo=>some ({ d with Vols:=o.2},o.1)
 else none
def C7 (m:Nat) (p0:aA) (p1:aR):Option (aA×Int):=
 match kB.find? (λe=>e.1==p1.Kind) with
 | none=>some (bU,1)
 | some e=>(T1 m p0).bind λy=>if (y !=0)=true then some (bU,1) else (NM m p0).bind λd=>
 after ((gW m e.2 d p1).bind λs=>some (.brk s):Option (Lp (aA×Int) (aA×Int))) λs=>if (s.2 !=0)=true then some (bU,s.2) else (T1 m s.1).bind λy2=>if (y2 !=0)=true then some (bU,1) else some (s.1,0)
abbrev NN (k:cE) (d:aA) (a b c:dH) (v:cU):HL:= [OC k d.Seq a.a b.a c.a v,bM a d.Snaps,aW b d.Chunks,bR c d.Exps,aM v d.Vols]++((bQ a d.Snaps)++((a9 b d.Chunks)++(bS c d.Exps)))
abbrev NO (k:cE) (d:aA) (a b c v:cU):HL:= [OC k d.Seq a b c v,bF a d.Snaps,aV b d.Chunks,bX c d.Exps,aM v d.Vols]
theorem aFY {h:aF} {k:cE} {d:aA} {a b c:dH} {v:cU} (oa:mD aH.Locs 4 4 a d.Snaps) (ob:mD aB.Locs 35 4 b d.Chunks) (oc:mD aQ.Locs 3 4 c d.Exps) (m:bV h (NN k d a b c v)) {n:Nat} {f:FR}:
 bV h (NO k d a.a b.a c.a v)∧i8 (fm n f.k) (hp h (NO k d a.a b.a c.a v)) (fm n f.k) (hp h (NN k d a b c v)):=by
 obtain⟨k1,l1⟩:=D2 (ty:=81) (n:=n) (f:=f) (h0:=h) (L':= [OC k d.Seq a.a b.a c.a v,bF a.a d.Snaps,aW b d.Chunks,bR c d.Exps,aM v d.Vols]++((a9 b d.Chunks)++(bS c d.Exps))) [[_], [_], [_], [_], [_],_,_,_] rfl 1 5 eQ qJ oa.k rfl rfl (by decide) rfl m
 obtain⟨k2,l2⟩:=D2 (ty:=81) (n:=n) (f:=f) (h0:=h) (L':= [OC k d.Seq a.a b.a c.a v,bF a.a d.Snaps,aV b.a d.Chunks,bR c d.Exps,aM v d.Vols]++(bS c d.Exps)) [[_], [_], [_], [_], [_],_,_] rfl 2 5 eQ n6 ob.k rfl rfl (by decide) rfl k1
 obtain⟨k3,l3⟩:=D2 (ty:=81) (n:=n) (f:=f) (h0:=h) (L':=NO k d a.a b.a c.a v) [[_], [_], [_], [_], [_],_] rfl 3 5 eQ vN oc.k rfl rfl (by decide) rfl k2
 exact⟨k3,(l1.trans l2).trans l3⟩
theorem UV {w:Nat} {f:Nat} {d:aA} {x:aR} {s:aA×Int} (h:aF) {k:cE} {a b c:dH} {v:cU} (oa:mD aH.Locs 4 4 a d.Snaps) (ob:mD aB.Locs 35 4 b d.Chunks) (oc:mD aQ.Locs 3 4 c d.Exps) (ov:bK v 4 d.Vols.length) (u:bV h (NN k d a b c v)) (m:gW w f d x=some s):
 aL Tryz.prog f [.ptr k 0,.agg (aD x)] (hp h (NN k d a b c v)) (λr h'=>∃a' b' c' v':cU,bK a' 4 s.1.Snaps.length∧bK b' 35 s.1.Chunks.length∧bK c' 3 s.1.Exps.length∧bK v' 4 s.1.Vols.length∧bV h (NO k s.1 a' b' c' v')∧r=nZ s.2∧h'=hp h (NO k s.1 a' b' c' v')):=by
 obtain⟨kp,lp⟩:=aFY oa ob oc u (n:= [AV.ptr k 0,AV.agg (aD x)].length) (f:=CI 0 [AV.ptr k 0,AV.agg (aD x)])
 unfold gW at m
 split at m
 rename_i e; subst e
 obtain⟨o,ho,m⟩:=aC m
 cases m
 refine vO lp (lU (W72 (p0:=d) h oa.k.a ob.k.a oc.k.a ov kp ho) ?_)
 rintro r h' ⟨a',oa',b',ob',hk',e1,e2⟩
 exact⟨a',b',c.a,v,oa',ob',oc.k.a,ov,hk',e1,e2⟩
 split at m
 rename_i e; subst e
 obtain⟨o,ho,m⟩:=aC m
 cases m
 refine vO lp (lU (W73 (p0:=d) h oa.k.a ob.k.a oc.k.a ov kp ho) ?_)
 rintro r h' ⟨a',oa',b',ob',hk',e1,e2⟩
 exact⟨a',b',c.a,v,oa',ob',oc.k.a,ov,hk',e1,e2⟩
 split at m
 rename_i e; subst e
 obtain⟨o,ho,m⟩:=aC m
 cases m
 refine lU (W74 (p0:=d) h oa ob oc ov u ho) ?_
 rintro r h' ⟨a',oa',b',ob',c',oc',v',ov',hk',e1,e2⟩
 exact⟨a',b',c',v',oa',ob',oc',ov',hk',e1,e2⟩
 split at m
 rename_i e; subst e
 obtain⟨o,ho,m⟩:=aC m
 cases m
 refine lU (W75 (p0:=d) h oa ob oc ov u ho) ?_
 rintro r h' ⟨a',oa',b',ob',c',oc',v',ov',hk',e1,e2⟩
 exact⟨a',b',c',v',oa',ob',oc',ov',hk',e1,e2⟩
 split at m
 rename_i e; subst e
 obtain⟨o,ho,m⟩:=aC m
 cases m
 refine vO lp (lU (W76 (p0:=d) h oa.k.a ob.k.a oc.k.a ov kp ho) ?_)
 rintro r h' ⟨v',ov',hk',e1,e2⟩
 exact⟨a.a,b.a,c.a,v',oa.k.a,ob.k.a,oc.k.a,ov',hk',e1,e2⟩
 cases m
theorem QZ {f:Nat} {u:Nat} {d:aA} {x:aR} {s:aA×Int} (m:gW u f d x=some s):aN Tryz.prog f=true:=by
 unfold gW at m
 split at m
 rename_i e; subst e; exact aFV
 split at m
 rename_i e; subst e; exact aFF
 split at m
 rename_i e; subst e; exact aFN
 split at m
 rename_i e; subst e; exact aFS
 split at m
 rename_i e; subst e; exact aFC
 cases m
theorem W29 {j:Nat} {p0:aA} {p1:aR} {o:aA×Int} (h:aF) (m:C7 j p0 p1=some o):
 aL Tryz.prog 29 [.agg (aE p0),.agg (aD p1)] h (λr h'=>r= .tup [.agg (aE o.1),nZ o.2]∧h'=h):=by
 refine fQ 44 [.cell 4 30,.tmp 5] Tryz.func29 rfl rfl rfl rfl ?_
 unfold C7 at m
 repeat refine vs ?_
 refine v0 ?_
 refine gO rfl rfl λk2 K3=> ?_
 refine gO rfl rfl λk3 K3=> ?_
 refine ve λu=>bH (iK) u qM rfl rfl λk4 K9=>qk K9 rfl ?_
 repeat refine vs ?_
 refine v0 ?_
 refine ve λu=>B8 u λkm K3=>qk K3 rfl ?_
 refine ve λu=>zK (l:= []) 0 u yC u3 rfl rfl rfl rfl rfl λK3=>qk K3 rfl ?_
 refine ve λu=>zK 0 u yC u3 rfl rfl rfl rfl rfl λK3=>qk K3 rfl ?_
 refine ve λu=>zK 0 u yC u3 rfl rfl rfl rfl rfl λK3=>qk K3 rfl ?_
 refine ve λu=>zK 0 u yC u3 rfl rfl rfl rfl rfl λK3=>qk K3 rfl ?_
 refine ve λu=>zK 0 u yC u3 rfl rfl rfl rfl rfl λK3=>qk K3 rfl ?_
 repeat refine vs ?_
 refine v0 (dN CS rfl rfl (vl 2 _ bZ rfl rfl rfl ?_))
 have hz:(Tryz.prog.info? 117).bind (·.zero)=some (.nilFunc):=by kernel_rfl
 cases hf:kB.find? (λe=>e.1==p1.Kind) with
 | none=>
 rw[hf] at m
 refine vn (λu=>fB (IV (l:=kB) yC hz u3 rfl rfl (bC 0 u rfl)) (bJ.of_eq (y:=.tup [.any,.sc (.bool false)]) (by rw[hf]))) ?_
 repeat refine vs ?_
 refine v0 (v0 ?_)
 repeat refine vs ?_
 refine v0 (bW (fI (iK) CO rfl) ?_)
 refine ve λu=>aK 1 (iK) u rfl rfl rfl rfl lX rfl rfl λK0=>qk K0 rfl ?_
 refine v0 ?_
 cases m
 exact vr λu=>dX.of2 (.inl rfl) (rA (.agg (iK)) eV rfl (bC 1 u rfl) rfl) (fT _ _ (.sc (.int _ _)) rfl) (aS (List.nil_sublist _) u).1 (bJ.agg (.cons (bJ.refl _ _) (.cons (aY _) (.cons (aY _) (.cons (aY _) (.cons (aY _) .nil)))))) (bJ.refl _ _) ⟨rfl,rfl⟩
 | some e=>
 rw[hf] at m
 refine vn (λu=>fB (IV (l:=kB) yC hz u3 rfl rfl (bC 0 u rfl)) (bJ.of_eq (y:=.tup [.fn (.func e.2) [],.sc (.bool true)]) (by rw[hf]))) ?_
 repeat refine vs ?_
 refine v0 (vl 3 (.agg (aE p0)) eV rfl rfl rfl ?_)
 refine vk W31 T2 m rfl rfl λ_ m=> ?_
 refine v0 ?_
 apply vi m <;> intro hc m
 repeat refine vs ?_
 refine v0 (bW (fI (iK) CO rfl) ?_)
 refine ve λu=>aK 1 (iK) u rfl rfl rfl rfl lX rfl rfl λK0=>qk K0 rfl ?_
 refine v0 ?_
 cases m
 exact vr λu=>dX.of2 (.inl rfl) (rA (.agg (iK)) eV rfl (bC 1 u rfl) rfl) (fT _ _ (.sc (.int _ _)) rfl) (aS (List.nil_sublist _) u).1 (bJ.agg (.cons (bJ.refl _ _) (.cons (aY _) (.cons (aY _) (.cons (aY _) (.cons (aY _) .nil)))))) (bJ.refl _ _) ⟨rfl,rfl⟩
 refine v0 ?_
 repeat refine vs ?_
 refine v0 (vl 3 (.agg (aE p0)) eV rfl rfl rfl ?_)
 obtain⟨d,Y0,m⟩:=aC m
 refine ve λu=>cM (aFW _ Y0) rfl aFX rfl ?_
 rintro x h' ⟨gs,oks,gc,okc,ge,oke,gv,okv,K1,rfl,rfl⟩
 have w:=mC (L':= [bM gs d.Snaps,aW gc d.Chunks,bR ge d.Exps,aM gv d.Vols,(some km,.mp (rM kB)),(some k4,.obj 30 (iK)),(some k3,.obj 62 (aD p1)),(some k2,.obj 30 (aE p0))]++((bQ gs d.Snaps)++((a9 gc d.Chunks)++(bS ge d.Exps)))) u K1 [[_], [_], [_], [_],_,_,_] [[_], [_], [_], [_]] rfl rfl [0,1,2,3,7,8,9,10,4,5,6] rfl rfl
 refine qk w.2 w.1 ?_
 refine ve λu=>bH (iK) u qM rfl rfl λk9 K2=>qk K2 rfl ?_
 refine ve λu=>aK 0 ([nZ d.Seq,aZ gs.a,aZ gc.a,aZ ge.a,aZ gv]) u rfl rfl rfl (by repeat (first | exact rfl | refine cG (bY _ _ _) ?_ | refine cG rfl ?_)) lX rfl rfl λK4=>qk K4 rfl ?_
 repeat refine vs ?_
 refine pJ m (σ:=aA×Int) (τ:=cU×cU×cU×cU) (λg s=> [OC k9 s.1.Seq g.1 g.2.1 g.2.2.1 g.2.2.2,bF g.1 s.1.Snaps,aV g.2.1 s.1.Chunks,bX g.2.2.1 s.1.Exps,aM g.2.2.2 s.1.Vols,(some km,.mp (rM kB)),(some k4,.obj 30 (iK)),(some k3,.obj 62 (aD p1)),(some k2,.obj 30 (aE p0))]) (λg s=>bK g.1 4 s.1.Snaps.length∧bK g.2.1 35 s.1.Chunks.length∧bK g.2.2.1 3 s.1.Exps.length∧bK g.2.2.2 4 s.1.Vols.length) (λg s=>.c 4 (.ptr k4 0) (.c 9 (.ptr k9 0) (.c 10 (nZ s.2) .nil))) (λx m=> ?_) ?_
 refine v0 (vl 7 (.agg (aD p1)) oK rfl rfl rfl ?_)
 obtain⟨s,hs,m⟩:=aC m
 refine ve λu=> ?_
 have pq:=mB (A:=NN k9 d gs gc ge gv) (R:= [(some km,.mp (rM kB)),(some k4,.obj 30 (iK)),(some k3,.obj 62 (aD p1)),(some k2,.obj 30 (aE p0))]) u [[_], [_], [_], [_], [_], [_], [_], [_], [_],_,_,_] rfl [0,1,2,3,4,9,10,11] [5,6,7,8] rfl rfl rfl
 refine dC pq.1 (cM (UV _ oks okc oke okv pq.2.2 hs) rfl (QZ hs) rfl ?_)
 rintro r h' ⟨a',b',c',v',oa,ob,oc,ov,hk',rfl,rfl⟩
 have hq2:=mC (L':= [OC k9 s.1.Seq a' b' c' v',bF a' s.1.Snaps,aV b' s.1.Chunks,bX c' s.1.Exps,aM v' s.1.Vols,(some km,.mp (rM kB)),(some k4,.obj 30 (iK)),(some k3,.obj 62 (aD p1)),(some k2,.obj 30 (aE p0))]) pq.2.1 hk' [[_], [_], [_], [_], [_]] [[_], [_], [_], [_]] rfl rfl [0,1,2,3,4,5,6,7,8] rfl rfl
 refine qk hq2.2 hq2.1 ?_
 exact eW m (a',b',c',v') ⟨oa,ob,oc,ov⟩ (lx (.k3 .nil))
 rintro⟨a',b',c',v'⟩ ⟨dd,ee⟩ ⟨oa,ob,oc,ov⟩ m
 repeat refine vs ?_
 refine v0 ?_
 repeat refine vs ?_
 refine v0 (v0 ?_)
 apply vi m <;> intro hc m
 repeat refine vs ?_
 refine v0 (bW (fI (iK) CO rfl) ?_)
 refine ve λu=>aK 6 (iK) u rfl rfl rfl rfl lX rfl rfl λK0=>qk K0 rfl ?_
 refine v0 ?_
 cases m
 exact vr λu=>dX.of2 (.inl rfl) (rA (.agg (iK)) eV rfl (bC 6 u rfl) rfl) (fT _ _ (.sc (.int _ _)) rfl) (aS (List.nil_sublist _) u).1 (bJ.agg (.cons (bJ.refl _ _) (.cons (aY _) (.cons (aY _) (.cons (aY _) (.cons (aY _) .nil)))))) (bJ.refl _ _) ⟨rfl,rfl⟩
 repeat refine vs ?_
 refine v0 (vl 0 (.agg ([nZ dd.Seq,aZ a',aZ b',aZ c',aZ v'])) eV rfl rfl rfl ?_)
 obtain⟨_,Y1,m⟩:=aC m
 refine vn (λu=>cC (fF (.cons (Br.agg (.cons (Br.refl _ _) (.cons (Br.aw 1 eJ oa u rfl) (.cons (Br.aw 2 cR ob u rfl) (.cons (Br.aw 3 fM oc u rfl) (.cons (Br.aw 4 eA ov u rfl) .nil)))))) .nil) rfl (W31 _ Y1)) rfl T2 rfl) (v0 ?_)
 apply vi m <;> intro c0 m
 repeat refine vs ?_
 refine v0 (bW (fI (iK) CO rfl) ?_)
 refine ve λu=>aK 6 (iK) u rfl rfl rfl rfl lX rfl rfl λK0=>qk K0 rfl ?_
 refine v0 ?_
 cases m
 exact vr λu=>dX.of2 (.inl rfl) (rA (.agg (iK)) eV rfl (bC 6 u rfl) rfl) (fT _ _ (.sc (.int _ _)) rfl) (aS (List.nil_sublist _) u).1 (bJ.agg (.cons (bJ.refl _ _) (.cons (aY _) (.cons (aY _) (.cons (aY _) (.cons (aY _) .nil)))))) (bJ.refl _ _) ⟨rfl,rfl⟩
 refine v0 ?_
 repeat refine vs ?_
 refine v0 (vl 0 (.agg ([nZ dd.Seq,aZ a',aZ b',aZ c',aZ v'])) eV rfl rfl rfl ?_)
 refine ve λu=>aK 6 ([nZ dd.Seq,aZ a',aZ b',aZ c',aZ v']) u rfl rfl rfl (by repeat (first | exact rfl | refine cG (bY _ _ _) ?_ | refine cG rfl ?_)) lX rfl rfl λK5=>qk K5 rfl ?_
 refine v0 ?_
 cases m
 refine vrl λu=> ?_
 obtain⟨K6,le0⟩:=i8.fzO (n:=44) (f:=_) 1 5 ([nZ dd.Seq,.sl none 4 (List.map bP dd.Snaps),aZ b',aZ c',aZ v']) u rfl (.cons (Fz.refl _ _ _) (.cons (Fz.aw 1 eJ oa u rfl (.refl _)) (.cons (Fz.refl _ _ _) (.cons (Fz.refl _ _ _) (.cons (Fz.refl _ _ _) .nil)))))
 obtain⟨K7,le1⟩:=i8.fzO (n:=44) (f:=_) 1 4 ([nZ dd.Seq,.sl none 4 (List.map bP dd.Snaps),.sl none 35 (List.map aJ dd.Chunks),aZ c',aZ v']) K6 rfl (.cons (Fz.refl _ _ _) (.cons (Fz.refl _ _ _) (.cons (Fz.aw 1 cR ob K6 rfl (.refl _)) (.cons (Fz.refl _ _ _) (.cons (Fz.refl _ _ _) .nil)))))
 obtain⟨K8,le2⟩:=i8.fzO (n:=44) (f:=_) 1 3 ([nZ dd.Seq,.sl none 4 (List.map bP dd.Snaps),.sl none 35 (List.map aJ dd.Chunks),.sl none 3 (List.map cF dd.Exps),aZ v']) K7 rfl (.cons (Fz.refl _ _ _) (.cons (Fz.refl _ _ _) (.cons (Fz.refl _ _ _) (.cons (Fz.aw 1 fM oc K7 rfl (.refl _)) (.cons (Fz.refl _ _ _) .nil)))))
 obtain⟨K82,le3⟩:=i8.fzO (n:=44) (f:=_) 1 2 ([nZ dd.Seq,.sl none 4 (List.map bP dd.Snaps),.sl none 35 (List.map aJ dd.Chunks),.sl none 3 (List.map cF dd.Exps),.sl none 4 (List.map cI dd.Vols)]) K8 rfl (.cons (Fz.refl _ _ _) (.cons (Fz.refl _ _ _) (.cons (Fz.refl _ _ _) (.cons (Fz.refl _ _ _) (.cons (Fz.aw 1 eA ov K8 rfl (.refl _)) .nil)))))
 exact OT.mk (i8.trans (i8.trans (i8.trans le0 le1) le2) le3) (dX.of2 (.inl rfl) (rA (.agg (aE dd)) eV rfl (bC 2 K82 rfl) rfl) (fT _ _ (.sc (.int _ _)) rfl) (aS (List.nil_sublist _) K82).1 (bJ.refl _ _) (bJ.refl _ _) ⟨rfl,rfl⟩)
theorem aAO:aN Tryz.prog 29=true:=by kernel_rfl
open Go.Vm
theorem lV {α ρ:Type} {l:List α} (f:α→α) {F:Nat} {body:List α×Int→Option (Lp (List α×Int) ρ)} (hF:l.length < F)
    (hb:∀(cur:List α) (i:Nat) (x:α),cur.length=l.length→cur[i]? =some x→x∈l→i < l.length→body (cur,(i:Int))=some (.go (cur.set i (f x),((i+1:Nat):Int))))
    (he:∀cur:List α,cur.length=l.length→body (cur,(l.length:Int))=some (.brk (cur,(l.length:Int)))):
    aT body F (l,0)=some (.brk (l.map f,(l.length:Int))):=by
  have len:∀i,((l.take i).map f++l.drop i).length=l.length:=λi=>by simp; omega
  have:=jX (body:=body) (s0:=(l,(0:Int))) (n:=l.length) (F:=F) (λi:Nat=>((l.take i).map f++l.drop i,(i:Int))) hF (by simp) (λi hi=>by
    have hx:((l.take i).map f++l.drop i)[i]? =some l[i]:=by
      rw[List.getElem?_append_right (by simp; omega)]
      simp[Nat.min_eq_left (Nat.le_of_lt hi)]
    rw[hb _ i l[i] (len i) hx (List.getElem_mem hi) hi]
    congr 4
    rw[List.take_succ_eq_append_getElem hi,List.drop_eq_getElem_cons hi,List.set_append_right _ _ (by simp; omega),List.length_map,List.length_take,Nat.min_eq_left (Nat.le_of_lt hi),Nat.sub_self,List.set_cons_zero,List.map_append]
    simp only[List.map_cons,List.map_nil,List.append_assoc,List.cons_append,List.nil_append]) (he _ (len _))
  simpa using this
theorem BJ {F:Nat} {m:bD} (hF:1000≤F) (hp:m.Parts.length≤10) (hi:∀p∈m.Parts,p.Ids.length≤40):KE F m=some m:=by
 unfold KE IQ
 rw[cB (by simp; omega)]
 simp only[Option.bind_some,List.nil_append]
 rw[lV (l:=m.Parts) id (by omega) (λcur i x hc hx hm hi'=>by
  have:=hi x hm
  unfold tI QX
  rw[f9 (by omega)]
  simp only[bB,hx,Option.bind_some,Int.ofNat_lt,hi',decide_true,if_true]
  rw[cB (by simp; omega)]
  rfl) (λcur hc=>by unfold tI; simp)]
 simp[aG]
theorem aFZ {F:Nat} {c:aA} (hF:1000≤F) (h:Sm c):NM F c=some c:=by
 have hsn:=h.sn
 have hex:=h.ex
 have hvo:=h.vo
 have hch:=h.ch
 unfold NM IR IS IT IU
 rw[cB (by simp; omega),cB (by simp; omega),cB (by simp; omega),cB (by simp; omega)]
 simp only[Option.bind_some,List.nil_append]
 rw[lV (l:=c.Snaps) id (by omega) (λcur i x hc hx hm hi=>by
  have h1:=h.sl x hm
  obtain⟨-,h2,h3⟩:=h.man x hm
  unfold tJ E7
  rw[f9 (by omega)]
  simp only[bB,hx,Option.bind_some,Int.ofNat_lt,hi,decide_true,if_true,BJ hF h2 (λp hp=>(h3 p hp).2)]
  rw[cB (by simp; omega)]
  simp[List.set_set]) (λcur hc=>by unfold tJ; simp)]
 simp only[aG]
 rw[lV (l:=c.Chunks) id (by omega) (λcur i x hc hx hm hi=>by
  have h1:=h.cl x hm
  unfold tK E7 R0
  have e1:app [] x.Data=some x.Data:=by rw[cB (by simp; omega)]; rfl
  rw[f9 (by omega)]
  simp only[bB,hx,Option.bind_some,Int.ofNat_lt,hi,decide_true,if_true,e1]
  rw[cB (by simp; omega)]
  simp[List.set_set]) (λcur hc=>by unfold tK; simp)]
 simp only[aG]
 rw[lV (l:=c.Exps) id (by omega) (λcur i x hc hx hm hi=>by
  have h1:=h.el x hm
  unfold tL E7
  rw[f9 (by omega)]
  simp only[bB,hx,Option.bind_some,Int.ofNat_lt,hi,decide_true,if_true]
  rw[cB (by simp; omega)]
  simp) (λcur hc=>by unfold tL; simp)]
 simp[aG]
theorem aF0 {F:Nat} {l:List aB} {f:aB→Option Bool} (q:aB→Bool) (hF:1000≤F) (hl:l.length≤400) (hf:∀x∈l,f x=some (q x)):FH F l f=some (l.filter λx=> !q x):=by
 have h119:NG F l f=some (n3 l q):=by
  unfold NG
  refine iC q (by omega) (λi x hx hm hi=> ?_) (by unfold tH; simp)
  unfold tH
  rw[f9 (by omega)]
  simp only[bB,hx,hf x hm,Option.bind_some,Int.ofNat_lt,hi,decide_true,if_true]
  split <;> rfl
 unfold FH
 rw[h119]
 simp only[Option.bind_some]
 cases ha:l.any q with
 | false=>
  rw[gP ha]
  simp only[beq_self_eq_true,if_true]
  rw[List.filter_eq_self.2 λx hx=>by simpa using List.any_eq_false.1 ha x hx]
 | true=>
  obtain⟨i,x,h1,h2,h3,h4⟩:=gH ha
  rw[h1]
  have hn:((i:Int)== -1)=false:=by simp
  have hil:=(List.getElem?_eq_some_iff.1 h2).1
  rw[hn,f9 (by omega)]
  simp only[Bool.false_eq_true,if_false]
  obtain⟨cur,w,e1,e2,e3,e4⟩:=tA (l:=l) (q:=q) (F:=F) (body:=λs=>n8 F f s.1 s.2.1 s.2.2) (by omega) h2 h3 h4 (λcur w r x hc hw hr hx hm=>by
   unfold n8
   simp only
   rw[f9 (i:=r) (by omega),f9 (i:=w) (by omega)]
   have hcw:cur[w]? =some cur[w]:=List.getElem?_eq_getElem (by omega)
   simp only[bB,hx,hf x hm,Option.bind_some,hc,Int.ofNat_lt,hr,decide_true,if_true,hcw,Int.toNat_natCast]
   cases q x <;> rfl) (λcur w hc=>by unfold n8; simp[hc])
  rw[e1]
  simp only[aG]
  have g1:(decide ((0:Int)≤(w:Int)) && decide ((w:Int) < (cur.length:Int)))=true:=by simp; omega
  have g2:(decide ((0:Int)≤(w:Int)) && decide ((w:Int)≤(cur.length:Int)))=true:=by simp; omega
  simp only[grd,g1,g2,if_true,Int.toNat_natCast,e4]
theorem aF1 {F:Nat} {l:List aQ} {f:aQ→Option Bool} (q:aQ→Bool) (hF:1000≤F) (hl:l.length≤400) (hf:∀x∈l,f x=some (q x)):FI F l f=some (l.filter λx=> !q x):=by
 have h119:FG F l f=some (n3 l q):=by
  unfold FG
  refine iC q (by omega) (λi x hx hm hi=> ?_) (by unfold p6; simp)
  unfold p6
  rw[f9 (by omega)]
  simp only[bB,hx,hf x hm,Option.bind_some,Int.ofNat_lt,hi,decide_true,if_true]
  split <;> rfl
 unfold FI
 rw[h119]
 simp only[Option.bind_some]
 cases ha:l.any q with
 | false=>
  rw[gP ha]
  simp only[beq_self_eq_true,if_true]
  rw[List.filter_eq_self.2 λx hx=>by simpa using List.any_eq_false.1 ha x hx]
 | true=>
  obtain⟨i,x,h1,h2,h3,h4⟩:=gH ha
  rw[h1]
  have hn:((i:Int)== -1)=false:=by simp
  have hil:=(List.getElem?_eq_some_iff.1 h2).1
  rw[hn,f9 (by omega)]
  simp only[Bool.false_eq_true,if_false]
  obtain⟨cur,w,e1,e2,e3,e4⟩:=tA (l:=l) (q:=q) (F:=F) (body:=λs=>n9 F f s.1 s.2.1 s.2.2) (by omega) h2 h3 h4 (λcur w r x hc hw hr hx hm=>by
   unfold n9
   simp only
   rw[f9 (i:=r) (by omega),f9 (i:=w) (by omega)]
   have hcw:cur[w]? =some cur[w]:=List.getElem?_eq_getElem (by omega)
   simp only[bB,hx,hf x hm,Option.bind_some,hc,Int.ofNat_lt,hr,decide_true,if_true,hcw,Int.toNat_natCast]
   cases q x <;> rfl) (λcur w hc=>by unfold n9; simp[hc])
  rw[e1]
  simp only[aG]
  have g1:(decide ((0:Int)≤(w:Int)) && decide ((w:Int) < (cur.length:Int)))=true:=by simp; omega
  have g2:(decide ((0:Int)≤(w:Int)) && decide ((w:Int)≤(cur.length:Int)))=true:=by simp; omega
  simp only[grd,g1,g2,if_true,Int.toNat_natCast,e4]
def lf (v:Int) (l:List bG):List bG:=l.filter λy=> !(y.Vol==v)
def aAP (v:Int) (s:aH):aH:= { s with Locs:=lf v s.Locs}
def NP (v:Int) (s:aB):aB:= { s with Locs:=lf v s.Locs}
def NQ (v:Int) (s:aQ):aQ:= { s with Locs:=lf v s.Locs}
def FJ (y:aB):Bool:= !y.Staged && ((y.Locs.length:Int)==0)
def ret (c:aA) (v:Int) (x:aP):aA:=
 { Seq:=c.Seq,Snaps:=c.Snaps.map (aAP v),Chunks:=(c.Chunks.map (NP v)).filter λy=> !FJ y,Exps:=(c.Exps.map (NQ v)).filter λy=> !((y.Locs.length:Int)==0),Vols:=c.Vols.set v.toNat { x with State:=3,Files:=0}}
theorem UW {F:Nat} {l:List bG} {d:aR} (hF:1000≤F) (hl:l.length≤300):zD F l d=some (lf d.Vol l):=by
 unfold zD
 rw[m83 (f:=λx0=>QV F x0 d) (λx=>x.Vol==d.Vol) hF hl (λx _=>rfl)]
 rfl
theorem n75 {F:Nat} {c:aA} {d:aR} {x:aP} (hF:1000≤F) (h:Sm c) (h0:0≤d.Vol) (hx:c.Vols[d.Vol.toNat]? =some x):
    VZ F c d=some (if x.State=2 then (0,(ret c d.Vol x).Snaps,(ret c d.Vol x).Chunks,(ret c d.Vol x).Exps,(ret c d.Vol x).Vols) else (1,c.Snaps,c.Chunks,c.Exps,c.Vols)):=by
  have hsn:=h.sn
  have hex:=h.ex
  have hvo:=h.vo
  have hch:=h.ch
  have hlt:=(List.getElem?_eq_some_iff.1 hx).1
  have hx2:(c.Vols.set d.Vol.toNat { x with State:=3})[d.Vol.toNat]? =some { x with State:=3}:=by
    rw[List.getElem?_set_self hlt]
  unfold VZ
  rw[show decide (d.Vol < 0)=false from decide_eq_false (by omega),show decide ((c.Vols.length:Int)≤d.Vol)=false from decide_eq_false (by omega)]
  simp only[Bool.false_eq_true,if_false,nS _ h0,hx,hx2,Option.bind_some,aG]
  by_cases e:x.State=2
  · rw[if_neg (by simp[e]),if_pos e]
    rw[lV (l:=c.Snaps) (aAP d.Vol) (by omega) (λcur i x hc hx hm hi=>by
      unfold zG
      rw[f9 (by omega)]
      simp only[bB,hx,Option.bind_some,Int.ofNat_lt,hi,decide_true,if_true,UW hF (h.sl x hm)]
      rfl) (λcur hc=>by unfold zG; simp)]
    simp only[aG]
    rw[lV (l:=c.Chunks) (NP d.Vol) (by omega) (λcur i x hc hx hm hi=>by
      unfold zH
      rw[f9 (by omega)]
      simp only[bB,hx,Option.bind_some,Int.ofNat_lt,hi,decide_true,if_true,UW hF (h.cl x hm).1]
      rfl) (λcur hc=>by unfold zH; simp)]
    simp only[aG]
    rw[lV (l:=c.Exps) (NQ d.Vol) (by omega) (λcur i x hc hx hm hi=>by
      unfold zJ
      rw[f9 (by omega)]
      simp only[bB,hx,Option.bind_some,Int.ofNat_lt,hi,decide_true,if_true,UW hF (h.el x hm)]
      rfl) (λcur hc=>by unfold zJ; simp)]
    simp only[aG]
    rw[aF0 (f:=λx0=>NJ F x0) FJ hF (by simpa using hch) (λy _=>by
      unfold NJ FJ
      cases y.Staged <;> rfl),aF1 (f:=λx0=>QW F x0) (λy=>(y.Locs.length:Int)==0) hF (by rw[List.length_map]; omega) (λy _=>rfl)]
    simp only[Option.bind_some,List.set_set]
    rfl
  · rw[if_pos (by simpa using e),if_neg e]
def rel (c:aA) (v:Int) (x:aP):aA:= { c with Vols:=c.Vols.set v.toNat { x with State:=1,Epoch:=x.Epoch+1}}
theorem n76 {F:Nat} {c:aA} {d:aR} {x:aP} (h0:0≤d.Vol) (hx:c.Vols[d.Vol.toNat]? =some x) (he:0≤x.Epoch∧x.Epoch≤1048576):
    VW F c d=some (if x.State=3 then (0,(rel c d.Vol x).Vols) else (1,c.Vols)):=by
  have hlt:=(List.getElem?_eq_some_iff.1 hx).1
  have hx2:(c.Vols.set d.Vol.toNat { x with State:=1})[d.Vol.toNat]? =some { x with State:=1}:=by
    rw[List.getElem?_set_self hlt]
  unfold VW
  rw[show decide (d.Vol < 0)=false from decide_eq_false (by omega),show decide ((c.Vols.length:Int)≤d.Vol)=false from decide_eq_false (by omega)]
  simp only[Bool.false_eq_true,if_false,nS _ h0,hx,hx2,Option.bind_some,aG]
  by_cases e:x.State=3
  · rw[if_neg (by simp[e]),if_pos e,wr (by omega) (by omega)]
    simp only[List.set_set]
    rfl
  · rw[if_pos (by simpa using e),if_neg e]
theorem n29 {F:Nat} {c:aA} {d:aR} {k:Nat} {e:aA} {n:Int} (hF:1000≤F) (h:Sm c) (hg:iB c=true) (hk:kB.find? (λe=>e.1==d.Kind)=some (d.Kind,k)) (hd:gW F k c d=some (e,n)) (hs:n=0→Sm e):
    C7 F c d=some (if n=0 then (if iB e=true then (e,0) else (bU,1)) else (bU,n)):=by
  unfold C7
  rw[hk]
  simp only[m33 hF h,hg,if_true,Option.bind_some,aFZ hF h,hd,aG]
  by_cases e0:n=0
  · rw[if_neg (by decide),if_neg (by simp[e0]),m33 hF (hs e0),if_pos e0]
    simp only[Option.bind_some]
    cases iB e <;> rfl
  · rw[if_neg (by decide),if_pos (by simpa using e0),if_neg e0]
open Go.Vm
theorem rN {l:List aB}:uG l↔(∀x∈l,mP x.Id)∧l.Pairwise λy x=>ky y.Id < ky x.Id:=by
 unfold uG
 refine and_congr_right λ_=> ?_
 rw[List.pairwise_iff_getElem]
 constructor
 ·intro h i j hi hj hij
  exact h i j _ _ (List.getElem?_eq_getElem hi) (List.getElem?_eq_getElem hj) hij
 ·intro h i j x y hx hy hij
  obtain⟨hi,rfl⟩:=List.getElem?_eq_some_iff.1 hx
  obtain⟨hj,rfl⟩:=List.getElem?_eq_some_iff.1 hy
  exact h i j hi hj hij
structure At (l:List aB) (d:bO) (p:Nat):Prop where
 le:p≤l.length
 lo:∀x∈l.take p,ky x.Id < ky d
 hi:∀x∈l.drop p,ky d≤ky x.Id
theorem UX {F:Nat} {l:List aB} {d:bO} (hF:1000≤F) (hr:uG l) (hd:mP d) (hl:l.length < 1000):∃p:Nat,At l d p∧wP F l d=some ((p:Int),kJ l d):=by
 obtain⟨p',e'⟩:=YK hF hr hd hl
 obtain⟨p,hp,e,h1,h2⟩:=bis (F:=F) hr hd hl F 0 l.length (by omega) (Nat.le_refl _) (by omega) (λj x _ hj=>by omega) (λj x hx hj=>by have:=(List.getElem?_eq_some_iff.1 hx).1; omega)
 have e2:∃b,wP F l d=some ((p:Int),b):=by
  unfold wP MH
  rw[show ((0:Int),(l.length:Int))=(((0:Nat):Int),(l.length:Int)) from rfl,e]
  simp only[aG]
  by_cases hlt:p < l.length
  ·have hx:l[p]? =some l[p]:=List.getElem?_eq_getElem hlt
   have hmem:=List.getElem_mem hlt
   generalize l[p]=x at hx hmem
   have gx:=hr.1 x hmem
   have e:AJ F x d=some (if ky x.Id < ky d then -1 else if ky d < ky x.Id then 1 else 0):=by unfold AJ; rw[MO F gx hd]; rfl
   simp only[Int.ofNat_lt,hlt,decide_true,if_true,bB,hx,Option.bind_some,e,aG]
   exact⟨_,rfl⟩
  ·have hn:¬((p:Int) < (l.length:Int)):=by omega
   simp only[hn,decide_false,Bool.false_eq_true,if_false,aG,Option.bind_some]
   exact⟨_,rfl⟩
 obtain⟨b,hb⟩:=e2
 refine⟨p,⟨hp,λx hx=> ?_,λx hx=> ?_⟩, ?_⟩
 ·obtain⟨i,hi,rfl⟩:=List.getElem_of_mem hx
  simp only[List.length_take] at hi
  rw[List.getElem_take]
  exact h1 i _ (List.getElem?_eq_getElem (by omega)) (by omega)
 ·obtain⟨i,hi,rfl⟩:=List.getElem_of_mem hx
  simp only[List.length_drop] at hi
  rw[List.getElem_drop]
  exact h2 (p+i) _ (List.getElem?_eq_getElem (by omega)) (by omega)
 ·rw[hb] at e' ⊢
  have:=Option.some.inj e'
  rw[(Prod.mk.inj this).2]
theorem C8 {α:Type} {l:List α} {p:Nat} {x:α} (h:p≤l.length) (hl:l.length < 1000):pF l (p:Int) x=some (l.take p++x::l.drop p):=by
 unfold pF
 rw[if_pos ⟨by omega,by omega,by omega⟩]
 simp
theorem C9 {l:List aB} {p:Nat} {d:bO} (hr:uG l) (ha:At l d p) (hd:mP d) (h:kJ l d=true):∃x,l[p]? =some x∧x.Id=d:=by
 obtain⟨y,hy,e⟩:=List.any_eq_true.1 h
 have e:=of_decide_eq_true e
 have hy2:y∈l.take p++l.drop p:=by rw[List.take_append_drop]; exact hy
 rcases List.mem_append.1 hy2 with h1 | h1
 ·have:=ha.lo y h1
  rw[e] at this; omega
 ·obtain⟨i,hi,e2⟩:=List.getElem_of_mem h1
  simp only[List.length_drop] at hi
  rw[List.getElem_drop] at e2
  have hp:l[p]? =some l[p]:=List.getElem?_eq_getElem (by omega)
  cases i with
  | zero=>exact⟨_,hp,by rw[← e,← e2]; rfl⟩
  | succ i=>
   have h3:=hr.2 p (p+(i+1)) _ _ hp (List.getElem?_eq_getElem (by omega)) (by omega)
   have h4:=ha.hi l[p] (by
    rw[List.drop_eq_getElem_cons (by omega)]
    exact List.mem_cons_self)
   rw[e2,e] at h3
   omega
open Go.Vm
theorem BK {ρ:Type} {body:Int→Option (Lp Int ρ)} {c:Nat→Bool}:∀(G q:Nat),q < G→(∀k:Nat,k≤q→body (k:Int)=some (if decide (0 < k) && c (k - 1) then .go ((k - 1:Nat):Int) else .brk (k:Int)))→
    ∃p:Nat,p≤q∧aT body G (q:Int)=some (.brk (p:Int))∧(∀j,p≤j→j < q→c j=true)∧(0 < p→c (p - 1)=false)
  | 0,_,h,_=>by omega
  | G+1,q,h,hb=>by
    unfold aT
    rw[hb q (Nat.le_refl _)]
    cases e:decide (0 < q) && c (q - 1) with
    | false=>
      refine⟨q,Nat.le_refl _,by simp,λj h1 h2=>by omega,λh0=> ?_⟩
      simpa [h0] using e
    | true=>
      simp only[Bool.and_eq_true,decide_eq_true_eq] at e
      obtain⟨p,h1,h2,h3,h4⟩:=BK (body:=body) (c:=c) G (q - 1) (by omega) λk hk=>hb k (by omega)
      refine⟨p,by omega,by simpa using h2,λj hj1 hj2=> ?_,h4⟩
      by_cases ej:j=q - 1
      · rw[ej]; exact e.2
      · exact h3 j hj1 (by omega)
structure Pt (l:List bG) (x:bG) (p:Nat):Prop where
 le:p≤l.length
 hi:∀y∈l.drop p,kA y x=true
 lo:∀y,0 < p→l[p - 1]? =some y→kA y x=false
theorem aAR {F:Nat} {l:List bG} {x:bG} (hF:1000≤F) (hl:l.length≤400):∃p,Pt l x p∧vX F l x=some (l.take p++x::l.drop p):=by
 obtain⟨p,h1,h2,h3,h4⟩:=BK (body:=λs=>p5 F l x s) (c:=λj=>match l[j]? with | none=>false | some y=>kA y x) F l.length (by omega) (λk hk=>by
  unfold p5
  by_cases h0:0 < k
  ·have hy:l[k - 1]? =some l[k - 1]:=List.getElem?_eq_getElem (by omega)
   generalize l[k - 1]=y at hy
   rw[yH (by omega) h0]
   have hk0:(0:Int) < (k:Int):=by omega
   simp only[bB,hy,hk0,h0,decide_true,Bool.true_and,if_true,Option.bind_some]
   have e:kA y x=(if decide (x.Vol < y.Vol)=true then true else if (y.Vol==x.Vol)=true then (if decide (x.File < y.File)=true then true else if (y.File==x.File)=true then decide (x.Off < y.Off) else false) else false):=by
    rw[Bool.eq_iff_iff,C0]
    by_cases a:x.Vol < y.Vol <;> by_cases b:y.Vol=x.Vol <;> by_cases c:x.File < y.File <;> by_cases d:y.File=x.File <;> simp[a,b,c,d] <;> omega
   rw[e]
   by_cases a:x.Vol < y.Vol <;> by_cases b:y.Vol=x.Vol <;> by_cases c:x.File < y.File <;> by_cases d:y.File=x.File <;> (simp[a,b,c,d,aG] <;> (split <;> rfl))
  ·obtain rfl:k=0:=by omega
   simp[aG])
 refine⟨p,⟨h1,λy hy=> ?_,λy h0 hy=> ?_⟩, ?_⟩
 ·obtain⟨i,hi,rfl⟩:=List.getElem_of_mem hy
  simp only[List.length_drop] at hi
  have:=h3 (p+i) (by omega) (by omega)
  rw[List.getElem?_eq_getElem (show p+i < l.length by omega)] at this
  rw[List.getElem_drop]
  exact this
 ·have:=h4 h0
  simp only[hy] at this
  exact this
 ·unfold vX
  rw[h2]
  simp only[aG]
  rw[C8 h1 (by omega)]
  rfl
open Go.Vm
def KG (c:aA) (y:aB):aB:=if o8 c y.Id then y else { y with Staged:=false,Data:= []}
def vY (y:aB):Bool:=y.Staged || decide (0 < (y.Locs.length:Int))
def KH (c:aA):List aB:=(c.Chunks.filter λy=>vY (KG c y)).map (KG c)
theorem aAS {F:Nat} {c:aA} (hF:1000≤F) (h:Sm c):HH F c=some (KH c):=by
 have hch:=h.ch
 unfold HH
 rw[mQ (l:=c.Chunks) [] (λy=>vY (KG c y)) (KG c) (by omega) (λi x hx hm hi acc ha=>by
  unfold tF
  simp only
  rw[f9 (by omega)]
  simp only[List.length_nil] at ha
  have ea:∀z:aB,app acc [z]=some (acc++ [z]):=λz=>cB (by simp; omega)
  simp only[bB,hx,Option.bind_some,Int.ofNat_lt,hi,decide_true,if_true,m44 hF (c:= { Seq:=c.Seq,Snaps:=c.Snaps,Chunks:=c.Chunks,Exps:=c.Exps,Vols:=c.Vols}) h]
  unfold KG vY
  show _=_
  rw[show o8 { Seq:=c.Seq,Snaps:=c.Snaps,Chunks:=c.Chunks,Exps:=c.Exps,Vols:=c.Vols} x.Id=o8 c x.Id from rfl]
  generalize o8 c x.Id=ub
  obtain⟨id,st,da,lo⟩:=x
  simp only
  cases ub
  ·simp only[Bool.not_false,Bool.false_eq_true,if_true,if_false,aG,Bool.false_or]
   generalize decide (0 < (lo.length:Int))=dl
   cases dl <;> simp[aG,ea]
  ·simp only[Bool.not_true,Bool.false_eq_true,if_true,if_false,aG]
   generalize decide (0 < (lo.length:Int))=dl
   cases dl <;> cases st <;> simp[aG,ea]) (λacc=>by unfold tF; simp)]
 simp[aG,KH]
theorem Q0 {α:Type} {l:List α} {q:α→Bool} {i:Nat} {x:α} (hx:l[i]? =some x) (hq:q x=true) (h1:∀y∈l.take i,q y=false) (h2:∀y∈l.drop (i+1),q y=false):l.take i++l.drop (i+1)=l.filter λy=> !q y:=by
 obtain⟨hi,rfl⟩:=List.getElem?_eq_some_iff.1 hx
 have e:l.filter (λy=> !q y)=(l.take i++l[i]::l.drop (i+1)).filter λy=> !q y:=by
  rw[← List.drop_eq_getElem_cons hi,List.take_append_drop]
 rw[e,List.filter_append,List.filter_cons_of_neg (by simp[hq])]
 rw[List.filter_eq_self.2 λy hy=>by simp[h1 y hy],List.filter_eq_self.2 λy hy=>by simp[h2 y hy]]
def qS (c:aA) (n:Int):aA:= { c with Snaps:=c.Snaps.filter λs=> !(s.Seq==n)}
def wX (c:aA) (n:Int):aA:= { qS c n with Chunks:=KH (qS c n)}
theorem p7 {c:aA} (h:Sm c) (q:aH→Bool):Sm { c with Snaps:=c.Snaps.filter q}:=
 { h with
  g:=⟨h.g.1,λs hs=>h.g.2.1 s (List.mem_filter.1 hs).1,h.g.2.2⟩
  sn:=Nat.le_trans (List.length_filter_le _ _) h.sn
  sl:=λs hs=>h.sl s (List.mem_filter.1 hs).1
  man:=λs hs=>h.man s (List.mem_filter.1 hs).1}
theorem n73 {F:Nat} {c:aA} {d:aR} (hF:1000≤F) (h:Sm c) (hg:Gd c):VX F c d=some (if c.Snaps.any (λs=>s.Seq==d.Seq) then (0,(wX c d.Seq).Snaps,(wX c d.Seq).Chunks) else (8,c.Snaps,c.Chunks)):=by
 have hsn:=h.sn
 have hi:vW F c.Snaps (λx0=>NC F x0 d)=some (n3 c.Snaps λs=>s.Seq==d.Seq):=by
  unfold vW
  refine iC (l:=c.Snaps) (λs:aH=>s.Seq==d.Seq) (by omega) (λi x hx hm hi=> ?_) (by unfold nA; simp)
  unfold nA NC
  rw[f9 (by omega)]
  simp only[bB,hx,Option.bind_some,Int.ofNat_lt,hi,decide_true,if_true]
  split <;> rfl
 unfold VX
 rw[hi]
 simp only[Option.bind_some]
 cases ha:c.Snaps.any (λs=>s.Seq==d.Seq) with
 | false=>
  rw[gP ha]
  rfl
 | true=>
  obtain⟨i,x,h1,h2,h3,h4⟩:=gH ha
  have hil:=(List.getElem?_eq_some_iff.1 h2).1
  rw[h1,f9 (by omega)]
  rw[if_neg (by simp)]
  have ed:KA c.Snaps (i:Int) ((i+1:Nat):Int)=some (c.Snaps.filter λs=> !(s.Seq==d.Seq)):=by
   unfold KA
   rw[if_pos ⟨by omega,by omega,by omega⟩]
   simp only[Int.toNat_natCast]
   rw[Q0 h2 h3 h4 λy hy=>by
    obtain⟨j,hj,rfl⟩:=List.getElem_of_mem hy
    simp only[List.length_drop] at hj
    rw[List.getElem_drop]
    have:=List.pairwise_iff_getElem.1 hg.so i (i+1+j) hil (by omega) (by omega)
    obtain⟨_,e⟩:=List.getElem?_eq_some_iff.1 h2
    rw[e] at this
    have h3:x.Seq=d.Seq:=by simpa using h3
    simp only[beq_eq_false_iff_ne,ne_eq]
    omega]
  rw[ed]
  simp only[Option.bind_some]
  rw[aAS hF (p7 h _)]
  rfl
open Go.Vm
def p8 (m:Nat) (p0:List aB) (q0:List aB) (q1:Int):Option (Lp ((List aB)×Int) ((List aB))):=
 if (decide (q1 < (p0.length:Int)))=true then ((ix p0 q1).bind λx0=>(vK m x0.Data).bind λy0=>(wQ m x0.Locs).bind λy1=>(app q0 ([{ { x0 with Data:=y0} with Locs:=y1}]:List aB)).bind λz0=>some (.go (z0,IntKind.wrap .i64 (q1+1)))) else some (.brk (q0,q1))
def BL (m:Nat) (p0:List aB):Option ((List aB)):=
 after (aT (λs=>p8 m p0 s.1 s.2) m ([],0)) λ⟨r0,r1⟩=>some r0
theorem SL {w:Nat} {p0:List aB} {o:(List aB)} (h:aF) (m:BL w p0=some o):
 aL Tryz.prog 152 [.sl none 35 (List.map aJ p0)] h (λr h'=>∃g:cU,bK g 35 o.length∧bV h [(g.t,.obj 44 (fl aJ o g.sp))]∧r=aZ g∧h'=hp h [(g.t,.obj 44 (fl aJ o g.sp))]):=by
 refine fQ 29 [.tmp 2] Tryz.func152 rfl rfl rfl rfl ?_
 unfold BL at m
 refine vs (v0 (vs (v0 (vs (vs (v0 (qC (FZ (.obj 44 (fl aJ ([]:List aB) g0.sp)) 3 (aZ g0) (fY _)) (nP m (σ:=(List aB)×Int) (τ:=cU) (λg s=> [(cH g s.1)]) (λg s=>bK g 35 (s.1:List aB).length) (λg s=>.c 0 (.sl none 35 (List.map aJ p0)) (.c 3 (aZ g) (.c 4 (nZ s.2) .nil))) g0 (bK.g0 35) (lx (.k3 .nil)) ?_ ?_))))))))
 rintro ag0 ⟨q0,q1⟩ x O0 m
 replace m:p8 w p0 q0 q1=some x:=m
 unfold p8 at m
 refine vs (vs (v0 (dE iX rfl (v0 ?_))))
 apply vi m <;> intro c0 m
 refine v0 (vs (v0 (vs (v0 (vx m fJ rfl rfl λx0 _ m=>va (.agg (aJ x0)) lZ rfl rfl (ve λu=>bH (bL kG++(KT:List AV)) u nR rfl rfl λk115 K0=>qk K0 rfl (ve λu=>aK 0 (aJ x0) u rfl rfl rfl rfl xY rfl rfl λK1=>qk K1 rfl (vs (v0 (vz [(7,some k115,.obj 44 (aJ x0))] mixed (λu=>⟨λ_=>aI 0 u rfl,trivial⟩) λu=>zF 0 rfl jR rfl (zL 1 0 (.sl none 1 (List.map dF x0.Data)) rfl lR rfl rfl rfl ?_)))))))))))
 obtain⟨y0,Y0,m⟩:=aC m
 refine zC 2 rfl (cC (MU _ Y0) rfl E5 rfl) (zF 3 rfl iY rfl (zL 4 0 (.sl none 4 (List.map aO x0.Locs)) rfl eZ rfl rfl rfl ?_))
 obtain⟨y1,Y1,m⟩:=aC m
 refine zC 5 rfl (cC (MT _ Y1) rfl E4 rfl) (zF 6 rfl jR rfl (zE 7 rfl (aK 0 (aJ { x0 with Data:=y0}) u rfl rfl rfl rfl CQ rfl rfl λK2=>⟨⟨λe=>absurd e (by decide),trivial⟩, ?_⟩)))
 refine zF 8 rfl iY rfl (zE 9 rfl (aK 0 (aJ { { x0 with Data:=y0} with Locs:=y1}) K2 rfl rfl rfl rfl nX rfl rfl λK3=>⟨⟨λe=>absurd e (by decide),trivial⟩, ?_⟩))
 refine zX (qk (f:=PW 23 _ _ _ _ _ _ _ _ _) K3 rfl (v0 (vl 0 (.agg (aJ { { x0 with Data:=y0} with Locs:=y1})) lZ rfl rfl rfl (bW (eL (List.map aJ ([{ { x0 with Data:=y0} with Locs:=y1}]:List aB)) lP rfl rfl rfl rfl) ?_))))
 obtain⟨z0,Z0,m⟩:=aC m
 exact ve λu=>gD (c:=aJ) 1 Z0 lP rfl nR rfl cR rfl rfl O0 u rfl λag1 O1 K4=>qk K4 rfl (v0 (eW m ag1 O1 (lJ [1] rfl rfl (.k3 .nil))))
 exact v0 (lK m ag0 O0 (lx (.k3 .nil)))
 rintro ag2 ⟨r0,r1⟩ t0 m
 refine vs (v0 (v0 ?_))
 obtain rfl:=eE m
 exact vr λu=>dX.one (.inl rfl) (aS (h0:=h) (L':= [(cH ag2 r0)]) (.refl _) u).1 (bJ.refl _ _) ⟨ag2,t0,(aS (h0:=h) (L':= [(cH ag2 r0)]) (.refl _) u).2,rfl,rfl⟩
def DA (m:Nat) (p0:aA) (q0:List aH) (q1:Int):Option (Lp ((List aH)×Int) (aA)):=
 if (decide (q1 < (p0.Snaps.length:Int)))=true then ((ix p0.Snaps q1).bind λx0=>(G7 m x0.Man).bind λy0=>(wQ m x0.Locs).bind λy1=>(app q0 ([{ { x0 with Man:=y0} with Locs:=y1}]:List aH)).bind λz0=>some (.go (z0,IntKind.wrap .i64 (q1+1)))) else some (.brk (q0,q1))
def DB (m:Nat) (p0:aA) (q0:List aQ) (q1:Int):Option (Lp ((List aQ)×Int) (aA)):=
 if (decide (q1 < (p0.Exps.length:Int)))=true then ((ix p0.Exps q1).bind λx0=>(wQ m x0.Locs).bind λy0=>(app q0 ([{ x0 with Locs:=y0}]:List aQ)).bind λz0=>some (.go (z0,IntKind.wrap .i64 (q1+1)))) else some (.brk (q0,q1))
def Q1 (m:Nat) (p0:aA):Option (aA):=
 after (aT (λs=>DA m p0 s.1 s.2) m ([],0)) λ⟨r0,r1⟩=>after (aT (λs=>DB m p0 s.1 s.2) m ([],0)) λ⟨r2,r3⟩=>(BL m p0.Chunks).bind λy0=>(app ([]:List aP) p0.Vols).bind λz0=>some ({ Seq:=p0.Seq,Snaps:=r0,Chunks:=y0,Exps:=r2,Vols:=z0}:aA)
theorem aF2 {w:Nat} {p0:aA} {o:aA} (h:aF) (m:Q1 w p0=some o):
 aL Tryz.prog 90 [.agg (aE p0)] h (λr h'=>∃gS:cU,bK gS 4 o.Snaps.length∧∃gC:cU,bK gC 35 o.Chunks.length∧∃gE:cU,bK gE 3 o.Exps.length∧∃gV:cU,bK gV 4 o.Vols.length∧bV h [(dO gS o.Snaps),(cH gC o.Chunks),(fA gE o.Exps),(lE gV o.Vols)]∧r= .agg ([nZ o.Seq,aZ gS,aZ gC,aZ gE,aZ gV])∧h'=hp h [(dO gS o.Snaps),(cH gC o.Chunks),(fA gE o.Exps),(lE gV o.Vols)]):=by
 refine fQ 68 [.cell 2 30] Tryz.func90 rfl rfl rfl rfl ?_
 unfold Q1 at m
 refine vs (v0 (gO rfl rfl λk2 K3=>ve λu=>bH (iK) u qM rfl rfl λk5 K6=>qk K6 rfl (vs (v0 (vs (vs (v0 (qC (FZ (.obj 60 (fl bP ([]:List aH) g0.sp)) 3 (aZ g0) (fY _)) (nP m (σ:=(List aH)×Int) (τ:=cU) (λg s=> [(dO g s.1),(some k5,.obj 30 (iK)),(some k2,.obj 30 (aE p0))]) (λg s=>bK g 4 (s.1:List aH).length) (λg s=>.c 1 (.ptr k2 0) (.c 2 (.ptr k5 0) (.c 3 (aZ g) (.c 4 (nZ s.2) .nil)))) g0 (bK.g0 4) (lx (.k4 .nil)) ?_ ?_)))))))))
 rintro ag0 ⟨q0,q1⟩ x O0 m
 replace m:DA w p0 q0 q1=some x:=m
 unfold DA at m
 refine vs (vs (v0 (dN dV rfl rfl (vl 2 _ fC rfl rfl rfl (dE jQ rfl (v0 ?_))))))
 apply vi m <;> intro c0 m
 refine v0 (vs (v0 (vs (v0 (dN dV rfl rfl (vl 2 _ fC rfl rfl rfl (vx m iJ rfl rfl λx0 _ m=>va (.agg (bP x0)) rG rfl rfl (ve λu=>bH (V2) u uZ rfl rfl λk121 K0=>qk K0 rfl (ve λu=>aK 0 (bP x0) u rfl rfl rfl rfl JZ rfl rfl λK1=>qk K1 rfl (vs (v0 (vz [(7,some k121,.obj 60 (bP x0))] mixed (λu=>⟨λ_=>aI 0 u rfl,trivial⟩) λu=>zF 0 rfl oJ rfl (zL 1 0 (.agg (aX x0.Man)) rfl m6 rfl rfl rfl ?_)))))))))))))
 obtain⟨y0,Y0,m⟩:=aC m
 refine zC 2 rfl (cC (YM _ Y0) rfl SC rfl) (zF 3 rfl jS rfl (zL 4 0 (.sl none 4 (List.map aO x0.Locs)) rfl eZ rfl rfl rfl ?_))
 obtain⟨y1,Y1,m⟩:=aC m
 refine zC 5 rfl (cC (MT _ Y1) rfl E4 rfl) (zF 6 rfl oJ rfl (zE 7 rfl (aK 0 (bP { x0 with Man:=y0}) u rfl rfl rfl rfl AE rfl rfl λK2=>⟨⟨λe=>absurd e (by decide),trivial⟩, ?_⟩)))
 refine zF 8 rfl jS rfl (zE 9 rfl (aK 0 (bP { { x0 with Man:=y0} with Locs:=y1}) K2 rfl rfl rfl rfl nX rfl rfl λK4=>⟨⟨λe=>absurd e (by decide),trivial⟩, ?_⟩))
 refine zX (qk (f:=PW 29 _ _ _ _ _ _ _ _ _) K4 rfl (v0 (vl 0 (.agg (bP { { x0 with Man:=y0} with Locs:=y1})) rG rfl rfl rfl (bW (eL (List.map bP ([{ { x0 with Man:=y0} with Locs:=y1}]:List aH)) wM rfl rfl rfl rfl) ?_))))
 obtain⟨z0,Z0,m⟩:=aC m
 exact ve λu=>gD (c:=bP) 1 Z0 wM rfl uZ rfl eJ rfl rfl O0 u rfl λag1 O1 K5=>qk K5 rfl (v0 (eW m ag1 O1 (lJ [1,2,3] rfl rfl (.k4 .nil))))
 exact v0 (lK m ag0 O0 (lx (.k4 .nil)))
 rintro ag2 ⟨r0,r1⟩ t0 m
 refine vs (v0 (vs (vs (v0 (qC (FZ (.obj 99 (fl cF ([]:List aQ) g0.sp)) 6 (aZ g0) (fY _)) (nP m (σ:=(List aQ)×Int) (τ:=cU) (λg s=> [(fA g s.1),(dO ag2 r0),(some k5,.obj 30 (iK)),(some k2,.obj 30 (aE p0))]) (λg s=>bK g 3 (s.1:List aQ).length) (λg s=>.c 1 (.ptr k2 0) (.c 2 (.ptr k5 0) (.c 3 (aZ ag2) (.c 6 (aZ g) (.c 7 (nZ s.2) .nil))))) g0 (bK.g0 3) (lx (.k5 .nil)) ?_ ?_))))))
 rintro ag3 ⟨q2,q3⟩ x O2 m
 replace m:DB w p0 q2 q3=some x:=m
 unfold DB at m
 refine vs (vs (v0 (dN eR rfl rfl (vl 3 _ iF rfl rfl rfl (dE nW rfl (v0 ?_))))))
 apply vi m <;> intro c1 m
 refine v0 (vs (v0 (vs (v0 (dN eR rfl rfl (vl 3 _ iF rfl rfl rfl (vx m iE rfl rfl λx1 _ m=>va (.agg (cF x1)) rH rfl rfl (ve λu=>bH ([nZ 0,nZ 0,sZ]) u oL rfl rfl λk235 K7=>qk K7 rfl (ve λu=>aK 0 (cF x1) u rfl rfl rfl rfl yB rfl rfl λK8=>qk K8 rfl (vs (v0 (dN lD rfl rfl (vl 0 _ eZ rfl rfl rfl (vk MT E4 m rfl rfl λy2 m=>dN lD rfl rfl (ve λu=>aK 0 (cF { x1 with Locs:=y2}) u rfl rfl rfl rfl nX rfl rfl λK9=>qk K9 rfl (v0 (vl 0 (.agg (cF { x1 with Locs:=y2})) rH rfl rfl rfl (bW (eL (List.map cF ([{ x1 with Locs:=y2}]:List aQ)) pA rfl rfl rfl rfl) ?_))))))))))))))))))
 obtain⟨z1,Z1,m⟩:=aC m
 exact ve λu=>gD (c:=cF) 1 Z1 pA rfl oL rfl fM rfl rfl O2 u rfl λag4 O3 K10=>qk K10 rfl (v0 (eW m ag4 O3 (lJ [1,2,3,4] rfl rfl (.k5 .nil))))
 exact v0 (lK m ag3 O2 (lx (.k5 .nil)))
 rintro ag5 ⟨r2,r3⟩ t1 m
 refine vs (v0 (vs (v0 (vz [(10,some k2,.obj 30 (aE p0))] mixed (λu=>⟨λ_=>aI 3 u rfl,trivial⟩) λu=>zC 0 rfl (eS (aw _ _ _) rfl) (zF 1 rfl dY rfl (zL 2 0 (.sl none 35 (List.map aJ p0.Chunks)) rfl eU rfl rfl rfl (zC 4 rfl (eS (aw _ _ _) rfl) (zC 5 rfl (eS (.sc (.slice _ _ _)) rfl) (zF 6 rfl fP rfl (zL 7 0 (.sl none 4 (List.map cI p0.Vols)) rfl iP rfl rfl rfl (zF 9 rfl dV rfl ?_)))))))))))
 obtain⟨_,Y2,m⟩:=aC m
 refine zE 3 rfl (cM (SL _ Y2) rfl MV rfl ?_)
 rintro x h' ⟨ag6,O4,K11,rfl,rfl⟩
 rw[iV]
 refine⟨⟨λ_=>aI 4 (bV.co u K11) rfl,trivial⟩, ?_⟩
 obtain⟨z2,Z2,m⟩:=aC m
 refine zE 8 rfl (CA (c:=cI) Z2 GU rfl ER rfl eA rfl (bV.co u K11) rfl λag7 O5 K12=>⟨⟨λ_=>aI 5 K12 rfl,trivial⟩, ?_⟩)
 refine zE 10 rfl (aK 5 ([nZ p0.Seq,aZ ag2,.sl none 35 (List.map aJ p0.Chunks),.sl none 3 (List.map cF p0.Exps),.sl none 4 (List.map cI p0.Vols)]) K12 rfl rfl (cD rfl) (cG (bY _ _ _) rfl) GT rfl rfl λK13=>⟨⟨λe=>absurd e (by decide),trivial⟩, ?_⟩)
 refine zF 11 rfl dY rfl (zE 12 rfl (aK 5 ([nZ p0.Seq,aZ ag2,aZ ag6,.sl none 3 (List.map cF p0.Exps),.sl none 4 (List.map cI p0.Vols)]) K13 rfl rfl (cD rfl) (cG (bY _ _ _) rfl) AD rfl rfl λK14=>⟨⟨λe=>absurd e (by decide),trivial⟩, ?_⟩))
 refine zF 13 rfl eR rfl (zE 14 rfl (aK 5 ([nZ p0.Seq,aZ ag2,aZ ag6,aZ ag5,.sl none 4 (List.map cI p0.Vols)]) K14 rfl rfl (cD rfl) (cG (bY _ _ _) rfl) JU rfl rfl λK15=>⟨⟨λe=>absurd e (by decide),trivial⟩, ?_⟩))
 refine zF 15 rfl fP rfl (zE 16 rfl (aK 5 ([nZ p0.Seq,aZ ag2,aZ ag6,aZ ag5,aZ ag7]) K15 rfl rfl (cD rfl) (cG (bY _ _ _) rfl) P1 rfl rfl λK16=>⟨⟨λe=>absurd e (by decide),trivial⟩, ?_⟩))
 refine zX (qk (f:=.c 66 _ (.c 65 _ (.c 64 _ (.c 62 _ (.c 57 _ (.c 63 _ (PU 61 _ _ _ _ (.c 56 _ (.c 55 _ (.c 54 _ _)))))))))) K16 rfl (vs (v0 (vl 5 (.agg ([nZ p0.Seq,aZ ag2,aZ ag6,aZ ag5,aZ ag7])) eV rfl rfl rfl (ve λu=>aK 4 ([nZ p0.Seq,aZ ag2,aZ ag6,aZ ag5,aZ ag7]) u rfl rfl rfl (by repeat (first | exact rfl | refine cG (iO _ _ _) ?_ | refine cG (bY _ _ _) ?_ | refine cG (gG _ _ _ _) ?_ | refine cG rfl ?_)) lX rfl rfl λK17=>qk K17 rfl ?_)))))
 refine v0 ?_
 cases m
 exact vr λu=>dX.of1 (.inl rfl) (rA (.agg ([nZ p0.Seq,aZ ag2,aZ ag6,aZ ag5,aZ ag7])) eV rfl (bC 4 u rfl) rfl) (bI u [3,1,2,0] rfl).2 (bJ.refl _ _) ⟨ag2,t0,ag6,O4,ag5,t1,ag7,O5,(bI u [3,1,2,0] rfl).1,rfl,rfl⟩
def Q2 (m:Nat) (p0:bG) (p1:bG):Option (Bool):=
 if (p0.Vol !=p1.Vol)=true then (some (decide (p0.Vol < p1.Vol))) else if (p0.File !=p1.File)=true then (some (decide (p0.File < p1.File))) else if (p0.Off !=p1.Off)=true then (some (decide (p0.Off < p1.Off))) else some (decide (p0.Len < p1.Len))
theorem aF3 {u:Nat} {p0:bG} {p1:bG} {o:Bool} (h:aF) (m:Q2 u p0 p1=some o):
 aL Tryz.prog 191 [.agg (aO p0),.agg (aO p1)] h (λr h'=>r= .sc (.bool o)∧h'=h):=by
 refine fQ 40 [.tmp 4] Tryz.func191 rfl rfl rfl rfl ?_
 unfold Q2 at m
 refine v (gO rfl rfl λk2 K3=>gO rfl rfl λk5 K6=>v (vl 1 _ bZ rfl rfl rfl (vl 0 _ bZ rfl rfl rfl (v ?_))))
 apply vi m <;> intro c0 m
 refine v (vl 1 _ bZ rfl rfl rfl (vl 0 _ bZ rfl rfl rfl (v ?_)))
 cases m
 exact dU rfl
 refine v (v (vl 1 _ bZ rfl rfl rfl (vl 0 _ bZ rfl rfl rfl (v ?_))))
 apply vi m <;> intro c1 m
 refine v (vl 1 _ bZ rfl rfl rfl (vl 0 _ bZ rfl rfl rfl (v ?_)))
 cases m
 exact dU rfl
 refine v (v (vl 1 _ bZ rfl rfl rfl (vl 0 _ bZ rfl rfl rfl (v ?_))))
 apply vi m <;> intro c2 m
 refine v (vl 1 _ bZ rfl rfl rfl (vl 0 _ bZ rfl rfl rfl (v ?_)))
 cases m
 exact dU rfl
 refine v (v (vl 1 _ bZ rfl rfl rfl (vl 0 _ bZ rfl rfl rfl (v ?_))))
 cases m
 exact dU rfl
theorem aAT:aN Tryz.prog 191=true:=by kernel_rfl
def tM (m:Nat) (p0:List bG) (p1:bG) (q0:Int):Option (Lp (Int) ((List bG))):=
 after (if (decide (q0 < (p0.length:Int)))=true then ((ix p0 q0).bind λx0=>(Q2 m x0 p1).bind λy0=>some (.brk y0)) else some (.brk false):Option (Lp (Bool) (Lp (Int) ((List bG))))) λj0=>if j0=true then (some (.go (IntKind.wrap .i64 (q0+1)))) else some (.brk q0)
def HJ (m:Nat) (p0:List bG) (p1:bG):Option ((List bG)):=
 after (aT (λs=>tM m p0 p1 s) m 0) λr0=>(slc p0 0 r0).bind λx0=>(app ([]:List bG) x0).bind λz0=>(app z0 ([p1]:List bG)).bind λz1=>(slc p0 r0 (p0).length).bind λx1=>(app z1 x1).bind λz2=>some z2
theorem UY {w:Nat} {p0:List bG} {p1:bG} {o:(List bG)} (h:aF) (m:HJ w p0 p1=some o):
 aL Tryz.prog 185 [.sl none 4 (List.map aO p0),.agg (aO p1)] h (λr h'=>r= .sl none 4 (List.map aO o)∧h'=h):=by
 refine fQ 34 [.tmp 4] Tryz.func185 rfl rfl rfl rfl ?_
 unfold HJ at m
 refine v (gO rfl rfl λk2 K3=>v (vs (jN m (σ:=Int) (λs=> [(some k2,.obj 81 (aO p1))]) (λs=>.c 0 (.sl none 4 (List.map aO p0)) (.c 3 (.ptr k2 0) (.c 5 (nZ s) .nil))) (lx (.k3 .nil)) ?_ ?_)))
 rintro _ q0 x m
 replace m:tM w p0 p1 q0=some x:=m
 unfold tM at m
 refine vs (vs (fL m (σ:=Bool) (λs=> [(some k2,.obj 81 (aO p1))]) (λs=>.c 0 (.sl none 4 (List.map aO p0)) (.c 3 (.ptr k2 0) (.c 5 (nZ q0) (.c 18 (.sc (.bool s)) .nil)))) (λx m=> ?_) ?_))
 refine v (vq (by kernel_rfl) (dE i9 rfl ?_))
 apply vi m <;> intro b0 m
 rw[b0]
 exact vx m jU rfl rfl λx0 _ m=>va (.agg (aO x0)) m8 rfl rfl (vl 0 (.agg (aO p1)) m8 rfl rfl rfl (vk aF3 aAT m rfl rfl λ_ m=>f8 m))
 rw[b0]
 exact f8 m
 rintro _ j0 m
 refine v ?_
 apply vi m <;> intro c0 m
 exact v (v (v (gK m)))
 exact v (z9 m)
 rintro _ r0 m
 refine v (v (vz [(1000000,some k2,.obj 81 (aO p1))] mixed (λu=>⟨λ_=>aI 0 u rfl,trivial⟩) λu=>zC 0 rfl (eS (.sc (.slice _ _ _)) rfl) (zC 1 rfl (eS (.sl _ _ _) rfl) (zI 2 rfl rfl ?_))))
 obtain⟨_,X0,m⟩:=aC m
 refine zC 3 rfl (pN X0 jU rfl rfl rfl rfl) (zL 5 0 (.agg (aO p1)) rfl m8 rfl rfl rfl (zC 6 rfl (eL (List.map aO ([p1]:List bG)) pC rfl rfl rfl rfl) ?_))
 obtain⟨z0,Z0,m⟩:=aC m
 refine zE 4 rfl (oF (c:=aO) Z0 pC rfl rfl u nofun rfl λtg0 t0 K0=>⟨⟨λ_=>aI 1 K0 rfl,trivial⟩, ?_⟩)
 obtain⟨z1,Z1,m⟩:=aC m
 refine zE 7 rfl (fE (c:=aO) 0 Z1 pC rfl rfl rfl t0 K0 rfl λtg1 t1 K1=>⟨⟨λ_=>aI 1 K1 rfl,trivial⟩, ?_⟩)
 refine zC 8 rfl (iI (ow _ _ _) rfl) (zX (qk (f:=.c 6 _ (.c 28 _ (.c 25 _ (.c 27 _ (.c 26 _ (PU 24 _ _ _ _ _)))))) K1 rfl (v ?_)))
 obtain⟨_,X1,m⟩:=aC m
 refine bW (pN X1 jU rfl rfl rfl rfl) ?_
 obtain⟨z2,Z2,m⟩:=aC m
 refine ve λu=>fE (c:=aO) 0 Z2 pC rfl rfl rfl t1 u rfl λtg2 t2 K2=>qk K2 rfl (v ?_)
 obtain rfl:=eE m
 exact vr λu=>dX.of1 (.inl rfl) (fT _ _ (ow _ _ _) rfl) (aS (List.nil_sublist _) u).1 ((eY _ 0 t2 u rfl)) ⟨rfl,rfl⟩
theorem NR:aN Tryz.prog 185=true:=by kernel_rfl
def tN (m:Nat) (p0:List bG) (p1:Int) (q0:List bG) (q1:Int):Option (Lp ((List bG)×Int) ((List bG))):=
 if (decide (q1 < (p0.length:Int)))=true then ((ix p0 q1).bind λx0=>after (if (x0.Vol !=p1)=true then ((ix p0 q1).bind λx1=>(app q0 ([x1]:List bG)).bind λz0=>some (.brk z0)) else some (.brk q0):Option (Lp ((List bG)) (Lp ((List bG)×Int) ((List bG))))) λj0=>some (.go (j0,IntKind.wrap .i64 (q1+1)))) else some (.brk (q0,q1))
def HK (m:Nat) (p0:List bG) (p1:Int):Option ((List bG)):=
 after (aT (λs=>tN m p0 p1 s.1 s.2) m ([],0)) λ⟨r0,r1⟩=>some r0
theorem UZ {w:Nat} {p0:List bG} {p1:Int} {o:(List bG)} (h:aF) (m:HK w p0 p1=some o):
 aL Tryz.prog 157 [.sl none 4 (List.map aO p0),nZ p1] h (λr h'=>r= .sl none 4 (List.map aO o)∧h'=h):=by
 refine fQ 28 [.tmp 4] Tryz.func157 rfl rfl rfl rfl ?_
 unfold HK at m
 refine v (v (v (qC (FZ (.tok 81 4 (([]:List bG).length*4)) 5 (ow none 4 (List.map aO [])) (jF _ _)) (nP m (σ:=(List bG)×Int) (τ:=Option cE) (λg s=> [(g,.tok 81 4 ((s.1:List bG).length*4))]) (λg s=>(g=none→s.1= [])) (λg s=>.c 0 (.sl none 4 (List.map aO p0)) (.c 1 (nZ p1) (.c 5 (ow g 4 (List.map aO s.1)) (.c 6 (nZ s.2) .nil)))) none (λ_=>rfl) (lx (.k4 .nil)) ?_ ?_))))
 rintro tg0 ⟨q0,q1⟩ x t0 m
 replace m:tN w p0 p1 q0 q1=some x:=m
 unfold tN at m
 refine v (dE i9 rfl (v ?_))
 apply vi m <;> intro c0 m
 refine v (v (v (vx m jU rfl rfl λ_ _ m=>pJ m (σ:=(List bG)) (τ:=Option cE) (λg s=> [(g,.tok 81 4 ((s:List bG).length*4))]) (λg s=>(g=none→s= [])) (λg s=>.c 0 (.sl none 4 (List.map aO p0)) (.c 1 (nZ p1) (.c 5 (ow g 4 (List.map aO s)) (.c 6 (nZ q1) .nil)))) (λx m=> ?_) ?_)))
 refine v ?_
 apply vi m <;> intro c1 m
 refine v (vx m jU rfl rfl λx0 _ m=>va (.agg (aO x0)) m8 rfl rfl (bW (eL (List.map aO ([x0]:List bG)) pC rfl rfl rfl rfl) ?_))
 obtain⟨z0,Z0,m⟩:=aC m
 exact ve λu=>fE (c:=aO) 0 Z0 pC rfl rfl rfl t0 u rfl λtg1 t1 K0=>qk K0 rfl (eW m tg1 t1 (lx (.k4 .nil)))
 exact v (eW m tg0 t0 (lx (.k4 .nil)))
 rintro tg2 j0 t2 m
 exact v (eW m tg2 t2 (lx (.k4 .nil)))
 exact v (lK m tg0 t0 (lx (.k4 .nil)))
 rintro tg3 ⟨r0,r1⟩ t3 m
 refine v (v ?_)
 obtain rfl:=eE m
 exact vr λu=>dX.of1 (.inl rfl) (fT _ _ (ow _ _ _) rfl) (aS (List.nil_sublist _) u).1 ((eY _ 0 t3 u rfl)) ⟨rfl,rfl⟩
theorem NS:aN Tryz.prog 157=true:=by kernel_rfl
def M92 (m:Nat) (p0:aR):Option (aR):=
 (G7 m p0.Snap.Man).bind λy0=>(wQ m p0.Snap.Locs).bind λy1=>(J5 m ({ { p0 with Snap:= { p0.Snap with Man:=y0}} with Snap:= { { p0 with Snap:= { p0.Snap with Man:=y0}}.Snap with Locs:=y1}}.Chunks)).bind λy2=>(app ([]:List aU) ({ { p0 with Snap:= { p0.Snap with Man:=y0}} with Snap:= { { p0 with Snap:= { p0.Snap with Man:=y0}}.Snap with Locs:=y1}}.Items)).bind λz0=>some ({ Kind:= { { { p0 with Snap:= { p0.Snap with Man:=y0}} with Snap:= { { p0 with Snap:= { p0.Snap with Man:=y0}}.Snap with Locs:=y1}} with Chunks:=y2}.Kind,Snap:=({ Seq:=({ { { p0 with Snap:= { p0.Snap with Man:=y0}} with Snap:= { { p0 with Snap:= { p0.Snap with Man:=y0}}.Snap with Locs:=y1}} with Chunks:=y2}.Snap).Seq,Man:=({ Name:=(({ { { p0 with Snap:= { p0.Snap with Man:=y0}} with Snap:= { { p0 with Snap:= { p0.Snap with Man:=y0}}.Snap with Locs:=y1}} with Chunks:=y2}.Snap).Man).Name,Parts:=(({ { { p0 with Snap:= { p0.Snap with Man:=y0}} with Snap:= { { p0 with Snap:= { p0.Snap with Man:=y0}}.Snap with Locs:=y1}} with Chunks:=y2}.Snap).Man).Parts}:bD),Locs:=({ { { p0 with Snap:= { p0.Snap with Man:=y0}} with Snap:= { { p0 with Snap:= { p0.Snap with Man:=y0}}.Snap with Locs:=y1}} with Chunks:=y2}.Snap).Locs}:aH),Chunks:= { { { p0 with Snap:= { p0.Snap with Man:=y0}} with Snap:= { { p0 with Snap:= { p0.Snap with Man:=y0}}.Snap with Locs:=y1}} with Chunks:=y2}.Chunks,Seq:= { { { p0 with Snap:= { p0.Snap with Man:=y0}} with Snap:= { { p0 with Snap:= { p0.Snap with Man:=y0}}.Snap with Locs:=y1}} with Chunks:=y2}.Seq,Vol:= { { { p0 with Snap:= { p0.Snap with Man:=y0}} with Snap:= { { p0 with Snap:= { p0.Snap with Man:=y0}}.Snap with Locs:=y1}} with Chunks:=y2}.Vol,Items:=z0}:aR)
theorem W92 {w:Nat} {p0:aR} {o:aR} (h:aF) (m:M92 w p0=some o):
 aL Tryz.prog 92 [.agg (aD p0)] h (λr h'=>r= .agg (aD o)∧h'=h):=by
 refine fQ 26 [.cell 2 62] Tryz.func92 rfl rfl rfl rfl ?_
 unfold M92 at m
 refine v (gO rfl rfl λk2 K3=>ve λu=>bH (xE) u L2 rfl rfl λk5 K6=>qk K6 rfl (v (vz [(10,some k2,.obj 62 (aD p0))] mixed (λu=>⟨λ_=>aI 1 u rfl,trivial⟩) λu=>zF 0 rfl lC rfl (zF 1 rfl oJ rfl (zL 2 0 (.agg (aX p0.Snap.Man)) rfl m6 rfl rfl rfl ?_)))))
 obtain⟨y0,Y0,m⟩:=aC m
 refine zC 3 rfl (cC (YM _ Y0) rfl SC rfl) (zF 4 rfl lC rfl (zF 5 rfl jS rfl (zL 6 0 (.sl none 4 (List.map aO p0.Snap.Locs)) rfl eZ rfl rfl rfl ?_)))
 obtain⟨y1,Y1,m⟩:=aC m
 refine zC 7 rfl (cC (MT _ Y1) rfl E4 rfl) (zF 8 rfl lC rfl (zF 9 rfl oJ rfl (zE 10 rfl (aK 1 (aD { p0 with Snap:= { p0.Snap with Man:=y0}}) u rfl rfl rfl rfl AE rfl rfl λK0=>⟨⟨λe=>absurd e (by decide),trivial⟩, ?_⟩))))
 refine zF 11 rfl lC rfl (zF 12 rfl jS rfl (zE 13 rfl (aK 1 (aD { { p0 with Snap:= { p0.Snap with Man:=y0}} with Snap:= { { p0 with Snap:= { p0.Snap with Man:=y0}}.Snap with Locs:=y1}}) K0 rfl rfl rfl rfl nX rfl rfl λK1=>⟨⟨λe=>absurd e (by decide),trivial⟩, ?_⟩)))
 refine zX (qk (f:=JR 15 _ _ _ _ _ _ _ _ _ _ _ _ _) K1 rfl (v (v (vz [(8,some k2,.obj 62 (aD { { p0 with Snap:= { p0.Snap with Man:=y0}} with Snap:= { { p0 with Snap:= { p0.Snap with Man:=y0}}.Snap with Locs:=y1}}))] mixed (λu=>⟨λ_=>aI 1 u rfl,trivial⟩) λu=>zF 0 rfl m7 rfl (zL 1 0 (.sl none 35 (List.map aJ ({ { p0 with Snap:= { p0.Snap with Man:=y0}} with Snap:= { { p0 with Snap:= { p0.Snap with Man:=y0}}.Snap with Locs:=y1}}.Chunks))) rfl eU rfl rfl rfl ?_)))))
 obtain⟨y2,Y2,m⟩:=aC m
 refine zC 2 rfl (cC (aEQ _ Y2) rfl MV rfl) (zC 3 rfl (eS (.sc (.slice _ _ _)) rfl) (zF 4 rfl gU rfl (zL 5 0 (.sl none 37 (List.map a8 ({ { p0 with Snap:= { p0.Snap with Man:=y0}} with Snap:= { { p0 with Snap:= { p0.Snap with Man:=y0}}.Snap with Locs:=y1}}.Items))) rfl kZ rfl rfl rfl (zF 7 rfl m7 rfl ?_))))
 obtain⟨z0,Z0,m⟩:=aC m
 refine zE 6 rfl (oF (c:=a8) Z0 P2 rfl rfl u nofun rfl λtg0 t0 K2=>⟨⟨λ_=>aI 2 K2 rfl,trivial⟩, ?_⟩)
 refine zE 8 rfl (aK 2 (aD { { { p0 with Snap:= { p0.Snap with Man:=y0}} with Snap:= { { p0 with Snap:= { p0.Snap with Man:=y0}}.Snap with Locs:=y1}} with Chunks:=y2}) K2 rfl rfl rfl rfl AD rfl rfl λK4=>⟨⟨λe=>absurd e (by decide),trivial⟩, ?_⟩)
 refine zF 9 rfl gU rfl (zE 10 rfl (aK 2 ([nZ ({ { { p0 with Snap:= { p0.Snap with Man:=y0}} with Snap:= { { p0 with Snap:= { p0.Snap with Man:=y0}}.Snap with Locs:=y1}} with Chunks:=y2}.Kind),nZ (({ { { p0 with Snap:= { p0.Snap with Man:=y0}} with Snap:= { { p0 with Snap:= { p0.Snap with Man:=y0}}.Snap with Locs:=y1}} with Chunks:=y2}.Snap).Seq),.sc (.string ((({ { { p0 with Snap:= { p0.Snap with Man:=y0}} with Snap:= { { p0 with Snap:= { p0.Snap with Man:=y0}}.Snap with Locs:=y1}} with Chunks:=y2}.Snap).Man).Name)),.sl none 3 (List.map bT ((({ { { p0 with Snap:= { p0.Snap with Man:=y0}} with Snap:= { { p0 with Snap:= { p0.Snap with Man:=y0}}.Snap with Locs:=y1}} with Chunks:=y2}.Snap).Man).Parts)),.sl none 4 (List.map aO (({ { { p0 with Snap:= { p0.Snap with Man:=y0}} with Snap:= { { p0 with Snap:= { p0.Snap with Man:=y0}}.Snap with Locs:=y1}} with Chunks:=y2}.Snap).Locs)),.sl none 35 (List.map aJ ({ { { p0 with Snap:= { p0.Snap with Man:=y0}} with Snap:= { { p0 with Snap:= { p0.Snap with Man:=y0}}.Snap with Locs:=y1}} with Chunks:=y2}.Chunks)),nZ ({ { { p0 with Snap:= { p0.Snap with Man:=y0}} with Snap:= { { p0 with Snap:= { p0.Snap with Man:=y0}}.Snap with Locs:=y1}} with Chunks:=y2}.Seq),nZ ({ { { p0 with Snap:= { p0.Snap with Man:=y0}} with Snap:= { { p0 with Snap:= { p0.Snap with Man:=y0}}.Snap with Locs:=y1}} with Chunks:=y2}.Vol),ow tg0 37 (List.map a8 z0)]) K4 rfl rfl (jG rfl) (pM _ _ _) aC7 rfl rfl λK5=>⟨⟨λe=>absurd e (by decide),trivial⟩, ?_⟩))
 refine zX (qk (f:=.c 24 _ (.c 22 _ (.c 23 _ (fq6 21 _ _ _ _ _ _ _)))) K5 rfl (v (vl 2 (.agg ([nZ ({ { { p0 with Snap:= { p0.Snap with Man:=y0}} with Snap:= { { p0 with Snap:= { p0.Snap with Man:=y0}}.Snap with Locs:=y1}} with Chunks:=y2}.Kind),nZ (({ { { p0 with Snap:= { p0.Snap with Man:=y0}} with Snap:= { { p0 with Snap:= { p0.Snap with Man:=y0}}.Snap with Locs:=y1}} with Chunks:=y2}.Snap).Seq),.sc (.string ((({ { { p0 with Snap:= { p0.Snap with Man:=y0}} with Snap:= { { p0 with Snap:= { p0.Snap with Man:=y0}}.Snap with Locs:=y1}} with Chunks:=y2}.Snap).Man).Name)),.sl none 3 (List.map bT ((({ { { p0 with Snap:= { p0.Snap with Man:=y0}} with Snap:= { { p0 with Snap:= { p0.Snap with Man:=y0}}.Snap with Locs:=y1}} with Chunks:=y2}.Snap).Man).Parts)),.sl none 4 (List.map aO (({ { { p0 with Snap:= { p0.Snap with Man:=y0}} with Snap:= { { p0 with Snap:= { p0.Snap with Man:=y0}}.Snap with Locs:=y1}} with Chunks:=y2}.Snap).Locs)),.sl none 35 (List.map aJ ({ { { p0 with Snap:= { p0.Snap with Man:=y0}} with Snap:= { { p0 with Snap:= { p0.Snap with Man:=y0}}.Snap with Locs:=y1}} with Chunks:=y2}.Chunks)),nZ ({ { { p0 with Snap:= { p0.Snap with Man:=y0}} with Snap:= { { p0 with Snap:= { p0.Snap with Man:=y0}}.Snap with Locs:=y1}} with Chunks:=y2}.Seq),nZ ({ { { p0 with Snap:= { p0.Snap with Man:=y0}} with Snap:= { { p0 with Snap:= { p0.Snap with Man:=y0}}.Snap with Locs:=y1}} with Chunks:=y2}.Vol),ow tg0 37 (List.map a8 z0)])) oK rfl rfl rfl ?_)))
 refine ve λu=>aK 1 ([nZ ({ { { p0 with Snap:= { p0.Snap with Man:=y0}} with Snap:= { { p0 with Snap:= { p0.Snap with Man:=y0}}.Snap with Locs:=y1}} with Chunks:=y2}.Kind),nZ (({ { { p0 with Snap:= { p0.Snap with Man:=y0}} with Snap:= { { p0 with Snap:= { p0.Snap with Man:=y0}}.Snap with Locs:=y1}} with Chunks:=y2}.Snap).Seq),.sc (.string ((({ { { p0 with Snap:= { p0.Snap with Man:=y0}} with Snap:= { { p0 with Snap:= { p0.Snap with Man:=y0}}.Snap with Locs:=y1}} with Chunks:=y2}.Snap).Man).Name)),.sl none 3 (List.map bT ((({ { { p0 with Snap:= { p0.Snap with Man:=y0}} with Snap:= { { p0 with Snap:= { p0.Snap with Man:=y0}}.Snap with Locs:=y1}} with Chunks:=y2}.Snap).Man).Parts)),.sl none 4 (List.map aO (({ { { p0 with Snap:= { p0.Snap with Man:=y0}} with Snap:= { { p0 with Snap:= { p0.Snap with Man:=y0}}.Snap with Locs:=y1}} with Chunks:=y2}.Snap).Locs)),.sl none 35 (List.map aJ ({ { { p0 with Snap:= { p0.Snap with Man:=y0}} with Snap:= { { p0 with Snap:= { p0.Snap with Man:=y0}}.Snap with Locs:=y1}} with Chunks:=y2}.Chunks)),nZ ({ { { p0 with Snap:= { p0.Snap with Man:=y0}} with Snap:= { { p0 with Snap:= { p0.Snap with Man:=y0}}.Snap with Locs:=y1}} with Chunks:=y2}.Seq),nZ ({ { { p0 with Snap:= { p0.Snap with Man:=y0}} with Snap:= { { p0 with Snap:= { p0.Snap with Man:=y0}}.Snap with Locs:=y1}} with Chunks:=y2}.Vol),ow tg0 37 (List.map a8 z0)]) u rfl rfl rfl (by repeat (first | exact rfl | refine cG (iO _ _ _) ?_ | refine cG (bY _ _ _) ?_ | refine cG (gG _ _ _ _) ?_ | refine cG rfl ?_)) wO rfl rfl λK7=>qk K7 rfl ?_
 refine v ?_
 cases m
 exact vr λu=>dX.of1 (.inl rfl) (rA (.agg ([nZ ({ { { p0 with Snap:= { p0.Snap with Man:=y0}} with Snap:= { { p0 with Snap:= { p0.Snap with Man:=y0}}.Snap with Locs:=y1}} with Chunks:=y2}.Kind),nZ (({ { { p0 with Snap:= { p0.Snap with Man:=y0}} with Snap:= { { p0 with Snap:= { p0.Snap with Man:=y0}}.Snap with Locs:=y1}} with Chunks:=y2}.Snap).Seq),.sc (.string ((({ { { p0 with Snap:= { p0.Snap with Man:=y0}} with Snap:= { { p0 with Snap:= { p0.Snap with Man:=y0}}.Snap with Locs:=y1}} with Chunks:=y2}.Snap).Man).Name)),.sl none 3 (List.map bT ((({ { { p0 with Snap:= { p0.Snap with Man:=y0}} with Snap:= { { p0 with Snap:= { p0.Snap with Man:=y0}}.Snap with Locs:=y1}} with Chunks:=y2}.Snap).Man).Parts)),.sl none 4 (List.map aO (({ { { p0 with Snap:= { p0.Snap with Man:=y0}} with Snap:= { { p0 with Snap:= { p0.Snap with Man:=y0}}.Snap with Locs:=y1}} with Chunks:=y2}.Snap).Locs)),.sl none 35 (List.map aJ ({ { { p0 with Snap:= { p0.Snap with Man:=y0}} with Snap:= { { p0 with Snap:= { p0.Snap with Man:=y0}}.Snap with Locs:=y1}} with Chunks:=y2}.Chunks)),nZ ({ { { p0 with Snap:= { p0.Snap with Man:=y0}} with Snap:= { { p0 with Snap:= { p0.Snap with Man:=y0}}.Snap with Locs:=y1}} with Chunks:=y2}.Seq),nZ ({ { { p0 with Snap:= { p0.Snap with Man:=y0}} with Snap:= { { p0 with Snap:= { p0.Snap with Man:=y0}}.Snap with Locs:=y1}} with Chunks:=y2}.Vol),ow tg0 37 (List.map a8 z0)])) oK rfl (bC 1 u rfl) rfl) (aS (List.nil_sublist _) u).1 (bJ.agg (.k8 (.cons ((eY _ 0 t0 u rfl)) .nil))) ⟨rfl,rfl⟩
theorem aF4:aN Tryz.prog 92=true:=by kernel_rfl
def AN (m:Nat) (p0:aA) (p1:Int) (p2:Int) (p3:Int):Option (Bool):=
 after (if (decide (0≤p1))=true then (if (decide (p1 < (p0.Vols.length:Int)))=true then ((ix p0.Vols p1).bind λx0=>if (x0.State==p2)=true then (some (.brk true)) else (ix p0.Vols p1).bind λx1=>some (.brk (x1.State==p3))) else some (.brk false)) else some (.brk false):Option (Lp (Bool) (Bool))) λj0=>some j0
theorem U0 {w:Nat} {p0:aA} {p1:Int} {p2:Int} {p3:Int} {o:Bool} (h:aF) {p0K:cE} {gS:cU} (ok_Snaps:bK gS 4 p0.Snaps.length) {gC:cU} (oC:bK gC 35 p0.Chunks.length) {gE:cU} (oE:bK gE 3 p0.Exps.length) {gV:cU} (oV:bK gV 4 p0.Vols.length) (K0:bV h (hC p0K p0 gS gC gE gV)) (m:AN w p0 p1 p2 p3=some o):
 aL Tryz.prog 155 [.ptr p0K 0,nZ p1,nZ p2,nZ p3] (hp h (hC p0K p0 gS gC gE gV)) (λr h'=>bV h (hC p0K p0 gS gC gE gV)∧r= .sc (.bool o)∧h'=hp h (hC p0K p0 gS gC gE gV)):=by
 refine uE K0 44 [.tmp 8] Tryz.func155 rfl rfl rfl rfl ?_
 unfold AN at m
 refine vs (v0 (vs (fL m (σ:=Bool) (λs=>(hC p0K p0 gS gC gE gV)) (λs=>.c 8 (.sc (.bool s)) .nil) (λx m=> ?_) ?_)))
 refine v0 ?_
 apply vi m <;> intro b0 m
 rw[b0]
 refine jM rfl (dN fP rfl rfl (vl 0 (aZ gV) iP rfl rfl rfl (bW (dQ rE oV rfl) ?_)))
 apply vi m <;> intro b1 m
 rw[b1]
 refine jM rfl (dN fP rfl rfl (vl 0 (aZ gV) iP rfl rfl rfl ?_))
 obtain⟨x0,X0,m⟩:=aC m
 refine bW (cP X0 lQ oV rfl rfl) (bW (cV (bK.ne oV X0) m5 rfl rfl) (vn (λu=>dW (fo:=2) (nZ x0.State) X0 eA oV bZ rfl (aI 4 u rfl) (λ_=>rfl)) ?_))
 apply vi m <;> intro b2 m
 rw[b2]
 exact iZ m
 rw[b2]
 refine jM rfl (dN fP rfl rfl (vl 0 (aZ gV) iP rfl rfl rfl ?_))
 obtain⟨x1,X1,m⟩:=aC m
 exact bW (cP X1 lQ oV rfl rfl) (bW (cV (bK.ne oV X1) m5 rfl rfl) (vn (λu=>dW (fo:=2) (nZ x1.State) X1 eA oV bZ rfl (aI 4 u rfl) (λ_=>rfl)) (iZ m)))
 rw[b1]
 exact iZ m
 rw[b0]
 exact iZ m
 rintro _ j0 m
 refine v0 ?_
 obtain rfl:=eE m
 exact vr λu=>dX.of1 (.inl rfl) (fT _ _ (.sc (.bool _)) rfl) (bI u [0,1,2,3,4] rfl).2 (bJ.refl _ _) ⟨(bI u [0,1,2,3,4] rfl).1,rfl,rfl⟩
theorem NT:aN Tryz.prog 155=true:=by kernel_rfl
def p9 (m:Nat) (p0:List aB) (p1:aB) (q0:Int):Option (Lp (Int) ((List aB))):=
 after (if (decide (q0 < (p0.length:Int)))=true then ((ix p0 q0).bind λx0=>(MI m x0.Id p1.Id).bind λy0=>some (.brk y0)) else some (.brk false):Option (Lp (Bool) (Lp (Int) ((List aB))))) λj0=>if j0=true then (some (.go (IntKind.wrap .i64 (q0+1)))) else some (.brk q0)
def FK (m:Nat) (p0:List aB) (p1:aB):Option ((List aB)):=
 after (aT (λs=>p9 m p0 p1 s) m 0) λr0=>after (if (decide (r0 < (p0.length:Int)))=true then ((ix p0 r0).bind λx0=>some (.brk (decide (x0.Id=p1.Id)))) else some (.brk false):Option (Lp (Bool) ((List aB)))) λj0=>if j0=true then ((BL m p0).bind λy0=>(vK m p1.Data).bind λy1=>(ix y0 r0).bind λx1=>(ix (y0.set r0.toNat ({ x1 with Staged:=true})) r0).bind λx2=>some ((y0.set r0.toNat ({ x1 with Staged:=true})).set r0.toNat ({ x2 with Data:=y1}))) else (slc p0 0 r0).bind λx3=>(app ([]:List aB) x3).bind λz0=>(app z0 ([p1]:List aB)).bind λz1=>(slc p0 r0 (p0).length).bind λx4=>(app z1 x4).bind λz2=>some z2
theorem aAV {w:Nat} {p0:List aB} {p1:aB} {o:(List aB)} (h:aF) (m:FK w p0 p1=some o):
 aL Tryz.prog 153 [.sl none 35 (List.map aJ p0),.agg (aJ p1)] h (λr h'=>∃g:cU,bK g 35 o.length∧bV h [(g.t,.obj 44 (fl aJ o g.sp))]∧r=aZ g∧h'=hp h [(g.t,.obj 44 (fl aJ o g.sp))]):=by
 refine fQ 65 [.tmp 4] Tryz.func153 rfl rfl rfl rfl ?_
 unfold FK at m
 refine vs (v0 (gO rfl rfl λk2 K3=>vs (v0 (vs (jN m (σ:=Int) (λs=> [(some k2,.obj 44 (aJ p1))]) (λs=>.c 0 (.sl none 35 (List.map aJ p0)) (.c 3 (.ptr k2 0) (.c 5 (nZ s) .nil))) (lx (.k3 .nil)) ?_ ?_)))))
 rintro _ q0 x m
 replace m:p9 w p0 p1 q0=some x:=m
 unfold p9 at m
 refine vs (vs (fL m (σ:=Bool) (λs=> [(some k2,.obj 44 (aJ p1))]) (λs=>.c 0 (.sl none 35 (List.map aJ p0)) (.c 3 (.ptr k2 0) (.c 5 (nZ q0) (.c 21 (.sc (.bool s)) .nil)))) (λx m=> ?_) ?_))
 refine v0 (wU (by kernel_rfl) (dE iX rfl ?_))
 apply vi m <;> intro b0 m
 rw[b0]
 exact vx m fJ rfl rfl λx0 _ m=>bW (o9 oH rfl rfl) (va (.agg (bL x0.Id)) fR rfl rfl (dN oH rfl rfl (vl 0 (.agg (bL p1.Id)) fR rfl rfl rfl (vk XN R6 m rfl rfl λ_ m=>f8 m))))
 rw[b0]
 exact f8 m
 rintro _ j0 m
 refine v0 ?_
 apply vi m <;> intro c0 m
 exact v0 (v0 (v0 (gK m)))
 exact v0 (z9 m)
 rintro _ r0 m
 refine vs (vs (fL m (σ:=Bool) (λs=> [(some k2,.obj 44 (aJ p1))]) (λs=>.c 0 (.sl none 35 (List.map aJ p0)) (.c 3 (.ptr k2 0) (.c 5 (nZ r0) (.c 37 (.sc (.bool s)) .nil)))) (λx m=> ?_) ?_))
 refine v0 (wU (by kernel_rfl) (dE iX rfl ?_))
 apply vi m <;> intro b1 m
 rw[b1]
 exact vx m fJ rfl rfl λx1 _ m=>bW (o9 oH rfl rfl) (va (.agg (bL x1.Id)) fR rfl rfl (dN oH rfl rfl (vl 0 (.agg (bL p1.Id)) fR rfl rfl rfl (bW (vS CP P3 u5 D0 rfl rfl) (f8 m)))))
 rw[b1]
 exact f8 m
 rintro _ j1 m
 refine v0 ?_
 apply vi m <;> intro c1 m
 refine vs (v0 ?_)
 obtain⟨y0,Y0,m⟩:=aC m
 refine ve λu=>cM (SL _ Y0) rfl MV rfl ?_
 rintro x h' ⟨ag0,O0,K0,rfl,rfl⟩
 refine qk (bV.co u K0) (iV _ _ _) (vs (v0 (dN jR rfl rfl (vl 1 _ lR rfl rfl rfl (vk MU E5 m rfl rfl λy1 m=> ?_)))))
 obtain⟨x2,X0,m⟩:=aC m
 refine bW (cP X0 fJ O0 rfl rfl) (bW (cV (bK.ne O0 X0) oI rfl rfl) (ve λu=>cK (fo:=32) ({ x2 with Staged:=true}:aB) 0 u X0 cR O0 rfl rfl rfl rfl (cX.refl _ _) VQ rfl rfl λK1=>qk K1 rfl ?_))
 obtain⟨x3,X1,m⟩:=aC m
 refine bW (cP X1 fJ (bK.set O0) rfl rfl) (bW (cV (bK.ne (bK.set O0) X1) jR rfl rfl) (ve λu=>cK (fo:=33) ({ x3 with Data:=y1}:aB) 0 u X1 cR (bK.set O0) rfl rfl rfl rfl (cX.refl _ _) CQ rfl rfl λK2=>qk K2 rfl (vs (v0 (v0 ?_)))))
 cases m
 exact vr λu=>dX.one (.inl rfl) (aS (h0:=h) (L':= [(cH ag0 ((y0.set r0.toNat ({ x2 with Staged:=true})).set r0.toNat ({ x3 with Data:=y1})))]) (.cons_cons _ (.cons _ (.refl _))) u).1 (bJ.refl _ _) ⟨ag0,(bK.set (bK.set O0)),(aS (h0:=h) (L':= [(cH ag0 ((y0.set r0.toNat ({ x2 with Staged:=true})).set r0.toNat ({ x3 with Data:=y1})))]) (.cons_cons _ (.cons _ (.refl _))) u).2,rfl,rfl⟩
 refine v0 (vs (v0 (vs (v0 (vz [(1000000,some k2,.obj 44 (aJ p1))] mixed (λu=>⟨λ_=>aI 0 u rfl,trivial⟩) λu=>zC 0 rfl (eS (.sc (.slice _ _ _)) rfl) (zC 1 rfl (eS (.sl _ _ _) rfl) (zI 2 rfl rfl ?_)))))))
 obtain⟨_,X2,m⟩:=aC m
 refine zC 3 rfl (pN X2 fJ rfl rfl rfl rfl) (zL 5 0 (.agg (aJ p1)) rfl lZ rfl rfl rfl (zC 6 rfl (eL (List.map aJ ([p1]:List aB)) lP rfl rfl rfl rfl) ?_))
 obtain⟨z0,Z0,m⟩:=aC m
 refine zE 4 rfl (CA (c:=aJ) Z0 lP rfl nR rfl cR rfl u rfl λag1 O1 K4=>⟨⟨λ_=>aI 1 K4 rfl,trivial⟩, ?_⟩)
 obtain⟨z1,Z1,m⟩:=aC m
 refine zE 7 rfl (gD (c:=aJ) 0 Z1 lP rfl nR rfl cR rfl rfl O1 K4 rfl λag2 O2 K5=>⟨⟨λ_=>aI 1 K5 rfl,trivial⟩, ?_⟩)
 refine zC 8 rfl (iI (aw _ _ _) rfl) (zX (qk (f:=.c 7 _ (.c 59 _ (.c 56 _ (.c 58 _ (.c 57 _ (PU 55 _ _ _ _ _)))))) K5 rfl (vs (v0 ?_))))
 obtain⟨_,X3,m⟩:=aC m
 refine bW (pN X3 fJ rfl rfl rfl rfl) ?_
 obtain⟨z2,Z2,m⟩:=aC m
 refine ve λu=>gD (c:=aJ) 0 Z2 lP rfl nR rfl cR rfl rfl O2 u rfl λag3 O3 K6=>qk K6 rfl (v0 ?_)
 obtain rfl:=eE m
 exact vr λu=>dX.one (.inl rfl) (aS (h0:=h) (L':= [(cH ag3 z2)]) (.cons_cons _ (.cons _ (.refl _))) u).1 (bJ.refl _ _) ⟨ag3,O3,(aS (h0:=h) (L':= [(cH ag3 z2)]) (.cons_cons _ (.cons _ (.refl _))) u).2,rfl,rfl⟩
theorem aAW:aN Tryz.prog 153=true:=by kernel_rfl
open Go.Vm
theorem aF5 {F:Nat} {c:aA} (hF:1000≤F) (h:Sm c):Q1 F c=some c:=by
 rw[← m14 (F:=F) hF h]
 rfl
theorem wru {n:Nat} (h:n < 1000000000):IntKind.wrap .u64 (n:Int)=n:=by
 have e:IntKind.wrap .u64 (n:Int)=(n:Int) % 18446744073709551616:=rfl
 rw[e]; omega
theorem Q3 (p:Int):0≤IntKind.wrap .u64 p:=by
 have e:IntKind.wrap .u64 p=p % 18446744073709551616:=rfl
 rw[e]; omega
theorem aAX (p:Int) {n:Nat} (h0:0 < n) (hn:n < 1000000000):∃j:Nat,j < n∧IntKind.wrap .i64 ((IntKind.wrap .u64 p).tmod (n:Int))=(j:Int):=by
 have h1:=Q3 p
 generalize IntKind.wrap .u64 p=a at h1
 rw[Int.tmod_eq_emod_of_nonneg h1]
 have h2:0≤a % (n:Int):=Int.emod_nonneg _ (by omega)
 have h3:a % (n:Int) < n:=Int.emod_lt_of_pos _ (by omega)
 refine⟨(a % (n:Int)).toNat,by omega, ?_⟩
 rw[wr (by omega) (by omega)]
 omega
open Go.Vm
def tO (m:Nat) (p0:aA) (p1:Int) (q0:List aH) (q1:Int):Option (Lp ((List aH)×Int) (Bool×(List aH)×(List aB))):=
 if (decide (q1 < (p0.Snaps.length:Int)))=true then ((ix p0.Snaps q1).bind λx0=>after (if (x0.Seq !=p1)=true then ((ix p0.Snaps q1).bind λx1=>(app q0 ([x1]:List aH)).bind λz0=>some (.brk z0)) else some (.brk q0):Option (Lp ((List aH)) (Lp ((List aH)×Int) (Bool×(List aH)×(List aB))))) λj0=>some (.go (j0,IntKind.wrap .i64 (q1+1)))) else some (.brk (q0,q1))
def tP (m:Nat) (p0:aA) (r0:List aH) (q0:List aB) (q1:Int):Option (Lp ((List aB)×Int) (Bool×(List aH)×(List aB))):=
 if (decide (q1 < (p0.Chunks.length:Int)))=true then (after ((ix p0.Chunks q1).bind λx0=>(YW m ({ Seq:=p0.Seq,Snaps:=r0,Chunks:=p0.Chunks,Exps:=p0.Exps,Vols:=p0.Vols}:aA) x0.Id).bind λy0=>after (if (!y0)=true then (if ((({ { x0 with Staged:=false} with Data:=([]:List Int)}.Locs).length:Int)==0)=true then (some (.ret (.brk q0))) else some (.brk { { x0 with Staged:=false} with Data:=([]:List Int)})) else some (.brk x0):Option (Lp (aB) (Lp ((List aB)) (Lp ((List aB)×Int) (Bool×(List aH)×(List aB)))))) λj0=>(app q0 ([j0]:List aB)).bind λz0=>some (.brk z0):Option (Lp ((List aB)) (Lp ((List aB)×Int) (Bool×(List aH)×(List aB))))) λj1=>some (.go (j1,IntKind.wrap .i64 (q1+1)))) else some (.brk (q0,q1))
def DC (m:Nat) (p0:aA) (p1:Int):Option (Bool×(List aH)×(List aB)):=
 after (aT (λs=>tO m p0 p1 s.1 s.2) m ([],0)) λ⟨r0,r1⟩=>if ((r0.length:Int)==(p0.Snaps.length:Int))=true then (some (false,p0.Snaps,p0.Chunks)) else after (aT (λs=>tP m p0 r0 s.1 s.2) m ([],0)) λ⟨r2,r3⟩=>some (true,r0,r2)
theorem aAY {w:Nat} {p0:aA} {p1:Int} {o:Bool×(List aH)×(List aB)} (h:aF) {p0K:cE} {gS:cU} (ok_Snaps:bK gS 4 p0.Snaps.length) {gC:cU} (oC:bK gC 35 p0.Chunks.length) {gE:cU} (oE:bK gE 3 p0.Exps.length) {gV:cU} (oV:bK gV 4 p0.Vols.length) (K0:bV h (hC p0K p0 gS gC gE gV)) (m:DC w p0 p1=some o):
 aL Tryz.prog 154 [.ptr p0K 0,nZ p1] (hp h (hC p0K p0 gS gC gE gV)) (λr h'=>∃g_Snaps':cU,bK g_Snaps' 4 (o.2.1:List aH).length∧∃g_Chunks':cU,bK g_Chunks' 35 (o.2.2:List aB).length∧bV h (hL p0K p0.Seq g_Snaps' g_Chunks' gE gV o.2.1 o.2.2 p0.Exps p0.Vols)∧r= .sc (.bool o.1)∧h'=hp h (hL p0K p0.Seq g_Snaps' g_Chunks' gE gV o.2.1 o.2.2 p0.Exps p0.Vols)):=by
 refine uE K0 88 [.tmp 4] Tryz.func154 rfl rfl rfl rfl ?_
 unfold DC at m
 refine vs (v0 (vs (v0 (vs (vs (v0 (qC (FZ (.obj 60 (fl bP ([]:List aH) g0.sp)) 5 (aZ g0) (fY _)) (nP m (σ:=(List aH)×Int) (τ:=cU) (λg s=>((dO g s.1)::(hC p0K p0 gS gC gE gV))) (λg s=>bK g 4 (s.1:List aH).length) (λg s=>.c 0 (.ptr p0K 0) (.c 1 (nZ p1) (.c 5 (aZ g) (.c 6 (nZ s.2) .nil)))) g0 (bK.g0 4) (lx (.k4 .nil)) ?_ ?_))))))))
 rintro ag0 ⟨q0,q1⟩ x O0 m
 replace m:tO w p0 p1 q0 q1=some x:=m
 unfold tO at m
 refine vs (vs (v0 (jM rfl (dN dV rfl rfl (vl 1 (aZ gS) fC rfl rfl rfl (bW (dQ jQ ok_Snaps rfl) (v0 ?_)))))))
 apply vi m <;> intro c0 m
 refine v0 (vs (v0 (vs (v0 (jM rfl (dN dV rfl rfl (vl 1 (aZ gS) fC rfl rfl rfl ?_)))))))
 obtain⟨x0,X0,m⟩:=aC m
 refine bW (cP X0 iJ ok_Snaps rfl rfl) (bW (cV (bK.ne ok_Snaps X0) uY rfl rfl) (vn (λu=>dW (fo:=0) (nZ x0.Seq) X0 eJ ok_Snaps bZ rfl (aI 2 u rfl) (λ_=>rfl)) (pJ m (σ:=(List aH)) (τ:=cU) (λg s=>((dO g s)::(hC p0K p0 gS gC gE gV))) (λg s=>bK g 4 (s:List aH).length) (λg s=>.c 0 (.ptr p0K 0) (.c 1 (nZ p1) (.c 5 (aZ g) (.c 6 (nZ q1) .nil)))) (λx m=> ?_) ?_)))
 refine v0 ?_
 apply vi m <;> intro c1 m
 refine v0 (jM rfl (dN dV rfl rfl (vl 1 (aZ gS) fC rfl rfl rfl ?_)))
 obtain⟨x1,X1,m⟩:=aC m
 refine bW (cP X1 iJ ok_Snaps rfl rfl) (vn (λu=>dW (fo:=0) (.agg (bP x1)) X1 eJ ok_Snaps rG rfl (aI 2 u rfl) (λ_=>rfl)) (bW (eL (List.map bP ([x1]:List aH)) wM rfl rfl rfl rfl) ?_))
 obtain⟨z0,Z0,m⟩:=aC m
 exact ve λu=>gD (c:=bP) 0 Z0 wM rfl uZ rfl eJ rfl rfl O0 u rfl λag1 O1 K1=>qk K1 rfl (eW m ag1 O1 (lx (.k4 .nil)))
 exact v0 (eW m ag0 O0 (lx (.k4 .nil)))
 rintro ag2 j0 O2 m
 exact v0 (eW m ag2 O2 (lx (.k4 .nil)))
 exact v0 (lK m ag0 O0 (lx (.k4 .nil)))
 rintro ag3 ⟨r0,r1⟩ t0 m
 refine vs (vs (v0 (bW (dQ jQ t0 rfl) (jM rfl (dN dV rfl rfl (vl 1 (aZ gS) fC rfl rfl rfl (bW (dQ jQ ok_Snaps rfl) (v0 ?_))))))))
 apply vi m <;> intro c2 m
 refine vs (v0 (v0 ?_))
 cases m
 exact vr λu=>dX.of1 (.inl rfl) (fT _ _ (.sc (.bool _)) rfl) (bI u [1,2,3,4,5] rfl).2 (bJ.refl _ _) ⟨gS,ok_Snaps,gC,oC,(bI u [1,2,3,4,5] rfl).1,rfl,rfl⟩
 refine v0 (vs (v0 (jM rfl (dN dV rfl rfl (ve λu=>aK 1 ([nZ p0.Seq,aZ ag3,aZ gC,aZ gE,aZ gV]) u rfl rfl (cD rfl) (cG (bY _ _ _) rfl) GT rfl rfl λK2=>qk K2 rfl (vs (v0 (vs (vs (v0 (qC (FZ (.obj 44 (fl aJ ([]:List aB) g0.sp)) 7 (aZ g0) (fY _)) (nP m (σ:=(List aB)×Int) (τ:=cU) (λg s=> [(cH g s.1),(dO ag3 r0),(hO p0K p0.Seq ag3 gC gE gV),(dO gS p0.Snaps),(cH gC p0.Chunks),(fA gE p0.Exps),(lE gV p0.Vols)]) (λg s=>bK g 35 (s.1:List aB).length) (λg s=>.c 0 (.ptr p0K 0) (.c 7 (aZ g) (.c 8 (nZ s.2) .nil))) g0 (bK.g0 35) (lx (.k3 .nil)) ?_ ?_))))))))))))
 rintro ag4 ⟨q2,q3⟩ x O3 m
 replace m:tP w p0 r0 q2 q3=some x:=m
 unfold tP at m
 refine vs (vs (v0 (jM rfl (dN dY rfl rfl (vl 2 (aZ gC) eU rfl rfl rfl (bW (dQ iX oC rfl) (v0 ?_)))))))
 apply vi m <;> intro c3 m
 refine v0 (vs (pJ m (σ:=(List aB)) (τ:=cU) (λg s=> [(cH g s),(dO ag3 r0),(hO p0K p0.Seq ag3 gC gE gV),(dO gS p0.Snaps),(cH gC p0.Chunks),(fA gE p0.Exps),(lE gV p0.Vols)]) (λg s=>bK g 35 (s:List aB).length) (λg s=>.c 0 (.ptr p0K 0) (.c 7 (aZ g) (.c 8 (nZ q3) .nil))) (λx m=> ?_) ?_))
 refine v0 (vs (v0 (jM rfl (dN dY rfl rfl (vl 2 (aZ gC) eU rfl rfl rfl ?_)))))
 obtain⟨x2,X2,m⟩:=aC m
 refine bW (cP X2 fJ oC rfl rfl) (vn (λu=>dW (fo:=0) (.agg (aJ x2)) X2 cR oC lZ rfl (aI 4 u rfl) (λ_=>rfl)) (ve λu=>bH (bL kG++(KT:List AV)) u nR rfl rfl λk465 K3=>qk K3 rfl (ve λu=>aK 0 (aJ x2) u rfl rfl rfl rfl xY rfl rfl λK4=>qk K4 rfl (vs (vs (v0 (wU (by kernel_rfl) (jM rfl (vl 3 (.agg ([nZ p0.Seq,aZ ag3,aZ gC,aZ gE,aZ gV])) eV rfl rfl rfl (dN oH rfl rfl (vl 0 (.agg (bL x2.Id)) fR rfl rfl rfl ?_)))))))))))
 obtain⟨_,Y0,m⟩:=aC m
 refine vn (λu=>cC (fF (.cons (Br.agg (.cons (Br.refl _ _) (.cons (Br.aw 2 eJ t0 u rfl) (.cons (Br.aw 5 cR oC u rfl) (.cons (Br.aw 6 fM oE u rfl) (.cons (Br.aw 7 eA oV u rfl) .nil)))))) (.cons (Br.refl _ _) .nil)) rfl (W38 _ Y0)) rfl aE4 rfl) (fL m (σ:=aB) (λs=> [(some k465,.obj 44 (aJ s)),(cH ag4 q2),(dO ag3 r0),(hO p0K p0.Seq ag3 gC gE gV),(dO gS p0.Snaps),(cH gC p0.Chunks),(fA gE p0.Exps),(lE gV p0.Vols)]) (λs=>.c 0 (.ptr p0K 0) (.c 7 (aZ ag4) (.c 8 (nZ q3) (.c 9 (.ptr k465 0) .nil)))) (λx m=> ?_) ?_)
 refine v0 ?_
 apply vi m <;> intro c4 m
 refine vs (v0 (dN oI rfl rfl (ve λu=>aK 0 (aJ { x2 with Staged:=false}) u rfl rfl rfl rfl VQ rfl rfl λK5=>qk K5 rfl (dN jR rfl rfl (ve λu=>xT 0 (aJ { { x2 with Staged:=false} with Data:=([]:List Int)}) u rfl rfl rfl rfl (.cons (aY _) .nil) CQ rfl rfl λK6=>qk K6 rfl (vs (v0 (dN iY rfl rfl (vl 0 _ eZ rfl rfl rfl (dE i9 rfl (v0 ?_)))))))))))
 apply vi m <;> intro c5 m
 exact v0 (vxt m rfl λm=>eW m ag4 O3 (lJ [1,2,3,4,5,6,7] rfl rfl (.k3 .nil)))
 exact v0 (f8 m)
 exact v0 (f8 m)
 rintro _ j1 m
 refine v0 (vl 0 (.agg (aJ j1)) lZ rfl rfl rfl (bW (eL (List.map aJ ([j1]:List aB)) lP rfl rfl rfl rfl) ?_))
 obtain⟨z1,Z1,m⟩:=aC m
 exact ve λu=>gD (c:=aJ) 1 Z1 lP rfl nR rfl cR rfl rfl O3 u rfl λag5 O4 K7=>qk K7 rfl (eW m ag5 O4 (lJ [1,2,3,4,5,6,7] rfl rfl (.k3 .nil)))
 rintro ag6 j2 O5 m
 exact v0 (eW m ag6 O5 (lx (.k3 .nil)))
 exact v0 (lK m ag4 O3 (lx (.k3 .nil)))
 rintro ag7 ⟨r2,r3⟩ t1 m
 refine vs (v0 (jM rfl (dN dY rfl rfl (ve λu=>aK 2 ([nZ p0.Seq,aZ ag3,aZ ag7,aZ gE,aZ gV]) u rfl rfl (cD rfl) (cG (bY _ _ _) rfl) AD rfl rfl λK8=>qk K8 rfl (vs (v0 (v0 ?_)))))))
 cases m
 exact vr λu=>dX.of1 (.inl rfl) (fT _ _ (.sc (.bool _)) rfl) (bI u [2,1,0,5,6] rfl).2 (bJ.refl _ _) ⟨ag3,t0,ag7,t1,(bI u [2,1,0,5,6] rfl).1,rfl,rfl⟩
theorem SM:aN Tryz.prog 154=true:=by kernel_rfl
def mL (m:Nat) (p0:aA) (p1:aU) (p2:bG) (q0:Int):Option (Lp (Int) (Lp (Int×(List aB)×(List aQ)) (Bool×Int×BD))):=
 if (decide (q0 < (p0.Snaps.length:Int)))=true then ((ix p0.Snaps q0).bind λx0=>if (x0.Seq==p1.Seq)=true then ((ix p0.Snaps q0).bind λx1=>(HJ m x1.Locs p2).bind λy0=>(ix p0.Snaps q0).bind λx2=>some (.ret (.ret (true,p0.Seq,p0.Snaps.set q0.toNat ({ x2 with Locs:=y0}),p0.Chunks,p0.Exps)))) else some (.go (IntKind.wrap .i64 (q0+1)))) else some (.brk q0)
def tQ (m:Nat) (p0:aA) (p1:aU) (q0:Int):Option (Lp (Int) (Lp (Int×(List aB)×(List aQ)) (Bool×Int×BD))):=
 after (if (decide (q0 < (p0.Exps.length:Int)))=true then ((ix p0.Exps q0).bind λx0=>some (.brk (decide (x0.Seq < p1.Seq)))) else some (.brk false):Option (Lp (Bool) (Lp (Int) (Lp (Int×(List aB)×(List aQ)) (Bool×Int×BD))))) λj0=>if j0=true then (some (.go (IntKind.wrap .i64 (q0+1)))) else some (.brk q0)
def HM (m:Nat) (p0:aA) (p1:aU) (p2:bG):Option (Bool×Int×BD):=
 after (if (p1.Kind==1)=true then ((KS m ({ Seq:=p0.Seq,Snaps:=p0.Snaps,Chunks:=p0.Chunks,Exps:=p0.Exps,Vols:=p0.Vols}:aA) p1.Id).bind λy0=>if (decide (y0 < 0))=true then (some (.ret (false,p0.Seq,p0.Snaps,p0.Chunks,p0.Exps))) else (ix p0.Chunks y0).bind λx0=>(HJ m x0.Locs p2).bind λy1=>(ix p0.Chunks y0).bind λx1=>some (.brk (p0.Seq,p0.Chunks.set y0.toNat ({ x1 with Locs:=y1}),p0.Exps))) else if (p1.Kind==2)=true then (after (aT (λs=>mL m p0 p1 p2 s) m 0) λr0=>some (.ret (false,p0.Seq,p0.Snaps,p0.Chunks,p0.Exps))) else after (aT (λs=>tQ m p0 p1 s) m 0) λr1=>after (if (decide (r1 < (p0.Exps.length:Int)))=true then ((ix p0.Exps r1).bind λx2=>some (.brk (x2.Seq==p1.Seq))) else some (.brk false):Option (Lp (Bool) (Lp (Int×(List aB)×(List aQ)) (Bool×Int×BD)))) λj0=>if j0=true then ((ix p0.Exps r1).bind λx3=>(HJ m x3.Locs p2).bind λy2=>(ix p0.Exps r1).bind λx4=>some (.ret (true,p0.Seq,p0.Snaps,p0.Chunks,p0.Exps.set r1.toNat ({ x4 with Locs:=y2})))) else (slc p0.Exps 0 r1).bind λx5=>(app ([]:List aQ) x5).bind λz0=>(app z0 ([({ Seq:=p1.Seq,Of:=p1.Of,Locs:=([p2]:List bG)}:aQ)]:List aQ)).bind λz1=>(slc p0.Exps r1 (p0.Exps).length).bind λx6=>(app z1 x6).bind λz2=>after (if (decide (p0.Seq≤p1.Seq))=true then (some (.brk (decide (p1.Seq < 4611686018427387904)))) else some (.brk false):Option (Lp (Bool) (Lp (Int×(List aB)×(List aQ)) (Bool×Int×BD)))) λj1=>after (if j1=true then (some (.brk (IntKind.wrap .i64 (p1.Seq+1)))) else some (.brk p0.Seq):Option (Lp (Int) (Lp (Int×(List aB)×(List aQ)) (Bool×Int×BD)))) λj2=>some (.brk (j2,p0.Chunks,z2)):Option (Lp (Int×(List aB)×(List aQ)) (Bool×Int×BD))) λ⟨j3,j4,j5⟩=>some (true,j3,p0.Snaps,j4,j5)
theorem aF7 {w:Nat} {p0:aA} {p1:aU} {p2:bG} {o:Bool×Int×BD} (h:aF) {p0K:cE} {gS:cU} (ok_Snaps:bK gS 4 p0.Snaps.length) {gC:cU} (oC:bK gC 35 p0.Chunks.length) {gE:cU} (oE:bK gE 3 p0.Exps.length) {gV:cU} (oV:bK gV 4 p0.Vols.length) (K0:bV h (hC p0K p0 gS gC gE gV)) (m:HM w p0 p1 p2=some o):
 aL Tryz.prog 156 [.ptr p0K 0,.agg (a8 p1),.agg (aO p2)] (hp h (hC p0K p0 gS gC gE gV)) (λr h'=>∃g_Snaps':cU,bK g_Snaps' 4 (o.2.2.1:List aH).length∧∃g_Chunks':cU,bK g_Chunks' 35 (o.2.2.2.1:List aB).length∧∃g_Exps':cU,bK g_Exps' 3 (o.2.2.2.2:List aQ).length∧bV h (hL p0K o.2.1 g_Snaps' g_Chunks' g_Exps' gV o.2.2.1 o.2.2.2.1 o.2.2.2.2 p0.Vols)∧r= .sc (.bool o.1)∧h'=hp h (hL p0K o.2.1 g_Snaps' g_Chunks' g_Exps' gV o.2.2.1 o.2.2.2.1 o.2.2.2.2 p0.Vols)):=by
 refine uE K0 184 [.tmp 6] Tryz.func156 rfl rfl rfl rfl ?_
 unfold HM at m
 refine vs (v0 (gO rfl rfl λk2 K3=>gO rfl rfl λk5 K6=>vs (vs (v0 (dN lY rfl rfl (vl 1 _ bZ rfl rfl rfl (v0 (vs (v0 (pJ m (σ:=Int×(List aB)×(List aQ)) (τ:=cU×cU) (λg s=>((some k5,.obj 81 (aO p2))::(some k2,.obj 38 (a8 p1))::(hL p0K s.1 gS g.1 g.2 gV p0.Snaps s.2.1 s.2.2 p0.Vols))) (λg s=>bK g.1 35 (s.2.1:List aB).length∧bK g.2 3 (s.2.2:List aQ).length) (λg s=>.nil) (λx m=> ?_) ?_))))))))))
 refine v0 ?_
 apply vi m <;> intro c0 m
 refine vs (v0 (wU (by kernel_rfl) (jM rfl (vl 2 (.agg ([nZ p0.Seq,aZ gS,aZ gC,aZ gE,aZ gV])) eV rfl rfl rfl (dN uW rfl rfl (vl 1 (.agg (bL p1.Id)) fR rfl rfl rfl ?_))))))
 obtain⟨_,Y0,m⟩:=aC m
 refine vn (λu=>cC (fF (.cons (Br.agg (.cons (Br.refl _ _) (.cons (Br.aw 3 eJ ok_Snaps u rfl) (.cons (Br.aw 4 cR oC u rfl) (.cons (Br.aw 5 fM oE u rfl) (.cons (Br.aw 6 eA oV u rfl) .nil)))))) (.cons (Br.refl _ _) .nil)) rfl (W88 _ Y0)) rfl QC rfl) (vs (vs (v0 (v0 ?_))))
 apply vi m <;> intro c1 m
 refine vs (v0 (v0 (fZ m λm=> ?_)))
 cases m
 exact vr λu=>dX.of1 (.inl rfl) (fT _ _ (.sc (.bool _)) rfl) (bI u [2,3,4,5,6] rfl).2 (bJ.refl _ _) ⟨gS,ok_Snaps,gC,oC,gE,oE,(bI u [2,3,4,5,6] rfl).1,rfl,rfl⟩
 refine v0 (v0 (vz [(1000000,some p0K,.obj 30 ([nZ p0.Seq,aZ gS,aZ gC,aZ gE,aZ gV])),(17,gC.t,.obj 44 (fl aJ (p0.Chunks:List aB) gC.sp)),(1000000,some k5,.obj 81 (aO p2))] mixed (λu=>⟨λ_=>aI 2 u rfl,λ_=>aI 4 u rfl,λ_=>aI 0 u rfl,trivial⟩) λu=>zP 0 rfl rfl (zN 1 rfl rfl (zF 2 rfl dY rfl (zL 3 0 (aZ gC) rfl eU rfl rfl rfl (zI 4 rfl rfl (zP 5 rfl rfl (zN 6 rfl rfl (zF 7 rfl dY rfl (zL 8 0 (aZ gC) rfl eU rfl rfl rfl (zI 9 rfl rfl ?_)))))))))))
 obtain⟨x0,X0,m⟩:=aC m
 refine zC 10 rfl (cP X0 fJ oC rfl rfl) (zC 11 rfl (cV (bK.ne oC X0) iY rfl rfl) (wJ 12 rfl (λ_ _ hi hB=>dW (fo:=34) (.sl none 4 (List.map aO x0.Locs)) X0 cR oC eZ rfl (fV.get 1 hi rfl (hB 17 (by kernel_rfl))) (λ_=>rfl)) (zL 13 2 (.agg (aO p2)) rfl m8 rfl rfl rfl ?_)))
 obtain⟨y0,Y1,m⟩:=aC m
 refine zC 14 rfl (cC (UY _ Y1) rfl NR rfl) ?_
 obtain⟨x1,X1,m⟩:=aC m
 refine zC 15 rfl (cP X1 fJ oC rfl rfl) (zC 16 rfl (cV (bK.ne oC X1) iY rfl rfl) (zE 17 rfl (cK (fo:=34) ({ x1 with Locs:=y0}:aB) 4 u X1 cR oC rfl rfl rfl rfl (cX.refl _ _) nX rfl rfl λK1=>⟨⟨λ_=>aI 2 K1 rfl,λe=>absurd e (by decide),λ_=>aI 0 K1 rfl,trivial⟩, ?_⟩)))
 exact zX (qk (f:=wK 144 _ _ _ _ _ _ _ _ _ _ _ _ _ _ _ _ _ _) K1 rfl (eW m (gC,gE) ⟨(bK.set oC),oE⟩ (lx .nil)))
 refine vs (v0 (v0 ?_))
 apply vi m <;> intro c2 m
 refine vs (vs (v0 (jN m (σ:=Int) (λs=>((some k5,.obj 81 (aO p2))::(some k2,.obj 38 (a8 p1))::(hC p0K p0 gS gC gE gV))) (λs=>.c 0 (.ptr p0K 0) (.c 4 (.ptr k2 0) (.c 5 (.ptr k5 0) (.c 8 (nZ s) .nil)))) (lx (.k4 .nil)) ?_ ?_)))
 rintro _ q0 x m
 replace m:mL w p0 p1 p2 q0=some x:=m
 unfold mL at m
 refine vs (vs (v0 (jM rfl (dN dV rfl rfl (vl 2 (aZ gS) fC rfl rfl rfl (bW (dQ jQ ok_Snaps rfl) (v0 ?_)))))))
 apply vi m <;> intro c3 m
 refine v0 (vs (v0 (vs (v0 (wU (by kernel_rfl) (jM rfl (dN dV rfl rfl (vl 2 (aZ gS) fC rfl rfl rfl ?_))))))))
 obtain⟨x2,X2,m⟩:=aC m
 refine bW (cP X2 iJ ok_Snaps rfl rfl) (bW (cV (bK.ne ok_Snaps X2) uY rfl rfl) (vn (λu=>dW (fo:=0) (nZ x2.Seq) X2 eJ ok_Snaps bZ rfl (aI 3 u rfl) (λ_=>rfl)) (dN lA rfl rfl (vl 1 _ bZ rfl rfl rfl (v0 ?_)))))
 apply vi m <;> intro c4 m
 refine vs (v0 (vz [(1000000,some p0K,.obj 30 ([nZ p0.Seq,aZ gS,aZ gC,aZ gE,aZ gV])),(17,gS.t,.obj 60 (fl bP (p0.Snaps:List aH) gS.sp)),(1000000,some k5,.obj 81 (aO p2))] mixed (λu=>⟨λ_=>aI 2 u rfl,λ_=>aI 3 u rfl,λ_=>aI 0 u rfl,trivial⟩) λu=>zP 0 rfl rfl (zN 1 rfl rfl (zF 2 rfl dV rfl (zL 3 0 (aZ gS) rfl fC rfl rfl rfl (zI 4 rfl rfl (zP 5 rfl rfl (zN 6 rfl rfl (zF 7 rfl dV rfl (zL 8 0 (aZ gS) rfl fC rfl rfl rfl (zI 9 rfl rfl ?_)))))))))))
 obtain⟨x3,X3,m⟩:=aC m
 refine zC 10 rfl (cP X3 iJ ok_Snaps rfl rfl) (zC 11 rfl (cV (bK.ne ok_Snaps X3) jS rfl rfl) (wJ 12 rfl (λ_ _ hi hB=>dW (fo:=3) (.sl none 4 (List.map aO x3.Locs)) X3 eJ ok_Snaps eZ rfl (fV.get 1 hi rfl (hB 17 (by kernel_rfl))) (λ_=>rfl)) (zL 13 2 (.agg (aO p2)) rfl m8 rfl rfl rfl ?_)))
 obtain⟨y1,Y2,m⟩:=aC m
 refine zC 14 rfl (cC (UY _ Y2) rfl NR rfl) ?_
 obtain⟨x4,X4,m⟩:=aC m
 refine zC 15 rfl (cP X4 iJ ok_Snaps rfl rfl) (zC 16 rfl (cV (bK.ne ok_Snaps X4) jS rfl rfl) (zE 17 rfl (cK (fo:=3) ({ x4 with Locs:=y1}:aH) 3 u X4 eJ ok_Snaps rfl rfl rfl rfl (cX.refl _ _) nX rfl rfl λK2=>⟨⟨λ_=>aI 2 K2 rfl,λe=>absurd e (by decide),λ_=>aI 0 K2 rfl,trivial⟩, ?_⟩)))
 refine zX (qk (f:=wK 183 _ _ _ _ _ _ _ _ _ _ _ _ _ _ _ _ _ _) K2 rfl (vs (v0 (v0 (fZ m λm=>fZ m λm=> ?_)))))
 cases m
 exact vr λu=>dX.of1 (.inl rfl) (fT _ _ (.sc (.bool _)) rfl) (bI u [2,3,4,5,6] rfl).2 (bJ.refl _ _) ⟨gS,(bK.set ok_Snaps),gC,oC,gE,oE,(bI u [2,3,4,5,6] rfl).1,rfl,rfl⟩
 exact v0 (v0 (f8 m))
 exact v0 (wS m)
 rintro _ r0 m
 refine vs (v0 (v0 (fZ m λm=> ?_)))
 cases m
 exact vr λu=>dX.of1 (.inl rfl) (fT _ _ (.sc (.bool _)) rfl) (bI u [2,3,4,5,6] rfl).2 (bJ.refl _ _) ⟨gS,ok_Snaps,gC,oC,gE,oE,(bI u [2,3,4,5,6] rfl).1,rfl,rfl⟩
 refine vs (v0 (vs (jN m (σ:=Int) (λs=>((some k5,.obj 81 (aO p2))::(some k2,.obj 38 (a8 p1))::(hC p0K p0 gS gC gE gV))) (λs=>.c 0 (.ptr p0K 0) (.c 4 (.ptr k2 0) (.c 5 (.ptr k5 0) (.c 9 (nZ s) .nil)))) (lx (.k4 .nil)) ?_ ?_)))
 rintro _ q1 x m
 replace m:tQ w p0 p1 q1=some x:=m
 unfold tQ at m
 refine vs (vs (fL m (σ:=Bool) (λs=>((some k5,.obj 81 (aO p2))::(some k2,.obj 38 (a8 p1))::(hC p0K p0 gS gC gE gV))) (λs=>.c 0 (.ptr p0K 0) (.c 4 (.ptr k2 0) (.c 5 (.ptr k5 0) (.c 9 (nZ q1) (.c 32 (.sc (.bool s)) .nil))))) (λx m=> ?_) ?_))
 refine v0 (wU (by kernel_rfl) (jM rfl (dN eR rfl rfl (vl 2 (aZ gE) iF rfl rfl rfl (bW (dQ nW oE rfl) ?_)))))
 apply vi m <;> intro b0 m
 rw[b0]
 refine jM rfl (dN eR rfl rfl (vl 2 (aZ gE) iF rfl rfl rfl ?_))
 obtain⟨x5,X5,m⟩:=aC m
 exact bW (cP X5 iE oE rfl rfl) (bW (cV (bK.ne oE X5) GZ rfl rfl) (vn (λu=>dW (fo:=0) (nZ x5.Seq) X5 fM oE bZ rfl (aI 5 u rfl) (λ_=>rfl)) (dN lA rfl rfl (vl 1 _ bZ rfl rfl rfl (nJ m)))))
 rw[b0]
 exact nJ m
 rintro _ j0 m
 refine v0 ?_
 apply vi m <;> intro c5 m
 exact v0 (v0 (v0 (f8 m)))
 exact v0 (wS m)
 rintro _ r1 m
 refine vs (vs (fL m (σ:=Bool) (λs=>((some k5,.obj 81 (aO p2))::(some k2,.obj 38 (a8 p1))::(hC p0K p0 gS gC gE gV))) (λs=>.c 0 (.ptr p0K 0) (.c 4 (.ptr k2 0) (.c 5 (.ptr k5 0) (.c 9 (nZ r1) (.c 54 (.sc (.bool s)) .nil))))) (λx m=> ?_) ?_))
 refine v0 (wU (by kernel_rfl) (jM rfl (dN eR rfl rfl (vl 2 (aZ gE) iF rfl rfl rfl (bW (dQ nW oE rfl) ?_)))))
 apply vi m <;> intro b1 m
 rw[b1]
 refine jM rfl (dN eR rfl rfl (vl 2 (aZ gE) iF rfl rfl rfl ?_))
 obtain⟨x6,X6,m⟩:=aC m
 exact bW (cP X6 iE oE rfl rfl) (bW (cV (bK.ne oE X6) GZ rfl rfl) (vn (λu=>dW (fo:=0) (nZ x6.Seq) X6 fM oE bZ rfl (aI 5 u rfl) (λ_=>rfl)) (dN lA rfl rfl (vl 1 _ bZ rfl rfl rfl (nJ m)))))
 rw[b1]
 exact nJ m
 rintro _ j1 m
 refine v0 ?_
 apply vi m <;> intro c6 m
 refine vs (v0 (vz [(1000000,some p0K,.obj 30 ([nZ p0.Seq,aZ gS,aZ gC,aZ gE,aZ gV])),(17,gE.t,.obj 99 (fl cF (p0.Exps:List aQ) gE.sp)),(1000000,some k5,.obj 81 (aO p2))] mixed (λu=>⟨λ_=>aI 2 u rfl,λ_=>aI 5 u rfl,λ_=>aI 0 u rfl,trivial⟩) λu=>zP 0 rfl rfl (zN 1 rfl rfl (zF 2 rfl eR rfl (zL 3 0 (aZ gE) rfl iF rfl rfl rfl (zI 4 rfl rfl (zP 5 rfl rfl (zN 6 rfl rfl (zF 7 rfl eR rfl (zL 8 0 (aZ gE) rfl iF rfl rfl rfl (zI 9 rfl rfl ?_)))))))))))
 obtain⟨x7,X7,m⟩:=aC m
 refine zC 10 rfl (cP X7 iE oE rfl rfl) (zC 11 rfl (cV (bK.ne oE X7) lD rfl rfl) (wJ 12 rfl (λ_ _ hi hB=>dW (fo:=2) (.sl none 4 (List.map aO x7.Locs)) X7 fM oE eZ rfl (fV.get 1 hi rfl (hB 17 (by kernel_rfl))) (λ_=>rfl)) (zL 13 2 (.agg (aO p2)) rfl m8 rfl rfl rfl ?_)))
 obtain⟨y2,Y3,m⟩:=aC m
 refine zC 14 rfl (cC (UY _ Y3) rfl NR rfl) ?_
 obtain⟨x8,X8,m⟩:=aC m
 refine zC 15 rfl (cP X8 iE oE rfl rfl) (zC 16 rfl (cV (bK.ne oE X8) lD rfl rfl) (zE 17 rfl (cK (fo:=2) ({ x8 with Locs:=y2}:aQ) 5 u X8 fM oE rfl rfl rfl rfl (cX.refl _ _) nX rfl rfl λK4=>⟨⟨λ_=>aI 2 K4 rfl,λe=>absurd e (by decide),λ_=>aI 0 K4 rfl,trivial⟩, ?_⟩)))
 refine zX (qk (f:=wK 71 _ _ _ _ _ _ _ _ _ _ _ _ _ _ _ _ _ _) K4 rfl (vs (v0 (v0 (fZ m λm=> ?_)))))
 cases m
 exact vr λu=>dX.of1 (.inl rfl) (fT _ _ (.sc (.bool _)) rfl) (bI u [2,3,4,5,6] rfl).2 (bJ.refl _ _) ⟨gS,ok_Snaps,gC,oC,gE,(bK.set oE),(bI u [2,3,4,5,6] rfl).1,rfl,rfl⟩
 refine v0 (vs (v0 (vs (qC (λu=>i8.fzO (n:=184) (f:=_) 5 2 ([nZ p0.Seq,aZ gS,aZ gC,.sl none 3 (List.map cF p0.Exps),aZ gV]) u rfl (.cons (Fz.refl _ _ _) (.cons (Fz.refl _ _ _) (.cons (Fz.refl _ _ _) (.cons (Fz.aw 5 fM oE u rfl (.refl _)) (.cons (Fz.refl _ _ _) .nil)))))) (v0 (vz [(1000000,some p0K,.obj 30 ([nZ p0.Seq,aZ gS,aZ gC,.sl none 3 (List.map cF p0.Exps),aZ gV])),(1000000,some k2,.obj 38 (a8 p1)),(1000000,some k5,.obj 81 (aO p2))] mixed (λu=>⟨λ_=>aI 2 u rfl,λ_=>aI 1 u rfl,λ_=>aI 0 u rfl,trivial⟩) λu=>zC 0 rfl (eS (.sc (.slice _ _ _)) rfl) (zP 1 rfl rfl (zN 2 rfl rfl (zF 3 rfl eR rfl (zL 4 0 (.sl none 3 (List.map cF p0.Exps)) rfl iF rfl rfl rfl (zI 5 rfl rfl ?_)))))))))))
 obtain⟨_,X9,m⟩:=aC m
 refine zC 6 rfl (pN X9 iE rfl rfl rfl rfl) (zF 8 rfl lA rfl (zL 9 1 (nZ p1.Seq) rfl bZ rfl rfl rfl (zF 10 rfl uX rfl (zL 11 1 (nZ p1.Of) rfl bZ rfl rfl rfl (zL 12 2 (.agg (aO p2)) rfl m8 rfl rfl rfl (zC 13 rfl (eL (List.map aO ([p2]:List bG)) pC rfl rfl rfl rfl) (zC 14 rfl (fI (cF ({ Seq:=p1.Seq,Of:=p1.Of,Locs:=([p2]:List bG)}:aQ)) W2 rfl) (zC 15 rfl (eL (List.map cF ([({ Seq:=p1.Seq,Of:=p1.Of,Locs:=([p2]:List bG)}:aQ)]:List aQ)) pA rfl rfl rfl rfl) ?_))))))))
 obtain⟨z0,Z0,m⟩:=aC m
 refine zE 7 rfl (CA (c:=cF) Z0 pA rfl oL rfl fM rfl u rfl λag0 O0 K5=>⟨⟨λ_=>aI 3 K5 rfl,λ_=>aI 2 K5 rfl,λ_=>aI 1 K5 rfl,trivial⟩, ?_⟩)
 obtain⟨z1,Z1,m⟩:=aC m
 refine zE 16 rfl (gD (c:=cF) 0 Z1 pA rfl oL rfl fM rfl rfl O0 K5 rfl λag1 O1 K7=>⟨⟨λ_=>aI 3 K7 rfl,λ_=>aI 2 K7 rfl,λ_=>aI 1 K7 rfl,trivial⟩, ?_⟩)
 refine zC 17 rfl (iI (aw _ _ _) rfl) (zX (qk (f:=.c 10 _ (.c 88 _ (.c 79 _ (PW 87 _ _ _ _ _ _ _ _ (fq7 78 _ _ _ _ _ _ _ _))))) K7 rfl (vs (v0 (jM rfl (dN eR rfl rfl (vl 3 _ iF rfl rfl rfl ?_)))))))
 obtain⟨_,X10,m⟩:=aC m
 refine bW (pN X10 iE rfl rfl rfl rfl) ?_
 obtain⟨z2,Z2,m⟩:=aC m
 refine ve λu=>gD (c:=cF) 0 Z2 pA rfl oL rfl fM rfl rfl O1 u rfl λag2 O2 K8=>qk K8 rfl (jM rfl (dN eR rfl rfl (ve λu=>aK 3 ([nZ p0.Seq,aZ gS,aZ gC,aZ ag2,aZ gV]) u rfl rfl (cD rfl) (cG (bY _ _ _) rfl) JU rfl rfl λK9=>qk K9 rfl (vs (fL m (σ:=Bool) (λs=> [(fA ag2 z2),(some k5,.obj 81 (aO p2)),(some k2,.obj 38 (a8 p1)),(hO p0K p0.Seq gS gC ag2 gV),(dO gS p0.Snaps),(cH gC p0.Chunks),(lE gV p0.Vols)]) (λs=>.c 0 (.ptr p0K 0) (.c 4 (.ptr k2 0) (.c 111 (.sc (.bool s)) .nil))) (λx m=> ?_) ?_)))))
 refine v0 (wU (by kernel_rfl) (dN lA rfl rfl (vl 2 _ bZ rfl rfl rfl (jM rfl (dN nQ rfl rfl (vl 3 _ bZ rfl rfl rfl ?_))))))
 apply vi m <;> intro b2 m
 rw[b2]
 exact dN lA rfl rfl (vl 2 _ bZ rfl rfl rfl (gK m))
 rw[b2]
 exact gK m
 rintro _ j2 m
 refine fL m (σ:=Int) (λs=> [(fA ag2 z2),(some k5,.obj 81 (aO p2)),(some k2,.obj 38 (a8 p1)),(hO p0K s gS gC ag2 gV),(dO gS p0.Snaps),(cH gC p0.Chunks),(lE gV p0.Vols)]) (λs=>.nil) (λx m=> ?_) ?_
 refine v0 ?_
 apply vi m <;> intro c7 m
 exact v0 (dN lA rfl rfl (vl 2 _ bZ rfl rfl rfl (jM rfl (dN nQ rfl rfl (ve λu=>aK 3 ([nZ (IntKind.wrap .i64 (p1.Seq+1)),aZ gS,aZ gC,aZ ag2,aZ gV]) u rfl rfl rfl rfl AA rfl rfl λK10=>qk K10 rfl (gq0 m))))))
 exact v0 (gq0 m)
 rintro _ j3 m
 exact eW m (gC,ag2) ⟨oC,O2⟩ (lJ [1,2,3,4,5,0,6] rfl rfl .nil)
 rintro⟨ag3,ag4⟩ ⟨j4,j5,j6⟩ ⟨O3,O4⟩ m
 refine vs (v0 (v0 ?_))
 cases m
 exact vr λu=>dX.of1 (.inl rfl) (fT _ _ (.sc (.bool _)) rfl) (bI u [2,3,4,5,6] rfl).2 (bJ.refl _ _) ⟨gS,ok_Snaps,ag3,O3,ag4,O4,(bI u [2,3,4,5,6] rfl).1,rfl,rfl⟩
theorem aAZ:aN Tryz.prog 156=true:=by kernel_rfl
end Go.Proofs.YtbbifdfldpfphaaGreat
