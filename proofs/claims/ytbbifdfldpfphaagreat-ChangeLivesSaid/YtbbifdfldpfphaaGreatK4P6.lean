import Derived.Test.YtbbifdfldpfphaaGreatK4P5
import Derived.Laws.Externs
import Derived.Test.YtbbifdfldpfphaaGreatK4P3
import Derived.Test.YtbbifdfldpfphaaGreatK4P4
set_option linter.unusedSimpArgs false
set_option linter.unusedVariables false
set_option maxHeartbeats 4000000
set_option maxRecDepth 100000
namespace Go.Vm
section
variable {P:Program}
theorem FA (w:World) (dT sT ty e:TypeId) (i:TypeInfo) (hu:P.underlying dT=some (.slice e)) (hi:P.info? e=some i) (g o dLen dCap:Nat) (cur:Array Value) (hg:w.heap[g]? =some (.cells cur e (0,0)))
    (a:Addr) (sLen sCap:Nat) (cs:List Value) (hn:cs.length=min sLen dLen*i.size) (hsrc:∀j v,cs[j]? =some v→w.cell? (a.add j)=some v) (h1:∀v∈cs,v.oneCell'=true) (hfit:o+cs.length≤cur.size):
    (Builtin.copy_ #[dT,sT] ty #[.slice (some ⟨g,o,none⟩) dLen dCap,.slice (some a) sLen sCap]).run P w=
      .ok (goInt (min sLen dLen:Nat)) (w.setRow g (cur.toList.take o++cs++cur.toList.drop (o+cs.length)).toArray):=by
  have hf:=run_firstCells_some (P:=P) w i.size (min sLen dLen) a sLen sCap cs hn hsrc
  have hst:=run_storeCells_at P g o e cs 0 cur w hg (by simpa using hfit) h1
  simp only[Nat.add_zero] at hst
  have hm:Nat.min sLen dLen=min sLen dLen:=rfl
  simp[Builtin.copy_,run_underlying hu,Builtin.lenOf,sizeOf,typeInfo,hi,hm,hf,hst]
variable {ops:Array Oper} {h h0:aF} {L:HL} {n:Nat} {kvs:KV} {l:List Oper} {ty:TypeId} {pos:String} {dP:Array Edge}
def BI (h:aF) (x:AV) (m k:Nat) (cs:List AV):Prop:=∀E w v,fX E h w→VR E w x v→∃a cap cv,v= .slice (some a) m cap∧cZ E w cs cv∧(∀u∈cv,u.oneCell'=true)∧(∀j u,cv[j]? =some u→w.cell? (a.add j)=some u)
theorem BI.sl {tag:Option cE} {sz:Nat} {ys:List (List AV)} (hne:ys≠ []) (k:Nat):BI h (.sl tag sz ys) ys.length k ys.flatten:=by
 intro E w v r hv
 obtain⟨g,o,cap,cv,e,c1,c2,c3,c4⟩:=mT hv hne
 exact⟨_,cap,cv,e,c1,c2,λj u hj=>by rw[Addr.add_lit]; exact(c4 j u hj).1⟩
theorem BI.view {k:cE} {off m c:Nat} {cs:List AV} {e:TypeId} (hk:h k=some (.obj e cs)):BI h (.view k off m) m c ((cs.drop off).take c):=by
 intro E w v r hv
 simp only[VR] at hv
 obtain⟨g,cap,hg,rfl,h1,h2⟩:=hv
 obtain⟨g',cur,e1,e2,e3,e4⟩:=r.obj _ _ _ hk
 rw[hg] at e1; cases e1
 refine⟨_,cap,(cur.toList.drop off).take c,rfl,fN _ (iM _ e3),λu hu=>e4 u (List.mem_of_mem_drop (List.mem_of_mem_take hu)),λj u hj=> ?_⟩
 rw[List.getElem?_take] at hj
 split at hj
 ·rw[List.getElem?_drop] at hj
  rw[Addr.add_lit]
  simp only[World.cell?,e2]
  simpa using hj
 ·cases hj
theorem M3 {K:AV→aF→Prop} {dst:Option Tmp} {d s:Operand} {dT sT e:TypeId} {sz b:Nat} (ht:kV P dT e sz b) {k:cE} {off n1 m:Nat} {cur cs:List AV} (hd:dK n kvs d= .view k off n1) (hk:h k=some (.obj e cur))
    (hs:BI h (dK n kvs s) m cs.length cs) (hl:cs.length=min m n1*sz) (hfit:off+cs.length≤cur.length)
    (hK:K .any (upd h k (some (.obj e (eD cur off cs))))):
    i7 P ⟨dst,.call { callee:=.builtin .copy,args:= #[d,s],argTypes:= #[dT,sT]},ty,pos,dP,none⟩ K (fm n kvs) h:=by
  obtain⟨i,z,hi,hz,rfl,rfl,hzs,hsp⟩:=ht.inf
  intro E w a r hv Nx Qx hn
  have vd:=hv d (by simp[Op.operands,Call.operands])
  have vs:=hv s (by simp[Op.operands,Call.operands])
  rw[bN] at vd vs
  rw[hd] at vd
  simp only[VR] at vd
  obtain⟨g,dc,hg,ed,d1,d2⟩:=vd
  obtain⟨sa,sc,cv,es,c1,c2,c3⟩:=hs E w _ r vs
  obtain⟨g',cu,f1,f2,f3,f4⟩:=r.obj _ _ _ hk
  rw[hg] at f1; cases f1
  have hlen:cur.length=cu.size:=by simpa using dA f3
  have hcl:cs.length=cv.length:=dA c1
  have hrun:=FA (P:=P) w dT sT ty e i ht.ut hi g off n1 dc cu f2 sa m sc cv (by rw[← hcl]; exact hl) c3 c2 (by omega)
  have hv':cZ E w (eD cur off cs) (cu.toList.take off++cv++cu.toList.drop (off+cv.length)):=by
    unfold eD
    rw[hcl]
    exact dB (dB (fN _ f3) c1) (iM _ f3)
  have h1':∀u∈cu.toList.take off++cv++cu.toList.drop (off+cv.length),u.oneCell'=true:=by
    intro u hu
    rcases List.mem_append.1 hu with hu | hu
    · rcases List.mem_append.1 hu with hu | hu
      · exact f4 u (List.mem_of_mem_take hu)
      · exact c2 u hu
    · exact f4 u (List.mem_of_mem_drop hu)
  obtain⟨k1,k2⟩:=r.set_obj (cur:=(cu.toList.take off++cv++cu.toList.drop (off+cv.length)).toArray) hk hg
    (w':=w.setRow g (cu.toList.take off++cv++cu.toList.drop (off+cv.length)).toArray)
    (setRow_heap w g cu _ e _ f2) (λg' hg'=>setRow_other w g g' _ hg') (by simp) rfl rfl rfl (by simpa using hv') (by simpa using h1')
  unfold Oper.wp
  have hex:(execOp a.eval ⟨dst,.call { callee:=.builtin .copy,args:= #[d,s],argTypes:= #[dT,sT]},ty,pos,dP,none⟩).run P w= .ok (.value (goInt (min m n1:Nat))) (w.setRow g (cu.toList.take off++cv++cu.toList.drop (off+cv.length)).toArray):=by
    simp only[execOp,resolve,invoke,builtin,List.map_toArray,List.map_cons,List.map_nil,ed,es,Sem.run_bind,Sem.run_pure,Result.andThen_ok,hrun]
  rw[hex]
  exact hn .any _ _ E _ k1 k2 (by simp only[VR]) hK
theorem l6 {K:AV→aF→Prop} {dst:Option Tmp} {d s:Operand} {dT sT e:TypeId} {sz b:Nat} (p:Nat) (ht:kV P dT e sz b) (hk:bV h0 L) {k:cE} {off n1 m:Nat} {cur cs:List AV} (hd:dK n kvs d= .view k off n1) (hi:L[p]? =some (some k,.obj e cur))
    (hs:BI (hp h0 L) (dK n kvs s) m cs.length cs) (hl:cs.length=min m n1*sz) (hfit:off+cs.length≤cur.length) (cur':List AV) (hc:eD cur off cs=cur')
    (hK:bV h0 (L.set p (some k,.obj e cur'))→K .any (hp h0 (L.set p (some k,.obj e cur')))):
    i7 P ⟨dst,.call { callee:=.builtin .copy,args:= #[d,s],argTypes:= #[dT,sT]},ty,pos,dP,none⟩ K (fm n kvs) (hp h0 L):=by
  subst hc
  obtain⟨h1,h2,_⟩:=jD (e':=.obj e (eD cur off cs)) p hk hi (.inl rfl)
  refine M3 ht hd (bC p hk hi) hs hl hfit ?_
  rw[h1]
  exact hK h2
theorem HD {dst:Option Tmp} {s:Operand} {t e:TypeId} {k:cE} {m cap:Nat} (hu:P.underlying t=some (.slice e)) (ha:dK n kvs s= .vw k m cap):
    eK P ⟨dst,.call { callee:=.builtin .cap,args:= #[s],argTypes:= #[t]},ty,pos,dP,none⟩ (.sc (.int .i64 cap)) (fm n kvs) h:=by
  refine dZ (x:=.sc (.int .i64 cap)) (λE w ac r hv=> ?_) ⟨rfl,rfl⟩
  have vs:=hv s (by simp[Op.operands,Call.operands])
  rw[bN,ha] at vs
  simp only[VR] at vs
  obtain⟨g,hg,es,h1,h2⟩:=vs
  refine⟨.int .i64 cap, ?_,by simp only[VR]⟩
  simp[execOp,resolve,invoke,builtin,es,Builtin.cap_,run_underlying hu,goInt]
theorem zB {dst:Option Tmp} {s:Nat} {hi:Operand} {t:TypeId} {k:cE} {m cap sz:Nat} {q:IntKind} {i:Int} (h0':0≤i) (h1':i≤(cap:Int)) (ht:nL P t=some sz) (ha:dK n kvs (.tmp s)= .vw k m cap) (hb:dK n kvs hi= .sc (.int q i)):
    eK P ⟨dst,.slice t (.tmp s) none (some hi) none,ty,pos,dP,none⟩ (.vw k i.toNat cap) (fm n kvs) h:=by
  obtain⟨e,hu,he⟩:=fO ht
  refine dZ (x:=.vw k i.toNat cap) (λE w ac r hv=> ?_) ⟨rfl,rfl⟩
  have va:=hv (.tmp s) (by simp[Op.operands])
  have vb:=hv hi (by simp[Op.operands])
  rw[bN,ha] at va; rw[bN,hb] at vb
  simp only[VR] at va vb
  obtain⟨g,hg,e1,e2,e3⟩:=va
  have hbd:=fU (P:=P) (w:=w) (sl:=true) (len:=m) (cap:=cap) (l:=0) (h:=i) (lo:=none) (hi:=some (.sc (.int q i))) (lv:=none) (hv:=some (.int q i)) rfl rfl (E:=E) nofun (λ_=>rfl)
    (λx hx=>by cases hx; exact⟨_,rfl,by simp only[VR]⟩) nofun (by omega) h0' (by omega)
  refine⟨.slice (some ⟨g,0,none⟩) i.toNat cap, ?_,by simp only[VR]; exact⟨g,hg,rfl,by omega,e3⟩⟩
  by_cases hz:cap=0
  · subst hz
    have hi0:i.toNat=0:=by omega
    simp[execOp,e1,vb,Instr.sliceAt,Instr.slice,run_underlying hu,hbd,cQ he,hi0]
  · have:¬cap=(0:Int).toNat:=by simpa using hz
    simp[execOp,e1,vb,Instr.sliceAt,Instr.slice,run_underlying hu,hbd,cQ he,hz,Addr.add]
theorem YZ {dst:Option Tmp} {s:Nat} {lo:Operand} {t:TypeId} {k:cE} {m cap sz:Nat} {q:IntKind} {i:Int} (h0':0≤i) (h1':i≤(m:Int)) (ht:nL P t=some sz) (ha:dK n kvs (.tmp s)= .vw k m cap) (hb:dK n kvs lo= .sc (.int q i)):
    eK P ⟨dst,.slice t (.tmp s) (some lo) none none,ty,pos,dP,none⟩ .any (fm n kvs) h:=by
  obtain⟨e,hu,he⟩:=fO ht
  refine dZ (x:=.any) (λE w ac r hv=> ?_) ⟨rfl,rfl⟩
  have va:=hv (.tmp s) (by simp[Op.operands])
  have vb:=hv lo (by simp[Op.operands])
  rw[bN,ha] at va; rw[bN,hb] at vb
  simp only[VR] at va vb
  obtain⟨g,hg,e1,e2,e3⟩:=va
  have hbd:=fU (P:=P) (w:=w) (sl:=true) (len:=m) (cap:=cap) (l:=i) (h:=m) (lo:=some (.sc (.int q i))) (hi:=none) (lv:=some (.int q i)) (hv:=none) rfl rfl (E:=E) (λx hx=>by cases hx; exact⟨_,rfl,by simp only[VR]⟩) nofun
    nofun (λ_=>rfl) h0' h1' (by omega)
  refine⟨.slice (if cap=i.toNat then some ⟨g,0,none⟩ else some (Addr.add ⟨g,0,none⟩ (i.toNat*sz))) (m - i.toNat) (cap - i.toNat), ?_,by simp only[VR]⟩
  simp[execOp,e1,vb,Instr.sliceAt,Instr.slice,run_underlying hu,hbd,cQ he]
theorem jP {dst:Option Tmp} {s:Nat} {lo:Operand} {t:TypeId} {k:cE} {m cap sz:Nat} {q:IntKind} {i:Int} (h0':0≤i) (h1':i < (m:Int)) (ht:nL P t=some sz) (ha:lk n kvs s= .vw k m cap) (hb:dK n kvs lo= .sc (.int q i)):
    eK P ⟨dst,.slice t (.tmp s) (some lo) none none,ty,pos,dP,none⟩ (.view k (i.toNat*sz) (m - i.toNat)) (fm n kvs) h:=by
  have hT:D7 P t=true:=by simp[D7,ht]
  refine sD (s:=s) (.view k 0 m) (by rw[ha]; exact B9 _ _ _ _) (jZ (c:=0≤i∧i < (m:Int)∧(m:Int)≤m) ?_ ⟨h0',h1',by omega⟩)
  have e:dK n (kp kvs s (.view k 0 m)) (.tmp s)= .view k 0 m:=EM ha (by simp)
  have e2:dK n (kp kvs s (.view k 0 m)) lo= .sc (.int q i):=GI ha (by simp) hb
  simp only[pv,bN,e,Option.map_some,e2,Option.map_none,BQ,ht,Option.bind_some,o5,lM,hT,if_true,Nat.zero_add,Int.toNat_natCast]
theorem HE {K:AV→aF→Prop} {dst:Option Tmp} {s x:Operand} {t tn e:TypeId} {sz b:Nat} {ik:IntKind} {zv:List Value} (p:Nat) (ht:kV P t e sz b) (htn:P.underlying tn=some (.int ik)) (hzr:uC P e=some zv) (hzo:zv.all (·.oneCell')=true) (hpos:0 < sz)
    (hk:bV h0 L) {k:cE} {i m cap:Nat} {cs:List AV} (ha:dK n kvs s= .vw k i cap) (hi:L[p]? =some (some k,.obj e cs)) (hx:dK n kvs x= .sc (.int ik (m:Int))) (hfull:cap < i+m) (hcs:i*sz≤cs.length) (hb:(i+m)*(b+1)≤140737488355328)
    (k2:∀(q:cE) (cap':Nat) (R:List AV),i+m≤cap'→cap'≤maxLen→i*sz+R.length=cap'*sz→bV h0 ((some q,.obj e (cs.take (i*sz)++R))::L)→K (.vw q (i+m) cap') (hp h0 ((some q,.obj e (cs.take (i*sz)++R))::L))):
    i7 P ⟨dst,.call { callee:=.builtin .append,args:= #[s,x],argTypes:= #[t,tn]},ty,pos,dP,none⟩ K (fm n kvs) (hp h0 L):=by
  obtain⟨ii,z,hii,hz,rfl,rfl,hzs,hsp⟩:=ht.inf
  have hzc:∀u∈z.cells.toList,u.oneCell'=true:=by
    have:zv=z.cells.toList:=by
      unfold uC at hzr
      rw[hii] at hzr
      simp only[Option.bind_some,hz,Option.map_some,Option.some.injEq] at hzr
      exact hzr.symm
    subst this
    exact λu hu=>List.all_eq_true.1 hzo u hu
  rw[Nat.mul_add,Nat.mul_one] at hb
  intro E w a r hv Nx Qx hn
  have vs:=hv s (by simp[Op.operands,Call.operands])
  have vx:=hv x (by simp[Op.operands,Call.operands])
  rw[bN] at vs vx
  rw[ha] at vs; rw[hx] at vx
  simp only[VR] at vs vx
  obtain⟨g,hg,es,h1,h2⟩:=vs
  obtain⟨g',cur,f1,f2,f3,f4⟩:=r.obj _ _ _ (bC p hk hi)
  rw[hg] at f1; cases f1
  have hlen:cs.length=cur.size:=by simpa using dA f3
  have htl:(cur.toList.take (i*ii.size)).length=i*ii.size:=by
    rw[List.length_take]
    have:cur.toList.length=cur.size:=by simp
    omega
  have hold:∀j u,(cur.toList.take (i*ii.size))[j]? =some u→w.drew.cell? ((⟨g,0,none⟩:Addr).add j)=some u:=by
    intro j u hj
    rw[Addr.add_lit,Nat.zero_add]
    rw[List.getElem?_take] at hj
    split at hj
    · show w.cell? ⟨g,j,none⟩=some u
      simp only[World.cell?,f2]
      simpa using hj
    · cases hj
  have hf:=run_firstCells_some (P:=P) w.drew ii.size i ⟨g,0,none⟩ i cap (cur.toList.take (i*ii.size)) htl hold
  have hm0:0 < m:=by omega
  have hw:IntKind.i64.wrap (m:Int)=m:=by rw[IntKind.wrap_i64]; omega
  have hnn:¬((m:Int) < 0):=by omega
  have hfit:Builtin.nextslicecap (i+m) cap*ii.bytes≤281474976710656:=growslice_fits (by omega) (by omega)
  have hmb:¬(281474976710656 < (m:Int)*(ii.bytes:Int)):=by
    rw[← Int.natCast_mul]
    have:m*ii.bytes≤(i+m)*ii.bytes:=Nat.mul_le_mul_right _ (by omega)
    omega
  have hnr:¬(i+m≤cap):=by omega
  have h63:¬(9223372036854775807 < (i:Int)+(m:Int)):=by omega
  have hnf:¬(281474976710656 < Builtin.nextslicecap (i+m) cap*ii.bytes):=by omega
  have hns:¬(m*ii.size=0):=Nat.mul_ne_zero (by omega) (by omega)
  have hm00:m≠0:=by omega
  have hsz0:ii.size≠0:=by omega
  have hrun:(Builtin.append_ #[t,tn] ty #[.slice (some ⟨g,0,none⟩) i cap,.int ik m]).run P w=
      .ok (.slice (some ⟨w.heap.size,0,none⟩) (i+m) (grownCap w (i+m) cap e)) (w.drew.alloc (.cells ((cur.toList.take (i*ii.size)).toArray++Builtin.zeroCells z.cells m++Builtin.zeroCells z.cells (grownCap w (i+m) cap e - (i+m))) e)):=by
    simp[Builtin.append_,run_underlying ht.ut,run_underlying htn,sizeOf,typeInfo,zeroValue,hii,hz,asInt,asIntOf,hw,hnn,hmb,hnr,h63,hnf,hns,hm00,hsz0,Question.forced,hf,newRow,grownCap]
  have hge:=grownCap_ge w (i+m) cap e
  have hcm:grownCap w (i+m) cap e≤maxLen:=grownCap_le_maxLen w (i+m) cap e (by simp only[maxLen]; omega)
  generalize hgc:grownCap w (i+m) cap e=gc at hge hcm hrun
  obtain⟨rd,kd⟩:=r.drewn (w.drawn+1)
  have rd':fX E (hp h0 L) w.drew:=rd
  obtain⟨nn,hE1⟩:=rd'.fresh 0
  have hlz:∀q,(Builtin.zeroCells z.cells q).toList.length=q*ii.size:=λq=>by rw[Array.length_toList,size_zeroCells,hzs]
  have hvl:cZ E w.drew (cs.take (i*ii.size)++List.replicate ((Builtin.zeroCells z.cells m).toList.length+(Builtin.zeroCells z.cells (gc - (i+m))).toList.length) AV.any) ((cur.toList.take (i*ii.size)).toArray++Builtin.zeroCells z.cells m++Builtin.zeroCells z.cells (gc - (i+m))).toList:=by
    rw[Array.toList_append,Array.toList_append,List.append_assoc]
    exact dB (cS kd _ _ (fN _ f3)) (rW _ (by rw[List.length_append]))
  obtain⟨E',e1,e2,e3⟩:=fX.new_obj (w:=w.drew) rd' hE1 e hvl (by
    intro v hv
    rw[Array.toList_append,Array.toList_append] at hv
    rcases List.mem_append.1 hv with hv | hv
    · rcases List.mem_append.1 hv with hv | hv
      · exact f4 v (List.mem_of_mem_take (by simpa using hv))
      · exact jT hzc v hv
    · exact jT hzc v hv)
  unfold Oper.wp
  have hex:(execOp a.eval ⟨dst,.call { callee:=.builtin .append,args:= #[s,x],argTypes:= #[t,tn]},ty,pos,dP,none⟩).run P w= .ok (.value (.slice (some ⟨w.heap.size,0,none⟩) (i+m) gc)) (w.drew.alloc (.cells ((cur.toList.take (i*ii.size)).toArray++Builtin.zeroCells z.cells m++Builtin.zeroCells z.cells (gc - (i+m))) e)):=by
    simp only[execOp,resolve,invoke,builtin,List.map_toArray,List.map_cons,List.map_nil,es,vx,Sem.run_bind,Sem.run_pure,Result.andThen_ok,hrun]
  rw[hex]
  have hno:hp h0 L (0,nn)=none:=by
    cases hh:hp h0 L (0,nn) with
    | none=>rfl
    | some en=>exact absurd (r.hus _ _ hh) hE1
  have hkk:=k2 (0,nn) gc (List.replicate ((Builtin.zeroCells z.cells m).toList.length+(Builtin.zeroCells z.cells (gc - (i+m))).toList.length) AV.any) hge hcm (by
    rw[List.length_replicate,hlz,hlz,← Nat.add_mul,← Nat.add_mul]
    congr 1; omega) ⟨hk,λk e=>by cases e; exact hno⟩
  refine hn (.vw (0,nn) (i+m) gc) _ _ E' _ (kd.trans e2) e3 ?_ hkk
  simp only[VR]
  exact⟨_,e1,rfl,hge,hcm⟩
theorem oX {K : AV → aF → Prop} {dst : Option Tmp} {x y : Operand} {ts : Array TypeId} {f : FuncId} {fn : Func} {tS tR e : TypeId} {sz : Nat} (hf : P.funcs[f]? = some fn) (hname : (fn.name == "runtime.NumGoroutine") = false)
    (hb:fn.body.isNone=true) (hn':Extern.findNext fn=none) (he:Extern.find fn=some (Extern.SlicesOverlaps.overlaps #[tS,tS] #[tR])) {b:Nat} (het:kV P tS e sz b) {ys:List (List AV)} (hne:ys≠ []) {k:cE} {off m:Nat} {cs:List AV} {ty2:TypeId}
    (hsz:0 < sz) (hx:dK n kvs x= .sl none sz ys) (hy:dK n kvs y= .view k off m) (hk:h k=some (.obj ty2 cs)) (hcs:0 < cs.length) (k1:K (.sc (.bool false)) h):
    i7 P ⟨dst,.call { callee:=.value (.func f),args:= #[x,y],argTypes:=ts},ty,pos,dP,none⟩ K (fm n kvs) h:=by
  obtain⟨ii,z,hii, -, -, -, -, -⟩:=het.inf
  have ht:=het.ut
  refine dZ (x:=.sc (.bool false)) (λE w a r hv=> ?_) k1
  have vx:=hv x (by simp[Op.operands,Call.operands])
  have vy:=hv y (by simp[Op.operands,Call.operands])
  rw[bN] at vx vy
  rw[hx] at vx; rw[hy] at vy
  have hall:∀z∈ys,z.length=sz:=by
    have:=vx
    simp only[VR] at this
    obtain⟨_,_,_,_,_,_,h4,_⟩:=this
    exact h4
  obtain⟨gb,o,cap,cv,ex,c1,c2,c3,c4⟩:=mT vx hne
  simp only[VR] at vx vy
  obtain⟨g,yc,hg,ey,y1,y2⟩:=vy
  obtain⟨a0,cap0,ea, -, -,h3, -, -⟩:=vx
  obtain⟨g',cur,f1,f2,f3,f4⟩:=r.obj _ _ _ hk
  rw[hg] at f1; cases f1
  have hlen:cs.length=cur.size:=by simpa using dA f3
  have hcl:0 < cv.length:=by
    rw[c3]
    exact Nat.mul_pos (List.length_pos_iff.2 hne) hsz
  obtain⟨u,hu⟩:∃u,cv[0]? =some u:=⟨cv[0],List.getElem?_eq_getElem hcl⟩
  obtain⟨hc0,hp0⟩:=c4 0 u hu
  rw[Nat.add_zero] at hc0
  have himm:E.imm gb o:=by
    rcases hp0 with h5 | ⟨kk,t,h5,_⟩
    · simpa using h5
    · cases h5
  have hbne:gb≠g:=λq=>(r.dis k g (.inl ⟨_,rfl,hk,hg⟩)).2 o (q ▸ himm)
  have hb1:(gb !=g)=true:=by simpa using hbne
  have hb2:(gb==g)=false:=by simpa using hbne
  obtain⟨bs,bt,bz,hblk⟩:∃cells ty fz,w.heap[gb]? =some (.cells cells ty fz):=by
    cases hh:w.heap[gb]? with
    | none=>simp[World.cell?,hh] at hc0
    | some ob=>cases ob with
      | cells a b c=>exact⟨a,b,c,rfl⟩
      | _=>simp[World.cell?,hh] at hc0
  have hsa:w.shape? gb=some (bt,bs.size):=by simp[World.shape?,hblk]
  have hsb:w.shape? g=some (ty2,cur.size):=by simp[World.shape?,f2]
  have hfb:∀off,w.frozen? ⟨g,off,none⟩=false:=λoff=>by simp[World.frozen?,f2]
  have hcz:cur.size≠0:=by omega
  have hbz:bs.size≠0:=by
    intro hz
    have:bs= #[]:=by simpa using hz
    rw[this] at hblk
    simp[World.cell?,hblk] at hc0
  have hrun:(Extern.SlicesOverlaps.overlaps #[tS,tS] #[tR] #[.slice (some ⟨gb,o,none⟩) ys.length cap,.slice (some ⟨g,off,none⟩) m yc]).run P w= .ok (.bool false) w:=by
    refine (Sem.run_bind (x:=underlying tS) ..).trans ?_
    rw [run_underlying ht]
    simp only [Result.andThen_ok]
    have hsz':(sizeOf e).run P w= .ok ii.size w:=by simp[sizeOf,typeInfo,hii]
    by_cases hz:ys.length=0∨m=0∨ii.size=0
    · rcases hz with hz | hz | hz
      · exact absurd (List.length_eq_zero_iff.1 hz) hne
      · simp[run_underlying ht,hsz',hz]
      · simp[run_underlying ht,hsz',hz]
    · cases hsc:cur.size with
      | zero=>exact absurd hsc hcz
      | succ q=>
        cases hbc:bs.size with
        | zero=>exact absurd hbc hbz
        | succ q2=>
        rw[hsc] at hsb
        rw[hbc] at hsa
        simp[run_underlying ht,hsz',hz,hb1,hb2,frozen,noView,viewAt,mayBeOne,stringish,shape,Sem.run,hsa,hsb,hfb]
  refine⟨.bool false, ?_,by simp only[VR]⟩
  rw[ex] at ea
  have hfu:a.eval (.func f)= .func (.func f) #[] #[]:=rfl
  simp only[execOp,resolve,hfu,Deferred.ofValue,invoke,List.map_toArray,List.map_cons,List.map_nil,Sem.run_bind,Sem.run_pure,Result.andThen_ok,ex,ey]
  simp[run_callFunc_extern hf hname hb hn' he,hrun]
end
section
variable {α:Type} {c:α→List AV} {sz:Nat}
def pF (xs:List α) (i:Int) (x:α):Option (List α):=if 0≤i∧i≤(xs.length:Int)∧xs.length < 1000000000 then some (xs.take i.toNat++x::xs.drop i.toNat) else none
theorem lF {xs o:List α} {i:Int} {x:α} (h:pF xs i x=some o):0≤i∧i≤(xs.length:Int)∧xs.length < 1000000000∧o=xs.take i.toNat++x::xs.drop i.toNat:=by
 unfold pF at h
 split at h
 ·rename_i q; cases h; exact⟨q.1,q.2.1,q.2.2,rfl⟩
 ·cases h
theorem C5 {xs:List α} {x:α} (h:xs.length < 1000000000):app xs [x]=some (xs++ [x]):=by
 unfold app
 rw[if_pos (by simp only[List.length_append,List.length_singleton]; omega)]
theorem HF {P:Program} {n:Nat} {kvs:KV} {h:aF} {ty:TypeId} {pos:String} {dP:Array Edge} {dst:Option Tmp} {s:Nat} {lo:Operand} {t:TypeId} {g:cU} {m:Nat} {q:IntKind} {i:Int} (h0':0≤i) (h1':i≤(m:Int)) (ok:bK g sz m) (ht:nL P t=some sz) (ha:dK n kvs (.tmp s)=aw g.t g.n g.cap) (hb:dK n kvs lo= .sc (.int q i)):
    eK P ⟨dst,.slice t (.tmp s) (some lo) none none,ty,pos,dP,none⟩ .any (fm n kvs) h:=by
  rw[ok.eqn] at ha
  cases ht':g.t with
  | some k=>rw[ht'] at ha; exact YZ h0' h1' ht ha hb
  | none=>
    rw[ht'] at ha
    have:=ok.nil ht'
    have hi0:i=0:=by omega
    subst hi0
    have hT:D7 P t=true:=by simp[D7,ht]
    have ha:dK n kvs (.tmp s)= .e0:=ha
    refine fB (x:=.e0) (jZ (c:=(0:Int)=0∧(0:Int)=0) ?_ ⟨rfl,rfl⟩) (λ_ _ _ _ _=>by simp only[VR])
    simp only[pv,bN,ha,Option.map_some,hb,Option.map_none,BQ,ht,Option.bind_some,o5,lM,hT,if_true]
theorem n5 (hc:∀y,(c y).length=sz) {xs:List α} {i:Nat} (hi:i≤xs.length) (sp:List AV):
    fl c xs sp=((xs.take i).map c).flatten++(((xs.drop i).map c).flatten++sp)∧((xs.take i).map c).flatten.length=i*sz∧((xs.drop i).map c).flatten.length=(xs.length - i)*sz∧
      ∀(x:α) (sp':List AV),fl c (xs.take i++x::xs.drop i) sp'=((xs.take i).map c).flatten++(c x++(((xs.drop i).map c).flatten++sp')):=by
  refine⟨?_, ?_, ?_,λx sp'=> ?_⟩
  · unfold fl
    rw[← List.append_assoc,← List.flatten_append,← List.map_append,List.take_append_drop]
  · rw[jH hc,List.length_take]; congr 1; omega
  · rw[jH hc,List.length_drop]
  · unfold fl
    simp[List.map_append,List.flatten_append]
theorem fW {A B B' C:List AV} {n:Nat} (hn:A.length=n) (hb:B.length=B'.length):eD (A++(B++C)) n B'=A++(B'++C):=by
 subst hn
 unfold eD
 rw[List.take_left,← hb,← List.append_assoc A B C,show A.length+B.length=(A++B).length from by simp,List.drop_left]
 simp
end
section
variable {α β:Type} {l:α→List β} {sz szi:Nat} {ty:TypeId} {ci:β→List AV} {h0:aF} {L L':HL}
def lS (gs:List OG) (i:Nat) (og:OG):List OG:=gs.take i++og::gs.drop i
theorem FB {γ δ:Type}:∀(i:Nat) (xs:List γ) (gs:List δ),(xs.take i).zip (gs.take i)=(xs.zip gs).take i
 | 0,_,_=>by simp
 | i+1, [],_=>by simp
 | i+1,_::_, []=>by simp
 | i+1,x::xs,g::gs=>by simp[FB i xs gs]
theorem FC {γ δ:Type}:∀(i:Nat) (xs:List γ) (gs:List δ),(xs.drop i).zip (gs.drop i)=(xs.zip gs).drop i
 | 0,_,_=>by simp
 | i+1, [],_=>by simp
 | i+1,_::_, []=>by simp
 | i+1,x::xs,g::gs=>by simp[FC i xs gs]
theorem IP {xs:List α} {gs:List OG} (hl:gs.length=xs.length) (i:Nat) (x:α) (og:OG):zg (xs.take i++x::xs.drop i) (lS gs i og)=(zg xs gs).take i++(x,og)::(zg xs gs).drop i:=by
 unfold zg lS
 rw[List.zip_append (by simp[hl]),List.zip_cons_cons,FB,FC]
theorem QS {xs y:List α} {gs:List OG} (hl:gs.length=xs.length) {i:Int} {x:α} (og:OG) (h:pF xs i x=some y):pF (zg xs gs) i (x,og)=some (zg y (lS gs i.toNat og)):=by
 obtain⟨h1,h2,h3,rfl⟩:=lF h
 unfold pF
 rw[vL hl,if_pos ⟨h1,h2,h3⟩,IP hl]
theorem M4 {xs y:List α} {gs:List OG} (hl:gs.length=xs.length) {i:Int} {x:α} (og:OG) (h:pF xs i x=some y):(nl l (zg y (lS gs i.toNat og))).Perm ((l x,og)::nl l (zg xs gs)):=by
 obtain⟨h1,h2,h3,rfl⟩:=lF h
 rw[IP hl]
 unfold nl
 rw[List.map_append,List.map_cons]
 refine List.perm_middle.trans (List.Perm.cons _ ?_)
 rw[← List.map_append,List.take_append_drop]
theorem M5 {xs y:List α} {i:Int} {x:α} (h:pF xs i x=some y):y.length=xs.length+1:=by
 obtain⟨h1,h2,h3,rfl⟩:=lF h
 simp only[List.length_append,List.length_take,List.length_cons,List.length_drop]
 omega
theorem tB.ins {g:dH} {xs y:List α} (ok:tB l sz szi g xs) {i:Int} {x:α} (h:pF xs i x=some y) (hx:l x= []) {g':cU} (og:OG) (hog:∀g2,og=some g2→bK g2 szi 0) (ok':bK g' sz (zg y (lS g.gs i.toNat og)).length):tB l sz szi ⟨g',lS g.gs i.toNat og⟩ y:=by
 obtain⟨h1,h2,h3,e⟩:=lF h
 have hl:(lS g.gs i.toNat og).length=y.length:=by
  rw[M5 h,lS]
  have:=ok.len
  simp only[List.length_append,List.length_take,List.length_cons,List.length_drop]
  omega
 refine⟨by rw[vL hl] at ok'; exact ok',hl,λz hz g2 hg2=> ?_⟩
 have hz2:=(M4 (l:=l) ok.len og h).mem_iff.1 hz
 rcases List.mem_cons.1 hz2 with rfl | hz2
 ·simp only[hx]
  exact hog g2 hg2
 ·exact ok.el z hz2 g2 hg2
theorem mD.ins {g:dH} {xs y:List α} (ok:mD l sz szi g xs) {i:Int} {x:α} (h:pF xs i x=some y) (hx:l x= []) {g':cU} (ok':bK g' sz (zg y (lS g.gs i.toNat (some g0))).length):mD l sz szi ⟨g',lS g.gs i.toNat (some g0)⟩ y:=
 ⟨ok.k.ins h hx (some g0) (λg2 e=>by cases e; exact bK.g0 szi) ok',λog ho=>by
  unfold lS at ho
  rcases List.mem_append.1 ho with ho | ho
  ·exact ok.own og (List.mem_of_mem_take ho)
  ·rcases List.mem_cons.1 ho with rfl | ho
   ·exact nofun
   ·exact ok.own og (List.mem_of_mem_drop ho)⟩
theorem QT (hk:bV h0 L) (bl:List HL) (hL:iD bl=L) (b:Nat) {xs y:List α} {gs:List OG} (hl:gs.length=xs.length) {i:Int} {x:α} {og:OG} (hog:oT og=none) (h:pF xs i x=some y) (hb:bl[b]? =some (kK ty ci (nl l (zg xs gs))))
    (hL':iD (bl.set b (kK ty ci (nl l (zg y (lS gs i.toNat og)))))=L'):hp h0 L=hp h0 L'∧bV h0 L':=by
  subst hL hL'
  have p:(kK ty ci (nl l (zg y (lS gs i.toNat og)))).Perm ((none,.obj ty (fl ci (l x) (oS og)))::kK ty ci (nl l (zg xs gs))):=by
    have:=(M4 (l:=l) hl og h).map λz:List β×OG=>(oT z.2,iL.obj ty (fl ci z.1 (oS z.2)))
    simp only[List.map_cons,hog] at this
    exact this
  obtain⟨e1,k1⟩:=gZ (oU hb) hk
  have k2:bV h0 ((none,iL.obj ty (fl ci (l x) (oS og)))::(kK ty ci (nl l (zg xs gs))++(bl.eraseIdx b).flatten)):=⟨k1,nofun⟩
  obtain⟨e3,k3⟩:=gZ ((p.append_right _).symm.trans (pZ _ hb).symm) k2
  exact⟨e1.trans e3,k3⟩
end
end Go.Vm
namespace Go.Proofs.YtbbifdfldpfphaaGreat
open Go.Vm
def jK (y:aB×OG):List AV:=bL y.1.Id++([.sc (.bool y.1.Staged),.sl none 1 (List.map dF y.1.Data),awO aO 4 y.2 y.1.Locs]:List AV)
theorem iS:∀y,(jK y).length=35:=λy=>by first | rfl | simp[jK,bL,bO.len]
theorem FD:∀(H:aF) (y:aB×OG),Br H (awO aO 4 y.2 y.1.Locs) (.sl none 4 (y.1.Locs.map aO))→uD H (jK y) (aJ y.1):=λH y b=>uD.app 32 rfl (.cons (Br.refl _ _) (.cons (Br.refl _ _) (.cons b .nil)))
theorem n6:∀(H H':aF) (y:aB×OG),Fz H H' (awO aO 4 y.2 y.1.Locs) (.sl none 4 (y.1.Locs.map aO))→pI H H' (jK y) (aJ y.1):=λH H' y b=>pI.app 32 rfl (.cons (Fz.refl _ _ _) (.cons (Fz.refl _ _ _) (.cons b .nil)))
def kO (y:aH×OG):List AV:= [.sc (.int .i64 y.1.Seq),.sc (.string y.1.Man.Name),.sl none 3 (List.map bT y.1.Man.Parts),awO aO 4 y.2 y.1.Locs]
theorem kP:∀y,(kO y).length=4:=λy=>by first | rfl | simp[kO,bL,bO.len]
theorem qJ:∀(H H':aF) (y:aH×OG),Fz H H' (awO aO 4 y.2 y.1.Locs) (.sl none 4 (y.1.Locs.map aO))→pI H H' (kO y) (bP y.1):=λH H' y b=>.cons (Fz.refl _ _ _) (.cons (Fz.refl _ _ _) (.cons (Fz.refl _ _ _) (.cons b .nil)))
def lG (y:aQ×OG):List AV:= [.sc (.int .i64 y.1.Seq),.sc (.int .i64 y.1.Of),awO aO 4 y.2 y.1.Locs]
theorem oY:∀y,(lG y).length=3:=λy=>by first | rfl | simp[lG,bL,bO.len]
theorem UT:∀(H:aF) (y:aQ×OG),Br H (awO aO 4 y.2 y.1.Locs) (.sl none 4 (y.1.Locs.map aO))→uD H (lG y) (cF y.1):=λH y b=>.cons (Br.refl _ _) (.cons (Br.refl _ _) (.cons b .nil))
theorem vN:∀(H H':aF) (y:aQ×OG),Fz H H' (awO aO 4 y.2 y.1.Locs) (.sl none 4 (y.1.Locs.map aO))→pI H H' (lG y) (cF y.1):=λH H' y b=>.cons (Fz.refl _ _ _) (.cons (Fz.refl _ _ _) (.cons b .nil))
abbrev aV (g:cU) (e:List aB):Option cE×iL:=(g.t,.obj 44 (fl aJ e g.sp))
abbrev aW (g:dH) (e:List aB):Option cE×iL:=(g.a.t,.obj 44 (fl jK (zg e g.gs) g.a.sp))
abbrev a9 (g:dH) (e:List aB):HL:=kK 81 aO (nl aB.Locs (zg e g.gs))
abbrev aM (g:cU) (e:List aP):Option cE×iL:=(g.t,.obj 49 (fl cI e g.sp))
abbrev bF (g:cU) (e:List aH):Option cE×iL:=(g.t,.obj 60 (fl bP e g.sp))
abbrev bM (g:dH) (e:List aH):Option cE×iL:=(g.a.t,.obj 60 (fl kO (zg e g.gs) g.a.sp))
abbrev bQ (g:dH) (e:List aH):HL:=kK 81 aO (nl aH.Locs (zg e g.gs))
abbrev fH (g:cU) (e:List bG):Option cE×iL:=(g.t,.obj 81 (fl aO e g.sp))
abbrev bX (g:cU) (e:List aQ):Option cE×iL:=(g.t,.obj 99 (fl cF e g.sp))
abbrev bR (g:dH) (e:List aQ):Option cE×iL:=(g.a.t,.obj 99 (fl lG (zg e g.gs) g.a.sp))
abbrev bS (g:dH) (e:List aQ):HL:=kK 81 aO (nl aQ.Locs (zg e g.gs))
abbrev OC (k:cE) (q:Int) (a b c d:cU):Option cE×iL:=(some k,.obj 30 [.sc (.int .i64 q),aw a.t a.n a.cap,aw b.t b.n b.cap,aw c.t c.n c.cap,aw d.t d.n d.cap])
open Go.Vm
def lT {α:Type} (m:Nat) (p0:List α) (p1:α→Option Bool) (q0:Int):Option (Lp (Int) (Int)):=
 if (decide (q0 < (p0.length:Int)))=true then ((ix p0 q0).bind λx0=>(p1 x0).bind λy0=>if y0=true then (some (.ret q0)) else some (.go (IntKind.wrap .i64 (q0+1)))) else some (.brk q0)
def p4 {α:Type} (m:Nat) (p0:List α) (p1:α→Option Bool):Option (Int):=
 after (aT (λs=>lT m p0 p1 s) m 0) λr0=>some (-1)
theorem ZA {α:Type} {c:α→List AV} (cz:∀y,(c y).length=4) {w:Nat} {p0:List α} {p1:α→Option Bool} {o:Int} (h:aF) {g_p0:cU} (ok_p0:bK g_p0 4 p0.length) (K0:bV h [(g_p0.t,.obj 60 (fl c (p0:List α) g_p0.sp))]) {p1F:Nat} {p1C:List AV} (p1B:aN Tryz.prog p1F=true) (p1H:∀x0 o h0,iG h h0→p1 x0=some o→aL Tryz.prog p1F ([.agg (c x0)]++p1C) h0 (λr h'=>r= .sc (.bool o)∧h'=h0)) (m:p4 w p0 p1=some o):
 aL Tryz.prog 103 [aZ g_p0,.fn (.func p1F) p1C] (hp h [(g_p0.t,.obj 60 (fl c (p0:List α) g_p0.sp))]) (λr h'=>r=nZ o∧h'=hp h [(g_p0.t,.obj 60 (fl c (p0:List α) g_p0.sp))]):=by
 refine uE K0 19 [.tmp 4] Tryz.func103 rfl rfl rfl rfl ?_
 unfold p4 at m
 refine vs (v0 (vs (vs (v0 (bW (dQ jQ ok_p0 rfl) ?_)))))
 refine jN m (σ:=Int) (λs=> [(g_p0.t,.obj 60 (fl c (p0:List α) g_p0.sp))]) (λs=>.c 0 (aZ g_p0) (.c 1 (.fn (.func p1F) p1C) (.c 7 (nZ (p0.length:Int)) (.c 8 (nZ s) .nil)))) (lx (.k4 .nil)) ?_ ?_
 rintro _ q0 x m
 replace m:lT w p0 p1 q0=some x:=m
 unfold lT at m
 refine vs (v0 (vs (v0 ?_)))
 apply vi m <;> intro c0 m
 refine v0 (vs (v0 (vs (v0 (vs (v0 ?_))))))
 obtain⟨x1,X0,m⟩:=aC m
 refine bW (cP X0 iJ ok_p0 rfl rfl) (vn (λu=>dW (fo:=0) (.agg (c x1)) X0 cz ok_p0 rG rfl (aI 0 u rfl) (λ_=>QR (cz _))) ?_)
 obtain⟨_,Y0,m⟩:=aC m
 refine vn (λu=>cC (p1H _ _ _ (aS (List.nil_sublist _) u).1 Y0) rfl p1B rfl) (v0 ?_)
 apply vi m <;> intro c1 m
 refine vs (v0 (v0 ?_))
 refine fZ m λm=> ?_
 obtain rfl:=eE m
 exact vr λu=>dX.of1 (.inl rfl) (fT _ _ (.sc (.int _ _)) rfl) (bI u [0] rfl).2 (bJ.refl _ _) ⟨rfl,rfl⟩
 refine v0 (v0 ?_)
 exact f8 m
 refine v0 ?_
 exact wS m
 rintro _ r0 m
 refine vs (v0 (v0 ?_))
 cases m
 exact vr λu=>dX.of1 (.inl rfl) (fT _ _ (.sc (.int _ _)) rfl) (bI u [0] rfl).2 (bJ.refl _ _) ⟨rfl,rfl⟩
theorem J9 {m:Nat} {α β:Type} (f:α→β) (xs:List α) (p:β→Option Bool):p4 m (xs.map f) p=p4 m xs (λx=>p (f x)):=by
 have h1:lT m (xs.map f) p=lT m xs (λx=>p (f x)):=by
   funext s; unfold lT; rw[List.length_map,UO]; cases ix xs s <;> rfl
 unfold p4
 simp only[h1]
theorem M6 {m:Nat} {α:Type} {xs:List α} {gs:List OG} (hl:gs.length=xs.length) {p:α→Option Bool} {o:Int} (h:p4 m xs p=some o):p4 m (zg xs gs) (λx=>p x.1)=some o:=UP (F:=λl=>p4 m l p) hl (J9 Prod.fst (zg xs gs) p) h
def M8 (m:Nat) (p0:aH) (c0:aU):Option (Bool):=
 some (p0.Seq==c0.Seq)
theorem ZB:aN Tryz.prog 177=true:=by kernel_rfl
theorem ZC {w:Nat} {p0:aH} {c0:aU} {o:Bool} (h:aF) {og0:OG} {c0K:cE} (c0H:h c0K=some (.obj 38 (a8 c0))) (m:M8 w p0 c0=some o):
 aL Tryz.prog 177 [.agg (kO (p0,og0)),.ptr c0K 0] h (λr h'=>r= .sc (.bool o)∧h'=h):=by
 refine fQ 9 [.tmp 3] Tryz.func177 rfl rfl rfl rfl ?_
 unfold M8 at m
 refine v ?_
 refine ve λu=>RP u rfl (by repeat (first | exact rfl | refine cG (gG _ _ _ _) ?_ | refine cG rfl ?_)) λk2 K3=>qk K3 rfl ?_
 refine v (vl 0 _ bZ rfl rfl rfl (vn (λu=>o6 (nZ c0.Seq) bZ rfl (kN u c0H) rfl) (v ?_)))
 cases m
 exact dU rfl
def C6 (m:Nat) (p0:aQ) (p1:Int):Option (Int):=
 some (IntKind.wrap .i64 (p0.Seq - p1))
theorem aFA {u:Nat} {p0:aQ} {p1:Int} {o:Int} (h:aF) (m:C6 u p0 p1=some o):
 aL Tryz.prog 179 [.agg (cF p0),nZ p1] h (λr h'=>r=nZ o∧h'=h):=by
 refine fQ 9 [.tmp 4] Tryz.func179 rfl rfl rfl rfl ?_
 unfold C6 at m
 refine v ?_
 refine gO rfl rfl λk2 K3=> ?_
 refine v (vl 0 _ bZ rfl rfl rfl (v ?_))
 cases m
 exact dU rfl
theorem ZD:aN Tryz.prog 179=true:=by kernel_rfl
def tE (m:Nat) (p0:List aQ) (p1:Int) (p2:aQ→Int→Option Int) (q0:Int) (q1:Int):Option (Lp (Int×Int) (Int×Bool)):=
 if (decide (q0 < q1))=true then ((ix p0 (IntKind.wrap .i64 ((IntKind.wrap .u64 (IntKind.wrap .i64 (q0+q1))).fdiv (2 ^ (min (1:Int).toNat (IntKind.bits .u64)))))).bind λx0=>(p2 x0 p1).bind λy0=>after (if (decide (y0 < 0))=true then (some (.brk (IntKind.wrap .i64 ((IntKind.wrap .i64 ((IntKind.wrap .u64 (IntKind.wrap .i64 (q0+q1))).fdiv (2 ^ (min (1:Int).toNat (IntKind.bits .u64)))))+1),q1))) else some (.brk (q0,IntKind.wrap .i64 ((IntKind.wrap .u64 (IntKind.wrap .i64 (q0+q1))).fdiv (2 ^ (min (1:Int).toNat (IntKind.bits .u64)))))):Option (Lp (Int×Int) (Lp (Int×Int) (Int×Bool)))) λ⟨j0,j1⟩=>some (.go (j0,j1))) else some (.brk (q0,q1))
def M9 (m:Nat) (p0:List aQ) (p1:Int) (p2:aQ→Int→Option Int):Option (Int×Bool):=
 after (aT (λs=>tE m p0 p1 p2 s.1 s.2) m (0,(p0.length:Int))) λ⟨r0,r1⟩=>after (if (decide (r0 < (p0.length:Int)))=true then ((ix p0 r0).bind λx0=>(p2 x0 p1).bind λy0=>some (.brk (r0,(y0==0)))) else some (.brk (r0,false)):Option (Lp (Int×Bool) (Int×Bool))) λ⟨j0,j1⟩=>some (j0,j1)
theorem aFB {w:Nat} {p0:List aQ} {p1:Int} {p2:aQ→Int→Option Int} {o:Int×Bool} (h:aF) {p2F:Nat} {p2C:List AV} (p2B:aN Tryz.prog p2F=true) (p2H:∀x0 x1 o h0,iG h h0→p2 x0 x1=some o→aL Tryz.prog p2F ([.agg (cF x0),nZ x1]++p2C) h0 (λr h'=>r=nZ o∧h'=h0)) (m:M9 w p0 p1 p2=some o):
 aL Tryz.prog 178 [.sl none 3 (List.map cF p0),nZ p1,.fn (.func p2F) p2C] h (λr h'=>r= .tup [nZ o.1,.sc (.bool o.2)]∧h'=h):=by
 refine fQ 49 [.tmp 6,.tmp 7] Tryz.func178 rfl rfl rfl rfl ?_
 unfold M9 at m
 refine v (v (dE nW rfl (v (vs ?_))))
 refine jN m (σ:=Int×Int) (λs=> []) (λs=>.c 0 (.sl none 3 (List.map cF p0)) (.c 1 (nZ p1) (.c 2 (.fn (.func p2F) p2C) (.c 8 (nZ (p0.length:Int)) (.c 9 (nZ s.1) (.c 10 (nZ s.2) .nil)))))) (lx (.k6 .nil)) ?_ ?_
 rintro _ ⟨q0,q1⟩ x m
 replace m:tE w p0 p1 p2 q0 q1=some x:=m
 unfold tE at m
 refine v (v ?_)
 apply vi m <;> intro c0 m
 refine v (v (v (v ?_)))
 refine vx m iE rfl rfl λx2 _ m=> ?_
 refine va (.agg (cF x2)) rH rfl rfl ?_
 obtain⟨_,Y0,m⟩:=aC m
 refine vn (λu=>cC (p2H _ _ _ _ (aS (List.nil_sublist _) u).1 Y0) rfl p2B rfl) ?_
 refine fL m (σ:=Int×Int) (λs=> []) (λs=>.c 0 (.sl none 3 (List.map cF p0)) (.c 1 (nZ p1) (.c 2 (.fn (.func p2F) p2C) (.c 8 (nZ (p0.length:Int)) (.c 9 (nZ s.1) (.c 10 (nZ s.2) .nil)))))) (λx m=> ?_) ?_
 refine v ?_
 apply vi m <;> intro c1 m
 refine v ?_
 exact rD m
 refine v ?_
 exact rD m
 rintro _ ⟨j0,j1⟩ m
 exact rD m
 refine v ?_
 exact bq6 m
 rintro _ ⟨r0,r1⟩ m
 refine vs ?_
 refine fL m (σ:=Int×Bool) (λs=> []) (λs=>.c 6 (nZ s.1) (.c 7 (.sc (.bool s.2)) .nil)) (λx m=> ?_) ?_
 refine v ?_
 apply vi m <;> intro b0 m
 rw[b0]
 refine vx m iE rfl rfl λx3 _ m=> ?_
 refine va (.agg (cF x3)) rH rfl rfl ?_
 obtain⟨_,Y1,m⟩:=aC m
 refine vn (λu=>cC (p2H _ _ _ _ (aS (List.nil_sublist _) u).1 Y1) rfl p2B rfl) ?_
 exact rC m
 rw[b0]
 exact rC m
 rintro _ ⟨j2,j3⟩ m
 refine v ?_
 cases m
 exact vr2 rfl rfl
theorem ZE:aN Tryz.prog 178=true:=by kernel_rfl
end Go.Proofs.YtbbifdfldpfphaaGreat
namespace Go.Vm
section
variable {P:Program} {ops:Array Oper} {h h0:aF} {L:HL} {n:Nat} {kvs:KV} {l:List Oper} {ty:TypeId} {pos:String} {dP:Array Edge}
theorem NA {K:AV→aF→Prop} {dst:Option Tmp} {s x:Operand} {t e:TypeId} {sz b:Nat} (ht:kV P t e sz b) {k:cE} {i m cap:Nat} {cs ys:List AV} (ha:dK n kvs s= .vw k i cap) (hk:h k=some (.obj e cs))
    (hs:BI h (dK n kvs x) m ys.length ys) (hl:ys.length=m*sz) (hroom:i+m≤cap) (hfit:i*sz+ys.length≤cs.length)
    (hK:K (.vw k (i+m) cap) (upd h k (some (.obj e (eD cs (i*sz) ys))))):
    i7 P ⟨dst,.call { callee:=.builtin .append,args:= #[s,x],argTypes:= #[t,t]},ty,pos,dP,none⟩ K (fm n kvs) h:=by
  obtain⟨ii,z,hii,hz,rfl,rfl,hzs,hsp⟩:=ht.inf
  intro E w a r hv Nx Qx hn
  have vs:=hv s (by simp[Op.operands,Call.operands])
  have vx:=hv x (by simp[Op.operands,Call.operands])
  rw[bN] at vs vx
  rw[ha] at vs
  simp only[VR] at vs
  obtain⟨g,hg,es,h1,h2⟩:=vs
  obtain⟨sa,sc,cv,ex,c1,c2,c3⟩:=hs E w _ r vx
  obtain⟨g',cur,f1,f2,f3,f4⟩:=r.obj _ _ _ hk
  rw[hg] at f1; cases f1
  have hlen:cs.length=cur.size:=by simpa using dA f3
  have hcl:ys.length=cv.length:=dA c1
  have hrun:=run_append_room (P:=P) w t ty e ii ht.ut hii g i cap cur f2 sa m sc cv (by rw[← hcl]; exact hl) c3 c2 hroom (by omega)
  have hv':cZ E w (eD cs (i*ii.size) ys) (cur.toList.take (i*ii.size)++cv++cur.toList.drop (i*ii.size+cv.length)):=by
    unfold eD
    rw[hcl]
    exact dB (dB (fN _ f3) c1) (iM _ f3)
  have h1':∀u∈cur.toList.take (i*ii.size)++cv++cur.toList.drop (i*ii.size+cv.length),u.oneCell'=true:=by
    intro u hu
    rcases List.mem_append.1 hu with hu | hu
    · rcases List.mem_append.1 hu with hu | hu
      · exact f4 u (List.mem_of_mem_take hu)
      · exact c2 u hu
    · exact f4 u (List.mem_of_mem_drop hu)
  obtain⟨k1,k2⟩:=r.set_obj (cur:=(cur.toList.take (i*ii.size)++cv++cur.toList.drop (i*ii.size+cv.length)).toArray) hk hg
    (w':=w.setRow g (cur.toList.take (i*ii.size)++cv++cur.toList.drop (i*ii.size+cv.length)).toArray)
    (setRow_heap w g cur _ e _ f2) (λg' hg'=>setRow_other w g g' _ hg') (by simp) rfl rfl rfl (by simpa using hv') (by simpa using h1')
  unfold Oper.wp
  have hex:(execOp a.eval ⟨dst,.call { callee:=.builtin .append,args:= #[s,x],argTypes:= #[t,t]},ty,pos,dP,none⟩).run P w= .ok (.value (.slice (some ⟨g,0,none⟩) (i+m) cap)) (w.setRow g (cur.toList.take (i*ii.size)++cv++cur.toList.drop (i*ii.size+cv.length)).toArray):=by
    simp only[execOp,resolve,invoke,builtin,List.map_toArray,List.map_cons,List.map_nil,es,ex,Sem.run_bind,Sem.run_pure,Result.andThen_ok,hrun]
  rw[hex]
  refine hn (.vw k (i+m) cap) _ _ E _ k1 k2 ?_ hK
  simp only[VR]
  exact⟨g,hg,rfl,hroom,h2⟩
theorem NB {K:AV→aF→Prop} {dst:Option Tmp} {s x:Operand} {t e:TypeId} {sz b:Nat} (ht:kV P t e sz b) {k:cE} {i cap:Nat} (ha:dK n kvs s= .vw k i cap) (hx:dK n kvs x= .sl none sz []) (hK:K (.vw k i cap) h):
    i7 P ⟨dst,.call { callee:=.builtin .append,args:= #[s,x],argTypes:= #[t,t]},ty,pos,dP,none⟩ K (fm n kvs) h:=by
  intro E w a r hv Nx Qx hn
  have vs:=hv s (by simp[Op.operands,Call.operands])
  have vx:=hv x (by simp[Op.operands,Call.operands])
  rw[bN] at vs vx
  rw[ha] at vs; rw[hx] at vx
  have vs2:=vs
  simp only[VR] at vs vx
  obtain⟨g,hg,es,h1,h2⟩:=vs
  obtain⟨a0,cx,ex, -⟩:=vx
  have hr:=iN (P:=P) (w:=w) (ty:=ty) ht (.inr ⟨_,cap,es,h1⟩) ex
  unfold Oper.wp
  rw[gR rfl hr]
  exact hn _ _ _ E _ (eP.refl E w) r vs2 hK
theorem UU {dst:Option Tmp} {s:Nat} {lo hi mx:Operand} {t:TypeId} {k:cE} {m cap sz:Nat} {q q2 q3:IntKind} {i j u:Int} (h0':0≤i) (h1':i≤j) (h2':j≤u) (h3':u≤(cap:Int)) (ht:nL P t=some sz) (ha:dK n kvs (.tmp s)= .vw k m cap) (hb:dK n kvs lo= .sc (.int q i)) (hc:dK n kvs hi= .sc (.int q2 j)) (hd:dK n kvs mx= .sc (.int q3 u)):
    eK P ⟨dst,.slice t (.tmp s) (some lo) (some hi) (some mx),ty,pos,dP,none⟩ .any (fm n kvs) h:=by
  obtain⟨e,hu,he⟩:=fO ht
  refine dZ (x:=.any) (λE w ac r hv=> ?_) ⟨rfl,rfl⟩
  have va:=hv (.tmp s) (by simp[Op.operands])
  have vb:=hv lo (by simp[Op.operands])
  have vc:=hv hi (by simp[Op.operands])
  have vd:=hv mx (by simp[Op.operands])
  rw[bN,ha] at va; rw[bN,hb] at vb; rw[bN,hc] at vc; rw[bN,hd] at vd
  simp only[VR] at va vb vc vd
  obtain⟨g,hg,e1,e2,e3⟩:=va
  have hm:u≤9223372036854775807:=by simp only[maxLen] at e3; omega
  have bnd:∀(q:IntKind) (z:Int) (lim:Nat) (code:BoundsCode),0≤z→z≤(lim:Int)→(Instr.sliceBound (.int q z) lim code).run P w= .ok z.toNat w:=by
    intro q z lim code hz hl
    have n1:0≤z∧z≤(lim:Int):=⟨hz,hl⟩
    simp only[Instr.sliceBound,asIntOf,Sem.run_bind,Sem.run_pure,Result.andThen_ok,if_pos n1]
  have hb1:=bnd q3 u cap BoundsCode.slice3Acap (by omega) h3'
  have hb2:=bnd q2 j u.toNat BoundsCode.slice3B (by omega) (by omega)
  have hb3:=bnd q i j.toNat BoundsCode.slice3C h0' (by omega)
  refine⟨.slice (if u.toNat=i.toNat then some ⟨g,0,none⟩ else some (Addr.add ⟨g,0,none⟩ (i.toNat*sz))) (j.toNat - i.toNat) (u.toNat - i.toNat), ?_,by simp only[VR]⟩
  simp[execOp,e1,vb,vc,vd,Instr.sliceAt,Instr.slice,Instr.sliceBounds,run_underlying hu,cQ he,hb1,hb2,hb3]
theorem SE {dst:Option Tmp} {s:Nat} {lo hi:Operand} {t:TypeId} {k:cE} {m cap sz:Nat} {q q2:IntKind} {i j:Int} (h0':0≤i) (h1':i < j) (h2':j≤(cap:Int)) (ht:nL P t=some sz) (ha:dK n kvs (.tmp s)= .vw k m cap) (hb:dK n kvs lo= .sc (.int q i)) (hc:dK n kvs hi= .sc (.int q2 j)):
    eK P ⟨dst,.slice t (.tmp s) (some lo) (some hi) none,ty,pos,dP,none⟩ (.view k (i.toNat*sz) (j.toNat - i.toNat)) (fm n kvs) h:=by
  obtain⟨e,hu,he⟩:=fO ht
  refine dZ (x:=.view k (i.toNat*sz) (j.toNat - i.toNat)) (λE w ac r hv=> ?_) ⟨rfl,rfl⟩
  have va:=hv (.tmp s) (by simp[Op.operands])
  have vb:=hv lo (by simp[Op.operands])
  have vc:=hv hi (by simp[Op.operands])
  rw[bN,ha] at va; rw[bN,hb] at vb; rw[bN,hc] at vc
  simp only[VR] at va vb vc
  obtain⟨g,hg,e1,e2,e3⟩:=va
  have hbd:=fU (P:=P) (w:=w) (sl:=true) (len:=m) (cap:=cap) (l:=i) (h:=j) (lo:=some (.sc (.int q i))) (hi:=some (.sc (.int q2 j))) (lv:=some (.int q i)) (hv:=some (.int q2 j)) rfl rfl (E:=E) (λx hx=>by cases hx; exact⟨_,rfl,by simp only[VR]⟩) nofun
    (λx hx=>by cases hx; exact⟨_,rfl,by simp only[VR]⟩) nofun h0' (by omega) h2'
  have hne:¬cap=i.toNat:=by omega
  refine⟨.slice (some ⟨g,i.toNat*sz,none⟩) (j.toNat - i.toNat) (cap - i.toNat), ?_, ?_⟩
  · simp[execOp,e1,vb,vc,Instr.sliceAt,Instr.slice,run_underlying hu,hbd,cQ he,hne,Addr.add_lit]
  · simp only[VR]
    exact⟨g,cap - i.toNat,hg,rfl,by omega,by omega⟩
theorem ZF {dst:Option Tmp} {s:Nat} {lo:Operand} {t:TypeId} {k:cE} {m cap sz:Nat} {q:IntKind} (ht:nL P t=some sz) (ha:dK n kvs (.tmp s)= .vw k m cap) (hb:dK n kvs lo= .sc (.int q (m:Int))):
    eK P ⟨dst,.slice t (.tmp s) (some lo) none none,ty,pos,dP,none⟩ (.sl none sz []) (fm n kvs) h:=by
  obtain⟨e,hu,he⟩:=fO ht
  refine dZ (x:=.sl none sz []) (λE w ac r hv=> ?_) ⟨rfl,rfl⟩
  have va:=hv (.tmp s) (by simp[Op.operands])
  have vb:=hv lo (by simp[Op.operands])
  rw[bN,ha] at va; rw[bN,hb] at vb
  simp only[VR] at va vb
  obtain⟨g,hg,e1,e2,e3⟩:=va
  have hbd:=fU (P:=P) (w:=w) (sl:=true) (len:=m) (cap:=cap) (l:=(m:Int)) (h:=m) (lo:=some (.sc (.int q (m:Int)))) (hi:=none) (lv:=some (.int q (m:Int))) (hv:=none) rfl rfl (E:=E) (λx hx=>by cases hx; exact⟨_,rfl,by simp only[VR]⟩) nofun
    nofun (λ_=>rfl) (by omega) (by omega) (by omega)
  refine⟨.slice (if cap=m then some ⟨g,0,none⟩ else some (Addr.add ⟨g,0,none⟩ (m*sz))) 0 (cap - m), ?_, ?_⟩
  · simp[execOp,e1,vb,Instr.sliceAt,Instr.slice,run_underlying hu,hbd,cQ he]
  · simp only[VR]
    exact⟨_,_,rfl,Nat.zero_le _,by omega,.inl trivial,nofun,nofun⟩
def KA {α:Type} (xs:List α) (i j:Int):Option (List α):=if 0≤i∧i < j∧j≤(xs.length:Int) then some (xs.take i.toNat++xs.drop j.toNat) else none
theorem KB {α:Type} {xs o:List α} {i j:Int} (h:KA xs i j=some o):0≤i∧i < j∧j≤(xs.length:Int)∧o=xs.take i.toNat++xs.drop j.toNat:=by
 unfold KA at h
 split at h
 ·rename_i q; cases h; exact⟨q.1,q.2.1,q.2.2,rfl⟩
 ·cases h
theorem FE {α:Type} {c:α→List AV} {sz:Nat} (hc:∀y,(c y).length=sz) {xs:List α} {m:Nat} (hm:m≤xs.length) (sp:List AV):(fl c xs sp).drop (m*sz)=fl c (xs.drop m) sp:=by
 obtain⟨q1,q2,q3,q4⟩:=n5 hc hm sp
 rw[q1,← q2,List.drop_left]
 rfl
theorem HG {α:Type} {c:α→List AV} {sz:Nat} (hc:∀y,(c y).length=sz) {xs:List α} {i j:Nat} (hij:i≤j) (hj:j≤xs.length) (sp:List AV):
    eD (fl c xs sp) (i*sz) ((xs.drop j).map c).flatten=fl c (xs.take i++xs.drop j++xs.drop (i+(xs.length - j))) sp:=by
  obtain⟨q1,q2,q3,q4⟩:=n5 hc (i:=i) (by omega:i≤xs.length) sp
  unfold eD
  rw[jH hc,List.length_drop,← Nat.add_mul,FE hc (by omega),q1,← q2,List.take_left]
  unfold fl
  simp[List.map_append,List.flatten_append]
end
end Go.Vm
namespace Go.Proofs.YtbbifdfldpfphaaGreat
open Go.Vm
def nA (m:Nat) (p0:List aH) (p1:aH→Option Bool) (q0:Int):Option (Lp (Int) (Int)):=
 if (decide (q0 < (p0.length:Int)))=true then ((ix p0 q0).bind λx0=>(p1 x0).bind λy0=>if y0=true then (some (.ret q0)) else some (.go (IntKind.wrap .i64 (q0+1)))) else some (.brk q0)
def vW (m:Nat) (p0:List aH) (p1:aH→Option Bool):Option (Int):=
 after (aT (λs=>nA m p0 p1 s) m 0) λr0=>some (-1)
theorem SF {w:Nat} {p0:List aH} {p1:aH→Option Bool} {o:Int} (h:aF) {g_p0:cU} (ok_p0:bK g_p0 4 p0.length) (K0:bV h [(dO g_p0 p0)]) {p1F:Nat} {p1C:List AV} (p1B:aN Tryz.prog p1F=true) (p1H:∀x0 o h0,iG h h0→p1 x0=some o→aL Tryz.prog p1F ([.agg (bP x0)]++p1C) h0 (λr h'=>r= .sc (.bool o)∧h'=h0)) (m:vW w p0 p1=some o):
 aL Tryz.prog 103 [aZ g_p0,.fn (.func p1F) p1C] (hp h [(dO g_p0 p0)]) (λr h'=>r=nZ o∧h'=hp h [(dO g_p0 p0)]):=by
 refine uE K0 19 [.tmp 4] Tryz.func103 rfl rfl rfl rfl ?_
 unfold vW at m
 refine vs (v0 (vs (vs (v0 (bW (dQ jQ ok_p0 rfl) ?_)))))
 refine jN m (σ:=Int) (λs=> [(dO g_p0 p0)]) (λs=>.c 0 (aZ g_p0) (.c 1 (.fn (.func p1F) p1C) (.c 7 (nZ (p0.length:Int)) (.c 8 (nZ s) .nil)))) (lx (.k4 .nil)) ?_ ?_
 rintro _ q0 x m
 replace m:nA w p0 p1 q0=some x:=m
 unfold nA at m
 refine vs (v0 (vs (v0 ?_)))
 apply vi m <;> intro c0 m
 refine v0 (vs (v0 (vs (v0 (vs (v0 ?_))))))
 obtain⟨x1,X0,m⟩:=aC m
 refine bW (cP X0 iJ ok_p0 rfl rfl) (vn (λu=>dW (fo:=0) (.agg (bP x1)) X0 eJ ok_p0 rG rfl (aI 0 u rfl) (λ_=>rfl)) ?_)
 obtain⟨_,Y0,m⟩:=aC m
 refine vn (λu=>cC (p1H _ _ _ (aS (List.nil_sublist _) u).1 Y0) rfl p1B rfl) (v0 ?_)
 apply vi m <;> intro c1 m
 refine vs (v0 (v0 ?_))
 refine fZ m λm=> ?_
 obtain rfl:=eE m
 exact vr λu=>dX.of1 (.inl rfl) (fT _ _ (.sc (.int _ _)) rfl) (bI u [0] rfl).2 (bJ.refl _ _) ⟨rfl,rfl⟩
 refine v0 (v0 ?_)
 exact f8 m
 refine v0 ?_
 exact wS m
 rintro _ r0 m
 refine vs (v0 (v0 ?_))
 cases m
 exact vr λu=>dX.of1 (.inl rfl) (fT _ _ (.sc (.int _ _)) rfl) (bI u [0] rfl).2 (bJ.refl _ _) ⟨rfl,rfl⟩
def VW (m:Nat) (p0:aA) (p1:aR):Option (Int×(List aP)):=
 after (if (decide (p1.Vol < 0))=true then (some (.brk true)) else if (decide ((p0.Vols.length:Int)≤p1.Vol))=true then (some (.brk true)) else (ix p0.Vols p1.Vol).bind λx0=>some (.brk (x0.State !=3)):Option (Lp (Bool) (Int×(List aP)))) λj0=>if j0=true then (some (1,p0.Vols)) else (ix p0.Vols p1.Vol).bind λx1=>(ix (p0.Vols.set p1.Vol.toNat ({ x1 with State:=1})) p1.Vol).bind λx2=>(ix (p0.Vols.set p1.Vol.toNat ({ x1 with State:=1})) p1.Vol).bind λx3=>some (0,(p0.Vols.set p1.Vol.toNat ({ x1 with State:=1})).set p1.Vol.toNat ({ x3 with Epoch:=IntKind.wrap .i64 (x2.Epoch+1)}))
theorem W76 {w:Nat} {p0:aA} {p1:aR} {o:Int×(List aP)} (h:aF) {p0K:cE} {gS:cU} (ok_Snaps:bK gS 4 p0.Snaps.length) {gC:cU} (oC:bK gC 35 p0.Chunks.length) {gE:cU} (oE:bK gE 3 p0.Exps.length) {gV:cU} (oV:bK gV 4 p0.Vols.length) (K0:bV h [OC p0K p0.Seq gS gC gE gV,bF gS p0.Snaps,aV gC p0.Chunks,bX gE p0.Exps,aM gV p0.Vols]) (m:VW w p0 p1=some o):
 aL Tryz.prog 76 [.ptr p0K 0,.agg (aD p1)] (hp h [OC p0K p0.Seq gS gC gE gV,bF gS p0.Snaps,aV gC p0.Chunks,bX gE p0.Exps,aM gV p0.Vols]) (λr h'=>∃g_Vols':cU,bK g_Vols' 4 (o.2:List aP).length∧bV h [OC p0K p0.Seq gS gC gE g_Vols',bF gS p0.Snaps,aV gC p0.Chunks,bX gE p0.Exps,aM g_Vols' o.2]∧r=nZ o.1∧h'=hp h [OC p0K p0.Seq gS gC gE g_Vols',bF gS p0.Snaps,aV gC p0.Chunks,bX gE p0.Exps,aM g_Vols' o.2]):=by
 refine uE K0 50 [.tmp 4] Tryz.func76 rfl rfl rfl rfl ?_
 unfold VW at m
 refine vs (v0 ?_)
 refine gO rfl rfl λk2 K3=> ?_
 refine vs (vs ?_)
 refine fL m (σ:=Bool) (λs=> [(some k2,.obj 62 (aD p1)),OC p0K p0.Seq gS gC gE gV,bF gS p0.Snaps,aV gC p0.Chunks,bX gE p0.Exps,aM gV p0.Vols]) (λs=>.c 0 (.ptr p0K 0) (.c 3 (.ptr k2 0) (.c 29 (.sc (.bool s)) .nil))) (λx m=> ?_) ?_
 refine v0 (wU (by kernel_rfl) (dN fG rfl rfl (vl 0 _ bZ rfl rfl rfl ?_)))
 apply vi m <;> intro b0 m
 rw[b0]
 exact gK m
 rw[b0]
 refine dN fG rfl rfl (vl 0 _ bZ rfl rfl rfl (jM rfl (dN fP rfl rfl (vl 1 (aZ gV) iP rfl rfl rfl (bW (dQ rE oV rfl) ?_)))))
 apply vi m <;> intro b1 m
 rw[b1]
 exact gK m
 rw[b1]
 refine jM rfl (dN fP rfl rfl (vl 1 (aZ gV) iP rfl rfl rfl (dN fG rfl rfl (vl 0 _ bZ rfl rfl rfl ?_))))
 obtain⟨x0,X0,m⟩:=aC m
 refine bW (cP X0 lQ oV rfl rfl) (bW (cV (bK.ne oV X0) m5 rfl rfl) (vn (λu=>dW (fo:=2) (nZ x0.State) X0 eA oV bZ rfl (aI 5 u rfl) (λ_=>rfl)) ?_))
 exact gK m
 rintro _ j0 m
 refine v0 ?_
 apply vi m <;> intro c0 m
 refine vs (v0 (v0 ?_))
 cases m
 exact vr λu=>dX.of1 (.inl rfl) (fT _ _ (.sc (.int _ _)) rfl) (bI u [1,2,3,4,5] rfl).2 (bJ.refl _ _) ⟨gV,oV,(bI u [1,2,3,4,5] rfl).1,rfl,rfl⟩
 refine v0 (vs (v0 ?_))
 refine vz [(1000000,some p0K,.obj 30 ([nZ p0.Seq,aZ gS,aZ gC,aZ gE,aZ gV])),(1000000,some k2,.obj 62 (aD p1))] mixed (λu=>⟨λ_=>aI 1 u rfl,λ_=>aI 0 u rfl,trivial⟩) λu=> ?_
 refine zP 0 rfl rfl ?_
 refine zN 1 rfl rfl ?_
 refine zF 2 rfl fP rfl ?_
 refine zL 3 0 (aZ gV) rfl iP rfl rfl rfl ?_
 refine zF 4 rfl fG rfl ?_
 refine zL 5 1 (nZ p1.Vol) rfl bZ rfl rfl rfl ?_
 obtain⟨x1,X1,m⟩:=aC m
 refine zC 6 rfl (cP X1 lQ oV rfl rfl) ?_
 refine zC 7 rfl (cV (bK.ne oV X1) m5 rfl rfl) ?_
 refine zE 8 rfl (cK (fo:=2) ({ x1 with State:=1}:aP) 5 u X1 eA oV rfl rfl rfl rfl (cX.refl _ _) AA rfl rfl λK1=>⟨⟨λ_=>aI 1 K1 rfl,λ_=>aI 0 K1 rfl,trivial⟩, ?_⟩)
 refine zX (qk (f:=PW 37 _ _ _ _ _ _ _ _ _) K1 rfl ?_)
 refine vs (v0 ?_)
 refine vz [(1000000,some p0K,.obj 30 ([nZ p0.Seq,aZ gS,aZ gC,aZ gE,aZ gV])),(1000000,some k2,.obj 62 (aD p1)),(12,gV.t,.obj 49 (fl cI (p0.Vols.set p1.Vol.toNat ({ x1 with State:=1}):List aP) gV.sp))] mixed (λu=>⟨λ_=>aI 1 u rfl,λ_=>aI 0 u rfl,λ_=>aI 5 u rfl,trivial⟩) λu=> ?_
 refine zP 0 rfl rfl ?_
 refine zN 1 rfl rfl ?_
 refine zF 2 rfl fP rfl ?_
 refine zL 3 0 (aZ gV) rfl iP rfl rfl rfl ?_
 refine zF 4 rfl fG rfl ?_
 refine zL 5 1 (nZ p1.Vol) rfl bZ rfl rfl rfl ?_
 obtain⟨x2,X2,m⟩:=aC m
 refine zC 6 rfl (cP X2 lQ (bK.set oV) rfl rfl) ?_
 refine zC 7 rfl (cV (bK.ne (bK.set oV) X2) CR rfl rfl) ?_
 refine wJ 8 rfl (λ_ _ hi hB=>dW (fo:=1) (nZ x2.Epoch) X2 eA (bK.set oV) bZ rfl (fV.get 2 hi rfl (hB 12 (by kernel_rfl))) (λ_=>rfl)) ?_
 refine zC 9 rfl (lO rfl rfl rfl trivial) ?_
 obtain⟨x3,X3,m⟩:=aC m
 refine zC 10 rfl (cP X3 lQ (bK.set oV) rfl rfl) ?_
 refine zC 11 rfl (cV (bK.ne (bK.set oV) X3) CR rfl rfl) ?_
 refine zE 12 rfl (cK (fo:=1) ({ x3 with Epoch:=IntKind.wrap .i64 (x2.Epoch+1)}:aP) 5 u X3 eA (bK.set oV) rfl rfl rfl rfl (cX.refl _ _) AA rfl rfl λK2=>⟨⟨λ_=>aI 1 K2 rfl,λ_=>aI 0 K2 rfl,λe=>absurd e (by decide),trivial⟩, ?_⟩)
 refine zX (qk (f:=JR 49 _ _ _ _ _ _ _ _ _ _ _ _ _) K2 rfl ?_)
 refine vs (v0 (v0 ?_))
 cases m
 exact vr λu=>dX.of1 (.inl rfl) (fT _ _ (.sc (.int _ _)) rfl) (bI u [1,2,3,4,5] rfl).2 (bJ.refl _ _) ⟨gV,(bK.set (bK.set oV)),(bI u [1,2,3,4,5] rfl).1,rfl,rfl⟩
theorem aFC:aN Tryz.prog 76=true:=by kernel_rfl
def NC (m:Nat) (p0:aH) (c0:aR):Option (Bool):=
 some (p0.Seq==c0.Seq)
theorem aFD {w:Nat} {p0:aH} {c0:aR} {o:Bool} (h:aF) {c0K:cE} (c0H:h c0K=some (.obj 62 (aD c0))) (m:NC w p0 c0=some o):
 aL Tryz.prog 118 [.agg (bP p0),.ptr c0K 0] h (λr h'=>r= .sc (.bool o)∧h'=h):=by
 refine fQ 9 [.tmp 3] Tryz.func118 rfl rfl rfl rfl ?_
 unfold NC at m
 refine v ?_
 refine gO rfl rfl λk2 K3=> ?_
 refine v (vl 0 _ bZ rfl rfl rfl (vn (λu=>o6 (nZ c0.Seq) bZ rfl (kN u c0H) rfl) (v ?_)))
 cases m
 exact dU rfl
theorem ZG:aN Tryz.prog 118=true:=by kernel_rfl
def tF (m:Nat) (p0:aA) (q0:List aB) (q1:Int):Option (Lp ((List aB)×Int) ((List aB))):=
 if (decide (q1 < (p0.Chunks.length:Int)))=true then ((ix p0.Chunks q1).bind λx0=>(XX m ({ Seq:=p0.Seq,Snaps:=p0.Snaps,Chunks:=p0.Chunks,Exps:=p0.Exps,Vols:=p0.Vols}:aA) x0.Id).bind λy0=>after (if (!y0)=true then (some (.brk { { x0 with Staged:=false} with Data:=([]:List Int)})) else some (.brk x0):Option (Lp (aB) (Lp ((List aB)×Int) ((List aB))))) λj0=>after (if j0.Staged=true then (some (.brk true)) else some (.brk (decide (0 < (j0.Locs.length:Int)))):Option (Lp (Bool) (Lp ((List aB)×Int) ((List aB))))) λj1=>after (if j1=true then ((app q0 ([j0]:List aB)).bind λz0=>some (.brk z0)) else some (.brk q0):Option (Lp ((List aB)) (Lp ((List aB)×Int) ((List aB))))) λj2=>some (.go (j2,IntKind.wrap .i64 (q1+1)))) else some (.brk (q0,q1))
def HH (m:Nat) (p0:aA):Option ((List aB)):=
 after (aT (λs=>tF m p0 s.1 s.2) m ([],0)) λ⟨r0,r1⟩=>some r0
theorem ZH {w:Nat} {p0:aA} {o:(List aB)} (h:aF) {p0K:cE} {gS:cU} (ok_Snaps:bK gS 4 p0.Snaps.length) {gC:cU} (oC:bK gC 35 p0.Chunks.length) {gE:cU} (oE:bK gE 3 p0.Exps.length) {gV:cU} (oV:bK gV 4 p0.Vols.length) (K0:bV h [OC p0K p0.Seq gS gC gE gV,bF gS p0.Snaps,aV gC p0.Chunks,bX gE p0.Exps,aM gV p0.Vols]) (m:HH w p0=some o):
 aL Tryz.prog 120 [.ptr p0K 0] (hp h [OC p0K p0.Seq gS gC gE gV,bF gS p0.Snaps,aV gC p0.Chunks,bX gE p0.Exps,aM gV p0.Vols]) (λr h'=>∃g_Chunks':cU,bK g_Chunks' 35 (o:List aB).length∧bV h [OC p0K p0.Seq gS g_Chunks' gE gV,bF gS p0.Snaps,aV g_Chunks' o,bX gE p0.Exps,aM gV p0.Vols]∧r= .tup []∧h'=hp h [OC p0K p0.Seq gS g_Chunks' gE gV,bF gS p0.Snaps,aV g_Chunks' o,bX gE p0.Exps,aM gV p0.Vols]):=by
 refine uE K0 40 [] Tryz.func120 rfl rfl rfl rfl ?_
 unfold HH at m
 refine vs (v0 (vs (vs (v0 (jM rfl (dN dY rfl rfl (vl 0 (aZ gC) eU rfl rfl rfl (bW (dQ iX oC rfl) (qC (FZ (.obj 44 (fl aJ ([]:List aB) g0.sp)) 2 (aZ g0) (fY _)) ?_)))))))))
 refine nP m (σ:=(List aB)×Int) (τ:=cU) (λg s=> [aV g s.1,OC p0K p0.Seq gS gC gE gV,bF gS p0.Snaps,aV gC p0.Chunks,bX gE p0.Exps,aM gV p0.Vols]) (λg s=>bK g 35 (s.1:List aB).length) (λg s=>.c 0 (.ptr p0K 0) (.c 2 (aZ g) (.c 8 (aZ gC) (.c 9 (nZ (p0.Chunks.length:Int)) (.c 10 (nZ s.2) .nil))))) g0 (bK.g0 35) (lx (.k5 .nil)) ?_ ?_
 rintro ag0 ⟨q0,q1⟩ x O0 m
 replace m:tF w p0 q0 q1=some x:=m
 unfold tF at m
 refine vs (v0 (vs (v0 ?_)))
 apply vi m <;> intro c0 m
 refine v0 (vs (v0 (vs (v0 ?_))))
 obtain⟨x0,X0,m⟩:=aC m
 refine bW (cP X0 fJ oC rfl rfl) (vn (λu=>dW (fo:=0) (.agg (aJ x0)) X0 cR oC lZ rfl (aI 3 u rfl) (λ_=>rfl)) ?_)
 refine ve λu=>bH (bL kG++(KT:List AV)) u nR rfl rfl λk174 K1=>qk K1 rfl ?_
 refine ve λu=>aK 0 (aJ x0) u rfl rfl rfl rfl xY rfl rfl λK2=>qk K2 rfl ?_
 refine vs (vs (v0 (wU (by kernel_rfl) (jM rfl (vl 2 (.agg ([nZ p0.Seq,aZ gS,aZ gC,aZ gE,aZ gV])) eV rfl rfl rfl (dN oH rfl rfl (vl 0 (.agg (bL x0.Id)) fR rfl rfl rfl ?_)))))))
 obtain⟨_,Y0,m⟩:=aC m
 refine vn (λu=>cC (fF (.cons (Br.agg (.cons (Br.refl _ _) (.cons (Br.aw 3 eJ ok_Snaps u rfl) (.cons (Br.aw 4 cR oC u rfl) (.cons (Br.aw 5 fM oE u rfl) (.cons (Br.aw 6 eA oV u rfl) .nil)))))) (.cons (Br.refl _ _) .nil)) rfl (W22 _ Y0)) rfl aD0 rfl) ?_
 refine fL m (σ:=aB) (λs=> [(some k174,.obj 44 (aJ s)),aV ag0 q0,OC p0K p0.Seq gS gC gE gV,bF gS p0.Snaps,aV gC p0.Chunks,bX gE p0.Exps,aM gV p0.Vols]) (λs=>.c 0 (.ptr p0K 0) (.c 2 (aZ ag0) (.c 4 (.ptr k174 0) (.c 8 (aZ gC) (.c 9 (nZ (p0.Chunks.length:Int)) (.c 10 (nZ q1) .nil)))))) (λx m=> ?_) ?_
 refine v0 ?_
 apply vi m <;> intro c1 m
 refine v0 (dN oI rfl rfl ?_)
 refine ve λu=>aK 0 (aJ { x0 with Staged:=false}) u rfl rfl rfl rfl VQ rfl rfl λK3=>qk K3 rfl ?_
 refine dN jR rfl rfl ?_
 refine ve λu=>xT 0 (aJ { { x0 with Staged:=false} with Data:=([]:List Int)}) u rfl rfl rfl rfl (.cons (aY _) .nil) CQ rfl rfl λK4=>qk K4 rfl ?_
 exact rD m
 refine v0 ?_
 exact rD m
 rintro _ j0 m
 refine vs ?_
 refine fL m (σ:=Bool) (λs=> [(some k174,.obj 44 (aJ j0)),aV ag0 q0,OC p0K p0.Seq gS gC gE gV,bF gS p0.Snaps,aV gC p0.Chunks,bX gE p0.Exps,aM gV p0.Vols]) (λs=>.c 0 (.ptr p0K 0) (.c 2 (aZ ag0) (.c 4 (.ptr k174 0) (.c 8 (aZ gC) (.c 9 (nZ (p0.Chunks.length:Int)) (.c 10 (nZ q1) (.c 30 (.sc (.bool s)) .nil))))))) (λx m=> ?_) ?_
 refine v0 (dN oI rfl rfl (vl 0 _ CN rfl rfl rfl ?_))
 apply vi m <;> intro b0 m
 rw[b0]
 exact CK m
 rw[b0]
 refine dN iY rfl rfl (vl 0 _ eZ rfl rfl rfl (dE i9 rfl ?_))
 exact CK m
 rintro _ j1 m
 refine pJ m (σ:=(List aB)) (τ:=cU) (λg s=> [(some k174,.obj 44 (aJ j0)),aV g s,OC p0K p0.Seq gS gC gE gV,bF gS p0.Snaps,aV gC p0.Chunks,bX gE p0.Exps,aM gV p0.Vols]) (λg s=>bK g 35 (s:List aB).length) (λg s=>.c 0 (.ptr p0K 0) (.c 2 (aZ g) (.c 8 (aZ gC) (.c 9 (nZ (p0.Chunks.length:Int)) (.c 10 (nZ q1) .nil))))) (λx m=> ?_) ?_
 refine v0 ?_
 apply vi m <;> intro c2 m
 refine v0 (vl 0 (.agg (aJ j0)) lZ rfl rfl rfl (bW (eL (List.map aJ ([j0]:List aB)) lP rfl rfl rfl rfl) ?_))
 obtain⟨z0,Z0,m⟩:=aC m
 refine ve λu=>gD (c:=aJ) 1 Z0 lP rfl nR rfl cR rfl rfl O0 u rfl λag1 O1 K5=>qk K5 rfl ?_
 exact eW m ag1 O1 (lx (.k5 .nil))
 refine v0 ?_
 exact eW m ag0 O0 (lx (.k5 .nil))
 rintro ag2 j2 O2 m
 refine v0 ?_
 exact eW m ag2 O2 (lJ [1,2,3,4,5,6] rfl rfl (.k5 .nil))
 refine v0 ?_
 exact lK m ag0 O0 (lx (.k5 .nil))
 rintro ag3 ⟨r0,r1⟩ t0 m
 refine v0 (jM rfl (dN dY rfl rfl ?_))
 refine ve λu=>aK 1 ([nZ p0.Seq,aZ gS,aZ ag3,aZ gE,aZ gV]) u rfl rfl (cD rfl) (cG (bY _ _ _) rfl) AD rfl rfl λK6=>qk K6 rfl ?_
 obtain rfl:=eE m
 exact vr λu=>dX.zero (.inr rfl) (bI u [1,2,0,4,5] rfl).2 ⟨ag3,t0,(bI u [1,2,0,4,5] rfl).1,rfl,rfl⟩
theorem SG:aN Tryz.prog 120=true:=by kernel_rfl
theorem aFE {α:Type} {c:α→List AV} (hc:∀y,(c y).length=4) {p0 o:List α} {p1 p2:Int} (h:aF) {g:cU} (ok:bK g 4 p0.length) (K0:bV h [(g.t,.obj 60 (fl c p0 g.sp))]) (u:KA p0 p1 p2=some o):
 aL Tryz.prog 119 [aZ g,nZ p1,nZ p2] (hp h [(g.t,.obj 60 (fl c p0 g.sp))]) (λr h'=>∃g:cU,bK g 4 o.length∧bV h [(g.t,.obj 60 (fl c o g.sp))]∧r=aZ g∧h'=hp h [(g.t,.obj 60 (fl c o g.sp))]):=by
 obtain⟨i0,i1,i2,ho⟩:=KB u
 obtain⟨gt,gn,cap,sp⟩:=g
 have hne:gt≠none:=λe=>by have:=ok.nil e; omega
 obtain⟨k,rfl⟩:∃k,gt=some k:=by cases gt with
 | none=>exact absurd rfl hne
 | some k=>exact⟨k,rfl⟩
 have hgn:gn=p0.length:=ok.eqn
 subst hgn
 have hle:p0.length≤cap:=ok.le
 have hmx:cap≤maxLen:=ok.mx
 have hlen:p0.length*4+sp.length=cap*4:=ok.len
 obtain⟨a,rfl⟩:∃a:Nat,p1=a:=⟨p1.toNat,by omega⟩
 obtain⟨b,rfl⟩:∃b:Nat,p2=b:=⟨p2.toNat,by omega⟩
 simp only[Int.toNat_natCast] at ho
 have ha:a < b:=by omega
 have hb:b≤p0.length:=by omega
 have hzl:(p0.take a++p0.drop b).length=a+(p0.length - b):=by simp; omega
 have hsp:=HG hc (Nat.le_of_lt ha) hb sp
 have hal:(p0.take a++p0.drop b++p0.drop (a+(p0.length - b))).length=p0.length:=by simp; omega
 have htk:(p0.take a++p0.drop b++p0.drop (a+(p0.length - b))).take (a+(p0.length - b))=o:=by rw[ho,← hzl,List.take_left]
 have O2:bK ⟨some k,p0.length,cap,sp⟩ 4 (p0.take a++p0.drop b++p0.drop (a+(p0.length - b))).length:=by rw[hal]; exact ok
 have O3:bK ⟨some k,a+(p0.length - b),cap,((p0.drop (a+(p0.length - b))).map c).flatten++sp⟩ 4 (a+(p0.length - b)):=⟨rfl,nofun,by show a+(p0.length - b)≤cap; omega,hmx,by
   show (a+(p0.length - b))*4+(((p0.drop (a+(p0.length - b))).map c).flatten++sp).length=cap*4
   rw[List.length_append,jH hc,List.length_drop]; omega⟩
 refine uE K0 33 [.tmp 6] Tryz.func119 rfl rfl rfl rfl ?_
 repeat refine vs ?_
 refine v0 ?_
 repeat refine vs ?_
 refine v0 (bW (dQ jQ ok rfl) (bW (UU (cap:=cap) i0 (by omega) (by omega) (by omega) iJ rfl rfl rfl rfl) ?_))
 repeat refine vs ?_
 refine v0 (v0 (vf (by simp; omega) (v0 ?_)))
 repeat refine vs ?_
 refine v0 (bW (dQ jQ ok rfl) ?_)
 repeat refine vs ?_
 refine v0 ?_
 refine vz [] mixed (λw=>trivial) λw=> ?_
 refine zC 0 rfl (eS (.vw _ _ _) rfl) ?_
 refine zI 1 rfl rfl ?_
 refine zC 2 rfl (zB (cap:=cap) i0 (by omega) iJ rfl rfl) ?_
 refine zC 3 rfl (eS (.vw _ _ _) rfl) ?_
 refine zI 4 rfl rfl ?_
 by_cases hbl:b=p0.length
 subst hbl
 have e0:p0.length - p0.length=0:=Nat.sub_self _
 refine zC 5 rfl (ZF (m:=p0.length) iJ rfl rfl) ?_
 have ee:fl c p0 sp=fl c (p0.take a++p0.drop p0.length++p0.drop (a+(p0.length - p0.length))) sp:=by
   rw[List.drop_length,List.append_nil,e0,Nat.add_zero,List.take_append_drop]
 refine zE 6 rfl (NB wM (i:=a) rfl rfl ⟨trivial, ?_⟩)
 refine zC 7 rfl (fB (y:=.vw k (a+(p0.length - p0.length)) cap) (iI (.vw k a cap) rfl) (bJ.of_eq (by rw[e0,Nat.add_zero]))) ?_
 have K1:bV h [(some k,iL.obj 60 (fl c (p0.take a++p0.drop p0.length++p0.drop (a+(p0.length - p0.length))) sp))]:=by rw[← ee]; exact w
 refine zX (qk (f:=.c 0 (.vw k (a+(p0.length - p0.length)) cap) (.c 26 _ (.c 25 _ (.c 24 _ (.c 23 _ (.c 22 _ (.c 21 _ (.c 20 _ _)))))))) K1 (by rw[← ee]) ?_)
 repeat refine vs ?_
 refine v0 (bW (dQ (g:=⟨some k,a+(p0.length - p0.length),cap,_⟩) jQ O3 rfl) (bW (SE (cap:=cap) (by omega) (by omega) (by omega) iJ rfl rfl rfl) ?_))
 refine ve λw=>BA (g:=⟨some k,p0.length,cap,sp⟩) (i:=((a+(p0.length - p0.length):Nat):Int)) 0 w (by rw[hal]; simp; omega) hc O2 u25 uZ rfl rfl (by rw[hal]; rfl) rfl λsp' ok' hk'=>qk hk' rfl ?_
 repeat refine vs ?_
 refine v0 (v0 ?_)
 subst htk
 exact vr λw=>dX.one (.inl rfl) (bI w [0] rfl).2 (bJ.refl _ _) ⟨⟨some k,a+(p0.length - p0.length),cap,sp'⟩,ok',(bI w [0] rfl).1,rfl,rfl⟩
 refine zC 5 rfl (jP (m:=p0.length) (by omega) (by omega) iJ rfl rfl) ?_
 have e2:((p0.drop b).map c).flatten=((fl c p0 sp).drop (b*4)).take (((p0.drop b).map c).flatten.length):=by
   rw[FE hc hb]; unfold fl; rw[List.take_left]
 obtain⟨j,K1,_⟩:=jD (e':=.obj 60 (fl c (p0.take a++p0.drop b++p0.drop (a+(p0.length - b))) sp)) 0 w (show ([(some k,iL.obj 60 (fl c p0 sp))]:HL)[0]? =_ from rfl) (.inl rfl)
 refine zE 6 rfl (NA wM (i:=a) (m:=p0.length - b) (ys:=((p0.drop b).map c).flatten) rfl (bC 0 w rfl) (by rw[e2]; rw[← e2]; have:=BI.view (m:=p0.length - b) (off:=b*4) (c:=((p0.drop b).map c).flatten.length) (bC 0 w (show ([(some k,iL.obj 60 (fl c p0 sp))]:HL)[0]? =some (some k,iL.obj 60 (fl c p0 sp)) from rfl)); rw[← e2] at this; exact this) (by rw[jH hc,List.length_drop]) (by omega) (by rw[jH hc,List.length_drop,GH hc]; omega) ⟨trivial, ?_⟩)
 refine zC 7 rfl (iI (.vw _ _ _) rfl) ?_
 refine zX (qk (f:=.c 0 (.vw k (a+(p0.length - b)) cap) (.c 26 _ (.c 25 _ (.c 24 _ (.c 23 _ (.c 22 _ (.c 21 _ (.c 20 _ _)))))))) K1 (by rw[← j]; show upd _ _ (some (iL.obj 60 (eD (fl c p0 sp) (a*4) _)))=_; rw[hsp]) ?_)
 repeat refine vs ?_
 refine v0 (bW (dQ (g:=⟨some k,a+(p0.length - b),cap,_⟩) jQ O3 rfl) (bW (SE (cap:=cap) (by omega) (by omega) (by omega) iJ rfl rfl rfl) ?_))
 refine ve λw=>BA (g:=⟨some k,p0.length,cap,sp⟩) (i:=((a+(p0.length - b):Nat):Int)) 0 w (by rw[hal]; simp; omega) hc O2 u25 uZ rfl rfl (by rw[hal]; rfl) rfl λsp' ok' hk'=>qk hk' rfl ?_
 repeat refine vs ?_
 refine v0 (v0 ?_)
 subst htk
 exact vr λw=>dX.one (.inl rfl) (bI w [0] rfl).2 (bJ.refl _ _) ⟨⟨some k,a+(p0.length - b),cap,sp'⟩,ok',(bI w [0] rfl).1,rfl,rfl⟩
theorem ZI:aN Tryz.prog 119=true:=by kernel_rfl
def VX (m:Nat) (p0:aA) (p1:aR):Option (Int×(List aH)×(List aB)):=
 (vW m p0.Snaps (λx0=>NC m x0 p1)).bind λy6=>if (decide (y6 < 0))=true then (some (8,p0.Snaps,p0.Chunks)) else (KA p0.Snaps y6 (IntKind.wrap .i64 (y6+1))).bind λy0=>(HH m ({ Seq:=p0.Seq,Snaps:=y0,Chunks:=p0.Chunks,Exps:=p0.Exps,Vols:=p0.Vols}:aA)).bind λy1=>some (0,y0,y1)
theorem W73 {w:Nat} {p0:aA} {p1:aR} {o:Int×(List aH)×(List aB)} (h:aF) {p0K:cE} {gS:cU} (ok_Snaps:bK gS 4 p0.Snaps.length) {gC:cU} (oC:bK gC 35 p0.Chunks.length) {gE:cU} (oE:bK gE 3 p0.Exps.length) {gV:cU} (oV:bK gV 4 p0.Vols.length) (K0:bV h [OC p0K p0.Seq gS gC gE gV,bF gS p0.Snaps,aV gC p0.Chunks,bX gE p0.Exps,aM gV p0.Vols]) (m:VX w p0 p1=some o):
 aL Tryz.prog 73 [.ptr p0K 0,.agg (aD p1)] (hp h [OC p0K p0.Seq gS gC gE gV,bF gS p0.Snaps,aV gC p0.Chunks,bX gE p0.Exps,aM gV p0.Vols]) (λr h'=>∃g_Snaps':cU,bK g_Snaps' 4 (o.2.1:List aH).length∧∃g_Chunks':cU,bK g_Chunks' 35 (o.2.2:List aB).length∧bV h [OC p0K p0.Seq g_Snaps' g_Chunks' gE gV,bF g_Snaps' o.2.1,aV g_Chunks' o.2.2,bX gE p0.Exps,aM gV p0.Vols]∧r=nZ o.1∧h'=hp h [OC p0K p0.Seq g_Snaps' g_Chunks' gE gV,bF g_Snaps' o.2.1,aV g_Chunks' o.2.2,bX gE p0.Exps,aM gV p0.Vols]):=by
 refine uE K0 27 [.tmp 4] Tryz.func73 rfl rfl rfl rfl ?_
 unfold VX at m
 refine vs (v0 ?_)
 refine gO rfl rfl λk2 K3=> ?_
 refine vs (v0 (jM rfl (dN dV rfl rfl (vl 1 (aZ gS) fC rfl rfl rfl ?_))))
 obtain⟨_,Y7,m⟩:=aC m
 refine ve λu=>dC ((bE u [2,0,1,3,4,5] rfl rfl).1.trans (cW h [bF gS p0.Snaps] [(some k2,.obj 62 (aD p1)),OC p0K p0.Seq gS gC gE gV,aV gC p0.Chunks,bX gE p0.Exps,aM gV p0.Vols]).symm) (cM (SF (hp h [(some k2,.obj 62 (aD p1)),OC p0K p0.Seq gS gC gE gV,aV gC p0.Chunks,bX gE p0.Exps,aM gV p0.Vols]) ok_Snaps (cL [bF gS p0.Snaps] [(some k2,.obj 62 (aD p1)),OC p0K p0.Seq gS gC gE gV,aV gC p0.Chunks,bX gE p0.Exps,aM gV p0.Vols] (bE u [2,0,1,3,4,5] rfl rfl).2).2 ZG (λ_ o h0 hs ho=>aFD _ (hs _ _ (bC 0 (cL [bF gS p0.Snaps] [(some k2,.obj 62 (aD p1)),OC p0K p0.Seq gS gC gE gV,aV gC p0.Chunks,bX gE p0.Exps,aM gV p0.Vols] (bE u [2,0,1,3,4,5] rfl rfl).2).1 rfl)) ho) Y7) rfl EU rfl ?_)
 rintro x h' ⟨rfl,rfl⟩
 refine qk u ((cW h [bF gS p0.Snaps] [(some k2,.obj 62 (aD p1)),OC p0K p0.Seq gS gC gE gV,aV gC p0.Chunks,bX gE p0.Exps,aM gV p0.Vols]).trans (bE u [2,0,1,3,4,5] rfl rfl).1.symm) ?_
 refine vs (vs (v0 (v0 ?_)))
 apply vi m <;> intro c0 m
 refine vs (v0 (v0 ?_))
 cases m
 exact vr λu=>dX.of1 (.inl rfl) (fT _ _ (.sc (.int _ _)) rfl) (bI u [1,2,3,4,5] rfl).2 (bJ.refl _ _) ⟨gS,ok_Snaps,gC,oC,(bI u [1,2,3,4,5] rfl).1,rfl,rfl⟩
 refine v0 (vs (v0 (jM rfl (dN dV rfl rfl (vl 1 (aZ gS) fC rfl rfl rfl ?_)))))
 obtain⟨y0,Y0,m⟩:=aC m
 refine ve λu=> ?_
 have ho0:=mB (A:= [bF gS p0.Snaps]) (R:= [(some k2,.obj 62 (aD p1)),OC p0K p0.Seq gS gC gE gV,aV gC p0.Chunks,bX gE p0.Exps,aM gV p0.Vols]) u [[_], [_], [_], [_], [_], [_]] rfl [2] [0,1,3,4,5] rfl rfl rfl
 refine dC ho0.1 (cM (aFE eJ _ ok_Snaps ho0.2.2 Y0) rfl ZI rfl ?_)
 rintro x h' ⟨ag0,O0,K1,rfl,rfl⟩
 have K2:=mC (L':= [(some k2,.obj 62 (aD p1)),(hO p0K p0.Seq gS gC gE gV),bF ag0 y0,aV gC p0.Chunks,bX gE p0.Exps,aM gV p0.Vols]) ho0.2.1 K1 [[_]] [[_], [_], [_], [_], [_]] rfl rfl [1,2,0,3,4,5] rfl rfl
 refine qk K2.2 K2.1 ?_
 refine jM rfl (dN dV rfl rfl ?_)
 refine ve λu=>aK 1 ([nZ p0.Seq,aZ ag0,aZ gC,aZ gE,aZ gV]) u rfl rfl (cD rfl) (cG (bY _ _ _) rfl) GT rfl rfl λK4=>qk K4 rfl ?_
 refine vs (v0 ?_)
 obtain⟨y1,Y1,m⟩:=aC m
 refine ve λu=>dC ((bE u [1,2,3,4,5,0] rfl rfl).1.trans (cW h [OC p0K p0.Seq ag0 gC gE gV,bF ag0 y0,aV gC p0.Chunks,bX gE p0.Exps,aM gV p0.Vols] [(some k2,.obj 62 (aD p1))]).symm) (cM (ZH (p0:=({ Seq:=p0.Seq,Snaps:=y0,Chunks:=p0.Chunks,Exps:=p0.Exps,Vols:=p0.Vols}:aA)) (hp h [(some k2,.obj 62 (aD p1))]) O0 oC oE oV (cL [OC p0K p0.Seq ag0 gC gE gV,bF ag0 y0,aV gC p0.Chunks,bX gE p0.Exps,aM gV p0.Vols] [(some k2,.obj 62 (aD p1))] (bE u [1,2,3,4,5,0] rfl rfl).2).2 Y1) rfl SG rfl ?_)
 rintro x h' ⟨ag1,O1,K5,rfl,rfl⟩
 have K6:=bE (L':= [(some k2,.obj 62 (aD p1)),OC p0K p0.Seq ag0 ag1 gE gV,bF ag0 y0,aV ag1 y1,bX gE p0.Exps,aM gV p0.Vols]) (dI (cL [OC p0K p0.Seq ag0 gC gE gV,bF ag0 y0,aV gC p0.Chunks,bX gE p0.Exps,aM gV p0.Vols] [(some k2,.obj 62 (aD p1))] (bE u [1,2,3,4,5,0] rfl rfl).2).1 K5) [5,0,1,2,3,4] rfl rfl
 refine qk K6.2 ((cW h [OC p0K p0.Seq ag0 ag1 gE gV,bF ag0 y0,aV ag1 y1,bX gE p0.Exps,aM gV p0.Vols] [(some k2,.obj 62 (aD p1))]).trans K6.1) ?_
 refine vs (v0 (v0 ?_))
 cases m
 exact vr λu=>dX.of1 (.inl rfl) (fT _ _ (.sc (.int _ _)) rfl) (bI u [1,2,3,4,5] rfl).2 (bJ.refl _ _) ⟨ag0,O0,ag1,O1,(bI u [1,2,3,4,5] rfl).1,rfl,rfl⟩
theorem aFF:aN Tryz.prog 73=true:=by kernel_rfl
open Go.Vm
theorem aFG {α:Type} {c:α→List AV} (hc:∀y,(c y).length=4) {p0 o:List α} {p1:Int} {x:α} (h:aF) {g:cU} (ok:bK g 4 p0.length) (K0:bV h [(g.t,.obj 81 (fl c p0 g.sp))]) (u:pF p0 p1 x=some o):
 aL Tryz.prog 187 [aZ g,nZ p1,.sl none 4 (List.map c [x])] (hp h [(g.t,.obj 81 (fl c p0 g.sp))]) (λr h'=>∃g:cU,bK g 4 o.length∧bV h [(g.t,.obj 81 (fl c o g.sp))]∧r=aZ g∧h'=hp h [(g.t,.obj 81 (fl c o g.sp))]):=by
 obtain⟨i0,i1,i2,ho⟩:=lF u
 have hv1:((([x]:List α).length:Int)==0)=false:=rfl
 refine uE K0 95 [.tmp 6] Tryz.func187 rfl rfl rfl rfl ?_
 repeat refine vs ?_
 refine v0 ?_
 repeat refine vs ?_
 refine v0 (bW (HF i0 i1 ok jU rfl rfl) ?_)
 repeat refine vs ?_
 refine v0 (dE i9 rfl ?_)
 repeat refine vs ?_
 refine v0 (v0 ?_)
 show VC _ _ _ Code.skip _ _ _ _
 refine v0 ?_
 repeat refine vs ?_
 refine v0 (bW (dQ i9 ok rfl) ?_)
 repeat refine vs ?_
 refine v0 (v0 ?_)
 by_cases hi:p1=(p0.length:Int)
 refine vt (by simpa using hi) ?_
 repeat refine vs ?_
 refine v0 ?_
 refine ve λw=>gD (c:=c) 0 (C5 i2) pC rfl ES rfl hc rfl rfl ok w rfl λg' ok' hk'=>qk hk' rfl ?_
 refine v0 ?_
 have e:o=p0++ [x]:=by subst hi; rw[ho]; simp
 subst e
 exact vr λw=>dX.one (.inl rfl) (iG.refl _) (bJ.refl _ _) ⟨g',ok',w,rfl,rfl⟩
 refine vf (by simpa using hi) (v0 ?_)
 have hlt:p1.toNat < p0.length:=by omega
 obtain⟨gt,gn,cap,sp⟩:=g
 have hne:gt≠none:=λe=>by have:=ok.nil e; omega
 obtain⟨k,rfl⟩:∃k,gt=some k:=by cases gt with
 | none=>exact absurd rfl hne
 | some k=>exact⟨k,rfl⟩
 have hgn:gn=p0.length:=ok.eqn
 subst hgn
 have hle:p0.length≤cap:=ok.le
 have hmx:cap≤maxLen:=ok.mx
 have hlen:p0.length*4+sp.length=cap*4:=ok.len
 have hw:IntKind.wrap .i64 ((p0.length:Int)+(([x]:List α).length:Int))=((p0.length+1:Nat):Int):=by
   rw[IntKind.wrap_i64]; simp only[List.length_singleton]; omega
 have hw2:IntKind.wrap .i64 (IntKind.wrap .i64 ((p0.length:Int)+(([x]:List α).length:Int)) - p1)=((p0.length+1 - p1.toNat:Nat):Int):=by
   rw[hw,IntKind.wrap_i64]; omega
 have hw3:IntKind.wrap .i64 (p1+(([x]:List α).length:Int))=((p1.toNat+1:Nat):Int):=by
   rw[IntKind.wrap_i64]; simp only[List.length_singleton]; omega
 obtain⟨q1,q2,q3,q4⟩:=n5 hc (i:=p1.toNat) (by omega:p1.toNat≤p0.length) sp
 generalize hA:((p0.take p1.toNat).map c).flatten=A at q1 q2 q4
 generalize hB:((p0.drop p1.toNat).map c).flatten=B at q1 q3 q4
 repeat refine vs ?_
 refine v0 (bW (HD u42 rfl) (v0 ?_))
 by_cases hcap:cap < p0.length+1
 refine vt (by rw[hw]; exact decide_eq_true (show (cap:Int) < ((p0.length+1:Nat):Int) by omega)) ?_
 repeat refine vs ?_
 refine v0 (bW (zB (cap:=cap) i0 (by omega) jU rfl rfl) ?_)
 refine ve λw=>HE (cap:=cap) (cs:=fl c p0 sp) (i:=p1.toNat) (m:=p0.length+1 - p1.toNat) 0 pC u3 ES rfl (by decide) w rfl rfl (congrArg (λz=>AV.sc (.int .i64 z)) hw2) (by omega) (by rw[q1]; simp only[List.length_append]; omega) (by omega) λq cap' R h1 h2 h3 hk'=>qk hk' rfl ?_
 repeat refine vs ?_
 refine v0 (bW (jP i0 (by omega) jU rfl rfl) ?_)
 have hn0:p1.toNat+(p0.length+1 - p1.toNat)=p0.length+1:=by omega
 have hn1:p1.toNat+(p0.length+1 - p1.toNat) - p1.toNat=p0.length+1 - p1.toNat:=by omega
 have e1:List.take (p1.toNat*4) (fl c p0 sp)=A:=by rw[q1,← q2,List.take_left]
 have hxl:=hc x
 have hR:4+B.length≤R.length:=by omega
 have hfl:(fl c p0 sp).length=A.length+(B.length+sp.length):=by rw[q1]; simp
 obtain⟨R1,R2,R3,hR0,hR1,hR2⟩:∃R1 R2 R3:List AV,R=R1++(R2++R3)∧R1.length=(c x).length∧R2.length=B.length:=
 ⟨R.take 4,(R.drop 4).take B.length,(R.drop 4).drop B.length,by rw[List.take_append_drop,List.take_append_drop],by rw[List.length_take,hxl]; omega,by rw[List.length_take,List.length_drop]; omega⟩
 refine ve λw=>l6 0 pC w rfl rfl (BI.sl (ys:=List.map c [x]) (by simp) _) (by simp[hxl]; omega) (by rw[e1]; simp only[List.length_append]; simp[hxl,q2]; omega) (A++(c x++(R2++R3))) (by
 rw[e1,hR0]
 simp only[List.map_cons,List.map_nil,List.flatten_cons,List.flatten_nil,List.append_nil]
 exact fW q2 hR1) λhk'=>qk hk' rfl ?_
 repeat refine vs ?_
 refine v0 ?_
 have hv4:AV.view q ((IntKind.wrap .i64 (p1+(([x]:List α).length:Int))).toNat*4) (p1.toNat+(p0.length+1 - p1.toNat) - (IntKind.wrap .i64 (p1+(([x]:List α).length:Int))).toNat)= .view q ((p1.toNat+1)*4) (p0.length - p1.toNat):=by
   rw[hw3,Int.toNat_natCast,show p1.toNat+(p0.length+1 - p1.toNat) - (p1.toNat+1)=p0.length - p1.toNat from by omega]
 refine vz [] mixed (λw=>trivial) λw=> ?_
 refine zC 0 rfl (eS (.vw _ _ _) rfl) ?_
 refine zI 1 rfl rfl ?_
 refine zI 2 rfl rfl ?_
 refine zC 3 rfl (lO rfl rfl rfl trivial) ?_
 refine zC 4 rfl (fB (jP (by rw[hw3]; omega) (by rw[hw3]; omega) jU rfl rfl) (bJ.of_eq hv4)) ?_
 refine zC 5 rfl (eS (.vw _ _ _) rfl) ?_
 refine zI 6 rfl rfl ?_
 refine zC 7 rfl (jP (m:=p0.length) i0 (by omega) jU rfl rfl) ?_
 have e2:(List.drop (p1.toNat*4) (fl c p0 sp)).take ((p0.length - p1.toNat)*4)=B:=by
   rw[q1,← q2,List.drop_left,← q3,List.take_left]
 refine zE 8 rfl (l6 0 pC w rfl rfl (cs:=B) (by rw[← e2]; exact BI.view (bC 1 w rfl)) (n1:=p0.length - p1.toNat) (m:=p0.length - p1.toNat) (by rw[q3,Nat.min_self]) (by simp only[List.length_append,hxl,q2,hR2]; omega) (fl c (p0.take p1.toNat++x::p0.drop p1.toNat) R3) (by
 rw[q4 x R3,← List.append_assoc A,← List.append_assoc A]
 exact fW (A:=A++c x) (by rw[List.length_append,hxl,q2]; omega) hR2) λK1=>⟨trivial, ?_⟩)
 refine zX (qk (f:=VP 54 _ _ _ _ _ _ _ _ _ _) K1 rfl ?_)
 repeat refine vs ?_
 refine v0 (v0 ?_)
 subst ho
 have hol:(List.take p1.toNat p0++x::List.drop p1.toNat p0).length=p0.length+1:=by simp; omega
 refine vr λw=>dX.one (.inl rfl) (bI K1 [0] rfl).2 (bJ.of_eq (show AV.vw q _ cap'=aw (some q) (p0.length+1) cap' by rw[hn0]; rfl)) ⟨⟨some q,p0.length+1,cap',R3⟩,⟨hol.symm,nofun,by rw[hol]; show p0.length+1≤cap'; omega,h2,by rw[hol]; show (p0.length+1)*4+R3.length=cap'*4; simp only[hR0,List.length_append,hR1,hR2,hxl] at h3; omega⟩,(bI K1 [0] rfl).1,rfl,rfl⟩
 refine vf (by rw[hw]; exact decide_eq_false (show ¬(cap:Int) < ((p0.length+1:Nat):Int) by omega)) (v0 ?_)
 repeat refine vs ?_
 refine v0 ?_
 have hv0:AV.vw k (IntKind.wrap .i64 ((p0.length:Int)+(([x]:List α).length:Int))).toNat cap= .vw k (p0.length+1) cap:=by rw[hw,Int.toNat_natCast]
 refine bW (fB (zB (cap:=cap) (by rw[hw]; omega) (by rw[hw]; omega) jU rfl rfl) (bJ.of_eq hv0)) ?_
 repeat refine vs ?_
 refine v0 ?_
 have hv4:AV.view k ((IntKind.wrap .i64 (p1+(([x]:List α).length:Int))).toNat*4) (p0.length+1 - (IntKind.wrap .i64 (p1+(([x]:List α).length:Int))).toNat)= .view k ((p1.toNat+1)*4) (p0.length - p1.toNat):=by
   rw[hw3,Int.toNat_natCast,show p0.length+1 - (p1.toNat+1)=p0.length - p1.toNat from by omega]
 refine bW (fB (jP (m:=p0.length+1) (by rw[hw3]; omega) (by rw[hw3]; omega) jU rfl rfl) (bJ.of_eq hv4)) ?_
 have hfl:(fl c p0 sp).length=p1.toNat*4+((p0.length - p1.toNat)*4+sp.length):=by rw[q1,List.length_append,List.length_append,q2,q3]
 refine ve λw=>oX (sz:=4) (tS:=42) (tR:=4) Tryz.func193 (by kernel_rfl) (by kernel_rfl) (by kernel_rfl) (by kernel_rfl) pC (ys:=List.map c [x]) (by simp) (by decide) rfl rfl (bC 0 w rfl) (by rw[hfl]; omega) (qk w rfl ?_)
 refine v0 ?_
 repeat refine vs ?_
 refine v0 ?_
 refine vz [] mixed (λw=>trivial) λw=> ?_
 refine zC 0 rfl (eS (.vw _ _ _) rfl) ?_
 refine zI 1 rfl rfl ?_
 refine zI 2 rfl rfl ?_
 refine zC 3 rfl (lO rfl rfl rfl trivial) ?_
 refine zC 4 rfl (fB (jP (m:=p0.length+1) (by rw[hw3]; omega) (by rw[hw3]; omega) jU rfl rfl) (bJ.of_eq hv4)) ?_
 refine zC 5 rfl (eS (.vw _ _ _) rfl) ?_
 refine zI 6 rfl rfl ?_
 refine zC 7 rfl (jP (m:=p0.length+1) i0 (by omega) jU rfl rfl) ?_
 have hxl:=hc x
 have e2:(List.drop (p1.toNat*4) (fl c p0 sp)).take ((p0.length - p1.toNat)*4)=B:=by
   rw[q1,← q2,List.drop_left,← q3,List.take_left]
 have hsp:4≤sp.length:=by omega
 obtain⟨X0,Y,Z,hXY,hX0,hY⟩:∃X0 Y Z:List AV,B++sp=X0++(Y++Z)∧X0.length=4∧Y.length=B.length:=
 ⟨(B++sp).take 4,((B++sp).drop 4).take B.length,((B++sp).drop 4).drop B.length,by rw[List.take_append_drop,List.take_append_drop],by rw[List.length_take,List.length_append]; omega,by rw[List.length_take,List.length_drop,List.length_append]; omega⟩
 have hZ:Z.length+4=sp.length:=by
   have:=congrArg List.length hXY
   simp only[List.length_append] at this
   omega
 refine zE 8 rfl (l6 0 pC w rfl rfl (cs:=B) (by rw[← e2]; exact BI.view (bC 0 w rfl)) (n1:=p0.length - p1.toNat) (m:=p0.length+1 - p1.toNat) (by rw[q3]; congr 1; omega) (by show (p1.toNat+1)*4+B.length≤(fl c p0 sp).length; rw[hfl]; omega) (A++(X0++(B++Z))) (by
 show eD (fl c p0 sp) ((p1.toNat+1)*4) B=_
 rw[q1,hXY,← List.append_assoc A,← List.append_assoc A]
 exact fW (A:=A++X0) (by rw[List.length_append,hX0,q2]; omega) hY) λK1=>⟨trivial, ?_⟩)
 refine zX (qk (f:=VP 77 _ _ _ _ _ _ _ _ _ _) K1 rfl ?_)
 repeat refine vs ?_
 refine v0 (bW (jP (m:=p0.length+1) i0 (by omega) jU rfl rfl) ?_)
 refine ve λw=>l6 0 pC w rfl rfl (BI.sl (ys:=List.map c [x]) (by simp) _) (by simp[hxl]; omega) (by simp only[List.map_cons,List.map_nil,List.flatten_cons,List.flatten_nil,List.append_nil,List.length_append,q2,hX0,hxl]; omega) (fl c (p0.take p1.toNat++x::p0.drop p1.toNat) Z) (by
 simp only[List.map_cons,List.map_nil,List.flatten_cons,List.flatten_nil,List.append_nil]
 rw[q4 x Z]
 exact fW q2 (by rw[hX0,hxl])) λK1=>qk K1 rfl ?_
 repeat refine vs ?_
 refine v0 (v0 ?_)
 subst ho
 have hol:(List.take p1.toNat p0++x::List.drop p1.toNat p0).length=p0.length+1:=by simp; omega
 refine vr λw=>dX.one (.inl rfl) (bI w [0] rfl).2 (bJ.of_eq (show AV.vw k _ cap=aw (some k) (p0.length+1) cap by rfl)) ⟨⟨some k,p0.length+1,cap,Z⟩,⟨hol.symm,nofun,by rw[hol]; show p0.length+1≤cap; omega,hmx,by rw[hol]; show (p0.length+1)*4+Z.length=cap*4; omega⟩,(bI w [0] rfl).1,rfl,rfl⟩
theorem ZJ:aN Tryz.prog 187=true:=by kernel_rfl
theorem aFH {α:Type} {c:α→List AV} (hc:∀y,(c y).length=3) {p0 o:List α} {p1:Int} {x:α} (h:aF) {g:cU} (ok:bK g 3 p0.length) (K0:bV h [(g.t,.obj 99 (fl c p0 g.sp))]) (u:pF p0 p1 x=some o):
 aL Tryz.prog 180 [aZ g,nZ p1,.sl none 3 (List.map c [x])] (hp h [(g.t,.obj 99 (fl c p0 g.sp))]) (λr h'=>∃g:cU,bK g 3 o.length∧bV h [(g.t,.obj 99 (fl c o g.sp))]∧r=aZ g∧h'=hp h [(g.t,.obj 99 (fl c o g.sp))]):=by
 obtain⟨i0,i1,i2,ho⟩:=lF u
 have hv1:((([x]:List α).length:Int)==0)=false:=rfl
 refine uE K0 95 [.tmp 6] Tryz.func180 rfl rfl rfl rfl ?_
 repeat refine vs ?_
 refine v0 ?_
 repeat refine vs ?_
 refine v0 (bW (HF i0 i1 ok iE rfl rfl) ?_)
 repeat refine vs ?_
 refine v0 (dE nW rfl ?_)
 repeat refine vs ?_
 refine v0 (v0 ?_)
 show VC _ _ _ Code.skip _ _ _ _
 refine v0 ?_
 repeat refine vs ?_
 refine v0 (bW (dQ nW ok rfl) ?_)
 repeat refine vs ?_
 refine v0 (v0 ?_)
 by_cases hi:p1=(p0.length:Int)
 refine vt (by simpa using hi) ?_
 repeat refine vs ?_
 refine v0 ?_
 refine ve λw=>gD (c:=c) 0 (C5 i2) pA rfl oL rfl hc rfl rfl ok w rfl λg' ok' hk'=>qk hk' rfl ?_
 refine v0 ?_
 have e:o=p0++ [x]:=by subst hi; rw[ho]; simp
 subst e
 exact vr λw=>dX.one (.inl rfl) (iG.refl _) (bJ.refl _ _) ⟨g',ok',w,rfl,rfl⟩
 refine vf (by simpa using hi) (v0 ?_)
 have hlt:p1.toNat < p0.length:=by omega
 obtain⟨gt,gn,cap,sp⟩:=g
 have hne:gt≠none:=λe=>by have:=ok.nil e; omega
 obtain⟨k,rfl⟩:∃k,gt=some k:=by cases gt with
 | none=>exact absurd rfl hne
 | some k=>exact⟨k,rfl⟩
 have hgn:gn=p0.length:=ok.eqn
 subst hgn
 have hle:p0.length≤cap:=ok.le
 have hmx:cap≤maxLen:=ok.mx
 have hlen:p0.length*3+sp.length=cap*3:=ok.len
 have hw:IntKind.wrap .i64 ((p0.length:Int)+(([x]:List α).length:Int))=((p0.length+1:Nat):Int):=by
   rw[IntKind.wrap_i64]; simp only[List.length_singleton]; omega
 have hw2:IntKind.wrap .i64 (IntKind.wrap .i64 ((p0.length:Int)+(([x]:List α).length:Int)) - p1)=((p0.length+1 - p1.toNat:Nat):Int):=by
   rw[hw,IntKind.wrap_i64]; omega
 have hw3:IntKind.wrap .i64 (p1+(([x]:List α).length:Int))=((p1.toNat+1:Nat):Int):=by
   rw[IntKind.wrap_i64]; simp only[List.length_singleton]; omega
 obtain⟨q1,q2,q3,q4⟩:=n5 hc (i:=p1.toNat) (by omega:p1.toNat≤p0.length) sp
 generalize hA:((p0.take p1.toNat).map c).flatten=A at q1 q2 q4
 generalize hB:((p0.drop p1.toNat).map c).flatten=B at q1 q3 q4
 repeat refine vs ?_
 refine v0 (bW (HD u27 rfl) (v0 ?_))
 by_cases hcap:cap < p0.length+1
 refine vt (by rw[hw]; exact decide_eq_true (show (cap:Int) < ((p0.length+1:Nat):Int) by omega)) ?_
 repeat refine vs ?_
 refine v0 (bW (zB (cap:=cap) i0 (by omega) iE rfl rfl) ?_)
 refine ve λw=>HE (cap:=cap) (cs:=fl c p0 sp) (i:=p1.toNat) (m:=p0.length+1 - p1.toNat) 0 pA u3 oL rfl (by decide) w rfl rfl (congrArg (λz=>AV.sc (.int .i64 z)) hw2) (by omega) (by rw[q1]; simp only[List.length_append]; omega) (by omega) λq cap' R h1 h2 h3 hk'=>qk hk' rfl ?_
 repeat refine vs ?_
 refine v0 (bW (jP i0 (by omega) iE rfl rfl) ?_)
 have hn0:p1.toNat+(p0.length+1 - p1.toNat)=p0.length+1:=by omega
 have hn1:p1.toNat+(p0.length+1 - p1.toNat) - p1.toNat=p0.length+1 - p1.toNat:=by omega
 have e1:List.take (p1.toNat*3) (fl c p0 sp)=A:=by rw[q1,← q2,List.take_left]
 have hxl:=hc x
 have hR:3+B.length≤R.length:=by omega
 have hfl:(fl c p0 sp).length=A.length+(B.length+sp.length):=by rw[q1]; simp
 obtain⟨R1,R2,R3,hR0,hR1,hR2⟩:∃R1 R2 R3:List AV,R=R1++(R2++R3)∧R1.length=(c x).length∧R2.length=B.length:=
 ⟨R.take 3,(R.drop 3).take B.length,(R.drop 3).drop B.length,by rw[List.take_append_drop,List.take_append_drop],by rw[List.length_take,hxl]; omega,by rw[List.length_take,List.length_drop]; omega⟩
 refine ve λw=>l6 0 pA w rfl rfl (BI.sl (ys:=List.map c [x]) (by simp) _) (by simp[hxl]; omega) (by rw[e1]; simp only[List.length_append]; simp[hxl,q2]; omega) (A++(c x++(R2++R3))) (by
 rw[e1,hR0]
 simp only[List.map_cons,List.map_nil,List.flatten_cons,List.flatten_nil,List.append_nil]
 exact fW q2 hR1) λhk'=>qk hk' rfl ?_
 repeat refine vs ?_
 refine v0 ?_
 have hv4:AV.view q ((IntKind.wrap .i64 (p1+(([x]:List α).length:Int))).toNat*3) (p1.toNat+(p0.length+1 - p1.toNat) - (IntKind.wrap .i64 (p1+(([x]:List α).length:Int))).toNat)= .view q ((p1.toNat+1)*3) (p0.length - p1.toNat):=by
   rw[hw3,Int.toNat_natCast,show p1.toNat+(p0.length+1 - p1.toNat) - (p1.toNat+1)=p0.length - p1.toNat from by omega]
 refine vz [] mixed (λw=>trivial) λw=> ?_
 refine zC 0 rfl (eS (.vw _ _ _) rfl) ?_
 refine zI 1 rfl rfl ?_
 refine zI 2 rfl rfl ?_
 refine zC 3 rfl (lO rfl rfl rfl trivial) ?_
 refine zC 4 rfl (fB (jP (by rw[hw3]; omega) (by rw[hw3]; omega) iE rfl rfl) (bJ.of_eq hv4)) ?_
 refine zC 5 rfl (eS (.vw _ _ _) rfl) ?_
 refine zI 6 rfl rfl ?_
 refine zC 7 rfl (jP (m:=p0.length) i0 (by omega) iE rfl rfl) ?_
 have e2:(List.drop (p1.toNat*3) (fl c p0 sp)).take ((p0.length - p1.toNat)*3)=B:=by
   rw[q1,← q2,List.drop_left,← q3,List.take_left]
 refine zE 8 rfl (l6 0 pA w rfl rfl (cs:=B) (by rw[← e2]; exact BI.view (bC 1 w rfl)) (n1:=p0.length - p1.toNat) (m:=p0.length - p1.toNat) (by rw[q3,Nat.min_self]) (by simp only[List.length_append,hxl,q2,hR2]; omega) (fl c (p0.take p1.toNat++x::p0.drop p1.toNat) R3) (by
 rw[q4 x R3,← List.append_assoc A,← List.append_assoc A]
 exact fW (A:=A++c x) (by rw[List.length_append,hxl,q2]; omega) hR2) λK1=>⟨trivial, ?_⟩)
 refine zX (qk (f:=VP 54 _ _ _ _ _ _ _ _ _ _) K1 rfl ?_)
 repeat refine vs ?_
 refine v0 (v0 ?_)
 subst ho
 have hol:(List.take p1.toNat p0++x::List.drop p1.toNat p0).length=p0.length+1:=by simp; omega
 refine vr λw=>dX.one (.inl rfl) (bI K1 [0] rfl).2 (bJ.of_eq (show AV.vw q _ cap'=aw (some q) (p0.length+1) cap' by rw[hn0]; rfl)) ⟨⟨some q,p0.length+1,cap',R3⟩,⟨hol.symm,nofun,by rw[hol]; show p0.length+1≤cap'; omega,h2,by rw[hol]; show (p0.length+1)*3+R3.length=cap'*3; simp only[hR0,List.length_append,hR1,hR2,hxl] at h3; omega⟩,(bI K1 [0] rfl).1,rfl,rfl⟩
 refine vf (by rw[hw]; exact decide_eq_false (show ¬(cap:Int) < ((p0.length+1:Nat):Int) by omega)) (v0 ?_)
 repeat refine vs ?_
 refine v0 ?_
 have hv0:AV.vw k (IntKind.wrap .i64 ((p0.length:Int)+(([x]:List α).length:Int))).toNat cap= .vw k (p0.length+1) cap:=by rw[hw,Int.toNat_natCast]
 refine bW (fB (zB (cap:=cap) (by rw[hw]; omega) (by rw[hw]; omega) iE rfl rfl) (bJ.of_eq hv0)) ?_
 repeat refine vs ?_
 refine v0 ?_
 have hv4:AV.view k ((IntKind.wrap .i64 (p1+(([x]:List α).length:Int))).toNat*3) (p0.length+1 - (IntKind.wrap .i64 (p1+(([x]:List α).length:Int))).toNat)= .view k ((p1.toNat+1)*3) (p0.length - p1.toNat):=by
   rw[hw3,Int.toNat_natCast,show p0.length+1 - (p1.toNat+1)=p0.length - p1.toNat from by omega]
 refine bW (fB (jP (m:=p0.length+1) (by rw[hw3]; omega) (by rw[hw3]; omega) iE rfl rfl) (bJ.of_eq hv4)) ?_
 have hfl:(fl c p0 sp).length=p1.toNat*3+((p0.length - p1.toNat)*3+sp.length):=by rw[q1,List.length_append,List.length_append,q2,q3]
 refine ve λw=>oX (sz:=3) (tS:=27) (tR:=4) Tryz.func188 (by kernel_rfl) (by kernel_rfl) (by kernel_rfl) (by kernel_rfl) pA (ys:=List.map c [x]) (by simp) (by decide) rfl rfl (bC 0 w rfl) (by rw[hfl]; omega) (qk w rfl ?_)
 refine v0 ?_
 repeat refine vs ?_
 refine v0 ?_
 refine vz [] mixed (λw=>trivial) λw=> ?_
 refine zC 0 rfl (eS (.vw _ _ _) rfl) ?_
 refine zI 1 rfl rfl ?_
 refine zI 2 rfl rfl ?_
 refine zC 3 rfl (lO rfl rfl rfl trivial) ?_
 refine zC 4 rfl (fB (jP (m:=p0.length+1) (by rw[hw3]; omega) (by rw[hw3]; omega) iE rfl rfl) (bJ.of_eq hv4)) ?_
 refine zC 5 rfl (eS (.vw _ _ _) rfl) ?_
 refine zI 6 rfl rfl ?_
 refine zC 7 rfl (jP (m:=p0.length+1) i0 (by omega) iE rfl rfl) ?_
 have hxl:=hc x
 have e2:(List.drop (p1.toNat*3) (fl c p0 sp)).take ((p0.length - p1.toNat)*3)=B:=by
   rw[q1,← q2,List.drop_left,← q3,List.take_left]
 have hsp:3≤sp.length:=by omega
 obtain⟨X0,Y,Z,hXY,hX0,hY⟩:∃X0 Y Z:List AV,B++sp=X0++(Y++Z)∧X0.length=3∧Y.length=B.length:=
 ⟨(B++sp).take 3,((B++sp).drop 3).take B.length,((B++sp).drop 3).drop B.length,by rw[List.take_append_drop,List.take_append_drop],by rw[List.length_take,List.length_append]; omega,by rw[List.length_take,List.length_drop,List.length_append]; omega⟩
 have hZ:Z.length+3=sp.length:=by
   have:=congrArg List.length hXY
   simp only[List.length_append] at this
   omega
 refine zE 8 rfl (l6 0 pA w rfl rfl (cs:=B) (by rw[← e2]; exact BI.view (bC 0 w rfl)) (n1:=p0.length - p1.toNat) (m:=p0.length+1 - p1.toNat) (by rw[q3]; congr 1; omega) (by show (p1.toNat+1)*3+B.length≤(fl c p0 sp).length; rw[hfl]; omega) (A++(X0++(B++Z))) (by
 show eD (fl c p0 sp) ((p1.toNat+1)*3) B=_
 rw[q1,hXY,← List.append_assoc A,← List.append_assoc A]
 exact fW (A:=A++X0) (by rw[List.length_append,hX0,q2]; omega) hY) λK1=>⟨trivial, ?_⟩)
 refine zX (qk (f:=VP 77 _ _ _ _ _ _ _ _ _ _) K1 rfl ?_)
 repeat refine vs ?_
 refine v0 (bW (jP (m:=p0.length+1) i0 (by omega) iE rfl rfl) ?_)
 refine ve λw=>l6 0 pA w rfl rfl (BI.sl (ys:=List.map c [x]) (by simp) _) (by simp[hxl]; omega) (by simp only[List.map_cons,List.map_nil,List.flatten_cons,List.flatten_nil,List.append_nil,List.length_append,q2,hX0,hxl]; omega) (fl c (p0.take p1.toNat++x::p0.drop p1.toNat) Z) (by
 simp only[List.map_cons,List.map_nil,List.flatten_cons,List.flatten_nil,List.append_nil]
 rw[q4 x Z]
 exact fW q2 (by rw[hX0,hxl])) λK1=>qk K1 rfl ?_
 repeat refine vs ?_
 refine v0 (v0 ?_)
 subst ho
 have hol:(List.take p1.toNat p0++x::List.drop p1.toNat p0).length=p0.length+1:=by simp; omega
 refine vr λw=>dX.one (.inl rfl) (bI w [0] rfl).2 (bJ.of_eq (show AV.vw k _ cap=aw (some k) (p0.length+1) cap by rfl)) ⟨⟨some k,p0.length+1,cap,Z⟩,⟨hol.symm,nofun,by rw[hol]; show p0.length+1≤cap; omega,hmx,by rw[hol]; show (p0.length+1)*3+Z.length=cap*3; omega⟩,(bI w [0] rfl).1,rfl,rfl⟩
theorem ZK:aN Tryz.prog 180=true:=by kernel_rfl
theorem aFI {α:Type} {c:α→List AV} (hc:∀y,(c y).length=35) {p0 o:List α} {p1:Int} {x:α} (h:aF) {g:cU} (ok:bK g 35 p0.length) (K0:bV h [(g.t,.obj 44 (fl c p0 g.sp))]) (u:pF p0 p1 x=some o):
 aL Tryz.prog 117 [aZ g,nZ p1,.sl none 35 (List.map c [x])] (hp h [(g.t,.obj 44 (fl c p0 g.sp))]) (λr h'=>∃g:cU,bK g 35 o.length∧bV h [(g.t,.obj 44 (fl c o g.sp))]∧r=aZ g∧h'=hp h [(g.t,.obj 44 (fl c o g.sp))]):=by
 obtain⟨i0,i1,i2,ho⟩:=lF u
 have hv1:((([x]:List α).length:Int)==0)=false:=rfl
 refine uE K0 95 [.tmp 6] Tryz.func117 rfl rfl rfl rfl ?_
 repeat refine vs ?_
 refine v0 ?_
 repeat refine vs ?_
 refine v0 (bW (HF i0 i1 ok fJ rfl rfl) ?_)
 repeat refine vs ?_
 refine v0 (dE iX rfl ?_)
 repeat refine vs ?_
 refine v0 (v0 ?_)
 show VC _ _ _ Code.skip _ _ _ _
 refine v0 ?_
 repeat refine vs ?_
 refine v0 (bW (dQ iX ok rfl) ?_)
 repeat refine vs ?_
 refine v0 (v0 ?_)
 by_cases hi:p1=(p0.length:Int)
 refine vt (by simpa using hi) ?_
 repeat refine vs ?_
 refine v0 ?_
 refine ve λw=>gD (c:=c) 0 (C5 i2) lP rfl nR rfl hc rfl rfl ok w rfl λg' ok' hk'=>qk hk' rfl ?_
 refine v0 ?_
 have e:o=p0++ [x]:=by subst hi; rw[ho]; simp
 subst e
 exact vr λw=>dX.one (.inl rfl) (iG.refl _) (bJ.refl _ _) ⟨g',ok',w,rfl,rfl⟩
 refine vf (by simpa using hi) (v0 ?_)
 have hlt:p1.toNat < p0.length:=by omega
 obtain⟨gt,gn,cap,sp⟩:=g
 have hne:gt≠none:=λe=>by have:=ok.nil e; omega
 obtain⟨k,rfl⟩:∃k,gt=some k:=by cases gt with
 | none=>exact absurd rfl hne
 | some k=>exact⟨k,rfl⟩
 have hgn:gn=p0.length:=ok.eqn
 subst hgn
 have hle:p0.length≤cap:=ok.le
 have hmx:cap≤maxLen:=ok.mx
 have hlen:p0.length*35+sp.length=cap*35:=ok.len
 have hw:IntKind.wrap .i64 ((p0.length:Int)+(([x]:List α).length:Int))=((p0.length+1:Nat):Int):=by
   rw[IntKind.wrap_i64]; simp only[List.length_singleton]; omega
 have hw2:IntKind.wrap .i64 (IntKind.wrap .i64 ((p0.length:Int)+(([x]:List α).length:Int)) - p1)=((p0.length+1 - p1.toNat:Nat):Int):=by
   rw[hw,IntKind.wrap_i64]; omega
 have hw3:IntKind.wrap .i64 (p1+(([x]:List α).length:Int))=((p1.toNat+1:Nat):Int):=by
   rw[IntKind.wrap_i64]; simp only[List.length_singleton]; omega
 obtain⟨q1,q2,q3,q4⟩:=n5 hc (i:=p1.toNat) (by omega:p1.toNat≤p0.length) sp
 generalize hA:((p0.take p1.toNat).map c).flatten=A at q1 q2 q4
 generalize hB:((p0.drop p1.toNat).map c).flatten=B at q1 q3 q4
 repeat refine vs ?_
 refine v0 (bW (HD u26 rfl) (v0 ?_))
 by_cases hcap:cap < p0.length+1
 refine vt (by rw[hw]; exact decide_eq_true (show (cap:Int) < ((p0.length+1:Nat):Int) by omega)) ?_
 repeat refine vs ?_
 refine v0 (bW (zB (cap:=cap) i0 (by omega) fJ rfl rfl) ?_)
 refine ve λw=>HE (cap:=cap) (cs:=fl c p0 sp) (i:=p1.toNat) (m:=p0.length+1 - p1.toNat) 0 lP u3 nR rfl (by decide) w rfl rfl (congrArg (λz=>AV.sc (.int .i64 z)) hw2) (by omega) (by rw[q1]; simp only[List.length_append]; omega) (by omega) λq cap' R h1 h2 h3 hk'=>qk hk' rfl ?_
 repeat refine vs ?_
 refine v0 (bW (jP i0 (by omega) fJ rfl rfl) ?_)
 have hn0:p1.toNat+(p0.length+1 - p1.toNat)=p0.length+1:=by omega
 have hn1:p1.toNat+(p0.length+1 - p1.toNat) - p1.toNat=p0.length+1 - p1.toNat:=by omega
 have e1:List.take (p1.toNat*35) (fl c p0 sp)=A:=by rw[q1,← q2,List.take_left]
 have hxl:=hc x
 have hR:35+B.length≤R.length:=by omega
 have hfl:(fl c p0 sp).length=A.length+(B.length+sp.length):=by rw[q1]; simp
 obtain⟨R1,R2,R3,hR0,hR1,hR2⟩:∃R1 R2 R3:List AV,R=R1++(R2++R3)∧R1.length=(c x).length∧R2.length=B.length:=
 ⟨R.take 35,(R.drop 35).take B.length,(R.drop 35).drop B.length,by rw[List.take_append_drop,List.take_append_drop],by rw[List.length_take,hxl]; omega,by rw[List.length_take,List.length_drop]; omega⟩
 refine ve λw=>l6 0 lP w rfl rfl (BI.sl (ys:=List.map c [x]) (by simp) _) (by simp[hxl]; omega) (by rw[e1]; simp only[List.length_append]; simp[hxl,q2]; omega) (A++(c x++(R2++R3))) (by
 rw[e1,hR0]
 simp only[List.map_cons,List.map_nil,List.flatten_cons,List.flatten_nil,List.append_nil]
 exact fW q2 hR1) λhk'=>qk hk' rfl ?_
 repeat refine vs ?_
 refine v0 ?_
 have hv4:AV.view q ((IntKind.wrap .i64 (p1+(([x]:List α).length:Int))).toNat*35) (p1.toNat+(p0.length+1 - p1.toNat) - (IntKind.wrap .i64 (p1+(([x]:List α).length:Int))).toNat)= .view q ((p1.toNat+1)*35) (p0.length - p1.toNat):=by
   rw[hw3,Int.toNat_natCast,show p1.toNat+(p0.length+1 - p1.toNat) - (p1.toNat+1)=p0.length - p1.toNat from by omega]
 refine vz [] mixed (λw=>trivial) λw=> ?_
 refine zC 0 rfl (eS (.vw _ _ _) rfl) ?_
 refine zI 1 rfl rfl ?_
 refine zI 2 rfl rfl ?_
 refine zC 3 rfl (lO rfl rfl rfl trivial) ?_
 refine zC 4 rfl (fB (jP (by rw[hw3]; omega) (by rw[hw3]; omega) fJ rfl rfl) (bJ.of_eq hv4)) ?_
 refine zC 5 rfl (eS (.vw _ _ _) rfl) ?_
 refine zI 6 rfl rfl ?_
 refine zC 7 rfl (jP (m:=p0.length) i0 (by omega) fJ rfl rfl) ?_
 have e2:(List.drop (p1.toNat*35) (fl c p0 sp)).take ((p0.length - p1.toNat)*35)=B:=by
   rw[q1,← q2,List.drop_left,← q3,List.take_left]
 refine zE 8 rfl (l6 0 lP w rfl rfl (cs:=B) (by rw[← e2]; exact BI.view (bC 1 w rfl)) (n1:=p0.length - p1.toNat) (m:=p0.length - p1.toNat) (by rw[q3,Nat.min_self]) (by simp only[List.length_append,hxl,q2,hR2]; omega) (fl c (p0.take p1.toNat++x::p0.drop p1.toNat) R3) (by
 rw[q4 x R3,← List.append_assoc A,← List.append_assoc A]
 exact fW (A:=A++c x) (by rw[List.length_append,hxl,q2]; omega) hR2) λK1=>⟨trivial, ?_⟩)
 refine zX (qk (f:=VP 54 _ _ _ _ _ _ _ _ _ _) K1 rfl ?_)
 repeat refine vs ?_
 refine v0 (v0 ?_)
 subst ho
 have hol:(List.take p1.toNat p0++x::List.drop p1.toNat p0).length=p0.length+1:=by simp; omega
 refine vr λw=>dX.one (.inl rfl) (bI K1 [0] rfl).2 (bJ.of_eq (show AV.vw q _ cap'=aw (some q) (p0.length+1) cap' by rw[hn0]; rfl)) ⟨⟨some q,p0.length+1,cap',R3⟩,⟨hol.symm,nofun,by rw[hol]; show p0.length+1≤cap'; omega,h2,by rw[hol]; show (p0.length+1)*35+R3.length=cap'*35; simp only[hR0,List.length_append,hR1,hR2,hxl] at h3; omega⟩,(bI K1 [0] rfl).1,rfl,rfl⟩
 refine vf (by rw[hw]; exact decide_eq_false (show ¬(cap:Int) < ((p0.length+1:Nat):Int) by omega)) (v0 ?_)
 repeat refine vs ?_
 refine v0 ?_
 have hv0:AV.vw k (IntKind.wrap .i64 ((p0.length:Int)+(([x]:List α).length:Int))).toNat cap= .vw k (p0.length+1) cap:=by rw[hw,Int.toNat_natCast]
 refine bW (fB (zB (cap:=cap) (by rw[hw]; omega) (by rw[hw]; omega) fJ rfl rfl) (bJ.of_eq hv0)) ?_
 repeat refine vs ?_
 refine v0 ?_
 have hv4:AV.view k ((IntKind.wrap .i64 (p1+(([x]:List α).length:Int))).toNat*35) (p0.length+1 - (IntKind.wrap .i64 (p1+(([x]:List α).length:Int))).toNat)= .view k ((p1.toNat+1)*35) (p0.length - p1.toNat):=by
   rw[hw3,Int.toNat_natCast,show p0.length+1 - (p1.toNat+1)=p0.length - p1.toNat from by omega]
 refine bW (fB (jP (m:=p0.length+1) (by rw[hw3]; omega) (by rw[hw3]; omega) fJ rfl rfl) (bJ.of_eq hv4)) ?_
 have hfl:(fl c p0 sp).length=p1.toNat*35+((p0.length - p1.toNat)*35+sp.length):=by rw[q1,List.length_append,List.length_append,q2,q3]
 refine ve λw=>oX (sz:=35) (tS:=26) (tR:=4) Tryz.func173 (by kernel_rfl) (by kernel_rfl) (by kernel_rfl) (by kernel_rfl) lP (ys:=List.map c [x]) (by simp) (by decide) rfl rfl (bC 0 w rfl) (by rw[hfl]; omega) (qk w rfl ?_)
 refine v0 ?_
 repeat refine vs ?_
 refine v0 ?_
 refine vz [] mixed (λw=>trivial) λw=> ?_
 refine zC 0 rfl (eS (.vw _ _ _) rfl) ?_
 refine zI 1 rfl rfl ?_
 refine zI 2 rfl rfl ?_
 refine zC 3 rfl (lO rfl rfl rfl trivial) ?_
 refine zC 4 rfl (fB (jP (m:=p0.length+1) (by rw[hw3]; omega) (by rw[hw3]; omega) fJ rfl rfl) (bJ.of_eq hv4)) ?_
 refine zC 5 rfl (eS (.vw _ _ _) rfl) ?_
 refine zI 6 rfl rfl ?_
 refine zC 7 rfl (jP (m:=p0.length+1) i0 (by omega) fJ rfl rfl) ?_
 have hxl:=hc x
 have e2:(List.drop (p1.toNat*35) (fl c p0 sp)).take ((p0.length - p1.toNat)*35)=B:=by
   rw[q1,← q2,List.drop_left,← q3,List.take_left]
 have hsp:35≤sp.length:=by omega
 obtain⟨X0,Y,Z,hXY,hX0,hY⟩:∃X0 Y Z:List AV,B++sp=X0++(Y++Z)∧X0.length=35∧Y.length=B.length:=
 ⟨(B++sp).take 35,((B++sp).drop 35).take B.length,((B++sp).drop 35).drop B.length,by rw[List.take_append_drop,List.take_append_drop],by rw[List.length_take,List.length_append]; omega,by rw[List.length_take,List.length_drop,List.length_append]; omega⟩
 have hZ:Z.length+35=sp.length:=by
   have:=congrArg List.length hXY
   simp only[List.length_append] at this
   omega
 refine zE 8 rfl (l6 0 lP w rfl rfl (cs:=B) (by rw[← e2]; exact BI.view (bC 0 w rfl)) (n1:=p0.length - p1.toNat) (m:=p0.length+1 - p1.toNat) (by rw[q3]; congr 1; omega) (by show (p1.toNat+1)*35+B.length≤(fl c p0 sp).length; rw[hfl]; omega) (A++(X0++(B++Z))) (by
 show eD (fl c p0 sp) ((p1.toNat+1)*35) B=_
 rw[q1,hXY,← List.append_assoc A,← List.append_assoc A]
 exact fW (A:=A++X0) (by rw[List.length_append,hX0,q2]; omega) hY) λK1=>⟨trivial, ?_⟩)
 refine zX (qk (f:=VP 77 _ _ _ _ _ _ _ _ _ _) K1 rfl ?_)
 repeat refine vs ?_
 refine v0 (bW (jP (m:=p0.length+1) i0 (by omega) fJ rfl rfl) ?_)
 refine ve λw=>l6 0 lP w rfl rfl (BI.sl (ys:=List.map c [x]) (by simp) _) (by simp[hxl]; omega) (by simp only[List.map_cons,List.map_nil,List.flatten_cons,List.flatten_nil,List.append_nil,List.length_append,q2,hX0,hxl]; omega) (fl c (p0.take p1.toNat++x::p0.drop p1.toNat) Z) (by
 simp only[List.map_cons,List.map_nil,List.flatten_cons,List.flatten_nil,List.append_nil]
 rw[q4 x Z]
 exact fW q2 (by rw[hX0,hxl])) λK1=>qk K1 rfl ?_
 repeat refine vs ?_
 refine v0 (v0 ?_)
 subst ho
 have hol:(List.take p1.toNat p0++x::List.drop p1.toNat p0).length=p0.length+1:=by simp; omega
 refine vr λw=>dX.one (.inl rfl) (bI w [0] rfl).2 (bJ.of_eq (show AV.vw k _ cap=aw (some k) (p0.length+1) cap by rfl)) ⟨⟨some k,p0.length+1,cap,Z⟩,⟨hol.symm,nofun,by rw[hol]; show p0.length+1≤cap; omega,hmx,by rw[hol]; show (p0.length+1)*35+Z.length=cap*35; omega⟩,(bI w [0] rfl).1,rfl,rfl⟩
theorem ZL:aN Tryz.prog 117=true:=by kernel_rfl
open Go.Vm
def p5 (m:Nat) (p0:List bG) (p1:bG) (q0:Int):Option (Lp (Int) ((List bG))):=
 after (if (decide (0 < q0))=true then ((ix p0 (IntKind.wrap .i64 (q0 - 1))).bind λx0=>if (decide (p1.Vol < x0.Vol))=true then (some (.brk true)) else (ix p0 (IntKind.wrap .i64 (q0 - 1))).bind λx1=>if (x1.Vol==p1.Vol)=true then ((ix p0 (IntKind.wrap .i64 (q0 - 1))).bind λx2=>if (decide (p1.File < x2.File))=true then (some (.brk true)) else (ix p0 (IntKind.wrap .i64 (q0 - 1))).bind λx3=>if (x3.File==p1.File)=true then ((ix p0 (IntKind.wrap .i64 (q0 - 1))).bind λx4=>some (.brk (decide (p1.Off < x4.Off)))) else some (.brk false)) else some (.brk false)) else some (.brk false):Option (Lp (Bool) (Lp (Int) ((List bG))))) λj0=>if j0=true then (some (.go (IntKind.wrap .i64 (q0 - 1)))) else some (.brk q0)
def vX (m:Nat) (p0:List bG) (p1:bG):Option ((List bG)):=
 after (aT (λs=>p5 m p0 p1 s) m (p0.length:Int)) λr0=>(pF p0 r0 (p1:bG)).bind λy0=>some y0
theorem ND {w:Nat} {p0:List bG} {p1:bG} {o:(List bG)} (h:aF) {g_p0:cU} (ok_p0:bK g_p0 4 p0.length) (K0:bV h [fH g_p0 p0]) (m:vX w p0 p1=some o):
 aL Tryz.prog 176 [aZ g_p0,.agg (aO p1)] (hp h [fH g_p0 p0]) (λr h'=>∃g:cU,bK g 4 o.length∧bV h [(g.t,.obj 81 (fl aO o g.sp))]∧r=aZ g∧h'=hp h [(g.t,.obj 81 (fl aO o g.sp))]):=by
 refine uE K0 72 [.tmp 4] Tryz.func176 rfl rfl rfl rfl ?_
 unfold vX at m
 refine vs (v0 (gO rfl rfl λk2 K3=>vs (v0 (bW (dQ i9 ok_p0 rfl) (vs (jN m (σ:=Int) (λs=> [(some k2,.obj 81 (aO p1)),fH g_p0 p0]) (λs=>.c 0 (aZ g_p0) (.c 3 (.ptr k2 0) (.c 5 (nZ s) .nil))) (lx (.k3 .nil)) ?_ ?_))))))
 rintro _ q0 x m
 replace m:p5 w p0 p1 q0=some x:=m
 unfold p5 at m
 refine vs (vs (fL m (σ:=Bool) (λs=> [(some k2,.obj 81 (aO p1)),fH g_p0 p0]) (λs=>.c 0 (aZ g_p0) (.c 3 (.ptr k2 0) (.c 5 (nZ q0) (.c 64 (.sc (.bool s)) .nil)))) (λx m=> ?_) ?_))
 refine v0 (wU (by kernel_rfl) ?_)
 apply vi m <;> intro b0 m
 rw[b0]
 obtain⟨x0,X0,m⟩:=aC m
 refine bW (cP X0 jU ok_p0 rfl rfl) (bW (cV (bK.ne ok_p0 X0) CV rfl rfl) (vn (λu=>dW (fo:=0) (nZ x0.Vol) X0 eQ ok_p0 bZ rfl (aI 1 u rfl) (λ_=>rfl)) (dN CV rfl rfl (vl 0 _ bZ rfl rfl rfl ?_))))
 apply vi m <;> intro b1 m
 rw[b1]
 exact f8 m
 rw[b1]
 obtain⟨x1,X1,m⟩:=aC m
 refine bW (cP X1 jU ok_p0 rfl rfl) (bW (cV (bK.ne ok_p0 X1) CV rfl rfl) (vn (λu=>dW (fo:=0) (nZ x1.Vol) X1 eQ ok_p0 bZ rfl (aI 1 u rfl) (λ_=>rfl)) (dN CV rfl rfl (vl 0 _ bZ rfl rfl rfl ?_))))
 apply vi m <;> intro b2 m
 rw[b2]
 obtain⟨x2,X2,m⟩:=aC m
 refine bW (cP X2 jU ok_p0 rfl rfl) (bW (cV (bK.ne ok_p0 X2) CW rfl rfl) (vn (λu=>dW (fo:=1) (nZ x2.File) X2 eQ ok_p0 bZ rfl (aI 1 u rfl) (λ_=>rfl)) (dN CW rfl rfl (vl 0 _ bZ rfl rfl rfl ?_))))
 apply vi m <;> intro b3 m
 rw[b3]
 exact f8 m
 rw[b3]
 obtain⟨x3,X3,m⟩:=aC m
 refine bW (cP X3 jU ok_p0 rfl rfl) (bW (cV (bK.ne ok_p0 X3) CW rfl rfl) (vn (λu=>dW (fo:=1) (nZ x3.File) X3 eQ ok_p0 bZ rfl (aI 1 u rfl) (λ_=>rfl)) (dN CW rfl rfl (vl 0 _ bZ rfl rfl rfl ?_))))
 apply vi m <;> intro b4 m
 rw[b4]
 obtain⟨x4,X4,m⟩:=aC m
 exact bW (cP X4 jU ok_p0 rfl rfl) (bW (cV (bK.ne ok_p0 X4) L7 rfl rfl) (vn (λu=>dW (fo:=2) (nZ x4.Off) X4 eQ ok_p0 bZ rfl (aI 1 u rfl) (λ_=>rfl)) (dN L7 rfl rfl (vl 0 _ bZ rfl rfl rfl (f8 m)))))
 rw[b4]
 exact f8 m
 rw[b2]
 exact f8 m
 rw[b0]
 exact f8 m
 rintro _ j0 m
 refine v0 ?_
 apply vi m <;> intro c0 m
 exact v0 (v0 (v0 (gK m)))
 exact v0 (z9 m)
 rintro _ r0 m
 refine vs (v0 (vl 0 (.agg (aO p1)) m8 rfl rfl rfl (bW (eL (List.map aO ([p1]:List bG)) pC rfl rfl rfl rfl) ?_)))
 obtain⟨y0,Y0,m⟩:=aC m
 refine ve λu=> ?_
 have ho0:=mB (A:= [fH g_p0 p0]) (R:= [(some k2,.obj 81 (aO p1))]) u [[_], [_]] rfl [1] [0] rfl rfl rfl
 refine dC ho0.1 (cM (aFG eQ _ ok_p0 ho0.2.2 Y0) rfl ZJ rfl ?_)
 rintro x h' ⟨ag0,O0,K1,rfl,rfl⟩
 have K2:=mC (L':= [(some k2,.obj 81 (aO p1)),fH ag0 y0]) ho0.2.1 K1 [[_]] [[_]] rfl rfl [1,0] rfl rfl
 refine qk K2.2 K2.1 (v0 ?_)
 obtain rfl:=eE m
 exact vr λu=>dX.one (.inl rfl) (aS (h0:=h) (L':= [fH ag0 y0]) (.cons _ (.refl _)) u).1 (bJ.refl _ _) ⟨ag0,O0,(aS (h0:=h) (L':= [fH ag0 y0]) (.cons _ (.refl _)) u).2,rfl,rfl⟩
theorem NE:aN Tryz.prog 176=true:=by kernel_rfl
open Go.Vm
def HI (m:Nat) (p0:aA) (p1:aU) (p2:bG):Option (Int×Int×BD):=
 after (if (p1.Kind==1)=true then ((wP m p0.Chunks p1.Id).bind λy0=>if (!y0.2)=true then (some (.ret (8,p0.Seq,p0.Snaps,p0.Chunks,p0.Exps))) else (ix p0.Chunks y0.1).bind λx2=>(vX m x2.Locs p2).bind λy1=>(ix p0.Chunks y0.1).bind λx3=>some (.brk (p0.Seq,p0.Snaps,p0.Chunks.set y0.1.toNat ({ x3 with Locs:=y1}),p0.Exps))) else after (if (p1.Kind==2)=true then ((p4 m p0.Snaps (λx0=>M8 m x0 p1)).bind λy2=>if (decide (y2 < 0))=true then (some (.ret (.ret (8,p0.Seq,p0.Snaps,p0.Chunks,p0.Exps)))) else (ix p0.Snaps y2).bind λx4=>(vX m x4.Locs p2).bind λy3=>(ix p0.Snaps y2).bind λx5=>some (.brk (p0.Seq,p0.Snaps.set y2.toNat ({ x5 with Locs:=y3}),p0.Exps))) else after (if (p1.Kind==3)=true then ((M9 m p0.Exps p1.Seq (λx0 x1=>C6 m x0 x1)).bind λy4=>after (if (!y4.2)=true then ((pF p0.Exps y4.1 (({ Seq:=p1.Seq,Of:=p1.Of,Locs:= []}:aQ):aQ)).bind λy5=>some (.brk ((max p0.Seq (IntKind.wrap .i64 (p1.Seq+1))),y5))) else some (.brk (p0.Seq,p0.Exps)):Option (Lp (Int×(List aQ)) (Lp (Int×(List aQ)) (Lp (Int×(List aH)×(List aQ)) (Lp (Int×BD) (Int×Int×BD)))))) λ⟨j0,j1⟩=>(ix j1 y4.1).bind λx6=>(vX m x6.Locs p2).bind λy6=>(ix j1 y4.1).bind λx7=>some (.brk (j0,j1.set y4.1.toNat ({ x7 with Locs:=y6})))) else some (.brk (p0.Seq,p0.Exps)):Option (Lp (Int×(List aQ)) (Lp (Int×(List aH)×(List aQ)) (Lp (Int×BD) (Int×Int×BD))))) λ⟨j2,j3⟩=>some (.brk (j2,p0.Snaps,j3)):Option (Lp (Int×(List aH)×(List aQ)) (Lp (Int×BD) (Int×Int×BD)))) λ⟨j4,j5,j6⟩=>some (.brk (j4,j5,p0.Chunks,j6)):Option (Lp (Int×BD) (Int×Int×BD))) λ⟨j7,j8,j9,j10⟩=>some (0,j7,j8,j9,j10)
theorem aFJ {w:Nat} {p0:aA} {p1:aU} {p2:bG} {o:Int×Int×BD} (h:aF) {p0K:cE} {gS:dH} (ok_Snaps:mD aH.Locs 4 4 gS (p0.Snaps:List aH)) {gC:dH} (oC:mD aB.Locs 35 4 gC (p0.Chunks:List aB)) {gE:dH} (oE:mD aQ.Locs 3 4 gE (p0.Exps:List aQ)) {gV:cU} (oV:bK gV 4 p0.Vols.length) (K0:bV h ([OC p0K p0.Seq gS.a gC.a gE.a gV,bM gS p0.Snaps,aW gC p0.Chunks,bR gE p0.Exps,aM gV p0.Vols]++((bQ gS p0.Snaps)++((a9 gC p0.Chunks)++(bS gE p0.Exps))))) (m:HI w p0 p1 p2=some o):
 aL Tryz.prog 123 [.ptr p0K 0,.agg (a8 p1),.agg (aO p2)] (hp h ([OC p0K p0.Seq gS.a gC.a gE.a gV,bM gS p0.Snaps,aW gC p0.Chunks,bR gE p0.Exps,aM gV p0.Vols]++((bQ gS p0.Snaps)++((a9 gC p0.Chunks)++(bS gE p0.Exps))))) (λr h'=>∃g_Snaps':dH,mD aH.Locs 4 4 g_Snaps' (o.2.2.1:List aH)∧∃g_Chunks':dH,mD aB.Locs 35 4 g_Chunks' (o.2.2.2.1:List aB)∧∃g_Exps':dH,mD aQ.Locs 3 4 g_Exps' (o.2.2.2.2:List aQ)∧bV h ([OC p0K o.2.1 g_Snaps'.a g_Chunks'.a g_Exps'.a gV,bM g_Snaps' o.2.2.1,aW g_Chunks' o.2.2.2.1,bR g_Exps' o.2.2.2.2,aM gV p0.Vols]++((bQ g_Snaps' o.2.2.1)++((a9 g_Chunks' o.2.2.2.1)++(bS g_Exps' o.2.2.2.2))))∧r=nZ o.1∧h'=hp h ([OC p0K o.2.1 g_Snaps'.a g_Chunks'.a g_Exps'.a gV,bM g_Snaps' o.2.2.1,aW g_Chunks' o.2.2.2.1,bR g_Exps' o.2.2.2.2,aM gV p0.Vols]++((bQ g_Snaps' o.2.2.1)++((a9 g_Chunks' o.2.2.2.1)++(bS g_Exps' o.2.2.2.2))))):=by
 refine uE K0 129 [.tmp 6] Tryz.func123 rfl rfl rfl rfl ?_
 unfold HI at m
 refine vs (v0 (gO rfl rfl λk2 K3=>gO rfl rfl λk5 K6=>vs (vs (v0 (dN lY rfl rfl (vl 1 _ bZ rfl rfl rfl (v0 (vs (v0 (pJ m (σ:=Int×BD) (τ:=dH×dH×dH) (λg s=>([(some k5,.obj 81 (aO p2)),(some k2,.obj 38 (a8 p1)),OC p0K s.1 g.1.a g.2.1.a g.2.2.a gV,bM g.1 s.2.1,aW g.2.1 s.2.2.1,bR g.2.2 s.2.2.2,aM gV p0.Vols]++((bQ g.1 s.2.1)++((a9 g.2.1 s.2.2.1)++(bS g.2.2 s.2.2.2))))) (λg s=>mD aH.Locs 4 4 g.1 (s.2.1:List aH)∧mD aB.Locs 35 4 g.2.1 (s.2.2.1:List aB)∧mD aQ.Locs 3 4 g.2.2 (s.2.2.2:List aQ)) (λg s=>.nil) (λx m=> ?_) ?_))))))))))
 refine v0 ?_
 apply vi m <;> intro c0 m
 refine vs (v0 (wU (by kernel_rfl) (jM rfl (dN dY rfl rfl (vl 2 (aZ gC.a) eU rfl rfl rfl (dN uW rfl rfl (vl 1 (.agg (bL p1.Id)) fR rfl rfl rfl ?_)))))))
 obtain⟨y0,Y0,m⟩:=aC m
 refine vn (λu=>cC (fF (.cons (Br.awN 4 cR eQ FD oC.k u rfl (UQ [[_], [_], [_], [_], [_], [_], [_],_,_,_] rfl 8 rfl)) (.cons (Br.refl _ _) .nil)) rfl (QA _ Y0)) rfl IF rfl) (vs (vs (v0 (v0 ?_))))
 apply vi m <;> intro c1 m
 refine vs (v0 (v0 (fZ m λm=> ?_)))
 cases m
 exact vr λu=>dX.of1 (.inl rfl) (fT _ _ (.sc (.int _ _)) rfl) (tD (L':=([OC p0K p0.Seq gS.a gC.a gE.a gV,bM gS p0.Snaps,aW gC p0.Chunks,bR gE p0.Exps,aM gV p0.Vols]++((bQ gS p0.Snaps)++((a9 gC p0.Chunks)++(bS gE p0.Exps))))) u [[_], [_], [_], [_], [_], [_], [_],_,_,_] rfl [2,3,4,5,6,7,8,9] rfl rfl).2 (bJ.refl _ _) ⟨gS,ok_Snaps,gC,oC,gE,oE,(tD (L':=([OC p0K p0.Seq gS.a gC.a gE.a gV,bM gS p0.Snaps,aW gC p0.Chunks,bR gE p0.Exps,aM gV p0.Vols]++((bQ gS p0.Snaps)++((a9 gC p0.Chunks)++(bS gE p0.Exps))))) u [[_], [_], [_], [_], [_], [_], [_],_,_,_] rfl [2,3,4,5,6,7,8,9] rfl rfl).1,rfl,rfl⟩
 refine v0 (v0 (vz [(1000000,some p0K,.obj 30 ([nZ p0.Seq,aZ gS.a,aZ gC.a,aZ gE.a,aZ gV])),(17,gC.a.t,.obj 44 (fl jK (zg (p0.Chunks:List aB) gC.gs) gC.a.sp)),(1000000,some k5,.obj 81 (aO p2))] mixed (λu=>⟨λ_=>aI 2 u rfl,λ_=>aI 4 u rfl,λ_=>aI 0 u rfl,trivial⟩) λu=>zP 0 rfl rfl (zN 1 rfl rfl (zF 2 rfl dY rfl (zL 3 0 (aZ gC.a) rfl eU rfl rfl rfl (zI 4 rfl rfl (zP 5 rfl rfl (zN 6 rfl rfl (zF 7 rfl dY rfl (zL 8 0 (aZ gC.a) rfl eU rfl rfl rfl (zI 9 rfl rfl ?_)))))))))))
 obtain⟨x1,X0,m⟩:=aC m
 refine zC 10 rfl (cP (oC.k.ix X0) fJ oC.k.z rfl rfl) (zC 11 rfl (cV (bK.ne oC.k.z (oC.k.ix X0)) iY rfl rfl) ?_)
 obtain⟨gv0,hg0,ga0,gn0⟩:=oC.gx X0
 refine wJ 12 rfl (λ_ _ hi hB=>fB (dW (fo:=34) (awO aO 4 (gx gC.gs y0.1.toNat) x1.Locs) (oC.k.ix X0) iS oC.k.z eZ rfl (fV.get 1 hi rfl (hB 17 (by kernel_rfl))) (λ_=>rfl)) (bJ.of_eq (congrArg (λz=>awO aO 4 z x1.Locs) hg0))) (zL 13 2 (.agg (aO p2)) rfl m8 rfl rfl rfl ?_)
 obtain⟨y1,Y1,m⟩:=aC m
 refine zE 14 rfl ?_
 have ho0:=qI (R:=([(some k5,.obj 81 (aO p2)),(some k2,.obj 38 (a8 p1)),OC p0K p0.Seq gS.a gC.a gE.a gV,bM gS p0.Snaps,aW gC p0.Chunks,bR gE p0.Exps,aM gV p0.Vols]++((bQ gS p0.Snaps)++((kK 81 aO ((nl aB.Locs (zg (p0.Chunks:List aB) gC.gs)).eraseIdx y0.1.toNat))++(bS gE p0.Exps))))) u [[_], [_], [_], [_], [_], [_], [_],_,_,_] rfl 8 rfl gn0 rfl
 have ho1:=cL [(eG gv0 x1.Locs)] _ ho0.2
 refine dC (ho0.1.trans (cW h [(eG gv0 x1.Locs)] _).symm) (cM (ND _ ga0 ho1.2 Y1) rfl NE rfl ?_)
 rintro x h' ⟨ag0,O0,K1,rfl,rfl⟩
 refine kT (cW h [fH ag0 y1] _) (⟨⟨λ_=>aI 3 (dI ho1.1 K1) rfl,λ_=>aI 5 (dI ho1.1 K1) rfl,λ_=>aI 1 (dI ho1.1 K1) rfl,trivial⟩, ?_⟩)
 obtain⟨x2,X1,m⟩:=aC m
 refine zC 15 rfl (cP (oC.k.ix X1) fJ oC.k.z rfl rfl) (zC 16 rfl (cV (bK.ne oC.k.z (oC.k.ix X1)) iY rfl rfl) (zE 17 rfl (cK (fo:=34) (x':=(({ x2 with Locs:=y1}:aB),some ag0)) 5 (dI ho1.1 K1) (oC.k.ix X1) iS oC.k.z rfl rfl (cD rfl) (cG (bY _ _ _) rfl) (cX.refl _ _) nX rfl rfl ?_)))
 intro K2
 have O1:=oC.setL (x':=({ x2 with Locs:=y1}:aB)) X1 ag0 O0
 have hr0:=tC (L':=(eG ag0 y1)::(([(some k5,.obj 81 (aO p2)),(some k2,.obj 38 (a8 p1)),OC p0K p0.Seq gS.a gC.a gE.a gV,bM gS p0.Snaps,(gC.a.t,.obj 44 (fl jK (((zg (p0.Chunks:List aB) gC.gs)).set y0.1.toNat (({ x2 with Locs:=y1}:aB),some ag0)) gC.a.sp)),bR gE p0.Exps,aM gV p0.Vols]:HL)++((bQ gS p0.Snaps)++((kK 81 aO ((nl aB.Locs (zg (p0.Chunks:List aB) gC.gs)).eraseIdx y0.1.toNat))++(bS gE p0.Exps))))) K2 [[_], [_], [_], [_], [_], [_], [_], [_],_,_,_] rfl [0,1,2,3,4,5,6,7,8,9,10] rfl rfl
 have hj0:=oW (L':=([(some k5,.obj 81 (aO p2)),(some k2,.obj 38 (a8 p1)),OC p0K p0.Seq gS.a ((⟨gC.a,gC.gs.set y0.1.toNat (some ag0)⟩:dH).a) gE.a gV,bM gS p0.Snaps,aW (⟨gC.a,gC.gs.set y0.1.toNat (some ag0)⟩:dH) (p0.Chunks.set y0.1.toNat ({ x2 with Locs:=y1})),bR gE p0.Exps,aM gV p0.Vols]++((bQ gS p0.Snaps)++((a9 (⟨gC.a,gC.gs.set y0.1.toNat (some ag0)⟩:dH) (p0.Chunks.set y0.1.toNat ({ x2 with Locs:=y1})))++(bS gE p0.Exps))))) [[_], [_], [_], [_], [_], [_], [_],_,_,_] rfl 8 (zs:=nl aB.Locs (zg (p0.Chunks:List aB) gC.gs)) (j:=y0.1.toNat) (aB.Locs ({ x2 with Locs:=y1}:aB),some ag0) (jO (oC.k.nlat X1)) rfl hr0.2 (by rw[← (oC.k.setL (x':=({ x2 with Locs:=y1}:aB)) X1 ag0 O0).2.2,(oC.k.setL (x':=({ x2 with Locs:=y1}:aB)) X1 ag0 O0).2.1]; rfl)
 refine kT (hr0.1.trans hj0.1) (⟨⟨λ_=>aI 2 hj0.2 rfl,λe=>absurd e (by decide),λ_=>aI 0 hj0.2 rfl,trivial⟩, ?_⟩)
 exact zX (qk (f:=wK 44 _ _ _ _ _ _ _ _ _ _ _ _ _ _ _ _ _ _) hj0.2 rfl (eW m (gS,(⟨gC.a,gC.gs.set y0.1.toNat (some ag0)⟩:dH),gE) ⟨ok_Snaps,O1,oE⟩ (lx .nil)))
 refine vs (v0 (pJ m (σ:=Int×(List aH)×(List aQ)) (τ:=dH×dH) (λg s=>([(some k5,.obj 81 (aO p2)),(some k2,.obj 38 (a8 p1)),OC p0K s.1 g.1.a gC.a g.2.a gV,bM g.1 s.2.1,aW gC p0.Chunks,bR g.2 s.2.2,aM gV p0.Vols]++((bQ g.1 s.2.1)++((a9 gC p0.Chunks)++(bS g.2 s.2.2))))) (λg s=>mD aH.Locs 4 4 g.1 (s.2.1:List aH)∧mD aQ.Locs 3 4 g.2 (s.2.2:List aQ)) (λg s=>.nil) (λx m=> ?_) ?_))
 refine v0 ?_
 apply vi m <;> intro c2 m
 refine vs (v0 (jM rfl (dN dV rfl rfl (vl 2 (aZ gS.a) fC rfl rfl rfl ?_))))
 obtain⟨y2,Y2,m⟩:=aC m
 refine ve λu=> ?_
 have ho2:=mB (A:= [bM gS p0.Snaps]) (R:=([(some k5,.obj 81 (aO p2)),(some k2,.obj 38 (a8 p1)),OC p0K p0.Seq gS.a gC.a gE.a gV,aW gC p0.Chunks,bR gE p0.Exps,aM gV p0.Vols]++((bQ gS p0.Snaps)++((a9 gC p0.Chunks)++(bS gE p0.Exps))))) u [[_], [_], [_], [_], [_], [_], [_],_,_,_] rfl [3] [0,1,2,4,5,6,7,8,9] rfl rfl rfl
 refine dC ho2.1 (cM (ZA kP _ ok_Snaps.k.z ho2.2.2 ZB (λx0 o h0 hs ho=>ZC (p0:=x0.1) (og0:=x0.2) h0 (hs _ _ (bC 1 ho2.2.1 rfl)) ho) (M6 ok_Snaps.k.len Y2)) rfl EU rfl ?_)
 rintro x h' ⟨rfl,rfl⟩
 refine qk u ho2.1.symm (vs (vs (v0 (v0 ?_))))
 apply vi m <;> intro c3 m
 refine vs (v0 (v0 (fZ m λm=>fZ m λm=> ?_)))
 cases m
 exact vr λu=>dX.of1 (.inl rfl) (fT _ _ (.sc (.int _ _)) rfl) (tD (L':=([OC p0K p0.Seq gS.a gC.a gE.a gV,bM gS p0.Snaps,aW gC p0.Chunks,bR gE p0.Exps,aM gV p0.Vols]++((bQ gS p0.Snaps)++((a9 gC p0.Chunks)++(bS gE p0.Exps))))) u [[_], [_], [_], [_], [_], [_], [_],_,_,_] rfl [2,3,4,5,6,7,8,9] rfl rfl).2 (bJ.refl _ _) ⟨gS,ok_Snaps,gC,oC,gE,oE,(tD (L':=([OC p0K p0.Seq gS.a gC.a gE.a gV,bM gS p0.Snaps,aW gC p0.Chunks,bR gE p0.Exps,aM gV p0.Vols]++((bQ gS p0.Snaps)++((a9 gC p0.Chunks)++(bS gE p0.Exps))))) u [[_], [_], [_], [_], [_], [_], [_],_,_,_] rfl [2,3,4,5,6,7,8,9] rfl rfl).1,rfl,rfl⟩
 refine v0 (v0 (vz [(1000000,some p0K,.obj 30 ([nZ p0.Seq,aZ gS.a,aZ gC.a,aZ gE.a,aZ gV])),(17,gS.a.t,.obj 60 (fl kO (zg (p0.Snaps:List aH) gS.gs) gS.a.sp)),(1000000,some k5,.obj 81 (aO p2))] mixed (λu=>⟨λ_=>aI 2 u rfl,λ_=>aI 3 u rfl,λ_=>aI 0 u rfl,trivial⟩) λu=>zP 0 rfl rfl (zN 1 rfl rfl (zF 2 rfl dV rfl (zL 3 0 (aZ gS.a) rfl fC rfl rfl rfl (zI 4 rfl rfl (zP 5 rfl rfl (zN 6 rfl rfl (zF 7 rfl dV rfl (zL 8 0 (aZ gS.a) rfl fC rfl rfl rfl (zI 9 rfl rfl ?_)))))))))))
 obtain⟨x3,X2,m⟩:=aC m
 refine zC 10 rfl (cP (ok_Snaps.k.ix X2) iJ ok_Snaps.k.z rfl rfl) (zC 11 rfl (cV (bK.ne ok_Snaps.k.z (ok_Snaps.k.ix X2)) jS rfl rfl) ?_)
 obtain⟨gv1,hg1,ga1,gn1⟩:=ok_Snaps.gx X2
 refine wJ 12 rfl (λ_ _ hi hB=>fB (dW (fo:=3) (awO aO 4 (gx gS.gs y2.toNat) x3.Locs) (ok_Snaps.k.ix X2) kP ok_Snaps.k.z eZ rfl (fV.get 1 hi rfl (hB 17 (by kernel_rfl))) (λ_=>rfl)) (bJ.of_eq (congrArg (λz=>awO aO 4 z x3.Locs) hg1))) (zL 13 2 (.agg (aO p2)) rfl m8 rfl rfl rfl ?_)
 obtain⟨y3,Y3,m⟩:=aC m
 refine zE 14 rfl ?_
 have ho3:=qI (R:=([(some k5,.obj 81 (aO p2)),(some k2,.obj 38 (a8 p1)),OC p0K p0.Seq gS.a gC.a gE.a gV,bM gS p0.Snaps,aW gC p0.Chunks,bR gE p0.Exps,aM gV p0.Vols]++((kK 81 aO ((nl aH.Locs (zg (p0.Snaps:List aH) gS.gs)).eraseIdx y2.toNat))++((a9 gC p0.Chunks)++(bS gE p0.Exps))))) u [[_], [_], [_], [_], [_], [_], [_],_,_,_] rfl 7 rfl gn1 rfl
 have ho4:=cL [(eG gv1 x3.Locs)] _ ho3.2
 refine dC (ho3.1.trans (cW h [(eG gv1 x3.Locs)] _).symm) (cM (ND _ ga1 ho4.2 Y3) rfl NE rfl ?_)
 rintro x h' ⟨ag1,O2,K4,rfl,rfl⟩
 refine kT (cW h [fH ag1 y3] _) (⟨⟨λ_=>aI 3 (dI ho4.1 K4) rfl,λ_=>aI 4 (dI ho4.1 K4) rfl,λ_=>aI 1 (dI ho4.1 K4) rfl,trivial⟩, ?_⟩)
 obtain⟨x4,X3,m⟩:=aC m
 refine zC 15 rfl (cP (ok_Snaps.k.ix X3) iJ ok_Snaps.k.z rfl rfl) (zC 16 rfl (cV (bK.ne ok_Snaps.k.z (ok_Snaps.k.ix X3)) jS rfl rfl) (zE 17 rfl (cK (fo:=3) (x':=(({ x4 with Locs:=y3}:aH),some ag1)) 4 (dI ho4.1 K4) (ok_Snaps.k.ix X3) kP ok_Snaps.k.z rfl rfl (cD rfl) (cG (bY _ _ _) rfl) (cX.refl _ _) nX rfl rfl ?_)))
 intro K5
 have O3:=ok_Snaps.setL (x':=({ x4 with Locs:=y3}:aH)) X3 ag1 O2
 have hr1:=tC (L':=(eG ag1 y3)::(([(some k5,.obj 81 (aO p2)),(some k2,.obj 38 (a8 p1)),OC p0K p0.Seq gS.a gC.a gE.a gV,(gS.a.t,.obj 60 (fl kO (((zg (p0.Snaps:List aH) gS.gs)).set y2.toNat (({ x4 with Locs:=y3}:aH),some ag1)) gS.a.sp)),aW gC p0.Chunks,bR gE p0.Exps,aM gV p0.Vols]:HL)++((kK 81 aO ((nl aH.Locs (zg (p0.Snaps:List aH) gS.gs)).eraseIdx y2.toNat))++((a9 gC p0.Chunks)++(bS gE p0.Exps))))) K5 [[_], [_], [_], [_], [_], [_], [_], [_],_,_,_] rfl [0,1,2,3,4,5,6,7,8,9,10] rfl rfl
 have hj1:=oW (L':=([(some k5,.obj 81 (aO p2)),(some k2,.obj 38 (a8 p1)),OC p0K p0.Seq ((⟨gS.a,gS.gs.set y2.toNat (some ag1)⟩:dH).a) gC.a gE.a gV,bM (⟨gS.a,gS.gs.set y2.toNat (some ag1)⟩:dH) (p0.Snaps.set y2.toNat ({ x4 with Locs:=y3})),aW gC p0.Chunks,bR gE p0.Exps,aM gV p0.Vols]++((bQ (⟨gS.a,gS.gs.set y2.toNat (some ag1)⟩:dH) (p0.Snaps.set y2.toNat ({ x4 with Locs:=y3})))++((a9 gC p0.Chunks)++(bS gE p0.Exps))))) [[_], [_], [_], [_], [_], [_], [_],_,_,_] rfl 7 (zs:=nl aH.Locs (zg (p0.Snaps:List aH) gS.gs)) (j:=y2.toNat) (aH.Locs ({ x4 with Locs:=y3}:aH),some ag1) (jO (ok_Snaps.k.nlat X3)) rfl hr1.2 (by rw[← (ok_Snaps.k.setL (x':=({ x4 with Locs:=y3}:aH)) X3 ag1 O2).2.2,(ok_Snaps.k.setL (x':=({ x4 with Locs:=y3}:aH)) X3 ag1 O2).2.1]; rfl)
 refine kT (hr1.1.trans hj1.1) (⟨⟨λ_=>aI 2 hj1.2 rfl,λe=>absurd e (by decide),λ_=>aI 0 hj1.2 rfl,trivial⟩, ?_⟩)
 exact zX (qk (f:=wK 71 _ _ _ _ _ _ _ _ _ _ _ _ _ _ _ _ _ _) hj1.2 rfl (eW m ((⟨gS.a,gS.gs.set y2.toNat (some ag1)⟩:dH),gE) ⟨O3,oE⟩ (lx .nil)))
 refine vs (v0 (pJ m (σ:=Int×(List aQ)) (τ:=dH) (λg s=>([(some k5,.obj 81 (aO p2)),(some k2,.obj 38 (a8 p1)),OC p0K s.1 gS.a gC.a g.a gV,bM gS p0.Snaps,aW gC p0.Chunks,bR g s.2,aM gV p0.Vols]++((bQ gS p0.Snaps)++((a9 gC p0.Chunks)++(bS g s.2))))) (λg s=>mD aQ.Locs 3 4 g (s.2:List aQ)) (λg s=>.nil) (λx m=> ?_) ?_))
 refine v0 ?_
 apply vi m <;> intro c4 m
 refine vs (v0 (wU (by kernel_rfl) (jM rfl (dN eR rfl rfl (vl 2 (aZ gE.a) iF rfl rfl rfl (dN lA rfl rfl (vl 1 _ bZ rfl rfl rfl ?_)))))))
 obtain⟨y4,Y4,m⟩:=aC m
 refine vn (λu=>cC (fF (.cons (Br.awN 5 fM eQ UT oE.k u rfl (UQ [[_], [_], [_], [_], [_], [_], [_],_,_,_] rfl 9 rfl)) (.cons (Br.refl _ _) (.cons (Br.refl _ _) .nil))) rfl (aFB _ ZD (λx0 _ o h0 hs ho=>aFA _ ho) Y4)) rfl ZE rfl) (vs (vs (v0 (pJ m (σ:=Int×(List aQ)) (τ:=dH) (λg s=>([(some k5,.obj 81 (aO p2)),(some k2,.obj 38 (a8 p1)),OC p0K s.1 gS.a gC.a g.a gV,bM gS p0.Snaps,aW gC p0.Chunks,bR g s.2,aM gV p0.Vols]++((bQ gS p0.Snaps)++((a9 gC p0.Chunks)++(bS g s.2))))) (λg s=>mD aQ.Locs 3 4 g (s.2:List aQ)) (λg s=>.c 0 (.ptr p0K 0) (.c 5 (.ptr k5 0) (.c 10 (nZ y4.1) .nil))) (λx m=> ?_) ?_))))
 refine v0 ?_
 apply vi m <;> intro c5 m
 refine vs (v0 (vz [(15,some p0K,.obj 30 ([nZ p0.Seq,aZ gS.a,aZ gC.a,aZ gE.a,aZ gV])),(1000000,some k2,.obj 38 (a8 p1))] mixed (λu=>⟨λ_=>aI 2 u rfl,λ_=>aI 1 u rfl,trivial⟩) λu=>zP 0 rfl rfl (zP 1 rfl rfl (zN 2 rfl rfl (zF 3 rfl eR rfl (zL 4 0 (aZ gE.a) rfl iF rfl rfl rfl (zI 5 rfl rfl (zF 6 rfl lA rfl (zL 7 1 (nZ p1.Seq) rfl bZ rfl rfl rfl (zF 8 rfl uX rfl (zL 9 1 (nZ p1.Of) rfl bZ rfl rfl rfl (zC 10 rfl (fB (y:=.agg (lG ((({ Seq:=p1.Seq,Of:=p1.Of,Locs:= []}:aQ):aQ),some g0))) (fI ([nZ p1.Seq,nZ p1.Of,sZ]) W2 rfl) (bJ.agg (.k2 (.cons (fY _) .nil)))) (zC 11 rfl (eL (List.map lG [((({ Seq:=p1.Seq,Of:=p1.Of,Locs:= []}:aQ):aQ),some g0)]) pA rfl rfl rfl rfl) ?_)))))))))))))
 obtain⟨y5,Y5,m⟩:=aC m
 refine zE 12 rfl ?_
 have ho5:=mB (A:= [bR gE p0.Exps]) (R:=([(some k5,.obj 81 (aO p2)),(some k2,.obj 38 (a8 p1)),OC p0K p0.Seq gS.a gC.a gE.a gV,bM gS p0.Snaps,aW gC p0.Chunks,aM gV p0.Vols]++((bQ gS p0.Snaps)++((a9 gC p0.Chunks)++(bS gE p0.Exps))))) u [[_], [_], [_], [_], [_], [_], [_],_,_,_] rfl [5] [0,1,2,3,4,6,7,8,9] rfl rfl rfl
 refine dC ho5.1 (cM (aFH oY _ oE.k.z ho5.2.2 (QS oE.k.len (some g0) Y5)) rfl ZK rfl ?_)
 rintro x h' ⟨ag2,O4,K7,rfl,rfl⟩
 have K8:=mC (L':=([(some k5,.obj 81 (aO p2)),(some k2,.obj 38 (a8 p1)),(hO p0K p0.Seq gS.a gC.a gE.a gV),bM gS p0.Snaps,aW gC p0.Chunks,bR (⟨ag2,lS gE.gs y4.1.toNat (some g0)⟩:dH) y5,aM gV p0.Vols]++((bQ gS p0.Snaps)++((a9 gC p0.Chunks)++(bS gE p0.Exps))))) ho5.2.1 K7 [[_]] [[_], [_], [_], [_], [_], [_],_,_,_] rfl rfl [1,2,3,4,5,0,6,7,8,9] rfl rfl
 have K9:=QT (L':=([(some k5,.obj 81 (aO p2)),(some k2,.obj 38 (a8 p1)),(hO p0K p0.Seq gS.a gC.a gE.a gV),bM gS p0.Snaps,aW gC p0.Chunks,bR (⟨ag2,lS gE.gs y4.1.toNat (some g0)⟩:dH) y5,aM gV p0.Vols]++((bQ gS p0.Snaps)++((a9 gC p0.Chunks)++(bS (⟨ag2,lS gE.gs y4.1.toNat (some g0)⟩:dH) y5))))) K8.2 [[_], [_], [_], [_], [_], [_], [_],_,_,_] rfl 9 oE.k.len (og:=some g0) rfl Y5 rfl rfl
 refine kT (K8.1.trans K9.1) (⟨⟨λ_=>aI 2 K9.2 rfl,λ_=>aI 1 K9.2 rfl,trivial⟩, ?_⟩)
 refine zN 13 rfl rfl (zF 14 rfl eR rfl (zE 15 rfl (aK 2 ([nZ p0.Seq,aZ gS.a,aZ gC.a,aw (⟨ag2,lS gE.gs y4.1.toNat (some g0)⟩:dH).a.t (⟨ag2,lS gE.gs y4.1.toNat (some g0)⟩:dH).a.n (⟨ag2,lS gE.gs y4.1.toNat (some g0)⟩:dH).a.cap,aZ gV]) K9.2 rfl rfl (cD rfl) (cG (bY _ _ _) rfl) JU rfl rfl λK10=>⟨⟨λe=>absurd e (by decide),λ_=>aI 1 K10 rfl,trivial⟩, ?_⟩)))
 refine zX (qk (f:=aCS 100 _ _ _ _ _ _ _ _ _ _ _ _ _ _ _ _) K10 rfl (v0 (vz [(11,some p0K,.obj 30 ([nZ p0.Seq,aZ gS.a,aZ gC.a,aw (⟨ag2,lS gE.gs y4.1.toNat (some g0)⟩:dH).a.t (⟨ag2,lS gE.gs y4.1.toNat (some g0)⟩:dH).a.n (⟨ag2,lS gE.gs y4.1.toNat (some g0)⟩:dH).a.cap,aZ gV])),(1000000,some k2,.obj 38 (a8 p1))] mixed (λu=>⟨λ_=>aI 2 u rfl,λ_=>aI 1 u rfl,trivial⟩) λu=>zP 0 rfl rfl (zP 1 rfl rfl (zN 2 rfl rfl (zF 3 rfl nQ rfl (zL 4 0 (nZ p0.Seq) rfl bZ rfl rfl rfl (zF 5 rfl lA rfl (zL 6 1 (nZ p1.Seq) rfl bZ rfl rfl rfl (zC 7 rfl (lO rfl rfl rfl trivial) (zC 8 rfl (WH rfl rfl) (zN 9 rfl rfl (zF 10 rfl nQ rfl (zE 11 rfl (aK 2 ([nZ (max p0.Seq (IntKind.wrap .i64 (p1.Seq+1))),aZ gS.a,aZ gC.a,aw (⟨ag2,lS gE.gs y4.1.toNat (some g0)⟩:dH).a.t (⟨ag2,lS gE.gs y4.1.toNat (some g0)⟩:dH).a.n (⟨ag2,lS gE.gs y4.1.toNat (some g0)⟩:dH).a.cap,aZ gV]) u rfl rfl rfl rfl AA rfl rfl λK11=>⟨⟨λe=>absurd e (by decide),λ_=>aI 1 K11 rfl,trivial⟩, ?_⟩)))))))))))))))
 exact zX (qk (f:=TB 111 _ _ _ _ _ _ _ _ _ _ _ _) K11 rfl (eW m (⟨ag2,lS gE.gs y4.1.toNat (some g0)⟩:dH) (oE.ins Y5 rfl O4) (lx (.k3 .nil))))
 exact v0 (eW m gE oE (lx (.k3 .nil)))
 rintro ng0 ⟨j0,j1⟩ O5 m
 refine v0 (vz [(1000000,some p0K,.obj 30 ([nZ j0,aZ gS.a,aZ gC.a,aZ ng0.a,aZ gV])),(17,ng0.a.t,.obj 99 (fl lG (zg (j1:List aQ) ng0.gs) ng0.a.sp)),(1000000,some k5,.obj 81 (aO p2))] mixed (λu=>⟨λ_=>aI 2 u rfl,λ_=>aI 5 u rfl,λ_=>aI 0 u rfl,trivial⟩) λu=>zP 0 rfl rfl (zN 1 rfl rfl (zF 2 rfl eR rfl (zL 3 0 (aZ ng0.a) rfl iF rfl rfl rfl (zI 4 rfl rfl (zP 5 rfl rfl (zN 6 rfl rfl (zF 7 rfl eR rfl (zL 8 0 (aZ ng0.a) rfl iF rfl rfl rfl (zI 9 rfl rfl ?_))))))))))
 obtain⟨x5,X4,m⟩:=aC m
 refine zC 10 rfl (cP (O5.k.ix X4) iE O5.k.z rfl rfl) (zC 11 rfl (cV (bK.ne O5.k.z (O5.k.ix X4)) lD rfl rfl) ?_)
 obtain⟨gv2,hg2,ga2,gn2⟩:=O5.gx X4
 refine wJ 12 rfl (λ_ _ hi hB=>fB (dW (fo:=2) (awO aO 4 (gx ng0.gs y4.1.toNat) x5.Locs) (O5.k.ix X4) oY O5.k.z eZ rfl (fV.get 1 hi rfl (hB 17 (by kernel_rfl))) (λ_=>rfl)) (bJ.of_eq (congrArg (λz=>awO aO 4 z x5.Locs) hg2))) (zL 13 2 (.agg (aO p2)) rfl m8 rfl rfl rfl ?_)
 obtain⟨y6,Y6,m⟩:=aC m
 refine zE 14 rfl ?_
 have ho6:=qI (R:=([(some k5,.obj 81 (aO p2)),(some k2,.obj 38 (a8 p1)),OC p0K j0 gS.a gC.a ng0.a gV,bM gS p0.Snaps,aW gC p0.Chunks,bR ng0 j1,aM gV p0.Vols]++((bQ gS p0.Snaps)++((a9 gC p0.Chunks)++(kK 81 aO ((nl aQ.Locs (zg (j1:List aQ) ng0.gs)).eraseIdx y4.1.toNat)))))) u [[_], [_], [_], [_], [_], [_], [_],_,_,_] rfl 9 rfl gn2 rfl
 have ho7:=cL [(eG gv2 x5.Locs)] _ ho6.2
 refine dC (ho6.1.trans (cW h [(eG gv2 x5.Locs)] _).symm) (cM (ND _ ga2 ho7.2 Y6) rfl NE rfl ?_)
 rintro x h' ⟨ag3,O6,K12,rfl,rfl⟩
 refine kT (cW h [fH ag3 y6] _) (⟨⟨λ_=>aI 3 (dI ho7.1 K12) rfl,λ_=>aI 6 (dI ho7.1 K12) rfl,λ_=>aI 1 (dI ho7.1 K12) rfl,trivial⟩, ?_⟩)
 obtain⟨x6,X5,m⟩:=aC m
 refine zC 15 rfl (cP (O5.k.ix X5) iE O5.k.z rfl rfl) (zC 16 rfl (cV (bK.ne O5.k.z (O5.k.ix X5)) lD rfl rfl) (zE 17 rfl (cK (fo:=2) (x':=(({ x6 with Locs:=y6}:aQ),some ag3)) 6 (dI ho7.1 K12) (O5.k.ix X5) oY O5.k.z rfl rfl (cD rfl) (cG (bY _ _ _) rfl) (cX.refl _ _) nX rfl rfl ?_)))
 intro K13
 have O7:=O5.setL (x':=({ x6 with Locs:=y6}:aQ)) X5 ag3 O6
 have hr2:=tC (L':=(eG ag3 y6)::(([(some k5,.obj 81 (aO p2)),(some k2,.obj 38 (a8 p1)),OC p0K j0 gS.a gC.a ng0.a gV,bM gS p0.Snaps,aW gC p0.Chunks,(ng0.a.t,.obj 99 (fl lG (((zg (j1:List aQ) ng0.gs)).set y4.1.toNat (({ x6 with Locs:=y6}:aQ),some ag3)) ng0.a.sp)),aM gV p0.Vols]:HL)++((bQ gS p0.Snaps)++((a9 gC p0.Chunks)++(kK 81 aO ((nl aQ.Locs (zg (j1:List aQ) ng0.gs)).eraseIdx y4.1.toNat)))))) K13 [[_], [_], [_], [_], [_], [_], [_], [_],_,_,_] rfl [0,1,2,3,4,5,6,7,8,9,10] rfl rfl
 have hj2:=oW (L':=([(some k5,.obj 81 (aO p2)),(some k2,.obj 38 (a8 p1)),OC p0K j0 gS.a gC.a ((⟨ng0.a,ng0.gs.set y4.1.toNat (some ag3)⟩:dH).a) gV,bM gS p0.Snaps,aW gC p0.Chunks,bR (⟨ng0.a,ng0.gs.set y4.1.toNat (some ag3)⟩:dH) (j1.set y4.1.toNat ({ x6 with Locs:=y6})),aM gV p0.Vols]++((bQ gS p0.Snaps)++((a9 gC p0.Chunks)++(bS (⟨ng0.a,ng0.gs.set y4.1.toNat (some ag3)⟩:dH) (j1.set y4.1.toNat ({ x6 with Locs:=y6}))))))) [[_], [_], [_], [_], [_], [_], [_],_,_,_] rfl 9 (zs:=nl aQ.Locs (zg (j1:List aQ) ng0.gs)) (j:=y4.1.toNat) (aQ.Locs ({ x6 with Locs:=y6}:aQ),some ag3) (jO (O5.k.nlat X5)) rfl hr2.2 (by rw[← (O5.k.setL (x':=({ x6 with Locs:=y6}:aQ)) X5 ag3 O6).2.2,(O5.k.setL (x':=({ x6 with Locs:=y6}:aQ)) X5 ag3 O6).2.1]; rfl)
 refine kT (hr2.1.trans hj2.1) (⟨⟨λ_=>aI 2 hj2.2 rfl,λe=>absurd e (by decide),λ_=>aI 0 hj2.2 rfl,trivial⟩, ?_⟩)
 exact zX (qk (f:=wK 128 _ _ _ _ _ _ _ _ _ _ _ _ _ _ _ _ _ _) hj2.2 rfl (eW m (⟨ng0.a,ng0.gs.set y4.1.toNat (some ag3)⟩:dH) O7 (lx .nil)))
 exact v0 (eW m gE oE (lx .nil))
 rintro ng1 ⟨j2,j3⟩ O8 m
 exact eW m (gS,ng1) ⟨ok_Snaps,O8⟩ (lx .nil)
 rintro⟨ng2,ng3⟩ ⟨j4,j5,j6⟩ ⟨O9,O10⟩ m
 exact eW m (ng2,gC,ng3) ⟨O9,oC,O10⟩ (lx .nil)
 rintro⟨ng4,ng5,ng6⟩ ⟨j7,j8,j9,j10⟩ ⟨O11,O12,O13⟩ m
 refine vs (v0 (v0 ?_))
 cases m
 exact vr λu=>dX.of1 (.inl rfl) (fT _ _ (.sc (.int _ _)) rfl) (tD (L':=([OC p0K j7 ng4.a ng5.a ng6.a gV,bM ng4 j8,aW ng5 j9,bR ng6 j10,aM gV p0.Vols]++((bQ ng4 j8)++((a9 ng5 j9)++(bS ng6 j10))))) u [[_], [_], [_], [_], [_], [_], [_],_,_,_] rfl [2,3,4,5,6,7,8,9] rfl rfl).2 (bJ.refl _ _) ⟨ng4,O11,ng5,O12,ng6,O13,(tD (L':=([OC p0K j7 ng4.a ng5.a ng6.a gV,bM ng4 j8,aW ng5 j9,bR ng6 j10,aM gV p0.Vols]++((bQ ng4 j8)++((a9 ng5 j9)++(bS ng6 j10))))) u [[_], [_], [_], [_], [_], [_], [_],_,_,_] rfl [2,3,4,5,6,7,8,9] rfl rfl).1,rfl,rfl⟩
theorem ZM:aN Tryz.prog 123=true:=by kernel_rfl
end Go.Proofs.YtbbifdfldpfphaaGreat
