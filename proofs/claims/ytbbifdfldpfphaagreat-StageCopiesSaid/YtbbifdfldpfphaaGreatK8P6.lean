import Derived.Test.YtbbifdfldpfphaaGreatK8P5
import Derived.Laws.Externs
import Derived.Test.YtbbifdfldpfphaaGreatK8P3
import Derived.Test.YtbbifdfldpfphaaGreatK8P4
set_option linter.unusedSimpArgs false
set_option linter.unusedVariables false
set_option maxHeartbeats 4000000
set_option maxRecDepth 100000
namespace Go.Vm
section
variable {P:Program}
theorem ES (w:World) (dT sT ty e:TypeId) (i:TypeInfo) (hu:P.underlying dT=some (.slice e)) (hi:P.info? e=some i) (g o dLen dCap:Nat) (cur:Array Value) (hg:w.heap[g]? =some (.cells cur e (0,0)))
    (a:Addr) (sLen sCap:Nat) (cs:List Value) (hn:cs.length=min sLen dLen*i.size) (hsrc:∀j v,cs[j]? =some v→w.cell? (a.add j)=some v) (h1:∀v∈cs,v.oneCell'=true) (hfit:o+cs.length≤cur.size):
    (Builtin.copy_ #[dT,sT] ty #[.slice (some ⟨g,o,none⟩) dLen dCap,.slice (some a) sLen sCap]).run P w=
      .ok (goInt (min sLen dLen:Nat)) (w.setRow g (cur.toList.take o++cs++cur.toList.drop (o+cs.length)).toArray):=by
  have hf:=run_firstCells_some (P:=P) w i.size (min sLen dLen) a sLen sCap cs hn hsrc
  have hst:=run_storeCells_at P g o e cs 0 cur w hg (by simpa using hfit) h1
  simp only[Nat.add_zero] at hst
  have hm:Nat.min sLen dLen=min sLen dLen:=rfl
  simp[Builtin.copy_,run_underlying hu,Builtin.lenOf,sizeOf,typeInfo,hi,hm,hf,hst]
variable {ops:Array Oper} {h h0:aF} {L:HL} {n:Nat} {kvs:KV} {l:List Oper} {ty:TypeId} {pos:String} {dK:Array Edge}
def IA (h:aF) (x:AV) (m k:Nat) (cs:List AV):Prop:=∀E w v,eG E h w→VR E w x v→∃a cap cv,v= .slice (some a) m cap∧cI E w cs cv∧(∀u∈cv,u.oneCell'=true)∧(∀j u,cv[j]? =some u→w.cell? (a.add j)=some u)
theorem IA.sl {tag:Option bT} {sz:Nat} {ys:List (List AV)} (hne:ys≠ []) (k:Nat):IA h (.sl tag sz ys) ys.length k ys.flatten:=by
 intro E w v r hv
 obtain⟨g,o,cap,cv,e,c1,c2,c3,c4⟩:=nS hv hne
 exact⟨_,cap,cv,e,c1,c2,λj u hj=>by rw[Addr.add_lit]; exact(c4 j u hj).1⟩
theorem IA.view {k:bT} {off m c:Nat} {cs:List AV} {e:TypeId} (hk:h k=some (.obj e cs)):IA h (.view k off m) m c ((cs.drop off).take c):=by
 intro E w v r hv
 simp only[VR] at hv
 obtain⟨g,cap,hg,rfl,h1,h2⟩:=hv
 obtain⟨g',cur,e1,e2,e3,e4⟩:=r.obj _ _ _ hk
 rw[hg] at e1; cases e1
 refine⟨_,cap,(cur.toList.drop off).take c,rfl,fO _ (jB _ e3),λu hu=>e4 u (List.mem_of_mem_drop (List.mem_of_mem_take hu)),λj u hj=> ?_⟩
 rw[List.getElem?_take] at hj
 split at hj
 ·rw[List.getElem?_drop] at hj
  rw[Addr.add_lit]
  simp only[World.cell?,e2]
  simpa using hj
 ·cases hj
theorem NM {K:AV→aF→Prop} {dst:Option Tmp} {d s:Operand} {dT sT e:TypeId} {sz b:Nat} (ht:lO P dT e sz b) {k:bT} {off n1 m:Nat} {cur cs:List AV} (hd:dB n kvs d= .view k off n1) (hk:h k=some (.obj e cur))
    (hs:IA h (dB n kvs s) m cs.length cs) (hl:cs.length=min m n1*sz) (hfit:off+cs.length≤cur.length)
    (hK:K .any (upd h k (some (.obj e (eR cur off cs))))):
    i8 P ⟨dst,.call { callee:=.builtin .copy,args:= #[d,s],argTypes:= #[dT,sT]},ty,pos,dK,none⟩ K (fm n kvs) h:=by
  obtain⟨i,z,hi,hz,rfl,rfl,hzs,hsp⟩:=ht.inf
  intro E w a r hv Nx Qx hn
  have vd:=hv d (by simp[Op.operands,Call.operands])
  have vs:=hv s (by simp[Op.operands,Call.operands])
  rw[bF] at vd vs
  rw[hd] at vd
  simp only[VR] at vd
  obtain⟨g,dc,hg,ed,d1,d2⟩:=vd
  obtain⟨sa,sc,cv,es,c1,c2,c3⟩:=hs E w _ r vs
  obtain⟨g',cu,f1,f2,f3,f4⟩:=r.obj _ _ _ hk
  rw[hg] at f1; cases f1
  have hlen:cur.length=cu.size:=by simpa using cJ f3
  have hcl:cs.length=cv.length:=cJ c1
  have hrun:=ES (P:=P) w dT sT ty e i ht.ut hi g off n1 dc cu f2 sa m sc cv (by rw[← hcl]; exact hl) c3 c2 (by omega)
  have hv':cI E w (eR cur off cs) (cu.toList.take off++cv++cu.toList.drop (off+cv.length)):=by
    unfold eR
    rw[hcl]
    exact cL (cL (fO _ f3) c1) (jB _ f3)
  have h1':∀u∈cu.toList.take off++cv++cu.toList.drop (off+cv.length),u.oneCell'=true:=by
    intro u hu
    rcases List.mem_append.1 hu with hu | hu
    · rcases List.mem_append.1 hu with hu | hu
      · exact f4 u (List.mem_of_mem_take hu)
      · exact c2 u hu
    · exact f4 u (List.mem_of_mem_drop hu)
  obtain⟨k1,k2⟩:=r.set_obj (cur:=(cu.toList.take off++cv++cu.toList.drop (off+cv.length)).toArray) hk hg
    (w':=w.setRow g (cu.toList.take off++cv++cu.toList.drop (off+cv.length)).toArray)
    (setRow_heap w g cu _ e _ f2) (λg' hg'=>setRow_other w g g' _ hg') (by simp) rfl rfl rfl (by simpa using hv') (by simpa using h1')
  unfold Oper.wp
  have hex:(execOp a.eval ⟨dst,.call { callee:=.builtin .copy,args:= #[d,s],argTypes:= #[dT,sT]},ty,pos,dK,none⟩).run P w= .ok (.value (goInt (min m n1:Nat))) (w.setRow g (cu.toList.take off++cv++cu.toList.drop (off+cv.length)).toArray):=by
    simp only[execOp,resolve,invoke,builtin,List.map_toArray,List.map_cons,List.map_nil,ed,es,Sem.run_bind,Sem.run_pure,Result.andThen_ok,hrun]
  rw[hex]
  exact hn .any _ _ E _ k1 k2 (by simp only[VR]) hK
theorem pX {K:AV→aF→Prop} {dst:Option Tmp} {d s:Operand} {dT sT e:TypeId} {sz b:Nat} (p:Nat) (ht:lO P dT e sz b) (hk:bP h0 L) {k:bT} {off n1 m:Nat} {cur cs:List AV} (hd:dB n kvs d= .view k off n1) (hi:L[p]? =some (some k,.obj e cur))
    (hs:IA (hp h0 L) (dB n kvs s) m cs.length cs) (hl:cs.length=min m n1*sz) (hfit:off+cs.length≤cur.length) (cur':List AV) (hc:eR cur off cs=cur')
    (hK:bP h0 (L.set p (some k,.obj e cur'))→K .any (hp h0 (L.set p (some k,.obj e cur')))):
    i8 P ⟨dst,.call { callee:=.builtin .copy,args:= #[d,s],argTypes:= #[dT,sT]},ty,pos,dK,none⟩ K (fm n kvs) (hp h0 L):=by
  subst hc
  obtain⟨h1,h2,_⟩:=kL (e':=.obj e (eR cur off cs)) p hk hi (.inl rfl)
  refine NM ht hd (aW p hk hi) hs hl hfit ?_
  rw[h1]
  exact hK h2
theorem NN {dst:Option Tmp} {s:Operand} {t e:TypeId} {k:bT} {m cap:Nat} (hu:P.underlying t=some (.slice e)) (ha:dB n kvs s= .vw k m cap):
    eB P ⟨dst,.call { callee:=.builtin .cap,args:= #[s],argTypes:= #[t]},ty,pos,dK,none⟩ (.sc (.int .i64 cap)) (fm n kvs) h:=by
  refine dY (x:=.sc (.int .i64 cap)) (λE w ac r hv=> ?_) ⟨rfl,rfl⟩
  have vs:=hv s (by simp[Op.operands,Call.operands])
  rw[bF,ha] at vs
  simp only[VR] at vs
  obtain⟨g,hg,es,h1,h2⟩:=vs
  refine⟨.int .i64 cap, ?_,by simp only[VR]⟩
  simp[execOp,resolve,invoke,builtin,es,Builtin.cap_,run_underlying hu,goInt]
theorem IB {dst:Option Tmp} {s:Nat} {hi:Operand} {t:TypeId} {k:bT} {m cap sz:Nat} {q:IntKind} {i:Int} (h0':0≤i) (h1':i≤(cap:Int)) (ht:nL P t=some sz) (ha:dB n kvs (.tmp s)= .vw k m cap) (hb:dB n kvs hi= .sc (.int q i)):
    eB P ⟨dst,.slice t (.tmp s) none (some hi) none,ty,pos,dK,none⟩ (.vw k i.toNat cap) (fm n kvs) h:=by
  obtain⟨e,hu,he⟩:=gH ht
  refine dY (x:=.vw k i.toNat cap) (λE w ac r hv=> ?_) ⟨rfl,rfl⟩
  have va:=hv (.tmp s) (by simp[Op.operands])
  have vb:=hv hi (by simp[Op.operands])
  rw[bF,ha] at va; rw[bF,hb] at vb
  simp only[VR] at va vb
  obtain⟨g,hg,e1,e2,e3⟩:=va
  have hbd:=gP (P:=P) (w:=w) (sl:=true) (len:=m) (cap:=cap) (l:=0) (h:=i) (lo:=none) (hi:=some (.sc (.int q i))) (lv:=none) (hv:=some (.int q i)) rfl rfl (E:=E) nofun (λ_=>rfl)
    (λx hx=>by cases hx; exact⟨_,rfl,by simp only[VR]⟩) nofun (by omega) h0' (by omega)
  refine⟨.slice (some ⟨g,0,none⟩) i.toNat cap, ?_,by simp only[VR]; exact⟨g,hg,rfl,by omega,e3⟩⟩
  by_cases hz:cap=0
  · subst hz
    have hi0:i.toNat=0:=by omega
    simp[execOp,e1,vb,Instr.sliceAt,Instr.slice,run_underlying hu,hbd,cO he,hi0]
  · have:¬cap=(0:Int).toNat:=by simpa using hz
    simp[execOp,e1,vb,Instr.sliceAt,Instr.slice,run_underlying hu,hbd,cO he,hz,Addr.add]
theorem aA7 {dst:Option Tmp} {s:Nat} {lo:Operand} {t:TypeId} {k:bT} {m cap sz:Nat} {q:IntKind} {i:Int} (h0':0≤i) (h1':i≤(m:Int)) (ht:nL P t=some sz) (ha:dB n kvs (.tmp s)= .vw k m cap) (hb:dB n kvs lo= .sc (.int q i)):
    eB P ⟨dst,.slice t (.tmp s) (some lo) none none,ty,pos,dK,none⟩ .any (fm n kvs) h:=by
  obtain⟨e,hu,he⟩:=gH ht
  refine dY (x:=.any) (λE w ac r hv=> ?_) ⟨rfl,rfl⟩
  have va:=hv (.tmp s) (by simp[Op.operands])
  have vb:=hv lo (by simp[Op.operands])
  rw[bF,ha] at va; rw[bF,hb] at vb
  simp only[VR] at va vb
  obtain⟨g,hg,e1,e2,e3⟩:=va
  have hbd:=gP (P:=P) (w:=w) (sl:=true) (len:=m) (cap:=cap) (l:=i) (h:=m) (lo:=some (.sc (.int q i))) (hi:=none) (lv:=some (.int q i)) (hv:=none) rfl rfl (E:=E) (λx hx=>by cases hx; exact⟨_,rfl,by simp only[VR]⟩) nofun
    nofun (λ_=>rfl) h0' h1' (by omega)
  refine⟨.slice (if cap=i.toNat then some ⟨g,0,none⟩ else some (Addr.add ⟨g,0,none⟩ (i.toNat*sz))) (m - i.toNat) (cap - i.toNat), ?_,by simp only[VR]⟩
  simp[execOp,e1,vb,Instr.sliceAt,Instr.slice,run_underlying hu,hbd,cO he]
theorem nH {dst:Option Tmp} {s:Nat} {lo:Operand} {t:TypeId} {k:bT} {m cap sz:Nat} {q:IntKind} {i:Int} (h0':0≤i) (h1':i < (m:Int)) (ht:nL P t=some sz) (ha:lk n kvs s= .vw k m cap) (hb:dB n kvs lo= .sc (.int q i)):
    eB P ⟨dst,.slice t (.tmp s) (some lo) none none,ty,pos,dK,none⟩ (.view k (i.toNat*sz) (m - i.toNat)) (fm n kvs) h:=by
  have hT:DM P t=true:=by simp[DM,ht]
  refine sF (s:=s) (.view k 0 m) (by rw[ha]; exact BZ _ _ _ _) (jT (c:=0≤i∧i < (m:Int)∧(m:Int)≤m) ?_ ⟨h0',h1',by omega⟩)
  have e:dB n (kp kvs s (.view k 0 m)) (.tmp s)= .view k 0 m:=D0 ha (by simp)
  have e2:dB n (kp kvs s (.view k 0 m)) lo= .sc (.int q i):=F8 ha (by simp) hb
  simp only[pv,bF,e,Option.map_some,e2,Option.map_none,BH,ht,Option.bind_some,oA,kT,hT,if_true,Nat.zero_add,Int.toNat_natCast]
theorem NO {K:AV→aF→Prop} {dst:Option Tmp} {s x:Operand} {t tn e:TypeId} {sz b:Nat} {ik:IntKind} {zv:List Value} (p:Nat) (ht:lO P t e sz b) (htn:P.underlying tn=some (.int ik)) (hzr:rP P e=some zv) (hzo:zv.all (·.oneCell')=true) (hpos:0 < sz)
    (hk:bP h0 L) {k:bT} {i m cap:Nat} {cs:List AV} (ha:dB n kvs s= .vw k i cap) (hi:L[p]? =some (some k,.obj e cs)) (hx:dB n kvs x= .sc (.int ik (m:Int))) (hfull:cap < i+m) (hcs:i*sz≤cs.length) (hb:(i+m)*(b+1)≤140737488355328)
    (k2:∀(q:bT) (cap':Nat) (R:List AV),i+m≤cap'→cap'≤maxLen→i*sz+R.length=cap'*sz→bP h0 ((some q,.obj e (cs.take (i*sz)++R))::L)→K (.vw q (i+m) cap') (hp h0 ((some q,.obj e (cs.take (i*sz)++R))::L))):
    i8 P ⟨dst,.call { callee:=.builtin .append,args:= #[s,x],argTypes:= #[t,tn]},ty,pos,dK,none⟩ K (fm n kvs) (hp h0 L):=by
  obtain⟨ii,z,hii,hz,rfl,rfl,hzs,hsp⟩:=ht.inf
  have hzc:∀u∈z.cells.toList,u.oneCell'=true:=by
    have:zv=z.cells.toList:=by
      unfold rP at hzr
      rw[hii] at hzr
      simp only[Option.bind_some,hz,Option.map_some,Option.some.injEq] at hzr
      exact hzr.symm
    subst this
    exact λu hu=>List.all_eq_true.1 hzo u hu
  rw[Nat.mul_add,Nat.mul_one] at hb
  intro E w a r hv Nx Qx hn
  have vs:=hv s (by simp[Op.operands,Call.operands])
  have vx:=hv x (by simp[Op.operands,Call.operands])
  rw[bF] at vs vx
  rw[ha] at vs; rw[hx] at vx
  simp only[VR] at vs vx
  obtain⟨g,hg,es,h1,h2⟩:=vs
  obtain⟨g',cur,f1,f2,f3,f4⟩:=r.obj _ _ _ (aW p hk hi)
  rw[hg] at f1; cases f1
  have hlen:cs.length=cur.size:=by simpa using cJ f3
  have htl:(cur.toList.take (i*ii.size)).length=i*ii.size:=by
    rw[List.length_take]
    have:cur.toList.length=cur.size:=by simp
    omega
  have hold:∀j u,(cur.toList.take (i*ii.size))[j]? =some u→w.drew.cell? ((⟨g,0,none⟩:Addr).add j)=some u:=by
    intro j u hj
    rw[Addr.add_lit,Nat.zero_add]
    rw[List.getElem?_take] at hj
    split at hj
    · show w.cell? ⟨g,j,none⟩=some u
      simp only[World.cell?,f2]
      simpa using hj
    · cases hj
  have hf:=run_firstCells_some (P:=P) w.drew ii.size i ⟨g,0,none⟩ i cap (cur.toList.take (i*ii.size)) htl hold
  have hm0:0 < m:=by omega
  have hw:IntKind.i64.wrap (m:Int)=m:=by rw[IntKind.wrap_i64]; omega
  have hnn:¬((m:Int) < 0):=by omega
  have hfit:Builtin.nextslicecap (i+m) cap*ii.bytes≤281474976710656:=growslice_fits (by omega) (by omega)
  have hmb:¬(281474976710656 < (m:Int)*(ii.bytes:Int)):=by
    rw[← Int.natCast_mul]
    have:m*ii.bytes≤(i+m)*ii.bytes:=Nat.mul_le_mul_right _ (by omega)
    omega
  have hnr:¬(i+m≤cap):=by omega
  have h63:¬(9223372036854775807 < (i:Int)+(m:Int)):=by omega
  have hnf:¬(281474976710656 < Builtin.nextslicecap (i+m) cap*ii.bytes):=by omega
  have hns:¬(m*ii.size=0):=Nat.mul_ne_zero (by omega) (by omega)
  have hm00:m≠0:=by omega
  have hsz0:ii.size≠0:=by omega
  have hrun:(Builtin.append_ #[t,tn] ty #[.slice (some ⟨g,0,none⟩) i cap,.int ik m]).run P w=
      .ok (.slice (some ⟨w.heap.size,0,none⟩) (i+m) (grownCap w (i+m) cap e)) (w.drew.alloc (.cells ((cur.toList.take (i*ii.size)).toArray++Builtin.zeroCells z.cells m++Builtin.zeroCells z.cells (grownCap w (i+m) cap e - (i+m))) e)):=by
    simp[Builtin.append_,run_underlying ht.ut,run_underlying htn,sizeOf,typeInfo,zeroValue,hii,hz,asInt,asIntOf,hw,hnn,hmb,hnr,h63,hnf,hns,hm00,hsz0,Question.forced,hf,newRow,grownCap]
  have hge:=grownCap_ge w (i+m) cap e
  have hcm:grownCap w (i+m) cap e≤maxLen:=grownCap_le_maxLen w (i+m) cap e (by simp only[maxLen]; omega)
  generalize hgc:grownCap w (i+m) cap e=gc at hge hcm hrun
  obtain⟨rd,kd⟩:=r.drewn (w.drawn+1)
  have rd':eG E (hp h0 L) w.drew:=rd
  obtain⟨nn,hE1⟩:=rd'.fresh 0
  have hlz:∀q,(Builtin.zeroCells z.cells q).toList.length=q*ii.size:=λq=>by rw[Array.length_toList,size_zeroCells,hzs]
  have hvl:cI E w.drew (cs.take (i*ii.size)++List.replicate ((Builtin.zeroCells z.cells m).toList.length+(Builtin.zeroCells z.cells (gc - (i+m))).toList.length) AV.any) ((cur.toList.take (i*ii.size)).toArray++Builtin.zeroCells z.cells m++Builtin.zeroCells z.cells (gc - (i+m))).toList:=by
    rw[Array.toList_append,Array.toList_append,List.append_assoc]
    exact cL (bW kd _ _ (fO _ f3)) (rU _ (by rw[List.length_append]))
  obtain⟨E',e1,e2,e3⟩:=eG.new_obj (w:=w.drew) rd' hE1 e hvl (by
    intro v hv
    rw[Array.toList_append,Array.toList_append] at hv
    rcases List.mem_append.1 hv with hv | hv
    · rcases List.mem_append.1 hv with hv | hv
      · exact f4 v (List.mem_of_mem_take (by simpa using hv))
      · exact jU hzc v hv
    · exact jU hzc v hv)
  unfold Oper.wp
  have hex:(execOp a.eval ⟨dst,.call { callee:=.builtin .append,args:= #[s,x],argTypes:= #[t,tn]},ty,pos,dK,none⟩).run P w= .ok (.value (.slice (some ⟨w.heap.size,0,none⟩) (i+m) gc)) (w.drew.alloc (.cells ((cur.toList.take (i*ii.size)).toArray++Builtin.zeroCells z.cells m++Builtin.zeroCells z.cells (gc - (i+m))) e)):=by
    simp only[execOp,resolve,invoke,builtin,List.map_toArray,List.map_cons,List.map_nil,es,vx,Sem.run_bind,Sem.run_pure,Result.andThen_ok,hrun]
  rw[hex]
  have hno:hp h0 L (0,nn)=none:=by
    cases hh:hp h0 L (0,nn) with
    | none=>rfl
    | some en=>exact absurd (r.hus _ _ hh) hE1
  have hkk:=k2 (0,nn) gc (List.replicate ((Builtin.zeroCells z.cells m).toList.length+(Builtin.zeroCells z.cells (gc - (i+m))).toList.length) AV.any) hge hcm (by
    rw[List.length_replicate,hlz,hlz,← Nat.add_mul,← Nat.add_mul]
    congr 1; omega) ⟨hk,λk e=>by cases e; exact hno⟩
  refine hn (.vw (0,nn) (i+m) gc) _ _ E' _ (kd.trans e2) e3 ?_ hkk
  simp only[VR]
  exact⟨_,e1,rfl,hge,hcm⟩
theorem tK {K : AV → aF → Prop} {dst : Option Tmp} {x y : Operand} {ts : Array TypeId} {f : FuncId} {fn : Func} {tS tR e : TypeId} {sz : Nat} (hf : P.funcs[f]? = some fn) (hname : (fn.name == "runtime.NumGoroutine") = false)
    (hb:fn.body.isNone=true) (hn':Extern.findNext fn=none) (he:Extern.find fn=some (Extern.SlicesOverlaps.overlaps #[tS,tS] #[tR])) {b:Nat} (het:lO P tS e sz b) {ys:List (List AV)} (hne:ys≠ []) {k:bT} {off m:Nat} {cs:List AV} {ty2:TypeId}
    (hsz:0 < sz) (hx:dB n kvs x= .sl none sz ys) (hy:dB n kvs y= .view k off m) (hk:h k=some (.obj ty2 cs)) (hcs:0 < cs.length) (k1:K (.sc (.bool false)) h):
    i8 P ⟨dst,.call { callee:=.value (.func f),args:= #[x,y],argTypes:=ts},ty,pos,dK,none⟩ K (fm n kvs) h:=by
  obtain⟨ii,z,hii, -, -, -, -, -⟩:=het.inf
  have ht:=het.ut
  refine dY (x:=.sc (.bool false)) (λE w a r hv=> ?_) k1
  have vx:=hv x (by simp[Op.operands,Call.operands])
  have vy:=hv y (by simp[Op.operands,Call.operands])
  rw[bF] at vx vy
  rw[hx] at vx; rw[hy] at vy
  have hall:∀z∈ys,z.length=sz:=by
    have:=vx
    simp only[VR] at this
    obtain⟨_,_,_,_,_,_,h4,_⟩:=this
    exact h4
  obtain⟨gb,o,cap,cv,ex,c1,c2,c3,c4⟩:=nS vx hne
  simp only[VR] at vx vy
  obtain⟨g,yc,hg,ey,y1,y2⟩:=vy
  obtain⟨a0,cap0,ea, -, -,h3, -, -⟩:=vx
  obtain⟨g',cur,f1,f2,f3,f4⟩:=r.obj _ _ _ hk
  rw[hg] at f1; cases f1
  have hlen:cs.length=cur.size:=by simpa using cJ f3
  have hcl:0 < cv.length:=by
    rw[c3]
    exact Nat.mul_pos (List.length_pos_iff.2 hne) hsz
  obtain⟨u,hu⟩:∃u,cv[0]? =some u:=⟨cv[0],List.getElem?_eq_getElem hcl⟩
  obtain⟨hc0,hp0⟩:=c4 0 u hu
  rw[Nat.add_zero] at hc0
  have himm:E.imm gb o:=by
    rcases hp0 with h5 | ⟨kk,t,h5,_⟩
    · simpa using h5
    · cases h5
  have hbne:gb≠g:=λq=>(r.dis k g (.inl ⟨_,rfl,hk,hg⟩)).2 o (q ▸ himm)
  have hb1:(gb !=g)=true:=by simpa using hbne
  have hb2:(gb==g)=false:=by simpa using hbne
  obtain⟨bs,bt,bz,hblk⟩:∃cells ty fz,w.heap[gb]? =some (.cells cells ty fz):=by
    cases hh:w.heap[gb]? with
    | none=>simp[World.cell?,hh] at hc0
    | some ob=>cases ob with
      | cells a b c=>exact⟨a,b,c,rfl⟩
      | _=>simp[World.cell?,hh] at hc0
  have hsa:w.shape? gb=some (bt,bs.size):=by simp[World.shape?,hblk]
  have hsb:w.shape? g=some (ty2,cur.size):=by simp[World.shape?,f2]
  have hfb:∀off,w.frozen? ⟨g,off,none⟩=false:=λoff=>by simp[World.frozen?,f2]
  have hcz:cur.size≠0:=by omega
  have hbz:bs.size≠0:=by
    intro hz
    have:bs= #[]:=by simpa using hz
    rw[this] at hblk
    simp[World.cell?,hblk] at hc0
  have hrun:(Extern.SlicesOverlaps.overlaps #[tS,tS] #[tR] #[.slice (some ⟨gb,o,none⟩) ys.length cap,.slice (some ⟨g,off,none⟩) m yc]).run P w= .ok (.bool false) w:=by
    refine (Sem.run_bind (x:=underlying tS) ..).trans ?_
    rw [run_underlying ht]
    simp only [Result.andThen_ok]
    have hsz':(sizeOf e).run P w= .ok ii.size w:=by simp[sizeOf,typeInfo,hii]
    by_cases hz:ys.length=0∨m=0∨ii.size=0
    · rcases hz with hz | hz | hz
      · exact absurd (List.length_eq_zero_iff.1 hz) hne
      · simp[run_underlying ht,hsz',hz]
      · simp[run_underlying ht,hsz',hz]
    · cases hsc:cur.size with
      | zero=>exact absurd hsc hcz
      | succ q=>
        cases hbc:bs.size with
        | zero=>exact absurd hbc hbz
        | succ q2=>
        rw[hsc] at hsb
        rw[hbc] at hsa
        simp[run_underlying ht,hsz',hz,hb1,hb2,frozen,noView,viewAt,mayBeOne,stringish,shape,Sem.run,hsa,hsb,hfb]
  refine⟨.bool false, ?_,by simp only[VR]⟩
  rw[ex] at ea
  have hfu:a.eval (.func f)= .func (.func f) #[] #[]:=rfl
  simp only[execOp,resolve,hfu,Deferred.ofValue,invoke,List.map_toArray,List.map_cons,List.map_nil,Sem.run_bind,Sem.run_pure,Result.andThen_ok,ex,ey]
  simp[run_callFunc_extern hf hname hb hn' he,hrun]
end
section
variable {α:Type} {c:α→List AV} {sz:Nat}
def qM (xs:List α) (i:Int) (x:α):Option (List α):=if 0≤i∧i≤(xs.length:Int)∧xs.length < 1000000000 then some (xs.take i.toNat++x::xs.drop i.toNat) else none
theorem mI {xs o:List α} {i:Int} {x:α} (h:qM xs i x=some o):0≤i∧i≤(xs.length:Int)∧xs.length < 1000000000∧o=xs.take i.toNat++x::xs.drop i.toNat:=by
 unfold qM at h
 split at h
 ·rename_i q; cases h; exact⟨q.1,q.2.1,q.2.2,rfl⟩
 ·cases h
theorem IC {xs:List α} {x:α} (h:xs.length < 1000000000):app xs [x]=some (xs++ [x]):=by
 unfold app
 rw[if_pos (by simp only[List.length_append,List.length_singleton]; omega)]
theorem NP {P:Program} {n:Nat} {kvs:KV} {h:aF} {ty:TypeId} {pos:String} {dK:Array Edge} {dst:Option Tmp} {s:Nat} {lo:Operand} {t:TypeId} {g:dD} {m:Nat} {q:IntKind} {i:Int} (h0':0≤i) (h1':i≤(m:Int)) (ok:bK g sz m) (ht:nL P t=some sz) (ha:dB n kvs (.tmp s)=aw g.t g.n g.cap) (hb:dB n kvs lo= .sc (.int q i)):
    eB P ⟨dst,.slice t (.tmp s) (some lo) none none,ty,pos,dK,none⟩ .any (fm n kvs) h:=by
  rw[ok.eqn] at ha
  cases ht':g.t with
  | some k=>rw[ht'] at ha; exact aA7 h0' h1' ht ha hb
  | none=>
    rw[ht'] at ha
    have:=ok.nil ht'
    have hi0:i=0:=by omega
    subst hi0
    have hT:DM P t=true:=by simp[DM,ht]
    have ha:dB n kvs (.tmp s)= .e0:=ha
    refine iN (x:=.e0) (jT (c:=(0:Int)=0∧(0:Int)=0) ?_ ⟨rfl,rfl⟩) (λ_ _ _ _ _=>by simp only[VR])
    simp only[pv,bF,ha,Option.map_some,hb,Option.map_none,BH,ht,Option.bind_some,oA,kT,hT,if_true]
theorem A4 (hc:∀y,(c y).length=sz) {xs:List α} {i:Nat} (hi:i≤xs.length) (sp:List AV):
    fl c xs sp=((xs.take i).map c).flatten++(((xs.drop i).map c).flatten++sp)∧((xs.take i).map c).flatten.length=i*sz∧((xs.drop i).map c).flatten.length=(xs.length - i)*sz∧
      ∀(x:α) (sp':List AV),fl c (xs.take i++x::xs.drop i) sp'=((xs.take i).map c).flatten++(c x++(((xs.drop i).map c).flatten++sp')):=by
  refine⟨?_, ?_, ?_,λx sp'=> ?_⟩
  · unfold fl
    rw[← List.append_assoc,← List.flatten_append,← List.map_append,List.take_append_drop]
  · rw[mP hc,List.length_take]; congr 1; omega
  · rw[mP hc,List.length_drop]
  · unfold fl
    simp[List.map_append,List.flatten_append]
theorem jI {A B B' C:List AV} {n:Nat} (hn:A.length=n) (hb:B.length=B'.length):eR (A++(B++C)) n B'=A++(B'++C):=by
 subst hn
 unfold eR
 rw[List.take_left,← hb,← List.append_assoc A B C,show A.length+B.length=(A++B).length from by simp,List.drop_left]
 simp
end
section
variable {α β:Type} {l:α→List β} {sz szi:Nat} {ty:TypeId} {ci:β→List AV} {h0:aF} {L L':HL}
def lJ (gs:List OG) (i:Nat) (og:OG):List OG:=gs.take i++og::gs.drop i
theorem ET {γ δ:Type}:∀(i:Nat) (xs:List γ) (gs:List δ),(xs.take i).zip (gs.take i)=(xs.zip gs).take i
 | 0,_,_=>by simp
 | i+1, [],_=>by simp
 | i+1,_::_, []=>by simp
 | i+1,x::xs,g::gs=>by simp[ET i xs gs]
theorem EU {γ δ:Type}:∀(i:Nat) (xs:List γ) (gs:List δ),(xs.drop i).zip (gs.drop i)=(xs.zip gs).drop i
 | 0,_,_=>by simp
 | i+1, [],_=>by simp
 | i+1,_::_, []=>by simp
 | i+1,x::xs,g::gs=>by simp[EU i xs gs]
theorem ID {xs:List α} {gs:List OG} (hl:gs.length=xs.length) (i:Nat) (x:α) (og:OG):zg (xs.take i++x::xs.drop i) (lJ gs i og)=(zg xs gs).take i++(x,og)::(zg xs gs).drop i:=by
 unfold zg lJ
 rw[List.zip_append (by simp[hl]),List.zip_cons_cons,ET,EU]
theorem RM {xs y:List α} {gs:List OG} (hl:gs.length=xs.length) {i:Int} {x:α} (og:OG) (h:qM xs i x=some y):qM (zg xs gs) i (x,og)=some (zg y (lJ gs i.toNat og)):=by
 obtain⟨h1,h2,h3,rfl⟩:=mI h
 unfold qM
 rw[vK hl,if_pos ⟨h1,h2,h3⟩,ID hl]
theorem NQ {xs y:List α} {gs:List OG} (hl:gs.length=xs.length) {i:Int} {x:α} (og:OG) (h:qM xs i x=some y):(nl l (zg y (lJ gs i.toNat og))).Perm ((l x,og)::nl l (zg xs gs)):=by
 obtain⟨h1,h2,h3,rfl⟩:=mI h
 rw[ID hl]
 unfold nl
 rw[List.map_append,List.map_cons]
 refine List.perm_middle.trans (List.Perm.cons _ ?_)
 rw[← List.map_append,List.take_append_drop]
theorem NR {xs y:List α} {i:Int} {x:α} (h:qM xs i x=some y):y.length=xs.length+1:=by
 obtain⟨h1,h2,h3,rfl⟩:=mI h
 simp only[List.length_append,List.length_take,List.length_cons,List.length_drop]
 omega
theorem tI.ins {g:dI} {xs y:List α} (ok:tI l sz szi g xs) {i:Int} {x:α} (h:qM xs i x=some y) (hx:l x= []) {g':dD} (og:OG) (hog:∀g2,og=some g2→bK g2 szi 0) (ok':bK g' sz (zg y (lJ g.gs i.toNat og)).length):tI l sz szi ⟨g',lJ g.gs i.toNat og⟩ y:=by
 obtain⟨h1,h2,h3,e⟩:=mI h
 have hl:(lJ g.gs i.toNat og).length=y.length:=by
  rw[NR h,lJ]
  have:=ok.len
  simp only[List.length_append,List.length_take,List.length_cons,List.length_drop]
  omega
 refine⟨by rw[vK hl] at ok'; exact ok',hl,λz hz g2 hg2=> ?_⟩
 have hz2:=(NQ (l:=l) ok.len og h).mem_iff.1 hz
 rcases List.mem_cons.1 hz2 with rfl | hz2
 ·simp only[hx]
  exact hog g2 hg2
 ·exact ok.el z hz2 g2 hg2
theorem nG.ins {g:dI} {xs y:List α} (ok:nG l sz szi g xs) {i:Int} {x:α} (h:qM xs i x=some y) (hx:l x= []) {g':dD} (ok':bK g' sz (zg y (lJ g.gs i.toNat (some g0))).length):nG l sz szi ⟨g',lJ g.gs i.toNat (some g0)⟩ y:=
 ⟨ok.k.ins h hx (some g0) (λg2 e=>by cases e; exact bK.g0 szi) ok',λog ho=>by
  unfold lJ at ho
  rcases List.mem_append.1 ho with ho | ho
  ·exact ok.own og (List.mem_of_mem_take ho)
  ·rcases List.mem_cons.1 ho with rfl | ho
   ·exact nofun
   ·exact ok.own og (List.mem_of_mem_drop ho)⟩
theorem RN (hk:bP h0 L) (bl:List HL) (hL:iB bl=L) (b:Nat) {xs y:List α} {gs:List OG} (hl:gs.length=xs.length) {i:Int} {x:α} {og:OG} (hog:oT og=none) (h:qM xs i x=some y) (hb:bl[b]? =some (lG ty ci (nl l (zg xs gs))))
    (hL':iB (bl.set b (lG ty ci (nl l (zg y (lJ gs i.toNat og)))))=L'):hp h0 L=hp h0 L'∧bP h0 L':=by
  subst hL hL'
  have p:(lG ty ci (nl l (zg y (lJ gs i.toNat og)))).Perm ((none,.obj ty (fl ci (l x) (oS og)))::lG ty ci (nl l (zg xs gs))):=by
    have:=(NQ (l:=l) hl og h).map λz:List β×OG=>(oT z.2,iY.obj ty (fl ci z.1 (oS z.2)))
    simp only[List.map_cons,hog] at this
    exact this
  obtain⟨e1,k1⟩:=gY (oP hb) hk
  have k2:bP h0 ((none,iY.obj ty (fl ci (l x) (oS og)))::(lG ty ci (nl l (zg xs gs))++(bl.eraseIdx b).flatten)):=⟨k1,nofun⟩
  obtain⟨e3,k3⟩:=gY ((p.append_right _).symm.trans (pW _ hb).symm) k2
  exact⟨e1.trans e3,k3⟩
end
end Go.Vm
namespace Go.Proofs.YtbbifdfldpfphaaGreat
open Go.Vm
def kO (y:aB×OG):List AV:=bC y.1.Id++([.sc (.bool y.1.Staged),.sl none 1 (List.map fX y.1.Data),awO aN 4 y.2 y.1.Locs]:List AV)
theorem kC:∀y,(kO y).length=35:=λy=>by first | rfl | simp[kO,bC,bH.len]
theorem EV:∀(H:aF) (y:aB×OG),Br H (awO aN 4 y.2 y.1.Locs) (.sl none 4 (y.1.Locs.map aN))→uK H (kO y) (aK y.1):=λH y b=>uK.app 32 rfl (.cons (Br.refl _ _) (.cons (Br.refl _ _) (.cons b .nil)))
theorem tL:∀(H H':aF) (y:aB×OG),Fz H H' (awO aN 4 y.2 y.1.Locs) (.sl none 4 (y.1.Locs.map aN))→pG H H' (kO y) (aK y.1):=λH H' y b=>pG.app 32 rfl (.cons (Fz.refl _ _ _) (.cons (Fz.refl _ _ _) (.cons b .nil)))
def mA (y:aH×OG):List AV:= [.sc (.int .i64 y.1.Seq),.sc (.string y.1.Man.Name),.sl none 3 (List.map bX y.1.Man.Parts),awO aN 4 y.2 y.1.Locs]
theorem mU:∀y,(mA y).length=4:=λy=>by first | rfl | simp[mA,bC,bH.len]
theorem wP:∀(H H':aF) (y:aH×OG),Fz H H' (awO aN 4 y.2 y.1.Locs) (.sl none 4 (y.1.Locs.map aN))→pG H H' (mA y) (bJ y.1):=λH H' y b=>.cons (Fz.refl _ _ _) (.cons (Fz.refl _ _ _) (.cons (Fz.refl _ _ _) (.cons b .nil)))
def mV (y:aT×OG):List AV:= [.sc (.int .i64 y.1.Seq),.sc (.int .i64 y.1.Of),awO aN 4 y.2 y.1.Locs]
theorem tM:∀y,(mV y).length=3:=λy=>by first | rfl | simp[mV,bC,bH.len]
theorem WF:∀(H:aF) (y:aT×OG),Br H (awO aN 4 y.2 y.1.Locs) (.sl none 4 (y.1.Locs.map aN))→uK H (mV y) (cH y.1):=λH y b=>.cons (Br.refl _ _) (.cons (Br.refl _ _) (.cons b .nil))
theorem CM:∀(H H':aF) (y:aT×OG),Fz H H' (awO aN 4 y.2 y.1.Locs) (.sl none 4 (y.1.Locs.map aN))→pG H H' (mV y) (cH y.1):=λH H' y b=>.cons (Fz.refl _ _ _) (.cons (Fz.refl _ _ _) (.cons b .nil))
abbrev cD (g:dD) (e:List aB):Option bT×iY:=(g.t,.obj 44 (fl aK e g.sp))
abbrev aY (g:dI) (e:List aB):Option bT×iY:=(g.a.t,.obj 44 (fl kO (zg e g.gs) g.a.sp))
abbrev bB (g:dI) (e:List aB):HL:=lG 81 aN (nl aB.Locs (zg e g.gs))
abbrev a8 (g:dD) (e:List aQ):Option bT×iY:=(g.t,.obj 49 (fl dG e g.sp))
abbrev cP (g:dD) (e:List aH):Option bT×iY:=(g.t,.obj 60 (fl bJ e g.sp))
abbrev bL (g:dI) (e:List aH):Option bT×iY:=(g.a.t,.obj 60 (fl mA (zg e g.gs) g.a.sp))
abbrev bO (g:dI) (e:List aH):HL:=lG 81 aN (nl aH.Locs (zg e g.gs))
abbrev jZ (g:dD) (e:List aR):Option bT×iY:=(g.t,.obj 81 (fl aN e g.sp))
abbrev eO (g:dD) (e:List aT):Option bT×iY:=(g.t,.obj 99 (fl cH e g.sp))
abbrev bR (g:dI) (e:List aT):Option bT×iY:=(g.a.t,.obj 99 (fl mV (zg e g.gs) g.a.sp))
abbrev bS (g:dI) (e:List aT):HL:=lG 81 aN (nl aT.Locs (zg e g.gs))
abbrev OC (k:bT) (q:Int) (a b c d:dD):Option bT×iY:=(some k,.obj 30 [.sc (.int .i64 q),aw a.t a.n a.cap,aw b.t b.n b.cap,aw c.t c.n c.cap,aw d.t d.n d.cap])
open Go.Vm
def lK {α:Type} (m:Nat) (p0:List α) (p1:α→Option Bool) (q0:Int):Option (Lp (Int) (Int)):=
 if (decide (q0 < (p0.length:Int)))=true then ((ix p0 q0).bind λx0=>(p1 x0).bind λy0=>if y0=true then (some (.ret q0)) else some (.go (IntKind.wrap .i64 (q0+1)))) else some (.brk q0)
def pY {α:Type} (m:Nat) (p0:List α) (p1:α→Option Bool):Option (Int):=
 after (aS (λs=>lK m p0 p1 s) m 0) λr0=>some (-1)
theorem aA8 {α:Type} {c:α→List AV} (cz:∀y,(c y).length=4) {w:Nat} {p0:List α} {p1:α→Option Bool} {o:Int} (h:aF) {g_p0:dD} (ok_p0:bK g_p0 4 p0.length) (K0:bP h [(g_p0.t,.obj 60 (fl c (p0:List α) g_p0.sp))]) {p1F:Nat} {p1C:List AV} (p1B:aP Tryz.prog p1F=true) (p1H:∀x0 o h0,iE h h0→p1 x0=some o→aM Tryz.prog p1F ([.agg (c x0)]++p1C) h0 (λr h'=>r= .sc (.bool o)∧h'=h0)) (m:pY w p0 p1=some o):
 aM Tryz.prog 103 [aZ g_p0,.fn (.func p1F) p1C] (hp h [(g_p0.t,.obj 60 (fl c (p0:List α) g_p0.sp))]) (λr h'=>r=nZ o∧h'=hp h [(g_p0.t,.obj 60 (fl c (p0:List α) g_p0.sp))]):=by
 refine FQ K0 19 [.tmp 4] Tryz.func103 rfl rfl rfl rfl ?_
 unfold pY at m
 refine vs (v0 (vs (vs (v0 (bU (fB kZ ok_p0 rfl) ?_)))))
 refine jP m (σ:=Int) (λs=> [(g_p0.t,.obj 60 (fl c (p0:List α) g_p0.sp))]) (λs=>.c 0 (aZ g_p0) (.c 1 (.fn (.func p1F) p1C) (.c 7 (nZ (p0.length:Int)) (.c 8 (nZ s) .nil)))) (lx (.k4 .nil)) ?_ ?_
 rintro _ q0 x m
 replace m:lK w p0 p1 q0=some x:=m
 unfold lK at m
 refine vs (v0 (vs (v0 ?_)))
 apply vi m <;> intro c0 m
 refine v0 (vs (v0 (vs (v0 (vs (v0 ?_))))))
 obtain⟨x1,X0,m⟩:=aD m
 refine bU (dF X0 jL ok_p0 rfl rfl) (vn (λu=>eJ (fo:=0) (.agg (c x1)) X0 cz ok_p0 sN rfl (aO 0 u rfl) (λ_=>RL (cz _))) ?_)
 obtain⟨_,Y0,m⟩:=aD m
 refine vn (λu=>bV (p1H _ _ _ (aU (List.nil_sublist _) u).1 Y0) rfl p1B rfl) (v0 ?_)
 apply vi m <;> intro c1 m
 refine vs (v0 (v0 ?_))
 refine fZ m λm=> ?_
 obtain rfl:=eP m
 exact vr λu=>dW.of1 (.inl rfl) (gN _ _ (.sc (.int _ _)) rfl) (bQ u [0] rfl).2 (bD.refl _ _) ⟨rfl,rfl⟩
 refine v0 (v0 ?_)
 exact fY m
 refine v0 ?_
 exact wE m
 rintro _ r0 m
 refine vs (v0 (v0 ?_))
 cases m
 exact vr λu=>dW.of1 (.inl rfl) (gN _ _ (.sc (.int _ _)) rfl) (bQ u [0] rfl).2 (bD.refl _ _) ⟨rfl,rfl⟩
theorem J5 {m:Nat} {α β:Type} (f:α→β) (xs:List α) (p:β→Option Bool):pY m (xs.map f) p=pY m xs (λx=>p (f x)):=by
 have h1:lK m (xs.map f) p=lK m xs (λx=>p (f x)):=by
   funext s; unfold lK; rw[List.length_map,WA]; cases ix xs s <;> rfl
 unfold pY
 simp only[h1]
theorem NS {m:Nat} {α:Type} {xs:List α} {gs:List OG} (hl:gs.length=xs.length) {p:α→Option Bool} {o:Int} (h:pY m xs p=some o):pY m (zg xs gs) (λx=>p x.1)=some o:=WB (F:=λl=>pY m l p) hl (J5 Prod.fst (zg xs gs) p) h
def NT (m:Nat) (p0:aH) (c0:aE):Option (Bool):=
 some (p0.Seq==c0.Seq)
theorem aA9:aP Tryz.prog 177=true:=by kernel_rfl
theorem aBA {w:Nat} {p0:aH} {c0:aE} {o:Bool} (h:aF) {og0:OG} {c0K:bT} (c0H:h c0K=some (.obj 38 (aI c0))) (m:NT w p0 c0=some o):
 aM Tryz.prog 177 [.agg (mA (p0,og0)),.ptr c0K 0] h (λr h'=>r= .sc (.bool o)∧h'=h):=by
 refine fK 9 [.tmp 3] Tryz.func177 rfl rfl rfl rfl ?_
 unfold NT at m
 refine v ?_
 refine ve λu=>S4 u rfl (by repeat (first | exact rfl | refine cG (gG _ _ _ _) ?_ | refine cG rfl ?_)) λk2 K3=>qk K3 rfl ?_
 refine v (vl 0 _ cB rfl rfl rfl (vn (λu=>gK (nZ c0.Seq) cB rfl (gM u c0H) rfl) (v ?_)))
 cases m
 exact eF rfl
def CN (m:Nat) (p0:aT) (p1:Int):Option (Int):=
 some (IntKind.wrap .i64 (p0.Seq - p1))
theorem aG7 {u:Nat} {p0:aT} {p1:Int} {o:Int} (h:aF) (m:CN u p0 p1=some o):
 aM Tryz.prog 179 [.agg (cH p0),nZ p1] h (λr h'=>r=nZ o∧h'=h):=by
 refine fK 9 [.tmp 4] Tryz.func179 rfl rfl rfl rfl ?_
 unfold CN at m
 refine v ?_
 refine gX rfl rfl λk2 K3=> ?_
 refine v (vl 0 _ cB rfl rfl rfl (v ?_))
 cases m
 exact eF rfl
theorem aBB:aP Tryz.prog 179=true:=by kernel_rfl
def tN (m:Nat) (p0:List aT) (p1:Int) (p2:aT→Int→Option Int) (q0:Int) (q1:Int):Option (Lp (Int×Int) (Int×Bool)):=
 if (decide (q0 < q1))=true then ((ix p0 (IntKind.wrap .i64 ((IntKind.wrap .u64 (IntKind.wrap .i64 (q0+q1))).fdiv (2 ^ (min (1:Int).toNat (IntKind.bits .u64)))))).bind λx0=>(p2 x0 p1).bind λy0=>after (if (decide (y0 < 0))=true then (some (.brk (IntKind.wrap .i64 ((IntKind.wrap .i64 ((IntKind.wrap .u64 (IntKind.wrap .i64 (q0+q1))).fdiv (2 ^ (min (1:Int).toNat (IntKind.bits .u64)))))+1),q1))) else some (.brk (q0,IntKind.wrap .i64 ((IntKind.wrap .u64 (IntKind.wrap .i64 (q0+q1))).fdiv (2 ^ (min (1:Int).toNat (IntKind.bits .u64)))))):Option (Lp (Int×Int) (Lp (Int×Int) (Int×Bool)))) λ⟨j0,j1⟩=>some (.go (j0,j1))) else some (.brk (q0,q1))
def NU (m:Nat) (p0:List aT) (p1:Int) (p2:aT→Int→Option Int):Option (Int×Bool):=
 after (aS (λs=>tN m p0 p1 p2 s.1 s.2) m (0,(p0.length:Int))) λ⟨r0,r1⟩=>after (if (decide (r0 < (p0.length:Int)))=true then ((ix p0 r0).bind λx0=>(p2 x0 p1).bind λy0=>some (.brk (r0,(y0==0)))) else some (.brk (r0,false)):Option (Lp (Int×Bool) (Int×Bool))) λ⟨j0,j1⟩=>some (j0,j1)
theorem aG8 {w:Nat} {p0:List aT} {p1:Int} {p2:aT→Int→Option Int} {o:Int×Bool} (h:aF) {p2F:Nat} {p2C:List AV} (p2B:aP Tryz.prog p2F=true) (p2H:∀x0 x1 o h0,iE h h0→p2 x0 x1=some o→aM Tryz.prog p2F ([.agg (cH x0),nZ x1]++p2C) h0 (λr h'=>r=nZ o∧h'=h0)) (m:NU w p0 p1 p2=some o):
 aM Tryz.prog 178 [.sl none 3 (List.map cH p0),nZ p1,.fn (.func p2F) p2C] h (λr h'=>r= .tup [nZ o.1,.sc (.bool o.2)]∧h'=h):=by
 refine fK 49 [.tmp 6,.tmp 7] Tryz.func178 rfl rfl rfl rfl ?_
 unfold NU at m
 refine v (v (dH pN rfl (v (vs ?_))))
 refine jP m (σ:=Int×Int) (λs=> []) (λs=>.c 0 (.sl none 3 (List.map cH p0)) (.c 1 (nZ p1) (.c 2 (.fn (.func p2F) p2C) (.c 8 (nZ (p0.length:Int)) (.c 9 (nZ s.1) (.c 10 (nZ s.2) .nil)))))) (lx (.k6 .nil)) ?_ ?_
 rintro _ ⟨q0,q1⟩ x m
 replace m:tN w p0 p1 p2 q0 q1=some x:=m
 unfold tN at m
 refine v (v ?_)
 apply vi m <;> intro c0 m
 refine v (v (v (v ?_)))
 refine vx m iR rfl rfl λx2 _ m=> ?_
 refine va (.agg (cH x2)) zU rfl rfl ?_
 obtain⟨_,Y0,m⟩:=aD m
 refine vn (λu=>bV (p2H _ _ _ _ (aU (List.nil_sublist _) u).1 Y0) rfl p2B rfl) ?_
 refine fN m (σ:=Int×Int) (λs=> []) (λs=>.c 0 (.sl none 3 (List.map cH p0)) (.c 1 (nZ p1) (.c 2 (.fn (.func p2F) p2C) (.c 8 (nZ (p0.length:Int)) (.c 9 (nZ s.1) (.c 10 (nZ s.2) .nil)))))) (λx m=> ?_) ?_
 refine v ?_
 apply vi m <;> intro c1 m
 refine v ?_
 exact m5 m
 refine v ?_
 exact m5 m
 rintro _ ⟨j0,j1⟩ m
 exact m5 m
 refine v ?_
 exact bq6 m
 rintro _ ⟨r0,r1⟩ m
 refine vs ?_
 refine fN m (σ:=Int×Bool) (λs=> []) (λs=>.c 6 (nZ s.1) (.c 7 (.sc (.bool s.2)) .nil)) (λx m=> ?_) ?_
 refine v ?_
 apply vi m <;> intro b0 m
 rw[b0]
 refine vx m iR rfl rfl λx3 _ m=> ?_
 refine va (.agg (cH x3)) zU rfl rfl ?_
 obtain⟨_,Y1,m⟩:=aD m
 refine vn (λu=>bV (p2H _ _ _ _ (aU (List.nil_sublist _) u).1 Y1) rfl p2B rfl) ?_
 exact wK m
 rw[b0]
 exact wK m
 rintro _ ⟨j2,j3⟩ m
 refine v ?_
 cases m
 exact vr2 rfl rfl
theorem aBC:aP Tryz.prog 178=true:=by kernel_rfl
open Go.Vm
def pZ (m:Nat) (p0:List aH) (p1:aH→Option Bool) (q0:Int):Option (Lp (Int) (Int)):=
 if (decide (q0 < (p0.length:Int)))=true then ((ix p0 q0).bind λx0=>(p1 x0).bind λy0=>if y0=true then (some (.ret q0)) else some (.go (IntKind.wrap .i64 (q0+1)))) else some (.brk q0)
def EW (m:Nat) (p0:List aH) (p1:aH→Option Bool):Option (Int):=
 after (aS (λs=>pZ m p0 p1 s) m 0) λr0=>some (-1)
theorem aBD {w:Nat} {p0:List aH} {p1:aH→Option Bool} {o:Int} (h:aF) {g_p0:dD} (ok_p0:bK g_p0 4 p0.length) (K0:bP h [(dE g_p0 p0)]) {p1F:Nat} {p1C:List AV} (p1B:aP Tryz.prog p1F=true) (p1H:∀x0 o h0,iE h h0→p1 x0=some o→aM Tryz.prog p1F ([.agg (bJ x0)]++p1C) h0 (λr h'=>r= .sc (.bool o)∧h'=h0)) (m:EW w p0 p1=some o):
 aM Tryz.prog 103 [aZ g_p0,.fn (.func p1F) p1C] (hp h [(dE g_p0 p0)]) (λr h'=>r=nZ o∧h'=hp h [(dE g_p0 p0)]):=by
 refine FQ K0 19 [.tmp 4] Tryz.func103 rfl rfl rfl rfl ?_
 unfold EW at m
 refine vs (v0 (vs (vs (v0 (bU (fB kZ ok_p0 rfl) ?_)))))
 refine jP m (σ:=Int) (λs=> [(dE g_p0 p0)]) (λs=>.c 0 (aZ g_p0) (.c 1 (.fn (.func p1F) p1C) (.c 7 (nZ (p0.length:Int)) (.c 8 (nZ s) .nil)))) (lx (.k4 .nil)) ?_ ?_
 rintro _ q0 x m
 replace m:pZ w p0 p1 q0=some x:=m
 unfold pZ at m
 refine vs (v0 (vs (v0 ?_)))
 apply vi m <;> intro c0 m
 refine v0 (vs (v0 (vs (v0 (vs (v0 ?_))))))
 obtain⟨x1,X0,m⟩:=aD m
 refine bU (dF X0 jL ok_p0 rfl rfl) (vn (λu=>eJ (fo:=0) (.agg (bJ x1)) X0 eM ok_p0 sN rfl (aO 0 u rfl) (λ_=>rfl)) ?_)
 obtain⟨_,Y0,m⟩:=aD m
 refine vn (λu=>bV (p1H _ _ _ (aU (List.nil_sublist _) u).1 Y0) rfl p1B rfl) (v0 ?_)
 apply vi m <;> intro c1 m
 refine vs (v0 (v0 ?_))
 refine fZ m λm=> ?_
 obtain rfl:=eP m
 exact vr λu=>dW.of1 (.inl rfl) (gN _ _ (.sc (.int _ _)) rfl) (bQ u [0] rfl).2 (bD.refl _ _) ⟨rfl,rfl⟩
 refine v0 (v0 ?_)
 exact fY m
 refine v0 ?_
 exact wE m
 rintro _ r0 m
 refine vs (v0 (v0 ?_))
 cases m
 exact vr λu=>dW.of1 (.inl rfl) (gN _ _ (.sc (.int _ _)) rfl) (bQ u [0] rfl).2 (bD.refl _ _) ⟨rfl,rfl⟩
def tO (m:Nat) (p0:aA) (q0:List aB) (q1:Int):Option (Lp ((List aB)×Int) ((List aB))):=
 if (decide (q1 < (p0.Chunks.length:Int)))=true then ((ix p0.Chunks q1).bind λx0=>(VK m ({ Seq:=p0.Seq,Snaps:=p0.Snaps,Chunks:=p0.Chunks,Exps:=p0.Exps,Vols:=p0.Vols}:aA) x0.Id).bind λy0=>after (if (!y0)=true then (some (.brk { { x0 with Staged:=false} with Data:=([]:List Int)})) else some (.brk x0):Option (Lp (aB) (Lp ((List aB)×Int) ((List aB))))) λj0=>after (if j0.Staged=true then (some (.brk true)) else some (.brk (decide (0 < (j0.Locs.length:Int)))):Option (Lp (Bool) (Lp ((List aB)×Int) ((List aB))))) λj1=>after (if j1=true then ((app q0 ([j0]:List aB)).bind λz0=>some (.brk z0)) else some (.brk q0):Option (Lp ((List aB)) (Lp ((List aB)×Int) ((List aB))))) λj2=>some (.go (j2,IntKind.wrap .i64 (q1+1)))) else some (.brk (q0,q1))
def J6 (m:Nat) (p0:aA):Option ((List aB)):=
 after (aS (λs=>tO m p0 s.1 s.2) m ([],0)) λ⟨r0,r1⟩=>some r0
theorem aG9 {w:Nat} {p0:aA} {o:(List aB)} (h:aF) {p0K:bT} {gS:dD} (ok_Snaps:bK gS 4 p0.Snaps.length) {gC:dD} (oC:bK gC 35 p0.Chunks.length) {gE:dD} (oE:bK gE 3 p0.Exps.length) {gV:dD} (oV:bK gV 4 p0.Vols.length) (K0:bP h [OC p0K p0.Seq gS gC gE gV,cP gS p0.Snaps,cD gC p0.Chunks,eO gE p0.Exps,a8 gV p0.Vols]) (m:J6 w p0=some o):
 aM Tryz.prog 120 [.ptr p0K 0] (hp h [OC p0K p0.Seq gS gC gE gV,cP gS p0.Snaps,cD gC p0.Chunks,eO gE p0.Exps,a8 gV p0.Vols]) (λr h'=>∃g_Chunks':dD,bK g_Chunks' 35 (o:List aB).length∧bP h [OC p0K p0.Seq gS g_Chunks' gE gV,cP gS p0.Snaps,cD g_Chunks' o,eO gE p0.Exps,a8 gV p0.Vols]∧r= .tup []∧h'=hp h [OC p0K p0.Seq gS g_Chunks' gE gV,cP gS p0.Snaps,cD g_Chunks' o,eO gE p0.Exps,a8 gV p0.Vols]):=by
 refine FQ K0 40 [] Tryz.func120 rfl rfl rfl rfl ?_
 unfold J6 at m
 refine vs (v0 (vs (vs (v0 (lU rfl (dX eW rfl rfl (vl 0 (aZ gC) fD rfl rfl rfl (bU (fB lI oC rfl) (qE (AS (.obj 44 (fl aK ([]:List aB) g0.sp)) 2 (aZ g0) (fP _)) ?_)))))))))
 refine nW m (σ:=(List aB)×Int) (τ:=dD) (λg s=> [cD g s.1,OC p0K p0.Seq gS gC gE gV,cP gS p0.Snaps,cD gC p0.Chunks,eO gE p0.Exps,a8 gV p0.Vols]) (λg s=>bK g 35 (s.1:List aB).length) (λg s=>.c 0 (.ptr p0K 0) (.c 2 (aZ g) (.c 8 (aZ gC) (.c 9 (nZ (p0.Chunks.length:Int)) (.c 10 (nZ s.2) .nil))))) g0 (bK.g0 35) (lx (.k5 .nil)) ?_ ?_
 rintro ag0 ⟨q0,q1⟩ x O0 m
 replace m:tO w p0 q0 q1=some x:=m
 unfold tO at m
 refine vs (v0 (vs (v0 ?_)))
 apply vi m <;> intro c0 m
 refine v0 (vs (v0 (vs (v0 ?_))))
 obtain⟨x0,X0,m⟩:=aD m
 refine bU (dF X0 h9 oC rfl rfl) (vn (λu=>eJ (fo:=0) (.agg (aK x0)) X0 cY oC pB rfl (aO 3 u rfl) (λ_=>rfl)) ?_)
 refine ve λu=>bG (bC gW++(SZ:List AV)) u qL rfl rfl λk174 K1=>qk K1 rfl ?_
 refine ve λu=>aL 0 (aK x0) u rfl rfl rfl rfl EC rfl rfl λK2=>qk K2 rfl ?_
 refine vs (vs (v0 (CD (by kernel_rfl) (lU rfl (vl 2 (.agg ([nZ p0.Seq,aZ gS,aZ gC,aZ gE,aZ gV])) cZ rfl rfl rfl (dX rC rfl rfl (vl 0 (.agg (bC x0.Id)) eY rfl rfl rfl ?_)))))))
 obtain⟨_,Y0,m⟩:=aD m
 refine vn (λu=>bV (fH (.cons (Br.agg (.cons (Br.refl _ _) (.cons (Br.aw 3 eM ok_Snaps u rfl) (.cons (Br.aw 4 cY oC u rfl) (.cons (Br.aw 5 f9 oE u rfl) (.cons (Br.aw 6 eT oV u rfl) .nil)))))) (.cons (Br.refl _ _) .nil)) rfl (W22 _ Y0)) rfl VL rfl) ?_
 refine fN m (σ:=aB) (λs=> [(some k174,.obj 44 (aK s)),cD ag0 q0,OC p0K p0.Seq gS gC gE gV,cP gS p0.Snaps,cD gC p0.Chunks,eO gE p0.Exps,a8 gV p0.Vols]) (λs=>.c 0 (.ptr p0K 0) (.c 2 (aZ ag0) (.c 4 (.ptr k174 0) (.c 8 (aZ gC) (.c 9 (nZ (p0.Chunks.length:Int)) (.c 10 (nZ q1) .nil)))))) (λx m=> ?_) ?_
 refine v0 ?_
 apply vi m <;> intro c1 m
 refine v0 (dX pP rfl rfl ?_)
 refine ve λu=>aL 0 (aK { x0 with Staged:=false}) u rfl rfl rfl rfl ZE rfl rfl λK3=>qk K3 rfl ?_
 refine dX lS rfl rfl ?_
 refine ve λu=>xK 0 (aK { { x0 with Staged:=false} with Data:=([]:List Int)}) u rfl rfl rfl rfl (.cons (a9 _) .nil) EB rfl rfl λK4=>qk K4 rfl ?_
 exact m5 m
 refine v0 ?_
 exact m5 m
 rintro _ j0 m
 refine vs ?_
 refine fN m (σ:=Bool) (λs=> [(some k174,.obj 44 (aK j0)),cD ag0 q0,OC p0K p0.Seq gS gC gE gV,cP gS p0.Snaps,cD gC p0.Chunks,eO gE p0.Exps,a8 gV p0.Vols]) (λs=>.c 0 (.ptr p0K 0) (.c 2 (aZ ag0) (.c 4 (.ptr k174 0) (.c 8 (aZ gC) (.c 9 (nZ (p0.Chunks.length:Int)) (.c 10 (nZ q1) (.c 30 (.sc (.bool s)) .nil))))))) (λx m=> ?_) ?_
 refine v0 (dX pP rfl rfl (vl 0 _ GK rfl rfl rfl ?_))
 apply vi m <;> intro b0 m
 rw[b0]
 exact B5 m
 rw[b0]
 refine dX jQ rfl rfl (vl 0 _ fT rfl rfl rfl (dH kD rfl ?_))
 exact B5 m
 rintro _ j1 m
 refine oG m (σ:=(List aB)) (τ:=dD) (λg s=> [(some k174,.obj 44 (aK j0)),cD g s,OC p0K p0.Seq gS gC gE gV,cP gS p0.Snaps,cD gC p0.Chunks,eO gE p0.Exps,a8 gV p0.Vols]) (λg s=>bK g 35 (s:List aB).length) (λg s=>.c 0 (.ptr p0K 0) (.c 2 (aZ g) (.c 8 (aZ gC) (.c 9 (nZ (p0.Chunks.length:Int)) (.c 10 (nZ q1) .nil))))) (λx m=> ?_) ?_
 refine v0 ?_
 apply vi m <;> intro c2 m
 refine v0 (vl 0 (.agg (aK j0)) pB rfl rfl rfl (bU (eA (List.map aK ([j0]:List aB)) o8 rfl rfl rfl rfl) ?_))
 obtain⟨z0,Z0,m⟩:=aD m
 refine ve λu=>f8 (c:=aK) 1 Z0 o8 rfl qL rfl cY rfl rfl O0 u rfl λag1 O1 K5=>qk K5 rfl ?_
 exact eH m ag1 O1 (lx (.k5 .nil))
 refine v0 ?_
 exact eH m ag0 O0 (lx (.k5 .nil))
 rintro ag2 j2 O2 m
 refine v0 ?_
 exact eH m ag2 O2 (mE [1,2,3,4,5,6] rfl rfl (.k5 .nil))
 refine v0 ?_
 exact lN m ag0 O0 (lx (.k5 .nil))
 rintro ag3 ⟨r0,r1⟩ t0 m
 refine v0 (lU rfl (dX eW rfl rfl ?_))
 refine ve λu=>aL 1 ([nZ p0.Seq,aZ gS,aZ ag3,aZ gE,aZ gV]) u rfl rfl (cM rfl) (cG (cC _ _ _) rfl) D9 rfl rfl λK6=>qk K6 rfl ?_
 obtain rfl:=eP m
 exact vr λu=>dW.zero (.inr rfl) (bQ u [1,2,0,4,5] rfl).2 ⟨ag3,t0,(bQ u [1,2,0,4,5] rfl).1,rfl,rfl⟩
theorem aBE:aP Tryz.prog 120=true:=by kernel_rfl
open Go.Vm
theorem aHA {α:Type} {c:α→List AV} (hc:∀y,(c y).length=4) {p0 o:List α} {p1:Int} {x:α} (h:aF) {g:dD} (ok:bK g 4 p0.length) (K0:bP h [(g.t,.obj 81 (fl c p0 g.sp))]) (u:qM p0 p1 x=some o):
 aM Tryz.prog 187 [aZ g,nZ p1,.sl none 4 (List.map c [x])] (hp h [(g.t,.obj 81 (fl c p0 g.sp))]) (λr h'=>∃g:dD,bK g 4 o.length∧bP h [(g.t,.obj 81 (fl c o g.sp))]∧r=aZ g∧h'=hp h [(g.t,.obj 81 (fl c o g.sp))]):=by
 obtain⟨i0,i1,i2,ho⟩:=mI u
 have hv1:((([x]:List α).length:Int)==0)=false:=rfl
 refine FQ K0 95 [.tmp 6] Tryz.func187 rfl rfl rfl rfl ?_
 repeat refine vs ?_
 refine v0 ?_
 repeat refine vs ?_
 refine v0 (bU (NP i0 i1 ok i9 rfl rfl) ?_)
 repeat refine vs ?_
 refine v0 (dH kD rfl ?_)
 repeat refine vs ?_
 refine v0 (v0 ?_)
 show VC _ _ _ Code.skip _ _ _ _
 refine v0 ?_
 repeat refine vs ?_
 refine v0 (bU (fB kD ok rfl) ?_)
 repeat refine vs ?_
 refine v0 (v0 ?_)
 by_cases hi:p1=(p0.length:Int)
 refine vt (by simpa using hi) ?_
 repeat refine vs ?_
 refine v0 ?_
 refine ve λw=>f8 (c:=c) 0 (IC i2) pA rfl EE rfl hc rfl rfl ok w rfl λg' ok' hk'=>qk hk' rfl ?_
 refine v0 ?_
 have e:o=p0++ [x]:=by subst hi; rw[ho]; simp
 subst e
 exact vr λw=>dW.one (.inl rfl) (iE.refl _) (bD.refl _ _) ⟨g',ok',w,rfl,rfl⟩
 refine vf (by simpa using hi) (v0 ?_)
 have hlt:p1.toNat < p0.length:=by omega
 obtain⟨gt,gn,cap,sp⟩:=g
 have hne:gt≠none:=λe=>by have:=ok.nil e; omega
 obtain⟨k,rfl⟩:∃k,gt=some k:=by cases gt with
 | none=>exact absurd rfl hne
 | some k=>exact⟨k,rfl⟩
 have hgn:gn=p0.length:=ok.eqn
 subst hgn
 have hle:p0.length≤cap:=ok.le
 have hmx:cap≤maxLen:=ok.mx
 have hlen:p0.length*4+sp.length=cap*4:=ok.len
 have hw:IntKind.wrap .i64 ((p0.length:Int)+(([x]:List α).length:Int))=((p0.length+1:Nat):Int):=by
   rw[IntKind.wrap_i64]; simp only[List.length_singleton]; omega
 have hw2:IntKind.wrap .i64 (IntKind.wrap .i64 ((p0.length:Int)+(([x]:List α).length:Int)) - p1)=((p0.length+1 - p1.toNat:Nat):Int):=by
   rw[hw,IntKind.wrap_i64]; omega
 have hw3:IntKind.wrap .i64 (p1+(([x]:List α).length:Int))=((p1.toNat+1:Nat):Int):=by
   rw[IntKind.wrap_i64]; simp only[List.length_singleton]; omega
 obtain⟨q1,q2,q3,q4⟩:=A4 hc (i:=p1.toNat) (by omega:p1.toNat≤p0.length) sp
 generalize hA:((p0.take p1.toNat).map c).flatten=A at q1 q2 q4
 generalize hB:((p0.drop p1.toNat).map c).flatten=B at q1 q3 q4
 repeat refine vs ?_
 refine v0 (bU (NN u42 rfl) (v0 ?_))
 by_cases hcap:cap < p0.length+1
 refine vt (by rw[hw]; exact decide_eq_true (show (cap:Int) < ((p0.length+1:Nat):Int) by omega)) ?_
 repeat refine vs ?_
 refine v0 (bU (IB (cap:=cap) i0 (by omega) i9 rfl rfl) ?_)
 refine ve λw=>NO (cap:=cap) (cs:=fl c p0 sp) (i:=p1.toNat) (m:=p0.length+1 - p1.toNat) 0 pA u3 EE rfl (by decide) w rfl rfl (congrArg (λz=>AV.sc (.int .i64 z)) hw2) (by omega) (by rw[q1]; simp only[List.length_append]; omega) (by omega) λq cap' R h1 h2 h3 hk'=>qk hk' rfl ?_
 repeat refine vs ?_
 refine v0 (bU (nH i0 (by omega) i9 rfl rfl) ?_)
 have hn0:p1.toNat+(p0.length+1 - p1.toNat)=p0.length+1:=by omega
 have hn1:p1.toNat+(p0.length+1 - p1.toNat) - p1.toNat=p0.length+1 - p1.toNat:=by omega
 have e1:List.take (p1.toNat*4) (fl c p0 sp)=A:=by rw[q1,← q2,List.take_left]
 have hxl:=hc x
 have hR:4+B.length≤R.length:=by omega
 have hfl:(fl c p0 sp).length=A.length+(B.length+sp.length):=by rw[q1]; simp
 obtain⟨R1,R2,R3,hR0,hR1,hR2⟩:∃R1 R2 R3:List AV,R=R1++(R2++R3)∧R1.length=(c x).length∧R2.length=B.length:=
 ⟨R.take 4,(R.drop 4).take B.length,(R.drop 4).drop B.length,by rw[List.take_append_drop,List.take_append_drop],by rw[List.length_take,hxl]; omega,by rw[List.length_take,List.length_drop]; omega⟩
 refine ve λw=>pX 0 pA w rfl rfl (IA.sl (ys:=List.map c [x]) (by simp) _) (by simp[hxl]; omega) (by rw[e1]; simp only[List.length_append]; simp[hxl,q2]; omega) (A++(c x++(R2++R3))) (by
 rw[e1,hR0]
 simp only[List.map_cons,List.map_nil,List.flatten_cons,List.flatten_nil,List.append_nil]
 exact jI q2 hR1) λhk'=>qk hk' rfl ?_
 repeat refine vs ?_
 refine v0 ?_
 have hv4:AV.view q ((IntKind.wrap .i64 (p1+(([x]:List α).length:Int))).toNat*4) (p1.toNat+(p0.length+1 - p1.toNat) - (IntKind.wrap .i64 (p1+(([x]:List α).length:Int))).toNat)= .view q ((p1.toNat+1)*4) (p0.length - p1.toNat):=by
   rw[hw3,Int.toNat_natCast,show p1.toNat+(p0.length+1 - p1.toNat) - (p1.toNat+1)=p0.length - p1.toNat from by omega]
 refine vz [] mixed (λw=>trivial) λw=> ?_
 refine zC 0 rfl (fA (.vw _ _ _) rfl) ?_
 refine zI 1 rfl rfl ?_
 refine zI 2 rfl rfl ?_
 refine zC 3 rfl (mN rfl rfl rfl trivial) ?_
 refine zC 4 rfl (iN (nH (by rw[hw3]; omega) (by rw[hw3]; omega) i9 rfl rfl) (bD.of_eq hv4)) ?_
 refine zC 5 rfl (fA (.vw _ _ _) rfl) ?_
 refine zI 6 rfl rfl ?_
 refine zC 7 rfl (nH (m:=p0.length) i0 (by omega) i9 rfl rfl) ?_
 have e2:(List.drop (p1.toNat*4) (fl c p0 sp)).take ((p0.length - p1.toNat)*4)=B:=by
   rw[q1,← q2,List.drop_left,← q3,List.take_left]
 refine zE 8 rfl (pX 0 pA w rfl rfl (cs:=B) (by rw[← e2]; exact IA.view (aW 1 w rfl)) (n1:=p0.length - p1.toNat) (m:=p0.length - p1.toNat) (by rw[q3,Nat.min_self]) (by simp only[List.length_append,hxl,q2,hR2]; omega) (fl c (p0.take p1.toNat++x::p0.drop p1.toNat) R3) (by
 rw[q4 x R3,← List.append_assoc A,← List.append_assoc A]
 exact jI (A:=A++c x) (by rw[List.length_append,hxl,q2]; omega) hR2) λK1=>⟨trivial, ?_⟩)
 refine zX (qk (f:=YY 54 _ _ _ _ _ _ _ _ _ _) K1 rfl ?_)
 repeat refine vs ?_
 refine v0 (v0 ?_)
 subst ho
 have hol:(List.take p1.toNat p0++x::List.drop p1.toNat p0).length=p0.length+1:=by simp; omega
 refine vr λw=>dW.one (.inl rfl) (bQ K1 [0] rfl).2 (bD.of_eq (show AV.vw q _ cap'=aw (some q) (p0.length+1) cap' by rw[hn0]; rfl)) ⟨⟨some q,p0.length+1,cap',R3⟩,⟨hol.symm,nofun,by rw[hol]; show p0.length+1≤cap'; omega,h2,by rw[hol]; show (p0.length+1)*4+R3.length=cap'*4; simp only[hR0,List.length_append,hR1,hR2,hxl] at h3; omega⟩,(bQ K1 [0] rfl).1,rfl,rfl⟩
 refine vf (by rw[hw]; exact decide_eq_false (show ¬(cap:Int) < ((p0.length+1:Nat):Int) by omega)) (v0 ?_)
 repeat refine vs ?_
 refine v0 ?_
 have hv0:AV.vw k (IntKind.wrap .i64 ((p0.length:Int)+(([x]:List α).length:Int))).toNat cap= .vw k (p0.length+1) cap:=by rw[hw,Int.toNat_natCast]
 refine bU (iN (IB (cap:=cap) (by rw[hw]; omega) (by rw[hw]; omega) i9 rfl rfl) (bD.of_eq hv0)) ?_
 repeat refine vs ?_
 refine v0 ?_
 have hv4:AV.view k ((IntKind.wrap .i64 (p1+(([x]:List α).length:Int))).toNat*4) (p0.length+1 - (IntKind.wrap .i64 (p1+(([x]:List α).length:Int))).toNat)= .view k ((p1.toNat+1)*4) (p0.length - p1.toNat):=by
   rw[hw3,Int.toNat_natCast,show p0.length+1 - (p1.toNat+1)=p0.length - p1.toNat from by omega]
 refine bU (iN (nH (m:=p0.length+1) (by rw[hw3]; omega) (by rw[hw3]; omega) i9 rfl rfl) (bD.of_eq hv4)) ?_
 have hfl:(fl c p0 sp).length=p1.toNat*4+((p0.length - p1.toNat)*4+sp.length):=by rw[q1,List.length_append,List.length_append,q2,q3]
 refine ve λw=>tK (sz:=4) (tS:=42) (tR:=4) Tryz.func193 (by kernel_rfl) (by kernel_rfl) (by kernel_rfl) (by kernel_rfl) pA (ys:=List.map c [x]) (by simp) (by decide) rfl rfl (aW 0 w rfl) (by rw[hfl]; omega) (qk w rfl ?_)
 refine v0 ?_
 repeat refine vs ?_
 refine v0 ?_
 refine vz [] mixed (λw=>trivial) λw=> ?_
 refine zC 0 rfl (fA (.vw _ _ _) rfl) ?_
 refine zI 1 rfl rfl ?_
 refine zI 2 rfl rfl ?_
 refine zC 3 rfl (mN rfl rfl rfl trivial) ?_
 refine zC 4 rfl (iN (nH (m:=p0.length+1) (by rw[hw3]; omega) (by rw[hw3]; omega) i9 rfl rfl) (bD.of_eq hv4)) ?_
 refine zC 5 rfl (fA (.vw _ _ _) rfl) ?_
 refine zI 6 rfl rfl ?_
 refine zC 7 rfl (nH (m:=p0.length+1) i0 (by omega) i9 rfl rfl) ?_
 have hxl:=hc x
 have e2:(List.drop (p1.toNat*4) (fl c p0 sp)).take ((p0.length - p1.toNat)*4)=B:=by
   rw[q1,← q2,List.drop_left,← q3,List.take_left]
 have hsp:4≤sp.length:=by omega
 obtain⟨X0,Y,Z,hXY,hX0,hY⟩:∃X0 Y Z:List AV,B++sp=X0++(Y++Z)∧X0.length=4∧Y.length=B.length:=
 ⟨(B++sp).take 4,((B++sp).drop 4).take B.length,((B++sp).drop 4).drop B.length,by rw[List.take_append_drop,List.take_append_drop],by rw[List.length_take,List.length_append]; omega,by rw[List.length_take,List.length_drop,List.length_append]; omega⟩
 have hZ:Z.length+4=sp.length:=by
   have:=congrArg List.length hXY
   simp only[List.length_append] at this
   omega
 refine zE 8 rfl (pX 0 pA w rfl rfl (cs:=B) (by rw[← e2]; exact IA.view (aW 0 w rfl)) (n1:=p0.length - p1.toNat) (m:=p0.length+1 - p1.toNat) (by rw[q3]; congr 1; omega) (by show (p1.toNat+1)*4+B.length≤(fl c p0 sp).length; rw[hfl]; omega) (A++(X0++(B++Z))) (by
 show eR (fl c p0 sp) ((p1.toNat+1)*4) B=_
 rw[q1,hXY,← List.append_assoc A,← List.append_assoc A]
 exact jI (A:=A++X0) (by rw[List.length_append,hX0,q2]; omega) hY) λK1=>⟨trivial, ?_⟩)
 refine zX (qk (f:=YY 77 _ _ _ _ _ _ _ _ _ _) K1 rfl ?_)
 repeat refine vs ?_
 refine v0 (bU (nH (m:=p0.length+1) i0 (by omega) i9 rfl rfl) ?_)
 refine ve λw=>pX 0 pA w rfl rfl (IA.sl (ys:=List.map c [x]) (by simp) _) (by simp[hxl]; omega) (by simp only[List.map_cons,List.map_nil,List.flatten_cons,List.flatten_nil,List.append_nil,List.length_append,q2,hX0,hxl]; omega) (fl c (p0.take p1.toNat++x::p0.drop p1.toNat) Z) (by
 simp only[List.map_cons,List.map_nil,List.flatten_cons,List.flatten_nil,List.append_nil]
 rw[q4 x Z]
 exact jI q2 (by rw[hX0,hxl])) λK1=>qk K1 rfl ?_
 repeat refine vs ?_
 refine v0 (v0 ?_)
 subst ho
 have hol:(List.take p1.toNat p0++x::List.drop p1.toNat p0).length=p0.length+1:=by simp; omega
 refine vr λw=>dW.one (.inl rfl) (bQ w [0] rfl).2 (bD.of_eq (show AV.vw k _ cap=aw (some k) (p0.length+1) cap by rfl)) ⟨⟨some k,p0.length+1,cap,Z⟩,⟨hol.symm,nofun,by rw[hol]; show p0.length+1≤cap; omega,hmx,by rw[hol]; show (p0.length+1)*4+Z.length=cap*4; omega⟩,(bQ w [0] rfl).1,rfl,rfl⟩
theorem aBF:aP Tryz.prog 187=true:=by kernel_rfl
theorem aHB {α:Type} {c:α→List AV} (hc:∀y,(c y).length=3) {p0 o:List α} {p1:Int} {x:α} (h:aF) {g:dD} (ok:bK g 3 p0.length) (K0:bP h [(g.t,.obj 99 (fl c p0 g.sp))]) (u:qM p0 p1 x=some o):
 aM Tryz.prog 180 [aZ g,nZ p1,.sl none 3 (List.map c [x])] (hp h [(g.t,.obj 99 (fl c p0 g.sp))]) (λr h'=>∃g:dD,bK g 3 o.length∧bP h [(g.t,.obj 99 (fl c o g.sp))]∧r=aZ g∧h'=hp h [(g.t,.obj 99 (fl c o g.sp))]):=by
 obtain⟨i0,i1,i2,ho⟩:=mI u
 have hv1:((([x]:List α).length:Int)==0)=false:=rfl
 refine FQ K0 95 [.tmp 6] Tryz.func180 rfl rfl rfl rfl ?_
 repeat refine vs ?_
 refine v0 ?_
 repeat refine vs ?_
 refine v0 (bU (NP i0 i1 ok iR rfl rfl) ?_)
 repeat refine vs ?_
 refine v0 (dH pN rfl ?_)
 repeat refine vs ?_
 refine v0 (v0 ?_)
 show VC _ _ _ Code.skip _ _ _ _
 refine v0 ?_
 repeat refine vs ?_
 refine v0 (bU (fB pN ok rfl) ?_)
 repeat refine vs ?_
 refine v0 (v0 ?_)
 by_cases hi:p1=(p0.length:Int)
 refine vt (by simpa using hi) ?_
 repeat refine vs ?_
 refine v0 ?_
 refine ve λw=>f8 (c:=c) 0 (IC i2) o9 rfl sP rfl hc rfl rfl ok w rfl λg' ok' hk'=>qk hk' rfl ?_
 refine v0 ?_
 have e:o=p0++ [x]:=by subst hi; rw[ho]; simp
 subst e
 exact vr λw=>dW.one (.inl rfl) (iE.refl _) (bD.refl _ _) ⟨g',ok',w,rfl,rfl⟩
 refine vf (by simpa using hi) (v0 ?_)
 have hlt:p1.toNat < p0.length:=by omega
 obtain⟨gt,gn,cap,sp⟩:=g
 have hne:gt≠none:=λe=>by have:=ok.nil e; omega
 obtain⟨k,rfl⟩:∃k,gt=some k:=by cases gt with
 | none=>exact absurd rfl hne
 | some k=>exact⟨k,rfl⟩
 have hgn:gn=p0.length:=ok.eqn
 subst hgn
 have hle:p0.length≤cap:=ok.le
 have hmx:cap≤maxLen:=ok.mx
 have hlen:p0.length*3+sp.length=cap*3:=ok.len
 have hw:IntKind.wrap .i64 ((p0.length:Int)+(([x]:List α).length:Int))=((p0.length+1:Nat):Int):=by
   rw[IntKind.wrap_i64]; simp only[List.length_singleton]; omega
 have hw2:IntKind.wrap .i64 (IntKind.wrap .i64 ((p0.length:Int)+(([x]:List α).length:Int)) - p1)=((p0.length+1 - p1.toNat:Nat):Int):=by
   rw[hw,IntKind.wrap_i64]; omega
 have hw3:IntKind.wrap .i64 (p1+(([x]:List α).length:Int))=((p1.toNat+1:Nat):Int):=by
   rw[IntKind.wrap_i64]; simp only[List.length_singleton]; omega
 obtain⟨q1,q2,q3,q4⟩:=A4 hc (i:=p1.toNat) (by omega:p1.toNat≤p0.length) sp
 generalize hA:((p0.take p1.toNat).map c).flatten=A at q1 q2 q4
 generalize hB:((p0.drop p1.toNat).map c).flatten=B at q1 q3 q4
 repeat refine vs ?_
 refine v0 (bU (NN u27 rfl) (v0 ?_))
 by_cases hcap:cap < p0.length+1
 refine vt (by rw[hw]; exact decide_eq_true (show (cap:Int) < ((p0.length+1:Nat):Int) by omega)) ?_
 repeat refine vs ?_
 refine v0 (bU (IB (cap:=cap) i0 (by omega) iR rfl rfl) ?_)
 refine ve λw=>NO (cap:=cap) (cs:=fl c p0 sp) (i:=p1.toNat) (m:=p0.length+1 - p1.toNat) 0 o9 u3 sP rfl (by decide) w rfl rfl (congrArg (λz=>AV.sc (.int .i64 z)) hw2) (by omega) (by rw[q1]; simp only[List.length_append]; omega) (by omega) λq cap' R h1 h2 h3 hk'=>qk hk' rfl ?_
 repeat refine vs ?_
 refine v0 (bU (nH i0 (by omega) iR rfl rfl) ?_)
 have hn0:p1.toNat+(p0.length+1 - p1.toNat)=p0.length+1:=by omega
 have hn1:p1.toNat+(p0.length+1 - p1.toNat) - p1.toNat=p0.length+1 - p1.toNat:=by omega
 have e1:List.take (p1.toNat*3) (fl c p0 sp)=A:=by rw[q1,← q2,List.take_left]
 have hxl:=hc x
 have hR:3+B.length≤R.length:=by omega
 have hfl:(fl c p0 sp).length=A.length+(B.length+sp.length):=by rw[q1]; simp
 obtain⟨R1,R2,R3,hR0,hR1,hR2⟩:∃R1 R2 R3:List AV,R=R1++(R2++R3)∧R1.length=(c x).length∧R2.length=B.length:=
 ⟨R.take 3,(R.drop 3).take B.length,(R.drop 3).drop B.length,by rw[List.take_append_drop,List.take_append_drop],by rw[List.length_take,hxl]; omega,by rw[List.length_take,List.length_drop]; omega⟩
 refine ve λw=>pX 0 o9 w rfl rfl (IA.sl (ys:=List.map c [x]) (by simp) _) (by simp[hxl]; omega) (by rw[e1]; simp only[List.length_append]; simp[hxl,q2]; omega) (A++(c x++(R2++R3))) (by
 rw[e1,hR0]
 simp only[List.map_cons,List.map_nil,List.flatten_cons,List.flatten_nil,List.append_nil]
 exact jI q2 hR1) λhk'=>qk hk' rfl ?_
 repeat refine vs ?_
 refine v0 ?_
 have hv4:AV.view q ((IntKind.wrap .i64 (p1+(([x]:List α).length:Int))).toNat*3) (p1.toNat+(p0.length+1 - p1.toNat) - (IntKind.wrap .i64 (p1+(([x]:List α).length:Int))).toNat)= .view q ((p1.toNat+1)*3) (p0.length - p1.toNat):=by
   rw[hw3,Int.toNat_natCast,show p1.toNat+(p0.length+1 - p1.toNat) - (p1.toNat+1)=p0.length - p1.toNat from by omega]
 refine vz [] mixed (λw=>trivial) λw=> ?_
 refine zC 0 rfl (fA (.vw _ _ _) rfl) ?_
 refine zI 1 rfl rfl ?_
 refine zI 2 rfl rfl ?_
 refine zC 3 rfl (mN rfl rfl rfl trivial) ?_
 refine zC 4 rfl (iN (nH (by rw[hw3]; omega) (by rw[hw3]; omega) iR rfl rfl) (bD.of_eq hv4)) ?_
 refine zC 5 rfl (fA (.vw _ _ _) rfl) ?_
 refine zI 6 rfl rfl ?_
 refine zC 7 rfl (nH (m:=p0.length) i0 (by omega) iR rfl rfl) ?_
 have e2:(List.drop (p1.toNat*3) (fl c p0 sp)).take ((p0.length - p1.toNat)*3)=B:=by
   rw[q1,← q2,List.drop_left,← q3,List.take_left]
 refine zE 8 rfl (pX 0 o9 w rfl rfl (cs:=B) (by rw[← e2]; exact IA.view (aW 1 w rfl)) (n1:=p0.length - p1.toNat) (m:=p0.length - p1.toNat) (by rw[q3,Nat.min_self]) (by simp only[List.length_append,hxl,q2,hR2]; omega) (fl c (p0.take p1.toNat++x::p0.drop p1.toNat) R3) (by
 rw[q4 x R3,← List.append_assoc A,← List.append_assoc A]
 exact jI (A:=A++c x) (by rw[List.length_append,hxl,q2]; omega) hR2) λK1=>⟨trivial, ?_⟩)
 refine zX (qk (f:=YY 54 _ _ _ _ _ _ _ _ _ _) K1 rfl ?_)
 repeat refine vs ?_
 refine v0 (v0 ?_)
 subst ho
 have hol:(List.take p1.toNat p0++x::List.drop p1.toNat p0).length=p0.length+1:=by simp; omega
 refine vr λw=>dW.one (.inl rfl) (bQ K1 [0] rfl).2 (bD.of_eq (show AV.vw q _ cap'=aw (some q) (p0.length+1) cap' by rw[hn0]; rfl)) ⟨⟨some q,p0.length+1,cap',R3⟩,⟨hol.symm,nofun,by rw[hol]; show p0.length+1≤cap'; omega,h2,by rw[hol]; show (p0.length+1)*3+R3.length=cap'*3; simp only[hR0,List.length_append,hR1,hR2,hxl] at h3; omega⟩,(bQ K1 [0] rfl).1,rfl,rfl⟩
 refine vf (by rw[hw]; exact decide_eq_false (show ¬(cap:Int) < ((p0.length+1:Nat):Int) by omega)) (v0 ?_)
 repeat refine vs ?_
 refine v0 ?_
 have hv0:AV.vw k (IntKind.wrap .i64 ((p0.length:Int)+(([x]:List α).length:Int))).toNat cap= .vw k (p0.length+1) cap:=by rw[hw,Int.toNat_natCast]
 refine bU (iN (IB (cap:=cap) (by rw[hw]; omega) (by rw[hw]; omega) iR rfl rfl) (bD.of_eq hv0)) ?_
 repeat refine vs ?_
 refine v0 ?_
 have hv4:AV.view k ((IntKind.wrap .i64 (p1+(([x]:List α).length:Int))).toNat*3) (p0.length+1 - (IntKind.wrap .i64 (p1+(([x]:List α).length:Int))).toNat)= .view k ((p1.toNat+1)*3) (p0.length - p1.toNat):=by
   rw[hw3,Int.toNat_natCast,show p0.length+1 - (p1.toNat+1)=p0.length - p1.toNat from by omega]
 refine bU (iN (nH (m:=p0.length+1) (by rw[hw3]; omega) (by rw[hw3]; omega) iR rfl rfl) (bD.of_eq hv4)) ?_
 have hfl:(fl c p0 sp).length=p1.toNat*3+((p0.length - p1.toNat)*3+sp.length):=by rw[q1,List.length_append,List.length_append,q2,q3]
 refine ve λw=>tK (sz:=3) (tS:=27) (tR:=4) Tryz.func188 (by kernel_rfl) (by kernel_rfl) (by kernel_rfl) (by kernel_rfl) o9 (ys:=List.map c [x]) (by simp) (by decide) rfl rfl (aW 0 w rfl) (by rw[hfl]; omega) (qk w rfl ?_)
 refine v0 ?_
 repeat refine vs ?_
 refine v0 ?_
 refine vz [] mixed (λw=>trivial) λw=> ?_
 refine zC 0 rfl (fA (.vw _ _ _) rfl) ?_
 refine zI 1 rfl rfl ?_
 refine zI 2 rfl rfl ?_
 refine zC 3 rfl (mN rfl rfl rfl trivial) ?_
 refine zC 4 rfl (iN (nH (m:=p0.length+1) (by rw[hw3]; omega) (by rw[hw3]; omega) iR rfl rfl) (bD.of_eq hv4)) ?_
 refine zC 5 rfl (fA (.vw _ _ _) rfl) ?_
 refine zI 6 rfl rfl ?_
 refine zC 7 rfl (nH (m:=p0.length+1) i0 (by omega) iR rfl rfl) ?_
 have hxl:=hc x
 have e2:(List.drop (p1.toNat*3) (fl c p0 sp)).take ((p0.length - p1.toNat)*3)=B:=by
   rw[q1,← q2,List.drop_left,← q3,List.take_left]
 have hsp:3≤sp.length:=by omega
 obtain⟨X0,Y,Z,hXY,hX0,hY⟩:∃X0 Y Z:List AV,B++sp=X0++(Y++Z)∧X0.length=3∧Y.length=B.length:=
 ⟨(B++sp).take 3,((B++sp).drop 3).take B.length,((B++sp).drop 3).drop B.length,by rw[List.take_append_drop,List.take_append_drop],by rw[List.length_take,List.length_append]; omega,by rw[List.length_take,List.length_drop,List.length_append]; omega⟩
 have hZ:Z.length+3=sp.length:=by
   have:=congrArg List.length hXY
   simp only[List.length_append] at this
   omega
 refine zE 8 rfl (pX 0 o9 w rfl rfl (cs:=B) (by rw[← e2]; exact IA.view (aW 0 w rfl)) (n1:=p0.length - p1.toNat) (m:=p0.length+1 - p1.toNat) (by rw[q3]; congr 1; omega) (by show (p1.toNat+1)*3+B.length≤(fl c p0 sp).length; rw[hfl]; omega) (A++(X0++(B++Z))) (by
 show eR (fl c p0 sp) ((p1.toNat+1)*3) B=_
 rw[q1,hXY,← List.append_assoc A,← List.append_assoc A]
 exact jI (A:=A++X0) (by rw[List.length_append,hX0,q2]; omega) hY) λK1=>⟨trivial, ?_⟩)
 refine zX (qk (f:=YY 77 _ _ _ _ _ _ _ _ _ _) K1 rfl ?_)
 repeat refine vs ?_
 refine v0 (bU (nH (m:=p0.length+1) i0 (by omega) iR rfl rfl) ?_)
 refine ve λw=>pX 0 o9 w rfl rfl (IA.sl (ys:=List.map c [x]) (by simp) _) (by simp[hxl]; omega) (by simp only[List.map_cons,List.map_nil,List.flatten_cons,List.flatten_nil,List.append_nil,List.length_append,q2,hX0,hxl]; omega) (fl c (p0.take p1.toNat++x::p0.drop p1.toNat) Z) (by
 simp only[List.map_cons,List.map_nil,List.flatten_cons,List.flatten_nil,List.append_nil]
 rw[q4 x Z]
 exact jI q2 (by rw[hX0,hxl])) λK1=>qk K1 rfl ?_
 repeat refine vs ?_
 refine v0 (v0 ?_)
 subst ho
 have hol:(List.take p1.toNat p0++x::List.drop p1.toNat p0).length=p0.length+1:=by simp; omega
 refine vr λw=>dW.one (.inl rfl) (bQ w [0] rfl).2 (bD.of_eq (show AV.vw k _ cap=aw (some k) (p0.length+1) cap by rfl)) ⟨⟨some k,p0.length+1,cap,Z⟩,⟨hol.symm,nofun,by rw[hol]; show p0.length+1≤cap; omega,hmx,by rw[hol]; show (p0.length+1)*3+Z.length=cap*3; omega⟩,(bQ w [0] rfl).1,rfl,rfl⟩
theorem aBG:aP Tryz.prog 180=true:=by kernel_rfl
open Go.Vm
def p4 (m:Nat) (p0:List aR) (p1:aR) (q0:Int):Option (Lp (Int) ((List aR))):=
 after (if (decide (0 < q0))=true then ((ix p0 (IntKind.wrap .i64 (q0 - 1))).bind λx0=>if (decide (p1.Vol < x0.Vol))=true then (some (.brk true)) else (ix p0 (IntKind.wrap .i64 (q0 - 1))).bind λx1=>if (x1.Vol==p1.Vol)=true then ((ix p0 (IntKind.wrap .i64 (q0 - 1))).bind λx2=>if (decide (p1.File < x2.File))=true then (some (.brk true)) else (ix p0 (IntKind.wrap .i64 (q0 - 1))).bind λx3=>if (x3.File==p1.File)=true then ((ix p0 (IntKind.wrap .i64 (q0 - 1))).bind λx4=>some (.brk (decide (p1.Off < x4.Off)))) else some (.brk false)) else some (.brk false)) else some (.brk false):Option (Lp (Bool) (Lp (Int) ((List aR))))) λj0=>if j0=true then (some (.go (IntKind.wrap .i64 (q0 - 1)))) else some (.brk q0)
def vX (m:Nat) (p0:List aR) (p1:aR):Option ((List aR)):=
 after (aS (λs=>p4 m p0 p1 s) m (p0.length:Int)) λr0=>(qM p0 r0 (p1:aR)).bind λy0=>some y0
theorem NV {w:Nat} {p0:List aR} {p1:aR} {o:(List aR)} (h:aF) {g_p0:dD} (ok_p0:bK g_p0 4 p0.length) (K0:bP h [jZ g_p0 p0]) (m:vX w p0 p1=some o):
 aM Tryz.prog 176 [aZ g_p0,.agg (aN p1)] (hp h [jZ g_p0 p0]) (λr h'=>∃g:dD,bK g 4 o.length∧bP h [(g.t,.obj 81 (fl aN o g.sp))]∧r=aZ g∧h'=hp h [(g.t,.obj 81 (fl aN o g.sp))]):=by
 refine FQ K0 72 [.tmp 4] Tryz.func176 rfl rfl rfl rfl ?_
 unfold vX at m
 refine vs (v0 (gX rfl rfl λk2 K3=>vs (v0 (bU (fB kD ok_p0 rfl) (vs (jP m (σ:=Int) (λs=> [(some k2,.obj 81 (aN p1)),jZ g_p0 p0]) (λs=>.c 0 (aZ g_p0) (.c 3 (.ptr k2 0) (.c 5 (nZ s) .nil))) (lx (.k3 .nil)) ?_ ?_))))))
 rintro _ q0 x m
 replace m:p4 w p0 p1 q0=some x:=m
 unfold p4 at m
 refine vs (vs (fN m (σ:=Bool) (λs=> [(some k2,.obj 81 (aN p1)),jZ g_p0 p0]) (λs=>.c 0 (aZ g_p0) (.c 3 (.ptr k2 0) (.c 5 (nZ q0) (.c 64 (.sc (.bool s)) .nil)))) (λx m=> ?_) ?_))
 refine v0 (CD (by kernel_rfl) ?_)
 apply vi m <;> intro b0 m
 rw[b0]
 obtain⟨x0,X0,m⟩:=aD m
 refine bU (dF X0 i9 ok_p0 rfl rfl) (bU (cW (bK.ne ok_p0 X0) CB rfl rfl) (vn (λu=>eJ (fo:=0) (nZ x0.Vol) X0 fC ok_p0 cB rfl (aO 1 u rfl) (λ_=>rfl)) (dX CB rfl rfl (vl 0 _ cB rfl rfl rfl ?_))))
 apply vi m <;> intro b1 m
 rw[b1]
 exact fY m
 rw[b1]
 obtain⟨x1,X1,m⟩:=aD m
 refine bU (dF X1 i9 ok_p0 rfl rfl) (bU (cW (bK.ne ok_p0 X1) CB rfl rfl) (vn (λu=>eJ (fo:=0) (nZ x1.Vol) X1 fC ok_p0 cB rfl (aO 1 u rfl) (λ_=>rfl)) (dX CB rfl rfl (vl 0 _ cB rfl rfl rfl ?_))))
 apply vi m <;> intro b2 m
 rw[b2]
 obtain⟨x2,X2,m⟩:=aD m
 refine bU (dF X2 i9 ok_p0 rfl rfl) (bU (cW (bK.ne ok_p0 X2) CC rfl rfl) (vn (λu=>eJ (fo:=1) (nZ x2.File) X2 fC ok_p0 cB rfl (aO 1 u rfl) (λ_=>rfl)) (dX CC rfl rfl (vl 0 _ cB rfl rfl rfl ?_))))
 apply vi m <;> intro b3 m
 rw[b3]
 exact fY m
 rw[b3]
 obtain⟨x3,X3,m⟩:=aD m
 refine bU (dF X3 i9 ok_p0 rfl rfl) (bU (cW (bK.ne ok_p0 X3) CC rfl rfl) (vn (λu=>eJ (fo:=1) (nZ x3.File) X3 fC ok_p0 cB rfl (aO 1 u rfl) (λ_=>rfl)) (dX CC rfl rfl (vl 0 _ cB rfl rfl rfl ?_))))
 apply vi m <;> intro b4 m
 rw[b4]
 obtain⟨x4,X4,m⟩:=aD m
 exact bU (dF X4 i9 ok_p0 rfl rfl) (bU (cW (bK.ne ok_p0 X4) MJ rfl rfl) (vn (λu=>eJ (fo:=2) (nZ x4.Off) X4 fC ok_p0 cB rfl (aO 1 u rfl) (λ_=>rfl)) (dX MJ rfl rfl (vl 0 _ cB rfl rfl rfl (fY m)))))
 rw[b4]
 exact fY m
 rw[b2]
 exact fY m
 rw[b0]
 exact fY m
 rintro _ j0 m
 refine v0 ?_
 apply vi m <;> intro c0 m
 exact v0 (v0 (v0 (gD m)))
 exact v0 (Fq m)
 rintro _ r0 m
 refine vs (v0 (vl 0 (.agg (aN p1)) m9 rfl rfl rfl (bU (eA (List.map aN ([p1]:List aR)) pA rfl rfl rfl rfl) ?_)))
 obtain⟨y0,Y0,m⟩:=aD m
 refine ve λu=> ?_
 have ho0:=EQ (A:= [jZ g_p0 p0]) (R:= [(some k2,.obj 81 (aN p1))]) u [[_], [_]] rfl [1] [0] rfl rfl rfl
 refine fJ ho0.1 (dR (aHA fC _ ok_p0 ho0.2.2 Y0) rfl aBF rfl ?_)
 rintro x h' ⟨ag0,O0,K1,rfl,rfl⟩
 have K2:=ER (L':= [(some k2,.obj 81 (aN p1)),jZ ag0 y0]) ho0.2.1 K1 [[_]] [[_]] rfl rfl [1,0] rfl rfl
 refine qk K2.2 K2.1 (v0 ?_)
 obtain rfl:=eP m
 exact vr λu=>dW.one (.inl rfl) (aU (h0:=h) (L':= [jZ ag0 y0]) (.cons _ (.refl _)) u).1 (bD.refl _ _) ⟨ag0,O0,(aU (h0:=h) (L':= [jZ ag0 y0]) (.cons _ (.refl _)) u).2,rfl,rfl⟩
theorem NW:aP Tryz.prog 176=true:=by kernel_rfl
open Go.Vm
def G5 (m:Nat) (p0:aA) (p1:aE) (p2:aR):Option (Int×Int×AY):=
 after (if (p1.Kind==1)=true then ((xY m p0.Chunks p1.Id).bind λy0=>if (!y0.2)=true then (some (.ret (8,p0.Seq,p0.Snaps,p0.Chunks,p0.Exps))) else (ix p0.Chunks y0.1).bind λx2=>(vX m x2.Locs p2).bind λy1=>(ix p0.Chunks y0.1).bind λx3=>some (.brk (p0.Seq,p0.Snaps,p0.Chunks.set y0.1.toNat ({ x3 with Locs:=y1}),p0.Exps))) else after (if (p1.Kind==2)=true then ((pY m p0.Snaps (λx0=>NT m x0 p1)).bind λy2=>if (decide (y2 < 0))=true then (some (.ret (.ret (8,p0.Seq,p0.Snaps,p0.Chunks,p0.Exps)))) else (ix p0.Snaps y2).bind λx4=>(vX m x4.Locs p2).bind λy3=>(ix p0.Snaps y2).bind λx5=>some (.brk (p0.Seq,p0.Snaps.set y2.toNat ({ x5 with Locs:=y3}),p0.Exps))) else after (if (p1.Kind==3)=true then ((NU m p0.Exps p1.Seq (λx0 x1=>CN m x0 x1)).bind λy4=>after (if (!y4.2)=true then ((qM p0.Exps y4.1 (({ Seq:=p1.Seq,Of:=p1.Of,Locs:= []}:aT):aT)).bind λy5=>some (.brk ((max p0.Seq (IntKind.wrap .i64 (p1.Seq+1))),y5))) else some (.brk (p0.Seq,p0.Exps)):Option (Lp (Int×(List aT)) (Lp (Int×(List aT)) (Lp (Int×(List aH)×(List aT)) (Lp (Int×AY) (Int×Int×AY)))))) λ⟨j0,j1⟩=>(ix j1 y4.1).bind λx6=>(vX m x6.Locs p2).bind λy6=>(ix j1 y4.1).bind λx7=>some (.brk (j0,j1.set y4.1.toNat ({ x7 with Locs:=y6})))) else some (.brk (p0.Seq,p0.Exps)):Option (Lp (Int×(List aT)) (Lp (Int×(List aH)×(List aT)) (Lp (Int×AY) (Int×Int×AY))))) λ⟨j2,j3⟩=>some (.brk (j2,p0.Snaps,j3)):Option (Lp (Int×(List aH)×(List aT)) (Lp (Int×AY) (Int×Int×AY)))) λ⟨j4,j5,j6⟩=>some (.brk (j4,j5,p0.Chunks,j6)):Option (Lp (Int×AY) (Int×Int×AY))) λ⟨j7,j8,j9,j10⟩=>some (0,j7,j8,j9,j10)
theorem aHC {w:Nat} {p0:aA} {p1:aE} {p2:aR} {o:Int×Int×AY} (h:aF) {p0K:bT} {gS:dI} (ok_Snaps:nG aH.Locs 4 4 gS (p0.Snaps:List aH)) {gC:dI} (oC:nG aB.Locs 35 4 gC (p0.Chunks:List aB)) {gE:dI} (oE:nG aT.Locs 3 4 gE (p0.Exps:List aT)) {gV:dD} (oV:bK gV 4 p0.Vols.length) (K0:bP h ([OC p0K p0.Seq gS.a gC.a gE.a gV,bL gS p0.Snaps,aY gC p0.Chunks,bR gE p0.Exps,a8 gV p0.Vols]++((bO gS p0.Snaps)++((bB gC p0.Chunks)++(bS gE p0.Exps))))) (m:G5 w p0 p1 p2=some o):
 aM Tryz.prog 123 [.ptr p0K 0,.agg (aI p1),.agg (aN p2)] (hp h ([OC p0K p0.Seq gS.a gC.a gE.a gV,bL gS p0.Snaps,aY gC p0.Chunks,bR gE p0.Exps,a8 gV p0.Vols]++((bO gS p0.Snaps)++((bB gC p0.Chunks)++(bS gE p0.Exps))))) (λr h'=>∃g_Snaps':dI,nG aH.Locs 4 4 g_Snaps' (o.2.2.1:List aH)∧∃g_Chunks':dI,nG aB.Locs 35 4 g_Chunks' (o.2.2.2.1:List aB)∧∃g_Exps':dI,nG aT.Locs 3 4 g_Exps' (o.2.2.2.2:List aT)∧bP h ([OC p0K o.2.1 g_Snaps'.a g_Chunks'.a g_Exps'.a gV,bL g_Snaps' o.2.2.1,aY g_Chunks' o.2.2.2.1,bR g_Exps' o.2.2.2.2,a8 gV p0.Vols]++((bO g_Snaps' o.2.2.1)++((bB g_Chunks' o.2.2.2.1)++(bS g_Exps' o.2.2.2.2))))∧r=nZ o.1∧h'=hp h ([OC p0K o.2.1 g_Snaps'.a g_Chunks'.a g_Exps'.a gV,bL g_Snaps' o.2.2.1,aY g_Chunks' o.2.2.2.1,bR g_Exps' o.2.2.2.2,a8 gV p0.Vols]++((bO g_Snaps' o.2.2.1)++((bB g_Chunks' o.2.2.2.1)++(bS g_Exps' o.2.2.2.2))))):=by
 refine FQ K0 129 [.tmp 6] Tryz.func123 rfl rfl rfl rfl ?_
 unfold G5 at m
 refine vs (v0 (gX rfl rfl λk2 K3=>gX rfl rfl λk5 K6=>vs (vs (v0 (dX mQ rfl rfl (vl 1 _ cB rfl rfl rfl (v0 (vs (v0 (oG m (σ:=Int×AY) (τ:=dI×dI×dI) (λg s=>([(some k5,.obj 81 (aN p2)),(some k2,.obj 38 (aI p1)),OC p0K s.1 g.1.a g.2.1.a g.2.2.a gV,bL g.1 s.2.1,aY g.2.1 s.2.2.1,bR g.2.2 s.2.2.2,a8 gV p0.Vols]++((bO g.1 s.2.1)++((bB g.2.1 s.2.2.1)++(bS g.2.2 s.2.2.2))))) (λg s=>nG aH.Locs 4 4 g.1 (s.2.1:List aH)∧nG aB.Locs 35 4 g.2.1 (s.2.2.1:List aB)∧nG aT.Locs 3 4 g.2.2 (s.2.2.2:List aT)) (λg s=>.nil) (λx m=> ?_) ?_))))))))))
 refine v0 ?_
 apply vi m <;> intro c0 m
 refine vs (v0 (CD (by kernel_rfl) (lU rfl (dX eW rfl rfl (vl 2 (aZ gC.a) fD rfl rfl rfl (dX xO rfl rfl (vl 1 (.agg (bC p1.Id)) eY rfl rfl rfl ?_)))))))
 obtain⟨y0,Y0,m⟩:=aD m
 refine vn (λu=>bV (fH (.cons (Br.awN 4 cY fC EV oC.k u rfl (WC [[_], [_], [_], [_], [_], [_], [_],_,_,_] rfl 8 rfl)) (.cons (Br.refl _ _) .nil)) rfl (VH _ Y0)) rfl MV rfl) (vs (vs (v0 (v0 ?_))))
 apply vi m <;> intro c1 m
 refine vs (v0 (v0 (fZ m λm=> ?_)))
 cases m
 exact vr λu=>dW.of1 (.inl rfl) (gN _ _ (.sc (.int _ _)) rfl) (tJ (L':=([OC p0K p0.Seq gS.a gC.a gE.a gV,bL gS p0.Snaps,aY gC p0.Chunks,bR gE p0.Exps,a8 gV p0.Vols]++((bO gS p0.Snaps)++((bB gC p0.Chunks)++(bS gE p0.Exps))))) u [[_], [_], [_], [_], [_], [_], [_],_,_,_] rfl [2,3,4,5,6,7,8,9] rfl rfl).2 (bD.refl _ _) ⟨gS,ok_Snaps,gC,oC,gE,oE,(tJ (L':=([OC p0K p0.Seq gS.a gC.a gE.a gV,bL gS p0.Snaps,aY gC p0.Chunks,bR gE p0.Exps,a8 gV p0.Vols]++((bO gS p0.Snaps)++((bB gC p0.Chunks)++(bS gE p0.Exps))))) u [[_], [_], [_], [_], [_], [_], [_],_,_,_] rfl [2,3,4,5,6,7,8,9] rfl rfl).1,rfl,rfl⟩
 refine v0 (v0 (vz [(1000000,some p0K,.obj 30 ([nZ p0.Seq,aZ gS.a,aZ gC.a,aZ gE.a,aZ gV])),(17,gC.a.t,.obj 44 (fl kO (zg (p0.Chunks:List aB) gC.gs) gC.a.sp)),(1000000,some k5,.obj 81 (aN p2))] mixed (λu=>⟨λ_=>aO 2 u rfl,λ_=>aO 4 u rfl,λ_=>aO 0 u rfl,trivial⟩) λu=>zP 0 rfl rfl (zN 1 rfl rfl (zF 2 rfl eW rfl (zL 3 0 (aZ gC.a) rfl fD rfl rfl rfl (zI 4 rfl rfl (zP 5 rfl rfl (zN 6 rfl rfl (zF 7 rfl eW rfl (zL 8 0 (aZ gC.a) rfl fD rfl rfl rfl (zI 9 rfl rfl ?_)))))))))))
 obtain⟨x1,X0,m⟩:=aD m
 refine zC 10 rfl (dF (oC.k.ix X0) h9 oC.k.z rfl rfl) (zC 11 rfl (cW (bK.ne oC.k.z (oC.k.ix X0)) jQ rfl rfl) ?_)
 obtain⟨gv0,hg0,ga0,gn0⟩:=oC.gx X0
 refine zO 12 rfl (λ_ _ hi hB=>iN (eJ (fo:=34) (awO aN 4 (gx gC.gs y0.1.toNat) x1.Locs) (oC.k.ix X0) kC oC.k.z fT rfl (fS.get 1 hi rfl (hB 17 (by kernel_rfl))) (λ_=>rfl)) (bD.of_eq (congrArg (λz=>awO aN 4 z x1.Locs) hg0))) (zL 13 2 (.agg (aN p2)) rfl m9 rfl rfl rfl ?_)
 obtain⟨y1,Y1,m⟩:=aD m
 refine zE 14 rfl ?_
 have ho0:=CK (R:=([(some k5,.obj 81 (aN p2)),(some k2,.obj 38 (aI p1)),OC p0K p0.Seq gS.a gC.a gE.a gV,bL gS p0.Snaps,aY gC p0.Chunks,bR gE p0.Exps,a8 gV p0.Vols]++((bO gS p0.Snaps)++((lG 81 aN ((nl aB.Locs (zg (p0.Chunks:List aB) gC.gs)).eraseIdx y0.1.toNat))++(bS gE p0.Exps))))) u [[_], [_], [_], [_], [_], [_], [_],_,_,_] rfl 8 rfl gn0 rfl
 have ho1:=dJ [(eC gv0 x1.Locs)] _ ho0.2
 refine fJ (ho0.1.trans (dO h [(eC gv0 x1.Locs)] _).symm) (dR (NV _ ga0 ho1.2 Y1) rfl NW rfl ?_)
 rintro x h' ⟨ag0,O0,K1,rfl,rfl⟩
 refine qJ (dO h [jZ ag0 y1] _) (⟨⟨λ_=>aO 3 (dZ ho1.1 K1) rfl,λ_=>aO 5 (dZ ho1.1 K1) rfl,λ_=>aO 1 (dZ ho1.1 K1) rfl,trivial⟩, ?_⟩)
 obtain⟨x2,X1,m⟩:=aD m
 refine zC 15 rfl (dF (oC.k.ix X1) h9 oC.k.z rfl rfl) (zC 16 rfl (cW (bK.ne oC.k.z (oC.k.ix X1)) jQ rfl rfl) (zE 17 rfl (cX (fo:=34) (x':=(({ x2 with Locs:=y1}:aB),some ag0)) 5 (dZ ho1.1 K1) (oC.k.ix X1) kC oC.k.z rfl rfl (cM rfl) (cG (cC _ _ _) rfl) (cS.refl _ _) pO rfl rfl ?_)))
 intro K2
 have O1:=oC.setL (x':=({ x2 with Locs:=y1}:aB)) X1 ag0 O0
 have hr0:=A3 (L':=(eC ag0 y1)::(([(some k5,.obj 81 (aN p2)),(some k2,.obj 38 (aI p1)),OC p0K p0.Seq gS.a gC.a gE.a gV,bL gS p0.Snaps,(gC.a.t,.obj 44 (fl kO (((zg (p0.Chunks:List aB) gC.gs)).set y0.1.toNat (({ x2 with Locs:=y1}:aB),some ag0)) gC.a.sp)),bR gE p0.Exps,a8 gV p0.Vols]:HL)++((bO gS p0.Snaps)++((lG 81 aN ((nl aB.Locs (zg (p0.Chunks:List aB) gC.gs)).eraseIdx y0.1.toNat))++(bS gE p0.Exps))))) K2 [[_], [_], [_], [_], [_], [_], [_], [_],_,_,_] rfl [0,1,2,3,4,5,6,7,8,9,10] rfl rfl
 have hj0:=vM (L':=([(some k5,.obj 81 (aN p2)),(some k2,.obj 38 (aI p1)),OC p0K p0.Seq gS.a ((⟨gC.a,gC.gs.set y0.1.toNat (some ag0)⟩:dI).a) gE.a gV,bL gS p0.Snaps,aY (⟨gC.a,gC.gs.set y0.1.toNat (some ag0)⟩:dI) (p0.Chunks.set y0.1.toNat ({ x2 with Locs:=y1})),bR gE p0.Exps,a8 gV p0.Vols]++((bO gS p0.Snaps)++((bB (⟨gC.a,gC.gs.set y0.1.toNat (some ag0)⟩:dI) (p0.Chunks.set y0.1.toNat ({ x2 with Locs:=y1})))++(bS gE p0.Exps))))) [[_], [_], [_], [_], [_], [_], [_],_,_,_] rfl 8 (zs:=nl aB.Locs (zg (p0.Chunks:List aB) gC.gs)) (j:=y0.1.toNat) (aB.Locs ({ x2 with Locs:=y1}:aB),some ag0) (mH (oC.k.nlat X1)) rfl hr0.2 (by rw[← (oC.k.setL (x':=({ x2 with Locs:=y1}:aB)) X1 ag0 O0).2.2,(oC.k.setL (x':=({ x2 with Locs:=y1}:aB)) X1 ag0 O0).2.1]; rfl)
 refine qJ (hr0.1.trans hj0.1) (⟨⟨λ_=>aO 2 hj0.2 rfl,λe=>absurd e (by decide),λ_=>aO 0 hj0.2 rfl,trivial⟩, ?_⟩)
 exact zX (qk (f:=GG 44 _ _ _ _ _ _ _ _ _ _ _ _ _ _ _ _ _ _) hj0.2 rfl (eH m (gS,(⟨gC.a,gC.gs.set y0.1.toNat (some ag0)⟩:dI),gE) ⟨ok_Snaps,O1,oE⟩ (lx .nil)))
 refine vs (v0 (oG m (σ:=Int×(List aH)×(List aT)) (τ:=dI×dI) (λg s=>([(some k5,.obj 81 (aN p2)),(some k2,.obj 38 (aI p1)),OC p0K s.1 g.1.a gC.a g.2.a gV,bL g.1 s.2.1,aY gC p0.Chunks,bR g.2 s.2.2,a8 gV p0.Vols]++((bO g.1 s.2.1)++((bB gC p0.Chunks)++(bS g.2 s.2.2))))) (λg s=>nG aH.Locs 4 4 g.1 (s.2.1:List aH)∧nG aT.Locs 3 4 g.2 (s.2.2:List aT)) (λg s=>.nil) (λx m=> ?_) ?_))
 refine v0 ?_
 apply vi m <;> intro c2 m
 refine vs (v0 (lU rfl (dX eL rfl rfl (vl 2 (aZ gS.a) fI rfl rfl rfl ?_))))
 obtain⟨y2,Y2,m⟩:=aD m
 refine ve λu=> ?_
 have ho2:=EQ (A:= [bL gS p0.Snaps]) (R:=([(some k5,.obj 81 (aN p2)),(some k2,.obj 38 (aI p1)),OC p0K p0.Seq gS.a gC.a gE.a gV,aY gC p0.Chunks,bR gE p0.Exps,a8 gV p0.Vols]++((bO gS p0.Snaps)++((bB gC p0.Chunks)++(bS gE p0.Exps))))) u [[_], [_], [_], [_], [_], [_], [_],_,_,_] rfl [3] [0,1,2,4,5,6,7,8,9] rfl rfl rfl
 refine fJ ho2.1 (dR (aA8 mU _ ok_Snaps.k.z ho2.2.2 aA9 (λx0 o h0 hs ho=>aBA (p0:=x0.1) (og0:=x0.2) h0 (hs _ _ (aW 1 ho2.2.1 rfl)) ho) (NS ok_Snaps.k.len Y2)) rfl MU rfl ?_)
 rintro x h' ⟨rfl,rfl⟩
 refine qk u ho2.1.symm (vs (vs (v0 (v0 ?_))))
 apply vi m <;> intro c3 m
 refine vs (v0 (v0 (fZ m λm=>fZ m λm=> ?_)))
 cases m
 exact vr λu=>dW.of1 (.inl rfl) (gN _ _ (.sc (.int _ _)) rfl) (tJ (L':=([OC p0K p0.Seq gS.a gC.a gE.a gV,bL gS p0.Snaps,aY gC p0.Chunks,bR gE p0.Exps,a8 gV p0.Vols]++((bO gS p0.Snaps)++((bB gC p0.Chunks)++(bS gE p0.Exps))))) u [[_], [_], [_], [_], [_], [_], [_],_,_,_] rfl [2,3,4,5,6,7,8,9] rfl rfl).2 (bD.refl _ _) ⟨gS,ok_Snaps,gC,oC,gE,oE,(tJ (L':=([OC p0K p0.Seq gS.a gC.a gE.a gV,bL gS p0.Snaps,aY gC p0.Chunks,bR gE p0.Exps,a8 gV p0.Vols]++((bO gS p0.Snaps)++((bB gC p0.Chunks)++(bS gE p0.Exps))))) u [[_], [_], [_], [_], [_], [_], [_],_,_,_] rfl [2,3,4,5,6,7,8,9] rfl rfl).1,rfl,rfl⟩
 refine v0 (v0 (vz [(1000000,some p0K,.obj 30 ([nZ p0.Seq,aZ gS.a,aZ gC.a,aZ gE.a,aZ gV])),(17,gS.a.t,.obj 60 (fl mA (zg (p0.Snaps:List aH) gS.gs) gS.a.sp)),(1000000,some k5,.obj 81 (aN p2))] mixed (λu=>⟨λ_=>aO 2 u rfl,λ_=>aO 3 u rfl,λ_=>aO 0 u rfl,trivial⟩) λu=>zP 0 rfl rfl (zN 1 rfl rfl (zF 2 rfl eL rfl (zL 3 0 (aZ gS.a) rfl fI rfl rfl rfl (zI 4 rfl rfl (zP 5 rfl rfl (zN 6 rfl rfl (zF 7 rfl eL rfl (zL 8 0 (aZ gS.a) rfl fI rfl rfl rfl (zI 9 rfl rfl ?_)))))))))))
 obtain⟨x3,X2,m⟩:=aD m
 refine zC 10 rfl (dF (ok_Snaps.k.ix X2) jL ok_Snaps.k.z rfl rfl) (zC 11 rfl (cW (bK.ne ok_Snaps.k.z (ok_Snaps.k.ix X2)) lB rfl rfl) ?_)
 obtain⟨gv1,hg1,ga1,gn1⟩:=ok_Snaps.gx X2
 refine zO 12 rfl (λ_ _ hi hB=>iN (eJ (fo:=3) (awO aN 4 (gx gS.gs y2.toNat) x3.Locs) (ok_Snaps.k.ix X2) mU ok_Snaps.k.z fT rfl (fS.get 1 hi rfl (hB 17 (by kernel_rfl))) (λ_=>rfl)) (bD.of_eq (congrArg (λz=>awO aN 4 z x3.Locs) hg1))) (zL 13 2 (.agg (aN p2)) rfl m9 rfl rfl rfl ?_)
 obtain⟨y3,Y3,m⟩:=aD m
 refine zE 14 rfl ?_
 have ho3:=CK (R:=([(some k5,.obj 81 (aN p2)),(some k2,.obj 38 (aI p1)),OC p0K p0.Seq gS.a gC.a gE.a gV,bL gS p0.Snaps,aY gC p0.Chunks,bR gE p0.Exps,a8 gV p0.Vols]++((lG 81 aN ((nl aH.Locs (zg (p0.Snaps:List aH) gS.gs)).eraseIdx y2.toNat))++((bB gC p0.Chunks)++(bS gE p0.Exps))))) u [[_], [_], [_], [_], [_], [_], [_],_,_,_] rfl 7 rfl gn1 rfl
 have ho4:=dJ [(eC gv1 x3.Locs)] _ ho3.2
 refine fJ (ho3.1.trans (dO h [(eC gv1 x3.Locs)] _).symm) (dR (NV _ ga1 ho4.2 Y3) rfl NW rfl ?_)
 rintro x h' ⟨ag1,O2,K4,rfl,rfl⟩
 refine qJ (dO h [jZ ag1 y3] _) (⟨⟨λ_=>aO 3 (dZ ho4.1 K4) rfl,λ_=>aO 4 (dZ ho4.1 K4) rfl,λ_=>aO 1 (dZ ho4.1 K4) rfl,trivial⟩, ?_⟩)
 obtain⟨x4,X3,m⟩:=aD m
 refine zC 15 rfl (dF (ok_Snaps.k.ix X3) jL ok_Snaps.k.z rfl rfl) (zC 16 rfl (cW (bK.ne ok_Snaps.k.z (ok_Snaps.k.ix X3)) lB rfl rfl) (zE 17 rfl (cX (fo:=3) (x':=(({ x4 with Locs:=y3}:aH),some ag1)) 4 (dZ ho4.1 K4) (ok_Snaps.k.ix X3) mU ok_Snaps.k.z rfl rfl (cM rfl) (cG (cC _ _ _) rfl) (cS.refl _ _) pO rfl rfl ?_)))
 intro K5
 have O3:=ok_Snaps.setL (x':=({ x4 with Locs:=y3}:aH)) X3 ag1 O2
 have hr1:=A3 (L':=(eC ag1 y3)::(([(some k5,.obj 81 (aN p2)),(some k2,.obj 38 (aI p1)),OC p0K p0.Seq gS.a gC.a gE.a gV,(gS.a.t,.obj 60 (fl mA (((zg (p0.Snaps:List aH) gS.gs)).set y2.toNat (({ x4 with Locs:=y3}:aH),some ag1)) gS.a.sp)),aY gC p0.Chunks,bR gE p0.Exps,a8 gV p0.Vols]:HL)++((lG 81 aN ((nl aH.Locs (zg (p0.Snaps:List aH) gS.gs)).eraseIdx y2.toNat))++((bB gC p0.Chunks)++(bS gE p0.Exps))))) K5 [[_], [_], [_], [_], [_], [_], [_], [_],_,_,_] rfl [0,1,2,3,4,5,6,7,8,9,10] rfl rfl
 have hj1:=vM (L':=([(some k5,.obj 81 (aN p2)),(some k2,.obj 38 (aI p1)),OC p0K p0.Seq ((⟨gS.a,gS.gs.set y2.toNat (some ag1)⟩:dI).a) gC.a gE.a gV,bL (⟨gS.a,gS.gs.set y2.toNat (some ag1)⟩:dI) (p0.Snaps.set y2.toNat ({ x4 with Locs:=y3})),aY gC p0.Chunks,bR gE p0.Exps,a8 gV p0.Vols]++((bO (⟨gS.a,gS.gs.set y2.toNat (some ag1)⟩:dI) (p0.Snaps.set y2.toNat ({ x4 with Locs:=y3})))++((bB gC p0.Chunks)++(bS gE p0.Exps))))) [[_], [_], [_], [_], [_], [_], [_],_,_,_] rfl 7 (zs:=nl aH.Locs (zg (p0.Snaps:List aH) gS.gs)) (j:=y2.toNat) (aH.Locs ({ x4 with Locs:=y3}:aH),some ag1) (mH (ok_Snaps.k.nlat X3)) rfl hr1.2 (by rw[← (ok_Snaps.k.setL (x':=({ x4 with Locs:=y3}:aH)) X3 ag1 O2).2.2,(ok_Snaps.k.setL (x':=({ x4 with Locs:=y3}:aH)) X3 ag1 O2).2.1]; rfl)
 refine qJ (hr1.1.trans hj1.1) (⟨⟨λ_=>aO 2 hj1.2 rfl,λe=>absurd e (by decide),λ_=>aO 0 hj1.2 rfl,trivial⟩, ?_⟩)
 exact zX (qk (f:=GG 71 _ _ _ _ _ _ _ _ _ _ _ _ _ _ _ _ _ _) hj1.2 rfl (eH m ((⟨gS.a,gS.gs.set y2.toNat (some ag1)⟩:dI),gE) ⟨O3,oE⟩ (lx .nil)))
 refine vs (v0 (oG m (σ:=Int×(List aT)) (τ:=dI) (λg s=>([(some k5,.obj 81 (aN p2)),(some k2,.obj 38 (aI p1)),OC p0K s.1 gS.a gC.a g.a gV,bL gS p0.Snaps,aY gC p0.Chunks,bR g s.2,a8 gV p0.Vols]++((bO gS p0.Snaps)++((bB gC p0.Chunks)++(bS g s.2))))) (λg s=>nG aT.Locs 3 4 g (s.2:List aT)) (λg s=>.nil) (λx m=> ?_) ?_))
 refine v0 ?_
 apply vi m <;> intro c4 m
 refine vs (v0 (CD (by kernel_rfl) (lU rfl (dX eU rfl rfl (vl 2 (aZ gE.a) iG rfl rfl rfl (dX lR rfl rfl (vl 1 _ cB rfl rfl rfl ?_)))))))
 obtain⟨y4,Y4,m⟩:=aD m
 refine vn (λu=>bV (fH (.cons (Br.awN 5 f9 fC WF oE.k u rfl (WC [[_], [_], [_], [_], [_], [_], [_],_,_,_] rfl 9 rfl)) (.cons (Br.refl _ _) (.cons (Br.refl _ _) .nil))) rfl (aG8 _ aBB (λx0 _ o h0 hs ho=>aG7 _ ho) Y4)) rfl aBC rfl) (vs (vs (v0 (oG m (σ:=Int×(List aT)) (τ:=dI) (λg s=>([(some k5,.obj 81 (aN p2)),(some k2,.obj 38 (aI p1)),OC p0K s.1 gS.a gC.a g.a gV,bL gS p0.Snaps,aY gC p0.Chunks,bR g s.2,a8 gV p0.Vols]++((bO gS p0.Snaps)++((bB gC p0.Chunks)++(bS g s.2))))) (λg s=>nG aT.Locs 3 4 g (s.2:List aT)) (λg s=>.c 0 (.ptr p0K 0) (.c 5 (.ptr k5 0) (.c 10 (nZ y4.1) .nil))) (λx m=> ?_) ?_))))
 refine v0 ?_
 apply vi m <;> intro c5 m
 refine vs (v0 (vz [(15,some p0K,.obj 30 ([nZ p0.Seq,aZ gS.a,aZ gC.a,aZ gE.a,aZ gV])),(1000000,some k2,.obj 38 (aI p1))] mixed (λu=>⟨λ_=>aO 2 u rfl,λ_=>aO 1 u rfl,trivial⟩) λu=>zP 0 rfl rfl (zP 1 rfl rfl (zN 2 rfl rfl (zF 3 rfl eU rfl (zL 4 0 (aZ gE.a) rfl iG rfl rfl rfl (zI 5 rfl rfl (zF 6 rfl lR rfl (zL 7 1 (nZ p1.Seq) rfl cB rfl rfl rfl (zF 8 rfl xP rfl (zL 9 1 (nZ p1.Of) rfl cB rfl rfl rfl (zC 10 rfl (iN (y:=.agg (mV ((({ Seq:=p1.Seq,Of:=p1.Of,Locs:= []}:aT):aT),some g0))) (eI ([nZ p1.Seq,nZ p1.Of,sZ]) ZO rfl) (bD.agg (.k2 (.cons (fP _) .nil)))) (zC 11 rfl (eA (List.map mV [((({ Seq:=p1.Seq,Of:=p1.Of,Locs:= []}:aT):aT),some g0)]) o9 rfl rfl rfl rfl) ?_)))))))))))))
 obtain⟨y5,Y5,m⟩:=aD m
 refine zE 12 rfl ?_
 have ho5:=EQ (A:= [bR gE p0.Exps]) (R:=([(some k5,.obj 81 (aN p2)),(some k2,.obj 38 (aI p1)),OC p0K p0.Seq gS.a gC.a gE.a gV,bL gS p0.Snaps,aY gC p0.Chunks,a8 gV p0.Vols]++((bO gS p0.Snaps)++((bB gC p0.Chunks)++(bS gE p0.Exps))))) u [[_], [_], [_], [_], [_], [_], [_],_,_,_] rfl [5] [0,1,2,3,4,6,7,8,9] rfl rfl rfl
 refine fJ ho5.1 (dR (aHB tM _ oE.k.z ho5.2.2 (RM oE.k.len (some g0) Y5)) rfl aBG rfl ?_)
 rintro x h' ⟨ag2,O4,K7,rfl,rfl⟩
 have K8:=ER (L':=([(some k5,.obj 81 (aN p2)),(some k2,.obj 38 (aI p1)),(hO p0K p0.Seq gS.a gC.a gE.a gV),bL gS p0.Snaps,aY gC p0.Chunks,bR (⟨ag2,lJ gE.gs y4.1.toNat (some g0)⟩:dI) y5,a8 gV p0.Vols]++((bO gS p0.Snaps)++((bB gC p0.Chunks)++(bS gE p0.Exps))))) ho5.2.1 K7 [[_]] [[_], [_], [_], [_], [_], [_],_,_,_] rfl rfl [1,2,3,4,5,0,6,7,8,9] rfl rfl
 have K9:=RN (L':=([(some k5,.obj 81 (aN p2)),(some k2,.obj 38 (aI p1)),(hO p0K p0.Seq gS.a gC.a gE.a gV),bL gS p0.Snaps,aY gC p0.Chunks,bR (⟨ag2,lJ gE.gs y4.1.toNat (some g0)⟩:dI) y5,a8 gV p0.Vols]++((bO gS p0.Snaps)++((bB gC p0.Chunks)++(bS (⟨ag2,lJ gE.gs y4.1.toNat (some g0)⟩:dI) y5))))) K8.2 [[_], [_], [_], [_], [_], [_], [_],_,_,_] rfl 9 oE.k.len (og:=some g0) rfl Y5 rfl rfl
 refine qJ (K8.1.trans K9.1) (⟨⟨λ_=>aO 2 K9.2 rfl,λ_=>aO 1 K9.2 rfl,trivial⟩, ?_⟩)
 refine zN 13 rfl rfl (zF 14 rfl eU rfl (zE 15 rfl (aL 2 ([nZ p0.Seq,aZ gS.a,aZ gC.a,aw (⟨ag2,lJ gE.gs y4.1.toNat (some g0)⟩:dI).a.t (⟨ag2,lJ gE.gs y4.1.toNat (some g0)⟩:dI).a.n (⟨ag2,lJ gE.gs y4.1.toNat (some g0)⟩:dI).a.cap,aZ gV]) K9.2 rfl rfl (cM rfl) (cG (cC _ _ _) rfl) L6 rfl rfl λK10=>⟨⟨λe=>absurd e (by decide),λ_=>aO 1 K10 rfl,trivial⟩, ?_⟩)))
 refine zX (qk (f:=aEB 100 _ _ _ _ _ _ _ _ _ _ _ _ _ _ _ _) K10 rfl (v0 (vz [(11,some p0K,.obj 30 ([nZ p0.Seq,aZ gS.a,aZ gC.a,aw (⟨ag2,lJ gE.gs y4.1.toNat (some g0)⟩:dI).a.t (⟨ag2,lJ gE.gs y4.1.toNat (some g0)⟩:dI).a.n (⟨ag2,lJ gE.gs y4.1.toNat (some g0)⟩:dI).a.cap,aZ gV])),(1000000,some k2,.obj 38 (aI p1))] mixed (λu=>⟨λ_=>aO 2 u rfl,λ_=>aO 1 u rfl,trivial⟩) λu=>zP 0 rfl rfl (zP 1 rfl rfl (zN 2 rfl rfl (zF 3 rfl rB rfl (zL 4 0 (nZ p0.Seq) rfl cB rfl rfl rfl (zF 5 rfl lR rfl (zL 6 1 (nZ p1.Seq) rfl cB rfl rfl rfl (zC 7 rfl (mN rfl rfl rfl trivial) (zC 8 rfl (YN rfl rfl) (zN 9 rfl rfl (zF 10 rfl rB rfl (zE 11 rfl (aL 2 ([nZ (max p0.Seq (IntKind.wrap .i64 (p1.Seq+1))),aZ gS.a,aZ gC.a,aw (⟨ag2,lJ gE.gs y4.1.toNat (some g0)⟩:dI).a.t (⟨ag2,lJ gE.gs y4.1.toNat (some g0)⟩:dI).a.n (⟨ag2,lJ gE.gs y4.1.toNat (some g0)⟩:dI).a.cap,aZ gV]) u rfl rfl rfl rfl AT rfl rfl λK11=>⟨⟨λe=>absurd e (by decide),λ_=>aO 1 K11 rfl,trivial⟩, ?_⟩)))))))))))))))
 exact zX (qk (f:=UT 111 _ _ _ _ _ _ _ _ _ _ _ _) K11 rfl (eH m (⟨ag2,lJ gE.gs y4.1.toNat (some g0)⟩:dI) (oE.ins Y5 rfl O4) (lx (.k3 .nil))))
 exact v0 (eH m gE oE (lx (.k3 .nil)))
 rintro ng0 ⟨j0,j1⟩ O5 m
 refine v0 (vz [(1000000,some p0K,.obj 30 ([nZ j0,aZ gS.a,aZ gC.a,aZ ng0.a,aZ gV])),(17,ng0.a.t,.obj 99 (fl mV (zg (j1:List aT) ng0.gs) ng0.a.sp)),(1000000,some k5,.obj 81 (aN p2))] mixed (λu=>⟨λ_=>aO 2 u rfl,λ_=>aO 5 u rfl,λ_=>aO 0 u rfl,trivial⟩) λu=>zP 0 rfl rfl (zN 1 rfl rfl (zF 2 rfl eU rfl (zL 3 0 (aZ ng0.a) rfl iG rfl rfl rfl (zI 4 rfl rfl (zP 5 rfl rfl (zN 6 rfl rfl (zF 7 rfl eU rfl (zL 8 0 (aZ ng0.a) rfl iG rfl rfl rfl (zI 9 rfl rfl ?_))))))))))
 obtain⟨x5,X4,m⟩:=aD m
 refine zC 10 rfl (dF (O5.k.ix X4) iR O5.k.z rfl rfl) (zC 11 rfl (cW (bK.ne O5.k.z (O5.k.ix X4)) mR rfl rfl) ?_)
 obtain⟨gv2,hg2,ga2,gn2⟩:=O5.gx X4
 refine zO 12 rfl (λ_ _ hi hB=>iN (eJ (fo:=2) (awO aN 4 (gx ng0.gs y4.1.toNat) x5.Locs) (O5.k.ix X4) tM O5.k.z fT rfl (fS.get 1 hi rfl (hB 17 (by kernel_rfl))) (λ_=>rfl)) (bD.of_eq (congrArg (λz=>awO aN 4 z x5.Locs) hg2))) (zL 13 2 (.agg (aN p2)) rfl m9 rfl rfl rfl ?_)
 obtain⟨y6,Y6,m⟩:=aD m
 refine zE 14 rfl ?_
 have ho6:=CK (R:=([(some k5,.obj 81 (aN p2)),(some k2,.obj 38 (aI p1)),OC p0K j0 gS.a gC.a ng0.a gV,bL gS p0.Snaps,aY gC p0.Chunks,bR ng0 j1,a8 gV p0.Vols]++((bO gS p0.Snaps)++((bB gC p0.Chunks)++(lG 81 aN ((nl aT.Locs (zg (j1:List aT) ng0.gs)).eraseIdx y4.1.toNat)))))) u [[_], [_], [_], [_], [_], [_], [_],_,_,_] rfl 9 rfl gn2 rfl
 have ho7:=dJ [(eC gv2 x5.Locs)] _ ho6.2
 refine fJ (ho6.1.trans (dO h [(eC gv2 x5.Locs)] _).symm) (dR (NV _ ga2 ho7.2 Y6) rfl NW rfl ?_)
 rintro x h' ⟨ag3,O6,K12,rfl,rfl⟩
 refine qJ (dO h [jZ ag3 y6] _) (⟨⟨λ_=>aO 3 (dZ ho7.1 K12) rfl,λ_=>aO 6 (dZ ho7.1 K12) rfl,λ_=>aO 1 (dZ ho7.1 K12) rfl,trivial⟩, ?_⟩)
 obtain⟨x6,X5,m⟩:=aD m
 refine zC 15 rfl (dF (O5.k.ix X5) iR O5.k.z rfl rfl) (zC 16 rfl (cW (bK.ne O5.k.z (O5.k.ix X5)) mR rfl rfl) (zE 17 rfl (cX (fo:=2) (x':=(({ x6 with Locs:=y6}:aT),some ag3)) 6 (dZ ho7.1 K12) (O5.k.ix X5) tM O5.k.z rfl rfl (cM rfl) (cG (cC _ _ _) rfl) (cS.refl _ _) pO rfl rfl ?_)))
 intro K13
 have O7:=O5.setL (x':=({ x6 with Locs:=y6}:aT)) X5 ag3 O6
 have hr2:=A3 (L':=(eC ag3 y6)::(([(some k5,.obj 81 (aN p2)),(some k2,.obj 38 (aI p1)),OC p0K j0 gS.a gC.a ng0.a gV,bL gS p0.Snaps,aY gC p0.Chunks,(ng0.a.t,.obj 99 (fl mV (((zg (j1:List aT) ng0.gs)).set y4.1.toNat (({ x6 with Locs:=y6}:aT),some ag3)) ng0.a.sp)),a8 gV p0.Vols]:HL)++((bO gS p0.Snaps)++((bB gC p0.Chunks)++(lG 81 aN ((nl aT.Locs (zg (j1:List aT) ng0.gs)).eraseIdx y4.1.toNat)))))) K13 [[_], [_], [_], [_], [_], [_], [_], [_],_,_,_] rfl [0,1,2,3,4,5,6,7,8,9,10] rfl rfl
 have hj2:=vM (L':=([(some k5,.obj 81 (aN p2)),(some k2,.obj 38 (aI p1)),OC p0K j0 gS.a gC.a ((⟨ng0.a,ng0.gs.set y4.1.toNat (some ag3)⟩:dI).a) gV,bL gS p0.Snaps,aY gC p0.Chunks,bR (⟨ng0.a,ng0.gs.set y4.1.toNat (some ag3)⟩:dI) (j1.set y4.1.toNat ({ x6 with Locs:=y6})),a8 gV p0.Vols]++((bO gS p0.Snaps)++((bB gC p0.Chunks)++(bS (⟨ng0.a,ng0.gs.set y4.1.toNat (some ag3)⟩:dI) (j1.set y4.1.toNat ({ x6 with Locs:=y6}))))))) [[_], [_], [_], [_], [_], [_], [_],_,_,_] rfl 9 (zs:=nl aT.Locs (zg (j1:List aT) ng0.gs)) (j:=y4.1.toNat) (aT.Locs ({ x6 with Locs:=y6}:aT),some ag3) (mH (O5.k.nlat X5)) rfl hr2.2 (by rw[← (O5.k.setL (x':=({ x6 with Locs:=y6}:aT)) X5 ag3 O6).2.2,(O5.k.setL (x':=({ x6 with Locs:=y6}:aT)) X5 ag3 O6).2.1]; rfl)
 refine qJ (hr2.1.trans hj2.1) (⟨⟨λ_=>aO 2 hj2.2 rfl,λe=>absurd e (by decide),λ_=>aO 0 hj2.2 rfl,trivial⟩, ?_⟩)
 exact zX (qk (f:=GG 128 _ _ _ _ _ _ _ _ _ _ _ _ _ _ _ _ _ _) hj2.2 rfl (eH m (⟨ng0.a,ng0.gs.set y4.1.toNat (some ag3)⟩:dI) O7 (lx .nil)))
 exact v0 (eH m gE oE (lx .nil))
 rintro ng1 ⟨j2,j3⟩ O8 m
 exact eH m (gS,ng1) ⟨ok_Snaps,O8⟩ (lx .nil)
 rintro⟨ng2,ng3⟩ ⟨j4,j5,j6⟩ ⟨O9,O10⟩ m
 exact eH m (ng2,gC,ng3) ⟨O9,oC,O10⟩ (lx .nil)
 rintro⟨ng4,ng5,ng6⟩ ⟨j7,j8,j9,j10⟩ ⟨O11,O12,O13⟩ m
 refine vs (v0 (v0 ?_))
 cases m
 exact vr λu=>dW.of1 (.inl rfl) (gN _ _ (.sc (.int _ _)) rfl) (tJ (L':=([OC p0K j7 ng4.a ng5.a ng6.a gV,bL ng4 j8,aY ng5 j9,bR ng6 j10,a8 gV p0.Vols]++((bO ng4 j8)++((bB ng5 j9)++(bS ng6 j10))))) u [[_], [_], [_], [_], [_], [_], [_],_,_,_] rfl [2,3,4,5,6,7,8,9] rfl rfl).2 (bD.refl _ _) ⟨ng4,O11,ng5,O12,ng6,O13,(tJ (L':=([OC p0K j7 ng4.a ng5.a ng6.a gV,bL ng4 j8,aY ng5 j9,bR ng6 j10,a8 gV p0.Vols]++((bO ng4 j8)++((bB ng5 j9)++(bS ng6 j10))))) u [[_], [_], [_], [_], [_], [_], [_],_,_,_] rfl [2,3,4,5,6,7,8,9] rfl rfl).1,rfl,rfl⟩
theorem aBH:aP Tryz.prog 123=true:=by kernel_rfl
open Go.Vm
def J7 (m:Nat) (p0:aE):Option (Bool):=
 after (if (decide (p0.Kind < 1))=true then (some (.brk true)) else some (.brk (decide (3 < p0.Kind))):Option (Lp (Bool) (Bool))) λj7=>some j7
theorem aHD {u:Nat} {p0:aE} {o:Bool} (h:aF) (m:J7 u p0=some o):
 aM Tryz.prog 122 [.agg (aI p0)] h (λr h'=>r= .sc (.bool o)∧h'=h):=by
 refine fK 11 [.tmp 2] Tryz.func122 rfl rfl rfl rfl ?_
 unfold J7 at m
 refine v (gX rfl rfl λk2 K3=>vs (fN m (σ:=Bool) (λs=> [(some k2,.obj 38 (aI p0))]) (λs=>.c 2 (.sc (.bool s)) .nil) (λx m=> ?_) ?_))
 refine v (vl 0 _ cB rfl rfl rfl ?_)
 apply vi m <;> intro b8 m
 rw[b8]
 exact nX m
 rw[b8]
 exact vl 0 _ cB rfl rfl rfl (nX m)
 rintro _ j7 m
 refine v ?_
 obtain rfl:=eP m
 exact eF rfl
theorem aBI:aP Tryz.prog 122=true:=by kernel_rfl
def tP (m:Nat) (p0:List aE) (p1:aE→Option Bool) (q0:Int):Option (Lp (Int) (Int)):=
 if (decide (q0 < (p0.length:Int)))=true then ((ix p0 q0).bind λx0=>(p1 x0).bind λy0=>if y0=true then (some (.ret q0)) else some (.go (IntKind.wrap .i64 (q0+1)))) else some (.brk q0)
def NX (m:Nat) (p0:List aE) (p1:aE→Option Bool):Option (Int):=
 after (aS (λs=>tP m p0 p1 s) m 0) λr0=>some (-1)
theorem aHE {w:Nat} {p0:List aE} {p1:aE→Option Bool} {o:Int} (h:aF) {p1F:Nat} {p1C:List AV} (p1B:aP Tryz.prog p1F=true) (p1H:∀x0 o h0,iE h h0→p1 x0=some o→aM Tryz.prog p1F ([.agg (aI x0)]++p1C) h0 (λr h'=>r= .sc (.bool o)∧h'=h0)) (m:NX w p0 p1=some o):
 aM Tryz.prog 175 [.sl none 37 (List.map aI p0),.fn (.func p1F) p1C] h (λr h'=>r=nZ o∧h'=h):=by
 refine fK 19 [.tmp 4] Tryz.func175 rfl rfl rfl rfl ?_
 unfold NX at m
 refine v (v (dH l4 rfl (jP m (σ:=Int) (λs=> []) (λs=>.c 0 (.sl none 37 (List.map aI p0)) (.c 1 (.fn (.func p1F) p1C) (.c 7 (nZ (p0.length:Int)) (.c 8 (nZ s) .nil)))) (lx (.k4 .nil)) ?_ ?_)))
 rintro _ q0 x m
 replace m:tP w p0 p1 q0=some x:=m
 unfold tP at m
 refine v (v ?_)
 apply vi m <;> intro c0 m
 refine v (v (v (v (vx m nO rfl rfl λx1 _ m=>va (.agg (aI x1)) B6 rfl rfl ?_))))
 obtain⟨_,Y0,m⟩:=aD m
 refine vn (λu=>bV (p1H _ _ _ (aU (List.nil_sublist _) u).1 Y0) rfl p1B rfl) (v ?_)
 apply vi m <;> intro c1 m
 refine v (v (fZ m λm=> ?_))
 obtain rfl:=eP m
 exact eF rfl
 exact v (v (fY m))
 exact v (wE m)
 rintro _ r0 m
 refine v (v ?_)
 cases m
 exact eF rfl
theorem aBJ:aP Tryz.prog 175=true:=by kernel_rfl
def NY (m:Nat) (p0:List aE) (p1:aE→Option Bool):Option (Bool):=
 (NX m p0 p1).bind λy3=>some (decide (0≤y3))
theorem aHF {w:Nat} {p0:List aE} {p1:aE→Option Bool} {o:Bool} (h:aF) {p1F:Nat} {p1C:List AV} (p1B:aP Tryz.prog p1F=true) (p1H:∀x0 o h0,iE h h0→p1 x0=some o→aM Tryz.prog p1F ([.agg (aI x0)]++p1C) h0 (λr h'=>r= .sc (.bool o)∧h'=h0)) (m:NY w p0 p1=some o):
 aM Tryz.prog 121 [.sl none 37 (List.map aI p0),.fn (.func p1F) p1C] h (λr h'=>r= .sc (.bool o)∧h'=h):=by
 refine fK 9 [.tmp 4] Tryz.func121 rfl rfl rfl rfl ?_
 unfold NY at m
 refine v (v ?_)
 obtain⟨_,Y4,m⟩:=aD m
 refine vn (λu=>bV (aHE _ p1B (λx0 o h0 hs ho=>p1H x0 o h0 ((aU (List.nil_sublist _) u).1.trans hs) ho) Y4) rfl aBJ rfl) (v ?_)
 cases m
 exact eF rfl
theorem aBK:aP Tryz.prog 121=true:=by kernel_rfl
def RO (m:Nat) (p0:aH) (c0:List Int):Option (Bool):=
 some ((c0:List Int).any λz=>p0.Seq==z)
theorem aHG {w:Nat} {p0:aH} {c0:List Int} {o:Bool} (h:aF) {c0K c0M:bT} (c0H:h c0K=some (.obj 161 [.mpv c0M])) (c0G:h c0M=some (.mp (fW kI (c0:List Int)))) (m:RO w p0 c0=some o):
 aM Tryz.prog 125 [.agg (bJ p0),.ptr c0K 0] h (λr h'=>r= .sc (.bool o)∧h'=h):=by
 refine fK 8 [.tmp 3] Tryz.func125 rfl rfl rfl rfl ?_
 unfold RO at m
 refine v (gX rfl rfl λk2 K3=>v (vn (λu=>gK (.mpv c0M) TF rfl (gM u c0H) rfl) (vl 0 _ cB rfl rfl rfl (vn (λu=>F6 TG zb4 (xJ.int u3) rfl rfl (gM u c0G)) (v ?_)))))
 cases m
 exact eF rfl
theorem aBL:aP Tryz.prog 125=true:=by kernel_rfl
def n6 (m:Nat) (p1:aH→Option Bool) (q0:List aH) (q1:Int) (q2:Int):Option (Lp ((List aH)×Int×Int) ((List aH))):=
 if (decide (q2 < (q0.length:Int)))=true then ((ix q0 q2).bind λx0=>(p1 x0).bind λy0=>after (if (!y0)=true then ((ix q0 q1).bind λ_=>some (.brk (q0.set q1.toNat (x0),IntKind.wrap .i64 (q1+1)))) else some (.brk (q0,q1)):Option (Lp ((List aH)×Int) (Lp ((List aH)×Int×Int) ((List aH))))) λ⟨j0,j1⟩=>some (.go (j0,j1,IntKind.wrap .i64 (q2+1)))) else some (.brk (q0,q1,q2))
def EX (m:Nat) (p0:List aH) (p1:aH→Option Bool):Option ((List aH)):=
 (EW m p0 p1).bind λy3=>if (y3==(-1))=true then (some p0) else after (aS (λs=>n6 m p1 s.1 s.2.1 s.2.2) m (p0,y3,IntKind.wrap .i64 (y3+1))) λ⟨r0,r1,r2⟩=>grd (decide (0≤r1) && decide (r1 < (r0.length:Int))) <| grd (decide (0≤r1) && decide (r1≤(r0.length:Int))) <| some (r0.take r1.toNat)
theorem aBM {w:Nat} {p0:List aH} {p1:aH→Option Bool} {o:(List aH)} (h:aF) {g_p0:dD} (ok_p0:bK g_p0 4 p0.length) (K0:bP h [(dE g_p0 p0)]) {p1F:Nat} {p1C:List AV} (p1B:aP Tryz.prog p1F=true) (p1H:∀x0 o h0,iE h h0→p1 x0=some o→aM Tryz.prog p1F ([.agg (bJ x0)]++p1C) h0 (λr h'=>r= .sc (.bool o)∧h'=h0)) (m:EX w p0 p1=some o):
 aM Tryz.prog 124 [aZ g_p0,.fn (.func p1F) p1C] (hp h [(dE g_p0 p0)]) (λr h'=>∃g:dD,bK g 4 o.length∧bP h [(g.t,.obj 60 (fl bJ o g.sp))]∧r=aZ g∧h'=hp h [(g.t,.obj 60 (fl bJ o g.sp))]):=by
 refine FQ K0 42 [.tmp 4] Tryz.func124 rfl rfl rfl rfl ?_
 unfold EX at m
 refine vs (v0 (vs (v0 ?_)))
 obtain⟨_,Y4,m⟩:=aD m
 refine ve λu=>fJ ((bM u [0] rfl rfl).1.trans (dO h [(dE g_p0 p0)] []).symm) (dR (aBD (hp h []) ok_p0 (dJ [(dE g_p0 p0)] [] (bM u [0] rfl rfl).2).2 p1B (λx0 o h0 hs ho=>p1H x0 o h0 ((aU (List.nil_sublist _) (dJ [(dE g_p0 p0)] [] (bM u [0] rfl rfl).2).1).1.trans hs) ho) Y4) rfl MU rfl ?_)
 rintro x h' ⟨rfl,rfl⟩
 refine qk u ((dO h [(dE g_p0 p0)] []).trans (bM u [0] rfl rfl).1.symm) (vs (vs (v0 (v0 ?_))))
 apply vi m <;> intro c7 m
 refine vs (v0 (v0 ?_))
 obtain rfl:=eP m
 exact vr λu=>dW.one (.inl rfl) (aU (h0:=h) (L':= [(dE g_p0 p0)]) (.refl _) u).1 (bD.refl _ _) ⟨g_p0,ok_p0,(aU (h0:=h) (L':= [(dE g_p0 p0)]) (.refl _) u).2,rfl,rfl⟩
 refine v0 (vs (vs (v0 (nW m (σ:=(List aH)×Int×Int) (τ:=dD) (λg s=> [(dE g s.1)]) (λg s=>bK g 4 (s.1:List aH).length) (λg s=>.c 0 (aZ g) (.c 1 (.fn (.func p1F) p1C) (.c 5 (nZ s.2.1) (.c 6 (nZ s.2.2) .nil)))) g_p0 ok_p0 (lx (.k4 .nil)) ?_ ?_))))
 rintro ag0 ⟨q0,q1,q2⟩ x O0 m
 replace m:n6 w p1 q0 q1 q2=some x:=m
 unfold n6 at m
 refine vs (vs (v0 (bU (fB kZ O0 rfl) (v0 ?_))))
 apply vi m <;> intro c0 m
 refine v0 (vs (v0 (vs (v0 ?_))))
 obtain⟨x1,X0,m⟩:=aD m
 refine bU (dF X0 jL O0 rfl rfl) (vn (λu=>eJ (fo:=0) (.agg (bJ x1)) X0 eM O0 sN rfl (aO 0 u rfl) (λ_=>rfl)) (ve λu=>bG (XF) u xS rfl rfl λk86 K1=>qk K1 rfl (ve λu=>aL 0 (bJ x1) u rfl rfl rfl rfl GP rfl rfl λK2=>qk K2 rfl (vs (v0 (vl 0 (.agg (bJ x1)) sN rfl rfl rfl ?_))))))
 obtain⟨_,Y0,m⟩:=aD m
 refine vn (λu=>bV (p1H _ _ _ (aU (List.nil_sublist _) u).1 Y0) rfl p1B rfl) (oG m (σ:=(List aH)×Int) (τ:=dD) (λg s=> [(some k86,.obj 60 (bJ x1)),(dE g s.1)]) (λg s=>bK g 4 (s.1:List aH).length) (λg s=>.c 0 (aZ g) (.c 1 (.fn (.func p1F) p1C) (.c 5 (nZ s.2) (.c 6 (nZ q2) .nil)))) (λx m=> ?_) ?_)
 refine v0 ?_
 apply vi m <;> intro c1 m
 refine vs (v0 (vl 0 (.agg (bJ x1)) sN rfl rfl rfl ?_))
 obtain⟨_,X1,m⟩:=aD m
 exact bU (dF X1 jL O0 rfl rfl) (ve λu=>cX (fo:=0) (x1:aH) 1 u X1 eM O0 rfl rfl rfl rfl (cS.refl _ _) GP rfl rfl λK3=>qk K3 rfl (v0 (eH m ag0 (bK.set O0) (lx (.k4 .nil)))))
 exact v0 (eH m ag0 O0 (lx (.k4 .nil)))
 rintro ag1 ⟨j0,j1⟩ O1 m
 exact v0 (eH m ag1 O1 (mE [1] rfl rfl (.k4 .nil)))
 exact v0 (lN m ag0 O0 (lx (.k4 .nil)))
 rintro ag2 ⟨r0,r1,r2⟩ t0 m
 refine vs (v0 ?_)
 obtain⟨Z0,m⟩:=pJ m
 refine bU (LZ Z0 jL t0 rfl rfl) (ve λu=>TB 0 u Z0 eM t0 u25 xS rfl rfl rfl rfl λsp0 O2 K4=>qk K4 rfl (vs (v0 ?_)))
 obtain⟨Z1,m⟩:=pJ m
 refine bU (L2 Z1 t0 jL rfl rfl) (v0 ?_)
 cases m
 exact vr λu=>dW.one (.inl rfl) (aU (h0:=h) (L':= [((⟨ag2.t,r1.toNat,ag2.cap,sp0⟩:dD).t,.obj 60 (fl bJ (r0.take r1.toNat:List aH) (⟨ag2.t,r1.toNat,ag2.cap,sp0⟩:dD).sp))]) (.refl _) u).1 (bD.refl _ _) ⟨(⟨ag2.t,r1.toNat,ag2.cap,sp0⟩:dD),O2,(aU (h0:=h) (L':= [((⟨ag2.t,r1.toNat,ag2.cap,sp0⟩:dD).t,.obj 60 (fl bJ (r0.take r1.toNat:List aH) (⟨ag2.t,r1.toNat,ag2.cap,sp0⟩:dD).sp))]) (.refl _) u).2,rfl,rfl⟩
theorem aBN:aP Tryz.prog 124=true:=by kernel_rfl
def oQ (m:Nat) (p0:aA) (p1:aV) (x0:aQ) (q0:List Int) (q1:Int) (q2:List aH) (q3:List aB) (q4:List aT) (q5:Int):Option (Lp ((List Int)×Int×(List aH)×(List aB)×(List aT)×Int) (Int×Int×fE)):=
 if (decide (q5 < (p1.Items.length:Int)))=true then ((ix p1.Items q5).bind λx1=>(G5 m ({ Seq:=q1,Snaps:=q2,Chunks:=q3,Exps:=q4,Vols:=(p0.Vols.set p1.Vol.toNat ({ x0 with State:=2})).set p1.Vol.toNat ({ ({ x0 with State:=2}:aQ) with Files:=IntKind.wrap .i64 ((({ x0 with State:=2}:aQ).Files)+1)})}:aA) x1 ({ Vol:=p1.Vol,File:=({ ({ x0 with State:=2}:aQ) with Files:=IntKind.wrap .i64 ((({ x0 with State:=2}:aQ).Files)+1)}:aQ).Files,Off:=x1.Off,Len:=x1.Len}:aR)).bind λy0=>if (y0.1 !=0)=true then (some (.ret (y0.1,y0.2.1,y0.2.2.1,y0.2.2.2.1,y0.2.2.2.2,(p0.Vols.set p1.Vol.toNat ({ x0 with State:=2})).set p1.Vol.toNat ({ ({ x0 with State:=2}:aQ) with Files:=IntKind.wrap .i64 ((({ x0 with State:=2}:aQ).Files)+1)})))) else after (if (x1.Kind==3)=true then (some (.brk (lY (q0:List Int) x1.Of))) else some (.brk q0):Option (Lp ((List Int)) (Lp ((List Int)×Int×(List aH)×(List aB)×(List aT)×Int) (Int×Int×fE)))) λj0=>(xY m y0.2.2.2.1 x1.Id).bind λy1=>after (if (x1.Kind==1)=true then (if y1.2=true then (some (.brk ((({ ({ x0 with State:=2}:aQ) with Files:=IntKind.wrap .i64 ((({ x0 with State:=2}:aQ).Files)+1)}:aQ).Pool)==0))) else some (.brk false)) else some (.brk false):Option (Lp (Bool) (Lp ((List Int)×Int×(List aH)×(List aB)×(List aT)×Int) (Int×Int×fE)))) λj1=>after (if j1=true then ((ix y0.2.2.2.1 y1.1).bind λx2=>(ix (y0.2.2.2.1.set y1.1.toNat ({ x2 with Staged:=false})) y1.1).bind λx3=>some (.brk ((y0.2.2.2.1.set y1.1.toNat ({ x2 with Staged:=false})).set y1.1.toNat ({ x3 with Data:=([]:List Int)})))) else some (.brk y0.2.2.2.1):Option (Lp ((List aB)) (Lp ((List Int)×Int×(List aH)×(List aB)×(List aT)×Int) (Int×Int×fE)))) λj2=>some (.go (j0,y0.2.1,y0.2.2.1,j2,y0.2.2.2.2,IntKind.wrap .i64 (q5+1)))) else some (.brk (q0,q1,q2,q3,q4,q5))
def XP (m:Nat) (p0:aA) (p1:aV):Option (Int×Int×fE):=
 (NY m p1.Items (λx0=>J7 m x0)).bind λy6=>after (if (decide (p1.Vol < 0))=true then (some (.brk true)) else if (decide ((p0.Vols.length:Int)≤p1.Vol))=true then (some (.brk true)) else (ix p0.Vols p1.Vol).bind λx1=>if (x1.State==3)=true then (some (.brk true)) else if (decide ((p1.Items.length:Int) < 1))=true then (some (.brk true)) else if (decide (64 < (p1.Items.length:Int)))=true then (some (.brk true)) else some (.brk (!(!y6))):Option (Lp (Bool) (Int×Int×fE))) λj0=>if j0=true then (some (1,p0.Seq,p0.Snaps,p0.Chunks,p0.Exps,p0.Vols)) else (ix p0.Vols p1.Vol).bind λx2=>after (aS (λs=>oQ m p0 p1 x2 s.1 s.2.1 s.2.2.1 s.2.2.2.1 s.2.2.2.2.1 s.2.2.2.2.2) m ([],p0.Seq,p0.Snaps,p0.Chunks,p0.Exps,0)) λ⟨r0,r1,r2,r3,r4,r5⟩=>(EX m r2 (λx0=>RO m x0 (r0:List Int))).bind λy0=>after (if (decide ((y0.length:Int) < (r2.length:Int)))=true then ((J6 m ({ Seq:=r1,Snaps:=y0,Chunks:=r3,Exps:=r4,Vols:=(p0.Vols.set p1.Vol.toNat ({ x2 with State:=2})).set p1.Vol.toNat ({ ({ x2 with State:=2}:aQ) with Files:=IntKind.wrap .i64 ((({ x2 with State:=2}:aQ).Files)+1)})}:aA)).bind λy1=>some (.brk y1)) else some (.brk r3):Option (Lp ((List aB)) (Int×Int×fE))) λj1=>some (0,r1,y0,j1,r4,(p0.Vols.set p1.Vol.toNat ({ x2 with State:=2})).set p1.Vol.toNat ({ ({ x2 with State:=2}:aQ) with Files:=IntKind.wrap .i64 ((({ x2 with State:=2}:aQ).Files)+1)}))
theorem W74 {w:Nat} {p0:aA} {p1:aV} {o:Int×Int×fE} (h:aF) {p0K:bT} {gS:dI} (ok_Snaps:nG aH.Locs 4 4 gS (p0.Snaps:List aH)) {gC:dI} (oC:nG aB.Locs 35 4 gC (p0.Chunks:List aB)) {gE:dI} (oE:nG aT.Locs 3 4 gE (p0.Exps:List aT)) {gV:dD} (oV:bK gV 4 p0.Vols.length) (K0:bP h ([OC p0K p0.Seq gS.a gC.a gE.a gV,bL gS p0.Snaps,aY gC p0.Chunks,bR gE p0.Exps,a8 gV p0.Vols]++((bO gS p0.Snaps)++((bB gC p0.Chunks)++(bS gE p0.Exps))))) (m:XP w p0 p1=some o):
 aM Tryz.prog 74 [.ptr p0K 0,.agg (aJ p1)] (hp h ([OC p0K p0.Seq gS.a gC.a gE.a gV,bL gS p0.Snaps,aY gC p0.Chunks,bR gE p0.Exps,a8 gV p0.Vols]++((bO gS p0.Snaps)++((bB gC p0.Chunks)++(bS gE p0.Exps))))) (λr h'=>∃g_Snaps':dD,bK g_Snaps' 4 (o.2.2.1:List aH).length∧∃g_Chunks':dD,bK g_Chunks' 35 (o.2.2.2.1:List aB).length∧∃g_Exps':dD,bK g_Exps' 3 (o.2.2.2.2.1:List aT).length∧∃g_Vols':dD,bK g_Vols' 4 (o.2.2.2.2.2:List aQ).length∧bP h [OC p0K o.2.1 g_Snaps' g_Chunks' g_Exps' g_Vols',cP g_Snaps' o.2.2.1,cD g_Chunks' o.2.2.2.1,eO g_Exps' o.2.2.2.2.1,a8 g_Vols' o.2.2.2.2.2]∧r=nZ o.1∧h'=hp h [OC p0K o.2.1 g_Snaps' g_Chunks' g_Exps' g_Vols',cP g_Snaps' o.2.2.1,cD g_Chunks' o.2.2.2.1,eO g_Exps' o.2.2.2.2.1,a8 g_Vols' o.2.2.2.2.2]):=by
 refine FQ K0 168 [.tmp 4] Tryz.func74 rfl rfl rfl rfl ?_
 unfold XP at m
 refine vs (v0 (gX rfl rfl λk2 K3=>vs (v0 (dX gR rfl rfl (vl 0 _ l6 rfl rfl rfl ?_)))))
 obtain⟨_,Y7,m⟩:=aD m
 refine bU (bV (aHF _ aBI (λx0 o h0 hs ho=>aHD _ ho) Y7) rfl aBK rfl) (vs (vs (fN m (σ:=Bool) (λs=>([(some k2,.obj 62 (aJ p1)),OC p0K p0.Seq gS.a gC.a gE.a gV,bL gS p0.Snaps,aY gC p0.Chunks,bR gE p0.Exps,a8 gV p0.Vols]++((bO gS p0.Snaps)++((bB gC p0.Chunks)++(bS gE p0.Exps))))) (λs=>.c 0 (.ptr p0K 0) (.c 3 (.ptr k2 0) (.c 58 (.sc (.bool s)) .nil))) (λx m=> ?_) ?_)))
 refine v0 (CD (by kernel_rfl) (dX iX rfl rfl (vl 0 _ cB rfl rfl rfl ?_)))
 apply vi m <;> intro b0 m
 rw[b0]
 exact gD m
 rw[b0]
 refine dX iX rfl rfl (vl 0 _ cB rfl rfl rfl (lU rfl (dX iW rfl rfl (vl 1 (aZ gV) iH rfl rfl rfl (bU (fB qK oV rfl) ?_)))))
 apply vi m <;> intro b1 m
 rw[b1]
 exact gD m
 rw[b1]
 refine lU rfl (dX iW rfl rfl (vl 1 (aZ gV) iH rfl rfl rfl (dX iX rfl rfl (vl 0 _ cB rfl rfl rfl ?_))))
 obtain⟨x1,X0,m⟩:=aD m
 refine bU (dF X0 lZ oV rfl rfl) (bU (cW (bK.ne oV X0) rD rfl rfl) (vn (λu=>eJ (fo:=2) (nZ x1.State) X0 eT oV cB rfl (aO 5 u rfl) (λ_=>rfl)) ?_))
 apply vi m <;> intro b2 m
 rw[b2]
 exact gD m
 rw[b2]
 refine dX gR rfl rfl (vl 0 _ l6 rfl rfl rfl (dH l4 rfl ?_))
 apply vi m <;> intro b3 m
 rw[b3]
 exact gD m
 rw[b3]
 refine dX gR rfl rfl (vl 0 _ l6 rfl rfl rfl (dH l4 rfl ?_))
 apply vi m <;> intro b4 m
 rw[b4]
 exact gD m
 rw[b4]
 exact gD m
 rintro _ j0 m
 refine v0 ?_
 apply vi m <;> intro c0 m
 refine vs (v0 (v0 ?_))
 cases m
 exact J4 (KT (L':=([(some k2,.obj 62 (aJ p1)),OC p0K p0.Seq gS.a gC.a gE.a gV,cP gS.a p0.Snaps,aY gC p0.Chunks,bR gE p0.Exps,a8 gV p0.Vols]++((bB gC p0.Chunks)++(bS gE p0.Exps)))) [[_], [_], [_], [_], [_], [_],_,_,_] rfl 2 6 fC wP ok_Snaps.k rfl rfl (by decide) rfl) (J4 (KT (L':=([(some k2,.obj 62 (aJ p1)),OC p0K p0.Seq gS.a gC.a gE.a gV,cP gS.a p0.Snaps,cD gC.a p0.Chunks,bR gE p0.Exps,a8 gV p0.Vols]++(bS gE p0.Exps))) [[_], [_], [_], [_], [_], [_],_,_] rfl 3 6 fC tL oC.k rfl rfl (by decide) rfl) (J4 (KT (L':= [(some k2,.obj 62 (aJ p1)),OC p0K p0.Seq gS.a gC.a gE.a gV,cP gS.a p0.Snaps,cD gC.a p0.Chunks,eO gE.a p0.Exps,a8 gV p0.Vols]) [[_], [_], [_], [_], [_], [_],_] rfl 4 6 fC CM oE.k rfl rfl (by decide) rfl) (vr λu=>dW.of1 (.inl rfl) (gN _ _ (.sc (.int _ _)) rfl) (bQ u [1,2,3,4,5] rfl).2 (bD.refl _ _) ⟨gS.a,ok_Snaps.k.a,gC.a,oC.k.a,gE.a,oE.k.a,gV,oV,(bQ u [1,2,3,4,5] rfl).1,rfl,rfl⟩)))
 refine v0 (vs (v0 (CD (by kernel_rfl) (lU rfl (dX iW rfl rfl (vl 1 (aZ gV) iH rfl rfl rfl (dX iX rfl rfl (vl 0 _ cB rfl rfl rfl ?_))))))))
 obtain⟨x2,X1,m⟩:=aD m
 refine bU (dF X1 lZ oV rfl rfl) (vs (v0 (bU (iV (bK.ne oV X1) rfl) (bU (cW (bK.ne oV X1) rD rfl rfl) (ve λu=>cX (fo:=2) ({ x2 with State:=2}:aQ) 5 u X1 eT oV rfl rfl rfl rfl (cS.refl _ _) AT rfl rfl λK1=>qk K1 rfl (vs (v0 (bU (iV (bK.ne (bK.set oV) (cR (x':=({ x2 with State:=2}:aQ)) X1)) rfl) (bU (cW (bK.ne (bK.set oV) (cR (x':=({ x2 with State:=2}:aQ)) X1)) rE rfl rfl) (vn (λu=>eJ (fo:=3) (nZ (({ x2 with State:=2}:aQ).Files)) (cR (x':=({ x2 with State:=2}:aQ)) X1) eT (bK.set oV) cB rfl (aO 5 u rfl) (λ_=>rfl)) (bU (iV (bK.ne (bK.set oV) (cR (x':=({ x2 with State:=2}:aQ)) X1)) rfl) (bU (cW (bK.ne (bK.set oV) (cR (x':=({ x2 with State:=2}:aQ)) X1)) rE rfl rfl) (ve λu=>cX (fo:=3) ({ ({ x2 with State:=2}:aQ) with Files:=IntKind.wrap .i64 ((({ x2 with State:=2}:aQ).Files)+1)}:aQ) 5 u (cR (x':=({ x2 with State:=2}:aQ)) X1) eT (bK.set oV) rfl rfl rfl rfl (cS.refl _ _) AT rfl rfl λK2=>qk K2 rfl (vs (v0 (ve λu=>BY u λk36 K4=>qk K4 rfl (ve λu=>bG ([.sc (.map none)]) u (show rP Tryz.prog 161=some [.map none] by kernel_rfl) rfl rfl λk39 K5=>qk K5 rfl (ve λu=>aL 0 ([.mpv k36]) u rfl rfl rfl rfl ZP rfl rfl λK6=>qk K6 rfl ?_))))))))))))))))))
 refine vs (vs (v0 (dX gR rfl rfl (vl 2 _ l6 rfl rfl rfl (dH l4 rfl (nW m (σ:=(List Int)×Int×(List aH)×(List aB)×(List aT)×Int) (τ:=dI×dI×dI) (λg s=>([(some k39,.obj 161 ([.mpv k36])),(some k36,.mp (fW kI (s.1:List Int))),(some k2,.obj 62 (aJ p1)),OC p0K s.2.1 g.1.a g.2.1.a g.2.2.a gV,bL g.1 s.2.2.1,aY g.2.1 s.2.2.2.1,bR g.2.2 s.2.2.2.2.1,a8 gV ((p0.Vols.set p1.Vol.toNat ({ x2 with State:=2})).set p1.Vol.toNat ({ ({ x2 with State:=2}:aQ) with Files:=IntKind.wrap .i64 ((({ x2 with State:=2}:aQ).Files)+1)}))]++((bO g.1 s.2.2.1)++((bB g.2.1 s.2.2.2.1)++(bS g.2.2 s.2.2.2.2.1))))) (λg s=>nG aH.Locs 4 4 g.1 (s.2.2.1:List aH)∧nG aB.Locs 35 4 g.2.1 (s.2.2.2.1:List aB)∧nG aT.Locs 3 4 g.2.2 (s.2.2.2.2.1:List aT)) (λg s=>.c 0 (.ptr p0K 0) (.c 3 (.ptr k2 0) (.c 6 (wD gV.t (p1.Vol.toNat*4+0)) (.c 7 (.ptr k39 0) (.c 78 (.sl none 37 (List.map aI p1.Items)) (.c 79 (nZ (p1.Items.length:Int)) (.c 80 (nZ s.2.2.2.2.2) .nil))))))) (gS,gC,gE) (⟨ok_Snaps,oC,oE⟩) (lx (.k7 .nil)) ?_ ?_))))))
 rintro⟨ng0,ng1,ng2⟩ ⟨q0,q1,q2,q3,q4,q5⟩ x ⟨O0,O1,O2⟩ m
 replace m:oQ w p0 p1 x2 q0 q1 q2 q3 q4 q5=some x:=m
 unfold oQ at m
 refine vs (v0 (vs (v0 ?_)))
 apply vi m <;> intro c1 m
 refine v0 (vs (v0 (vs (v0 (vx m nO rfl rfl λx3 _ m=>va (.agg (aI x3)) B6 rfl rfl (ve λu=>bG (([nZ 0]:List AV)++bC gW++(I9:List AV)) u GO rfl rfl λk284 K7=>qk K7 rfl (ve λu=>aL 0 (aI x3) u rfl rfl rfl rfl GM rfl rfl λK8=>qk K8 rfl (vs (v0 (vz [(1000000,some k284,.obj 38 (aI x3)),(1000000,some k2,.obj 62 (aJ p1)),(1000000,gV.t,.obj 49 (fl dG ((p0.Vols.set p1.Vol.toNat ({ x2 with State:=2})).set p1.Vol.toNat ({ ({ x2 with State:=2}:aQ) with Files:=IntKind.wrap .i64 ((({ x2 with State:=2}:aQ).Files)+1)}):List aQ) gV.sp))] mixed (λu=>⟨λ_=>aO 0 u rfl,λ_=>aO 3 u rfl,λ_=>aO 8 u rfl,trivial⟩) λu=>zP 0 rfl rfl (zL 1 0 (.agg (aI x3)) rfl B6 rfl rfl rfl (zF 2 rfl iX rfl (zL 3 1 (nZ p1.Vol) rfl cB rfl rfl rfl (zC 4 rfl (fA (wD _ _) rfl) (zC 5 rfl (iV (bK.ne (bK.set (bK.set oV)) (cR (x':=({ ({ x2 with State:=2}:aQ) with Files:=IntKind.wrap .i64 ((({ x2 with State:=2}:aQ).Files)+1)}:aQ)) (cR (x':=({ x2 with State:=2}:aQ)) X1))) rfl) (zC 6 rfl (cW (bK.ne (bK.set (bK.set oV)) (cR (x':=({ ({ x2 with State:=2}:aQ) with Files:=IntKind.wrap .i64 ((({ x2 with State:=2}:aQ).Files)+1)}:aQ)) (cR (x':=({ x2 with State:=2}:aQ)) X1))) rE rfl rfl) (zO 7 rfl (λ_ _ hi hB=>eJ (fo:=3) (nZ (({ ({ x2 with State:=2}:aQ) with Files:=IntKind.wrap .i64 ((({ x2 with State:=2}:aQ).Files)+1)}:aQ).Files)) (cR (x':=({ ({ x2 with State:=2}:aQ) with Files:=IntKind.wrap .i64 ((({ x2 with State:=2}:aQ).Files)+1)}:aQ)) (cR (x':=({ x2 with State:=2}:aQ)) X1)) eT (bK.set (bK.set oV)) cB rfl (fS.get 2 hi rfl (hB 1000000 (by kernel_rfl))) (λ_=>rfl)) ?_)))))))))))))))))
 refine zF 8 rfl MA rfl (zL 9 0 (nZ x3.Off) rfl cB rfl rfl rfl (zF 10 rfl MB rfl (zL 11 0 (nZ x3.Len) rfl cB rfl rfl rfl (zC 12 rfl (eI (aN ({ Vol:=p1.Vol,File:=({ ({ x2 with State:=2}:aQ) with Files:=IntKind.wrap .i64 ((({ x2 with State:=2}:aQ).Files)+1)}:aQ).Files,Off:=x3.Off,Len:=x3.Len}:aR)) ZN rfl) ?_))))
 obtain⟨y0,Y0,m⟩:=aD m
 refine zE 13 rfl ?_
 have ho0:=EQ (A:=([OC p0K q1 ng0.a ng1.a ng2.a gV,bL ng0 q2,aY ng1 q3,bR ng2 q4,a8 gV ((p0.Vols.set p1.Vol.toNat ({ x2 with State:=2})).set p1.Vol.toNat ({ ({ x2 with State:=2}:aQ) with Files:=IntKind.wrap .i64 ((({ x2 with State:=2}:aQ).Files)+1)}))]++((bO ng0 q2)++((bB ng1 q3)++(bS ng2 q4))))) (R:= [(some k284,.obj 38 (aI x3)),(some k39,.obj 161 ([.mpv k36])),(some k36,.mp (fW kI (q0:List Int))),(some k2,.obj 62 (aJ p1))]) u [[_], [_], [_], [_], [_], [_], [_], [_], [_],_,_,_] rfl [4,5,6,7,8,9,10,11] [0,1,2,3] rfl rfl rfl
 refine fJ ho0.1 (dR (aHC (p0:=({ Seq:=q1,Snaps:=q2,Chunks:=q3,Exps:=q4,Vols:=(p0.Vols.set p1.Vol.toNat ({ x2 with State:=2})).set p1.Vol.toNat ({ ({ x2 with State:=2}:aQ) with Files:=IntKind.wrap .i64 ((({ x2 with State:=2}:aQ).Files)+1)})}:aA)) _ (O0) (O1) (O2) ((bK.set (bK.set oV))) ho0.2.2 Y0) rfl aBH rfl ?_)
 rintro x h' ⟨ng3,O3,ng4,O4,ng5,O5,K9,rfl,rfl⟩
 have K10:=ER (L':=([(some k284,.obj 38 (aI x3)),(some k39,.obj 161 ([.mpv k36])),(some k36,.mp (fW kI (q0:List Int))),(some k2,.obj 62 (aJ p1)),OC p0K y0.2.1 ng3.a ng4.a ng5.a gV,bL ng3 y0.2.2.1,aY ng4 y0.2.2.2.1,bR ng5 y0.2.2.2.2,a8 gV ((p0.Vols.set p1.Vol.toNat ({ x2 with State:=2})).set p1.Vol.toNat ({ ({ x2 with State:=2}:aQ) with Files:=IntKind.wrap .i64 ((({ x2 with State:=2}:aQ).Files)+1)}))]++((bO ng3 y0.2.2.1)++((bB ng4 y0.2.2.2.1)++(bS ng5 y0.2.2.2.2))))) ho0.2.1 K9 [[_], [_], [_], [_], [_],_,_,_] [[_], [_], [_], [_]] rfl rfl [8,9,10,11,0,1,2,3,4,5,6,7] rfl rfl
 refine qJ K10.1 (⟨⟨λ_=>aO 0 K10.2 rfl,λ_=>aO 3 K10.2 rfl,λ_=>aO 8 K10.2 rfl,trivial⟩, ?_⟩)
 refine zC 14 rfl (hH (.sc (.int _ _)) rfl) (zX (qk (f:=.c 10 _ (UU 97 _ _ _ _ _ _ _ _ _ _ _ _ _ _ _)) K10.2 rfl (vs (vs (v0 (v0 ?_))))))
 apply vi m <;> intro c2 m
 refine vs (v0 (v0 (fZ m λm=> ?_)))
 cases m
 refine J4 (KT (L':=([(some k284,.obj 38 (aI x3)),(some k39,.obj 161 ([.mpv k36])),(some k36,.mp (fW kI (q0:List Int))),(some k2,.obj 62 (aJ p1)),OC p0K y0.2.1 ng3.a ng4.a ng5.a gV,cP ng3.a y0.2.2.1,aY ng4 y0.2.2.2.1,bR ng5 y0.2.2.2.2,a8 gV ((p0.Vols.set p1.Vol.toNat ({ x2 with State:=2})).set p1.Vol.toNat ({ ({ x2 with State:=2}:aQ) with Files:=IntKind.wrap .i64 ((({ x2 with State:=2}:aQ).Files)+1)}))]++((bB ng4 y0.2.2.2.1)++(bS ng5 y0.2.2.2.2)))) [[_], [_], [_], [_], [_], [_], [_], [_], [_],_,_,_] rfl 5 9 fC wP O3.k rfl rfl (by decide) rfl) (J4 (KT (L':=([(some k284,.obj 38 (aI x3)),(some k39,.obj 161 ([.mpv k36])),(some k36,.mp (fW kI (q0:List Int))),(some k2,.obj 62 (aJ p1)),OC p0K y0.2.1 ng3.a ng4.a ng5.a gV,cP ng3.a y0.2.2.1,cD ng4.a y0.2.2.2.1,bR ng5 y0.2.2.2.2,a8 gV ((p0.Vols.set p1.Vol.toNat ({ x2 with State:=2})).set p1.Vol.toNat ({ ({ x2 with State:=2}:aQ) with Files:=IntKind.wrap .i64 ((({ x2 with State:=2}:aQ).Files)+1)}))]++(bS ng5 y0.2.2.2.2))) [[_], [_], [_], [_], [_], [_], [_], [_], [_],_,_] rfl 6 9 fC tL O4.k rfl rfl (by decide) rfl) (J4 (KT (L':= [(some k284,.obj 38 (aI x3)),(some k39,.obj 161 ([.mpv k36])),(some k36,.mp (fW kI (q0:List Int))),(some k2,.obj 62 (aJ p1)),OC p0K y0.2.1 ng3.a ng4.a ng5.a gV,cP ng3.a y0.2.2.1,cD ng4.a y0.2.2.2.1,eO ng5.a y0.2.2.2.2,a8 gV ((p0.Vols.set p1.Vol.toNat ({ x2 with State:=2})).set p1.Vol.toNat ({ ({ x2 with State:=2}:aQ) with Files:=IntKind.wrap .i64 ((({ x2 with State:=2}:aQ).Files)+1)}))]) [[_], [_], [_], [_], [_], [_], [_], [_], [_],_] rfl 7 9 fC CM O5.k rfl rfl (by decide) rfl) ?_))
 exact vr λu=>dW.of1 (.inl rfl) (gN _ _ (.sc (.int _ _)) rfl) (bQ u [4,5,6,7,8] rfl).2 (bD.refl _ _) ⟨ng3.a,O3.k.a,ng4.a,O4.k.a,ng5.a,O5.k.a,gV,(bK.set (bK.set oV)),(bQ u [4,5,6,7,8] rfl).1,rfl,rfl⟩
 refine v0 (vs (vs (v0 (dX mQ rfl rfl (vl 0 _ cB rfl rfl rfl (fN m (σ:=(List Int)) (λs=>([(some k284,.obj 38 (aI x3)),(some k39,.obj 161 ([.mpv k36])),(some k36,.mp (fW kI (s:List Int))),(some k2,.obj 62 (aJ p1)),OC p0K y0.2.1 ng3.a ng4.a ng5.a gV,bL ng3 y0.2.2.1,aY ng4 y0.2.2.2.1,bR ng5 y0.2.2.2.2,a8 gV ((p0.Vols.set p1.Vol.toNat ({ x2 with State:=2})).set p1.Vol.toNat ({ ({ x2 with State:=2}:aQ) with Files:=IntKind.wrap .i64 ((({ x2 with State:=2}:aQ).Files)+1)}))]++((bO ng3 y0.2.2.1)++((bB ng4 y0.2.2.2.1)++(bS ng5 y0.2.2.2.2))))) (λs=>.c 0 (.ptr p0K 0) (.c 3 (.ptr k2 0) (.c 6 (wD gV.t (p1.Vol.toNat*4+0)) (.c 7 (.ptr k39 0) (.c 9 (.ptr k284 0) (.c 78 (.sl none 37 (List.map aI p1.Items)) (.c 79 (nZ (p1.Items.length:Int)) (.c 80 (nZ q5) .nil)))))))) (λx m=> ?_) ?_))))))
 refine v0 ?_
 apply vi m <;> intro c3 m
 exact v0 (vl 1 _ TF rfl rfl rfl (dX xP rfl rfl (vl 0 _ cB rfl rfl rfl (ve λu=>LQ 2 u TG (xJ.int u3) rfl rfl rfl rfl λK11=>qk K11 rfl (LY m)))))
 exact v0 (LY m)
 rintro _ j1 m
 refine vs (v0 (CD (by kernel_rfl) (lU rfl (dX eW rfl rfl (vl 4 (aZ ng4.a) fD rfl rfl rfl (dX xO rfl rfl (vl 0 (.agg (bC x3.Id)) eY rfl rfl rfl ?_)))))))
 obtain⟨y1,Y1,m⟩:=aD m
 refine vn (λu=>bV (fH (.cons (Br.awN 6 cY fC EV O4.k u rfl (WC [[_], [_], [_], [_], [_], [_], [_], [_], [_],_,_,_] rfl 10 rfl)) (.cons (Br.refl _ _) .nil)) rfl (VH _ Y1)) rfl MV rfl) (vs (fN m (σ:=Bool) (λs=>([(some k284,.obj 38 (aI x3)),(some k39,.obj 161 ([.mpv k36])),(some k36,.mp (fW kI (j1:List Int))),(some k2,.obj 62 (aJ p1)),OC p0K y0.2.1 ng3.a ng4.a ng5.a gV,bL ng3 y0.2.2.1,aY ng4 y0.2.2.2.1,bR ng5 y0.2.2.2.2,a8 gV ((p0.Vols.set p1.Vol.toNat ({ x2 with State:=2})).set p1.Vol.toNat ({ ({ x2 with State:=2}:aQ) with Files:=IntKind.wrap .i64 ((({ x2 with State:=2}:aQ).Files)+1)}))]++((bO ng3 y0.2.2.1)++((bB ng4 y0.2.2.2.1)++(bS ng5 y0.2.2.2.2))))) (λs=>.c 0 (.ptr p0K 0) (.c 3 (.ptr k2 0) (.c 6 (wD gV.t (p1.Vol.toNat*4+0)) (.c 7 (.ptr k39 0) (.c 11 (nZ y1.1) (.c 78 (.sl none 37 (List.map aI p1.Items)) (.c 79 (nZ (p1.Items.length:Int)) (.c 80 (nZ q5) (.c 129 (.sc (.bool s)) .nil))))))))) (λx m=> ?_) ?_))
 refine v0 (dX mQ rfl rfl (vl 0 _ cB rfl rfl rfl ?_))
 apply vi m <;> intro b5 m
 rw[b5]
 apply vi m <;> intro b6 m
 rw[b6]
 exact bU (iV (bK.ne (bK.set (bK.set oV)) (cR (x':=({ ({ x2 with State:=2}:aQ) with Files:=IntKind.wrap .i64 ((({ x2 with State:=2}:aQ).Files)+1)}:aQ)) (cR (x':=({ x2 with State:=2}:aQ)) X1))) rfl) (bU (cW (bK.ne (bK.set (bK.set oV)) (cR (x':=({ ({ x2 with State:=2}:aQ) with Files:=IntKind.wrap .i64 ((({ x2 with State:=2}:aQ).Files)+1)}:aQ)) (cR (x':=({ x2 with State:=2}:aQ)) X1))) MD rfl rfl) (vn (λu=>eJ (fo:=0) (nZ (({ ({ x2 with State:=2}:aQ) with Files:=IntKind.wrap .i64 ((({ x2 with State:=2}:aQ).Files)+1)}:aQ).Pool)) (cR (x':=({ ({ x2 with State:=2}:aQ) with Files:=IntKind.wrap .i64 ((({ x2 with State:=2}:aQ).Files)+1)}:aQ)) (cR (x':=({ x2 with State:=2}:aQ)) X1)) eT (bK.set (bK.set oV)) cB rfl (aO 8 u rfl) (λ_=>rfl)) (gq9 m)))
 rw[b6]
 exact gq9 m
 rw[b5]
 exact gq9 m
 rintro _ j2 m
 refine oG m (σ:=(List aB)) (τ:=dI) (λg s=>([(some k284,.obj 38 (aI x3)),(some k39,.obj 161 ([.mpv k36])),(some k36,.mp (fW kI (j1:List Int))),(some k2,.obj 62 (aJ p1)),OC p0K y0.2.1 ng3.a g.a ng5.a gV,bL ng3 y0.2.2.1,aY g s,bR ng5 y0.2.2.2.2,a8 gV ((p0.Vols.set p1.Vol.toNat ({ x2 with State:=2})).set p1.Vol.toNat ({ ({ x2 with State:=2}:aQ) with Files:=IntKind.wrap .i64 ((({ x2 with State:=2}:aQ).Files)+1)}))]++((bO ng3 y0.2.2.1)++((bB g s)++(bS ng5 y0.2.2.2.2))))) (λg s=>nG aB.Locs 35 4 g (s:List aB)) (λg s=>.c 0 (.ptr p0K 0) (.c 3 (.ptr k2 0) (.c 6 (wD gV.t (p1.Vol.toNat*4+0)) (.c 7 (.ptr k39 0) (.c 78 (.sl none 37 (List.map aI p1.Items)) (.c 79 (nZ (p1.Items.length:Int)) (.c 80 (nZ q5) .nil))))))) (λx m=> ?_) ?_
 refine v0 ?_
 apply vi m <;> intro c4 m
 refine v0 (vz [(1000000,some p0K,.obj 30 ([nZ y0.2.1,aZ ng3.a,aZ ng4.a,aZ ng5.a,aZ gV]))] mixed (λu=>⟨λ_=>aO 4 u rfl,trivial⟩) λu=>zP 0 rfl rfl (zN 1 rfl rfl (zF 2 rfl eW rfl (zL 3 0 (aZ ng4.a) rfl fD rfl rfl rfl (zI 4 rfl rfl (zP 5 rfl rfl (zN 6 rfl rfl (zF 7 rfl eW rfl (zL 8 0 (aZ ng4.a) rfl fD rfl rfl rfl (zI 9 rfl rfl ?_))))))))))
 obtain⟨x4,X2,m⟩:=aD m
 refine zC 10 rfl (dF (O4.k.ix X2) h9 O4.k.z rfl rfl) (zC 11 rfl (cW (bK.ne O4.k.z (O4.k.ix X2)) pP rfl rfl) (zE 12 rfl (cX (fo:=32) (x':=(({ x4 with Staged:=false}:aB),(gx ng4.gs y1.1.toNat))) 6 u (O4.k.ix X2) kC O4.k.z rfl rfl rfl rfl (cS.refl _ _) ZE rfl rfl ?_)))
 intro K12
 have hs0:tI aB.Locs 35 4 ng4 (y0.2.2.2.1:List aB):=O4.k
 have hn0:hp h _=hp h ([(some k284,.obj 38 (aI x3)),(some k39,.obj 161 ([.mpv k36])),(some k36,.mp (fW kI (j1:List Int))),(some k2,.obj 62 (aJ p1)),OC p0K y0.2.1 ng3.a ng4.a ng5.a gV,bL ng3 y0.2.2.1,aY ng4 (y0.2.2.2.1.set y1.1.toNat ({ x4 with Staged:=false})),bR ng5 y0.2.2.2.2,a8 gV ((p0.Vols.set p1.Vol.toNat ({ x2 with State:=2})).set p1.Vol.toNat ({ ({ x2 with State:=2}:aQ) with Files:=IntKind.wrap .i64 ((({ x2 with State:=2}:aQ).Files)+1)}))]++((bO ng3 y0.2.2.1)++((bB ng4 (y0.2.2.2.1.set y1.1.toNat ({ x4 with Staged:=false})))++(bS ng5 y0.2.2.2.2))))∧bP h ([(some k284,.obj 38 (aI x3)),(some k39,.obj 161 ([.mpv k36])),(some k36,.mp (fW kI (j1:List Int))),(some k2,.obj 62 (aJ p1)),OC p0K y0.2.1 ng3.a ng4.a ng5.a gV,bL ng3 y0.2.2.1,aY ng4 (y0.2.2.2.1.set y1.1.toNat ({ x4 with Staged:=false})),bR ng5 y0.2.2.2.2,a8 gV ((p0.Vols.set p1.Vol.toNat ({ x2 with State:=2})).set p1.Vol.toNat ({ ({ x2 with State:=2}:aQ) with Files:=IntKind.wrap .i64 ((({ x2 with State:=2}:aQ).Files)+1)}))]++((bO ng3 y0.2.2.1)++((bB ng4 (y0.2.2.2.1.set y1.1.toNat ({ x4 with Staged:=false})))++(bS ng5 y0.2.2.2.2)))):=eqN (L:=_) K12 (by unfold aY; (try unfold bB); rw[(hs0.set (x':=({ x4 with Staged:=false}:aB)) X2 rfl).2.2,← (hs0.set (x':=({ x4 with Staged:=false}:aB)) X2 rfl).2.1]; first | done | rfl)
 refine qJ hn0.1 (⟨⟨λ_=>aO 4 hn0.2 rfl,trivial⟩, ?_⟩)
 obtain⟨x5,X3,m⟩:=aD m
 refine zC 13 rfl (dF ((O4.set (x':=({ x4 with Staged:=false}:aB)) X2 rfl).k.ix X3) h9 ((O4.set (x':=({ x4 with Staged:=false}:aB)) X2 rfl).k.z) rfl rfl) (zC 14 rfl (cW (bK.ne ((O4.set (x':=({ x4 with Staged:=false}:aB)) X2 rfl).k.z) ((O4.set (x':=({ x4 with Staged:=false}:aB)) X2 rfl).k.ix X3)) lS rfl rfl) (zE 15 rfl (cX (fo:=33) (x':=(({ x5 with Data:=([]:List Int)}:aB),(gx ng4.gs y1.1.toNat))) 6 hn0.2 ((O4.set (x':=({ x4 with Staged:=false}:aB)) X2 rfl).k.ix X3) kC ((O4.set (x':=({ x4 with Staged:=false}:aB)) X2 rfl).k.z) rfl rfl rfl rfl (.cons (a9 _) .nil) EB rfl rfl ?_)))
 intro K13
 have hs1:tI aB.Locs 35 4 ng4 (y0.2.2.2.1.set y1.1.toNat ({ x4 with Staged:=false}):List aB):=(O4.set (x':=({ x4 with Staged:=false}:aB)) X2 rfl).k
 have hn1:hp h _=hp h ([(some k284,.obj 38 (aI x3)),(some k39,.obj 161 ([.mpv k36])),(some k36,.mp (fW kI (j1:List Int))),(some k2,.obj 62 (aJ p1)),OC p0K y0.2.1 ng3.a ng4.a ng5.a gV,bL ng3 y0.2.2.1,aY ng4 ((y0.2.2.2.1.set y1.1.toNat ({ x4 with Staged:=false})).set y1.1.toNat ({ x5 with Data:=([]:List Int)})),bR ng5 y0.2.2.2.2,a8 gV ((p0.Vols.set p1.Vol.toNat ({ x2 with State:=2})).set p1.Vol.toNat ({ ({ x2 with State:=2}:aQ) with Files:=IntKind.wrap .i64 ((({ x2 with State:=2}:aQ).Files)+1)}))]++((bO ng3 y0.2.2.1)++((bB ng4 ((y0.2.2.2.1.set y1.1.toNat ({ x4 with Staged:=false})).set y1.1.toNat ({ x5 with Data:=([]:List Int)})))++(bS ng5 y0.2.2.2.2))))∧bP h ([(some k284,.obj 38 (aI x3)),(some k39,.obj 161 ([.mpv k36])),(some k36,.mp (fW kI (j1:List Int))),(some k2,.obj 62 (aJ p1)),OC p0K y0.2.1 ng3.a ng4.a ng5.a gV,bL ng3 y0.2.2.1,aY ng4 ((y0.2.2.2.1.set y1.1.toNat ({ x4 with Staged:=false})).set y1.1.toNat ({ x5 with Data:=([]:List Int)})),bR ng5 y0.2.2.2.2,a8 gV ((p0.Vols.set p1.Vol.toNat ({ x2 with State:=2})).set p1.Vol.toNat ({ ({ x2 with State:=2}:aQ) with Files:=IntKind.wrap .i64 ((({ x2 with State:=2}:aQ).Files)+1)}))]++((bO ng3 y0.2.2.1)++((bB ng4 ((y0.2.2.2.1.set y1.1.toNat ({ x4 with Staged:=false})).set y1.1.toNat ({ x5 with Data:=([]:List Int)})))++(bS ng5 y0.2.2.2.2)))):=eqN (L:=_) K13 (by unfold aY; (try unfold bB); rw[(hs1.set (x':=({ x5 with Data:=([]:List Int)}:aB)) X3 rfl).2.2,← (hs1.set (x':=({ x5 with Data:=([]:List Int)}:aB)) X3 rfl).2.1]; first | done | rfl)
 refine qJ hn1.1 (⟨⟨λ_=>aO 4 hn1.2 rfl,trivial⟩, ?_⟩)
 exact zX (qk (f:=UU 143 _ _ _ _ _ _ _ _ _ _ _ _ _ _ _) hn1.2 rfl (eH m ng4 ((O4.set (x':=({ x4 with Staged:=false}:aB)) X2 rfl).set (x':=({ x5 with Data:=([]:List Int)}:aB)) X3 rfl) (lx (.k7 .nil))))
 exact v0 (eH m ng4 O4 (lx (.k7 .nil)))
 rintro ng6 j3 O6 m
 exact v0 (eH m (ng3,ng6,ng5) ⟨O3,O6,O5⟩ (lxB [[_], [_], [_], [_], [_], [_], [_], [_], [_],_,_,_] rfl [1,2,3,4,5,6,7,8,9,10,11] rfl rfl (.k7 .nil)))
 exact v0 (lN m (ng0,ng1,ng2) ⟨O0,O1,O2⟩ (lx (.k7 .nil)))
 rintro⟨ng7,ng8,ng9⟩ ⟨r0,r1,r2,r3,r4,r5⟩ ⟨t0,t1,t2⟩ m
 refine vs (v0 (lU rfl (dX eL rfl rfl (vl 3 (aZ ng7.a) fI rfl rfl rfl (bU (fB kZ t0.k.a rfl) (vs (qE (KT (L':=([(some k39,.obj 161 ([.mpv k36])),(some k36,.mp (fW kI (r0:List Int))),(some k2,.obj 62 (aJ p1)),OC p0K r1 ng7.a ng8.a ng9.a gV,cP ng7.a r2,aY ng8 r3,bR ng9 r4,a8 gV ((p0.Vols.set p1.Vol.toNat ({ x2 with State:=2})).set p1.Vol.toNat ({ ({ x2 with State:=2}:aQ) with Files:=IntKind.wrap .i64 ((({ x2 with State:=2}:aQ).Files)+1)}))]++((bB ng8 r3)++(bS ng9 r4)))) [[_], [_], [_], [_], [_], [_], [_], [_],_,_,_] rfl 4 8 fC wP t0.k rfl rfl (by decide) rfl) (qE (KT (L':=([(some k39,.obj 161 ([.mpv k36])),(some k36,.mp (fW kI (r0:List Int))),(some k2,.obj 62 (aJ p1)),OC p0K r1 ng7.a ng8.a ng9.a gV,cP ng7.a r2,cD ng8.a r3,bR ng9 r4,a8 gV ((p0.Vols.set p1.Vol.toNat ({ x2 with State:=2})).set p1.Vol.toNat ({ ({ x2 with State:=2}:aQ) with Files:=IntKind.wrap .i64 ((({ x2 with State:=2}:aQ).Files)+1)}))]++(bS ng9 r4))) [[_], [_], [_], [_], [_], [_], [_], [_],_,_] rfl 5 8 fC tL t1.k rfl rfl (by decide) rfl) (qE (KT (L':= [(some k39,.obj 161 ([.mpv k36])),(some k36,.mp (fW kI (r0:List Int))),(some k2,.obj 62 (aJ p1)),OC p0K r1 ng7.a ng8.a ng9.a gV,cP ng7.a r2,cD ng8.a r3,eO ng9.a r4,a8 gV ((p0.Vols.set p1.Vol.toNat ({ x2 with State:=2})).set p1.Vol.toNat ({ ({ x2 with State:=2}:aQ) with Files:=IntKind.wrap .i64 ((({ x2 with State:=2}:aQ).Files)+1)}))]) [[_], [_], [_], [_], [_], [_], [_], [_],_] rfl 6 8 fC CM t2.k rfl rfl (by decide) rfl) (v0 (lU rfl (dX eL rfl rfl (vl 3 (aZ ng7.a) fI rfl rfl rfl ?_)))))))))))))
 obtain⟨y2,Y2,m⟩:=aD m
 refine ve λu=>fJ ((bM u [4,0,1,2,3,5,6,7] rfl rfl).1.trans (dO h [cP ng7.a r2] [(some k39,.obj 161 ([.mpv k36])),(some k36,.mp (fW kI (r0:List Int))),(some k2,.obj 62 (aJ p1)),OC p0K r1 ng7.a ng8.a ng9.a gV,cD ng8.a r3,eO ng9.a r4,a8 gV ((p0.Vols.set p1.Vol.toNat ({ x2 with State:=2})).set p1.Vol.toNat ({ ({ x2 with State:=2}:aQ) with Files:=IntKind.wrap .i64 ((({ x2 with State:=2}:aQ).Files)+1)}))]).symm) (dR (aBM (hp h [(some k39,.obj 161 ([.mpv k36])),(some k36,.mp (fW kI (r0:List Int))),(some k2,.obj 62 (aJ p1)),OC p0K r1 ng7.a ng8.a ng9.a gV,cD ng8.a r3,eO ng9.a r4,a8 gV ((p0.Vols.set p1.Vol.toNat ({ x2 with State:=2})).set p1.Vol.toNat ({ ({ x2 with State:=2}:aQ) with Files:=IntKind.wrap .i64 ((({ x2 with State:=2}:aQ).Files)+1)}))]) t0.k.a (dJ [cP ng7.a r2] [(some k39,.obj 161 ([.mpv k36])),(some k36,.mp (fW kI (r0:List Int))),(some k2,.obj 62 (aJ p1)),OC p0K r1 ng7.a ng8.a ng9.a gV,cD ng8.a r3,eO ng9.a r4,a8 gV ((p0.Vols.set p1.Vol.toNat ({ x2 with State:=2})).set p1.Vol.toNat ({ ({ x2 with State:=2}:aQ) with Files:=IntKind.wrap .i64 ((({ x2 with State:=2}:aQ).Files)+1)}))] (bM u [4,0,1,2,3,5,6,7] rfl rfl).2).2 aBL (λx0 o h0 hs ho=>aHG _ (hs _ _ (aW 0 (dJ [cP ng7.a r2] [(some k39,.obj 161 ([.mpv k36])),(some k36,.mp (fW kI (r0:List Int))),(some k2,.obj 62 (aJ p1)),OC p0K r1 ng7.a ng8.a ng9.a gV,cD ng8.a r3,eO ng9.a r4,a8 gV ((p0.Vols.set p1.Vol.toNat ({ x2 with State:=2})).set p1.Vol.toNat ({ ({ x2 with State:=2}:aQ) with Files:=IntKind.wrap .i64 ((({ x2 with State:=2}:aQ).Files)+1)}))] (bM u [4,0,1,2,3,5,6,7] rfl rfl).2).1 rfl)) (hs _ _ (aW 1 (dJ [cP ng7.a r2] [(some k39,.obj 161 ([.mpv k36])),(some k36,.mp (fW kI (r0:List Int))),(some k2,.obj 62 (aJ p1)),OC p0K r1 ng7.a ng8.a ng9.a gV,cD ng8.a r3,eO ng9.a r4,a8 gV ((p0.Vols.set p1.Vol.toNat ({ x2 with State:=2})).set p1.Vol.toNat ({ ({ x2 with State:=2}:aQ) with Files:=IntKind.wrap .i64 ((({ x2 with State:=2}:aQ).Files)+1)}))] (bM u [4,0,1,2,3,5,6,7] rfl rfl).2).1 rfl)) ho) Y2) rfl aBN rfl ?_)
 rintro x h' ⟨ag0,O7,K14,rfl,rfl⟩
 have K15:=bM (L':= [(some k39,.obj 161 ([.mpv k36])),(some k36,.mp (fW kI (r0:List Int))),(some k2,.obj 62 (aJ p1)),(hO p0K r1 ng7.a ng8.a ng9.a gV),cP ag0 y2,cD ng8.a r3,eO ng9.a r4,a8 gV ((p0.Vols.set p1.Vol.toNat ({ x2 with State:=2})).set p1.Vol.toNat ({ ({ x2 with State:=2}:aQ) with Files:=IntKind.wrap .i64 ((({ x2 with State:=2}:aQ).Files)+1)}))]) (dZ (dJ [cP ng7.a r2] [(some k39,.obj 161 ([.mpv k36])),(some k36,.mp (fW kI (r0:List Int))),(some k2,.obj 62 (aJ p1)),OC p0K r1 ng7.a ng8.a ng9.a gV,cD ng8.a r3,eO ng9.a r4,a8 gV ((p0.Vols.set p1.Vol.toNat ({ x2 with State:=2})).set p1.Vol.toNat ({ ({ x2 with State:=2}:aQ) with Files:=IntKind.wrap .i64 ((({ x2 with State:=2}:aQ).Files)+1)}))] (bM u [4,0,1,2,3,5,6,7] rfl rfl).2).1 K14) [1,2,3,4,0,5,6,7] rfl rfl
 refine qk K15.2 ((dO h [cP ag0 y2] [(some k39,.obj 161 ([.mpv k36])),(some k36,.mp (fW kI (r0:List Int))),(some k2,.obj 62 (aJ p1)),OC p0K r1 ng7.a ng8.a ng9.a gV,cD ng8.a r3,eO ng9.a r4,a8 gV ((p0.Vols.set p1.Vol.toNat ({ x2 with State:=2})).set p1.Vol.toNat ({ ({ x2 with State:=2}:aQ) with Files:=IntKind.wrap .i64 ((({ x2 with State:=2}:aQ).Files)+1)}))]).trans K15.1) (lU rfl (dX eL rfl rfl (ve λu=>aL 3 ([nZ r1,aZ ag0,aZ ng8.a,aZ ng9.a,aZ gV]) u rfl rfl (cM rfl) (cG (cC _ _ _) rfl) L5 rfl rfl λK16=>qk K16 rfl (vs (vs (v0 (lU rfl (dX eL rfl rfl (vl 3 (aZ ag0) fI rfl rfl rfl (bU (fB kZ O7 rfl) (oG m (σ:=(List aB)) (τ:=dD) (λg s=> [(some k39,.obj 161 ([.mpv k36])),(some k36,.mp (fW kI (r0:List Int))),(some k2,.obj 62 (aJ p1)),OC p0K r1 ag0 g ng9.a gV,cP ag0 y2,cD g s,eO ng9.a r4,a8 gV ((p0.Vols.set p1.Vol.toNat ({ x2 with State:=2})).set p1.Vol.toNat ({ ({ x2 with State:=2}:aQ) with Files:=IntKind.wrap .i64 ((({ x2 with State:=2}:aQ).Files)+1)}))]) (λg s=>bK g 35 (s:List aB).length) (λg s=>.nil) (λx m=> ?_) ?_)))))))))))
 refine v0 ?_
 apply vi m <;> intro c5 m
 refine v0 ?_
 obtain⟨y3,Y3,m⟩:=aD m
 refine ve λu=>fJ ((bM u [3,4,5,6,7,0,1,2] rfl rfl).1.trans (dO h [OC p0K r1 ag0 ng8.a ng9.a gV,cP ag0 y2,cD ng8.a r3,eO ng9.a r4,a8 gV ((p0.Vols.set p1.Vol.toNat ({ x2 with State:=2})).set p1.Vol.toNat ({ ({ x2 with State:=2}:aQ) with Files:=IntKind.wrap .i64 ((({ x2 with State:=2}:aQ).Files)+1)}))] [(some k39,.obj 161 ([.mpv k36])),(some k36,.mp (fW kI (r0:List Int))),(some k2,.obj 62 (aJ p1))]).symm) (dR (aG9 (p0:=({ Seq:=r1,Snaps:=y2,Chunks:=r3,Exps:=r4,Vols:=(p0.Vols.set p1.Vol.toNat ({ x2 with State:=2})).set p1.Vol.toNat ({ ({ x2 with State:=2}:aQ) with Files:=IntKind.wrap .i64 ((({ x2 with State:=2}:aQ).Files)+1)})}:aA)) (hp h [(some k39,.obj 161 ([.mpv k36])),(some k36,.mp (fW kI (r0:List Int))),(some k2,.obj 62 (aJ p1))]) O7 t1.k.a t2.k.a (bK.set (bK.set oV)) (dJ [OC p0K r1 ag0 ng8.a ng9.a gV,cP ag0 y2,cD ng8.a r3,eO ng9.a r4,a8 gV ((p0.Vols.set p1.Vol.toNat ({ x2 with State:=2})).set p1.Vol.toNat ({ ({ x2 with State:=2}:aQ) with Files:=IntKind.wrap .i64 ((({ x2 with State:=2}:aQ).Files)+1)}))] [(some k39,.obj 161 ([.mpv k36])),(some k36,.mp (fW kI (r0:List Int))),(some k2,.obj 62 (aJ p1))] (bM u [3,4,5,6,7,0,1,2] rfl rfl).2).2 Y3) rfl aBE rfl ?_)
 rintro x h' ⟨ag1,O8,K17,rfl,rfl⟩
 have K18:=bM (L':= [(some k39,.obj 161 ([.mpv k36])),(some k36,.mp (fW kI (r0:List Int))),(some k2,.obj 62 (aJ p1)),OC p0K r1 ag0 ag1 ng9.a gV,cP ag0 y2,cD ag1 y3,eO ng9.a r4,a8 gV ((p0.Vols.set p1.Vol.toNat ({ x2 with State:=2})).set p1.Vol.toNat ({ ({ x2 with State:=2}:aQ) with Files:=IntKind.wrap .i64 ((({ x2 with State:=2}:aQ).Files)+1)}))]) (dZ (dJ [OC p0K r1 ag0 ng8.a ng9.a gV,cP ag0 y2,cD ng8.a r3,eO ng9.a r4,a8 gV ((p0.Vols.set p1.Vol.toNat ({ x2 with State:=2})).set p1.Vol.toNat ({ ({ x2 with State:=2}:aQ) with Files:=IntKind.wrap .i64 ((({ x2 with State:=2}:aQ).Files)+1)}))] [(some k39,.obj 161 ([.mpv k36])),(some k36,.mp (fW kI (r0:List Int))),(some k2,.obj 62 (aJ p1))] (bM u [3,4,5,6,7,0,1,2] rfl rfl).2).1 K17) [5,6,7,0,1,2,3,4] rfl rfl
 exact qk K18.2 ((dO h [OC p0K r1 ag0 ag1 ng9.a gV,cP ag0 y2,cD ag1 y3,eO ng9.a r4,a8 gV ((p0.Vols.set p1.Vol.toNat ({ x2 with State:=2})).set p1.Vol.toNat ({ ({ x2 with State:=2}:aQ) with Files:=IntKind.wrap .i64 ((({ x2 with State:=2}:aQ).Files)+1)}))] [(some k39,.obj 161 ([.mpv k36])),(some k36,.mp (fW kI (r0:List Int))),(some k2,.obj 62 (aJ p1))]).trans K18.1) (eH m ag1 O8 (lx .nil))
 exact v0 (eH m ng8.a t1.k.a (lx .nil))
 rintro ag2 j4 O9 m
 refine vs (v0 (v0 ?_))
 cases m
 exact vr λu=>dW.of1 (.inl rfl) (gN _ _ (.sc (.int _ _)) rfl) (bQ u [3,4,5,6,7] rfl).2 (bD.refl _ _) ⟨ag0,O7,ag2,O9,ng9.a,t2.k.a,gV,(bK.set (bK.set oV)),(bQ u [3,4,5,6,7] rfl).1,rfl,rfl⟩
theorem aHH:aP Tryz.prog 74=true:=by kernel_rfl
open Go.Vm
def RP (m:Nat) (p0:List bH):Option (List bH):=app [] p0
theorem aHI {w:Nat} {p0:List bH} {o:List bH} (h:aF) (m:RP w p0=some o):
 aM Tryz.prog 170 [.sl none 32 (List.map bC p0)] h (λr h'=>∃t,(t=none→o= [])∧bP h [(t,.tok 36 32 (o.length*32))]∧r=ow t 32 (List.map bC o)∧h'=hp h [(t,.tok 36 32 (o.length*32))]):=by
 refine iT 8 [.tmp 2] Tryz.func170 rfl rfl rfl rfl ?_
 unfold RP at m
 refine fV λK1 H1=>dQ (qC (hH (.sc (.slice _ _ _)) rfl) (eS (H1 _ _ (fV λK1 H1=>fV λK2 H2=>dQ (vE rfl (kK (jK rfl (by rw[zT]; rfl) (by rw[bF]; exact rfl) (.inl ⟨_,_,_,rfl,λb hb=> ?_⟩))))))))
 refine eS (H2 _ _ (mM rfl (λhc=> ?_) (λhc=> ?_)))
 have h0:p0= []:=by
   cases p0 with
   | nil=>rfl
   | cons x l=>have:=hb (by simp); rw[this] at hc; cases hc
 subst h0
 obtain⟨rfl, -⟩:=jE m
 exact fV λK1 H1=>dQ (qC (hH (.sc (.slice _ _ _)) rfl) (eS (H1 _ _ (gZ (dW.one (.inl rfl) (iE.refl _) (gQ _ _) ⟨none,λ_=>rfl,bP.none (bP.nil _),rfl,rfl⟩)))))
 exact lE (H1 _ _ (fV λK1 H1=>dQ (kK (F4 (c:=bC) (bP.nil _) CA λu=>vE rfl (kK (fG (c:=bC) 0 m CA rfl rfl rfl (λ_=>rfl) u rfl λtg ot u=>qC (hH (ow _ _ _) rfl) (eS (H1 _ _ (gZ (dW.one (.inl rfl) (iE.refl _) (bD.refl _ _) ⟨tg,ot,u,rfl,rfl⟩))))))))))
theorem aBO:aP Tryz.prog 170=true:=by kernel_rfl
def IE (m:Nat) (p0:List cT):Option (List cT):=app [] p0
theorem aBP {w:Nat} {p0:List cT} {o:List cT} (h:aF) (m:IE w p0=some o):
 aM Tryz.prog 169 [.sl none 3 (List.map bX p0)] h (λr h'=>∃g:dD,bK g 3 o.length∧bP h [(g.t,.obj 70 (fl bX o g.sp))]∧r=aZ g∧h'=hp h [(g.t,.obj 70 (fl bX o g.sp))]):=by
 refine iT 8 [.tmp 2] Tryz.func169 rfl rfl rfl rfl ?_
 unfold IE at m
 refine fV λK1 H1=>dQ (qC (hH (.sc (.slice _ _ _)) rfl) (eS (H1 _ _ (fV λK1 H1=>fV λK2 H2=>dQ (vE rfl (kK (jK rfl (by rw[sM]; rfl) (by rw[bF]; exact rfl) (.inl ⟨_,_,_,rfl,λb hb=> ?_⟩))))))))
 refine eS (H2 _ _ (mM rfl (λhc=> ?_) (λhc=> ?_)))
 have h0:p0= []:=by
   cases p0 with
   | nil=>rfl
   | cons x l=>have:=hb (by simp); rw[this] at hc; cases hc
 subst h0
 obtain⟨rfl, -⟩:=jE m
 exact fV λK1 H1=>dQ (qC (hH (.sc (.slice _ _ _)) rfl) (eS (H1 _ _ (gZ (dW.one (.inl rfl) (iE.refl _) (fP _) ⟨g0,bK.g0 _,bP.none (bP.nil _),rfl,rfl⟩)))))
 exact lE (H1 _ _ (fV λK1 H1=>dQ (kK (qF (c:=bX) (bP.nil _) JR λu=>vE rfl (kK (f8 (c:=bX) 0 m JR rfl JS rfl wL rfl rfl (bK.g0 _) u rfl λg ok u=>qC (hH (aw _ _ _) rfl) (eS (H1 _ _ (gZ (dW.one (.inl rfl) (iE.refl _) (bD.refl _ _) ⟨g,ok,u,rfl,rfl⟩))))))))))
theorem aBQ:aP Tryz.prog 169=true:=by kernel_rfl
def tQ (m:Nat) (y9:(List cT)) (q0:List cT) (q1:Int):Option (Lp ((List cT)×Int) (bE)):=
 if (decide (q1 < (y9.length:Int)))=true then ((ix q0 q1).bind λx0=>(RP m x0.Ids).bind λy0=>(ix q0 q1).bind λx1=>some (.go (q0.set q1.toNat ({ x1 with Ids:=y0}),IntKind.wrap .i64 (q1+1)))) else some (.brk (q0,q1))
def NZ (m:Nat) (p0:bE):Option (bE):=
 (IE m p0.Parts).bind λy9=>after (aS (λs=>tQ m y9 s.1 s.2) m (y9,0)) λ⟨r0,r1⟩=>some ({ Name:=p0.Name,Parts:=r0}:bE)
theorem aHJ {w:Nat} {p0:bE} {o:bE} (h:aF) (m:NZ w p0=some o):
 aM Tryz.prog 115 [.agg (bI p0)] h (λr h'=>r= .agg (bI o)∧h'=h):=by
 refine fK 28 [.cell 2 58] Tryz.func115 rfl rfl rfl rfl ?_
 unfold NZ at m
 refine vs (v0 (gX rfl rfl λk2 K3=>ve λu=>bG ([.sc (.string ByteArray.empty),sZ]) u MF rfl rfl λk5 K6=>qk K6 rfl (vs (v0 (dX xR rfl rfl (vl 1 _ oH rfl rfl rfl ?_))))))
 obtain⟨y9,Y0,m⟩:=aD m
 refine ve λu=>dR (aBP _ Y0) rfl aBQ rfl ?_
 rintro x h' ⟨ag0,O0,K0,rfl,rfl⟩
 refine qk (bP.co u K0) (kM _ _ _) (dX xR rfl rfl (ve λu=>aL 2 ([.sc (.string p0.Name),aZ ag0]) u rfl rfl (cM rfl) (cG (cC _ _ _) rfl) UZ rfl rfl λK1=>qk K1 rfl (vs (vs (v0 (dX xR rfl rfl (vl 2 (aZ ag0) oH rfl rfl rfl (bU (fB zQ O0 rfl) (nW m (σ:=(List cT)×Int) (τ:=dD) (λg s=> [(g.t,.obj 70 (fl bX (s.1:List cT) g.sp)),(some k5,.obj 58 ([.sc (.string ByteArray.empty),sZ])),(some k2,.obj 58 ([.sc (.string p0.Name),aZ g]))]) (λg s=>bK g 3 (s.1:List cT).length) (λg s=>.c 1 (.ptr k2 0) (.c 2 (.ptr k5 0) (.c 10 (nZ (y9.length:Int)) (.c 11 (nZ s.2) .nil)))) ag0 O0 (lx (.k4 .nil)) ?_ ?_)))))))))
 rintro ag1 ⟨q0,q1⟩ x O1 m
 replace m:tQ w y9 q0 q1=some x:=m
 unfold tQ at m
 refine vs (v0 (vs (v0 ?_)))
 apply vi m <;> intro c0 m
 refine v0 (vs (v0 (vs (v0 (v0 (vz [(1000000,some k2,.obj 58 ([.sc (.string p0.Name),aZ ag1])),(12,ag1.t,.obj 70 (fl bX (q0:List cT) ag1.sp))] mixed (λu=>⟨λ_=>aO 2 u rfl,λ_=>aO 0 u rfl,trivial⟩) λu=>zF 0 rfl xR rfl (zL 1 0 (aZ ag1) rfl oH rfl rfl rfl (zI 2 rfl rfl (zF 3 rfl xR rfl (zL 4 0 (aZ ag1) rfl oH rfl rfl rfl (zI 5 rfl rfl ?_)))))))))))
 obtain⟨x0,X0,m⟩:=aD m
 refine zC 6 rfl (dF X0 sM O1 rfl rfl) (zC 7 rfl (cW (bK.ne O1 X0) MH rfl rfl) (zO 8 rfl (λ_ _ hi hB=>eJ (fo:=2) (.sl none 32 (List.map bC x0.Ids)) X0 wL O1 xU rfl (fS.get 1 hi rfl (hB 12 (by kernel_rfl))) (λ_=>rfl)) ?_))
 obtain⟨y0,Y1,m⟩:=aD m
 refine zE 9 rfl (dR (aHI _ Y1) rfl aBO rfl ?_)
 rintro x h' ⟨tg0,t0,K2,rfl,rfl⟩
 rw[kM]
 refine⟨⟨λ_=>aO 3 (bP.co u K2) rfl,λ_=>aO 1 (bP.co u K2) rfl,trivial⟩, ?_⟩
 obtain⟨x1,X1,m⟩:=aD m
 refine zC 10 rfl (dF X1 sM O1 rfl rfl) (zC 11 rfl (cW (bK.ne O1 X1) MH rfl rfl) (zE 12 rfl (GB (s:=23) (.sl none 32 (List.map bC y0)) (aU (.cons _ (.refl _)) (bP.co u K2)).1 (Fz.ale (aU (.cons _ (.refl _)) (bP.co u K2)).1 (sB _ 0 t0 (bP.co u K2) rfl (.refl _))) (cX (fo:=2) ({ x1 with Ids:=y0}:cT) 0 ((aU (.cons _ (.refl _)) (bP.co u K2)).2) X1 wL O1 rfl rfl rfl rfl (cS.refl _ _) VA rfl rfl λK4=>⟨⟨λ_=>aO 2 K4 rfl,λe=>absurd e (by decide),trivial⟩, ?_⟩))))
 exact zX (qk (f:=LW 25 _ _ _ _ _ _ _ _ _ _ _ _ _) K4 rfl (v0 (eH m ag1 (bK.set O1) (lx (.k4 .nil)))))
 exact v0 (lN m ag1 O1 (lx (.k4 .nil)))
 rintro ag2 ⟨r0,r1⟩ t1 m
 refine vs (v0 (vl 2 (.agg ([.sc (.string p0.Name),aZ ag2])) pQ rfl rfl rfl (ve λu=>aL 1 ([.sc (.string p0.Name),aZ ag2]) u rfl rfl rfl (by repeat (first | exact rfl | refine cG (jG _ _ _) ?_ | refine cG (cC _ _ _) ?_ | refine cG (gG _ _ _ _) ?_ | refine cG rfl ?_)) zR rfl rfl λK5=>qk K5 rfl ?_)))
 refine v0 ?_
 cases m
 refine vrl λu=> ?_
 obtain⟨K7,le0⟩:=f0.fzO (n:=28) (f:=_) 0 0 ([.sc (.string p0.Name),.sl none 3 (List.map bX r0)]) u rfl (.cons (Fz.refl _ _ _) (.cons (Fz.aw 0 wL t1 u rfl (.refl _)) .nil))
 exact P0.mk le0 (dW.of1 (.inl rfl) (sE (.agg (bI ({ Name:=p0.Name,Parts:=r0}:bE))) pQ rfl (aW 0 K7 rfl) rfl) (aU (List.nil_sublist _) K7).1 (bD.refl _ _) ⟨rfl,rfl⟩)
theorem aBR:aP Tryz.prog 115=true:=by kernel_rfl
end Go.Proofs.YtbbifdfldpfphaaGreat
