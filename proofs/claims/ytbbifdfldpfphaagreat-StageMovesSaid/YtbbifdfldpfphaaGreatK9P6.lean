import Derived.Test.YtbbifdfldpfphaaGreatK9P5
import Derived.Laws.Externs
import Derived.Test.YtbbifdfldpfphaaGreatK9P3
import Derived.Test.YtbbifdfldpfphaaGreatK9P4
set_option linter.unusedSimpArgs false
set_option linter.unusedVariables false
set_option maxHeartbeats 4000000
set_option maxRecDepth 100000
open Array(toList_append)
open Go.Builtin(append_ copy_ lenOf nextslicecap zeroCells)
open Go.Call(operands)
open Go.Instr(sliceAt)
open Int(toNat_natCast)
open Go.IntKind(i64 wrap wrap_i64)
open List(append_assoc drop_left flatten_cons flatten_nil length_append length_drop length_singleton length_take map map_append map_cons map_nil map_toArray mem_append mem_cons mem_of_mem_take nil_sublist take take_append_drop take_left)
open Go.Oper(wp)
open Option(bind_some map_none map_some)
open Go.Result(andThen_ok)
open Go.Sem(run run_bind run_pure)
open Go.Proofs.Tryz(func103 prog)
open Go.World(cell? shape?)
namespace Go.Vm
section
variable {P:Program}
theorem FJ (w:World) (dT sT ty e:TypeId) (i:TypeInfo) (hu:P.underlying dT=some (.slice e)) (hi:P.info? e=some i) (g o dLen dCap:Nat) (cur:Array Value) (hg:w.heap[g]? =some (.cells cur e (0,0)))
    (a:Addr) (sLen sCap:Nat) (cs:List Value) (hn:cs.length=min sLen dLen*i.size) (hsrc:∀j v,cs[j]? =some v->w.cell? (a.add j)=some v) (h1:∀v∈cs,v.oneCell'=true) (hfit:o+cs.length<=cur.size):
    (copy_ #[dT,sT] ty #[.slice (some ⟨g,o,none⟩) dLen dCap,.slice (some a) sLen sCap]).run P w=
      .ok (goInt (min sLen dLen:Nat)) (w.setRow g (cur.toList.take o++cs++cur.toList.drop (o+cs.length)).toArray):=by
  have hf:=run_firstCells_some (P:=P) w i.size (min sLen dLen) a sLen sCap cs hn hsrc
  have hst:=run_storeCells_at P g o e cs 0 cur w hg (by simpa using hfit) h1
  simp only[Nat.add_zero] at hst
  have hm:Nat.min sLen dLen=min sLen dLen:=rfl
  simp[copy_,run_underlying hu,lenOf,sizeOf,typeInfo,hi,hm,hf,hst]
variable {ops:Array Oper} {h h0:aF} {L:HL} {n:Nat} {kvs:KV} {l:List Oper} {ty:TypeId} {pos:String} {dP:Array Edge}
def I2 (h:aF) (x:AV) (m k:Nat) (cs:List AV):Prop:=∀E w v,eS E h w->VR E w x v->∃a cap cv,v= .slice (some a) m cap/\cP E w cs cv/\(∀u∈cv,u.oneCell'=true)/\(∀j u,cv[j]? =some u->w.cell? (a.add j)=some u)
theorem I2.sl {tag:Option bX} {sz:Nat} {ys:List (List AV)} (hne:ys≠ []) (k:Nat):I2 h (.sl tag sz ys) ys.length k ys.flatten:=by
 intro E w v r hv
 obtain⟨g,o,cap,cv,e,c1,c2,c3,c4⟩:=n6 hv hne
 exact⟨_,cap,cv,e,c1,c2,λj u hj=>by rw[Addr.add_lit]; exact(c4 j u hj).1⟩
theorem I2.view {k:bX} {off m c:Nat} {cs:List AV} {e:TypeId} (hk:h k=some (.obj e cs)):I2 h (.view k off m) m c ((cs.drop off).take c):=by
 intro E w v r hv
 simp only[VR] at hv
 obtain⟨g,cap,hg,rfl,h1,h2⟩:=hv
 obtain⟨g',cur,e1,e2,e3,e4⟩:=r.obj _ _ _ hk
 rw[hg] at e1; cases e1
 refine⟨_,cap,(cur.toList.drop off).take c,rfl,fT _ (jJ _ e3),λu hu=>e4 u (List.mem_of_mem_drop (mem_of_mem_take hu)),λj u hj=> ?_⟩
 rw[List.getElem?_take] at hj
 split at hj
 ·rw[List.getElem?_drop] at hj
  rw[Addr.add_lit]
  simp only[cell?,e2]
  simpa using hj
 ·cases hj
theorem OE {K:AV->aF->Prop} {dst:Option Tmp} {d s:Operand} {dT sT e:TypeId} {sz b:Nat} (ht:lZ P dT e sz b) {k:bX} {off n1 m:Nat} {cur cs:List AV} (hd:dK n kvs d= .view k off n1) (hk:h k=some (.obj e cur))
    (hs:I2 h (dK n kvs s) m cs.length cs) (hl:cs.length=min m n1*sz) (hfit:off+cs.length<=cur.length)
    (hK:K .any (upd h k (some (.obj e (eZ cur off cs))))):
    jF P ⟨dst,.call { callee:=.builtin .copy,args:= #[d,s],argTypes:= #[dT,sT]},ty,pos,dP,none⟩ K (fm n kvs) h:=by
  obtain⟨i,z,hi,hz,rfl,rfl,hzs,hsp⟩:=ht.inf
  intro E w a r hv Nx Qx hn
  have vd:=hv d (by simp[Op.operands,operands])
  have vs:=hv s (by simp[Op.operands,operands])
  rw[bI] at vd vs
  rw[hd] at vd
  simp only[VR] at vd
  obtain⟨g,dc,hg,ed,d1,d2⟩:=vd
  obtain⟨sa,sc,cv,es,c1,c2,c3⟩:=hs E w _ r vs
  obtain⟨g',cu,f1,f2,f3,f4⟩:=r.obj _ _ _ hk
  rw[hg] at f1; cases f1
  have hlen:cur.length=cu.size:=by simpa using cR f3
  have hcl:cs.length=cv.length:=cR c1
  have hrun:=FJ (P:=P) w dT sT ty e i ht.ut hi g off n1 dc cu f2 sa m sc cv (by rw[<- hcl]; exact hl) c3 c2 (by omega)
  have hv':cP E w (eZ cur off cs) (cu.toList.take off++cv++cu.toList.drop (off+cv.length)):=by
    unfold eZ
    rw[hcl]
    exact cT (cT (fT _ f3) c1) (jJ _ f3)
  have h1':∀u∈cu.toList.take off++cv++cu.toList.drop (off+cv.length),u.oneCell'=true:=by
    intro u hu
    rcases mem_append.1 hu with hu | hu
    . rcases mem_append.1 hu with hu | hu
      . exact f4 u (mem_of_mem_take hu)
      . exact c2 u hu
    . exact f4 u (List.mem_of_mem_drop hu)
  obtain⟨k1,k2⟩:=r.set_obj (cur:=(cu.toList.take off++cv++cu.toList.drop (off+cv.length)).toArray) hk hg
    (w':=w.setRow g (cu.toList.take off++cv++cu.toList.drop (off+cv.length)).toArray)
    (setRow_heap w g cu _ e _ f2) (λg' hg'=>setRow_other w g g' _ hg') (by simp) rfl rfl rfl (by simpa using hv') (by simpa using h1')
  unfold wp
  have hex:(execOp a.eval ⟨dst,.call { callee:=.builtin .copy,args:= #[d,s],argTypes:= #[dT,sT]},ty,pos,dP,none⟩).run P w= .ok (.value (goInt (min m n1:Nat))) (w.setRow g (cu.toList.take off++cv++cu.toList.drop (off+cv.length)).toArray):=by
    simp only[execOp,resolve,invoke,builtin,map_toArray,map_cons,map_nil,ed,es,run_bind,run_pure,andThen_ok,hrun]
  rw[hex]
  exact hn .any _ _ E _ k1 k2 (by simp only[VR]) hK
theorem qC {K:AV->aF->Prop} {dst:Option Tmp} {d s:Operand} {dT sT e:TypeId} {sz b:Nat} (p:Nat) (ht:lZ P dT e sz b) (hk:bT h0 L) {k:bX} {off n1 m:Nat} {cur cs:List AV} (hd:dK n kvs d= .view k off n1) (hi:L[p]? =some (some k,.obj e cur))
    (hs:I2 (hp h0 L) (dK n kvs s) m cs.length cs) (hl:cs.length=min m n1*sz) (hfit:off+cs.length<=cur.length) (cur':List AV) (hc:eZ cur off cs=cur')
    (hK:bT h0 (L.set p (some k,.obj e cur'))->K .any (hp h0 (L.set p (some k,.obj e cur')))):
    jF P ⟨dst,.call { callee:=.builtin .copy,args:= #[d,s],argTypes:= #[dT,sT]},ty,pos,dP,none⟩ K (fm n kvs) (hp h0 L):=by
  subst hc
  obtain⟨h1,h2,_⟩:=kV (e':=.obj e (eZ cur off cs)) p hk hi (.inl rfl)
  refine OE ht hd (a9 p hk hi) hs hl hfit ?_
  rw[h1]
  exact hK h2
theorem OF {dst:Option Tmp} {s:Operand} {t e:TypeId} {k:bX} {m cap:Nat} (hu:P.underlying t=some (.slice e)) (ha:dK n kvs s= .vw k m cap):
    eK P ⟨dst,.call { callee:=.builtin .cap,args:= #[s],argTypes:= #[t]},ty,pos,dP,none⟩ (.sc (.int .i64 cap)) (fm n kvs) h:=by
  refine eE (x:=.sc (.int .i64 cap)) (λE w ac r hv=> ?_) ⟨rfl,rfl⟩
  have vs:=hv s (by simp[Op.operands,operands])
  rw[bI,ha] at vs
  simp only[VR] at vs
  obtain⟨g,hg,es,h1,h2⟩:=vs
  refine⟨.int .i64 cap, ?_,by simp only[VR]⟩
  simp[execOp,resolve,invoke,builtin,es,Builtin.cap_,run_underlying hu,goInt]
theorem I3 {dst:Option Tmp} {s:Nat} {hi:Operand} {t:TypeId} {k:bX} {m cap sz:Nat} {q:IntKind} {i:Int} (h0':0<=i) (h1':i<=(cap:Int)) (ht:nW P t=some sz) (ha:dK n kvs (.tmp s)= .vw k m cap) (hb:dK n kvs hi= .sc (.int q i)):
    eK P ⟨dst,.slice t (.tmp s) none (some hi) none,ty,pos,dP,none⟩ (.vw k i.toNat cap) (fm n kvs) h:=by
  obtain⟨e,hu,he⟩:=hH ht
  refine eE (x:=.vw k i.toNat cap) (λE w ac r hv=> ?_) ⟨rfl,rfl⟩
  have va:=hv (.tmp s) (by simp[Op.operands])
  have vb:=hv hi (by simp[Op.operands])
  rw[bI,ha] at va; rw[bI,hb] at vb
  simp only[VR] at va vb
  obtain⟨g,hg,e1,e2,e3⟩:=va
  have hbd:=iA (P:=P) (w:=w) (sl:=true) (len:=m) (cap:=cap) (l:=0) (h:=i) (lo:=none) (hi:=some (.sc (.int q i))) (lv:=none) (hv:=some (.int q i)) rfl rfl (E:=E) nofun (λ_=>rfl)
    (λx hx=>by cases hx; exact⟨_,rfl,by simp only[VR]⟩) nofun (by omega) h0' (by omega)
  refine⟨.slice (some ⟨g,0,none⟩) i.toNat cap, ?_,by simp only[VR]; exact⟨g,hg,rfl,by omega,e3⟩⟩
  by_cases hz:cap=0
  . subst hz
    have hi0:i.toNat=0:=by omega
    simp[execOp,e1,vb,sliceAt,Instr.slice,run_underlying hu,hbd,cU he,hi0]
  . have:¬cap=(0:Int).toNat:=by simpa using hz
    simp[execOp,e1,vb,sliceAt,Instr.slice,run_underlying hu,hbd,cU he,hz,Addr.add]
theorem aCE {dst:Option Tmp} {s:Nat} {lo:Operand} {t:TypeId} {k:bX} {m cap sz:Nat} {q:IntKind} {i:Int} (h0':0<=i) (h1':i<=(m:Int)) (ht:nW P t=some sz) (ha:dK n kvs (.tmp s)= .vw k m cap) (hb:dK n kvs lo= .sc (.int q i)):
    eK P ⟨dst,.slice t (.tmp s) (some lo) none none,ty,pos,dP,none⟩ .any (fm n kvs) h:=by
  obtain⟨e,hu,he⟩:=hH ht
  refine eE (x:=.any) (λE w ac r hv=> ?_) ⟨rfl,rfl⟩
  have va:=hv (.tmp s) (by simp[Op.operands])
  have vb:=hv lo (by simp[Op.operands])
  rw[bI,ha] at va; rw[bI,hb] at vb
  simp only[VR] at va vb
  obtain⟨g,hg,e1,e2,e3⟩:=va
  have hbd:=iA (P:=P) (w:=w) (sl:=true) (len:=m) (cap:=cap) (l:=i) (h:=m) (lo:=some (.sc (.int q i))) (hi:=none) (lv:=some (.int q i)) (hv:=none) rfl rfl (E:=E) (λx hx=>by cases hx; exact⟨_,rfl,by simp only[VR]⟩) nofun
    nofun (λ_=>rfl) h0' h1' (by omega)
  refine⟨.slice (if cap=i.toNat then some ⟨g,0,none⟩ else some (Addr.add ⟨g,0,none⟩ (i.toNat*sz))) (m - i.toNat) (cap - i.toNat), ?_,by simp only[VR]⟩
  simp[execOp,e1,vb,sliceAt,Instr.slice,run_underlying hu,hbd,cU he]
theorem nS {dst:Option Tmp} {s:Nat} {lo:Operand} {t:TypeId} {k:bX} {m cap sz:Nat} {q:IntKind} {i:Int} (h0':0<=i) (h1':i < (m:Int)) (ht:nW P t=some sz) (ha:lk n kvs s= .vw k m cap) (hb:dK n kvs lo= .sc (.int q i)):
    eK P ⟨dst,.slice t (.tmp s) (some lo) none none,ty,pos,dP,none⟩ (.view k (i.toNat*sz) (m - i.toNat)) (fm n kvs) h:=by
  have hT:D7 P t=true:=by simp[D7,ht]
  refine sU (s:=s) (.view k 0 m) (by rw[ha]; exact CL _ _ _ _) (kA (c:=0<=i/\i < (m:Int)/\(m:Int)<=m) ?_ ⟨h0',h1',by omega⟩)
  have e:dK n (kp kvs s (.view k 0 m)) (.tmp s)= .view k 0 m:=EL ha (by simp)
  have e2:dK n (kp kvs s (.view k 0 m)) lo= .sc (.int q i):=GY ha (by simp) hb
  simp only[pv,bI,e,map_some,e2,map_none,B3,ht,bind_some,oO,lH,hT,if_true,Nat.zero_add,toNat_natCast]
theorem OH {K:AV->aF->Prop} {dst:Option Tmp} {s x:Operand} {t tn e:TypeId} {sz b:Nat} {ik:IntKind} {zv:List Value} (p:Nat) (ht:lZ P t e sz b) (htn:P.underlying tn=some (.int ik)) (hzr:sD P e=some zv) (hzo:zv.all (·.oneCell')=true) (hpos:0 < sz)
    (hk:bT h0 L) {k:bX} {i m cap:Nat} {cs:List AV} (ha:dK n kvs s= .vw k i cap) (hi:L[p]? =some (some k,.obj e cs)) (hx:dK n kvs x= .sc (.int ik (m:Int))) (hfull:cap < i+m) (hcs:i*sz<=cs.length) (hb:(i+m)*(b+1)<=140737488355328)
    (k2:∀(q:bX) (cap':Nat) (R:List AV),i+m<=cap'->cap'<=maxLen->i*sz+R.length=cap'*sz->bT h0 ((some q,.obj e (cs.take (i*sz)++R))::L)->K (.vw q (i+m) cap') (hp h0 ((some q,.obj e (cs.take (i*sz)++R))::L))):
    jF P ⟨dst,.call { callee:=.builtin .append,args:= #[s,x],argTypes:= #[t,tn]},ty,pos,dP,none⟩ K (fm n kvs) (hp h0 L):=by
  obtain⟨ii,z,hii,hz,rfl,rfl,hzs,hsp⟩:=ht.inf
  have hzc:∀u∈z.cells.toList,u.oneCell'=true:=by
    have:zv=z.cells.toList:=by
      unfold sD at hzr
      rw[hii] at hzr
      simp only[bind_some,hz,map_some,Option.some.injEq] at hzr
      exact hzr.symm
    subst this
    exact λu hu=>List.all_eq_true.1 hzo u hu
  rw[Nat.mul_add,Nat.mul_one] at hb
  intro E w a r hv Nx Qx hn
  have vs:=hv s (by simp[Op.operands,operands])
  have vx:=hv x (by simp[Op.operands,operands])
  rw[bI] at vs vx
  rw[ha] at vs; rw[hx] at vx
  simp only[VR] at vs vx
  obtain⟨g,hg,es,h1,h2⟩:=vs
  obtain⟨g',cur,f1,f2,f3,f4⟩:=r.obj _ _ _ (a9 p hk hi)
  rw[hg] at f1; cases f1
  have hlen:cs.length=cur.size:=by simpa using cR f3
  have htl:(cur.toList.take (i*ii.size)).length=i*ii.size:=by
    rw[length_take]
    have:cur.toList.length=cur.size:=by simp
    omega
  have hold:∀j u,(cur.toList.take (i*ii.size))[j]? =some u->w.drew.cell? ((⟨g,0,none⟩:Addr).add j)=some u:=by
    intro j u hj
    rw[Addr.add_lit,Nat.zero_add]
    rw[List.getElem?_take] at hj
    split at hj
    . show w.cell? ⟨g,j,none⟩=some u
      simp only[cell?,f2]
      simpa using hj
    . cases hj
  have hf:=run_firstCells_some (P:=P) w.drew ii.size i ⟨g,0,none⟩ i cap (cur.toList.take (i*ii.size)) htl hold
  have hm0:0 < m:=by omega
  have hw:i64.wrap (m:Int)=m:=by rw[wrap_i64]; omega
  have hnn:¬((m:Int) < 0):=by omega
  have hfit:nextslicecap (i+m) cap*ii.bytes<=281474976710656:=growslice_fits (by omega) (by omega)
  have hmb:¬(281474976710656 < (m:Int)*(ii.bytes:Int)):=by
    rw[<- Int.natCast_mul]
    have:m*ii.bytes<=(i+m)*ii.bytes:=Nat.mul_le_mul_right _ (by omega)
    omega
  have hnr:¬(i+m<=cap):=by omega
  have h63:¬(9223372036854775807 < (i:Int)+(m:Int)):=by omega
  have hnf:¬(281474976710656 < nextslicecap (i+m) cap*ii.bytes):=by omega
  have hns:¬(m*ii.size=0):=Nat.mul_ne_zero (by omega) (by omega)
  have hm00:m≠0:=by omega
  have hsz0:ii.size≠0:=by omega
  have hrun:(append_ #[t,tn] ty #[.slice (some ⟨g,0,none⟩) i cap,.int ik m]).run P w=
      .ok (.slice (some ⟨w.heap.size,0,none⟩) (i+m) (grownCap w (i+m) cap e)) (w.drew.alloc (.cells ((cur.toList.take (i*ii.size)).toArray++zeroCells z.cells m++zeroCells z.cells (grownCap w (i+m) cap e - (i+m))) e)):=by
    simp[append_,run_underlying ht.ut,run_underlying htn,sizeOf,typeInfo,zeroValue,hii,hz,asInt,asIntOf,hw,hnn,hmb,hnr,h63,hnf,hns,hm00,hsz0,Question.forced,hf,newRow,grownCap]
  have hge:=grownCap_ge w (i+m) cap e
  have hcm:grownCap w (i+m) cap e<=maxLen:=grownCap_le_maxLen w (i+m) cap e (by simp only[maxLen]; omega)
  generalize hgc:grownCap w (i+m) cap e=gc at hge hcm hrun
  obtain⟨rd,kd⟩:=r.drewn (w.drawn+1)
  have rd':eS E (hp h0 L) w.drew:=rd
  obtain⟨nn,hE1⟩:=rd'.fresh 0
  have hlz:∀q,(zeroCells z.cells q).toList.length=q*ii.size:=λq=>by rw[Array.length_toList,size_zeroCells,hzs]
  have hvl:cP E w.drew (cs.take (i*ii.size)++List.replicate ((zeroCells z.cells m).toList.length+(zeroCells z.cells (gc - (i+m))).toList.length) AV.any) ((cur.toList.take (i*ii.size)).toArray++zeroCells z.cells m++zeroCells z.cells (gc - (i+m))).toList:=by
    rw[toList_append,toList_append,append_assoc]
    exact cT (cB kd _ _ (fT _ f3)) (sI _ (by rw[length_append]))
  obtain⟨E',e1,e2,e3⟩:=eS.new_obj (w:=w.drew) rd' hE1 e hvl (by
    intro v hv
    rw[toList_append,toList_append] at hv
    rcases mem_append.1 hv with hv | hv
    . rcases mem_append.1 hv with hv | hv
      . exact f4 v (mem_of_mem_take (by simpa using hv))
      . exact kB hzc v hv
    . exact kB hzc v hv)
  unfold wp
  have hex:(execOp a.eval ⟨dst,.call { callee:=.builtin .append,args:= #[s,x],argTypes:= #[t,tn]},ty,pos,dP,none⟩).run P w= .ok (.value (.slice (some ⟨w.heap.size,0,none⟩) (i+m) gc)) (w.drew.alloc (.cells ((cur.toList.take (i*ii.size)).toArray++zeroCells z.cells m++zeroCells z.cells (gc - (i+m))) e)):=by
    simp only[execOp,resolve,invoke,builtin,map_toArray,map_cons,map_nil,es,vx,run_bind,run_pure,andThen_ok,hrun]
  rw[hex]
  have hno:hp h0 L (0,nn)=none:=by
    cases hh:hp h0 L (0,nn) with
    | none=>rfl
    | some en=>exact absurd (r.hus _ _ hh) hE1
  have hkk:=k2 (0,nn) gc (List.replicate ((zeroCells z.cells m).toList.length+(zeroCells z.cells (gc - (i+m))).toList.length) AV.any) hge hcm (by
    rw[List.length_replicate,hlz,hlz,<- Nat.add_mul,<- Nat.add_mul]
    congr 1; omega) ⟨hk,λk e=>by cases e; exact hno⟩
  refine hn (.vw (0,nn) (i+m) gc) _ _ E' _ (kd.trans e2) e3 ?_ hkk
  simp only[VR]
  exact⟨_,e1,rfl,hge,hcm⟩
theorem uC {K : AV → aF → Prop} {dst : Option Tmp} {x y : Operand} {ts : Array TypeId} {f : FuncId} {fn : Func} {tS tR e : TypeId} {sz : Nat} (hf : P.funcs[f]? = some fn) (hname : (fn.name == "runtime.NumGoroutine") = false)
    (hb:fn.body.isNone=true) (hn':Extern.findNext fn=none) (he:Extern.find fn=some (Extern.SlicesOverlaps.overlaps #[tS,tS] #[tR])) {b:Nat} (het:lZ P tS e sz b) {ys:List (List AV)} (hne:ys≠ []) {k:bX} {off m:Nat} {cs:List AV} {ty2:TypeId}
    (hsz:0 < sz) (hx:dK n kvs x= .sl none sz ys) (hy:dK n kvs y= .view k off m) (hk:h k=some (.obj ty2 cs)) (hcs:0 < cs.length) (k1:K (.sc (.bool false)) h):
    jF P ⟨dst,.call { callee:=.value (.func f),args:= #[x,y],argTypes:=ts},ty,pos,dP,none⟩ K (fm n kvs) h:=by
  obtain⟨ii,z,hii, -, -, -, -, -⟩:=het.inf
  have ht:=het.ut
  refine eE (x:=.sc (.bool false)) (λE w a r hv=> ?_) k1
  have vx:=hv x (by simp[Op.operands,operands])
  have vy:=hv y (by simp[Op.operands,operands])
  rw[bI] at vx vy
  rw[hx] at vx; rw[hy] at vy
  have hall:∀z∈ys,z.length=sz:=by
    have:=vx
    simp only[VR] at this
    obtain⟨_,_,_,_,_,_,h4,_⟩:=this
    exact h4
  obtain⟨gb,o,cap,cv,ex,c1,c2,c3,c4⟩:=n6 vx hne
  simp only[VR] at vx vy
  obtain⟨g,yc,hg,ey,y1,y2⟩:=vy
  obtain⟨a0,cap0,ea, -, -,h3, -, -⟩:=vx
  obtain⟨g',cur,f1,f2,f3,f4⟩:=r.obj _ _ _ hk
  rw[hg] at f1; cases f1
  have hlen:cs.length=cur.size:=by simpa using cR f3
  have hcl:0 < cv.length:=by
    rw[c3]
    exact Nat.mul_pos (List.length_pos_iff.2 hne) hsz
  obtain⟨u,hu⟩:∃u,cv[0]? =some u:=⟨cv[0],List.getElem?_eq_getElem hcl⟩
  obtain⟨hc0,hp0⟩:=c4 0 u hu
  rw[Nat.add_zero] at hc0
  have himm:E.imm gb o:=by
    rcases hp0 with h5 | ⟨kk,t,h5,_⟩
    . simpa using h5
    . cases h5
  have hbne:gb≠g:=λq=>(r.dis k g (.inl ⟨_,rfl,hk,hg⟩)).2 o (q ▸ himm)
  have hb1:(gb !=g)=true:=by simpa using hbne
  have hb2:(gb==g)=false:=by simpa using hbne
  obtain⟨bs,bt,bz,hblk⟩:∃cells ty fz,w.heap[gb]? =some (.cells cells ty fz):=by
    cases hh:w.heap[gb]? with
    | none=>simp[cell?,hh] at hc0
    | some ob=>cases ob with
      | cells a b c=>exact⟨a,b,c,rfl⟩
      | _=>simp[cell?,hh] at hc0
  have hsa:w.shape? gb=some (bt,bs.size):=by simp[shape?,hblk]
  have hsb:w.shape? g=some (ty2,cur.size):=by simp[shape?,f2]
  have hfb:∀off,w.frozen? ⟨g,off,none⟩=false:=λoff=>by simp[World.frozen?,f2]
  have hcz:cur.size≠0:=by omega
  have hbz:bs.size≠0:=by
    intro hz
    have:bs= #[]:=by simpa using hz
    rw[this] at hblk
    simp[cell?,hblk] at hc0
  have hrun:(Extern.SlicesOverlaps.overlaps #[tS,tS] #[tR] #[.slice (some ⟨gb,o,none⟩) ys.length cap,.slice (some ⟨g,off,none⟩) m yc]).run P w= .ok (.bool false) w:=by
    refine (Sem.run_bind (x:=underlying tS) ..).trans ?_
    rw [run_underlying ht]
    simp only [Result.andThen_ok]
    have hsz':(sizeOf e).run P w= .ok ii.size w:=by simp[sizeOf,typeInfo,hii]
    by_cases hz:ys.length=0\/m=0\/ii.size=0
    . rcases hz with hz | hz | hz
      . exact absurd (List.length_eq_zero_iff.1 hz) hne
      . simp[run_underlying ht,hsz',hz]
      . simp[run_underlying ht,hsz',hz]
    . cases hsc:cur.size with
      | zero=>exact absurd hsc hcz
      | succ q=>
        cases hbc:bs.size with
        | zero=>exact absurd hbc hbz
        | succ q2=>
        rw[hsc] at hsb
        rw[hbc] at hsa
        simp[run_underlying ht,hsz',hz,hb1,hb2,frozen,noView,viewAt,mayBeOne,stringish,shape,run,hsa,hsb,hfb]
  refine⟨.bool false, ?_,by simp only[VR]⟩
  rw[ex] at ea
  have hfu:a.eval (.func f)= .func (.func f) #[] #[]:=rfl
  simp only[execOp,resolve,hfu,Deferred.ofValue,invoke,map_toArray,map_cons,map_nil,run_bind,run_pure,andThen_ok,ex,ey]
  simp[run_callFunc_extern hf hname hb hn' he,hrun]
end
section
variable {α:Type} {c:α->List AV} {sz:Nat}
def qY (xs:List α) (i:Int) (x:α):Option (List α):=if 0<=i/\i<=(xs.length:Int)/\xs.length < 1000000000 then some (xs.take i.toNat++x::xs.drop i.toNat) else none
theorem mR {xs o:List α} {i:Int} {x:α} (h:qY xs i x=some o):0<=i/\i<=(xs.length:Int)/\xs.length < 1000000000/\o=xs.take i.toNat++x::xs.drop i.toNat:=by
 unfold qY at h
 split at h
 ·rename_i q; cases h; exact⟨q.1,q.2.1,q.2.2,rfl⟩
 ·cases h
theorem I4 {xs:List α} {x:α} (h:xs.length < 1000000000):app xs [x]=some (xs++ [x]):=by
 unfold app
 rw[if_pos (by simp only[length_append,length_singleton]; omega)]
theorem OI {P:Program} {n:Nat} {kvs:KV} {h:aF} {ty:TypeId} {pos:String} {dP:Array Edge} {dst:Option Tmp} {s:Nat} {lo:Operand} {t:TypeId} {g:cY} {m:Nat} {q:IntKind} {i:Int} (h0':0<=i) (h1':i<=(m:Int)) (ok:bJ g sz m) (ht:nW P t=some sz) (ha:dK n kvs (.tmp s)=aw g.t g.n g.cap) (hb:dK n kvs lo= .sc (.int q i)):
    eK P ⟨dst,.slice t (.tmp s) (some lo) none none,ty,pos,dP,none⟩ .any (fm n kvs) h:=by
  rw[ok.eqn] at ha
  cases ht':g.t with
  | some k=>rw[ht'] at ha; exact aCE h0' h1' ht ha hb
  | none=>
    rw[ht'] at ha
    have:=ok.nil ht'
    have hi0:i=0:=by omega
    subst hi0
    have hT:D7 P t=true:=by simp[D7,ht]
    have ha:dK n kvs (.tmp s)= .e0:=ha
    refine gR (x:=.e0) (kA (c:=(0:Int)=0/\(0:Int)=0) ?_ ⟨rfl,rfl⟩) (λ_ _ _ _ _=>by simp only[VR])
    simp only[pv,bI,ha,map_some,hb,map_none,B3,ht,bind_some,oO,lH,hT,if_true]
theorem BR (hc:∀y,(c y).length=sz) {xs:List α} {i:Nat} (hi:i<=xs.length) (sp:List AV):
    fl c xs sp=((xs.take i).map c).flatten++(((xs.drop i).map c).flatten++sp)/\((xs.take i).map c).flatten.length=i*sz/\((xs.drop i).map c).flatten.length=(xs.length - i)*sz/\
      ∀(x:α) (sp':List AV),fl c (xs.take i++x::xs.drop i) sp'=((xs.take i).map c).flatten++(c x++(((xs.drop i).map c).flatten++sp')):=by
  refine⟨?_, ?_, ?_,λx sp'=> ?_⟩
  . unfold fl
    rw[<- append_assoc,<- List.flatten_append,<- map_append,take_append_drop]
  . rw[mY hc,length_take]; congr 1; omega
  . rw[mY hc,length_drop]
  . unfold fl
    simp[map_append,List.flatten_append]
theorem jQ {A B B' C:List AV} {n:Nat} (hn:A.length=n) (hb:B.length=B'.length):eZ (A++(B++C)) n B'=A++(B'++C):=by
 subst hn
 unfold eZ
 rw[take_left,<- hb,<- append_assoc A B C,show A.length+B.length=(A++B).length from by simp,drop_left]
 simp
end
section
variable {α β:Type} {l:α->List β} {sz szi:Nat} {ty:TypeId} {ci:β->List AV} {h0:aF} {L L':HL}
def lU (gs:List OG) (i:Nat) (og:OG):List OG:=gs.take i++og::gs.drop i
theorem FK {γ δ:Type}:∀(i:Nat) (xs:List γ) (gs:List δ),(xs.take i).zip (gs.take i)=(xs.zip gs).take i
 | 0,_,_=>by simp
 | i+1,[],_=>by simp
 | i+1,_::_,[]=>by simp
 | i+1,x::xs,g::gs=>by simp[FK i xs gs]
theorem FL {γ δ:Type}:∀(i:Nat) (xs:List γ) (gs:List δ),(xs.drop i).zip (gs.drop i)=(xs.zip gs).drop i
 | 0,_,_=>by simp
 | i+1,[],_=>by simp
 | i+1,_::_,[]=>by simp
 | i+1,x::xs,g::gs=>by simp[FL i xs gs]
theorem I5 {xs:List α} {gs:List OG} (hl:gs.length=xs.length) (i:Nat) (x:α) (og:OG):zg (xs.take i++x::xs.drop i) (lU gs i og)=(zg xs gs).take i++(x,og)::(zg xs gs).drop i:=by
 unfold zg lU
 rw[List.zip_append (by simp[hl]),List.zip_cons_cons,FK,FL]
theorem SK {xs y:List α} {gs:List OG} (hl:gs.length=xs.length) {i:Int} {x:α} (og:OG) (h:qY xs i x=some y):qY (zg xs gs) i (x,og)=some (zg y (lU gs i.toNat og)):=by
 obtain⟨h1,h2,h3,rfl⟩:=mR h
 unfold qY
 rw[v8 hl,if_pos ⟨h1,h2,h3⟩,I5 hl]
theorem OJ {xs y:List α} {gs:List OG} (hl:gs.length=xs.length) {i:Int} {x:α} (og:OG) (h:qY xs i x=some y):(nl l (zg y (lU gs i.toNat og))).Perm ((l x,og)::nl l (zg xs gs)):=by
 obtain⟨h1,h2,h3,rfl⟩:=mR h
 rw[I5 hl]
 unfold nl
 rw[map_append,map_cons]
 refine List.perm_middle.trans (List.Perm.cons _ ?_)
 rw[<- map_append,take_append_drop]
theorem OL {xs y:List α} {i:Int} {x:α} (h:qY xs i x=some y):y.length=xs.length+1:=by
 obtain⟨h1,h2,h3,rfl⟩:=mR h
 simp only[length_append,length_take,List.length_cons,length_drop]
 omega
theorem tZ.ins {g:dC} {xs y:List α} (ok:tZ l sz szi g xs) {i:Int} {x:α} (h:qY xs i x=some y) (hx:l x= []) {g':cY} (og:OG) (hog:∀g2,og=some g2->bJ g2 szi 0) (ok':bJ g' sz (zg y (lU g.gs i.toNat og)).length):tZ l sz szi ⟨g',lU g.gs i.toNat og⟩ y:=by
 obtain⟨h1,h2,h3,e⟩:=mR h
 have hl:(lU g.gs i.toNat og).length=y.length:=by
  rw[OL h,lU]
  have:=ok.len
  simp only[length_append,length_take,List.length_cons,length_drop]
  omega
 refine⟨by rw[v8 hl] at ok'; exact ok',hl,λz hz g2 hg2=> ?_⟩
 have hz2:=(OJ (l:=l) ok.len og h).mem_iff.1 hz
 rcases mem_cons.1 hz2 with rfl | hz2
 ·simp only[hx]
  exact hog g2 hg2
 ·exact ok.el z hz2 g2 hg2
theorem mH.ins {g:dC} {xs y:List α} (ok:mH l sz szi g xs) {i:Int} {x:α} (h:qY xs i x=some y) (hx:l x= []) {g':cY} (ok':bJ g' sz (zg y (lU g.gs i.toNat (some g0))).length):mH l sz szi ⟨g',lU g.gs i.toNat (some g0)⟩ y:=
 ⟨ok.k.ins h hx (some g0) (λg2 e=>by cases e; exact bJ.g0 szi) ok',λog ho=>by
  unfold lU at ho
  rcases mem_append.1 ho with ho | ho
  ·exact ok.own og (mem_of_mem_take ho)
  ·rcases mem_cons.1 ho with rfl | ho
   ·exact nofun
   ·exact ok.own og (List.mem_of_mem_drop ho)⟩
theorem SM (hk:bT h0 L) (bl:List HL) (hL:iN bl=L) (b:Nat) {xs y:List α} {gs:List OG} (hl:gs.length=xs.length) {i:Int} {x:α} {og:OG} (hog:oT og=none) (h:qY xs i x=some y) (hb:bl[b]? =some (kP ty ci (nl l (zg xs gs))))
    (hL':iN (bl.set b (kP ty ci (nl l (zg y (lU gs i.toNat og)))))=L'):hp h0 L=hp h0 L'/\bT h0 L':=by
  subst hL hL'
  have p:(kP ty ci (nl l (zg y (lU gs i.toNat og)))).Perm ((none,.obj ty (fl ci (l x) (oS og)))::kP ty ci (nl l (zg xs gs))):=by
    have:=(OJ (l:=l) hl og h).map λz:List β×OG=>(oT z.2,jC.obj ty (fl ci z.1 (oS z.2)))
    simp only[map_cons,hog] at this
    exact this
  obtain⟨e1,k1⟩:=iH (o6 hb) hk
  have k2:bT h0 ((none,jC.obj ty (fl ci (l x) (oS og)))::(kP ty ci (nl l (zg xs gs))++(bl.eraseIdx b).flatten)):=⟨k1,nofun⟩
  obtain⟨e3,k3⟩:=iH ((p.append_right _).symm.trans (qB _ hb).symm) k2
  exact⟨e1.trans e3,k3⟩
end
end Go.Vm
namespace Go.Proofs.YtbbifdfldpfphaaGreat
open Go.Vm
def jR (y:aB×OG):List AV:=bF y.1.Id++([.sc (.bool y.1.Staged),.sl none 1 (map gG y.1.Data),awO aO 4 y.2 y.1.Locs]:List AV)
theorem i8:∀y,(jR y).length=35:=λy=>by first | rfl | simp[jR,bF,bK.len]
theorem FM:∀(H:aF) (y:aB×OG),Br H (awO aO 4 y.2 y.1.Locs) (.sl none 4 (y.1.Locs.map aO))->uZ H (jR y) (aK y.1):=λH y b=>uZ.app 32 rfl (.cons (Br.refl _ _) (.cons (Br.refl _ _) (.cons b .nil)))
theorem oH:∀(H H':aF) (y:aB×OG),Fz H H' (awO aO 4 y.2 y.1.Locs) (.sl none 4 (y.1.Locs.map aO))->pT H H' (jR y) (aK y.1):=λH H' y b=>pT.app 32 rfl (.cons (Fz.refl _ _ _) (.cons (Fz.refl _ _ _) (.cons b .nil)))
def lA (y:aI×OG):List AV:=[.sc (.int .i64 y.1.Seq),.sc (.string y.1.Man.Name),.sl none 3 (map cC y.1.Man.Parts),awO aO 4 y.2 y.1.Locs]
theorem lB:∀y,(lA y).length=4:=λy=>by first | rfl | simp[lA,bF,bK.len]
theorem qU:∀(H H':aF) (y:aI×OG),Fz H H' (awO aO 4 y.2 y.1.Locs) (.sl none 4 (y.1.Locs.map aO))->pT H H' (lA y) (bQ y.1):=λH H' y b=>.cons (Fz.refl _ _ _) (.cons (Fz.refl _ _ _) (.cons (Fz.refl _ _ _) (.cons b .nil)))
def lP (y:aQ×OG):List AV:=[.sc (.int .i64 y.1.Seq),.sc (.int .i64 y.1.Of),awO aO 4 y.2 y.1.Locs]
theorem o8:∀y,(lP y).length=3:=λy=>by first | rfl | simp[lP,bF,bK.len]
theorem XB:∀(H:aF) (y:aQ×OG),Br H (awO aO 4 y.2 y.1.Locs) (.sl none 4 (y.1.Locs.map aO))->uZ H (lP y) (cE y.1):=λH y b=>.cons (Br.refl _ _) (.cons (Br.refl _ _) (.cons b .nil))
theorem wA:∀(H H':aF) (y:aQ×OG),Fz H H' (awO aO 4 y.2 y.1.Locs) (.sl none 4 (y.1.Locs.map aO))->pT H H' (lP y) (cE y.1):=λH H' y b=>.cons (Fz.refl _ _ _) (.cons (Fz.refl _ _ _) (.cons b .nil))
abbrev bO (g:cY) (e:List aB):Option bX×jC:=(g.t,.obj 44 (fl aK e g.sp))
abbrev aX (g:dC) (e:List aB):Option bX×jC:=(g.a.t,.obj 44 (fl jR (zg e g.gs) g.a.sp))
abbrev aY (g:dC) (e:List aB):HL:=kP 81 aO (nl aB.Locs (zg e g.gs))
abbrev aV (g:cY) (e:List aR):Option bX×jC:=(g.t,.obj 49 (fl dN e g.sp))
abbrev bU (g:cY) (e:List aI):Option bX×jC:=(g.t,.obj 60 (fl bQ e g.sp))
abbrev bH (g:dC) (e:List aI):Option bX×jC:=(g.a.t,.obj 60 (fl lA (zg e g.gs) g.a.sp))
abbrev bL (g:dC) (e:List aI):HL:=kP 81 aO (nl aI.Locs (zg e g.gs))
abbrev fG (g:cY) (e:List aS):Option bX×jC:=(g.t,.obj 81 (fl aO e g.sp))
abbrev dE (g:cY) (e:List aQ):Option bX×jC:=(g.t,.obj 99 (fl cE e g.sp))
abbrev bM (g:dC) (e:List aQ):Option bX×jC:=(g.a.t,.obj 99 (fl lP (zg e g.gs) g.a.sp))
abbrev bN (g:dC) (e:List aQ):HL:=kP 81 aO (nl aQ.Locs (zg e g.gs))
abbrev OC (k:bX) (q:Int) (a b c d:cY):Option bX×jC:=(some k,.obj 30 [.sc (.int .i64 q),aw a.t a.n a.cap,aw b.t b.n b.cap,aw c.t c.n c.cap,aw d.t d.n d.cap])
def lV {α:Type} (m:Nat) (p0:List α) (p1:α->Option Bool) (q0:Int):Option (Lp (Int) (Int)):=
 if decide (q0 < (p0.length:Int)) then ((ix p0 q0).bind λx0=>(p1 x0).bind λy0=>if y0 then Rk q0 else Gk (wrap .i64 (q0+1))) else Bk q0
def qD {α:Type} (m:Nat) (p0:List α) (p1:α->Option Bool):Option (Int):=
 after (aT (λs=>lV m p0 p1 s) m 0) λr0=>some (-1)
theorem aCF {α:Type} {c:α->List AV} (cz:∀y,(c y).length=4) {w:Nat} {p0:List α} {p1:α->Option Bool} {o:Int} (h:aF) {g_p0:cY} (ok_p0:bJ g_p0 4 p0.length) (K0:bT h [(g_p0.t,.obj 60 (fl c (p0:List α) g_p0.sp))]) {p1F:Nat} {p1C:List AV} (p1B:aP prog p1F=true) (p1H:∀x0 o h0,iG h h0->p1 x0=some o->aM prog p1F ([.agg (c x0)]++p1C) h0 (λr h'=>r= .sc (.bool o)/\h'=h0)) (m:qD w p0 p1=some o):
 aM prog 103 [aZ g_p0,.fn (.func p1F) p1C] (hp h [(g_p0.t,.obj 60 (fl c (p0:List α) g_p0.sp))]) (λr h'=>r=nZ o/\h'=hp h [(g_p0.t,.obj 60 (fl c (p0:List α) g_p0.sp))]):=by
 refine z9 K0 19 [.tmp 4] func103 rfl rfl rfl rfl ?_
 unfold qD at m
 refine vs (v0 (vs (vs (v0 (bV (eC kN ok_p0 rfl) ?_)))))
 refine jT m (σ:=Int) (λs=>[(g_p0.t,.obj 60 (fl c (p0:List α) g_p0.sp))]) (λs=>.c 0 (aZ g_p0) (.c 1 (.fn (.func p1F) p1C) (.c 7 (nZ (p0.length:Int)) (.c 8 (nZ s) .nil)))) (lx (.k4 .nil)) ?_ ?_
 rintro _ q0 x m
 replace m:lV w p0 p1 q0=some x:=m
 unfold lV at m
 refine vs (v0 (vs (v0 ?_)))
 apply vi m<;>intro c0 m
 refine v0 (vs (v0 (vs (v0 (vs (v0 ?_))))))
 obtain⟨x1,X0,m⟩:=aC m
 refine bV (cQ X0 jG ok_p0 rfl rfl) (vn (λu=>dX (fo:=0) (.agg (c x1)) X0 cz ok_p0 tB rfl (aN 0 u rfl) (λ_=>SJ (cz _))) ?_)
 obtain⟨_,Y0,m⟩:=aC m
 refine vn (λu=>bW (p1H _ _ _ (aU (nil_sublist _) u).1 Y0) rfl p1B rfl) (v0 ?_)
 apply vi m<;>intro c1 m
 refine vs (v0 (v0 ?_))
 refine gM m λm=> ?_
 obtain rfl:=eT m
 exact vr λu=>dW.of1 (.inl rfl) (gK _ _ (.sc (.int _ _)) rfl) (bR u [0] rfl).2 (bD.refl _ _) ⟨rfl,rfl⟩
 refine v0 (v0 ?_)
 exact fV m
 refine v0 ?_
 exact u0 m
 rintro _ r0 m
 refine vs (v0 (v0 ?_))
 cases m
 exact vr λu=>dW.of1 (.inl rfl) (gK _ _ (.sc (.int _ _)) rfl) (bR u [0] rfl).2 (bD.refl _ _) ⟨rfl,rfl⟩
theorem KZ {m:Nat} {α β:Type} (f:α->β) (xs:List α) (p:β->Option Bool):qD m (xs.map f) p=qD m xs (λx=>p (f x)):=by
 have h1:lV m (xs.map f) p=lV m xs (λx=>p (f x)):=by
   funext s; unfold lV; rw[List.length_map,W5]; cases ix xs s<;>rfl
 unfold qD
 simp only[h1]
theorem OM {m:Nat} {α:Type} {xs:List α} {gs:List OG} (hl:gs.length=xs.length) {p:α->Option Bool} {o:Int} (h:qD m xs p=some o):qD m (zg xs gs) (λx=>p x.1)=some o:=W7 (F:=λl=>qD m l p) hl (KZ Prod.fst (zg xs gs) p) h
def ON (m:Nat) (p0:aI) (c0:aE):Option (Bool):=
 some (p0.Seq==c0.Seq)
theorem aCG:aP prog 177=true:=by kernel_rfl
theorem aCH {w:Nat} {p0:aI} {c0:aE} {o:Bool} (h:aF) {og0:OG} {c0K:bX} (c0H:h c0K=some (.obj 38 (aJ c0))) (m:ON w p0 c0=some o):
 aM prog 177 [.agg (lA (p0,og0)),.ptr c0K 0] h (λr h'=>r= .sc (.bool o)/\h'=h):=by
 refine fM 9 [.tmp 3] Tryz.func177 rfl rfl rfl rfl ?_
 unfold ON at m
 refine v ?_
 refine ve λu=>T0 u rfl (by repeat (first | exact rfl | refine cI (gY _ _ _ _) ?_ | refine cI rfl ?_)) λk2 K3=>qk K3 rfl ?_
 refine v (vl 0 _ cG rfl rfl rfl (vn (λu=>gO (nZ c0.Seq) cG rfl (fX u c0H) rfl) (v ?_)))
 cases m
 exact eI rfl
def C7 (m:Nat) (p0:aQ) (p1:Int):Option (Int):=
 some (wrap .i64 (p0.Seq - p1))
theorem aID {u:Nat} {p0:aQ} {p1:Int} {o:Int} (h:aF) (m:C7 u p0 p1=some o):
 aM prog 179 [.agg (cE p0),nZ p1] h (λr h'=>r=nZ o/\h'=h):=by
 refine fM 9 [.tmp 4] Tryz.func179 rfl rfl rfl rfl ?_
 unfold C7 at m
 refine v ?_
 refine gX rfl rfl λk2 K3=> ?_
 refine v (vl 0 _ cG rfl rfl rfl (v ?_))
 cases m
 exact eI rfl
theorem aCI:aP prog 179=true:=by kernel_rfl
def uD (m:Nat) (p0:List aQ) (p1:Int) (p2:aQ->Int->Option Int) (q0:Int) (q1:Int):Option (Lp (Int×Int) (Int×Bool)):=
 if decide (q0 < q1) then ((ix p0 (wrap .i64 ((wrap .u64 (wrap .i64 (q0+q1))).fdiv (2 ^ (min (1:Int).toNat (IntKind.bits .u64)))))).bind λx0=>(p2 x0 p1).bind λy0=>after (if decide (y0 < 0) then (Bk (wrap .i64 ((wrap .i64 ((wrap .u64 (wrap .i64 (q0+q1))).fdiv (2 ^ (min (1:Int).toNat (IntKind.bits .u64)))))+1),q1)) else Bk (q0,wrap .i64 ((wrap .u64 (wrap .i64 (q0+q1))).fdiv (2 ^ (min (1:Int).toNat (IntKind.bits .u64))))):Option (Lp (Int×Int) (Lp (Int×Int) (Int×Bool)))) λ⟨j0,j1⟩=>Gk (j0,j1)) else Bk (q0,q1)
def OO (m:Nat) (p0:List aQ) (p1:Int) (p2:aQ->Int->Option Int):Option (Int×Bool):=
 after (aT (λs=>uD m p0 p1 p2 s.1 s.2) m (0,(p0.length:Int))) λ⟨r0,r1⟩=>after (if decide (r0 < (p0.length:Int)) then ((ix p0 r0).bind λx0=>(p2 x0 p1).bind λy0=>Bk (r0,(y0==0))) else Bk (r0,false):Option (Lp (Int×Bool) (Int×Bool))) λ⟨j0,j1⟩=>some (j0,j1)
theorem aIE {w:Nat} {p0:List aQ} {p1:Int} {p2:aQ->Int->Option Int} {o:Int×Bool} (h:aF) {p2F:Nat} {p2C:List AV} (p2B:aP prog p2F=true) (p2H:∀x0 x1 o h0,iG h h0->p2 x0 x1=some o->aM prog p2F ([.agg (cE x0),nZ x1]++p2C) h0 (λr h'=>r=nZ o/\h'=h0)) (m:OO w p0 p1 p2=some o):
 aM prog 178 [.sl none 3 (map cE p0),nZ p1,.fn (.func p2F) p2C] h (λr h'=>r= .tup [nZ o.1,.sc (.bool o.2)]/\h'=h):=by
 refine fM 49 [.tmp 6,.tmp 7] Tryz.func178 rfl rfl rfl rfl ?_
 unfold OO at m
 refine v (v (dI nK rfl (v (vs ?_))))
 refine jT m (σ:=Int×Int) (λs=>[]) (λs=>.c 0 (.sl none 3 (map cE p0)) (.c 1 (nZ p1) (.c 2 (.fn (.func p2F) p2C) (.c 8 (nZ (p0.length:Int)) (.c 9 (nZ s.1) (.c 10 (nZ s.2) .nil)))))) (lx (.k6 .nil)) ?_ ?_
 rintro _ ⟨q0,q1⟩ x m
 replace m:uD w p0 p1 p2 q0 q1=some x:=m
 unfold uD at m
 refine v (v ?_)
 apply vi m<;>intro c0 m
 refine v (v (v (v ?_)))
 refine vx m gU rfl rfl λx2 _ m=> ?_
 refine va (.agg (cE x2)) tD rfl rfl ?_
 obtain⟨_,Y0,m⟩:=aC m
 refine vn (λu=>bW (p2H _ _ _ _ (aU (nil_sublist _) u).1 Y0) rfl p2B rfl) ?_
 refine fP m (σ:=Int×Int) (λs=>[]) (λs=>.c 0 (.sl none 3 (map cE p0)) (.c 1 (nZ p1) (.c 2 (.fn (.func p2F) p2C) (.c 8 (nZ (p0.length:Int)) (.c 9 (nZ s.1) (.c 10 (nZ s.2) .nil)))))) (λx m=> ?_) ?_
 refine v ?_
 apply vi m<;>intro c1 m
 refine v ?_
 exact nF m
 refine v ?_
 exact nF m
 rintro _ ⟨j0,j1⟩ m
 exact nF m
 refine v ?_
 exact bq6 m
 rintro _ ⟨r0,r1⟩ m
 refine vs ?_
 refine fP m (σ:=Int×Bool) (λs=>[]) (λs=>.c 6 (nZ s.1) (.c 7 (.sc (.bool s.2)) .nil)) (λx m=> ?_) ?_
 refine v ?_
 apply vi m<;>intro b0 m
 rw[b0]
 refine vx m gU rfl rfl λx3 _ m=> ?_
 refine va (.agg (cE x3)) tD rfl rfl ?_
 obtain⟨_,Y1,m⟩:=aC m
 refine vn (λu=>bW (p2H _ _ _ _ (aU (nil_sublist _) u).1 Y1) rfl p2B rfl) ?_
 exact w7 m
 rw[b0]
 exact w7 m
 rintro _ ⟨j2,j3⟩ m
 refine v ?_
 cases m
 exact vr2 rfl rfl
theorem aCJ:aP prog 178=true:=by kernel_rfl
def qE (m:Nat) (p0:List aI) (p1:aI->Option Bool) (q0:Int):Option (Lp (Int) (Int)):=
 if decide (q0 < (p0.length:Int)) then ((ix p0 q0).bind λx0=>(p1 x0).bind λy0=>if y0 then Rk q0 else Gk (wrap .i64 (q0+1))) else Bk q0
def FN (m:Nat) (p0:List aI) (p1:aI->Option Bool):Option (Int):=
 after (aT (λs=>qE m p0 p1 s) m 0) λr0=>some (-1)
theorem aCK {w:Nat} {p0:List aI} {p1:aI->Option Bool} {o:Int} (h:aF) {g_p0:cY} (ok_p0:bJ g_p0 4 p0.length) (K0:bT h [(dM g_p0 p0)]) {p1F:Nat} {p1C:List AV} (p1B:aP prog p1F=true) (p1H:∀x0 o h0,iG h h0->p1 x0=some o->aM prog p1F ([.agg (bQ x0)]++p1C) h0 (λr h'=>r= .sc (.bool o)/\h'=h0)) (m:FN w p0 p1=some o):
 aM prog 103 [aZ g_p0,.fn (.func p1F) p1C] (hp h [(dM g_p0 p0)]) (λr h'=>r=nZ o/\h'=hp h [(dM g_p0 p0)]):=by
 refine z9 K0 19 [.tmp 4] func103 rfl rfl rfl rfl ?_
 unfold FN at m
 refine vs (v0 (vs (vs (v0 (bV (eC kN ok_p0 rfl) ?_)))))
 refine jT m (σ:=Int) (λs=>[(dM g_p0 p0)]) (λs=>.c 0 (aZ g_p0) (.c 1 (.fn (.func p1F) p1C) (.c 7 (nZ (p0.length:Int)) (.c 8 (nZ s) .nil)))) (lx (.k4 .nil)) ?_ ?_
 rintro _ q0 x m
 replace m:qE w p0 p1 q0=some x:=m
 unfold qE at m
 refine vs (v0 (vs (v0 ?_)))
 apply vi m<;>intro c0 m
 refine v0 (vs (v0 (vs (v0 (vs (v0 ?_))))))
 obtain⟨x1,X0,m⟩:=aC m
 refine bV (cQ X0 jG ok_p0 rfl rfl) (vn (λu=>dX (fo:=0) (.agg (bQ x1)) X0 eV ok_p0 tB rfl (aN 0 u rfl) (λ_=>rfl)) ?_)
 obtain⟨_,Y0,m⟩:=aC m
 refine vn (λu=>bW (p1H _ _ _ (aU (nil_sublist _) u).1 Y0) rfl p1B rfl) (v0 ?_)
 apply vi m<;>intro c1 m
 refine vs (v0 (v0 ?_))
 refine gM m λm=> ?_
 obtain rfl:=eT m
 exact vr λu=>dW.of1 (.inl rfl) (gK _ _ (.sc (.int _ _)) rfl) (bR u [0] rfl).2 (bD.refl _ _) ⟨rfl,rfl⟩
 refine v0 (v0 ?_)
 exact fV m
 refine v0 ?_
 exact u0 m
 rintro _ r0 m
 refine vs (v0 (v0 ?_))
 cases m
 exact vr λu=>dW.of1 (.inl rfl) (gK _ _ (.sc (.int _ _)) rfl) (bR u [0] rfl).2 (bD.refl _ _) ⟨rfl,rfl⟩
def uE (m:Nat) (p0:aA) (q0:List aB) (q1:Int):Option (Lp ((List aB)×Int) ((List aB))):=
 if decide (q1 < (p0.Chunks.length:Int)) then ((ix p0.Chunks q1).bind λx0=>(WF m ({ Seq:=p0.Seq,Snaps:=p0.Snaps,Chunks:=p0.Chunks,Exps:=p0.Exps,Vols:=p0.Vols}:aA) x0.Id).bind λy0=>after (if (!y0)then (Bk { { x0 with Staged:=false} with Data:=([]:List Int)}) else Bk x0:Option (Lp (aB) (Lp ((List aB)×Int) ((List aB))))) λj0=>after (if j0.Staged then Bk true else Bk (decide (0 < (j0.Locs.length:Int))):Option (Lp (Bool) (Lp ((List aB)×Int) ((List aB))))) λj1=>after (if j1 then ((app q0 ([j0]:List aB)).bind λz0=>Bk z0) else Bk q0:Option (Lp ((List aB)) (Lp ((List aB)×Int) ((List aB))))) λj2=>Gk (j2,wrap .i64 (q1+1))) else Bk (q0,q1)
def LA (m:Nat) (p0:aA):Option ((List aB)):=
 after (aT (λs=>uE m p0 s.1 s.2) m ([],0)) λ⟨r0,r1⟩=>some r0
theorem aIF {w:Nat} {p0:aA} {o:(List aB)} (h:aF) {p0K:bX} {gS:cY} (ok_Snaps:bJ gS 4 p0.Snaps.length) {gC:cY} (oC:bJ gC 35 p0.Chunks.length) {gE:cY} (oE:bJ gE 3 p0.Exps.length) {gV:cY} (oV:bJ gV 4 p0.Vols.length) (K0:bT h [OC p0K p0.Seq gS gC gE gV,bU gS p0.Snaps,bO gC p0.Chunks,dE gE p0.Exps,aV gV p0.Vols]) (m:LA w p0=some o):
 aM prog 120 [.ptr p0K 0] (hp h [OC p0K p0.Seq gS gC gE gV,bU gS p0.Snaps,bO gC p0.Chunks,dE gE p0.Exps,aV gV p0.Vols]) (λr h'=>∃g_Chunks':cY,bJ g_Chunks' 35 (o:List aB).length/\bT h [OC p0K p0.Seq gS g_Chunks' gE gV,bU gS p0.Snaps,bO g_Chunks' o,dE gE p0.Exps,aV gV p0.Vols]/\r= .tup []/\h'=hp h [OC p0K p0.Seq gS g_Chunks' gE gV,bU gS p0.Snaps,bO g_Chunks' o,dE gE p0.Exps,aV gV p0.Vols]):=by
 refine z9 K0 40 [] Tryz.func120 rfl rfl rfl rfl ?_
 unfold LA at m
 refine vs (v0 (vs (vs (v0 (kX rfl (dY eM rfl rfl (vl 0 (aZ gC) fA rfl rfl rfl (bV (eC kY oC rfl) (pJ (BI (.obj 44 (fl aK ([]:List aB) g0.sp)) 2 (aZ g0) (fU _)) ?_)))))))))
 refine nE m (σ:=(List aB)×Int) (τ:=cY) (λg s=>[bO g s.1,OC p0K p0.Seq gS gC gE gV,bU gS p0.Snaps,bO gC p0.Chunks,dE gE p0.Exps,aV gV p0.Vols]) (λg s=>bJ g 35 (s.1:List aB).length) (λg s=>.c 0 (.ptr p0K 0) (.c 2 (aZ g) (.c 8 (aZ gC) (.c 9 (nZ (p0.Chunks.length:Int)) (.c 10 (nZ s.2) .nil))))) g0 (bJ.g0 35) (lx (.k5 .nil)) ?_ ?_
 rintro ag0 ⟨q0,q1⟩ x O0 m
 replace m:uE w p0 q0 q1=some x:=m
 unfold uE at m
 refine vs (v0 (vs (v0 ?_)))
 apply vi m<;>intro c0 m
 refine v0 (vs (v0 (vs (v0 ?_))))
 obtain⟨x0,X0,m⟩:=aC m
 refine bV (cQ X0 fZ oC rfl rfl) (vn (λu=>dX (fo:=0) (.agg (aK x0)) X0 cX oC nL rfl (aN 3 u rfl) (λ_=>rfl)) ?_)
 refine ve λu=>bE (bF iC++(Q4:List AV)) u pO rfl rfl λk174 K1=>qk K1 rfl ?_
 refine ve λu=>aL 0 (aK x0) u rfl rfl rfl rfl AF rfl rfl λK2=>qk K2 rfl ?_
 refine vs (vs (v0 (BL (by kernel_rfl) (kX rfl (vl 2 (.agg ([nZ p0.Seq,aZ gS,aZ gC,aZ gE,aZ gV])) dG rfl rfl rfl (dY rP rfl rfl (vl 0 (.agg (bF x0.Id)) fF rfl rfl rfl ?_)))))))
 obtain⟨_,Y0,m⟩:=aC m
 refine vn (λu=>bW (fL (.cons (Br.agg (.cons (Br.refl _ _) (.cons (Br.aw 3 eV ok_Snaps u rfl) (.cons (Br.aw 4 cX oC u rfl) (.cons (Br.aw 5 fN oE u rfl) (.cons (Br.aw 6 eR oV u rfl) .nil)))))) (.cons (Br.refl _ _) .nil)) rfl (W22 _ Y0)) rfl WG rfl) ?_
 refine fP m (σ:=aB) (λs=>[(some k174,.obj 44 (aK s)),bO ag0 q0,OC p0K p0.Seq gS gC gE gV,bU gS p0.Snaps,bO gC p0.Chunks,dE gE p0.Exps,aV gV p0.Vols]) (λs=>.c 0 (.ptr p0K 0) (.c 2 (aZ ag0) (.c 4 (.ptr k174 0) (.c 8 (aZ gC) (.c 9 (nZ (p0.Chunks.length:Int)) (.c 10 (nZ q1) .nil)))))) (λx m=> ?_) ?_
 refine v0 ?_
 apply vi m<;>intro c1 m
 refine v0 (dY pZ rfl rfl ?_)
 refine ve λu=>aL 0 (aK { x0 with Staged:=false}) u rfl rfl rfl rfl sz4 rfl rfl λK3=>qk K3 rfl ?_
 refine dY mC rfl rfl ?_
 refine ve λu=>yB 0 (aK { { x0 with Staged:=false} with Data:=([]:List Int)}) u rfl rfl rfl rfl (.cons (bC _) .nil) EV rfl rfl λK4=>qk K4 rfl ?_
 exact nF m
 refine v0 ?_
 exact nF m
 rintro _ j0 m
 refine vs ?_
 refine fP m (σ:=Bool) (λs=>[(some k174,.obj 44 (aK j0)),bO ag0 q0,OC p0K p0.Seq gS gC gE gV,bU gS p0.Snaps,bO gC p0.Chunks,dE gE p0.Exps,aV gV p0.Vols]) (λs=>.c 0 (.ptr p0K 0) (.c 2 (aZ ag0) (.c 4 (.ptr k174 0) (.c 8 (aZ gC) (.c 9 (nZ (p0.Chunks.length:Int)) (.c 10 (nZ q1) (.c 30 (.sc (.bool s)) .nil))))))) (λx m=> ?_) ?_
 refine v0 (dY pZ rfl rfl (vl 0 _ GH rfl rfl rfl ?_))
 apply vi m<;>intro b0 m
 rw[b0]
 exact CR m
 rw[b0]
 refine dY jA rfl rfl (vl 0 _ fO rfl rfl rfl (dI kC rfl ?_))
 exact CR m
 rintro _ j1 m
 refine oA m (σ:=(List aB)) (τ:=cY) (λg s=>[(some k174,.obj 44 (aK j0)),bO g s,OC p0K p0.Seq gS gC gE gV,bU gS p0.Snaps,bO gC p0.Chunks,dE gE p0.Exps,aV gV p0.Vols]) (λg s=>bJ g 35 (s:List aB).length) (λg s=>.c 0 (.ptr p0K 0) (.c 2 (aZ g) (.c 8 (aZ gC) (.c 9 (nZ (p0.Chunks.length:Int)) (.c 10 (nZ q1) .nil))))) (λx m=> ?_) ?_
 refine v0 ?_
 apply vi m<;>intro c2 m
 refine v0 (vl 0 (.agg (aK j0)) nL rfl rfl rfl (bV (eJ (map aK ([j0]:List aB)) pK rfl rfl rfl rfl) ?_))
 obtain⟨z0,Z0,m⟩:=aC m
 refine ve λu=>gQ (c:=aK) 1 Z0 pK rfl pO rfl cX rfl rfl O0 u rfl λag1 O1 K5=>qk K5 rfl ?_
 exact eF m ag1 O1 (lx (.k5 .nil))
 refine v0 ?_
 exact eF m ag0 O0 (lx (.k5 .nil))
 rintro ag2 j2 O2 m
 refine v0 ?_
 exact eF m ag2 O2 (mG [1,2,3,4,5,6] rfl rfl (.k5 .nil))
 refine v0 ?_
 exact lF m ag0 O0 (lx (.k5 .nil))
 rintro ag3 ⟨r0,r1⟩ t0 m
 refine v0 (kX rfl (dY eM rfl rfl ?_))
 refine ve λu=>aL 1 ([nZ p0.Seq,aZ gS,aZ ag3,aZ gE,aZ gV]) u rfl rfl (cH rfl) (cI (bZ _ _ _) rfl) CU rfl rfl λK6=>qk K6 rfl ?_
 obtain rfl:=eT m
 exact vr λu=>dW.zero (.inr rfl) (bR u [1,2,0,4,5] rfl).2 ⟨ag3,t0,(bR u [1,2,0,4,5] rfl).1,rfl,rfl⟩
theorem aCL:aP prog 120=true:=by kernel_rfl
theorem aIG {α:Type} {c:α->List AV} (hc:∀y,(c y).length=4) {p0 o:List α} {p1:Int} {x:α} (h:aF) {g:cY} (ok:bJ g 4 p0.length) (K0:bT h [(g.t,.obj 81 (fl c p0 g.sp))]) (u:qY p0 p1 x=some o):
 aM prog 187 [aZ g,nZ p1,.sl none 4 (map c [x])] (hp h [(g.t,.obj 81 (fl c p0 g.sp))]) (λr h'=>∃g:cY,bJ g 4 o.length/\bT h [(g.t,.obj 81 (fl c o g.sp))]/\r=aZ g/\h'=hp h [(g.t,.obj 81 (fl c o g.sp))]):=by
 obtain⟨i0,i1,i2,ho⟩:=mR u
 have hv1:((([x]:List α).length:Int)==0)=false:=rfl
 refine z9 K0 95 [.tmp 6] Tryz.func187 rfl rfl rfl rfl ?_
 repeat refine vs ?_
 refine v0 ?_
 repeat refine vs ?_
 refine v0 (bV (OI i0 i1 ok jH rfl rfl) ?_)
 repeat refine vs ?_
 refine v0 (dI kC rfl ?_)
 repeat refine vs ?_
 refine v0 (v0 ?_)
 show VC _ _ _ Code.skip _ _ _ _
 refine v0 ?_
 repeat refine vs ?_
 refine v0 (bV (eC kC ok rfl) ?_)
 repeat refine vs ?_
 refine v0 (v0 ?_)
 by_cases hi:p1=(p0.length:Int)
 refine vt (by simpa using hi) ?_
 repeat refine vs ?_
 refine v0 ?_
 refine ve λw=>gQ (c:=c) 0 (I4 i2) pN rfl EX rfl hc rfl rfl ok w rfl λg' ok' hk'=>qk hk' rfl ?_
 refine v0 ?_
 have e:o=p0++ [x]:=by subst hi; rw[ho]; simp
 subst e
 exact vr λw=>dW.one (.inl rfl) (iG.refl _) (bD.refl _ _) ⟨g',ok',w,rfl,rfl⟩
 refine vf (by simpa using hi) (v0 ?_)
 have hlt:p1.toNat < p0.length:=by omega
 obtain⟨gt,gn,cap,sp⟩:=g
 have hne:gt≠none:=λe=>by have:=ok.nil e; omega
 obtain⟨k,rfl⟩:∃k,gt=some k:=by cases gt with
 | none=>exact absurd rfl hne
 | some k=>exact⟨k,rfl⟩
 have hgn:gn=p0.length:=ok.eqn
 subst hgn
 have hle:p0.length<=cap:=ok.le
 have hmx:cap<=maxLen:=ok.mx
 have hlen:p0.length*4+sp.length=cap*4:=ok.len
 have hw:wrap .i64 ((p0.length:Int)+(([x]:List α).length:Int))=((p0.length+1:Nat):Int):=by
   rw[wrap_i64]; simp only[length_singleton]; omega
 have hw2:wrap .i64 (wrap .i64 ((p0.length:Int)+(([x]:List α).length:Int)) - p1)=((p0.length+1 - p1.toNat:Nat):Int):=by
   rw[hw,wrap_i64]; omega
 have hw3:wrap .i64 (p1+(([x]:List α).length:Int))=((p1.toNat+1:Nat):Int):=by
   rw[wrap_i64]; simp only[length_singleton]; omega
 obtain⟨q1,q2,q3,q4⟩:=BR hc (i:=p1.toNat) (by omega:p1.toNat<=p0.length) sp
 generalize hA:((p0.take p1.toNat).map c).flatten=A at q1 q2 q4
 generalize hB:((p0.drop p1.toNat).map c).flatten=B at q1 q3 q4
 repeat refine vs ?_
 refine v0 (bV (OF u42 rfl) (v0 ?_))
 by_cases hcap:cap < p0.length+1
 refine vt (by rw[hw]; exact decide_eq_true (show (cap:Int) < ((p0.length+1:Nat):Int) by omega)) ?_
 repeat refine vs ?_
 refine v0 (bV (I3 (cap:=cap) i0 (by omega) jH rfl rfl) ?_)
 refine ve λw=>OH (cap:=cap) (cs:=fl c p0 sp) (i:=p1.toNat) (m:=p0.length+1 - p1.toNat) 0 pN u3 EX rfl (by decide) w rfl rfl (congrArg (λz=>AV.sc (.int .i64 z)) hw2) (by omega) (by rw[q1]; simp only[length_append]; omega) (by omega) λq cap' R h1 h2 h3 hk'=>qk hk' rfl ?_
 repeat refine vs ?_
 refine v0 (bV (nS i0 (by omega) jH rfl rfl) ?_)
 have hn0:p1.toNat+(p0.length+1 - p1.toNat)=p0.length+1:=by omega
 have hn1:p1.toNat+(p0.length+1 - p1.toNat) - p1.toNat=p0.length+1 - p1.toNat:=by omega
 have e1:take (p1.toNat*4) (fl c p0 sp)=A:=by rw[q1,<- q2,take_left]
 have hxl:=hc x
 have hR:4+B.length<=R.length:=by omega
 have hfl:(fl c p0 sp).length=A.length+(B.length+sp.length):=by rw[q1]; simp
 obtain⟨R1,R2,R3,hR0,hR1,hR2⟩:∃R1 R2 R3:List AV,R=R1++(R2++R3)/\R1.length=(c x).length/\R2.length=B.length:=
 ⟨R.take 4,(R.drop 4).take B.length,(R.drop 4).drop B.length,by rw[take_append_drop,take_append_drop],by rw[length_take,hxl]; omega,by rw[length_take,length_drop]; omega⟩
 refine ve λw=>qC 0 pN w rfl rfl (I2.sl (ys:=map c [x]) (by simp) _) (by simp[hxl]; omega) (by rw[e1]; simp only[length_append]; simp[hxl,q2]; omega) (A++(c x++(R2++R3))) (by
 rw[e1,hR0]
 simp only[map_cons,map_nil,flatten_cons,flatten_nil,List.append_nil]
 exact jQ q2 hR1) λhk'=>qk hk' rfl ?_
 repeat refine vs ?_
 refine v0 ?_
 have hv4:AV.view q ((wrap .i64 (p1+(([x]:List α).length:Int))).toNat*4) (p1.toNat+(p0.length+1 - p1.toNat) - (wrap .i64 (p1+(([x]:List α).length:Int))).toNat)= .view q ((p1.toNat+1)*4) (p0.length - p1.toNat):=by
   rw[hw3,toNat_natCast,show p1.toNat+(p0.length+1 - p1.toNat) - (p1.toNat+1)=p0.length - p1.toNat from by omega]
 refine vz [] mixed (λw=>trivial) λw=> ?_
 refine zC 0 rfl (fC (.vw _ _ _) rfl) ?_
 refine zI 1 rfl rfl ?_
 refine zI 2 rfl rfl ?_
 refine zC 3 rfl (mW rfl rfl rfl trivial) ?_
 refine zC 4 rfl (gR (nS (by rw[hw3]; omega) (by rw[hw3]; omega) jH rfl rfl) (bD.of_eq hv4)) ?_
 refine zC 5 rfl (fC (.vw _ _ _) rfl) ?_
 refine zI 6 rfl rfl ?_
 refine zC 7 rfl (nS (m:=p0.length) i0 (by omega) jH rfl rfl) ?_
 have e2:(List.drop (p1.toNat*4) (fl c p0 sp)).take ((p0.length - p1.toNat)*4)=B:=by
   rw[q1,<- q2,drop_left,<- q3,take_left]
 refine zE 8 rfl (qC 0 pN w rfl rfl (cs:=B) (by rw[<- e2]; exact I2.view (a9 1 w rfl)) (n1:=p0.length - p1.toNat) (m:=p0.length - p1.toNat) (by rw[q3,Nat.min_self]) (by simp only[length_append,hxl,q2,hR2]; omega) (fl c (p0.take p1.toNat++x::p0.drop p1.toNat) R3) (by
 rw[q4 x R3,<- append_assoc A,<- append_assoc A]
 exact jQ (A:=A++c x) (by rw[length_append,hxl,q2]; omega) hR2) λK1=>⟨trivial, ?_⟩)
 refine zX (qk (f:=fq9 54 _ _ _ _ _ _ _ _ _ _) K1 rfl ?_)
 repeat refine vs ?_
 refine v0 (v0 ?_)
 subst ho
 have hol:(take p1.toNat p0++x::List.drop p1.toNat p0).length=p0.length+1:=by simp; omega
 refine vr λw=>dW.one (.inl rfl) (bR K1 [0] rfl).2 (bD.of_eq (show AV.vw q _ cap'=aw (some q) (p0.length+1) cap' by rw[hn0]; rfl)) ⟨⟨some q,p0.length+1,cap',R3⟩,⟨hol.symm,nofun,by rw[hol]; show p0.length+1<=cap'; omega,h2,by rw[hol]; show (p0.length+1)*4+R3.length=cap'*4; simp only[hR0,length_append,hR1,hR2,hxl] at h3; omega⟩,(bR K1 [0] rfl).1,rfl,rfl⟩
 refine vf (by rw[hw]; exact decide_eq_false (show ¬(cap:Int) < ((p0.length+1:Nat):Int) by omega)) (v0 ?_)
 repeat refine vs ?_
 refine v0 ?_
 have hv0:AV.vw k (wrap .i64 ((p0.length:Int)+(([x]:List α).length:Int))).toNat cap= .vw k (p0.length+1) cap:=by rw[hw,toNat_natCast]
 refine bV (gR (I3 (cap:=cap) (by rw[hw]; omega) (by rw[hw]; omega) jH rfl rfl) (bD.of_eq hv0)) ?_
 repeat refine vs ?_
 refine v0 ?_
 have hv4:AV.view k ((wrap .i64 (p1+(([x]:List α).length:Int))).toNat*4) (p0.length+1 - (wrap .i64 (p1+(([x]:List α).length:Int))).toNat)= .view k ((p1.toNat+1)*4) (p0.length - p1.toNat):=by
   rw[hw3,toNat_natCast,show p0.length+1 - (p1.toNat+1)=p0.length - p1.toNat from by omega]
 refine bV (gR (nS (m:=p0.length+1) (by rw[hw3]; omega) (by rw[hw3]; omega) jH rfl rfl) (bD.of_eq hv4)) ?_
 have hfl:(fl c p0 sp).length=p1.toNat*4+((p0.length - p1.toNat)*4+sp.length):=by rw[q1,length_append,length_append,q2,q3]
 refine ve λw=>uC (sz:=4) (tS:=42) (tR:=4) Tryz.func193 (by kernel_rfl) (by kernel_rfl) (by kernel_rfl) (by kernel_rfl) pN (ys:=map c [x]) (by simp) (by decide) rfl rfl (a9 0 w rfl) (by rw[hfl]; omega) (qk w rfl ?_)
 refine v0 ?_
 repeat refine vs ?_
 refine v0 ?_
 refine vz [] mixed (λw=>trivial) λw=> ?_
 refine zC 0 rfl (fC (.vw _ _ _) rfl) ?_
 refine zI 1 rfl rfl ?_
 refine zI 2 rfl rfl ?_
 refine zC 3 rfl (mW rfl rfl rfl trivial) ?_
 refine zC 4 rfl (gR (nS (m:=p0.length+1) (by rw[hw3]; omega) (by rw[hw3]; omega) jH rfl rfl) (bD.of_eq hv4)) ?_
 refine zC 5 rfl (fC (.vw _ _ _) rfl) ?_
 refine zI 6 rfl rfl ?_
 refine zC 7 rfl (nS (m:=p0.length+1) i0 (by omega) jH rfl rfl) ?_
 have hxl:=hc x
 have e2:(List.drop (p1.toNat*4) (fl c p0 sp)).take ((p0.length - p1.toNat)*4)=B:=by
   rw[q1,<- q2,drop_left,<- q3,take_left]
 have hsp:4<=sp.length:=by omega
 obtain⟨X0,Y,Z,hXY,hX0,hY⟩:∃X0 Y Z:List AV,B++sp=X0++(Y++Z)/\X0.length=4/\Y.length=B.length:=
 ⟨(B++sp).take 4,((B++sp).drop 4).take B.length,((B++sp).drop 4).drop B.length,by rw[take_append_drop,take_append_drop],by rw[length_take,length_append]; omega,by rw[length_take,length_drop,length_append]; omega⟩
 have hZ:Z.length+4=sp.length:=by
   have:=congrArg List.length hXY
   simp only[length_append] at this
   omega
 refine zE 8 rfl (qC 0 pN w rfl rfl (cs:=B) (by rw[<- e2]; exact I2.view (a9 0 w rfl)) (n1:=p0.length - p1.toNat) (m:=p0.length+1 - p1.toNat) (by rw[q3]; congr 1; omega) (by show (p1.toNat+1)*4+B.length<=(fl c p0 sp).length; rw[hfl]; omega) (A++(X0++(B++Z))) (by
 show eZ (fl c p0 sp) ((p1.toNat+1)*4) B=_
 rw[q1,hXY,<- append_assoc A,<- append_assoc A]
 exact jQ (A:=A++X0) (by rw[length_append,hX0,q2]; omega) hY) λK1=>⟨trivial, ?_⟩)
 refine zX (qk (f:=fq9 77 _ _ _ _ _ _ _ _ _ _) K1 rfl ?_)
 repeat refine vs ?_
 refine v0 (bV (nS (m:=p0.length+1) i0 (by omega) jH rfl rfl) ?_)
 refine ve λw=>qC 0 pN w rfl rfl (I2.sl (ys:=map c [x]) (by simp) _) (by simp[hxl]; omega) (by simp only[map_cons,map_nil,flatten_cons,flatten_nil,List.append_nil,length_append,q2,hX0,hxl]; omega) (fl c (p0.take p1.toNat++x::p0.drop p1.toNat) Z) (by
 simp only[map_cons,map_nil,flatten_cons,flatten_nil,List.append_nil]
 rw[q4 x Z]
 exact jQ q2 (by rw[hX0,hxl])) λK1=>qk K1 rfl ?_
 repeat refine vs ?_
 refine v0 (v0 ?_)
 subst ho
 have hol:(take p1.toNat p0++x::List.drop p1.toNat p0).length=p0.length+1:=by simp; omega
 refine vr λw=>dW.one (.inl rfl) (bR w [0] rfl).2 (bD.of_eq (show AV.vw k _ cap=aw (some k) (p0.length+1) cap by rfl)) ⟨⟨some k,p0.length+1,cap,Z⟩,⟨hol.symm,nofun,by rw[hol]; show p0.length+1<=cap; omega,hmx,by rw[hol]; show (p0.length+1)*4+Z.length=cap*4; omega⟩,(bR w [0] rfl).1,rfl,rfl⟩
theorem aCM:aP prog 187=true:=by kernel_rfl
theorem aIH {α:Type} {c:α->List AV} (hc:∀y,(c y).length=3) {p0 o:List α} {p1:Int} {x:α} (h:aF) {g:cY} (ok:bJ g 3 p0.length) (K0:bT h [(g.t,.obj 99 (fl c p0 g.sp))]) (u:qY p0 p1 x=some o):
 aM prog 180 [aZ g,nZ p1,.sl none 3 (map c [x])] (hp h [(g.t,.obj 99 (fl c p0 g.sp))]) (λr h'=>∃g:cY,bJ g 3 o.length/\bT h [(g.t,.obj 99 (fl c o g.sp))]/\r=aZ g/\h'=hp h [(g.t,.obj 99 (fl c o g.sp))]):=by
 obtain⟨i0,i1,i2,ho⟩:=mR u
 have hv1:((([x]:List α).length:Int)==0)=false:=rfl
 refine z9 K0 95 [.tmp 6] Tryz.func180 rfl rfl rfl rfl ?_
 repeat refine vs ?_
 refine v0 ?_
 repeat refine vs ?_
 refine v0 (bV (OI i0 i1 ok gU rfl rfl) ?_)
 repeat refine vs ?_
 refine v0 (dI nK rfl ?_)
 repeat refine vs ?_
 refine v0 (v0 ?_)
 show VC _ _ _ Code.skip _ _ _ _
 refine v0 ?_
 repeat refine vs ?_
 refine v0 (bV (eC nK ok rfl) ?_)
 repeat refine vs ?_
 refine v0 (v0 ?_)
 by_cases hi:p1=(p0.length:Int)
 refine vt (by simpa using hi) ?_
 repeat refine vs ?_
 refine v0 ?_
 refine ve λw=>gQ (c:=c) 0 (I4 i2) pL rfl qW rfl hc rfl rfl ok w rfl λg' ok' hk'=>qk hk' rfl ?_
 refine v0 ?_
 have e:o=p0++ [x]:=by subst hi; rw[ho]; simp
 subst e
 exact vr λw=>dW.one (.inl rfl) (iG.refl _) (bD.refl _ _) ⟨g',ok',w,rfl,rfl⟩
 refine vf (by simpa using hi) (v0 ?_)
 have hlt:p1.toNat < p0.length:=by omega
 obtain⟨gt,gn,cap,sp⟩:=g
 have hne:gt≠none:=λe=>by have:=ok.nil e; omega
 obtain⟨k,rfl⟩:∃k,gt=some k:=by cases gt with
 | none=>exact absurd rfl hne
 | some k=>exact⟨k,rfl⟩
 have hgn:gn=p0.length:=ok.eqn
 subst hgn
 have hle:p0.length<=cap:=ok.le
 have hmx:cap<=maxLen:=ok.mx
 have hlen:p0.length*3+sp.length=cap*3:=ok.len
 have hw:wrap .i64 ((p0.length:Int)+(([x]:List α).length:Int))=((p0.length+1:Nat):Int):=by
   rw[wrap_i64]; simp only[length_singleton]; omega
 have hw2:wrap .i64 (wrap .i64 ((p0.length:Int)+(([x]:List α).length:Int)) - p1)=((p0.length+1 - p1.toNat:Nat):Int):=by
   rw[hw,wrap_i64]; omega
 have hw3:wrap .i64 (p1+(([x]:List α).length:Int))=((p1.toNat+1:Nat):Int):=by
   rw[wrap_i64]; simp only[length_singleton]; omega
 obtain⟨q1,q2,q3,q4⟩:=BR hc (i:=p1.toNat) (by omega:p1.toNat<=p0.length) sp
 generalize hA:((p0.take p1.toNat).map c).flatten=A at q1 q2 q4
 generalize hB:((p0.drop p1.toNat).map c).flatten=B at q1 q3 q4
 repeat refine vs ?_
 refine v0 (bV (OF u27 rfl) (v0 ?_))
 by_cases hcap:cap < p0.length+1
 refine vt (by rw[hw]; exact decide_eq_true (show (cap:Int) < ((p0.length+1:Nat):Int) by omega)) ?_
 repeat refine vs ?_
 refine v0 (bV (I3 (cap:=cap) i0 (by omega) gU rfl rfl) ?_)
 refine ve λw=>OH (cap:=cap) (cs:=fl c p0 sp) (i:=p1.toNat) (m:=p0.length+1 - p1.toNat) 0 pL u3 qW rfl (by decide) w rfl rfl (congrArg (λz=>AV.sc (.int .i64 z)) hw2) (by omega) (by rw[q1]; simp only[length_append]; omega) (by omega) λq cap' R h1 h2 h3 hk'=>qk hk' rfl ?_
 repeat refine vs ?_
 refine v0 (bV (nS i0 (by omega) gU rfl rfl) ?_)
 have hn0:p1.toNat+(p0.length+1 - p1.toNat)=p0.length+1:=by omega
 have hn1:p1.toNat+(p0.length+1 - p1.toNat) - p1.toNat=p0.length+1 - p1.toNat:=by omega
 have e1:take (p1.toNat*3) (fl c p0 sp)=A:=by rw[q1,<- q2,take_left]
 have hxl:=hc x
 have hR:3+B.length<=R.length:=by omega
 have hfl:(fl c p0 sp).length=A.length+(B.length+sp.length):=by rw[q1]; simp
 obtain⟨R1,R2,R3,hR0,hR1,hR2⟩:∃R1 R2 R3:List AV,R=R1++(R2++R3)/\R1.length=(c x).length/\R2.length=B.length:=
 ⟨R.take 3,(R.drop 3).take B.length,(R.drop 3).drop B.length,by rw[take_append_drop,take_append_drop],by rw[length_take,hxl]; omega,by rw[length_take,length_drop]; omega⟩
 refine ve λw=>qC 0 pL w rfl rfl (I2.sl (ys:=map c [x]) (by simp) _) (by simp[hxl]; omega) (by rw[e1]; simp only[length_append]; simp[hxl,q2]; omega) (A++(c x++(R2++R3))) (by
 rw[e1,hR0]
 simp only[map_cons,map_nil,flatten_cons,flatten_nil,List.append_nil]
 exact jQ q2 hR1) λhk'=>qk hk' rfl ?_
 repeat refine vs ?_
 refine v0 ?_
 have hv4:AV.view q ((wrap .i64 (p1+(([x]:List α).length:Int))).toNat*3) (p1.toNat+(p0.length+1 - p1.toNat) - (wrap .i64 (p1+(([x]:List α).length:Int))).toNat)= .view q ((p1.toNat+1)*3) (p0.length - p1.toNat):=by
   rw[hw3,toNat_natCast,show p1.toNat+(p0.length+1 - p1.toNat) - (p1.toNat+1)=p0.length - p1.toNat from by omega]
 refine vz [] mixed (λw=>trivial) λw=> ?_
 refine zC 0 rfl (fC (.vw _ _ _) rfl) ?_
 refine zI 1 rfl rfl ?_
 refine zI 2 rfl rfl ?_
 refine zC 3 rfl (mW rfl rfl rfl trivial) ?_
 refine zC 4 rfl (gR (nS (by rw[hw3]; omega) (by rw[hw3]; omega) gU rfl rfl) (bD.of_eq hv4)) ?_
 refine zC 5 rfl (fC (.vw _ _ _) rfl) ?_
 refine zI 6 rfl rfl ?_
 refine zC 7 rfl (nS (m:=p0.length) i0 (by omega) gU rfl rfl) ?_
 have e2:(List.drop (p1.toNat*3) (fl c p0 sp)).take ((p0.length - p1.toNat)*3)=B:=by
   rw[q1,<- q2,drop_left,<- q3,take_left]
 refine zE 8 rfl (qC 0 pL w rfl rfl (cs:=B) (by rw[<- e2]; exact I2.view (a9 1 w rfl)) (n1:=p0.length - p1.toNat) (m:=p0.length - p1.toNat) (by rw[q3,Nat.min_self]) (by simp only[length_append,hxl,q2,hR2]; omega) (fl c (p0.take p1.toNat++x::p0.drop p1.toNat) R3) (by
 rw[q4 x R3,<- append_assoc A,<- append_assoc A]
 exact jQ (A:=A++c x) (by rw[length_append,hxl,q2]; omega) hR2) λK1=>⟨trivial, ?_⟩)
 refine zX (qk (f:=fq9 54 _ _ _ _ _ _ _ _ _ _) K1 rfl ?_)
 repeat refine vs ?_
 refine v0 (v0 ?_)
 subst ho
 have hol:(take p1.toNat p0++x::List.drop p1.toNat p0).length=p0.length+1:=by simp; omega
 refine vr λw=>dW.one (.inl rfl) (bR K1 [0] rfl).2 (bD.of_eq (show AV.vw q _ cap'=aw (some q) (p0.length+1) cap' by rw[hn0]; rfl)) ⟨⟨some q,p0.length+1,cap',R3⟩,⟨hol.symm,nofun,by rw[hol]; show p0.length+1<=cap'; omega,h2,by rw[hol]; show (p0.length+1)*3+R3.length=cap'*3; simp only[hR0,length_append,hR1,hR2,hxl] at h3; omega⟩,(bR K1 [0] rfl).1,rfl,rfl⟩
 refine vf (by rw[hw]; exact decide_eq_false (show ¬(cap:Int) < ((p0.length+1:Nat):Int) by omega)) (v0 ?_)
 repeat refine vs ?_
 refine v0 ?_
 have hv0:AV.vw k (wrap .i64 ((p0.length:Int)+(([x]:List α).length:Int))).toNat cap= .vw k (p0.length+1) cap:=by rw[hw,toNat_natCast]
 refine bV (gR (I3 (cap:=cap) (by rw[hw]; omega) (by rw[hw]; omega) gU rfl rfl) (bD.of_eq hv0)) ?_
 repeat refine vs ?_
 refine v0 ?_
 have hv4:AV.view k ((wrap .i64 (p1+(([x]:List α).length:Int))).toNat*3) (p0.length+1 - (wrap .i64 (p1+(([x]:List α).length:Int))).toNat)= .view k ((p1.toNat+1)*3) (p0.length - p1.toNat):=by
   rw[hw3,toNat_natCast,show p0.length+1 - (p1.toNat+1)=p0.length - p1.toNat from by omega]
 refine bV (gR (nS (m:=p0.length+1) (by rw[hw3]; omega) (by rw[hw3]; omega) gU rfl rfl) (bD.of_eq hv4)) ?_
 have hfl:(fl c p0 sp).length=p1.toNat*3+((p0.length - p1.toNat)*3+sp.length):=by rw[q1,length_append,length_append,q2,q3]
 refine ve λw=>uC (sz:=3) (tS:=27) (tR:=4) Tryz.func188 (by kernel_rfl) (by kernel_rfl) (by kernel_rfl) (by kernel_rfl) pL (ys:=map c [x]) (by simp) (by decide) rfl rfl (a9 0 w rfl) (by rw[hfl]; omega) (qk w rfl ?_)
 refine v0 ?_
 repeat refine vs ?_
 refine v0 ?_
 refine vz [] mixed (λw=>trivial) λw=> ?_
 refine zC 0 rfl (fC (.vw _ _ _) rfl) ?_
 refine zI 1 rfl rfl ?_
 refine zI 2 rfl rfl ?_
 refine zC 3 rfl (mW rfl rfl rfl trivial) ?_
 refine zC 4 rfl (gR (nS (m:=p0.length+1) (by rw[hw3]; omega) (by rw[hw3]; omega) gU rfl rfl) (bD.of_eq hv4)) ?_
 refine zC 5 rfl (fC (.vw _ _ _) rfl) ?_
 refine zI 6 rfl rfl ?_
 refine zC 7 rfl (nS (m:=p0.length+1) i0 (by omega) gU rfl rfl) ?_
 have hxl:=hc x
 have e2:(List.drop (p1.toNat*3) (fl c p0 sp)).take ((p0.length - p1.toNat)*3)=B:=by
   rw[q1,<- q2,drop_left,<- q3,take_left]
 have hsp:3<=sp.length:=by omega
 obtain⟨X0,Y,Z,hXY,hX0,hY⟩:∃X0 Y Z:List AV,B++sp=X0++(Y++Z)/\X0.length=3/\Y.length=B.length:=
 ⟨(B++sp).take 3,((B++sp).drop 3).take B.length,((B++sp).drop 3).drop B.length,by rw[take_append_drop,take_append_drop],by rw[length_take,length_append]; omega,by rw[length_take,length_drop,length_append]; omega⟩
 have hZ:Z.length+3=sp.length:=by
   have:=congrArg List.length hXY
   simp only[length_append] at this
   omega
 refine zE 8 rfl (qC 0 pL w rfl rfl (cs:=B) (by rw[<- e2]; exact I2.view (a9 0 w rfl)) (n1:=p0.length - p1.toNat) (m:=p0.length+1 - p1.toNat) (by rw[q3]; congr 1; omega) (by show (p1.toNat+1)*3+B.length<=(fl c p0 sp).length; rw[hfl]; omega) (A++(X0++(B++Z))) (by
 show eZ (fl c p0 sp) ((p1.toNat+1)*3) B=_
 rw[q1,hXY,<- append_assoc A,<- append_assoc A]
 exact jQ (A:=A++X0) (by rw[length_append,hX0,q2]; omega) hY) λK1=>⟨trivial, ?_⟩)
 refine zX (qk (f:=fq9 77 _ _ _ _ _ _ _ _ _ _) K1 rfl ?_)
 repeat refine vs ?_
 refine v0 (bV (nS (m:=p0.length+1) i0 (by omega) gU rfl rfl) ?_)
 refine ve λw=>qC 0 pL w rfl rfl (I2.sl (ys:=map c [x]) (by simp) _) (by simp[hxl]; omega) (by simp only[map_cons,map_nil,flatten_cons,flatten_nil,List.append_nil,length_append,q2,hX0,hxl]; omega) (fl c (p0.take p1.toNat++x::p0.drop p1.toNat) Z) (by
 simp only[map_cons,map_nil,flatten_cons,flatten_nil,List.append_nil]
 rw[q4 x Z]
 exact jQ q2 (by rw[hX0,hxl])) λK1=>qk K1 rfl ?_
 repeat refine vs ?_
 refine v0 (v0 ?_)
 subst ho
 have hol:(take p1.toNat p0++x::List.drop p1.toNat p0).length=p0.length+1:=by simp; omega
 refine vr λw=>dW.one (.inl rfl) (bR w [0] rfl).2 (bD.of_eq (show AV.vw k _ cap=aw (some k) (p0.length+1) cap by rfl)) ⟨⟨some k,p0.length+1,cap,Z⟩,⟨hol.symm,nofun,by rw[hol]; show p0.length+1<=cap; omega,hmx,by rw[hol]; show (p0.length+1)*3+Z.length=cap*3; omega⟩,(bR w [0] rfl).1,rfl,rfl⟩
theorem aCN:aP prog 180=true:=by kernel_rfl
def qF (m:Nat) (p0:List aS) (p1:aS) (q0:Int):Option (Lp (Int) ((List aS))):=
 after (if decide (0 < q0) then ((ix p0 (wrap .i64 (q0 - 1))).bind λx0=>if decide (p1.Vol < x0.Vol) then Bk true else (ix p0 (wrap .i64 (q0 - 1))).bind λx1=>if (x1.Vol==p1.Vol)then ((ix p0 (wrap .i64 (q0 - 1))).bind λx2=>if decide (p1.File < x2.File) then Bk true else (ix p0 (wrap .i64 (q0 - 1))).bind λx3=>if (x3.File==p1.File)then ((ix p0 (wrap .i64 (q0 - 1))).bind λx4=>Bk (decide (p1.Off < x4.Off))) else Bk false) else Bk false) else Bk false:Option (Lp (Bool) (Lp (Int) ((List aS))))) λj0=>if j0 then (Gk (wrap .i64 (q0 - 1))) else Bk q0
def wM (m:Nat) (p0:List aS) (p1:aS):Option ((List aS)):=
 after (aT (λs=>qF m p0 p1 s) m (p0.length:Int)) λr0=>(qY p0 r0 (p1:aS)).bind λy0=>some y0
theorem OP {w:Nat} {p0:List aS} {p1:aS} {o:(List aS)} (h:aF) {g_p0:cY} (ok_p0:bJ g_p0 4 p0.length) (K0:bT h [fG g_p0 p0]) (m:wM w p0 p1=some o):
 aM prog 176 [aZ g_p0,.agg (aO p1)] (hp h [fG g_p0 p0]) (λr h'=>∃g:cY,bJ g 4 o.length/\bT h [(g.t,.obj 81 (fl aO o g.sp))]/\r=aZ g/\h'=hp h [(g.t,.obj 81 (fl aO o g.sp))]):=by
 refine z9 K0 72 [.tmp 4] Tryz.func176 rfl rfl rfl rfl ?_
 unfold wM at m
 refine vs (v0 (gX rfl rfl λk2 K3=>vs (v0 (bV (eC kC ok_p0 rfl) (vs (jT m (σ:=Int) (λs=>[(some k2,.obj 81 (aO p1)),fG g_p0 p0]) (λs=>.c 0 (aZ g_p0) (.c 3 (.ptr k2 0) (.c 5 (nZ s) .nil))) (lx (.k3 .nil)) ?_ ?_))))))
 rintro _ q0 x m
 replace m:qF w p0 p1 q0=some x:=m
 unfold qF at m
 refine vs (vs (fP m (σ:=Bool) (λs=>[(some k2,.obj 81 (aO p1)),fG g_p0 p0]) (λs=>.c 0 (aZ g_p0) (.c 3 (.ptr k2 0) (.c 5 (nZ q0) (.c 64 (.sc (.bool s)) .nil)))) (λx m=> ?_) ?_))
 refine v0 (BL (by kernel_rfl) ?_)
 apply vi m<;>intro b0 m
 rw[b0]
 obtain⟨x0,X0,m⟩:=aC m
 refine bV (cQ X0 jH ok_p0 rfl rfl) (bV (cV (bJ.ne ok_p0 X0) CZ rfl rfl) (vn (λu=>dX (fo:=0) (nZ x0.Vol) X0 eL ok_p0 cG rfl (aN 1 u rfl) (λ_=>rfl)) (dY CZ rfl rfl (vl 0 _ cG rfl rfl rfl ?_))))
 apply vi m<;>intro b1 m
 rw[b1]
 exact fV m
 rw[b1]
 obtain⟨x1,X1,m⟩:=aC m
 refine bV (cQ X1 jH ok_p0 rfl rfl) (bV (cV (bJ.ne ok_p0 X1) CZ rfl rfl) (vn (λu=>dX (fo:=0) (nZ x1.Vol) X1 eL ok_p0 cG rfl (aN 1 u rfl) (λ_=>rfl)) (dY CZ rfl rfl (vl 0 _ cG rfl rfl rfl ?_))))
 apply vi m<;>intro b2 m
 rw[b2]
 obtain⟨x2,X2,m⟩:=aC m
 refine bV (cQ X2 jH ok_p0 rfl rfl) (bV (cV (bJ.ne ok_p0 X2) C0 rfl rfl) (vn (λu=>dX (fo:=1) (nZ x2.File) X2 eL ok_p0 cG rfl (aN 1 u rfl) (λ_=>rfl)) (dY C0 rfl rfl (vl 0 _ cG rfl rfl rfl ?_))))
 apply vi m<;>intro b3 m
 rw[b3]
 exact fV m
 rw[b3]
 obtain⟨x3,X3,m⟩:=aC m
 refine bV (cQ X3 jH ok_p0 rfl rfl) (bV (cV (bJ.ne ok_p0 X3) C0 rfl rfl) (vn (λu=>dX (fo:=1) (nZ x3.File) X3 eL ok_p0 cG rfl (aN 1 u rfl) (λ_=>rfl)) (dY C0 rfl rfl (vl 0 _ cG rfl rfl rfl ?_))))
 apply vi m<;>intro b4 m
 rw[b4]
 obtain⟨x4,X4,m⟩:=aC m
 exact bV (cQ X4 jH ok_p0 rfl rfl) (bV (cV (bJ.ne ok_p0 X4) NF rfl rfl) (vn (λu=>dX (fo:=2) (nZ x4.Off) X4 eL ok_p0 cG rfl (aN 1 u rfl) (λ_=>rfl)) (dY NF rfl rfl (vl 0 _ cG rfl rfl rfl (fV m)))))
 rw[b4]
 exact fV m
 rw[b2]
 exact fV m
 rw[b0]
 exact fV m
 rintro _ j0 m
 refine v0 ?_
 apply vi m<;>intro c0 m
 exact v0 (v0 (v0 (hX m)))
 exact v0 (G7 m)
 rintro _ r0 m
 refine vs (v0 (vl 0 (.agg (aO p1)) nM rfl rfl rfl (bV (eJ (map aO ([p1]:List aS)) pN rfl rfl rfl rfl) ?_)))
 obtain⟨y0,Y0,m⟩:=aC m
 refine ve λu=> ?_
 have ho0:=FH (A:=[fG g_p0 p0]) (R:=[(some k2,.obj 81 (aO p1))]) u [[_],[_]] rfl [1] [0] rfl rfl rfl
 refine eA ho0.1 (dD (aIG eL _ ok_p0 ho0.2.2 Y0) rfl aCM rfl ?_)
 rintro x h' ⟨ag0,O0,K1,rfl,rfl⟩
 have K2:=FI (L':=[(some k2,.obj 81 (aO p1)),fG ag0 y0]) ho0.2.1 K1 [[_]] [[_]] rfl rfl [1,0] rfl rfl
 refine qk K2.2 K2.1 (v0 ?_)
 obtain rfl:=eT m
 exact vr λu=>dW.one (.inl rfl) (aU (h0:=h) (L':=[fG ag0 y0]) (.cons _ (.refl _)) u).1 (bD.refl _ _) ⟨ag0,O0,(aU (h0:=h) (L':=[fG ag0 y0]) (.cons _ (.refl _)) u).2,rfl,rfl⟩
theorem OQ:aP prog 176=true:=by kernel_rfl
def HU (m:Nat) (p0:aA) (p1:aE) (p2:aS):Option (Int×Int×BM):=
 after (if (p1.Kind==1)then ((yP m p0.Chunks p1.Id).bind λy0=>if (!y0.2)then (Rk (8,p0.Seq,p0.Snaps,p0.Chunks,p0.Exps)) else (ix p0.Chunks y0.1).bind λx2=>(wM m x2.Locs p2).bind λy1=>(ix p0.Chunks y0.1).bind λx3=>Bk (p0.Seq,p0.Snaps,p0.Chunks.set y0.1.toNat ({ x3 with Locs:=y1}),p0.Exps)) else after (if (p1.Kind==2)then ((qD m p0.Snaps (λx0=>ON m x0 p1)).bind λy2=>if decide (y2 < 0) then (Rk (.ret (8,p0.Seq,p0.Snaps,p0.Chunks,p0.Exps))) else (ix p0.Snaps y2).bind λx4=>(wM m x4.Locs p2).bind λy3=>(ix p0.Snaps y2).bind λx5=>Bk (p0.Seq,p0.Snaps.set y2.toNat ({ x5 with Locs:=y3}),p0.Exps)) else after (if (p1.Kind==3)then ((OO m p0.Exps p1.Seq (λx0 x1=>C7 m x0 x1)).bind λy4=>after (if (!y4.2)then ((qY p0.Exps y4.1 (({ Seq:=p1.Seq,Of:=p1.Of,Locs:=[]}:aQ):aQ)).bind λy5=>Bk ((max p0.Seq (wrap .i64 (p1.Seq+1))),y5)) else Bk (p0.Seq,p0.Exps):Option (Lp (Int×(List aQ)) (Lp (Int×(List aQ)) (Lp (Int×(List aI)×(List aQ)) (Lp (Int×BM) (Int×Int×BM)))))) λ⟨j0,j1⟩=>(ix j1 y4.1).bind λx6=>(wM m x6.Locs p2).bind λy6=>(ix j1 y4.1).bind λx7=>Bk (j0,j1.set y4.1.toNat ({ x7 with Locs:=y6}))) else Bk (p0.Seq,p0.Exps):Option (Lp (Int×(List aQ)) (Lp (Int×(List aI)×(List aQ)) (Lp (Int×BM) (Int×Int×BM))))) λ⟨j2,j3⟩=>Bk (j2,p0.Snaps,j3):Option (Lp (Int×(List aI)×(List aQ)) (Lp (Int×BM) (Int×Int×BM)))) λ⟨j4,j5,j6⟩=>Bk (j4,j5,p0.Chunks,j6):Option (Lp (Int×BM) (Int×Int×BM))) λ⟨j7,j8,j9,j10⟩=>some (0,j7,j8,j9,j10)
theorem aII {w:Nat} {p0:aA} {p1:aE} {p2:aS} {o:Int×Int×BM} (h:aF) {p0K:bX} {gS:dC} (ok_Snaps:mH aI.Locs 4 4 gS (p0.Snaps:List aI)) {gC:dC} (oC:mH aB.Locs 35 4 gC (p0.Chunks:List aB)) {gE:dC} (oE:mH aQ.Locs 3 4 gE (p0.Exps:List aQ)) {gV:cY} (oV:bJ gV 4 p0.Vols.length) (K0:bT h ([OC p0K p0.Seq gS.a gC.a gE.a gV,bH gS p0.Snaps,aX gC p0.Chunks,bM gE p0.Exps,aV gV p0.Vols]++((bL gS p0.Snaps)++((aY gC p0.Chunks)++(bN gE p0.Exps))))) (m:HU w p0 p1 p2=some o):
 aM prog 123 [.ptr p0K 0,.agg (aJ p1),.agg (aO p2)] (hp h ([OC p0K p0.Seq gS.a gC.a gE.a gV,bH gS p0.Snaps,aX gC p0.Chunks,bM gE p0.Exps,aV gV p0.Vols]++((bL gS p0.Snaps)++((aY gC p0.Chunks)++(bN gE p0.Exps))))) (λr h'=>∃g_Snaps':dC,mH aI.Locs 4 4 g_Snaps' (o.2.2.1:List aI)/\∃g_Chunks':dC,mH aB.Locs 35 4 g_Chunks' (o.2.2.2.1:List aB)/\∃g_Exps':dC,mH aQ.Locs 3 4 g_Exps' (o.2.2.2.2:List aQ)/\bT h ([OC p0K o.2.1 g_Snaps'.a g_Chunks'.a g_Exps'.a gV,bH g_Snaps' o.2.2.1,aX g_Chunks' o.2.2.2.1,bM g_Exps' o.2.2.2.2,aV gV p0.Vols]++((bL g_Snaps' o.2.2.1)++((aY g_Chunks' o.2.2.2.1)++(bN g_Exps' o.2.2.2.2))))/\r=nZ o.1/\h'=hp h ([OC p0K o.2.1 g_Snaps'.a g_Chunks'.a g_Exps'.a gV,bH g_Snaps' o.2.2.1,aX g_Chunks' o.2.2.2.1,bM g_Exps' o.2.2.2.2,aV gV p0.Vols]++((bL g_Snaps' o.2.2.1)++((aY g_Chunks' o.2.2.2.1)++(bN g_Exps' o.2.2.2.2))))):=by
 refine z9 K0 129 [.tmp 6] Tryz.func123 rfl rfl rfl rfl ?_
 unfold HU at m
 refine vs (v0 (gX rfl rfl λk2 K3=>gX rfl rfl λk5 K6=>vs (vs (v0 (dY m0 rfl rfl (vl 1 _ cG rfl rfl rfl (v0 (vs (v0 (oA m (σ:=Int×BM) (τ:=dC×dC×dC) (λg s=>([(some k5,.obj 81 (aO p2)),(some k2,.obj 38 (aJ p1)),OC p0K s.1 g.1.a g.2.1.a g.2.2.a gV,bH g.1 s.2.1,aX g.2.1 s.2.2.1,bM g.2.2 s.2.2.2,aV gV p0.Vols]++((bL g.1 s.2.1)++((aY g.2.1 s.2.2.1)++(bN g.2.2 s.2.2.2))))) (λg s=>mH aI.Locs 4 4 g.1 (s.2.1:List aI)/\mH aB.Locs 35 4 g.2.1 (s.2.2.1:List aB)/\mH aQ.Locs 3 4 g.2.2 (s.2.2.2:List aQ)) (λg s=>.nil) (λx m=> ?_) ?_))))))))))
 refine v0 ?_
 apply vi m<;>intro c0 m
 refine vs (v0 (BL (by kernel_rfl) (kX rfl (dY eM rfl rfl (vl 2 (aZ gC.a) fA rfl rfl rfl (dY yF rfl rfl (vl 1 (.agg (bF p1.Id)) fF rfl rfl rfl ?_)))))))
 obtain⟨y0,Y0,m⟩:=aC m
 refine vn (λu=>bW (fL (.cons (Br.awN 4 cX eL FM oC.k u rfl (W8 [[_],[_],[_],[_],[_],[_],[_],_,_,_] rfl 8 rfl)) (.cons (Br.refl _ _) .nil)) rfl (WC _ Y0)) rfl NR rfl) (vs (vs (v0 (v0 ?_))))
 apply vi m<;>intro c1 m
 refine vs (v0 (v0 (gM m λm=> ?_)))
 cases m
 exact vr λu=>dW.of1 (.inl rfl) (gK _ _ (.sc (.int _ _)) rfl) (uB (L':=([OC p0K p0.Seq gS.a gC.a gE.a gV,bH gS p0.Snaps,aX gC p0.Chunks,bM gE p0.Exps,aV gV p0.Vols]++((bL gS p0.Snaps)++((aY gC p0.Chunks)++(bN gE p0.Exps))))) u [[_],[_],[_],[_],[_],[_],[_],_,_,_] rfl [2,3,4,5,6,7,8,9] rfl rfl).2 (bD.refl _ _) ⟨gS,ok_Snaps,gC,oC,gE,oE,(uB (L':=([OC p0K p0.Seq gS.a gC.a gE.a gV,bH gS p0.Snaps,aX gC p0.Chunks,bM gE p0.Exps,aV gV p0.Vols]++((bL gS p0.Snaps)++((aY gC p0.Chunks)++(bN gE p0.Exps))))) u [[_],[_],[_],[_],[_],[_],[_],_,_,_] rfl [2,3,4,5,6,7,8,9] rfl rfl).1,rfl,rfl⟩
 refine v0 (v0 (vz [(1000000,some p0K,.obj 30 ([nZ p0.Seq,aZ gS.a,aZ gC.a,aZ gE.a,aZ gV])),(17,gC.a.t,.obj 44 (fl jR (zg (p0.Chunks:List aB) gC.gs) gC.a.sp)),(1000000,some k5,.obj 81 (aO p2))] mixed (λu=>⟨λ_=>aN 2 u rfl,λ_=>aN 4 u rfl,λ_=>aN 0 u rfl,trivial⟩) λu=>zP 0 rfl rfl (zN 1 rfl rfl (zF 2 rfl eM rfl (zL 3 0 (aZ gC.a) rfl fA rfl rfl rfl (zI 4 rfl rfl (zP 5 rfl rfl (zN 6 rfl rfl (zF 7 rfl eM rfl (zL 8 0 (aZ gC.a) rfl fA rfl rfl rfl (zI 9 rfl rfl ?_)))))))))))
 obtain⟨x1,X0,m⟩:=aC m
 refine zC 10 rfl (cQ (oC.k.ix X0) fZ oC.k.z rfl rfl) (zC 11 rfl (cV (bJ.ne oC.k.z (oC.k.ix X0)) jA rfl rfl) ?_)
 obtain⟨gv0,hg0,ga0,gn0⟩:=oC.gx X0
 refine w6 12 rfl (λ_ _ hi hB=>gR (dX (fo:=34) (awO aO 4 (gx gC.gs y0.1.toNat) x1.Locs) (oC.k.ix X0) i8 oC.k.z fO rfl (fS.get 1 hi rfl (hB 17 (by kernel_rfl))) (λ_=>rfl)) (bD.of_eq (congrArg (λz=>awO aO 4 z x1.Locs) hg0))) (zL 13 2 (.agg (aO p2)) rfl nM rfl rfl rfl ?_)
 obtain⟨y1,Y1,m⟩:=aC m
 refine zE 14 rfl ?_
 have ho0:=qT (R:=([(some k5,.obj 81 (aO p2)),(some k2,.obj 38 (aJ p1)),OC p0K p0.Seq gS.a gC.a gE.a gV,bH gS p0.Snaps,aX gC p0.Chunks,bM gE p0.Exps,aV gV p0.Vols]++((bL gS p0.Snaps)++((kP 81 aO ((nl aB.Locs (zg (p0.Chunks:List aB) gC.gs)).eraseIdx y0.1.toNat))++(bN gE p0.Exps))))) u [[_],[_],[_],[_],[_],[_],[_],_,_,_] rfl 8 rfl gn0 rfl
 have ho1:=cJ [(dO gv0 x1.Locs)] _ ho0.2
 refine eA (ho0.1.trans (cM h [(dO gv0 x1.Locs)] _).symm) (dD (OP _ ga0 ho1.2 Y1) rfl OQ rfl ?_)
 rintro x h' ⟨ag0,O0,K1,rfl,rfl⟩
 refine nH (cM h [fG ag0 y1] _) (⟨⟨λ_=>aN 3 (cZ ho1.1 K1) rfl,λ_=>aN 5 (cZ ho1.1 K1) rfl,λ_=>aN 1 (cZ ho1.1 K1) rfl,trivial⟩, ?_⟩)
 obtain⟨x2,X1,m⟩:=aC m
 refine zC 15 rfl (cQ (oC.k.ix X1) fZ oC.k.z rfl rfl) (zC 16 rfl (cV (bJ.ne oC.k.z (oC.k.ix X1)) jA rfl rfl) (zE 17 rfl (cO (fo:=34) (x':=(({ x2 with Locs:=y1}:aB),some ag0)) 5 (cZ ho1.1 K1) (oC.k.ix X1) i8 oC.k.z rfl rfl (cH rfl) (cI (bZ _ _ _) rfl) (cW.refl _ _) oD rfl rfl ?_)))
 intro K2
 have O1:=oC.setL (x':=({ x2 with Locs:=y1}:aB)) X1 ag0 O0
 have hr0:=uA (L':=(dO ag0 y1)::(([(some k5,.obj 81 (aO p2)),(some k2,.obj 38 (aJ p1)),OC p0K p0.Seq gS.a gC.a gE.a gV,bH gS p0.Snaps,(gC.a.t,.obj 44 (fl jR (((zg (p0.Chunks:List aB) gC.gs)).set y0.1.toNat (({ x2 with Locs:=y1}:aB),some ag0)) gC.a.sp)),bM gE p0.Exps,aV gV p0.Vols]:HL)++((bL gS p0.Snaps)++((kP 81 aO ((nl aB.Locs (zg (p0.Chunks:List aB) gC.gs)).eraseIdx y0.1.toNat))++(bN gE p0.Exps))))) K2 [[_],[_],[_],[_],[_],[_],[_],[_],_,_,_] rfl [0,1,2,3,4,5,6,7,8,9,10] rfl rfl
 have hj0:=o7 (L':=([(some k5,.obj 81 (aO p2)),(some k2,.obj 38 (aJ p1)),OC p0K p0.Seq gS.a ((⟨gC.a,gC.gs.set y0.1.toNat (some ag0)⟩:dC).a) gE.a gV,bH gS p0.Snaps,aX (⟨gC.a,gC.gs.set y0.1.toNat (some ag0)⟩:dC) (p0.Chunks.set y0.1.toNat ({ x2 with Locs:=y1})),bM gE p0.Exps,aV gV p0.Vols]++((bL gS p0.Snaps)++((aY (⟨gC.a,gC.gs.set y0.1.toNat (some ag0)⟩:dC) (p0.Chunks.set y0.1.toNat ({ x2 with Locs:=y1})))++(bN gE p0.Exps))))) [[_],[_],[_],[_],[_],[_],[_],_,_,_] rfl 8 (zs:=nl aB.Locs (zg (p0.Chunks:List aB) gC.gs)) (j:=y0.1.toNat) (aB.Locs ({ x2 with Locs:=y1}:aB),some ag0) (jX (oC.k.nlat X1)) rfl hr0.2 (by rw[<- (oC.k.setL (x':=({ x2 with Locs:=y1}:aB)) X1 ag0 O0).2.2,(oC.k.setL (x':=({ x2 with Locs:=y1}:aB)) X1 ag0 O0).2.1]; rfl)
 refine nH (hr0.1.trans hj0.1) (⟨⟨λ_=>aN 2 hj0.2 rfl,λe=>absurd e (by decide),λ_=>aN 0 hj0.2 rfl,trivial⟩, ?_⟩)
 exact zX (qk (f:=AE 44 _ _ _ _ _ _ _ _ _ _ _ _ _ _ _ _ _ _) hj0.2 rfl (eF m (gS,(⟨gC.a,gC.gs.set y0.1.toNat (some ag0)⟩:dC),gE) ⟨ok_Snaps,O1,oE⟩ (lx .nil)))
 refine vs (v0 (oA m (σ:=Int×(List aI)×(List aQ)) (τ:=dC×dC) (λg s=>([(some k5,.obj 81 (aO p2)),(some k2,.obj 38 (aJ p1)),OC p0K s.1 g.1.a gC.a g.2.a gV,bH g.1 s.2.1,aX gC p0.Chunks,bM g.2 s.2.2,aV gV p0.Vols]++((bL g.1 s.2.1)++((aY gC p0.Chunks)++(bN g.2 s.2.2))))) (λg s=>mH aI.Locs 4 4 g.1 (s.2.1:List aI)/\mH aQ.Locs 3 4 g.2 (s.2.2:List aQ)) (λg s=>.nil) (λx m=> ?_) ?_))
 refine v0 ?_
 apply vi m<;>intro c2 m
 refine vs (v0 (kX rfl (dY eG rfl rfl (vl 2 (aZ gS.a) fE rfl rfl rfl ?_))))
 obtain⟨y2,Y2,m⟩:=aC m
 refine ve λu=> ?_
 have ho2:=FH (A:=[bH gS p0.Snaps]) (R:=([(some k5,.obj 81 (aO p2)),(some k2,.obj 38 (aJ p1)),OC p0K p0.Seq gS.a gC.a gE.a gV,aX gC p0.Chunks,bM gE p0.Exps,aV gV p0.Vols]++((bL gS p0.Snaps)++((aY gC p0.Chunks)++(bN gE p0.Exps))))) u [[_],[_],[_],[_],[_],[_],[_],_,_,_] rfl [3] [0,1,2,4,5,6,7,8,9] rfl rfl rfl
 refine eA ho2.1 (dD (aCF lB _ ok_Snaps.k.z ho2.2.2 aCG (λx0 o h0 hs ho=>aCH (p0:=x0.1) (og0:=x0.2) h0 (hs _ _ (a9 1 ho2.2.1 rfl)) ho) (OM ok_Snaps.k.len Y2)) rfl NQ rfl ?_)
 rintro x h' ⟨rfl,rfl⟩
 refine qk u ho2.1.symm (vs (vs (v0 (v0 ?_))))
 apply vi m<;>intro c3 m
 refine vs (v0 (v0 (gM m λm=>gM m λm=> ?_)))
 cases m
 exact vr λu=>dW.of1 (.inl rfl) (gK _ _ (.sc (.int _ _)) rfl) (uB (L':=([OC p0K p0.Seq gS.a gC.a gE.a gV,bH gS p0.Snaps,aX gC p0.Chunks,bM gE p0.Exps,aV gV p0.Vols]++((bL gS p0.Snaps)++((aY gC p0.Chunks)++(bN gE p0.Exps))))) u [[_],[_],[_],[_],[_],[_],[_],_,_,_] rfl [2,3,4,5,6,7,8,9] rfl rfl).2 (bD.refl _ _) ⟨gS,ok_Snaps,gC,oC,gE,oE,(uB (L':=([OC p0K p0.Seq gS.a gC.a gE.a gV,bH gS p0.Snaps,aX gC p0.Chunks,bM gE p0.Exps,aV gV p0.Vols]++((bL gS p0.Snaps)++((aY gC p0.Chunks)++(bN gE p0.Exps))))) u [[_],[_],[_],[_],[_],[_],[_],_,_,_] rfl [2,3,4,5,6,7,8,9] rfl rfl).1,rfl,rfl⟩
 refine v0 (v0 (vz [(1000000,some p0K,.obj 30 ([nZ p0.Seq,aZ gS.a,aZ gC.a,aZ gE.a,aZ gV])),(17,gS.a.t,.obj 60 (fl lA (zg (p0.Snaps:List aI) gS.gs) gS.a.sp)),(1000000,some k5,.obj 81 (aO p2))] mixed (λu=>⟨λ_=>aN 2 u rfl,λ_=>aN 3 u rfl,λ_=>aN 0 u rfl,trivial⟩) λu=>zP 0 rfl rfl (zN 1 rfl rfl (zF 2 rfl eG rfl (zL 3 0 (aZ gS.a) rfl fE rfl rfl rfl (zI 4 rfl rfl (zP 5 rfl rfl (zN 6 rfl rfl (zF 7 rfl eG rfl (zL 8 0 (aZ gS.a) rfl fE rfl rfl rfl (zI 9 rfl rfl ?_)))))))))))
 obtain⟨x3,X2,m⟩:=aC m
 refine zC 10 rfl (cQ (ok_Snaps.k.ix X2) jG ok_Snaps.k.z rfl rfl) (zC 11 rfl (cV (bJ.ne ok_Snaps.k.z (ok_Snaps.k.ix X2)) kJ rfl rfl) ?_)
 obtain⟨gv1,hg1,ga1,gn1⟩:=ok_Snaps.gx X2
 refine w6 12 rfl (λ_ _ hi hB=>gR (dX (fo:=3) (awO aO 4 (gx gS.gs y2.toNat) x3.Locs) (ok_Snaps.k.ix X2) lB ok_Snaps.k.z fO rfl (fS.get 1 hi rfl (hB 17 (by kernel_rfl))) (λ_=>rfl)) (bD.of_eq (congrArg (λz=>awO aO 4 z x3.Locs) hg1))) (zL 13 2 (.agg (aO p2)) rfl nM rfl rfl rfl ?_)
 obtain⟨y3,Y3,m⟩:=aC m
 refine zE 14 rfl ?_
 have ho3:=qT (R:=([(some k5,.obj 81 (aO p2)),(some k2,.obj 38 (aJ p1)),OC p0K p0.Seq gS.a gC.a gE.a gV,bH gS p0.Snaps,aX gC p0.Chunks,bM gE p0.Exps,aV gV p0.Vols]++((kP 81 aO ((nl aI.Locs (zg (p0.Snaps:List aI) gS.gs)).eraseIdx y2.toNat))++((aY gC p0.Chunks)++(bN gE p0.Exps))))) u [[_],[_],[_],[_],[_],[_],[_],_,_,_] rfl 7 rfl gn1 rfl
 have ho4:=cJ [(dO gv1 x3.Locs)] _ ho3.2
 refine eA (ho3.1.trans (cM h [(dO gv1 x3.Locs)] _).symm) (dD (OP _ ga1 ho4.2 Y3) rfl OQ rfl ?_)
 rintro x h' ⟨ag1,O2,K4,rfl,rfl⟩
 refine nH (cM h [fG ag1 y3] _) (⟨⟨λ_=>aN 3 (cZ ho4.1 K4) rfl,λ_=>aN 4 (cZ ho4.1 K4) rfl,λ_=>aN 1 (cZ ho4.1 K4) rfl,trivial⟩, ?_⟩)
 obtain⟨x4,X3,m⟩:=aC m
 refine zC 15 rfl (cQ (ok_Snaps.k.ix X3) jG ok_Snaps.k.z rfl rfl) (zC 16 rfl (cV (bJ.ne ok_Snaps.k.z (ok_Snaps.k.ix X3)) kJ rfl rfl) (zE 17 rfl (cO (fo:=3) (x':=(({ x4 with Locs:=y3}:aI),some ag1)) 4 (cZ ho4.1 K4) (ok_Snaps.k.ix X3) lB ok_Snaps.k.z rfl rfl (cH rfl) (cI (bZ _ _ _) rfl) (cW.refl _ _) oD rfl rfl ?_)))
 intro K5
 have O3:=ok_Snaps.setL (x':=({ x4 with Locs:=y3}:aI)) X3 ag1 O2
 have hr1:=uA (L':=(dO ag1 y3)::(([(some k5,.obj 81 (aO p2)),(some k2,.obj 38 (aJ p1)),OC p0K p0.Seq gS.a gC.a gE.a gV,(gS.a.t,.obj 60 (fl lA (((zg (p0.Snaps:List aI) gS.gs)).set y2.toNat (({ x4 with Locs:=y3}:aI),some ag1)) gS.a.sp)),aX gC p0.Chunks,bM gE p0.Exps,aV gV p0.Vols]:HL)++((kP 81 aO ((nl aI.Locs (zg (p0.Snaps:List aI) gS.gs)).eraseIdx y2.toNat))++((aY gC p0.Chunks)++(bN gE p0.Exps))))) K5 [[_],[_],[_],[_],[_],[_],[_],[_],_,_,_] rfl [0,1,2,3,4,5,6,7,8,9,10] rfl rfl
 have hj1:=o7 (L':=([(some k5,.obj 81 (aO p2)),(some k2,.obj 38 (aJ p1)),OC p0K p0.Seq ((⟨gS.a,gS.gs.set y2.toNat (some ag1)⟩:dC).a) gC.a gE.a gV,bH (⟨gS.a,gS.gs.set y2.toNat (some ag1)⟩:dC) (p0.Snaps.set y2.toNat ({ x4 with Locs:=y3})),aX gC p0.Chunks,bM gE p0.Exps,aV gV p0.Vols]++((bL (⟨gS.a,gS.gs.set y2.toNat (some ag1)⟩:dC) (p0.Snaps.set y2.toNat ({ x4 with Locs:=y3})))++((aY gC p0.Chunks)++(bN gE p0.Exps))))) [[_],[_],[_],[_],[_],[_],[_],_,_,_] rfl 7 (zs:=nl aI.Locs (zg (p0.Snaps:List aI) gS.gs)) (j:=y2.toNat) (aI.Locs ({ x4 with Locs:=y3}:aI),some ag1) (jX (ok_Snaps.k.nlat X3)) rfl hr1.2 (by rw[<- (ok_Snaps.k.setL (x':=({ x4 with Locs:=y3}:aI)) X3 ag1 O2).2.2,(ok_Snaps.k.setL (x':=({ x4 with Locs:=y3}:aI)) X3 ag1 O2).2.1]; rfl)
 refine nH (hr1.1.trans hj1.1) (⟨⟨λ_=>aN 2 hj1.2 rfl,λe=>absurd e (by decide),λ_=>aN 0 hj1.2 rfl,trivial⟩, ?_⟩)
 exact zX (qk (f:=AE 71 _ _ _ _ _ _ _ _ _ _ _ _ _ _ _ _ _ _) hj1.2 rfl (eF m ((⟨gS.a,gS.gs.set y2.toNat (some ag1)⟩:dC),gE) ⟨O3,oE⟩ (lx .nil)))
 refine vs (v0 (oA m (σ:=Int×(List aQ)) (τ:=dC) (λg s=>([(some k5,.obj 81 (aO p2)),(some k2,.obj 38 (aJ p1)),OC p0K s.1 gS.a gC.a g.a gV,bH gS p0.Snaps,aX gC p0.Chunks,bM g s.2,aV gV p0.Vols]++((bL gS p0.Snaps)++((aY gC p0.Chunks)++(bN g s.2))))) (λg s=>mH aQ.Locs 3 4 g (s.2:List aQ)) (λg s=>.nil) (λx m=> ?_) ?_))
 refine v0 ?_
 apply vi m<;>intro c4 m
 refine vs (v0 (BL (by kernel_rfl) (kX rfl (dY eH rfl rfl (vl 2 (aZ gE.a) gN rfl rfl rfl (dY mB rfl rfl (vl 1 _ cG rfl rfl rfl ?_)))))))
 obtain⟨y4,Y4,m⟩:=aC m
 refine vn (λu=>bW (fL (.cons (Br.awN 5 fN eL XB oE.k u rfl (W8 [[_],[_],[_],[_],[_],[_],[_],_,_,_] rfl 9 rfl)) (.cons (Br.refl _ _) (.cons (Br.refl _ _) .nil))) rfl (aIE _ aCI (λx0 _ o h0 hs ho=>aID _ ho) Y4)) rfl aCJ rfl) (vs (vs (v0 (oA m (σ:=Int×(List aQ)) (τ:=dC) (λg s=>([(some k5,.obj 81 (aO p2)),(some k2,.obj 38 (aJ p1)),OC p0K s.1 gS.a gC.a g.a gV,bH gS p0.Snaps,aX gC p0.Chunks,bM g s.2,aV gV p0.Vols]++((bL gS p0.Snaps)++((aY gC p0.Chunks)++(bN g s.2))))) (λg s=>mH aQ.Locs 3 4 g (s.2:List aQ)) (λg s=>.c 0 (.ptr p0K 0) (.c 5 (.ptr k5 0) (.c 10 (nZ y4.1) .nil))) (λx m=> ?_) ?_))))
 refine v0 ?_
 apply vi m<;>intro c5 m
 refine vs (v0 (vz [(15,some p0K,.obj 30 ([nZ p0.Seq,aZ gS.a,aZ gC.a,aZ gE.a,aZ gV])),(1000000,some k2,.obj 38 (aJ p1))] mixed (λu=>⟨λ_=>aN 2 u rfl,λ_=>aN 1 u rfl,trivial⟩) λu=>zP 0 rfl rfl (zP 1 rfl rfl (zN 2 rfl rfl (zF 3 rfl eH rfl (zL 4 0 (aZ gE.a) rfl gN rfl rfl rfl (zI 5 rfl rfl (zF 6 rfl mB rfl (zL 7 1 (nZ p1.Seq) rfl cG rfl rfl rfl (zF 8 rfl yG rfl (zL 9 1 (nZ p1.Of) rfl cG rfl rfl rfl (zC 10 rfl (gR (y:=.agg (lP ((({ Seq:=p1.Seq,Of:=p1.Of,Locs:=[]}:aQ):aQ),some g0))) (eQ ([nZ p1.Seq,nZ p1.Of,sZ]) aAV rfl) (bD.agg (.k2 (.cons (fU _) .nil)))) (zC 11 rfl (eJ (map lP [((({ Seq:=p1.Seq,Of:=p1.Of,Locs:=[]}:aQ):aQ),some g0)]) pL rfl rfl rfl rfl) ?_)))))))))))))
 obtain⟨y5,Y5,m⟩:=aC m
 refine zE 12 rfl ?_
 have ho5:=FH (A:=[bM gE p0.Exps]) (R:=([(some k5,.obj 81 (aO p2)),(some k2,.obj 38 (aJ p1)),OC p0K p0.Seq gS.a gC.a gE.a gV,bH gS p0.Snaps,aX gC p0.Chunks,aV gV p0.Vols]++((bL gS p0.Snaps)++((aY gC p0.Chunks)++(bN gE p0.Exps))))) u [[_],[_],[_],[_],[_],[_],[_],_,_,_] rfl [5] [0,1,2,3,4,6,7,8,9] rfl rfl rfl
 refine eA ho5.1 (dD (aIH o8 _ oE.k.z ho5.2.2 (SK oE.k.len (some g0) Y5)) rfl aCN rfl ?_)
 rintro x h' ⟨ag2,O4,K7,rfl,rfl⟩
 have K8:=FI (L':=([(some k5,.obj 81 (aO p2)),(some k2,.obj 38 (aJ p1)),(hO p0K p0.Seq gS.a gC.a gE.a gV),bH gS p0.Snaps,aX gC p0.Chunks,bM (⟨ag2,lU gE.gs y4.1.toNat (some g0)⟩:dC) y5,aV gV p0.Vols]++((bL gS p0.Snaps)++((aY gC p0.Chunks)++(bN gE p0.Exps))))) ho5.2.1 K7 [[_]] [[_],[_],[_],[_],[_],[_],_,_,_] rfl rfl [1,2,3,4,5,0,6,7,8,9] rfl rfl
 have K9:=SM (L':=([(some k5,.obj 81 (aO p2)),(some k2,.obj 38 (aJ p1)),(hO p0K p0.Seq gS.a gC.a gE.a gV),bH gS p0.Snaps,aX gC p0.Chunks,bM (⟨ag2,lU gE.gs y4.1.toNat (some g0)⟩:dC) y5,aV gV p0.Vols]++((bL gS p0.Snaps)++((aY gC p0.Chunks)++(bN (⟨ag2,lU gE.gs y4.1.toNat (some g0)⟩:dC) y5))))) K8.2 [[_],[_],[_],[_],[_],[_],[_],_,_,_] rfl 9 oE.k.len (og:=some g0) rfl Y5 rfl rfl
 refine nH (K8.1.trans K9.1) (⟨⟨λ_=>aN 2 K9.2 rfl,λ_=>aN 1 K9.2 rfl,trivial⟩, ?_⟩)
 refine zN 13 rfl rfl (zF 14 rfl eH rfl (zE 15 rfl (aL 2 ([nZ p0.Seq,aZ gS.a,aZ gC.a,aw (⟨ag2,lU gE.gs y4.1.toNat (some g0)⟩:dC).a.t (⟨ag2,lU gE.gs y4.1.toNat (some g0)⟩:dC).a.n (⟨ag2,lU gE.gs y4.1.toNat (some g0)⟩:dC).a.cap,aZ gV]) K9.2 rfl rfl (cH rfl) (cI (bZ _ _ _) rfl) KH rfl rfl λK10=>⟨⟨λe=>absurd e (by decide),λ_=>aN 1 K10 rfl,trivial⟩, ?_⟩)))
 refine zX (qk (f:=aFN 100 _ _ _ _ _ _ _ _ _ _ _ _ _ _ _ _) K10 rfl (v0 (vz [(11,some p0K,.obj 30 ([nZ p0.Seq,aZ gS.a,aZ gC.a,aw (⟨ag2,lU gE.gs y4.1.toNat (some g0)⟩:dC).a.t (⟨ag2,lU gE.gs y4.1.toNat (some g0)⟩:dC).a.n (⟨ag2,lU gE.gs y4.1.toNat (some g0)⟩:dC).a.cap,aZ gV])),(1000000,some k2,.obj 38 (aJ p1))] mixed (λu=>⟨λ_=>aN 2 u rfl,λ_=>aN 1 u rfl,trivial⟩) λu=>zP 0 rfl rfl (zP 1 rfl rfl (zN 2 rfl rfl (zF 3 rfl rN rfl (zL 4 0 (nZ p0.Seq) rfl cG rfl rfl rfl (zF 5 rfl mB rfl (zL 6 1 (nZ p1.Seq) rfl cG rfl rfl rfl (zC 7 rfl (mW rfl rfl rfl trivial) (zC 8 rfl (ZZ rfl rfl) (zN 9 rfl rfl (zF 10 rfl rN rfl (zE 11 rfl (aL 2 ([nZ (max p0.Seq (wrap .i64 (p1.Seq+1))),aZ gS.a,aZ gC.a,aw (⟨ag2,lU gE.gs y4.1.toNat (some g0)⟩:dC).a.t (⟨ag2,lU gE.gs y4.1.toNat (some g0)⟩:dC).a.n (⟨ag2,lU gE.gs y4.1.toNat (some g0)⟩:dC).a.cap,aZ gV]) u rfl rfl rfl rfl AA rfl rfl λK11=>⟨⟨λe=>absurd e (by decide),λ_=>aN 1 K11 rfl,trivial⟩, ?_⟩)))))))))))))))
 exact zX (qk (f:=VP 111 _ _ _ _ _ _ _ _ _ _ _ _) K11 rfl (eF m (⟨ag2,lU gE.gs y4.1.toNat (some g0)⟩:dC) (oE.ins Y5 rfl O4) (lx (.k3 .nil))))
 exact v0 (eF m gE oE (lx (.k3 .nil)))
 rintro ng0 ⟨j0,j1⟩ O5 m
 refine v0 (vz [(1000000,some p0K,.obj 30 ([nZ j0,aZ gS.a,aZ gC.a,aZ ng0.a,aZ gV])),(17,ng0.a.t,.obj 99 (fl lP (zg (j1:List aQ) ng0.gs) ng0.a.sp)),(1000000,some k5,.obj 81 (aO p2))] mixed (λu=>⟨λ_=>aN 2 u rfl,λ_=>aN 5 u rfl,λ_=>aN 0 u rfl,trivial⟩) λu=>zP 0 rfl rfl (zN 1 rfl rfl (zF 2 rfl eH rfl (zL 3 0 (aZ ng0.a) rfl gN rfl rfl rfl (zI 4 rfl rfl (zP 5 rfl rfl (zN 6 rfl rfl (zF 7 rfl eH rfl (zL 8 0 (aZ ng0.a) rfl gN rfl rfl rfl (zI 9 rfl rfl ?_))))))))))
 obtain⟨x5,X4,m⟩:=aC m
 refine zC 10 rfl (cQ (O5.k.ix X4) gU O5.k.z rfl rfl) (zC 11 rfl (cV (bJ.ne O5.k.z (O5.k.ix X4)) lN rfl rfl) ?_)
 obtain⟨gv2,hg2,ga2,gn2⟩:=O5.gx X4
 refine w6 12 rfl (λ_ _ hi hB=>gR (dX (fo:=2) (awO aO 4 (gx ng0.gs y4.1.toNat) x5.Locs) (O5.k.ix X4) o8 O5.k.z fO rfl (fS.get 1 hi rfl (hB 17 (by kernel_rfl))) (λ_=>rfl)) (bD.of_eq (congrArg (λz=>awO aO 4 z x5.Locs) hg2))) (zL 13 2 (.agg (aO p2)) rfl nM rfl rfl rfl ?_)
 obtain⟨y6,Y6,m⟩:=aC m
 refine zE 14 rfl ?_
 have ho6:=qT (R:=([(some k5,.obj 81 (aO p2)),(some k2,.obj 38 (aJ p1)),OC p0K j0 gS.a gC.a ng0.a gV,bH gS p0.Snaps,aX gC p0.Chunks,bM ng0 j1,aV gV p0.Vols]++((bL gS p0.Snaps)++((aY gC p0.Chunks)++(kP 81 aO ((nl aQ.Locs (zg (j1:List aQ) ng0.gs)).eraseIdx y4.1.toNat)))))) u [[_],[_],[_],[_],[_],[_],[_],_,_,_] rfl 9 rfl gn2 rfl
 have ho7:=cJ [(dO gv2 x5.Locs)] _ ho6.2
 refine eA (ho6.1.trans (cM h [(dO gv2 x5.Locs)] _).symm) (dD (OP _ ga2 ho7.2 Y6) rfl OQ rfl ?_)
 rintro x h' ⟨ag3,O6,K12,rfl,rfl⟩
 refine nH (cM h [fG ag3 y6] _) (⟨⟨λ_=>aN 3 (cZ ho7.1 K12) rfl,λ_=>aN 6 (cZ ho7.1 K12) rfl,λ_=>aN 1 (cZ ho7.1 K12) rfl,trivial⟩, ?_⟩)
 obtain⟨x6,X5,m⟩:=aC m
 refine zC 15 rfl (cQ (O5.k.ix X5) gU O5.k.z rfl rfl) (zC 16 rfl (cV (bJ.ne O5.k.z (O5.k.ix X5)) lN rfl rfl) (zE 17 rfl (cO (fo:=2) (x':=(({ x6 with Locs:=y6}:aQ),some ag3)) 6 (cZ ho7.1 K12) (O5.k.ix X5) o8 O5.k.z rfl rfl (cH rfl) (cI (bZ _ _ _) rfl) (cW.refl _ _) oD rfl rfl ?_)))
 intro K13
 have O7:=O5.setL (x':=({ x6 with Locs:=y6}:aQ)) X5 ag3 O6
 have hr2:=uA (L':=(dO ag3 y6)::(([(some k5,.obj 81 (aO p2)),(some k2,.obj 38 (aJ p1)),OC p0K j0 gS.a gC.a ng0.a gV,bH gS p0.Snaps,aX gC p0.Chunks,(ng0.a.t,.obj 99 (fl lP (((zg (j1:List aQ) ng0.gs)).set y4.1.toNat (({ x6 with Locs:=y6}:aQ),some ag3)) ng0.a.sp)),aV gV p0.Vols]:HL)++((bL gS p0.Snaps)++((aY gC p0.Chunks)++(kP 81 aO ((nl aQ.Locs (zg (j1:List aQ) ng0.gs)).eraseIdx y4.1.toNat)))))) K13 [[_],[_],[_],[_],[_],[_],[_],[_],_,_,_] rfl [0,1,2,3,4,5,6,7,8,9,10] rfl rfl
 have hj2:=o7 (L':=([(some k5,.obj 81 (aO p2)),(some k2,.obj 38 (aJ p1)),OC p0K j0 gS.a gC.a ((⟨ng0.a,ng0.gs.set y4.1.toNat (some ag3)⟩:dC).a) gV,bH gS p0.Snaps,aX gC p0.Chunks,bM (⟨ng0.a,ng0.gs.set y4.1.toNat (some ag3)⟩:dC) (j1.set y4.1.toNat ({ x6 with Locs:=y6})),aV gV p0.Vols]++((bL gS p0.Snaps)++((aY gC p0.Chunks)++(bN (⟨ng0.a,ng0.gs.set y4.1.toNat (some ag3)⟩:dC) (j1.set y4.1.toNat ({ x6 with Locs:=y6}))))))) [[_],[_],[_],[_],[_],[_],[_],_,_,_] rfl 9 (zs:=nl aQ.Locs (zg (j1:List aQ) ng0.gs)) (j:=y4.1.toNat) (aQ.Locs ({ x6 with Locs:=y6}:aQ),some ag3) (jX (O5.k.nlat X5)) rfl hr2.2 (by rw[<- (O5.k.setL (x':=({ x6 with Locs:=y6}:aQ)) X5 ag3 O6).2.2,(O5.k.setL (x':=({ x6 with Locs:=y6}:aQ)) X5 ag3 O6).2.1]; rfl)
 refine nH (hr2.1.trans hj2.1) (⟨⟨λ_=>aN 2 hj2.2 rfl,λe=>absurd e (by decide),λ_=>aN 0 hj2.2 rfl,trivial⟩, ?_⟩)
 exact zX (qk (f:=AE 128 _ _ _ _ _ _ _ _ _ _ _ _ _ _ _ _ _ _) hj2.2 rfl (eF m (⟨ng0.a,ng0.gs.set y4.1.toNat (some ag3)⟩:dC) O7 (lx .nil)))
 exact v0 (eF m gE oE (lx .nil))
 rintro ng1 ⟨j2,j3⟩ O8 m
 exact eF m (gS,ng1) ⟨ok_Snaps,O8⟩ (lx .nil)
 rintro⟨ng2,ng3⟩ ⟨j4,j5,j6⟩ ⟨O9,O10⟩ m
 exact eF m (ng2,gC,ng3) ⟨O9,oC,O10⟩ (lx .nil)
 rintro⟨ng4,ng5,ng6⟩ ⟨j7,j8,j9,j10⟩ ⟨O11,O12,O13⟩ m
 refine vs (v0 (v0 ?_))
 cases m
 exact vr λu=>dW.of1 (.inl rfl) (gK _ _ (.sc (.int _ _)) rfl) (uB (L':=([OC p0K j7 ng4.a ng5.a ng6.a gV,bH ng4 j8,aX ng5 j9,bM ng6 j10,aV gV p0.Vols]++((bL ng4 j8)++((aY ng5 j9)++(bN ng6 j10))))) u [[_],[_],[_],[_],[_],[_],[_],_,_,_] rfl [2,3,4,5,6,7,8,9] rfl rfl).2 (bD.refl _ _) ⟨ng4,O11,ng5,O12,ng6,O13,(uB (L':=([OC p0K j7 ng4.a ng5.a ng6.a gV,bH ng4 j8,aX ng5 j9,bM ng6 j10,aV gV p0.Vols]++((bL ng4 j8)++((aY ng5 j9)++(bN ng6 j10))))) u [[_],[_],[_],[_],[_],[_],[_],_,_,_] rfl [2,3,4,5,6,7,8,9] rfl rfl).1,rfl,rfl⟩
theorem aCO:aP prog 123=true:=by kernel_rfl
def LB (m:Nat) (p0:aE):Option (Bool):=
 after (if decide (p0.Kind < 1) then Bk true else Bk (decide (3 < p0.Kind)):Option (Lp (Bool) (Bool))) λj7=>some j7
theorem aIJ {u:Nat} {p0:aE} {o:Bool} (h:aF) (m:LB u p0=some o):
 aM prog 122 [.agg (aJ p0)] h (λr h'=>r= .sc (.bool o)/\h'=h):=by
 refine fM 11 [.tmp 2] Tryz.func122 rfl rfl rfl rfl ?_
 unfold LB at m
 refine v (gX rfl rfl λk2 K3=>vs (fP m (σ:=Bool) (λs=>[(some k2,.obj 38 (aJ p0))]) (λs=>.c 2 (.sc (.bool s)) .nil) (λx m=> ?_) ?_))
 refine v (vl 0 _ cG rfl rfl rfl ?_)
 apply vi m<;>intro b8 m
 rw[b8]
 exact nI m
 rw[b8]
 exact vl 0 _ cG rfl rfl rfl (nI m)
 rintro _ j7 m
 refine v ?_
 obtain rfl:=eT m
 exact eI rfl
theorem aCP:aP prog 122=true:=by kernel_rfl
def uF (m:Nat) (p0:List aE) (p1:aE->Option Bool) (q0:Int):Option (Lp (Int) (Int)):=
 if decide (q0 < (p0.length:Int)) then ((ix p0 q0).bind λx0=>(p1 x0).bind λy0=>if y0 then Rk q0 else Gk (wrap .i64 (q0+1))) else Bk q0
def OR (m:Nat) (p0:List aE) (p1:aE->Option Bool):Option (Int):=
 after (aT (λs=>uF m p0 p1 s) m 0) λr0=>some (-1)
theorem aIK {w:Nat} {p0:List aE} {p1:aE->Option Bool} {o:Int} (h:aF) {p1F:Nat} {p1C:List AV} (p1B:aP prog p1F=true) (p1H:∀x0 o h0,iG h h0->p1 x0=some o->aM prog p1F ([.agg (aJ x0)]++p1C) h0 (λr h'=>r= .sc (.bool o)/\h'=h0)) (m:OR w p0 p1=some o):
 aM prog 175 [.sl none 37 (map aJ p0),.fn (.func p1F) p1C] h (λr h'=>r=nZ o/\h'=h):=by
 refine fM 19 [.tmp 4] Tryz.func175 rfl rfl rfl rfl ?_
 unfold OR at m
 refine v (v (dI mA rfl (jT m (σ:=Int) (λs=>[]) (λs=>.c 0 (.sl none 37 (map aJ p0)) (.c 1 (.fn (.func p1F) p1C) (.c 7 (nZ (p0.length:Int)) (.c 8 (nZ s) .nil)))) (lx (.k4 .nil)) ?_ ?_)))
 rintro _ q0 x m
 replace m:uF w p0 p1 q0=some x:=m
 unfold uF at m
 refine v (v ?_)
 apply vi m<;>intro c0 m
 refine v (v (v (v (vx m n3 rfl rfl λx1 _ m=>va (.agg (aJ x1)) CV rfl rfl ?_))))
 obtain⟨_,Y0,m⟩:=aC m
 refine vn (λu=>bW (p1H _ _ _ (aU (nil_sublist _) u).1 Y0) rfl p1B rfl) (v ?_)
 apply vi m<;>intro c1 m
 refine v (v (gM m λm=> ?_))
 obtain rfl:=eT m
 exact eI rfl
 exact v (v (fV m))
 exact v (u0 m)
 rintro _ r0 m
 refine v (v ?_)
 cases m
 exact eI rfl
theorem aCQ:aP prog 175=true:=by kernel_rfl
def OS (m:Nat) (p0:List aE) (p1:aE->Option Bool):Option (Bool):=
 (OR m p0 p1).bind λy3=>some (decide (0<=y3))
theorem aIL {w:Nat} {p0:List aE} {p1:aE->Option Bool} {o:Bool} (h:aF) {p1F:Nat} {p1C:List AV} (p1B:aP prog p1F=true) (p1H:∀x0 o h0,iG h h0->p1 x0=some o->aM prog p1F ([.agg (aJ x0)]++p1C) h0 (λr h'=>r= .sc (.bool o)/\h'=h0)) (m:OS w p0 p1=some o):
 aM prog 121 [.sl none 37 (map aJ p0),.fn (.func p1F) p1C] h (λr h'=>r= .sc (.bool o)/\h'=h):=by
 refine fM 9 [.tmp 4] Tryz.func121 rfl rfl rfl rfl ?_
 unfold OS at m
 refine v (v ?_)
 obtain⟨_,Y4,m⟩:=aC m
 refine vn (λu=>bW (aIK _ p1B (λx0 o h0 hs ho=>p1H x0 o h0 ((aU (nil_sublist _) u).1.trans hs) ho) Y4) rfl aCQ rfl) (v ?_)
 cases m
 exact eI rfl
theorem aCR:aP prog 121=true:=by kernel_rfl
def SN (m:Nat) (p0:aI) (c0:List Int):Option (Bool):=
 some ((c0:List Int).any λz=>p0.Seq==z)
theorem aIM {w:Nat} {p0:aI} {c0:List Int} {o:Bool} (h:aF) {c0K c0M:bX} (c0H:h c0K=some (.obj 161 [.mpv c0M])) (c0G:h c0M=some (.mp (gD kI (c0:List Int)))) (m:SN w p0 c0=some o):
 aM prog 125 [.agg (bQ p0),.ptr c0K 0] h (λr h'=>r= .sc (.bool o)/\h'=h):=by
 refine fM 8 [.tmp 3] Tryz.func125 rfl rfl rfl rfl ?_
 unfold SN at m
 refine v (gX rfl rfl λk2 K3=>v (vn (λu=>gO (.mpv c0M) UA rfl (fX u c0H) rfl) (vl 0 _ cG rfl rfl rfl (vn (λu=>GW UB zb4 (yA.int u3) rfl rfl (fX u c0G)) (v ?_)))))
 cases m
 exact eI rfl
theorem aCS:aP prog 125=true:=by kernel_rfl
def oI (m:Nat) (p1:aI->Option Bool) (q0:List aI) (q1:Int) (q2:Int):Option (Lp ((List aI)×Int×Int) ((List aI))):=
 if decide (q2 < (q0.length:Int)) then ((ix q0 q2).bind λx0=>(p1 x0).bind λy0=>after (if (!y0)then ((ix q0 q1).bind λ_=>Bk (q0.set q1.toNat (x0),wrap .i64 (q1+1))) else Bk (q0,q1):Option (Lp ((List aI)×Int) (Lp ((List aI)×Int×Int) ((List aI))))) λ⟨j0,j1⟩=>Gk (j0,j1,wrap .i64 (q2+1))) else Bk (q0,q1,q2)
def FO (m:Nat) (p0:List aI) (p1:aI->Option Bool):Option ((List aI)):=
 (FN m p0 p1).bind λy3=>if (y3==(-1))then (some p0) else after (aT (λs=>oI m p1 s.1 s.2.1 s.2.2) m (p0,y3,wrap .i64 (y3+1))) λ⟨r0,r1,r2⟩=>grd (decide (0<=r1) && decide (r1 < (r0.length:Int))) <| grd (decide (0<=r1) && decide (r1<=(r0.length:Int))) <| some (r0.take r1.toNat)
theorem aCT {w:Nat} {p0:List aI} {p1:aI->Option Bool} {o:(List aI)} (h:aF) {g_p0:cY} (ok_p0:bJ g_p0 4 p0.length) (K0:bT h [(dM g_p0 p0)]) {p1F:Nat} {p1C:List AV} (p1B:aP prog p1F=true) (p1H:∀x0 o h0,iG h h0->p1 x0=some o->aM prog p1F ([.agg (bQ x0)]++p1C) h0 (λr h'=>r= .sc (.bool o)/\h'=h0)) (m:FO w p0 p1=some o):
 aM prog 124 [aZ g_p0,.fn (.func p1F) p1C] (hp h [(dM g_p0 p0)]) (λr h'=>∃g:cY,bJ g 4 o.length/\bT h [(g.t,.obj 60 (fl bQ o g.sp))]/\r=aZ g/\h'=hp h [(g.t,.obj 60 (fl bQ o g.sp))]):=by
 refine z9 K0 42 [.tmp 4] Tryz.func124 rfl rfl rfl rfl ?_
 unfold FO at m
 refine vs (v0 (vs (v0 ?_)))
 obtain⟨_,Y4,m⟩:=aC m
 refine ve λu=>eA ((bB u [0] rfl rfl).1.trans (cM h [(dM g_p0 p0)] []).symm) (dD (aCK (hp h []) ok_p0 (cJ [(dM g_p0 p0)] [] (bB u [0] rfl rfl).2).2 p1B (λx0 o h0 hs ho=>p1H x0 o h0 ((aU (nil_sublist _) (cJ [(dM g_p0 p0)] [] (bB u [0] rfl rfl).2).1).1.trans hs) ho) Y4) rfl NQ rfl ?_)
 rintro x h' ⟨rfl,rfl⟩
 refine qk u ((cM h [(dM g_p0 p0)] []).trans (bB u [0] rfl rfl).1.symm) (vs (vs (v0 (v0 ?_))))
 apply vi m<;>intro c7 m
 refine vs (v0 (v0 ?_))
 obtain rfl:=eT m
 exact vr λu=>dW.one (.inl rfl) (aU (h0:=h) (L':=[(dM g_p0 p0)]) (.refl _) u).1 (bD.refl _ _) ⟨g_p0,ok_p0,(aU (h0:=h) (L':=[(dM g_p0 p0)]) (.refl _) u).2,rfl,rfl⟩
 refine v0 (vs (vs (v0 (nE m (σ:=(List aI)×Int×Int) (τ:=cY) (λg s=>[(dM g s.1)]) (λg s=>bJ g 4 (s.1:List aI).length) (λg s=>.c 0 (aZ g) (.c 1 (.fn (.func p1F) p1C) (.c 5 (nZ s.2.1) (.c 6 (nZ s.2.2) .nil)))) g_p0 ok_p0 (lx (.k4 .nil)) ?_ ?_))))
 rintro ag0 ⟨q0,q1,q2⟩ x O0 m
 replace m:oI w p1 q0 q1 q2=some x:=m
 unfold oI at m
 refine vs (vs (v0 (bV (eC kN O0 rfl) (v0 ?_))))
 apply vi m<;>intro c0 m
 refine v0 (vs (v0 (vs (v0 ?_))))
 obtain⟨x1,X0,m⟩:=aC m
 refine bV (cQ X0 jG O0 rfl rfl) (vn (λu=>dX (fo:=0) (.agg (bQ x1)) X0 eV O0 tB rfl (aN 0 u rfl) (λ_=>rfl)) (ve λu=>bE (YM) u yJ rfl rfl λk86 K1=>qk K1 rfl (ve λu=>aL 0 (bQ x1) u rfl rfl rfl rfl HC rfl rfl λK2=>qk K2 rfl (vs (v0 (vl 0 (.agg (bQ x1)) tB rfl rfl rfl ?_))))))
 obtain⟨_,Y0,m⟩:=aC m
 refine vn (λu=>bW (p1H _ _ _ (aU (nil_sublist _) u).1 Y0) rfl p1B rfl) (oA m (σ:=(List aI)×Int) (τ:=cY) (λg s=>[(some k86,.obj 60 (bQ x1)),(dM g s.1)]) (λg s=>bJ g 4 (s.1:List aI).length) (λg s=>.c 0 (aZ g) (.c 1 (.fn (.func p1F) p1C) (.c 5 (nZ s.2) (.c 6 (nZ q2) .nil)))) (λx m=> ?_) ?_)
 refine v0 ?_
 apply vi m<;>intro c1 m
 refine vs (v0 (vl 0 (.agg (bQ x1)) tB rfl rfl rfl ?_))
 obtain⟨_,X1,m⟩:=aC m
 exact bV (cQ X1 jG O0 rfl rfl) (ve λu=>cO (fo:=0) (x1:aI) 1 u X1 eV O0 rfl rfl rfl rfl (cW.refl _ _) HC rfl rfl λK3=>qk K3 rfl (v0 (eF m ag0 (bJ.set O0) (lx (.k4 .nil)))))
 exact v0 (eF m ag0 O0 (lx (.k4 .nil)))
 rintro ag1 ⟨j0,j1⟩ O1 m
 exact v0 (eF m ag1 O1 (mG [1] rfl rfl (.k4 .nil)))
 exact v0 (lF m ag0 O0 (lx (.k4 .nil)))
 rintro ag2 ⟨r0,r1,r2⟩ t0 m
 refine vs (v0 ?_)
 obtain⟨Z0,m⟩:=l6 m
 refine bV (CS Z0 jG t0 rfl rfl) (ve λu=>IS 0 u Z0 eV t0 u25 yJ rfl rfl rfl rfl λsp0 O2 K4=>qk K4 rfl (vs (v0 ?_)))
 obtain⟨Z1,m⟩:=l6 m
 refine bV (CT Z1 t0 jG rfl rfl) (v0 ?_)
 cases m
 exact vr λu=>dW.one (.inl rfl) (aU (h0:=h) (L':=[((⟨ag2.t,r1.toNat,ag2.cap,sp0⟩:cY).t,.obj 60 (fl bQ (r0.take r1.toNat:List aI) (⟨ag2.t,r1.toNat,ag2.cap,sp0⟩:cY).sp))]) (.refl _) u).1 (bD.refl _ _) ⟨(⟨ag2.t,r1.toNat,ag2.cap,sp0⟩:cY),O2,(aU (h0:=h) (L':=[((⟨ag2.t,r1.toNat,ag2.cap,sp0⟩:cY).t,.obj 60 (fl bQ (r0.take r1.toNat:List aI) (⟨ag2.t,r1.toNat,ag2.cap,sp0⟩:cY).sp))]) (.refl _) u).2,rfl,rfl⟩
theorem aCU:aP prog 124=true:=by kernel_rfl
def o9 (m:Nat) (p0:aA) (p1:aW) (x0:aR) (q0:List Int) (q1:Int) (q2:List aI) (q3:List aB) (q4:List aQ) (q5:Int):Option (Lp ((List Int)×Int×(List aI)×(List aB)×(List aQ)×Int) (Int×Int×fD)):=
 if decide (q5 < (p1.Items.length:Int)) then ((ix p1.Items q5).bind λx1=>(HU m ({ Seq:=q1,Snaps:=q2,Chunks:=q3,Exps:=q4,Vols:=(p0.Vols.set p1.Vol.toNat ({ x0 with State:=2})).set p1.Vol.toNat ({ ({ x0 with State:=2}:aR) with Files:=wrap .i64 ((({ x0 with State:=2}:aR).Files)+1)})}:aA) x1 ({ Vol:=p1.Vol,File:=({ ({ x0 with State:=2}:aR) with Files:=wrap .i64 ((({ x0 with State:=2}:aR).Files)+1)}:aR).Files,Off:=x1.Off,Len:=x1.Len}:aS)).bind λy0=>if (y0.1 !=0)then (Rk (y0.1,y0.2.1,y0.2.2.1,y0.2.2.2.1,y0.2.2.2.2,(p0.Vols.set p1.Vol.toNat ({ x0 with State:=2})).set p1.Vol.toNat ({ ({ x0 with State:=2}:aR) with Files:=wrap .i64 ((({ x0 with State:=2}:aR).Files)+1)}))) else after (if (x1.Kind==3)then (Bk (mL (q0:List Int) x1.Of)) else Bk q0:Option (Lp ((List Int)) (Lp ((List Int)×Int×(List aI)×(List aB)×(List aQ)×Int) (Int×Int×fD)))) λj0=>(yP m y0.2.2.2.1 x1.Id).bind λy1=>after (if (x1.Kind==1)then (if y1.2 then (Bk ((({ ({ x0 with State:=2}:aR) with Files:=wrap .i64 ((({ x0 with State:=2}:aR).Files)+1)}:aR).Pool)==0)) else Bk false) else Bk false:Option (Lp (Bool) (Lp ((List Int)×Int×(List aI)×(List aB)×(List aQ)×Int) (Int×Int×fD)))) λj1=>after (if j1 then ((ix y0.2.2.2.1 y1.1).bind λx2=>(ix (y0.2.2.2.1.set y1.1.toNat ({ x2 with Staged:=false})) y1.1).bind λx3=>Bk ((y0.2.2.2.1.set y1.1.toNat ({ x2 with Staged:=false})).set y1.1.toNat ({ x3 with Data:=([]:List Int)}))) else Bk y0.2.2.2.1:Option (Lp ((List aB)) (Lp ((List Int)×Int×(List aI)×(List aB)×(List aQ)×Int) (Int×Int×fD)))) λj2=>Gk (j0,y0.2.1,y0.2.2.1,j2,y0.2.2.2.2,wrap .i64 (q5+1))) else Bk (q0,q1,q2,q3,q4,q5)
def ZA (m:Nat) (p0:aA) (p1:aW):Option (Int×Int×fD):=
 (OS m p1.Items (λx0=>LB m x0)).bind λy6=>after (if decide (p1.Vol < 0) then Bk true else if decide ((p0.Vols.length:Int)<=p1.Vol) then Bk true else (ix p0.Vols p1.Vol).bind λx1=>if (x1.State==3)then Bk true else if decide ((p1.Items.length:Int) < 1) then Bk true else if decide (64 < (p1.Items.length:Int)) then Bk true else Bk (!(!y6)):Option (Lp (Bool) (Int×Int×fD))) λj0=>if j0 then (some (1,p0.Seq,p0.Snaps,p0.Chunks,p0.Exps,p0.Vols)) else (ix p0.Vols p1.Vol).bind λx2=>after (aT (λs=>o9 m p0 p1 x2 s.1 s.2.1 s.2.2.1 s.2.2.2.1 s.2.2.2.2.1 s.2.2.2.2.2) m ([],p0.Seq,p0.Snaps,p0.Chunks,p0.Exps,0)) λ⟨r0,r1,r2,r3,r4,r5⟩=>(FO m r2 (λx0=>SN m x0 (r0:List Int))).bind λy0=>after (if decide ((y0.length:Int) < (r2.length:Int)) then ((LA m ({ Seq:=r1,Snaps:=y0,Chunks:=r3,Exps:=r4,Vols:=(p0.Vols.set p1.Vol.toNat ({ x2 with State:=2})).set p1.Vol.toNat ({ ({ x2 with State:=2}:aR) with Files:=wrap .i64 ((({ x2 with State:=2}:aR).Files)+1)})}:aA)).bind λy1=>Bk y1) else Bk r3:Option (Lp ((List aB)) (Int×Int×fD))) λj1=>some (0,r1,y0,j1,r4,(p0.Vols.set p1.Vol.toNat ({ x2 with State:=2})).set p1.Vol.toNat ({ ({ x2 with State:=2}:aR) with Files:=wrap .i64 ((({ x2 with State:=2}:aR).Files)+1)}))
theorem W74 {w:Nat} {p0:aA} {p1:aW} {o:Int×Int×fD} (h:aF) {p0K:bX} {gS:dC} (ok_Snaps:mH aI.Locs 4 4 gS (p0.Snaps:List aI)) {gC:dC} (oC:mH aB.Locs 35 4 gC (p0.Chunks:List aB)) {gE:dC} (oE:mH aQ.Locs 3 4 gE (p0.Exps:List aQ)) {gV:cY} (oV:bJ gV 4 p0.Vols.length) (K0:bT h ([OC p0K p0.Seq gS.a gC.a gE.a gV,bH gS p0.Snaps,aX gC p0.Chunks,bM gE p0.Exps,aV gV p0.Vols]++((bL gS p0.Snaps)++((aY gC p0.Chunks)++(bN gE p0.Exps))))) (m:ZA w p0 p1=some o):
 aM prog 74 [.ptr p0K 0,.agg (aH p1)] (hp h ([OC p0K p0.Seq gS.a gC.a gE.a gV,bH gS p0.Snaps,aX gC p0.Chunks,bM gE p0.Exps,aV gV p0.Vols]++((bL gS p0.Snaps)++((aY gC p0.Chunks)++(bN gE p0.Exps))))) (λr h'=>∃g_Snaps':cY,bJ g_Snaps' 4 (o.2.2.1:List aI).length/\∃g_Chunks':cY,bJ g_Chunks' 35 (o.2.2.2.1:List aB).length/\∃g_Exps':cY,bJ g_Exps' 3 (o.2.2.2.2.1:List aQ).length/\∃g_Vols':cY,bJ g_Vols' 4 (o.2.2.2.2.2:List aR).length/\bT h [OC p0K o.2.1 g_Snaps' g_Chunks' g_Exps' g_Vols',bU g_Snaps' o.2.2.1,bO g_Chunks' o.2.2.2.1,dE g_Exps' o.2.2.2.2.1,aV g_Vols' o.2.2.2.2.2]/\r=nZ o.1/\h'=hp h [OC p0K o.2.1 g_Snaps' g_Chunks' g_Exps' g_Vols',bU g_Snaps' o.2.2.1,bO g_Chunks' o.2.2.2.1,dE g_Exps' o.2.2.2.2.1,aV g_Vols' o.2.2.2.2.2]):=by
 refine z9 K0 168 [.tmp 4] Tryz.func74 rfl rfl rfl rfl ?_
 unfold ZA at m
 refine vs (v0 (gX rfl rfl λk2 K3=>vs (v0 (dY iE rfl rfl (vl 0 _ mM rfl rfl rfl ?_)))))
 obtain⟨_,Y7,m⟩:=aC m
 refine bV (bW (aIL _ aCP (λx0 o h0 hs ho=>aIJ _ ho) Y7) rfl aCR rfl) (vs (vs (fP m (σ:=Bool) (λs=>([(some k2,.obj 62 (aH p1)),OC p0K p0.Seq gS.a gC.a gE.a gV,bH gS p0.Snaps,aX gC p0.Chunks,bM gE p0.Exps,aV gV p0.Vols]++((bL gS p0.Snaps)++((aY gC p0.Chunks)++(bN gE p0.Exps))))) (λs=>.c 0 (.ptr p0K 0) (.c 3 (.ptr k2 0) (.c 58 (.sc (.bool s)) .nil))) (λx m=> ?_) ?_)))
 refine v0 (BL (by kernel_rfl) (dY gJ rfl rfl (vl 0 _ cG rfl rfl rfl ?_)))
 apply vi m<;>intro b0 m
 rw[b0]
 exact hX m
 rw[b0]
 refine dY gJ rfl rfl (vl 0 _ cG rfl rfl rfl (kX rfl (dY gW rfl rfl (vl 1 (aZ gV) gH rfl rfl rfl (bV (eC pM oV rfl) ?_)))))
 apply vi m<;>intro b1 m
 rw[b1]
 exact hX m
 rw[b1]
 refine kX rfl (dY gW rfl rfl (vl 1 (aZ gV) gH rfl rfl rfl (dY gJ rfl rfl (vl 0 _ cG rfl rfl rfl ?_))))
 obtain⟨x1,X0,m⟩:=aC m
 refine bV (cQ X0 kZ oV rfl rfl) (bV (cV (bJ.ne oV X0) oU rfl rfl) (vn (λu=>dX (fo:=2) (nZ x1.State) X0 eR oV cG rfl (aN 5 u rfl) (λ_=>rfl)) ?_))
 apply vi m<;>intro b2 m
 rw[b2]
 exact hX m
 rw[b2]
 refine dY iE rfl rfl (vl 0 _ mM rfl rfl rfl (dI mA rfl ?_))
 apply vi m<;>intro b3 m
 rw[b3]
 exact hX m
 rw[b3]
 refine dY iE rfl rfl (vl 0 _ mM rfl rfl rfl (dI mA rfl ?_))
 apply vi m<;>intro b4 m
 rw[b4]
 exact hX m
 rw[b4]
 exact hX m
 rintro _ j0 m
 refine v0 ?_
 apply vi m<;>intro c0 m
 refine vs (v0 (v0 ?_))
 cases m
 exact C5 (D4 (L':=([(some k2,.obj 62 (aH p1)),OC p0K p0.Seq gS.a gC.a gE.a gV,bU gS.a p0.Snaps,aX gC p0.Chunks,bM gE p0.Exps,aV gV p0.Vols]++((aY gC p0.Chunks)++(bN gE p0.Exps)))) [[_],[_],[_],[_],[_],[_],_,_,_] rfl 2 6 eL qU ok_Snaps.k rfl rfl (by decide) rfl) (C5 (D4 (L':=([(some k2,.obj 62 (aH p1)),OC p0K p0.Seq gS.a gC.a gE.a gV,bU gS.a p0.Snaps,bO gC.a p0.Chunks,bM gE p0.Exps,aV gV p0.Vols]++(bN gE p0.Exps))) [[_],[_],[_],[_],[_],[_],_,_] rfl 3 6 eL oH oC.k rfl rfl (by decide) rfl) (C5 (D4 (L':=[(some k2,.obj 62 (aH p1)),OC p0K p0.Seq gS.a gC.a gE.a gV,bU gS.a p0.Snaps,bO gC.a p0.Chunks,dE gE.a p0.Exps,aV gV p0.Vols]) [[_],[_],[_],[_],[_],[_],_] rfl 4 6 eL wA oE.k rfl rfl (by decide) rfl) (vr λu=>dW.of1 (.inl rfl) (gK _ _ (.sc (.int _ _)) rfl) (bR u [1,2,3,4,5] rfl).2 (bD.refl _ _) ⟨gS.a,ok_Snaps.k.a,gC.a,oC.k.a,gE.a,oE.k.a,gV,oV,(bR u [1,2,3,4,5] rfl).1,rfl,rfl⟩)))
 refine v0 (vs (v0 (BL (by kernel_rfl) (kX rfl (dY gW rfl rfl (vl 1 (aZ gV) gH rfl rfl rfl (dY gJ rfl rfl (vl 0 _ cG rfl rfl rfl ?_))))))))
 obtain⟨x2,X1,m⟩:=aC m
 refine bV (cQ X1 kZ oV rfl rfl) (vs (v0 (bV (i9 (bJ.ne oV X1) rfl) (bV (cV (bJ.ne oV X1) oU rfl rfl) (ve λu=>cO (fo:=2) ({ x2 with State:=2}:aR) 5 u X1 eR oV rfl rfl rfl rfl (cW.refl _ _) AA rfl rfl λK1=>qk K1 rfl (vs (v0 (bV (i9 (bJ.ne (bJ.set oV) (dB (x':=({ x2 with State:=2}:aR)) X1)) rfl) (bV (cV (bJ.ne (bJ.set oV) (dB (x':=({ x2 with State:=2}:aR)) X1)) p4 rfl rfl) (vn (λu=>dX (fo:=3) (nZ (({ x2 with State:=2}:aR).Files)) (dB (x':=({ x2 with State:=2}:aR)) X1) eR (bJ.set oV) cG rfl (aN 5 u rfl) (λ_=>rfl)) (bV (i9 (bJ.ne (bJ.set oV) (dB (x':=({ x2 with State:=2}:aR)) X1)) rfl) (bV (cV (bJ.ne (bJ.set oV) (dB (x':=({ x2 with State:=2}:aR)) X1)) p4 rfl rfl) (ve λu=>cO (fo:=3) ({ ({ x2 with State:=2}:aR) with Files:=wrap .i64 ((({ x2 with State:=2}:aR).Files)+1)}:aR) 5 u (dB (x':=({ x2 with State:=2}:aR)) X1) eR (bJ.set oV) rfl rfl rfl rfl (cW.refl _ _) AA rfl rfl λK2=>qk K2 rfl (vs (v0 (ve λu=>CK u λk36 K4=>qk K4 rfl (ve λu=>bE ([.sc (.map none)]) u (show sD prog 161=some [.map none] by kernel_rfl) rfl rfl λk39 K5=>qk K5 rfl (ve λu=>aL 0 ([.mpv k36]) u rfl rfl rfl rfl aAW rfl rfl λK6=>qk K6 rfl ?_))))))))))))))))))
 refine vs (vs (v0 (dY iE rfl rfl (vl 2 _ mM rfl rfl rfl (dI mA rfl (nE m (σ:=(List Int)×Int×(List aI)×(List aB)×(List aQ)×Int) (τ:=dC×dC×dC) (λg s=>([(some k39,.obj 161 ([.mpv k36])),(some k36,.mp (gD kI (s.1:List Int))),(some k2,.obj 62 (aH p1)),OC p0K s.2.1 g.1.a g.2.1.a g.2.2.a gV,bH g.1 s.2.2.1,aX g.2.1 s.2.2.2.1,bM g.2.2 s.2.2.2.2.1,aV gV ((p0.Vols.set p1.Vol.toNat ({ x2 with State:=2})).set p1.Vol.toNat ({ ({ x2 with State:=2}:aR) with Files:=wrap .i64 ((({ x2 with State:=2}:aR).Files)+1)}))]++((bL g.1 s.2.2.1)++((aY g.2.1 s.2.2.2.1)++(bN g.2.2 s.2.2.2.2.1))))) (λg s=>mH aI.Locs 4 4 g.1 (s.2.2.1:List aI)/\mH aB.Locs 35 4 g.2.1 (s.2.2.2.1:List aB)/\mH aQ.Locs 3 4 g.2.2 (s.2.2.2.2.1:List aQ)) (λg s=>.c 0 (.ptr p0K 0) (.c 3 (.ptr k2 0) (.c 6 (wW gV.t (p1.Vol.toNat*4+0)) (.c 7 (.ptr k39 0) (.c 78 (.sl none 37 (map aJ p1.Items)) (.c 79 (nZ (p1.Items.length:Int)) (.c 80 (nZ s.2.2.2.2.2) .nil))))))) (gS,gC,gE) (⟨ok_Snaps,oC,oE⟩) (lx (.k7 .nil)) ?_ ?_))))))
 rintro⟨ng0,ng1,ng2⟩ ⟨q0,q1,q2,q3,q4,q5⟩ x ⟨O0,O1,O2⟩ m
 replace m:o9 w p0 p1 x2 q0 q1 q2 q3 q4 q5=some x:=m
 unfold o9 at m
 refine vs (v0 (vs (v0 ?_)))
 apply vi m<;>intro c1 m
 refine v0 (vs (v0 (vs (v0 (vx m n3 rfl rfl λx3 _ m=>va (.agg (aJ x3)) CV rfl rfl (ve λu=>bE (([nZ 0]:List AV)++bF iC++(J1:List AV)) u HB rfl rfl λk284 K7=>qk K7 rfl (ve λu=>aL 0 (aJ x3) u rfl rfl rfl rfl HA rfl rfl λK8=>qk K8 rfl (vs (v0 (vz [(1000000,some k284,.obj 38 (aJ x3)),(1000000,some k2,.obj 62 (aH p1)),(1000000,gV.t,.obj 49 (fl dN ((p0.Vols.set p1.Vol.toNat ({ x2 with State:=2})).set p1.Vol.toNat ({ ({ x2 with State:=2}:aR) with Files:=wrap .i64 ((({ x2 with State:=2}:aR).Files)+1)}):List aR) gV.sp))] mixed (λu=>⟨λ_=>aN 0 u rfl,λ_=>aN 3 u rfl,λ_=>aN 8 u rfl,trivial⟩) λu=>zP 0 rfl rfl (zL 1 0 (.agg (aJ x3)) rfl CV rfl rfl rfl (zF 2 rfl gJ rfl (zL 3 1 (nZ p1.Vol) rfl cG rfl rfl rfl (zC 4 rfl (fC (wW _ _) rfl) (zC 5 rfl (i9 (bJ.ne (bJ.set (bJ.set oV)) (dB (x':=({ ({ x2 with State:=2}:aR) with Files:=wrap .i64 ((({ x2 with State:=2}:aR).Files)+1)}:aR)) (dB (x':=({ x2 with State:=2}:aR)) X1))) rfl) (zC 6 rfl (cV (bJ.ne (bJ.set (bJ.set oV)) (dB (x':=({ ({ x2 with State:=2}:aR) with Files:=wrap .i64 ((({ x2 with State:=2}:aR).Files)+1)}:aR)) (dB (x':=({ x2 with State:=2}:aR)) X1))) p4 rfl rfl) (w6 7 rfl (λ_ _ hi hB=>dX (fo:=3) (nZ (({ ({ x2 with State:=2}:aR) with Files:=wrap .i64 ((({ x2 with State:=2}:aR).Files)+1)}:aR).Files)) (dB (x':=({ ({ x2 with State:=2}:aR) with Files:=wrap .i64 ((({ x2 with State:=2}:aR).Files)+1)}:aR)) (dB (x':=({ x2 with State:=2}:aR)) X1)) eR (bJ.set (bJ.set oV)) cG rfl (fS.get 2 hi rfl (hB 1000000 (by kernel_rfl))) (λ_=>rfl)) ?_)))))))))))))))))
 refine zF 8 rfl M5 rfl (zL 9 0 (nZ x3.Off) rfl cG rfl rfl rfl (zF 10 rfl M7 rfl (zL 11 0 (nZ x3.Len) rfl cG rfl rfl rfl (zC 12 rfl (eQ (aO ({ Vol:=p1.Vol,File:=({ ({ x2 with State:=2}:aR) with Files:=wrap .i64 ((({ x2 with State:=2}:aR).Files)+1)}:aR).Files,Off:=x3.Off,Len:=x3.Len}:aS)) aAU rfl) ?_))))
 obtain⟨y0,Y0,m⟩:=aC m
 refine zE 13 rfl ?_
 have ho0:=FH (A:=([OC p0K q1 ng0.a ng1.a ng2.a gV,bH ng0 q2,aX ng1 q3,bM ng2 q4,aV gV ((p0.Vols.set p1.Vol.toNat ({ x2 with State:=2})).set p1.Vol.toNat ({ ({ x2 with State:=2}:aR) with Files:=wrap .i64 ((({ x2 with State:=2}:aR).Files)+1)}))]++((bL ng0 q2)++((aY ng1 q3)++(bN ng2 q4))))) (R:=[(some k284,.obj 38 (aJ x3)),(some k39,.obj 161 ([.mpv k36])),(some k36,.mp (gD kI (q0:List Int))),(some k2,.obj 62 (aH p1))]) u [[_],[_],[_],[_],[_],[_],[_],[_],[_],_,_,_] rfl [4,5,6,7,8,9,10,11] [0,1,2,3] rfl rfl rfl
 refine eA ho0.1 (dD (aII (p0:=({ Seq:=q1,Snaps:=q2,Chunks:=q3,Exps:=q4,Vols:=(p0.Vols.set p1.Vol.toNat ({ x2 with State:=2})).set p1.Vol.toNat ({ ({ x2 with State:=2}:aR) with Files:=wrap .i64 ((({ x2 with State:=2}:aR).Files)+1)})}:aA)) _ (O0) (O1) (O2) ((bJ.set (bJ.set oV))) ho0.2.2 Y0) rfl aCO rfl ?_)
 rintro x h' ⟨ng3,O3,ng4,O4,ng5,O5,K9,rfl,rfl⟩
 have K10:=FI (L':=([(some k284,.obj 38 (aJ x3)),(some k39,.obj 161 ([.mpv k36])),(some k36,.mp (gD kI (q0:List Int))),(some k2,.obj 62 (aH p1)),OC p0K y0.2.1 ng3.a ng4.a ng5.a gV,bH ng3 y0.2.2.1,aX ng4 y0.2.2.2.1,bM ng5 y0.2.2.2.2,aV gV ((p0.Vols.set p1.Vol.toNat ({ x2 with State:=2})).set p1.Vol.toNat ({ ({ x2 with State:=2}:aR) with Files:=wrap .i64 ((({ x2 with State:=2}:aR).Files)+1)}))]++((bL ng3 y0.2.2.1)++((aY ng4 y0.2.2.2.1)++(bN ng5 y0.2.2.2.2))))) ho0.2.1 K9 [[_],[_],[_],[_],[_],_,_,_] [[_],[_],[_],[_]] rfl rfl [8,9,10,11,0,1,2,3,4,5,6,7] rfl rfl
 refine nH K10.1 (⟨⟨λ_=>aN 0 K10.2 rfl,λ_=>aN 3 K10.2 rfl,λ_=>aN 8 K10.2 rfl,trivial⟩, ?_⟩)
 refine zC 14 rfl (iJ (.sc (.int _ _)) rfl) (zX (qk (f:=.c 10 _ (VQ 97 _ _ _ _ _ _ _ _ _ _ _ _ _ _ _)) K10.2 rfl (vs (vs (v0 (v0 ?_))))))
 apply vi m<;>intro c2 m
 refine vs (v0 (v0 (gM m λm=> ?_)))
 cases m
 refine C5 (D4 (L':=([(some k284,.obj 38 (aJ x3)),(some k39,.obj 161 ([.mpv k36])),(some k36,.mp (gD kI (q0:List Int))),(some k2,.obj 62 (aH p1)),OC p0K y0.2.1 ng3.a ng4.a ng5.a gV,bU ng3.a y0.2.2.1,aX ng4 y0.2.2.2.1,bM ng5 y0.2.2.2.2,aV gV ((p0.Vols.set p1.Vol.toNat ({ x2 with State:=2})).set p1.Vol.toNat ({ ({ x2 with State:=2}:aR) with Files:=wrap .i64 ((({ x2 with State:=2}:aR).Files)+1)}))]++((aY ng4 y0.2.2.2.1)++(bN ng5 y0.2.2.2.2)))) [[_],[_],[_],[_],[_],[_],[_],[_],[_],_,_,_] rfl 5 9 eL qU O3.k rfl rfl (by decide) rfl) (C5 (D4 (L':=([(some k284,.obj 38 (aJ x3)),(some k39,.obj 161 ([.mpv k36])),(some k36,.mp (gD kI (q0:List Int))),(some k2,.obj 62 (aH p1)),OC p0K y0.2.1 ng3.a ng4.a ng5.a gV,bU ng3.a y0.2.2.1,bO ng4.a y0.2.2.2.1,bM ng5 y0.2.2.2.2,aV gV ((p0.Vols.set p1.Vol.toNat ({ x2 with State:=2})).set p1.Vol.toNat ({ ({ x2 with State:=2}:aR) with Files:=wrap .i64 ((({ x2 with State:=2}:aR).Files)+1)}))]++(bN ng5 y0.2.2.2.2))) [[_],[_],[_],[_],[_],[_],[_],[_],[_],_,_] rfl 6 9 eL oH O4.k rfl rfl (by decide) rfl) (C5 (D4 (L':=[(some k284,.obj 38 (aJ x3)),(some k39,.obj 161 ([.mpv k36])),(some k36,.mp (gD kI (q0:List Int))),(some k2,.obj 62 (aH p1)),OC p0K y0.2.1 ng3.a ng4.a ng5.a gV,bU ng3.a y0.2.2.1,bO ng4.a y0.2.2.2.1,dE ng5.a y0.2.2.2.2,aV gV ((p0.Vols.set p1.Vol.toNat ({ x2 with State:=2})).set p1.Vol.toNat ({ ({ x2 with State:=2}:aR) with Files:=wrap .i64 ((({ x2 with State:=2}:aR).Files)+1)}))]) [[_],[_],[_],[_],[_],[_],[_],[_],[_],_] rfl 7 9 eL wA O5.k rfl rfl (by decide) rfl) ?_))
 exact vr λu=>dW.of1 (.inl rfl) (gK _ _ (.sc (.int _ _)) rfl) (bR u [4,5,6,7,8] rfl).2 (bD.refl _ _) ⟨ng3.a,O3.k.a,ng4.a,O4.k.a,ng5.a,O5.k.a,gV,(bJ.set (bJ.set oV)),(bR u [4,5,6,7,8] rfl).1,rfl,rfl⟩
 refine v0 (vs (vs (v0 (dY m0 rfl rfl (vl 0 _ cG rfl rfl rfl (fP m (σ:=(List Int)) (λs=>([(some k284,.obj 38 (aJ x3)),(some k39,.obj 161 ([.mpv k36])),(some k36,.mp (gD kI (s:List Int))),(some k2,.obj 62 (aH p1)),OC p0K y0.2.1 ng3.a ng4.a ng5.a gV,bH ng3 y0.2.2.1,aX ng4 y0.2.2.2.1,bM ng5 y0.2.2.2.2,aV gV ((p0.Vols.set p1.Vol.toNat ({ x2 with State:=2})).set p1.Vol.toNat ({ ({ x2 with State:=2}:aR) with Files:=wrap .i64 ((({ x2 with State:=2}:aR).Files)+1)}))]++((bL ng3 y0.2.2.1)++((aY ng4 y0.2.2.2.1)++(bN ng5 y0.2.2.2.2))))) (λs=>.c 0 (.ptr p0K 0) (.c 3 (.ptr k2 0) (.c 6 (wW gV.t (p1.Vol.toNat*4+0)) (.c 7 (.ptr k39 0) (.c 9 (.ptr k284 0) (.c 78 (.sl none 37 (map aJ p1.Items)) (.c 79 (nZ (p1.Items.length:Int)) (.c 80 (nZ q5) .nil)))))))) (λx m=> ?_) ?_))))))
 refine v0 ?_
 apply vi m<;>intro c3 m
 exact v0 (vl 1 _ UA rfl rfl rfl (dY yG rfl rfl (vl 0 _ cG rfl rfl rfl (ve λu=>MQ 2 u UB (yA.int u3) rfl rfl rfl rfl λK11=>qk K11 rfl (MY m)))))
 exact v0 (MY m)
 rintro _ j1 m
 refine vs (v0 (BL (by kernel_rfl) (kX rfl (dY eM rfl rfl (vl 4 (aZ ng4.a) fA rfl rfl rfl (dY yF rfl rfl (vl 0 (.agg (bF x3.Id)) fF rfl rfl rfl ?_)))))))
 obtain⟨y1,Y1,m⟩:=aC m
 refine vn (λu=>bW (fL (.cons (Br.awN 6 cX eL FM O4.k u rfl (W8 [[_],[_],[_],[_],[_],[_],[_],[_],[_],_,_,_] rfl 10 rfl)) (.cons (Br.refl _ _) .nil)) rfl (WC _ Y1)) rfl NR rfl) (vs (fP m (σ:=Bool) (λs=>([(some k284,.obj 38 (aJ x3)),(some k39,.obj 161 ([.mpv k36])),(some k36,.mp (gD kI (j1:List Int))),(some k2,.obj 62 (aH p1)),OC p0K y0.2.1 ng3.a ng4.a ng5.a gV,bH ng3 y0.2.2.1,aX ng4 y0.2.2.2.1,bM ng5 y0.2.2.2.2,aV gV ((p0.Vols.set p1.Vol.toNat ({ x2 with State:=2})).set p1.Vol.toNat ({ ({ x2 with State:=2}:aR) with Files:=wrap .i64 ((({ x2 with State:=2}:aR).Files)+1)}))]++((bL ng3 y0.2.2.1)++((aY ng4 y0.2.2.2.1)++(bN ng5 y0.2.2.2.2))))) (λs=>.c 0 (.ptr p0K 0) (.c 3 (.ptr k2 0) (.c 6 (wW gV.t (p1.Vol.toNat*4+0)) (.c 7 (.ptr k39 0) (.c 11 (nZ y1.1) (.c 78 (.sl none 37 (map aJ p1.Items)) (.c 79 (nZ (p1.Items.length:Int)) (.c 80 (nZ q5) (.c 129 (.sc (.bool s)) .nil))))))))) (λx m=> ?_) ?_))
 refine v0 (dY m0 rfl rfl (vl 0 _ cG rfl rfl rfl ?_))
 apply vi m<;>intro b5 m
 rw[b5]
 apply vi m<;>intro b6 m
 rw[b6]
 exact bV (i9 (bJ.ne (bJ.set (bJ.set oV)) (dB (x':=({ ({ x2 with State:=2}:aR) with Files:=wrap .i64 ((({ x2 with State:=2}:aR).Files)+1)}:aR)) (dB (x':=({ x2 with State:=2}:aR)) X1))) rfl) (bV (cV (bJ.ne (bJ.set (bJ.set oV)) (dB (x':=({ ({ x2 with State:=2}:aR) with Files:=wrap .i64 ((({ x2 with State:=2}:aR).Files)+1)}:aR)) (dB (x':=({ x2 with State:=2}:aR)) X1))) M9 rfl rfl) (vn (λu=>dX (fo:=0) (nZ (({ ({ x2 with State:=2}:aR) with Files:=wrap .i64 ((({ x2 with State:=2}:aR).Files)+1)}:aR).Pool)) (dB (x':=({ ({ x2 with State:=2}:aR) with Files:=wrap .i64 ((({ x2 with State:=2}:aR).Files)+1)}:aR)) (dB (x':=({ x2 with State:=2}:aR)) X1)) eR (bJ.set (bJ.set oV)) cG rfl (aN 8 u rfl) (λ_=>rfl)) (gq9 m)))
 rw[b6]
 exact gq9 m
 rw[b5]
 exact gq9 m
 rintro _ j2 m
 refine oA m (σ:=(List aB)) (τ:=dC) (λg s=>([(some k284,.obj 38 (aJ x3)),(some k39,.obj 161 ([.mpv k36])),(some k36,.mp (gD kI (j1:List Int))),(some k2,.obj 62 (aH p1)),OC p0K y0.2.1 ng3.a g.a ng5.a gV,bH ng3 y0.2.2.1,aX g s,bM ng5 y0.2.2.2.2,aV gV ((p0.Vols.set p1.Vol.toNat ({ x2 with State:=2})).set p1.Vol.toNat ({ ({ x2 with State:=2}:aR) with Files:=wrap .i64 ((({ x2 with State:=2}:aR).Files)+1)}))]++((bL ng3 y0.2.2.1)++((aY g s)++(bN ng5 y0.2.2.2.2))))) (λg s=>mH aB.Locs 35 4 g (s:List aB)) (λg s=>.c 0 (.ptr p0K 0) (.c 3 (.ptr k2 0) (.c 6 (wW gV.t (p1.Vol.toNat*4+0)) (.c 7 (.ptr k39 0) (.c 78 (.sl none 37 (map aJ p1.Items)) (.c 79 (nZ (p1.Items.length:Int)) (.c 80 (nZ q5) .nil))))))) (λx m=> ?_) ?_
 refine v0 ?_
 apply vi m<;>intro c4 m
 refine v0 (vz [(1000000,some p0K,.obj 30 ([nZ y0.2.1,aZ ng3.a,aZ ng4.a,aZ ng5.a,aZ gV]))] mixed (λu=>⟨λ_=>aN 4 u rfl,trivial⟩) λu=>zP 0 rfl rfl (zN 1 rfl rfl (zF 2 rfl eM rfl (zL 3 0 (aZ ng4.a) rfl fA rfl rfl rfl (zI 4 rfl rfl (zP 5 rfl rfl (zN 6 rfl rfl (zF 7 rfl eM rfl (zL 8 0 (aZ ng4.a) rfl fA rfl rfl rfl (zI 9 rfl rfl ?_))))))))))
 obtain⟨x4,X2,m⟩:=aC m
 refine zC 10 rfl (cQ (O4.k.ix X2) fZ O4.k.z rfl rfl) (zC 11 rfl (cV (bJ.ne O4.k.z (O4.k.ix X2)) pZ rfl rfl) (zE 12 rfl (cO (fo:=32) (x':=(({ x4 with Staged:=false}:aB),(gx ng4.gs y1.1.toNat))) 6 u (O4.k.ix X2) i8 O4.k.z rfl rfl rfl rfl (cW.refl _ _) sz4 rfl rfl ?_)))
 intro K12
 have hs0:tZ aB.Locs 35 4 ng4 (y0.2.2.2.1:List aB):=O4.k
 have hn0:hp h _=hp h ([(some k284,.obj 38 (aJ x3)),(some k39,.obj 161 ([.mpv k36])),(some k36,.mp (gD kI (j1:List Int))),(some k2,.obj 62 (aH p1)),OC p0K y0.2.1 ng3.a ng4.a ng5.a gV,bH ng3 y0.2.2.1,aX ng4 (y0.2.2.2.1.set y1.1.toNat ({ x4 with Staged:=false})),bM ng5 y0.2.2.2.2,aV gV ((p0.Vols.set p1.Vol.toNat ({ x2 with State:=2})).set p1.Vol.toNat ({ ({ x2 with State:=2}:aR) with Files:=wrap .i64 ((({ x2 with State:=2}:aR).Files)+1)}))]++((bL ng3 y0.2.2.1)++((aY ng4 (y0.2.2.2.1.set y1.1.toNat ({ x4 with Staged:=false})))++(bN ng5 y0.2.2.2.2))))/\bT h ([(some k284,.obj 38 (aJ x3)),(some k39,.obj 161 ([.mpv k36])),(some k36,.mp (gD kI (j1:List Int))),(some k2,.obj 62 (aH p1)),OC p0K y0.2.1 ng3.a ng4.a ng5.a gV,bH ng3 y0.2.2.1,aX ng4 (y0.2.2.2.1.set y1.1.toNat ({ x4 with Staged:=false})),bM ng5 y0.2.2.2.2,aV gV ((p0.Vols.set p1.Vol.toNat ({ x2 with State:=2})).set p1.Vol.toNat ({ ({ x2 with State:=2}:aR) with Files:=wrap .i64 ((({ x2 with State:=2}:aR).Files)+1)}))]++((bL ng3 y0.2.2.1)++((aY ng4 (y0.2.2.2.1.set y1.1.toNat ({ x4 with Staged:=false})))++(bN ng5 y0.2.2.2.2)))):=eqN (L:=_) K12 (by unfold aX; (try unfold aY); rw[(hs0.set (x':=({ x4 with Staged:=false}:aB)) X2 rfl).2.2,<- (hs0.set (x':=({ x4 with Staged:=false}:aB)) X2 rfl).2.1]; first | done | rfl)
 refine nH hn0.1 (⟨⟨λ_=>aN 4 hn0.2 rfl,trivial⟩, ?_⟩)
 obtain⟨x5,X3,m⟩:=aC m
 refine zC 13 rfl (cQ ((O4.set (x':=({ x4 with Staged:=false}:aB)) X2 rfl).k.ix X3) fZ ((O4.set (x':=({ x4 with Staged:=false}:aB)) X2 rfl).k.z) rfl rfl) (zC 14 rfl (cV (bJ.ne ((O4.set (x':=({ x4 with Staged:=false}:aB)) X2 rfl).k.z) ((O4.set (x':=({ x4 with Staged:=false}:aB)) X2 rfl).k.ix X3)) mC rfl rfl) (zE 15 rfl (cO (fo:=33) (x':=(({ x5 with Data:=([]:List Int)}:aB),(gx ng4.gs y1.1.toNat))) 6 hn0.2 ((O4.set (x':=({ x4 with Staged:=false}:aB)) X2 rfl).k.ix X3) i8 ((O4.set (x':=({ x4 with Staged:=false}:aB)) X2 rfl).k.z) rfl rfl rfl rfl (.cons (bC _) .nil) EV rfl rfl ?_)))
 intro K13
 have hs1:tZ aB.Locs 35 4 ng4 (y0.2.2.2.1.set y1.1.toNat ({ x4 with Staged:=false}):List aB):=(O4.set (x':=({ x4 with Staged:=false}:aB)) X2 rfl).k
 have hn1:hp h _=hp h ([(some k284,.obj 38 (aJ x3)),(some k39,.obj 161 ([.mpv k36])),(some k36,.mp (gD kI (j1:List Int))),(some k2,.obj 62 (aH p1)),OC p0K y0.2.1 ng3.a ng4.a ng5.a gV,bH ng3 y0.2.2.1,aX ng4 ((y0.2.2.2.1.set y1.1.toNat ({ x4 with Staged:=false})).set y1.1.toNat ({ x5 with Data:=([]:List Int)})),bM ng5 y0.2.2.2.2,aV gV ((p0.Vols.set p1.Vol.toNat ({ x2 with State:=2})).set p1.Vol.toNat ({ ({ x2 with State:=2}:aR) with Files:=wrap .i64 ((({ x2 with State:=2}:aR).Files)+1)}))]++((bL ng3 y0.2.2.1)++((aY ng4 ((y0.2.2.2.1.set y1.1.toNat ({ x4 with Staged:=false})).set y1.1.toNat ({ x5 with Data:=([]:List Int)})))++(bN ng5 y0.2.2.2.2))))/\bT h ([(some k284,.obj 38 (aJ x3)),(some k39,.obj 161 ([.mpv k36])),(some k36,.mp (gD kI (j1:List Int))),(some k2,.obj 62 (aH p1)),OC p0K y0.2.1 ng3.a ng4.a ng5.a gV,bH ng3 y0.2.2.1,aX ng4 ((y0.2.2.2.1.set y1.1.toNat ({ x4 with Staged:=false})).set y1.1.toNat ({ x5 with Data:=([]:List Int)})),bM ng5 y0.2.2.2.2,aV gV ((p0.Vols.set p1.Vol.toNat ({ x2 with State:=2})).set p1.Vol.toNat ({ ({ x2 with State:=2}:aR) with Files:=wrap .i64 ((({ x2 with State:=2}:aR).Files)+1)}))]++((bL ng3 y0.2.2.1)++((aY ng4 ((y0.2.2.2.1.set y1.1.toNat ({ x4 with Staged:=false})).set y1.1.toNat ({ x5 with Data:=([]:List Int)})))++(bN ng5 y0.2.2.2.2)))):=eqN (L:=_) K13 (by unfold aX; (try unfold aY); rw[(hs1.set (x':=({ x5 with Data:=([]:List Int)}:aB)) X3 rfl).2.2,<- (hs1.set (x':=({ x5 with Data:=([]:List Int)}:aB)) X3 rfl).2.1]; first | done | rfl)
 refine nH hn1.1 (⟨⟨λ_=>aN 4 hn1.2 rfl,trivial⟩, ?_⟩)
 exact zX (qk (f:=VQ 143 _ _ _ _ _ _ _ _ _ _ _ _ _ _ _) hn1.2 rfl (eF m ng4 ((O4.set (x':=({ x4 with Staged:=false}:aB)) X2 rfl).set (x':=({ x5 with Data:=([]:List Int)}:aB)) X3 rfl) (lx (.k7 .nil))))
 exact v0 (eF m ng4 O4 (lx (.k7 .nil)))
 rintro ng6 j3 O6 m
 exact v0 (eF m (ng3,ng6,ng5) ⟨O3,O6,O5⟩ (lxB [[_],[_],[_],[_],[_],[_],[_],[_],[_],_,_,_] rfl [1,2,3,4,5,6,7,8,9,10,11] rfl rfl (.k7 .nil)))
 exact v0 (lF m (ng0,ng1,ng2) ⟨O0,O1,O2⟩ (lx (.k7 .nil)))
 rintro⟨ng7,ng8,ng9⟩ ⟨r0,r1,r2,r3,r4,r5⟩ ⟨t0,t1,t2⟩ m
 refine vs (v0 (kX rfl (dY eG rfl rfl (vl 3 (aZ ng7.a) fE rfl rfl rfl (bV (eC kN t0.k.a rfl) (vs (pJ (D4 (L':=([(some k39,.obj 161 ([.mpv k36])),(some k36,.mp (gD kI (r0:List Int))),(some k2,.obj 62 (aH p1)),OC p0K r1 ng7.a ng8.a ng9.a gV,bU ng7.a r2,aX ng8 r3,bM ng9 r4,aV gV ((p0.Vols.set p1.Vol.toNat ({ x2 with State:=2})).set p1.Vol.toNat ({ ({ x2 with State:=2}:aR) with Files:=wrap .i64 ((({ x2 with State:=2}:aR).Files)+1)}))]++((aY ng8 r3)++(bN ng9 r4)))) [[_],[_],[_],[_],[_],[_],[_],[_],_,_,_] rfl 4 8 eL qU t0.k rfl rfl (by decide) rfl) (pJ (D4 (L':=([(some k39,.obj 161 ([.mpv k36])),(some k36,.mp (gD kI (r0:List Int))),(some k2,.obj 62 (aH p1)),OC p0K r1 ng7.a ng8.a ng9.a gV,bU ng7.a r2,bO ng8.a r3,bM ng9 r4,aV gV ((p0.Vols.set p1.Vol.toNat ({ x2 with State:=2})).set p1.Vol.toNat ({ ({ x2 with State:=2}:aR) with Files:=wrap .i64 ((({ x2 with State:=2}:aR).Files)+1)}))]++(bN ng9 r4))) [[_],[_],[_],[_],[_],[_],[_],[_],_,_] rfl 5 8 eL oH t1.k rfl rfl (by decide) rfl) (pJ (D4 (L':=[(some k39,.obj 161 ([.mpv k36])),(some k36,.mp (gD kI (r0:List Int))),(some k2,.obj 62 (aH p1)),OC p0K r1 ng7.a ng8.a ng9.a gV,bU ng7.a r2,bO ng8.a r3,dE ng9.a r4,aV gV ((p0.Vols.set p1.Vol.toNat ({ x2 with State:=2})).set p1.Vol.toNat ({ ({ x2 with State:=2}:aR) with Files:=wrap .i64 ((({ x2 with State:=2}:aR).Files)+1)}))]) [[_],[_],[_],[_],[_],[_],[_],[_],_] rfl 6 8 eL wA t2.k rfl rfl (by decide) rfl) (v0 (kX rfl (dY eG rfl rfl (vl 3 (aZ ng7.a) fE rfl rfl rfl ?_)))))))))))))
 obtain⟨y2,Y2,m⟩:=aC m
 refine ve λu=>eA ((bB u [4,0,1,2,3,5,6,7] rfl rfl).1.trans (cM h [bU ng7.a r2] [(some k39,.obj 161 ([.mpv k36])),(some k36,.mp (gD kI (r0:List Int))),(some k2,.obj 62 (aH p1)),OC p0K r1 ng7.a ng8.a ng9.a gV,bO ng8.a r3,dE ng9.a r4,aV gV ((p0.Vols.set p1.Vol.toNat ({ x2 with State:=2})).set p1.Vol.toNat ({ ({ x2 with State:=2}:aR) with Files:=wrap .i64 ((({ x2 with State:=2}:aR).Files)+1)}))]).symm) (dD (aCT (hp h [(some k39,.obj 161 ([.mpv k36])),(some k36,.mp (gD kI (r0:List Int))),(some k2,.obj 62 (aH p1)),OC p0K r1 ng7.a ng8.a ng9.a gV,bO ng8.a r3,dE ng9.a r4,aV gV ((p0.Vols.set p1.Vol.toNat ({ x2 with State:=2})).set p1.Vol.toNat ({ ({ x2 with State:=2}:aR) with Files:=wrap .i64 ((({ x2 with State:=2}:aR).Files)+1)}))]) t0.k.a (cJ [bU ng7.a r2] [(some k39,.obj 161 ([.mpv k36])),(some k36,.mp (gD kI (r0:List Int))),(some k2,.obj 62 (aH p1)),OC p0K r1 ng7.a ng8.a ng9.a gV,bO ng8.a r3,dE ng9.a r4,aV gV ((p0.Vols.set p1.Vol.toNat ({ x2 with State:=2})).set p1.Vol.toNat ({ ({ x2 with State:=2}:aR) with Files:=wrap .i64 ((({ x2 with State:=2}:aR).Files)+1)}))] (bB u [4,0,1,2,3,5,6,7] rfl rfl).2).2 aCS (λx0 o h0 hs ho=>aIM _ (hs _ _ (a9 0 (cJ [bU ng7.a r2] [(some k39,.obj 161 ([.mpv k36])),(some k36,.mp (gD kI (r0:List Int))),(some k2,.obj 62 (aH p1)),OC p0K r1 ng7.a ng8.a ng9.a gV,bO ng8.a r3,dE ng9.a r4,aV gV ((p0.Vols.set p1.Vol.toNat ({ x2 with State:=2})).set p1.Vol.toNat ({ ({ x2 with State:=2}:aR) with Files:=wrap .i64 ((({ x2 with State:=2}:aR).Files)+1)}))] (bB u [4,0,1,2,3,5,6,7] rfl rfl).2).1 rfl)) (hs _ _ (a9 1 (cJ [bU ng7.a r2] [(some k39,.obj 161 ([.mpv k36])),(some k36,.mp (gD kI (r0:List Int))),(some k2,.obj 62 (aH p1)),OC p0K r1 ng7.a ng8.a ng9.a gV,bO ng8.a r3,dE ng9.a r4,aV gV ((p0.Vols.set p1.Vol.toNat ({ x2 with State:=2})).set p1.Vol.toNat ({ ({ x2 with State:=2}:aR) with Files:=wrap .i64 ((({ x2 with State:=2}:aR).Files)+1)}))] (bB u [4,0,1,2,3,5,6,7] rfl rfl).2).1 rfl)) ho) Y2) rfl aCU rfl ?_)
 rintro x h' ⟨ag0,O7,K14,rfl,rfl⟩
 have K15:=bB (L':=[(some k39,.obj 161 ([.mpv k36])),(some k36,.mp (gD kI (r0:List Int))),(some k2,.obj 62 (aH p1)),(hO p0K r1 ng7.a ng8.a ng9.a gV),bU ag0 y2,bO ng8.a r3,dE ng9.a r4,aV gV ((p0.Vols.set p1.Vol.toNat ({ x2 with State:=2})).set p1.Vol.toNat ({ ({ x2 with State:=2}:aR) with Files:=wrap .i64 ((({ x2 with State:=2}:aR).Files)+1)}))]) (cZ (cJ [bU ng7.a r2] [(some k39,.obj 161 ([.mpv k36])),(some k36,.mp (gD kI (r0:List Int))),(some k2,.obj 62 (aH p1)),OC p0K r1 ng7.a ng8.a ng9.a gV,bO ng8.a r3,dE ng9.a r4,aV gV ((p0.Vols.set p1.Vol.toNat ({ x2 with State:=2})).set p1.Vol.toNat ({ ({ x2 with State:=2}:aR) with Files:=wrap .i64 ((({ x2 with State:=2}:aR).Files)+1)}))] (bB u [4,0,1,2,3,5,6,7] rfl rfl).2).1 K14) [1,2,3,4,0,5,6,7] rfl rfl
 refine qk K15.2 ((cM h [bU ag0 y2] [(some k39,.obj 161 ([.mpv k36])),(some k36,.mp (gD kI (r0:List Int))),(some k2,.obj 62 (aH p1)),OC p0K r1 ng7.a ng8.a ng9.a gV,bO ng8.a r3,dE ng9.a r4,aV gV ((p0.Vols.set p1.Vol.toNat ({ x2 with State:=2})).set p1.Vol.toNat ({ ({ x2 with State:=2}:aR) with Files:=wrap .i64 ((({ x2 with State:=2}:aR).Files)+1)}))]).trans K15.1) (kX rfl (dY eG rfl rfl (ve λu=>aL 3 ([nZ r1,aZ ag0,aZ ng8.a,aZ ng9.a,aZ gV]) u rfl rfl (cH rfl) (cI (bZ _ _ _) rfl) M0 rfl rfl λK16=>qk K16 rfl (vs (vs (v0 (kX rfl (dY eG rfl rfl (vl 3 (aZ ag0) fE rfl rfl rfl (bV (eC kN O7 rfl) (oA m (σ:=(List aB)) (τ:=cY) (λg s=>[(some k39,.obj 161 ([.mpv k36])),(some k36,.mp (gD kI (r0:List Int))),(some k2,.obj 62 (aH p1)),OC p0K r1 ag0 g ng9.a gV,bU ag0 y2,bO g s,dE ng9.a r4,aV gV ((p0.Vols.set p1.Vol.toNat ({ x2 with State:=2})).set p1.Vol.toNat ({ ({ x2 with State:=2}:aR) with Files:=wrap .i64 ((({ x2 with State:=2}:aR).Files)+1)}))]) (λg s=>bJ g 35 (s:List aB).length) (λg s=>.nil) (λx m=> ?_) ?_)))))))))))
 refine v0 ?_
 apply vi m<;>intro c5 m
 refine v0 ?_
 obtain⟨y3,Y3,m⟩:=aC m
 refine ve λu=>eA ((bB u [3,4,5,6,7,0,1,2] rfl rfl).1.trans (cM h [OC p0K r1 ag0 ng8.a ng9.a gV,bU ag0 y2,bO ng8.a r3,dE ng9.a r4,aV gV ((p0.Vols.set p1.Vol.toNat ({ x2 with State:=2})).set p1.Vol.toNat ({ ({ x2 with State:=2}:aR) with Files:=wrap .i64 ((({ x2 with State:=2}:aR).Files)+1)}))] [(some k39,.obj 161 ([.mpv k36])),(some k36,.mp (gD kI (r0:List Int))),(some k2,.obj 62 (aH p1))]).symm) (dD (aIF (p0:=({ Seq:=r1,Snaps:=y2,Chunks:=r3,Exps:=r4,Vols:=(p0.Vols.set p1.Vol.toNat ({ x2 with State:=2})).set p1.Vol.toNat ({ ({ x2 with State:=2}:aR) with Files:=wrap .i64 ((({ x2 with State:=2}:aR).Files)+1)})}:aA)) (hp h [(some k39,.obj 161 ([.mpv k36])),(some k36,.mp (gD kI (r0:List Int))),(some k2,.obj 62 (aH p1))]) O7 t1.k.a t2.k.a (bJ.set (bJ.set oV)) (cJ [OC p0K r1 ag0 ng8.a ng9.a gV,bU ag0 y2,bO ng8.a r3,dE ng9.a r4,aV gV ((p0.Vols.set p1.Vol.toNat ({ x2 with State:=2})).set p1.Vol.toNat ({ ({ x2 with State:=2}:aR) with Files:=wrap .i64 ((({ x2 with State:=2}:aR).Files)+1)}))] [(some k39,.obj 161 ([.mpv k36])),(some k36,.mp (gD kI (r0:List Int))),(some k2,.obj 62 (aH p1))] (bB u [3,4,5,6,7,0,1,2] rfl rfl).2).2 Y3) rfl aCL rfl ?_)
 rintro x h' ⟨ag1,O8,K17,rfl,rfl⟩
 have K18:=bB (L':=[(some k39,.obj 161 ([.mpv k36])),(some k36,.mp (gD kI (r0:List Int))),(some k2,.obj 62 (aH p1)),OC p0K r1 ag0 ag1 ng9.a gV,bU ag0 y2,bO ag1 y3,dE ng9.a r4,aV gV ((p0.Vols.set p1.Vol.toNat ({ x2 with State:=2})).set p1.Vol.toNat ({ ({ x2 with State:=2}:aR) with Files:=wrap .i64 ((({ x2 with State:=2}:aR).Files)+1)}))]) (cZ (cJ [OC p0K r1 ag0 ng8.a ng9.a gV,bU ag0 y2,bO ng8.a r3,dE ng9.a r4,aV gV ((p0.Vols.set p1.Vol.toNat ({ x2 with State:=2})).set p1.Vol.toNat ({ ({ x2 with State:=2}:aR) with Files:=wrap .i64 ((({ x2 with State:=2}:aR).Files)+1)}))] [(some k39,.obj 161 ([.mpv k36])),(some k36,.mp (gD kI (r0:List Int))),(some k2,.obj 62 (aH p1))] (bB u [3,4,5,6,7,0,1,2] rfl rfl).2).1 K17) [5,6,7,0,1,2,3,4] rfl rfl
 exact qk K18.2 ((cM h [OC p0K r1 ag0 ag1 ng9.a gV,bU ag0 y2,bO ag1 y3,dE ng9.a r4,aV gV ((p0.Vols.set p1.Vol.toNat ({ x2 with State:=2})).set p1.Vol.toNat ({ ({ x2 with State:=2}:aR) with Files:=wrap .i64 ((({ x2 with State:=2}:aR).Files)+1)}))] [(some k39,.obj 161 ([.mpv k36])),(some k36,.mp (gD kI (r0:List Int))),(some k2,.obj 62 (aH p1))]).trans K18.1) (eF m ag1 O8 (lx .nil))
 exact v0 (eF m ng8.a t1.k.a (lx .nil))
 rintro ag2 j4 O9 m
 refine vs (v0 (v0 ?_))
 cases m
 exact vr λu=>dW.of1 (.inl rfl) (gK _ _ (.sc (.int _ _)) rfl) (bR u [3,4,5,6,7] rfl).2 (bD.refl _ _) ⟨ag0,O7,ag2,O9,ng9.a,t2.k.a,gV,(bJ.set (bJ.set oV)),(bR u [3,4,5,6,7] rfl).1,rfl,rfl⟩
theorem aIN:aP prog 74=true:=by kernel_rfl
end Go.Proofs.YtbbifdfldpfphaaGreat
