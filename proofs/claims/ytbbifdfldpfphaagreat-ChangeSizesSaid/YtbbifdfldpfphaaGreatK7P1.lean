import Derived.Test.YtbbifdfldpfphaaGreatK7P0
import Derived.Laws.BitsLemmas
import Derived.Laws.Cover3
import Derived.Laws.BytesString
import Derived.ChangeSame
import Derived.ChangeSlices
import Derived.WideKeyArgs
import Derived.OpenShut
import Derived.JoinedOf
import Derived.Handed
import Derived.Stop.BytesEq
import Derived.Laws.Tables
import Derived.Laws.Externs
import Derived.ChangeArms
import Derived.Deep.Slices
set_option linter.unusedSimpArgs false
set_option linter.unusedVariables false
set_option maxHeartbeats 4000000
set_option maxRecDepth 100000
namespace Go.Vm
def g7 (h:aA) (sz:Nat):AV→Option (List (List AV))
 | .sl _ sz' ys=>if sz'=sz then some ys else none
 | .sc (.slice none 0 _)=>some []
 | .e0=>some []
 | .view k off n=>match h k with
  | some (.obj _ cs)=>if off+n*sz≤cs.length then some (sJ sz n (cs.drop off)) else none
  | _=>none
 | _=>none
theorem jT {E:dE} {h:aA} {w:World} (r:cT E h w) {sz:Nat} {x:AV} {ys:List (List AV)} (hx:g7 h sz x=some ys) {v:Value} (hv:VR E w x v):q7 E w sz ys v:=by
 cases x with
 | sl tag sz' zs=>
  simp only[g7] at hx
  split at hx
  ·rename_i e; cases hx; subst e; exact q7.of_sl hv
  ·cases hx
 | sc z=>
  unfold g7 at hx
  split at hx <;> (try (simp only[reduceCtorEq] at hx; done))
  ·rename_i e; cases e
  ·rename_i n e; cases e; cases hx; exact q7.of_nil hv
  ·rename_i e; cases e
  ·rename_i e; cases e
 | e0=>cases hx; exact q7.of_e0 hv
 | view k off n=>
  simp only[g7] at hx
  split at hx
  ·rename_i ty cs hk
   split at hx
   ·rename_i hl; cases hx; exact q7.of_view r hv hk hl
   ·cases hx
  ·cases hx
 | _=>simp[g7] at hx
theorem wO (h:aA) (k:aY):upd h k (h k)=h:=by
 funext x; unfold upd; split
 ·rename_i e; rw[e]
 ·rfl
section ops
variable {P:Program} {o:Oper} {K:AV→aA→Prop} {fr:Fr} {h:aA}
theorem dL {s x:Operand} {t:TypeId} (hop:o.op= .call { callee:=.builtin .append,args:= #[s,x],argTypes:= #[t,t]}) {a:Act} {w w':World} {v:Value}
    (hr:(Builtin.append_ #[t,t] o.type #[a.eval s,a.eval x]).run P w= .ok v w'):(execOp a.eval o).run P w= .ok (.value v) w':=by
  unfold execOp
  simp only[hop,resolve,invoke,builtin,Sem.run_bind,Sem.run_pure,Result.andThen_ok,List.map_toArray,List.map_cons,List.map_nil,hr]
theorem m2 {s x:Operand} {t e:TypeId} {sz b:Nat} (hop:o.op= .call { callee:=.builtin .append,args:= #[s,x],argTypes:= #[t,t]}) (d:Nat) (ht:gN P t e sz b)
    {s0:AV} (hs:ev fr s=s0) (hs0:s0= .sc (.slice none 0 0)∨s0= .e0) {ys:List (List AV)} (hx:g7 h sz (ev fr x)=some ys) (hb:ys.length*(b+1)≤140737488355328)
    (h0:ys= []→K s0 h) (h1:ys≠ []→∀n,h (d,n)=none→K (.sl (some (d,n)) sz ys) (upd h (d,n) (some (.tok e sz (ys.length*sz))))):eD P o K fr h:=by
  intro E w a r hv Nx Qx hn
  have vs:=hv s (by rw[hop]; simp[Op.operands,Call.operands])
  have vx:=hv x (by rw[hop]; simp[Op.operands,Call.operands])
  rw[hs] at vs
  have vs0:∃a0,a.eval s= .slice a0 0 0:=by
    rcases hs0 with rfl | rfl
    · simp only[VR] at vs; exact⟨_,vs⟩
    · simpa only[VR] using vs
  obtain⟨a0,ea0⟩:=vs0
  have src:=jT r hx vx
  rw[Nat.mul_add,Nat.mul_one] at hb
  by_cases hy:ys= []
  · subst hy
    have hv0:(Value.slice a0 0 0= .slice none 0 0∧0=0)∨∃a cap,Value.slice a0 0 0= .slice (some a) 0 cap∧0≤cap:=by
      cases a0 with
      | none=>exact .inl ⟨rfl,rfl⟩
      | some b=>exact .inr ⟨b,0,rfl,Nat.le_refl _⟩
    obtain⟨_,(⟨_,q,c,e⟩ | ⟨g,oo,c,cv,e,_⟩)⟩:=src
    · have hr:=eG (P:=P) (w:=w) (ty:=o.type) ht hv0 e
      unfold Oper.wp
      rw[dL hop (by rw[ea0]; exact hr),← ea0]
      exact hn _ _ _ E h (bX.refl E w) r vs (h0 rfl)
    · have hr:=eG (P:=P) (w:=w) (ty:=o.type) ht hv0 e
      unfold Oper.wp
      rw[dL hop (by rw[ea0]; exact hr),← ea0]
      exact hn _ _ _ E h (bX.refl E w) r vs (h0 rfl)
  · obtain⟨n,hn'⟩:=r.fresh d
    obtain⟨v',w',E',e1,e2,e3,e4⟩:=append_nil (ty:=o.type) ht r hn' src hy (by omega) (by omega) a0
    unfold Oper.wp
    rw[dL hop (by rw[ea0]; exact e1)]
    exact hn _ _ _ E' _ e2 e3 e4 (h1 hy n (r.unused_none hn'))
theorem m3 {s x:Operand} {t e:TypeId} {sz b:Nat} (hop:o.op= .call { callee:=.builtin .append,args:= #[s,x],argTypes:= #[t,t]}) (ht:gN P t e sz b)
    {k:aY} {xs:List (List AV)} (hs:ev fr s= .sl (some k) sz xs) (hk:h k=some (.tok e sz (xs.length*sz))) {ys:List (List AV)} (hx:g7 h sz (ev fr x)=some ys)
    (hb:(xs.length+ys.length)*(b+1)≤140737488355328)
    (h1:K (.sl (some k) sz (xs++ys)) (upd h k (some (.tok e sz ((xs++ys).length*sz))))):eD P o K fr h:=by
  intro E w a r hv Nx Qx hn
  have vs:=hv s (by rw[hop]; simp[Op.operands,Call.operands])
  have vx:=hv x (by rw[hop]; simp[Op.operands,Call.operands])
  rw[hs] at vs
  have src:=jT r hx vx
  rw[Nat.mul_add,Nat.mul_one] at hb
  by_cases hy:ys= []
  · subst hy
    have hsv:∃q cap,a.eval s= .slice q xs.length cap∧xs.length≤cap∧q≠none:=by
      have vs':=vs
      simp only[VR] at vs'
      obtain⟨q,cap,e1,e2,_,_,_,e5⟩:=vs'
      obtain⟨tk,cur,t1,t2,t3,_⟩:=r.tok _ _ _ _ hk
      obtain⟨_,e6⟩:=e5 k rfl
      obtain⟨_,e7⟩:=e6 tk t1
      exact⟨q,cap,e1,e2,by rw[(e7 t3.symm).1]; simp⟩
    obtain⟨q,cap,es,ec,hq⟩:=hsv
    obtain⟨q',rfl⟩:=Option.ne_none_iff_exists'.1 hq
    have src0:∃q c,a.eval x= .slice q 0 c:=by
      rcases src.2 with⟨_,q,c,e⟩ | ⟨g,oo,c,cv,e,_⟩
      · exact⟨q,c,e⟩
      · exact⟨_,c,e⟩
    obtain⟨qx,cx,ex⟩:=src0
    have hr:=eG (P:=P) (w:=w) (ty:=o.type) ht (v:=.slice (some q') xs.length cap) (n:=xs.length) (.inr ⟨q',cap,rfl,ec⟩) ex
    unfold Oper.wp
    rw[dL hop (by rw[es]; exact hr)]
    refine hn _ _ _ E h (bX.refl E w) r (by rw[← es]; simpa using vs) ?_
    have:upd h k (some (.tok e sz ((xs++ []).length*sz)))=h:=by rw[List.append_nil,← hk,wO]
    rw[this] at h1
    simpa using h1
  · obtain⟨v',w',E',e1,e2,e3,e4⟩:=sK (ty:=o.type) ht r hk vs src hy (by omega) (by omega)
    unfold Oper.wp
    rw[dL hop e1]
    exact hn _ _ _ E' _ e2 e3 e4 h1
end ops
theorem lI (off:Nat):∀(vs:List Value) (i:Nat) (cs:Array Value),off+i+vs.length≤cs.size→
    ((vs.zipIdx i).foldl (λcs (c,j)=>cs.setIfInBounds (off+j) c) cs).toList=cs.toList.take (off+i)++vs++cs.toList.drop (off+i+vs.length)
  | [],i,cs,_=>by simp
  | v::vs,i,cs,h=>by
    simp only[List.zipIdx_cons,List.foldl_cons]
    simp only[List.length_cons] at h
    rw[lI off vs (i+1) _ (by simp; omega)]
    have hlt:off+i < cs.toList.length:=by simp; omega
    simp only[Array.toList_setIfInBounds,List.length_cons]
    rw[show off+(i+1)=off+i+1 from by omega,List.take_succ_eq_append_getElem (by simpa using hlt)]
    simp only[List.getElem_set_self,List.append_assoc,List.singleton_append]
    rw[List.take_set_of_le (Nat.le_refl _),List.drop_set_of_lt (by omega)]
    simp[Nat.add_assoc,Nat.add_comm 1]
theorem rA (sz:Nat):∀(vs:List Value) (i:Nat) (cs:Array Value),(∀v∈vs,v.cells.size=sz)→(i+vs.length)*sz≤cs.size→
    ∃cs',Instr.fill (λi=>some (i*sz,sz)) cs ((vs.zipIdx i).map λp=>(p.2,p.1))=some cs'∧cs'.toList=cs.toList.take (i*sz)++(vs.map λv=>v.cells.toList).flatten++cs.toList.drop ((i+vs.length)*sz)
  | [],i,cs,_,_=>⟨cs,rfl,by simp⟩
  | v::vs,i,cs,h1,h2=>by
    have hv:=h1 v (by simp)
    simp only[List.length_cons] at h2
    have hle:i*sz+sz+vs.length*sz≤cs.size:=by
      have:(i+(vs.length+1))*sz=i*sz+sz+vs.length*sz:=by simp only[Nat.add_mul,Nat.one_mul]; omega
      omega
    have hf:=lI (i*sz) v.cells.toList 0 cs (by simp[hv]; omega)
    have hsz:(v.cells.zipIdx.foldl (λcs (c,j)=>cs.setIfInBounds (i*sz+j) c) cs).toList=cs.toList.take (i*sz)++v.cells.toList++cs.toList.drop (i*sz+sz):=by
      have:v.cells.zipIdx.foldl (λcs (c,j)=>cs.setIfInBounds (i*sz+j) c) cs=(v.cells.toList.zipIdx 0).foldl (λcs (c,j)=>cs.setIfInBounds (i*sz+j) c) cs:=by
        rw[← Array.foldl_toList,Array.toList_zipIdx]
      rw[this,hf]
      simp[hv]
    generalize hq:v.cells.zipIdx.foldl (λcs (c,j)=>cs.setIfInBounds (i*sz+j) c) cs=q at hsz
    have hqs:q.size=cs.size:=by
      have:=congrArg List.length hsz
      simp[hv] at this
      omega
    have e3:(i+1+vs.length)*sz=i*sz+sz+vs.length*sz:=by simp only[Nat.add_mul,Nat.one_mul]
    have e4:(i+(vs.length+1))*sz=i*sz+sz+vs.length*sz:=by simp only[Nat.add_mul,Nat.one_mul]; omega
    have e5:(i+1)*sz=i*sz+sz:=by simp only[Nat.add_mul,Nat.one_mul]
    obtain⟨cs',e1,e2⟩:=rA sz vs (i+1) q (λu hu=>h1 u (by simp[hu])) (by rw[hqs]; omega)
    refine⟨cs', ?_, ?_⟩
    · simp only[List.zipIdx_cons,List.map_cons,Instr.fill,hv,ne_eq,not_true_eq_false,decide_false,Bool.false_or]
      rw[if_neg (by simp; omega)]
      simp only[hq]
      exact e1
    · rw[e2,hsz]
      simp only[List.map_cons,List.flatten_cons,List.length_cons]
      have l1:(cs.toList.take (i*sz)++v.cells.toList).length=(i+1)*sz:=by
        simp[hv,Nat.add_mul]; omega
      rw[List.take_left' l1]
      have l2:(cs.toList.take (i*sz)++v.cells.toList++cs.toList.drop (i*sz+sz)).drop ((i+1+vs.length)*sz)=cs.toList.drop ((i+(vs.length+1))*sz):=by
        rw[e3,e4,← e5,← l1,← List.drop_drop,List.drop_left' rfl,List.drop_drop,l1,e5]
      rw[l2]
      simp only[List.append_assoc]
def fE:List AV→Option (List (List AV))
 | []=>some []
 | x::xs=>match cellsOf x,fE xs with
  | some c,some cs=>some (c::cs)
  | _,_=>none
theorem mH {α β:Type} (f:α→β) (l:List (Nat×α)) (h:l.map (·.1)=List.range l.length):l.map (λp=>(p.1,f p.2))=((l.map λp=>f p.2).zipIdx 0).map λp=>(p.2,p.1):=by
 apply List.ext_getElem?
 intro j
 have hj:=congrArg (λq=>q[j]?) h
 simp only[List.getElem?_map] at hj
 simp only[List.getElem?_map,List.getElem?_zipIdx]
 cases e:l[j]? with
 | none=>simp
 | some p=>
  rw[e] at hj
  have hlt:j < l.length:=(List.getElem?_eq_some_iff.1 e).1
  simp[hlt] at hj
  simp[hj]
section lit
variable {P:Program} {E:dE} {h:aA} {w:World}
theorem gF {sz:Nat}:∀ {xs:List AV} {gs:List (List AV)} {vs:List Value},fE xs=some gs→gs.all (λg=>g.all dC && g.length==sz)=true→bE E w xs vs→
    gs.length=vs.length∧(∀g∈gs,g.length=sz)∧(∀v∈vs,v.cells.size=sz)∧bE E w gs.flatten (vs.map λv=>v.cells.toList).flatten∧∀u∈(vs.map λv=>v.cells.toList).flatten,u.oneCell'=true
  | [],gs, [],hx,_,_=>by cases hx; simp[bE]
  | x::xs,gs,v::vs,hx,hg,hv=>by
    simp only[fE] at hx
    split at hx
    · rename_i c cs e1 e2
      cases hx
      simp only[List.all_cons,Bool.and_eq_true,beq_iff_eq] at hg
      simp only[bE] at hv
      obtain⟨a1,a2⟩:=eV e1 hg.1.1 hv.1
      obtain⟨b1,b2,b3,b4,b5⟩:=gF e2 hg.2 hv.2
      have hl:=bJ a1
      refine⟨by simp[b1], ?_, ?_, ?_, ?_⟩
      · intro g hg'
        rcases List.mem_cons.1 hg' with rfl | hg'
        · exact hg.1.2
        · exact b2 g hg'
      · intro u hu
        rcases List.mem_cons.1 hu with rfl | hu
        · rw[← hg.1.2,hl]; simp
        · exact b3 u hu
      · simp only[List.flatten_cons,List.map_cons]
        exact bM a1 b4
      · intro u hu
        simp only[List.map_cons,List.flatten_cons] at hu
        rcases List.mem_append.1 hu with hu | hu
        · exact a2 u hu
        · exact b5 u hu
    · cases hx
  | [],_,_::_,_,_,hv=>by simp only[bE] at hv
  | _::_,_, [],_,_,hv=>by simp only[bE] at hv
theorem m4 {o:Oper} {t e:TypeId} {sz b len:Nat} {parts:Array (Nat×Operand)} (hop:o.op= .buildSlice t len parts) (ht:gN P t e sz b) (hi:parts.toList.map (·.1)=List.range len) (hl:len*sz≤16777216) {a:Act} (hs:∀v∈parts.toList.map (λp=>a.eval p.2),v.cells.size=sz):
    ∃cur:Array Value,cur.toList=((parts.toList.map λp=>a.eval p.2).map λv=>v.cells.toList).flatten∧(execOp a.eval o).run P w= .ok (.value (.slice (some ⟨w.heap.size,0,none⟩) len len)) (w.alloc (.cells cur e)):=by
  obtain⟨i,z,h1,h2,rfl,rfl,h5,h6⟩:=ht.inf
  have hlen:parts.toList.length=len:=by have:=congrArg List.length hi; simpa using this
  have hz:=mH a.eval parts.toList (by rw[hlen]; exact hi)
  have hlen':(parts.toList.map λp=>a.eval p.2).length=len:=by simpa using hlen
  generalize hvs:(parts.toList.map λp=>a.eval p.2)=vs at hz hs hlen'
  have hq:∀(q:Array Value),q.size=len*i.size→∃cs',Instr.fill (λj=>some (j*i.size,i.size)) q (parts.toList.map λp=>(p.1,a.eval p.2))=some cs'∧cs'.toList=(vs.map λv=>v.cells.toList).flatten:=by
    intro q hq
    obtain⟨cs',e1,e2⟩:=rA i.size vs 0 q hs (by rw[Nat.zero_add,hlen',hq]; exact Nat.le_refl _)
    rw[← hz] at e1
    refine⟨cs',e1, ?_⟩
    rw[e2,Nat.zero_add,hlen']
    simp[← hq]
  have hn:¬(16777216 < len*i.size):=by omega
  by_cases h0:len*i.size=0
  · obtain⟨cur,c1,c2⟩:=hq ((Array.range 0).map λ_=>default) (by simp[h0])
    refine⟨cur,c2, ?_⟩
    simp[execOp,hop,Instr.buildSlice,run_underlying ht.ut,sizeOf,typeInfo,h1,h0]
    simp only[c1]
    simp[newRow]
  · obtain⟨cur,c1,c2⟩:=hq ((Array.range (len*i.size)).map (z.cells[· % z.cells.size]!)) (by simp)
    refine⟨cur,c2, ?_⟩
    simp[execOp,hop,Instr.buildSlice,run_underlying ht.ut,sizeOf,typeInfo,h1,h2,hn,h0,zeroValue]
    simp only[c1]
    simp[newRow]
theorem uD {o:Oper} {fr:Fr} {t:TypeId} {len:Nat} {parts:Array (Nat×Operand)} (hop:o.op= .buildSlice t len parts) {a:Act} (hv:∀y∈o.op.operands,VR E w (ev fr y) (a.eval y)):
    bE E w (parts.toList.map λp=>ev fr p.2) (parts.toList.map λp=>a.eval p.2):=by
  have:∀p∈parts.toList,VR E w (ev fr p.2) (a.eval p.2):=by
    intro p hp
    refine hv p.2 ?_
    rw[hop]
    simp only[Op.operands,List.mem_toArray,List.mem_map]
    exact⟨p,hp,rfl⟩
  generalize parts.toList=l at this
  induction l with
  | nil=>simp[bE]
  | cons p l ih=>
    simp only[List.map_cons,bE]
    exact⟨this p (by simp),ih λq hq=>this q (by simp[hq])⟩
variable {o:Oper} {K:AV→aA→Prop} {fr:Fr}
theorem AJ {t e:TypeId} {sz b len:Nat} {parts:Array (Nat×Operand)} (hop:o.op= .buildSlice t len parts) (ht:gN P t e sz b) (hi:parts.toList.map (·.1)=List.range len) (hl:len*sz≤16777216)
    {gs:List (List AV)} (hg:fE (parts.toList.map λp=>ev fr p.2)=some gs) (ho:gs.all (λg=>g.all dC && g.length==sz)=true) (hK:K (.sl none sz gs) h):eD P o K fr h:=by
  intro E w a r hv Nx Qx hn
  have hvl:=uD hop hv
  obtain⟨a1,a2,a3,a4,a5⟩:=gF hg ho hvl
  obtain⟨cur,c1,c2⟩:=m4 (w:=w) hop ht hi hl a3
  have hlen:parts.toList.length=len:=by have:=congrArg List.length hi; simpa using this
  have hgl:gs.length=len:=by rw[a1]; simpa using hlen
  obtain⟨E',e1,e2,e3⟩:=r.new_imm e (0,0) cur
  unfold Oper.wp
  rw[c2]
  refine hn _ _ _ E' h e2 e3 ?_ hK
  have hcs:cur.size=len*sz:=by
    have:=bJ a4
    rw[dU a2,hgl,← c1] at this
    simpa using this.symm
  simp only[VR]
  refine⟨_,_,by rw[hgl],by rw[hgl]; exact Nat.le_refl _, ?_,.inr ⟨w.heap.size,0,rfl,eU.2 ?_⟩,a2,by simp⟩
  · have h6:0 < sz:=by obtain⟨_,_,_,_,_,_,_,h6⟩:=ht.inf; exact h6
    have:len≤len*sz:=Nat.le_mul_of_pos_right _ h6
    simp only[maxLen]; omega
  · refine bY (aT e2 _ _ a4) a5 ?_
    intro j u hj
    rw[← c1] at hj
    have hjl:j < cur.size:=by simpa using (List.getElem?_eq_some_iff.1 hj).1
    refine⟨?_,.inl (e1 _ (by omega))⟩
    have hnew:=heap_alloc_new w (.cells cur e)
    simp only[World.cell?,hnew,Nat.zero_add]
    simpa using hj
theorem wP {t e:TypeId} {sz b len:Nat} {parts:Array (Nat×Operand)} (hop:o.op= .buildSlice t len parts) (d:Nat) (ht:gN P t e sz b) (hi:parts.toList.map (·.1)=List.range len) (hl:len*sz≤16777216)
    {gs:List (List AV)} (hg:fE (parts.toList.map λp=>ev fr p.2)=some gs) (ho:gs.all (λg=>g.all dC && g.length==sz)=true)
    (hK:∀n,h (d,n)=none→K (.sl (some (d,n)) sz gs) (upd h (d,n) (some (.tok e sz (gs.length*sz))))):eD P o K fr h:=by
  intro E w a r hv Nx Qx hn
  have hvl:=uD hop hv
  obtain⟨a1,a2,a3,a4,a5⟩:=gF hg ho hvl
  obtain⟨cur,c1,c2⟩:=m4 (w:=w) hop ht hi hl a3
  have hlen:parts.toList.length=len:=by have:=congrArg List.length hi; simpa using this
  have hgl:gs.length=len:=by rw[a1]; simpa using hlen
  have hcs:cur.size=len*sz:=by
    have:=bJ a4
    rw[dU a2,hgl,← c1] at this
    simpa using this.symm
  have h6:0 < sz:=by obtain⟨_,_,_,_,_,_,_,h6⟩:=ht.inf; exact h6
  have hml:len≤maxLen:=by
    have:len≤len*sz:=Nat.le_mul_of_pos_right _ h6
    simp only[maxLen]; omega
  obtain⟨n,hn'⟩:=r.fresh d
  obtain⟨E',e0,e1,e2,e3⟩:=r.new_tok hn' e sz (gs.length*sz) len hcs (by rw[hgl,hcs]; exact Nat.le_refl _) hml
  unfold Oper.wp
  rw[c2]
  refine hn _ _ _ E' _ e2 e3 ?_ (hK n (r.unused_none hn'))
  have:=gD (xs:=gs) (w:=w.alloc (.cells cur e)) e0 e1 a2 (by rw[hgl]; exact Nat.le_refl _) hml (bY (aT e2 _ _ a4) a5 (by
    intro j u hj
    rw[← c1] at hj
    have hjl:j < cur.size:=by simpa using (List.getElem?_eq_some_iff.1 hj).1
    refine⟨?_,.inr ⟨_,_,rfl,e1,rfl,by show 0+j < gs.length*sz; rw[hgl]; omega⟩⟩
    have hnew:=heap_alloc_new w (.cells cur e)
    simp only[World.cell?,hnew,Nat.zero_add]
    simpa using hj))
  rw[hgl] at this
  exact this
end lit
def aops (P:Program) (ops:Array Oper) (K:Fr→aA→Prop):List Oper→Fr→aA→Prop
  | [],fr,h=>K fr h
  | o::l,fr,h=>
    match o.guard with
    | none=>match pv P h fr o.op with
      | some r=>r.1∧aops P ops K l (dP fr o.dst r.2) h
      | none=>dS P ops (o::l) K fr h
    | some (j,want)=>match (ops[j]?).bind (·.dst) with
      | some d=>match fr[d]? with
        | some (.sc (.bool b))=>if b=want then match pv P h fr o.op with
            | some r=>r.1∧aops P ops K l (dP fr o.dst r.2) h
            | none=>dS P ops ({ o with guard:=none}::l) K fr h
          else aops P ops K l (dP fr o.dst (.sc undef)) h
        | some (.sc (.tuple _))=>aops P ops K l (dP fr o.dst (.sc undef)) h
        | _=>dS P ops (o::l) K fr h
      | none=>dS P ops (o::l) K fr h
theorem CM {P:Program} {o:Oper} {K:AV→aA→Prop} {fr:Fr} {h:aA} {r:Prop×AV} (hp:pv P h fr o.op=some r) (hc:r.1) (hk:K r.2 h):eD P o K fr h:=
 cO (x:=r.2) (λE w a NZ hv=>wN (c:=r.1) (x:=r.2) hp hc E w a NZ hv) hk
theorem o8 {P:Program} {ops:Array Oper} {o:Oper} {l:List Oper} {K:Fr→aA→Prop} {fr:Fr} {h:aA} (hw:∀E w (a:Act),bE E w fr a.tmps.toList→Region.wanted o (yielded ops a.tmps)=true)
    (hu:dS P ops ({ o with guard:=none}::l) K fr h):dS P ops (o::l) K fr h:=by
  intro E w a r v d Q hQ
  have:=hu E w a r v d Q hQ
  unfold wpList at this ⊢
  rw[if_pos (hw E w a v)]
  rw[if_pos (show Region.wanted { o with guard:=none} (yielded ops a.tmps)=true from rfl)] at this
  exact this
def aN (h:aA) (x y:AV):Prop:=∀E w v,cT E h w→VR E w x v→VR E w y v
theorem aN.refl (h:aA) (x:AV):aN h x x:=λ_ _ _ _ v=>v
theorem aN.trans {h:aA} {x y z:AV} (a:aN h x y) (b:aN h y z):aN h x z:=λE w v r u=>b E w v r (a E w v r u)
theorem aN.any (h:aA) (x:AV):aN h x .any:=λ_ _ _ _ _=>by simp only[VR]
theorem aN.nil (h:aA) (sz n:Nat) (hn:n≤maxLen):aN h (.sc (.slice none 0 n)) (.sl none sz []):=λ_ _ v _ u=>by
 simp only[VR] at u ⊢
 subst u
 exact⟨none,n,rfl,Nat.zero_le _,hn,by simp,by simp,by simp⟩
theorem aN.nil_e0 (h:aA):aN h (.sc (.slice none 0 0)) .e0:=λ_ _ v _ u=>by
 simp only[VR] at u ⊢
 exact⟨none,u⟩
theorem aN.e0 (h:aA) (sz:Nat):aN h .e0 (.sl none sz []):=λ_ _ v _ u=>by
 simp only[VR] at u ⊢
 obtain⟨a,rfl⟩:=u
 exact⟨a,0,rfl,Nat.zero_le _,by simp[maxLen],by simp,by simp,by simp⟩
def wQ (h:aA) (k:aY):Prop:=∀ty sz m,h k≠some (.tok ty sz m)
theorem cT.tk_none {E:dE} {h:aA} {w:World} (r:cT E h w) {k:aY} (hk:wQ h k):E.tk k=none:=by
 cases e:E.tk k with
 | none=>rfl
 | some t=>obtain⟨ty,e'⟩:=r.tkh k t e; exact absurd e' (hk _ _ _)
theorem oJ {E:dE} {w:World} {k:aY} (hk:E.tk k=none) {g:Nat}:∀ {o:Nat} {cs:List AV},jM E w (some k) g o cs→jM E w none g o cs
 | _, [],_=>by simp[jM]
 | o,x::cs,hv=>by
  simp only[jM] at hv ⊢
  obtain⟨h1,h2,h3⟩:=hv
  refine⟨?_,h2,oJ hk h3⟩
  rcases h1 with h1 | ⟨k',t,e1,e2,_⟩
  ·exact .inl h1
  ·cases e1; rw[hk] at e2; cases e2
theorem aN.freeze {h:aA} {k:aY} (hk:wQ h k) (sz:Nat) (xs:List (List AV)):aN h (.sl (some k) sz xs) (.sl none sz xs):=λE w v r u=>by
 have ht:=r.tk_none hk
 simp only[VR] at u ⊢
 obtain⟨a,cap,e,h1,h2,h3,h4,h5⟩:=u
 refine⟨a,cap,e,h1,h2, ?_,h4,by simp⟩
 rcases h3 with h3 | ⟨g,o,e',h3⟩
 ·exact .inl h3
 ·exact .inr ⟨g,o,e',eU.2 (oJ ht (eU.1 h3))⟩
inductive bS (h:aA):List AV→List AV→Prop where
 | nil:bS h [] []
 | cons {x y:AV} {xs ys:List AV}:aN h x y→bS h xs ys→bS h (x::xs) (y::ys)
theorem bS.spec {h:aA} {xs ys:List AV} (hl:bS h xs ys):∀ {E:dE} {w:World} {vs:List Value},cT E h w→bE E w xs vs→bE E w ys vs:=by
 induction hl with
 | nil=>intro E w vs r v; exact v
 | cons hx _ ih=>
  intro E w vs r v
  cases vs with
  | nil=>simp only[bE] at v
  | cons u us=>simp only[bE] at v ⊢; exact⟨hx E w u r v.1,ih r v.2⟩
theorem bS.refl (h:aA):∀(xs:List AV),bS h xs xs
 | []=>.nil
 | x::xs=>.cons (aN.refl h x) (bS.refl h xs)
theorem aN.agg {h:aA} {xs ys:List AV} (hl:bS h xs ys):aN h (.agg xs) (.agg ys):=λE w v r u=>by
 simp only[VR] at u ⊢
 obtain⟨cs,e,hc⟩:=u
 exact⟨cs,e,hl.spec r hc⟩
theorem aN.tup {h:aA} {xs ys:List AV} (hl:bS h xs ys):aN h (.tup xs) (.tup ys):=λE w v r u=>by
 simp only[VR] at u ⊢
 obtain⟨cs,e,hc⟩:=u
 exact⟨cs,e,hl.spec r hc⟩
theorem CN {h:aA} {E:dE} {w:World} (r:cT E h w) {tag:Option aY} {g:Nat} {xs ys:List AV} (hl:bS h xs ys):∀ {o:Nat},jM E w tag g o xs→jM E w tag g o ys:=by
 induction hl with
 | nil=>intro o v; exact v
 | cons hx _ ih=>
  intro o v
  simp only[jM] at v ⊢
  obtain⟨h1,⟨cv,h2,h3,h4⟩,h5⟩:=v
  exact⟨h1,⟨cv,h2,h3,hx E w cv r h4⟩,ih h5⟩
inductive o9 (h:aA):List (List AV)→List (List AV)→Prop where
 | nil:o9 h [] []
 | cons {x y:List AV} {xs ys:List (List AV)}:bS h x y→o9 h xs ys→o9 h (x::xs) (y::ys)
theorem bS.length {h:aA} {xs ys:List AV} (hl:bS h xs ys):xs.length=ys.length:=by
 induction hl with
 | nil=>rfl
 | cons _ _ ih=>simp[ih]
theorem o9.length {h:aA} {xs ys:List (List AV)} (hl:o9 h xs ys):xs.length=ys.length:=by
 induction hl with
 | nil=>rfl
 | cons _ _ ih=>simp[ih]
theorem o9.each {h:aA} {xs ys:List (List AV)} (hl:o9 h xs ys) {sz:Nat} (hs:∀x∈xs,x.length=sz):∀y∈ys,y.length=sz:=by
 induction hl with
 | nil=>simp
 | cons hx _ ih=>
  intro y hy
  rcases List.mem_cons.1 hy with rfl | hy
  ·rw[← hx.length]; exact hs _ (by simp)
  ·exact ih (λz hz=>hs z (by simp[hz])) y hy
theorem CO {h:aA} {E:dE} {w:World} (r:cT E h w) {tag:Option aY} {g:Nat} {xs ys:List (List AV)} (hl:o9 h xs ys):∀ {o:Nat},mG E w tag g o xs→mG E w tag g o ys:=by
 induction hl with
 | nil=>intro o v; exact v
 | cons hx _ ih=>
  intro o v
  simp only[mG] at v ⊢
  rw[← hx.length]
  exact⟨CN r hx v.1,ih v.2⟩
theorem aN.sl {h:aA} {tag:Option aY} {sz:Nat} {xs ys:List (List AV)} (hl:o9 h xs ys):aN h (.sl tag sz xs) (.sl tag sz ys):=λE w v r u=>by
 simp only[VR] at u ⊢
 obtain⟨a,cap,e,h1,h2,h3,h4,h5⟩:=u
 rw[← hl.length]
 refine⟨a,cap,e,h1,h2, ?_,hl.each h4,h5⟩
 rcases h3 with h3 | ⟨g,o,e',h3⟩
 ·subst h3; cases hl; exact .inl rfl
 ·exact .inr ⟨g,o,e',CO r hl h3⟩
def eO (h' h:aA):Prop:=∀k e,h' k=some e→h k=some e
theorem eO.refl (h:aA):eO h h:=λ_ _ e=>e
theorem eO.trans {a b c:aA} (h:eO a b) (k:eO b c):eO a c:=λx e q=>k x e (h x e q)
theorem eO.upd {h' h:aA} (hs:eO h' h) {k:aY} (hk:h' k=none) (e:Option dX):eO h' (upd h k e):=λx e' hx=>by
 have:x≠k:=λq=>by subst q; rw[hk] at hx; cases hx
 rw[aU _ _ this]
 exact hs x e' hx
theorem FN {P:Program} {c:Code} {Q:Exit→Fr→aA→Prop} {fr fr':Fr} {h h':aA} (hs:eO h' h) (hl:bS h' fr fr') (hc:AW P c Q fr' h'):AW P c Q fr h:=by
 intro E w a r v d
 obtain⟨E',k,r'⟩:=r.drop hs
 exact wp_mono (hc E' w a r' (hl.spec r' (aT k _ _ v)) d) λ_ _ _ p=>p.trans k
theorem fZ {P:Program} {f:FuncId} {args args':List AV} {Q:AV→aA→Prop} {h:aA} (hl:bS h args args') (hc:aG P f args' h Q):aG P f args h Q:=
 λE w vs r v=>hc E w vs r (hl.spec r v)
def FO (tmps:Array Value):ResultVar→Sem Value
 | .tmp t=>pure (tmps.getD t undef)
 | .cell a t=>do loadVar t (← asAddr (tmps.getD a undef))
theorem rB (fn:Func) (tmps:Array Value):results fn tmps=(do let vs ← fn.results.mapM (FO tmps); pure (if h:vs.size=1 then vs[0] else .tuple vs)):=by
 unfold results
 congr 1
def uE (P:Program) (h:aA) (fr:Fr):ResultVar→Option AV
 | .tmp t=>some (fr.getD t .any)
 | .cell a t=>(h9 P t).bind λx=>match fr.getD a .any with | .ptr k off=>wL h x.1 x.2 (.ptr k off) | _=>none
def wR (P:Program) (h:aA) (fr:Fr):List ResultVar→Option (List AV)
 | []=>some []
 | r::rs=>(uE P h fr r).bind λx=>(wR P h fr rs).map λxs=>x::xs
def pA (P:Program) (h:aA) (fr:Fr):List ResultVar→Option AV
 | [r]=>uE P h fr r
 | rs=>(wR P h fr rs).map .tup
section res
variable {P:Program} {E:dE} {h:aA} {w:World}
theorem vI (r:cT E h w) {fr:Fr} {tmps:Array Value} (v:bE E w fr tmps.toList) {rv:ResultVar} {x:AV} (hx:uE P h fr rv=some x):
    ∃u,(FO tmps rv).run P w= .ok u w∧VR E w x u:=by
  have hg:∀t,VR E w (fr.getD t .any) (tmps.getD t undef):=by
    intro t
    have:=kD t undef v
    simpa [Array.getD_eq_getD_getElem?,List.getD] using this
  cases rv with
  | tmp t=>
    simp only[uE,Option.some.injEq] at hx
    subst hx
    exact⟨_,rfl,hg t⟩
  | cell a t=>
    simp only[uE,Option.bind_eq_some_iff] at hx
    obtain⟨⟨ag,n⟩,h1,h2⟩:=hx
    have ha:=hg a
    split at h2
    · rename_i k off hk
      rw[hk] at ha
      obtain⟨u,h3,h4⟩:=oH r h1 h2 ha
      simp only[VR] at ha
      obtain⟨g,_,e⟩:=ha
      refine⟨u, ?_,h4⟩
      rw[e] at h3
      have e':tmps.getD a undef= .pointer (some ⟨g,off,none⟩):=e
      simp only[FO,e']
      simpa [Instr.loadAt,Instr.sureAddr,asAddr] using h3
    · cases h2
theorem oK (r:cT E h w) {fr:Fr} {tmps:Array Value} (v:bE E w fr tmps.toList):∀ {rs:List ResultVar} {xs:List AV},wR P h fr rs=some xs→
    ∃us,(rs.mapM (FO tmps)).run P w= .ok us w∧bE E w xs us
  | [],xs,hx=>by cases hx; exact⟨[],by simp,by simp[bE]⟩
  | rv::rs,xs,hx=>by
    simp only[wR,Option.bind_eq_some_iff,Option.map_eq_some_iff] at hx
    obtain⟨x,h1,xs',h2,rfl⟩:=hx
    obtain⟨u,h3,h4⟩:=vI (P:=P) r v h1
    obtain⟨us,h5,h6⟩:=oK r v h2
    refine⟨u::us, ?_,by simp only[bE]; exact⟨h4,h6⟩⟩
    simp only[List.mapM_cons,Sem.run_bind]
    rw[h3]
    simp only[Result.andThen_ok,h5]
    rfl
theorem sL (r:cT E h w) {fr:Fr} {tmps:Array Value} (v:bE E w fr tmps.toList) {fn:Func} {x:AV} (hx:pA P h fr fn.results.toList=some x):∃u,(results fn tmps).run P w= .ok u w∧VR E w x u:=by
  obtain⟨rs,hrs⟩:∃rs,rs=fn.results.toList:=⟨_,rfl⟩
  have hre:fn.results=rs.toArray:=by rw[hrs]
  have hrun:∀us,(rs.mapM (FO tmps)).run P w= .ok us w→
      (results fn tmps).run P w= .ok (if h:us.toArray.size=1 then us.toArray[0] else .tuple us.toArray) w:=by
    intro us hus
    rw[rB,hre,List.mapM_toArray]
    simp only[Sem.run_bind,Sem.run_map,hus,Result.andThen_ok,Sem.run_pure]
  rw[← hrs] at hx
  have gen:∀xs,wR P h fr rs=some xs→∃us,(results fn tmps).run P w= .ok (if h:us.toArray.size=1 then us.toArray[0] else .tuple us.toArray) w∧bE E w xs us:=by
    intro xs hxs
    obtain⟨us,h1,h2⟩:=oK (P:=P) r v hxs
    exact⟨us,hrun us h1,h2⟩
  unfold pA at hx
  split at hx
  · rename_i rv
    obtain⟨us,h1,h2⟩:=gen [x] (by simp[wR,hx])
    cases us with
    | nil=>simp only[bE] at h2
    | cons u us=>
      simp only[bE] at h2
      cases us with
      | nil=>exact⟨u,by simpa using h1,h2.1⟩
      | cons _ _=>simp only[bE,and_false] at h2
  · rename_i hns
    simp only[Option.map_eq_some_iff] at hx
    obtain⟨xs,h1,rfl⟩:=hx
    obtain⟨us,h2,h3⟩:=gen xs h1
    have hl:us.length=rs.length:=by
      have e1:=bJ h3
      have:∀(rs:List ResultVar) (xs:List AV),wR P h fr rs=some xs→xs.length=rs.length:=by
        intro rs
        induction rs with
        | nil=>intro xs hx; cases hx; rfl
        | cons q rs ih=>
          intro xs hx
          simp only[wR,Option.bind_eq_some_iff,Option.map_eq_some_iff] at hx
          obtain⟨y,_,ys,hy,rfl⟩:=hx
          simp[ih ys hy]
      rw[← e1,this rs xs h1]
    have hne:¬us.toArray.size=1:=by
      intro e
      have:rs.length=1:=by rw[← hl]; simpa using e
      obtain⟨q,hq⟩:=List.length_eq_one_iff.1 this
      exact hns q hq
    rw[dif_neg hne] at h2
    exact⟨_,h2,by simp only[VR]; exact⟨_,rfl,by simpa using h3⟩⟩
end res
def eS (P:Program) (rs:List ResultVar) (Q:AV→aA→Prop):Exit→Fr→aA→Prop
 | .normal,fr,h | .ret,fr,h=>∃x y h'',pA P h fr rs=some x∧eO h'' h∧aN h'' x y∧Q y h''
 | _,_,_=>False
theorem pB {P:Program} {f:FuncId} {fn:Func} {c:Code} {args:List AV} {h:aA} {Q:AV→aA→Prop} (hf:P.funcs[f]? =some fn) (hb:fn.body=some c)
    (hc:AW P c (eS P fn.results.toList Q) (args++List.replicate (fn.ntmps - args.length) (.sc undef)) h):aG P f args h Q:=by
  intro E w vs r v
  refine calls_of_wp hf hb ?_
  have hl:args.length=vs.size:=by simpa using bJ v
  have hv:bE E w (args++List.replicate (fn.ntmps - args.length) (.sc undef)) (vs++Array.replicate (fn.ntmps - vs.size) undef).toList:=by
    rw[Array.toList_append,← hl]
    refine bM v ?_
    have:=jO (E:=E) (w:=w) (List.replicate (fn.ntmps - args.length) undef)
    simpa using this
  refine wp_mono (hc E w { tmps:=vs++Array.replicate (fn.ntmps - vs.size) undef,defers:= []} r hv rfl) ?_
  intro e a' w' p
  obtain⟨E',fr',h',k,r',v',d',q⟩:=p
  have fin:∀x y h'',pA P h' fr' fn.results.toList=some x→eO h'' h'→aN h'' x y→Q y h''→
      a'.defers= []∧∃u,(results fn a'.tmps).run P w'= .ok u w'∧(λe w'=>∃v E' x h',e=Ending.returned v∧bX E w E' w'∧cT E' h' w'∧VR E' w' x v∧Q x h') (Ending.returned u) w':=by
    intro x y h'' hx hs hl hq
    obtain⟨u,h1,h2⟩:=sL r' v' hx
    obtain⟨E'',k'',r''⟩:=r'.drop hs
    exact⟨d',u,h1,u,E'',y,h'',rfl,k.trans k'',r'',hl _ _ _ r'' (fT k'' _ _ h2),hq⟩
  cases e with
  | normal=>obtain⟨x,y,h'',q1,q2,q3,q4⟩:=q; exact fin x y h'' q1 q2 q3 q4
  | ret=>obtain⟨x,y,h'',q1,q2,q3,q4⟩:=q; exact fin x y h'' q1 q2 q3 q4
  | exit id=>exact q.elim
  | goto l=>exact q.elim
  | panic ch=>exact q.elim
  | outgrown=>exact q.elim
theorem gN.of {P:Program} {t e:TypeId} {sz b:Nat} (ht:P.underlying t=some (.slice e)) (hi:(P.info? e).map (λi=>(i.zero.map λz=>z.cells.size,i.size,i.bytes))=some (some sz,sz,b)) (h0:0 < sz):gN P t e sz b:=by
 refine⟨ht, ?_⟩
 cases e1:P.info? e with
 | none=>rw[e1] at hi; simp at hi
 | some i=>
  cases e2:i.zero with
  | none=>rw[e1] at hi; simp[e2] at hi
  | some z=>
   rw[e1] at hi
   simp[e2] at hi
   exact⟨i,z,rfl,e2,hi.2.1,hi.2.2,hi.1,h0⟩
def ac (P:Program):Code→(Exit→Fr→aA→Prop)→Fr→aA→Prop
 | .skip,Q,fr,h=>Q .normal fr h
 | .region id ops draw,Q,fr,h=>match draw with
  | true=>AW P (.region id ops true) Q fr h
  | false=>aops P ops (Q .normal) ops.toList fr h
 | .seq a b,Q,fr,h=>ac P a (Seq (ac P b Q) Q) fr h
 | .cond c x y,Q,fr,h=>match ev fr c with
  | .sc (.bool b)=>if b=true then ac P x Q fr h else ac P y Q fr h
  | _=>AW P (.cond c x y) Q fr h
 | .block id c,Q,fr,h=>ac P c (wF id Q) fr h
 | .exit id,Q,fr,h=>Q (.exit id) fr h
 | .ret,Q,fr,h=>Q .ret fr h
 | c,Q,fr,h=>AW P c Q fr h
theorem rC (n:Int):IntKind.wrap .u8 n=n % 256:=by simp[IntKind.wrap,IntKind.bits,IntKind.signed]
section steps
variable {P:Program} {Q:Exit→Fr→aA→Prop} {fr:Fr} {h:aA} {a b:Code}
theorem dD (hk:∀K:Fr→aA→Prop,(∀fr h,AW P b Q fr h→K fr h)→AW P a (Seq K Q) fr h):AW P (.seq a b) Q fr h:=sE (hk _ λ_ _ h=>h)
end steps
def mf (n:Nat) (kvs:List (Nat×AV)):Fr:=kvs.foldl (λfr p=>fr.set p.1 p.2) (List.replicate n .any)
def CP (h:aA) (fr:Fr):List (Nat×AV)→Prop
 | []=>True
 | (i,v)::r=>(match fr[i]? with | some x=>aN h x v | none=>False)∧CP h fr r
theorem wS (h:aA) (x:AV):aN h x x↔True:=iff_true_intro (aN.refl h x)
theorem aN.of_eq {h:aA} {x y:AV} (e:x=y):aN h x y:=e ▸ aN.refl h x
theorem aN.int {h:aA} {k:IntKind} {a b:Int} (e:a=b):aN h (.sc (.int k a)) (.sc (.int k b)):=e ▸ aN.refl h _
attribute [go_sem] mf CP wS List.foldl_cons List.foldl_nil
attribute [go_sem] undef ac pv CK dP ev cv JC pk bv ib sh sb FK FL u7 FM gM zW AF wL uA kH uB AD AE JA CJ tt Seq wF eS pA uE wR
attribute [go_sem] List.set_cons_succ List.set_cons_zero List.getD_cons_succ List.getD_cons_zero List.getElem?_cons_succ List.getElem?_cons_zero Option.bind_some Option.map_some Option.bind_none Option.map_none List.getElem?_toArray
 List.length_cons List.length_nil List.cons_append List.nil_append List.replicate true_and and_true forall_const if_true if_false false_and and_false false_implies implies_true true_implies Bool.not_true Bool.not_false not_true_eq_false not_false_eq_true decide_true decide_false decide_eq_true_eq decide_eq_false_iff_not List.head?_cons Int.natCast_zero List.map_nil List.drop_zero List.drop_succ_cons
section ops
variable {P:Program} {o:Oper} {K:AV→aA→Prop} {fr:Fr} {h:aA}
theorem eP {t u:TypeId} {x:Operand} (hop:o.op= .binOp .eql t x (.const (.slice none 0 0)) u) (ht:(kA P t).isSome=true) {y:AV} (hx:ev fr x=y)
    (hy:(∃tag sz xs,y= .sl tag sz xs∧∀b:Bool,(xs≠ []→b=false)→K (.sc (.bool b)) h)∨(y= .sc (.slice none 0 0)∧K (.sc (.bool true)) h)∨(y= .e0∧∀b:Bool,K (.sc (.bool b)) h)):eD P o K fr h:=by
  intro E w a r hv Nx Qx hn
  have vx:=hv x (by rw[hop]; simp[Op.operands])
  rw[hx] at vx
  obtain⟨s,hs⟩:=Option.isSome_iff_exists.1 ht
  obtain⟨e,hu,_⟩:=dH hs
  have run:∀q n c,a.eval x= .slice q n c→(execOp a.eval o).run P w= .ok (.value (.bool q.isNone)) w:=by
    intro q n c he
    have h2:a.eval (.const (.slice none 0 0))= .slice none 0 0:=rfl
    simp only[execOp,hop,he,h2]
    have h3:(binOp .eql t (.slice q n c) (.slice none 0 0)).run P w= .ok (.bool q.isNone) w:=by
      simp only[binOp]
      simp[run_equal_slice_nil w t e q n c hu]
    simp[eqGuard,h3]
  unfold Oper.wp
  rcases hy with⟨tag,sz,xs,rfl,hk⟩ | ⟨rfl,hk⟩ | ⟨rfl,hk⟩
  · have vx':=vx
    simp only[VR] at vx
    obtain⟨q,cap,e1,_,_,h3,_⟩:=vx
    rw[run q _ cap e1]
    refine hn _ _ w E h (bX.refl E w) r (by simp only[VR]) (hk q.isNone ?_)
    intro hne
    obtain⟨g,oo,rfl,_⟩:=h3.resolve_left hne
    rfl
  · simp only[VR] at vx
    rw[run none 0 0 vx]
    exact hn _ _ w E h (bX.refl E w) r (by simp only[VR]; rfl) hk
  · simp only[VR] at vx
    obtain⟨q,e1⟩:=vx
    rw[run q 0 0 e1]
    exact hn _ _ w E h (bX.refl E w) r (by simp only[VR]) (hk q.isNone)
theorem rD {t e:TypeId} {sz b:Nat} (hop:o.op= .buildSlice t 0 #[]) (ht:gN P t e sz b) (hK:K .e0 h):eD P o K fr h:=by
 intro E w a r hv Nx Qx hn
 obtain⟨cur,c1,c2⟩:=m4 (w:=w) (a:=a) hop ht (by simp) (by simp) (by simp)
 obtain⟨E',e1,e2,e3⟩:=r.new_imm e (0,0) cur
 unfold Oper.wp
 rw[c2]
 exact hn _ _ _ E' h e2 e3 (by simp only[VR]; exact⟨_,rfl⟩) hK
end ops
open Go.ChangeShapes Go.WideShapes
def E0 (W:World):dE:=⟨λg o=>(W.cell? ⟨g,o,none⟩).isSome=true,λg=>g < W.heap.size,λ_=>False,λ_=>none,λ_=>none⟩
def H0:aA:=λ_=>none
theorem cT.start (W:World):cT (E0 W) H0 W:=by
 refine⟨λ_ _ _ h=>(by cases h),λ_ _ _ _ h=>(by cases h),λ_ _ h=>(by cases h), ?_, ?_,λ_ _ h=>(by cases h),λ_ _ h=>(by cases h),λd=>⟨0,λn _ h=>h⟩, ?_,λg h=>h,λ_ _ h=>(by cases h)⟩
 ·rintro k k' g (⟨_,_,h,_⟩ | ⟨_,_,_,_,h,_⟩) <;> cases h
 ·rintro k g (⟨_,_,h,_⟩ | ⟨_,_,_,_,h,_⟩) <;> cases h
 ·intro g o h
  exact Option.isSome_iff_exists.1 h
section
variable {H:Type} {enc:TypeId×Value→H} {P:Program} {W W':World}
theorem jN {E':dE} (k:bX (E0 W) W E' W') (hl:laidOutB P=true):∀ {ts:List TypeId} {vs:List Value} {ds:List (DataW H)} {ps:List MemPlace},
    (∀t∈ts,P.readableRec t=true∧t < P.types.size)→(∀p∈ps,p.block < W.heap.size)→DataW.TrodAll enc P W 0 (λ_=>true) true ts vs ds ps→
    DataW.TrodAll enc P W' 0 (λb=>decide (b < W.heap.size)) true ts vs ds ps
  | [],_,_,_,_,_,h=>by
    obtain⟨rfl,rfl,rfl⟩:=trodAll_nil h
    rfl
  | t::ts,_,_,_,hr,hp,h=>by
    obtain⟨v,vs',d,ds',p,q,rfl,rfl,rfl,h1,h2⟩:=trodAll_cons h
    have hsame:∀x∈p,W.sameAt W' x:=by
      intro x hx
      have hb:=hp x (by simp[hx])
      have hk:=k.lock x.block hb
      cases x with
      | cell b off=>exact bT hk off
      | map b=>exact hk
    exact⟨p,q,WideElems.Trod_stays hl (hr t (by simp)).1 (hr t (by simp)).2 h1 hsame (λx hx=>by simpa using hp x (by simp[hx])),
      jN k hl (λt' h'=>hr t' (by simp[h'])) (λx hx=>hp x (by simp[hx])) h2,rfl⟩
theorem pC {f:Func} {s:ChangeSpec} {apart fresh handsOn:Bool} {E':dE} {args:Array Value} {ds gs:List (DataW H)} {before:List MemPlace} {t:TypeId} (hl:laidOutB P=true)
    (hr:∀t∈f.params.toList,P.readableRec t=true∧t < P.types.size) (hW:DataW.Whole enc P f.params.toList s.vars apart W args.toList ds gs before) (hv:s.vars= []) (k:bX (E0 W) W E' W')
    (ht:f.resultTypes= #[t]) (hb:P.underlying t=some .bool)
    (hfn:∀ds:List (DataW H),ds.length=f.params.toList.length→s.fn H ds= { results:= [.lit (.bool true)],args:=ds}):
    s.post enc P f apart fresh handsOn false W args (.bool true) W':=by
  have hlt:=hW.lt
  have hW0:=hW
  obtain⟨p,q,hA,hV,rfl,hfz,hnd⟩:=hW
  rw[hv] at hV
  obtain⟨rfl,rfl⟩:=trodVars_none hV
  have hlen:∀ {ts:List TypeId} {vs:List Value} {ds:List (DataW H)} {ps:List MemPlace},DataW.TrodAll enc P W 0 (λ_=>true) true ts vs ds ps→ds.length=ts.length:=by
    intro ts
    induction ts with
    | nil=>intro vs ds ps h; obtain⟨-,rfl, -⟩:=trodAll_nil h; rfl
    | cons t ts ih=>intro vs ds ps h; obtain⟨v,vs',d,ds',p,q, -,rfl, -, -,h2⟩:=trodAll_cons h; simp[ih h2]
  have e:=hfn ds (hlen hA)
  refine⟨ds, [],_, [],p, [],hW0, ?_, ?_, ?_, ?_,λh=>by cases h⟩
  · rw[List.append_nil,e,ht]
    exact⟨[], [],⟨1,by simp[DataW.trod,Value.cells,hb]⟩,rfl,rfl⟩
  · rw[List.append_nil,e]
    exact jN k hl hr (λx hx=>hlt x (by simp[hx])) hA
  · rw[List.append_nil,e,hv]
    rfl
  · refine⟨k.os,k.output,λi hi=> ?_⟩
    rw[k.lock i hi]
    cases hq:W.heap[i]? with
    | none=>trivial
    | some o=>cases o <;> simp
theorem vJ {E:dE} {w:World} {t:TypeId} {k:IntKind} {v:Value} {d:DataW H} {ps:List MemPlace} {base:Nat} (ht:P.underlying t=some (.int k)) (hval:Value.okWide P W .any base t v)
    (h:DataW.Trod enc P W 0 (λ_=>true) true t v d ps):∃n:Int,VR E w (.sc (.int k n)) v∧(Lit.int k n).wf=true:=by
  obtain⟨n,rfl, -, -,hw⟩:=open_int ht hval h
  exact⟨n,by simp only[VR],hw⟩
theorem wT {C:Checked} {os:Os} {f:FuncId} {fn:Func} {s:ChangeSpec} {conds:List PathCond} {apart fresh handsOn:Bool} {t:TypeId} (own:ownKnob C.prog.godebug=none) (started:os.Started) (noInit:C.prog.inits.idxOf? f=none) (hfn:C.prog.funcs[f]? =some fn)
    (witness:∃(w:World) (tape:Tape) (i:Input),w.os=os∧(w.forCall tape i).Shaped C.prog∧i.vars= []∧Input.okWide C.prog (w.forCall tape i) .any w.heap.size f i∧
      s.pre6 enc C.prog fn conds apart (w.forCall tape i).memory i.args∧({}:Assume).holds C.prog (lone (Frame.enter C.prog f i.args .normal) [] (w.forCall tape i)))
    (hl:laidOutB C.prog=true) (hr:∀t∈fn.params.toList,C.prog.readableRec t=true∧t < C.prog.types.size) (hv:s.vars= []) (ht:fn.resultTypes= #[t]) (hb:C.prog.underlying t=some .bool)
    (hs:∀ds:List (DataW H),ds.length=fn.params.toList.length→s.fn H ds= { results:= [.lit (.bool true)],args:=ds})
    (hrun:∀(W:World) (base:Nat) (args:Array Value) (ds:List (DataW H)) (ps:List MemPlace),(∀(j:Nat) t v,fn.params[j]? =some t→args[j]? =some v→Value.okWide C.prog W .any base t v)→
      DataW.TrodAll enc C.prog W 0 (λ_=>true) true fn.params.toList args.toList ds ps→∃avs,bE (E0 W) W avs args.toList∧aG C.prog f avs H0 (λr _=>r= .sc (.bool true))):
    ReturnsInHanded {} C os f .any (s.pre6 enc C.prog fn conds apart) (s.post enc C.prog fn apart fresh handsOn false):=by
  refine returnsInHanded_of_change own started noInit hfn witness ?_
  intro W base args ds gs before hval hW _ _
  have hW0:=hW
  obtain⟨p,q,hA,_,_,_,_⟩:=hW
  obtain⟨avs,h1,h2⟩:=hrun W base args ds p hval hA
  refine(h2 (E0 W) W args (cT.start W) h1).mono ?_
  rintro e W' ⟨v,E',x,h',rfl,k,r',vx,rfl⟩
  simp only[VR] at vx
  subst vx
  exact⟨_,rfl,pC hl hr hW0 hv k ht hb hs⟩
end
section ops
variable {P:Program} {o:Oper} {K:AV→aA→Prop} {fr:Fr} {h:aA}
def CQ (op:BinOp) (a b:Bool):Option Bool:=match op with | .eql=>some (a==b) | .neq=>some (a !=b) | _=>none
theorem AK {op:BinOp} {t u:TypeId} {x y:Operand} (hop:o.op= .binOp op t x y u) (ht:P.underlying t=some .bool) {a b r:Bool} (hx:ev fr x= .sc (.bool a)) (hy:ev fr y= .sc (.bool b)) (hr:CQ op a b=some r)
    (hK:K (.sc (.bool r)) h):eD P o K fr h:=by
  refine cO (x:=.sc (.bool r)) (λE w ac _ hv=> ?_) hK
  have vx:=hv x (by rw[hop]; simp[Op.operands])
  have vy:=hv y (by rw[hop]; simp[Op.operands])
  rw[hx] at vx; rw[hy] at vy
  simp only[VR] at vx vy
  refine⟨.bool r, ?_,by simp only[VR]⟩
  have he:∀d,(Op.equalIn (d+1) t (.bool a) (.bool b)).run P w= .ok (a==b) w:=λd=>run_equalIn_bool' w d t a b ht
  simp only[execOp,hop,vx,vy]
  cases op <;> simp only[CQ,Option.some.injEq,reduceCtorEq] at hr
  · subst hr
    simp[eqGuard,binOp,Op.equal,Op.maxDepth,he 9999]
  · subst hr
    simp[eqGuard,binOp,Op.equal,Op.maxDepth,he 9999]
    cases a <;> cases b <;> rfl
end ops
inductive JQ (k:aY) (cs:List AV):AV→AV→Prop where
 | same (x:AV):JQ k cs x x
 | view (off n sz:Nat):0 < sz→off+n*sz≤cs.length→JQ k cs (.view k off n) (.sl none sz (sJ sz n (cs.drop off)))
inductive n2 (k:aY) (cs:List AV):List AV→List AV→Prop where
 | nil:n2 k cs [] []
 | cons {x y:AV} {xs ys:List AV}:JQ k cs x y→n2 k cs xs ys→n2 k cs (x::xs) (y::ys)
theorem n2.refl (k:aY) (cs:List AV):∀(xs:List AV),n2 k cs xs xs
 | []=>.nil
 | x::xs=>.cons (.same x) (n2.refl k cs xs)
theorem n2.set (k:aY) (cs:List AV) {off n sz:Nat} (h0:0 < sz) (h1:off+n*sz≤cs.length):∀(i:Nat) (xs:List AV),xs[i]? =some (.view k off n)→n2 k cs xs (xs.set i (.sl none sz (sJ sz n (cs.drop off))))
 | _, [],h=>by simp at h
 | 0,x::xs,h=>by
  simp only[List.getElem?_cons_zero,Option.some.injEq] at h
  subst h
  exact .cons (.view off n sz h0 h1) (n2.refl k cs xs)
 | i+1,x::xs,h=>.cons (.same x) (n2.set k cs h0 h1 i xs (by simpa using h))
def own (t:Option aY) (sz:Nat) (xs:List (List AV)):AV:=match t with
 | none=>.sc (.slice none 0 0)
 | some k=>.sl (some k) sz xs
structure BY (h:aA) (t:Option aY) (xs:List (List AV)):Prop where
 nil:t=none→xs= []
 new:∀k,t=some k→h k=none
theorem BY.none (h:aA):BY h none []:=⟨λ_=>rfl,λ_ e=>(by cases e)⟩
theorem bS.put {h:aA} {x y:AV}:∀(i:Nat) (fr:List AV),fr[i]? =some x→aN h x y→bS h fr (fr.set i y)
 | _, [],e,_=>by simp at e
 | 0,z::fr,e,hl=>by
  simp only[List.getElem?_cons_zero,Option.some.injEq] at e
  subst e
  exact .cons hl (bS.refl h fr)
 | i+1,z::fr,e,hl=>.cons (aN.refl h z) (bS.put i fr (by simpa using e) hl)
section ops
variable {P:Program} {o:Oper} {K:AV→aA→Prop} {fr:Fr} {h:aA}
end ops
abbrev KV:=Nat→AV
def k0:KV:=λ_=>.any
def kp (f:KV) (d:Nat) (x:AV):KV:=λt=>bif Nat.beq d t then x else f t
def fm (n:Nat) (f:KV):Fr:=(List.range n).map f
def lk (n:Nat) (f:KV) (t:Nat):AV:=bif Nat.blt t n then f t else .any
def cB (n:Nat) (f:KV):Operand→AV
 | .tmp t=>lk n f t
 | .const v=>cv v
 | .global _=>.any
 | .func f=>.fn (.func f) []
def fJ (f:KV) (d:Option Tmp) (x:AV):KV:=match d with | some d=>kp f d x | none=>f
theorem iR (n:Nat) (f:KV) (t:Nat):(fm n f)[t]? =if t < n then some (f t) else none:=by
 unfold fm
 rw[List.getElem?_map]
 by_cases h:t < n
 ·rw[List.getElem?_range h]; simp[h]
 ·rw[List.getElem?_eq_none (by simpa using h)]; simp[h]
theorem f0 (n:Nat) (f:KV):(fm n f).length=n:=by simp[fm]
theorem iS (n:Nat) (f:KV) (t:Nat):lk n f t=if t < n then f t else .any:=by
 unfold lk
 by_cases h:t < n
 ·have:Nat.blt t n=true:=by rw[Nat.blt_eq]; exact h
  simp[this,h]
 ·have:Nat.blt t n=false:=by
   cases e:Nat.blt t n with
   | false=>rfl
   | true=>rw[Nat.blt_eq] at e; exact absurd e h
  simp[this,h]
theorem aO (n:Nat) (f:KV) (o:Operand):ev (fm n f) o=cB n f o:=by
 cases o with
 | tmp t=>
  simp only[ev,cB,List.getD,iR,iS]
  split <;> rfl
 | const v=>rfl
 | global g=>rfl
 | func f=>rfl
theorem iC (f:KV) (d:Nat) (x:AV):kp f d x d=x:=by simp[kp]
theorem l9 (f:KV) {d t:Nat} (x:AV) (h:d≠t):kp f d x t=f t:=by
 have:Nat.beq d t=false:=by
  cases e:Nat.beq d t with
  | false=>rfl
  | true=>exact absurd (Nat.eq_of_beq_eq_true e) h
 simp[kp,this]
theorem fG (n:Nat) (f:KV) (d:Option Tmp) (x:AV):dP (fm n f) d x=fm n (fJ f d x):=by
 cases d with
 | none=>rfl
 | some d=>
  simp only[dP,fJ]
  apply List.ext_getElem?
  intro t
  rw[List.getElem?_set,f0,iR,iR]
  by_cases h:d=t
  ·subst h
   simp[iC]
  ·simp[h,l9]
theorem oL {n:Nat} {f:KV} {t:Nat} {u:Value} (h:lk n f t= .sc u):(fm n f)[t]? =some (.sc u):=by
 rw[iS] at h
 rw[iR]
 split at h
 ·rename_i q; rw[if_pos q,h]
 ·cases h
def FT (h:aA) (n:Nat) (f g:KV):Prop:=∀t,t < n→aN h (f t) (g t)
theorem FT.nil {h:aA} {n:Nat} {f:KV}:FT h n f k0:=λ_ _=>aN.any _ _
theorem FT.cons {h:aA} {n:Nat} {f g:KV} {d:Nat} {v:AV} (hv:aN h (lk n f d) v) (hf:FT h n f g):FT h n f (kp g d v):=by
 intro t ht
 by_cases e:d=t
 ·subst e
  rw[iS,if_pos ht] at hv
  rw[iC]; exact hv
 ·rw[l9 _ _ e]; exact hf t ht
theorem iT {h:aA}:∀ {xs ys:List AV},xs.length=ys.length→(∀(i:Nat) (x y:AV),xs[i]? =some x→ys[i]? =some y→aN h x y)→bS h xs ys
 | [], [],_,_=>.nil
 | x::xs,y::ys,hl,hg=>.cons (hg 0 x y rfl rfl) (iT (by simpa using hl) λi a b ha hb=>hg (i+1) a b (by simpa using ha) (by simpa using hb))
 | [],_::_,hl,_=>by simp at hl
 | _::_, [],hl,_=>by simp at hl
theorem AL {h:aA} {n:Nat} {f g:KV} (hf:FT h n f g):bS h (fm n f) (fm n g):=by
 refine iT (by rw[f0,f0]) ?_
 intro i x y hx hy
 rw[iR] at hx hy
 by_cases hi:i < n
 ·rw[if_pos hi] at hx hy
  cases hx; cases hy
  exact hf i hi
 ·rw[if_neg hi] at hx; cases hx
def eQ (fr':Fr) (h':aA) (fr:Fr) (h:aA):Prop:=
 ∀E w vs,cT E h w→bE E w fr vs→∃E',bX E w E' w∧cT E' h' w∧bE E' w fr' vs
theorem eQ.of {fr fr':Fr} {h h':aA} (hs:eO h' h) (hl:bS h' fr fr'):eQ fr' h' fr h:=λE w vs r v=>by
 obtain⟨E',k,r'⟩:=r.drop hs
 exact⟨E',k,r',hl.spec r' (aT k _ _ v)⟩
theorem eQ.fm {n:Nat} {f g:KV} {h h':aA} (hs:eO h' h) (hf:FT h' n f g):eQ (fm n g) h' (fm n f) h:=.of hs (AL hf)
theorem eQ.trans {fr fr1 fr2:Fr} {h h1 h2:aA} (a:eQ fr1 h1 fr h) (b:eQ fr2 h2 fr1 h1):eQ fr2 h2 fr h:=λE w vs r v=>by
 obtain⟨E',k,r',v'⟩:=a E w vs r v
 obtain⟨E'',k',r'',v''⟩:=b E' w vs r' v'
 exact⟨E'',k.trans k',r'',v''⟩
theorem eQ.aw {P:Program} {c:Code} {Q:Exit→Fr→aA→Prop} {fr fr':Fr} {h h':aA} (le:eQ fr' h' fr h) (hc:AW P c Q fr' h'):AW P c Q fr h:=by
 intro E w a r v d
 obtain⟨E',k,r',v'⟩:=le E w _ r v
 exact wp_mono (hc E' w a r' v' d) λ_ _ _ p=>p.trans k
section rules
variable {P:Program} {Q:Exit→Fr→aA→Prop} {h:aA} {n:Nat} {kvs:KV}
def pD:Nat→List AV→KV
 | _, []=>k0
 | i,x::xs=>kp (pD (i+1) xs) i x
theorem lJ (undefs:Nat):∀(i:Nat) (xs:List AV) (t:Nat),pD i xs (i+t)=(xs++List.replicate undefs AV.any).getD t AV.any
 | i, [],t=>by
  simp only[pD,k0,List.nil_append,List.getD,List.getElem?_replicate]
  split <;> rfl
 | i,x::xs,0=>by simp[pD,kp]
 | i,x::xs,t+1=>by
  simp only[pD]
  rw[l9 _ _ (by omega)]
  have:=lJ undefs (i+1) xs t
  rw[show i+1+t=i+(t+1) from by omega] at this
  rw[this]
  simp
theorem oM {f:FuncId} {fn:Func} {c:Code} {args:List AV} {Q:AV→aA→Prop} (n:Nat) (rs:List ResultVar) (hf:P.funcs[f]? =some fn) (hb:fn.body=some c) (hn:fn.ntmps=n) (hr:fn.results.toList=rs) (hle:Nat.ble args.length n=true)
    (hc:AW P c (eS P rs Q) (fm n (pD 0 args)) h):aG P f args h Q:=by
  have hle:=Nat.le_of_ble_eq_true hle
  refine pB hf hb ?_
  rw[hn,hr]
  refine FN (eO.refl h) (iT ?_ ?_) hc
  · rw[f0,List.length_append,List.length_replicate]; omega
  · intro i x y hx hy
    rw[iR] at hy
    split at hy
    · cases hy
      have e:=lJ (n - args.length) 0 args i
      rw[Nat.zero_add] at e
      rw[e]
      by_cases hi:i < args.length
      · rw[List.getElem?_append_left hi] at hx
        simp only[List.getD,List.getElem?_append_left hi,hx,Option.getD_some]
        exact aN.refl _ _
      · simp only[List.getD,List.getElem?_append_right (Nat.le_of_not_lt hi),List.getElem?_replicate]
        split <;> exact aN.any _ _
    · cases hy
theorem bU {id:Nat} {l:List Oper} (hl:dS P l.toArray l (Q .normal) (fm n kvs) h):AW P (.region id l.toArray false) Q (fm n kvs) h:=oB hl
theorem gW {c:Operand} {x y:Code} {t:Bool} (hc:cB n kvs c= .sc (.bool t)) (ht:t=true→AW P x Q (fm n kvs) h) (hf:t=false→AW P y Q (fm n kvs) h):AW P (.cond c x y) Q (fm n kvs) h:=
 FJ (by rw[aO]; exact hc) ht hf
theorem sM (P:Program) (h:aA) {t:Nat}:uE P h (fm n kvs) (.tmp t)=some (lk n kvs t):=by
 have:=aO n kvs (.tmp t)
 simp only[ev,cB] at this
 simp only[uE,this]
theorem eS.one {Q:AV→aA→Prop} {t:Nat} {e:Exit} {y:AV} {h'':aA} (he:e= .ret∨e= .normal) (hs:eO h'' h) (hl:aN h'' (lk n kvs t) y) (hq:Q y h''):eS P [.tmp t] Q e (fm n kvs) h:=by
 rcases he with rfl | rfl <;> exact⟨_,y,h'',sM P h,hs,hl,hq⟩
theorem eS.zero {Q:AV→aA→Prop} {e:Exit} {h'':aA} (he:e= .ret∨e= .normal) (hs:eO h'' h) (hq:Q (.tup []) h''):eS P [] Q e (fm n kvs) h:=by
 rcases he with rfl | rfl <;> exact⟨_,.tup [],h'',rfl,hs,aN.refl _ _,hq⟩
theorem eS.two {Q:AV→aA→Prop} {t u:Nat} {e:Exit} {y z:AV} {h'':aA} (he:e= .ret∨e= .normal) (hs:eO h'' h) (hl:aN h'' (lk n kvs t) y) (hl':aN h'' (lk n kvs u) z) (hq:Q (.tup [y,z]) h''):eS P [.tmp t,.tmp u] Q e (fm n kvs) h:=by
 have hx:pA P h (fm n kvs) [.tmp t,.tmp u]=some (.tup [lk n kvs t,lk n kvs u]):=by
  simp only[pA,wR,sM,Option.bind_some,Option.map_some]
 rcases he with rfl | rfl <;> exact⟨_,_,h'',hx,hs,aN.tup (.cons hl (.cons hl' .nil)),hq⟩
inductive Lp (σ ρ:Type) where
 | go (s:σ)
 | brk (s:σ)
 | ret (r:ρ)
def bC {σ ρ:Type} (step:σ→Option (Lp σ ρ)):Nat→σ→Option (Lp σ ρ)
 | 0,_=>none
 | k+1,s=>match step s with
  | some (.go s')=>bC step k s'
  | x=>x
def after {σ ρ:Type} (m:Option (Lp σ ρ)) (k:σ→Option ρ):Option ρ:=match m with
 | some (.brk s)=>k s
 | some (.ret r)=>some r
 | _=>none
theorem aE {α ρ:Type} {x:Option α} {k:α→Option ρ} {o:ρ} (hm:x.bind k=some o):∃a,x=some a∧k a=some o:=by
 cases x with
 | none=>cases hm
 | some a=>exact⟨a,rfl,hm⟩
def ix {α:Type} (l:List α) (i:Int):Option α:=if 0≤i then l[i.toNat]? else none
theorem eH {α:Type} {l:List α} {i:Int} {x:α} (h:ix l i=some x):0≤i∧i < l.length∧l[i.toNat]? =some x:=by
 unfold ix at h
 split at h
 ·have:=(List.getElem?_eq_some_iff.1 h).1
  exact⟨by assumption,by omega,h⟩
 ·cases h
end rules
def cW (P:Program) (o:Oper) (x:AV) (fr:Fr) (h:aA):Prop:=eD P o (λx' h'=>x'=x∧h'=h) fr h
section ops
variable {P:Program} {ops:Array Oper} {K:Fr→aA→Prop} {h:aA} {n:Nat} {kvs:KV} {l:List Oper} {ty:TypeId} {pos:String} {bV:Array Edge}
theorem cP (hk:K (fm n kvs) h):dS P ops [] K (fm n kvs) h:=qY hk
theorem fK {dst:Option Tmp} {op:Op} (ho:eD P ⟨dst,op,ty,pos,bV,none⟩ (λx h'=>dS P ops l K (fm n (fJ kvs dst x)) h') (fm n kvs) h):dS P ops (⟨dst,op,ty,pos,bV,none⟩::l) K (fm n kvs) h:=
 sF rfl (ho.mono λx h' q=>by rw[fG]; exact q)
theorem kB {dst:Option Tmp} {op:Op} {x:AV} (ho:cW P ⟨dst,op,ty,pos,bV,none⟩ x (fm n kvs) h) (k:dS P ops l K (fm n (fJ kvs dst x)) h):dS P ops (⟨dst,op,ty,pos,bV,none⟩::l) K (fm n kvs) h:=
 fK (ho.mono λx' h' q=>by rw[q.1,q.2]; exact k)
theorem N0 {K:Fr→Prop} {dst:Option Tmp} {op:Op} {x:AV} (ho:cW P ⟨dst,op,ty,pos,bV,none⟩ x (fm n kvs) h) (k:cR P ops h K l (fm n (fJ kvs dst x))):cR P ops h K (⟨dst,op,ty,pos,bV,none⟩::l) (fm n kvs):=
 o5 x rfl ho (by rw[fG]; exact k)
theorem FP {dst:Option Tmp} {op:Op} {j:Nat} {want b:Bool} {dj:Nat} (hd:(ops[j]?).bind (·.dst)=some dj) (hu:lk n kvs dj= .sc (.bool b)) (hb:b=want)
    (k:dS P ops (⟨dst,op,ty,pos,bV,none⟩::l) K (fm n kvs) h):dS P ops (⟨dst,op,ty,pos,bV,some (j,want)⟩::l) K (fm n kvs) h:=by
  refine o8 (o:=⟨dst,op,ty,pos,bV,some (j,want)⟩) ?_ k
  intro E w a v
  simp[Region.wanted,gA v hd (oL hu),hb]
theorem FQ {dst:Option Tmp} {op:Op} {j:Nat} {want b:Bool} {dj:Nat} (hd:(ops[j]?).bind (·.dst)=some dj) (hu:lk n kvs dj= .sc (.bool b)) (hb:b= !want)
    (k:dS P ops l K (fm n (fJ kvs dst (.sc undef))) h):dS P ops (⟨dst,op,ty,pos,bV,some (j,want)⟩::l) K (fm n kvs) h:=by
  refine oA (o:=⟨dst,op,ty,pos,bV,some (j,want)⟩) ?_ (by rw[fG]; exact k)
  intro E w a v
  simp[Region.wanted,gA v hd (oL hu),hb]
theorem JR {dst:Option Tmp} {op:Op} {j:Nat} {want:Bool} {dj:Nat} {vs:Array Value} (hd:(ops[j]?).bind (·.dst)=some dj) (hu:lk n kvs dj= .sc (.tuple vs))
    (k:dS P ops l K (fm n (fJ kvs dst (.sc undef))) h):dS P ops (⟨dst,op,ty,pos,bV,some (j,want)⟩::l) K (fm n kvs) h:=by
  refine oA (o:=⟨dst,op,ty,pos,bV,some (j,want)⟩) ?_ (by rw[fG]; exact k)
  intro E w a v
  simp[Region.wanted,gA v hd (oL hu)]
theorem Fq {K:Fr→Prop} {dst:Option Tmp} {op:Op} {j:Nat} {want b:Bool} {dj:Nat} (hd:(ops[j]?).bind (·.dst)=some dj) (hu:lk n kvs dj= .sc (.bool b)) (hb:b=want)
    (k:cR P ops h K (⟨dst,op,ty,pos,bV,none⟩::l) (fm n kvs)):cR P ops h K (⟨dst,op,ty,pos,bV,some (j,want)⟩::l) (fm n kvs):=by
  subst hb
  obtain⟨x,hy,hn⟩:=k
  rcases hy with⟨_,h2⟩ | ⟨h1,_⟩
  · exact lF (o:=⟨dst,op,ty,pos,bV,some (j,b)⟩) x rfl hd (oL hu) (λE w a r v=>h2 E w a r v) hn
  · rcases h1 with⟨_,h1⟩ | ⟨_,_,_,h1,_⟩
    · cases h1
    · cases h1
theorem FU {K:Fr→Prop} {dst:Option Tmp} {op:Op} {j:Nat} {want b:Bool} {dj:Nat} (hd:(ops[j]?).bind (·.dst)=some dj) (hu:lk n kvs dj= .sc (.bool b)) (hb:b= !want)
    (k:cR P ops h K l (fm n (fJ kvs dst (.sc undef)))):cR P ops h K (⟨dst,op,ty,pos,bV,some (j,want)⟩::l) (fm n kvs):=by
  subst hb
  exact iK (o:=⟨dst,op,ty,pos,bV,some (j,want)⟩) rfl hd (.inl (oL hu)) (by rw[fG]; exact k)
theorem JS {K:Fr→Prop} {dst:Option Tmp} {op:Op} {j:Nat} {want:Bool} {dj:Nat} {vs:Array Value} (hd:(ops[j]?).bind (·.dst)=some dj) (hu:lk n kvs dj= .sc (.tuple vs))
    (k:cR P ops h K l (fm n (fJ kvs dst (.sc undef)))):cR P ops h K (⟨dst,op,ty,pos,bV,some (j,want)⟩::l) (fm n kvs):=
  iK (o:=⟨dst,op,ty,pos,bV,some (j,want)⟩) rfl hd (.inr ⟨_,oL hu⟩) (by rw[fG]; exact k)
theorem g9 {dst:Option Tmp} {op:Op} {c:Prop} {x:AV} (hp:pv P h (fm n kvs) op=some (c,x)) (hc:c):cW P ⟨dst,op,ty,pos,bV,none⟩ x (fm n kvs) h:=
 CM hp hc ⟨rfl,rfl⟩
theorem gG {dst:Option Tmp} {a:Operand} (x:AV) (hx:cB n kvs a=x):
    cW P ⟨dst,.move a,ty,pos,bV,none⟩ (x) (fm n kvs) h:=
  g9 (by simp only[pv,aO,hx]) trivial
theorem eW {dst:Option Tmp} {a:Operand} (x:AV) (hx:cB n kvs a=x):
    cW P ⟨dst,.assign a,ty,pos,bV,none⟩ (x) (fm n kvs) h:=
  g9 (by simp only[pv,aO,hx]) trivial
theorem FV {dst:Option Tmp} {op:BinOp} {t u:TypeId} {a b:Operand} {q:IntKind} {x y:Int} {c:Prop} {v:Value} (ha:cB n kvs a= .sc (.int q x)) (hb:cB n kvs b= .sc (.int q y)) (hv:bv op (.sc (.int q x)) (.sc (.int q y))=some (c,v)) (hc:c):
    cW P ⟨dst,.binOp op t a b u,ty,pos,bV,none⟩ ((.sc v)) (fm n kvs) h:=
  g9 (c:=c) (x:=.sc v) (by simp only[pv,aO,ha,hb,hv,Option.map_some]) hc
theorem sN {dst:Option Tmp} {op:BinOp} {t u:TypeId} {a b:Operand} {x y:ByteArray} {c:Prop} {v:Value} (ha:cB n kvs a= .sc (.string x)) (hb:cB n kvs b= .sc (.string y)) (hv:sb op x y=some (c,v)) (hc:c):
    cW P ⟨dst,.binOp op t a b u,ty,pos,bV,none⟩ ((.sc v)) (fm n kvs) h:=
  g9 (c:=c) (x:=.sc v) (by simp only[pv,aO,ha,hb,bv,hv,Option.map_some]) hc
theorem AM {dst:Option Tmp} {op:BinOp} {t u:TypeId} {a b:Operand} {x y r:Bool} (ht:P.underlying t=some .bool) (ha:cB n kvs a= .sc (.bool x)) (hb:cB n kvs b= .sc (.bool y)) (hr:CQ op x y=some r):
    cW P ⟨dst,.binOp op t a b u,ty,pos,bV,none⟩ ((.sc (.bool r))) (fm n kvs) h:=
  AK rfl ht (by rw[aO]; exact ha) (by rw[aO]; exact hb) hr ⟨rfl,rfl⟩
theorem FW {dst:Option Tmp} {t u:TypeId} {a:Operand} {q r p:IntKind} {x:Int} (ht:n0 P t=some p) (hu:n0 P u=some r) (ha:cB n kvs a= .sc (.int q x)):
    cW P ⟨dst,.convert t u a,ty,pos,bV,none⟩ ((.sc (.int r (r.wrap x)))) (fm n kvs) h:=
  g9 (c:=True) (x:=.sc (.int r (r.wrap x))) (by simp only[pv,aO,ha,ht,hu,FL,Option.map_some,Option.bind_some,tt]) trivial
theorem FX {dst:Option Tmp} {a:Operand} {t:TypeId} {tag:Option aY} {sz:Nat} {xs:List (List AV)} (ht:oF P t=some true) (ha:cB n kvs a= .sl tag sz xs):
    cW P ⟨dst,.call { callee:=.builtin .len,args:= #[a],argTypes:= #[t]},ty,pos,bV,none⟩ ((.sc (.int .i64 xs.length))) (fm n kvs) h:=
  g9 (c:=True) (x:=.sc (.int .i64 xs.length)) (by simp only[pv,CK,aO,ha,ht,CJ,Option.map_some,Option.bind_some,tt,if_true]) trivial
theorem wU {α:Type} {e:α→List AV} {xs:List α} {dst:Option Tmp} {a:Operand} {t:TypeId} {tag:Option aY} {sz:Nat} (ht:oF P t=some true) (ha:cB n kvs a= .sl tag sz (xs.map e)):
    cW P ⟨dst,.call { callee:=.builtin .len,args:= #[a],argTypes:= #[t]},ty,pos,bV,none⟩ ((.sc (.int .i64 xs.length))) (fm n kvs) h:=
  by
  have:=FX (P:=P) (h:=h) (n:=n) (kvs:=kvs) (dst:=dst) (ty:=ty) (pos:=pos) (bV:=bV) ht ha
  rwa [List.length_map] at this
theorem gX {dst:Option Tmp} {a:Operand} {t:TypeId} {s:ByteArray} (ht:oF P t=some false) (ha:cB n kvs a= .sc (.string s)):
    cW P ⟨dst,.call { callee:=.builtin .len,args:= #[a],argTypes:= #[t]},ty,pos,bV,none⟩ ((.sc (.int .i64 s.size))) (fm n kvs) h:=
  g9 (c:=True) (x:=.sc (.int .i64 s.size)) (by simp[pv,CK,aO,ha,ht,CJ,tt]) trivial
theorem wV {α:Type} {e:α→List AV} {xs:List α} {x:α} {dst:Option Tmp} {a b:Operand} {t:TypeId} {tag:Option aY} {sz:Nat} {q:IntKind} {i:Int} (hi:ix xs i=some x) (ht:kA P t=some sz) (ha:cB n kvs a= .sl tag sz (xs.map e)) (hb:cB n kvs b= .sc (.int q i)):
    cW P ⟨dst,.indexAddr t a b,ty,pos,bV,none⟩ ((.rp tag (e x))) (fm n kvs) h:=by
  obtain⟨h0,h1,h2⟩:=eH hi
  refine g9 (c:=(sz=sz∧0≤i)∧i < (xs.map e).length) (x:=.rp tag (e x)) ?_ ⟨⟨rfl,h0⟩,by rw[List.length_map]; exact h1⟩
  have:(xs.map e).getD i.toNat []=e x:=by simp[List.getD,h2]
  simp only[pv,aO,ha,hb,gM,zW,ht,Option.bind_some,this]
theorem wW {dst:Option Tmp} {a:Operand} {t:TypeId} {f:Nat} {q:aY} {off:Nat} {o s:Nat} (hf:iQ P t f=some (o,s)) (hs:Nat.beq s 0=false) (ha:cB n kvs a= .ptr q off):
    cW P ⟨dst,.fieldAddr t a f,ty,pos,bV,none⟩ ((.ptr q (off+o))) (fm n kvs) h:=by
  have h0:¬s=0:=λe=>by subst e; cases hs
  exact g9 (c:=True) (x:=.ptr q (off+o)) (by simp only[pv,aO,ha,hf,Option.bind_some,h0,if_false,AF,Option.map_some,tt]) trivial
theorem wX {dst:Option Tmp} {a:Operand} {t:TypeId} {tag:Option aY} {cs:List AV} {ag:Bool} {m:Nat} (x:AV) (ht:h9 P t=some (ag,m)) (ha:cB n kvs a= .rp tag cs) (hx:uA ag m cs=some x):
    cW P ⟨dst,.load t a,ty,pos,bV,none⟩ (x) (fm n kvs) h:=
  g9 (c:=True) (x:=x) (by simp only[pv,aO,ha,ht,Option.bind_some,wL,hx,Option.map_some,tt]) trivial
theorem rE {dst:Option Tmp} {a:Operand} {t:TypeId} {q:aY} {off:Nat} {oty:TypeId} {cs:List AV} {ag:Bool} {m:Nat} (x:AV) (ht:h9 P t=some (ag,m)) (ha:cB n kvs a= .ptr q off) (hk:h q=some (.obj oty cs)) (hx:uA ag m (cs.drop off)=some x):
    cW P ⟨dst,.load t a,ty,pos,bV,none⟩ (x) (fm n kvs) h:=
  g9 (c:=True) (x:=x) (by simp only[pv,aO,ha,ht,Option.bind_some,wL,hk,hx,Option.map_some,tt]) trivial
theorem cG {K:AV→aA→Prop} {dst:Option Tmp} {f:FuncId} {g:Operand} {args:Array Operand} {ts:Array TypeId} {caps az:List AV} {Q:AV→aA→Prop} (hc:aG P f az h Q) (hg:cB n kvs g= .fn (.func f) caps) (hb:aJ P f=true) (ha:args.toList.map (cB n kvs)++caps=az)
    (k:∀x h',Q x h'→K x h'):eD P ⟨dst,.call { callee:=.value g,args:=args,argTypes:=ts},ty,pos,bV,none⟩ K (fm n kvs) h:=by
  refine q6 rfl (by rw[aO]; exact hg) hb ?_
  have e:args.toList.map (ev (fm n kvs))=args.toList.map (cB n kvs):=List.map_congr_left λo _=>aO n kvs o
  rw[e,ha]
  exact hc.mono λx h' q=>k x h' q
theorem cK {dst:Option Tmp} {f:FuncId} {g:Operand} {args:Array Operand} {ts:Array TypeId} {caps az:List AV} {x:AV} (hc:aG P f az h (λx' h'=>x'=x∧h'=h)) (hg:cB n kvs g= .fn (.func f) caps) (hb:aJ P f=true) (ha:args.toList.map (cB n kvs)++caps=az):
    cW P ⟨dst,.call { callee:=.value g,args:=args,argTypes:=ts},ty,pos,bV,none⟩ x (fm n kvs) h:=by
  refine q6 rfl (by rw[aO]; exact hg) hb ?_
  have e:args.toList.map (ev (fm n kvs))=args.toList.map (cB n kvs):=List.map_congr_left λo _=>aO n kvs o
  rw[e,ha]
  exact hc
end ops
abbrev HL:=List (Option aY×dX)
def hp (h0:aA):HL→aA
 | []=>h0
 | (none,_)::r=>hp h0 r
 | (some k,e)::r=>upd (hp h0 r) k (some e)
def aS (h0:aA):HL→Prop
 | []=>True
 | (t,_)::r=>aS h0 r∧∀k,t=some k→hp h0 r k=none
theorem bF {h0:aA} {k:aY} {e:dX}:∀ {L:HL} (i:Nat),aS h0 L→L[i]? =some (some k,e)→hp h0 L k=some e
 | [],i,_,h=>by simp at h
 | (t,e')::r,0,_,h=>by
  simp only[List.getElem?_cons_zero,Option.some.injEq,Prod.mk.injEq] at h
  obtain⟨rfl,rfl⟩:=h
  simp only[hp,bK]
 | (t,e')::r,i+1,ok,h=>by
  have ih:=bF (L:=r) i ok.1 (by simpa using h)
  cases t with
  | none=>exact ih
  | some k'=>
   have:k≠k':=λq=>by
    have:=ok.2 k' rfl
    rw[← q,ih] at this
    cases this
   simp only[hp]
   rw[aU _ _ this]
   exact ih
theorem pE {h0:aA} {k:aY} {e:dX}:∀ {L:HL},aS h0 L→h0 k=some e→hp h0 L k=some e
 | [],_,h=>h
 | (t,e')::r,ok,h=>by
  have ih:=pE (L:=r) ok.1 h
  cases t with
  | none=>exact ih
  | some k'=>
   have:k≠k':=λq=>by
    have:=ok.2 k' rfl
    rw[← q,ih] at this
    cases this
   simp only[hp]
   rw[aU _ _ this]
   exact ih
theorem aW {h0:aA}:∀ {L' L:HL},L'.Sublist L→aS h0 L→eO (hp h0 L') (hp h0 L)∧aS h0 L':=by
 intro L' L hs
 induction hs with
 | slnil=>intro _; exact⟨eO.refl _,trivial⟩
 | @cons l1 l2 a hs ih=>
  intro ok
  obtain⟨i1,i2⟩:=ih ok.1
  obtain⟨t,e⟩:=a
  refine⟨?_,i2⟩
  cases t with
  | none=>exact i1
  | some k=>
   intro x e' hx
   have h1:=i1 x e' hx
   have:x≠k:=λq=>by
    have:=ok.2 k rfl
    rw[← q,h1] at this
    cases this
   simp only[hp]
   rw[aU _ _ this]
   exact h1
 | @cons_cons l1 l2 a hs ih=>
  intro ok
  obtain⟨i1,i2⟩:=ih ok.1
  obtain⟨t,e⟩:=a
  cases t with
  | none=>exact⟨i1,i2,λ_ q=>by cases q⟩
  | some k=>
   refine⟨?_,i2, ?_⟩
   ·intro x e' hx
    simp only[hp] at hx ⊢
    by_cases q:x=k
    ·subst q
     rw[bK] at hx ⊢
     exact hx
    ·rw[aU _ _ q] at hx ⊢
     exact i1 x e' hx
   ·intro k' hk'
    cases hk'
    cases h:hp h0 l1 k with
    | none=>rfl
    | some e'=>
     have:=i1 k e' h
     rw[ok.2 k rfl] at this
     cases this
theorem eK {h0:aA} {k:aY} {t:Option aY} {e e':dX}:∀ {L:HL} (i:Nat),aS h0 L→L[i]? =some (t,e)→(t=some k∨(t=none∧hp h0 L k=none))→
    upd (hp h0 L) k (some e')=hp h0 (L.set i (some k,e'))∧aS h0 (L.set i (some k,e'))∧∀x,x≠k→hp h0 (L.set i (some k,e')) x=hp h0 L x
  | [],i,_,h,_=>by simp at h
  | (t',e0)::r,0,ok,h,ht=>by
    simp only[List.getElem?_cons_zero,Option.some.injEq,Prod.mk.injEq] at h
    obtain⟨rfl,rfl⟩:=h
    simp only[List.set_cons_zero]
    rcases ht with rfl | ⟨rfl,ht⟩
    · refine⟨?_,⟨ok.1,λk' q=>by cases q; exact ok.2 _ rfl⟩,λx hx=> ?_⟩
      · simp only[hp]; funext q; unfold upd; split <;> rfl
      · simp only[hp]; rw[aU _ _ hx,aU _ _ hx]
    · refine⟨rfl,⟨ok.1,λk' q=>by cases q; exact ht⟩,λx hx=> ?_⟩
      simp only[hp]; rw[aU _ _ hx]
  | (t',e0)::r,i+1,ok,h,ht=>by
    have h':r[i]? =some (t,e):=by simpa using h
    cases t' with
    | none=>
      obtain⟨h1,h2,h3⟩:=eK (e':=e') i ok.1 h' ht
      exact⟨h1,⟨h2,λ_ q=>by cases q⟩,h3⟩
    | some k'=>
      have hne:k≠k':=by
        rcases ht with rfl | ⟨rfl,ht⟩
        · intro q
          have h1:=ok.2 k' rfl
          rw[← q,bF i ok.1 h'] at h1
          cases h1
        · intro q
          subst q
          simp only[hp,bK] at ht
          cases ht
      have ht':t=some k∨(t=none∧hp h0 r k=none):=by
        rcases ht with ht | ⟨ht,h1⟩
        · exact .inl ht
        · refine .inr ⟨ht, ?_⟩
          simp only[hp] at h1
          rwa [aU _ _ hne] at h1
      obtain⟨h1,h2,h3⟩:=eK (e':=e') i ok.1 h' ht'
      simp only[List.set_cons_succ,hp]
      refine⟨?_,⟨h2,λk2 q=> ?_⟩,λx hx=> ?_⟩
      · rw[← h1]
        funext q; simp only[upd]
        by_cases q1:q=k
        · subst q1; simp[hne]
        · simp[q1]
      · cases q
        rw[h3 k' hne.symm]
        exact ok.2 k' rfl
      · simp only[upd]
        split
        · rfl
        · exact h3 x hx
section rules
variable {P:Program} {Q:Exit→Fr→aA→Prop} {h:aA} {n:Nat}
end rules
def ow (t:Option aY) (sz:Nat) (xs:List (List AV)):AV:=match t with
 | none=>.e0
 | some k=>.sl (some k) sz xs
def app {α:Type} (xs ys:List α):Option (List α):=if xs.length+ys.length≤1000000000 then some (xs++ys) else none
theorem dV {α:Type} {xs ys zs:List α} (h:app xs ys=some zs):zs=xs++ys∧xs.length+ys.length≤1000000000:=by
 unfold app at h
 split at h
 ·exact⟨(Option.some.inj h).symm,by assumption⟩
 ·cases h
def AN (s:ByteArray) (i:Int):Option Int:=if 0≤i then (s[i.toNat]?).map λb=>(b.toNat:Int) else none
theorem aS.nil (h0:aA):aS h0 []:=trivial
theorem aS.none {h0:aA} {L:HL} {e:dX} (hk:aS h0 L):aS h0 ((none,e)::L):=⟨hk,nofun⟩
theorem iU {h0:aA} {k:aY} {e:dX}:∀ {L:HL} (i:Nat),aS h0 L→L[i]? =some (some k,e)→hp h0 (L.eraseIdx i) k=Option.none
 | [],i,_,h=>by simp at h
 | (t,e')::r,0,ok,h=>by
  simp only[List.getElem?_cons_zero,Option.some.injEq,Prod.mk.injEq] at h
  obtain⟨rfl,rfl⟩:=h
  exact ok.2 _ rfl
 | (t,e')::r,i+1,ok,h=>by
  have h':r[i]? =some (some k,e):=by simpa using h
  have ih:=iU (L:=r) i ok.1 h'
  simp only[List.eraseIdx_cons_succ]
  cases t with
  | none=>exact ih
  | some k'=>
   have:k≠k':=λq=>by
    have h2:=ok.2 k' rfl
    rw[← q,bF i ok.1 h'] at h2
    cases h2
   simp only[hp]
   rw[aU _ _ this]
   exact ih
theorem hD {h h':aA} (hs:eO h' h) {k:aY} (hk:h k=Option.none):h' k=Option.none:=by
 cases e:h' k with
 | none=>rfl
 | some x=>have:=hs k x e; rw[hk] at this; cases this
theorem pF {h0:aA} {k:aY} {e:dX} {L:HL} (i:Nat) (hk:aS h0 L) (hi:L[i]? =some (some k,e)):h0 k=Option.none:=by
 have h1:=iU i hk hi
 have h2:=(aW (List.eraseIdx_sublist L i) hk).2
 have h3:=(aW (h0:=h0) (L':= []) (List.nil_sublist (L.eraseIdx i)) h2).1
 exact hD h3 h1
theorem pG {α:Type} {c:α→List AV} (h:aA) (sz:Nat):aN h (.sc (.slice Option.none 0 0)) (ow Option.none sz (List.map c [])):=aN.nil_e0 h
theorem pH {α:Type} {c:α→List AV} {xs:List α} {t:Option aY} {h:aA} (sz:Nat) (ot:t=Option.none→xs= []) (hn:∀k,t=some k→h k=Option.none):aN h (ow t sz (xs.map c)) (.sl Option.none sz (xs.map c)):=by
 cases t with
 | none=>rw[ot rfl]; exact aN.e0 h sz
 | some k=>exact aN.freeze (λ_ _ _=>by rw[hn k rfl]; simp) sz _
theorem m5 {α:Type} {c:α→List AV} {xs:List α} {t:Option aY} {h0:aA} {L:HL} {e:dX} (sz:Nat) (i:Nat) (ot:t=Option.none→xs= []) (hk:aS h0 L) (hi:L[i]? =some (t,e)):aN h0 (ow t sz (xs.map c)) (.sl Option.none sz (xs.map c)):=
 pH sz ot λk q=>pF i hk (by rw[hi,q])
theorem iV {α:Type} {c:α→List AV} {xs:List α} {t:Option aY} {h0:aA} {L L':HL} {e:dX} (sz:Nat) (i:Nat) (ot:t=Option.none→xs= []) (hk:aS h0 L) (hi:L[i]? =some (t,e)) (hs:L'.Sublist (L.eraseIdx i)):aN (hp h0 L') (ow t sz (xs.map c)) (.sl Option.none sz (xs.map c)):=
 pH sz ot λk q=>hD (aW hs (aW (List.eraseIdx_sublist L i) hk).2).1 (iU i hk (by rw[hi,q]))
theorem CR {h:aA} (sz:Nat):aN h (.sc (.slice Option.none 0 0)) (.sl Option.none sz []):=aN.nil h sz 0 (by simp[maxLen])
theorem aP {α:Type} {c:α→List AV} {h:aA} (sz:Nat):aN h (.sc (.slice Option.none 0 0)) (.sl Option.none sz (List.map c [])):=CR sz
theorem dY {P:Program} {h:aA} {f:FuncId} {fn:Func} {c:Code} {args:List AV} {Q:AV→aA→Prop} (n:Nat) (rs:List ResultVar) (hf:P.funcs[f]? =some fn) (hb:fn.body=some c) (hn:fn.ntmps=n) (hr:fn.results.toList=rs) (hle:Nat.ble args.length n=true)
    (hc:AW P c (eS P rs Q) (fm n (pD 0 args)) (hp h [])):aG P f args h Q:=oM n rs hf hb hn hr hle hc
theorem eL (h0:aA) (L:HL) (x:Option aY×dX):hp (hp h0 L) [x]=hp h0 (x::L):=by
 obtain⟨t,e⟩:=x
 cases t <;> rfl
def grd {ρ:Type} (b:Bool) (k:Option ρ):Option ρ:=if b=true then k else Option.none
theorem CS {ρ:Type} {b:Bool} {k:Option ρ} {o:ρ} (h:grd b k=some o):b=true∧k=some o:=by
 unfold grd at h
 split at h
 ·exact⟨by assumption,h⟩
 ·cases h
theorem eQ.put {n:Nat} {kvs:KV} {h h':aA} {t:Nat} {v:AV} (hs:eO h' h) (hv:aN h' (lk n kvs t) v):eQ (Vm.fm n (kp kvs t v)) h' (Vm.fm n kvs) h:=
 eQ.fm hs (.cons hv λ_ _=>aN.refl _ _)
theorem bS.app {h:aA} {xs ys:List AV}:∀(k:Nat) {zs:List AV},zs.length=k→bS h xs ys→bS h (zs++xs) (zs++ys)
 | 0, [],_,hl=>hl
 | k+1,z::zs,hz,hl=>.cons (aN.refl _ _) (bS.app k (by simpa using hz) hl)
 | 0,_::_,hz,_=>by simp at hz
 | _+1, [],hz,_=>by simp at hz
theorem eQ.obj {h0:aA} {L:HL} {n:Nat} {f:KV} {k:aY} {ty:TypeId} {cs:List AV} (i:Nat) (cs':List AV) (hk:aS h0 L) (hi:L[i]? =some (some k,.obj ty cs)) (hl:bS (hp h0 L) cs cs'):
    aS h0 (L.set i (some k,.obj ty cs'))∧eQ (Vm.fm n f) (hp h0 (L.set i (some k,.obj ty cs'))) (Vm.fm n f) (hp h0 L):=by
  obtain⟨h1,h2,_⟩:=eK (e':=.obj ty cs') i hk hi (.inl rfl)
  refine⟨h2,λE w vs r v=> ?_⟩
  obtain⟨g,cur,e1,e2,e3,e4⟩:=r.obj k ty cs (bF i hk hi)
  obtain⟨k1,r1⟩:=r.set_obj (bF i hk hi) e1 (w':=w) e2 (λ_ _=>rfl) (Nat.le_refl _) rfl rfl rfl (hl.spec r e3) e4
  rw[h1] at r1
  exact⟨E,k1,r1,v⟩
theorem sO {x:AV} {t:Option aY} {sz:Nat} {xs:List (List AV)} (h:x=ow t sz xs):cellsOf x=some [ow t sz xs]:=by subst h; cases t <;> rfl
theorem m6 (t:Option aY) (sz:Nat) (xs:List (List AV)):dC (ow t sz xs)=true:=by cases t <;> rfl
theorem dM {x:AV} {xs:List AV} (h:dC x=true) (hs:xs.all dC=true):(x::xs).all dC=true:=by rw[List.all_cons,h,hs]; rfl
theorem CT (t:Option aY) (sz:Nat) (xs:List (List AV)): [ow t sz xs].all dC=true:=by cases t <;> rfl
section ops
variable {P:Program} {ops:Array Oper} {K:Fr→aA→Prop} {h h0:aA} {L:HL} {n:Nat} {kvs:KV} {l:List Oper} {ty:TypeId} {pos:String} {bV:Array Edge}
theorem fS {K:AV→aA→Prop} {α:Type} {c:α→List AV} {xs ys zs:List α} {dst:Option Tmp} {s x:Operand} {t e:TypeId} {sz b:Nat} {tg:Option aY} (i:Nat) (hm:app xs ys=some zs) (ht:gN P t e sz b) (hb:Nat.ble b 100000=true)
    (ha:cB n kvs s=ow tg sz (xs.map c)) (hi:L[i]? =some (tg,.tok e sz (xs.length*sz))) (ot:tg=none→xs= []) (hk:aS h0 L) (hx:g7 (hp h0 L) sz (cB n kvs x)=some (ys.map c))
    (k:∀tg',(tg'=none→zs= [])→aS h0 (L.set i (tg',.tok e sz (zs.length*sz)))→K (ow tg' sz (zs.map c)) (hp h0 (L.set i (tg',.tok e sz (zs.length*sz))))):
    eD P ⟨dst,.call { callee:=.builtin .append,args:= #[s,x],argTypes:= #[t,t]},ty,pos,bV,none⟩ K (fm n kvs) (hp h0 L):=by
  obtain⟨rfl,hsz⟩:=dV hm
  have hb':=Nat.le_of_ble_eq_true hb
  have hbound:(xs.length+ys.length)*(b+1)≤140737488355328:=by
    have:(xs.length+ys.length)*(b+1)≤1000000000*100001:=Nat.mul_le_mul hsz (by omega)
    omega
  cases tg with
  | none=>
    have hx0:=ot rfl
    subst hx0
    refine(m2 rfl 0 ht (by rw[aO]; exact ha) (.inr rfl) (by rw[aO]; exact hx) (by rw[List.length_map]; simpa using hbound) (λe0=> ?_) (λe0 q hq=> ?_))
    · have:ys= []:=by simpa using e0
      subst this
      have:=k none (λ_=>rfl) (by
        have e1:L.set i (none,dX.tok e sz (([]:List α).length*sz))=L:=by
          apply List.ext_getElem?; intro j; rw[List.getElem?_set]; split
          · rename_i q; subst q; split
            · exact hi.symm
            · rename_i q; rw[List.getElem?_eq_none (Nat.le_of_not_lt q)]
          · rfl
        rw[List.nil_append,e1]; exact hk)
      have e1:L.set i (none,dX.tok e sz (([]++ []:List α).length*sz))=L:=by
        apply List.ext_getElem?; intro j; rw[List.getElem?_set]; split
        · rename_i q; subst q; split
          · exact hi.symm
          · rename_i q; rw[List.getElem?_eq_none (Nat.le_of_not_lt q)]
        · rfl
      rw[e1] at this
      exact this
    · obtain⟨h1,h2,_⟩:=eK (e':=.tok e sz ((ys.map c).length*sz)) i hk hi (.inr ⟨rfl,hq⟩)
      rw[h1]
      rw[List.length_map] at h1 h2 ⊢
      exact k (some (0,q)) (λq=>by cases q) h2
  | some kk=>
    have hg:=bF i hk hi
    refine(m3 rfl ht (k:=kk) (by rw[aO]; exact ha) (by rw[hg,List.length_map]) (by rw[aO]; exact hx) (by rw[List.length_map,List.length_map]; exact hbound) ?_)
    obtain⟨h1,h2,_⟩:=eK (e':=.tok e sz ((xs.map c++ys.map c).length*sz)) i hk hi (.inl rfl)
    rw[h1]
    rw[← List.map_append,List.length_map] at h1 h2 ⊢
    exact k (some kk) (λq=>by cases q) h2
theorem CU {o:Oper} {K:AV→aA→Prop} {fr fr':Fr} (hl:∀y∈o.op.operands,aN h (ev fr y) (ev fr' y)) (ho:eD P o K fr' h):eD P o K fr h:=
 λE w a r v=>ho E w a r λy hy=>hl y hy E w _ r (v y hy)
theorem wY {K:AV→aA→Prop} {α:Type} {c:α→List AV} {dst:Option Tmp} {t e:TypeId} {sz b len:Nat} {parts:Array (Nat×Operand)} (xs:List α) (hk:aS h0 L) (ht:gN P t e sz b) (hi:parts.toList.map (·.1)=List.range len) (hl:Nat.ble (len*sz) 16777216=true)
    (hg:fE (parts.toList.map λp=>cB n kvs p.2)=some (xs.map c)) (ho:(xs.map c).all (λg=>g.all dC && g.length==sz)=true)
    (k:∀tg,(tg=none→xs= [])→aS h0 ((tg,.tok e sz (xs.length*sz))::L)→K (ow tg sz (xs.map c)) (hp h0 ((tg,.tok e sz (xs.length*sz))::L))):
    eD P ⟨dst,.buildSlice t len parts,ty,pos,bV,none⟩ K (fm n kvs) (hp h0 L):=by
  have e1:(parts.toList.map λp=>ev (fm n kvs) p.2)=parts.toList.map λp=>cB n kvs p.2:=List.map_congr_left λp _=>aO n kvs p.2
  refine wP rfl 0 ht hi (Nat.le_of_ble_eq_true hl) (by rw[e1]; exact hg) ho λq hq=> ?_
  rw[List.length_map]
  exact k (some (0,q)) (λe=>by cases e) ⟨hk,λk' e=>by cases e; exact hq⟩
theorem wZ {K:AV→aA→Prop} {α:Type} {c:α→List AV} {dst:Option Tmp} {t e:TypeId} {sz b:Nat} (hk:aS h0 L) (ht:gN P t e sz b)
    (k:aS h0 ((none,.tok e sz (([]:List α).length*sz))::L)→K (ow none sz (([]:List α).map c)) (hp h0 ((none,.tok e sz (([]:List α).length*sz))::L))):
    eD P ⟨dst,.buildSlice t 0 #[],ty,pos,bV,none⟩ K (fm n kvs) (hp h0 L):=
  rD rfl ht (k ⟨hk,nofun⟩)
theorem vK {α:Type} {c:α→List AV} {xs:List α} {tg:Option aY} {sz:Nat} (ot:tg=Option.none→xs= []):g7 h sz (ow tg sz (xs.map c))=some (xs.map c):=by
 cases tg with
 | none=>rw[ot rfl]; rfl
 | some k=>simp[ow,g7]
theorem w6 {dst:Option Tmp} {a:Operand} {q:aY} {off:Nat} (ha:cB n kvs a= .ptr q off):cW P ⟨dst,.nilCheck a,ty,pos,bV,none⟩ (.ptr q off) (fm n kvs) h:=
 g9 (c:=True) (by simp only[pv,aO,ha,u7,Option.map_some,tt]) trivial
theorem iW {dst:Option Tmp} {t e:TypeId} {sz b len:Nat} {parts:Array (Nat×Operand)} (gs:List (List AV)) (ht:gN P t e sz b) (hi:parts.toList.map (·.1)=List.range len) (hl:Nat.ble (len*sz) 16777216=true)
    (hg:fE (parts.toList.map λp=>cB n kvs p.2)=some gs) (ho:gs.all (λg=>g.all dC && g.length==sz)=true):cW P ⟨dst,.buildSlice t len parts,ty,pos,bV,none⟩ (.sl none sz gs) (fm n kvs) h:=by
  have e:(parts.toList.map λp=>ev (fm n kvs) p.2)=parts.toList.map λp=>cB n kvs p.2:=List.map_congr_left λp _=>aO n kvs p.2
  exact AJ rfl ht hi (Nat.le_of_ble_eq_true hl) (by rw[e]; exact hg) ho ⟨rfl,rfl⟩
theorem FY {K:AV→aA→Prop} {dst:Option Tmp} {t:TypeId} {x:Operand} {cs:List AV} (hk:aS h0 L) (hc:cellsOf (cB n kvs x)=some cs) (ho:cs.all dC=true)
    (k:∀q:aY,aS h0 ((some q,.obj t cs)::L)→K (.ptr q 0) (hp h0 ((some q,.obj t cs)::L))):eD P ⟨dst,.box t x,ty,pos,bV,none⟩ K (fm n kvs) (hp h0 L):=
  (AI rfl 0 (by rw[aO]; exact hc) ho λq hq=>k (0,q) ⟨hk,λk' e=>by cases e; exact hq⟩)
theorem bN {K:AV→aA→Prop} {dst:Option Tmp} {t:TypeId} {zs:List Value} (cs:List AV) (hk:aS h0 L) (hz:nW P t=some zs) (ho:zs.all (·.oneCell')=true) (hcs:zs.map AV.sc=cs)
    (k:∀q:aY,aS h0 ((some q,.obj t cs)::L)→K (.ptr q 0) (hp h0 ((some q,.obj t cs)::L))):eD P ⟨dst,.alloc t,ty,pos,bV,none⟩ K (fm n kvs) (hp h0 L):=by
  subst hcs
  exact(vG rfl 0 hz ho λq hq=>k (0,q) ⟨hk,λk' e=>by cases e; exact hq⟩)
theorem aQ {K:AV→aA→Prop} {dst:Option Tmp} {t oty:TypeId} {x y:Operand} {q:aY} {off:Nat} {cs xs:List AV} (i:Nat) (cs':List AV) (hk:aS h0 L) (ha:cB n kvs x= .ptr q off) (hi:L[i]? =some (some q,.obj oty cs))
    (hy:cellsOf (cB n kvs y)=some xs) (ho:xs.all dC=true) (hs:iL P t=some xs.length) (hl:Nat.ble (off+xs.length) cs.length=true) (hcs:cJ cs off xs=cs')
    (k:aS h0 (L.set i (some q,.obj oty cs'))→K (.sc undef) (hp h0 (L.set i (some q,.obj oty cs')))):eD P ⟨dst,.store t x y,ty,pos,bV,none⟩ K (fm n kvs) (hp h0 L):=by
  subst hcs
  obtain⟨h1,h2,_⟩:=eK (e':=.obj oty (cJ cs off xs)) i hk hi (.inl rfl)
  refine(vH rfl (by rw[aO]; exact ha) (bF i hk hi) (by rw[aO]; exact hy) ho hs (Nat.le_of_ble_eq_true hl) ?_)
  rw[h1]
  exact k h2
theorem uF {dst:Option Tmp} {t:TypeId} {a b:Operand} {q:IntKind} {s:ByteArray} {i x:Int} (hx:AN s i=some x) (ht:P.underlying t=some .string) (ha:cB n kvs a= .sc (.string s)) (hb:cB n kvs b= .sc (.int q i)):
    cW P ⟨dst,.index t a b,ty,pos,bV,none⟩ (.sc (.int .u8 x)) (fm n kvs) h:=by
  refine cO (x:=.sc (.int .u8 x)) (λE w ac _ hv=> ?_) ⟨rfl,rfl⟩
  have va:=hv a (by simp[Op.operands])
  have vb:=hv b (by simp[Op.operands])
  rw[aO,ha] at va; rw[aO,hb] at vb
  simp only[VR] at va vb
  refine⟨.int .u8 x, ?_,by simp only[VR]⟩
  unfold AN at hx
  split at hx
  · rename_i h0
    simp only[Option.map_eq_some_iff] at hx
    obtain⟨u,hu,rfl⟩:=hx
    simp[execOp,va,vb,Instr.index,asIntOf,run_underlying ht,h0,hu]
  · cases hx
end ops
def bV (ops:Array Oper) (i j:Nat):Bool:=match ops[j]? with
 | some oj=>oj.after.any λe=>Region.binds .any e && e.on==i
 | none=>true
def At (h:aA) (k:Option aY) (e:dX):Prop:=∀q,k=some q→h q=some e
theorem At.s {h:aA} {k:aY} {e:dX} (a:At h (some k) e):h k=some e:=a k rfl
theorem At.of {h:aA} {k:aY} {e:dX} (a:h k=some e):At h (some k) e:=λ_ hq=>by cases hq; exact a
theorem aX {h0:aA} {L:HL} {t:Option aY} {e:dX} (i:Nat) (hk:aS h0 L) (hi:L[i]? =some (t,e)):At (hp h0 L) t e:=λq hq=>bF i hk (by rw[hi,hq])
def eF:List (Nat×Option aY×dX)→Array Bool→aA→Prop
 | [],_,_=>True
 | (b,k,e)::r,S,h=>(S.getD b false=false→At h k e)∧eF r S h
theorem m7 {S:Array Bool} {b j:Nat} (h:(S.setIfInBounds j true).getD b false=false):S.getD b false=false:=by
 cases e:S.getD b false with
 | false=>rfl
 | true=>rw[getD_set_true e] at h; cases h
theorem eF.mono {j:Nat} {S:Array Bool} {h:aA}:∀ {fs:List (Nat×Option aY×dX)},eF fs S h→eF fs (S.setIfInBounds j true) h
 | [],_=>trivial
 | (_,_,_)::_,hi=>⟨λe=>hi.1 (m7 e),hi.2.mono⟩
theorem eF.unset {i:Nat} {S:Array Bool} {h:aA}:∀ {fs:List (Nat×Option aY×dX)},(fs.all λq=>q.1 !=i)=true→eF fs (S.setIfInBounds i true) h→eF fs S h
 | [],_,_=>trivial
 | (b,_,_)::r,hn,hi=>by
  simp only[List.all_cons,Bool.and_eq_true,bne_iff_ne,ne_eq] at hn
  refine⟨λe=>hi.1 ?_,hi.2.unset hn.2⟩
  rw[getD_set_ne false (Ne.symm hn.1)]
  exact e
theorem eF.get {S:Array Bool} {h:aA} {b:Nat} {k:Option aY} {e:dX}:∀ {fs:List (Nat×Option aY×dX)} (p:Nat),eF fs S h→fs[p]? =some (b,k,e)→S.getD b false=false→At h k e
 | [],p,_,hp,_=>by simp at hp
 | (b',k',e')::r,0,hi,hp,hs=>by
  simp only[List.getElem?_cons_zero,Option.some.injEq,Prod.mk.injEq] at hp
  obtain⟨rfl,rfl,rfl⟩:=hp
  exact hi.1 hs
 | (b',k',e')::r,p+1,hi,hp,hs=>eF.get p hi.2 (by simpa using hp) hs
section game
variable {P:Program} {ops:Array Oper} {K:Fr→aA→Prop} {fs:List (Nat×Option aY×dX)}
def AG (P:Program) (ops:Array Oper) (fs:List (Nat×Option aY×dX)) (K:Fr→aA→Prop):Nat→Array Bool→Fr→aA→Prop
  | 0,S,fr,h=>Region.ready .any ops S= []∧K fr h
  | f + 1, S, fr, h => (Region.ready .any ops S = [] → K fr h) ∧ ∀ i ∈ Region.ready .any ops S, ∀ o, ops[i]? = some o →
      (∃x,eT P ops h fr o x∧AG P ops fs K f (S.setIfInBounds i true) (dP fr o.dst x) h)∨
      (o.guard=none∧eD P o (λx h'=>eF fs (S.setIfInBounds i true) h'∧AG P ops fs K f (S.setIfInBounds i true) (dP fr o.dst x) h') fr h)
theorem kK:∀(fuel:Nat) (S:Array Bool) (fr:Fr) (h:aA),AG P ops fs K fuel S fr h→∀(E:dE) (w:World) (a:Act),cT E h w→bE E w fr a.tmps.toList→a.defers= []→
    ∀Q,(∀a' w',lD E w K a' w'→Q .normal a' w')→wpAny P .any ops Q fuel S a w
  | 0,S,fr,h,H,E,w,a,r,v,d,Q,hQ=>⟨H.1,hQ _ _ ⟨E,fr,h,bX.refl E w,r,v,d,H.2⟩⟩
  | fuel+1,S,fr,h,H,E,w,a,r,v,d,Q,hQ=>by
    refine⟨λe=>hQ _ _ ⟨E,fr,h,bX.refl E w,r,v,d,H.1 e⟩,λi hi=> ?_⟩
    obtain⟨_,o,ho,_⟩:=mem_ready.1 hi
    unfold wpOp
    simp only[ho]
    rcases H.2 i hi o ho with⟨x,hy,hn⟩ | ⟨hg,hop⟩
    · rcases hy with⟨h1,h2⟩ | ⟨h1,rfl⟩
      · rw[h1.wanted v,if_pos rfl]
        refine .inl (h2 E w a r (λy _=>qX v y) _ Q ?_)
        rintro x' u w' E' h' k r' vx ⟨ex,eh⟩
        rw[ex] at vx
        rw[eh] at r'
        refine kK fuel _ _ _ hn E' w' _ r' (iA _ (aT k _ _ v) vx) (by rw[eJ]; exact d) Q ?_
        intro a' w'' p
        exact hQ _ _ (p.trans k)
      · rw[h1.wanted v]
        simp only[Bool.false_eq_true,if_false]
        exact kK fuel _ _ _ hn E w _ r (iA _ v (by simp[VR])) (by rw[eJ]; exact d) Q hQ
    · have hw:Region.wanted o (yielded ops a.tmps)=true:=by simp[Region.wanted,hg]
      rw[hw,if_pos rfl]
      refine .inl (hop E w a r (λy _=>qX v y) _ Q ?_)
      rintro x' u w' E' h' k r' vx ⟨_,hn⟩
      refine kK fuel _ _ _ hn E' w' _ r' (iA _ (aT k _ _ v) vx) (by rw[eJ]; exact d) Q ?_
      intro a' w'' p
      exact hQ _ _ (p.trans k)
theorem pI {i j:Nat} {S:Array Bool} (hj:j∈Region.ready .any ops S) (hi:S.getD i false=false):bV ops i j=false:=by
 obtain⟨_,oj,hoj,hall⟩:=mem_ready.1 hj
 unfold bV
 rw[hoj]
 cases e:oj.after.any λe=>Region.binds .any e && e.on==i with
 | false=>exact e
 | true=>
  obtain⟨x,hx,hb⟩:=Array.any_eq_true'.1 e
  simp only[Bool.and_eq_true,beq_iff_eq] at hb
  have:=hall x hx hb.1
  rw[hb.2,hi] at this
  cases this
theorem w7 {i:Nat} {oi:Oper} {x:AV} (hi:ops[i]? =some oi) (hn:(fs.all λq=>q.1 !=i)=true):∀(fuel:Nat) (S:Array Bool) (fr:Fr) (h:aA),S.size=ops.size→
    (∀j oj,ops[j]? =some oj→j≠i→S.getD j true=false→(∀e∈oj.after,Region.binds .any e=true→e.on≠i)→oi.apart ops oj=true)→
    (∀j,bV ops i j=true→S.getD j false=false)→
    i∈Region.ready .any ops S→eF fs S h→(∀S' h',eF fs S' h'→(∀j,bV ops i j=true→S'.getD j false=false)→eT P ops h' fr oi x)→
    AG P ops fs K fuel (S.setIfInBounds i true) (dP fr oi.dst x) h→AG P ops fs K (fuel+1) S fr h:=by
  intro fuel
  induction fuel with
  | zero=>
    intro S fr h hsz _ hb hr hI hV H
    refine⟨λe=>(by rw[e] at hr; cases hr),λj hj oj hoj=> ?_⟩
    by_cases hji:j=i
    · subst hji
      rw[hi] at hoj; cases hoj
      exact .inl ⟨x,hV S h hI hb,H⟩
    · have:=ready_mono hj hji
      rw[H.1] at this
      cases this
  | succ fuel ih=>
    intro S fr h hsz hfree hb hr hI hV H
    refine⟨λe=>(by rw[e] at hr; cases hr),λj hj oj hoj=> ?_⟩
    by_cases hji:j=i
    · subst hji
      rw[hi] at hoj; cases hoj
      exact .inl ⟨x,hV S h hI hb,H⟩
    · have hilt:i < S.size:=by rw[hsz]; exact(Array.getElem?_eq_some_iff.1 hi).1
      have hiun:S.getD i false=false:=by
        have:=(mem_ready.1 hr).1
        simp only[Array.getD_eq_getD_getElem?,Array.getElem?_eq_getElem hilt,Option.getD_some] at this ⊢
        exact this
      obtain⟨hjun,oj',hoj',hall⟩:=mem_ready.1 hj
      rw[hoj] at hoj'; cases hoj'
      have hnot:∀e∈oj.after,Region.binds .any e=true→e.on≠i:=λe he hbn heq=>by
        have h1:=hall e he hbn
        rw[heq,hiun] at h1
        cases h1
      obtain⟨a1,a2,a3⟩:=Oper.apart_spec (hfree j oj hoj hji hjun hnot)
      have hfree':∀k ok,ops[k]? =some ok→k≠i→(S.setIfInBounds j true).getD k true=false→
          (∀e∈ok.after,Region.binds .any e=true→e.on≠i)→oi.apart ops ok=true:=λk ok hk hki hun hno=>by
        refine hfree k ok hk hki ?_ hno
        by_cases hjk:j=k
        · subst hjk; exact hjun
        · rw[getD_set_ne true hjk] at hun; exact hun
      have haj:=pI hj hiun
      have hb':∀k,bV ops i k=true→(S.setIfInBounds j true).getD k false=false:=λk hk=>by
        have:j≠k:=λe=>by subst e; rw[haj] at hk; cases hk
        rw[getD_set_ne false this]
        exact hb k hk
      have hsz':(S.setIfInBounds j true).size=ops.size:=by simpa using hsz
      rcases H.2 j (ready_mono hj hji) oj hoj with⟨y,hy2,hn2⟩ | ⟨hg,hop⟩
      · refine .inl ⟨y,hy2.unput a1, ?_⟩
        refine ih (S.setIfInBounds j true) (dP fr oj.dst y) h hsz' hfree' hb' (ready_mono hr (Ne.symm hji)) hI.mono (λS' h' u v=>(hV S' h' u v).put a3) ?_
        rw[Array.setIfInBounds_comm _ _ hji,← lE fr _ _ a2]
        exact hn2
      · refine .inr ⟨hg, ?_⟩
        have hop':=hop.congr (fr':=fr) λy hy=>(sG a1 y hy).symm
        refine hop'.mono ?_
        rintro y h' ⟨q1,q2⟩
        rw[Array.setIfInBounds_comm _ _ (Ne.symm hji)] at q1
        have q3:eF fs (S.setIfInBounds j true) h':=q1.unset hn
        refine⟨q3, ?_⟩
        refine ih (S.setIfInBounds j true) (dP fr oj.dst y) h' hsz' hfree' hb' (ready_mono hr (Ne.symm hji)) q3 (λS' h' u v=>(hV S' h' u v).put a3) ?_
        rw[Array.setIfInBounds_comm _ _ hji,← lE fr _ _ a2]
        exact q2
def zq (ops:Array Oper) (S:Array Bool) (i:Nat):Bool:=
 (Region.ready .any ops S).contains i && Region.free .any ops S i && S.size==ops.size && (List.range ops.size).all λj=> !(bV ops i j) || !(S.getD j false)
theorem AO {i:Nat} {oi:Oper} {S:Array Bool} (hi:ops[i]? =some oi) (hz:zq ops S i=true):i∈Region.ready .any ops S∧S.size=ops.size∧
    (∀j oj,ops[j]? =some oj→j≠i→S.getD j true=false→(∀e∈oj.after,Region.binds .any e=true→e.on≠i)→oi.apart ops oj=true)∧(∀j,bV ops i j=true→S.getD j false=false):=by
  simp only[zq,Bool.and_eq_true,beq_iff_eq,List.all_eq_true,List.mem_range,Bool.or_eq_true,Bool.not_eq_true'] at hz
  obtain⟨⟨⟨h1,h2⟩,h3⟩,h4⟩:=hz
  refine⟨by simpa using h1,h3,Region.free_spec hi h2,λj hj=> ?_⟩
  by_cases hlt:j < ops.size
  · rcases h4 j hlt with h5 | h5
    · rw[hj] at h5; cases h5
    · exact h5
  · simp only[Array.getD_eq_getD_getElem?,Array.getElem?_eq_none (by omega:S.size≤j),Option.getD_none]
def kL (P:Program) (ops:Array Oper) (fs:List (Nat×Option aY×dX)) (K:Fr→aA→Prop) (fuel:Nat) (S:Array Bool) (fr:Fr) (h:aA):Prop:=eF fs S h→AG P ops fs K fuel S fr h
variable {h:aA} {n:Nat} {kvs:KV} {ty:TypeId} {pos:String} {aft':Array Edge}
theorem CV {f:Nat} {S:Array Bool} (i:Nat) {dst:Option Tmp} {op:Op} {x:AV} (hi:ops[i]? =some ⟨dst,op,ty,pos,aft',none⟩) (hz:zq ops S i=true) (hn:(fs.all λq=>q.1 !=i)=true)
    (ho:∀S' h',eF fs S' h'→(∀j,bV ops i j=true→S'.getD j false=false)→cW P ⟨dst,op,ty,pos,aft',none⟩ x (fm n kvs) h')
    (k:kL P ops fs K f (S.setIfInBounds i true) (fm n (fJ kvs dst x)) h):kL P ops fs K (f+1) S (fm n kvs) h:=by
  intro hI
  obtain⟨z1,z2,z3,z4⟩:=AO hi hz
  refine w7 hi hn f S (fm n kvs) h z2 z3 z4 z1 hI (λS' h' a b=>.inl ⟨.inl ⟨rfl,rfl⟩,ho S' h' a b⟩) ?_
  rw[fG]
  exact k hI.mono
theorem PK {f:Nat} {S:Array Bool} (i:Nat) {dst:Option Tmp} {op:Op} (hi:ops[i]? =some ⟨dst,op,ty,pos,aft',none⟩) (hz:Region.ready .any ops S= [i])
    (ho:eD P ⟨dst,op,ty,pos,aft',none⟩ (λx h'=>eF fs (S.setIfInBounds i true) h'∧kL P ops fs K f (S.setIfInBounds i true) (fm n (fJ kvs dst x)) h') (fm n kvs) h):kL P ops fs K (f+1) S (fm n kvs) h:=by
  intro _
  refine⟨λe=>(by rw[hz] at e; cases e),λj hj oj hoj=> ?_⟩
  rw[hz] at hj
  cases List.mem_singleton.1 hj
  rw[hi] at hoj; cases hoj
  exact .inr ⟨rfl,ho.mono λx h' q=>⟨q.1,by rw[fG]; exact q.2 q.1⟩⟩
theorem FZ {f:Nat} {S:Array Bool} (i j:Nat) {dst dst':Option Tmp} {op op':Op} {ty':TypeId} {pos':String} {aft'':Array Edge} (hi:ops[i]? =some ⟨dst,op,ty,pos,aft',none⟩) (hj:ops[j]? =some ⟨dst',op',ty',pos',aft'',none⟩) (hz:Region.ready .any ops S= [i,j])
    (ho:eD P ⟨dst,op,ty,pos,aft',none⟩ (λx h'=>eF fs (S.setIfInBounds i true) h'∧kL P ops fs K f (S.setIfInBounds i true) (fm n (fJ kvs dst x)) h') (fm n kvs) h)
    (ho':eD P ⟨dst',op',ty',pos',aft'',none⟩ (λx h'=>eF fs (S.setIfInBounds j true) h'∧kL P ops fs K f (S.setIfInBounds j true) (fm n (fJ kvs dst' x)) h') (fm n kvs) h):kL P ops fs K (f+1) S (fm n kvs) h:=by
  intro _
  refine⟨λe=>(by rw[hz] at e; cases e),λq hq oq hoq=> ?_⟩
  rw[hz] at hq
  simp only[List.mem_cons,List.not_mem_nil,or_false] at hq
  rcases hq with rfl | rfl
  · rw[hi] at hoq; cases hoq
    exact .inr ⟨rfl,ho.mono λx h' q=>⟨q.1,by rw[fG]; exact q.2 q.1⟩⟩
  · rw[hj] at hoq; cases hoq
    exact .inr ⟨rfl,ho'.mono λx h' q=>⟨q.1,by rw[fG]; exact q.2 q.1⟩⟩
theorem F0 {f:Nat} {S:Array Bool} (hz:Region.ready .any ops S= []) (hk:K (fm n kvs) h):kL P ops fs K f S (fm n kvs) h:=by
 intro _
 cases f with
 | zero=>exact⟨hz,hk⟩
 | succ f=>exact⟨λ_=>hk,λi hi=>by rw[hz] at hi; cases hi⟩
theorem AP {Q:Exit→Fr→aA→Prop} {fr:Fr} {id:Nat} {l:List Oper} (fs:List (Nat×Option aY×dX)) (hm:P.follows .mixedOrders=true) (hI:eF fs (Array.replicate l.length false) h)
    (hl:kL P l.toArray fs (Q .normal) l.length (Array.replicate l.length false) fr h):AW P (.region id l.toArray true) Q fr h:=by
  intro E w a r v d
  refine wp_region_any hm ?_
  obtain⟨r',k⟩:=r.drewn (w.drawn+1)
  have:=kK l.length (Array.replicate l.length false) fr h (hl hI) E { w with drawn:=w.drawn+1} a r' (aT k _ _ v) d (λe a' w'=>lD E w (Q e) a' w') (λa' w' p=>p.trans k)
  simpa using this
end game
abbrev JD:=Option Nat×List Nat×List Nat
def mI (ops:Array Oper) (o:Oper):JD:=(o.dst,o.looksAt ops,(o.after.toList.filter λe=>Region.binds .any e).map (·.on))
def JT (a b:JD):Bool:=
 (match a.1 with | some x=> !(b.2.1.any (Nat.beq x)) && (match b.1 with | some y=> !(Nat.beq x y) | none=>true) | none=>true) &&
 (match b.1 with | some y=> !(a.2.1.any (Nat.beq y)) | none=>true)
def rF:Nat→List JD→Bool
 | _, []=>true
 | k,a::r=>a.2.2.all (λx=>Nat.blt x k) && r.all (λb=>b.2.2.any (Nat.beq k) || JT a b) && rF (k+1) r
theorem pJ {x:Nat} {l:List Nat}:l.any (Nat.beq x)=true↔x∈l:=by
 rw[List.any_eq_true]
 constructor
 ·rintro⟨y,hy,e⟩
  rw[Nat.eq_of_beq_eq_true e]; exact hy
 ·intro h
  exact⟨x,h,Nat.beq_refl x⟩
theorem vL {ops:Array Oper} {x y:Oper} (h:JT (mI ops x) (mI ops y)=true):x.apart ops y=true:=by
 simp only[JT,mI,Bool.and_eq_true] at h
 simp only[Oper.apart,Bool.and_eq_true]
 obtain⟨h1,h2⟩:=h
 refine⟨?_, ?_⟩
 ·cases hx:x.dst with
  | none=>rfl
  | some d=>
   rw[hx] at h1
   simp only[Bool.and_eq_true,Bool.not_eq_true'] at h1 ⊢
   refine⟨?_, ?_⟩
   ·cases e:(y.looksAt ops).contains d with
    | false=>rfl
    | true=>
     have:d∈y.looksAt ops:=by simpa using e
     rw[pJ.2 this] at h1
     cases h1.1
   ·cases hy:y.dst with
    | none=>rfl
    | some d'=>
     rw[hy] at h1
     have h3:=h1.2
     simp only[bne_iff_ne,ne_eq,Option.some.injEq]
     intro e
     subst e
     simp at h3
 ·cases hy:y.dst with
  | none=>rfl
  | some d=>
   rw[hy] at h2
   simp only[Bool.not_eq_true'] at h2 ⊢
   cases e:(x.looksAt ops).contains d with
   | false=>rfl
   | true=>
    have:d∈x.looksAt ops:=by simpa using e
    rw[pJ.2 this] at h2
    cases h2
def CW (n k:Nat) (S:Array Bool):Prop:=S.size=n∧∀j,j < n→S[j]? =some (decide (j < k))
theorem CW.getD {n k j:Nat} {S:Array Bool} (h:CW n k S) (hj:j < n) (b:Bool):S.getD j b=decide (j < k):=by
 have:=h.2 j hj
 rw[Array.getD_eq_getD_getElem?,this]; rfl
theorem oN {ops:Array Oper}:∀(l:List Oper) (k:Nat) (S:Array Bool),(∀j,l[j]? =ops[k+j]?)→k+l.length=ops.size→CW ops.size k S→rF k (l.map (mI ops))=true→Region.lexFrom .any ops l.length k S=true
 | [],k,S,_,hsz,hu,_=>by
  simp only[List.length_nil,Region.lexFrom,List.isEmpty_iff]
  cases e:Region.ready .any ops S with
  | nil=>rfl
  | cons j r=>
   have hj:j∈Region.ready .any ops S:=by rw[e]; simp
   obtain⟨h1,o,ho,_⟩:=mem_ready.1 hj
   have hlt:j < ops.size:=(Array.getElem?_eq_some_iff.1 ho).1
   rw[hu.getD hlt] at h1
   simp only[List.length_nil,Nat.add_zero] at hsz
   simp at h1
   omega
 | o::l,k,S,hl,hsz,hu,hs=>by
  have h0:ops[k]? =some o:=by simpa using (hl 0).symm
  have hk:k < ops.size:=(Array.getElem?_eq_some_iff.1 h0).1
  simp only[List.map_cons,rF,Bool.and_eq_true] at hs
  obtain⟨⟨hs1,hs2⟩,hs3⟩:=hs
  simp only[List.length_cons,Region.lexFrom,Bool.and_eq_true]
  refine⟨⟨?_, ?_⟩, ?_⟩
  ·have:k∈Region.ready .any ops S:=by
    refine mem_ready.2 ⟨by rw[hu.getD hk]; simp,o,h0,λe he hb=> ?_⟩
    have hon:e.on < k:=by
     have:=List.all_eq_true.1 hs1 e.on (by
      simp only[mI,List.mem_map,List.mem_filter]
      exact⟨e,⟨by simpa using he,hb⟩,rfl⟩)
     rwa [Nat.blt_eq] at this
    rw[hu.getD (by omega)]
    simpa using hon
   simpa using this
  ·simp only[Region.free,h0,List.all_eq_true,List.mem_range]
   intro j hj
   simp only[Bool.or_eq_true,beq_iff_eq]
   by_cases e1:j=k
   ·exact .inl (.inl e1)
   ·by_cases e2:j < k
    ·exact .inl (.inr (by rw[hu.getD hj]; simpa using e2))
    ·right
     obtain⟨q,rfl⟩:∃q,j=k+(q+1):=⟨j - k - 1,by omega⟩
     have hlq:=hl (q+1)
     simp only[List.getElem?_cons_succ] at hlq
     have hlt:q < l.length:=by simp only[List.length_cons] at hsz; omega
     rw[← hlq,List.getElem?_eq_getElem hlt]
     have:=List.all_eq_true.1 hs2 (mI ops l[q]) (List.mem_map.2 ⟨l[q],List.getElem_mem hlt,rfl⟩)
     simp only[Bool.or_eq_true] at this ⊢
     rcases this with h1 | h1
     ·left
      have h1:=pJ.1 h1
      simp only[mI,List.mem_map,List.mem_filter] at h1
      obtain⟨e,⟨he,hb⟩,hon⟩:=h1
      rw[Array.any_eq_true']
      exact⟨e,by simpa using he,by simp[hb,hon]⟩
     ·exact .inr (vL h1)
  ·refine oN l (k+1) _ (λj=>by have:=hl (j+1); simpa [Nat.add_assoc,Nat.add_comm 1 j] using this) (by simp only[List.length_cons] at hsz; omega) ?_ hs3
   refine⟨by simpa using hu.1,λj hj=> ?_⟩
   rw[Array.getElem?_setIfInBounds]
   by_cases e:k=j
   ·subst e; simp[hu.1,hj]
   ·rw[if_neg e,hu.2 j hj]
    congr 1
    by_cases q:j < k
    ·simp[q,show j < k+1 from by omega]
    ·simp[q,show ¬j < k+1 from by omega]
theorem rG {P:Program} {Q:Exit→Fr→aA→Prop} {fr:Fr} {h:aA} {id:Nat} {l:List Oper} (sm:List JD) (hm:P.follows .mixedOrders=true) (h1:l.map (mI l.toArray)=sm) (h2:rF 0 sm=true)
    (hl:cR P l.toArray h (λfr'=>Q .normal fr' h) l fr):AW P (.region id l.toArray true) Q fr h:=by
  intro E w a r v d
  refine wp_region_any hm ?_
  have hlex:Region.lexFrom .any l.toArray l.length 0 (Array.replicate l.toArray.size false)=true:=by
    refine oN l 0 _ (by simp) (by simp) ⟨by simp,λj hj=> ?_⟩ (by rw[h1]; exact h2)
    simp only[List.size_toArray] at hj
    simp[hj]
  have hA:=qZ (md:=.any) l 0 (Array.replicate l.toArray.size false) fr (by simp) hlex hl
  obtain⟨r',k⟩:=r.drewn (w.drawn+1)
  have:=jP l.length (Array.replicate l.toArray.size false) fr E { w with drawn:=w.drawn+1} a hA r' (aT k _ _ v) d (λe a' w'=>lD E w (Q e) a' w') (λa' w' p=>(p.trans k).mono λfr' h' q=>by rw[q.2]; exact q.1)
  simpa using this
abbrev cF:= {l:List Int // l.length=32}
def bH (x:cF):List AV:=(List.range 32).map λi=>.sc (.int .u8 (x.1.getD i 0))
def lB:cF:=⟨List.replicate 32 0,rfl⟩
theorem iX (x:cF):bH x=x.1.map λz=>AV.sc (.int .u8 z):=by
 apply List.ext_getElem
 ·simp[bH,x.2]
 ·intro i h1 h2
  simp only[bH,List.getElem_map,List.getElem_range]
  have:i < x.1.length:=by simpa using h2
  simp[List.getD,List.getElem?_eq_getElem this]
theorem rH:∀(xs ys:List Int),xs.length=ys.length→((List.range xs.length).all λi=>xs.getD i 0==ys.getD i 0)=decide (xs=ys)
 | [], [],_=>rfl
 | x::xs,y::ys,h=>by
  have ih:=rH xs ys (by simpa using h)
  rw[List.length_cons,List.range_succ_eq_map,List.all_cons,List.all_map]
  simp only[List.getD_cons_zero,Function.comp_def,List.getD_cons_succ,ih]
  by_cases h1:x=y <;> by_cases h2:xs=ys <;> simp[h1,h2]
 | [],_::_,h=>by simp at h
 | _::_, [],h=>by simp at h
section
variable {P:Program} (w:World)
theorem hH (d:Nat) (t e:TypeId) (n:Nat) (ht:P.underlying t=some (.array n e)) (he:P.underlying e=some (.int .u8)) (hsz:∀w,(sizeOf e).run P w= .ok 1 w)
    (xs ys:List Int) (hx:xs.length=n) (hy:ys.length=n):
    (Op.equalIn (d+2) t (.agg (xs.map (Value.int .u8)).toArray) (.agg (ys.map (Value.int .u8)).toArray)).run P w= .ok (decide (xs=ys)) w:=by
  rw[← rH xs ys (hx.trans hy.symm),hx,List.range_eq_range',Op.equalIn]
  simp only[Sem.run_bind,run_underlying ht,Result.andThen_ok,hsz,Std.Legacy.Range.forIn_eq_forIn_range',Std.Legacy.Range.size,Nat.sub_zero,Nat.add_sub_cancel,Nat.div_one]
  have hl:∀i∈List.range' 0 n 1,i < n:=λi hi=>by simpa using (List.mem_range'_1.1 hi).2
  generalize List.range' 0 n 1=l at hl ⊢
  induction l with
  | nil=>simp
  | cons i l ih=>
    have hi:i < n:=hl i (by simp)
    have px:(part e (xs.map (Value.int .u8)).toArray (i*1)).run P w= .ok (.int .u8 (xs.getD i 0)) w:=by
      simp[part,isAgg,run_underlying he,List.getD,List.getElem?_eq_getElem (show i < xs.length by omega)]
    have py:(part e (ys.map (Value.int .u8)).toArray (i*1)).run P w= .ok (.int .u8 (ys.getD i 0)) w:=by
      simp[part,isAgg,run_underlying he,List.getD,List.getElem?_eq_getElem (show i < ys.length by omega)]
    have pe:(Op.equalIn (d+1) e (.int .u8 (xs.getD i 0)) (.int .u8 (ys.getD i 0))).run P w= .ok (xs.getD i 0==ys.getD i 0) w:=run_equalIn_int w d e .u8 .u8 _ _ he
    simp only[List.forIn_cons,Sem.run_bind,px,py,pe,Result.andThen_ok,List.all_cons]
    cases hb:(xs.getD i 0==ys.getD i 0)
    · simp
    · simp only[Bool.not_true,Bool.false_eq_true,if_false,Sem.run_pure,Result.andThen_ok,Bool.true_and]
      exact ih λj hj=>hl j (by simp[hj])
end
theorem kM {E:dE} {w:World}:∀ {xs:List Int} {vs:List Value},bE E w (xs.map λz=>AV.sc (.int .u8 z)) vs→vs=xs.map (Value.int .u8)
 | [], [],_=>rfl
 | x::xs,v::vs,h=>by
  simp only[List.map_cons,bE,VR] at h
  rw[h.1,kM h.2]; rfl
 | [],_::_,h=>by simp[bE] at h
 | _::_, [],h=>by simp[bE] at h
section ops
variable {P:Program} {ops:Array Oper} {h h0:aA} {L:HL} {n:Nat} {kvs:KV} {l:List Oper} {ty:TypeId} {pos:String} {bV:Array Edge}
theorem pK {E:dE} {w:World} {x:cF} {v:Value} (h:VR E w (.agg (bH x)) v):v= .agg (x.1.map (Value.int .u8)).toArray:=by
 simp only[VR] at h
 obtain⟨cs,rfl,hc⟩:=h
 rw[iX] at hc
 have:=kM hc
 rw[← this]
theorem iM {P:Program} {op:BinOp} {t:TypeId} {x y:Operand} {a b:Array Value} (hg:P.eqGuardType P.depth t=false) (w:World):(eqGuard op t x y (.agg a) (.agg b)).run P w= .ok () w:=by
 unfold eqGuard
 cases op <;> simp[program,Sem.run,hg]
theorem w9 {dst:Option Tmp} {t u e:TypeId} {a b:Operand} {x y:cF} (hg:P.eqGuardType P.depth t=false) (ht:P.underlying t=some (.array 32 e)) (he:P.underlying e=some (.int .u8)) (hl:h9 P e=some (false,1)) (ha:cB n kvs a= .agg (bH x)) (hb:cB n kvs b= .agg (bH y)):
    cW P ⟨dst,.binOp .eql t a b u,ty,pos,bV,none⟩ (.sc (.bool (decide (x=y)))) (fm n kvs) h:=by
  refine cO (x:=.sc (.bool (decide (x=y)))) (λE w ac _ hv=> ?_) ⟨rfl,rfl⟩
  have va:=hv a (by simp[Op.operands])
  have vb:=hv b (by simp[Op.operands])
  rw[aO,ha] at va; rw[aO,hb] at vb
  have ea:=pK va
  have eb:=pK vb
  refine⟨.bool (decide (x=y)), ?_,by simp only[VR]⟩
  have hs:=(mZ hl).2
  have hq:=hH w 9998 t e 32 ht he (λw=>bG hs w) x.1 y.1 x.2 y.2
  have hd:decide (x=y)=decide (x.1=y.1):=by
    by_cases q:x=y
    · subst q; simp
    · have:¬x.1=y.1:=λe=>q (Subtype.ext e)
      simp[q,this]
  simp only[execOp,ea,eb]
  simp only[Sem.run_bind,iM hg,Result.andThen_ok,binOp,Op.equal,Op.maxDepth,hq,Sem.run_pure,hd]
theorem rI {dst:Option Tmp} {t u e:TypeId} {a b:Operand} {x y:cF} (hg:P.eqGuardType P.depth t=false) (ht:P.underlying t=some (.array 32 e)) (he:P.underlying e=some (.int .u8)) (hl:h9 P e=some (false,1)) (ha:cB n kvs a= .agg (bH x)) (hb:cB n kvs b= .agg (bH y)):
    cW P ⟨dst,.binOp .neq t a b u,ty,pos,bV,none⟩ (.sc (.bool (!decide (x=y)))) (fm n kvs) h:=by
  refine cO (x:=.sc (.bool (!decide (x=y)))) (λE w ac _ hv=> ?_) ⟨rfl,rfl⟩
  have va:=hv a (by simp[Op.operands])
  have vb:=hv b (by simp[Op.operands])
  rw[aO,ha] at va; rw[aO,hb] at vb
  have ea:=pK va
  have eb:=pK vb
  refine⟨.bool (!decide (x=y)), ?_,by simp only[VR]⟩
  have hs:=(mZ hl).2
  have hq:=hH w 9998 t e 32 ht he (λw=>bG hs w) x.1 y.1 x.2 y.2
  have hd:decide (x=y)=decide (x.1=y.1):=by
    by_cases q:x=y
    · subst q; simp
    · have:¬x.1=y.1:=λe=>q (Subtype.ext e)
      simp[q,this]
  simp only[execOp,ea,eb]
  simp only[Sem.run_bind,iM hg,Result.andThen_ok,binOp,Op.equal,Op.maxDepth,hq,Sem.run_pure,hd]
theorem zY {a t:Nat} {q:aY} {off:Nat} {oty:TypeId} {cs:List AV} {ag:Bool} {m:Nat} (x:AV) (ht:h9 P t=some (ag,m)) (ha:lk n kvs a= .ptr q off) (hk:h q=some (.obj oty cs)) (hx:uA ag m (cs.drop off)=some x):uE P h (fm n kvs) (.cell a t)=some x:=by
 have:=aO n kvs (.tmp a)
 simp only[ev,cB] at this
 simp only[uE,ht,Option.bind_some,this,ha,wL,hk,hx]
theorem eS.of1 {r:ResultVar} {Q:AV→aA→Prop} {e:Exit} {h'':aA} {x y:AV} (he:e= .ret∨e= .normal) (hx:uE P h (fm n kvs) r=some x) (hs:eO h'' h) (hl:aN h'' x y) (hq:Q y h''):eS P [r] Q e (fm n kvs) h:=by
 rcases he with rfl | rfl <;> exact⟨x,y,h'',hx,hs,hl,hq⟩
theorem eS.of2 {r1 r2:ResultVar} {Q:AV→aA→Prop} {e:Exit} {h'':aA} {x1 x2 y1 y2:AV} (he:e= .ret∨e= .normal) (hx1:uE P h (fm n kvs) r1=some x1) (hx2:uE P h (fm n kvs) r2=some x2) (hs:eO h'' h) (hl1:aN h'' x1 y1) (hl2:aN h'' x2 y2) (hq:Q (.tup [y1,y2]) h''):eS P [r1,r2] Q e (fm n kvs) h:=by
 have hx:pA P h (fm n kvs) [r1,r2]=some (.tup [x1,x2]):=by simp only[pA,wR,hx1,hx2,Option.bind_some,Option.map_some]
 rcases he with rfl | rfl <;> exact⟨_,_,h'',hx,hs,aN.tup (.cons hl1 (.cons hl2 .nil)),hq⟩
theorem mA (P:Program) (h:aA) {t:Nat} (x:AV) (hx:lk n kvs t=x):uE P h (fm n kvs) (.tmp t)=some x:=by rw[sM,hx]
def rJ (P:Program) (t:TypeId):Option (List Value×List (Nat×Nat)):=match P.info? t,P.underlying t with
 | some it,some (.struct fields)=>match it.zero,fields.toList.mapM (λf=>(P.info? f.type).map λi=>(f.offset,i.size)) with
  | some z,some pl=>some (z.cells.toList,pl)
  | _,_=>none
 | _,_=>none
def vM (pl:List (Nat×Nat)):List AV→List (Nat×AV)→Option (List AV)
 | cs, []=>some cs
 | cs,(i,x)::r=>match pl[i]?,cellsOf x with
  | some (off,sz),some xs=>if (xs.length==sz && Nat.ble (off+sz) cs.length && xs.all dC)=true then vM pl (cJ cs off xs) r else none
  | _,_=>none
inductive PL (E:dE) (w:World):List (Nat×AV)→List (Nat×Value)→Prop where
 | nil:PL E w [] []
 | cons {i:Nat} {x:AV} {v:Value} {ps:List (Nat×AV)} {vs:List (Nat×Value)}:VR E w x v→PL E w ps vs→PL E w ((i,x)::ps) ((i,v)::vs)
theorem jU {E:dE} {w:World} {pl:List (Nat×Nat)}:∀ {ps:List (Nat×AV)} {cs cs':List AV} {cur:Array Value} {vs:List (Nat×Value)},vM pl cs ps=some cs'→bE E w cs cur.toList→
    PL E w ps vs→∃cur',Instr.fill (pl.toArray[·]?) cur vs=some cur'∧bE E w cs' cur'.toList
  | [],cs,cs',cur,vs,hb,hv,hf=>by
    cases hf
    simp only[vM,Option.some.injEq] at hb
    subst hb
    exact⟨cur,rfl,hv⟩
  | (i,x)::r,cs,cs',cur,vs,hb,hv,hf=>by
    cases hf with
    | cons hx h2=>
      rename_i v qs
      simp only[vM] at hb
      split at hb
      · rename_i off sz xs e1 e2
        split at hb
        · rename_i hc
          simp only[Bool.and_eq_true,beq_iff_eq] at hc
          obtain⟨⟨c1,c2⟩,c3⟩:=hc
          have c2:=Nat.le_of_ble_eq_true c2
          obtain⟨d1,d2⟩:=eV e2 c3 hx
          have hl:=bJ d1
          have hl2:=bJ hv
          simp only[Array.length_toList] at hl hl2
          have hfold:=lI off v.cells.toList 0 cur (by simp; omega)
          have hnew:bE E w (cJ cs off xs) (v.cells.zipIdx.foldl (λcs (c,j)=>cs.setIfInBounds (off+j) c) cur).toList:=by
            have e3:(v.cells.zipIdx.foldl (λcs (c,j)=>cs.setIfInBounds (off+j) c) cur)=((v.cells.toList.zipIdx 0).foldl (λcs (c,j)=>cs.setIfInBounds (off+j) c) cur):=by
              rw[← Array.foldl_toList]; simp
            rw[e3,hfold]
            simp only[Nat.add_zero,cJ]
            rw[hl]
            exact bM (bM (dG _ hv) d1) (eE _ hv)
          obtain⟨cur',f1,f2⟩:=jU hb hnew h2
          refine⟨cur', ?_,f2⟩
          have e4:pl.toArray[i]? =some (off,sz):=by simpa using e1
          simp only[Instr.fill,e4]
          rw[if_neg (by simp; omega)]
          exact f1
        · cases hb
      · cases hb
theorem gQ {dst:Option Tmp} {t:TypeId} {parts:Array (Nat×Operand)} {zs:List Value} {pl:List (Nat×Nat)} (cs:List AV) (hb:rJ P t=some (zs,pl)) (hc:vM pl (zs.map .sc) (parts.toList.map λp=>(p.1,cB n kvs p.2))=some cs):
    cW P ⟨dst,.build t parts,ty,pos,bV,none⟩ (.agg cs) (fm n kvs) h:=by
  refine cO (x:=.agg cs) (λE w ac _ hv=> ?_) ⟨rfl,rfl⟩
  have hps:∀(l:List (Nat×Operand)),(∀p∈l,VR E w (ev (fm n kvs) p.2) (ac.eval p.2))→PL E w (l.map λp=>(p.1,cB n kvs p.2)) (l.map λp=>(p.1,ac.eval p.2)):=by
    intro l
    induction l with
    | nil=>intro _; exact .nil
    | cons p l ih=>
      intro hl
      refine .cons ?_ (ih λq hq=>hl q (by simp[hq]))
      have:=hl p (by simp)
      rwa [aO] at this
  have hall:∀p∈parts.toList,VR E w (ev (fm n kvs) p.2) (ac.eval p.2):=by
    intro p hp
    refine hv p.2 ?_
    simp only[Op.operands,Array.mem_def,List.mem_map]
    exact⟨p,hp,rfl⟩
  have hz:=jO (E:=E) (w:=w) zs
  obtain⟨cur',f1,f2⟩:=jU (cur:=zs.toArray) hc hz (hps _ hall)
  refine⟨.agg cur', ?_,by simp only[VR]; exact⟨_,rfl,f2⟩⟩
  have hbuilt:P.built t (parts.map λ(i,x)=>(i,ac.eval x)).toList=some cur':=by
    unfold rJ at hb
    unfold Program.built
    cases hit:P.info? t with
    | none=>simp[hit] at hb
    | some it=>
      cases hu:P.underlying t with
      | none=>simp[hit,hu] at hb
      | some d=>
        cases d <;> try (simp[hit,hu] at hb; done)
        case struct fields=>
          cases hzr:it.zero with
          | none=>simp[hit,hu,hzr] at hb
          | some z=>
            cases hp:fields.toList.mapM (λf=>(P.info? f.type).map λi=>(f.offset,i.size)) with
            | none=>simp[hit,hu,hzr,hp] at hb
            | some places=>
              simp only[hit,hu,hzr,hp,Option.some.injEq,Prod.mk.injEq] at hb
              obtain⟨rfl,rfl⟩:=hb
              have f1':Instr.fill (places.toArray[·]?) z.cells (parts.map λ(i,x)=>(i,ac.eval x)).toList=some cur':=by
                have:(parts.map λ(i,x)=>(i,ac.eval x)).toList=parts.toList.map λp=>(p.1,ac.eval p.2):=by simp
                rw[this]
                simpa using f1
              simp only[hzr,hp]
              exact f1'
  simp only[execOp,Sem.run_bind,run_build w t _ cur' hbuilt,Result.andThen_ok,Sem.run_pure]
end ops
open Go.ChangeShapes Go.WideShapes Go.Deep
section
variable {H:Type} {enc:TypeId×Value→H} {P:Program} {W:World}
def Rd {α:Type} (enc:TypeId×Value→H) (P:Program) (W:World) (t:TypeId) (c:α→List AV) (g:α→Prop):Prop:=
 ∀ {fuel:Nat} {cs:List Value} {x:DataW H×List MemPlace},DataW.trod enc P W 0 (λ_=>true) true fuel t cs=some x→∃a,g a∧bE (E0 W) W (c a) cs∧(∀v∈cs,v.oneCell'=true)
def gI (n:Int):Prop:= -9223372036854775808≤n∧n < 9223372036854775808
def gB (n:Int):Prop:=0≤n∧n < 256
def gL {α:Type} (g:α→Prop) (l:List α):Prop:=∀x∈l,g x
def gT {α:Type} (_:α):Prop:=True
theorem CX {t:TypeId} (ht:P.underlying t=some (.int .i64)):Rd enc P W t (λn:Int=> [AV.sc (.int .i64 n)]) gI:=by
 intro fuel cs x h
 obtain⟨n,rfl, -,hw⟩:=DataW.trod_int ht h
 refine⟨n, ?_,by simp only[bE,VR]; trivial,by simp[Value.oneCell']⟩
 simp only[Lit.wf,Bool.and_eq_true,decide_eq_true_eq] at hw
 rw[show IntKind.i64.min= -9223372036854775808 from by decide,show IntKind.i64.max=9223372036854775807 from by decide] at hw
 unfold gI; omega
theorem F1 {t:TypeId} (ht:P.underlying t=some (.int .u8)):Rd enc P W t (λn:Int=> [AV.sc (.int .u8 n)]) gB:=by
 intro fuel cs x h
 obtain⟨n,rfl, -,hw⟩:=DataW.trod_int ht h
 refine⟨n, ?_,by simp only[bE,VR]; trivial,by simp[Value.oneCell']⟩
 simp only[Lit.wf,Bool.and_eq_true,decide_eq_true_eq] at hw
 rw[show IntKind.u8.min=0 from by decide,show IntKind.u8.max=255 from by decide] at hw
 unfold gB; omega
theorem AQ {t:TypeId} (ht:P.underlying t=some .bool):Rd enc P W t (λb:Bool=> [AV.sc (.bool b)]) gT:=by
 intro fuel cs x h
 cases fuel with
 | zero=>simp[DataW.trod] at h
 | succ n=>
  unfold DataW.trod at h
  rw[ht] at h
  split at h
  all_goals first | (injection ‹some TypeDesc.bool=_›; done) | skip
  all_goals try (simp_all; done)
  rename_i b _
  exact⟨b,trivial,by simp only[bE,VR]; trivial,by simp[Value.oneCell']⟩
theorem CY {t:TypeId} (ht:P.underlying t=some .string):Rd enc P W t (λb:ByteArray=> [AV.sc (.string b)]) gT:=by
 intro fuel cs x h
 cases fuel with
 | zero=>simp[DataW.trod] at h
 | succ n=>
  unfold DataW.trod at h
  rw[ht] at h
  split at h <;> simp_all
  rename_i b
  exact⟨b,trivial,by simp only[bE,VR]; trivial,by simp[Value.oneCell']⟩
def hJ (W:World) (o:Nat) (xs:List AV) (cs:List Value):Prop:=bE (E0 W) W xs (cs.drop o)∧∀v∈cs.drop o,v.oneCell'=true
theorem hJ.nil {o:Nat} {cs:List Value} (h:cs.length=o):hJ W o [] cs:=by
 subst h
 simp[hJ,bE]
theorem hJ.cons {o n m:Nat} {xs ys:List AV} {cs:List Value} (h:bE (E0 W) W xs ((cs.drop o).take n)) (h1:∀v∈(cs.drop o).take n,v.oneCell'=true) (k:hJ W m ys cs) (hm:m=o+n):hJ W o (xs++ys) cs:=by
 subst hm
 have e:cs.drop o=(cs.drop o).take n++cs.drop (o+n):=by rw[← List.drop_drop,List.take_append_drop]
 constructor
 ·rw[e]; exact bM h k.1
 ·intro v hv
  rw[e] at hv
  rcases List.mem_append.1 hv with q | q
  ·exact h1 v q
  ·exact k.2 v q
theorem Rd.fld {α:Type} {t:TypeId} {c:α→List AV} {g:α→Prop} (r:Rd enc P W t c g) {o n:Nat} {cs:List Value} {xs:List (DataW H×List MemPlace)} {fs:Array Field} {m:Nat}
    (hf:∀(i:Nat) (f:Field),fs[i]? =some f→DataW.trod enc P W 0 (λ_=>true) true m f.type ((cs.drop f.offset).take (P.cellsOf f.type))=xs[i]?) (hx:xs.length=fs.size) (i:Nat) {f:Field} (hi:fs[i]? =some f)
    (h1:f.type=t) (h2:f.offset=o) (h3:P.cellsOf t=n):∃a,g a∧bE (E0 W) W (c a) ((cs.drop o).take n)∧∀v∈(cs.drop o).take n,v.oneCell'=true:=by
  subst h1 h2 h3
  have q:=hf i f hi
  have hi':i < xs.length:=by rw[hx]; exact(Array.getElem?_eq_some_iff.1 hi).1
  rw[List.getElem?_eq_getElem hi'] at q
  exact r q
theorem Rd.id {t e:TypeId} (ht:P.underlying t=some (.array 32 e)) (he:P.underlying e=some (.int .u8)) (hc:P.cellsOf e=1) (hn:P.cellsOf t=32):Rd enc P W t bH (λx=>gL gB x.1):=by
 intro fuel cs x h
 obtain⟨xs,m, -, -,hl,hx,hf⟩:=DataW.trod_array ht h
 rw[hn] at hl
 have hk:∀i,i < 32→∃z:Int,cs[i]? =some (.int .u8 z)∧gB z:=by
  intro i hi
  have q:=hf i hi
  rw[List.getElem?_eq_getElem (by omega),hc,Nat.mul_one] at q
  obtain⟨n,e1, -,hw⟩:=DataW.trod_int he q
  refine⟨n, ?_, ?_⟩
  ·have:=congrArg (λl:List Value=>l[0]?) e1
   simpa using this
  ·simp only[Lit.wf,Bool.and_eq_true,decide_eq_true_eq] at hw
   rw[show IntKind.u8.min=0 from by decide,show IntKind.u8.max=255 from by decide] at hw
   unfold gB; omega
 obtain⟨V,hV⟩:=choose_lt hk
 refine⟨⟨(List.range 32).map V,by simp⟩, ?_, ?_, ?_⟩
 ·intro z hz
  obtain⟨i,hi,rfl⟩:=List.mem_map.1 hz
  exact(hV i (List.mem_range.1 hi)).2
 ·have:cs=(List.range 32).map λi=>Value.int .u8 (V i):=by
   apply List.ext_getElem?
   intro i
   by_cases hi:i < 32
   ·rw[(hV i hi).1]; simp[hi]
   ·rw[List.getElem?_eq_none (by omega),List.getElem?_eq_none (by simp; omega)]
  rw[this,iX,List.map_map]
  have:=jO (E:=E0 W) (w:=W) ((List.range 32).map λi=>Value.int .u8 (V i))
  rwa [List.map_map] at this
 ·intro v hv
  obtain⟨i,hi,rfl⟩:=List.getElem_of_mem hv
  have:=(hV i (by omega)).1
  rw[List.getElem?_eq_getElem hi] at this
  rw[Option.some.inj this]
  rfl
theorem pL {a:Addr} {v:Value} (h:W.cell? a=some v):a.spot=none:=by
 unfold World.cell? at h
 split at h
 ·split at h
  ·cases h
  ·rename_i q; simpa using q
 ·cases h
theorem mB {g o sz:Nat} {α:Type} {c:α→List AV}:∀(l:List α) (rows:Nat→List Value) (k:Nat),(∀x∈l,(c x).length=sz)→
    (∀i x,l[i]? =some x→bE (E0 W) W (c x) (rows (k+i))∧(∀v∈rows (k+i),v.oneCell'=true)∧∀j,j < sz→W.cell? ⟨g,o+(k+i)*sz+j,none⟩=(rows (k+i))[j]? ∧(rows (k+i)).length=sz)→
    mG (E0 W) W none g (o+k*sz) (l.map c)
  | [],_,_,_,_=>by simp only[List.map_nil,mG]
  | x::l,rows,k,hs,h=>by
    simp only[List.map_cons,mG]
    obtain⟨h1,h2,h3⟩:=h 0 x rfl
    have hsz:=hs x (by simp)
    refine⟨bY h1 (by simpa using h2) ?_, ?_⟩
    · intro j v hj
      have hl:(rows (k+0)).length=sz:=by
        by_cases h0:0 < sz
        · exact(h3 0 h0).2
        · have:=bJ h1
          omega
      have hj':j < sz:=by rw[← hl]; exact(List.getElem?_eq_some_iff.1 hj).1
      have q:=(h3 j hj').1
      rw[hj,Nat.add_zero] at q
      exact⟨q,.inl (by show (W.cell? _).isSome=true; rw[q]; rfl)⟩
    · rw[hsz,show o+k*sz+sz=o+(k+1)*sz from by rw[Nat.add_mul]; omega]
      refine mB l rows (k+1) (λy hy=>hs y (by simp[hy])) λi y hi=> ?_
      have:=h (i+1) y (by simpa using hi)
      rwa [show k+(i+1)=k+1+i from by omega] at this
theorem Rd.slice {α:Type} {t e:TypeId} {c:α→List AV} {g:α→Prop} {sz:Nat} (r:Rd enc P W e c g) (ht:P.underlying t=some (.slice e)) (hc:P.cellsOf e=sz) (hs:∀x,(c x).length=sz) (h0:0 < sz):
    Rd enc P W t (λl:List α=> [AV.sl none sz (l.map c)]) (gL g):=by
  intro fuel cs x h
  rcases open_slice ht h with⟨rfl, -⟩ | ⟨a,len,cap,m,n,D,Pl,rfl, -,hl,hm,hmm, -,hx⟩
  · exact⟨[],by intro x hx; simp at hx,by simp only[bE,VR]; exact⟨⟨none,0,rfl,by simp,by simp,by simp,by simp,by simp⟩,trivial⟩,by simp[Value.oneCell']⟩
  · simp only[if_true] at hmm
    rw[hmm] at hx
    have key:∀i,i < len→∃q:α×List Value,g q.1∧bE (E0 W) W (c q.1) q.2∧(∀v∈q.2,v.oneCell'=true)∧W.cells? 0 (a.add (i*sz)) sz=some q.2:=by
      intro i hi
      obtain⟨cs',h1,h2⟩:=hx i (by omega)
      obtain⟨y,gy,v1,v2⟩:=r h2
      exact⟨(y,cs'),gy,v1,v2,by rwa [hc] at h1⟩
    have:Nonempty (α×List Value)∨len=0:=by
      by_cases hz:0 < len
      · obtain⟨q, -⟩:=key 0 hz
        exact .inl ⟨q⟩
      · exact .inr (by omega)
    rcases this with hin | hz
    · have:Inhabited (α×List Value):=Classical.inhabited_of_nonempty hin
      obtain⟨Q,hQ⟩:=choose_lt key
      refine⟨(List.range len).map λi=>(Q i).1, ?_, ?_,by simp[Value.oneCell']⟩
      · intro y hy
        obtain⟨i,hi,rfl⟩:=List.mem_map.1 hy
        exact(hQ i (List.mem_range.1 hi)).1
      · simp only[bE,VR]
        refine⟨⟨some a,cap,by simp,by simpa using hl,hm, ?_, ?_,by simp⟩,trivial⟩
        · by_cases hz:len=0
          · left; subst hz; simp
          · right
            have h00:=(World.cells?_some (hQ 0 (by omega)).2.2.2).2.2 0 h0
            have hlen:=(World.cells?_some (hQ 0 (by omega)).2.2.2).2.1
            rw[List.getElem?_eq_getElem (by omega)] at h00
            have hsp:=pL h00
            obtain⟨b,o,sp⟩:=a
            obtain rfl:sp=none:=by simpa [Addr.add] using hsp
            refine⟨b,o,rfl, ?_⟩
            have:=mB (W:=W) (g:=b) (o:=o) (sz:=sz) (c:=c) ((List.range len).map λi=>(Q i).1) (λi=>(Q i).2) 0 (λy _=>hs y) ?_
            · simpa using this
            · intro i y hi
              rw[List.getElem?_map,Option.map_eq_some_iff] at hi
              obtain⟨i',hi',rfl⟩:=hi
              obtain⟨hlt,e1⟩:=List.getElem?_eq_some_iff.1 hi'
              simp only[List.length_range] at hlt
              simp only[List.getElem_range] at e1
              subst e1
              rw[Nat.zero_add]
              obtain⟨-,q1,q2,q3⟩:=hQ i hlt
              refine⟨q1,q2,λj hj=>⟨?_,(World.cells?_some q3).2.1⟩⟩
              have:=(World.cells?_some q3).2.2 j hj
              rw[← this,Addr.add_lit,Addr.add_lit]
        · intro y hy
          simp only[List.map_map,List.mem_map] at hy
          obtain⟨i, -,rfl⟩:=hy
          exact hs _
    · subst hz
      refine⟨[],by intro x hx; simp at hx,by simp only[bE,VR]; exact⟨⟨some a,cap,rfl,by simp,hm,by simp,by simp,by simp⟩,trivial⟩,by simp[Value.oneCell']⟩
def m8 (P:Program) (t:TypeId):Option Nat:=match P.underlying t with | some (.struct fs)=>some fs.size | _=>none
def JU (enc:TypeId×Value→H) (P:Program) (W:World) (t:TypeId) (cs:List Value):Prop:=
 ∀ {α:Type} {ft:TypeId} {c:α→List AV} {g:α→Prop} (i o n:Nat),eC P t i=some (o,ft)→P.cellsOf ft=n→Rd enc P W ft c g→∃a,g a∧bE (E0 W) W (c a) ((cs.drop o).take n)∧∀v∈(cs.drop o).take n,v.oneCell'=true
theorem Rd.flds {t:TypeId} {k z:Nat} (hn:m8 P t=some k) (hz:P.cellsOf t=z) {fuel:Nat} {cs:List Value} {x:DataW H×List MemPlace} (h:DataW.trod enc P W 0 (λ_=>true) true fuel t cs=some x):
    cs.length=z∧JU enc P W t cs:=by
  unfold m8 at hn
  split at hn
  · rename_i fs ht
    obtain⟨xs,m, -, -,hl,hx,hf⟩:=DataW.trod_struct ht h
    refine⟨hl.trans hz, ?_⟩
    intro α ft c g i o n h1 h2 r
    unfold eC at h1
    rw[ht] at h1
    simp only[Option.map_eq_some_iff,Prod.mk.injEq] at h1
    obtain⟨f,hi,h3,h4⟩:=h1
    exact r.fld hf hx i hi h4 h3 h2
  · cases hn
theorem Rd.agg {α:Type} {t:TypeId} {c:α→List AV} {g:α→Prop} {fs:Array Field} (r:Rd enc P W t c g) (ht:P.underlying t=some (.struct fs)) {v:Value} {d:DataW H} {ps:List MemPlace} {base:Nat} (hval:Value.okWide P W .any base t v)
    (h:DataW.Trod enc P W 0 (λ_=>true) true t v d ps):∃a,g a∧VR (E0 W) W (.agg (c a)) v:=by
  unfold Value.okWide at hval
  rw[ht] at hval
  obtain⟨cs,rfl, -, -⟩:=hval
  obtain⟨fuel,hf⟩:=h
  obtain⟨a,ga,v1, -⟩:=r hf
  exact⟨a,ga,by simp only[VR]; exact⟨cs,rfl,v1⟩⟩
theorem Rd.agg' {α:Type} {t:TypeId} {c:α→List AV} {g:α→Prop} (r:Rd enc P W t c g) {v:Value} {d:DataW H} {ps:List MemPlace} {base k:Nat} (hval:Value.okWide P W .any base t v)
    (h:DataW.Trod enc P W 0 (λ_=>true) true t v d ps) (hn:m8 P t=some k):∃a,g a∧VR (E0 W) W (.agg (c a)) v:=by
  unfold m8 at hn
  split at hn
  · rename_i fs ht
    exact r.agg ht hval h
  · cases hn
theorem Rd.one {α:Type} {t e:TypeId} {c:α→AV} {g:α→Prop} (r:Rd enc P W t (λa=> [c a]) g) (ht:P.underlying t=some (.slice e)) {v:Value} {d:DataW H} {ps:List MemPlace} {base:Nat} (hval:Value.okWide P W .any base t v)
    (h:DataW.Trod enc P W 0 (λ_=>true) true t v d ps):∃a,g a∧VR (E0 W) W (c a) v:=by
  obtain⟨a0,CZ,cap0,rfl⟩:=okWide_slice ht hval
  obtain⟨fuel,hf⟩:=h
  obtain⟨a,ga,v1, -⟩:=r hf
  refine⟨a,ga, ?_⟩
  simp only[Value.cells,bE] at v1
  exact v1.1
theorem Rd.int {E:dE} {w:World} {t:TypeId} {v:Value} {d:DataW H} {ps:List MemPlace} {base:Nat} (ht:P.underlying t=some (.int .i64)) (hval:Value.okWide P W .any base t v)
    (h:DataW.Trod enc P W 0 (λ_=>true) true t v d ps):∃n:Int,gI n∧VR E w (.sc (.int .i64 n)) v:=by
  obtain⟨n,h1,hw⟩:=vJ (E:=E) (w:=w) ht hval h
  refine⟨n, ?_,h1⟩
  simp only[Lit.wf,Bool.and_eq_true,decide_eq_true_eq] at hw
  rw[show IntKind.i64.min= -9223372036854775808 from by decide,show IntKind.i64.max=9223372036854775807 from by decide] at hw
  unfold gI; omega
end
section
variable {P:Program} {E:dE} {h:aA} {w:World}
theorem cT.new_mp (r:cT E h w) {k:aY} (hk:¬E.used k) (ents:Array MapEntry) (clk:Nat):
    ∃E',E'.ob k=some w.heap.size∧bX E w E' (w.alloc (.map ents clk))∧cT E' (upd h k (some (.mp (ents.toList.map λe=>(e.key,e.val))))) (w.alloc (.map ents clk)):=by
  let E':dE:= { E with ob:=λx=>if x=k then some w.heap.size else E.ob x,used:=λx=>x=k∨E.used x}
  have hkeep:bX E w E' (w.alloc (.map ents clk)):=by
    refine r.keep_ext (λg hg=>heap_alloc_old w _ g hg) (by simp) rfl rfl rfl (λ_ _ h=>h) rfl (λ_ h=>.inr h) ?_ (λ_ _=>rfl)
    intro x g hx
    have:x≠k:=λe=>hk (by subst e; exact r.obu _ _ hx)
    simpa [E',this] using hx
  have hnew:=heap_alloc_new w (.map ents clk)
  have at':∀x g,E'.at (upd h k (some (.mp (ents.toList.map λe=>(e.key,e.val))))) x g→(x=k∧g=w.heap.size)∨(x≠k∧E.at h x g):=by
    intro x g ha
    by_cases hx:x=k
    · subst hx
      refine .inl ⟨rfl, ?_⟩
      rcases ha with⟨_,_,_,h2⟩ | ⟨_,_,_,_,h2,_⟩
      · simp only[E',if_true,Option.some.injEq] at h2; exact h2.symm
      · simp[upd] at h2
    · refine .inr ⟨hx, ?_⟩
      rcases ha with⟨a,b,h2,h3⟩ | ⟨a,b,c,t,h2,h3⟩
      · rw[aU _ _ hx] at h2
        simp only[E',hx,if_false] at h3
        exact .inl ⟨a,b,h2,h3⟩
      · rw[aU _ _ hx] at h2
        exact .inr ⟨a,b,c,t,h2,h3⟩
  refine⟨E',by simp[E'],hkeep, ?_⟩
  constructor
  · intro x ty' cs' hx
    by_cases e:x=k
    · subst e; rw[bK] at hx; cases hx
    · rw[aU _ _ e] at hx
      obtain⟨g,cur',e1,e2,e3,e4⟩:=r.obj x ty' cs' hx
      exact⟨g,cur',hkeep.ob _ _ e1,by rw[heap_alloc_old w _ g (Array.getElem?_eq_some_iff.1 e2).1]; exact e2,aT hkeep _ _ e3,e4⟩
  · intro x ty' sz m hx
    by_cases e:x=k
    · subst e; rw[bK] at hx; cases hx
    · rw[aU _ _ e] at hx
      obtain⟨t,cur',e1,e2,e3,e4,e5⟩:=r.tok x ty' sz m hx
      exact⟨t,cur',e1,e2,e3,by rw[heap_alloc_old w _ _ (Array.getElem?_eq_some_iff.1 e4).1]; exact e4,e5⟩
  · intro x t hx
    obtain⟨ty',e⟩:=r.tkh x t hx
    have:x≠k:=λe'=>hk (by subst e'; exact r.tk_used hx)
    exact⟨ty',by rw[aU _ _ this]; exact e⟩
  · intro x y g hx hy
    rcases at' x g hx with⟨rfl,hg⟩ | ⟨_,hx'⟩ <;> rcases at' y g hy with⟨rfl,hg'⟩ | ⟨_,hy'⟩
    · rfl
    · have:=r.at_lt hy'; omega
    · have:=r.at_lt hx'; omega
    · exact r.sep x y g hx' hy'
  · intro x g hx
    rcases at' x g hx with⟨rfl,rfl⟩ | ⟨_,hx'⟩
    · refine⟨λhl=> ?_,λo ho=> ?_⟩
      · have:=r.lkb _ hl; omega
      · obtain⟨v,hv⟩:=r.imb _ _ ho
        have:=dO hv; omega
    · exact r.dis x g hx'
  · intro x e hx
    by_cases e':x=k
    · exact .inl e'
    · rw[aU _ _ e'] at hx; exact .inr (r.hus x e hx)
  · intro x g hx
    by_cases e':x=k
    · exact .inl e'
    · simp only[E',e',if_false] at hx; exact .inr (r.obu x g hx)
  · exact o6 r k
  · intro g o ho
    obtain⟨v,hv⟩:=r.imb g o ho
    exact⟨v,(hkeep.imm g o ho).2.trans hv⟩
  · intro g hg
    have:=r.lkb g hg
    simp; omega
  · intro x es hx
    by_cases e':x=k
    · subst e'
      rw[bK] at hx
      cases hx
      exact⟨_,ents,clk,by simp[E'],hnew,rfl⟩
    · rw[aU _ _ e'] at hx
      obtain⟨g,ents',clk',e1,e2,e3⟩:=r.mp x es hx
      exact⟨g,ents',clk',hkeep.ob _ _ e1,by rw[heap_alloc_old w _ g (Array.getElem?_eq_some_iff.1 e2).1]; exact e2,e3⟩
theorem cT.set_mp (r:cT E h w) {k:aY} {g:Nat} {es0:List (Value×Value)} (hk:h k=some (.mp es0)) (hg:E.ob k=some g) (ents:Array MapEntry) (clk:Nat) {w':World}
    (hw:w'.heap[g]? =some (.map ents clk)) (hoth:∀g',g'≠g→w'.heap[g']? =w.heap[g']?) (hsz:w.heap.size≤w'.heap.size) (hos:w'.os=w.os) (htp:w'.tape=w.tape) (hout:w'.output=w.output):
    bX E w E w'∧cT E (upd h k (some (.mp (ents.toList.map λe=>(e.key,e.val))))) w':=by
  have hat:E.at h k g:=.inl ⟨_,rfl,hk,hg⟩
  obtain⟨d1,d2⟩:=r.dis k g hat
  have hkeep:bX E w E w':=by
    refine⟨λg' o ho=>⟨ho, ?_⟩,λ_=>Iff.rfl,λg' hl=>hoth g' λe=>d1 (e ▸ hl),λ_ h=>h,λ_ _ h=>h, ?_,λ_ t ht _=>⟨t,ht,Nat.le_refl _,λ_=>rfl⟩,hos,htp,hout,hsz⟩
    · exact bT (hoth g' λe=>d2 o (e ▸ ho)) o
    · intro x t ht o ho
      refine⟨.inr ⟨t,ht,rfl,ho⟩,bT (hoth _ λe=> ?_) o⟩
      obtain⟨ty',e'⟩:=r.tkh x t ht
      have:x=k:=r.sep x k g (.inr ⟨ty',_,_,t,e',ht,e⟩) hat
      subst this
      rw[hk] at e'; cases e'
  have at':∀x g',E.at (upd h k (some (.mp (ents.toList.map λe=>(e.key,e.val))))) x g'→E.at h x g':=by
    intro x g' ha
    by_cases hx:x=k
    · subst hx
      rcases ha with⟨a,b,h2,h3⟩ | ⟨_,_,_,_,h2,_⟩
      · exact .inl ⟨_,rfl,hk,h3⟩
      · rw[bK] at h2; cases h2
    · rcases ha with⟨a,b,h2,h3⟩ | ⟨a,b,c,t,h2,h3⟩
      · rw[aU _ _ hx] at h2; exact .inl ⟨a,b,h2,h3⟩
      · rw[aU _ _ hx] at h2; exact .inr ⟨a,b,c,t,h2,h3⟩
  have ne:∀x e' g',x≠k→h x=some e'→e'.isOb=true→E.ob x=some g'→g'≠g:=λx e' g' hx he hb ho q=>hx (r.sep x k g (.inl ⟨e',hb,he,q ▸ ho⟩) hat)
  refine⟨hkeep, ?_⟩
  constructor
  · intro x ty' cs' hx
    by_cases e:x=k
    · subst e; rw[bK] at hx; cases hx
    · rw[aU _ _ e] at hx
      obtain⟨g',cur',e1,e2,e3,e4⟩:=r.obj x ty' cs' hx
      exact⟨g',cur',e1,by rw[hoth g' (ne x _ g' e hx rfl e1)]; exact e2,aT hkeep _ _ e3,e4⟩
  · intro x ty' sz m hx
    by_cases e:x=k
    · subst e; rw[bK] at hx; cases hx
    · rw[aU _ _ e] at hx
      obtain⟨t,cur',e1,e2,e3,e4,e5⟩:=r.tok x ty' sz m hx
      refine⟨t,cur',e1,e2,e3, ?_,e5⟩
      rw[hoth _ (λe'=>e (r.sep x k g (.inr ⟨ty',sz,m,t,hx,e1,e'⟩) hat))]
      exact e4
  · intro x t hx
    obtain⟨ty',e⟩:=r.tkh x t hx
    have:x≠k:=λe'=>by subst e'; rw[hk] at e; cases e
    exact⟨ty',by rw[aU _ _ this]; exact e⟩
  · exact λx y g' hx hy=>r.sep x y g' (at' _ _ hx) (at' _ _ hy)
  · exact λx g' hx=>r.dis x g' (at' _ _ hx)
  · intro x e hx
    by_cases e':x=k
    · subst e'; exact r.hus _ _ hk
    · rw[aU _ _ e'] at hx; exact r.hus x e hx
  · exact r.obu
  · exact r.fre
  · intro g' o ho
    obtain⟨v,hv⟩:=r.imb g' o ho
    exact⟨v,(hkeep.imm g' o ho).2.trans hv⟩
  · intro g' hg'
    have:=r.lkb g' hg'
    omega
  · intro x es hx
    by_cases e:x=k
    · subst e
      rw[bK] at hx
      cases hx
      exact⟨g,ents,clk,hg,hw,rfl⟩
    · rw[aU _ _ e] at hx
      obtain⟨g',ents',clk',e1,e2,e3⟩:=r.mp x es hx
      exact⟨g',ents',clk',e1,by rw[hoth g' (ne x _ g' e hx rfl e1)]; exact e2,e3⟩
end
def kS (x:ByteArray):Value:=.string x
def kI (x:Int):Value:=.int .i64 x
def jV {α:Type} (k:α→Value) (l:List α):List (Value×Value):=l.map λx=>(k x,.bool true)
def mJ {α:Type} [BEq α] (l:List α) (x:α):List α:=if l.any (λy=>x==y)=true then l else l++ [x]
theorem oO (a b:ByteArray):(a==b)=true↔a=b:=by
 constructor
 ·intro h
  have h':(a.data==b.data)=true:=h
  have:a.data=b.data:=by simpa using h'
  cases a; cases b; simp_all
 ·rintro rfl
  show (a.data==a.data)=true
  simp
structure pM (P:Program) (t:TypeId) {α:Type} [BEq α] (k:α→Value):Prop where
 law:∀x y:α,(x==y)=true→x=y
 d:∃kd,P.underlying t=some kd∧(∀x y,Instr.sameNow kd (k x) (k y)=some (x==y))∧(∀x b w,(Instr.checkKey b 10000 t (k x)).run P w= .ok () w)
 bits:∀x,Instr.sameBits 10000 (k x) (k x)=true
theorem pN (n:Nat) (x:ByteArray):Instr.sameBits n (.string x) (.string x)=true:=by
 have:(x==x)=true:=(oO x x).2 rfl
 cases n <;> simp[Instr.sameBits,this]
theorem pO (n:Nat) (x:Int):Instr.sameBits n (.int .i64 x) (.int .i64 x)=true:=by cases n <;> simp[Instr.sameBits]
theorem pP {P:Program} {t:TypeId} (ht:P.underlying t=some .string) (n:Nat) (x:ByteArray) (b:Bool) (w:World):(Instr.checkKey b (n+1) t (.string x)).run P w= .ok () w:=by
 simp[Instr.checkKey,run_underlying ht]
theorem iD {P:Program} {t:TypeId} (ht:P.underlying t=some (.int .i64)) (n:Nat) (x:Int) (b:Bool) (w:World):(Instr.checkKey b (n+1) t (.int .i64 x)).run P w= .ok () w:=by
 simp[Instr.checkKey,run_underlying ht]
theorem pM.str {P:Program} {t:TypeId} (ht:P.underlying t=some .string):pM P t kS:=
 ⟨λx y h=>(oO x y).1 h,⟨_,ht,λ_ _=>rfl,λx b w=>pP ht 9999 x b w⟩,λx=>pN 10000 x⟩
theorem pM.int {P:Program} {t:TypeId} (ht:P.underlying t=some (.int .i64)):pM P t kI:=
 ⟨λx y h=>by simpa using h,⟨_,ht,λx y=>by simp only[Instr.sameNow,kI,if_true],λx b w=>iD ht 9999 x b w⟩,λx=>pO 10000 x⟩
theorem iY {α:Type} [BEq α] {k:α→Value} {kd:TypeDesc} (law:∀x y:α,(x==y)=true→x=y) (hs:∀x y,Instr.sameNow kd (k x) (k y)=some (x==y)) (x:α):∀(l:List α) (ents:List MapEntry) (i:Nat),ents.map (λe=>(e.key,e.val))=jV k l→
    (l.any (λy=>x==y)=true→∃j e,Instr.findNow kd (k x) ents i=some (some (i+j,.bool true))∧ents[j]? =some e∧e.key=k x∧e.val= .bool true)∧
    (l.any (λy=>x==y)=false→Instr.findNow kd (k x) ents i=some none)
  | [], [],i,_=>⟨λh=>by simp at h,λ_=>rfl⟩
  | [],_::_,_,h=>by simp[jV] at h
  | _::_, [],_,h=>by simp[jV] at h
  | y::l,e::ents,i,h=>by
    simp only[List.map_cons,jV,List.cons.injEq,Prod.mk.injEq] at h
    obtain⟨⟨h1,h2⟩,h3⟩:=h
    obtain⟨ih1,ih2⟩:=iY law hs x l ents (i+1) h3
    have hn:Instr.findNow kd (k x) (e::ents) i=(if (x==y)=true then some (some (i,e.val)) else Instr.findNow kd (k x) ents (i+1)):=by
      simp only[Instr.findNow,h1,hs]
      cases (x==y) <;> rfl
    constructor
    · intro ha
      rw[hn]
      by_cases q:(x==y)=true
      · rw[if_pos q]
        have:x=y:=law x y q
        exact⟨0,e,by rw[h2]; simp,by simp,by rw[h1,this],h2⟩
      · rw[if_neg q]
        simp only[List.any_cons,q,Bool.false_or] at ha
        obtain⟨j,e',a1,a2,a3⟩:=ih1 ha
        exact⟨j+1,e',by rw[a1]; congr 2; simp; omega,by simpa using a2,a3⟩
    · intro ha
      simp only[List.any_cons,Bool.or_eq_false_iff] at ha
      rw[hn,if_neg (by rw[ha.1]; simp)]
      exact ih2 ha.2
section ops
variable {P:Program} {h h0:aA} {L:HL} {n:Nat} {kvs:KV} {ty:TypeId} {pos:String} {bV:Array Edge}
theorem uG {K:AV→aA→Prop} {dst:Option Tmp} {t:TypeId} (hk:aS h0 L)
    (k:∀q:aY,aS h0 ((some q,.mp [])::L)→K (.mpv q) (hp h0 ((some q,.mp [])::L))):eD P ⟨dst,.makeMap t none,ty,pos,bV,none⟩ K (fm n kvs) (hp h0 L):=by
  intro E w a r hv Nx Qx hn
  obtain⟨m,hm⟩:=r.fresh 0
  obtain⟨E',e1,e2,e3⟩:=r.new_mp hm #[] 0
  have hrun:(execOp a.eval ⟨dst,.makeMap t none,ty,pos,bV,none⟩).run P w= .ok (.value (.map (some w.heap.size))) (w.alloc (.map #[] 0)):=by
    simp[execOp,Instr.makeMap,newObj,Sem.run]
  unfold Oper.wp
  rw[hrun]
  refine hn (.mpv (0,m)) _ _ E' _ e2 e3 (by simp only[VR]; exact⟨_,e1,rfl⟩) ?_
  exact k (0,m) ⟨hk,λk' e=>by cases e; exact r.unused_none hm⟩
theorem xA {α:Type} [BEq α] {kf:α→Value} {l:List α} {x:α} {dst:Option Tmp} {t kt et:TypeId} {m y:Operand} {q:aY} (ht:P.underlying t=some (.map kt et)) (hz:(P.info? et).bind (·.zero)=some (.bool false)) (hkt:pM P kt kf)
    (hm:cB n kvs m= .mpv q) (hy:cB n kvs y= .sc (kf x)) (hq:h q=some (.mp (jV kf l))):cW P ⟨dst,.lookup t m y false,ty,pos,bV,none⟩ (.sc (.bool (l.any λz=>x==z))) (fm n kvs) h:=by
  refine cO (x:=.sc (.bool (l.any λz=>x==z))) (λE w ac r hv=> ?_) ⟨rfl,rfl⟩
  have vm:=hv m (by simp[Op.operands])
  have vy:=hv y (by simp[Op.operands])
  rw[aO,hm] at vm; rw[aO,hy] at vy
  simp only[VR] at vm vy
  obtain⟨g,hg,em⟩:=vm
  obtain⟨g',ents,clk,e1,e2,e3⟩:=r.mp q _ hq
  rw[hg] at e1; cases e1
  obtain⟨kd,hkd,hs,hck⟩:=hkt.d
  obtain⟨f1,f2⟩:=iY hkt.law hs x l ents.toList 0 e3
  refine⟨.bool (l.any λz=>x==z), ?_,by simp only[VR]⟩
  have hz1:(zeroValue et).run P w= .ok (.bool false) w:=by
    cases hi:P.info? et with
    | none=>rw[hi] at hz; simp at hz
    | some i=>
      rw[hi] at hz
      simp at hz
      simp[zeroValue,typeInfo,hi,hz]
  have hgo:(getObj g).run P w= .ok (.map ents clk) w:=by simp[getObj,Sem.run,e2]
  simp only[execOp,em,vy,Instr.lookup,Sem.run_bind,run_underlying ht,Result.andThen_ok,hgo,Sem.run_pure,hck,Instr.findKey,run_underlying hkd]
  cases ha:(l.any λz=>x==z) with
  | true=>
    obtain⟨j,e,a1,a2,a3,a4⟩:=f1 ha
    simp[a1]
  | false=>
    have:=f2 ha
    simp[this,hz1]
theorem C0 {K:AV→aA→Prop} {α:Type} [BEq α] {kf:α→Value} {l:List α} {x:α} {dst:Option Tmp} {t kt et:TypeId} {m y v:Operand} {q:aY} (i:Nat) (hk:aS h0 L) (ht:P.underlying t=some (.map kt et)) (hkt:pM P kt kf)
    (hm:cB n kvs m= .mpv q) (hy:cB n kvs y= .sc (kf x)) (hv:cB n kvs v= .sc (.bool true)) (hi:L[i]? =some (some q,.mp (jV kf l)))
    (k:aS h0 (L.set i (some q,.mp (jV kf (mJ l x))))→K (.sc undef) (hp h0 (L.set i (some q,.mp (jV kf (mJ l x)))))):
    eD P ⟨dst,.mapUpdate t m y v,ty,pos,bV,none⟩ K (fm n kvs) (hp h0 L):=by
  intro E w a r hva Nx Qx hn
  have vm:=hva m (by simp[Op.operands])
  have vy:=hva y (by simp[Op.operands])
  have vv:=hva v (by simp[Op.operands])
  rw[aO,hm] at vm; rw[aO,hy] at vy; rw[aO,hv] at vv
  simp only[VR] at vm vy vv
  obtain⟨g,hg,em⟩:=vm
  have hq:=bF i hk hi
  obtain⟨g',ents,clk,e1,e2,e3⟩:=r.mp q _ hq
  rw[hg] at e1; cases e1
  obtain⟨kd,hkd,hs,hck⟩:=hkt.d
  obtain⟨f1,f2⟩:=iY hkt.law hs x l ents.toList 0 e3
  have hgo:(getObj g).run P w= .ok (.map ents clk) w:=by simp[getObj,Sem.run,e2]
  have hglt:=(Array.getElem?_eq_some_iff.1 e2).1
  obtain⟨h1,h2,_⟩:=eK (e':=.mp (jV kf (mJ l x))) i hk hi (.inl rfl)
  have fin:∀(ents':Array MapEntry) (clk':Nat),ents'.toList.map (λe=>(e.key,e.val))=jV kf (mJ l x)→
      (execOp a.eval ⟨dst,.mapUpdate t m y v,ty,pos,bV,none⟩).run P w= .ok .skip { w with heap:=w.heap.setIfInBounds g (.map ents' clk')}→(⟨dst,.mapUpdate t m y v,ty,pos,bV,none⟩:Oper).wp P a w Nx Qx:=by
    intro ents' clk' hes hrun
    obtain⟨k1,r1⟩:=r.set_mp hq hg ents' clk' (w':= { w with heap:=w.heap.setIfInBounds g (.map ents' clk')}) (by simp[hglt]) (λg' hg'=>by simp[Ne.symm hg']) (by simp) rfl rfl rfl
    unfold Oper.wp
    rw[hrun]
    rw[hes,h1] at r1
    exact hn (.sc undef) undef _ E _ k1 r1 (by simp only[VR]) (k h2)
  cases ha:(l.any λz=>x==z) with
  | true=>
    obtain⟨j,e,a1,a2,a3,a4⟩:=f1 ha
    have hje:ents[j]? =some e:=by simpa using a2
    refine fin (ents.modify j λe=> { e with key:=kf x,val:=.bool true}) clk ?_ ?_
    · have:mJ l x=l:=by simp only[mJ]; rw[if_pos ha]
      rw[this,← e3]
      apply List.ext_getElem?
      intro z
      simp only[List.getElem?_map,Array.getElem?_toList,Array.getElem?_modify]
      by_cases hz:j=z
      · subst hz
        rw[if_pos rfl,hje]
        simp[a3,a4]
      · rw[if_neg hz]
    · have hst:(Instr.keyThatStays e.key (kf x)).run P w= .ok (kf x) w:=by
        rw[a3]; simp[Instr.keyThatStays,hkt.bits]
      have hjd:((ents[0+j]?).map (·.key)).getD (kf x)=e.key:=by simp[hje]
      have hfind:(Instr.findKey kt (kf x) ents.toList).run P w= .ok (some (0+j,.bool true)) w:=by
        simp only[Instr.findKey,Sem.run_bind,run_underlying hkd,Result.andThen_ok,a1,Sem.run_pure]
      simp only[execOp,em,vy,vv,Instr.mapUpdate,Sem.run_bind,run_underlying ht,Result.andThen_ok,hgo,hck,hfind]
      rw[hjd]
      simp only[hst,Result.andThen_ok,Nat.zero_add]
      simp[setObj,Sem.run,e2]
  | false=>
    have hf:=f2 ha
    refine fin (ents.push { key:=kf x,val:=.bool true,born:=clk}) (clk+1) ?_ ?_
    · have:mJ l x=l++ [x]:=by simp only[mJ]; rw[if_neg (by simp[ha])]
      rw[this]
      simp only[Array.toList_push,List.map_append,e3,jV,List.map_cons,List.map_nil]
    · have hfind:(Instr.findKey kt (kf x) ents.toList).run P w= .ok none w:=by
        simp only[Instr.findKey,Sem.run_bind,run_underlying hkd,Result.andThen_ok,hf,Sem.run_pure]
      simp only[execOp,em,vy,vv,Instr.mapUpdate,Sem.run_bind,run_underlying ht,Result.andThen_ok,hgo,hck,hfind]
      simp[setObj,Sem.run,e2]
end ops
end Go.Vm
