import Derived.Test.YtbbifdfldpfphaaGreatK2P0
import Derived.Laws.BitsLemmas
import Derived.Laws.Cover3
import Derived.Laws.BytesString
import Derived.ChangeSame
import Derived.ChangeSlices
import Derived.WideKeyArgs
import Derived.OpenShut
import Derived.JoinedOf
import Derived.Handed
import Derived.Stop.BytesEq
import Derived.Laws.Tables
import Derived.Laws.Externs
import Derived.ChangeArms
import Derived.Deep.Slices
set_option linter.unusedSimpArgs false
set_option linter.unusedVariables false
set_option maxHeartbeats 4000000
set_option maxRecDepth 100000
namespace Go.Vm
def mL (h:aF) (sz:Nat):AV→Option (List (List AV))
 | .sl _ sz' ys=>if sz'=sz then some ys else none
 | .sc (.slice none 0 _)=>some []
 | .e0=>some []
 | .view k off n=>match h k with
  | some (.obj _ cs)=>if off+n*sz≤cs.length then some (FL sz n (cs.drop off)) else none
  | _=>none
 | _=>none
theorem qM {E:gP} {h:aF} {w:World} (r:fY E h w) {sz:Nat} {x:AV} {ys:List (List AV)} (hx:mL h sz x=some ys) {v:Value} (hv:VR E w x v):DN E w sz ys v:=by
 cases x with
 | sl tag sz' zs=>
  simp only[mL] at hx
  split at hx
  ·rename_i e; cases hx; subst e; exact DN.of_sl hv
  ·cases hx
 | sc z=>
  unfold mL at hx
  split at hx <;> (try (simp only[reduceCtorEq] at hx; done))
  ·rename_i e; cases e
  ·rename_i n e; cases e; cases hx; exact DN.of_nil hv
  ·rename_i e; cases e
  ·rename_i e; cases e
 | e0=>cases hx; exact DN.of_e0 hv
 | view k off n=>
  simp only[mL] at hx
  split at hx
  ·rename_i ty cs hk
   split at hx
   ·rename_i hl; cases hx; exact DN.of_view r hv hk hl
   ·cases hx
  ·cases hx
 | _=>simp[mL] at hx
theorem KW (h:aF) (k:cB):upd h k (h k)=h:=by
 funext x; unfold upd; split
 ·rename_i e; rw[e]
 ·rfl
section ops
variable {P:Program} {o:Oper} {K:AV→aF→Prop} {fr:Fr} {h:aF}
theorem gM {s x:Operand} {t:TypeId} (hop:o.op= .call { callee:=.builtin .append,args:= #[s,x],argTypes:= #[t,t]}) {a:Act} {w w':World} {v:Value}
    (hr:(Builtin.append_ #[t,t] o.type #[a.eval s,a.eval x]).run P w= .ok v w'):(execOp a.eval o).run P w= .ok (.value v) w':=by
  unfold execOp
  simp only[hop,resolve,invoke,builtin,Sem.run_bind,Sem.run_pure,Result.andThen_ok,List.map_toArray,List.map_cons,List.map_nil,hr]
theorem wU {s x:Operand} {t e:TypeId} {sz b:Nat} (hop:o.op= .call { callee:=.builtin .append,args:= #[s,x],argTypes:= #[t,t]}) (d:Nat) (ht:kH P t e sz b)
    {s0:AV} (hs:ev fr s=s0) (hs0:s0= .sc (.slice none 0 0)∨s0= .e0) {ys:List (List AV)} (hx:mL h sz (ev fr x)=some ys) (hb:ys.length*(b+1)≤140737488355328)
    (h0:ys= []→K s0 h) (h1:ys≠ []→∀n,h (d,n)=none→K (.sl (some (d,n)) sz ys) (upd h (d,n) (some (.tok e sz (ys.length*sz))))):i6 P o K fr h:=by
  intro E w a r hv Nx Qx hn
  have vs:=hv s (by rw[hop]; simp[Op.operands,Call.operands])
  have vx:=hv x (by rw[hop]; simp[Op.operands,Call.operands])
  rw[hs] at vs
  have vs0:∃a0,a.eval s= .slice a0 0 0:=by
    rcases hs0 with rfl | rfl
    · simp only[VR] at vs; exact⟨_,vs⟩
    · simpa only[VR] using vs
  obtain⟨a0,ea0⟩:=vs0
  have src:=qM r hx vx
  rw[Nat.mul_add,Nat.mul_one] at hb
  by_cases hy:ys= []
  · subst hy
    have hv0:(Value.slice a0 0 0= .slice none 0 0∧0=0)∨∃a cap,Value.slice a0 0 0= .slice (some a) 0 cap∧0≤cap:=by
      cases a0 with
      | none=>exact .inl ⟨rfl,rfl⟩
      | some b=>exact .inr ⟨b,0,rfl,Nat.le_refl _⟩
    obtain⟨_,(⟨_,q,c,e⟩ | ⟨g,oo,c,cv,e,_⟩)⟩:=src
    · have hr:=iG (P:=P) (w:=w) (ty:=o.type) ht hv0 e
      unfold Oper.wp
      rw[gM hop (by rw[ea0]; exact hr),← ea0]
      exact hn _ _ _ E h (eR.refl E w) r vs (h0 rfl)
    · have hr:=iG (P:=P) (w:=w) (ty:=o.type) ht hv0 e
      unfold Oper.wp
      rw[gM hop (by rw[ea0]; exact hr),← ea0]
      exact hn _ _ _ E h (eR.refl E w) r vs (h0 rfl)
  · obtain⟨n,hn'⟩:=r.fresh d
    obtain⟨v',w',E',e1,e2,e3,e4⟩:=append_nil (ty:=o.type) ht r hn' src hy (by omega) (by omega) a0
    unfold Oper.wp
    rw[gM hop (by rw[ea0]; exact e1)]
    exact hn _ _ _ E' _ e2 e3 e4 (h1 hy n (r.unused_none hn'))
theorem wV {s x:Operand} {t e:TypeId} {sz b:Nat} (hop:o.op= .call { callee:=.builtin .append,args:= #[s,x],argTypes:= #[t,t]}) (ht:kH P t e sz b)
    {k:cB} {xs:List (List AV)} (hs:ev fr s= .sl (some k) sz xs) (hk:h k=some (.tok e sz (xs.length*sz))) {ys:List (List AV)} (hx:mL h sz (ev fr x)=some ys)
    (hb:(xs.length+ys.length)*(b+1)≤140737488355328)
    (h1:K (.sl (some k) sz (xs++ys)) (upd h k (some (.tok e sz ((xs++ys).length*sz))))):i6 P o K fr h:=by
  intro E w a r hv Nx Qx hn
  have vs:=hv s (by rw[hop]; simp[Op.operands,Call.operands])
  have vx:=hv x (by rw[hop]; simp[Op.operands,Call.operands])
  rw[hs] at vs
  have src:=qM r hx vx
  rw[Nat.mul_add,Nat.mul_one] at hb
  by_cases hy:ys= []
  · subst hy
    have hsv:∃q cap,a.eval s= .slice q xs.length cap∧xs.length≤cap∧q≠none:=by
      have vs':=vs
      simp only[VR] at vs'
      obtain⟨q,cap,e1,e2,_,_,_,e5⟩:=vs'
      obtain⟨tk,cur,t1,t2,t3,_⟩:=r.tok _ _ _ _ hk
      obtain⟨_,e6⟩:=e5 k rfl
      obtain⟨_,e7⟩:=e6 tk t1
      exact⟨q,cap,e1,e2,by rw[(e7 t3.symm).1]; simp⟩
    obtain⟨q,cap,es,ec,hq⟩:=hsv
    obtain⟨q',rfl⟩:=Option.ne_none_iff_exists'.1 hq
    have src0:∃q c,a.eval x= .slice q 0 c:=by
      rcases src.2 with⟨_,q,c,e⟩ | ⟨g,oo,c,cv,e,_⟩
      · exact⟨q,c,e⟩
      · exact⟨_,c,e⟩
    obtain⟨qx,cx,ex⟩:=src0
    have hr:=iG (P:=P) (w:=w) (ty:=o.type) ht (v:=.slice (some q') xs.length cap) (n:=xs.length) (.inr ⟨q',cap,rfl,ec⟩) ex
    unfold Oper.wp
    rw[gM hop (by rw[es]; exact hr)]
    refine hn _ _ _ E h (eR.refl E w) r (by rw[← es]; simpa using vs) ?_
    have:upd h k (some (.tok e sz ((xs++ []).length*sz)))=h:=by rw[List.append_nil,← hk,KW]
    rw[this] at h1
    simpa using h1
  · obtain⟨v',w',E',e1,e2,e3,e4⟩:=FM (ty:=o.type) ht r hk vs src hy (by omega) (by omega)
    unfold Oper.wp
    rw[gM hop e1]
    exact hn _ _ _ E' _ e2 e3 e4 h1
end ops
theorem tP (off:Nat):∀(vs:List Value) (i:Nat) (cs:Array Value),off+i+vs.length≤cs.size→
    ((vs.zipIdx i).foldl (λcs (c,j)=>cs.setIfInBounds (off+j) c) cs).toList=cs.toList.take (off+i)++vs++cs.toList.drop (off+i+vs.length)
  | [],i,cs,_=>by simp
  | v::vs,i,cs,h=>by
    simp only[List.zipIdx_cons,List.foldl_cons]
    simp only[List.length_cons] at h
    rw[tP off vs (i+1) _ (by simp; omega)]
    have hlt:off+i < cs.toList.length:=by simp; omega
    simp only[Array.toList_setIfInBounds,List.length_cons]
    rw[show off+(i+1)=off+i+1 from by omega,List.take_succ_eq_append_getElem (by simpa using hlt)]
    simp only[List.getElem_set_self,List.append_assoc,List.singleton_append]
    rw[List.take_set_of_le (Nat.le_refl _),List.drop_set_of_lt (by omega)]
    simp[Nat.add_assoc,Nat.add_comm 1]
theorem DQ (sz:Nat):∀(vs:List Value) (i:Nat) (cs:Array Value),(∀v∈vs,v.cells.size=sz)→(i+vs.length)*sz≤cs.size→
    ∃cs',Instr.fill (λi=>some (i*sz,sz)) cs ((vs.zipIdx i).map λp=>(p.2,p.1))=some cs'∧cs'.toList=cs.toList.take (i*sz)++(vs.map λv=>v.cells.toList).flatten++cs.toList.drop ((i+vs.length)*sz)
  | [],i,cs,_,_=>⟨cs,rfl,by simp⟩
  | v::vs,i,cs,h1,h2=>by
    have hv:=h1 v (by simp)
    simp only[List.length_cons] at h2
    have hle:i*sz+sz+vs.length*sz≤cs.size:=by
      have:(i+(vs.length+1))*sz=i*sz+sz+vs.length*sz:=by simp only[Nat.add_mul,Nat.one_mul]; omega
      omega
    have hf:=tP (i*sz) v.cells.toList 0 cs (by simp[hv]; omega)
    have hsz:(v.cells.zipIdx.foldl (λcs (c,j)=>cs.setIfInBounds (i*sz+j) c) cs).toList=cs.toList.take (i*sz)++v.cells.toList++cs.toList.drop (i*sz+sz):=by
      have:v.cells.zipIdx.foldl (λcs (c,j)=>cs.setIfInBounds (i*sz+j) c) cs=(v.cells.toList.zipIdx 0).foldl (λcs (c,j)=>cs.setIfInBounds (i*sz+j) c) cs:=by
        rw[← Array.foldl_toList,Array.toList_zipIdx]
      rw[this,hf]
      simp[hv]
    generalize hq:v.cells.zipIdx.foldl (λcs (c,j)=>cs.setIfInBounds (i*sz+j) c) cs=q at hsz
    have hqs:q.size=cs.size:=by
      have:=congrArg List.length hsz
      simp[hv] at this
      omega
    have e3:(i+1+vs.length)*sz=i*sz+sz+vs.length*sz:=by simp only[Nat.add_mul,Nat.one_mul]
    have e4:(i+(vs.length+1))*sz=i*sz+sz+vs.length*sz:=by simp only[Nat.add_mul,Nat.one_mul]; omega
    have e5:(i+1)*sz=i*sz+sz:=by simp only[Nat.add_mul,Nat.one_mul]
    obtain⟨cs',e1,e2⟩:=DQ sz vs (i+1) q (λu hu=>h1 u (by simp[hu])) (by rw[hqs]; omega)
    refine⟨cs', ?_, ?_⟩
    · simp only[List.zipIdx_cons,List.map_cons,Instr.fill,hv,ne_eq,not_true_eq_false,decide_false,Bool.false_or]
      rw[if_neg (by simp; omega)]
      simp only[hq]
      exact e1
    · rw[e2,hsz]
      simp only[List.map_cons,List.flatten_cons,List.length_cons]
      have l1:(cs.toList.take (i*sz)++v.cells.toList).length=(i+1)*sz:=by
        simp[hv,Nat.add_mul]; omega
      rw[List.take_left' l1]
      have l2:(cs.toList.take (i*sz)++v.cells.toList++cs.toList.drop (i*sz+sz)).drop ((i+1+vs.length)*sz)=cs.toList.drop ((i+(vs.length+1))*sz):=by
        rw[e3,e4,← e5,← l1,← List.drop_drop,List.drop_left' rfl,List.drop_drop,l1,e5]
      rw[l2]
      simp only[List.append_assoc]
def kN:List AV→Option (List (List AV))
 | []=>some []
 | x::xs=>match cellsOf x,kN xs with
  | some c,some cs=>some (c::cs)
  | _,_=>none
theorem vH {α β:Type} (f:α→β) (l:List (Nat×α)) (h:l.map (·.1)=List.range l.length):l.map (λp=>(p.1,f p.2))=((l.map λp=>f p.2).zipIdx 0).map λp=>(p.2,p.1):=by
 apply List.ext_getElem?
 intro j
 have hj:=congrArg (λq=>q[j]?) h
 simp only[List.getElem?_map] at hj
 simp only[List.getElem?_map,List.getElem?_zipIdx]
 cases e:l[j]? with
 | none=>simp
 | some p=>
  rw[e] at hj
  have hlt:j < l.length:=(List.getElem?_eq_some_iff.1 e).1
  simp[hlt] at hj
  simp[hj]
section lit
variable {P:Program} {E:gP} {h:aF} {w:World}
theorem mM {sz:Nat}:∀ {xs:List AV} {gs:List (List AV)} {vs:List Value},kN xs=some gs→gs.all (λg=>g.all gK && g.length==sz)=true→cW E w xs vs→
    gs.length=vs.length∧(∀g∈gs,g.length=sz)∧(∀v∈vs,v.cells.size=sz)∧cW E w gs.flatten (vs.map λv=>v.cells.toList).flatten∧∀u∈(vs.map λv=>v.cells.toList).flatten,u.oneCell'=true
  | [],gs, [],hx,_,_=>by cases hx; simp[cW]
  | x::xs,gs,v::vs,hx,hg,hv=>by
    simp only[kN] at hx
    split at hx
    · rename_i c cs e1 e2
      cases hx
      simp only[List.all_cons,Bool.and_eq_true,beq_iff_eq] at hg
      simp only[cW] at hv
      obtain⟨a1,a2⟩:=kC e1 hg.1.1 hv.1
      obtain⟨b1,b2,b3,b4,b5⟩:=mM e2 hg.2 hv.2
      have hl:=cX a1
      refine⟨by simp[b1], ?_, ?_, ?_, ?_⟩
      · intro g hg'
        rcases List.mem_cons.1 hg' with rfl | hg'
        · exact hg.1.2
        · exact b2 g hg'
      · intro u hu
        rcases List.mem_cons.1 hu with rfl | hu
        · rw[← hg.1.2,hl]; simp
        · exact b3 u hu
      · simp only[List.flatten_cons,List.map_cons]
        exact cY a1 b4
      · intro u hu
        simp only[List.map_cons,List.flatten_cons] at hu
        rcases List.mem_append.1 hu with hu | hu
        · exact a2 u hu
        · exact b5 u hu
    · cases hx
  | [],_,_::_,_,_,hv=>by simp only[cW] at hv
  | _::_,_, [],_,_,hv=>by simp only[cW] at hv
theorem wW {o:Oper} {t e:TypeId} {sz b len:Nat} {parts:Array (Nat×Operand)} (hop:o.op= .buildSlice t len parts) (ht:kH P t e sz b) (hi:parts.toList.map (·.1)=List.range len) (hl:len*sz≤16777216) {a:Act} (hs:∀v∈parts.toList.map (λp=>a.eval p.2),v.cells.size=sz):
    ∃cur:Array Value,cur.toList=((parts.toList.map λp=>a.eval p.2).map λv=>v.cells.toList).flatten∧(execOp a.eval o).run P w= .ok (.value (.slice (some ⟨w.heap.size,0,none⟩) len len)) (w.alloc (.cells cur e)):=by
  obtain⟨i,z,h1,h2,rfl,rfl,h5,h6⟩:=ht.inf
  have hlen:parts.toList.length=len:=by have:=congrArg List.length hi; simpa using this
  have hz:=vH a.eval parts.toList (by rw[hlen]; exact hi)
  have hlen':(parts.toList.map λp=>a.eval p.2).length=len:=by simpa using hlen
  generalize hvs:(parts.toList.map λp=>a.eval p.2)=vs at hz hs hlen'
  have hq:∀(q:Array Value),q.size=len*i.size→∃cs',Instr.fill (λj=>some (j*i.size,i.size)) q (parts.toList.map λp=>(p.1,a.eval p.2))=some cs'∧cs'.toList=(vs.map λv=>v.cells.toList).flatten:=by
    intro q hq
    obtain⟨cs',e1,e2⟩:=DQ i.size vs 0 q hs (by rw[Nat.zero_add,hlen',hq]; exact Nat.le_refl _)
    rw[← hz] at e1
    refine⟨cs',e1, ?_⟩
    rw[e2,Nat.zero_add,hlen']
    simp[← hq]
  have hn:¬(16777216 < len*i.size):=by omega
  by_cases h0:len*i.size=0
  · obtain⟨cur,c1,c2⟩:=hq ((Array.range 0).map λ_=>default) (by simp[h0])
    refine⟨cur,c2, ?_⟩
    simp[execOp,hop,Instr.buildSlice,run_underlying ht.ut,sizeOf,typeInfo,h1,h0]
    simp only[c1]
    simp[newRow]
  · obtain⟨cur,c1,c2⟩:=hq ((Array.range (len*i.size)).map (z.cells[· % z.cells.size]!)) (by simp)
    refine⟨cur,c2, ?_⟩
    simp[execOp,hop,Instr.buildSlice,run_underlying ht.ut,sizeOf,typeInfo,h1,h2,hn,h0,zeroValue]
    simp only[c1]
    simp[newRow]
theorem HW {o:Oper} {fr:Fr} {t:TypeId} {len:Nat} {parts:Array (Nat×Operand)} (hop:o.op= .buildSlice t len parts) {a:Act} (hv:∀y∈o.op.operands,VR E w (ev fr y) (a.eval y)):
    cW E w (parts.toList.map λp=>ev fr p.2) (parts.toList.map λp=>a.eval p.2):=by
  have:∀p∈parts.toList,VR E w (ev fr p.2) (a.eval p.2):=by
    intro p hp
    refine hv p.2 ?_
    rw[hop]
    simp only[Op.operands,List.mem_toArray,List.mem_map]
    exact⟨p,hp,rfl⟩
  generalize parts.toList=l at this
  induction l with
  | nil=>simp[cW]
  | cons p l ih=>
    simp only[List.map_cons,cW]
    exact⟨this p (by simp),ih λq hq=>this q (by simp[hq])⟩
variable {o:Oper} {K:AV→aF→Prop} {fr:Fr}
theorem PA {t e:TypeId} {sz b len:Nat} {parts:Array (Nat×Operand)} (hop:o.op= .buildSlice t len parts) (ht:kH P t e sz b) (hi:parts.toList.map (·.1)=List.range len) (hl:len*sz≤16777216)
    {gs:List (List AV)} (hg:kN (parts.toList.map λp=>ev fr p.2)=some gs) (ho:gs.all (λg=>g.all gK && g.length==sz)=true) (hK:K (.sl none sz gs) h):i6 P o K fr h:=by
  intro E w a r hv Nx Qx hn
  have hvl:=HW hop hv
  obtain⟨a1,a2,a3,a4,a5⟩:=mM hg ho hvl
  obtain⟨cur,c1,c2⟩:=wW (w:=w) hop ht hi hl a3
  have hlen:parts.toList.length=len:=by have:=congrArg List.length hi; simpa using this
  have hgl:gs.length=len:=by rw[a1]; simpa using hlen
  obtain⟨E',e1,e2,e3⟩:=r.new_imm e (0,0) cur
  unfold Oper.wp
  rw[c2]
  refine hn _ _ _ E' h e2 e3 ?_ hK
  have hcs:cur.size=len*sz:=by
    have:=cX a4
    rw[jB a2,hgl,← c1] at this
    simpa using this.symm
  simp only[VR]
  refine⟨_,_,by rw[hgl],by rw[hgl]; exact Nat.le_refl _, ?_,.inr ⟨w.heap.size,0,rfl,jA.2 ?_⟩,a2,by simp⟩
  · have h6:0 < sz:=by obtain⟨_,_,_,_,_,_,_,h6⟩:=ht.inf; exact h6
    have:len≤len*sz:=Nat.le_mul_of_pos_right _ h6
    simp only[maxLen]; omega
  · refine eE (cP e2 _ _ a4) a5 ?_
    intro j u hj
    rw[← c1] at hj
    have hjl:j < cur.size:=by simpa using (List.getElem?_eq_some_iff.1 hj).1
    refine⟨?_,.inl (e1 _ (by omega))⟩
    have hnew:=heap_alloc_new w (.cells cur e)
    simp only[World.cell?,hnew,Nat.zero_add]
    simpa using hj
theorem KX {t e:TypeId} {sz b len:Nat} {parts:Array (Nat×Operand)} (hop:o.op= .buildSlice t len parts) (d:Nat) (ht:kH P t e sz b) (hi:parts.toList.map (·.1)=List.range len) (hl:len*sz≤16777216)
    {gs:List (List AV)} (hg:kN (parts.toList.map λp=>ev fr p.2)=some gs) (ho:gs.all (λg=>g.all gK && g.length==sz)=true)
    (hK:∀n,h (d,n)=none→K (.sl (some (d,n)) sz gs) (upd h (d,n) (some (.tok e sz (gs.length*sz))))):i6 P o K fr h:=by
  intro E w a r hv Nx Qx hn
  have hvl:=HW hop hv
  obtain⟨a1,a2,a3,a4,a5⟩:=mM hg ho hvl
  obtain⟨cur,c1,c2⟩:=wW (w:=w) hop ht hi hl a3
  have hlen:parts.toList.length=len:=by have:=congrArg List.length hi; simpa using this
  have hgl:gs.length=len:=by rw[a1]; simpa using hlen
  have hcs:cur.size=len*sz:=by
    have:=cX a4
    rw[jB a2,hgl,← c1] at this
    simpa using this.symm
  have h6:0 < sz:=by obtain⟨_,_,_,_,_,_,_,h6⟩:=ht.inf; exact h6
  have hml:len≤maxLen:=by
    have:len≤len*sz:=Nat.le_mul_of_pos_right _ h6
    simp only[maxLen]; omega
  obtain⟨n,hn'⟩:=r.fresh d
  obtain⟨E',e0,e1,e2,e3⟩:=r.new_tok hn' e sz (gs.length*sz) len hcs (by rw[hgl,hcs]; exact Nat.le_refl _) hml
  unfold Oper.wp
  rw[c2]
  refine hn _ _ _ E' _ e2 e3 ?_ (hK n (r.unused_none hn'))
  have:=mK (xs:=gs) (w:=w.alloc (.cells cur e)) e0 e1 a2 (by rw[hgl]; exact Nat.le_refl _) hml (eE (cP e2 _ _ a4) a5 (by
    intro j u hj
    rw[← c1] at hj
    have hjl:j < cur.size:=by simpa using (List.getElem?_eq_some_iff.1 hj).1
    refine⟨?_,.inr ⟨_,_,rfl,e1,rfl,by show 0+j < gs.length*sz; rw[hgl]; omega⟩⟩
    have hnew:=heap_alloc_new w (.cells cur e)
    simp only[World.cell?,hnew,Nat.zero_add]
    simpa using hj))
  rw[hgl] at this
  exact this
end lit
def aops (P:Program) (ops:Array Oper) (K:Fr→aF→Prop):List Oper→Fr→aF→Prop
  | [],fr,h=>K fr h
  | o::l,fr,h=>
    match o.guard with
    | none=>match pv P h fr o.op with
      | some r=>r.1∧aops P ops K l (iS fr o.dst r.2) h
      | none=>i9 P ops (o::l) K fr h
    | some (j,want)=>match (ops[j]?).bind (·.dst) with
      | some d=>match fr[d]? with
        | some (.sc (.bool b))=>if b=want then match pv P h fr o.op with
            | some r=>r.1∧aops P ops K l (iS fr o.dst r.2) h
            | none=>i9 P ops ({ o with guard:=none}::l) K fr h
          else aops P ops K l (iS fr o.dst (.sc undef)) h
        | some (.sc (.tuple _))=>aops P ops K l (iS fr o.dst (.sc undef)) h
        | _=>i9 P ops (o::l) K fr h
      | none=>i9 P ops (o::l) K fr h
theorem SF {P:Program} {o:Oper} {K:AV→aF→Prop} {fr:Fr} {h:aF} {r:Prop×AV} (hp:pv P h fr o.op=some r) (hc:r.1) (hk:K r.2 h):i6 P o K fr h:=
 eA (x:=r.2) (λE w a rel hv=>KU (c:=r.1) (x:=r.2) hp hc E w a rel hv) hk
theorem A3 {P:Program} {ops:Array Oper} {o:Oper} {l:List Oper} {K:Fr→aF→Prop} {fr:Fr} {h:aF} (hw:∀E w (a:Act),cW E w fr a.tmps.toList→Region.wanted o (yielded ops a.tmps)=true)
    (hu:i9 P ops ({ o with guard:=none}::l) K fr h):i9 P ops (o::l) K fr h:=by
  intro E w a r v d Q hQ
  have:=hu E w a r v d Q hQ
  unfold wpList at this ⊢
  rw[if_pos (hw E w a v)]
  rw[if_pos (show Region.wanted { o with guard:=none} (yielded ops a.tmps)=true from rfl)] at this
  exact this
def bH (h:aF) (x y:AV):Prop:=∀E w v,fY E h w→VR E w x v→VR E w y v
theorem bH.refl (h:aF) (x:AV):bH h x x:=λ_ _ _ _ v=>v
theorem bH.trans {h:aF} {x y z:AV} (a:bH h x y) (b:bH h y z):bH h x z:=λE w v r u=>b E w v r (a E w v r u)
theorem bH.any (h:aF) (x:AV):bH h x .any:=λ_ _ _ _ _=>by simp only[VR]
theorem bH.nil (h:aF) (sz n:Nat) (hn:n≤maxLen):bH h (.sc (.slice none 0 n)) (.sl none sz []):=λ_ _ v _ u=>by
 simp only[VR] at u ⊢
 subst u
 exact⟨none,n,rfl,Nat.zero_le _,hn,by simp,by simp,by simp⟩
theorem bH.nil_e0 (h:aF):bH h (.sc (.slice none 0 0)) .e0:=λ_ _ v _ u=>by
 simp only[VR] at u ⊢
 exact⟨none,u⟩
theorem bH.e0 (h:aF) (sz:Nat):bH h .e0 (.sl none sz []):=λ_ _ v _ u=>by
 simp only[VR] at u ⊢
 obtain⟨a,rfl⟩:=u
 exact⟨a,0,rfl,Nat.zero_le _,by simp[maxLen],by simp,by simp,by simp⟩
def KY (h:aF) (k:cB):Prop:=∀ty sz m,h k≠some (.tok ty sz m)
theorem fY.tk_none {E:gP} {h:aF} {w:World} (r:fY E h w) {k:cB} (hk:KY h k):E.tk k=none:=by
 cases e:E.tk k with
 | none=>rfl
 | some t=>obtain⟨ty,e'⟩:=r.tkh k t e; exact absurd e' (hk _ _ _)
theorem z9 {E:gP} {w:World} {k:cB} (hk:E.tk k=none) {g:Nat}:∀ {o:Nat} {cs:List AV},qA E w (some k) g o cs→qA E w none g o cs
 | _, [],_=>by simp[qA]
 | o,x::cs,hv=>by
  simp only[qA] at hv ⊢
  obtain⟨h1,h2,h3⟩:=hv
  refine⟨?_,h2,z9 hk h3⟩
  rcases h1 with h1 | ⟨k',t,e1,e2,_⟩
  ·exact .inl h1
  ·cases e1; rw[hk] at e2; cases e2
theorem bH.freeze {h:aF} {k:cB} (hk:KY h k) (sz:Nat) (xs:List (List AV)):bH h (.sl (some k) sz xs) (.sl none sz xs):=λE w v r u=>by
 have ht:=r.tk_none hk
 simp only[VR] at u ⊢
 obtain⟨a,cap,e,h1,h2,h3,h4,h5⟩:=u
 refine⟨a,cap,e,h1,h2, ?_,h4,by simp⟩
 rcases h3 with h3 | ⟨g,o,e',h3⟩
 ·exact .inl h3
 ·exact .inr ⟨g,o,e',jA.2 (z9 ht (jA.1 h3))⟩
inductive cU (h:aF):List AV→List AV→Prop where
 | nil:cU h [] []
 | cons {x y:AV} {xs ys:List AV}:bH h x y→cU h xs ys→cU h (x::xs) (y::ys)
theorem cU.spec {h:aF} {xs ys:List AV} (hl:cU h xs ys):∀ {E:gP} {w:World} {vs:List Value},fY E h w→cW E w xs vs→cW E w ys vs:=by
 induction hl with
 | nil=>intro E w vs r v; exact v
 | cons hx _ ih=>
  intro E w vs r v
  cases vs with
  | nil=>simp only[cW] at v
  | cons u us=>simp only[cW] at v ⊢; exact⟨hx E w u r v.1,ih r v.2⟩
theorem cU.refl (h:aF):∀(xs:List AV),cU h xs xs
 | []=>.nil
 | x::xs=>.cons (bH.refl h x) (cU.refl h xs)
theorem bH.agg {h:aF} {xs ys:List AV} (hl:cU h xs ys):bH h (.agg xs) (.agg ys):=λE w v r u=>by
 simp only[VR] at u ⊢
 obtain⟨cs,e,hc⟩:=u
 exact⟨cs,e,hl.spec r hc⟩
theorem bH.tup {h:aF} {xs ys:List AV} (hl:cU h xs ys):bH h (.tup xs) (.tup ys):=λE w v r u=>by
 simp only[VR] at u ⊢
 obtain⟨cs,e,hc⟩:=u
 exact⟨cs,e,hl.spec r hc⟩
theorem SG {h:aF} {E:gP} {w:World} (r:fY E h w) {tag:Option cB} {g:Nat} {xs ys:List AV} (hl:cU h xs ys):∀ {o:Nat},qA E w tag g o xs→qA E w tag g o ys:=by
 induction hl with
 | nil=>intro o v; exact v
 | cons hx _ ih=>
  intro o v
  simp only[qA] at v ⊢
  obtain⟨h1,⟨cv,h2,h3,h4⟩,h5⟩:=v
  exact⟨h1,⟨cv,h2,h3,hx E w cv r h4⟩,ih h5⟩
inductive A4 (h:aF):List (List AV)→List (List AV)→Prop where
 | nil:A4 h [] []
 | cons {x y:List AV} {xs ys:List (List AV)}:cU h x y→A4 h xs ys→A4 h (x::xs) (y::ys)
theorem cU.length {h:aF} {xs ys:List AV} (hl:cU h xs ys):xs.length=ys.length:=by
 induction hl with
 | nil=>rfl
 | cons _ _ ih=>simp[ih]
theorem A4.length {h:aF} {xs ys:List (List AV)} (hl:A4 h xs ys):xs.length=ys.length:=by
 induction hl with
 | nil=>rfl
 | cons _ _ ih=>simp[ih]
theorem A4.each {h:aF} {xs ys:List (List AV)} (hl:A4 h xs ys) {sz:Nat} (hs:∀x∈xs,x.length=sz):∀y∈ys,y.length=sz:=by
 induction hl with
 | nil=>simp
 | cons hx _ ih=>
  intro y hy
  rcases List.mem_cons.1 hy with rfl | hy
  ·rw[← hx.length]; exact hs _ (by simp)
  ·exact ih (λz hz=>hs z (by simp[hz])) y hy
theorem SH {h:aF} {E:gP} {w:World} (r:fY E h w) {tag:Option cB} {g:Nat} {xs ys:List (List AV)} (hl:A4 h xs ys):∀ {o:Nat},vB E w tag g o xs→vB E w tag g o ys:=by
 induction hl with
 | nil=>intro o v; exact v
 | cons hx _ ih=>
  intro o v
  simp only[vB] at v ⊢
  rw[← hx.length]
  exact⟨SG r hx v.1,ih v.2⟩
theorem bH.sl {h:aF} {tag:Option cB} {sz:Nat} {xs ys:List (List AV)} (hl:A4 h xs ys):bH h (.sl tag sz xs) (.sl tag sz ys):=λE w v r u=>by
 simp only[VR] at u ⊢
 obtain⟨a,cap,e,h1,h2,h3,h4,h5⟩:=u
 rw[← hl.length]
 refine⟨a,cap,e,h1,h2, ?_,hl.each h4,h5⟩
 rcases h3 with h3 | ⟨g,o,e',h3⟩
 ·subst h3; cases hl; exact .inl rfl
 ·exact .inr ⟨g,o,e',SH r hl h3⟩
def h9 (h' h:aF):Prop:=∀k e,h' k=some e→h k=some e
theorem h9.refl (h:aF):h9 h h:=λ_ _ e=>e
theorem h9.trans {a b c:aF} (h:h9 a b) (k:h9 b c):h9 a c:=λx e q=>k x e (h x e q)
theorem h9.upd {h' h:aF} (hs:h9 h' h) {k:cB} (hk:h' k=none) (e:Option iE):h9 h' (upd h k e):=λx e' hx=>by
 have:x≠k:=λq=>by subst q; rw[hk] at hx; cases hx
 rw[cQ _ _ this]
 exact hs x e' hx
theorem WB {P:Program} {c:Code} {Q:Exit→Fr→aF→Prop} {fr fr':Fr} {h h':aF} (hs:h9 h' h) (hl:cU h' fr fr') (hc:AW P c Q fr' h'):AW P c Q fr h:=by
 intro E w a r v d
 obtain⟨E',k,r'⟩:=r.drop hs
 exact wp_mono (hc E' w a r' (hl.spec r' (cP k _ _ v)) d) λ_ _ _ p=>p.trans k
theorem pT {P:Program} {f:FuncId} {args args':List AV} {Q:AV→aF→Prop} {h:aF} (hl:cU h args args') (hc:aL P f args' h Q):aL P f args h Q:=
 λE w vs r v=>hc E w vs r (hl.spec r v)
def WC (tmps:Array Value):ResultVar→Sem Value
 | .tmp t=>pure (tmps.getD t undef)
 | .cell a t=>do loadVar t (← asAddr (tmps.getD a undef))
theorem DR (fn:Func) (tmps:Array Value):results fn tmps=(do let vs ← fn.results.mapM (WC tmps); pure (if h:vs.size=1 then vs[0] else .tuple vs)):=by
 unfold results
 congr 1
def DS (P:Program) (h:aF) (fr:Fr):ResultVar→Option AV
 | .tmp t=>some (fr.getD t .any)
 | .cell a t=>(l4 P t).bind λx=>match fr.getD a .any with | .ptr k off=>KS h x.1 x.2 (.ptr k off) | _=>none
def KG (P:Program) (h:aF) (fr:Fr):List ResultVar→Option (List AV)
 | []=>some []
 | r::rs=>(DS P h fr r).bind λx=>(KG P h fr rs).map λxs=>x::xs
def wX (P:Program) (h:aF) (fr:Fr):List ResultVar→Option AV
 | [r]=>DS P h fr r
 | rs=>(KG P h fr rs).map .tup
section res
variable {P:Program} {E:gP} {h:aF} {w:World}
theorem I5 (r:fY E h w) {fr:Fr} {tmps:Array Value} (v:cW E w fr tmps.toList) {rv:ResultVar} {x:AV} (hx:DS P h fr rv=some x):
    ∃u,(WC tmps rv).run P w= .ok u w∧VR E w x u:=by
  have hg:∀t,VR E w (fr.getD t .any) (tmps.getD t undef):=by
    intro t
    have:=rE t undef v
    simpa [Array.getD_eq_getD_getElem?,List.getD] using this
  cases rv with
  | tmp t=>
    simp only[DS,Option.some.injEq] at hx
    subst hx
    exact⟨_,rfl,hg t⟩
  | cell a t=>
    simp only[DS,Option.bind_eq_some_iff] at hx
    obtain⟨⟨ag,n⟩,h1,h2⟩:=hx
    have ha:=hg a
    split at h2
    · rename_i k off hk
      rw[hk] at ha
      obtain⟨u,h3,h4⟩:=z7 r h1 h2 ha
      simp only[VR] at ha
      obtain⟨g,_,e⟩:=ha
      refine⟨u, ?_,h4⟩
      rw[e] at h3
      have e':tmps.getD a undef= .pointer (some ⟨g,off,none⟩):=e
      simp only[WC,e']
      simpa [Instr.loadAt,Instr.sureAddr,asAddr] using h3
    · cases h2
theorem AA (r:fY E h w) {fr:Fr} {tmps:Array Value} (v:cW E w fr tmps.toList):∀ {rs:List ResultVar} {xs:List AV},KG P h fr rs=some xs→
    ∃us,(rs.mapM (WC tmps)).run P w= .ok us w∧cW E w xs us
  | [],xs,hx=>by cases hx; exact⟨[],by simp,by simp[cW]⟩
  | rv::rs,xs,hx=>by
    simp only[KG,Option.bind_eq_some_iff,Option.map_eq_some_iff] at hx
    obtain⟨x,h1,xs',h2,rfl⟩:=hx
    obtain⟨u,h3,h4⟩:=I5 (P:=P) r v h1
    obtain⟨us,h5,h6⟩:=AA r v h2
    refine⟨u::us, ?_,by simp only[cW]; exact⟨h4,h6⟩⟩
    simp only[List.mapM_cons,Sem.run_bind]
    rw[h3]
    simp only[Result.andThen_ok,h5]
    rfl
theorem FN (r:fY E h w) {fr:Fr} {tmps:Array Value} (v:cW E w fr tmps.toList) {fn:Func} {x:AV} (hx:wX P h fr fn.results.toList=some x):∃u,(results fn tmps).run P w= .ok u w∧VR E w x u:=by
  obtain⟨rs,hrs⟩:∃rs,rs=fn.results.toList:=⟨_,rfl⟩
  have hre:fn.results=rs.toArray:=by rw[hrs]
  have hrun:∀us,(rs.mapM (WC tmps)).run P w= .ok us w→
      (results fn tmps).run P w= .ok (if h:us.toArray.size=1 then us.toArray[0] else .tuple us.toArray) w:=by
    intro us hus
    rw[DR,hre,List.mapM_toArray]
    simp only[Sem.run_bind,Sem.run_map,hus,Result.andThen_ok,Sem.run_pure]
  rw[← hrs] at hx
  have gen:∀xs,KG P h fr rs=some xs→∃us,(results fn tmps).run P w= .ok (if h:us.toArray.size=1 then us.toArray[0] else .tuple us.toArray) w∧cW E w xs us:=by
    intro xs hxs
    obtain⟨us,h1,h2⟩:=AA (P:=P) r v hxs
    exact⟨us,hrun us h1,h2⟩
  unfold wX at hx
  split at hx
  · rename_i rv
    obtain⟨us,h1,h2⟩:=gen [x] (by simp[KG,hx])
    cases us with
    | nil=>simp only[cW] at h2
    | cons u us=>
      simp only[cW] at h2
      cases us with
      | nil=>exact⟨u,by simpa using h1,h2.1⟩
      | cons _ _=>simp only[cW,and_false] at h2
  · rename_i hns
    simp only[Option.map_eq_some_iff] at hx
    obtain⟨xs,h1,rfl⟩:=hx
    obtain⟨us,h2,h3⟩:=gen xs h1
    have hl:us.length=rs.length:=by
      have e1:=cX h3
      have:∀(rs:List ResultVar) (xs:List AV),KG P h fr rs=some xs→xs.length=rs.length:=by
        intro rs
        induction rs with
        | nil=>intro xs hx; cases hx; rfl
        | cons q rs ih=>
          intro xs hx
          simp only[KG,Option.bind_eq_some_iff,Option.map_eq_some_iff] at hx
          obtain⟨y,_,ys,hy,rfl⟩:=hx
          simp[ih ys hy]
      rw[← e1,this rs xs h1]
    have hne:¬us.toArray.size=1:=by
      intro e
      have:rs.length=1:=by rw[← hl]; simpa using e
      obtain⟨q,hq⟩:=List.length_eq_one_iff.1 this
      exact hns q hq
    rw[dif_neg hne] at h2
    exact⟨_,h2,by simp only[VR]; exact⟨_,rfl,by simpa using h3⟩⟩
end res
def dX (P:Program) (rs:List ResultVar) (Q:AV→aF→Prop):Exit→Fr→aF→Prop
 | .normal,fr,h | .ret,fr,h=>∃x y h'',wX P h fr rs=some x∧h9 h'' h∧bH h'' x y∧Q y h''
 | _,_,_=>False
theorem A5 {P:Program} {f:FuncId} {fn:Func} {c:Code} {args:List AV} {h:aF} {Q:AV→aF→Prop} (hf:P.funcs[f]? =some fn) (hb:fn.body=some c)
    (hc:AW P c (dX P fn.results.toList Q) (args++List.replicate (fn.ntmps - args.length) (.sc undef)) h):aL P f args h Q:=by
  intro E w vs r v
  refine calls_of_wp hf hb ?_
  have hl:args.length=vs.size:=by simpa using cX v
  have hv:cW E w (args++List.replicate (fn.ntmps - args.length) (.sc undef)) (vs++Array.replicate (fn.ntmps - vs.size) undef).toList:=by
    rw[Array.toList_append,← hl]
    refine cY v ?_
    have:=qH (E:=E) (w:=w) (List.replicate (fn.ntmps - args.length) undef)
    simpa using this
  refine wp_mono (hc E w { tmps:=vs++Array.replicate (fn.ntmps - vs.size) undef,defers:= []} r hv rfl) ?_
  intro e a' w' p
  obtain⟨E',fr',h',k,r',v',d',q⟩:=p
  have fin:∀x y h'',wX P h' fr' fn.results.toList=some x→h9 h'' h'→bH h'' x y→Q y h''→
      a'.defers= []∧∃u,(results fn a'.tmps).run P w'= .ok u w'∧(λe w'=>∃v E' x h',e=Ending.returned v∧eR E w E' w'∧fY E' h' w'∧VR E' w' x v∧Q x h') (Ending.returned u) w':=by
    intro x y h'' hx hs hl hq
    obtain⟨u,h1,h2⟩:=FN r' v' hx
    obtain⟨E'',k'',r''⟩:=r'.drop hs
    exact⟨d',u,h1,u,E'',y,h'',rfl,k.trans k'',r'',hl _ _ _ r'' (lY k'' _ _ h2),hq⟩
  cases e with
  | normal=>obtain⟨x,y,h'',q1,q2,q3,q4⟩:=q; exact fin x y h'' q1 q2 q3 q4
  | ret=>obtain⟨x,y,h'',q1,q2,q3,q4⟩:=q; exact fin x y h'' q1 q2 q3 q4
  | exit id=>exact q.elim
  | goto l=>exact q.elim
  | panic ch=>exact q.elim
  | outgrown=>exact q.elim
theorem kH.of {P:Program} {t e:TypeId} {sz b:Nat} (ht:P.underlying t=some (.slice e)) (hi:(P.info? e).map (λi=>(i.zero.map λz=>z.cells.size,i.size,i.bytes))=some (some sz,sz,b)) (h0:0 < sz):kH P t e sz b:=by
 refine⟨ht, ?_⟩
 cases e1:P.info? e with
 | none=>rw[e1] at hi; simp at hi
 | some i=>
  cases e2:i.zero with
  | none=>rw[e1] at hi; simp[e2] at hi
  | some z=>
   rw[e1] at hi
   simp[e2] at hi
   exact⟨i,z,rfl,e2,hi.2.1,hi.2.2,hi.1,h0⟩
def ac (P:Program):Code→(Exit→Fr→aF→Prop)→Fr→aF→Prop
 | .skip,Q,fr,h=>Q .normal fr h
 | .region id ops draw,Q,fr,h=>match draw with
  | true=>AW P (.region id ops true) Q fr h
  | false=>aops P ops (Q .normal) ops.toList fr h
 | .seq a b,Q,fr,h=>ac P a (Seq (ac P b Q) Q) fr h
 | .cond c x y,Q,fr,h=>match ev fr c with
  | .sc (.bool b)=>if b=true then ac P x Q fr h else ac P y Q fr h
  | _=>AW P (.cond c x y) Q fr h
 | .block id c,Q,fr,h=>ac P c (KM id Q) fr h
 | .exit id,Q,fr,h=>Q (.exit id) fr h
 | .ret,Q,fr,h=>Q .ret fr h
 | c,Q,fr,h=>AW P c Q fr h
theorem DT (n:Int):IntKind.wrap .u8 n=n % 256:=by simp[IntKind.wrap,IntKind.bits,IntKind.signed]
section steps
variable {P:Program} {Q:Exit→Fr→aF→Prop} {fr:Fr} {h:aF} {a b:Code}
theorem gQ (hk:∀K:Fr→aF→Prop,(∀fr h,AW P b Q fr h→K fr h)→AW P a (Seq K Q) fr h):AW P (.seq a b) Q fr h:=FG (hk _ λ_ _ h=>h)
end steps
def mf (n:Nat) (kvs:List (Nat×AV)):Fr:=kvs.foldl (λfr p=>fr.set p.1 p.2) (List.replicate n .any)
def SI (h:aF) (fr:Fr):List (Nat×AV)→Prop
 | []=>True
 | (i,v)::r=>(match fr[i]? with | some x=>bH h x v | none=>False)∧SI h fr r
theorem KZ (h:aF) (x:AV):bH h x x↔True:=iff_true_intro (bH.refl h x)
theorem bH.of_eq {h:aF} {x y:AV} (e:x=y):bH h x y:=e ▸ bH.refl h x
theorem bH.int {h:aF} {k:IntKind} {a b:Int} (e:a=b):bH h (.sc (.int k a)) (.sc (.int k b)):=e ▸ bH.refl h _
attribute [go_sem] mf SI KZ List.foldl_cons List.foldl_nil
attribute [go_sem] undef ac pv Q7 iS ev cv pkA pk bv ib sh sb VH WA IY yS lC KF OM KS DE oU A0 OX OY slM Q6 tt Seq KM dX wX DS KG
attribute [go_sem] List.set_cons_succ List.set_cons_zero List.getD_cons_succ List.getD_cons_zero List.getElem?_cons_succ List.getElem?_cons_zero Option.bind_some Option.map_some Option.bind_none Option.map_none List.getElem?_toArray
 List.length_cons List.length_nil List.cons_append List.nil_append List.replicate true_and and_true forall_const if_true if_false false_and and_false false_implies implies_true true_implies Bool.not_true Bool.not_false not_true_eq_false not_false_eq_true decide_true decide_false decide_eq_true_eq decide_eq_false_iff_not List.head?_cons Int.natCast_zero List.map_nil List.drop_zero List.drop_succ_cons
section ops
variable {P:Program} {o:Oper} {K:AV→aF→Prop} {fr:Fr} {h:aF}
theorem jW {t u:TypeId} {x:Operand} (hop:o.op= .binOp .eql t x (.const (.slice none 0 0)) u) (ht:(m8 P t).isSome=true) {y:AV} (hx:ev fr x=y)
    (hy:(∃tag sz xs,y= .sl tag sz xs∧∀b:Bool,(xs≠ []→b=false)→K (.sc (.bool b)) h)∨(y= .sc (.slice none 0 0)∧K (.sc (.bool true)) h)∨(y= .e0∧∀b:Bool,K (.sc (.bool b)) h)):i6 P o K fr h:=by
  intro E w a r hv Nx Qx hn
  have vx:=hv x (by rw[hop]; simp[Op.operands])
  rw[hx] at vx
  obtain⟨s,hs⟩:=Option.isSome_iff_exists.1 ht
  obtain⟨e,hu,_⟩:=fQ hs
  have run:∀q n c,a.eval x= .slice q n c→(execOp a.eval o).run P w= .ok (.value (.bool q.isNone)) w:=by
    intro q n c he
    have h2:a.eval (.const (.slice none 0 0))= .slice none 0 0:=rfl
    simp only[execOp,hop,he,h2]
    have h3:(binOp .eql t (.slice q n c) (.slice none 0 0)).run P w= .ok (.bool q.isNone) w:=by
      simp only[binOp]
      simp[run_equal_slice_nil w t e q n c hu]
    simp[eqGuard,h3]
  unfold Oper.wp
  rcases hy with⟨tag,sz,xs,rfl,hk⟩ | ⟨rfl,hk⟩ | ⟨rfl,hk⟩
  · have vx':=vx
    simp only[VR] at vx
    obtain⟨q,cap,e1,_,_,h3,_⟩:=vx
    rw[run q _ cap e1]
    refine hn _ _ w E h (eR.refl E w) r (by simp only[VR]) (hk q.isNone ?_)
    intro hne
    obtain⟨g,oo,rfl,_⟩:=h3.resolve_left hne
    rfl
  · simp only[VR] at vx
    rw[run none 0 0 vx]
    exact hn _ _ w E h (eR.refl E w) r (by simp only[VR]; rfl) hk
  · simp only[VR] at vx
    obtain⟨q,e1⟩:=vx
    rw[run q 0 0 e1]
    exact hn _ _ w E h (eR.refl E w) r (by simp only[VR]) (hk q.isNone)
theorem DU {t e:TypeId} {sz b:Nat} (hop:o.op= .buildSlice t 0 #[]) (ht:kH P t e sz b) (hK:K .e0 h):i6 P o K fr h:=by
 intro E w a r hv Nx Qx hn
 obtain⟨cur,c1,c2⟩:=wW (w:=w) (a:=a) hop ht (by simp) (by simp) (by simp)
 obtain⟨E',e1,e2,e3⟩:=r.new_imm e (0,0) cur
 unfold Oper.wp
 rw[c2]
 exact hn _ _ _ E' h e2 e3 (by simp only[VR]; exact⟨_,rfl⟩) hK
def AB:List (List AV)→Option (List UInt8)
 | []=>some []
 | [.sc (.int .u8 n)]::r=>(AB r).map λs=>UInt8.ofNat n.toNat::s
 | _=>none
theorem wY {E:gP} {w:World}:∀ {xs:List (List AV)} {s:List UInt8},AB xs=some s→∀ {cv:List Value},cW E w xs.flatten cv→∃ns:List Int,cv=ns.map (Value.int .u8)∧ns.map (λn=>UInt8.ofNat n.toNat)=s
 | [],s,hs,cv,hv=>by
  cases hs
  cases cv with
  | nil=>exact⟨[],rfl,rfl⟩
  | cons _ _=>simp[cW] at hv
 | x::xs,s,hs,cv,hv=>by
  unfold AB at hs
  split at hs
  ·rename_i e; cases e
  ·rename_i n r e
   cases e
   simp only[Option.map_eq_some_iff] at hs
   obtain⟨s',h1,rfl⟩:=hs
   simp only[List.flatten_cons,List.cons_append,List.nil_append] at hv
   cases cv with
   | nil=>simp only[cW] at hv
   | cons c cv=>
    simp only[cW,VR] at hv
    obtain⟨rfl,hv⟩:=hv
    obtain⟨ns,h2,h3⟩:=wY h1 hv
    exact⟨n::ns,by rw[h2]; rfl,by rw[← h3]; rfl⟩
  ·cases hs
theorem FO (ns:List Int):∀(s:ByteArray),(ns.foldl (λr n=>r.push (UInt8.ofNat n.toNat)) s).data.toList=s.data.toList++ns.map λn=>UInt8.ofNat n.toNat:=by
 induction ns with
 | nil=>intro s; simp
 | cons n ns ih=>intro s; rw[List.foldl_cons,ih]; simp
theorem yV {a b:ByteArray} (h:a.data.toList=b.data.toList):a=b:=by
 cases a; cases b; congr 1; exact Array.ext' h
theorem PB {src dst e:TypeId} {x:Operand} (hop:o.op= .convert src dst x) (hs:P.underlying src=some (.slice e)) (he:P.underlying e=some (.int .u8)) (hd:P.underlying dst=some .string)
    {tag:Option cB} {xs:List (List AV)} (hx:ev fr x= .sl tag 1 xs) {s:List UInt8} (hstr:AB xs=some s) (hK:K (.sc (.string ⟨s.toArray⟩)) h):i6 P o K fr h:=by
  refine eA (x:=.sc (.string ⟨s.toArray⟩)) (λE w a r hv=> ?_) hK
  have vx:=hv x (by rw[hop]; simp[Op.operands])
  rw[hx] at vx
  refine⟨.string ⟨s.toArray⟩, ?_,by simp only[VR]⟩
  have hc:∀q n c,a.eval x= .slice q n c→∀v,(Conv.bytesToString (.slice q n c)).run P w= .ok v w→(execOp a.eval o).run P w= .ok (.value v) w:=by
    intro q n c he' v hr
    simp only[execOp,hop,he',Sem.run_bind]
    rw[run_convert_bytes_string w src dst e q n c hs he hd,hr]
    simp
  by_cases hne:xs= []
  · subst hne
    cases hstr
    simp only[VR] at vx
    obtain⟨q,cap,e1,_⟩:=vx
    refine hc _ _ _ e1 _ ?_
    cases q with
    | none=>simp[Conv.bytesToString]; rfl
    | some b=>
      exact run_bytesToString (P:=P) w b 0 cap [] (by simp[loadCells,loadCellsFrom])
  · obtain⟨g,oo,cap,cv,e1,c1,c2,c3,c4⟩:=mJ vx hne
    obtain⟨ns,h2,h3⟩:=wY hstr c1
    refine hc _ _ _ e1 _ ?_
    have hl:=run_loadCells_list (P:=P) w ⟨g,oo,none⟩ cv (λj v hj=>by rw[Addr.add_lit]; exact(c4 j v hj).1)
    rw[c3,Nat.mul_one,h2] at hl
    rw[run_bytesToString w ⟨g,oo,none⟩ xs.length cap ns (by simpa using hl)]
    congr 2
    apply yV
    rw[FO]
    simp[h3]
end ops
open Go.ChangeShapes Go.WideShapes
def E0 (W:World):gP:=⟨λg o=>(W.cell? ⟨g,o,none⟩).isSome=true,λg=>g < W.heap.size,λ_=>False,λ_=>none,λ_=>none⟩
def H0:aF:=λ_=>none
theorem fY.start (W:World):fY (E0 W) H0 W:=by
 refine⟨λ_ _ _ h=>(by cases h),λ_ _ _ _ h=>(by cases h),λ_ _ h=>(by cases h), ?_, ?_,λ_ _ h=>(by cases h),λ_ _ h=>(by cases h),λd=>⟨0,λn _ h=>h⟩, ?_,λg h=>h,λ_ _ h=>(by cases h)⟩
 ·rintro k k' g (⟨_,_,h,_⟩ | ⟨_,_,_,_,h,_⟩) <;> cases h
 ·rintro k g (⟨_,_,h,_⟩ | ⟨_,_,_,_,h,_⟩) <;> cases h
 ·intro g o h
  exact Option.isSome_iff_exists.1 h
section
variable {H:Type} {enc:TypeId×Value→H} {P:Program} {W W':World}
theorem qB {E':gP} (k:eR (E0 W) W E' W') (hl:laidOutB P=true):∀ {ts:List TypeId} {vs:List Value} {ds:List (DataW H)} {ps:List MemPlace},
    (∀t∈ts,P.readableRec t=true∧t < P.types.size)→(∀p∈ps,p.block < W.heap.size)→DataW.TrodAll enc P W 0 (λ_=>true) true ts vs ds ps→
    DataW.TrodAll enc P W' 0 (λb=>decide (b < W.heap.size)) true ts vs ds ps
  | [],_,_,_,_,_,h=>by
    obtain⟨rfl,rfl,rfl⟩:=trodAll_nil h
    rfl
  | t::ts,_,_,_,hr,hp,h=>by
    obtain⟨v,vs',d,ds',p,q,rfl,rfl,rfl,h1,h2⟩:=trodAll_cons h
    have hsame:∀x∈p,W.sameAt W' x:=by
      intro x hx
      have hb:=hp x (by simp[hx])
      have hk:=k.lock x.block hb
      cases x with
      | cell b off=>exact eJ hk off
      | map b=>exact hk
    exact⟨p,q,WideElems.Trod_stays hl (hr t (by simp)).1 (hr t (by simp)).2 h1 hsame (λx hx=>by simpa using hp x (by simp[hx])),
      qB k hl (λt' h'=>hr t' (by simp[h'])) (λx hx=>hp x (by simp[hx])) h2,rfl⟩
theorem A6 {f:Func} {s:ChangeSpec} {apart fresh handsOn:Bool} {E':gP} {args:Array Value} {ds gs:List (DataW H)} {before:List MemPlace} {t:TypeId} (hl:laidOutB P=true)
    (hr:∀t∈f.params.toList,P.readableRec t=true∧t < P.types.size) (hW:DataW.Whole enc P f.params.toList s.vars apart W args.toList ds gs before) (hv:s.vars= []) (k:eR (E0 W) W E' W')
    (ht:f.resultTypes= #[t]) (hb:P.underlying t=some .bool)
    (hfn:∀ds:List (DataW H),ds.length=f.params.toList.length→s.fn H ds= { results:= [.lit (.bool true)],args:=ds}):
    s.post enc P f apart fresh handsOn false W args (.bool true) W':=by
  have hlt:=hW.lt
  have hW0:=hW
  obtain⟨p,q,hA,hV,rfl,hfz,hnd⟩:=hW
  rw[hv] at hV
  obtain⟨rfl,rfl⟩:=trodVars_none hV
  have hlen:∀ {ts:List TypeId} {vs:List Value} {ds:List (DataW H)} {ps:List MemPlace},DataW.TrodAll enc P W 0 (λ_=>true) true ts vs ds ps→ds.length=ts.length:=by
    intro ts
    induction ts with
    | nil=>intro vs ds ps h; obtain⟨-,rfl, -⟩:=trodAll_nil h; rfl
    | cons t ts ih=>intro vs ds ps h; obtain⟨v,vs',d,ds',p,q, -,rfl, -, -,h2⟩:=trodAll_cons h; simp[ih h2]
  have e:=hfn ds (hlen hA)
  refine⟨ds, [],_, [],p, [],hW0, ?_, ?_, ?_, ?_,λh=>by cases h⟩
  · rw[List.append_nil,e,ht]
    exact⟨[], [],⟨1,by simp[DataW.trod,Value.cells,hb]⟩,rfl,rfl⟩
  · rw[List.append_nil,e]
    exact qB k hl hr (λx hx=>hlt x (by simp[hx])) hA
  · rw[List.append_nil,e,hv]
    rfl
  · refine⟨k.os,k.output,λi hi=> ?_⟩
    rw[k.lock i hi]
    cases hq:W.heap[i]? with
    | none=>trivial
    | some o=>cases o <;> simp
theorem I6 {E:gP} {w:World} {t:TypeId} {k:IntKind} {v:Value} {d:DataW H} {ps:List MemPlace} {base:Nat} (ht:P.underlying t=some (.int k)) (hval:Value.okWide P W .any base t v)
    (h:DataW.Trod enc P W 0 (λ_=>true) true t v d ps):∃n:Int,VR E w (.sc (.int k n)) v∧(Lit.int k n).wf=true:=by
  obtain⟨n,rfl, -, -,hw⟩:=open_int ht hval h
  exact⟨n,by simp only[VR],hw⟩
theorem LA {C:Checked} {os:Os} {f:FuncId} {fn:Func} {s:ChangeSpec} {conds:List PathCond} {apart fresh handsOn:Bool} {t:TypeId} (own:ownKnob C.prog.godebug=none) (started:os.Started) (noInit:C.prog.inits.idxOf? f=none) (hfn:C.prog.funcs[f]? =some fn)
    (witness:∃(w:World) (tape:Tape) (i:Input),w.os=os∧(w.forCall tape i).Shaped C.prog∧i.vars= []∧Input.okWide C.prog (w.forCall tape i) .any w.heap.size f i∧
      s.pre6 enc C.prog fn conds apart (w.forCall tape i).memory i.args∧({}:Assume).holds C.prog (lone (Frame.enter C.prog f i.args .normal) [] (w.forCall tape i)))
    (hl:laidOutB C.prog=true) (hr:∀t∈fn.params.toList,C.prog.readableRec t=true∧t < C.prog.types.size) (hv:s.vars= []) (ht:fn.resultTypes= #[t]) (hb:C.prog.underlying t=some .bool)
    (hs:∀ds:List (DataW H),ds.length=fn.params.toList.length→s.fn H ds= { results:= [.lit (.bool true)],args:=ds})
    (hrun:∀(W:World) (base:Nat) (args:Array Value) (ds:List (DataW H)) (ps:List MemPlace),(∀(j:Nat) t v,fn.params[j]? =some t→args[j]? =some v→Value.okWide C.prog W .any base t v)→
      DataW.TrodAll enc C.prog W 0 (λ_=>true) true fn.params.toList args.toList ds ps→∃avs,cW (E0 W) W avs args.toList∧aL C.prog f avs H0 (λr _=>r= .sc (.bool true))):
    ReturnsInHanded {} C os f .any (s.pre6 enc C.prog fn conds apart) (s.post enc C.prog fn apart fresh handsOn false):=by
  refine returnsInHanded_of_change own started noInit hfn witness ?_
  intro W base args ds gs before hval hW _ _
  have hW0:=hW
  obtain⟨p,q,hA,_,_,_,_⟩:=hW
  obtain⟨avs,h1,h2⟩:=hrun W base args ds p hval hA
  refine(h2 (E0 W) W args (fY.start W) h1).mono ?_
  rintro e W' ⟨v,E',x,h',rfl,k,r',vx,rfl⟩
  simp only[VR] at vx
  subst vx
  exact⟨_,rfl,A6 hl hr hW0 hv k ht hb hs⟩
end
section ops
variable {P:Program} {o:Oper} {K:AV→aF→Prop} {fr:Fr} {h:aF}
def SJ (op:BinOp) (a b:Bool):Option Bool:=match op with | .eql=>some (a==b) | .neq=>some (a !=b) | _=>none
theorem PC {op:BinOp} {t u:TypeId} {x y:Operand} (hop:o.op= .binOp op t x y u) (ht:P.underlying t=some .bool) {a b r:Bool} (hx:ev fr x= .sc (.bool a)) (hy:ev fr y= .sc (.bool b)) (hr:SJ op a b=some r)
    (hK:K (.sc (.bool r)) h):i6 P o K fr h:=by
  refine eA (x:=.sc (.bool r)) (λE w ac _ hv=> ?_) hK
  have vx:=hv x (by rw[hop]; simp[Op.operands])
  have vy:=hv y (by rw[hop]; simp[Op.operands])
  rw[hx] at vx; rw[hy] at vy
  simp only[VR] at vx vy
  refine⟨.bool r, ?_,by simp only[VR]⟩
  have he:∀d,(Op.equalIn (d+1) t (.bool a) (.bool b)).run P w= .ok (a==b) w:=λd=>run_equalIn_bool' w d t a b ht
  simp only[execOp,hop,vx,vy]
  cases op <;> simp only[SJ,Option.some.injEq,reduceCtorEq] at hr
  · subst hr
    simp[eqGuard,binOp,Op.equal,Op.maxDepth,he 9999]
  · subst hr
    simp[eqGuard,binOp,Op.equal,Op.maxDepth,he 9999]
    cases a <;> cases b <;> rfl
end ops
inductive Frz (k:cB) (cs:List AV):AV→AV→Prop where
 | same (x:AV):Frz k cs x x
 | view (off n sz:Nat):0 < sz→off+n*sz≤cs.length→Frz k cs (.view k off n) (.sl none sz (FL sz n (cs.drop off)))
inductive yW (k:cB) (cs:List AV):List AV→List AV→Prop where
 | nil:yW k cs [] []
 | cons {x y:AV} {xs ys:List AV}:Frz k cs x y→yW k cs xs ys→yW k cs (x::xs) (y::ys)
theorem yW.refl (k:cB) (cs:List AV):∀(xs:List AV),yW k cs xs xs
 | []=>.nil
 | x::xs=>.cons (.same x) (yW.refl k cs xs)
theorem yW.set (k:cB) (cs:List AV) {off n sz:Nat} (h0:0 < sz) (h1:off+n*sz≤cs.length):∀(i:Nat) (xs:List AV),xs[i]? =some (.view k off n)→yW k cs xs (xs.set i (.sl none sz (FL sz n (cs.drop off))))
 | _, [],h=>by simp at h
 | 0,x::xs,h=>by
  simp only[List.getElem?_cons_zero,Option.some.injEq] at h
  subst h
  exact .cons (.view off n sz h0 h1) (yW.refl k cs xs)
 | i+1,x::xs,h=>.cons (.same x) (yW.set k cs h0 h1 i xs (by simpa using h))
def own (t:Option cB) (sz:Nat) (xs:List (List AV)):AV:=match t with
 | none=>.sc (.slice none 0 0)
 | some k=>.sl (some k) sz xs
structure Q8 (h:aF) (t:Option cB) (xs:List (List AV)):Prop where
 nil:t=none→xs= []
 new:∀k,t=some k→h k=none
theorem Q8.none (h:aF):Q8 h none []:=⟨λ_=>rfl,λ_ e=>(by cases e)⟩
theorem cU.put {h:aF} {x y:AV}:∀(i:Nat) (fr:List AV),fr[i]? =some x→bH h x y→cU h fr (fr.set i y)
 | _, [],e,_=>by simp at e
 | 0,z::fr,e,hl=>by
  simp only[List.getElem?_cons_zero,Option.some.injEq] at e
  subst e
  exact .cons hl (cU.refl h fr)
 | i+1,z::fr,e,hl=>.cons (bH.refl h z) (cU.put i fr (by simpa using e) hl)
section ops
variable {P:Program} {o:Oper} {K:AV→aF→Prop} {fr:Fr} {h:aF}
end ops
abbrev KV:=Nat→AV
def k0:KV:=λ_=>.any
def kp (f:KV) (d:Nat) (x:AV):KV:=λt=>bif Nat.beq d t then x else f t
def fm (n:Nat) (f:KV):Fr:=(List.range n).map f
def lk (n:Nat) (f:KV) (t:Nat):AV:=bif Nat.blt t n then f t else .any
def dI (n:Nat) (f:KV):Operand→AV
 | .tmp t=>lk n f t
 | .const v=>cv v
 | .global _=>.any
 | .func f=>.fn (.func f) []
def kO (f:KV) (d:Option Tmp) (x:AV):KV:=match d with | some d=>kp f d x | none=>f
theorem o7 (n:Nat) (f:KV) (t:Nat):(fm n f)[t]? =if t < n then some (f t) else none:=by
 unfold fm
 rw[List.getElem?_map]
 by_cases h:t < n
 ·rw[List.getElem?_range h]; simp[h]
 ·rw[List.getElem?_eq_none (by simpa using h)]; simp[h]
theorem mF (n:Nat) (f:KV):(fm n f).length=n:=by simp[fm]
theorem lU (n:Nat) (f:KV) (t:Nat):lk n f t=if t < n then f t else .any:=by
 unfold lk
 by_cases h:t < n
 ·have:Nat.blt t n=true:=by rw[Nat.blt_eq]; exact h
  simp[this,h]
 ·have:Nat.blt t n=false:=by
   cases e:Nat.blt t n with
   | false=>rfl
   | true=>rw[Nat.blt_eq] at e; exact absurd e h
  simp[this,h]
theorem bN (n:Nat) (f:KV) (o:Operand):ev (fm n f) o=dI n f o:=by
 cases o with
 | tmp t=>
  simp only[ev,dI,List.getD,o7,lU]
  split <;> rfl
 | const v=>rfl
 | global g=>rfl
 | func f=>rfl
theorem l6 (f:KV) (d:Nat) (x:AV):kp f d x d=x:=by simp[kp]
theorem qC (f:KV) {d t:Nat} (x:AV) (h:d≠t):kp f d x t=f t:=by
 have:Nat.beq d t=false:=by
  cases e:Nat.beq d t with
  | false=>rfl
  | true=>exact absurd (Nat.eq_of_beq_eq_true e) h
 simp[kp,this]
theorem kY (n:Nat) (f:KV) (d:Option Tmp) (x:AV):iS (fm n f) d x=fm n (kO f d x):=by
 cases d with
 | none=>rfl
 | some d=>
  simp only[iS,kO]
  apply List.ext_getElem?
  intro t
  rw[List.getElem?_set,mF,o7,o7]
  by_cases h:d=t
  ·subst h
   simp[l6]
  ·simp[h,qC]
theorem AC {n:Nat} {f:KV} {t:Nat} {u:Value} (h:lk n f t= .sc u):(fm n f)[t]? =some (.sc u):=by
 rw[lU] at h
 rw[o7]
 split at h
 ·rename_i q; rw[if_pos q,h]
 ·cases h
def FT (h:aF) (n:Nat) (f g:KV):Prop:=∀t,t < n→bH h (f t) (g t)
theorem FT.nil {h:aF} {n:Nat} {f:KV}:FT h n f k0:=λ_ _=>bH.any _ _
theorem FT.cons {h:aF} {n:Nat} {f g:KV} {d:Nat} {v:AV} (hv:bH h (lk n f d) v) (hf:FT h n f g):FT h n f (kp g d v):=by
 intro t ht
 by_cases e:d=t
 ·subst e
  rw[lU,if_pos ht] at hv
  rw[l6]; exact hv
 ·rw[qC _ _ e]; exact hf t ht
theorem o8 {h:aF}:∀ {xs ys:List AV},xs.length=ys.length→(∀(i:Nat) (x y:AV),xs[i]? =some x→ys[i]? =some y→bH h x y)→cU h xs ys
 | [], [],_,_=>.nil
 | x::xs,y::ys,hl,hg=>.cons (hg 0 x y rfl rfl) (o8 (by simpa using hl) λi a b ha hb=>hg (i+1) a b (by simpa using ha) (by simpa using hb))
 | [],_::_,hl,_=>by simp at hl
 | _::_, [],hl,_=>by simp at hl
theorem PD {h:aF} {n:Nat} {f g:KV} (hf:FT h n f g):cU h (fm n f) (fm n g):=by
 refine o8 (by rw[mF,mF]) ?_
 intro i x y hx hy
 rw[o7] at hx hy
 by_cases hi:i < n
 ·rw[if_pos hi] at hx hy
  cases hx; cases hy
  exact hf i hi
 ·rw[if_neg hi] at hx; cases hx
def i7 (fr':Fr) (h':aF) (fr:Fr) (h:aF):Prop:=
 ∀E w vs,fY E h w→cW E w fr vs→∃E',eR E w E' w∧fY E' h' w∧cW E' w fr' vs
theorem i7.of {fr fr':Fr} {h h':aF} (hs:h9 h' h) (hl:cU h' fr fr'):i7 fr' h' fr h:=λE w vs r v=>by
 obtain⟨E',k,r'⟩:=r.drop hs
 exact⟨E',k,r',hl.spec r' (cP k _ _ v)⟩
theorem i7.fm {n:Nat} {f g:KV} {h h':aF} (hs:h9 h' h) (hf:FT h' n f g):i7 (fm n g) h' (fm n f) h:=.of hs (PD hf)
theorem i7.trans {fr fr1 fr2:Fr} {h h1 h2:aF} (a:i7 fr1 h1 fr h) (b:i7 fr2 h2 fr1 h1):i7 fr2 h2 fr h:=λE w vs r v=>by
 obtain⟨E',k,r',v'⟩:=a E w vs r v
 obtain⟨E'',k',r'',v''⟩:=b E' w vs r' v'
 exact⟨E'',k.trans k',r'',v''⟩
theorem i7.aw {P:Program} {c:Code} {Q:Exit→Fr→aF→Prop} {fr fr':Fr} {h h':aF} (le:i7 fr' h' fr h) (hc:AW P c Q fr' h'):AW P c Q fr h:=by
 intro E w a r v d
 obtain⟨E',k,r',v'⟩:=le E w _ r v
 exact wp_mono (hc E' w a r' v' d) λ_ _ _ p=>p.trans k
section rules
variable {P:Program} {Q:Exit→Fr→aF→Prop} {h:aF} {n:Nat} {kvs:KV}
def A7:Nat→List AV→KV
 | _, []=>k0
 | i,x::xs=>kp (A7 (i+1) xs) i x
theorem tQ (undefs:Nat):∀(i:Nat) (xs:List AV) (t:Nat),A7 i xs (i+t)=(xs++List.replicate undefs AV.any).getD t AV.any
 | i, [],t=>by
  simp only[A7,k0,List.nil_append,List.getD,List.getElem?_replicate]
  split <;> rfl
 | i,x::xs,0=>by simp[A7,kp]
 | i,x::xs,t+1=>by
  simp only[A7]
  rw[qC _ _ (by omega)]
  have:=tQ undefs (i+1) xs t
  rw[show i+1+t=i+(t+1) from by omega] at this
  rw[this]
  simp
theorem AD {f:FuncId} {fn:Func} {c:Code} {args:List AV} {Q:AV→aF→Prop} (n:Nat) (rs:List ResultVar) (hf:P.funcs[f]? =some fn) (hb:fn.body=some c) (hn:fn.ntmps=n) (hr:fn.results.toList=rs) (hle:Nat.ble args.length n=true)
    (hc:AW P c (dX P rs Q) (fm n (A7 0 args)) h):aL P f args h Q:=by
  have hle:=Nat.le_of_ble_eq_true hle
  refine A5 hf hb ?_
  rw[hn,hr]
  refine WB (h9.refl h) (o8 ?_ ?_) hc
  · rw[mF,List.length_append,List.length_replicate]; omega
  · intro i x y hx hy
    rw[o7] at hy
    split at hy
    · cases hy
      have e:=tQ (n - args.length) 0 args i
      rw[Nat.zero_add] at e
      rw[e]
      by_cases hi:i < args.length
      · rw[List.getElem?_append_left hi] at hx
        simp only[List.getD,List.getElem?_append_left hi,hx,Option.getD_some]
        exact bH.refl _ _
      · simp only[List.getD,List.getElem?_append_right (Nat.le_of_not_lt hi),List.getElem?_replicate]
        split <;> exact bH.any _ _
    · cases hy
theorem eL {id:Nat} {l:List Oper} (hl:i9 P l.toArray l (Q .normal) (fm n kvs) h):AW P (.region id l.toArray false) Q (fm n kvs) h:=zW hl
theorem m9 {c:Operand} {x y:Code} {t:Bool} (hc:dI n kvs c= .sc (.bool t)) (ht:t=true→AW P x Q (fm n kvs) h) (hf:t=false→AW P y Q (fm n kvs) h):AW P (.cond c x y) Q (fm n kvs) h:=
 V9 (by rw[bN]; exact hc) ht hf
theorem FP (P:Program) (h:aF) {t:Nat}:DS P h (fm n kvs) (.tmp t)=some (lk n kvs t):=by
 have:=bN n kvs (.tmp t)
 simp only[ev,dI] at this
 simp only[DS,this]
theorem dX.one {Q:AV→aF→Prop} {t:Nat} {e:Exit} {y:AV} {h'':aF} (he:e= .ret∨e= .normal) (hs:h9 h'' h) (hl:bH h'' (lk n kvs t) y) (hq:Q y h''):dX P [.tmp t] Q e (fm n kvs) h:=by
 rcases he with rfl | rfl <;> exact⟨_,y,h'',FP P h,hs,hl,hq⟩
theorem dX.zero {Q:AV→aF→Prop} {e:Exit} {h'':aF} (he:e= .ret∨e= .normal) (hs:h9 h'' h) (hq:Q (.tup []) h''):dX P [] Q e (fm n kvs) h:=by
 rcases he with rfl | rfl <;> exact⟨_,.tup [],h'',rfl,hs,bH.refl _ _,hq⟩
theorem dX.two {Q:AV→aF→Prop} {t u:Nat} {e:Exit} {y z:AV} {h'':aF} (he:e= .ret∨e= .normal) (hs:h9 h'' h) (hl:bH h'' (lk n kvs t) y) (hl':bH h'' (lk n kvs u) z) (hq:Q (.tup [y,z]) h''):dX P [.tmp t,.tmp u] Q e (fm n kvs) h:=by
 have hx:wX P h (fm n kvs) [.tmp t,.tmp u]=some (.tup [lk n kvs t,lk n kvs u]):=by
  simp only[wX,KG,FP,Option.bind_some,Option.map_some]
 rcases he with rfl | rfl <;> exact⟨_,_,h'',hx,hs,bH.tup (.cons hl (.cons hl' .nil)),hq⟩
inductive Lp (σ ρ:Type) where
 | go (s:σ)
 | brk (s:σ)
 | ret (r:ρ)
def aT {σ ρ:Type} (step:σ→Option (Lp σ ρ)):Nat→σ→Option (Lp σ ρ)
 | 0,_=>none
 | k+1,s=>match step s with
  | some (.go s')=>aT step k s'
  | x=>x
def after {σ ρ:Type} (m:Option (Lp σ ρ)) (k:σ→Option ρ):Option ρ:=match m with
 | some (.brk s)=>k s
 | some (.ret r)=>some r
 | _=>none
theorem aC {α ρ:Type} {x:Option α} {k:α→Option ρ} {o:ρ} (hm:x.bind k=some o):∃a,x=some a∧k a=some o:=by
 cases x with
 | none=>cases hm
 | some a=>exact⟨a,rfl,hm⟩
def ix {α:Type} (l:List α) (i:Int):Option α:=if 0≤i then l[i.toNat]? else none
theorem f0 {α:Type} {l:List α} {i:Int} {x:α} (h:ix l i=some x):0≤i∧i < l.length∧l[i.toNat]? =some x:=by
 unfold ix at h
 split at h
 ·have:=(List.getElem?_eq_some_iff.1 h).1
  exact⟨by assumption,by omega,h⟩
 ·cases h
end rules
def eN (P:Program) (o:Oper) (x:AV) (fr:Fr) (h:aF):Prop:=i6 P o (λx' h'=>x'=x∧h'=h) fr h
section ops
variable {P:Program} {ops:Array Oper} {K:Fr→aF→Prop} {h:aF} {n:Nat} {kvs:KV} {l:List Oper} {ty:TypeId} {pos:String} {dP:Array Edge}
theorem fT (hk:K (fm n kvs) h):i9 P ops [] K (fm n kvs) h:=DJ hk
theorem lD {dst:Option Tmp} {op:Op} (ho:i6 P ⟨dst,op,ty,pos,dP,none⟩ (λx h'=>i9 P ops l K (fm n (kO kvs dst x)) h') (fm n kvs) h):i9 P ops (⟨dst,op,ty,pos,dP,none⟩::l) K (fm n kvs) h:=
 FH rfl (ho.mono λx h' q=>by rw[kY]; exact q)
theorem rD {dst:Option Tmp} {op:Op} {x:AV} (ho:eN P ⟨dst,op,ty,pos,dP,none⟩ x (fm n kvs) h) (k:i9 P ops l K (fm n (kO kvs dst x)) h):i9 P ops (⟨dst,op,ty,pos,dP,none⟩::l) K (fm n kvs) h:=
 lD (ho.mono λx' h' q=>by rw[q.1,q.2]; exact k)
theorem q_v {K:Fr→Prop} {dst:Option Tmp} {op:Op} {x:AV} (ho:eN P ⟨dst,op,ty,pos,dP,none⟩ x (fm n kvs) h) (k:fL P ops h K l (fm n (kO kvs dst x))):fL P ops h K (⟨dst,op,ty,pos,dP,none⟩::l) (fm n kvs):=
 AZ x rfl ho (by rw[kY]; exact k)
theorem WD {dst:Option Tmp} {op:Op} {j:Nat} {want b:Bool} {dj:Nat} (hd:(ops[j]?).bind (·.dst)=some dj) (hu:lk n kvs dj= .sc (.bool b)) (hb:b=want)
    (k:i9 P ops (⟨dst,op,ty,pos,dP,none⟩::l) K (fm n kvs) h):i9 P ops (⟨dst,op,ty,pos,dP,some (j,want)⟩::l) K (fm n kvs) h:=by
  refine A3 (o:=⟨dst,op,ty,pos,dP,some (j,want)⟩) ?_ k
  intro E w a v
  simp[Region.wanted,mI v hd (AC hu),hb]
theorem WE {dst:Option Tmp} {op:Op} {j:Nat} {want b:Bool} {dj:Nat} (hd:(ops[j]?).bind (·.dst)=some dj) (hu:lk n kvs dj= .sc (.bool b)) (hb:b= !want)
    (k:i9 P ops l K (fm n (kO kvs dst (.sc undef))) h):i9 P ops (⟨dst,op,ty,pos,dP,some (j,want)⟩::l) K (fm n kvs) h:=by
  refine zV (o:=⟨dst,op,ty,pos,dP,some (j,want)⟩) ?_ (by rw[kY]; exact k)
  intro E w a v
  simp[Region.wanted,mI v hd (AC hu),hb]
theorem aCJ {dst:Option Tmp} {op:Op} {j:Nat} {want:Bool} {dj:Nat} {vs:Array Value} (hd:(ops[j]?).bind (·.dst)=some dj) (hu:lk n kvs dj= .sc (.tuple vs))
    (k:i9 P ops l K (fm n (kO kvs dst (.sc undef))) h):i9 P ops (⟨dst,op,ty,pos,dP,some (j,want)⟩::l) K (fm n kvs) h:=by
  refine zV (o:=⟨dst,op,ty,pos,dP,some (j,want)⟩) ?_ (by rw[kY]; exact k)
  intro E w a v
  simp[Region.wanted,mI v hd (AC hu)]
theorem WF {K:Fr→Prop} {dst:Option Tmp} {op:Op} {j:Nat} {want b:Bool} {dj:Nat} (hd:(ops[j]?).bind (·.dst)=some dj) (hu:lk n kvs dj= .sc (.bool b)) (hb:b=want)
    (k:fL P ops h K (⟨dst,op,ty,pos,dP,none⟩::l) (fm n kvs)):fL P ops h K (⟨dst,op,ty,pos,dP,some (j,want)⟩::l) (fm n kvs):=by
  subst hb
  obtain⟨x,hy,hn⟩:=k
  rcases hy with⟨_,h2⟩ | ⟨h1,_⟩
  · exact tM (o:=⟨dst,op,ty,pos,dP,some (j,b)⟩) x rfl hd (AC hu) (λE w a r v=>h2 E w a r v) hn
  · rcases h1 with⟨_,h1⟩ | ⟨_,_,_,h1,_⟩
    · cases h1
    · cases h1
theorem WG {K:Fr→Prop} {dst:Option Tmp} {op:Op} {j:Nat} {want b:Bool} {dj:Nat} (hd:(ops[j]?).bind (·.dst)=some dj) (hu:lk n kvs dj= .sc (.bool b)) (hb:b= !want)
    (k:fL P ops h K l (fm n (kO kvs dst (.sc undef)))):fL P ops h K (⟨dst,op,ty,pos,dP,some (j,want)⟩::l) (fm n kvs):=by
  subst hb
  exact oR (o:=⟨dst,op,ty,pos,dP,some (j,want)⟩) rfl hd (.inl (AC hu)) (by rw[kY]; exact k)
theorem aCK {K:Fr→Prop} {dst:Option Tmp} {op:Op} {j:Nat} {want:Bool} {dj:Nat} {vs:Array Value} (hd:(ops[j]?).bind (·.dst)=some dj) (hu:lk n kvs dj= .sc (.tuple vs))
    (k:fL P ops h K l (fm n (kO kvs dst (.sc undef)))):fL P ops h K (⟨dst,op,ty,pos,dP,some (j,want)⟩::l) (fm n kvs):=
  oR (o:=⟨dst,op,ty,pos,dP,some (j,want)⟩) rfl hd (.inr ⟨_,AC hu⟩) (by rw[kY]; exact k)
theorem jU {dst:Option Tmp} {op:Op} {c:Prop} {x:AV} (hp:pv P h (fm n kvs) op=some (c,x)) (hc:c):eN P ⟨dst,op,ty,pos,dP,none⟩ x (fm n kvs) h:=
 SF hp hc ⟨rfl,rfl⟩
theorem eW {dst:Option Tmp} {a:Operand} (x:AV) (hx:dI n kvs a=x):
    eN P ⟨dst,.move a,ty,pos,dP,none⟩ (x) (fm n kvs) h:=
  jU (by simp only[pv,bN,hx]) trivial
theorem iB {dst:Option Tmp} {a:Operand} (x:AV) (hx:dI n kvs a=x):
    eN P ⟨dst,.assign a,ty,pos,dP,none⟩ (x) (fm n kvs) h:=
  jU (by simp only[pv,bN,hx]) trivial
theorem lE {dst:Option Tmp} {op:BinOp} {t u:TypeId} {a b:Operand} {q:IntKind} {x y:Int} {c:Prop} {v:Value} (ha:dI n kvs a= .sc (.int q x)) (hb:dI n kvs b= .sc (.int q y)) (hv:bv op (.sc (.int q x)) (.sc (.int q y))=some (c,v)) (hc:c):
    eN P ⟨dst,.binOp op t a b u,ty,pos,dP,none⟩ ((.sc v)) (fm n kvs) h:=
  jU (c:=c) (x:=.sc v) (by simp only[pv,bN,ha,hb,hv,Option.map_some]) hc
theorem SK {dst:Option Tmp} {op:BinOp} {t u:TypeId} {a b:Operand} {q r:IntKind} {x y:Int} {c:Prop} {v:Value} (ha:dI n kvs a= .sc (.int q x)) (hb:dI n kvs b= .sc (.int r y)) (hv:bv op (.sc (.int q x)) (.sc (.int r y))=some (c,v)) (hc:c):
    eN P ⟨dst,.binOp op t a b u,ty,pos,dP,none⟩ ((.sc v)) (fm n kvs) h:=
  jU (c:=c) (x:=.sc v) (by simp only[pv,bN,ha,hb,hv,Option.map_some]) hc
theorem vI {dst:Option Tmp} {op:BinOp} {t u:TypeId} {a b:Operand} {x y:ByteArray} {c:Prop} {v:Value} (ha:dI n kvs a= .sc (.string x)) (hb:dI n kvs b= .sc (.string y)) (hv:sb op x y=some (c,v)) (hc:c):
    eN P ⟨dst,.binOp op t a b u,ty,pos,dP,none⟩ ((.sc v)) (fm n kvs) h:=
  jU (c:=c) (x:=.sc v) (by simp only[pv,bN,ha,hb,bv,hv,Option.map_some]) hc
theorem PE {dst:Option Tmp} {op:BinOp} {t u:TypeId} {a b:Operand} {x y r:Bool} (ht:P.underlying t=some .bool) (ha:dI n kvs a= .sc (.bool x)) (hb:dI n kvs b= .sc (.bool y)) (hr:SJ op x y=some r):
    eN P ⟨dst,.binOp op t a b u,ty,pos,dP,none⟩ ((.sc (.bool r))) (fm n kvs) h:=
  PC rfl ht (by rw[bN]; exact ha) (by rw[bN]; exact hb) hr ⟨rfl,rfl⟩
theorem WH {dst:Option Tmp} {t:TypeId} {a:Operand} {x:Bool} (ha:dI n kvs a= .sc (.bool x)):
    eN P ⟨dst,.unOp .not t a,ty,pos,dP,none⟩ ((.sc (.bool (!x)))) (fm n kvs) h:=
  jU (c:=True) (x:=.sc (.bool (!x))) (by simp only[pv,bN,ha,VH,Option.map_some,tt]) trivial
theorem I7 {dst:Option Tmp} {t u:TypeId} {a:Operand} {q r p:IntKind} {x:Int} (ht:vD P t=some p) (hu:vD P u=some r) (ha:dI n kvs a= .sc (.int q x)):
    eN P ⟨dst,.convert t u a,ty,pos,dP,none⟩ ((.sc (.int r (r.wrap x)))) (fm n kvs) h:=
  jU (c:=True) (x:=.sc (.int r (r.wrap x))) (by simp only[pv,bN,ha,ht,hu,WA,Option.map_some,Option.bind_some,tt]) trivial
theorem WI {dst:Option Tmp} {a:Operand} {i:Nat} {xs:List AV} (x:AV) (ha:dI n kvs a= .tup xs) (hx:xs[i]? =some x):
    eN P ⟨dst,.extract a i,ty,pos,dP,none⟩ (x) (fm n kvs) h:=
  jU (c:=True) (x:=x) (by simp only[pv,bN,ha,yS,hx,Option.map_some,tt]) trivial
theorem WJ {dst:Option Tmp} {a:Operand} {t:TypeId} {tag:Option cB} {sz:Nat} {xs:List (List AV)} (ht:vG P t=some true) (ha:dI n kvs a= .sl tag sz xs):
    eN P ⟨dst,.call { callee:=.builtin .len,args:= #[a],argTypes:= #[t]},ty,pos,dP,none⟩ ((.sc (.int .i64 xs.length))) (fm n kvs) h:=
  jU (c:=True) (x:=.sc (.int .i64 xs.length)) (by simp only[pv,Q7,bN,ha,ht,Q6,Option.map_some,Option.bind_some,tt,if_true]) trivial
theorem tT {α:Type} {e:α→List AV} {xs:List α} {dst:Option Tmp} {a:Operand} {t:TypeId} {tag:Option cB} {sz:Nat} (ht:vG P t=some true) (ha:dI n kvs a= .sl tag sz (xs.map e)):
    eN P ⟨dst,.call { callee:=.builtin .len,args:= #[a],argTypes:= #[t]},ty,pos,dP,none⟩ ((.sc (.int .i64 xs.length))) (fm n kvs) h:=
  by
  have:=WJ (P:=P) (h:=h) (n:=n) (kvs:=kvs) (dst:=dst) (ty:=ty) (pos:=pos) (dP:=dP) ht ha
  rwa [List.length_map] at this
theorem nW {dst:Option Tmp} {a:Operand} {t:TypeId} {s:ByteArray} (ht:vG P t=some false) (ha:dI n kvs a= .sc (.string s)):
    eN P ⟨dst,.call { callee:=.builtin .len,args:= #[a],argTypes:= #[t]},ty,pos,dP,none⟩ ((.sc (.int .i64 s.size))) (fm n kvs) h:=
  jU (c:=True) (x:=.sc (.int .i64 s.size)) (by simp[pv,Q7,bN,ha,ht,Q6,tt]) trivial
theorem l8 {α:Type} {e:α→List AV} {xs:List α} {x:α} {dst:Option Tmp} {a b:Operand} {t:TypeId} {tag:Option cB} {sz:Nat} {q:IntKind} {i:Int} (hi:ix xs i=some x) (ht:m8 P t=some sz) (ha:dI n kvs a= .sl tag sz (xs.map e)) (hb:dI n kvs b= .sc (.int q i)):
    eN P ⟨dst,.indexAddr t a b,ty,pos,dP,none⟩ ((.rp tag (e x))) (fm n kvs) h:=by
  obtain⟨h0,h1,h2⟩:=f0 hi
  refine jU (c:=(sz=sz∧0≤i)∧i < (xs.map e).length) (x:=.rp tag (e x)) ?_ ⟨⟨rfl,h0⟩,by rw[List.length_map]; exact h1⟩
  have:(xs.map e).getD i.toNat []=e x:=by simp[List.getD,h2]
  simp only[pv,bN,ha,hb,lC,KF,ht,Option.bind_some,this]
theorem oY {dst:Option Tmp} {a:Operand} {t:TypeId} {f:Nat} {tag:Option cB} {cs:List AV} {o s:Nat} (hf:lB P t f=some (o,s)) (hs:Nat.beq s 0=false) (ha:dI n kvs a= .rp tag cs):
    eN P ⟨dst,.fieldAddr t a f,ty,pos,dP,none⟩ ((.rp tag (cs.drop o))) (fm n kvs) h:=by
  have h0:¬s=0:=λe=>by subst e; cases hs
  exact jU (c:=True) (x:=.rp tag (cs.drop o)) (by simp only[pv,bN,ha,hf,Option.bind_some,h0,if_false,OM,Option.map_some,tt]) trivial
theorem LB {dst:Option Tmp} {a:Operand} {t:TypeId} {f:Nat} {q:cB} {off:Nat} {o s:Nat} (hf:lB P t f=some (o,s)) (hs:Nat.beq s 0=false) (ha:dI n kvs a= .ptr q off):
    eN P ⟨dst,.fieldAddr t a f,ty,pos,dP,none⟩ ((.ptr q (off+o))) (fm n kvs) h:=by
  have h0:¬s=0:=λe=>by subst e; cases hs
  exact jU (c:=True) (x:=.ptr q (off+o)) (by simp only[pv,bN,ha,hf,Option.bind_some,h0,if_false,OM,Option.map_some,tt]) trivial
theorem mN {dst:Option Tmp} {a:Operand} {t:TypeId} {tag:Option cB} {cs:List AV} {ag:Bool} {m:Nat} (x:AV) (ht:l4 P t=some (ag,m)) (ha:dI n kvs a= .rp tag cs) (hx:DE ag m cs=some x):
    eN P ⟨dst,.load t a,ty,pos,dP,none⟩ (x) (fm n kvs) h:=
  jU (c:=True) (x:=x) (by simp only[pv,bN,ha,ht,Option.bind_some,KS,hx,Option.map_some,tt]) trivial
theorem nG {dst:Option Tmp} {a:Operand} {t:TypeId} {q:cB} {off:Nat} {oty:TypeId} {cs:List AV} {ag:Bool} {m:Nat} (x:AV) (ht:l4 P t=some (ag,m)) (ha:dI n kvs a= .ptr q off) (hk:h q=some (.obj oty cs)) (hx:DE ag m (cs.drop off)=some x):
    eN P ⟨dst,.load t a,ty,pos,dP,none⟩ (x) (fm n kvs) h:=
  jU (c:=True) (x:=x) (by simp only[pv,bN,ha,ht,Option.bind_some,KS,hk,hx,Option.map_some,tt]) trivial
theorem cK {K:AV→aF→Prop} {dst:Option Tmp} {f:FuncId} {g:Operand} {args:Array Operand} {ts:Array TypeId} {caps az:List AV} {Q:AV→aF→Prop} (hc:aL P f az h Q) (hg:dI n kvs g= .fn (.func f) caps) (hb:aO P f=true) (ha:args.toList.map (dI n kvs)++caps=az)
    (k:∀x h',Q x h'→K x h'):i6 P ⟨dst,.call { callee:=.value g,args:=args,argTypes:=ts},ty,pos,dP,none⟩ K (fm n kvs) h:=by
  refine DM rfl (by rw[bN]; exact hg) hb ?_
  have e:args.toList.map (ev (fm n kvs))=args.toList.map (dI n kvs):=List.map_congr_left λo _=>bN n kvs o
  rw[e,ha]
  exact hc.mono λx h' q=>k x h' q
theorem bZ {dst:Option Tmp} {f:FuncId} {g:Operand} {args:Array Operand} {ts:Array TypeId} {caps az:List AV} {x:AV} (hc:aL P f az h (λx' h'=>x'=x∧h'=h)) (hg:dI n kvs g= .fn (.func f) caps) (hb:aO P f=true) (ha:args.toList.map (dI n kvs)++caps=az):
    eN P ⟨dst,.call { callee:=.value g,args:=args,argTypes:=ts},ty,pos,dP,none⟩ x (fm n kvs) h:=by
  refine DM rfl (by rw[bN]; exact hg) hb ?_
  have e:args.toList.map (ev (fm n kvs))=args.toList.map (dI n kvs):=List.map_congr_left λo _=>bN n kvs o
  rw[e,ha]
  exact hc
end ops
abbrev HL:=List (Option cB×iE)
def hp (h0:aF):HL→aF
 | []=>h0
 | (none,_)::r=>hp h0 r
 | (some k,e)::r=>upd (hp h0 r) k (some e)
def bV (h0:aF):HL→Prop
 | []=>True
 | (t,_)::r=>bV h0 r∧∀k,t=some k→hp h0 r k=none
theorem a9 {h0:aF} {k:cB} {e:iE}:∀ {L:HL} (i:Nat),bV h0 L→L[i]? =some (some k,e)→hp h0 L k=some e
 | [],i,_,h=>by simp at h
 | (t,e')::r,0,_,h=>by
  simp only[List.getElem?_cons_zero,Option.some.injEq,Prod.mk.injEq] at h
  obtain⟨rfl,rfl⟩:=h
  simp only[hp,dL]
 | (t,e')::r,i+1,ok,h=>by
  have ih:=a9 (L:=r) i ok.1 (by simpa using h)
  cases t with
  | none=>exact ih
  | some k'=>
   have:k≠k':=λq=>by
    have:=ok.2 k' rfl
    rw[← q,ih] at this
    cases this
   simp only[hp]
   rw[cQ _ _ this]
   exact ih
theorem jR {h0:aF} {k:cB} {e:iE}:∀ {L:HL},bV h0 L→h0 k=some e→hp h0 L k=some e
 | [],_,h=>h
 | (t,e')::r,ok,h=>by
  have ih:=jR (L:=r) ok.1 h
  cases t with
  | none=>exact ih
  | some k'=>
   have:k≠k':=λq=>by
    have:=ok.2 k' rfl
    rw[← q,ih] at this
    cases this
   simp only[hp]
   rw[cQ _ _ this]
   exact ih
theorem aS {h0:aF}:∀ {L' L:HL},L'.Sublist L→bV h0 L→h9 (hp h0 L') (hp h0 L)∧bV h0 L':=by
 intro L' L hs
 induction hs with
 | slnil=>intro _; exact⟨h9.refl _,trivial⟩
 | @cons l1 l2 a hs ih=>
  intro ok
  obtain⟨i1,i2⟩:=ih ok.1
  obtain⟨t,e⟩:=a
  refine⟨?_,i2⟩
  cases t with
  | none=>exact i1
  | some k=>
   intro x e' hx
   have h1:=i1 x e' hx
   have:x≠k:=λq=>by
    have:=ok.2 k rfl
    rw[← q,h1] at this
    cases this
   simp only[hp]
   rw[cQ _ _ this]
   exact h1
 | @cons_cons l1 l2 a hs ih=>
  intro ok
  obtain⟨i1,i2⟩:=ih ok.1
  obtain⟨t,e⟩:=a
  cases t with
  | none=>exact⟨i1,i2,λ_ q=>by cases q⟩
  | some k=>
   refine⟨?_,i2, ?_⟩
   ·intro x e' hx
    simp only[hp] at hx ⊢
    by_cases q:x=k
    ·subst q
     rw[dL] at hx ⊢
     exact hx
    ·rw[cQ _ _ q] at hx ⊢
     exact i1 x e' hx
   ·intro k' hk'
    cases hk'
    cases h:hp h0 l1 k with
    | none=>rfl
    | some e'=>
     have:=i1 k e' h
     rw[ok.2 k rfl] at this
     cases this
theorem jC {h0:aF} {k:cB} {t:Option cB} {e e':iE}:∀ {L:HL} (i:Nat),bV h0 L→L[i]? =some (t,e)→(t=some k∨(t=none∧hp h0 L k=none))→
    upd (hp h0 L) k (some e')=hp h0 (L.set i (some k,e'))∧bV h0 (L.set i (some k,e'))∧∀x,x≠k→hp h0 (L.set i (some k,e')) x=hp h0 L x
  | [],i,_,h,_=>by simp at h
  | (t',e0)::r,0,ok,h,ht=>by
    simp only[List.getElem?_cons_zero,Option.some.injEq,Prod.mk.injEq] at h
    obtain⟨rfl,rfl⟩:=h
    simp only[List.set_cons_zero]
    rcases ht with rfl | ⟨rfl,ht⟩
    · refine⟨?_,⟨ok.1,λk' q=>by cases q; exact ok.2 _ rfl⟩,λx hx=> ?_⟩
      · simp only[hp]; funext q; unfold upd; split <;> rfl
      · simp only[hp]; rw[cQ _ _ hx,cQ _ _ hx]
    · refine⟨rfl,⟨ok.1,λk' q=>by cases q; exact ht⟩,λx hx=> ?_⟩
      simp only[hp]; rw[cQ _ _ hx]
  | (t',e0)::r,i+1,ok,h,ht=>by
    have h':r[i]? =some (t,e):=by simpa using h
    cases t' with
    | none=>
      obtain⟨h1,h2,h3⟩:=jC (e':=e') i ok.1 h' ht
      exact⟨h1,⟨h2,λ_ q=>by cases q⟩,h3⟩
    | some k'=>
      have hne:k≠k':=by
        rcases ht with rfl | ⟨rfl,ht⟩
        · intro q
          have h1:=ok.2 k' rfl
          rw[← q,a9 i ok.1 h'] at h1
          cases h1
        · intro q
          subst q
          simp only[hp,dL] at ht
          cases ht
      have ht':t=some k∨(t=none∧hp h0 r k=none):=by
        rcases ht with ht | ⟨ht,h1⟩
        · exact .inl ht
        · refine .inr ⟨ht, ?_⟩
          simp only[hp] at h1
          rwa [cQ _ _ hne] at h1
      obtain⟨h1,h2,h3⟩:=jC (e':=e') i ok.1 h' ht'
      simp only[List.set_cons_succ,hp]
      refine⟨?_,⟨h2,λk2 q=> ?_⟩,λx hx=> ?_⟩
      · rw[← h1]
        funext q; simp only[upd]
        by_cases q1:q=k
        · subst q1; simp[hne]
        · simp[q1]
      · cases q
        rw[h3 k' hne.symm]
        exact ok.2 k' rfl
      · simp only[upd]
        split
        · rfl
        · exact h3 x hx
section rules
variable {P:Program} {Q:Exit→Fr→aF→Prop} {h:aF} {n:Nat}
end rules
def ow (t:Option cB) (sz:Nat) (xs:List (List AV)):AV:=match t with
 | none=>.e0
 | some k=>.sl (some k) sz xs
def app {α:Type} (xs ys:List α):Option (List α):=if xs.length+ys.length≤1000000000 then some (xs++ys) else none
theorem jD {α:Type} {xs ys zs:List α} (h:app xs ys=some zs):zs=xs++ys∧xs.length+ys.length≤1000000000:=by
 unfold app at h
 split at h
 ·exact⟨(Option.some.inj h).symm,by assumption⟩
 ·cases h
def slc {α:Type} (l:List α) (lo hi:Int):Option (List α):=if 0≤lo∧lo≤hi∧hi≤l.length then some ((l.take hi.toNat).drop lo.toNat) else none
def PF (s:ByteArray) (i:Int):Option Int:=if 0≤i then (s[i.toNat]?).map λb=>(b.toNat:Int) else none
theorem bV.nil (h0:aF):bV h0 []:=trivial
theorem bV.none {h0:aF} {L:HL} {e:iE} (hk:bV h0 L):bV h0 ((none,e)::L):=⟨hk,nofun⟩
theorem nH {h0:aF} {k:cB} {e:iE}:∀ {L:HL} (i:Nat),bV h0 L→L[i]? =some (some k,e)→hp h0 (L.eraseIdx i) k=Option.none
 | [],i,_,h=>by simp at h
 | (t,e')::r,0,ok,h=>by
  simp only[List.getElem?_cons_zero,Option.some.injEq,Prod.mk.injEq] at h
  obtain⟨rfl,rfl⟩:=h
  exact ok.2 _ rfl
 | (t,e')::r,i+1,ok,h=>by
  have h':r[i]? =some (some k,e):=by simpa using h
  have ih:=nH (L:=r) i ok.1 h'
  simp only[List.eraseIdx_cons_succ]
  cases t with
  | none=>exact ih
  | some k'=>
   have:k≠k':=λq=>by
    have h2:=ok.2 k' rfl
    rw[← q,a9 i ok.1 h'] at h2
    cases h2
   simp only[hp]
   rw[cQ _ _ this]
   exact ih
theorem mO {h h':aF} (hs:h9 h' h) {k:cB} (hk:h k=Option.none):h' k=Option.none:=by
 cases e:h' k with
 | none=>rfl
 | some x=>have:=hs k x e; rw[hk] at this; cases this
theorem A8 {h0:aF} {k:cB} {e:iE} {L:HL} (i:Nat) (hk:bV h0 L) (hi:L[i]? =some (some k,e)):h0 k=Option.none:=by
 have h1:=nH i hk hi
 have h2:=(aS (List.eraseIdx_sublist L i) hk).2
 have h3:=(aS (h0:=h0) (L':= []) (List.nil_sublist (L.eraseIdx i)) h2).1
 exact mO h3 h1
theorem jE {α:Type} {c:α→List AV} (h:aF) (sz:Nat):bH h (.sc (.slice Option.none 0 0)) (ow Option.none sz (List.map c [])):=bH.nil_e0 h
theorem A9 {α:Type} {c:α→List AV} {xs:List α} {t:Option cB} {h:aF} (sz:Nat) (ot:t=Option.none→xs= []) (hn:∀k,t=some k→h k=Option.none):bH h (ow t sz (xs.map c)) (.sl Option.none sz (xs.map c)):=by
 cases t with
 | none=>rw[ot rfl]; exact bH.e0 h sz
 | some k=>exact bH.freeze (λ_ _ _=>by rw[hn k rfl]; simp) sz _
theorem eZ {α:Type} {c:α→List AV} {xs:List α} {t:Option cB} {h0:aF} {L:HL} {e:iE} (sz:Nat) (i:Nat) (ot:t=Option.none→xs= []) (hk:bV h0 L) (hi:L[i]? =some (t,e)):bH h0 (ow t sz (xs.map c)) (.sl Option.none sz (xs.map c)):=
 A9 sz ot λk q=>A8 i hk (by rw[hi,q])
theorem mP {α:Type} {c:α→List AV} {xs:List α} {t:Option cB} {h0:aF} {L L':HL} {e:iE} (sz:Nat) (i:Nat) (ot:t=Option.none→xs= []) (hk:bV h0 L) (hi:L[i]? =some (t,e)) (hs:L'.Sublist (L.eraseIdx i)):bH (hp h0 L') (ow t sz (xs.map c)) (.sl Option.none sz (xs.map c)):=
 A9 sz ot λk q=>mO (aS hs (aS (List.eraseIdx_sublist L i) hk).2).1 (nH i hk (by rw[hi,q]))
theorem SL {h:aF} (sz:Nat):bH h (.sc (.slice Option.none 0 0)) (.sl Option.none sz []):=bH.nil h sz 0 (by simp[maxLen])
theorem aX {α:Type} {c:α→List AV} {h:aF} (sz:Nat):bH h (.sc (.slice Option.none 0 0)) (.sl Option.none sz (List.map c [])):=SL sz
theorem jJ {P:Program} {h:aF} {f:FuncId} {fn:Func} {c:Code} {args:List AV} {Q:AV→aF→Prop} (n:Nat) (rs:List ResultVar) (hf:P.funcs[f]? =some fn) (hb:fn.body=some c) (hn:fn.ntmps=n) (hr:fn.results.toList=rs) (hle:Nat.ble args.length n=true)
    (hc:AW P c (dX P rs Q) (fm n (A7 0 args)) (hp h [])):aL P f args h Q:=AD n rs hf hb hn hr hle hc
theorem iU (h0:aF) (L:HL) (x:Option cB×iE):hp (hp h0 L) [x]=hp h0 (x::L):=by
 obtain⟨t,e⟩:=x
 cases t <;> rfl
def grd {ρ:Type} (b:Bool) (k:Option ρ):Option ρ:=if b=true then k else Option.none
theorem mQ {ρ:Type} {b:Bool} {k:Option ρ} {o:ρ} (h:grd b k=some o):b=true∧k=some o:=by
 unfold grd at h
 split at h
 ·exact⟨by assumption,h⟩
 ·cases h
theorem WK {x:Int} (h:(x !=0)=true):x≠0:=by simpa using h
theorem i7.put {n:Nat} {kvs:KV} {h h':aF} {t:Nat} {v:AV} (hs:h9 h' h) (hv:bH h' (lk n kvs t) v):i7 (Vm.fm n (kp kvs t v)) h' (Vm.fm n kvs) h:=
 i7.fm hs (.cons hv λ_ _=>bH.refl _ _)
theorem cU.app {h:aF} {xs ys:List AV}:∀(k:Nat) {zs:List AV},zs.length=k→cU h xs ys→cU h (zs++xs) (zs++ys)
 | 0, [],_,hl=>hl
 | k+1,z::zs,hz,hl=>.cons (bH.refl _ _) (cU.app k (by simpa using hz) hl)
 | 0,_::_,hz,_=>by simp at hz
 | _+1, [],hz,_=>by simp at hz
theorem i7.obj {h0:aF} {L:HL} {n:Nat} {f:KV} {k:cB} {ty:TypeId} {cs:List AV} (i:Nat) (cs':List AV) (hk:bV h0 L) (hi:L[i]? =some (some k,.obj ty cs)) (hl:cU (hp h0 L) cs cs'):
    bV h0 (L.set i (some k,.obj ty cs'))∧i7 (Vm.fm n f) (hp h0 (L.set i (some k,.obj ty cs'))) (Vm.fm n f) (hp h0 L):=by
  obtain⟨h1,h2,_⟩:=jC (e':=.obj ty cs') i hk hi (.inl rfl)
  refine⟨h2,λE w vs r v=> ?_⟩
  obtain⟨g,cur,e1,e2,e3,e4⟩:=r.obj k ty cs (a9 i hk hi)
  obtain⟨k1,r1⟩:=r.set_obj (a9 i hk hi) e1 (w':=w) e2 (λ_ _=>rfl) (Nat.le_refl _) rfl rfl rfl (hl.spec r e3) e4
  rw[h1] at r1
  exact⟨E,k1,r1,v⟩
theorem jF {x:AV} {t:Option cB} {sz:Nat} {xs:List (List AV)} (h:x=ow t sz xs):cellsOf x=some [ow t sz xs]:=by subst h; cases t <;> rfl
theorem iH (t:Option cB) (sz:Nat) (xs:List (List AV)):gK (ow t sz xs)=true:=by cases t <;> rfl
theorem cE {x:AV} {xs:List AV} (h:gK x=true) (hs:xs.all gK=true):(x::xs).all gK=true:=by rw[List.all_cons,h,hs]; rfl
theorem o9 (t:Option cB) (sz:Nat) (xs:List (List AV)): [ow t sz xs].all gK=true:=by cases t <;> rfl
section ops
variable {P:Program} {ops:Array Oper} {K:Fr→aF→Prop} {h h0:aF} {L:HL} {n:Nat} {kvs:KV} {l:List Oper} {ty:TypeId} {pos:String} {dP:Array Edge}
theorem fF {K:AV→aF→Prop} {α:Type} {c:α→List AV} {xs ys zs:List α} {dst:Option Tmp} {s x:Operand} {t e:TypeId} {sz b:Nat} {tg:Option cB} (i:Nat) (hm:app xs ys=some zs) (ht:kH P t e sz b) (hb:Nat.ble b 100000=true)
    (ha:dI n kvs s=ow tg sz (xs.map c)) (hi:L[i]? =some (tg,.tok e sz (xs.length*sz))) (ot:tg=none→xs= []) (hk:bV h0 L) (hx:mL (hp h0 L) sz (dI n kvs x)=some (ys.map c))
    (k:∀tg',(tg'=none→zs= [])→bV h0 (L.set i (tg',.tok e sz (zs.length*sz)))→K (ow tg' sz (zs.map c)) (hp h0 (L.set i (tg',.tok e sz (zs.length*sz))))):
    i6 P ⟨dst,.call { callee:=.builtin .append,args:= #[s,x],argTypes:= #[t,t]},ty,pos,dP,none⟩ K (fm n kvs) (hp h0 L):=by
  obtain⟨rfl,hsz⟩:=jD hm
  have hb':=Nat.le_of_ble_eq_true hb
  have hbound:(xs.length+ys.length)*(b+1)≤140737488355328:=by
    have:(xs.length+ys.length)*(b+1)≤1000000000*100001:=Nat.mul_le_mul hsz (by omega)
    omega
  cases tg with
  | none=>
    have hx0:=ot rfl
    subst hx0
    refine(wU rfl 0 ht (by rw[bN]; exact ha) (.inr rfl) (by rw[bN]; exact hx) (by rw[List.length_map]; simpa using hbound) (λe0=> ?_) (λe0 q hq=> ?_))
    · have:ys= []:=by simpa using e0
      subst this
      have:=k none (λ_=>rfl) (by
        have e1:L.set i (none,iE.tok e sz (([]:List α).length*sz))=L:=by
          apply List.ext_getElem?; intro j; rw[List.getElem?_set]; split
          · rename_i q; subst q; split
            · exact hi.symm
            · rename_i q; rw[List.getElem?_eq_none (Nat.le_of_not_lt q)]
          · rfl
        rw[List.nil_append,e1]; exact hk)
      have e1:L.set i (none,iE.tok e sz (([]++ []:List α).length*sz))=L:=by
        apply List.ext_getElem?; intro j; rw[List.getElem?_set]; split
        · rename_i q; subst q; split
          · exact hi.symm
          · rename_i q; rw[List.getElem?_eq_none (Nat.le_of_not_lt q)]
        · rfl
      rw[e1] at this
      exact this
    · obtain⟨h1,h2,_⟩:=jC (e':=.tok e sz ((ys.map c).length*sz)) i hk hi (.inr ⟨rfl,hq⟩)
      rw[h1]
      rw[List.length_map] at h1 h2 ⊢
      exact k (some (0,q)) (λq=>by cases q) h2
  | some kk=>
    have hg:=a9 i hk hi
    refine(wV rfl ht (k:=kk) (by rw[bN]; exact ha) (by rw[hg,List.length_map]) (by rw[bN]; exact hx) (by rw[List.length_map,List.length_map]; exact hbound) ?_)
    obtain⟨h1,h2,_⟩:=jC (e':=.tok e sz ((xs.map c++ys.map c).length*sz)) i hk hi (.inl rfl)
    rw[h1]
    rw[← List.map_append,List.length_map] at h1 h2 ⊢
    exact k (some kk) (λq=>by cases q) h2
theorem LC {o:Oper} {K:AV→aF→Prop} {fr fr':Fr} (hl:∀y∈o.op.operands,bH h (ev fr y) (ev fr' y)) (ho:i6 P o K fr' h):i6 P o K fr h:=
 λE w a r v=>ho E w a r λy hy=>hl y hy E w _ r (v y hy)
theorem nX {K:AV→aF→Prop} {α:Type} {c:α→List AV} {ys zs:List α} {dst:Option Tmp} {s:Nat} {x:Operand} {t e:TypeId} {sz b:Nat} (hm:app [] ys=some zs) (ht:kH P t e sz b) (hb:Nat.ble b 100000=true)
    (ha:dI n kvs (.tmp s)= .sc (.slice none 0 0)) (hk:bV h0 L) (hne:x≠ .tmp s) (hx:mL (hp h0 L) sz (dI n kvs x)=some (ys.map c))
    (k:∀tg',(tg'=none→zs= [])→bV h0 ((tg',.tok e sz (zs.length*sz))::L)→K (ow tg' sz (zs.map c)) (hp h0 ((tg',.tok e sz (zs.length*sz))::L))):
    i6 P ⟨dst,.call { callee:=.builtin .append,args:= #[.tmp s,x],argTypes:= #[t,t]},ty,pos,dP,none⟩ K (fm n kvs) (hp h0 L):=by
  have hlt:s < n:=by
    simp only[dI,lU] at ha
    split at ha
    · assumption
    · cases ha
  refine LC (fr':=fm n (kp kvs s (ow none sz (([]:List α).map c)))) ?_ (fF (c:=c) (L:=(none,.tok e sz (([]:List α).length*sz))::L) (xs:= []) 0 hm ht hb ?_ rfl (λ_=>rfl) ⟨hk,nofun⟩ ?_ ?_)
  · intro y hy
    rw[bN,bN]
    have hy:y= .tmp s∨y=x:=by simpa [Op.operands,Call.operands] using hy
    rcases hy with rfl | rfl
    · rw[ha]
      simp only[dI,lU,if_pos hlt,l6]
      exact jE _ sz
    · cases y with
      | tmp u=>
        have hus:s≠u:=λq=>hne (by rw[q])
        simp only[dI,lU,qC _ _ hus]
        exact bH.refl _ _
      | const v=>exact bH.refl _ _
      | global g=>exact bH.refl _ _
      | func f=>exact bH.refl _ _
  · simp only[dI,lU,if_pos hlt,l6]
  · have e1:dI n (kp kvs s (ow none sz (([]:List α).map c))) x=dI n kvs x:=by
      cases x with
      | tmp u=>
        have hus:s≠u:=λq=>hne (by rw[q])
        simp only[dI,lU,qC _ _ hus]
      | const v=>rfl
      | global g=>rfl
      | func f=>rfl
    rw[e1]
    exact hx
  · intro tg' h1 h2
    exact k tg' h1 h2
theorem FQ {K:AV→aF→Prop} {α:Type} {c:α→List AV} {dst:Option Tmp} {t e:TypeId} {sz b len:Nat} {parts:Array (Nat×Operand)} (xs:List α) (hk:bV h0 L) (ht:kH P t e sz b) (hi:parts.toList.map (·.1)=List.range len) (hl:Nat.ble (len*sz) 16777216=true)
    (hg:kN (parts.toList.map λp=>dI n kvs p.2)=some (xs.map c)) (ho:(xs.map c).all (λg=>g.all gK && g.length==sz)=true)
    (k:∀tg,(tg=none→xs= [])→bV h0 ((tg,.tok e sz (xs.length*sz))::L)→K (ow tg sz (xs.map c)) (hp h0 ((tg,.tok e sz (xs.length*sz))::L))):
    i6 P ⟨dst,.buildSlice t len parts,ty,pos,dP,none⟩ K (fm n kvs) (hp h0 L):=by
  have e1:(parts.toList.map λp=>ev (fm n kvs) p.2)=parts.toList.map λp=>dI n kvs p.2:=List.map_congr_left λp _=>bN n kvs p.2
  refine KX rfl 0 ht hi (Nat.le_of_ble_eq_true hl) (by rw[e1]; exact hg) ho λq hq=> ?_
  rw[List.length_map]
  exact k (some (0,q)) (λe=>by cases e) ⟨hk,λk' e=>by cases e; exact hq⟩
theorem LD {K:AV→aF→Prop} {α:Type} {c:α→List AV} {dst:Option Tmp} {t e:TypeId} {sz b:Nat} (hk:bV h0 L) (ht:kH P t e sz b)
    (k:bV h0 ((none,.tok e sz (([]:List α).length*sz))::L)→K (ow none sz (([]:List α).map c)) (hp h0 ((none,.tok e sz (([]:List α).length*sz))::L))):
    i6 P ⟨dst,.buildSlice t 0 #[],ty,pos,dP,none⟩ K (fm n kvs) (hp h0 L):=
  DU rfl ht (k ⟨hk,nofun⟩)
theorem nI {α:Type} {c:α→List AV} {xs:List α} {tg:Option cB} {sz:Nat} (ot:tg=Option.none→xs= []):mL h sz (ow tg sz (xs.map c))=some (xs.map c):=by
 cases tg with
 | none=>rw[ot rfl]; rfl
 | some k=>simp[ow,mL]
theorem LE {dst:Option Tmp} {a:Operand} {q:cB} {off:Nat} (ha:dI n kvs a= .ptr q off):eN P ⟨dst,.nilCheck a,ty,pos,dP,none⟩ (.ptr q off) (fm n kvs) h:=
 jU (c:=True) (by simp only[pv,bN,ha,IY,Option.map_some,tt]) trivial
theorem WL {dst:Option Tmp} {a b:Operand} {t u:TypeId} {q:IntKind} {x y:Int} (ha:dI n kvs a= .sc (.int q x)) (hb:dI n kvs b= .sc (.int q y)):
    eN P ⟨dst,.call { callee:=.builtin .max,args:= #[a,b],argTypes:= #[t,u]},ty,pos,dP,none⟩ (.sc (.int q (max x y))) (fm n kvs) h:=by
  refine eA (x:=.sc (.int q (max x y))) (λE w ac _ hv=> ?_) ⟨rfl,rfl⟩
  have va:=hv a (by simp[Op.operands,Call.operands])
  have vb:=hv b (by simp[Op.operands,Call.operands])
  rw[bN,ha] at va; rw[bN,hb] at vb
  simp only[VR] at va vb
  refine⟨.int q (max x y), ?_,by simp only[VR]⟩
  have:(if x < y then y else x)=max x y:=by rw[Int.max_def]; split <;> split <;> omega
  simp[execOp,resolve,invoke,builtin,Builtin.max_,Builtin.max2,va,vb,this]
theorem eO {dst:Option Tmp} {t e:TypeId} {sz b len:Nat} {parts:Array (Nat×Operand)} (gs:List (List AV)) (ht:kH P t e sz b) (hi:parts.toList.map (·.1)=List.range len) (hl:Nat.ble (len*sz) 16777216=true)
    (hg:kN (parts.toList.map λp=>dI n kvs p.2)=some gs) (ho:gs.all (λg=>g.all gK && g.length==sz)=true):eN P ⟨dst,.buildSlice t len parts,ty,pos,dP,none⟩ (.sl none sz gs) (fm n kvs) h:=by
  have e:(parts.toList.map λp=>ev (fm n kvs) p.2)=parts.toList.map λp=>dI n kvs p.2:=List.map_congr_left λp _=>bN n kvs p.2
  exact PA rfl ht hi (Nat.le_of_ble_eq_true hl) (by rw[e]; exact hg) ho ⟨rfl,rfl⟩
theorem Q9 {K:AV→aF→Prop} {dst:Option Tmp} {t:TypeId} {x:Operand} {cs:List AV} (hk:bV h0 L) (hc:cellsOf (dI n kvs x)=some cs) (ho:cs.all gK=true)
    (k:∀q:cB,bV h0 ((some q,.obj t cs)::L)→K (.ptr q 0) (hp h0 ((some q,.obj t cs)::L))):i6 P ⟨dst,.box t x,ty,pos,dP,none⟩ K (fm n kvs) (hp h0 L):=
  (OZ rfl 0 (by rw[bN]; exact hc) ho λq hq=>k (0,q) ⟨hk,λk' e=>by cases e; exact hq⟩)
theorem bD {K:AV→aF→Prop} {dst:Option Tmp} {t:TypeId} {zs:List Value} (cs:List AV) (hk:bV h0 L) (hz:tF P t=some zs) (ho:zs.all (·.oneCell')=true) (hcs:zs.map AV.sc=cs)
    (k:∀q:cB,bV h0 ((some q,.obj t cs)::L)→K (.ptr q 0) (hp h0 ((some q,.obj t cs)::L))):i6 P ⟨dst,.alloc t,ty,pos,dP,none⟩ K (fm n kvs) (hp h0 L):=by
  subst hcs
  exact(I3 rfl 0 hz ho λq hq=>k (0,q) ⟨hk,λk' e=>by cases e; exact hq⟩)
theorem aK {K:AV→aF→Prop} {dst:Option Tmp} {t oty:TypeId} {x y:Operand} {q:cB} {off:Nat} {cs xs:List AV} (i:Nat) (cs':List AV) (hk:bV h0 L) (ha:dI n kvs x= .ptr q off) (hi:L[i]? =some (some q,.obj oty cs))
    (hy:cellsOf (dI n kvs y)=some xs) (ho:xs.all gK=true) (hs:mY P t=some xs.length) (hl:Nat.ble (off+xs.length) cs.length=true) (hcs:eG cs off xs=cs')
    (k:bV h0 (L.set i (some q,.obj oty cs'))→K (.sc undef) (hp h0 (L.set i (some q,.obj oty cs')))):i6 P ⟨dst,.store t x y,ty,pos,dP,none⟩ K (fm n kvs) (hp h0 L):=by
  subst hcs
  obtain⟨h1,h2,_⟩:=jC (e':=.obj oty (eG cs off xs)) i hk hi (.inl rfl)
  refine(I4 rfl (by rw[bN]; exact ha) (a9 i hk hi) (by rw[bN]; exact hy) ho hs (Nat.le_of_ble_eq_true hl) ?_)
  rw[h1]
  exact k h2
theorem tU {α:Type} {c:α→List AV} {xs:List α} {dst:Option Tmp} {a:Operand} {t:TypeId} {tg:Option cB} {sz:Nat} (ht:vG P t=some true) (ot:tg=none→xs= []) (ha:dI n kvs a=ow tg sz (xs.map c)):
    eN P ⟨dst,.call { callee:=.builtin .len,args:= #[a],argTypes:= #[t]},ty,pos,dP,none⟩ (.sc (.int .i64 xs.length)) (fm n kvs) h:=by
  cases tg with
  | none=>
    have:=ot rfl
    subst this
    refine jU (c:=True) ?_ trivial
    have ha:dI n kvs a= .e0:=ha
    simp only[pv,Q7,bN,ha,ht,Q6,Option.map_some,Option.bind_some,tt,if_true]
    rfl
  | some k=>exact tT (tag:=some k) ht ha
theorem RA {α:Type} {c:α→List AV} {xs:List α} {x:α} {dst:Option Tmp} {a b:Operand} {t:TypeId} {tg:Option cB} {sz:Nat} {q:IntKind} {i:Int} (hi:ix xs i=some x) (ht:m8 P t=some sz) (ot:tg=none→xs= []) (ha:dI n kvs a=ow tg sz (xs.map c)) (hb:dI n kvs b= .sc (.int q i)):
    eN P ⟨dst,.indexAddr t a b,ty,pos,dP,none⟩ (.rp tg (c x)) (fm n kvs) h:=by
  cases tg with
  | none=>
    have:=ot rfl
    subst this
    have:=(f0 hi).2.1
    simp at this
    have:=(f0 hi).1
    omega
  | some k=>exact l8 hi ht ha hb
theorem I8 {α:Type} {c:α→List AV} {xs ys:List α} {tag:Option cB} {sz:Nat} {lo hi:Option AV} {x y:Int} {es:Option Nat} {as:Option (Nat×Nat)} (hm:slc xs x y=some ys) (he:es=some sz) (h0:0 < sz) (hl:oU 0 lo=some x) (hh:oU xs.length hi=some y):
    ∃p:Prop,p∧A0 lo hi es as (.sl tag sz (xs.map c))=some (p,.sl tag sz (ys.map c)):=by
  unfold slc at hm
  split at hm
  · rename_i hc
    cases hm
    refine⟨(sz=sz∧0 < sz)∧0≤x∧x≤y∧y≤(xs.map c).length,⟨⟨rfl,h0⟩,hc.1,hc.2.1,by rw[List.length_map]; exact hc.2.2⟩, ?_⟩
    simp only[A0,he,Option.bind_some,hl,List.length_map,hh]
    rw[List.map_drop,List.map_take]
  · cases hm
def PG (n:Nat) (kvs:KV) (o:Option Operand):Option AV:=o.map (dI n kvs)
theorem pA {α:Type} {c:α→List AV} {xs ys:List α} {dst:Option Tmp} {a:Operand} {lo hi:Option Operand} {t:TypeId} {tag:Option cB} {sz:Nat} {x y:Int} (hm:slc xs x y=some ys) (ht:m8 P t=some sz) (h0:Nat.blt 0 sz=true) (ha:dI n kvs a= .sl tag sz (xs.map c))
    (hl:oU 0 (PG n kvs lo)=some x) (hh:oU xs.length (PG n kvs hi)=some y):eN P ⟨dst,.slice t a lo hi none,ty,pos,dP,none⟩ (.sl tag sz (ys.map c)) (fm n kvs) h:=by
  have e:∀o:Option Operand,o.map (ev (fm n kvs))=PG n kvs o:=λo=>by cases o <;> simp[PG,bN]
  rw[Nat.blt_eq] at h0
  obtain⟨p,hp,hs⟩:=I8 (c:=c) (tag:=tag) (es:=m8 P t) (as:=HT P t) hm ht h0 hl hh
  refine jU (c:=p) ?_ hp
  have hT:DL P t=true:=by simp[DL,ht]
  simp only[pv,bN,ha,e,hs,Option.bind_some,hT,if_true]
theorem HX {dst:Option Tmp} {t:TypeId} {a b:Operand} {q:IntKind} {s:ByteArray} {i x:Int} (hx:PF s i=some x) (ht:P.underlying t=some .string) (ha:dI n kvs a= .sc (.string s)) (hb:dI n kvs b= .sc (.int q i)):
    eN P ⟨dst,.index t a b,ty,pos,dP,none⟩ (.sc (.int .u8 x)) (fm n kvs) h:=by
  refine eA (x:=.sc (.int .u8 x)) (λE w ac _ hv=> ?_) ⟨rfl,rfl⟩
  have va:=hv a (by simp[Op.operands])
  have vb:=hv b (by simp[Op.operands])
  rw[bN,ha] at va; rw[bN,hb] at vb
  simp only[VR] at va vb
  refine⟨.int .u8 x, ?_,by simp only[VR]⟩
  unfold PF at hx
  split at hx
  · rename_i h0
    simp only[Option.map_eq_some_iff] at hx
    obtain⟨u,hu,rfl⟩:=hx
    simp[execOp,va,vb,Instr.index,asIntOf,run_underlying ht,h0,hu]
  · cases hx
end ops
def dP (ops:Array Oper) (i j:Nat):Bool:=match ops[j]? with
 | some oj=>oj.after.any λe=>Region.binds .any e && e.on==i
 | none=>true
def At (h:aF) (k:Option cB) (e:iE):Prop:=∀q,k=some q→h q=some e
theorem At.s {h:aF} {k:cB} {e:iE} (a:At h (some k) e):h k=some e:=a k rfl
theorem At.of {h:aF} {k:cB} {e:iE} (a:h k=some e):At h (some k) e:=λ_ hq=>by cases hq; exact a
theorem aI {h0:aF} {L:HL} {t:Option cB} {e:iE} (i:Nat) (hk:bV h0 L) (hi:L[i]? =some (t,e)):At (hp h0 L) t e:=λq hq=>a9 i hk (by rw[hi,hq])
def fW:List (Nat×Option cB×iE)→Array Bool→aF→Prop
 | [],_,_=>True
 | (b,k,e)::r,S,h=>(S.getD b false=false→At h k e)∧fW r S h
theorem wZ {S:Array Bool} {b j:Nat} (h:(S.setIfInBounds j true).getD b false=false):S.getD b false=false:=by
 cases e:S.getD b false with
 | false=>rfl
 | true=>rw[getD_set_true e] at h; cases h
theorem fW.mono {j:Nat} {S:Array Bool} {h:aF}:∀ {fs:List (Nat×Option cB×iE)},fW fs S h→fW fs (S.setIfInBounds j true) h
 | [],_=>trivial
 | (_,_,_)::_,hi=>⟨λe=>hi.1 (wZ e),hi.2.mono⟩
theorem fW.unset {i:Nat} {S:Array Bool} {h:aF}:∀ {fs:List (Nat×Option cB×iE)},(fs.all λq=>q.1 !=i)=true→fW fs (S.setIfInBounds i true) h→fW fs S h
 | [],_,_=>trivial
 | (b,_,_)::r,hn,hi=>by
  simp only[List.all_cons,Bool.and_eq_true,bne_iff_ne,ne_eq] at hn
  refine⟨λe=>hi.1 ?_,hi.2.unset hn.2⟩
  rw[getD_set_ne false (Ne.symm hn.1)]
  exact e
theorem fW.get {S:Array Bool} {h:aF} {b:Nat} {k:Option cB} {e:iE}:∀ {fs:List (Nat×Option cB×iE)} (p:Nat),fW fs S h→fs[p]? =some (b,k,e)→S.getD b false=false→At h k e
 | [],p,_,hp,_=>by simp at hp
 | (b',k',e')::r,0,hi,hp,hs=>by
  simp only[List.getElem?_cons_zero,Option.some.injEq,Prod.mk.injEq] at hp
  obtain⟨rfl,rfl,rfl⟩:=hp
  exact hi.1 hs
 | (b',k',e')::r,p+1,hi,hp,hs=>fW.get p hi.2 (by simpa using hp) hs
section game
variable {P:Program} {ops:Array Oper} {K:Fr→aF→Prop} {fs:List (Nat×Option cB×iE)}
def AG (P:Program) (ops:Array Oper) (fs:List (Nat×Option cB×iE)) (K:Fr→aF→Prop):Nat→Array Bool→Fr→aF→Prop
  | 0,S,fr,h=>Region.ready .any ops S= []∧K fr h
  | f + 1, S, fr, h => (Region.ready .any ops S = [] → K fr h) ∧ ∀ i ∈ Region.ready .any ops S, ∀ o, ops[i]? = some o →
      (∃x,kB P ops h fr o x∧AG P ops fs K f (S.setIfInBounds i true) (iS fr o.dst x) h)∨
      (o.guard=none∧i6 P o (λx h'=>fW fs (S.setIfInBounds i true) h'∧AG P ops fs K f (S.setIfInBounds i true) (iS fr o.dst x) h') fr h)
theorem rJ:∀(fuel:Nat) (S:Array Bool) (fr:Fr) (h:aF),AG P ops fs K fuel S fr h→∀(E:gP) (w:World) (a:Act),fY E h w→cW E w fr a.tmps.toList→a.defers= []→
    ∀Q,(∀a' w',tK E w K a' w'→Q .normal a' w')→wpAny P .any ops Q fuel S a w
  | 0,S,fr,h,H,E,w,a,r,v,d,Q,hQ=>⟨H.1,hQ _ _ ⟨E,fr,h,eR.refl E w,r,v,d,H.2⟩⟩
  | fuel+1,S,fr,h,H,E,w,a,r,v,d,Q,hQ=>by
    refine⟨λe=>hQ _ _ ⟨E,fr,h,eR.refl E w,r,v,d,H.1 e⟩,λi hi=> ?_⟩
    obtain⟨_,o,ho,_⟩:=mem_ready.1 hi
    unfold wpOp
    simp only[ho]
    rcases H.2 i hi o ho with⟨x,hy,hn⟩ | ⟨hg,hop⟩
    · rcases hy with⟨h1,h2⟩ | ⟨h1,rfl⟩
      · rw[h1.wanted v,if_pos rfl]
        refine .inl (h2 E w a r (λy _=>DI v y) _ Q ?_)
        rintro x' u w' E' h' k r' vx ⟨ex,eh⟩
        rw[ex] at vx
        rw[eh] at r'
        refine rJ fuel _ _ _ hn E' w' _ r' (nU _ (cP k _ _ v) vx) (by rw[jT]; exact d) Q ?_
        intro a' w'' p
        exact hQ _ _ (p.trans k)
      · rw[h1.wanted v]
        simp only[Bool.false_eq_true,if_false]
        exact rJ fuel _ _ _ hn E w _ r (nU _ v (by simp[VR])) (by rw[jT]; exact d) Q hQ
    · have hw:Region.wanted o (yielded ops a.tmps)=true:=by simp[Region.wanted,hg]
      rw[hw,if_pos rfl]
      refine .inl (hop E w a r (λy _=>DI v y) _ Q ?_)
      rintro x' u w' E' h' k r' vx ⟨_,hn⟩
      refine rJ fuel _ _ _ hn E' w' _ r' (nU _ (cP k _ _ v) vx) (by rw[jT]; exact d) Q ?_
      intro a' w'' p
      exact hQ _ _ (p.trans k)
theorem BA {i j:Nat} {S:Array Bool} (hj:j∈Region.ready .any ops S) (hi:S.getD i false=false):dP ops i j=false:=by
 obtain⟨_,oj,hoj,hall⟩:=mem_ready.1 hj
 unfold dP
 rw[hoj]
 cases e:oj.after.any λe=>Region.binds .any e && e.on==i with
 | false=>exact e
 | true=>
  obtain⟨x,hx,hb⟩:=Array.any_eq_true'.1 e
  simp only[Bool.and_eq_true,beq_iff_eq] at hb
  have:=hall x hx hb.1
  rw[hb.2,hi] at this
  cases this
theorem LG {i:Nat} {oi:Oper} {x:AV} (hi:ops[i]? =some oi) (hn:(fs.all λq=>q.1 !=i)=true):∀(fuel:Nat) (S:Array Bool) (fr:Fr) (h:aF),S.size=ops.size→
    (∀j oj,ops[j]? =some oj→j≠i→S.getD j true=false→(∀e∈oj.after,Region.binds .any e=true→e.on≠i)→oi.apart ops oj=true)→
    (∀j,dP ops i j=true→S.getD j false=false)→
    i∈Region.ready .any ops S→fW fs S h→(∀S' h',fW fs S' h'→(∀j,dP ops i j=true→S'.getD j false=false)→kB P ops h' fr oi x)→
    AG P ops fs K fuel (S.setIfInBounds i true) (iS fr oi.dst x) h→AG P ops fs K (fuel+1) S fr h:=by
  intro fuel
  induction fuel with
  | zero=>
    intro S fr h hsz _ hb hr hI hV H
    refine⟨λe=>(by rw[e] at hr; cases hr),λj hj oj hoj=> ?_⟩
    by_cases hji:j=i
    · subst hji
      rw[hi] at hoj; cases hoj
      exact .inl ⟨x,hV S h hI hb,H⟩
    · have:=ready_mono hj hji
      rw[H.1] at this
      cases this
  | succ fuel ih=>
    intro S fr h hsz hfree hb hr hI hV H
    refine⟨λe=>(by rw[e] at hr; cases hr),λj hj oj hoj=> ?_⟩
    by_cases hji:j=i
    · subst hji
      rw[hi] at hoj; cases hoj
      exact .inl ⟨x,hV S h hI hb,H⟩
    · have hilt:i < S.size:=by rw[hsz]; exact(Array.getElem?_eq_some_iff.1 hi).1
      have hiun:S.getD i false=false:=by
        have:=(mem_ready.1 hr).1
        simp only[Array.getD_eq_getD_getElem?,Array.getElem?_eq_getElem hilt,Option.getD_some] at this ⊢
        exact this
      obtain⟨hjun,oj',hoj',hall⟩:=mem_ready.1 hj
      rw[hoj] at hoj'; cases hoj'
      have hnot:∀e∈oj.after,Region.binds .any e=true→e.on≠i:=λe he hbn heq=>by
        have h1:=hall e he hbn
        rw[heq,hiun] at h1
        cases h1
      obtain⟨a1,a2,a3⟩:=Oper.apart_spec (hfree j oj hoj hji hjun hnot)
      have hfree':∀k ok,ops[k]? =some ok→k≠i→(S.setIfInBounds j true).getD k true=false→
          (∀e∈ok.after,Region.binds .any e=true→e.on≠i)→oi.apart ops ok=true:=λk ok hk hki hun hno=>by
        refine hfree k ok hk hki ?_ hno
        by_cases hjk:j=k
        · subst hjk; exact hjun
        · rw[getD_set_ne true hjk] at hun; exact hun
      have haj:=BA hj hiun
      have hb':∀k,dP ops i k=true→(S.setIfInBounds j true).getD k false=false:=λk hk=>by
        have:j≠k:=λe=>by subst e; rw[haj] at hk; cases hk
        rw[getD_set_ne false this]
        exact hb k hk
      have hsz':(S.setIfInBounds j true).size=ops.size:=by simpa using hsz
      rcases H.2 j (ready_mono hj hji) oj hoj with⟨y,hy2,hn2⟩ | ⟨hg,hop⟩
      · refine .inl ⟨y,hy2.unput a1, ?_⟩
        refine ih (S.setIfInBounds j true) (iS fr oj.dst y) h hsz' hfree' hb' (ready_mono hr (Ne.symm hji)) hI.mono (λS' h' u v=>(hV S' h' u v).put a3) ?_
        rw[Array.setIfInBounds_comm _ _ hji,← tL fr _ _ a2]
        exact hn2
      · refine .inr ⟨hg, ?_⟩
        have hop':=hop.congr (fr':=fr) λy hy=>(FI a1 y hy).symm
        refine hop'.mono ?_
        rintro y h' ⟨q1,q2⟩
        rw[Array.setIfInBounds_comm _ _ (Ne.symm hji)] at q1
        have q3:fW fs (S.setIfInBounds j true) h':=q1.unset hn
        refine⟨q3, ?_⟩
        refine ih (S.setIfInBounds j true) (iS fr oj.dst y) h' hsz' hfree' hb' (ready_mono hr (Ne.symm hji)) q3 (λS' h' u v=>(hV S' h' u v).put a3) ?_
        rw[Array.setIfInBounds_comm _ _ hji,← tL fr _ _ a2]
        exact q2
def zq (ops:Array Oper) (S:Array Bool) (i:Nat):Bool:=
 (Region.ready .any ops S).contains i && Region.free .any ops S i && S.size==ops.size && (List.range ops.size).all λj=> !(dP ops i j) || !(S.getD j false)
theorem PH {i:Nat} {oi:Oper} {S:Array Bool} (hi:ops[i]? =some oi) (hz:zq ops S i=true):i∈Region.ready .any ops S∧S.size=ops.size∧
    (∀j oj,ops[j]? =some oj→j≠i→S.getD j true=false→(∀e∈oj.after,Region.binds .any e=true→e.on≠i)→oi.apart ops oj=true)∧(∀j,dP ops i j=true→S.getD j false=false):=by
  simp only[zq,Bool.and_eq_true,beq_iff_eq,List.all_eq_true,List.mem_range,Bool.or_eq_true,Bool.not_eq_true'] at hz
  obtain⟨⟨⟨h1,h2⟩,h3⟩,h4⟩:=hz
  refine⟨by simpa using h1,h3,Region.free_spec hi h2,λj hj=> ?_⟩
  by_cases hlt:j < ops.size
  · rcases h4 j hlt with h5 | h5
    · rw[hj] at h5; cases h5
    · exact h5
  · simp only[Array.getD_eq_getD_getElem?,Array.getElem?_eq_none (by omega:S.size≤j),Option.getD_none]
def rK (P:Program) (ops:Array Oper) (fs:List (Nat×Option cB×iE)) (K:Fr→aF→Prop) (fuel:Nat) (S:Array Bool) (fr:Fr) (h:aF):Prop:=fW fs S h→AG P ops fs K fuel S fr h
variable {h:aF} {n:Nat} {kvs:KV} {ty:TypeId} {pos:String} {aft':Array Edge}
theorem SM {f:Nat} {S:Array Bool} (i:Nat) {dst:Option Tmp} {op:Op} {x:AV} (hi:ops[i]? =some ⟨dst,op,ty,pos,aft',none⟩) (hz:zq ops S i=true) (hn:(fs.all λq=>q.1 !=i)=true)
    (ho:∀S' h',fW fs S' h'→(∀j,dP ops i j=true→S'.getD j false=false)→eN P ⟨dst,op,ty,pos,aft',none⟩ x (fm n kvs) h')
    (k:rK P ops fs K f (S.setIfInBounds i true) (fm n (kO kvs dst x)) h):rK P ops fs K (f+1) S (fm n kvs) h:=by
  intro hI
  obtain⟨z1,z2,z3,z4⟩:=PH hi hz
  refine LG hi hn f S (fm n kvs) h z2 z3 z4 z1 hI (λS' h' a b=>.inl ⟨.inl ⟨rfl,rfl⟩,ho S' h' a b⟩) ?_
  rw[kY]
  exact k hI.mono
theorem z_e {f:Nat} {S:Array Bool} (i:Nat) {dst:Option Tmp} {op:Op} (hi:ops[i]? =some ⟨dst,op,ty,pos,aft',none⟩) (hz:Region.ready .any ops S= [i])
    (ho:i6 P ⟨dst,op,ty,pos,aft',none⟩ (λx h'=>fW fs (S.setIfInBounds i true) h'∧rK P ops fs K f (S.setIfInBounds i true) (fm n (kO kvs dst x)) h') (fm n kvs) h):rK P ops fs K (f+1) S (fm n kvs) h:=by
  intro _
  refine⟨λe=>(by rw[hz] at e; cases e),λj hj oj hoj=> ?_⟩
  rw[hz] at hj
  cases List.mem_singleton.1 hj
  rw[hi] at hoj; cases hoj
  exact .inr ⟨rfl,ho.mono λx h' q=>⟨q.1,by rw[kY]; exact q.2 q.1⟩⟩
theorem SN {f:Nat} {S:Array Bool} (i j:Nat) {dst dst':Option Tmp} {op op':Op} {ty':TypeId} {pos':String} {aft'':Array Edge} (hi:ops[i]? =some ⟨dst,op,ty,pos,aft',none⟩) (hj:ops[j]? =some ⟨dst',op',ty',pos',aft'',none⟩) (hz:Region.ready .any ops S= [i,j])
    (ho:i6 P ⟨dst,op,ty,pos,aft',none⟩ (λx h'=>fW fs (S.setIfInBounds i true) h'∧rK P ops fs K f (S.setIfInBounds i true) (fm n (kO kvs dst x)) h') (fm n kvs) h)
    (ho':i6 P ⟨dst',op',ty',pos',aft'',none⟩ (λx h'=>fW fs (S.setIfInBounds j true) h'∧rK P ops fs K f (S.setIfInBounds j true) (fm n (kO kvs dst' x)) h') (fm n kvs) h):rK P ops fs K (f+1) S (fm n kvs) h:=by
  intro _
  refine⟨λe=>(by rw[hz] at e; cases e),λq hq oq hoq=> ?_⟩
  rw[hz] at hq
  simp only[List.mem_cons,List.not_mem_nil,or_false] at hq
  rcases hq with rfl | rfl
  · rw[hi] at hoq; cases hoq
    exact .inr ⟨rfl,ho.mono λx h' q=>⟨q.1,by rw[kY]; exact q.2 q.1⟩⟩
  · rw[hj] at hoq; cases hoq
    exact .inr ⟨rfl,ho'.mono λx h' q=>⟨q.1,by rw[kY]; exact q.2 q.1⟩⟩
theorem WM {f:Nat} {S:Array Bool} (hz:Region.ready .any ops S= []) (hk:K (fm n kvs) h):rK P ops fs K f S (fm n kvs) h:=by
 intro _
 cases f with
 | zero=>exact⟨hz,hk⟩
 | succ f=>exact⟨λ_=>hk,λi hi=>by rw[hz] at hi; cases hi⟩
theorem PI {Q:Exit→Fr→aF→Prop} {fr:Fr} {id:Nat} {l:List Oper} (fs:List (Nat×Option cB×iE)) (hm:P.follows .mixedOrders=true) (hI:fW fs (Array.replicate l.length false) h)
    (hl:rK P l.toArray fs (Q .normal) l.length (Array.replicate l.length false) fr h):AW P (.region id l.toArray true) Q fr h:=by
  intro E w a r v d
  refine wp_region_any hm ?_
  obtain⟨r',k⟩:=r.drewn (w.drawn+1)
  have:=rJ l.length (Array.replicate l.length false) fr h (hl hI) E { w with drawn:=w.drawn+1} a r' (cP k _ _ v) d (λe a' w'=>tK E w (Q e) a' w') (λa' w' p=>p.trans k)
  simpa using this
end game
abbrev Sum:=Option Nat×List Nat×List Nat
def vJ (ops:Array Oper) (o:Oper):Sum:=(o.dst,o.looksAt ops,(o.after.toList.filter λe=>Region.binds .any e).map (·.on))
def apS (a b:Sum):Bool:=
 (match a.1 with | some x=> !(b.2.1.any (Nat.beq x)) && (match b.1 with | some y=> !(Nat.beq x y) | none=>true) | none=>true) &&
 (match b.1 with | some y=> !(a.2.1.any (Nat.beq y)) | none=>true)
def DV:Nat→List Sum→Bool
 | _, []=>true
 | k,a::r=>a.2.2.all (λx=>Nat.blt x k) && r.all (λb=>b.2.2.any (Nat.beq k) || apS a b) && DV (k+1) r
theorem BB {x:Nat} {l:List Nat}:l.any (Nat.beq x)=true↔x∈l:=by
 rw[List.any_eq_true]
 constructor
 ·rintro⟨y,hy,e⟩
  rw[Nat.eq_of_beq_eq_true e]; exact hy
 ·intro h
  exact⟨x,h,Nat.beq_refl x⟩
theorem I9 {ops:Array Oper} {x y:Oper} (h:apS (vJ ops x) (vJ ops y)=true):x.apart ops y=true:=by
 simp only[apS,vJ,Bool.and_eq_true] at h
 simp only[Oper.apart,Bool.and_eq_true]
 obtain⟨h1,h2⟩:=h
 refine⟨?_, ?_⟩
 ·cases hx:x.dst with
  | none=>rfl
  | some d=>
   rw[hx] at h1
   simp only[Bool.and_eq_true,Bool.not_eq_true'] at h1 ⊢
   refine⟨?_, ?_⟩
   ·cases e:(y.looksAt ops).contains d with
    | false=>rfl
    | true=>
     have:d∈y.looksAt ops:=by simpa using e
     rw[BB.2 this] at h1
     cases h1.1
   ·cases hy:y.dst with
    | none=>rfl
    | some d'=>
     rw[hy] at h1
     have h3:=h1.2
     simp only[bne_iff_ne,ne_eq,Option.some.injEq]
     intro e
     subst e
     simp at h3
 ·cases hy:y.dst with
  | none=>rfl
  | some d=>
   rw[hy] at h2
   simp only[Bool.not_eq_true'] at h2 ⊢
   cases e:(x.looksAt ops).contains d with
   | false=>rfl
   | true=>
    have:d∈x.looksAt ops:=by simpa using e
    rw[BB.2 this] at h2
    cases h2
def SO (n k:Nat) (S:Array Bool):Prop:=S.size=n∧∀j,j < n→S[j]? =some (decide (j < k))
theorem SO.getD {n k j:Nat} {S:Array Bool} (h:SO n k S) (hj:j < n) (b:Bool):S.getD j b=decide (j < k):=by
 have:=h.2 j hj
 rw[Array.getD_eq_getD_getElem?,this]; rfl
theorem AE {ops:Array Oper}:∀(l:List Oper) (k:Nat) (S:Array Bool),(∀j,l[j]? =ops[k+j]?)→k+l.length=ops.size→SO ops.size k S→DV k (l.map (vJ ops))=true→Region.lexFrom .any ops l.length k S=true
 | [],k,S,_,hsz,hu,_=>by
  simp only[List.length_nil,Region.lexFrom,List.isEmpty_iff]
  cases e:Region.ready .any ops S with
  | nil=>rfl
  | cons j r=>
   have hj:j∈Region.ready .any ops S:=by rw[e]; simp
   obtain⟨h1,o,ho,_⟩:=mem_ready.1 hj
   have hlt:j < ops.size:=(Array.getElem?_eq_some_iff.1 ho).1
   rw[hu.getD hlt] at h1
   simp only[List.length_nil,Nat.add_zero] at hsz
   simp at h1
   omega
 | o::l,k,S,hl,hsz,hu,hs=>by
  have h0:ops[k]? =some o:=by simpa using (hl 0).symm
  have hk:k < ops.size:=(Array.getElem?_eq_some_iff.1 h0).1
  simp only[List.map_cons,DV,Bool.and_eq_true] at hs
  obtain⟨⟨hs1,hs2⟩,hs3⟩:=hs
  simp only[List.length_cons,Region.lexFrom,Bool.and_eq_true]
  refine⟨⟨?_, ?_⟩, ?_⟩
  ·have:k∈Region.ready .any ops S:=by
    refine mem_ready.2 ⟨by rw[hu.getD hk]; simp,o,h0,λe he hb=> ?_⟩
    have hon:e.on < k:=by
     have:=List.all_eq_true.1 hs1 e.on (by
      simp only[vJ,List.mem_map,List.mem_filter]
      exact⟨e,⟨by simpa using he,hb⟩,rfl⟩)
     rwa [Nat.blt_eq] at this
    rw[hu.getD (by omega)]
    simpa using hon
   simpa using this
  ·simp only[Region.free,h0,List.all_eq_true,List.mem_range]
   intro j hj
   simp only[Bool.or_eq_true,beq_iff_eq]
   by_cases e1:j=k
   ·exact .inl (.inl e1)
   ·by_cases e2:j < k
    ·exact .inl (.inr (by rw[hu.getD hj]; simpa using e2))
    ·right
     obtain⟨q,rfl⟩:∃q,j=k+(q+1):=⟨j - k - 1,by omega⟩
     have hlq:=hl (q+1)
     simp only[List.getElem?_cons_succ] at hlq
     have hlt:q < l.length:=by simp only[List.length_cons] at hsz; omega
     rw[← hlq,List.getElem?_eq_getElem hlt]
     have:=List.all_eq_true.1 hs2 (vJ ops l[q]) (List.mem_map.2 ⟨l[q],List.getElem_mem hlt,rfl⟩)
     simp only[Bool.or_eq_true] at this ⊢
     rcases this with h1 | h1
     ·left
      have h1:=BB.1 h1
      simp only[vJ,List.mem_map,List.mem_filter] at h1
      obtain⟨e,⟨he,hb⟩,hon⟩:=h1
      rw[Array.any_eq_true']
      exact⟨e,by simpa using he,by simp[hb,hon]⟩
     ·exact .inr (I9 h1)
  ·refine AE l (k+1) _ (λj=>by have:=hl (j+1); simpa [Nat.add_assoc,Nat.add_comm 1 j] using this) (by simp only[List.length_cons] at hsz; omega) ?_ hs3
   refine⟨by simpa using hu.1,λj hj=> ?_⟩
   rw[Array.getElem?_setIfInBounds]
   by_cases e:k=j
   ·subst e; simp[hu.1,hj]
   ·rw[if_neg e,hu.2 j hj]
    congr 1
    by_cases q:j < k
    ·simp[q,show j < k+1 from by omega]
    ·simp[q,show ¬j < k+1 from by omega]
theorem DW {P:Program} {Q:Exit→Fr→aF→Prop} {fr:Fr} {h:aF} {id:Nat} {l:List Oper} (sm:List Sum) (hm:P.follows .mixedOrders=true) (h1:l.map (vJ l.toArray)=sm) (h2:DV 0 sm=true)
    (hl:fL P l.toArray h (λfr'=>Q .normal fr' h) l fr):AW P (.region id l.toArray true) Q fr h:=by
  intro E w a r v d
  refine wp_region_any hm ?_
  have hlex:Region.lexFrom .any l.toArray l.length 0 (Array.replicate l.toArray.size false)=true:=by
    refine AE l 0 _ (by simp) (by simp) ⟨by simp,λj hj=> ?_⟩ (by rw[h1]; exact h2)
    simp only[List.size_toArray] at hj
    simp[hj]
  have hA:=DK (md:=.any) l 0 (Array.replicate l.toArray.size false) fr (by simp) hlex hl
  obtain⟨r',k⟩:=r.drewn (w.drawn+1)
  have:=qI l.length (Array.replicate l.toArray.size false) fr E { w with drawn:=w.drawn+1} a hA r' (cP k _ _ v) d (λe a' w'=>tK E w (Q e) a' w') (λa' w' p=>(p.trans k).mono λfr' h' q=>by rw[q.2]; exact q.1)
  simpa using this
abbrev bL:= {l:List Int // l.length=32}
def bJ (x:bL):List AV:=(List.range 32).map λi=>.sc (.int .u8 (x.1.getD i 0))
def jX:bL:=⟨List.replicate 32 0,rfl⟩
theorem pB (x:bL):bJ x=x.1.map λz=>AV.sc (.int .u8 z):=by
 apply List.ext_getElem
 ·simp[bJ,x.2]
 ·intro i h1 h2
  simp only[bJ,List.getElem_map,List.getElem_range]
  have:i < x.1.length:=by simpa using h2
  simp[List.getD,List.getElem?_eq_getElem this]
theorem DX:∀(xs ys:List Int),xs.length=ys.length→((List.range xs.length).all λi=>xs.getD i 0==ys.getD i 0)=decide (xs=ys)
 | [], [],_=>rfl
 | x::xs,y::ys,h=>by
  have ih:=DX xs ys (by simpa using h)
  rw[List.length_cons,List.range_succ_eq_map,List.all_cons,List.all_map]
  simp only[List.getD_cons_zero,Function.comp_def,List.getD_cons_succ,ih]
  by_cases h1:x=y <;> by_cases h2:xs=ys <;> simp[h1,h2]
 | [],_::_,h=>by simp at h
 | _::_, [],h=>by simp at h
section
variable {P:Program} (w:World)
theorem nJ (d:Nat) (t e:TypeId) (n:Nat) (ht:P.underlying t=some (.array n e)) (he:P.underlying e=some (.int .u8)) (hsz:∀w,(sizeOf e).run P w= .ok 1 w)
    (xs ys:List Int) (hx:xs.length=n) (hy:ys.length=n):
    (Op.equalIn (d+2) t (.agg (xs.map (Value.int .u8)).toArray) (.agg (ys.map (Value.int .u8)).toArray)).run P w= .ok (decide (xs=ys)) w:=by
  rw[← DX xs ys (hx.trans hy.symm),hx,List.range_eq_range',Op.equalIn]
  simp only[Sem.run_bind,run_underlying ht,Result.andThen_ok,hsz,Std.Legacy.Range.forIn_eq_forIn_range',Std.Legacy.Range.size,Nat.sub_zero,Nat.add_sub_cancel,Nat.div_one]
  have hl:∀i∈List.range' 0 n 1,i < n:=λi hi=>by simpa using (List.mem_range'_1.1 hi).2
  generalize List.range' 0 n 1=l at hl ⊢
  induction l with
  | nil=>simp
  | cons i l ih=>
    have hi:i < n:=hl i (by simp)
    have px:(part e (xs.map (Value.int .u8)).toArray (i*1)).run P w= .ok (.int .u8 (xs.getD i 0)) w:=by
      simp[part,isAgg,run_underlying he,List.getD,List.getElem?_eq_getElem (show i < xs.length by omega)]
    have py:(part e (ys.map (Value.int .u8)).toArray (i*1)).run P w= .ok (.int .u8 (ys.getD i 0)) w:=by
      simp[part,isAgg,run_underlying he,List.getD,List.getElem?_eq_getElem (show i < ys.length by omega)]
    have pe:(Op.equalIn (d+1) e (.int .u8 (xs.getD i 0)) (.int .u8 (ys.getD i 0))).run P w= .ok (xs.getD i 0==ys.getD i 0) w:=run_equalIn_int w d e .u8 .u8 _ _ he
    simp only[List.forIn_cons,Sem.run_bind,px,py,pe,Result.andThen_ok,List.all_cons]
    cases hb:(xs.getD i 0==ys.getD i 0)
    · simp
    · simp only[Bool.not_true,Bool.false_eq_true,if_false,Sem.run_pure,Result.andThen_ok,Bool.true_and]
      exact ih λj hj=>hl j (by simp[hj])
end
theorem rL {E:gP} {w:World}:∀ {xs:List Int} {vs:List Value},cW E w (xs.map λz=>AV.sc (.int .u8 z)) vs→vs=xs.map (Value.int .u8)
 | [], [],_=>rfl
 | x::xs,v::vs,h=>by
  simp only[List.map_cons,cW,VR] at h
  rw[h.1,rL h.2]; rfl
 | [],_::_,h=>by simp[cW] at h
 | _::_, [],h=>by simp[cW] at h
section ops
variable {P:Program} {ops:Array Oper} {h h0:aF} {L:HL} {n:Nat} {kvs:KV} {l:List Oper} {ty:TypeId} {pos:String} {dP:Array Edge}
theorem BC {E:gP} {w:World} {x:bL} {v:Value} (h:VR E w (.agg (bJ x)) v):v= .agg (x.1.map (Value.int .u8)).toArray:=by
 simp only[VR] at h
 obtain⟨cs,rfl,hc⟩:=h
 rw[pB] at hc
 have:=rL hc
 rw[← this]
theorem oW {P:Program} {op:BinOp} {t:TypeId} {x y:Operand} {a b:Array Value} (hg:P.eqGuardType P.depth t=false) (w:World):(eqGuard op t x y (.agg a) (.agg b)).run P w= .ok () w:=by
 unfold eqGuard
 cases op <;> simp[program,Sem.run,hg]
theorem rM {dst:Option Tmp} {t u e:TypeId} {a b:Operand} {x y:bL} (hg:P.eqGuardType P.depth t=false) (ht:P.underlying t=some (.array 32 e)) (he:P.underlying e=some (.int .u8)) (hl:l4 P e=some (false,1)) (ha:dI n kvs a= .agg (bJ x)) (hb:dI n kvs b= .agg (bJ y)):
    eN P ⟨dst,.binOp .eql t a b u,ty,pos,dP,none⟩ (.sc (.bool (decide (x=y)))) (fm n kvs) h:=by
  refine eA (x:=.sc (.bool (decide (x=y)))) (λE w ac _ hv=> ?_) ⟨rfl,rfl⟩
  have va:=hv a (by simp[Op.operands])
  have vb:=hv b (by simp[Op.operands])
  rw[bN,ha] at va; rw[bN,hb] at vb
  have ea:=BC va
  have eb:=BC vb
  refine⟨.bool (decide (x=y)), ?_,by simp only[VR]⟩
  have hs:=(wR hl).2
  have hq:=nJ w 9998 t e 32 ht he (λw=>cM hs w) x.1 y.1 x.2 y.2
  have hd:decide (x=y)=decide (x.1=y.1):=by
    by_cases q:x=y
    · subst q; simp
    · have:¬x.1=y.1:=λe=>q (Subtype.ext e)
      simp[q,this]
  simp only[execOp,ea,eb]
  simp only[Sem.run_bind,oW hg,Result.andThen_ok,binOp,Op.equal,Op.maxDepth,hq,Sem.run_pure,hd]
theorem WN {dst:Option Tmp} {t u e:TypeId} {a b:Operand} {x y:bL} (hg:P.eqGuardType P.depth t=false) (ht:P.underlying t=some (.array 32 e)) (he:P.underlying e=some (.int .u8)) (hl:l4 P e=some (false,1)) (ha:dI n kvs a= .agg (bJ x)) (hb:dI n kvs b= .agg (bJ y)):
    eN P ⟨dst,.binOp .neq t a b u,ty,pos,dP,none⟩ (.sc (.bool (!decide (x=y)))) (fm n kvs) h:=by
  refine eA (x:=.sc (.bool (!decide (x=y)))) (λE w ac _ hv=> ?_) ⟨rfl,rfl⟩
  have va:=hv a (by simp[Op.operands])
  have vb:=hv b (by simp[Op.operands])
  rw[bN,ha] at va; rw[bN,hb] at vb
  have ea:=BC va
  have eb:=BC vb
  refine⟨.bool (!decide (x=y)), ?_,by simp only[VR]⟩
  have hs:=(wR hl).2
  have hq:=nJ w 9998 t e 32 ht he (λw=>cM hs w) x.1 y.1 x.2 y.2
  have hd:decide (x=y)=decide (x.1=y.1):=by
    by_cases q:x=y
    · subst q; simp
    · have:¬x.1=y.1:=λe=>q (Subtype.ext e)
      simp[q,this]
  simp only[execOp,ea,eb]
  simp only[Sem.run_bind,oW hg,Result.andThen_ok,binOp,Op.equal,Op.maxDepth,hq,Sem.run_pure,hd]
theorem mA {dst:Option Tmp} {a b:Operand} {t:TypeId} {q:cB} {off:Nat} {k:IntKind} {i x:Int} {y:bL} (hi:ix y.1 i=some x) (ht:HT P t=some (32,1)) (ha:dI n kvs a= .ptr q off) (hb:dI n kvs b= .sc (.int k i)):
    eN P ⟨dst,.indexAddr t a b,ty,pos,dP,none⟩ (.ptr q (off+i.toNat)) (fm n kvs) h:=by
  obtain⟨h0,h1,h2⟩:=f0 hi
  rw[y.2] at h1
  refine jU (c:=0≤i∧i < 32) ?_ ⟨h0,by omega⟩
  simp only[pv,bN,ha,hb,lC,KF,ht,Option.bind_some,Nat.mul_one]
  rfl
theorem m5 {dst:Option Tmp} {a:Operand} {t:TypeId} {q:cB} (off:Nat) {i x:Int} {y:bL} {oty:TypeId} {cs:List AV} (hi:ix y.1 i=some x) (ht:l4 P t=some (false,1)) (ha:dI n kvs a= .ptr q (off+i.toNat)) (hk:h q=some (.obj oty cs)) (hc:(cs.drop off).take 32=bJ y):
    eN P ⟨dst,.load t a,ty,pos,dP,none⟩ (.sc (.int .u8 x)) (fm n kvs) h:=by
  refine nG _ ht ha hk ?_
  obtain⟨h0,h1,h2⟩:=f0 hi
  rw[y.2] at h1
  have e:(cs.drop off)[i.toNat]? =some (.sc (.int .u8 x)):=by
    have:((cs.drop off).take 32)[i.toNat]? =(bJ y)[i.toNat]? :=by rw[hc]
    rw[List.getElem?_take_of_lt (by omega),pB,List.getElem?_map,h2] at this
    exact this
  simp only[DE]
  rw[← List.drop_drop,List.head?_drop,e]
theorem qD {a t:Nat} {q:cB} {off:Nat} {oty:TypeId} {cs:List AV} {ag:Bool} {m:Nat} (x:AV) (ht:l4 P t=some (ag,m)) (ha:lk n kvs a= .ptr q off) (hk:h q=some (.obj oty cs)) (hx:DE ag m (cs.drop off)=some x):DS P h (fm n kvs) (.cell a t)=some x:=by
 have:=bN n kvs (.tmp a)
 simp only[ev,dI] at this
 simp only[DS,ht,Option.bind_some,this,ha,KS,hk,hx]
theorem dX.of1 {r:ResultVar} {Q:AV→aF→Prop} {e:Exit} {h'':aF} {x y:AV} (he:e= .ret∨e= .normal) (hx:DS P h (fm n kvs) r=some x) (hs:h9 h'' h) (hl:bH h'' x y) (hq:Q y h''):dX P [r] Q e (fm n kvs) h:=by
 rcases he with rfl | rfl <;> exact⟨x,y,h'',hx,hs,hl,hq⟩
theorem dX.of2 {r1 r2:ResultVar} {Q:AV→aF→Prop} {e:Exit} {h'':aF} {x1 x2 y1 y2:AV} (he:e= .ret∨e= .normal) (hx1:DS P h (fm n kvs) r1=some x1) (hx2:DS P h (fm n kvs) r2=some x2) (hs:h9 h'' h) (hl1:bH h'' x1 y1) (hl2:bH h'' x2 y2) (hq:Q (.tup [y1,y2]) h''):dX P [r1,r2] Q e (fm n kvs) h:=by
 have hx:wX P h (fm n kvs) [r1,r2]=some (.tup [x1,x2]):=by simp only[wX,KG,hx1,hx2,Option.bind_some,Option.map_some]
 rcases he with rfl | rfl <;> exact⟨_,_,h'',hx,hs,bH.tup (.cons hl1 (.cons hl2 .nil)),hq⟩
theorem dX.of3 {r1 r2 r3:ResultVar} {Q:AV→aF→Prop} {e:Exit} {h'':aF} {x1 x2 x3 y1 y2 y3:AV} (he:e= .ret∨e= .normal) (hx1:DS P h (fm n kvs) r1=some x1) (hx2:DS P h (fm n kvs) r2=some x2) (hx3:DS P h (fm n kvs) r3=some x3) (hs:h9 h'' h) (hl1:bH h'' x1 y1) (hl2:bH h'' x2 y2) (hl3:bH h'' x3 y3) (hq:Q (.tup [y1,y2,y3]) h''):dX P [r1,r2,r3] Q e (fm n kvs) h:=by
 have hx:wX P h (fm n kvs) [r1,r2,r3]=some (.tup [x1,x2,x3]):=by simp only[wX,KG,hx1,hx2,hx3,Option.bind_some,Option.map_some]
 rcases he with rfl | rfl <;> exact⟨_,_,h'',hx,hs,bH.tup (.cons hl1 (.cons hl2 (.cons hl3 .nil))),hq⟩
theorem fU (P:Program) (h:aF) {t:Nat} (x:AV) (hx:lk n kvs t=x):DS P h (fm n kvs) (.tmp t)=some x:=by rw[FP,hx]
def tV (P:Program) (t:TypeId):Option (List Value×List (Nat×Nat)):=match P.info? t,P.underlying t with
 | some it,some (.struct fields)=>match it.zero,fields.toList.mapM (λf=>(P.info? f.type).map λi=>(f.offset,i.size)) with
  | some z,some pl=>some (z.cells.toList,pl)
  | _,_=>none
 | _,_=>none
def BD (pl:List (Nat×Nat)):List AV→List (Nat×AV)→Option (List AV)
 | cs, []=>some cs
 | cs,(i,x)::r=>match pl[i]?,cellsOf x with
  | some (off,sz),some xs=>if (xs.length==sz && Nat.ble (off+sz) cs.length && xs.all gK)=true then BD pl (eG cs off xs) r else none
  | _,_=>none
inductive PL (E:gP) (w:World):List (Nat×AV)→List (Nat×Value)→Prop where
 | nil:PL E w [] []
 | cons {i:Nat} {x:AV} {v:Value} {ps:List (Nat×AV)} {vs:List (Nat×Value)}:VR E w x v→PL E w ps vs→PL E w ((i,x)::ps) ((i,v)::vs)
theorem qN {E:gP} {w:World} {pl:List (Nat×Nat)}:∀ {ps:List (Nat×AV)} {cs cs':List AV} {cur:Array Value} {vs:List (Nat×Value)},BD pl cs ps=some cs'→cW E w cs cur.toList→
    PL E w ps vs→∃cur',Instr.fill (pl.toArray[·]?) cur vs=some cur'∧cW E w cs' cur'.toList
  | [],cs,cs',cur,vs,hb,hv,hf=>by
    cases hf
    simp only[BD,Option.some.injEq] at hb
    subst hb
    exact⟨cur,rfl,hv⟩
  | (i,x)::r,cs,cs',cur,vs,hb,hv,hf=>by
    cases hf with
    | cons hx h2=>
      rename_i v qs
      simp only[BD] at hb
      split at hb
      · rename_i off sz xs e1 e2
        split at hb
        · rename_i hc
          simp only[Bool.and_eq_true,beq_iff_eq] at hc
          obtain⟨⟨c1,c2⟩,c3⟩:=hc
          have c2:=Nat.le_of_ble_eq_true c2
          obtain⟨d1,d2⟩:=kC e2 c3 hx
          have hl:=cX d1
          have hl2:=cX hv
          simp only[Array.length_toList] at hl hl2
          have hfold:=tP off v.cells.toList 0 cur (by simp; omega)
          have hnew:cW E w (eG cs off xs) (v.cells.zipIdx.foldl (λcs (c,j)=>cs.setIfInBounds (off+j) c) cur).toList:=by
            have e3:(v.cells.zipIdx.foldl (λcs (c,j)=>cs.setIfInBounds (off+j) c) cur)=((v.cells.toList.zipIdx 0).foldl (λcs (c,j)=>cs.setIfInBounds (off+j) c) cur):=by
              rw[← Array.foldl_toList]; simp
            rw[e3,hfold]
            simp only[Nat.add_zero,eG]
            rw[hl]
            exact cY (cY (fP _ hv) d1) (iF _ hv)
          obtain⟨cur',f1,f2⟩:=qN hb hnew h2
          refine⟨cur', ?_,f2⟩
          have e4:pl.toArray[i]? =some (off,sz):=by simpa using e1
          simp only[Instr.fill,e4]
          rw[if_neg (by simp; omega)]
          exact f1
        · cases hb
      · cases hb
theorem fG {dst:Option Tmp} {t:TypeId} {parts:Array (Nat×Operand)} {zs:List Value} {pl:List (Nat×Nat)} (cs:List AV) (hb:tV P t=some (zs,pl)) (hc:BD pl (zs.map .sc) (parts.toList.map λp=>(p.1,dI n kvs p.2))=some cs):
    eN P ⟨dst,.build t parts,ty,pos,dP,none⟩ (.agg cs) (fm n kvs) h:=by
  refine eA (x:=.agg cs) (λE w ac _ hv=> ?_) ⟨rfl,rfl⟩
  have hps:∀(l:List (Nat×Operand)),(∀p∈l,VR E w (ev (fm n kvs) p.2) (ac.eval p.2))→PL E w (l.map λp=>(p.1,dI n kvs p.2)) (l.map λp=>(p.1,ac.eval p.2)):=by
    intro l
    induction l with
    | nil=>intro _; exact .nil
    | cons p l ih=>
      intro hl
      refine .cons ?_ (ih λq hq=>hl q (by simp[hq]))
      have:=hl p (by simp)
      rwa [bN] at this
  have hall:∀p∈parts.toList,VR E w (ev (fm n kvs) p.2) (ac.eval p.2):=by
    intro p hp
    refine hv p.2 ?_
    simp only[Op.operands,Array.mem_def,List.mem_map]
    exact⟨p,hp,rfl⟩
  have hz:=qH (E:=E) (w:=w) zs
  obtain⟨cur',f1,f2⟩:=qN (cur:=zs.toArray) hc hz (hps _ hall)
  refine⟨.agg cur', ?_,by simp only[VR]; exact⟨_,rfl,f2⟩⟩
  have hbuilt:P.built t (parts.map λ(i,x)=>(i,ac.eval x)).toList=some cur':=by
    unfold tV at hb
    unfold Program.built
    cases hit:P.info? t with
    | none=>simp[hit] at hb
    | some it=>
      cases hu:P.underlying t with
      | none=>simp[hit,hu] at hb
      | some d=>
        cases d <;> try (simp[hit,hu] at hb; done)
        case struct fields=>
          cases hzr:it.zero with
          | none=>simp[hit,hu,hzr] at hb
          | some z=>
            cases hp:fields.toList.mapM (λf=>(P.info? f.type).map λi=>(f.offset,i.size)) with
            | none=>simp[hit,hu,hzr,hp] at hb
            | some places=>
              simp only[hit,hu,hzr,hp,Option.some.injEq,Prod.mk.injEq] at hb
              obtain⟨rfl,rfl⟩:=hb
              have f1':Instr.fill (places.toArray[·]?) z.cells (parts.map λ(i,x)=>(i,ac.eval x)).toList=some cur':=by
                have:(parts.map λ(i,x)=>(i,ac.eval x)).toList=parts.toList.map λp=>(p.1,ac.eval p.2):=by simp
                rw[this]
                simpa using f1
              simp only[hzr,hp]
              exact f1'
  simp only[execOp,Sem.run_bind,run_build w t _ cur' hbuilt,Result.andThen_ok,Sem.run_pure]
end ops
open Go.ChangeShapes Go.WideShapes Go.Deep
section
variable {H:Type} {enc:TypeId×Value→H} {P:Program} {W:World}
def Rd {α:Type} (enc:TypeId×Value→H) (P:Program) (W:World) (t:TypeId) (c:α→List AV) (g:α→Prop):Prop:=
 ∀ {fuel:Nat} {cs:List Value} {x:DataW H×List MemPlace},DataW.trod enc P W 0 (λ_=>true) true fuel t cs=some x→∃a,g a∧cW (E0 W) W (c a) cs∧(∀v∈cs,v.oneCell'=true)
def gI (n:Int):Prop:= -9223372036854775808≤n∧n < 9223372036854775808
def gB (n:Int):Prop:=0≤n∧n < 256
def gL {α:Type} (g:α→Prop) (l:List α):Prop:=∀x∈l,g x
def gT {α:Type} (_:α):Prop:=True
theorem SP {t:TypeId} (ht:P.underlying t=some (.int .i64)):Rd enc P W t (λn:Int=> [AV.sc (.int .i64 n)]) gI:=by
 intro fuel cs x h
 obtain⟨n,rfl, -,hw⟩:=DataW.trod_int ht h
 refine⟨n, ?_,by simp only[cW,VR]; trivial,by simp[Value.oneCell']⟩
 simp only[Lit.wf,Bool.and_eq_true,decide_eq_true_eq] at hw
 rw[show IntKind.i64.min= -9223372036854775808 from by decide,show IntKind.i64.max=9223372036854775807 from by decide] at hw
 unfold gI; omega
theorem WO {t:TypeId} (ht:P.underlying t=some (.int .u8)):Rd enc P W t (λn:Int=> [AV.sc (.int .u8 n)]) gB:=by
 intro fuel cs x h
 obtain⟨n,rfl, -,hw⟩:=DataW.trod_int ht h
 refine⟨n, ?_,by simp only[cW,VR]; trivial,by simp[Value.oneCell']⟩
 simp only[Lit.wf,Bool.and_eq_true,decide_eq_true_eq] at hw
 rw[show IntKind.u8.min=0 from by decide,show IntKind.u8.max=255 from by decide] at hw
 unfold gB; omega
theorem PJ {t:TypeId} (ht:P.underlying t=some .bool):Rd enc P W t (λb:Bool=> [AV.sc (.bool b)]) gT:=by
 intro fuel cs x h
 cases fuel with
 | zero=>simp[DataW.trod] at h
 | succ n=>
  unfold DataW.trod at h
  rw[ht] at h
  split at h
  all_goals first | (injection ‹some TypeDesc.bool=_›; done) | skip
  all_goals try (simp_all; done)
  rename_i b _
  exact⟨b,trivial,by simp only[cW,VR]; trivial,by simp[Value.oneCell']⟩
theorem SQ {t:TypeId} (ht:P.underlying t=some .string):Rd enc P W t (λb:ByteArray=> [AV.sc (.string b)]) gT:=by
 intro fuel cs x h
 cases fuel with
 | zero=>simp[DataW.trod] at h
 | succ n=>
  unfold DataW.trod at h
  rw[ht] at h
  split at h <;> simp_all
  rename_i b
  exact⟨b,trivial,by simp only[cW,VR]; trivial,by simp[Value.oneCell']⟩
def Fq (W:World) (o:Nat) (xs:List AV) (cs:List Value):Prop:=cW (E0 W) W xs (cs.drop o)∧∀v∈cs.drop o,v.oneCell'=true
theorem Fq.nil {o:Nat} {cs:List Value} (h:cs.length=o):Fq W o [] cs:=by
 subst h
 simp[Fq,cW]
theorem Fq.cons {o n m:Nat} {xs ys:List AV} {cs:List Value} (h:cW (E0 W) W xs ((cs.drop o).take n)) (h1:∀v∈(cs.drop o).take n,v.oneCell'=true) (k:Fq W m ys cs) (hm:m=o+n):Fq W o (xs++ys) cs:=by
 subst hm
 have e:cs.drop o=(cs.drop o).take n++cs.drop (o+n):=by rw[← List.drop_drop,List.take_append_drop]
 constructor
 ·rw[e]; exact cY h k.1
 ·intro v hv
  rw[e] at hv
  rcases List.mem_append.1 hv with q | q
  ·exact h1 v q
  ·exact k.2 v q
theorem Rd.fld {α:Type} {t:TypeId} {c:α→List AV} {g:α→Prop} (r:Rd enc P W t c g) {o n:Nat} {cs:List Value} {xs:List (DataW H×List MemPlace)} {fs:Array Field} {m:Nat}
    (hf:∀(i:Nat) (f:Field),fs[i]? =some f→DataW.trod enc P W 0 (λ_=>true) true m f.type ((cs.drop f.offset).take (P.cellsOf f.type))=xs[i]?) (hx:xs.length=fs.size) (i:Nat) {f:Field} (hi:fs[i]? =some f)
    (h1:f.type=t) (h2:f.offset=o) (h3:P.cellsOf t=n):∃a,g a∧cW (E0 W) W (c a) ((cs.drop o).take n)∧∀v∈(cs.drop o).take n,v.oneCell'=true:=by
  subst h1 h2 h3
  have q:=hf i f hi
  have hi':i < xs.length:=by rw[hx]; exact(Array.getElem?_eq_some_iff.1 hi).1
  rw[List.getElem?_eq_getElem hi'] at q
  exact r q
theorem Rd.id {t e:TypeId} (ht:P.underlying t=some (.array 32 e)) (he:P.underlying e=some (.int .u8)) (hc:P.cellsOf e=1) (hn:P.cellsOf t=32):Rd enc P W t bJ (λx=>gL gB x.1):=by
 intro fuel cs x h
 obtain⟨xs,m, -, -,hl,hx,hf⟩:=DataW.trod_array ht h
 rw[hn] at hl
 have hk:∀i,i < 32→∃z:Int,cs[i]? =some (.int .u8 z)∧gB z:=by
  intro i hi
  have q:=hf i hi
  rw[List.getElem?_eq_getElem (by omega),hc,Nat.mul_one] at q
  obtain⟨n,e1, -,hw⟩:=DataW.trod_int he q
  refine⟨n, ?_, ?_⟩
  ·have:=congrArg (λl:List Value=>l[0]?) e1
   simpa using this
  ·simp only[Lit.wf,Bool.and_eq_true,decide_eq_true_eq] at hw
   rw[show IntKind.u8.min=0 from by decide,show IntKind.u8.max=255 from by decide] at hw
   unfold gB; omega
 obtain⟨V,hV⟩:=choose_lt hk
 refine⟨⟨(List.range 32).map V,by simp⟩, ?_, ?_, ?_⟩
 ·intro z hz
  obtain⟨i,hi,rfl⟩:=List.mem_map.1 hz
  exact(hV i (List.mem_range.1 hi)).2
 ·have:cs=(List.range 32).map λi=>Value.int .u8 (V i):=by
   apply List.ext_getElem?
   intro i
   by_cases hi:i < 32
   ·rw[(hV i hi).1]; simp[hi]
   ·rw[List.getElem?_eq_none (by omega),List.getElem?_eq_none (by simp; omega)]
  rw[this,pB,List.map_map]
  have:=qH (E:=E0 W) (w:=W) ((List.range 32).map λi=>Value.int .u8 (V i))
  rwa [List.map_map] at this
 ·intro v hv
  obtain⟨i,hi,rfl⟩:=List.getElem_of_mem hv
  have:=(hV i (by omega)).1
  rw[List.getElem?_eq_getElem hi] at this
  rw[Option.some.inj this]
  rfl
theorem BE {a:Addr} {v:Value} (h:W.cell? a=some v):a.spot=none:=by
 unfold World.cell? at h
 split at h
 ·split at h
  ·cases h
  ·rename_i q; simpa using q
 ·cases h
theorem uY {g o sz:Nat} {α:Type} {c:α→List AV}:∀(l:List α) (rows:Nat→List Value) (k:Nat),(∀x∈l,(c x).length=sz)→
    (∀i x,l[i]? =some x→cW (E0 W) W (c x) (rows (k+i))∧(∀v∈rows (k+i),v.oneCell'=true)∧∀j,j < sz→W.cell? ⟨g,o+(k+i)*sz+j,none⟩=(rows (k+i))[j]? ∧(rows (k+i)).length=sz)→
    vB (E0 W) W none g (o+k*sz) (l.map c)
  | [],_,_,_,_=>by simp only[List.map_nil,vB]
  | x::l,rows,k,hs,h=>by
    simp only[List.map_cons,vB]
    obtain⟨h1,h2,h3⟩:=h 0 x rfl
    have hsz:=hs x (by simp)
    refine⟨eE h1 (by simpa using h2) ?_, ?_⟩
    · intro j v hj
      have hl:(rows (k+0)).length=sz:=by
        by_cases h0:0 < sz
        · exact(h3 0 h0).2
        · have:=cX h1
          omega
      have hj':j < sz:=by rw[← hl]; exact(List.getElem?_eq_some_iff.1 hj).1
      have q:=(h3 j hj').1
      rw[hj,Nat.add_zero] at q
      exact⟨q,.inl (by show (W.cell? _).isSome=true; rw[q]; rfl)⟩
    · rw[hsz,show o+k*sz+sz=o+(k+1)*sz from by rw[Nat.add_mul]; omega]
      refine uY l rows (k+1) (λy hy=>hs y (by simp[hy])) λi y hi=> ?_
      have:=h (i+1) y (by simpa using hi)
      rwa [show k+(i+1)=k+1+i from by omega] at this
theorem Rd.slice {α:Type} {t e:TypeId} {c:α→List AV} {g:α→Prop} {sz:Nat} (r:Rd enc P W e c g) (ht:P.underlying t=some (.slice e)) (hc:P.cellsOf e=sz) (hs:∀x,(c x).length=sz) (h0:0 < sz):
    Rd enc P W t (λl:List α=> [AV.sl none sz (l.map c)]) (gL g):=by
  intro fuel cs x h
  rcases open_slice ht h with⟨rfl, -⟩ | ⟨a,len,cap,m,n,D,Pl,rfl, -,hl,hm,hmm, -,hx⟩
  · exact⟨[],by intro x hx; simp at hx,by simp only[cW,VR]; exact⟨⟨none,0,rfl,by simp,by simp,by simp,by simp,by simp⟩,trivial⟩,by simp[Value.oneCell']⟩
  · simp only[if_true] at hmm
    rw[hmm] at hx
    have key:∀i,i < len→∃q:α×List Value,g q.1∧cW (E0 W) W (c q.1) q.2∧(∀v∈q.2,v.oneCell'=true)∧W.cells? 0 (a.add (i*sz)) sz=some q.2:=by
      intro i hi
      obtain⟨cs',h1,h2⟩:=hx i (by omega)
      obtain⟨y,gy,v1,v2⟩:=r h2
      exact⟨(y,cs'),gy,v1,v2,by rwa [hc] at h1⟩
    have:Nonempty (α×List Value)∨len=0:=by
      by_cases hz:0 < len
      · obtain⟨q, -⟩:=key 0 hz
        exact .inl ⟨q⟩
      · exact .inr (by omega)
    rcases this with hin | hz
    · have:Inhabited (α×List Value):=Classical.inhabited_of_nonempty hin
      obtain⟨Q,hQ⟩:=choose_lt key
      refine⟨(List.range len).map λi=>(Q i).1, ?_, ?_,by simp[Value.oneCell']⟩
      · intro y hy
        obtain⟨i,hi,rfl⟩:=List.mem_map.1 hy
        exact(hQ i (List.mem_range.1 hi)).1
      · simp only[cW,VR]
        refine⟨⟨some a,cap,by simp,by simpa using hl,hm, ?_, ?_,by simp⟩,trivial⟩
        · by_cases hz:len=0
          · left; subst hz; simp
          · right
            have h00:=(World.cells?_some (hQ 0 (by omega)).2.2.2).2.2 0 h0
            have hlen:=(World.cells?_some (hQ 0 (by omega)).2.2.2).2.1
            rw[List.getElem?_eq_getElem (by omega)] at h00
            have hsp:=BE h00
            obtain⟨b,o,sp⟩:=a
            obtain rfl:sp=none:=by simpa [Addr.add] using hsp
            refine⟨b,o,rfl, ?_⟩
            have:=uY (W:=W) (g:=b) (o:=o) (sz:=sz) (c:=c) ((List.range len).map λi=>(Q i).1) (λi=>(Q i).2) 0 (λy _=>hs y) ?_
            · simpa using this
            · intro i y hi
              rw[List.getElem?_map,Option.map_eq_some_iff] at hi
              obtain⟨i',hi',rfl⟩:=hi
              obtain⟨hlt,e1⟩:=List.getElem?_eq_some_iff.1 hi'
              simp only[List.length_range] at hlt
              simp only[List.getElem_range] at e1
              subst e1
              rw[Nat.zero_add]
              obtain⟨-,q1,q2,q3⟩:=hQ i hlt
              refine⟨q1,q2,λj hj=>⟨?_,(World.cells?_some q3).2.1⟩⟩
              have:=(World.cells?_some q3).2.2 j hj
              rw[← this,Addr.add_lit,Addr.add_lit]
        · intro y hy
          simp only[List.map_map,List.mem_map] at hy
          obtain⟨i, -,rfl⟩:=hy
          exact hs _
    · subst hz
      refine⟨[],by intro x hx; simp at hx,by simp only[cW,VR]; exact⟨⟨some a,cap,rfl,by simp,hm,by simp,by simp,by simp⟩,trivial⟩,by simp[Value.oneCell']⟩
def JA (P:Program) (t:TypeId):Option Nat:=match P.underlying t with | some (.struct fs)=>some fs.size | _=>none
def aCM (enc:TypeId×Value→H) (P:Program) (W:World) (t:TypeId) (cs:List Value):Prop:=
 ∀ {α:Type} {ft:TypeId} {c:α→List AV} {g:α→Prop} (i o n:Nat),vF P t i=some (o,ft)→P.cellsOf ft=n→Rd enc P W ft c g→∃a,g a∧cW (E0 W) W (c a) ((cs.drop o).take n)∧∀v∈(cs.drop o).take n,v.oneCell'=true
theorem Rd.flds {t:TypeId} {k z:Nat} (hn:JA P t=some k) (hz:P.cellsOf t=z) {fuel:Nat} {cs:List Value} {x:DataW H×List MemPlace} (h:DataW.trod enc P W 0 (λ_=>true) true fuel t cs=some x):
    cs.length=z∧aCM enc P W t cs:=by
  unfold JA at hn
  split at hn
  · rename_i fs ht
    obtain⟨xs,m, -, -,hl,hx,hf⟩:=DataW.trod_struct ht h
    refine⟨hl.trans hz, ?_⟩
    intro α ft c g i o n h1 h2 r
    unfold vF at h1
    rw[ht] at h1
    simp only[Option.map_eq_some_iff,Prod.mk.injEq] at h1
    obtain⟨f,hi,h3,h4⟩:=h1
    exact r.fld hf hx i hi h4 h3 h2
  · cases hn
theorem Rd.agg {α:Type} {t:TypeId} {c:α→List AV} {g:α→Prop} {fs:Array Field} (r:Rd enc P W t c g) (ht:P.underlying t=some (.struct fs)) {v:Value} {d:DataW H} {ps:List MemPlace} {base:Nat} (hval:Value.okWide P W .any base t v)
    (h:DataW.Trod enc P W 0 (λ_=>true) true t v d ps):∃a,g a∧VR (E0 W) W (.agg (c a)) v:=by
  unfold Value.okWide at hval
  rw[ht] at hval
  obtain⟨cs,rfl, -, -⟩:=hval
  obtain⟨fuel,hf⟩:=h
  obtain⟨a,ga,v1, -⟩:=r hf
  exact⟨a,ga,by simp only[VR]; exact⟨cs,rfl,v1⟩⟩
theorem Rd.agg' {α:Type} {t:TypeId} {c:α→List AV} {g:α→Prop} (r:Rd enc P W t c g) {v:Value} {d:DataW H} {ps:List MemPlace} {base k:Nat} (hval:Value.okWide P W .any base t v)
    (h:DataW.Trod enc P W 0 (λ_=>true) true t v d ps) (hn:JA P t=some k):∃a,g a∧VR (E0 W) W (.agg (c a)) v:=by
  unfold JA at hn
  split at hn
  · rename_i fs ht
    exact r.agg ht hval h
  · cases hn
theorem Rd.one {α:Type} {t e:TypeId} {c:α→AV} {g:α→Prop} (r:Rd enc P W t (λa=> [c a]) g) (ht:P.underlying t=some (.slice e)) {v:Value} {d:DataW H} {ps:List MemPlace} {base:Nat} (hval:Value.okWide P W .any base t v)
    (h:DataW.Trod enc P W 0 (λ_=>true) true t v d ps):∃a,g a∧VR (E0 W) W (c a) v:=by
  obtain⟨a0,LH,cap0,rfl⟩:=okWide_slice ht hval
  obtain⟨fuel,hf⟩:=h
  obtain⟨a,ga,v1, -⟩:=r hf
  refine⟨a,ga, ?_⟩
  simp only[Value.cells,cW] at v1
  exact v1.1
theorem Rd.int {E:gP} {w:World} {t:TypeId} {v:Value} {d:DataW H} {ps:List MemPlace} {base:Nat} (ht:P.underlying t=some (.int .i64)) (hval:Value.okWide P W .any base t v)
    (h:DataW.Trod enc P W 0 (λ_=>true) true t v d ps):∃n:Int,gI n∧VR E w (.sc (.int .i64 n)) v:=by
  obtain⟨n,h1,hw⟩:=I6 (E:=E) (w:=w) ht hval h
  refine⟨n, ?_,h1⟩
  simp only[Lit.wf,Bool.and_eq_true,decide_eq_true_eq] at hw
  rw[show IntKind.i64.min= -9223372036854775808 from by decide,show IntKind.i64.max=9223372036854775807 from by decide] at hw
  unfold gI; omega
end
end Go.Vm
