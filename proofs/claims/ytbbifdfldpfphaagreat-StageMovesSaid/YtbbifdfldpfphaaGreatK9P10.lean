import Derived.Test.YtbbifdfldpfphaaGreatK9P9
import Derived.Test.YtbbifdfldpfphaaGreatK9P6
import Derived.Test.YtbbifdfldpfphaaGreatK9P7
import Derived.Test.YtbbifdfldpfphaaGreatK9P3
import Derived.Test.YtbbifdfldpfphaaGreatK9P5
set_option linter.unusedSimpArgs false
set_option linter.unusedVariables false
set_option maxHeartbeats 4000000
set_option maxRecDepth 100000
open Bool(and_eq_true false_eq_true not_eq_true' or_eq_true)
open Int(not_lt ofNat_lt toNat_natCast)
open Go.IntKind(wrap)
open List(all_cons all_eq_true all_nil any_eq_false any_eq_true any_map drop_eq_getElem_cons filter_append filter_eq_nil_iff filter_eq_self filter_sublist find?_eq_none foldl_append foldl_cons getElem?_eq_getElem getElem?_set_self getElem_drop getElem_mem getElem_of_mem getElem_take length_drop length_filter_le length_nil length_pos_iff length_take map_congr_left map_id map_map mem_append mem_cons mem_cons_of_mem mem_cons_self mem_filter mem_map mem_of_getElem? mem_of_mem_take mem_singleton nil_append pairwise_map set_set take_append_drop take_length take_succ_eq_append_getElem)
open Nat(lt_or_ge zero_le)
open Option(any_some bind_some)
namespace Go.Proofs.YtbbifdfldpfphaaGreat
open Go.Vm
def fY (l:List aS) (x:aS):List aS:=(l.reverse.dropWhile λy=>jV y x).reverse++x::(l.reverse.takeWhile λy=>jV y x).reverse
theorem JI {l:List aS} {x:aS} {p:Nat} (h:Pt l x p):l.take p++x::l.drop p=fY l x:=by
 have e:l.reverse=(l.drop p).reverse++(l.take p).reverse:=by rw[<- List.reverse_append,take_append_drop]
 have h1:∀y∈(l.drop p).reverse,jV y x=true:=λy hy=>h.hi y (List.mem_reverse.1 hy)
 have h2:((l.take p).reverse.takeWhile λy=>jV y x)= []/\((l.take p).reverse.dropWhile λy=>jV y x)=(l.take p).reverse:=by
  cases p with
  | zero=>simp
  | succ q=>
   have hl:=h.le
   have hq:l[q]? =some l[q]:=getElem?_eq_getElem (by omega)
   have:=h.lo l[q] (by omega) (by simp[hq])
   rw[take_succ_eq_append_getElem (by omega),List.reverse_append,List.reverse_singleton,List.singleton_append]
   simp[this]
 unfold fY
 rw[e,List.takeWhile_append_of_pos h1,List.dropWhile_append_of_pos h1,h2.1,h2.2]
 simp
theorem JJ {F:Nat} {l:List aS} {x:aS} (hF:1000<=F) (hl:l.length<=400):wM F l x=some (fY l x):=by
 obtain⟨p,hp,e⟩:=aDI hF hl (x:=x)
 rw[e,JI hp]
theorem JK (l:List aS) (x:aS):∃a b,l=a++b/\fY l x=a++x::b:=by
 refine⟨_,_, ?_,rfl⟩
 rw[<- List.reverse_append,List.takeWhile_append_dropWhile,List.reverse_reverse]
theorem kF {l:List aS} {x y:aS}:y∈fY l x↔y∈l\/y=x:=by
 obtain⟨a,b,e,e2⟩:=JK l x
 rw[e2,e]
 simp only[mem_append,mem_cons]
 constructor
 ·rintro(h | h | h)
  ·exact .inl (.inl h)
  ·exact .inr h
  ·exact .inl (.inr h)
 ·rintro((h | h) | h)
  ·exact .inl h
  ·exact .inr (.inr h)
  ·exact .inr (.inl h)
theorem lX {l:List aS} {x:aS}:(fY l x).length=l.length+1:=by
 obtain⟨a,b,e,e2⟩:=JK l x
 rw[e2,e]
 simp; omega
theorem FY {α:Type} {R:α->α->Prop} {l:List α} (h:l.Pairwise R) {i j:Nat} {x y:α} (hx:l[i]? =some x) (hy:l[j]? =some y) (hij:i < j):R x y:=by
 obtain⟨h1,rfl⟩:=List.getElem?_eq_some_iff.1 hx
 obtain⟨h2,rfl⟩:=List.getElem?_eq_some_iff.1 hy
 exact List.pairwise_iff_getElem.1 h i j h1 h2 hij
theorem pC {α:Type} {l:List α} {k:Nat} {x:α} (q:α->Prop) [DecidablePred q] (f:α->α) (hx:l[k]? =some x) (hq:q x) (h1:∀y∈l.take k,¬q y) (h2:∀y∈l.drop (k+1),¬q y):l.set k (f x)=l.map λy=>if q y then f y else y:=by
 obtain⟨hk,rfl⟩:=List.getElem?_eq_some_iff.1 hx
 rw[List.set_eq_take_append_cons_drop,if_pos hk]
 have e:(l.map λy=>if q y then f y else y)=(l.take k++l[k]::l.drop (k+1)).map λy=>if q y then f y else y:=by
  rw[<- drop_eq_getElem_cons hk,take_append_drop]
 have m:∀m:List α,(∀y∈m,¬q y)->(m.map λy=>if q y then f y else y)=m:=λm hm=>by
  conv=>rhs; rw[<- map_id m]
  exact map_congr_left λy hy=>by rw[if_neg (hm y hy)]; rfl
 rw[e,List.map_append,List.map_cons,if_pos hq,m _ h1,m _ h2]
theorem kK {α:Type} {l:List α} {f:α->α} (h:∀y∈l,f y=y):l.map f=l:=by
 conv=>rhs; rw[<- map_id l]
 exact map_congr_left λy hy=>h y hy
structure AtE (l:List aQ) (q:Int) (p:Nat):Prop where
 le:p<=l.length
 lo:∀x∈l.take p,x.Seq < q
 hi:∀x∈l.drop p,q<=x.Seq
def SZ (l:List aQ) (q:Int):Bool:=l.any λx=>x.Seq==q
theorem XO {F:Nat} {l:List aQ} {q:Int} (hr:l.Pairwise λy x=>y.Seq < x.Seq) (hq:0<=q/\q<=1073741824) (hs:∀x∈l,0<=x.Seq/\x.Seq<=1073741824) (hl:l.length < 1000):∀(G lo hi:Nat),lo<=hi->hi<=l.length->hi - lo < G->
    (∀j x,l[j]? =some x->j < lo->x.Seq < q)->(∀j x,l[j]? =some x->hi<=j->q<=x.Seq)->
    ∃p:Nat,p<=l.length/\aT (λs=>uD F l q (λx0 x1=>C7 F x0 x1) s.1 s.2) G ((lo:Int),(hi:Int))=some (.brk ((p:Int),(p:Int)))/\
      (∀j x,l[j]? =some x->j < p->x.Seq < q)/\(∀j x,l[j]? =some x->p<=j->q<=x.Seq)
  | 0,_,_,_,_,h,_,_=>by omega
  | G+1,lo,hi,h1,h2,h3,h4,h5=>by
    unfold aT uD
    by_cases hlt:lo < hi
    . have hm:(lo+hi) / 2 < l.length:=by omega
      have hx:l[(lo+hi) / 2]? =some l[(lo+hi) / 2]:=getElem?_eq_getElem hm
      generalize l[(lo+hi) / 2]=x at hx
      have gx:=hs x (mem_of_getElem? hx)
      have e:C7 F x q=some (x.Seq - q):=by unfold C7; rw[wr (by omega) (by omega)]
      simp only[ofNat_lt,hlt,decide_true,if_true,aBZ (show lo+hi < 1000000000 by omega),a8,hx,bind_some,e]
      by_cases hk:x.Seq < q
      . simp only[show x.Seq - q < 0 by omega,decide_true,if_true,aG]
        rw[f0 (by omega)]
        exact XO hr hq hs hl G ((lo+hi) / 2+1) hi (by omega) h2 (by omega) (λj y hy hj=>by
          rcases lt_or_ge j ((lo+hi) / 2) with w | w
          . exact Int.lt_trans (FY hr hy hx w) hk
          . obtain rfl:j=(lo+hi) / 2:=by omega
            rw[hx] at hy; cases hy; exact hk) h5
      . simp only[show ¬x.Seq - q < 0 by omega,decide_false,false_eq_true,if_false,aG]
        exact XO hr hq hs hl G lo ((lo+hi) / 2) (by omega) (by omega) (by omega) h4 (λj y hy hj=>by
          rcases lt_or_ge ((lo+hi) / 2) j with w | w
          . have:=FY hr hx hy w; omega
          . obtain rfl:j=(lo+hi) / 2:=by omega
            rw[hx] at hy; cases hy; omega)
    . obtain rfl:lo=hi:=by omega
      refine⟨lo,h2, ?_,h4,h5⟩
      simp
theorem aJP {F:Nat} {l:List aQ} {q:Int} (hF:1000<=F) (hr:l.Pairwise λy x=>y.Seq < x.Seq) (hq:0<=q/\q<=1073741824) (hs:∀x∈l,0<=x.Seq/\x.Seq<=1073741824) (hl:l.length < 1000):
    ∃p:Nat,AtE l q p/\OO F l q (λx0 x1=>C7 F x0 x1)=some ((p:Int),SZ l q):=by
  obtain⟨p,hp,e,h1,h2⟩:=XO (F:=F) hr hq hs hl F 0 l.length (by omega) (Nat.le_refl _) (by omega) (λj x _ hj=>by omega) (λj x hx hj=>by have:=(List.getElem?_eq_some_iff.1 hx).1; omega)
  refine⟨p,⟨hp,λx hx=> ?_,λx hx=> ?_⟩, ?_⟩
  . obtain⟨i,hi,rfl⟩:=getElem_of_mem hx
    simp only[length_take] at hi
    rw[getElem_take]
    exact h1 i _ (getElem?_eq_getElem (by omega)) (by omega)
  . obtain⟨i,hi,rfl⟩:=getElem_of_mem hx
    simp only[length_drop] at hi
    rw[getElem_drop]
    exact h2 (p+i) _ (getElem?_eq_getElem (by omega)) (by omega)
  . unfold OO
    rw[show ((0:Int),(l.length:Int))=(((0:Nat):Int),(l.length:Int)) from rfl,e]
    simp only[aG]
    by_cases hlt:p < l.length
    . have hx:l[p]? =some l[p]:=getElem?_eq_getElem hlt
      have hmem:=getElem_mem hlt
      generalize l[p]=x at hx hmem
      have gx:=hs x hmem
      have hge:=h2 p x hx (Nat.le_refl _)
      have e:C7 F x q=some (x.Seq - q):=by unfold C7; rw[wr (by omega) (by omega)]
      simp only[ofNat_lt,hlt,decide_true,if_true,a8,hx,bind_some,e,aG]
      congr 2
      rw[Bool.eq_iff_iff]
      unfold SZ
      simp only[beq_iff_eq,any_eq_true]
      constructor
      . intro h; exact⟨x,hmem,by omega⟩
      . rintro⟨y,hy,e⟩
        obtain⟨j,hj,rfl⟩:=getElem_of_mem hy
        have hj':l[j]? =some l[j]:=getElem?_eq_getElem hj
        rcases Nat.lt_trichotomy j p with w | w | w
        . have:=h1 j _ hj' w; omega
        . subst w; rw[hj'] at hx; cases hx; omega
        . have:=FY hr hx hj' w; omega
    . simp only[show ¬((p:Int) < (l.length:Int)) by omega,decide_false,false_eq_true,if_false,aG]
      congr 2
      symm
      unfold SZ
      rw[any_eq_false]
      intro x hx
      obtain⟨j,hj,rfl⟩:=getElem_of_mem hx
      have:=h1 j _ (getElem?_eq_getElem hj) (by omega)
      simp; omega
structure It (i:aE):Prop where
 id:mQ i.Id
 q0:0<=i.Seq/\i.Seq<=1073741824
 k:1<=i.Kind/\i.Kind<=3
 of:gI i.Of
 off:gI i.Off
 len:gI i.Len
def pR (i:aE) (a:aS) (y:aB):aB:=if i.Kind=1/\y.Id=i.Id then { y with Locs:=fY y.Locs a} else y
def xI (i:aE) (a:aS) (s:aI):aI:=if i.Kind=2/\s.Seq=i.Seq then { s with Locs:=fY s.Locs a} else s
def wC (l:List aQ) (i:aE):aQ:=match l.find? λx=>decide (x.Seq=i.Seq) with | some x=>x | none=> { Seq:=i.Seq,Of:=i.Of,Locs:=[]}
def mO (l:List aQ) (i:aE) (a:aS):List aQ:=(l.filter λx=>decide (x.Seq < i.Seq))++ { wC l i with Locs:=fY (wC l i).Locs a}::l.filter λx=>decide (i.Seq < x.Seq)
def xJ (c:aA) (i:aE) (a:aS):aA:={ c with
 Seq:=if i.Kind=3 then max c.Seq (i.Seq+1) else c.Seq
 Snaps:=c.Snaps.map (xI i a)
 Chunks:=c.Chunks.map (pR i a)
 Exps:=if i.Kind=3 then mO c.Exps i a else c.Exps}
def jZ (c:aA) (i:aE):Bool:=if i.Kind=1 then kO c.Chunks i.Id else if i.Kind=2 then c.Snaps.any (λs=>s.Seq==i.Seq) else true
structure Wm (n:Nat) (c:aA):Prop where
 g:BP c
 r:u6 c.Chunks
 cn:c.Chunks.length<=400
 cl:∀x∈c.Chunks,x.Locs.length<=n/\x.Data.length<=300
 so:c.Snaps.Pairwise λy x=>y.Seq < x.Seq
 sn:c.Snaps.length<=12
 sl:∀x∈c.Snaps,x.Locs.length<=n
 man:∀s∈c.Snaps,s.Man.Name.size<=100/\s.Man.Parts.length<=10/\∀p∈s.Man.Parts,p.Path.size<=100/\p.Ids.length<=40
 eo:c.Exps.Pairwise λy x=>y.Seq < x.Seq
 en:c.Exps.length<=n
 el:∀x∈c.Exps,x.Locs.length<=n
 eq:∀x∈c.Exps,0<=x.Seq/\x.Seq<=1073741824/\x.Seq < c.Seq
 q:0<=c.Seq/\c.Seq<=1073741826
 vo:c.Vols.length<=20
theorem Wm.sm {n:Nat} {c:aA} (h:Wm n c) (hn:n<=300):Sm c:=
 ⟨h.g,h.sn,h.cn,Nat.le_trans h.en hn,h.vo,λs hs=>Nat.le_trans (h.sl s hs) hn,λs hs=>⟨Nat.le_trans (h.cl s hs).1 hn,(h.cl s hs).2⟩,λs hs=>Nat.le_trans (h.el s hs) hn,h.man⟩
theorem aJQ {F n:Nat} {c:aA} {i:aE} {a:aS} (hF:1000<=F) (h:Wm n c) (hn:n<=300) (hi:It i):
    HU F c i a=some (if jZ c i then (0,(xJ c i a).Seq,(xJ c i a).Snaps,(xJ c i a).Chunks,(xJ c i a).Exps) else (8,c.Seq,c.Snaps,c.Chunks,c.Exps)):=by
  have hcn:=h.cn
  have hsn:=h.sn
  have hen:=h.en
  have hk:=hi.k
  unfold HU xJ jZ
  by_cases k1:i.Kind=1
  . have e2:c.Snaps.map (xI i a)=c.Snaps:=kK λy _=>by unfold xI; rw[if_neg (by omega)]
    obtain⟨p,ha,e⟩:=aDH hF h.r hi.id (l:=c.Chunks) (by omega)
    rw[if_pos (by simp[k1]),e]
    simp only[bind_some,k1,if_true,e2,show ¬((1:Int)=3) by omega,if_false]
    cases hh:kO c.Chunks i.Id with
    | false=>simp[cK]
    | true=>
      obtain⟨x,h1,h2⟩:=HW h.r ha hi.id hh
      have hx:=mem_of_getElem? h1
      simp only[Bool.not_true,false_eq_true,if_false,a8,h1,bind_some,JJ hF (show x.Locs.length<=400 by have:=(h.cl x hx).1; omega),aG,toNat_natCast]
      rw[pC (λy:aB=>y.Id=i.Id) (λy=> { y with Locs:=fY y.Locs a}) h1 h2 (λy hy e=>by
        have:=ha.lo y hy
        rw[e] at this; omega) (λy hy e=>by
        obtain⟨j,hj,rfl⟩:=getElem_of_mem hy
        simp only[length_drop] at hj
        rw[getElem_drop] at e
        have:=h.r.2 p (p+1+j) _ _ h1 (getElem?_eq_getElem (by omega)) (by omega)
        rw[e,h2] at this; omega)]
      simp[pR,k1]
  . have e1:c.Chunks.map (pR i a)=c.Chunks:=kK λy _=>by unfold pR; rw[if_neg (by omega)]
    rw[if_neg (by simpa using k1)]
    by_cases k2:i.Kind=2
    . have hi2:qD F c.Snaps (λx0=>ON F x0 i)=some (qX c.Snaps λs=>s.Seq==i.Seq):=by
        unfold qD
        refine kM (l:=c.Snaps) (λs:aI=>s.Seq==i.Seq) (by omega) (λi' x hx hm hi'=> ?_) (by unfold lV; simp)
        unfold lV ON
        rw[f0 (by omega)]
        simp only[a8,hx,bind_some,ofNat_lt,hi',decide_true,if_true]
        split<;>rfl
      rw[if_pos (by simp[k2]),hi2]
      simp only[bind_some,k2,show ¬((2:Int)=1) by omega,if_true,e1,show ¬((2:Int)=3) by omega,if_false]
      cases ha:c.Snaps.any (λs=>s.Seq==i.Seq) with
      | false=>rw[jW ha]; simp[cK]
      | true=>
        obtain⟨p,x,h1,h2,h3,h4⟩:=i7 ha
        have hx:=mem_of_getElem? h2
        rw[h1]
        simp only[show decide ((p:Int) < 0)=false from decide_eq_false (by omega),false_eq_true,if_false,a8,h2,bind_some,JJ hF (show x.Locs.length<=400 by have:=h.sl x hx; omega),aG,toNat_natCast,if_true]
        have h3:x.Seq=i.Seq:=by simpa using h3
        rw[pC (λy:aI=>y.Seq=i.Seq) (λy=> { y with Locs:=fY y.Locs a}) h2 h3 (λy hy e=>by
          have:=h4 y hy
          simp[e] at this) (λy hy e=>by
          obtain⟨j,hj,rfl⟩:=getElem_of_mem hy
          simp only[length_drop] at hj
          rw[getElem_drop] at e
          have:=FY h.so h2 (getElem?_eq_getElem (show p+1+j < c.Snaps.length by omega)) (by omega)
          omega)]
        simp[xI,k2]
    . have k3:i.Kind=3:=by omega
      have e2:c.Snaps.map (xI i a)=c.Snaps:=kK λy _=>by unfold xI; rw[if_neg (by omega)]
      obtain⟨p,ha,e⟩:=aJP hF h.eo hi.q0 (λx hx=>⟨(h.eq x hx).1,(h.eq x hx).2.1⟩) (l:=c.Exps) (by omega)
      have hp:=ha.le
      rw[if_neg (by simpa using k2),if_pos (by simp[k3]),e]
      simp only[bind_some,k3,if_true,e1,e2,show ¬((3:Int)=1) by omega,show ¬((3:Int)=2) by omega,if_false]
      have hq0:=hi.q0
      have lowE:(c.Exps.filter λx=>decide (x.Seq < i.Seq))=c.Exps.take p:=by
        have e:(c.Exps.filter λx=>decide (x.Seq < i.Seq))=(c.Exps.take p++c.Exps.drop p).filter λx=>decide (x.Seq < i.Seq):=by rw[take_append_drop]
        rw[e,filter_append,filter_eq_self.2 λy hy=>decide_eq_true (ha.lo y hy),filter_eq_nil_iff.2 λy hy=>by
          have:=ha.hi y hy
          simp; omega]
        simp
      have higE:∀m,p+m<=c.Exps.length->(∀y∈(c.Exps.drop p).take m,y.Seq=i.Seq)->(∀y∈c.Exps.drop (p+m),y.Seq≠i.Seq)->(c.Exps.filter λx=>decide (i.Seq < x.Seq))=c.Exps.drop (p+m):=λm hm h5 h6=>by
        have e:(c.Exps.filter λx=>decide (i.Seq < x.Seq))=(c.Exps.take p++((c.Exps.drop p).take m++(c.Exps.drop p).drop m)).filter λx=>decide (i.Seq < x.Seq):=by rw[take_append_drop,take_append_drop]
        rw[e,filter_append,filter_append,filter_eq_nil_iff.2 λy hy=>by
          have:=ha.lo y hy
          simp; omega,filter_eq_nil_iff.2 λy hy=>by simp[h5 y hy],List.drop_drop,filter_eq_self.2 λy hy=>by
          have h7:=ha.hi y (by
            have:y∈(c.Exps.drop p).drop m:=by rw[List.drop_drop]; exact hy
            exact List.mem_of_mem_drop this)
          have:=h6 y hy
          exact decide_eq_true (by omega)]
        simp
      cases hh:SZ c.Exps i.Seq with
      | false=>
        have hf:(c.Exps.find? λx=>decide (x.Seq=i.Seq))=none:=find?_eq_none.2 λx hx=>by
          have:=any_eq_false.1 hh x hx
          simpa using this
        have g0:(c.Exps.take p++({ Seq:=i.Seq,Of:=i.Of,Locs:=[]}:aQ)::c.Exps.drop p)[p]? =some { Seq:=i.Seq,Of:=i.Of,Locs:=[]}:=by
          rw[List.getElem?_append_right (by simp; omega)]
          simp[Nat.min_eq_left hp]
        have eh:=higE 0 hp (λy hy=>by simp at hy) (λy hy e=>by
          have:=any_eq_false.1 hh y (List.mem_of_mem_drop hy)
          simp[e] at this)
        simp only[Nat.add_zero] at eh
        simp only[Bool.not_false,if_true,JD hp (show c.Exps.length < 1000 by omega),bind_some,aG,a8,g0,JJ hF (show ([]:List aS).length<=400 by simp),toNat_natCast,wr (n:=i.Seq+1) (by omega) (by omega)]
        unfold mO wC
        rw[hf,lowE,eh,List.set_append_right _ _ (by simp; omega)]
        simp[Nat.min_eq_left hp]
      | true=>
        obtain⟨y,hy,ey⟩:=any_eq_true.1 hh
        have ey:y.Seq=i.Seq:=by simpa using ey
        have hpl:p < c.Exps.length:=by
          rcases lt_or_ge p c.Exps.length with w | w
          . exact w
          . have:y∈c.Exps.take p:=by rw[List.take_of_length_le w]; exact hy
            have:=ha.lo y this; omega
        have h1:c.Exps[p]? =some c.Exps[p]:=getElem?_eq_getElem hpl
        have hx:=getElem_mem hpl
        have h2:(c.Exps[p]).Seq=i.Seq:=by
          have hge:=ha.hi c.Exps[p] (by rw[drop_eq_getElem_cons hpl]; exact mem_cons_self)
          obtain⟨j,hj,rfl⟩:=getElem_of_mem hy
          rcases Nat.lt_trichotomy j p with w | w | w
          . have:=ha.lo (c.Exps[j]) (mem_of_getElem? (i:=j) (by rw[List.getElem?_take_of_lt w]; exact getElem?_eq_getElem hj)); omega
          . subst w; exact ey
          . have:=FY h.eo h1 (getElem?_eq_getElem hj) w; omega
        generalize c.Exps[p]=x at h1 h2 hx
        have hdr:∀z∈c.Exps.drop (p+1),x.Seq < z.Seq:=λz hz=>by
          obtain⟨j,hj,rfl⟩:=getElem_of_mem hz
          simp only[length_drop] at hj
          rw[getElem_drop]
          exact FY h.eo h1 (getElem?_eq_getElem (show p+1+j < c.Exps.length by omega)) (by omega)
        have hf:(c.Exps.find? λz=>decide (z.Seq=i.Seq))=some x:=by
          cases e:c.Exps.find? λz=>decide (z.Seq=i.Seq) with
          | none=>
            have:=find?_eq_none.1 e x hx
            simp[h2] at this
          | some z=>
            have h5:z.Seq=i.Seq:=by simpa using List.find?_some e
            obtain⟨j,hj,rfl⟩:=getElem_of_mem (List.mem_of_find?_eq_some e)
            rcases Nat.lt_trichotomy j p with w | w | w
            . have:=FY h.eo (getElem?_eq_getElem hj) h1 w; omega
            . subst w; rw[getElem?_eq_getElem hj] at h1; exact h1
            . have:=FY h.eo h1 (getElem?_eq_getElem hj) w; omega
        have eh:=higE 1 (by omega) (λz hz=>by
          rw[drop_eq_getElem_cons hpl,List.take_succ_cons,List.take_zero] at hz
          have:z=c.Exps[p]:=mem_singleton.1 hz
          rw[getElem?_eq_getElem hpl] at h1
          rw[this,Option.some.inj h1,h2]) (λz hz e=>by have:=hdr z hz; omega)
        have hsq:=(h.eq x hx).2.2
        simp only[Bool.not_true,false_eq_true,if_false,aG,a8,h1,bind_some,JJ hF (show x.Locs.length<=400 by have:=h.el x hx; omega),toNat_natCast]
        unfold mO wC
        rw[hf,lowE,eh,List.set_eq_take_append_cons_drop,if_pos hpl,show max c.Seq (i.Seq+1)=c.Seq by omega]
theorem zQ {S ρ:Type} {body:S->Option (Lp S ρ)} {n:Nat} (emb:Nat->S) (p:Nat->Bool) (R:ρ->Prop) (hb:∀i,i < n->p i=true->body (emb i)=some (.go (emb (i+1))))
    (hb2:∀i,i < n->p i=false->∃r,R r/\body (emb i)=some (.ret r)) (he:body (emb n)=some (.brk (emb n))):∀(m k G:Nat),k+m=n->m < G->
    ((∀j,k<=j->j < n->p j=true)/\aT body G (emb k)=some (.brk (emb n)))\/((∃j,k<=j/\j < n/\p j=false)/\∃r,R r/\aT body G (emb k)=some (.ret r))
  | 0,k,G+1,h,_=>.inl ⟨λj h1 h2=>by omega,by
      obtain rfl:k=n:=by omega
      unfold aT; rw[he]⟩
  | m+1,k,G+1,h,hG=>by
    unfold aT
    cases hp:p k with
    | false=>
      obtain⟨r,h1,h2⟩:=hb2 k (by omega) hp
      exact .inr ⟨⟨k,Nat.le_refl _,by omega,hp⟩,r,h1,by rw[h2]⟩
    | true=>
      rw[hb k (by omega) hp]
      rcases zQ emb p R hb hb2 he m (k+1) G (by omega) (by omega) with⟨h1,h2⟩ | ⟨⟨j,h1,h2,h3⟩,h4⟩
      . refine .inl ⟨λj h3 h4=> ?_,h2⟩
        rcases lt_or_ge k j with w | w
        . exact h1 j w h4
        . obtain rfl:j=k:=by omega
          exact hp
      . exact .inr ⟨⟨j,by omega,h2,h3⟩,h4⟩
def qZ (p:Int) (i:aE) (y:aB):aB:=if p=0/\i.Kind=1/\y.Id=i.Id then { y with Staged:=false,Data:=[]} else y
def wP (p:Int) (c:aA) (i:aE) (a:aS):aA:={ xJ c i a with Chunks:=(xJ c i a).Chunks.map (qZ p i)}
def jY (v f:Int) (i:aE):aS:={ Vol:=v,File:=f,Off:=i.Off,Len:=i.Len}
def xK (p v f:Int) (c:aA) (l:List aE):aA:=l.foldl (λc i=>wP p c i (jY v f i)) c
def ws (c:aA) (v:Int) (x:aR):aA:={ c with Vols:=c.Vols.set v.toNat { x with State:=2,Files:=x.Files+1}}
def jE (l:List aE) (s:aI):Bool:=l.any λi=>i.Kind==3 && s.Seq==i.Of
def iW (c:aA) (d:aW) (x:aR):aA:=xK x.Pool d.Vol (x.Files+1) (ws c d.Vol x) d.Items
def sC (c:aA) (d:aW) (x:aR):aA:={ iW c d x with Snaps:=(iW c d x).Snaps.filter λs=> !jE d.Items s}
def jI (c:aA) (d:aW) (x:aR):aA:=if (sC c d x).Snaps.length < (iW c d x).Snaps.length then { sC c d x with Chunks:=LD (sC c d x)} else sC c d x
theorem qL (i:aE) (a:aS) (y:aB):(pR i a y).Id=y.Id:=by unfold pR; split<;>rfl
theorem DS (p:Int) (i:aE) (y:aB):(qZ p i y).Id=y.Id:=by unfold qZ; split<;>rfl
theorem pD (i:aE) (a:aS) (y:aI):(xI i a y).Seq=y.Seq/\(xI i a y).Man=y.Man:=by unfold xI; split<;>exact⟨rfl,rfl⟩
theorem zR (l:List aQ) (i:aE):(wC l i).Seq=i.Seq:=by
 unfold wC
 cases e:l.find? λx=>decide (x.Seq=i.Seq) with
 | none=>rfl
 | some x=>simpa using List.find?_some e
theorem JL (l:List aQ) (i:aE):wC l i∈l\/wC l i= { Seq:=i.Seq,Of:=i.Of,Locs:=[]}:=by
 unfold wC
 cases e:l.find? λx=>decide (x.Seq=i.Seq) with
 | none=>exact .inr rfl
 | some x=>exact .inl (List.mem_of_find?_eq_some e)
theorem oL {l:List aB} {f:aB->aB} (h:∀y,(f y).Id=y.Id) (d:bK):kO (l.map f) d=kO l d:=by
 unfold kO
 rw[any_map]
 congr 1
 funext y
 simp[h y]
theorem PQ {p:Int} {c:aA} {i j:aE} {a:aS}:jZ (wP p c i a) j=jZ c j:=by
 unfold jZ
 have e1:kO (wP p c i a).Chunks j.Id=kO c.Chunks j.Id:=by
  show kO ((c.Chunks.map (pR i a)).map (qZ p i)) j.Id=_
  rw[oL (DS p i),oL (qL i a)]
 have e2:(wP p c i a).Snaps.any (λs=>s.Seq==j.Seq)=c.Snaps.any λs=>s.Seq==j.Seq:=by
  show (c.Snaps.map (xI i a)).any _=_
  rw[any_map]
  congr 1
  funext y
  simp[(pD i a y).1]
 rw[e1,e2]
theorem PR (l:List aQ) (i:aE) (a:aS):(mO l i a).length<=l.length+1:=by
 have:∀m:List aQ,(m.filter λx=>decide (x.Seq < i.Seq)).length+(m.filter λx=>decide (i.Seq < x.Seq)).length<=m.length:=by
  intro m
  induction m with
  | nil=>simp
  | cons b m ih=>
   by_cases h1:b.Seq < i.Seq
   ·have h2:¬i.Seq < b.Seq:=by omega
    simp[List.filter_cons,h1,h2]; omega
   ·by_cases h2:i.Seq < b.Seq<;>simp[List.filter_cons,h1,h2]<;>omega
 have:=this l
 unfold mO
 simp only[List.length_append,List.length_cons]
 omega
theorem PS {P:aQ->Prop} {l:List aQ} {i:aE} {a:aS} (h:∀x∈l,P x) (h1:∀x∈l,P { x with Locs:=fY x.Locs a}) (h2:P { Seq:=i.Seq,Of:=i.Of,Locs:=fY [] a}):∀x∈mO l i a,P x:=by
 intro x hx
 unfold mO at hx
 rcases mem_append.1 hx with hx | hx
 ·exact h x (mem_filter.1 hx).1
 ·rcases mem_cons.1 hx with rfl | hx
  ·rcases JL l i with e | e
   ·exact h1 _ e
   ·rw[e]; exact h2
  ·exact h x (mem_filter.1 hx).1
theorem S0 {l:List aQ} {i:aE} {a:aS} (h:l.Pairwise λy x=>y.Seq < x.Seq):(mO l i a).Pairwise λy x=>y.Seq < x.Seq:=by
 unfold mO
 have hs:=zR l i
 refine List.pairwise_append.2 ⟨h.sublist filter_sublist,List.pairwise_cons.2 ⟨λy hy=> ?_,h.sublist filter_sublist⟩,λy hy z hz=> ?_⟩
 ·have:=of_decide_eq_true (mem_filter.1 hy).2
  simp only[hs]; exact this
 ·have h1:=of_decide_eq_true (mem_filter.1 hy).2
  rcases mem_cons.1 hz with rfl | hz
  ·simp only[hs]; exact h1
  ·have:=of_decide_eq_true (mem_filter.1 hz).2
   omega
theorem H7 {l:List aS} {a:aS} (h:gL p7 l) (ha:p7 a):gL p7 (fY l a):=λx hx=>by
 rcases kF.1 hx with h1 | rfl
 ·exact h x h1
 ·exact ha
theorem xL {l:List aB} {f:aB->aB} (h:∀y,(f y).Id=y.Id) (hr:u6 l):u6 (l.map f):=by
 rw[qH] at*
 refine⟨λx hx=> ?_,pairwise_map.2 (hr.2.imp fun {a b} e=>by rw[h a,h b]; exact e)⟩
 obtain⟨y,hy,rfl⟩:=mem_map.1 hx
 rw[h y]; exact hr.1 y hy
theorem Wm.step {n:Nat} {c:aA} {i:aE} {a:aS} (p:Int) (h:Wm n c) (hi:It i) (ha:p7 a):Wm (n+1) (wP p c i a):=by
 obtain⟨g0,g1,g2,g3,g4⟩:=h.g
 have hq:=h.q
 have hiq:=hi.q0
 have hsq:0<=(wP p c i a).Seq/\(wP p c i a).Seq<=1073741826/\c.Seq<=(wP p c i a).Seq/\(i.Kind=3->i.Seq < (wP p c i a).Seq):=by
  show 0<=(if i.Kind=3 then max c.Seq (i.Seq+1) else c.Seq)/\(if i.Kind=3 then max c.Seq (i.Seq+1) else c.Seq)<=_/\c.Seq<=(if i.Kind=3 then max c.Seq (i.Seq+1) else c.Seq)/\(i.Kind=3->i.Seq < (if i.Kind=3 then max c.Seq (i.Seq+1) else c.Seq))
  split<;>omega
 have el:∀P:aQ->Prop,(∀x∈c.Exps,P x)->(∀x∈c.Exps,P { x with Locs:=fY x.Locs a})->(i.Kind=3->P { Seq:=i.Seq,Of:=i.Of,Locs:=fY [] a})->∀x∈(wP p c i a).Exps,P x:=λP h1 h2 h3 x hx=>by
  have hx:x∈(if i.Kind=3 then mO c.Exps i a else c.Exps):=hx
  split at hx
  ·rename_i k; exact PS h1 h2 (h3 k) x hx
  ·exact h1 x hx
 have cl:∀P:aB->Prop,(∀x∈c.Chunks,∀l d s,(l=x.Locs\/l=fY x.Locs a)->(d=x.Data\/d= [])->P { Id:=x.Id,Staged:=s,Data:=d,Locs:=l})->∀x∈(wP p c i a).Chunks,P x:=λP h1 x hx=>by
  obtain⟨y,hy,rfl⟩:=mem_map.1 hx
  obtain⟨z,hz,rfl⟩:=mem_map.1 hy
  unfold qZ pR
  split<;>split<;>first | exact h1 z hz _ _ _ (.inr rfl) (.inr rfl) | exact h1 z hz _ _ _ (.inl rfl) (.inr rfl) | exact h1 z hz _ _ _ (.inr rfl) (.inl rfl) | exact h1 z hz _ _ _ (.inl rfl) (.inl rfl)
 have sl:∀P:aI->Prop,(∀x∈c.Snaps,∀l,(l=x.Locs\/l=fY x.Locs a)->P { x with Locs:=l})->∀x∈(wP p c i a).Snaps,P x:=λP h1 x hx=>by
  obtain⟨z,hz,rfl⟩:=mem_map.1 hx
  unfold xI
  split
  ·exact h1 z hz _ (.inr rfl)
  ·exact h1 z hz _ (.inl rfl)
 have pl:∀l l':List aS,(l'=l\/l'=fY l a)->l.length<=n->l'.length<=n+1:=λl l' e hl=>by
  rcases e with rfl | rfl
  ·omega
  ·rw[lX]; omega
 have pg:∀l l':List aS,(l'=l\/l'=fY l a)->gL p7 l->gL p7 l':=λl l' e hl=>by
  rcases e with rfl | rfl
  ·exact hl
  ·exact H7 hl ha
 have p0:(fY [] a).length<=n+1:=by rw[lX]; simp
 refine⟨⟨⟨by omega,by omega⟩,sl _ λx hx l e=>⟨(g1 x hx).1,(g1 x hx).2.1,pg _ _ e (g1 x hx).2.2⟩,cl _ λx hx l d s e e2=>⟨(g2 x hx).1,trivial, ?_,pg _ _ e (g2 x hx).2.2.2⟩,el _ g3 (λx hx=>⟨(g3 x hx).1,(g3 x hx).2.1,H7 (g3 x hx).2.2 ha⟩) λ_=>⟨⟨by show _<=i.Seq; omega,by show i.Seq < _; omega⟩,hi.of,H7 (λ_ h=>by cases h) ha⟩,g4⟩,xL (DS p i) (xL (qL i a) h.r), ?_,cl _ λx hx l d s e e2=>⟨pl _ _ e (h.cl x hx).1, ?_⟩,pairwise_map.2 (h.so.imp fun {y z} e=>by rw[(pD i a y).1,(pD i a z).1]; exact e), ?_,sl _ λx hx l e=>pl _ _ e (h.sl x hx),sl _ λx hx l e=>h.man x hx, ?_, ?_,el _ (λx hx=>Nat.le_succ_of_le (h.el x hx)) (λx hx=>pl _ _ (.inr rfl) (h.el x hx)) λ_=>p0, ?_,⟨hsq.1,hsq.2.1⟩,h.vo⟩
 ·rcases e2 with rfl | rfl
  ·exact(g2 x hx).2.2.1
  ·intro z hz; cases hz
 ·show ((c.Chunks.map _).map _).length<=_
  simp; exact h.cn
 ·rcases e2 with rfl | rfl
  ·exact(h.cl x hx).2
  ·simp
 ·show (c.Snaps.map _).length<=_
  simp; exact h.sn
 ·show List.Pairwise _ (if i.Kind=3 then mO c.Exps i a else c.Exps)
  split
  ·exact S0 h.eo
  ·exact h.eo
 ·show (if i.Kind=3 then mO c.Exps i a else c.Exps).length<=_
  have:=h.en
  split
  ·have:=PR c.Exps i a; omega
  ·omega
 ·refine λx hx=>⟨?_, ?_, ?_⟩
  ·exact el (λx=>0<=x.Seq) (λx hx=>(h.eq x hx).1) (λx hx=>(h.eq x hx).1) (λ_=>hiq.1) x hx
  ·exact el (λx=>x.Seq<=1073741824) (λx hx=>(h.eq x hx).2.1) (λx hx=>(h.eq x hx).2.1) (λ_=>hiq.2) x hx
  ·exact el (λx=>x.Seq < (wP p c i a).Seq) (λx hx=>by have:=(h.eq x hx).2.2; omega) (λx hx=>by have:=(h.eq x hx).2.2; simp only; omega) (λk=>hsq.2.2.2 k) x hx
theorem wD {p v f:Int} (gv:gI v) (gf:gI f):∀ {l:List aE} {n:Nat} {c:aA},Wm n c->(∀i∈l,It i)->Wm (n+l.length) (xK p v f c l)
 | [],_,_,h,_=>h
 | i::l,n,c,h,hi=>by
  have:=wD (p:=p) gv gf (l:=l) (h.step p (hi i mem_cons_self) (a:=jY v f i) ⟨gv,gf,(hi i mem_cons_self).off,(hi i mem_cons_self).len⟩) λj hj=>hi j (mem_cons_of_mem _ hj)
  rw[List.length_cons,show n+(l.length+1)=n+1+l.length by omega]
  exact this
theorem zS {p v f:Int} {j:aE}:∀ {l:List aE} {c:aA},jZ (xK p v f c l) j=jZ c j
 | [],_=>rfl
 | i::l,c=>by
  show jZ (xK p v f (wP p c i (jY v f i)) l) j=_
  rw[zS,PQ]
structure Wd (d:aW):Prop where
 n:d.Items.length<=64
 it:∀i∈d.Items,mQ i.Id/\(0<=i.Seq/\i.Seq<=1073741824)/\gI i.Of/\gI i.Off/\gI i.Len
def gs (l:List aE):List Int:=l.foldl (λa i=>if i.Kind==3 then mL a i.Of else a) []
theorem PT {l:List Int} {x:Int} (q:Int->Bool):(mL l x).any q=(l.any q || q x):=by
 unfold mL
 split
 ·rename_i h
  obtain⟨y,hy,e⟩:=any_eq_true.1 h
  have e:x=y:=by simpa using e
  subst e
  cases hq:q x with
  | false=>simp
  | true=>simp[any_eq_true.2 ⟨x,hy,hq⟩]
 ·simp
theorem XP (s:aI):∀(l:List aE),((gs l).any λz=>s.Seq==z)=jE l s:=by
 have:∀(l:List aE) (a:List Int),((l.foldl (λa i=>if i.Kind==3 then mL a i.Of else a) a).any λz=>s.Seq==z)=(a.any (λz=>s.Seq==z) || jE l s):=by
  intro l
  induction l with
  | nil=>intro a; simp[jE]
  | cons i l ih=>
   intro a
   rw[foldl_cons,ih]
   unfold jE
   rw[List.any_cons]
   cases e:i.Kind==3 with
   | false=>simp[e]
   | true=>simp[e,PT,Bool.or_assoc]
 intro l
 unfold gs
 rw[this]
 simp
theorem S1 (l:List aE) (i:aE):gs (l++ [i])=if i.Kind==3 then mL (gs l) i.Of else gs l:=by
 unfold gs
 rw[foldl_append]
 rfl
theorem FZ (p v f:Int) (c:aA) (l:List aE) (i:aE):xK p v f c (l++ [i])=wP p (xK p v f c l) i (jY v f i):=by
 unfold xK
 rw[foldl_append]
 rfl
theorem oM (p v f:Int):∀(l:List aE) (c:aA),(xK p v f c l).Vols=c.Vols
 | [],_=>rfl
 | i::l,c=>oM p v f l (wP p c i (jY v f i))
theorem JM {c:aA} {v:Int} {x:aR} (h:Sm c) (hg:Gd c) (hx:c.Vols[v.toNat]? =some x):Wm 200 (ws c v x):=by
 obtain⟨g0,g1,g2,g3,g4⟩:=h.g
 have hq:=hg.q
 unfold fI at hq
 simp only[and_eq_true,decide_eq_true_eq] at hq
 have hxb:=hg.v x (mem_of_getElem? hx)
 unfold mD fI at hxb
 simp only[and_eq_true,or_eq_true,decide_eq_true_eq,beq_iff_eq] at hxb
 refine⟨⟨g0,g1,g2,g3,λy hy=> ?_⟩,qH.2 ⟨λy hy=>(g2 y hy).1,hg.co⟩,h.ch,λy hy=>⟨(hg.cl y hy).n,(h.cl y hy).2⟩,hg.so,h.sn,λy hy=>(hg.sl y hy).n,h.man,hg.eo,hg.en,λy hy=>(hg.el y hy).n,λy hy=> ?_,⟨hq.1,by show c.Seq<=_; omega⟩, ?_⟩
 ·rcases List.mem_or_eq_of_mem_set hy with h1 | rfl
  ·exact g4 y h1
  ·have:=g4 x (mem_of_getElem? hx)
   exact⟨this.1,this.2.1,(⟨by decide,by decide⟩:gI 2),(⟨by show _<=x.Files+1; omega,by show x.Files+1 < _; omega⟩:gI (x.Files+1))⟩
 ·have:=(hg.eq y hy).1
  unfold fI at this
  simp only[and_eq_true,decide_eq_true_eq] at this
  exact⟨this.1,by omega,by show y.Seq < c.Seq; omega⟩
 ·show (c.Vols.set _ _).length<=20
  rw[List.length_set]; exact h.vo
theorem aJR {F:Nat} {l:List aE} (hF:1000<=F) (hl:l.length<=64):OS F l (λx0=>LB F x0)=some (l.any λi=>decide (i.Kind < 1) || decide (3 < i.Kind)):=by
 have h1:OR F l (λx0=>LB F x0)=some (qX l λi=>decide (i.Kind < 1) || decide (3 < i.Kind)):=by
  unfold OR
  refine kM (l:=l) (λi:aE=>decide (i.Kind < 1) || decide (3 < i.Kind)) (by omega) (λi x hx hm hi=> ?_) (by unfold uF; simp)
  unfold uF LB
  rw[f0 (by omega)]
  simp only[a8,hx,bind_some,ofNat_lt,hi,decide_true,if_true]
  by_cases a:x.Kind < 1<;>by_cases b:3 < x.Kind<;>simp[a,b,aG]
 unfold OS
 rw[h1]
 simp only[bind_some]
 cases ha:l.any (λi=>decide (i.Kind < 1) || decide (3 < i.Kind)) with
 | false=>rw[jW ha]; rfl
 | true=>
  obtain⟨i,x,h1, -⟩:=i7 ha
  rw[h1]
  simp
def jS (x:aR) (d:aW):Bool:= !(x.State==3) && !d.Items.isEmpty && !d.Items.any λi=>decide (i.Kind < 1) || decide (3 < i.Kind)
theorem S2 {l:List aB} {d:bK} {p:Nat} {y:aB} (f:aB->aB) (hr:u6 l) (ha:At l d p) (hy:l[p]? =some y) (hd:y.Id=d):l.set p (f y)=l.map λz=>if z.Id=d then f z else z:=
 pC (λz:aB=>z.Id=d) f hy hd (λz hz e=>by
  have:=ha.lo z hz
  rw[e] at this; omega) λz hz e=>by
  obtain⟨j,hj,rfl⟩:=getElem_of_mem hz
  simp only[length_drop] at hj
  rw[getElem_drop] at e
  have:=hr.2 p (p+1+j) _ _ hy (getElem?_eq_getElem (by omega)) (by omega)
  rw[e,hd] at this; omega
theorem F0 {F:Nat} {c:aA} {d:aW} {x:aR} {i:aE} {k:Nat} (hF:1000<=F) (hW:Wm 200 (ws c d.Vol x)) (gv:gI d.Vol) (gf:0<=x.Files/\x.Files<=65535) (hn:d.Items.length<=64) (hI:∀i∈d.Items,It i) (hk:k < d.Items.length) (hi:d.Items[k]? =some i)
    (e:aA) (he:e=xK x.Pool d.Vol (x.Files+1) (ws c d.Vol x) (d.Items.take k)):
    (jZ (ws c d.Vol x) i=true->o9 F c d x (gs (d.Items.take k)) e.Seq e.Snaps e.Chunks e.Exps (k:Int)=some (.go (gs (d.Items.take (k+1)),(wP x.Pool e i (jY d.Vol (x.Files+1) i)).Seq,(wP x.Pool e i (jY d.Vol (x.Files+1) i)).Snaps,(wP x.Pool e i (jY d.Vol (x.Files+1) i)).Chunks,(wP x.Pool e i (jY d.Vol (x.Files+1) i)).Exps,((k+1:Nat):Int))))/\
    (jZ (ws c d.Vol x) i=false->∃r,r.1=8/\o9 F c d x (gs (d.Items.take k)) e.Seq e.Snaps e.Chunks e.Exps (k:Int)=some (.ret r)):=by
  have gF:gI (x.Files+1):=⟨by omega,by omega⟩
  have hm:=mem_of_getElem? hi
  have It':=hI i hm
  have hWe:=wD (p:=x.Pool) gv gF (l:=d.Items.take k) hW λj hj=>hI j (mem_of_mem_take hj)
  have hp:=zS (p:=x.Pool) (v:=d.Vol) (f:=x.Files+1) (j:=i) (l:=d.Items.take k) (c:=ws c d.Vol x)
  have hv:=oM x.Pool d.Vol (x.Files+1) (d.Items.take k) (ws c d.Vol x)
  rw[<- he] at hWe hp hv
  rw[length_take] at hWe
  have hV:(c.Vols.set d.Vol.toNat { x with State:=2}).set d.Vol.toNat { ({ x with State:=2}:aR) with Files:=x.Files+1}=e.Vols:=by
    rw[hv,set_set]; rfl
  have hga:p7 (jY d.Vol (x.Files+1) i):=⟨gv,gF,It'.off,It'.len⟩
  have hgs:gs (d.Items.take (k+1))=if i.Kind==3 then mL (gs (d.Items.take k)) i.Of else gs (d.Items.take k):=by
    obtain⟨hk',rfl⟩:=List.getElem?_eq_some_iff.1 hi
    rw[take_succ_eq_append_getElem hk,S1]
  have h123:=aJQ (a:=jY d.Vol (x.Files+1) i) hF hWe (by omega) It'
  have wF:wrap .i64 (x.Files+1)=x.Files+1:=wr (by omega) (by omega)
  have h123':HU F { Seq:=e.Seq,Snaps:=e.Snaps,Chunks:=e.Chunks,Exps:=e.Exps,Vols:=e.Vols} i { Vol:=d.Vol,File:=x.Files+1,Off:=i.Off,Len:=i.Len}=HU F e i (jY d.Vol (x.Files+1) i):=rfl
  constructor
  . intro hpr
    rw[hp,hpr,if_pos rfl] at h123
    have hr:=xL (qL i (jY d.Vol (x.Files+1) i)) hWe.r
    obtain⟨p,ha,e116⟩:=aDH hF hr It'.id (l:=e.Chunks.map (pR i (jY d.Vol (x.Files+1) i))) (by simp; have:=hWe.cn; omega)
    have e116':yP F (xJ e i (jY d.Vol (x.Files+1) i)).Chunks i.Id=_:=e116
    unfold o9
    rw[f0 (by omega)]
    simp only[a8,hi,bind_some,ofNat_lt,hk,decide_true,if_true,wF,hV,h123',h123,e116']
    rw[if_neg (by simp),hgs]
    have gn:∀ {ρ:Type} (k':List Int->Option ρ),(after (if (i.Kind==3)then some (.brk (mL (gs (d.Items.take k)) i.Of)) else some (.brk (gs (d.Items.take k))):Option (Lp (List Int) ρ)) k')=k' (if i.Kind==3 then mL (gs (d.Items.take k)) i.Of else gs (d.Items.take k)):=λk'=>by split<;>rfl
    rw[gn]
    have fin:(wP x.Pool e i (jY d.Vol (x.Files+1) i)).Chunks=(xJ e i (jY d.Vol (x.Files+1) i)).Chunks.map (qZ x.Pool i):=rfl
    by_cases k1:i.Kind=1
    . have hhas:kO (xJ e i (jY d.Vol (x.Files+1) i)).Chunks i.Id=true:=by
        show kO (e.Chunks.map (pR i (jY d.Vol (x.Files+1) i))) i.Id=true
        rw[oL (qL i _)]
        rw[<- hp] at hpr
        unfold jZ at hpr
        rwa [if_pos k1] at hpr
      rw[show kO (e.Chunks.map (pR i (jY d.Vol (x.Files+1) i))) i.Id=true from hhas]
      obtain⟨y,y1,y2⟩:=HW hr ha It'.id hhas
      simp only[k1,beq_self_eq_true,if_true,aG]
      by_cases p0:x.Pool=0
      . have y1':(xJ e i (jY d.Vol (x.Files+1) i)).Chunks[p]? =some y:=y1
        have hpl:=(List.getElem?_eq_some_iff.1 y1').1
        have hb:(x.Pool==0)=true:=by simpa using p0
        simp only[hb,if_true,y1',bind_some,toNat_natCast]
        rw[getElem?_set_self hpl]
        simp only[bind_some,set_set,aG]
        rw[fin]
        have:=S2 (λz:aB=> { z with Staged:=false,Data:=[]}) (show u6 (xJ e i (jY d.Vol (x.Files+1) i)).Chunks from hr) (show At (xJ e i (jY d.Vol (x.Files+1) i)).Chunks i.Id p from ha) y1' y2
        rw[this]
        have e9:(λz:aB=>if z.Id=i.Id then ({ z with Staged:=false,Data:=[]}:aB) else z)=qZ x.Pool i:=by
          funext z
          simp only[qZ,p0,k1,true_and]
        rw[e9]
        rfl
      . simp only[show (x.Pool==0)=false from by simpa using p0,false_eq_true,if_false,aG]
        rw[fin,kK λz _=>by unfold qZ; rw[if_neg (by simp[p0])]]
        rfl
    . simp only[show (i.Kind==1)=false from by simpa using k1,false_eq_true,if_false,aG]
      rw[fin,kK λz _=>by unfold qZ; rw[if_neg (by simp[k1])]]
      rfl
  . intro hpr
    rw[hp,hpr,if_neg (by decide)] at h123
    refine⟨(8,e.Seq,e.Snaps,e.Chunks,e.Exps,e.Vols),rfl, ?_⟩
    unfold o9
    simp only[a8,hi,bind_some,ofNat_lt,hk,decide_true,if_true,wF,hV,h123',h123]
    rw[if_pos (by simp)]
theorem n74 {F:Nat} {c:aA} {d:aW} {x:aR} (hF:1000<=F) (h:Sm c) (hg:Gd c) (hd:Wd d) (gv:gI d.Vol) (h0:0<=d.Vol) (hx:c.Vols[d.Vol.toNat]? =some x):
    ∃r,ZA F c d=some r/\(if jS x d=true then (if d.Items.all (jZ c)then r=(0,(jI c d x).Seq,(jI c d x).Snaps,(jI c d x).Chunks,(jI c d x).Exps,(jI c d x).Vols) else r.1=8) else r.1=1):=by
  have hxb:=hg.v x (mem_of_getElem? hx)
  have gf:0<=x.Files/\x.Files<=65535:=by
    unfold mD fI at hxb
    simp only[and_eq_true,or_eq_true,decide_eq_true_eq,beq_iff_eq] at hxb
    omega
  have gF:gI (x.Files+1):=⟨by omega,by omega⟩
  have hlt:=(List.getElem?_eq_some_iff.1 hx).1
  have hn:=hd.n
  have hW:=JM h hg hx
  unfold ZA
  rw[aJR hF hn]
  simp only[bind_some,m5 _ h0,hx]
  rw[if_neg (by simp; omega),if_neg (by simp; omega)]
  by_cases c1:x.State=3
  . rw[if_pos (by simp[c1])]
    simp only[aG,if_true]
    exact⟨_,rfl,by simp[jS,c1]⟩
  rw[if_neg (by simp[c1])]
  by_cases c2:d.Items= []
  . simp[c2,aG,jS]
  have hpos:0 < d.Items.length:=length_pos_iff.2 c2
  rw[if_neg (by simp; omega),if_neg (by simp; omega)]
  simp only[aG]
  cases c3:d.Items.any (λi=>decide (i.Kind < 1) || decide (3 < i.Kind)) with
  | true=>
    simp only[Bool.not_true,Bool.not_false,if_true]
    exact⟨_,rfl,by simp[jS,c3]⟩
  | false=>
  have hI:∀i∈d.Items,It i:=λi hi=>by
    obtain⟨a1,a2,a3,a4,a5⟩:=hd.it i hi
    have:=any_eq_false.1 c3 i hi
    simp only[or_eq_true,decide_eq_true_eq] at this
    exact⟨a1,a2,by omega,a3,a4,a5⟩
  have hwc:jS x d=true:=by simp[jS,c1,c2,c3]
  simp only[Bool.not_false,Bool.not_true,false_eq_true,if_false,hwc,if_true]
  have key:=zQ (body:=λs:List Int×Int×List aI×List aB×List aQ×Int=>o9 F c d x s.1 s.2.1 s.2.2.1 s.2.2.2.1 s.2.2.2.2.1 s.2.2.2.2.2) (n:=d.Items.length)
    (λk=>(gs (d.Items.take k),(xK x.Pool d.Vol (x.Files+1) (ws c d.Vol x) (d.Items.take k)).Seq,(xK x.Pool d.Vol (x.Files+1) (ws c d.Vol x) (d.Items.take k)).Snaps,(xK x.Pool d.Vol (x.Files+1) (ws c d.Vol x) (d.Items.take k)).Chunks,(xK x.Pool d.Vol (x.Files+1) (ws c d.Vol x) (d.Items.take k)).Exps,(k:Int)))
    (λk=>(d.Items[k]?).any (jZ c)) (λr=>r.1=8)
    (λk hk hp=>by
      have hi:d.Items[k]? =some d.Items[k]:=getElem?_eq_getElem hk
      have:=(F0 hF hW gv gf hn hI hk hi _ rfl).1 (by rw[hi] at hp; exact hp)
      refine this.trans ?_
      rw[<- FZ,<- take_succ_eq_append_getElem hk])
    (λk hk hp=>by
      have hi:d.Items[k]? =some d.Items[k]:=getElem?_eq_getElem hk
      exact(F0 hF hW gv gf hn hI hk hi _ rfl).2 (by rw[hi] at hp; exact hp))
    (by unfold o9; simp) d.Items.length 0 F (by omega) (by omega)
  have st0:([],c.Seq,c.Snaps,c.Chunks,c.Exps,0)=(gs (d.Items.take 0),(xK x.Pool d.Vol (x.Files+1) (ws c d.Vol x) (d.Items.take 0)).Seq,(xK x.Pool d.Vol (x.Files+1) (ws c d.Vol x) (d.Items.take 0)).Snaps,(xK x.Pool d.Vol (x.Files+1) (ws c d.Vol x) (d.Items.take 0)).Chunks,(xK x.Pool d.Vol (x.Files+1) (ws c d.Vol x) (d.Items.take 0)).Exps,((0:Nat):Int)):=rfl
  rw[st0]
  rcases key with⟨k1,k2⟩ | ⟨⟨j, -,k1,k2⟩,r,k3,k4⟩
  . rw[k2]
    simp only[aG,take_length]
    have hall:d.Items.all (jZ c)=true:=all_eq_true.2 λi hi=>by
      obtain⟨j,hj,rfl⟩:=getElem_of_mem hi
      have:=k1 j (zero_le _) hj
      rw[getElem?_eq_getElem hj] at this
      exact this
    rw[hall]
    simp only[if_true]
    have hWe:=wD (p:=x.Pool) gv gF hW hI
    have e1:xK x.Pool d.Vol (x.Files+1) (ws c d.Vol x) d.Items=iW c d x:=rfl
    have hVv:(c.Vols.set d.Vol.toNat { x with State:=2}).set d.Vol.toNat { ({ x with State:=2}:aR) with Files:=wrap .i64 (x.Files+1)}=(iW c d x).Vols:=by
      rw[<- e1,oM,set_set,wr (by omega) (by omega)]; rfl
    rw[e1] at hWe ⊢
    have hsm:=hWe.sm (by omega)
    rw[aJO (l:=(iW c d x).Snaps) (λs=>jE d.Items s) hF (by have:=hWe.sn; omega) (λs hs=>by unfold SN; rw[XP])]
    simp only[bind_some]
    rw[hVv]
    have h120:LA F { Seq:=(iW c d x).Seq,Snaps:=(iW c d x).Snaps.filter (λs=> !jE d.Items s),Chunks:=(iW c d x).Chunks,Exps:=(iW c d x).Exps,Vols:=(iW c d x).Vols}=some (LD (sC c d x)):=aI1 hF (uL hsm _)
    rw[h120]
    refine⟨_, ?_,rfl⟩
    unfold jI
    have e2:(sC c d x).Snaps=(iW c d x).Snaps.filter λs=> !jE d.Items s:=rfl
    rw[e2]
    by_cases hs:((iW c d x).Snaps.filter λs=> !jE d.Items s).length < (iW c d x).Snaps.length
    . rw[if_pos (by simpa using hs),if_pos hs]
      simp only[bind_some,aG]
      rfl
    . rw[if_neg (by simpa using hs),if_neg hs]
      simp only[aG]
      rfl
  . have hall:d.Items.all (jZ c)=false:=by
      rw[List.all_eq_false]
      refine⟨d.Items[j],getElem_mem k1, ?_⟩
      rw[getElem?_eq_getElem k1] at k2
      simpa using k2
    rw[k4,hall]
    exact⟨_,rfl,by simpa using k3⟩
theorem DT {c:aA} {d:aW} {x:aR} (h:Sm c) (hg:Gd c) (hd:Wd d) (gv:gI d.Vol) (hx:c.Vols[d.Vol.toNat]? =some x) (hI:∀i∈d.Items,1<=i.Kind/\i.Kind<=3):Sm (jI c d x):=by
 have hxb:=hg.v x (mem_of_getElem? hx)
 have gf:0<=x.Files/\x.Files<=65535:=by
  unfold mD fI at hxb
  simp only[and_eq_true,or_eq_true,decide_eq_true_eq,beq_iff_eq] at hxb
  omega
 have gF:gI (x.Files+1):=⟨by omega,by omega⟩
 have hn:=hd.n
 have hWe:=wD (p:=x.Pool) gv gF (JM h hg hx) (λi hi=>⟨(hd.it i hi).1,(hd.it i hi).2.1,hI i hi,(hd.it i hi).2.2.1,(hd.it i hi).2.2.2.1,(hd.it i hi).2.2.2.2⟩)
 have hs:=uL (hWe.sm (by omega)) λs=> !jE d.Items s
 unfold jI
 split
 ·exact JH hs
 ·exact hs
theorem PU {F:Nat} {c:aA} {d:aW} {x:aR} (hF:1000<=F) (h:Sm c) (hg:Gd c) (hk:d.Kind=3) (hd:Wd d) (gv:gI d.Vol) (h0:0<=d.Vol) (hx:c.Vols[d.Vol.toNat]? =some x):
    OZ F c d=some (if jS x d=true then (if d.Items.all (jZ c)then (if f8 (jI c d x)then (jI c d x,0) else (bY,1)) else (bY,8)) else (bY,1)):=by
  have hk2:m8.find? (λe=>e.1==d.Kind)=some (d.Kind,74):=by rw[hk]; rfl
  have go:∀(e:aA) (n:Int),mE F 74 c d=some (e,n)->(n=0->Sm e)->_:=λe n=>n29 (n:=n) hF h (jP.2 hg) hk2
  obtain⟨r,hr,hq⟩:=n74 hF h hg hd gv h0 hx
  have e0:mE F 74 c d=(ZA F c d).bind λo=>some ({ c with Seq:=o.2.1,Snaps:=o.2.2.1,Chunks:=o.2.2.2.1,Exps:=o.2.2.2.2.1,Vols:=o.2.2.2.2.2},o.1):=by
    unfold mE
    simp only[if_neg (show ¬(74:Nat)=72 by decide),if_neg (show ¬(74:Nat)=73 by decide),if_true]
  rw[hr] at e0
  by_cases c1:jS x d=true
  . rw[if_pos c1] at hq ⊢
    by_cases c2:d.Items.all (jZ c)=true
    . rw[if_pos c2] at hq ⊢
      subst hq
      rw[go (jI c d x) 0 e0 λ_=>DT h hg hd gv hx λi hi=>by
        unfold jS at c1
        simp only[and_eq_true,not_eq_true',any_eq_false,or_eq_true,decide_eq_true_eq,not_or,not_lt] at c1
        exact c1.2 i hi]
      rfl
    . rw[if_neg c2] at hq ⊢
      rw[go _ _ e0 λh=>by rw[hq] at h; cases h]
      simp[hq]
  . rw[if_neg c1] at hq ⊢
    rw[go _ _ e0 λh=>by rw[hq] at h; cases h]
    simp[hq]
def LK (n:Nat) (l:List aS):Prop:=l.length<=n/\gL p7 l
def S3 (n:Nat) (s:aI):Prop:=gI s.Seq/\JE s.Man/\LK n s.Locs
def S4 (n:Nat) (x:aB):Prop:=mQ x.Id/\x.Data.length<=300/\gL gB x.Data/\LK n x.Locs
def S5 (n:Nat) (x:aQ):Prop:=gI x.Seq/\gI x.Of/\LK n x.Locs
structure Md (n m:Nat) (q:Int) (s:List aI) (k:List aB) (e:List aQ) (v:List aR):Prop where
 q:gI q
 sn:s.length<=9
 s:∀x∈s,S3 n x
 kn:k.length<=360
 k:∀x∈k,S4 n x
 en:e.length<=m
 e:∀x∈e,S5 n x
 vn:v.length<=8
 v:∀x∈v,UL x
theorem LK.mono {n n':Nat} {l:List aS} (h:LK n l) (hn:n<=n'):LK n' l:=⟨Nat.le_trans h.1 hn,h.2⟩
theorem S3.mono {n n':Nat} {x:aI} (h:S3 n x) (hn:n<=n'):S3 n' x:=⟨h.1,h.2.1,h.2.2.mono hn⟩
theorem S4.mono {n n':Nat} {x:aB} (h:S4 n x) (hn:n<=n'):S4 n' x:=⟨h.1,h.2.1,h.2.2.1,h.2.2.2.mono hn⟩
theorem S5.mono {n n':Nat} {x:aQ} (h:S5 n x) (hn:n<=n'):S5 n' x:=⟨h.1,h.2.1,h.2.2.mono hn⟩
theorem Md.mono {n m n' m':Nat} {q:Int} {s:List aI} {k:List aB} {e:List aQ} {v:List aR} (h:Md n m q s k e v) (hn:n<=n') (hm:m<=m'):Md n' m' q s k e v:=
 ⟨h.q,h.sn,λx hx=>(h.s x hx).mono hn,h.kn,λx hx=>(h.k x hx).mono hn,Nat.le_trans h.en hm,λx hx=>(h.e x hx).mono hn,h.vn,h.v⟩
theorem Md.sm {n m:Nat} {q:Int} {s:List aI} {k:List aB} {e:List aQ} {v:List aR} (h:Md n m q s k e v) (hn:n<=300) (hm:m<=300):Sm { Seq:=q,Snaps:=s,Chunks:=k,Exps:=e,Vols:=v} where
 g:=⟨h.q,λx hx=>⟨(h.s x hx).1,(h.s x hx).2.1.2.2.2,(h.s x hx).2.2.2⟩,λx hx=>⟨(h.k x hx).1,trivial,(h.k x hx).2.2.1,(h.k x hx).2.2.2.2⟩,λx hx=>⟨(h.e x hx).1,(h.e x hx).2.1,(h.e x hx).2.2.2⟩,h.v⟩
 sn:=Nat.le_trans h.sn (by omega)
 ch:=Nat.le_trans h.kn (by omega)
 ex:=Nat.le_trans h.en hm
 vo:=Nat.le_trans h.vn (by omega)
 sl:=λx hx=>Nat.le_trans (h.s x hx).2.2.1 hn
 cl:=λx hx=>⟨Nat.le_trans (h.k x hx).2.2.2.1 hn,(h.k x hx).2.1⟩
 el:=λx hx=>Nat.le_trans (h.e x hx).2.2.1 hn
 man:=λx hx=>⟨(h.s x hx).2.1.1,(h.s x hx).2.1.2.1,(h.s x hx).2.1.2.2.1⟩
theorem wE {c:aA} {l:List aS} (h:iM c l=true):l.length<=200:=by
 unfold iM at h
 simp only[and_eq_true,decide_eq_true_eq] at h
 exact h.1
theorem Ok.md {c:aA} (h:Ok c):Md 200 200 c.Seq c.Snaps c.Chunks c.Exps c.Vols where
 q:=h.sm.g.1
 sn:=Nat.le_trans h.rg.sn (by omega)
 s:=λx hx=>⟨(h.sm.g.2.1 x hx).1,⟨(h.sm.man x hx).1,(h.sm.man x hx).2.1,(h.sm.man x hx).2.2,(h.sm.g.2.1 x hx).2.1⟩,wE (h.rg.s x hx).2.2.2,(h.sm.g.2.1 x hx).2.2⟩
 kn:=Nat.le_trans h.rg.ch (by omega)
 k:=λx hx=>⟨(h.sm.g.2.2.1 x hx).1,(h.sm.cl x hx).2,(h.sm.g.2.2.1 x hx).2.2.1,wE (h.rg.k x hx).2,(h.sm.g.2.2.1 x hx).2.2.2⟩
 en:=h.rg.ex
 e:=λx hx=>⟨(h.sm.g.2.2.2.1 x hx).1,(h.sm.g.2.2.2.1 x hx).2.1,wE (h.rg.e x hx).2.2.2.2,(h.sm.g.2.2.2.1 x hx).2.2⟩
 vn:=h.rg.vo
 v:=h.sm.g.2.2.2.2
theorem BU {α:Type} {l:List α} {P:α->Prop} {i:Int} {x:α} (h0:0<=i) (hx:l[i.toNat]? =some x) (h:∀y∈l.take i.toNat,P y) (hP:P x):∀y∈l.take (i+1).toNat,P y:=by
 intro y hy
 obtain⟨hlt,he⟩:=List.getElem?_eq_some_iff.1 hx
 rw[show (i+1).toNat=i.toNat+1 from by omega,take_succ_eq_append_getElem hlt] at hy
 rcases mem_append.1 hy with h1 | h1
 ·exact h y h1
 ·rw[mem_singleton,he] at h1
  exact h1 ▸ hP
theorem PW {α:Type} {l:List α} {i n:Nat} {x:α} (hx:l[i]? =some x) (hi:i < n):x∈l.take n:=by
 refine mem_of_getElem? (i:=i) ?_
 rw[List.getElem?_take_of_lt hi,hx]
def F1 (a:nJ):Prop:=∀f∈a.Tree,f.Path.size<=100
theorem t27 {F:Nat} {l:List nJ} (hF:1000<=F):T (ZD F l) λb=>b=false->∀a∈l.take 30,F1 a:=by
 unfold ZD
 refine .ite (λ_=>.some λh=>by cases h) λhl=> ?_
 have hl:l.length<=120:=by simp at hl; omega
 refine .loop (λi=>0<=i/\i<=l.length/\i<=30/\∀a∈l.take i.toNat,F1 a) (λi=>(l.length - i).toNat) (λ_=>∀a∈l.take 30,F1 a) (by omega) (by simp) (λi hi=> ?_) (λi hi=>.some λ_=>hi)
 obtain⟨i0,i1,i2,i3⟩:=hi
 unfold DP
 refine .after (.ite (λhc=>.brk (T.ite (λhc2=> ?_) λhc2=>.brk λa ha=> ?_)) λhc=>.brk (T.ite (λh=>by cases h) λ_=>.brk λa ha=> ?_))
 ·have hc:=of_decide_eq_true hc
  have hc2:=of_decide_eq_true hc2
  rw[wr (n:=i+1) (by omega) (by omega)]
  refine .after (.ix (by omega) (by omega) λx e hx=>.ite (λ_=>.brk (T.ite (λ_=>.ret λh=>by cases h) λh=>absurd rfl h)) λ_=>.ix (by omega) (by omega) λy e2 hy=>.brk (T.ite (λ_=>.ret λh=>by cases h) λht=> ?_))
  have ht:y.Tree.length<=10:=by simp at ht; omega
  refine .loop (λj=>0<=j/\j<=y.Tree.length/\∀f∈y.Tree.take j.toNat,f.Path.size<=100) (λj=>(y.Tree.length - j).toNat) (λ_=>F1 y) (by omega) (by simp) (λj hj=> ?_) (λj hj=>.go ⟨⟨by omega,by omega,by omega,BU i0 e2 i3 hj⟩,by omega⟩)
  obtain⟨j0,j1,j2⟩:=hj
  have same:∀z,l[i.toNat]? =some z->z=y:=λz hz=>by rw[e2] at hz; exact(Option.some.inj hz).symm
  unfold DO
  refine .ix (by omega) (by omega) λz ez _=> ?_
  obtain rfl:=same z ez
  refine .ite (λhc=> ?_) λhc=>.brk λf hf=>j2 f ?_
  ·have hc:=of_decide_eq_true hc
   rw[wr (n:=j+1) (by omega) (by omega)]
   refine .after (.ix (by omega) (by omega) λz2 ez2 _=> ?_)
   obtain rfl:=same z2 ez2
   refine .ix (by omega) (by omega) λf ef hf=>.ite (λ_=>.brk (T.ite (λ_=>.ret (show (_:Bool)=false->_ from λh=>by cases h)) λh=>absurd rfl h)) λ_=>.ix (by omega) (by omega) λz3 ez3 _=> ?_
   obtain rfl:=same z3 ez3
   refine .ix (by omega) (by omega) λf ef hf=>.brk (T.ite (λ_=>.ret (show (_:Bool)=false->_ from λh=>by cases h)) λhp=>.go ⟨⟨by omega,by omega,BU j0 ef j2 ?_⟩,by omega⟩)
   simp at hp
   omega
  ·have hc:¬(j < z.Tree.length):=by simpa using hc
   rw[List.take_of_length_le (by omega)]
   exact hf
 ·have hc2:¬(i < 30):=by simpa using hc2
  have:i.toNat=30:=by omega
  rw[this] at i3
  exact i3 a ha
 ·have hc:¬(i < l.length):=by simpa using hc
  refine i3 a ?_
  rw[List.take_of_length_le (by omega)]
  exact mem_of_mem_take ha
theorem aJS (x:Int) (hx:gI x):cF .and .i64 x 1=0\/cF .and .i64 x 1=1:=by
 have e:cF .and .i64 x 1=wrap .i64 ((BitVec.ofInt 64 x &&& BitVec.ofInt 64 1).toNat:Int):=rfl
 have e1:(BitVec.ofInt 64 1).toNat=1:=by decide
 rw[e,BitVec.toNat_and,e1,Nat.and_one_is_mod]
 rcases Nat.mod_two_eq_zero_or_one (BitVec.ofInt 64 x).toNat with h | h<;>rw[h]
 ·exact .inl rfl
 ·exact .inr rfl
theorem t29 {F:Nat} {l:List Int} (hF:1000<=F) (gl:gL gI l):T (ZE F l) λr=>fI r.length 1 8=true/\r.all FE=true/\gL gI r:=by
 unfold ZE
 refine .loop (λs=>0<=s.2/\s.2<=l.length/\s.2<=8/\(s.1.length:Int)=s.2/\∀x∈s.1,x=0\/x=1) (λs=>(8 - s.2).toNat) (λs=>s.1.length<=8/\∀x∈s.1,x=0\/x=1) (by simp; omega) (by simp) (λs hs=> ?_) (λs hs=> ?_)
 ·obtain⟨q,i⟩:=s
  simp only at hs
  unfold DQ
  refine .after (.ite (λhc=>.brk (T.ite (λhc2=> ?_) λhc2=>.brk ⟨by first | omega | (simp only; omega),hs.2.2.2.2⟩)) λhc=>.brk (T.ite (λh=>by cases h) λ_=>.brk ⟨by first | omega | (simp only; omega),hs.2.2.2.2⟩))
  have hc:=of_decide_eq_true hc
  have hc2:=of_decide_eq_true hc2
  simp only at hc hc2
  rw[wr (n:=i+1) (by omega) (by omega)]
  refine .ix (by omega) (by omega) λx _ hx=>.app (by simp; omega) (.go ⟨⟨by first | omega | (simp only; omega),by first | omega | (simp only; omega),by first | omega | (simp only; omega),by simp; omega,λy hy=> ?_⟩,by first | omega | (simp only; omega)⟩)
  rcases mem_append.1 hy with h | h
  ·exact hs.2.2.2.2 y h
  ·rw[mem_singleton] at h
   exact h ▸ aJS x (gl x hx)
 ·obtain⟨q,i⟩:=s
  simp only at hs
  have fin:∀r:List Int,0 < r.length->r.length<=8->(∀x∈r,x=0\/x=1)->fI r.length 1 8=true/\r.all FE=true/\gL gI r:=λr h1 h2 h3=>by
   refine⟨by unfold fI; simp; omega, ?_,λx hx=> ?_⟩
   ·rw[all_eq_true]
    intro x hx
    rcases h3 x hx with rfl | rfl<;>rfl
   ·rcases h3 x hx with rfl | rfl<;>simp[gI]
  refine .after (.ite (λ_=>.brk (.some (fin _ (by simp) (by simp) (by simp)))) λhc=>.brk (.some (fin _ ?_ hs.1 hs.2)))
  have:¬((q.length:Int)=0):=by simpa using hc
  omega
theorem Lk.filt {vs:List aR} {l:List aS} (h:Lk vs l) (q:aS->Bool):Lk vs (l.filter q):=
 ⟨Nat.le_trans (length_filter_le _ _) h.n,λx hx=>h.a x (mem_filter.1 hx).1,h.o.sublist (filter_sublist)⟩
theorem JN {vs:List aR} {x:aS} {v:Nat} {z:aR} (h:tX vs x=true) (hv:x.Vol.toNat≠v):tX (vs.set v z) x=true:=by
 unfold tX at*
 rw[List.length_set,List.getElem?_set_ne (λe=>hv e.symm)]
 exact h
theorem DU {vs:List aR} {x:aS} (h:tX vs x=true):0<=x.Vol/\∃v,vs[x.Vol.toNat]? =some v/\v.State=2/\1<=x.File/\x.File<=v.Files:=by
 unfold tX at h
 simp only[and_eq_true,fI,decide_eq_true_eq] at h
 obtain⟨⟨⟨h1,h2⟩, -⟩, -⟩:=h
 refine⟨h1.1, ?_⟩
 cases e:vs[x.Vol.toNat]? with
 | none=>rw[e] at h2; cases h2
 | some v=>
  rw[e] at h2
  simp only[and_eq_true,beq_iff_eq,decide_eq_true_eq] at h2
  exact⟨v,rfl,h2.1,h2.2.1,h2.2.2⟩
theorem Lk.set {vs:List aR} {l:List aS} {v:Int} {z:aR} (h:Lk vs l) (h0:0<=v) (hv:∀x∈l,x.Vol≠v):Lk (vs.set v.toNat z) l:=
 ⟨h.n,λx hx=>JN (h.a x hx) (by have:=(DU (h.a x hx)).1; have:=hv x hx; omega),h.o⟩
theorem Lk.lf {vs:List aR} {l:List aS} {v:Int} {z:aR} (h:Lk vs l) (h0:0<=v):Lk (vs.set v.toNat z) (lf v l):=
 Lk.set (h.filt _) h0 λx hx=>by
  have:=(mem_filter.1 hx).2
  simpa using this
theorem Lk.off {vs:List aR} {l:List aS} {v:Int} {z:aR} (h:Lk vs l) (hz:vs[v.toNat]? =some z) (hs:z.State≠2):∀x∈l,x.Vol≠v:=λx hx e=>by
 obtain⟨-,y,hy,h2, -⟩:=DU (h.a x hx)
 rw[e,hz] at hy
 obtain rfl:=Option.some.inj hy
 exact hs h2
theorem DV {c:aA} {v:Int} {x:aR} (h:Sm c) (hx:c.Vols[v.toNat]? =some x):Sm (ret c v x):=by
 obtain⟨g0,g1,g2,g3,g4⟩:=h.g
 have lfm:∀ {l:List aS} {y},y∈lf v l->y∈l:=λhy=>(mem_filter.1 hy).1
 have lfl:∀(l:List aS),(lf v l).length<=l.length:=λl=>length_filter_le _ _
 refine⟨⟨g0, ?_, ?_, ?_, ?_⟩, ?_, ?_, ?_, ?_, ?_, ?_, ?_, ?_⟩
 ·intro s hs
  obtain⟨s0,h0,rfl⟩:=mem_map.1 hs
  exact⟨(g1 s0 h0).1,(g1 s0 h0).2.1,λy hy=>(g1 s0 h0).2.2 y (lfm hy)⟩
 ·intro s hs
  obtain⟨s0,h0,rfl⟩:=mem_map.1 (mem_filter.1 hs).1
  exact⟨(g2 s0 h0).1,(g2 s0 h0).2.1,(g2 s0 h0).2.2.1,λy hy=>(g2 s0 h0).2.2.2 y (lfm hy)⟩
 ·intro s hs
  obtain⟨s0,h0,rfl⟩:=mem_map.1 (mem_filter.1 hs).1
  exact⟨(g3 s0 h0).1,(g3 s0 h0).2.1,λy hy=>(g3 s0 h0).2.2 y (lfm hy)⟩
 ·intro s hs
  rcases List.mem_or_eq_of_mem_set hs with h1 | rfl
  ·exact g4 s h1
  ·have:=g4 x (mem_of_getElem? hx)
   exact⟨this.1,this.2.1,(⟨by decide,by decide⟩:gI 3),(⟨by decide,by decide⟩:gI 0)⟩
 ·simpa [ret] using h.sn
 ·exact Nat.le_trans (length_filter_le _ _) (by simpa using h.ch)
 ·exact Nat.le_trans (length_filter_le _ _) (by simpa using h.ex)
 ·simpa [ret] using h.vo
 ·intro s hs
  obtain⟨s0,h0,rfl⟩:=mem_map.1 hs
  exact Nat.le_trans (lfl _) (h.sl s0 h0)
 ·intro s hs
  obtain⟨s0,h0,rfl⟩:=mem_map.1 (mem_filter.1 hs).1
  exact⟨Nat.le_trans (lfl _) (h.cl s0 h0).1,(h.cl s0 h0).2⟩
 ·intro s hs
  obtain⟨s0,h0,rfl⟩:=mem_map.1 (mem_filter.1 hs).1
  exact Nat.le_trans (lfl _) (h.el s0 h0)
 ·intro s hs
  obtain⟨s0,h0,rfl⟩:=mem_map.1 hs
  exact h.man s0 h0
theorem XQ {c:aA} {v:Int} {x:aR} (h:Gd c) (h0:0<=v) (hx:c.Vols[v.toNat]? =some x) (hp:∀s∈c.Snaps,KS (ret c v x) s.Man=true):Gd (ret c v x) where
 q:=h.q
 v:=λy hy=>by
  rcases List.mem_or_eq_of_mem_set hy with h1 | rfl
  ·exact h.v y h1
  ·have:=h.v x (mem_of_getElem? hx)
   unfold mD at this ⊢
   simp only[and_eq_true] at this
   rw[this.1.1,this.1.2]
   rfl
 vn:=by simpa [ret] using h.vn
 cn:=Nat.le_trans (length_filter_le _ _) (by simpa using h.cn)
 co:=((pairwise_map (R:=λy x:aB=>ky y.Id < ky x.Id) (f:=wY v)).2 h.co).sublist filter_sublist
 cl:=λy hy=>by
  obtain⟨s0,h1,rfl⟩:=mem_map.1 (mem_filter.1 hy).1
  exact(h.cl s0 h1).lf h0
 cs:=λy hy=>by
  obtain⟨h1,h2⟩:=mem_filter.1 hy
  obtain⟨s0,h3,rfl⟩:=mem_map.1 h1
  have:=h.cs s0 h3
  cases e:s0.Staged with
  | true=>rw[e] at this; simpa [wY,e] using this
  | false=>
   rw[e] at this
   simp only[wY,wO,e,Bool.not_false,Bool.true_and,not_eq_true',beq_eq_false_iff_ne,ne_eq] at h2
   simp only[wY,e]
   refine⟨this.1,λe2=>h2 ?_⟩
   rw[e2]; rfl
 sn:=by simpa [ret] using h.sn
 so:=pairwise_map.2 h.so
 sq:=λs hs=>by
  obtain⟨s0,h1,rfl⟩:=mem_map.1 hs
  exact h.sq s0 h1
 sm:=pairwise_map.2 h.sm
 sb:=λs hs=>by
  obtain⟨s0,h1,rfl⟩:=mem_map.1 hs
  exact h.sb s0 h1
 sl:=λs hs=>by
  obtain⟨s0,h1,rfl⟩:=mem_map.1 hs
  exact(h.sl s0 h1).lf h0
 sp:=λs hs=>by
  obtain⟨s0,h1,rfl⟩:=mem_map.1 hs
  exact hp s0 h1
 en:=Nat.le_trans (length_filter_le _ _) (by simpa using h.en)
 eo:=((pairwise_map (R:=λy x:aQ=>y.Seq < x.Seq) (f:=HV v)).2 h.eo).sublist filter_sublist
 eq:=λy hy=>by
  obtain⟨s0,h1,rfl⟩:=mem_map.1 (mem_filter.1 hy).1
  exact h.eq s0 h1
 el:=λy hy=>by
  obtain⟨s0,h1,rfl⟩:=mem_map.1 (mem_filter.1 hy).1
  exact(h.el s0 h1).lf h0
 ee:=λy hy e=>by
  have:=(mem_filter.1 hy).2
  rw[e] at this
  simp at this
 ex:=λy hy s hs=>by
  obtain⟨s0,h1,rfl⟩:=mem_map.1 (mem_filter.1 hy).1
  obtain⟨s1,h2,rfl⟩:=mem_map.1 hs
  exact h.ex s0 h1 s1 h2
def S6 (c:aA) (v:Int) (y:aB):Bool:= !y.Staged && decide (0 < (y.Locs.length:Int)) && iS c y.Id && y.Locs.all λl=>l.Vol==v
theorem PX {c:aA} {v:Int} {x:aR} (h:Gd c) (h0:0<=v) (hx:c.Vols[v.toNat]? =some x) (hn:c.Chunks.any (S6 c v)=false):Gd (ret c v x):=by
 refine XQ h h0 hx λs hs=> ?_
 have hp:=h.sp s hs
 unfold KS at hp ⊢
 refine all_eq_true.2 λp hp1=>all_eq_true.2 λd hd=> ?_
 have h1:=all_eq_true.1 (all_eq_true.1 hp p hp1) d hd
 obtain⟨y,hy,e⟩:=any_eq_true.1 h1
 obtain rfl:=of_decide_eq_true e
 refine any_eq_true.2 ⟨wY v y,mem_filter.2 ⟨List.mem_map_of_mem hy, ?_⟩,decide_eq_true rfl⟩
 have hu:iS c y.Id=true:=any_eq_true.2 ⟨s,hs,any_eq_true.2 ⟨p,hp1,any_eq_true.2 ⟨_,hd,decide_eq_true rfl⟩⟩⟩
 have:=any_eq_false.1 hn y hy
 unfold S6 at this
 rw[hu] at this
 have cs:=h.cs y hy
 cases e:y.Staged with
 | true=>simp[wO,wY,e]
 | false=>
  rw[e] at cs this
  obtain⟨-,ne⟩:=cs
  have hl:0 < y.Locs.length:=length_pos_iff.2 ne
  have this:¬(∀z∈y.Locs,z.Vol=v):=by simpa [hl] using this
  have:lf v y.Locs≠ []:=λe2=>this λz hz=>by
   have:=filter_eq_nil_iff.1 e2 z hz
   simpa using this
  have:0 < (lf v y.Locs).length:=length_pos_iff.2 this
  simp only[wO,wY,e,Bool.not_false,Bool.true_and,not_eq_true',beq_eq_false_iff_ne,ne_eq]
  omega
theorem PY {c:aA} {v:Int} {x:aR} (h:Sm c) (hx:c.Vols[v.toNat]? =some x) (he:x.Epoch<=1048576/\0<=x.Epoch):Sm (rel c v x):=by
 obtain⟨g0,g1,g2,g3,g4⟩:=h.g
 refine { h with g:=⟨g0,g1,g2,g3, ?_⟩,vo:=by simpa [rel] using h.vo}
 intro s hs
 rcases List.mem_or_eq_of_mem_set hs with h1 | rfl
 ·exact g4 s h1
 ·have:=g4 x (mem_of_getElem? hx)
  exact⟨this.1,⟨by simp only; omega,by simp only; omega⟩,(⟨by decide,by decide⟩:gI 1),this.2.2.2⟩
theorem LL {F:Nat} {c:aA} {d:aW} {x:aR} (hF:1000<=F) (h:Sm c) (hg:Gd c) (hk:d.Kind=4) (h0:0<=d.Vol) (hx:c.Vols[d.Vol.toNat]? =some x):
    OZ F c d=some (if x.State=2 then (if f8 (ret c d.Vol x) then (ret c d.Vol x,0) else (bY,1)) else (bY,1)):=by
  have hk2:m8.find? (λe=>e.1==d.Kind)=some (d.Kind,75):=by rw[hk]; rfl
  have go:∀(e:aA) (n:Int),mE F 75 c d=some (e,n)->(n=0->Sm e)->_:=λe n=>n29 (n:=n) hF h (jP.2 hg) hk2
  have e0:mE F 75 c d=(ZB F c d).bind λo=>some ({ c with Snaps:=o.2.1,Chunks:=o.2.2.1,Exps:=o.2.2.2.1,Vols:=o.2.2.2.2},o.1):=by
    unfold mE
    simp only[if_neg (show ¬(75:Nat)=72 by decide),if_neg (show ¬(75:Nat)=73 by decide),if_neg (show ¬(75:Nat)=74 by decide),if_true]
  rw[n75 hF h h0 hx] at e0
  by_cases e1:x.State=2
  . rw[if_pos e1] at e0 ⊢
    rw[go (ret c d.Vol x) 0 e0 λ_=>DV h hx]
    rfl
  . rw[if_neg e1] at e0 ⊢
    rw[go _ _ e0 nofun]
    rfl
theorem Mk.wd {c:aA} {d:aW} (h:Mk c d) (hG:Gd c) (hd:JF d):Wd d:=by
 refine⟨hd.it,λi hi=> ?_⟩
 obtain⟨-,a2,a3,a4⟩:=hd.iti i hi
 refine⟨?_, ?_,a2,a3,a4⟩
 ·rcases h.it with h1 | ⟨s,hs,e⟩
  ·exact(h1.a i hi).id
  ·rw[e] at hi
   rw[mem_singleton.1 hi]
   exact FX
 ·rcases h.it with h1 | ⟨s,hs,e⟩
  ·exact(h1.a i hi).q
  ·rw[e] at hi
   rw[mem_singleton.1 hi]
   have:=hG.q
   simpa [fI] using this
inductive Eff (c:aA) (d:aW) (e:aA):Prop
 | add (k:d.Kind=1) (q:d.Snap.Seq=c.Seq/\pB d.Chunks=true) (n:c.Snaps.any (λs=>s.Man.Name.toList==d.Snap.Man.Name.toList)=false) (w:e=ad c d)
 | drop (k:d.Kind=2) (q:c.Snaps.any (λs=>s.Seq==d.Seq)=true) (w:e=C8 c d.Seq)
 | wrote (k:d.Kind=3) (x:aR) (hx:c.Vols[d.Vol.toNat]? =some x) (q:jS x d=true) (p:d.Items.all (jZ c)=true) (w:e=jI c d x)
 | ret (k:d.Kind=4) (x:aR) (hx:c.Vols[d.Vol.toNat]? =some x) (q:x.State=2) (w:e=ret c d.Vol x)
 | rel (k:d.Kind=5) (x:aR) (hx:c.Vols[d.Vol.toNat]? =some x) (q:x.State=3) (w:e=rel c d.Vol x)
theorem XR {c:aA} {v:Int} (h:0<=v/\v < c.Vols.length):∃x,c.Vols[v.toNat]? =some x:=⟨_,getElem?_eq_getElem (show v.toNat < c.Vols.length by omega)⟩
theorem PZ {c:aA} (hG:Gd c) {n:Nat} {x:aR} (hx:c.Vols[n]? =some x):0<=x.Epoch/\x.Epoch<=1048576:=by
 have:=hG.v x (mem_of_getElem? hx)
 unfold mD fI at this
 simp only[and_eq_true,decide_eq_true_eq] at this
 exact this.1.2
theorem xM {ρ:Type} {body:Int->Option (Lp Int ρ)} {c:Nat->Bool} {n:Nat} (hb:∀k:Nat,k<=n->body (k:Int)=some (if decide (k < n) && c k then .go ((k+1:Nat):Int) else .brk (k:Int))):∀(G k:Nat),k<=n->n - k < G->
    ∃p:Nat,k<=p/\p<=n/\aT body G (k:Int)=some (.brk (p:Int))/\(∀j,k<=j->j < p->c j=true)/\(p < n->c p=false)
  | 0,_,_,h=>by omega
  | G+1,k,hk,h=>by
    unfold aT
    rw[hb k hk]
    cases e:decide (k < n) && c k with
    | false=>
      refine⟨k,Nat.le_refl _,hk,by simp,λj h1 h2=>by omega,λh0=> ?_⟩
      simpa [h0] using e
    | true=>
      simp only[and_eq_true,decide_eq_true_eq] at e
      obtain⟨p,h1,h2,h3,h4,h5⟩:=xM (body:=body) (c:=c) (n:=n) hb G (k+1) (by omega) (by omega)
      refine⟨p,by omega,h2,by simpa using h3,λj hj1 hj2=> ?_,h5⟩
      by_cases ej:j=k
      . rw[ej]; exact e.2
      . exact h4 j (by omega) hj2
def ahB (a b:aS):Bool:=if a.Vol !=b.Vol then decide (a.Vol < b.Vol) else if a.File !=b.File then decide (a.File < b.File) else if a.Off !=b.Off then decide (a.Off < b.Off) else decide (a.Len < b.Len)
def nk (a b:aS):Prop:=¬(a.Vol=b.Vol/\a.File=b.File/\a.Off=b.Off)
theorem P0 {a b:aS} (h:nk a b):ahB a b= !jV a b:=by
 rw[Bool.eq_iff_iff,not_eq_true',<- Bool.not_eq_true,xB]
 unfold nk at h
 unfold ahB
 by_cases h1:a.Vol=b.Vol<;>by_cases h2:a.File=b.File<;>by_cases h3:a.Off=b.Off<;>simp[h1,h2,h3]<;>omega
theorem wQ {l:List aS} {x:aS} (h:l.Pairwise λy z=>jV z y=true) (hl:l.length<=400):fY l x=(l.filter λy=> !jV y x)++x::l.filter λy=>jV y x:=by
 obtain⟨p,hp, -⟩:=aDI (F:=1000) (l:=l) (x:=x) (Nat.le_refl _) hl
 have hle:=hp.le
 rw[<- JI hp]
 have lo:∀y∈l.take p,jV y x=false:=λy hy=>by
  obtain⟨j,hj,rfl⟩:=getElem_of_mem hy
  simp only[length_take] at hj
  rw[getElem_take]
  have hq:l[p - 1]? =some l[p - 1]:=getElem?_eq_getElem (by omega)
  have h0:=hp.lo _ (by omega) hq
  by_cases e:j=p - 1
  ·subst e; exact h0
  ·cases ha:jV l[j] x with
   | false=>rfl
   | true=>
    have:=LI h (getElem?_eq_getElem (show j < l.length by omega)) hq (by omega)
    rw[zA x l[j] l[p - 1] ha this] at h0
    cases h0
 have e:∀q:aS->Bool,l.filter q=(l.take p).filter q++(l.drop p).filter q:=λq=>by rw[<- filter_append,take_append_drop]
 rw[e,e,filter_eq_self.2 λy hy=>by rw[lo y hy]; rfl,filter_eq_nil_iff.2 λy hy=>by rw[hp.hi y hy]; decide,filter_eq_nil_iff.2 λy hy=>by rw[lo y hy]; decide,filter_eq_self.2 λy hy=>hp.hi y hy]
 simp
theorem XS {F:Nat} {l:List aS} {x:aS} (hF:1000<=F) (h:l.Pairwise λy z=>jV z y=true) (hl:l.length<=300) (hn:∀y∈l,nk y x):HX F l x=some (fY l x):=by
 obtain⟨p, -,hp,h1,h2,h3⟩:=xM (body:=λs=>uM F l x s) (c:=λk=>(l[k]?).any λy=>ahB y x) (n:=l.length) (λk hk=>by
  unfold uM SU
  by_cases hlt:k < l.length
  ·have hx:l[k]? =some l[k]:=getElem?_eq_getElem hlt
   generalize l[k]=y at hx
   rw[f0 (by omega)]
   simp only[a8,hx,ofNat_lt,hlt,decide_true,if_true,bind_some,Bool.true_and,any_some]
   have:(if (y.Vol !=x.Vol)then some (decide (y.Vol < x.Vol)) else if (y.File !=x.File)then some (decide (y.File < x.File)) else if (y.Off !=x.Off)then some (decide (y.Off < x.Off)) else some (decide (y.Len < x.Len)))=some (ahB y x):=by
    unfold ahB; split<;>(try rfl); split<;>(try rfl); split<;>rfl
   rw[this]
   simp only[bind_some,aG]
   split<;>rfl
  ·have:¬((k:Int) < (l.length:Int)):=by omega
   simp[this,hlt,aG]) F 0 (zero_le _) (by omega)
 unfold HX
 rw[show ((0:Int))=((0:Nat):Int) from rfl,h1]
 simp only[aG]
 have s1:slc l ((0:Nat):Int) (p:Int)=some (l.take p):=by
  unfold slc; rw[if_pos ⟨by omega,by omega,by omega⟩]; simp
 have s2:slc l (p:Int) (l.length:Int)=some (l.drop p):=by
  unfold slc; rw[if_pos ⟨by omega,by omega,by omega⟩]; simp
 rw[s1,s2]
 simp only[bind_some]
 rw[bS (by simp; omega)]
 simp only[bind_some,nil_append]
 rw[bS (by simp; omega)]
 simp only[bind_some]
 rw[bS (by simp; omega)]
 simp only[bind_some,List.append_assoc,List.singleton_append]
 have a1:∀y∈l.take p,jV y x=false:=λy hy=>by
  obtain⟨j,hj,rfl⟩:=getElem_of_mem hy
  simp only[length_take] at hj
  have hq:l[j]? =some l[j]:=getElem?_eq_getElem (by omega)
  have:=h2 j (zero_le _) (by omega)
  simp only[hq,any_some] at this
  rw[getElem_take]
  rw[P0 (hn _ (getElem_mem _))] at this
  simpa using this
 have a2:∀y∈l.drop p,jV y x=true:=λy hy=>by
  obtain⟨j,hj,rfl⟩:=getElem_of_mem hy
  simp only[length_drop] at hj
  have hq:l[p]? =some l[p]:=getElem?_eq_getElem (by omega)
  have:=h3 (by omega)
  simp only[hq,any_some] at this
  rw[P0 (hn _ (getElem_mem _))] at this
  have this:jV l[p] x=true:=by simpa using this
  rw[getElem_drop]
  cases j with
  | zero=>exact this
  | succ j=>exact zA x _ _ this (LI h hq (getElem?_eq_getElem (show p+(j+1) < l.length by omega)) (by omega))
 rw[wQ h (by omega)]
 have e:∀q:aS->Bool,l.filter q=(l.take p).filter q++(l.drop p).filter q:=λq=>by rw[<- filter_append,take_append_drop]
 rw[e,e,filter_eq_self.2 λy hy=>by rw[a1 y hy]; rfl,filter_eq_nil_iff.2 λy hy=>by rw[a2 y hy]; decide,filter_eq_nil_iff.2 λy hy=>by rw[a1 y hy]; decide,filter_eq_self.2 a2]
 simp
theorem XT {F:Nat} {l:List aS} {v:Int} (hF:1000<=F) (hl:l.length<=300):HY F l v=some (lf v l):=by
 unfold HY
 rw[gZ (l:=l) [] (λy=> !(y.Vol==v)) id (by omega) (λi x hx hm hi acc ha=>by
  simp only[length_nil] at ha
  unfold uN
  simp only
  rw[f0 (by omega)]
  simp only[a8,hx,bind_some,ofNat_lt,hi,decide_true,if_true]
  rw[bS (by simp; omega)]
  by_cases e:x.Vol=v<;>simp[e,aG]) (λacc=>by unfold uN; simp)]
 simp[aG,lf]
theorem XU {F:Nat} {c:aA} {v a b:Int} {x:aR} (h0:0<=v) (hx:c.Vols[v.toNat]? =some x):AT F c v a b=some (x.State==a || x.State==b):=by
 have hlt:=(List.getElem?_eq_some_iff.1 hx).1
 unfold AT
 rw[if_pos (by simpa using h0),if_pos (by simp; omega)]
 simp only[m5 _ h0,hx,bind_some]
 cases h:x.State==a<;>simp[aG]
def Lv (c:aA):Prop:=∀x∈c.Chunks,pI x=true
theorem XV {F:Nat} {c:aA} {q:Int} (hF:1000<=F) (h:Sm c) (hv:Lv c):DB F c q=some (if c.Snaps.any (λs=>s.Seq==q) then (true,(C8 c q).Snaps,(C8 c q).Chunks) else (false,c.Snaps,c.Chunks)):=by
 have hsn:=h.sn
 have hch:=h.ch
 have hD:=uL h λs=> !(s.Seq==q)
 unfold DB
 rw[gZ (l:=c.Snaps) [] (λs=> !(s.Seq==q)) id (by omega) (λi x hx hm hi acc ha=>by
  simp only[length_nil] at ha
  unfold uO
  simp only
  rw[f0 (by omega)]
  simp only[a8,hx,bind_some,ofNat_lt,hi,decide_true,if_true]
  rw[bS (by simp; omega)]
  by_cases e:x.Seq=q<;>simp[e,aG]) (λacc=>by unfold uO; simp)]
 simp only[aG,nil_append,map_id]
 have len:=length_filter_le (λs:aI=> !(s.Seq==q)) c.Snaps
 cases ha:c.Snaps.any (λs=>s.Seq==q) with
 | false=>
  rw[filter_eq_self.2 λs hs=>by simpa using any_eq_false.1 ha s hs,if_pos (by simp)]
  rfl
 | true=>
  have hne:¬((c.Snaps.filter λs=> !(s.Seq==q)).length=c.Snaps.length):=λe=>by
   obtain⟨s,hs,e2⟩:=any_eq_true.1 ha
   have:=List.length_filter_eq_length_iff.1 e s hs
   simp[e2] at this
  rw[if_neg (by simp; omega)]
  rw[gZ (l:=c.Chunks) [] (λy=>pI (FU (rD c q) y)) (FU (rD c q)) (by omega) (λi x hx hm hi acc ha=>by
   simp only[length_nil] at ha
   unfold uP
   simp only
   rw[f0 (by omega)]
   have ea:∀z:aB,app acc [z]=some (acc++ [z]):=λz=>bS (by simp; omega)
   have hl:=hv x hm
   simp only[a8,hx,bind_some,ofNat_lt,hi,decide_true,if_true,ea,m65 hF (c:={ Seq:=c.Seq,Snaps:=c.Snaps.filter λs=> !(s.Seq==q),Chunks:=c.Chunks,Exps:=c.Exps,Vols:=c.Vols}) hD]
   unfold FU
   rw[show iS { Seq:=c.Seq,Snaps:=c.Snaps.filter λs=> !(s.Seq==q),Chunks:=c.Chunks,Exps:=c.Exps,Vols:=c.Vols} x.Id=iS (rD c q) x.Id from rfl]
   cases iS (rD c q) x.Id with
   | true=>
    simp only[Bool.not_true,false_eq_true,if_false,aG,if_true,hl]
   | false=>
    simp only[Bool.not_false,false_eq_true,if_true,if_false,aG,pI,Bool.false_or]
    by_cases e:x.Locs.length=0
    ·rw[if_pos (by simp[e])]
     simp[e,aG,cK]
    ·rw[if_neg (by simpa using e)]
     have:(0:Int) < (x.Locs.length:Int):=by omega
     simp[this,aG]
     exact λh=>e (by rw[h]; rfl)) (λacc=>by unfold uP; simp)]
  simp only[aG,nil_append]
  rfl
theorem aJT {F:Nat} {l:List aB} {n:aB} (hF:1000<=F) (hr:u6 l) (hn:mQ n.Id) (hl:l.length<=360) (hm:∀x∈l,x.Locs.length<=300/\x.Data.length<=300) (hs:n.Staged=true) (ho:n.Locs= []) (hd:n.Data.length<=300):FV F l n=some (wZ l n):=by
  obtain⟨p, -,hp,h1,h2,h3⟩:=xM (body:=λs=>qJ F l n s) (c:=λk=>(l[k]?).any λy=>decide (ky y.Id < ky n.Id)) (n:=l.length) (λk hk=>by
    unfold qJ
    by_cases hlt:k < l.length
    . have hx:l[k]? =some l[k]:=getElem?_eq_getElem hlt
      have gx:=hr.1 l[k] (getElem_mem hlt)
      generalize l[k]=y at hx gx
      rw[f0 (by omega)]
      simp only[a8,hx,ofNat_lt,hlt,decide_true,if_true,bind_some,Bool.true_and,any_some,m60 hF gx hn,aG]
      split<;>rfl
    . have:¬((k:Int) < (l.length:Int)):=by omega
      simp[this,hlt,aG]) F 0 (zero_le _) (by omega)
  have ha:At l n.Id p:=⟨hp,λy hy=>by
      obtain⟨j,hj,rfl⟩:=getElem_of_mem hy
      simp only[length_take] at hj
      have:=h2 j (zero_le _) (by omega)
      rw[getElem?_eq_getElem (show j < l.length by omega)] at this
      rw[getElem_take]
      simpa using this,λy hy=>by
      obtain⟨j,hj,rfl⟩:=getElem_of_mem hy
      simp only[length_drop] at hj
      have hq:l[p]? =some l[p]:=getElem?_eq_getElem (by omega)
      have:=h3 (by omega)
      rw[hq] at this
      have this:¬ky (l[p]).Id < ky n.Id:=by simpa using this
      rw[getElem_drop]
      cases j with
      | zero=>show ky n.Id<=ky (l[p+0]).Id; simp only[Nat.add_zero]; omega
      | succ j=>
        have:=hr.2 p (p+(j+1)) _ _ hq (getElem?_eq_getElem (show p+(j+1) < l.length by omega)) (by omega)
        omega⟩
  unfold FV
  rw[show ((0:Int))=((0:Nat):Int) from rfl,h1]
  simp only[aG]
  have eN:({ Id:=n.Id,Staged:=true,Data:=n.Data,Locs:=[]}:aB)=n:=by
    cases n; simp only at hs ho; subst hs; subst ho; rfl
  cases hh:kO l n.Id with
  | true=>
    obtain⟨x,e1,e2⟩:=HW hr ha hn hh
    obtain⟨hpl,e0⟩:=List.getElem?_eq_some_iff.1 e1
    have e152:BT F l=some l:=by
      unfold BT
      rw[oF (l:=l) (by omega) (λi x hx hm' hi=>by
        have:=hm x hm'
        have el:x.Locs.length<=300:=this.1
        unfold qI vZ wX
        simp only
        rw[f0 (by omega)]
        have a1:app [] x.Data=some x.Data:=by rw[bS (by simp; omega)]; rfl
        have a2:app [] x.Locs=some x.Locs:=by rw[bS (by simp; omega)]; rfl
        simp only[a8,hx,bind_some,ofNat_lt,hi,decide_true,if_true,a1,a2]
        rw[bS (by simp; omega)]
        rfl) (by unfold qI; simp)]
      rfl
    have e141:vZ F n.Data=some n.Data:=by unfold vZ; rw[bS (by simp; omega)]; rfl
    rw[if_pos (by simp; omega)]
    simp only[a8,e1,bind_some,aG,e2,decide_true,if_true,e152,e141,toNat_natCast]
    rw[getElem?_set_self hpl]
    simp only[bind_some,set_set]
    have hf:=SX hr e1
    rw[e2] at hf
    unfold wZ
    rw[hf,<- PN ha,<- SW ha hr e1 e2]
    simp only
    rw[List.set_eq_take_append_cons_drop,if_pos hpl,e2]
  | false=>
    have hne:∀y:aB,l[p]? =some y->y.Id≠n.Id:=λy hy e=>by
      have:=any_eq_false.1 hh y (mem_of_getElem? hy)
      simp[e] at this
    have s1:slc l ((0:Nat):Int) (p:Int)=some (l.take p):=by
      unfold slc; rw[if_pos ⟨by omega,by omega,by omega⟩]; simp
    have s2:slc l (p:Int) (l.length:Int)=some (l.drop p):=by
      unfold slc; rw[if_pos ⟨by omega,by omega,by omega⟩]; simp
    have fin:((slc l ((0:Nat):Int) (p:Int)).bind λx102=>(app ([]:List aB) x102).bind λz104=>(app z104 ([n]:List aB)).bind λz112=>(slc l (p:Int) (l.length:Int)).bind λx120=>(app z112 x120).bind λz122=>some z122)=some (wZ l n):=by
      rw[s1,s2]
      simp only[bind_some]
      rw[bS (by simp; omega)]
      simp only[bind_some,nil_append]
      rw[bS (by simp; omega)]
      simp only[bind_some]
      rw[bS (by simp; omega)]
      have hf:(l.find? λx=>decide (x.Id=n.Id))=none:=find?_eq_none.2 λx hx=>by
        have:=any_eq_false.1 hh x hx
        simpa using this
      unfold wZ
      rw[hf,<- PN ha,<- XN ha hr hn hh]
      simp only[bind_some,eN]
      simp
    by_cases hlt:p < l.length
    . have hx:l[p]? =some l[p]:=getElem?_eq_getElem hlt
      rw[if_pos (by simpa using hlt)]
      simp only[a8,hx,bind_some,aG]
      rw[if_neg (by simpa using hne _ hx)]
      exact fin
    . rw[if_neg (by simpa using hlt)]
      simp only[aG,false_eq_true,if_false]
      exact fin
theorem JO {S ρ:Type} {body:S->Option (Lp S ρ)} (emb:Nat->S) {p:Nat} {r:ρ} (hb:∀j,j < p->body (emb j)=some (.go (emb (j+1)))) (hr:body (emb p)=some (.ret r)):∀(G k:Nat),k<=p->p - k < G->aT body G (emb k)=some (.ret r)
 | 0,_,_,h=>by omega
 | G+1,k,hk,h=>by
  unfold aT
  by_cases e:k=p
  ·subst e; rw[hr]
  ·rw[hb k (by omega)]
   exact JO emb hb hr G (k+1) (by omega) (by omega)
theorem p88 {F:Nat} {c:aA} {d:bK} (hF:1000<=F) (hl:c.Chunks.length<=400):LZ F c d=some (qX c.Chunks λx=>decide (x.Id=d)):=by
 unfold LZ
 refine kM (l:=c.Chunks) (λx:aB=>decide (x.Id=d)) (by omega) (λi x hx hm hi=> ?_) (by unfold oY; simp)
 unfold oY
 rw[f0 (by omega)]
 simp only[a8,hx,bind_some,ofNat_lt,hi,decide_true,if_true]
 split<;>rfl
def Nw (l:List aS) (a:aS):Prop:=(l.Pairwise λy z=>jV z y=true)/\∀y∈l,nk y a
structure NwI (c:aA) (i:aE) (a:aS):Prop where
 k:i.Kind=1->∀y∈c.Chunks,y.Id=i.Id->Nw y.Locs a
 s:i.Kind=2->∀y∈c.Snaps,y.Seq=i.Seq->Nw y.Locs a
 e:i.Kind=3->∀y∈c.Exps,y.Seq=i.Seq->Nw y.Locs a
theorem zT {l:List aQ} {q:Int} {p:Nat} (h:l.Pairwise λy x=>y.Seq < x.Seq) (hp:p<=l.length) (h1:∀j x,l[j]? =some x->j < p->x.Seq < q) (h2:∀x,l[p]? =some x->q<=x.Seq):
    (l.filter λx=>decide (x.Seq < q))=l.take p/\(l[p]?.all (λx=>x.Seq !=q)=true->(l.filter λx=>decide (q < x.Seq))=l.drop p/\(l.find? λx=>decide (x.Seq=q))=none)/\
    (∀x,l[p]? =some x->x.Seq=q->(l.filter λx=>decide (q < x.Seq))=l.drop (p+1)/\(l.find? λx=>decide (x.Seq=q))=some x):=by
  have lo:∀y∈l.take p,y.Seq < q:=λy hy=>by
    obtain⟨j,hj,rfl⟩:=getElem_of_mem hy
    simp only[length_take] at hj
    rw[getElem_take]
    exact h1 j _ (getElem?_eq_getElem (by omega)) (by omega)
  have hi:∀y∈l.drop (p+1),q < y.Seq:=λy hy=>by
    obtain⟨j,hj,rfl⟩:=getElem_of_mem hy
    simp only[length_drop] at hj
    have hq:l[p]? =some l[p]:=getElem?_eq_getElem (by omega)
    have:=h2 _ hq
    have:=LI h hq (getElem?_eq_getElem (show p+1+j < l.length by omega)) (by omega)
    rw[getElem_drop]; omega
  have hm:∀y∈l.drop p,q<=y.Seq:=λy hy=>by
    by_cases hl:p < l.length
    . rw[drop_eq_getElem_cons hl] at hy
      rcases mem_cons.1 hy with rfl | hy
      . exact h2 _ (getElem?_eq_getElem hl)
      . have:=hi y hy; omega
    . rw[List.drop_eq_nil_of_le (by omega)] at hy; cases hy
  have e:∀f:aQ->Bool,l.filter f=(l.take p).filter f++(l.drop p).filter f:=λf=>by rw[<- filter_append,take_append_drop]
  have lo2:((l.take p).filter λx=>decide (q < x.Seq))= []:=filter_eq_nil_iff.2 λy hy=>by have:=lo y hy; simp; omega
  have fp:(l.find? λx=>decide (x.Seq=q))=(l.drop p).find? λx=>decide (x.Seq=q):=by
    have:(l.find? λx=>decide (x.Seq=q))=(l.take p++l.drop p).find? λx=>decide (x.Seq=q):=by rw[take_append_drop]
    rw[this,List.find?_append,find?_eq_none.2 λy hy=>by have:=lo y hy; simp; omega]
    rfl
  refine⟨?_,λhn=> ?_,λx hx hq=> ?_⟩
  . rw[e,filter_eq_self.2 λy hy=>decide_eq_true (lo y hy),filter_eq_nil_iff.2 λy hy=>by have:=hm y hy; simp; omega]
    simp
  . have ne:∀y∈l.drop p,q < y.Seq:=λy hy=>by
      by_cases hl:p < l.length
      . rw[drop_eq_getElem_cons hl] at hy
        rcases mem_cons.1 hy with rfl | hy
        . have hq:=getElem?_eq_getElem hl
          rw[hq] at hn
          have:=h2 _ hq
          have hn:l[p].Seq≠q:=by simpa using hn
          omega
        . exact hi y hy
      . rw[List.drop_eq_nil_of_le (by omega)] at hy; cases hy
    refine⟨by rw[e,lo2,filter_eq_self.2 λy hy=>decide_eq_true (ne y hy)]; rfl, ?_⟩
    rw[fp]
    exact find?_eq_none.2 λy hy=>by have:=ne y hy; simp; omega
  . obtain⟨hl,rfl⟩:=List.getElem?_eq_some_iff.1 hx
    refine⟨?_, ?_⟩
    . rw[e,lo2,drop_eq_getElem_cons hl,List.filter_cons_of_neg (by simp; omega),filter_eq_self.2 λy hy=>decide_eq_true (hi y hy)]; rfl
    . rw[fp,drop_eq_getElem_cons hl,List.find?_cons_of_pos (by simpa using hq)]
theorem aD9 {F n:Nat} {c:aA} {i:aE} {a:aS} (hF:1000<=F) (h:Wm n c) (hn:n<=300) (hi:It i) (hw:NwI c i a):
    HZ F c i a=some (if jZ c i then (true,(xJ c i a).Seq,(xJ c i a).Snaps,(xJ c i a).Chunks,(xJ c i a).Exps) else (false,c.Seq,c.Snaps,c.Chunks,c.Exps)):=by
  have hcn:=h.cn
  have hsn:=h.sn
  have hen:=h.en
  have hk:=hi.k
  have hq0:=hi.q0
  have hcq:=h.q
  unfold HZ xJ jZ
  by_cases k1:i.Kind=1
  . have e2:c.Snaps.map (xI i a)=c.Snaps:=kK λy _=>by unfold xI; rw[if_neg (by omega)]
    rw[if_pos (by simp[k1])]
    rw[show LZ F { Seq:=c.Seq,Snaps:=c.Snaps,Chunks:=c.Chunks,Exps:=c.Exps,Vols:=c.Vols} i.Id=some (qX c.Chunks λx=>decide (x.Id=i.Id)) from p88 hF hcn]
    simp only[bind_some,k1,if_true,e2,show ¬((1:Int)=3) by omega,if_false]
    cases hh:kO c.Chunks i.Id with
    | false=>
      rw[jW hh]
      simp[cK]
    | true=>
      obtain⟨p,x,h1,h2,h3,h4⟩:=i7 hh
      have h3:x.Id=i.Id:=by simpa using h3
      have hx:=mem_of_getElem? h2
      obtain⟨w1,w2⟩:=hw.k k1 x hx h3
      rw[h1,if_neg (by simp)]
      simp only[a8,h2,bind_some,XS hF w1 (Nat.le_trans (h.cl x hx).1 hn) w2,aG,toNat_natCast]
      rw[pC (λy:aB=>y.Id=i.Id) (λy=> { y with Locs:=fY y.Locs a}) h2 h3 (λy hy e=>by
        have:=h4 y hy
        simp[e] at this) (λy hy e=>by
        obtain⟨j,hj,rfl⟩:=getElem_of_mem hy
        simp only[length_drop] at hj
        rw[getElem_drop] at e
        have:=h.r.2 p (p+1+j) _ _ h2 (getElem?_eq_getElem (by omega)) (by omega)
        rw[e,h3] at this; omega)]
      simp[pR,k1]
  . have e1:c.Chunks.map (pR i a)=c.Chunks:=kK λy _=>by unfold pR; rw[if_neg (by omega)]
    rw[if_neg (by simpa using k1)]
    by_cases k2:i.Kind=2
    . rw[if_pos (by simp[k2])]
      simp only[k2,show ¬((2:Int)=1) by omega,if_true,e1,show ¬((2:Int)=3) by omega,if_false]
      cases ha:c.Snaps.any (λs=>s.Seq==i.Seq) with
      | false=>
        have:=kH (body:=λs=>mN F c i a s) (s0:=0) (n:=c.Snaps.length) (F:=F) (λk:Nat=>(k:Int)) (by omega) rfl (λk hk'=>by
          have hx:c.Snaps[k]? =some c.Snaps[k]:=getElem?_eq_getElem hk'
          have:=any_eq_false.1 ha _ (getElem_mem hk')
          unfold mN
          rw[f0 (by omega)]
          simp only[a8,hx,bind_some,ofNat_lt,hk',decide_true,if_true]
          rw[if_neg this]) (by unfold mN; simp)
        rw[this]
        simp[aG,cK]
      | true=>
        obtain⟨p,x,h1,h2,h3,h4⟩:=i7 ha
        have hpl:=(List.getElem?_eq_some_iff.1 h2).1
        have hx:=mem_of_getElem? h2
        have h3:x.Seq=i.Seq:=by simpa using h3
        obtain⟨w1,w2⟩:=hw.s k2 x hx h3
        have:=JO (body:=λs=>mN F c i a s) (λk:Nat=>(k:Int)) (p:=p) (r:=.ret (true,c.Seq,c.Snaps.set p { x with Locs:=fY x.Locs a},c.Chunks,c.Exps)) (λj hj=>by
          have hx:c.Snaps[j]? =some c.Snaps[j]:=getElem?_eq_getElem (by omega)
          have:=h4 c.Snaps[j] (mem_of_getElem? (i:=j) (by rw[List.getElem?_take_of_lt hj]; exact hx))
          unfold mN
          rw[f0 (by omega)]
          simp only[a8,hx,bind_some,ofNat_lt,show j < c.Snaps.length by omega,decide_true,if_true]
          rw[if_neg (by simp[this])]) (by
          unfold mN
          simp only[a8,h2,bind_some,ofNat_lt,hpl,decide_true,if_true,XS hF w1 (Nat.le_trans (h.sl x hx) hn) w2,toNat_natCast]
          rw[if_pos (by simp[h3])]) F 0 (zero_le _) (by omega)
        rw[show ((0:Int))=((0:Nat):Int) from rfl,this]
        simp only[cK]
        rw[pC (λy:aI=>y.Seq=i.Seq) (λy=> { y with Locs:=fY y.Locs a}) h2 h3 (λy hy e=>by
          have:=h4 y hy
          simp[e] at this) (λy hy e=>by
          obtain⟨j,hj,rfl⟩:=getElem_of_mem hy
          simp only[length_drop] at hj
          rw[getElem_drop] at e
          have:=LI h.so h2 (getElem?_eq_getElem (show p+1+j < c.Snaps.length by omega)) (by omega)
          omega)]
        simp[xI,k2]
    . have k3:i.Kind=3:=by omega
      have e2:c.Snaps.map (xI i a)=c.Snaps:=kK λy _=>by unfold xI; rw[if_neg (by omega)]
      rw[if_neg (by simpa using k2)]
      simp only[k3,if_true,e1,e2,show ¬((3:Int)=1) by omega,show ¬((3:Int)=2) by omega,if_false]
      obtain⟨p, -,hp,l1,l2,l3⟩:=xM (body:=λs=>uQ F c i s) (c:=λk=>(c.Exps[k]?).any λy=>decide (y.Seq < i.Seq)) (n:=c.Exps.length) (λk hk=>by
        unfold uQ
        by_cases hlt:k < c.Exps.length
        . have hx:c.Exps[k]? =some c.Exps[k]:=getElem?_eq_getElem hlt
          generalize c.Exps[k]=y at hx
          rw[f0 (by omega)]
          simp only[a8,hx,ofNat_lt,hlt,decide_true,if_true,bind_some,Bool.true_and,any_some,aG]
          split<;>rfl
        . have:¬((k:Int) < (c.Exps.length:Int)):=by omega
          simp[this,hlt,aG]) F 0 (zero_le _) (by omega)
      obtain⟨s1,s2,s3⟩:=zT h.eo hp (q:=i.Seq) (λj x hx hj=>by
        have:=l2 j (zero_le _) hj
        rw[hx] at this
        simpa using this) (λx hx=>by
        have:=l3 (List.getElem?_eq_some_iff.1 hx).1
        rw[hx] at this
        simpa using this)
      rw[show ((0:Int))=((0:Nat):Int) from rfl,l1]
      simp only[aG]
      have fin:(c.Exps[p]?).all (λx=>x.Seq !=i.Seq)=true->((slc c.Exps ((0:Nat):Int) (p:Int)).bind λx433=>(app ([]:List aQ) x433).bind λz435=>(app z435 ([({ Seq:=i.Seq,Of:=i.Of,Locs:=([a]:List aS)}:aQ)]:List aQ)).bind λz443=>(slc c.Exps (p:Int) (c.Exps).length).bind λx451=>(app z443 x451).bind λz453=>after (if (decide (c.Seq<=i.Seq))then (some (.brk (decide (i.Seq < 4611686018427387904)))) else some (.brk false):Option (Lp (Bool) (Lp (Int×(List aB)×(List aQ)) (Bool×Int×(List aI)×(List aB)×(List aQ))))) λj463=>after (if j463 then (some (.brk (wrap .i64 (i.Seq+1)))) else some (.brk c.Seq):Option (Lp (Int) (Lp (Int×(List aB)×(List aQ)) (Bool×Int×(List aI)×(List aB)×(List aQ))))) λj468=>some (.brk (j468,c.Chunks,z453)))=some (.brk (max c.Seq (i.Seq+1),c.Chunks,mO c.Exps i a)):=λhn=>by
        obtain⟨f1,f2⟩:=s2 hn
        have u1:slc c.Exps ((0:Nat):Int) (p:Int)=some (c.Exps.take p):=by
          unfold slc; rw[if_pos ⟨by omega,by omega,by omega⟩]; simp
        have u2:slc c.Exps (p:Int) (c.Exps.length:Int)=some (c.Exps.drop p):=by
          unfold slc; rw[if_pos ⟨by omega,by omega,by omega⟩]; simp
        rw[u1,u2]
        simp only[bind_some]
        rw[bS (by simp; omega)]
        simp only[bind_some,nil_append]
        rw[bS (by simp; omega)]
        simp only[bind_some]
        rw[bS (by simp; omega)]
        have eX:c.Exps.take p++ [({ Seq:=i.Seq,Of:=i.Of,Locs:=([a]:List aS)}:aQ)]++c.Exps.drop p=mO c.Exps i a:=by
          unfold mO wC
          rw[s1,f1,f2]
          simp[fY]
        simp only[bind_some,eX,wr (n:=i.Seq+1) (by omega) (by omega)]
        by_cases q1:c.Seq<=i.Seq
        . rw[if_pos (by simpa using q1)]
          simp only[aG]
          rw[if_pos (by simp; omega)]
          simp only[aG]
          rw[show max c.Seq (i.Seq+1)=i.Seq+1 by omega]
        . rw[if_neg (by simpa using q1)]
          simp only[aG,false_eq_true,if_false]
          rw[show max c.Seq (i.Seq+1)=c.Seq by omega]
      by_cases hlt:p < c.Exps.length
      . have hx:c.Exps[p]? =some c.Exps[p]:=getElem?_eq_getElem hlt
        have hm:=getElem_mem hlt
        generalize c.Exps[p]=x at hx hm
        rw[if_pos (by simpa using hlt)]
        simp only[a8,hx,bind_some,aG]
        by_cases hq:x.Seq=i.Seq
        . obtain⟨f1,f2⟩:=s3 x hx hq
          obtain⟨w1,w2⟩:=hw.e k3 x hm hq
          have hsq:=(h.eq x hm).2.2
          rw[if_pos (by simp[hq])]
          simp only[XS hF w1 (Nat.le_trans (h.el x hm) hn) w2,bind_some,cK,toNat_natCast]
          unfold mO wC
          rw[f2,s1,f1,List.set_eq_take_append_cons_drop,if_pos hlt,show max c.Seq (i.Seq+1)=c.Seq by omega]
        . rw[if_neg (by simpa using hq)]
          rw[fin (by rw[hx]; simpa using hq)]
          rfl
      . rw[if_neg (by simpa using hlt)]
        simp only[aG,false_eq_true,if_false]
        rw[fin (by rw[List.getElem?_eq_none (by omega)]; rfl)]
        rfl
theorem p92 {F:Nat} {d:aW} (hF:1000<=F) (h:JF d):M92 F d=some d:=by
 have hc:=h.cn
 have hi:=h.it
 obtain⟨-,m2,m3, -⟩:=h.man
 unfold M92
 rw[m52 hF m2 (λp hp=>(m3 p hp).2)]
 simp only[bind_some]
 rw[m53 (by rw[h.locs]; simp)]
 simp only[bind_some]
 rw[m54 hF (by omega) (λx hx=>⟨by rw[(h.ch x hx).2.2.2]; simp,(h.ch x hx).2.1⟩)]
 simp only[bind_some]
 rw[bS (by simp; omega)]
 rfl
structure Rl (v:Int) (c e:aA):Prop where
 q:c.Seq<=e.Seq
 s:∃f:aI->aI,(∀s,(f s).Seq=s.Seq/\(f s).Man=s.Man)/\e.Snaps=c.Snaps.map f
 k:∃g:aB->aB,(∀y,(g y).Id=y.Id/\(∀l∈y.Locs,l∈(g y).Locs)/\∀l∈(g y).Locs,l∈y.Locs\/l.Vol=v)/\e.Chunks=c.Chunks.map g
theorem Rl.refl (v:Int) (c:aA):Rl v c c:=⟨Int.le_refl _,⟨id,λ_=>⟨rfl,rfl⟩,by simp⟩,⟨id,λ_=>⟨rfl,λ_ h=>h,λ_ h=>.inl h⟩,by simp⟩⟩
theorem Rl.trans {v:Int} {a b c:aA} (h:Rl v a b) (k:Rl v b c):Rl v a c:=by
 obtain⟨h1,⟨f,hf,ef⟩,g,hg,eg⟩:=h
 obtain⟨k1,⟨f',hf',ef'⟩,g',hg',eg'⟩:=k
 refine⟨Int.le_trans h1 k1,⟨f' ∘ f,λs=>⟨(hf' _).1.trans (hf s).1,(hf' _).2.trans (hf s).2⟩,by rw[ef',ef,map_map]⟩,g' ∘ g,λy=>⟨(hg' _).1.trans (hg y).1,λl hl=>(hg' _).2.1 l ((hg y).2.1 l hl),λl hl=> ?_⟩,by rw[eg',eg,map_map]⟩
 rcases(hg' _).2.2 l hl with h | h
 ·exact(hg y).2.2 l h
 ·exact .inr h
theorem XW {p:Int} {c:aA} {i:aE} {a:aS}:Rl a.Vol c (wP p c i a):=by
 refine⟨?_,⟨xI i a,pD i a,rfl⟩,λy=>qZ p i (pR i a y),λy=> ?_,by show (c.Chunks.map _).map _=_; rw[map_map]; rfl⟩
 ·show c.Seq<=if i.Kind=3 then max c.Seq (i.Seq+1) else c.Seq
  split<;>omega
 ·have h1:(qZ p i (pR i a y)).Locs=(pR i a y).Locs:=by unfold qZ; split<;>rfl
  refine⟨(DS p i _).trans (qL i a y), ?_⟩
  rw[h1]
  unfold pR
  split
  ·refine⟨λl hl=>kF.2 (.inl hl),λl hl=> ?_⟩
   rcases kF.1 hl with h | h
   ·exact .inl h
   ·exact .inr (by rw[h])
  ·exact⟨λl hl=>hl,λl hl=>.inl hl⟩
theorem zU {p v f:Int}:∀(l:List aE) (c:aA),Rl v c (xK p v f c l)
 | [],c=>.refl v c
 | i::l,c=>(XW (a:=jY v f i)).trans (zU l _)
def iF (v f:Int) (c:aA) (l:List aE):aA:=l.foldl (λc i=>xJ c i (jY v f i)) c
theorem lC (v f:Int) (c:aA) (l:List aE) (i:aE):iF v f c (l++ [i])=xJ (iF v f c l) i (jY v f i):=by
 unfold iF
 rw[foldl_append]
 rfl
theorem F2 (v f:Int):∀(l:List aE) (c:aA),(iF v f c l).Vols=c.Vols
 | [],_=>rfl
 | i::l,c=>F2 v f l (xJ c i (jY v f i))
theorem S7 {c:aA} {i:aE} {a:aS}:wP 1 c i a=xJ c i a:=by
 unfold wP
 rw[kK λy _=>by unfold qZ; rw[if_neg (by omega)]]
theorem qV (v f:Int):∀(l:List aE) (c:aA),iF v f c l=xK 1 v f c l
 | [],_=>rfl
 | i::l,c=>by
  show iF v f (xJ c i (jY v f i)) l=xK 1 v f (wP 1 c i (jY v f i)) l
  rw[S7,qV v f l]
def dU (p:Int) (l:List aE) (y:aB):aB:=l.foldl (λy i=>qZ p i y) y
theorem uW (p:Int) (l:List aE) (y:aB):(dU p l y).Id=y.Id:=by
 unfold dU
 induction l generalizing y with
 | nil=>rfl
 | cons i l ih=>rw[foldl_cons,ih,DS]
theorem S8 (p:Int) (i j:aE) (a:aS) (y:aB):qZ p i (pR j a y)=pR j a (qZ p i y):=by
 by_cases h2:j.Kind=1/\y.Id=j.Id<;>by_cases h1:p=0/\i.Kind=1/\y.Id=i.Id
 ·rw[show pR j a y= { y with Locs:=fY y.Locs a} from if_pos h2,show qZ p i y= { y with Staged:=false,Data:=[]} from if_pos h1]
  exact(if_pos h1).trans (if_pos h2).symm
 ·rw[show pR j a y= { y with Locs:=fY y.Locs a} from if_pos h2,show qZ p i y=y from if_neg h1]
  exact(if_neg h1).trans (if_pos h2).symm
 ·rw[show pR j a y=y from if_neg h2,show qZ p i y= { y with Staged:=false,Data:=[]} from if_pos h1]
  exact(if_neg h2).symm
 ·rw[show pR j a y=y from if_neg h2,show qZ p i y=y from if_neg h1]
  exact(if_neg h2).symm
theorem H8 (p:Int) (l:List aE) (j:aE) (a:aS) (y:aB):dU p l (pR j a y)=pR j a (dU p l y):=by
 unfold dU
 induction l generalizing y with
 | nil=>rfl
 | cons i l ih=>rw[foldl_cons,foldl_cons,S8,ih]
theorem lD {α:Type} {P:List α->Prop} (h0:P []) (h1:∀l x,P l->P (l++ [x])) (l:List α):P l:=by
 have:∀m:List α,P m.reverse:=λm=>by
  induction m with
  | nil=>exact h0
  | cons a m ih=>rw[List.reverse_cons]; exact h1 _ _ ih
 have:=this l.reverse
 rwa [List.reverse_reverse] at this
theorem nU (p v f:Int) (c:aA):∀l:List aE,xK p v f c l= { iF v f c l with Chunks:=(iF v f c l).Chunks.map (dU p l)}:=lD (by
 show c= { c with Chunks:=c.Chunks.map (dU p [])}
 rw[show c.Chunks.map (dU p [])=c.Chunks from kK λy _=>rfl]) λl i ih=>by
 rw[FZ,lC,ih]
 unfold wP xJ
 simp only[map_map]
 congr 1
 refine map_congr_left λy _=> ?_
 show qZ p i (pR i (jY v f i) (dU p l y))=dU p (l++ [i]) (pR i (jY v f i) y)
 rw[<- H8]
 unfold dU
 rw[foldl_append]
 rfl
def Un (i j:aE):Prop:=¬(i.Kind=j.Kind/\(i.Kind=1->i.Id=j.Id)/\(i.Kind≠1->i.Seq=j.Seq))
theorem Mk.un {c:aA} {d:aW} (h:Mk c d):d.Items.Pairwise Un:=by
 rcases h.it with h | ⟨s,_,e⟩
 ·refine List.Pairwise.imp_of_mem (fun {a b} ha hb hn hu=> ?_) h.d
  obtain⟨u1,u2,u3⟩:=hu
  have wa:=(h.a a ha).w
  have wb:=(h.a b hb).w
  rcases wa with⟨ka,qa,_⟩ | ⟨ka,qa,_⟩ | ⟨ka,qa,_⟩<;>rcases wb with⟨kb,qb,_⟩ | ⟨kb,qb,_⟩ | ⟨kb,qb,_⟩
  ·exact hn u1 (u2 ka) (by omega)
  ·omega
  ·omega
  ·omega
  ·exact hn u1 (by rw[qa,qb]) (u3 (by omega))
  ·omega
  ·omega
  ·omega
  ·exact hn u1 (by rw[qa,qb]) (u3 (by omega))
 ·rw[e]; exact List.pairwise_singleton _ _
theorem aEA {v f:Int} {i:aE} (k:i.Kind=1):∀ {m:List aE} {c:aA} {y:aB},(∀j∈m,Un j i)->y∈(iF v f c m).Chunks->y.Id=i.Id->y∈c.Chunks
 | [],_,_,_,h,_=>h
 | j::m,c,y,hu,h,e=>by
  have:=aEA k (m:=m) (λj hj=>hu j (mem_cons_of_mem _ hj)) h e
  obtain⟨z,hz,rfl⟩:=mem_map.1 this
  rw[qL] at e
  have hj:=hu j mem_cons_self
  unfold pR
  rw[if_neg (λh=>hj ⟨by omega,λ_=>by rw[<- h.2,e],λh2=>absurd h.1 h2⟩)]
  exact hz
theorem aEB {v f:Int} {i:aE} (k:i.Kind=2):∀ {m:List aE} {c:aA} {y:aI},(∀j∈m,Un j i)->y∈(iF v f c m).Snaps->y.Seq=i.Seq->y∈c.Snaps
 | [],_,_,_,h,_=>h
 | j::m,c,y,hu,h,e=>by
  have:=aEB k (m:=m) (λj hj=>hu j (mem_cons_of_mem _ hj)) h e
  obtain⟨z,hz,rfl⟩:=mem_map.1 this
  rw[(pD _ _ _).1] at e
  have hj:=hu j mem_cons_self
  unfold xI
  rw[if_neg (λh=>hj ⟨by omega,λh2=>absurd h2 (by omega),λ_=>by omega⟩)]
  exact hz
theorem aEC {v f:Int} {i:aE} (k:i.Kind=3):∀ {m:List aE} {c:aA} {y:aQ},(∀j∈m,Un j i)->y∈(iF v f c m).Exps->y.Seq=i.Seq->y∈c.Exps
 | [],_,_,_,h,_=>h
 | j::m,c,y,hu,h,e=>by
  have this:y∈(if j.Kind=3 then mO c.Exps j (jY v f j) else c.Exps):=aEC k (m:=m) (λj hj=>hu j (mem_cons_of_mem _ hj)) h e
  have hj:=hu j mem_cons_self
  split at this
  ·rename_i k3
   unfold mO at this
   rcases mem_append.1 this with h | h
   ·exact(mem_filter.1 h).1
   ·rcases mem_cons.1 h with rfl | h
    ·exact absurd ⟨by omega,λh2=>absurd h2 (by omega),λ_=>by rw[<- e]; exact(zR c.Exps j).symm⟩ hj
    ·exact(mem_filter.1 h).1
  ·exact this
theorem JP {c:aA} {v:Int} {x:aR} {l:List aS} {i:aE} (hx:c.Vols[v.toNat]? =some x) (h:Lk c.Vols l):Nw l (jY v (x.Files+1) i):=by
 refine⟨h.o,λy hy hk=> ?_⟩
 obtain⟨h1,h2,h3⟩:=hk
 obtain⟨q1,w,q2,q3,q4,q5⟩:=DU (h.a y hy)
 have h1:y.Vol=v:=h1
 have h2:y.File=x.Files+1:=h2
 rw[h1,hx] at q2
 cases q2
 omega
theorem P1 {c:aA} {d:aW} {x:aR} {k:Nat} {i:aE} (G:Gd c) (hx:c.Vols[d.Vol.toNat]? =some x) (hu:d.Items.Pairwise Un) (hi:d.Items[k]? =some i):NwI (iF d.Vol (x.Files+1) (ws c d.Vol x) (d.Items.take k)) i (jY d.Vol (x.Files+1) i):=by
 have hun:∀j∈d.Items.take k,Un j i:=λj hj=>by
  obtain⟨q,hq,rfl⟩:=getElem_of_mem hj
  simp only[length_take] at hq
  rw[getElem_take]
  exact LI hu (getElem?_eq_getElem (show q < d.Items.length by omega)) hi (by omega)
 exact⟨λk1 y hy e=>JP hx (G.cl y (aEA (c:=ws c d.Vol x) k1 hun hy e)),λk2 y hy e=>JP hx (G.sl y (aEB (c:=ws c d.Vol x) k2 hun hy e)),λk3 y hy e=>JP hx (G.el y (aEC (c:=ws c d.Vol x) k3 hun hy e))⟩
theorem H9 {v f:Int}:∀ {l:List aE} {c:aA},Lv c->Lv (iF v f c l)
 | [],_,h=>h
 | i::l,c,h=>H9 (l:=l) λy hy=>by
  obtain⟨z,hz,rfl⟩:=mem_map.1 hy
  have:=h z hz
  unfold pR
  split
  ·unfold pI
   rw[lX]
   simp
  ·exact this
theorem P2 {c:aA} (G:Gd c):Lv c:=λx hx=>by
 have:=G.cs x hx
 unfold pI
 cases e:x.Staged with
 | true=>rfl
 | false=>
  rw[e] at this
  have:=length_pos_iff.2 this.2
  simp; omega
theorem F3 {v f:Int} {j:aE} {l:List aE} {c:aA}:jZ (iF v f c l) j=jZ c j:=by rw[qV,zS]
theorem P3 {v f:Int} {c:aA} {l:List aE} {q:Int}:(iF v f c l).Snaps.any (λs=>s.Seq==q)=c.Snaps.any λs=>s.Seq==q:=by
 obtain⟨-,⟨g,hg,e⟩, -⟩:=zU (p:=1) (v:=v) (f:=f) l c
 rw[qV,e,any_map]
 congr 1
 funext s
 simp[(hg s).1]
theorem zV {F:Nat} {c:aA} {d:aW} {e:aA} {n:Int} {r:Int×Int×List aI×List aB×List aQ×List aR} (hF:1000<=F) (h:Sm c) (hg:Gd c) (hd:JF d) (hk:1<=d.Kind/\d.Kind<=5) (h91:sA F c d=some r) (hr:(r.1=n/\n≠0)\/(n=0/\r=(0,e.Seq,e.Snaps,e.Chunks,e.Exps,e.Vols)/\Sm e)):
    FW F c d=some (if n=0 then (if f8 e=true then (e,0) else (bY,1)) else (bY,n)):=by
  unfold FW
  rw[m19 hF h,jP.2 hg]
  simp only[bind_some,Bool.not_true,false_eq_true,if_false]
  rw[if_neg (by simp; omega)]
  simp only[aG]
  rw[if_neg (by simp; omega),aI5 hF h,p92 hF hd]
  simp only[bind_some]
  rw[show sA F { Seq:=c.Seq,Snaps:=c.Snaps,Chunks:=c.Chunks,Exps:=c.Exps,Vols:=c.Vols} d=some r from h91]
  simp only[bind_some]
  rcases hr with⟨h1,h2⟩ | ⟨rfl,rfl,hs⟩
  . rw[if_pos (by simpa [h1] using h2),if_neg h2,h1]
    rfl
  . rw[if_neg (by simp),if_pos rfl]
    rw[show WE F { Seq:=e.Seq,Snaps:=e.Snaps,Chunks:=e.Chunks,Exps:=e.Exps,Vols:=e.Vols}=some (f8 e) from m19 hF hs]
    simp only[bind_some]
    cases f8 e<;>rfl
theorem XX {F:Nat} {d:aW} {b:Bool} (hF:1000<=F) (hd:JF d):aT (λs=>rY F d s.1 s.2) F (b,0)=some (.brk (b && pB d.Chunks,(d.Chunks.length:Int))):=by
 have hc:=hd.cn
 have:=kH (body:=λs:Bool×Int=>rY F d s.1 s.2) (s0:=(b,(0:Int))) (n:=d.Chunks.length) (F:=F) (λk:Nat=>(b && (d.Chunks.take k).all λx=>x.Staged && ((x.Locs.length:Int)==0),(k:Int))) (by omega) (by simp) (λk hk=>by
  have hx:d.Chunks[k]? =some d.Chunks[k]:=getElem?_eq_getElem hk
  unfold rY
  simp only
  rw[f0 (by omega),take_succ_eq_append_getElem hk]
  simp only[a8,hx,bind_some,ofNat_lt,hk,decide_true,if_true,List.all_append,all_cons,all_nil,Bool.and_true]
  rw[<- Bool.and_assoc]
  cases (b && (d.Chunks.take k).all λx=>x.Staged && ((x.Locs.length:Int)==0)) with
  | false=>simp[aG]
  | true=>cases (d.Chunks[k]).Staged<;>simp[aG]) (by unfold rY; simp)
 rw[this,take_length]
 congr 4
 unfold pB
 rw[List.all_eq_not_any_not]
 congr 2
 funext x
 cases x.Staged with
 | false=>simp
 | true=>
  cases x.Locs with
  | nil=>simp
  | cons a l=>simp; omega
theorem S9 {F:Nat} {c:aA} {d:aW} (hF:1000<=F) (h:Sm c) (hg:Gd c) (hd:JF d) (k:d.Kind=1):
    FW F c d=some (if d.Snap.Seq=c.Seq/\pB d.Chunks=true then (if c.Snaps.any (λs=>s.Man.Name.toList==d.Snap.Man.Name.toList) then (bY,9) else if f8 (ad c d) then (ad c d,0) else (bY,1)) else (bY,1)):=by
  have hsn:=h.sn
  have hcn:=hg.cn
  have hdn:=hd.cn
  have hq:=hg.q
  unfold fI at hq
  simp only[and_eq_true,decide_eq_true_eq] at hq
  have hr:u6 c.Chunks:=qH.2 ⟨λx hx=>(h.g.2.2.1 x hx).1,hg.co⟩
  have go:∀(e:aA) (n:Int) (r),sA F c d=some r->_->_:=λe n r h1=>zV (e:=e) (n:=n) hF h hg hd (by omega) h1
  have l1:=λb=>XX (b:=b) hF hd
  by_cases e1:d.Snap.Seq=c.Seq/\pB d.Chunks=true
  . rw[if_pos e1]
    have nm:=aH8 hF (c:=c) (nm:=d.Snap.Man.Name) (by omega)
    cases ha:c.Snaps.any (λs=>s.Man.Name.toList==d.Snap.Man.Name.toList) with
    | true=>
      obtain⟨p,x,h1, -⟩:=i7 ha
      rw[h1] at nm
      have e0:sA F c d=some (9,c.Seq,c.Snaps,c.Chunks,c.Exps,c.Vols):=by
        unfold sA
        rw[if_pos (by simp[k]),if_pos (by simp[e1.1]),hd.locs]
        simp only[aG,l1,e1.2]
        rw[if_neg (by simp),show yT F { Seq:=c.Seq,Snaps:=c.Snaps,Chunks:=c.Chunks,Exps:=c.Exps,Vols:=c.Vols} d.Snap.Man.Name=some (p:Int) from nm]
        simp[cK]
      rw[go bY 9 _ e0 (.inl ⟨rfl,by decide⟩)]
      rfl
    | false=>
      rw[jW ha] at nm
      have hloop:=kH (body:=λs:List aB×Int=>wB F d s.1 s.2) (s0:=(c.Chunks,(0:Int))) (n:=d.Chunks.length) (F:=F) (λi:Nat=>(n5 c.Chunks (d.Chunks.take i),(i:Int))) (by omega) rfl (λi hi=>by
        have hx:d.Chunks[i]? =some d.Chunks[i]:=getElem?_eq_getElem hi
        have hm:=getElem_mem hi
        have ht:d.Chunks.take (i+1)=d.Chunks.take i++ [d.Chunks[i]]:=take_succ_eq_append_getElem hi
        have hR:=zO (ns:=d.Chunks.take i) hr λn hn=>(hd.ch n (mem_of_mem_take hn)).1
        have hL:=sB (ns:=d.Chunks.take i) (l:=c.Chunks)
        have hA:=nA (P:=λx=>x.Locs.length<=300/\x.Data.length<=300) (ns:=d.Chunks.take i) (l:=c.Chunks) h.cl (λn hn=>⟨by simp,(hd.ch n (mem_of_mem_take hn)).2.1⟩) λx hx n hn=>⟨hx.1,(hd.ch n (mem_of_mem_take hn)).2.1⟩
        rw[length_take] at hL
        rw[ht]
        have hfr:(d.Chunks[i]).Staged=true:=by
          have:=e1.2
          unfold pB at this
          simp only[not_eq_true',any_eq_false] at this
          have:=this _ hm
          simp at this
          exact this.1
        generalize d.Chunks[i]=n at hx hm hfr
        unfold wB
        simp only
        rw[f0 (by omega)]
        simp only[a8,hx,bind_some,ofNat_lt,hi,decide_true,if_true]
        rw[aJT hF hR (hd.ch n hm).1 (by omega) hA hfr (hd.ch n hm).2.2.2 (hd.ch n hm).2.1]
        unfold n5
        rw[foldl_append]
        rfl) (by unfold wB; simp)
      have e0:sA F c d=some (0,(ad c d).Seq,(ad c d).Snaps,(ad c d).Chunks,(ad c d).Exps,(ad c d).Vols):=by
        unfold sA
        rw[if_pos (by simp[k]),if_pos (by simp[e1.1])]
        have hl0:=hd.locs
        simp only[hl0,aG,l1,e1.2]
        rw[if_neg (by simp),show yT F { Seq:=c.Seq,Snaps:=c.Snaps,Chunks:=c.Chunks,Exps:=c.Exps,Vols:=c.Vols} d.Snap.Man.Name=some (-1) from nm]
        simp only[bind_some]
        rw[if_neg (by decide),bS (by simp; omega)]
        simp only[bind_some]
        rw[hloop]
        simp only[aG,take_length,wr (n:=c.Seq+1) (by omega) (by omega)]
        have:d.Snap= { Seq:=d.Snap.Seq,Man:=d.Snap.Man,Locs:=[]}:=by rw[<- hl0]
        unfold ad
        simp only
        rw[<- this]
      rw[go (ad c d) 0 _ e0 (.inr ⟨rfl,rfl,UW h hg hd⟩)]
      rfl
  . rw[if_neg e1]
    have e0:∃r,sA F c d=some r/\r.1=1:=by
      unfold sA
      rw[if_pos (by simp[k])]
      by_cases e2:d.Snap.Seq=c.Seq
      . have e3:pB d.Chunks=false:=by
          cases h:pB d.Chunks with
          | false=>rfl
          | true=>exact absurd ⟨e2,h⟩ e1
        rw[if_pos (by simp[e2])]
        simp only[aG,l1,e3,Bool.and_false]
        rw[if_pos (by simp)]
        exact⟨_,rfl,rfl⟩
      . rw[if_neg (by simpa using e2)]
        simp only[aG,l1,Bool.false_and]
        rw[if_pos (by simp)]
        exact⟨_,rfl,rfl⟩
    obtain⟨r,e0,e3⟩:=e0
    rw[go bY 1 r e0 (.inl ⟨e3,by decide⟩)]
    rfl
theorem P4 {F:Nat} {c:aA} {d:aW} (hF:1000<=F) (h:Sm c) (hg:Gd c) (hd:JF d) (k:d.Kind=2):
    FW F c d=some (if c.Snaps.any (λs=>s.Seq==d.Seq) then (if f8 (C8 c d.Seq) then (C8 c d.Seq,0) else (bY,1)) else (bY,8)):=by
  have go:∀(e:aA) (n:Int) (r),sA F c d=some r->_->_:=λe n r h1=>zV (e:=e) (n:=n) hF h hg hd (by omega) h1
  have e1:DB F { Seq:=c.Seq,Snaps:=c.Snaps,Chunks:=c.Chunks,Exps:=c.Exps,Vols:=c.Vols} d.Seq=_:=XV hF h (P2 hg)
  cases ha:c.Snaps.any (λs=>s.Seq==d.Seq) with
  | true=>
    rw[ha,if_pos rfl] at e1
    have e0:sA F c d=some (0,(C8 c d.Seq).Seq,(C8 c d.Seq).Snaps,(C8 c d.Seq).Chunks,(C8 c d.Seq).Exps,(C8 c d.Seq).Vols):=by
      unfold sA
      rw[if_neg (by simp[k]),if_pos (by simp[k]),e1]
      rfl
    rw[go (C8 c d.Seq) 0 _ e0 (.inr ⟨rfl,rfl,H6 h⟩)]
    rfl
  | false=>
    rw[ha,if_neg (by decide)] at e1
    have e0:sA F c d=some (8,c.Seq,c.Snaps,c.Chunks,c.Exps,c.Vols):=by
      unfold sA
      rw[if_neg (by simp[k]),if_pos (by simp[k]),e1]
      rfl
    rw[go bY 8 _ e0 (.inl ⟨rfl,by decide⟩)]
    rfl
theorem TA {F:Nat} {c:aA} {d:aW} {x:aR} (hF:1000<=F) (h:Sm c) (hg:Gd c) (hd:JF d) (k:d.Kind=4) (h0:0<=d.Vol) (hx:c.Vols[d.Vol.toNat]? =some x):
    FW F c d=some (if x.State=2 then (if f8 (ret c d.Vol x) then (ret c d.Vol x,0) else (bY,1)) else (bY,1)):=by
  have hsn:=h.sn
  have hch:=h.ch
  have hex:=h.ex
  have go:∀(e:aA) (n:Int) (r),sA F c d=some r->_->_:=λe n r h1=>zV (e:=e) (n:=n) hF h hg hd (by omega) h1
  have e1:AT F { Seq:=c.Seq,Snaps:=c.Snaps,Chunks:=c.Chunks,Exps:=c.Exps,Vols:=c.Vols} d.Vol 2 2=_:=XU (a:=2) (b:=2) h0 hx
  by_cases e2:x.State=2
  . rw[if_pos e2]
    have hl:=(List.getElem?_eq_some_iff.1 hx).1
    have e0:sA F c d=some (0,(ret c d.Vol x).Seq,(ret c d.Vol x).Snaps,(ret c d.Vol x).Chunks,(ret c d.Vol x).Exps,(ret c d.Vol x).Vols):=by
      unfold sA
      rw[if_neg (by simp[k]),if_neg (by simp[k]),if_neg (by simp[k]),if_pos (by simp[k]),e1]
      simp only[bind_some,e2,beq_self_eq_true,Bool.or_self]
      rw[if_neg (by simp)]
      simp only[m5 _ h0,hx,bind_some,getElem?_set_self hl]
      rw[gZ (l:=c.Chunks) [] (λy=> !wO (wY d.Vol y)) (wY d.Vol) (by omega) (λi y hy hm hi acc ha=>by
        simp only[length_nil] at ha
        unfold uR
        simp only
        rw[f0 (by omega)]
        have ea:∀z:aB,app acc [z]=some (acc++ [z]):=λz=>bS (by simp; omega)
        simp only[a8,hy,bind_some,ofNat_lt,hi,decide_true,if_true,XT hF (h.cl y hm).1,ea]
        unfold wO wY
        simp only
        by_cases q:(lf d.Vol y.Locs).length=0
        . cases y.Staged<;>simp[q,aG]
        . have:0 < (lf d.Vol y.Locs).length:=by omega
          cases y.Staged<;>simp[q,this,aG]) (λacc=>by unfold uR; simp)]
      simp only[aG,nil_append]
      rw[lW (l:=c.Snaps) (λs=> { s with Locs:=lf d.Vol s.Locs}) (by omega) (λcur i y hc hy hm hi=>by
        unfold uS
        simp only
        rw[f0 (by omega)]
        simp only[a8,hy,hc,bind_some,ofNat_lt,hi,decide_true,if_true,XT hF (h.sl y hm),toNat_natCast]) (λcur hc=>by unfold uS; simp[hc])]
      simp only[aG]
      rw[gZ (l:=c.Exps) [] (λy=> !(((HV d.Vol y).Locs.length:Int)==0)) (HV d.Vol) (by omega) (λi y hy hm hi acc ha=>by
        simp only[length_nil] at ha
        unfold uT
        simp only
        rw[f0 (by omega)]
        have ea:∀z:aQ,app acc [z]=some (acc++ [z]):=λz=>bS (by simp; omega)
        simp only[a8,hy,bind_some,ofNat_lt,hi,decide_true,if_true,XT hF (h.el y hm),ea]
        unfold HV
        simp only
        by_cases q:(lf d.Vol y.Locs).length=0
        . simp[q,aG]
        . have:0 < (lf d.Vol y.Locs).length:=by omega
          simp[q,this,aG]) (λacc=>by unfold uT; simp)]
      simp only[aG,nil_append,set_set]
      unfold ret
      simp only[List.filter_map]
      rfl
    rw[go (ret c d.Vol x) 0 _ e0 (.inr ⟨rfl,rfl,DV h hx⟩)]
    rfl
  . rw[if_neg e2]
    have e0:sA F c d=some (1,c.Seq,c.Snaps,c.Chunks,c.Exps,c.Vols):=by
      unfold sA
      rw[if_neg (by simp[k]),if_neg (by simp[k]),if_neg (by simp[k]),if_pos (by simp[k]),e1]
      simp only[bind_some]
      rw[if_pos (by simp[e2])]
      rfl
    rw[go bY 1 _ e0 (.inl ⟨rfl,by decide⟩)]
    rfl
theorem TB {F:Nat} {c:aA} {d:aW} {x:aR} (hF:1000<=F) (h:Sm c) (hg:Gd c) (hd:JF d) (k:d.Kind=5) (h0:0<=d.Vol) (hx:c.Vols[d.Vol.toNat]? =some x):
    FW F c d=some (if x.State=3 then (if f8 (rel c d.Vol x) then (rel c d.Vol x,0) else (bY,1)) else (bY,1)):=by
  have go:∀(e:aA) (n:Int) (r),sA F c d=some r->_->_:=λe n r h1=>zV (e:=e) (n:=n) hF h hg hd (by omega) h1
  have e1:AT F { Seq:=c.Seq,Snaps:=c.Snaps,Chunks:=c.Chunks,Exps:=c.Exps,Vols:=c.Vols} d.Vol 3 3=_:=XU (a:=3) (b:=3) h0 hx
  have ep:=PZ hg hx
  by_cases e2:x.State=3
  . rw[if_pos e2]
    have hl:=(List.getElem?_eq_some_iff.1 hx).1
    have e0:sA F c d=some (0,(rel c d.Vol x).Seq,(rel c d.Vol x).Snaps,(rel c d.Vol x).Chunks,(rel c d.Vol x).Exps,(rel c d.Vol x).Vols):=by
      unfold sA
      rw[if_neg (by simp[k]),if_neg (by simp[k]),if_neg (by simp[k]),if_neg (by simp[k]),if_pos (by simp[k]),e1]
      simp only[bind_some,e2,beq_self_eq_true,Bool.or_self]
      rw[if_neg (by simp)]
      simp only[m5 _ h0,hx,bind_some,getElem?_set_self hl,set_set,wr (n:=x.Epoch+1) (by omega) (by omega),aG]
      rfl
    rw[go (rel c d.Vol x) 0 _ e0 (.inr ⟨rfl,rfl,PY h hx ⟨ep.2,ep.1⟩⟩)]
    rfl
  . rw[if_neg e2]
    have e0:sA F c d=some (1,c.Seq,c.Snaps,c.Chunks,c.Exps,c.Vols):=by
      unfold sA
      rw[if_neg (by simp[k]),if_neg (by simp[k]),if_neg (by simp[k]),if_neg (by simp[k]),if_pos (by simp[k]),e1]
      simp only[bind_some]
      rw[if_pos (by simp[e2])]
      rfl
    rw[go bY 1 _ e0 (.inl ⟨rfl,by decide⟩)]
    rfl
theorem XY {F:Nat} {d:aW} {b:Bool} (hF:1000<=F) (hn:d.Items.length<=64):aT (λs=>rZ F d s.1 s.2) F (b,0)=some (.brk (b && !(d.Items.any λi=>decide (i.Kind < 1) || decide (3 < i.Kind)),(d.Items.length:Int))):=by
 have:=kH (body:=λs:Bool×Int=>rZ F d s.1 s.2) (s0:=(b,(0:Int))) (n:=d.Items.length) (F:=F) (λk:Nat=>(b && (d.Items.take k).all λi=>decide (1<=i.Kind) && decide (i.Kind<=3),(k:Int))) (by omega) (by simp) (λk hk=>by
  have hx:d.Items[k]? =some d.Items[k]:=getElem?_eq_getElem hk
  unfold rZ
  simp only
  rw[f0 (by omega),take_succ_eq_append_getElem hk]
  simp only[a8,hx,bind_some,ofNat_lt,hk,decide_true,if_true,List.all_append,all_cons,all_nil,Bool.and_true]
  rw[<- Bool.and_assoc]
  cases (b && (d.Items.take k).all λi=>decide (1<=i.Kind) && decide (i.Kind<=3)) with
  | false=>simp[aG]
  | true=>by_cases h1:1<=(d.Items[k]).Kind<;>simp[h1,aG]) (by unfold rZ; simp)
 rw[this,take_length]
 congr 4
 rw[List.all_eq_not_any_not]
 congr 2
 funext x
 by_cases h1:1<=x.Kind<;>by_cases h2:x.Kind<=3<;>simp[h1,h2]<;>omega
theorem XZ {F:Nat} {c:aA} {d:aW} {x:aR} {e:aA} (hF:1000<=F) (hS:Sm e) (hv:Lv e) (hn:d.Items.length<=64) (hV:(c.Vols.set d.Vol.toNat { x with State:=2}).set d.Vol.toNat { ({ x with State:=2}:aR) with Files:=wrap .i64 (x.Files+1)}=e.Vols)
    (hno:∀i∈d.Items,i.Kind=3->e.Snaps.any (λs=>s.Seq==i.Of)=false):
    aT (λs=>m9 F c d x e.Seq e.Exps s.1 s.2.1 s.2.2) F (e.Snaps,e.Chunks,0)=some (.brk (e.Snaps,e.Chunks,(d.Items.length:Int))):=by
  refine kH (λk:Nat=>(e.Snaps,e.Chunks,(k:Int))) (by omega) rfl (λk hk=> ?_) (by unfold m9; simp)
  have hx:d.Items[k]? =some d.Items[k]:=getElem?_eq_getElem hk
  have hm:=getElem_mem hk
  generalize d.Items[k]=i at hx hm
  unfold m9
  simp only
  rw[f0 (by omega)]
  simp only[a8,hx,bind_some,ofNat_lt,hk,decide_true,if_true,hV]
  rw[show DB F { Seq:=e.Seq,Snaps:=e.Snaps,Chunks:=e.Chunks,Exps:=e.Exps,Vols:=e.Vols} i.Of=_ from XV hF hS hv]
  by_cases k3:i.Kind=3
  . rw[if_pos (by simp[k3]),hno i hm k3]
    simp[aG]
  . rw[if_neg (by simpa using k3)]
    rfl
theorem TC {F:Nat} {c:aA} {d:aW} {x:aR} {q:Int} {ex:List aQ} {sn:List aI} {l:List aB} (hF:1000<=F) (hr:u6 l) (hl:l.length<=400) (hn:d.Items.length<=64):
    aT (λs=>nT F c d x q ex sn s.1 s.2) F (l,0)=some (.brk (l.map (dU 0 d.Items),(d.Items.length:Int))):=by
  have:=kH (body:=λs:List aB×Int=>nT F c d x q ex sn s.1 s.2) (s0:=(l,(0:Int))) (n:=d.Items.length) (F:=F) (λk:Nat=>(l.map (dU 0 (d.Items.take k)),(k:Int))) (by omega) (by rw[show l.map (dU 0 (d.Items.take 0))=l from kK λy _=>rfl]; rfl) (λk hk=>by
    have hx:d.Items[k]? =some d.Items[k]:=getElem?_eq_getElem hk
    have ht:d.Items.take (k+1)=d.Items.take k++ [d.Items[k]]:=take_succ_eq_append_getElem hk
    have hR:=xL (uW 0 (d.Items.take k)) hr
    have hL:(l.map (dU 0 (d.Items.take k))).length<=400:=by simpa using hl
    have hM:l.map (dU 0 (d.Items.take (k+1)))=(l.map (dU 0 (d.Items.take k))).map (qZ 0 d.Items[k]):=by
      rw[ht,map_map]
      refine map_congr_left λy _=> ?_
      unfold dU
      rw[foldl_append]
      rfl
    rw[hM]
    generalize l.map (dU 0 (d.Items.take k))=m at hR hL
    generalize d.Items[k]=i at hx
    unfold nT
    simp only
    rw[f0 (by omega)]
    simp only[a8,hx,bind_some,ofNat_lt,hk,decide_true,if_true]
    have e88:∀c':aA,c'.Chunks=m->LZ F c' i.Id=some (qX m λy=>decide (y.Id=i.Id)):=λc' h=>by rw[p88 hF (by rw[h]; exact hL),h]
    rw[e88 _ rfl]
    by_cases k1:i.Kind=1
    . rw[if_pos (by simp[k1])]
      cases hh:m.any λy=>decide (y.Id=i.Id) with
      | false=>
        rw[jW hh,kK λy hy=>by
          have:=any_eq_false.1 hh y hy
          unfold qZ
          rw[if_neg λh=>this (decide_eq_true h.2.2)]]
        simp[aG]
      | true=>
        obtain⟨p,y,h1,h2,h3,h4⟩:=i7 hh
        have h3:y.Id=i.Id:=by simpa using h3
        have hpl:=(List.getElem?_eq_some_iff.1 h2).1
        rw[h1]
        simp only[bind_some]
        rw[if_pos (by simp)]
        simp only[a8,h2,bind_some,toNat_natCast]
        rw[getElem?_set_self hpl]
        simp only[bind_some,set_set,aG]
        have e9:m.set p { y with Staged:=false,Data:=[]}=m.map (qZ 0 i):=by
          rw[pC (λz:aB=>z.Id=i.Id) (λz=> { z with Staged:=false,Data:=[]}) h2 h3 (λz hz e=>by
            have:=h4 z hz
            simp[e] at this) (λz hz e=>by
            obtain⟨j,hj,rfl⟩:=getElem_of_mem hz
            simp only[length_drop] at hj
            rw[getElem_drop] at e
            have:=hR.2 p (p+1+j) _ _ h2 (getElem?_eq_getElem (by omega)) (by omega)
            rw[e,h3] at this; omega)]
          refine map_congr_left λz _=> ?_
          unfold qZ
          simp only[k1,true_and]
        rw[e9]
    . rw[if_neg (by simpa using k1),kK λy _=>by unfold qZ; rw[if_neg (by omega)]]
      rfl) (by unfold nT; simp)
  rw[this,take_length]
theorem BV {p:Int} {l:List aE} {m:List aB} (h:p≠0\/∀i∈l,i.Kind≠1):m.map (dU p l)=m:=kK λy _=>by
 unfold dU
 induction l generalizing y with
 | nil=>rfl
 | cons i l ih=>
  rw[foldl_cons,show qZ p i y=y from if_neg λhh=>by
   rcases h with h | h
   ·exact h hh.1
   ·exact h i mem_cons_self hh.2.1]
  exact ih (h.imp_right λh j hj=>h j (mem_cons_of_mem _ hj)) y ‹_›
theorem LM {F:Nat} {c:aA} {d:aW} {x:aR} (hF:1000<=F) (h:Sm c) (hg:Gd c) (hd:JF d) (hm:Mk c d) (k:d.Kind=3) (hx:c.Vols[d.Vol.toNat]? =some x):
    FW F c d=some (if jS x d=true then (if d.Items.all (jZ c)then (if f8 (jI c d x)then (jI c d x,0) else (bY,1)) else (bY,8)) else (bY,1)):=by
  have go:∀(e:aA) (n:Int) (r),sA F c d=some r->_->_:=λe n r h1=>zV (e:=e) (n:=n) hF h hg hd (by omega) h1
  have hv:=hm.v
  have hn:=hd.it
  have hw:=hm.wd hg hd
  have gv:=hd.vol
  have hxb:=hg.v x (mem_of_getElem? hx)
  unfold mD fI at hxb
  simp only[and_eq_true,or_eq_true,decide_eq_true_eq,beq_iff_eq] at hxb
  have gf:0<=x.Files/\x.Files<=65535:=by omega
  have gF:gI (x.Files+1):=⟨by omega,by omega⟩
  have e1:AT F { Seq:=c.Seq,Snaps:=c.Snaps,Chunks:=c.Chunks,Exps:=c.Exps,Vols:=c.Vols} d.Vol 1 2=_:=XU (a:=1) (b:=2) hv.1 hx
  have l5:=λb=>XY (b:=b) hF hn
  have hW:=JM h hg hx
  have pre:∀(Q:Int×Int×List aI×List aB×List aQ×List aR->Prop),
      (jS x d=false->∀a b e f g,Q (1,a,b,e,f,g))->(jS x d=true->T ((ix c.Vols d.Vol).bind λx14318=>after (aT (λs=>qK F c d x14318 s.1 s.2.1 s.2.2.1 s.2.2.2.1 s.2.2.2.2) F (c.Seq,c.Snaps,c.Chunks,c.Exps,0)) λ⟨r14470,r14471,r14472,r14473,r14474⟩=>after (aT (λs=>m9 F c d x14318 r14470 r14473 s.1 s.2.1 s.2.2) F (r14471,r14472,0)) λ⟨r14611,r14612,r14613⟩=>after (if ((({ ({ x14318 with State:=2}:aR) with Files:=wrap .i64 (x14318.Files+1)}:aR).Pool)==0)then (after (aT (λs=>nT F c d x14318 r14470 r14473 r14611 s.1 s.2) F (r14612,0)) λ⟨r15156,r15157⟩=>some (.brk r15156)) else some (.brk r14612):Option (Lp ((List aB)) (Lp (Int×(List aI)×(List aB)×(List aQ)×(List aR)) (Lp (Int×(List aI)×(List aB)×(List aQ)×(List aR)) (Lp (Int×(List aI)×(List aB)×(List aQ)×(List aR)) (Int×Int×(List aI)×(List aB)×(List aQ)×(List aR))))))) λj14888=>some (.brk (r14470,r14611,j14888,r14473,(c.Vols.set d.Vol.toNat ({ x14318 with State:=2})).set d.Vol.toNat ({ ({ x14318 with State:=2}:aR) with Files:=wrap .i64 (x14318.Files+1)})))) (λy=>(∃r,y= .ret (.ret (.ret r))/\Q r)\/∃s,y= .brk s/\Q (0,s)))->T (sA F c d) Q:=λQ q1 q2=>by
    unfold sA
    rw[if_neg (by simp[k]),if_neg (by simp[k]),if_pos (by simp[k]),e1]
    simp only[bind_some]
    have hcond:∀(ρ:Type) (kk:Bool->Option ρ),(after (if (x.State==1 || x.State==2)then (if (decide (1<=(d.Items.length:Int)))then (some (.brk (decide ((d.Items.length:Int)<=64)))) else some (.brk false)) else some (.brk false):Option (Lp (Bool) ρ)) kk)=kk (!(x.State==3) && !d.Items.isEmpty):=λρ kk=>by
      by_cases s3:x.State=3
      . rw[if_neg (by simp[s3])]
        simp[s3,aG]
      . rw[if_pos (by simp; omega)]
        by_cases em:d.Items= []
        . simp[em,aG]
        . have:=length_pos_iff.2 em
          rw[if_pos (decide_eq_true (by omega))]
          have e64:decide ((d.Items.length:Int)<=64)=true:=decide_eq_true (by omega)
          rw[e64]
          have em2:d.Items.isEmpty=false:=by simpa using em
          have s32:(x.State==3)=false:=by simpa using s3
          rw[s32,em2]
          rfl
    rw[hcond,l5]
    simp only[aG]
    have hwc:(!(x.State==3) && !d.Items.isEmpty && !(d.Items.any λi=>decide (i.Kind < 1) || decide (3 < i.Kind)))=jS x d:=rfl
    rw[hwc]
    cases hc:jS x d with
    | false=>
      rw[if_pos (by simp)]
      exact⟨_,rfl,q1 hc _ _ _ _ _⟩
    | true=>
      rw[if_neg (by simp)]
      obtain⟨y,hy,hq⟩:=q2 hc
      rw[hy]
      rcases hq with⟨r,rfl,hr⟩ | ⟨s,rfl,hs⟩
      . exact⟨_,rfl,hr⟩
      . exact⟨_,rfl,hs⟩
  have main:T (sA F c d) λr=>if jS x d=true then (if d.Items.all (jZ c)then r=(0,(jI c d x).Seq,(jI c d x).Snaps,(jI c d x).Chunks,(jI c d x).Exps,(jI c d x).Vols) else r.1=8) else r.1=1:=by
    refine pre _ (λhc a b e f g=>by rw[hc]; simp) λhc=> ?_
    rw[hc]
    simp only[if_true]
    have hI:∀i∈d.Items,It i:=λi hi=>by
      obtain⟨a1,a2,a3,a4,a5⟩:=hw.it i hi
      unfold jS at hc
      simp only[and_eq_true,not_eq_true',any_eq_false,or_eq_true,decide_eq_true_eq,not_or,not_lt] at hc
      exact⟨a1,a2,hc.2 i hi,a3,a4,a5⟩
    refine .bindEq (by rw[m5 _ hv.1,hx]) ?_
    have wF:wrap .i64 (x.Files+1)=x.Files+1:=wr (by omega) (by omega)
    have hVw:∀m:List aE,(c.Vols.set d.Vol.toNat { x with State:=2}).set d.Vol.toNat { ({ x with State:=2}:aR) with Files:=x.Files+1}=(iF d.Vol (x.Files+1) (ws c d.Vol x) m).Vols:=λm=>by
      rw[F2,set_set]; rfl
    have hWi:∀n,Wm (200+(d.Items.take n).length) (iF d.Vol (x.Files+1) (ws c d.Vol x) (d.Items.take n)):=λn=>by
      rw[qV]
      exact wD gv gF hW λj hj=>hI j (mem_of_mem_take hj)
    have key:=zQ (body:=λs:Int×List aI×List aB×List aQ×Int=>qK F c d x s.1 s.2.1 s.2.2.1 s.2.2.2.1 s.2.2.2.2) (n:=d.Items.length)
      (λn=>((iF d.Vol (x.Files+1) (ws c d.Vol x) (d.Items.take n)).Seq,(iF d.Vol (x.Files+1) (ws c d.Vol x) (d.Items.take n)).Snaps,(iF d.Vol (x.Files+1) (ws c d.Vol x) (d.Items.take n)).Chunks,(iF d.Vol (x.Files+1) (ws c d.Vol x) (d.Items.take n)).Exps,(n:Int)))
      (λn=>(d.Items[n]?).any (jZ c)) (λy=>∃r,y= .ret (.ret (.ret r))/\r.1=8)
      (λn hn' hp=>by
        have hi:d.Items[n]? =some d.Items[n]:=getElem?_eq_getElem hn'
        have hmm:=getElem_mem hn'
        have hWn:=hWi n
        rw[length_take] at hWn
        have h156:=aD9 hF hWn (by omega) (hI _ hmm) (P1 hg hx hm.un hi)
        rw[F3] at h156
        rw[hi] at hp
        rw[show jZ (ws c d.Vol x) d.Items[n]=true from hp,if_pos rfl] at h156
        rw[take_succ_eq_append_getElem hn',lC]
        generalize d.Items[n]=i at hi h156
        have hVn:=hVw (d.Items.take n)
        generalize iF d.Vol (x.Files+1) (ws c d.Vol x) (d.Items.take n)=e at h156 hVn
        unfold qK
        simp only
        rw[f0 (by omega)]
        simp only[a8,hi,bind_some,ofNat_lt,hn',decide_true,if_true,wF,hVn]
        rw[show HZ F { Seq:=e.Seq,Snaps:=e.Snaps,Chunks:=e.Chunks,Exps:=e.Exps,Vols:=e.Vols} i { Vol:=d.Vol,File:=x.Files+1,Off:=i.Off,Len:=i.Len}=_ from h156]
        rfl)
      (λn hn' hp=>by
        have hi:d.Items[n]? =some d.Items[n]:=getElem?_eq_getElem hn'
        have hmm:=getElem_mem hn'
        have hWn:=hWi n
        rw[length_take] at hWn
        have h156:=aD9 hF hWn (by omega) (hI _ hmm) (P1 hg hx hm.un hi)
        rw[F3] at h156
        rw[hi] at hp
        rw[show jZ (ws c d.Vol x) d.Items[n]=false from hp,if_neg (by decide)] at h156
        generalize d.Items[n]=i at hi h156
        have hVn:=hVw (d.Items.take n)
        generalize iF d.Vol (x.Files+1) (ws c d.Vol x) (d.Items.take n)=e at h156 hVn
        refine⟨.ret (.ret (.ret (8,e.Seq,e.Snaps,e.Chunks,e.Exps,e.Vols))),⟨_,rfl,rfl⟩, ?_⟩
        unfold qK
        simp only
        simp only[a8,hi,bind_some,ofNat_lt,hn',decide_true,if_true,wF,hVn]
        rw[show HZ F { Seq:=e.Seq,Snaps:=e.Snaps,Chunks:=e.Chunks,Exps:=e.Exps,Vols:=e.Vols} i { Vol:=d.Vol,File:=x.Files+1,Off:=i.Off,Len:=i.Len}=_ from h156]
        rfl)
      (by unfold qK; simp) d.Items.length 0 F (by omega) (by omega)
    have st0:(c.Seq,c.Snaps,c.Chunks,c.Exps,(0:Int))=((iF d.Vol (x.Files+1) (ws c d.Vol x) (d.Items.take 0)).Seq,(iF d.Vol (x.Files+1) (ws c d.Vol x) (d.Items.take 0)).Snaps,(iF d.Vol (x.Files+1) (ws c d.Vol x) (d.Items.take 0)).Chunks,(iF d.Vol (x.Files+1) (ws c d.Vol x) (d.Items.take 0)).Exps,((0:Nat):Int)):=rfl
    rw[st0]
    rcases key with⟨k1,k2⟩ | ⟨⟨j, -,k1,k2⟩,r,⟨r',rfl,k3⟩,k4⟩
    . have hall:d.Items.all (jZ c)=true:=all_eq_true.2 λi hi=>by
        obtain⟨j,hj,rfl⟩:=getElem_of_mem hi
        have:=k1 j (zero_le _) hj
        rw[getElem?_eq_getElem hj] at this
        exact this
      rw[k2,hall]
      simp only[aG,take_length,if_true]
      have hWe:=hWi d.Items.length
      rw[take_length] at hWe
      have hV:=hVw d.Items
      have hLv:Lv (iF d.Vol (x.Files+1) (ws c d.Vol x) d.Items):=H9 (c:=ws c d.Vol x) (by have h1:=P2 hg; exact h1)
      have hsq:=λq=>P3 (v:=d.Vol) (f:=x.Files+1) (c:=ws c d.Vol x) (l:=d.Items) (q:=q)
      have hww:=nU x.Pool d.Vol (x.Files+1) (ws c d.Vol x) d.Items
      have hw1:iW c d x=xK x.Pool d.Vol (x.Files+1) (ws c d.Vol x) d.Items:=rfl
      rw[hww] at hw1
      have hS:=hWe.sm (by omega)
      have hWn:=hWe.cn
      have hWr:=hWe.r
      rw[wF]
      generalize iF d.Vol (x.Files+1) (ws c d.Vol x) d.Items=e at hWe hV hLv hsq hw1 hS hWn hWr
      suffices hfin:∃s l,u6 l/\l.length<=400/\aT (λs=>m9 F c d x e.Seq e.Exps s.1 s.2.1 s.2.2) F (e.Snaps,e.Chunks,0)=some (.brk (s,l,(d.Items.length:Int)))/\((0:Int),e.Seq,s,l.map (dU x.Pool d.Items),e.Exps,e.Vols)=(0,(jI c d x).Seq,(jI c d x).Snaps,(jI c d x).Chunks,(jI c d x).Exps,(jI c d x).Vols) by
        obtain⟨s,l,h1,h2,h3,h4⟩:=hfin
        rw[h3]
        simp only[aG]
        by_cases p0:x.Pool=0
        . rw[if_pos (by simp[p0]),TC hF h1 h2 hn]
          simp only[aG]
          refine⟨_,rfl,.inr ⟨_,rfl, ?_⟩⟩
          rw[<- h4,hV,p0]
        . rw[if_neg (by simpa using p0)]
          simp only[aG]
          refine⟨_,rfl,.inr ⟨_,rfl, ?_⟩⟩
          rw[<- h4,hV,BV (.inl p0)]
      by_cases hno:∀i∈d.Items,i.Kind=3->c.Snaps.any (λs=>s.Seq==i.Of)=false
      . refine⟨e.Snaps,e.Chunks,hWr,hWn,XZ hF hS hLv hn (by rw[wF]; exact hV) λi hi k3=>by rw[hsq]; exact hno i hi k3, ?_⟩
        have hng:∀s∈e.Snaps,jE d.Items s=false:=λs hs=>by
          unfold jE
          rw[any_eq_false]
          intro i hi
          by_cases k3:i.Kind=3
          . have:=hsq i.Of
            rw[show (ws c d.Vol x).Snaps.any (λs=>s.Seq==i.Of)=false from hno i hi k3] at this
            have:=any_eq_false.1 this s hs
            simpa [k3] using this
          . simp[k3]
        have e1:(iW c d x).Snaps=e.Snaps:=by rw[hw1]
        have e2:(sC c d x).Snaps=e.Snaps:=by
          show (iW c d x).Snaps.filter _=_
          rw[e1,filter_eq_self.2 λs hs=>by rw[hng s hs]; rfl]
        have e3:jI c d x= { e with Chunks:=e.Chunks.map (dU x.Pool d.Items)}:=by
          unfold jI
          rw[if_neg (by rw[e1,e2]; omega)]
          unfold sC
          rw[filter_eq_self.2 λs hs=>by rw[e1] at hs; rw[hng s hs]; rfl,hw1]
        rw[e3]
      . have⟨i,hi,k3,ha⟩:∃i∈d.Items,i.Kind=3/\c.Snaps.any (λs=>s.Seq==i.Of)=true:=by
          by_cases hh:∃i∈d.Items,i.Kind=3/\c.Snaps.any (λs=>s.Seq==i.Of)=true
          . exact hh
          . refine absurd (λi hi k3=> ?_) hno
            cases hc:c.Snaps.any (λs=>s.Seq==i.Of) with
            | false=>rfl
            | true=>exact absurd ⟨i,hi,k3,hc⟩ hh
        have hone:d.Items= [i]:=by
          rcases hm.it with h | ⟨s,hs,e⟩
          . exfalso
            rcases(h.a i hi).w with⟨a,_⟩ | ⟨a,_⟩ | ⟨_,_,j,_,y,y1,y2,y3⟩
            . omega
            . omega
            . obtain⟨s,hs,e⟩:=any_eq_true.1 ha
              exact hg.ex y (mem_of_getElem? y1) s hs (by rw[y3]; simpa using e)
          . rw[e] at hi ⊢
            rw[mem_singleton.1 hi]
        have hae:e.Snaps.any (λs=>s.Seq==i.Of)=true:=by rw[hsq]; exact ha
        have hoff:∀m:List aB,m.map (dU x.Pool d.Items)=m:=λm=>BV (.inr λj hj=>by
          rw[hone] at hj
          rw[mem_singleton.1 hj]; omega)
        have hD:=H6 (n:=i.Of) hS
        have e1:iW c d x=e:=by rw[hw1,hoff]
        have hgn:∀s:aI,jE d.Items s=(s.Seq==i.Of):=λs=>by rw[hone]; simp[jE,k3]
        have e2:sC c d x=rD e i.Of:=by
          unfold sC rD
          rw[e1]
          rw[show (λs=> !jE d.Items s)=λs:aI=> !(s.Seq==i.Of) from funext λs=>by rw[hgn]]
        have hlt:(rD e i.Of).Snaps.length < e.Snaps.length:=by
          obtain⟨s,hs,e9⟩:=any_eq_true.1 hae
          rcases lt_or_ge (rD e i.Of).Snaps.length e.Snaps.length with w | w
          . exact w
          . have hl:=length_filter_le (λs:aI=> !(s.Seq==i.Of)) e.Snaps
            have w:e.Snaps.length<=(e.Snaps.filter λs=> !(s.Seq==i.Of)).length:=w
            have:=List.length_filter_eq_length_iff.1 (Nat.le_antisymm hl w) s hs
            simp[e9] at this
        have e3:jI c d x=C8 e i.Of:=by
          unfold jI
          rw[e2,e1,if_pos hlt]
          rfl
        refine⟨(C8 e i.Of).Snaps,(C8 e i.Of).Chunks,qH.2 ⟨λy hy=> ?_, ?_⟩,hD.ch, ?_,by rw[e3,hoff]; rfl⟩
        . exact(hD.g.2.2.1 y hy).1
        . exact pairwise_map.2 (((qH.1 hWr).2.sublist filter_sublist).imp fun {a b} hab=>by rw[(kD _ a).2.1,(kD _ b).2.1]; exact hab)
        . have h154:=XV (q:=i.Of) hF hS hLv
          rw[hae,if_pos rfl] at h154
          rw[hone]
          have:=kH (body:=λs:List aI×List aB×Int=>m9 F c d x e.Seq e.Exps s.1 s.2.1 s.2.2) (s0:=(e.Snaps,e.Chunks,(0:Int))) (n:=1) (F:=F) (λk:Nat=>(if k=0 then e.Snaps else (C8 e i.Of).Snaps,if k=0 then e.Chunks else (C8 e i.Of).Chunks,(k:Int))) (by omega) rfl (λk hk=>by
            obtain rfl:k=0:=by omega
            unfold m9
            simp only
            rw[f0 (by omega),hone]
            have h154':DB F { Seq:=e.Seq,Snaps:=e.Snaps,Chunks:=e.Chunks,Exps:=e.Exps,Vols:=e.Vols} i.Of=some (true,(C8 e i.Of).Snaps,(C8 e i.Of).Chunks):=h154
            simp only[a8,List.getElem?_cons_zero,bind_some,wF,hV,if_true,k3,h154',beq_self_eq_true,aG,List.length_singleton]
            rfl) (by unfold m9; rw[hone]; simp)
          simpa using this
    . have hall:d.Items.all (jZ c)=false:=by
        rw[List.all_eq_false]
        refine⟨d.Items[j],getElem_mem k1, ?_⟩
        rw[getElem?_eq_getElem k1] at k2
        simpa using k2
      rw[k4,hall]
      exact⟨_,rfl,.inl ⟨r',rfl,by simpa using k3⟩⟩
  obtain⟨r,hr,hq⟩:=main
  by_cases c1:jS x d=true
  . rw[if_pos c1] at hq ⊢
    by_cases c2:d.Items.all (jZ c)=true
    . rw[if_pos c2] at hq ⊢
      rw[go (jI c d x) 0 r hr (.inr ⟨rfl,hq,DT h hg hw gv hx λi hi=>by
        unfold jS at c1
        simp only[and_eq_true,not_eq_true',any_eq_false,or_eq_true,decide_eq_true_eq,not_or,not_lt] at c1
        exact c1.2 i hi⟩)]
      rfl
    . rw[if_neg c2] at hq ⊢
      rw[go bY 8 r hr (.inl ⟨hq,by decide⟩)]
      rfl
  . rw[if_neg c1] at hq ⊢
    rw[go bY 1 r hr (.inl ⟨hq,by decide⟩)]
    rfl
theorem YA {F:Nat} {c:aA} {d:aW} (hF:1000<=F) (h:Sm c) (hg:Gd c) (k:d.Kind=0):FW F c d=some (bY,1):=by
 unfold FW
 rw[m19 hF h,jP.2 hg]
 simp only[bind_some,Bool.not_true,false_eq_true,if_false]
 rw[if_pos (by simp[k])]
 rfl
theorem YB {F:Nat} {c:aA} {d:aW} (hF:1000<=F) (h:Sm c) (hg:Gd c) (hd:JF d) (hm:Mk c d):
    ∃e n,FW F c d=some (e,n)/\((n≠0/\e=bY)\/(n=0/\Sm e/\Gd e/\Eff c d e)):=by
  have hk:=hm.k
  have no:∀n:Int,n≠0->FW F c d=some (bY,n)->∃e n,FW F c d=some (e,n)/\((n≠0/\e=bY)\/(n=0/\Sm e/\Gd e/\Eff c d e)):=λn hn e=>⟨_,_,e,.inl ⟨hn,rfl⟩⟩
  have yes:∀e,(f8 e=true->Sm e/\Eff c d e)->FW F c d=some (if f8 e=true then (e,0) else (bY,1))->∃e n,FW F c d=some (e,n)/\((n≠0/\e=bY)\/(n=0/\Sm e/\Gd e/\Eff c d e)):=λe he h2=>by
    by_cases hge:f8 e=true
    . rw[if_pos hge] at h2
      exact⟨_,_,h2,.inr ⟨rfl,(he hge).1,jP.1 hge,(he hge).2⟩⟩
    . rw[if_neg hge] at h2
      exact no 1 (by decide) h2
  obtain⟨x,hx⟩:=XR hm.v
  by_cases k0:d.Kind=0
  . exact no 1 (by decide) (YA hF h hg k0)
  by_cases k1:d.Kind=1
  . have:=S9 hF h hg hd k1
    by_cases c1:d.Snap.Seq=c.Seq/\pB d.Chunks=true
    . rw[if_pos c1] at this
      cases c2:c.Snaps.any (λs=>s.Man.Name.toList==d.Snap.Man.Name.toList) with
      | true=>rw[c2,if_pos rfl] at this; exact no 9 (by decide) this
      | false=>rw[c2,if_neg (by decide)] at this; exact yes _ (λ_=>⟨UW h hg hd,.add k1 c1 c2 rfl⟩) this
    . rw[if_neg c1] at this; exact no 1 (by decide) this
  by_cases k2:d.Kind=2
  . have:=P4 hF h hg hd k2
    by_cases c1:c.Snaps.any (λs=>s.Seq==d.Seq)=true
    . rw[if_pos c1] at this; exact yes _ (λ_=>⟨H6 h,.drop k2 c1 rfl⟩) this
    . rw[if_neg c1] at this; exact no 8 (by decide) this
  by_cases k3:d.Kind=3
  . have:=LM hF h hg hd hm k3 hx
    by_cases c1:jS x d=true
    . rw[if_pos c1] at this
      by_cases c2:d.Items.all (jZ c)=true
      . rw[if_pos c2] at this
        exact yes _ (λ_=>⟨DT h hg (hm.wd hg hd) hd.vol hx λi hi=>by
          unfold jS at c1
          simp only[and_eq_true,not_eq_true',any_eq_false,or_eq_true,decide_eq_true_eq,not_or,not_lt] at c1
          exact c1.2 i hi,.wrote k3 x hx c1 c2 rfl⟩) this
      . rw[if_neg c2] at this; exact no 8 (by decide) this
    . rw[if_neg c1] at this; exact no 1 (by decide) this
  by_cases k4:d.Kind=4
  . have:=TA hF h hg hd k4 hm.v.1 hx
    by_cases c1:x.State=2
    . rw[if_pos c1] at this; exact yes _ (λ_=>⟨DV h hx,.ret k4 x hx c1 rfl⟩) this
    . rw[if_neg c1] at this; exact no 1 (by decide) this
  . have k5:d.Kind=5:=by omega
    have ep:=PZ hg hx
    have:=TB hF h hg hd k5 hm.v.1 hx
    by_cases c1:x.State=3
    . rw[if_pos c1] at this; exact yes _ (λ_=>⟨PY h hx ⟨ep.2,ep.1⟩,.rel k5 x hx c1 rfl⟩) this
    . rw[if_neg c1] at this; exact no 1 (by decide) this
end Go.Proofs.YtbbifdfldpfphaaGreat
