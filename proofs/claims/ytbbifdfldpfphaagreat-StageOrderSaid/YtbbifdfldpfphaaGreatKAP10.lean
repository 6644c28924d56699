import Derived.Test.YtbbifdfldpfphaaGreatKAP9
import Derived.Test.YtbbifdfldpfphaaGreatKAP3
import Derived.RangeFuncLeaves
import Derived.RangeFuncRecord
import Derived.OrdersIn
set_option linter.unusedSimpArgs false
set_option linter.unusedVariables false
set_option maxHeartbeats 4000000
set_option maxRecDepth 100000
open Array(toList_append)
open Bool(and_eq_true false_eq_true not_eq_true' or_eq_true)
open Int(not_lt ofNat_lt toNat_natCast)
open Go.IntKind(wrap)
open List(all_cons all_eq_true all_nil any_eq_false any_eq_true filter_eq_self filter_sublist foldl_append foldl_cons getElem?_set_self getElem_drop getElem_mem getElem_of_mem length_drop length_filter_le length_map length_set length_take map map_map mem_append mem_append_left mem_cons mem_cons_of_mem mem_cons_self mem_filter mem_map mem_of_mem_take mem_or_eq_of_mem_set mem_singleton nil_append pairwise_append pairwise_map set_set take_length)
open Nat(ble le_succ_of_le zero_le)
open Go.Oper(semAt upon wp)
open Option(bind_some)
open Go.World(putObj_heap_other putObj_heap_same putObj_size)
namespace Go.Proofs.YtbbifdfldpfphaaGreat
open Go.Vm
theorem I7 {S ρ:Type} {body:S->Option (Lp S ρ)} (emb:Nat->S) {p:Nat} {r:ρ} (hb:∀j,j < p->body (emb j)=some (.go (emb (j+1)))) (hr:body (emb p)=some (.ret r)):∀(G k:Nat),k<=p->p - k < G->aR body G (emb k)=some (.ret r)
 | 0,_,_,h=>by omega
 | G+1,k,hk,h=>by
  unfold aR
  by_cases e:k=p
  ·subst e; rw[hr]
  ·rw[hb k (by omega)]
   exact I7 emb hb hr G (k+1) (by omega) (by omega)
theorem p88 {F:Nat} {c:aA} {d:bH} (hF:1000<=F) (hl:c.Chunks.length<=400):LI F c d=some (rO c.Chunks λx=>decide (x.Id=d)):=by
 unfold LI
 refine mM (l:=c.Chunks) (λx:aB=>decide (x.Id=d)) (by omega) (λi x hx hm hi=> ?_) (by unfold oR; simp)
 unfold oR
 rw[iG (by omega)]
 simp only[aX,hx,bind_some,ofNat_lt,hi,decide_true,if_true]
 split<;>rfl
def Nw (l:List aS) (a:aS):Prop:=(l.Pairwise λy z=>jU z y=true)/\∀y∈l,nk y a
structure NwI (c:aA) (i:aE) (a:aS):Prop where
 k:i.Kind=1->∀y∈c.Chunks,y.Id=i.Id->Nw y.Locs a
 s:i.Kind=2->∀y∈c.Snaps,y.Seq=i.Seq->Nw y.Locs a
 e:i.Kind=3->∀y∈c.Exps,y.Seq=i.Seq->Nw y.Locs a
theorem zH {l:List aT} {q:Int} {p:Nat} (h:l.Pairwise λy x=>y.Seq < x.Seq) (hp:p<=l.length) (h1:∀j x,l[j]? =some x->j < p->x.Seq < q) (h2:∀x,l[p]? =some x->q<=x.Seq):
    (l.filter λx=>decide (x.Seq < q))=l.take p/\(l[p]?.all (λx=>x.Seq !=q)=true->(l.filter λx=>decide (q < x.Seq))=l.drop p/\(l.find? λx=>decide (x.Seq=q))=none)/\
    (∀x,l[p]? =some x->x.Seq=q->(l.filter λx=>decide (q < x.Seq))=l.drop (p+1)/\(l.find? λx=>decide (x.Seq=q))=some x):=by
  have lo:∀y∈l.take p,y.Seq < q:=λy hy=>by
    obtain⟨j,hj,rfl⟩:=getElem_of_mem hy
    simp only[length_take] at hj
    rw[List.getElem_take]
    exact h1 j _ (List.getElem?_eq_getElem (by omega)) (by omega)
  have hi:∀y∈l.drop (p+1),q < y.Seq:=λy hy=>by
    obtain⟨j,hj,rfl⟩:=getElem_of_mem hy
    simp only[length_drop] at hj
    have hq:l[p]? =some l[p]:=List.getElem?_eq_getElem (by omega)
    have:=h2 _ hq
    have:=KS h hq (List.getElem?_eq_getElem (show p+1+j < l.length by omega)) (by omega)
    rw[getElem_drop]; omega
  have hm:∀y∈l.drop p,q<=y.Seq:=λy hy=>by
    by_cases hl:p < l.length
    . rw[List.drop_eq_getElem_cons hl] at hy
      rcases mem_cons.1 hy with rfl | hy
      . exact h2 _ (List.getElem?_eq_getElem hl)
      . have:=hi y hy; omega
    . rw[List.drop_eq_nil_of_le (by omega)] at hy; cases hy
  have e:∀f:aT->Bool,l.filter f=(l.take p).filter f++(l.drop p).filter f:=λf=>by rw[<- List.filter_append,List.take_append_drop]
  have lo2:((l.take p).filter λx=>decide (q < x.Seq))= []:=List.filter_eq_nil_iff.2 λy hy=>by have:=lo y hy; simp; omega
  have fp:(l.find? λx=>decide (x.Seq=q))=(l.drop p).find? λx=>decide (x.Seq=q):=by
    have:(l.find? λx=>decide (x.Seq=q))=(l.take p++l.drop p).find? λx=>decide (x.Seq=q):=by rw[List.take_append_drop]
    rw[this,List.find?_append,List.find?_eq_none.2 λy hy=>by have:=lo y hy; simp; omega]
    rfl
  refine⟨?_,λhn=> ?_,λx hx hq=> ?_⟩
  . rw[e,filter_eq_self.2 λy hy=>decide_eq_true (lo y hy),List.filter_eq_nil_iff.2 λy hy=>by have:=hm y hy; simp; omega]
    simp
  . have ne:∀y∈l.drop p,q < y.Seq:=λy hy=>by
      by_cases hl:p < l.length
      . rw[List.drop_eq_getElem_cons hl] at hy
        rcases mem_cons.1 hy with rfl | hy
        . have hq:=List.getElem?_eq_getElem hl
          rw[hq] at hn
          have:=h2 _ hq
          have hn:l[p].Seq≠q:=by simpa using hn
          omega
        . exact hi y hy
      . rw[List.drop_eq_nil_of_le (by omega)] at hy; cases hy
    refine⟨by rw[e,lo2,filter_eq_self.2 λy hy=>decide_eq_true (ne y hy)]; rfl, ?_⟩
    rw[fp]
    exact List.find?_eq_none.2 λy hy=>by have:=ne y hy; simp; omega
  . obtain⟨hl,rfl⟩:=List.getElem?_eq_some_iff.1 hx
    refine⟨?_, ?_⟩
    . rw[e,lo2,List.drop_eq_getElem_cons hl,List.filter_cons_of_neg (by simp; omega),filter_eq_self.2 λy hy=>decide_eq_true (hi y hy)]; rfl
    . rw[fp,List.drop_eq_getElem_cons hl,List.find?_cons_of_pos (by simpa using hq)]
theorem aDE {F n:Nat} {c:aA} {i:aE} {a:aS} (hF:1000<=F) (h:Wm n c) (hn:n<=300) (hi:It i) (hw:NwI c i a):
    HI F c i a=some (if jY c i then (true,(w8 c i a).Seq,(w8 c i a).Snaps,(w8 c i a).Chunks,(w8 c i a).Exps) else (false,c.Seq,c.Snaps,c.Chunks,c.Exps)):=by
  have hcn:=h.cn
  have hsn:=h.sn
  have hen:=h.en
  have hk:=hi.k
  have hq0:=hi.q0
  have hcq:=h.q
  unfold HI w8 jY
  by_cases k1:i.Kind=1
  . have e2:c.Snaps.map (w7 i a)=c.Snaps:=kH λy _=>by unfold w7; rw[if_neg (by omega)]
    rw[if_pos (by simp[k1])]
    rw[show LI F { Seq:=c.Seq,Snaps:=c.Snaps,Chunks:=c.Chunks,Exps:=c.Exps,Vols:=c.Vols} i.Id=some (rO c.Chunks λx=>decide (x.Id=i.Id)) from p88 hF hcn]
    simp only[bind_some,k1,if_true,e2,show ¬((1:Int)=3) by omega,if_false]
    cases hh:kM c.Chunks i.Id with
    | false=>
      rw[mN hh]
      simp[cE]
    | true=>
      obtain⟨p,x,h1,h2,h3,h4⟩:=kK hh
      have h3:x.Id=i.Id:=by simpa using h3
      have hx:=List.mem_of_getElem? h2
      obtain⟨w1,w2⟩:=hw.k k1 x hx h3
      rw[h1,if_neg (by simp)]
      simp only[aX,h2,bind_some,W9 hF w1 (Nat.le_trans (h.cl x hx).1 hn) w2,aG,toNat_natCast]
      rw[o7 (λy:aB=>y.Id=i.Id) (λy=> { y with Locs:=fR y.Locs a}) h2 h3 (λy hy e=>by
        have:=h4 y hy
        simp[e] at this) (λy hy e=>by
        obtain⟨j,hj,rfl⟩:=getElem_of_mem hy
        simp only[length_drop] at hj
        rw[getElem_drop] at e
        have:=h.r.2 p (p+1+j) _ _ h2 (List.getElem?_eq_getElem (by omega)) (by omega)
        rw[e,h3] at this; omega)]
      simp[pK,k1]
  . have e1:c.Chunks.map (pK i a)=c.Chunks:=kH λy _=>by unfold pK; rw[if_neg (by omega)]
    rw[if_neg (by simpa using k1)]
    by_cases k2:i.Kind=2
    . rw[if_pos (by simp[k2])]
      simp only[k2,show ¬((2:Int)=1) by omega,if_true,e1,show ¬((2:Int)=3) by omega,if_false]
      cases ha:c.Snaps.any (λs=>s.Seq==i.Seq) with
      | false=>
        have:=iT (body:=λs=>mH F c i a s) (s0:=0) (n:=c.Snaps.length) (F:=F) (λk:Nat=>(k:Int)) (by omega) rfl (λk hk'=>by
          have hx:c.Snaps[k]? =some c.Snaps[k]:=List.getElem?_eq_getElem hk'
          have:=any_eq_false.1 ha _ (getElem_mem hk')
          unfold mH
          rw[iG (by omega)]
          simp only[aX,hx,bind_some,ofNat_lt,hk',decide_true,if_true]
          rw[if_neg this]) (by unfold mH; simp)
        rw[this]
        simp[aG,cE]
      | true=>
        obtain⟨p,x,h1,h2,h3,h4⟩:=kK ha
        have hpl:=(List.getElem?_eq_some_iff.1 h2).1
        have hx:=List.mem_of_getElem? h2
        have h3:x.Seq=i.Seq:=by simpa using h3
        obtain⟨w1,w2⟩:=hw.s k2 x hx h3
        have:=I7 (body:=λs=>mH F c i a s) (λk:Nat=>(k:Int)) (p:=p) (r:=.ret (true,c.Seq,c.Snaps.set p { x with Locs:=fR x.Locs a},c.Chunks,c.Exps)) (λj hj=>by
          have hx:c.Snaps[j]? =some c.Snaps[j]:=List.getElem?_eq_getElem (by omega)
          have:=h4 c.Snaps[j] (List.mem_of_getElem? (i:=j) (by rw[List.getElem?_take_of_lt hj]; exact hx))
          unfold mH
          rw[iG (by omega)]
          simp only[aX,hx,bind_some,ofNat_lt,show j < c.Snaps.length by omega,decide_true,if_true]
          rw[if_neg (by simp[this])]) (by
          unfold mH
          simp only[aX,h2,bind_some,ofNat_lt,hpl,decide_true,if_true,W9 hF w1 (Nat.le_trans (h.sl x hx) hn) w2,toNat_natCast]
          rw[if_pos (by simp[h3])]) F 0 (zero_le _) (by omega)
        rw[show ((0:Int))=((0:Nat):Int) from rfl,this]
        simp only[cE]
        rw[o7 (λy:aH=>y.Seq=i.Seq) (λy=> { y with Locs:=fR y.Locs a}) h2 h3 (λy hy e=>by
          have:=h4 y hy
          simp[e] at this) (λy hy e=>by
          obtain⟨j,hj,rfl⟩:=getElem_of_mem hy
          simp only[length_drop] at hj
          rw[getElem_drop] at e
          have:=KS h.so h2 (List.getElem?_eq_getElem (show p+1+j < c.Snaps.length by omega)) (by omega)
          omega)]
        simp[w7,k2]
    . have k3:i.Kind=3:=by omega
      have e2:c.Snaps.map (w7 i a)=c.Snaps:=kH λy _=>by unfold w7; rw[if_neg (by omega)]
      rw[if_neg (by simpa using k2)]
      simp only[k3,if_true,e1,e2,show ¬((3:Int)=1) by omega,show ¬((3:Int)=2) by omega,if_false]
      obtain⟨p, -,hp,l1,l2,l3⟩:=xB (body:=λs=>uH F c i s) (c:=λk=>(c.Exps[k]?).any λy=>decide (y.Seq < i.Seq)) (n:=c.Exps.length) (λk hk=>by
        unfold uH
        by_cases hlt:k < c.Exps.length
        . have hx:c.Exps[k]? =some c.Exps[k]:=List.getElem?_eq_getElem hlt
          generalize c.Exps[k]=y at hx
          rw[iG (by omega)]
          simp only[aX,hx,ofNat_lt,hlt,decide_true,if_true,bind_some,Bool.true_and,Option.any_some,aG]
          split<;>rfl
        . have:¬((k:Int) < (c.Exps.length:Int)):=by omega
          simp[this,hlt,aG]) F 0 (zero_le _) (by omega)
      obtain⟨s1,s2,s3⟩:=zH h.eo hp (q:=i.Seq) (λj x hx hj=>by
        have:=l2 j (zero_le _) hj
        rw[hx] at this
        simpa using this) (λx hx=>by
        have:=l3 (List.getElem?_eq_some_iff.1 hx).1
        rw[hx] at this
        simpa using this)
      rw[show ((0:Int))=((0:Nat):Int) from rfl,l1]
      simp only[aG]
      have fin:(c.Exps[p]?).all (λx=>x.Seq !=i.Seq)=true->((slc c.Exps ((0:Nat):Int) (p:Int)).bind λx433=>(app ([]:List aT) x433).bind λz435=>(app z435 ([({ Seq:=i.Seq,Of:=i.Of,Locs:=([a]:List aS)}:aT)]:List aT)).bind λz443=>(slc c.Exps (p:Int) (c.Exps).length).bind λx451=>(app z443 x451).bind λz453=>after (if (decide (c.Seq<=i.Seq))then (some (.brk (decide (i.Seq < 4611686018427387904)))) else some (.brk false):Option (Lp (Bool) (Lp (Int×(List aB)×(List aT)) (Bool×Int×(List aH)×(List aB)×(List aT))))) λj463=>after (if j463 then (some (.brk (wrap .i64 (i.Seq+1)))) else some (.brk c.Seq):Option (Lp (Int) (Lp (Int×(List aB)×(List aT)) (Bool×Int×(List aH)×(List aB)×(List aT))))) λj468=>some (.brk (j468,c.Chunks,z453)))=some (.brk (max c.Seq (i.Seq+1),c.Chunks,mI c.Exps i a)):=λhn=>by
        obtain⟨f1,f2⟩:=s2 hn
        have u1:slc c.Exps ((0:Nat):Int) (p:Int)=some (c.Exps.take p):=by
          unfold slc; rw[if_pos ⟨by omega,by omega,by omega⟩]; simp
        have u2:slc c.Exps (p:Int) (c.Exps.length:Int)=some (c.Exps.drop p):=by
          unfold slc; rw[if_pos ⟨by omega,by omega,by omega⟩]; simp
        rw[u1,u2]
        simp only[bind_some]
        rw[bN (by simp; omega)]
        simp only[bind_some,nil_append]
        rw[bN (by simp; omega)]
        simp only[bind_some]
        rw[bN (by simp; omega)]
        have eX:c.Exps.take p++ [({ Seq:=i.Seq,Of:=i.Of,Locs:=([a]:List aS)}:aT)]++c.Exps.drop p=mI c.Exps i a:=by
          unfold mI vT
          rw[s1,f1,f2]
          simp[fR]
        simp only[bind_some,eX,wr (n:=i.Seq+1) (by omega) (by omega)]
        by_cases q1:c.Seq<=i.Seq
        . rw[if_pos (by simpa using q1)]
          simp only[aG]
          rw[if_pos (by simp; omega)]
          simp only[aG]
          rw[show max c.Seq (i.Seq+1)=i.Seq+1 by omega]
        . rw[if_neg (by simpa using q1)]
          simp only[aG,false_eq_true,if_false]
          rw[show max c.Seq (i.Seq+1)=c.Seq by omega]
      by_cases hlt:p < c.Exps.length
      . have hx:c.Exps[p]? =some c.Exps[p]:=List.getElem?_eq_getElem hlt
        have hm:=getElem_mem hlt
        generalize c.Exps[p]=x at hx hm
        rw[if_pos (by simpa using hlt)]
        simp only[aX,hx,bind_some,aG]
        by_cases hq:x.Seq=i.Seq
        . obtain⟨f1,f2⟩:=s3 x hx hq
          obtain⟨w1,w2⟩:=hw.e k3 x hm hq
          have hsq:=(h.eq x hm).2.2
          rw[if_pos (by simp[hq])]
          simp only[W9 hF w1 (Nat.le_trans (h.el x hm) hn) w2,bind_some,cE,toNat_natCast]
          unfold mI vT
          rw[f2,s1,f1,List.set_eq_take_append_cons_drop,if_pos hlt,show max c.Seq (i.Seq+1)=c.Seq by omega]
        . rw[if_neg (by simpa using hq)]
          rw[fin (by rw[hx]; simpa using hq)]
          rfl
      . rw[if_neg (by simpa using hlt)]
        simp only[aG,false_eq_true,if_false]
        rw[fin (by rw[List.getElem?_eq_none (by omega)]; rfl)]
        rfl
theorem p92 {F:Nat} {d:aV} (hF:1000<=F) (h:IX d):M92 F d=some d:=by
 have hc:=h.cn
 have hi:=h.it
 obtain⟨-,m2,m3, -⟩:=h.man
 unfold M92
 rw[m52 hF m2 (λp hp=>(m3 p hp).2)]
 simp only[bind_some]
 rw[m53 (by rw[h.locs]; simp)]
 simp only[bind_some]
 rw[m54 hF (by omega) (λx hx=>⟨by rw[(h.ch x hx).2.2.2]; simp,(h.ch x hx).2.1⟩)]
 simp only[bind_some]
 rw[bN (by simp; omega)]
 rfl
structure Rl (v:Int) (c e:aA):Prop where
 q:c.Seq<=e.Seq
 s:∃f:aH->aH,(∀s,(f s).Seq=s.Seq/\(f s).Man=s.Man)/\e.Snaps=c.Snaps.map f
 k:∃g:aB->aB,(∀y,(g y).Id=y.Id/\(∀l∈y.Locs,l∈(g y).Locs)/\∀l∈(g y).Locs,l∈y.Locs\/l.Vol=v)/\e.Chunks=c.Chunks.map g
theorem Rl.refl (v:Int) (c:aA):Rl v c c:=⟨Int.le_refl _,⟨id,λ_=>⟨rfl,rfl⟩,by simp⟩,⟨id,λ_=>⟨rfl,λ_ h=>h,λ_ h=>.inl h⟩,by simp⟩⟩
theorem Rl.trans {v:Int} {a b c:aA} (h:Rl v a b) (k:Rl v b c):Rl v a c:=by
 obtain⟨h1,⟨f,hf,ef⟩,g,hg,eg⟩:=h
 obtain⟨k1,⟨f',hf',ef'⟩,g',hg',eg'⟩:=k
 refine⟨Int.le_trans h1 k1,⟨f' ∘ f,λs=>⟨(hf' _).1.trans (hf s).1,(hf' _).2.trans (hf s).2⟩,by rw[ef',ef,map_map]⟩,g' ∘ g,λy=>⟨(hg' _).1.trans (hg y).1,λl hl=>(hg' _).2.1 l ((hg y).2.1 l hl),λl hl=> ?_⟩,by rw[eg',eg,map_map]⟩
 rcases(hg' _).2.2 l hl with h | h
 ·exact(hg y).2.2 l h
 ·exact .inr h
theorem XD {p:Int} {c:aA} {i:aE} {a:aS}:Rl a.Vol c (wB p c i a):=by
 refine⟨?_,⟨w7 i a,o8 i a,rfl⟩,λy=>qS p i (pK i a y),λy=> ?_,by show (c.Chunks.map _).map _=_; rw[map_map]; rfl⟩
 ·show c.Seq<=if i.Kind=3 then max c.Seq (i.Seq+1) else c.Seq
  split<;>omega
 ·have h1:(qS p i (pK i a y)).Locs=(pK i a y).Locs:=by unfold qS; split<;>rfl
  refine⟨(DG p i _).trans (qG i a y), ?_⟩
  rw[h1]
  unfold pK
  split
  ·refine⟨λl hl=>kC.2 (.inl hl),λl hl=> ?_⟩
   rcases kC.1 hl with h | h
   ·exact .inl h
   ·exact .inr (by rw[h])
  ·exact⟨λl hl=>hl,λl hl=>.inl hl⟩
theorem zJ {p v f:Int}:∀(l:List aE) (c:aA),Rl v c (w9 p v f c l)
 | [],c=>.refl v c
 | i::l,c=>(XD (a:=jV v f i)).trans (zJ l _)
def gX (v f:Int) (c:aA) (l:List aE):aA:=l.foldl (λc i=>w8 c i (jV v f i)) c
theorem kX (v f:Int) (c:aA) (l:List aE) (i:aE):gX v f c (l++ [i])=w8 (gX v f c l) i (jV v f i):=by
 unfold gX
 rw[foldl_append]
 rfl
theorem FJ (v f:Int):∀(l:List aE) (c:aA),(gX v f c l).Vols=c.Vols
 | [],_=>rfl
 | i::l,c=>FJ v f l (w8 c i (jV v f i))
theorem SQ {c:aA} {i:aE} {a:aS}:wB 1 c i a=w8 c i a:=by
 unfold wB
 rw[kH λy _=>by unfold qS; rw[if_neg (by omega)]]
theorem qN (v f:Int):∀(l:List aE) (c:aA),gX v f c l=w9 1 v f c l
 | [],_=>rfl
 | i::l,c=>by
  show gX v f (w8 c i (jV v f i)) l=w9 1 v f (wB 1 c i (jV v f i)) l
  rw[SQ,qN v f l]
def dQ (p:Int) (l:List aE) (y:aB):aB:=l.foldl (λy i=>qS p i y) y
theorem uN (p:Int) (l:List aE) (y:aB):(dQ p l y).Id=y.Id:=by
 unfold dQ
 induction l generalizing y with
 | nil=>rfl
 | cons i l ih=>rw[foldl_cons,ih,DG]
theorem SR (p:Int) (i j:aE) (a:aS) (y:aB):qS p i (pK j a y)=pK j a (qS p i y):=by
 by_cases h2:j.Kind=1/\y.Id=j.Id<;>by_cases h1:p=0/\i.Kind=1/\y.Id=i.Id
 ·rw[show pK j a y= { y with Locs:=fR y.Locs a} from if_pos h2,show qS p i y= { y with Staged:=false,Data:=[]} from if_pos h1]
  exact(if_pos h1).trans (if_pos h2).symm
 ·rw[show pK j a y= { y with Locs:=fR y.Locs a} from if_pos h2,show qS p i y=y from if_neg h1]
  exact(if_neg h1).trans (if_pos h2).symm
 ·rw[show pK j a y=y from if_neg h2,show qS p i y= { y with Staged:=false,Data:=[]} from if_pos h1]
  exact(if_neg h2).symm
 ·rw[show pK j a y=y from if_neg h2,show qS p i y=y from if_neg h1]
  exact(if_neg h2).symm
theorem HQ (p:Int) (l:List aE) (j:aE) (a:aS) (y:aB):dQ p l (pK j a y)=pK j a (dQ p l y):=by
 unfold dQ
 induction l generalizing y with
 | nil=>rfl
 | cons i l ih=>rw[foldl_cons,foldl_cons,SR,ih]
theorem kY {α:Type} {P:List α->Prop} (h0:P []) (h1:∀l x,P l->P (l++ [x])) (l:List α):P l:=by
 have:∀m:List α,P m.reverse:=λm=>by
  induction m with
  | nil=>exact h0
  | cons a m ih=>rw[List.reverse_cons]; exact h1 _ _ ih
 have:=this l.reverse
 rwa [List.reverse_reverse] at this
theorem nL (p v f:Int) (c:aA):∀l:List aE,w9 p v f c l= { gX v f c l with Chunks:=(gX v f c l).Chunks.map (dQ p l)}:=kY (by
 show c= { c with Chunks:=c.Chunks.map (dQ p [])}
 rw[show c.Chunks.map (dQ p [])=c.Chunks from kH λy _=>rfl]) λl i ih=>by
 rw[FH,kX,ih]
 unfold wB w8
 simp only[map_map]
 congr 1
 refine List.map_congr_left λy _=> ?_
 show qS p i (pK i (jV v f i) (dQ p l y))=dQ p (l++ [i]) (pK i (jV v f i) y)
 rw[<- HQ]
 unfold dQ
 rw[foldl_append]
 rfl
def Un (i j:aE):Prop:=¬(i.Kind=j.Kind/\(i.Kind=1->i.Id=j.Id)/\(i.Kind≠1->i.Seq=j.Seq))
theorem Mk.un {c:aA} {d:aV} (h:Mk c d):d.Items.Pairwise Un:=by
 rcases h.it with h | ⟨s,_,e⟩
 ·refine List.Pairwise.imp_of_mem (fun {a b} ha hb hn hu=> ?_) h.d
  obtain⟨u1,u2,u3⟩:=hu
  have wa:=(h.a a ha).w
  have wb:=(h.a b hb).w
  rcases wa with⟨ka,qa,_⟩ | ⟨ka,qa,_⟩ | ⟨ka,qa,_⟩<;>rcases wb with⟨kb,qb,_⟩ | ⟨kb,qb,_⟩ | ⟨kb,qb,_⟩
  ·exact hn u1 (u2 ka) (by omega)
  ·omega
  ·omega
  ·omega
  ·exact hn u1 (by rw[qa,qb]) (u3 (by omega))
  ·omega
  ·omega
  ·omega
  ·exact hn u1 (by rw[qa,qb]) (u3 (by omega))
 ·rw[e]; exact List.pairwise_singleton _ _
theorem aDF {v f:Int} {i:aE} (k:i.Kind=1):∀ {m:List aE} {c:aA} {y:aB},(∀j∈m,Un j i)->y∈(gX v f c m).Chunks->y.Id=i.Id->y∈c.Chunks
 | [],_,_,_,h,_=>h
 | j::m,c,y,hu,h,e=>by
  have:=aDF k (m:=m) (λj hj=>hu j (mem_cons_of_mem _ hj)) h e
  obtain⟨z,hz,rfl⟩:=mem_map.1 this
  rw[qG] at e
  have hj:=hu j mem_cons_self
  unfold pK
  rw[if_neg (λh=>hj ⟨by omega,λ_=>by rw[<- h.2,e],λh2=>absurd h.1 h2⟩)]
  exact hz
theorem aDG {v f:Int} {i:aE} (k:i.Kind=2):∀ {m:List aE} {c:aA} {y:aH},(∀j∈m,Un j i)->y∈(gX v f c m).Snaps->y.Seq=i.Seq->y∈c.Snaps
 | [],_,_,_,h,_=>h
 | j::m,c,y,hu,h,e=>by
  have:=aDG k (m:=m) (λj hj=>hu j (mem_cons_of_mem _ hj)) h e
  obtain⟨z,hz,rfl⟩:=mem_map.1 this
  rw[(o8 _ _ _).1] at e
  have hj:=hu j mem_cons_self
  unfold w7
  rw[if_neg (λh=>hj ⟨by omega,λh2=>absurd h2 (by omega),λ_=>by omega⟩)]
  exact hz
theorem aDH {v f:Int} {i:aE} (k:i.Kind=3):∀ {m:List aE} {c:aA} {y:aT},(∀j∈m,Un j i)->y∈(gX v f c m).Exps->y.Seq=i.Seq->y∈c.Exps
 | [],_,_,_,h,_=>h
 | j::m,c,y,hu,h,e=>by
  have this:y∈(if j.Kind=3 then mI c.Exps j (jV v f j) else c.Exps):=aDH k (m:=m) (λj hj=>hu j (mem_cons_of_mem _ hj)) h e
  have hj:=hu j mem_cons_self
  split at this
  ·rename_i k3
   unfold mI at this
   rcases mem_append.1 this with h | h
   ·exact(mem_filter.1 h).1
   ·rcases mem_cons.1 h with rfl | h
    ·exact absurd ⟨by omega,λh2=>absurd h2 (by omega),λ_=>by rw[<- e]; exact(zD c.Exps j).symm⟩ hj
    ·exact(mem_filter.1 h).1
  ·exact this
theorem I8 {c:aA} {v:Int} {x:aQ} {l:List aS} {i:aE} (hx:c.Vols[v.toNat]? =some x) (h:Lk c.Vols l):Nw l (jV v (x.Files+1) i):=by
 refine⟨h.o,λy hy hk=> ?_⟩
 obtain⟨h1,h2,h3⟩:=hk
 obtain⟨q1,w,q2,q3,q4,q5⟩:=DI (h.a y hy)
 have h1:y.Vol=v:=h1
 have h2:y.File=x.Files+1:=h2
 rw[h1,hx] at q2
 cases q2
 omega
theorem PK {c:aA} {d:aV} {x:aQ} {k:Nat} {i:aE} (G:Gd c) (hx:c.Vols[d.Vol.toNat]? =some x) (hu:d.Items.Pairwise Un) (hi:d.Items[k]? =some i):NwI (gX d.Vol (x.Files+1) (ws c d.Vol x) (d.Items.take k)) i (jV d.Vol (x.Files+1) i):=by
 have hun:∀j∈d.Items.take k,Un j i:=λj hj=>by
  obtain⟨q,hq,rfl⟩:=getElem_of_mem hj
  simp only[length_take] at hq
  rw[List.getElem_take]
  exact KS hu (List.getElem?_eq_getElem (show q < d.Items.length by omega)) hi (by omega)
 exact⟨λk1 y hy e=>I8 hx (G.cl y (aDF (c:=ws c d.Vol x) k1 hun hy e)),λk2 y hy e=>I8 hx (G.sl y (aDG (c:=ws c d.Vol x) k2 hun hy e)),λk3 y hy e=>I8 hx (G.el y (aDH (c:=ws c d.Vol x) k3 hun hy e))⟩
theorem HR {v f:Int}:∀ {l:List aE} {c:aA},Lv c->Lv (gX v f c l)
 | [],_,h=>h
 | i::l,c,h=>HR (l:=l) λy hy=>by
  obtain⟨z,hz,rfl⟩:=mem_map.1 hy
  have:=h z hz
  unfold pK
  split
  ·unfold pD
   rw[kD]
   simp
  ·exact this
theorem PM {c:aA} (G:Gd c):Lv c:=λx hx=>by
 have:=G.cs x hx
 unfold pD
 cases e:x.Staged with
 | true=>rfl
 | false=>
  rw[e] at this
  have:=List.length_pos_iff.2 this.2
  simp; omega
theorem FK {v f:Int} {j:aE} {l:List aE} {c:aA}:jY (gX v f c l) j=jY c j:=by rw[qN,zG]
theorem PN {v f:Int} {c:aA} {l:List aE} {q:Int}:(gX v f c l).Snaps.any (λs=>s.Seq==q)=c.Snaps.any λs=>s.Seq==q:=by
 obtain⟨-,⟨g,hg,e⟩, -⟩:=zJ (p:=1) (v:=v) (f:=f) l c
 rw[qN,e,List.any_map]
 congr 1
 funext s
 simp[(hg s).1]
theorem zK {F:Nat} {c:aA} {d:aV} {e:aA} {n:Int} {r:Int×Int×List aH×List aB×List aT×List aQ} (hF:1000<=F) (h:Sm c) (hg:Gd c) (hd:IX d) (hk:1<=d.Kind/\d.Kind<=5) (h91:rS F c d=some r) (hr:(r.1=n/\n≠0)\/(n=0/\r=(0,e.Seq,e.Snaps,e.Chunks,e.Exps,e.Vols)/\Sm e)):
    FE F c d=some (if n=0 then (if gJ e=true then (e,0) else (bY,1)) else (bY,n)):=by
  unfold FE
  rw[m19 hF h,kV.2 hg]
  simp only[bind_some,Bool.not_true,false_eq_true,if_false]
  rw[if_neg (by simp; omega)]
  simp only[aG]
  rw[if_neg (by simp; omega),aIA hF h,p92 hF hd]
  simp only[bind_some]
  rw[show rS F { Seq:=c.Seq,Snaps:=c.Snaps,Chunks:=c.Chunks,Exps:=c.Exps,Vols:=c.Vols} d=some r from h91]
  simp only[bind_some]
  rcases hr with⟨h1,h2⟩ | ⟨rfl,rfl,hs⟩
  . rw[if_pos (by simpa [h1] using h2),if_neg h2,h1]
    rfl
  . rw[if_neg (by simp),if_pos rfl]
    rw[show VW F { Seq:=e.Seq,Snaps:=e.Snaps,Chunks:=e.Chunks,Exps:=e.Exps,Vols:=e.Vols}=some (gJ e) from m19 hF hs]
    simp only[bind_some]
    cases gJ e<;>rfl
theorem XE {F:Nat} {d:aV} {b:Bool} (hF:1000<=F) (hd:IX d):aR (λs=>rQ F d s.1 s.2) F (b,0)=some (.brk (b && o6 d.Chunks,(d.Chunks.length:Int))):=by
 have hc:=hd.cn
 have:=iT (body:=λs:Bool×Int=>rQ F d s.1 s.2) (s0:=(b,(0:Int))) (n:=d.Chunks.length) (F:=F) (λk:Nat=>(b && (d.Chunks.take k).all λx=>x.Staged && ((x.Locs.length:Int)==0),(k:Int))) (by omega) (by simp) (λk hk=>by
  have hx:d.Chunks[k]? =some d.Chunks[k]:=List.getElem?_eq_getElem hk
  unfold rQ
  simp only
  rw[iG (by omega),List.take_succ_eq_append_getElem hk]
  simp only[aX,hx,bind_some,ofNat_lt,hk,decide_true,if_true,List.all_append,all_cons,all_nil,Bool.and_true]
  rw[<- Bool.and_assoc]
  cases (b && (d.Chunks.take k).all λx=>x.Staged && ((x.Locs.length:Int)==0)) with
  | false=>simp[aG]
  | true=>cases (d.Chunks[k]).Staged<;>simp[aG]) (by unfold rQ; simp)
 rw[this,take_length]
 congr 4
 unfold o6
 rw[List.all_eq_not_any_not]
 congr 2
 funext x
 cases x.Staged with
 | false=>simp
 | true=>
  cases x.Locs with
  | nil=>simp
  | cons a l=>simp; omega
theorem SS {F:Nat} {c:aA} {d:aV} (hF:1000<=F) (h:Sm c) (hg:Gd c) (hd:IX d) (k:d.Kind=1):
    FE F c d=some (if d.Snap.Seq=c.Seq/\o6 d.Chunks=true then (if c.Snaps.any (λs=>s.Man.Name.toList==d.Snap.Man.Name.toList) then (bY,9) else if gJ (ad c d) then (ad c d,0) else (bY,1)) else (bY,1)):=by
  have hsn:=h.sn
  have hcn:=hg.cn
  have hdn:=hd.cn
  have hq:=hg.q
  unfold fB at hq
  simp only[and_eq_true,decide_eq_true_eq] at hq
  have hr:uR c.Chunks:=qC.2 ⟨λx hx=>(h.g.2.2.1 x hx).1,hg.co⟩
  have go:∀(e:aA) (n:Int) (r),rS F c d=some r->_->_:=λe n r h1=>zK (e:=e) (n:=n) hF h hg hd (by omega) h1
  have l1:=λb=>XE (b:=b) hF hd
  by_cases e1:d.Snap.Seq=c.Seq/\o6 d.Chunks=true
  . rw[if_pos e1]
    have nm:=aHE hF (c:=c) (nm:=d.Snap.Man.Name) (by omega)
    cases ha:c.Snaps.any (λs=>s.Man.Name.toList==d.Snap.Man.Name.toList) with
    | true=>
      obtain⟨p,x,h1, -⟩:=kK ha
      rw[h1] at nm
      have e0:rS F c d=some (9,c.Seq,c.Snaps,c.Chunks,c.Exps,c.Vols):=by
        unfold rS
        rw[if_pos (by simp[k]),if_pos (by simp[e1.1]),hd.locs]
        simp only[aG,l1,e1.2]
        rw[if_neg (by simp),show yK F { Seq:=c.Seq,Snaps:=c.Snaps,Chunks:=c.Chunks,Exps:=c.Exps,Vols:=c.Vols} d.Snap.Man.Name=some (p:Int) from nm]
        simp[cE]
      rw[go bY 9 _ e0 (.inl ⟨rfl,by decide⟩)]
      rfl
    | false=>
      rw[mN ha] at nm
      have hloop:=iT (body:=λs:List aB×Int=>vS F d s.1 s.2) (s0:=(c.Chunks,(0:Int))) (n:=d.Chunks.length) (F:=F) (λi:Nat=>(nT c.Chunks (d.Chunks.take i),(i:Int))) (by omega) rfl (λi hi=>by
        have hx:d.Chunks[i]? =some d.Chunks[i]:=List.getElem?_eq_getElem hi
        have hm:=getElem_mem hi
        have ht:d.Chunks.take (i+1)=d.Chunks.take i++ [d.Chunks[i]]:=List.take_succ_eq_append_getElem hi
        have hR:=zA (ns:=d.Chunks.take i) hr λn hn=>(hd.ch n (mem_of_mem_take hn)).1
        have hL:=rT (ns:=d.Chunks.take i) (l:=c.Chunks)
        have hA:=lL (P:=λx=>x.Locs.length<=300/\x.Data.length<=300) (ns:=d.Chunks.take i) (l:=c.Chunks) h.cl (λn hn=>⟨by simp,(hd.ch n (mem_of_mem_take hn)).2.1⟩) λx hx n hn=>⟨hx.1,(hd.ch n (mem_of_mem_take hn)).2.1⟩
        rw[length_take] at hL
        rw[ht]
        have hfr:(d.Chunks[i]).Staged=true:=by
          have:=e1.2
          unfold o6 at this
          simp only[not_eq_true',any_eq_false] at this
          have:=this _ hm
          simp at this
          exact this.1
        generalize d.Chunks[i]=n at hx hm hfr
        unfold vS
        simp only
        rw[iG (by omega)]
        simp only[aX,hx,bind_some,ofNat_lt,hi,decide_true,if_true]
        rw[aIZ hF hR (hd.ch n hm).1 (by omega) hA hfr (hd.ch n hm).2.2.2 (hd.ch n hm).2.1]
        unfold nT
        rw[foldl_append]
        rfl) (by unfold vS; simp)
      have e0:rS F c d=some (0,(ad c d).Seq,(ad c d).Snaps,(ad c d).Chunks,(ad c d).Exps,(ad c d).Vols):=by
        unfold rS
        rw[if_pos (by simp[k]),if_pos (by simp[e1.1])]
        have hl0:=hd.locs
        simp only[hl0,aG,l1,e1.2]
        rw[if_neg (by simp),show yK F { Seq:=c.Seq,Snaps:=c.Snaps,Chunks:=c.Chunks,Exps:=c.Exps,Vols:=c.Vols} d.Snap.Man.Name=some (-1) from nm]
        simp only[bind_some]
        rw[if_neg (by decide),bN (by simp; omega)]
        simp only[bind_some]
        rw[hloop]
        simp only[aG,take_length,wr (n:=c.Seq+1) (by omega) (by omega)]
        have:d.Snap= { Seq:=d.Snap.Seq,Man:=d.Snap.Man,Locs:=[]}:=by rw[<- hl0]
        unfold ad
        simp only
        rw[<- this]
      rw[go (ad c d) 0 _ e0 (.inr ⟨rfl,rfl,UG h hg hd⟩)]
      rfl
  . rw[if_neg e1]
    have e0:∃r,rS F c d=some r/\r.1=1:=by
      unfold rS
      rw[if_pos (by simp[k])]
      by_cases e2:d.Snap.Seq=c.Seq
      . have e3:o6 d.Chunks=false:=by
          cases h:o6 d.Chunks with
          | false=>rfl
          | true=>exact absurd ⟨e2,h⟩ e1
        rw[if_pos (by simp[e2])]
        simp only[aG,l1,e3,Bool.and_false]
        rw[if_pos (by simp)]
        exact⟨_,rfl,rfl⟩
      . rw[if_neg (by simpa using e2)]
        simp only[aG,l1,Bool.false_and]
        rw[if_pos (by simp)]
        exact⟨_,rfl,rfl⟩
    obtain⟨r,e0,e3⟩:=e0
    rw[go bY 1 r e0 (.inl ⟨e3,by decide⟩)]
    rfl
theorem PO {F:Nat} {c:aA} {d:aV} (hF:1000<=F) (h:Sm c) (hg:Gd c) (hd:IX d) (k:d.Kind=2):
    FE F c d=some (if c.Snaps.any (λs=>s.Seq==d.Seq) then (if gJ (CW c d.Seq) then (CW c d.Seq,0) else (bY,1)) else (bY,8)):=by
  have go:∀(e:aA) (n:Int) (r),rS F c d=some r->_->_:=λe n r h1=>zK (e:=e) (n:=n) hF h hg hd (by omega) h1
  have e1:CZ F { Seq:=c.Seq,Snaps:=c.Snaps,Chunks:=c.Chunks,Exps:=c.Exps,Vols:=c.Vols} d.Seq=_:=XC hF h (PM hg)
  cases ha:c.Snaps.any (λs=>s.Seq==d.Seq) with
  | true=>
    rw[ha,if_pos rfl] at e1
    have e0:rS F c d=some (0,(CW c d.Seq).Seq,(CW c d.Seq).Snaps,(CW c d.Seq).Chunks,(CW c d.Seq).Exps,(CW c d.Seq).Vols):=by
      unfold rS
      rw[if_neg (by simp[k]),if_pos (by simp[k]),e1]
      rfl
    rw[go (CW c d.Seq) 0 _ e0 (.inr ⟨rfl,rfl,HO h⟩)]
    rfl
  | false=>
    rw[ha,if_neg (by decide)] at e1
    have e0:rS F c d=some (8,c.Seq,c.Snaps,c.Chunks,c.Exps,c.Vols):=by
      unfold rS
      rw[if_neg (by simp[k]),if_pos (by simp[k]),e1]
      rfl
    rw[go bY 8 _ e0 (.inl ⟨rfl,by decide⟩)]
    rfl
theorem ST {F:Nat} {c:aA} {d:aV} {x:aQ} (hF:1000<=F) (h:Sm c) (hg:Gd c) (hd:IX d) (k:d.Kind=4) (h0:0<=d.Vol) (hx:c.Vols[d.Vol.toNat]? =some x):
    FE F c d=some (if x.State=2 then (if gJ (ret c d.Vol x) then (ret c d.Vol x,0) else (bY,1)) else (bY,1)):=by
  have hsn:=h.sn
  have hch:=h.ch
  have hex:=h.ex
  have go:∀(e:aA) (n:Int) (r),rS F c d=some r->_->_:=λe n r h1=>zK (e:=e) (n:=n) hF h hg hd (by omega) h1
  have e1:AF F { Seq:=c.Seq,Snaps:=c.Snaps,Chunks:=c.Chunks,Exps:=c.Exps,Vols:=c.Vols} d.Vol 2 2=_:=XB (a:=2) (b:=2) h0 hx
  by_cases e2:x.State=2
  . rw[if_pos e2]
    have hl:=(List.getElem?_eq_some_iff.1 hx).1
    have e0:rS F c d=some (0,(ret c d.Vol x).Seq,(ret c d.Vol x).Snaps,(ret c d.Vol x).Chunks,(ret c d.Vol x).Exps,(ret c d.Vol x).Vols):=by
      unfold rS
      rw[if_neg (by simp[k]),if_neg (by simp[k]),if_neg (by simp[k]),if_pos (by simp[k]),e1]
      simp only[bind_some,e2,beq_self_eq_true,Bool.or_self]
      rw[if_neg (by simp)]
      simp only[oQ _ h0,hx,bind_some,getElem?_set_self hl]
      rw[i7 (l:=c.Chunks) [] (λy=> !OM (SA d.Vol y)) (SA d.Vol) (by omega) (λi y hy hm hi acc ha=>by
        simp only[List.length_nil] at ha
        unfold uI
        simp only
        rw[iG (by omega)]
        have ea:∀z:aB,app acc [z]=some (acc++ [z]):=λz=>bN (by simp; omega)
        simp only[aX,hy,bind_some,ofNat_lt,hi,decide_true,if_true,XA hF (h.cl y hm).1,ea]
        unfold OM SA
        simp only
        by_cases q:(lf d.Vol y.Locs).length=0
        . cases y.Staged<;>simp[q,aG]
        . have:0 < (lf d.Vol y.Locs).length:=by omega
          cases y.Staged<;>simp[q,this,aG]) (λacc=>by unfold uI; simp)]
      simp only[aG,nil_append]
      rw[qB (l:=c.Snaps) (λs=> { s with Locs:=lf d.Vol s.Locs}) (by omega) (λcur i y hc hy hm hi=>by
        unfold uJ
        simp only
        rw[iG (by omega)]
        simp only[aX,hy,hc,bind_some,ofNat_lt,hi,decide_true,if_true,XA hF (h.sl y hm),toNat_natCast]) (λcur hc=>by unfold uJ; simp[hc])]
      simp only[aG]
      rw[i7 (l:=c.Exps) [] (λy=> !(((SB d.Vol y).Locs.length:Int)==0)) (SB d.Vol) (by omega) (λi y hy hm hi acc ha=>by
        simp only[List.length_nil] at ha
        unfold uK
        simp only
        rw[iG (by omega)]
        have ea:∀z:aT,app acc [z]=some (acc++ [z]):=λz=>bN (by simp; omega)
        simp only[aX,hy,bind_some,ofNat_lt,hi,decide_true,if_true,XA hF (h.el y hm),ea]
        unfold SB
        simp only
        by_cases q:(lf d.Vol y.Locs).length=0
        . simp[q,aG]
        . have:0 < (lf d.Vol y.Locs).length:=by omega
          simp[q,this,aG]) (λacc=>by unfold uK; simp)]
      simp only[aG,nil_append,set_set]
      unfold ret
      simp only[List.filter_map]
      rfl
    rw[go (ret c d.Vol x) 0 _ e0 (.inr ⟨rfl,rfl,PG h hx⟩)]
    rfl
  . rw[if_neg e2]
    have e0:rS F c d=some (1,c.Seq,c.Snaps,c.Chunks,c.Exps,c.Vols):=by
      unfold rS
      rw[if_neg (by simp[k]),if_neg (by simp[k]),if_neg (by simp[k]),if_pos (by simp[k]),e1]
      simp only[bind_some]
      rw[if_pos (by simp[e2])]
      rfl
    rw[go bY 1 _ e0 (.inl ⟨rfl,by decide⟩)]
    rfl
theorem SU {F:Nat} {c:aA} {d:aV} {x:aQ} (hF:1000<=F) (h:Sm c) (hg:Gd c) (hd:IX d) (k:d.Kind=5) (h0:0<=d.Vol) (hx:c.Vols[d.Vol.toNat]? =some x):
    FE F c d=some (if x.State=3 then (if gJ (rel c d.Vol x) then (rel c d.Vol x,0) else (bY,1)) else (bY,1)):=by
  have go:∀(e:aA) (n:Int) (r),rS F c d=some r->_->_:=λe n r h1=>zK (e:=e) (n:=n) hF h hg hd (by omega) h1
  have e1:AF F { Seq:=c.Seq,Snaps:=c.Snaps,Chunks:=c.Chunks,Exps:=c.Exps,Vols:=c.Vols} d.Vol 3 3=_:=XB (a:=3) (b:=3) h0 hx
  have ep:=PI hg hx
  by_cases e2:x.State=3
  . rw[if_pos e2]
    have hl:=(List.getElem?_eq_some_iff.1 hx).1
    have e0:rS F c d=some (0,(rel c d.Vol x).Seq,(rel c d.Vol x).Snaps,(rel c d.Vol x).Chunks,(rel c d.Vol x).Exps,(rel c d.Vol x).Vols):=by
      unfold rS
      rw[if_neg (by simp[k]),if_neg (by simp[k]),if_neg (by simp[k]),if_neg (by simp[k]),if_pos (by simp[k]),e1]
      simp only[bind_some,e2,beq_self_eq_true,Bool.or_self]
      rw[if_neg (by simp)]
      simp only[oQ _ h0,hx,bind_some,getElem?_set_self hl,set_set,wr (n:=x.Epoch+1) (by omega) (by omega),aG]
      rfl
    rw[go (rel c d.Vol x) 0 _ e0 (.inr ⟨rfl,rfl,PH h hx ⟨ep.2,ep.1⟩⟩)]
    rfl
  . rw[if_neg e2]
    have e0:rS F c d=some (1,c.Seq,c.Snaps,c.Chunks,c.Exps,c.Vols):=by
      unfold rS
      rw[if_neg (by simp[k]),if_neg (by simp[k]),if_neg (by simp[k]),if_neg (by simp[k]),if_pos (by simp[k]),e1]
      simp only[bind_some]
      rw[if_pos (by simp[e2])]
      rfl
    rw[go bY 1 _ e0 (.inl ⟨rfl,by decide⟩)]
    rfl
theorem XF {F:Nat} {d:aV} {b:Bool} (hF:1000<=F) (hn:d.Items.length<=64):aR (λs=>rR F d s.1 s.2) F (b,0)=some (.brk (b && !(d.Items.any λi=>decide (i.Kind < 1) || decide (3 < i.Kind)),(d.Items.length:Int))):=by
 have:=iT (body:=λs:Bool×Int=>rR F d s.1 s.2) (s0:=(b,(0:Int))) (n:=d.Items.length) (F:=F) (λk:Nat=>(b && (d.Items.take k).all λi=>decide (1<=i.Kind) && decide (i.Kind<=3),(k:Int))) (by omega) (by simp) (λk hk=>by
  have hx:d.Items[k]? =some d.Items[k]:=List.getElem?_eq_getElem hk
  unfold rR
  simp only
  rw[iG (by omega),List.take_succ_eq_append_getElem hk]
  simp only[aX,hx,bind_some,ofNat_lt,hk,decide_true,if_true,List.all_append,all_cons,all_nil,Bool.and_true]
  rw[<- Bool.and_assoc]
  cases (b && (d.Items.take k).all λi=>decide (1<=i.Kind) && decide (i.Kind<=3)) with
  | false=>simp[aG]
  | true=>by_cases h1:1<=(d.Items[k]).Kind<;>simp[h1,aG]) (by unfold rR; simp)
 rw[this,take_length]
 congr 4
 rw[List.all_eq_not_any_not]
 congr 2
 funext x
 by_cases h1:1<=x.Kind<;>by_cases h2:x.Kind<=3<;>simp[h1,h2]<;>omega
theorem XG {F:Nat} {c:aA} {d:aV} {x:aQ} {e:aA} (hF:1000<=F) (hS:Sm e) (hv:Lv e) (hn:d.Items.length<=64) (hV:(c.Vols.set d.Vol.toNat { x with State:=2}).set d.Vol.toNat { ({ x with State:=2}:aQ) with Files:=wrap .i64 (x.Files+1)}=e.Vols)
    (hno:∀i∈d.Items,i.Kind=3->e.Snaps.any (λs=>s.Seq==i.Of)=false):
    aR (λs=>m7 F c d x e.Seq e.Exps s.1 s.2.1 s.2.2) F (e.Snaps,e.Chunks,0)=some (.brk (e.Snaps,e.Chunks,(d.Items.length:Int))):=by
  refine iT (λk:Nat=>(e.Snaps,e.Chunks,(k:Int))) (by omega) rfl (λk hk=> ?_) (by unfold m7; simp)
  have hx:d.Items[k]? =some d.Items[k]:=List.getElem?_eq_getElem hk
  have hm:=getElem_mem hk
  generalize d.Items[k]=i at hx hm
  unfold m7
  simp only
  rw[iG (by omega)]
  simp only[aX,hx,bind_some,ofNat_lt,hk,decide_true,if_true,hV]
  rw[show CZ F { Seq:=e.Seq,Snaps:=e.Snaps,Chunks:=e.Chunks,Exps:=e.Exps,Vols:=e.Vols} i.Of=_ from XC hF hS hv]
  by_cases k3:i.Kind=3
  . rw[if_pos (by simp[k3]),hno i hm k3]
    simp[aG]
  . rw[if_neg (by simpa using k3)]
    rfl
theorem SV {F:Nat} {c:aA} {d:aV} {x:aQ} {q:Int} {ex:List aT} {sn:List aH} {l:List aB} (hF:1000<=F) (hr:uR l) (hl:l.length<=400) (hn:d.Items.length<=64):
    aR (λs=>nK F c d x q ex sn s.1 s.2) F (l,0)=some (.brk (l.map (dQ 0 d.Items),(d.Items.length:Int))):=by
  have:=iT (body:=λs:List aB×Int=>nK F c d x q ex sn s.1 s.2) (s0:=(l,(0:Int))) (n:=d.Items.length) (F:=F) (λk:Nat=>(l.map (dQ 0 (d.Items.take k)),(k:Int))) (by omega) (by rw[show l.map (dQ 0 (d.Items.take 0))=l from kH λy _=>rfl]; rfl) (λk hk=>by
    have hx:d.Items[k]? =some d.Items[k]:=List.getElem?_eq_getElem hk
    have ht:d.Items.take (k+1)=d.Items.take k++ [d.Items[k]]:=List.take_succ_eq_append_getElem hk
    have hR:=xA (uN 0 (d.Items.take k)) hr
    have hL:(l.map (dQ 0 (d.Items.take k))).length<=400:=by simpa using hl
    have hM:l.map (dQ 0 (d.Items.take (k+1)))=(l.map (dQ 0 (d.Items.take k))).map (qS 0 d.Items[k]):=by
      rw[ht,map_map]
      refine List.map_congr_left λy _=> ?_
      unfold dQ
      rw[foldl_append]
      rfl
    rw[hM]
    generalize l.map (dQ 0 (d.Items.take k))=m at hR hL
    generalize d.Items[k]=i at hx
    unfold nK
    simp only
    rw[iG (by omega)]
    simp only[aX,hx,bind_some,ofNat_lt,hk,decide_true,if_true]
    have e88:∀c':aA,c'.Chunks=m->LI F c' i.Id=some (rO m λy=>decide (y.Id=i.Id)):=λc' h=>by rw[p88 hF (by rw[h]; exact hL),h]
    rw[e88 _ rfl]
    by_cases k1:i.Kind=1
    . rw[if_pos (by simp[k1])]
      cases hh:m.any λy=>decide (y.Id=i.Id) with
      | false=>
        rw[mN hh,kH λy hy=>by
          have:=any_eq_false.1 hh y hy
          unfold qS
          rw[if_neg λh=>this (decide_eq_true h.2.2)]]
        simp[aG]
      | true=>
        obtain⟨p,y,h1,h2,h3,h4⟩:=kK hh
        have h3:y.Id=i.Id:=by simpa using h3
        have hpl:=(List.getElem?_eq_some_iff.1 h2).1
        rw[h1]
        simp only[bind_some]
        rw[if_pos (by simp)]
        simp only[aX,h2,bind_some,toNat_natCast]
        rw[getElem?_set_self hpl]
        simp only[bind_some,set_set,aG]
        have e9:m.set p { y with Staged:=false,Data:=[]}=m.map (qS 0 i):=by
          rw[o7 (λz:aB=>z.Id=i.Id) (λz=> { z with Staged:=false,Data:=[]}) h2 h3 (λz hz e=>by
            have:=h4 z hz
            simp[e] at this) (λz hz e=>by
            obtain⟨j,hj,rfl⟩:=getElem_of_mem hz
            simp only[length_drop] at hj
            rw[getElem_drop] at e
            have:=hR.2 p (p+1+j) _ _ h2 (List.getElem?_eq_getElem (by omega)) (by omega)
            rw[e,h3] at this; omega)]
          refine List.map_congr_left λz _=> ?_
          unfold qS
          simp only[k1,true_and]
        rw[e9]
    . rw[if_neg (by simpa using k1),kH λy _=>by unfold qS; rw[if_neg (by omega)]]
      rfl) (by unfold nK; simp)
  rw[this,take_length]
theorem BG {p:Int} {l:List aE} {m:List aB} (h:p≠0\/∀i∈l,i.Kind≠1):m.map (dQ p l)=m:=kH λy _=>by
 unfold dQ
 induction l generalizing y with
 | nil=>rfl
 | cons i l ih=>
  rw[foldl_cons,show qS p i y=y from if_neg λhh=>by
   rcases h with h | h
   ·exact h hh.1
   ·exact h i mem_cons_self hh.2.1]
  exact ih (h.imp_right λh j hj=>h j (mem_cons_of_mem _ hj)) y ‹_›
theorem KW {F:Nat} {c:aA} {d:aV} {x:aQ} (hF:1000<=F) (h:Sm c) (hg:Gd c) (hd:IX d) (hm:Mk c d) (k:d.Kind=3) (hx:c.Vols[d.Vol.toNat]? =some x):
    FE F c d=some (if jR x d=true then (if d.Items.all (jY c)then (if gJ (jI c d x)then (jI c d x,0) else (bY,1)) else (bY,8)) else (bY,1)):=by
  have go:∀(e:aA) (n:Int) (r),rS F c d=some r->_->_:=λe n r h1=>zK (e:=e) (n:=n) hF h hg hd (by omega) h1
  have hv:=hm.v
  have hn:=hd.it
  have hw:=hm.wd hg hd
  have gv:=hd.vol
  have hxb:=hg.v x (List.mem_of_getElem? hx)
  unfold mE fB at hxb
  simp only[and_eq_true,or_eq_true,decide_eq_true_eq,beq_iff_eq] at hxb
  have gf:0<=x.Files/\x.Files<=65535:=by omega
  have gF:gI (x.Files+1):=⟨by omega,by omega⟩
  have e1:AF F { Seq:=c.Seq,Snaps:=c.Snaps,Chunks:=c.Chunks,Exps:=c.Exps,Vols:=c.Vols} d.Vol 1 2=_:=XB (a:=1) (b:=2) hv.1 hx
  have l5:=λb=>XF (b:=b) hF hn
  have hW:=I4 h hg hx
  have pre:∀(Q:Int×Int×List aH×List aB×List aT×List aQ->Prop),
      (jR x d=false->∀a b e f g,Q (1,a,b,e,f,g))->(jR x d=true->T ((ix c.Vols d.Vol).bind λx14318=>after (aR (λs=>qF F c d x14318 s.1 s.2.1 s.2.2.1 s.2.2.2.1 s.2.2.2.2) F (c.Seq,c.Snaps,c.Chunks,c.Exps,0)) λ⟨r14470,r14471,r14472,r14473,r14474⟩=>after (aR (λs=>m7 F c d x14318 r14470 r14473 s.1 s.2.1 s.2.2) F (r14471,r14472,0)) λ⟨r14611,r14612,r14613⟩=>after (if ((({ ({ x14318 with State:=2}:aQ) with Files:=wrap .i64 (x14318.Files+1)}:aQ).Pool)==0)then (after (aR (λs=>nK F c d x14318 r14470 r14473 r14611 s.1 s.2) F (r14612,0)) λ⟨r15156,r15157⟩=>some (.brk r15156)) else some (.brk r14612):Option (Lp ((List aB)) (Lp (Int×(List aH)×(List aB)×(List aT)×(List aQ)) (Lp (Int×(List aH)×(List aB)×(List aT)×(List aQ)) (Lp (Int×(List aH)×(List aB)×(List aT)×(List aQ)) (Int×Int×(List aH)×(List aB)×(List aT)×(List aQ))))))) λj14888=>some (.brk (r14470,r14611,j14888,r14473,(c.Vols.set d.Vol.toNat ({ x14318 with State:=2})).set d.Vol.toNat ({ ({ x14318 with State:=2}:aQ) with Files:=wrap .i64 (x14318.Files+1)})))) (λy=>(∃r,y= .ret (.ret (.ret r))/\Q r)\/∃s,y= .brk s/\Q (0,s)))->T (rS F c d) Q:=λQ q1 q2=>by
    unfold rS
    rw[if_neg (by simp[k]),if_neg (by simp[k]),if_pos (by simp[k]),e1]
    simp only[bind_some]
    have hcond:∀(ρ:Type) (kk:Bool->Option ρ),(after (if (x.State==1 || x.State==2)then (if (decide (1<=(d.Items.length:Int)))then (some (.brk (decide ((d.Items.length:Int)<=64)))) else some (.brk false)) else some (.brk false):Option (Lp (Bool) ρ)) kk)=kk (!(x.State==3) && !d.Items.isEmpty):=λρ kk=>by
      by_cases s3:x.State=3
      . rw[if_neg (by simp[s3])]
        simp[s3,aG]
      . rw[if_pos (by simp; omega)]
        by_cases em:d.Items= []
        . simp[em,aG]
        . have:=List.length_pos_iff.2 em
          rw[if_pos (decide_eq_true (by omega))]
          have e64:decide ((d.Items.length:Int)<=64)=true:=decide_eq_true (by omega)
          rw[e64]
          have em2:d.Items.isEmpty=false:=by simpa using em
          have s32:(x.State==3)=false:=by simpa using s3
          rw[s32,em2]
          rfl
    rw[hcond,l5]
    simp only[aG]
    have hwc:(!(x.State==3) && !d.Items.isEmpty && !(d.Items.any λi=>decide (i.Kind < 1) || decide (3 < i.Kind)))=jR x d:=rfl
    rw[hwc]
    cases hc:jR x d with
    | false=>
      rw[if_pos (by simp)]
      exact⟨_,rfl,q1 hc _ _ _ _ _⟩
    | true=>
      rw[if_neg (by simp)]
      obtain⟨y,hy,hq⟩:=q2 hc
      rw[hy]
      rcases hq with⟨r,rfl,hr⟩ | ⟨s,rfl,hs⟩
      . exact⟨_,rfl,hr⟩
      . exact⟨_,rfl,hs⟩
  have main:T (rS F c d) λr=>if jR x d=true then (if d.Items.all (jY c)then r=(0,(jI c d x).Seq,(jI c d x).Snaps,(jI c d x).Chunks,(jI c d x).Exps,(jI c d x).Vols) else r.1=8) else r.1=1:=by
    refine pre _ (λhc a b e f g=>by rw[hc]; simp) λhc=> ?_
    rw[hc]
    simp only[if_true]
    have hI:∀i∈d.Items,It i:=λi hi=>by
      obtain⟨a1,a2,a3,a4,a5⟩:=hw.it i hi
      unfold jR at hc
      simp only[and_eq_true,not_eq_true',any_eq_false,or_eq_true,decide_eq_true_eq,not_or,not_lt] at hc
      exact⟨a1,a2,hc.2 i hi,a3,a4,a5⟩
    refine .bindEq (by rw[oQ _ hv.1,hx]) ?_
    have wF:wrap .i64 (x.Files+1)=x.Files+1:=wr (by omega) (by omega)
    have hVw:∀m:List aE,(c.Vols.set d.Vol.toNat { x with State:=2}).set d.Vol.toNat { ({ x with State:=2}:aQ) with Files:=x.Files+1}=(gX d.Vol (x.Files+1) (ws c d.Vol x) m).Vols:=λm=>by
      rw[FJ,set_set]; rfl
    have hWi:∀n,Wm (200+(d.Items.take n).length) (gX d.Vol (x.Files+1) (ws c d.Vol x) (d.Items.take n)):=λn=>by
      rw[qN]
      exact vU gv gF hW λj hj=>hI j (mem_of_mem_take hj)
    have key:=zB (body:=λs:Int×List aH×List aB×List aT×Int=>qF F c d x s.1 s.2.1 s.2.2.1 s.2.2.2.1 s.2.2.2.2) (n:=d.Items.length)
      (λn=>((gX d.Vol (x.Files+1) (ws c d.Vol x) (d.Items.take n)).Seq,(gX d.Vol (x.Files+1) (ws c d.Vol x) (d.Items.take n)).Snaps,(gX d.Vol (x.Files+1) (ws c d.Vol x) (d.Items.take n)).Chunks,(gX d.Vol (x.Files+1) (ws c d.Vol x) (d.Items.take n)).Exps,(n:Int)))
      (λn=>(d.Items[n]?).any (jY c)) (λy=>∃r,y= .ret (.ret (.ret r))/\r.1=8)
      (λn hn' hp=>by
        have hi:d.Items[n]? =some d.Items[n]:=List.getElem?_eq_getElem hn'
        have hmm:=getElem_mem hn'
        have hWn:=hWi n
        rw[length_take] at hWn
        have h156:=aDE hF hWn (by omega) (hI _ hmm) (PK hg hx hm.un hi)
        rw[FK] at h156
        rw[hi] at hp
        rw[show jY (ws c d.Vol x) d.Items[n]=true from hp,if_pos rfl] at h156
        rw[List.take_succ_eq_append_getElem hn',kX]
        generalize d.Items[n]=i at hi h156
        have hVn:=hVw (d.Items.take n)
        generalize gX d.Vol (x.Files+1) (ws c d.Vol x) (d.Items.take n)=e at h156 hVn
        unfold qF
        simp only
        rw[iG (by omega)]
        simp only[aX,hi,bind_some,ofNat_lt,hn',decide_true,if_true,wF,hVn]
        rw[show HI F { Seq:=e.Seq,Snaps:=e.Snaps,Chunks:=e.Chunks,Exps:=e.Exps,Vols:=e.Vols} i { Vol:=d.Vol,File:=x.Files+1,Off:=i.Off,Len:=i.Len}=_ from h156]
        rfl)
      (λn hn' hp=>by
        have hi:d.Items[n]? =some d.Items[n]:=List.getElem?_eq_getElem hn'
        have hmm:=getElem_mem hn'
        have hWn:=hWi n
        rw[length_take] at hWn
        have h156:=aDE hF hWn (by omega) (hI _ hmm) (PK hg hx hm.un hi)
        rw[FK] at h156
        rw[hi] at hp
        rw[show jY (ws c d.Vol x) d.Items[n]=false from hp,if_neg (by decide)] at h156
        generalize d.Items[n]=i at hi h156
        have hVn:=hVw (d.Items.take n)
        generalize gX d.Vol (x.Files+1) (ws c d.Vol x) (d.Items.take n)=e at h156 hVn
        refine⟨.ret (.ret (.ret (8,e.Seq,e.Snaps,e.Chunks,e.Exps,e.Vols))),⟨_,rfl,rfl⟩, ?_⟩
        unfold qF
        simp only
        simp only[aX,hi,bind_some,ofNat_lt,hn',decide_true,if_true,wF,hVn]
        rw[show HI F { Seq:=e.Seq,Snaps:=e.Snaps,Chunks:=e.Chunks,Exps:=e.Exps,Vols:=e.Vols} i { Vol:=d.Vol,File:=x.Files+1,Off:=i.Off,Len:=i.Len}=_ from h156]
        rfl)
      (by unfold qF; simp) d.Items.length 0 F (by omega) (by omega)
    have st0:(c.Seq,c.Snaps,c.Chunks,c.Exps,(0:Int))=((gX d.Vol (x.Files+1) (ws c d.Vol x) (d.Items.take 0)).Seq,(gX d.Vol (x.Files+1) (ws c d.Vol x) (d.Items.take 0)).Snaps,(gX d.Vol (x.Files+1) (ws c d.Vol x) (d.Items.take 0)).Chunks,(gX d.Vol (x.Files+1) (ws c d.Vol x) (d.Items.take 0)).Exps,((0:Nat):Int)):=rfl
    rw[st0]
    rcases key with⟨k1,k2⟩ | ⟨⟨j, -,k1,k2⟩,r,⟨r',rfl,k3⟩,k4⟩
    . have hall:d.Items.all (jY c)=true:=all_eq_true.2 λi hi=>by
        obtain⟨j,hj,rfl⟩:=getElem_of_mem hi
        have:=k1 j (zero_le _) hj
        rw[List.getElem?_eq_getElem hj] at this
        exact this
      rw[k2,hall]
      simp only[aG,take_length,if_true]
      have hWe:=hWi d.Items.length
      rw[take_length] at hWe
      have hV:=hVw d.Items
      have hLv:Lv (gX d.Vol (x.Files+1) (ws c d.Vol x) d.Items):=HR (c:=ws c d.Vol x) (by have h1:=PM hg; exact h1)
      have hsq:=λq=>PN (v:=d.Vol) (f:=x.Files+1) (c:=ws c d.Vol x) (l:=d.Items) (q:=q)
      have hww:=nL x.Pool d.Vol (x.Files+1) (ws c d.Vol x) d.Items
      have hw1:iU c d x=w9 x.Pool d.Vol (x.Files+1) (ws c d.Vol x) d.Items:=rfl
      rw[hww] at hw1
      have hS:=hWe.sm (by omega)
      have hWn:=hWe.cn
      have hWr:=hWe.r
      rw[wF]
      generalize gX d.Vol (x.Files+1) (ws c d.Vol x) d.Items=e at hWe hV hLv hsq hw1 hS hWn hWr
      suffices hfin:∃s l,uR l/\l.length<=400/\aR (λs=>m7 F c d x e.Seq e.Exps s.1 s.2.1 s.2.2) F (e.Snaps,e.Chunks,0)=some (.brk (s,l,(d.Items.length:Int)))/\((0:Int),e.Seq,s,l.map (dQ x.Pool d.Items),e.Exps,e.Vols)=(0,(jI c d x).Seq,(jI c d x).Snaps,(jI c d x).Chunks,(jI c d x).Exps,(jI c d x).Vols) by
        obtain⟨s,l,h1,h2,h3,h4⟩:=hfin
        rw[h3]
        simp only[aG]
        by_cases p0:x.Pool=0
        . rw[if_pos (by simp[p0]),SV hF h1 h2 hn]
          simp only[aG]
          refine⟨_,rfl,.inr ⟨_,rfl, ?_⟩⟩
          rw[<- h4,hV,p0]
        . rw[if_neg (by simpa using p0)]
          simp only[aG]
          refine⟨_,rfl,.inr ⟨_,rfl, ?_⟩⟩
          rw[<- h4,hV,BG (.inl p0)]
      by_cases hno:∀i∈d.Items,i.Kind=3->c.Snaps.any (λs=>s.Seq==i.Of)=false
      . refine⟨e.Snaps,e.Chunks,hWr,hWn,XG hF hS hLv hn (by rw[wF]; exact hV) λi hi k3=>by rw[hsq]; exact hno i hi k3, ?_⟩
        have hng:∀s∈e.Snaps,jE d.Items s=false:=λs hs=>by
          unfold jE
          rw[any_eq_false]
          intro i hi
          by_cases k3:i.Kind=3
          . have:=hsq i.Of
            rw[show (ws c d.Vol x).Snaps.any (λs=>s.Seq==i.Of)=false from hno i hi k3] at this
            have:=any_eq_false.1 this s hs
            simpa [k3] using this
          . simp[k3]
        have e1:(iU c d x).Snaps=e.Snaps:=by rw[hw1]
        have e2:(rU c d x).Snaps=e.Snaps:=by
          show (iU c d x).Snaps.filter _=_
          rw[e1,filter_eq_self.2 λs hs=>by rw[hng s hs]; rfl]
        have e3:jI c d x= { e with Chunks:=e.Chunks.map (dQ x.Pool d.Items)}:=by
          unfold jI
          rw[if_neg (by rw[e1,e2]; omega)]
          unfold rU
          rw[filter_eq_self.2 λs hs=>by rw[e1] at hs; rw[hng s hs]; rfl,hw1]
        rw[e3]
      . have⟨i,hi,k3,ha⟩:∃i∈d.Items,i.Kind=3/\c.Snaps.any (λs=>s.Seq==i.Of)=true:=by
          by_cases hh:∃i∈d.Items,i.Kind=3/\c.Snaps.any (λs=>s.Seq==i.Of)=true
          . exact hh
          . refine absurd (λi hi k3=> ?_) hno
            cases hc:c.Snaps.any (λs=>s.Seq==i.Of) with
            | false=>rfl
            | true=>exact absurd ⟨i,hi,k3,hc⟩ hh
        have hone:d.Items= [i]:=by
          rcases hm.it with h | ⟨s,hs,e⟩
          . exfalso
            rcases(h.a i hi).w with⟨a,_⟩ | ⟨a,_⟩ | ⟨_,_,j,_,y,y1,y2,y3⟩
            . omega
            . omega
            . obtain⟨s,hs,e⟩:=any_eq_true.1 ha
              exact hg.ex y (List.mem_of_getElem? y1) s hs (by rw[y3]; simpa using e)
          . rw[e] at hi ⊢
            rw[mem_singleton.1 hi]
        have hae:e.Snaps.any (λs=>s.Seq==i.Of)=true:=by rw[hsq]; exact ha
        have hoff:∀m:List aB,m.map (dQ x.Pool d.Items)=m:=λm=>BG (.inr λj hj=>by
          rw[hone] at hj
          rw[mem_singleton.1 hj]; omega)
        have hD:=HO (n:=i.Of) hS
        have e1:iU c d x=e:=by rw[hw1,hoff]
        have hgn:∀s:aH,jE d.Items s=(s.Seq==i.Of):=λs=>by rw[hone]; simp[jE,k3]
        have e2:rU c d x=qV e i.Of:=by
          unfold rU qV
          rw[e1]
          rw[show (λs=> !jE d.Items s)=λs:aH=> !(s.Seq==i.Of) from funext λs=>by rw[hgn]]
        have hlt:(qV e i.Of).Snaps.length < e.Snaps.length:=by
          obtain⟨s,hs,e9⟩:=any_eq_true.1 hae
          rcases Nat.lt_or_ge (qV e i.Of).Snaps.length e.Snaps.length with w | w
          . exact w
          . have hl:=length_filter_le (λs:aH=> !(s.Seq==i.Of)) e.Snaps
            have w:e.Snaps.length<=(e.Snaps.filter λs=> !(s.Seq==i.Of)).length:=w
            have:=List.length_filter_eq_length_iff.1 (Nat.le_antisymm hl w) s hs
            simp[e9] at this
        have e3:jI c d x=CW e i.Of:=by
          unfold jI
          rw[e2,e1,if_pos hlt]
          rfl
        refine⟨(CW e i.Of).Snaps,(CW e i.Of).Chunks,qC.2 ⟨λy hy=> ?_, ?_⟩,hD.ch, ?_,by rw[e3,hoff]; rfl⟩
        . exact(hD.g.2.2.1 y hy).1
        . exact pairwise_map.2 (((qC.1 hWr).2.sublist filter_sublist).imp fun {a b} hab=>by rw[(jQ _ a).2.1,(jQ _ b).2.1]; exact hab)
        . have h154:=XC (q:=i.Of) hF hS hLv
          rw[hae,if_pos rfl] at h154
          rw[hone]
          have:=iT (body:=λs:List aH×List aB×Int=>m7 F c d x e.Seq e.Exps s.1 s.2.1 s.2.2) (s0:=(e.Snaps,e.Chunks,(0:Int))) (n:=1) (F:=F) (λk:Nat=>(if k=0 then e.Snaps else (CW e i.Of).Snaps,if k=0 then e.Chunks else (CW e i.Of).Chunks,(k:Int))) (by omega) rfl (λk hk=>by
            obtain rfl:k=0:=by omega
            unfold m7
            simp only
            rw[iG (by omega),hone]
            have h154':CZ F { Seq:=e.Seq,Snaps:=e.Snaps,Chunks:=e.Chunks,Exps:=e.Exps,Vols:=e.Vols} i.Of=some (true,(CW e i.Of).Snaps,(CW e i.Of).Chunks):=h154
            simp only[aX,List.getElem?_cons_zero,bind_some,wF,hV,if_true,k3,h154',beq_self_eq_true,aG,List.length_singleton]
            rfl) (by unfold m7; rw[hone]; simp)
          simpa using this
    . have hall:d.Items.all (jY c)=false:=by
        rw[List.all_eq_false]
        refine⟨d.Items[j],getElem_mem k1, ?_⟩
        rw[List.getElem?_eq_getElem k1] at k2
        simpa using k2
      rw[k4,hall]
      exact⟨_,rfl,.inl ⟨r',rfl,by simpa using k3⟩⟩
  obtain⟨r,hr,hq⟩:=main
  by_cases c1:jR x d=true
  . rw[if_pos c1] at hq ⊢
    by_cases c2:d.Items.all (jY c)=true
    . rw[if_pos c2] at hq ⊢
      rw[go (jI c d x) 0 r hr (.inr ⟨rfl,hq,DH h hg hw gv hx λi hi=>by
        unfold jR at c1
        simp only[and_eq_true,not_eq_true',any_eq_false,or_eq_true,decide_eq_true_eq,not_or,not_lt] at c1
        exact c1.2 i hi⟩)]
      rfl
    . rw[if_neg c2] at hq ⊢
      rw[go bY 8 r hr (.inl ⟨hq,by decide⟩)]
      rfl
  . rw[if_neg c1] at hq ⊢
    rw[go bY 1 r hr (.inl ⟨hq,by decide⟩)]
    rfl
theorem XH {F:Nat} {c:aA} {d:aV} (hF:1000<=F) (h:Sm c) (hg:Gd c) (k:d.Kind=0):FE F c d=some (bY,1):=by
 unfold FE
 rw[m19 hF h,kV.2 hg]
 simp only[bind_some,Bool.not_true,false_eq_true,if_false]
 rw[if_pos (by simp[k])]
 rfl
theorem XI {F:Nat} {c:aA} {d:aV} (hF:1000<=F) (h:Sm c) (hg:Gd c) (hd:IX d) (hm:Mk c d):
    ∃e n,FE F c d=some (e,n)/\((n≠0/\e=bY)\/(n=0/\Sm e/\Gd e/\YP c d e)):=by
  have hk:=hm.k
  have no:∀n:Int,n≠0->FE F c d=some (bY,n)->∃e n,FE F c d=some (e,n)/\((n≠0/\e=bY)\/(n=0/\Sm e/\Gd e/\YP c d e)):=λn hn e=>⟨_,_,e,.inl ⟨hn,rfl⟩⟩
  have yes:∀e,(gJ e=true->Sm e/\YP c d e)->FE F c d=some (if gJ e=true then (e,0) else (bY,1))->∃e n,FE F c d=some (e,n)/\((n≠0/\e=bY)\/(n=0/\Sm e/\Gd e/\YP c d e)):=λe he h2=>by
    by_cases hge:gJ e=true
    . rw[if_pos hge] at h2
      exact⟨_,_,h2,.inr ⟨rfl,(he hge).1,kV.1 hge,(he hge).2⟩⟩
    . rw[if_neg hge] at h2
      exact no 1 (by decide) h2
  obtain⟨x,hx⟩:=W8 hm.v
  by_cases k0:d.Kind=0
  . exact no 1 (by decide) (XH hF h hg k0)
  by_cases k1:d.Kind=1
  . have:=SS hF h hg hd k1
    by_cases c1:d.Snap.Seq=c.Seq/\o6 d.Chunks=true
    . rw[if_pos c1] at this
      cases c2:c.Snaps.any (λs=>s.Man.Name.toList==d.Snap.Man.Name.toList) with
      | true=>rw[c2,if_pos rfl] at this; exact no 9 (by decide) this
      | false=>rw[c2,if_neg (by decide)] at this; exact yes _ (λ_=>⟨UG h hg hd,.add k1 c1 c2 rfl⟩) this
    . rw[if_neg c1] at this; exact no 1 (by decide) this
  by_cases k2:d.Kind=2
  . have:=PO hF h hg hd k2
    by_cases c1:c.Snaps.any (λs=>s.Seq==d.Seq)=true
    . rw[if_pos c1] at this; exact yes _ (λ_=>⟨HO h,.drop k2 c1 rfl⟩) this
    . rw[if_neg c1] at this; exact no 8 (by decide) this
  by_cases k3:d.Kind=3
  . have:=KW hF h hg hd hm k3 hx
    by_cases c1:jR x d=true
    . rw[if_pos c1] at this
      by_cases c2:d.Items.all (jY c)=true
      . rw[if_pos c2] at this
        exact yes _ (λ_=>⟨DH h hg (hm.wd hg hd) hd.vol hx λi hi=>by
          unfold jR at c1
          simp only[and_eq_true,not_eq_true',any_eq_false,or_eq_true,decide_eq_true_eq,not_or,not_lt] at c1
          exact c1.2 i hi,.wrote k3 x hx c1 c2 rfl⟩) this
      . rw[if_neg c2] at this; exact no 8 (by decide) this
    . rw[if_neg c1] at this; exact no 1 (by decide) this
  by_cases k4:d.Kind=4
  . have:=ST hF h hg hd k4 hm.v.1 hx
    by_cases c1:x.State=2
    . rw[if_pos c1] at this; exact yes _ (λ_=>⟨PG h hx,.ret k4 x hx c1 rfl⟩) this
    . rw[if_neg c1] at this; exact no 1 (by decide) this
  . have k5:d.Kind=5:=by omega
    have ep:=PI hg hx
    have:=SU hF h hg hd k5 hm.v.1 hx
    by_cases c1:x.State=3
    . rw[if_pos c1] at this; exact yes _ (λ_=>⟨PH h hx ⟨ep.2,ep.1⟩,.rel k5 x hx c1 rfl⟩) this
    . rw[if_neg c1] at this; exact no 1 (by decide) this
structure Bd3 (a b n:Nat) (c:aA):Prop where
 k:∀x∈c.Chunks,x.Locs.length<=a
 s:∀x∈c.Snaps,x.Locs.length<=a
 e:∀x∈c.Exps,x.Locs.length<=a
 f:∀x∈c.Vols,x.Files<=b
 q:c.Seq<=n
abbrev Bd (n:Nat) (c:aA):Prop:=Bd3 n n n c
theorem Bd.mono {n m:Nat} {c:aA} (h:Bd n c) (hm:n<=m):Bd m c:=⟨λx hx=>Nat.le_trans (h.k x hx) hm,λx hx=>Nat.le_trans (h.s x hx) hm,λx hx=>Nat.le_trans (h.e x hx) hm,λx hx=>by have:=h.f x hx; omega,by have:=h.q; omega⟩
theorem FL {v f:Int} {c:aA}:∀ {l:List aE},l.Pairwise Un->∀y∈(gX v f c l).Chunks,∃z∈c.Chunks,y.Id=z.Id/\y.Staged=z.Staged/\y.Data=z.Data/\(y.Locs=z.Locs\/∃i∈l,i.Kind=1/\i.Id=z.Id/\y.Locs=fR z.Locs (jV v f i)):=fun {l}=>kY (P:=λl=>l.Pairwise Un->∀y∈(gX v f c l).Chunks,∃z∈c.Chunks,y.Id=z.Id/\y.Staged=z.Staged/\y.Data=z.Data/\(y.Locs=z.Locs\/∃i∈l,i.Kind=1/\i.Id=z.Id/\y.Locs=fR z.Locs (jV v f i)))
 (λ_ y hy=>⟨y,hy,rfl,rfl,rfl,.inl rfl⟩) (λl i ih hu y hy=>by
  rw[kX] at hy
  obtain⟨y',hy',rfl⟩:=mem_map.1 hy
  obtain⟨hu1, -,hu2⟩:=pairwise_append.1 hu
  obtain⟨z,hz,e1,e2,e3,e4⟩:=ih hu1 y' hy'
  by_cases k:i.Kind=1/\y'.Id=i.Id
  ·rw[show pK i (jV v f i) y'= { y' with Locs:=fR y'.Locs (jV v f i)} from if_pos k]
   refine⟨z,hz,e1,e2,e3,.inr ⟨i,by simp,k.1,by rw[<- k.2,e1], ?_⟩⟩
   rcases e4 with e4 | ⟨j,hj,j1,j2,j3⟩
   ·show fR y'.Locs _=_
    rw[e4]
   ·exact absurd ⟨by omega,λ_=>by rw[j2,<- e1,k.2],λh=>absurd j1 h⟩ (hu2 j hj i mem_cons_self)
  ·rw[show pK i (jV v f i) y'=y' from if_neg k]
   exact⟨z,hz,e1,e2,e3,e4.imp_right λ⟨j,hj,h⟩=>⟨j,mem_append_left _ hj,h⟩⟩) l
theorem I9 {v f:Int} {c:aA}:∀ {l:List aE},l.Pairwise Un->∀y∈(gX v f c l).Snaps,∃z∈c.Snaps,y.Seq=z.Seq/\y.Man=z.Man/\(y.Locs=z.Locs\/∃i∈l,i.Kind=2/\i.Seq=z.Seq/\y.Locs=fR z.Locs (jV v f i)):=fun {l}=>kY (P:=λl=>l.Pairwise Un->∀y∈(gX v f c l).Snaps,∃z∈c.Snaps,y.Seq=z.Seq/\y.Man=z.Man/\(y.Locs=z.Locs\/∃i∈l,i.Kind=2/\i.Seq=z.Seq/\y.Locs=fR z.Locs (jV v f i)))
 (λ_ y hy=>⟨y,hy,rfl,rfl,.inl rfl⟩) (λl i ih hu y hy=>by
  rw[kX] at hy
  obtain⟨y',hy',rfl⟩:=mem_map.1 hy
  obtain⟨hu1, -,hu2⟩:=pairwise_append.1 hu
  obtain⟨z,hz,e1,e2,e4⟩:=ih hu1 y' hy'
  by_cases k:i.Kind=2/\y'.Seq=i.Seq
  ·rw[show w7 i (jV v f i) y'= { y' with Locs:=fR y'.Locs (jV v f i)} from if_pos k]
   refine⟨z,hz,e1,e2,.inr ⟨i,by simp,k.1,by rw[<- k.2,e1], ?_⟩⟩
   rcases e4 with e4 | ⟨j,hj,j1,j2,j3⟩
   ·show fR y'.Locs _=_
    rw[e4]
   ·exact absurd ⟨by omega,λh=>absurd h (by omega),λ_=>by rw[j2,<- e1,k.2]⟩ (hu2 j hj i mem_cons_self)
  ·rw[show w7 i (jV v f i) y'=y' from if_neg k]
   exact⟨z,hz,e1,e2,e4.imp_right λ⟨j,hj,h⟩=>⟨j,mem_append_left _ hj,h⟩⟩) l
theorem BH {v f:Int} {c:aA}:∀ {l:List aE},l.Pairwise Un->∀y∈(gX v f c l).Exps,(∃z∈c.Exps,y.Seq=z.Seq/\y.Of=z.Of/\(y.Locs=z.Locs\/∃i∈l,i.Kind=3/\i.Seq=z.Seq/\y.Locs=fR z.Locs (jV v f i)))\/∃i∈l,i.Kind=3/\y= { Seq:=i.Seq,Of:=i.Of,Locs:=[jV v f i]}:=fun {l}=>kY (P:=λl=>l.Pairwise Un->∀y∈(gX v f c l).Exps,(∃z∈c.Exps,y.Seq=z.Seq/\y.Of=z.Of/\(y.Locs=z.Locs\/∃i∈l,i.Kind=3/\i.Seq=z.Seq/\y.Locs=fR z.Locs (jV v f i)))\/∃i∈l,i.Kind=3/\y= { Seq:=i.Seq,Of:=i.Of,Locs:=[jV v f i]})
 (λ_ y hy=>.inl ⟨y,hy,rfl,rfl,.inl rfl⟩) (λl i ih hu y hy=>by
  rw[kX] at hy
  obtain⟨hu1, -,hu2⟩:=pairwise_append.1 hu
  have old:∀y'∈(gX v f c l).Exps,(∃z∈c.Exps,y'.Seq=z.Seq/\y'.Of=z.Of/\(y'.Locs=z.Locs\/∃j∈l++ [i],j.Kind=3/\j.Seq=z.Seq/\y'.Locs=fR z.Locs (jV v f j)))\/∃j∈l++ [i],j.Kind=3/\y'= { Seq:=j.Seq,Of:=j.Of,Locs:=[jV v f j]}:=λy' hy'=>by
   rcases ih hu1 y' hy' with⟨z,hz,e1,e2,e4⟩ | ⟨j,hj,h⟩
   ·exact .inl ⟨z,hz,e1,e2,e4.imp_right λ⟨j,hj,h⟩=>⟨j,mem_append_left _ hj,h⟩⟩
   ·exact .inr ⟨j,mem_append_left _ hj,h⟩
  have hy:y∈(if i.Kind=3 then mI (gX v f c l).Exps i (jV v f i) else (gX v f c l).Exps):=hy
  split at hy
  ·rename_i k3
   unfold mI at hy
   rcases mem_append.1 hy with h | h
   ·exact old y (mem_filter.1 h).1
   ·rcases mem_cons.1 h with rfl | h
    ·have hs:=zD (gX v f c l).Exps i
     rcases I3 (gX v f c l).Exps i with ht | ht
     ·rcases ih hu1 _ ht with⟨z,hz,e1,e2,e4⟩ | ⟨j,hj,j1,j3⟩
      ·refine .inl ⟨z,hz,e1,e2,.inr ⟨i,by simp,k3,by omega, ?_⟩⟩
       rcases e4 with e4 | ⟨j,hj,j1,j2,j3⟩
       ·show fR (vT _ i).Locs _=_
        rw[e4]
       ·exact absurd ⟨by omega,λh=>absurd h (by omega),λ_=>by omega⟩ (hu2 j hj i mem_cons_self)
      ·rw[j3] at hs
       exact absurd ⟨by omega,λh=>absurd h (by omega),λ_=>hs⟩ (hu2 j hj i mem_cons_self)
     ·refine .inr ⟨i,by simp,k3, ?_⟩
      rw[ht]
      simp[fR]
    ·exact old y (mem_filter.1 h).1
  ·exact old y hy) l
theorem JA {c:aA} {d:aV} {x:aQ}:∀y∈(jI c d x).Chunks,∃z∈(gX d.Vol (x.Files+1) (ws c d.Vol x) d.Items).Chunks,y.Id=z.Id/\y.Locs=z.Locs:=by
 have h1:∀y∈(iU c d x).Chunks,∃z∈(gX d.Vol (x.Files+1) (ws c d.Vol x) d.Items).Chunks,y.Id=z.Id/\y.Locs=z.Locs:=λy hy=>by
  unfold iU at hy
  rw[nL] at hy
  obtain⟨z,hz,rfl⟩:=mem_map.1 hy
  refine⟨z,hz,uN _ _ z, ?_⟩
  unfold dQ
  generalize d.Items=l
  clear hy hz
  induction l generalizing z with
  | nil=>rfl
  | cons i l ih=>
   rw[foldl_cons,ih]
   unfold qS
   split<;>rfl
 intro y hy
 unfold jI at hy
 split at hy
 ·obtain⟨w,hw,rfl⟩:=mem_map.1 hy
  obtain⟨z,hz,e1,e2⟩:=h1 w (mem_filter.1 hw).1
  exact⟨z,hz,(jQ _ w).2.1.trans e1,(jQ _ w).1.trans e2⟩
 ·exact h1 y hy
theorem JC {c:aA} {d:aV} {x:aQ}:(jI c d x).Seq=(gX d.Vol (x.Files+1) (ws c d.Vol x) d.Items).Seq/\(jI c d x).Exps=(gX d.Vol (x.Files+1) (ws c d.Vol x) d.Items).Exps/\(jI c d x).Snaps=(gX d.Vol (x.Files+1) (ws c d.Vol x) d.Items).Snaps.filter λs=> !jE d.Items s:=by
 have e:iU c d x= { gX d.Vol (x.Files+1) (ws c d.Vol x) d.Items with Chunks:=(gX d.Vol (x.Files+1) (ws c d.Vol x) d.Items).Chunks.map (dQ x.Pool d.Items)}:=nL _ _ _ _ _
 have e1:(iU c d x).Seq=(gX d.Vol (x.Files+1) (ws c d.Vol x) d.Items).Seq:=by rw[e]
 have e2:(iU c d x).Exps=(gX d.Vol (x.Files+1) (ws c d.Vol x) d.Items).Exps:=by rw[e]
 have e3:(iU c d x).Snaps=(gX d.Vol (x.Files+1) (ws c d.Vol x) d.Items).Snaps:=by rw[e]
 rw[<- e1,<- e2,<- e3]
 unfold jI
 split<;>exact⟨rfl,rfl,rfl⟩
theorem PP {v f:Int} {q:Int}:∀ {l:List aE} {c:aA},c.Seq<=q->(∀i∈l,i.Kind=3->i.Seq+1<=q)->(gX v f c l).Seq<=q
  | [],_,h,_=>h
  | i :: l, c, h, hi => PP (l := l) (by
      show (if i.Kind=3 then max c.Seq (i.Seq+1) else c.Seq)<=q
      split
      . rename_i k; have:=hi i mem_cons_self k; omega
      . exact h) λj hj=>hi j (mem_cons_of_mem _ hj)
theorem XJ {n:Nat} {c:aA} {d:aV} {e:aA} (h:Bd n c) (G:Gd c) (hd:IX d) (hm:Mk c d) (hr:uR c.Chunks) (he:YP c d e):Bd (n+1) e:=by
 have hq:=h.q
 cases he with
 | add k q nn w=>
  subst w
  refine⟨lL (P:=λx=>x.Locs.length<=n+1) (λx hx=>le_succ_of_le (h.k x hx)) (λ_ _=>by simp) λx hx _ _=>hx,λs hs=> ?_,λx hx=>le_succ_of_le (h.e x hx),λx hx=>by have:=h.f x hx; omega,by show c.Seq+1<=_; omega⟩
  rcases mem_append.1 hs with h1 | h1
  ·exact le_succ_of_le (h.s s h1)
  ·rw[mem_singleton.1 h1]; simp
 | drop k q w=>
  subst w
  refine⟨λy hy=> ?_,λs hs=>le_succ_of_le (h.s s (mem_filter.1 hs).1),λx hx=>le_succ_of_le (h.e x hx),λx hx=>by have:=h.f x hx; omega,by show c.Seq<=_; omega⟩
  obtain⟨z,hz,rfl⟩:=mem_map.1 hy
  rw[(jQ _ z).1]
  exact le_succ_of_le (h.k z (mem_filter.1 hz).1)
 | ret k x hx q w=>
  subst w
  have lfl:∀(l:List aS),(lf d.Vol l).length<=l.length:=λl=>length_filter_le _ _
  refine⟨λy hy=> ?_,λy hy=> ?_,λy hy=> ?_,λy hy=> ?_,by show c.Seq<=_; omega⟩
  ·obtain⟨z,hz,rfl⟩:=mem_map.1 (mem_filter.1 hy).1
   exact Nat.le_trans (lfl _) (le_succ_of_le (h.k z hz))
  ·obtain⟨z,hz,rfl⟩:=mem_map.1 hy
   exact Nat.le_trans (lfl _) (le_succ_of_le (h.s z hz))
  ·obtain⟨z,hz,rfl⟩:=mem_map.1 (mem_filter.1 hy).1
   exact Nat.le_trans (lfl _) (le_succ_of_le (h.e z hz))
  ·rcases mem_or_eq_of_mem_set hy with h1 | rfl
   ·have:=h.f y h1; omega
   ·simp only; omega
 | rel k x hx q w=>
  subst w
  refine⟨λy hy=>le_succ_of_le (h.k y hy),λy hy=>le_succ_of_le (h.s y hy),λy hy=>le_succ_of_le (h.e y hy),λy hy=> ?_,by show c.Seq<=_; omega⟩
  rcases mem_or_eq_of_mem_set hy with h1 | rfl
  ·have:=h.f y h1; omega
  ·have:=h.f x (List.mem_of_getElem? hx); simp only; omega
 | wrote k x hx q p w=>
  subst w
  have hu:=hm.un
  obtain⟨o1,o2,o3⟩:=JC (c:=c) (d:=d) (x:=x)
  have pl:∀(l:List aS) (a:aS),l.length<=n->(fR l a).length<=n+1:=λl a hl=>by rw[kD]; omega
  refine⟨λy hy=> ?_,λy hy=> ?_,λy hy=> ?_,λy hy=> ?_, ?_⟩
  ·obtain⟨w,hw, -,e⟩:=JA y hy
   obtain⟨z,hz, -, -, -,e2⟩:=FL hu w hw
   rw[e]
   have hz:=h.k z hz
   rcases e2 with e2 | ⟨i, -, -, -,e2⟩<;>rw[e2]
   ·omega
   ·exact pl _ _ hz
  ·rw[o3] at hy
   obtain⟨z,hz, -, -,e2⟩:=I9 hu y (mem_filter.1 hy).1
   have hz:=h.s z hz
   rcases e2 with e2 | ⟨i, -, -, -,e2⟩<;>rw[e2]
   ·omega
   ·exact pl _ _ hz
  ·rw[o2] at hy
   rcases BH hu y hy with⟨z,hz, -, -,e2⟩ | ⟨i, -, -,rfl⟩
   ·have hz:=h.e z hz
    rcases e2 with e2 | ⟨i, -, -, -,e2⟩<;>rw[e2]
    ·omega
    ·exact pl _ _ hz
   ·simp
  ·have e:(jI c d x).Vols=c.Vols.set d.Vol.toNat { x with State:=2,Files:=x.Files+1}:=by
    have:(iU c d x).Vols=c.Vols.set d.Vol.toNat { x with State:=2,Files:=x.Files+1}:=oF _ _ _ _ _
    unfold jI
    split<;>exact this
   rw[e] at hy
   rcases mem_or_eq_of_mem_set hy with h1 | rfl
   ·have:=h.f y h1; omega
   ·have:=h.f x (List.mem_of_getElem? hx); simp only; omega
  ·rw[o1]
   refine PP (by show c.Seq<=_; omega) λi hi k3=> ?_
   rcases hm.it with ht | ⟨s,hs,e⟩
   ·rcases(ht.a i hi).w with⟨a,_⟩ | ⟨a,_⟩ | ⟨_,_,j,_,y,y1,y2,y3⟩
    ·omega
    ·omega
    ·have:=(G.eq y (List.mem_of_getElem? y1)).1
     simp only[fB,and_eq_true,decide_eq_true_eq] at this
     omega
   ·rw[e] at hi
    rw[mem_singleton.1 hi]
    show c.Seq+1<=_
    omega
theorem XK (q:List Int):Bd 0 (mF q):=by
 refine⟨λx hx=> ?_,λx hx=> ?_,λx hx=> ?_,λx hx=> ?_, ?_⟩
 ·cases hx
 ·cases hx
 ·cases hx
 ·unfold mF at hx
  obtain⟨p,hp,rfl⟩:=mem_map.1 hx
  exact Int.le_refl _
 ·exact Int.le_refl _
structure Wok (n:Nat) (c:aA) (d:aV) (x:aQ):Prop where
 w:Wd d
 u:d.Items.Pairwise Un
 hx:c.Vols[d.Vol.toNat]? =some x
 v:0<=d.Vol
 g:gI d.Vol
 k:jR x d=true
 p:∀i∈d.Items,jY c i=true
 o:∀i∈d.Items,0<=i.Off/\i.Off<=16777215/\13<=i.Len/\i.Len<=8013
 e:∀i∈d.Items,i.Kind=3->0<=i.Of/\i.Of < i.Seq/\i.Seq<=n
theorem Wok.kd {n:Nat} {c:aA} {d:aV} {x:aQ} (h:Wok n c d x):∀i∈d.Items,1<=i.Kind/\i.Kind<=3:=λi hi=>by
 have c1:=h.k
 unfold jR at c1
 simp only[and_eq_true,not_eq_true',any_eq_false,or_eq_true,decide_eq_true_eq,not_or,not_lt] at c1
 exact c1.2 i hi
theorem JD {v f:Int} {c:aA}:∀l:List aE,∀i∈l,i.Kind=1->∀y∈(gX v f c l).Chunks,y.Id=i.Id->jV v f i∈y.Locs:=kY (λi hi=>by cases hi) λl j ih i hi k y hy e=>by
 rw[kX] at hy
 obtain⟨z,hz,rfl⟩:=mem_map.1 hy
 rw[qG] at e
 rcases mem_append.1 hi with h | h
 ·have:=ih i h k z hz e
  unfold pK
  split
  ·exact kC.2 (.inl this)
  ·exact this
 ·rw[mem_singleton.1 h] at e ⊢
  rw[mem_singleton.1 h] at k
  unfold pK
  rw[if_pos ⟨k,e⟩]
  exact kC.2 (.inr rfl)
theorem XL {vs:List aQ} {l:List aS} {a:aS} (h:Lk vs l) (hn:l.length < 200) (ha:tN vs a=true) (hw:∀y∈l,nk y a):Lk vs (fR l a):=by
 refine⟨by rw[kD]; omega,λy hy=> ?_, ?_⟩
 ·rcases kC.1 hy with h1 | rfl
  ·exact h.a y h1
  ·exact ha
 ·rw[wC h.o (by omega)]
  refine pairwise_append.2 ⟨h.o.sublist filter_sublist,List.pairwise_cons.2 ⟨λy hy=>(mem_filter.1 hy).2,h.o.sublist filter_sublist⟩,λy hy z hz=> ?_⟩
  obtain⟨h1,h2⟩:=mem_filter.1 hy
  have h2:jU y a=false:=by simpa using h2
  have hya:jU a y=true:=by
   have hk:=hw y h1
   unfold nk at hk
   have h3:¬jU y a=true:=by rw[h2]; decide
   rw[wU] at h3 ⊢
   omega
  rcases mem_cons.1 hz with rfl | hz
  ·exact hya
  ·exact yV y a z hya (mem_filter.1 hz).2
theorem XM {vs:List aQ} {y:aS} {v:Nat} {x:aQ} (h:tN vs y=true) (hx:vs[v]? =some x):tN (vs.set v { x with State:=2,Files:=x.Files+1}) y=true:=by
 have hl:=(List.getElem?_eq_some_iff.1 hx).1
 by_cases e:y.Vol.toNat=v
 ·subst e
  unfold tN at h ⊢
  rw[length_set,getElem?_set_self hl]
  rw[hx] at h
  simp only[and_eq_true,beq_iff_eq,fB,decide_eq_true_eq] at h ⊢
  exact⟨⟨⟨h.1.1.1,trivial,h.1.1.2.2.1,by omega⟩,h.1.2⟩,h.2⟩
 ·exact I6 h e
theorem Lk.up {vs:List aQ} {l:List aS} {v:Nat} {x:aQ} (h:Lk vs l) (hx:vs[v]? =some x):Lk (vs.set v { x with State:=2,Files:=x.Files+1}) l:=⟨h.n,λy hy=>XM (h.a y hy) hx,h.o⟩
theorem FM {b:Int}:∀ {l:List aT} {a:Int},l.Pairwise (λy x=>y.Seq < x.Seq)->(∀x∈l,a<=x.Seq/\x.Seq < b)->a<=b->(l.length:Int)<=b - a
 | [],a,_,_,h=>by simp; omega
 | x::l,a,hp,hb,hab=>by
  obtain⟨h1,h2⟩:=List.pairwise_cons.1 hp
  have hx:=hb x mem_cons_self
  have:=FM (b:=b) (l:=l) (a:=x.Seq+1) h2 (λy hy=>⟨by have:=h1 y hy; omega,(hb y (mem_cons_of_mem _ hy)).2⟩) (by omega)
  simp only[List.length_cons]
  omega
theorem SW {a b n:Nat} {c:aA} {d:aV} {x:aQ} (h:Sm c) (G:Gd c) (B:Bd3 a b n c) (hn:n<=190) (hna:a<=190) (hnb:b<=60000) (W:Wok n c d x):Gd (jI c d x)/\Bd3 (a+1) (b+1) (n+1) (jI c d x):=by
 have hxb:=G.v x (List.mem_of_getElem? W.hx)
 have hx:=W.hx
 have hl:=(List.getElem?_eq_some_iff.1 hx).1
 have gf:=B.f x (List.mem_of_getElem? hx)
 have hqc:=G.q
 simp only[fB,and_eq_true,decide_eq_true_eq] at hqc
 unfold mE fB at hxb
 simp only[and_eq_true,or_eq_true,decide_eq_true_eq,beq_iff_eq] at hxb
 have gF:gI (x.Files+1):=⟨by omega,by omega⟩
 have hI:∀i∈d.Items,It i:=λi hi=>by
  obtain⟨a1,a2,a3,a4,a5⟩:=W.w.it i hi
  exact⟨a1,a2,W.kd i hi,a3,a4,a5⟩
 have hWe:=vU (p:=x.Pool) W.g gF (I4 h G hx) hI
 have R:=zJ (p:=1) (v:=d.Vol) (f:=x.Files+1) d.Items (ws c d.Vol x)
 rw[<- qN] at R
 obtain⟨o1,o2,o3⟩:=JC (c:=c) (d:=d) (x:=x)
 have o4:(jI c d x).Vols=c.Vols.set d.Vol.toNat { x with State:=2,Files:=x.Files+1}:=by
  have:(iU c d x).Vols=c.Vols.set d.Vol.toNat { x with State:=2,Files:=x.Files+1}:=oF _ _ _ _ _
  unfold jI
  split<;>exact this
 have hu:=W.u
 -- places
 have hpl:∀i∈d.Items,tN (jI c d x).Vols (jV d.Vol (x.Files+1) i)=true:=λi hi=>by
  have:=W.o i hi
  have hv:=W.v
  rw[o4]
  unfold tN
  rw[length_set]
  show (fB d.Vol 0 _ && _ && fB i.Off _ _ && fB i.Len _ _)=true
  rw[show (jV d.Vol (x.Files+1) i).Vol=d.Vol from rfl,getElem?_set_self hl]
  simp only[fB,and_eq_true,decide_eq_true_eq,beq_iff_eq]
  refine⟨⟨⟨⟨hv,by omega⟩,trivial, ?_, ?_⟩,this.1,this.2.1⟩,this.2.2⟩
  ·show 1<=x.Files+1; omega
  ·show x.Files+1<=x.Files+1; omega
 have up:∀l:List aS,Lk c.Vols l->Lk (jI c d x).Vols l:=λl hl=>by rw[o4]; exact hl.up hx
 have pt:∀(l:List aS),Lk c.Vols l->l.length<=a->∀i∈d.Items,Lk (jI c d x).Vols (fR l (jV d.Vol (x.Files+1) i)):=λl hl hn' i hi=>XL (up l hl) (by omega) (hpl i hi) (I8 hx hl).2
 have kl:∀y∈(gX d.Vol (x.Files+1) (ws c d.Vol x) d.Items).Chunks,Lk (jI c d x).Vols y.Locs:=λy hy=>by
  obtain⟨z,hz, -, -, -,e⟩:=FL hu y hy
  have hz:z∈c.Chunks:=hz
  rcases e with e | ⟨i,hi, -, -,e⟩<;>rw[e]
  ·exact up _ (G.cl z hz)
  ·exact pt _ (G.cl z hz) (B.k z hz) i hi
 have sl:∀y∈(gX d.Vol (x.Files+1) (ws c d.Vol x) d.Items).Snaps,Lk (jI c d x).Vols y.Locs:=λy hy=>by
  obtain⟨z,hz, -, -,e⟩:=I9 hu y hy
  have hz:z∈c.Snaps:=hz
  rcases e with e | ⟨i,hi, -, -,e⟩<;>rw[e]
  ·exact up _ (G.sl z hz)
  ·exact pt _ (G.sl z hz) (B.s z hz) i hi
 have eo:(jI c d x).Exps.Pairwise λy x=>y.Seq < x.Seq:=by
  have:=hWe.eo
  rw[nL] at this
  rw[o2]; exact this
 have wlv:Lv (gX d.Vol (x.Files+1) (ws c d.Vol x) d.Items):=HR (c:=ws c d.Vol x) (by have h1:=PM G; exact h1)
 -- chunks after clearing
 have cl1:∀z∈(gX d.Vol (x.Files+1) (ws c d.Vol x) d.Items).Chunks,(dQ x.Pool d.Items z).Locs=z.Locs/\((dQ x.Pool d.Items z=z)\/((dQ x.Pool d.Items z).Staged=false/\(dQ x.Pool d.Items z).Data= []/\z.Locs≠ [])):=λz hz=>by
  have:∀l:List aE,(∀i∈l,i∈d.Items)->(dQ x.Pool l z).Locs=z.Locs/\((dQ x.Pool l z=z)\/((dQ x.Pool l z).Staged=false/\(dQ x.Pool l z).Data= []/\z.Locs≠ [])):=kY (λ_=>⟨rfl,.inl rfl⟩) λl i ih hs=>by
   obtain⟨i1,i2⟩:=ih λj hj=>hs j (mem_append_left _ hj)
   have e:dQ x.Pool (l++ [i]) z=qS x.Pool i (dQ x.Pool l z):=by unfold dQ; rw[foldl_append]; rfl
   rw[e]
   by_cases hc:x.Pool=0/\i.Kind=1/\(dQ x.Pool l z).Id=i.Id
   ·rw[show qS x.Pool i (dQ x.Pool l z)= { dQ x.Pool l z with Staged:=false,Data:=[]} from if_pos hc]
    refine⟨i1,.inr ⟨rfl,rfl,λhn=> ?_⟩⟩
    have:=JD d.Items i (hs i (by simp)) hc.2.1 z hz (by rw[<- hc.2.2,uN])
    rw[hn] at this
    cases this
   ·rw[show qS x.Pool i (dQ x.Pool l z)=dQ x.Pool l z from if_neg hc]
    exact⟨i1,i2⟩
  exact this d.Items λ_ h=>h
 have hw1:iU c d x= { gX d.Vol (x.Files+1) (ws c d.Vol x) d.Items with Chunks:=(gX d.Vol (x.Files+1) (ws c d.Vol x) d.Items).Chunks.map (dQ x.Pool d.Items)}:=nL _ _ _ _ _
 have cs1:∀y∈(iU c d x).Chunks,(if y.Staged then fB y.Data.length 1 64=true else y.Data= []/\y.Locs≠ [])/\pD y=true:=λy hy=>by
  rw[hw1] at hy
  obtain⟨z,hz,rfl⟩:=mem_map.1 hy
  obtain⟨e1,e2⟩:=cl1 z hz
  rcases e2 with e2 | ⟨e2,e3,e4⟩
  ·rw[e2]
   refine⟨?_,wlv z hz⟩
   obtain⟨w,hw, -,f2,f3,f4⟩:=FL hu z hz
   have:=G.cs w hw
   rw[f2,f3]
   split
   ·rename_i hst; rw[if_pos hst] at this; exact this
   ·rename_i hst
    rw[if_neg hst] at this
    refine⟨this.1, ?_⟩
    rcases f4 with f4 | ⟨i, -, -, -,f4⟩<;>rw[f4]
    ·exact this.2
    ·intro hn
     have:=kD (l:=w.Locs) (x:=jV d.Vol (x.Files+1) i)
     rw[hn] at this
     simp at this
  ·refine⟨by rw[if_neg (by rw[e2]; decide),e1]; exact⟨e3,e4⟩, ?_⟩
   have:=List.length_pos_iff.2 e4
   unfold pD
   rw[e1]
   simp; omega
 have us:∀y∈(jI c d x).Chunks,∃w∈(iU c d x).Chunks,y=w\/(y=FC (rU c d x) w/\pD y=true):=λy hy=>by
  unfold jI at hy
  split at hy
  ·obtain⟨w,hw,rfl⟩:=mem_map.1 hy
   obtain⟨h1,h2⟩:=mem_filter.1 hw
   exact⟨w,h1,.inr ⟨rfl,h2⟩⟩
  ·exact⟨y,hy,.inl rfl⟩
 have hqe:c.Seq<=(jI c d x).Seq/\(jI c d x).Seq<=n+1:=by
  rw[o1]
  have hq:=B.q
  exact⟨R.q,PP (by show c.Seq<=_; omega) λi hi k3=>by have:=(W.e i hi k3).2.2; omega⟩
 have esq:∀y∈(jI c d x).Exps,0<=y.Of/\y.Of < y.Seq/\y.Seq < (jI c d x).Seq:=λy hy=>by
  have hlt:y.Seq < (jI c d x).Seq:=by
   have:=(hWe.eq y (by rw[nL]; rw[o2] at hy; exact hy)).2.2
   rw[nL] at this
   rw[o1]; exact this
  rw[o2] at hy
  rcases BH hu y hy with⟨z,hz,e1,e2, -⟩ | ⟨i,hi,k3,rfl⟩
  ·have:=G.eq z hz
   simp only[fB,and_eq_true,decide_eq_true_eq] at this
   omega
  ·have:=W.e i hi k3
   exact⟨this.1,this.2.1,hlt⟩
 obtain⟨-,⟨fs,hfs,efs⟩, -⟩:=R
 have snm:(jI c d x).Snaps=((c.Snaps.map fs).filter λs=> !jE d.Items s):=by rw[o3,efs]; rfl
 have sgn:∀s,jE d.Items (fs s)=jE d.Items s:=λs=>by unfold jE; rw[(hfs s).1]
 have smem:∀s∈(jI c d x).Snaps,∃t∈c.Snaps,s.Seq=t.Seq/\s.Man=t.Man/\jE d.Items s=false:=λs hs=>by
  rw[snm] at hs
  obtain⟨h1,h2⟩:=mem_filter.1 hs
  obtain⟨t,ht,rfl⟩:=mem_map.1 h1
  exact⟨t,ht,(hfs t).1,(hfs t).2,by simpa using h2⟩
 have spw:∀(P:aH->aH->Prop),(∀a b,P a b->P (fs a) (fs b))->c.Snaps.Pairwise P->(jI c d x).Snaps.Pairwise P:=λP hP hp=>by
  rw[snm]
  exact(pairwise_map.2 (hp.imp fun {a b} h=>hP a b h)).sublist filter_sublist
 have cle:(jI c d x).Chunks.length<=c.Chunks.length/\(jI c d x).Chunks.Pairwise λy x=>ky y.Id < ky x.Id:=by
  have l1:(iU c d x).Chunks.length=c.Chunks.length:=by
   obtain⟨-, -,g, -,eg⟩:=zJ (p:=x.Pool) (v:=d.Vol) (f:=x.Files+1) d.Items (ws c d.Vol x)
   show (w9 x.Pool d.Vol (x.Files+1) (ws c d.Vol x) d.Items).Chunks.length=_
   rw[eg,length_map]; rfl
  have p1:(iU c d x).Chunks.Pairwise λy x=>ky y.Id < ky x.Id:=(qC.1 hWe.r).2
  unfold jI
  split
  ·refine⟨?_,pairwise_map.2 ((p1.sublist filter_sublist).imp fun {a b} hab=>by rw[(jQ _ a).2.1,(jQ _ b).2.1]; exact hab)⟩
   show (map _ _).length<=_
   rw[length_map,<- l1]
   exact length_filter_le _ _
  ·exact⟨by rw[<- l1]; exact Nat.le_refl _,p1⟩
 have kfin:∀y∈(jI c d x).Chunks,∃z∈(gX d.Vol (x.Files+1) (ws c d.Vol x) d.Items).Chunks,y.Id=z.Id/\y.Locs=z.Locs:=JA
 refine⟨{ q:= ?_,v:= ?_,vn:= ?_,cn:=Nat.le_trans cle.1 G.cn,co:=cle.2,cl:= ?_,cs:= ?_,sn:= ?_,so:= ?_,sq:= ?_,sm:= ?_,sb:= ?_,sl:= ?_,sp:= ?_,en:= ?_,eo:=eo,eq:= ?_,el:= ?_,ee:= ?_,ex:= ?_}, ?_⟩
 ·simp only[fB,and_eq_true,decide_eq_true_eq]; omega
 ·intro v hv
  rw[o4] at hv
  rcases mem_or_eq_of_mem_set hv with h1 | rfl
  ·exact G.v v h1
  ·unfold mE fB
   simp only[and_eq_true,or_eq_true,decide_eq_true_eq,beq_iff_eq]
   exact⟨hxb.1,.inl ⟨trivial,by omega,by omega⟩⟩
 ·rw[o4,length_set]; exact G.vn
 ·intro y hy
  obtain⟨z,hz, -,e⟩:=kfin y hy
  rw[e]; exact kl z hz
 ·intro y hy
  obtain⟨w,hw,e⟩:=us y hy
  obtain⟨c1,c2⟩:=cs1 w hw
  rcases e with rfl | ⟨rfl,e⟩
  ·exact c1
  ·unfold FC at e ⊢
   split
   ·exact c1
   ·rename_i hnu
    rw[if_neg hnu] at e
    simp only[pD,Bool.false_or,decide_eq_true_eq] at e
    rw[if_neg (show ¬(false=true) by decide)]
    refine⟨rfl,λhn=> ?_⟩
    have hn:w.Locs= []:=hn
    rw[hn] at e; simp at e
 ·rw[snm]
  exact Nat.le_trans (length_filter_le _ _) (by rw[length_map]; exact G.sn)
 ·exact spw _ (λa b h=>by rw[(hfs a).1,(hfs b).1]; exact h) G.so
 ·intro s hs
  obtain⟨t,ht,e, -⟩:=smem s hs
  have:=G.sq t ht
  simp only[fB,and_eq_true,decide_eq_true_eq] at this ⊢
  omega
 ·exact spw _ (λa b h=>by rw[(hfs a).2,(hfs b).2]; exact h) G.sm
 ·intro s hs
  obtain⟨t,ht, -,e, -⟩:=smem s hs
  rw[e]; exact G.sb t ht
 ·intro s hs
  rw[o3] at hs
  exact sl s (mem_filter.1 hs).1
 ·intro s hs
  obtain⟨t,ht, -,e, -⟩:=smem s hs
  have hp:=G.sp t ht
  unfold LJ at hp ⊢
  rw[e]
  refine all_eq_true.2 λp hp1=>all_eq_true.2 λid hid=> ?_
  have h1:=all_eq_true.1 (all_eq_true.1 hp p hp1) id hid
  have hu1:iO (rU c d x) id=true:=by
   have es:(rU c d x).Snaps=(jI c d x).Snaps:=by unfold jI; split<;>rfl
   refine any_eq_true.2 ⟨s,by rw[es]; exact hs,any_eq_true.2 ⟨p,by rw[e]; exact hp1,any_eq_true.2 ⟨id,hid,decide_eq_true rfl⟩⟩⟩
  have h2:(iU c d x).Chunks.any (λy=>decide (y.Id=id))=true:=by
   have:=oD (l:=(gX d.Vol (x.Files+1) (ws c d.Vol x) d.Items).Chunks) (f:=dQ x.Pool d.Items) (uN x.Pool d.Items) id
   have e9:(iU c d x).Chunks=(gX d.Vol (x.Files+1) (ws c d.Vol x) d.Items).Chunks.map (dQ x.Pool d.Items):=by rw[hw1]
   rw[e9]
   refine this.trans ?_
   obtain⟨-, -,g,hg,eg⟩:=zJ (p:=1) (v:=d.Vol) (f:=x.Files+1) d.Items (ws c d.Vol x)
   rw[<- qN] at eg
   rw[eg,oD λy=>(hg y).1]
   exact h1
  obtain⟨y,hy,ey⟩:=any_eq_true.1 h2
  have ey:y.Id=id:=of_decide_eq_true ey
  refine any_eq_true.2 ?_
  unfold jI
  split
  ·refine⟨FC (rU c d x) y,mem_map.2 ⟨y,mem_filter.2 ⟨hy, ?_⟩,rfl⟩,decide_eq_true ((jQ _ y).2.1.trans ey)⟩
   unfold FC
   rw[if_pos (by rw[ey]; exact hu1)]
   exact(cs1 y hy).2
  ·exact⟨y,hy,decide_eq_true ey⟩
 ·have:=FM (b:=(jI c d x).Seq) (a:=0) eo (λy hy=>⟨by have:=esq y hy; omega,(esq y hy).2.2⟩) (by omega)
  omega
 ·intro y hy
  have:=esq y hy
  simp only[fB,and_eq_true,decide_eq_true_eq]
  omega
 ·intro y hy
  rw[o2] at hy
  rcases BH hu y hy with⟨z,hz, -, -,e⟩ | ⟨i,hi,k3,rfl⟩
  ·have hz:z∈c.Exps:=hz
   rcases e with e | ⟨i,hi, -, -,e⟩<;>rw[e]
   ·exact up _ (G.el z hz)
   ·exact pt _ (G.el z hz) (B.e z hz) i hi
  ·exact⟨by simp,λy hy=>by rw[mem_singleton.1 hy]; exact hpl i hi,List.pairwise_singleton _ _⟩
 ·intro y hy hn
  rw[o2] at hy
  rcases BH hu y hy with⟨z,hz, -, -,e⟩ | ⟨i,hi,k3,rfl⟩
  ·rcases e with e | ⟨i,hi, -, -,e⟩<;>rw[e] at hn
   ·exact G.ee z hz hn
   ·have:=kD (l:=z.Locs) (x:=jV d.Vol (x.Files+1) i)
    rw[hn] at this
    simp at this
  ·cases hn
 ·intro y hy s hs e
  obtain⟨t,ht,e1, -,e2⟩:=smem s hs
  rw[o2] at hy
  rcases BH hu y hy with⟨z,hz, -,f2, -⟩ | ⟨i,hi,k3,rfl⟩
  ·exact G.ex z hz t ht (by omega)
  ·have:=any_eq_false.1 e2 i hi
   have e:s.Seq=i.Of:=e
   simp[k3,e] at this
 ·have pl:∀(l:List aS) (p:aS),l.length<=a->(fR l p).length<=a+1:=λl p hl=>by rw[kD]; omega
  refine⟨λy hy=> ?_,λy hy=> ?_,λy hy=> ?_,λy hy=> ?_,by have:=hqe.2; omega⟩
  ·obtain⟨w,hw, -,e⟩:=JA y hy
   obtain⟨z,hz, -, -, -,e2⟩:=FL hu w hw
   rw[e]
   have hz:=B.k z hz
   rcases e2 with e2 | ⟨i, -, -, -,e2⟩<;>rw[e2]
   ·omega
   ·exact pl _ _ hz
  ·rw[o3] at hy
   obtain⟨z,hz, -, -,e2⟩:=I9 hu y (mem_filter.1 hy).1
   have hz:=B.s z hz
   rcases e2 with e2 | ⟨i, -, -, -,e2⟩<;>rw[e2]
   ·omega
   ·exact pl _ _ hz
  ·rw[o2] at hy
   rcases BH hu y hy with⟨z,hz, -, -,e2⟩ | ⟨i, -, -,rfl⟩
   ·have hz:=B.e z hz
    rcases e2 with e2 | ⟨i, -, -, -,e2⟩<;>rw[e2]
    ·omega
    ·exact pl _ _ hz
   ·simp
  ·rw[o4] at hy
   rcases mem_or_eq_of_mem_set hy with h1 | rfl
   ·have:=B.f y h1; omega
   ·simp only; omega
end Go.Proofs.YtbbifdfldpfphaaGreat
namespace Go.Vm
def Fc:Option Nat->Fence
 | none=>Fence.wide
 | some l=>Fence.wide.inRound l
theorem FN (ro:Option Nat) (f:FuncId):(Fc ro).fn f:=by cases ro<;>trivial
theorem FO (ro:Option Nat):(Fc ro).depth.isSome=true->1<=0:=by cases ro<;>exact λh=>by cases h
theorem PQ {ro:Option Nat} {n:Nat} {P:Program} {f:FuncId} {args:Array Value} {w:World} {R:Ending->World->Prop} (h:Calls P f args w R):CallsIn (Fc ro) n P f args w R:=by
 cases ro<;>exact callsIn_wide.2 h
theorem SX {ro:Option Nat} {n:Nat} {P:Program} {r:String} {args:Array Value} {w:World} {R:Value->World->Prop} (h:Rows P r args w R):RowsIn (Fc ro) n P r args w R:=by
 intro c cs _
 obtain⟨v,w',hR,hs⟩:=h c cs
 refine⟨v,w',hR, ?_⟩
 cases ro<;>exact stepsIn_wide.2 hs
def nd:Op->Bool
 | .defer _=>false
 | _=>true
theorem aDJ {o:Op} (h:nd o=true):∀c,o≠ .defer c:=λc e=>by subst e; cases h
section
variable {P:Program} {ro:Option Nat}
theorem JE {o:Oper} {a:Act} {w:World} {Nx:Act->World->Prop} {Qx:Exit->Act->World->Prop} (hd:nd o.op=true) (h:o.wp P a w Nx Qx):o.wpIn (Fc ro) 0 P a w Nx Qx:=by
 refine⟨λf _=>FN ro f, ?_⟩
 have hs:o.semAt (Fc ro).round a.eval=execOp a.eval o:=by
  cases ro with
  | none=>simp[semAt,Fc]
  | some l=>exact Oper.semAt_some _ _ _ (aDJ hd)
 rw[hs]
 unfold wp at h
 cases e:(execOp a.eval o).run P w with
 | ok nx w'=>
  rw[e] at h
  cases nx with
  | value v=>exact h
  | skip=>exact h
  | defer d=>exact h
  | enter f args=>exact⟨FO ro,PQ h⟩
  | row r args=>exact⟨FO ro,SX h⟩
  | _=>first | exact h.elim | exact h
 | halt x w'=>
  rw[e] at h
  cases x with
  | panic v=>exact h
  | _=>first | exact h.elim | exact h
theorem DJ {ops:Array Oper} {Q:Exit->Act->World->Prop} (hq:¬LetsOut Q):∀ {l:List Oper} {a:Act} {w:World},(l.all λo=>nd o.op)=true->wpList P ops Q l a w->wpListIn (Fc ro) 0 P ops Q l a w
 | [],_,_,_,h=>h
 | o::l,a,w,hd,h=>by
  simp only[all_cons,and_eq_true] at hd
  refine wpListIn_step λK hK=> ?_
  unfold wpList at h
  split at h
  ·rename_i hw
   rw[if_pos hw]
   rcases h with h | ⟨_,h⟩
   ·exact JE hd.1 (Oper.wp_mono (λa' w' h'=>hK _ _ (DJ hq hd.2 h')) h)
   ·exact absurd h hq
  ·rename_i hw
   rw[if_neg hw]
   exact⟨λf _=>FN ro f,hK _ _ (DJ hq hd.2 h)⟩
theorem DK {md:Region.Mode} {ops:Array Oper} {Q:Exit->Act->World->Prop} (hq:¬LetsOut Q) (hd:(ops.toList.all λo=>nd o.op)=true):∀ {fuel:Nat} {S:Array Bool} {a:Act} {w:World},wpAny P md ops Q fuel S a w->wpAnyIn (Fc ro) 0 P md ops Q fuel S a w
 | 0,_,_,_,h=>h
 | fuel+1,S,a,w,h=>by
  refine⟨h.1,λi hi=> ?_⟩
  have hi':=h.2 i hi
  unfold wpOp at hi'
  unfold wpOpIn
  cases ho:ops[i]? with
  | none=>rw[ho] at hi'; exact DK hq hd hi'
  | some o=>
   rw[ho] at hi'
   simp only at hi' ⊢
   have hn:nd o.op=true:=all_eq_true.1 hd o (by
    have:=Array.mem_of_getElem? ho
    simpa using this)
   split at hi'
   ·rename_i hw
    rw[if_pos hw]
    rcases hi' with hi' | ⟨_,hi'⟩
    ·exact JE hn (Oper.wp_mono (λa' w' h'=>DK hq hd h') hi')
    ·exact absurd hi' hq
   ·rename_i hw
    rw[if_neg hw]
    exact⟨λf _=>FN ro f,DK hq hd hi'⟩
end
def QI (I:fH->World->Prop):Prop:=∀E w E' w',dD E w E' w'->I E w->I E' w'
def rX (I:fH->World->Prop) (ro:Option Nat) (P:Program) (c:Code) (Q:Exit->Fr->aF->Prop) (fr:Fr) (h:aF):Prop:=
 ∀E w a,I E w->eI E h w->cI E w fr a.tmps.toList->a.defers= []->c.wpIn (Fc ro) 0 P (λe a' w'=>nM E w (Q e) a' w') a w
section
variable {P:Program} {ro:Option Nat} {I:fH->World->Prop} {Q:Exit->Fr->aF->Prop} {fr:Fr} {h:aF}
theorem rX.mono {c:Code} {Q':Exit->Fr->aF->Prop} (hc:rX I ro P c Q fr h) (hq:∀e fr h,Q e fr h->Q' e fr h):rX I ro P c Q' fr h:=
 λE w a i r v d=>wpIn_mono (hc E w a i r v d) λe _ _ p=>p.mono (hq e)
theorem PR {c:Code} (hc:AW P c Q fr h):rX I none P c Q fr h:=λE w a _ r v d=>wpIn_wide.2 (hc E w a r v d)
theorem DL (hI:QI I) {x y:Code} (hx:rX I ro P x (Seq (rX I ro P y Q) Q) fr h):rX I ro P (.seq x y) Q fr h:=by
 intro E w a i r v d
 refine wpIn_seq (wpIn_mono (hx E w a i r v d) ?_)
 intro e a' w' p
 cases e with
 | normal=>
  obtain⟨E',fr',h',k,r',v',d',q⟩:=p
  exact wpIn_mono (q E' w' a' (hI _ _ _ _ k i) r' v' d') λ_ _ _ p'=>p'.trans k
 | exit id=>exact p
 | goto l=>exact p
 | ret=>exact p
 | panic ch=>exact p
 | outgrown=>exact p
theorem XN {c:Operand} {x y:Code} {t:Bool} (hc:ev fr c= .sc (.bool t)) (ht:t=true->rX I ro P x Q fr h) (hf:t=false->rX I ro P y Q fr h):rX I ro P (.cond c x y) Q fr h:=
 λE w a i r v d=>wpIn_cond (t:=t) (TF v hc) (by
  cases t
  ·exact hf rfl E w a i r v d
  ·exact ht rfl E w a i r v d)
theorem vW {id:Nat} {c:Code} (hc:rX I ro P c (HZ id Q) fr h):rX I ro P (.block id c) Q fr h:=by
 intro E w a i r v d
 refine wpIn_block (wpIn_mono (hc E w a i r v d) ?_)
 intro e a' w' p
 cases e with
 | exit id'=>
  by_cases hid:id'=id
  ·simp only[Exit.inBlock,hid,if_true]
   exact p.mono (λfr h q=>by simpa [HZ,hid] using q)
  ·simp only[Exit.inBlock,hid,if_false]
   exact p.mono (λfr h q=>by simpa [HZ,hid] using q)
 | normal=>exact p
 | goto l=>exact p
 | ret=>exact p
 | panic ch=>exact p
 | outgrown=>exact p
theorem gA.awn (hI:QI I) {c:Code} {fr':Fr} {h':aF} (le:gA fr' h' fr h) (hc:rX I ro P c Q fr' h'):rX I ro P c Q fr h:=by
 intro E w a i r v d
 obtain⟨E',k,r',v'⟩:=le E w _ r v
 exact wpIn_mono (hc E' w a (hI _ _ _ _ k i) r' v' d) λ_ _ _ p=>p.trans k
theorem SY {id:Nat} {l:List Oper} (hd:(l.all λo=>nd o.op)=true) (hl:iQ P l.toArray l (Q .normal) fr h):rX I ro P (.region id l.toArray false) Q fr h:=by
 intro E w a _ r v d
 have h1:=hl E w a r v d (λe a' w'=>e= .normal/\nM E w (Q .normal) a' w') λa' w' p=>⟨rfl,p⟩
 have hq:¬LetsOut λe a' w'=>e=Exit.normal/\nM E w (Q .normal) a' w':=λhx=>by
  obtain⟨_,_,e,_⟩:=hx
  cases e
 refine wpIn_mono (wpIn_region_lit (id:=id) (DJ (ro:=ro) hq hd h1)) ?_
 rintro e a' w' ⟨rfl,p⟩
 exact p
theorem PS {id:Nat} {l:List Oper} (fs:List (Nat×Option bT×jC)) (hd:(l.all λo=>nd o.op)=true) (hm:P.follows .mixedOrders=true) (hI:fV fs (Array.replicate l.length false) h)
    (hl:rW P l.toArray fs (Q .normal) l.length (Array.replicate l.length false) fr h):rX I ro P (.region id l.toArray true) Q fr h:=by
  intro E w a _ r v d
  obtain⟨r',k⟩:=r.drewn (w.drawn+1)
  have h1:=pR l.length (Array.replicate l.length false) fr h (hl hI) E { w with drawn:=w.drawn+1} a r' (bW k _ _ v) d (λe a' w'=>e= .normal/\nM E w (Q .normal) a' w') (λa' w' p=>⟨rfl,p.trans k⟩)
  have hq:¬LetsOut λe a' w'=>e=Exit.normal/\nM E w (Q .normal) a' w':=λhx=>by
    obtain⟨_,_,e,_⟩:=hx
    cases e
  have h2:=wpIn_region_any (F:=Fc ro) (n:=0) (id:=id) (ops:=l.toArray) (a:=a) (w:=w) hm (DK (ro:=ro) hq (by simpa using hd) (by simpa using h1))
  refine wpIn_mono h2 ?_
  rintro e a' w' ⟨rfl,p⟩
  exact p
end
def nC:Obj->Bool
 | .cells _ _ _=>false
 | _=>true
theorem JF {w:World} {g o:Nat} {ob:Obj} (hl:w.heap[g]? =some ob) (ho:nC ob=true):w.cell? ⟨g,o,none⟩=none:=by
 cases ob<;>simp_all [World.cell?,nC]
theorem JG {w:World} {l g o:Nat} {ob ob':Obj} (hl:w.heap[l]? =some ob) (ho:nC ob=true) (ho':nC ob'=true):(w.putObj l ob').cell? ⟨g,o,none⟩=w.cell? ⟨g,o,none⟩:=by
 by_cases e:g=l
 ·subst e
  have h1:=putObj_heap_same (w:=w) (o:=ob') (Array.getElem?_eq_some_iff.1 hl).1
  rw[JF h1 ho',JF hl ho]
 ·exact dM (putObj_heap_other e) o
def fH.un (E:fH) (l:Nat):fH:={ E with lock:=λg=>E.lock g/\g≠l}
theorem eI.relock {E:fH} {h:aF} {w:World} (r:eI E h w) (L:Nat->Prop) (hL:∀k g,E.at h k g->¬L g) (hb:∀g,L g->g < w.heap.size):eI { E with lock:=L} h w:=by
 have hat:∀k g,fH.at { E with lock:=L} h k g->E.at h k g:=λk g ha=>ha
 constructor
 ·intro k ty cs hk
  obtain⟨g,cur,e1,e2,e3,e4⟩:=r.obj k ty cs hk
  refine⟨g,cur,e1,e2, ?_,e4⟩
  exact iY (E:=E) (E':={ E with lock:=L}) ⟨λ_ _ h=>⟨h,rfl⟩,λ_ h=>h,λ_ _ h=>h,λ_ t ht o ho=>⟨.inr ⟨t,ht,rfl,ho⟩,rfl⟩,λ_ t ht _=>⟨t,ht,Nat.le_refl _,λ_=>rfl⟩⟩ _ _ e3
 ·exact r.tok
 ·exact r.tkh
 ·exact λk k' g ha hb=>r.sep k k' g ha hb
 ·exact λk g ha=>⟨hL k g ha,(r.dis k g ha).2⟩
 ·exact r.hus
 ·exact r.obu
 ·exact r.fre
 ·exact r.imb
 ·exact hb
 ·exact r.mp
theorem o9 {E:fH} {w:World} {L:Nat->Prop} {xs:List AV} {vs:List Value} (h:cI E w xs vs):cI { E with lock:=L} w xs vs:=
 iY (E:=E) (E':={ E with lock:=L}) ⟨λ_ _ h=>⟨h,rfl⟩,λ_ h=>h,λ_ _ h=>h,λ_ t ht o ho=>⟨.inr ⟨t,ht,rfl,ho⟩,rfl⟩,λ_ t ht _=>⟨t,ht,Nat.le_refl _,λ_=>rfl⟩⟩ _ _ h
theorem eI.turn {E:fH} {h:aF} {w:World} (r:eI E h w) {l:Nat} {ob ob':Obj} (hl:w.heap[l]? =some ob) (ho:nC ob=true) (ho':nC ob'=true) (hlk:∀k,¬E.at h k l):eI E h (w.putObj l ob')/\rY E w E (w.putObj l ob'):=by
 have hv:rY E w E (w.putObj l ob'):=⟨λg o hi=>⟨hi,JG hl ho ho'⟩,λ_ h=>h,λ_ _ h=>h,λ_ t ht o ho2=>⟨.inr ⟨t,ht,rfl,ho2⟩,JG hl ho ho'⟩,λ_ t ht _=>⟨t,ht,Nat.le_refl _,λ_=>rfl⟩⟩
 refine⟨?_,hv⟩
 have ne:∀k g,E.at h k g->g≠l:=λk g ha e=>hlk k (e ▸ ha)
 constructor
 ·intro k ty cs hk
  obtain⟨g,cur,e1,e2,e3,e4⟩:=r.obj k ty cs hk
  exact⟨g,cur,e1,by rw[putObj_heap_other (ne k g (.inl ⟨_,rfl,hk,e1⟩))]; exact e2,iY hv _ _ e3,e4⟩
 ·intro k ty sz m hk
  obtain⟨t,cur,e1,e2,e3,e4,e5⟩:=r.tok k ty sz m hk
  exact⟨t,cur,e1,e2,e3,by rw[putObj_heap_other (ne k t.b (.inr ⟨_,_,_,t,hk,e1,rfl⟩))]; exact e4,e5⟩
 ·exact r.tkh
 ·exact r.sep
 ·exact r.dis
 ·exact r.hus
 ·exact r.obu
 ·exact r.fre
 ·intro g o hg
  obtain⟨v,e⟩:=r.imb g o hg
  exact⟨v,(JG hl ho ho').trans e⟩
 ·intro g hg
  rw[putObj_size]
  exact r.lkb g hg
 ·intro k es hk
  obtain⟨g,ents,clk,e1,e2,e3⟩:=r.mp k es hk
  exact⟨g,ents,clk,e1,by rw[putObj_heap_other (ne k g (.inl ⟨_,rfl,hk,e1⟩))]; exact e2,e3⟩
theorem eI.more {E:fH} {h:aF} {w:World} (r:eI E h w) (ob:Obj):eI E h (w.alloc ob)/\dD E w E (w.alloc ob):=by
 have hb:∀g,g < w.heap.size->(w.alloc ob).heap[g]? =w.heap[g]? :=λg hg=>by
  show (w.heap.push ob)[g]? =w.heap[g]?
  rw[Array.getElem?_push_lt hg,Array.getElem?_eq_getElem hg]
 have hc:∀g o v,w.cell? ⟨g,o,none⟩=some v->(w.alloc ob).cell? ⟨g,o,none⟩=w.cell? ⟨g,o,none⟩:=λg o v e=>dM (hb g (gR e)) o
 have htk:∀k t,E.tk k=some t->t.b < w.heap.size:=λk t ht=>by
  obtain⟨ty,e⟩:=r.tkh k t ht
  exact r.at_lt (.inr ⟨_,_,_,t,e,ht,rfl⟩)
 have hk:dD E w E (w.alloc ob):=by
  refine⟨λg o hi=>⟨hi, ?_⟩,λ_=>Iff.rfl,λg hg=>hb g (r.lkb g hg),λ_ h=>h,λ_ _ h=>h,λk t ht o ho=>⟨.inr ⟨t,ht,rfl,ho⟩,dM (hb _ (htk k t ht)) o⟩,λ_ t ht _=>⟨t,ht,Nat.le_refl _,λ_=>rfl⟩,rfl,rfl,rfl, ?_⟩
  ·obtain⟨v,e⟩:=r.imb g o hi
   exact hc g o v e
  ·show w.heap.size<=(w.heap.push ob).size
   simp
 refine⟨?_,hk⟩
 constructor
 ·intro k ty cs hk'
  obtain⟨g,cur,e1,e2,e3,e4⟩:=r.obj k ty cs hk'
  exact⟨g,cur,e1,by rw[hb g (Array.getElem?_eq_some_iff.1 e2).1]; exact e2,bW hk _ _ e3,e4⟩
 ·intro k ty sz m hk'
  obtain⟨t,cur,e1,e2,e3,e4,e5⟩:=r.tok k ty sz m hk'
  exact⟨t,cur,e1,e2,e3,by rw[hb t.b (Array.getElem?_eq_some_iff.1 e4).1]; exact e4,e5⟩
 ·exact r.tkh
 ·exact r.sep
 ·exact r.dis
 ·exact r.hus
 ·exact r.obu
 ·exact r.fre
 ·intro g o hg
  obtain⟨v,e⟩:=r.imb g o hg
  exact⟨v,(hc g o v e).trans e⟩
 ·intro g hg
  have:=r.lkb g hg
  show g < (w.heap.push ob).size
  simp; omega
 ·intro k es hk'
  obtain⟨g,ents,clk,e1,e2,e3⟩:=r.mp k es hk'
  exact⟨g,ents,clk,e1,by rw[hb g (Array.getElem?_eq_some_iff.1 e2).1]; exact e2,e3⟩
def xC (l D:Nat) (rec:Loop) (fr0:Fr) (E:fH) (w:World):Prop:=
 E.lock l/\w.heap[l]? =some (.loop rec)/\E.lock D/\w.heap[D]? =some (.deferred (some []))/\cI E w fr0 rec.tmps.toList
theorem xC.stb {l D:Nat} {rec:Loop} {fr0:Fr}:QI (xC l D rec fr0):=λE w E' w' k ⟨a,b,c,d,e⟩=>
 ⟨(k.lockEq l).2 a,(k.lock l a).trans b,(k.lockEq D).2 c,(k.lock D c).trans d,bW k _ _ e⟩
theorem KX {P:Program} {l D p:Nat} {rec:Loop} {fr0 fr1:Fr} {h:aF} {K:aF->Prop} {x:AV} (hst:rec.state= .ready) (hpn:rec.pending=none)
    (ha:rX (λ_ _=>True) (some l) P rec.assign (λe fr hh=>e= .normal/\gA fr1 h fr hh) (fr0.set p x) h)
    (hb:rX (λ_ _=>True) (some l) P rec.body (λe fr hh=>e= .normal/\∃h' g,K h'/\gA g h' fr hh) fr1 h)
    {E:fH} {w:World} {v:Value} (hi:xC l D rec fr0 E w) (r:eI E h w) (hv:VR E w x v):
    RoundIn Fence.wide 0 P l rec.fn (rec.tmps.setIfInBounds p v) rec.assign rec.body w (λe w'=>e= .returned (.bool true)/\∃E' h',dD E w E' w'/\eI E' h' w'/\K h'):=by
  obtain⟨il,ih,iD,iDh,iv⟩:=hi
  have hnat:∀ {E:fH} {h:aF} {w:World},eI E h w->E.lock l->∀k,¬E.at h k l:=λr hl k ha=>(r.dis k l ha).1 hl
  refine roundIn_of_wpIn trivial ?_
  have hv0:cI E w (fr0.set p x) (rec.tmps.setIfInBounds p v).toList:=by
    rw[Array.toList_setIfInBounds]
    exact BN p iv hv
  refine wpIn_mono (ha E w { tmps:=rec.tmps.setIfInBounds p v,defers:=[]} trivial r hv0 rfl) ?_
  rintro e a1 w1 ⟨E1,fr',hh,k1,r1,v1,d1,rfl,le1⟩
  obtain⟨E2,k2,r2,v2⟩:=le1 E1 w1 _ r1 v1
  have k12:=k1.trans k2
  have il2:E2.lock l:=(k12.lockEq l).2 il
  have hl1:w1.heap[l]? =some (.loop rec):=(k1.lock l il).trans ih
  refine⟨_,run_beginRound hl1 hst, ?_⟩
  obtain⟨r3,kv3⟩:=r2.turn (ob':=.loop { rec with state:=.busy}) hl1 rfl rfl (hnat r2 il2)
  have hl3:(w1.putObj l (.loop { rec with state:=.busy})).heap[l]? =some (.loop { rec with state:=.busy}):=putObj_heap_same (Array.getElem?_eq_some_iff.1 hl1).1
  refine wpIn_mono (hb E2 _ a1 trivial r3 (iY kv3 _ _ v2) d1) ?_
  rintro e a4 w4 ⟨E4,fr4,h4,k4,r4,v4,d4,rfl,h',g4,kh,le4⟩
  obtain⟨E5,k5,r5, -⟩:=le4 E4 w4 _ r4 v4
  have k45:=k4.trans k5
  have hl4:w4.heap[l]? =some (.loop { rec with state:=.busy}):=(k4.lock l il2).trans hl3
  have il5:E5.lock l:=(k45.lockEq l).2 il2
  obtain⟨r6,kv6⟩:=r5.turn (ob':=.loop rec) hl4 rfl rfl (hnat r5 il5)
  have hend:=run_endRound (P:=P) none hl4
  have hrec:({ ({ rec with state:=.busy}:Loop) with state:=if (none:Option Code).isNone then .ready else .done,pending:=none}:Loop)=rec:=by
    cases rec; simp_all
  rw[hrec] at hend
  refine⟨_,_,hend,rfl,E5,h', ?_,r6,kh⟩
  have hl6:(w4.putObj l (.loop rec)).heap[l]? =some (.loop rec):=putObj_heap_same (Array.getElem?_eq_some_iff.1 hl4).1
  have oth:∀g,g≠l->(w4.putObj l (.loop rec)).heap[g]? =w4.heap[g]? :=λg hg=>putObj_heap_other hg
  have oth3:∀g,g≠l->(w1.putObj l (.loop { rec with state:=.busy})).heap[g]? =w1.heap[g]? :=λg hg=>putObj_heap_other hg
  -- what is kept, from the round's begin to its end
  have c1:=kv3
  refine⟨λg o hg=> ?_,λg=> ?_,λg hg=> ?_,λk hk=>k45.used k (k12.used k hk),λk g hk=>k45.ob k g (k12.ob k g hk),λk t ht o ho=> ?_,λk t' ht' hu=> ?_, ?_, ?_, ?_, ?_⟩
  . obtain⟨q1,q2⟩:=k12.imm g o hg
    obtain⟨q3,q4⟩:=kv3.imm g o q1
    obtain⟨q5,q6⟩:=k45.imm g o q3
    obtain⟨q7,q8⟩:=kv6.imm g o q5
    exact⟨q7,q8.trans (q6.trans (q4.trans q2))⟩
  . exact(k45.lockEq g).trans (k12.lockEq g)
  . by_cases e:g=l
    . subst e; exact hl6.trans ih.symm
    . rw[oth g e,k45.lock g ((k12.lockEq g).2 hg),oth3 g e,k12.lock g hg]
  . obtain⟨q1,q2⟩:=k12.tkc k t ht o ho
    rcases q1 with q1 | ⟨t2,q1,qb,qm⟩
    . obtain⟨q3,q4⟩:=kv3.imm _ _ q1
      obtain⟨q5,q6⟩:=k45.imm _ _ q3
      obtain⟨q7,q8⟩:=kv6.imm _ _ q5
      exact⟨.inl q7,q8.trans (q6.trans (q4.trans q2))⟩
    . obtain⟨q3,q4⟩:=kv3.tkc k t2 q1 o qm
      obtain⟨q5,q6⟩:=k45.tkc k t2 q1 o qm
      rw[qb] at q4 q5 q6
      have q8:(w4.putObj l (.loop rec)).cell? ⟨t.b,o,none⟩=w4.cell? ⟨t.b,o,none⟩:=JG hl4 rfl rfl
      refine⟨?_,q8.trans (q6.trans (q4.trans q2))⟩
      rcases q5 with q5 | ⟨t3,q5,qb3,qm3⟩
      . exact .inl q5
      . exact .inr ⟨t3,q5,qb3,qm3⟩
  . obtain⟨t5,q1,q2,q3⟩:=k45.tkf k t' ht' (k12.used k hu)
    obtain⟨t1,q4,q5,q6⟩:=k12.tkf k t5 q1 hu
    refine⟨t1,q4,Nat.le_trans q5 q2,λe=> ?_⟩
    have e1:t1.m=t5.m:=by omega
    have e2:t5.m=t'.m:=by omega
    rw[q6 e1,q3 e2]
  . exact(show (w4.putObj l (.loop rec)).os=w4.os from rfl).trans (k45.os.trans ((show (w1.putObj l (.loop { rec with state:=.busy})).os=w1.os from rfl).trans k12.os))
  . exact(show (w4.putObj l (.loop rec)).tape=w4.tape from rfl).trans (k45.tape.trans ((show (w1.putObj l (.loop { rec with state:=.busy})).tape=w1.tape from rfl).trans k12.tape))
  . exact(show (w4.putObj l (.loop rec)).output=w4.output from rfl).trans (k45.output.trans ((show (w1.putObj l (.loop { rec with state:=.busy})).output=w1.output from rfl).trans k12.output))
  . have s1:=k12.size
    have s2:=k45.size
    rw[putObj_size] at s2 ⊢
    omega
def YQ (P:Program) (l D p:Nat) (rec:Loop) (fr0:Fr) (x:AV) (h:aF) (K:aF->Prop):Prop:=
 ∀E w v,xC l D rec fr0 E w->eI E h w->VR E w x v->
  RoundIn Fence.wide 0 P l rec.fn (rec.tmps.setIfInBounds p v) rec.assign rec.body w (λe w'=>e= .returned (.bool true)/\∃E' h',dD E w E' w'/\eI E' h' w'/\K h')
theorem YQ.of {P:Program} {l D p:Nat} {rec:Loop} {fr0 fr1:Fr} {h:aF} {K:aF->Prop} {x:AV} (hst:rec.state= .ready) (hpn:rec.pending=none)
    (ha:rX (λ_ _=>True) (some l) P rec.assign (λe fr hh=>e= .normal/\gA fr1 h fr hh) (fr0.set p x) h)
    (hb:rX (λ_ _=>True) (some l) P rec.body (λe fr hh=>e= .normal/\∃h' g,K h'/\gA g h' fr hh) fr1 h):YQ P l D p rec fr0 x h K:=
  λ_ _ _ hi r hv=>KX hst hpn ha hb hi r hv
def LM (I:fH->World->Prop) (ro:Option Nat) (P:Program) (ops:Array Oper) (l:List Oper) (K:Fr->aF->Prop) (fr:Fr) (h:aF):Prop:=
 ∀E w a,I E w->eI E h w->cI E w fr a.tmps.toList->a.defers= []->∀Q:Exit->Act->World->Prop,¬LetsOut Q->(∀a' w',nM E w K a' w'->Q .normal a' w')->wpListIn (Fc ro) 0 P ops Q l a w
theorem aDK {P:Program} {o:Oper} {a:Act} {w:World} {K:Act->World->Prop} {Q Q':Exit->Act->World->Prop} (hp:∀ch a w,Q (.panic ch) a w->Q' (.panic ch) a w) (ho:LetsOut Q->LetsOut Q')
    (hh:o.wp P a w K Q):o.wp P a w K Q':=by
  unfold wp at*
  generalize (execOp a.eval o).run P w=r at*
  cases r with
  | ok n w'=>
    cases n<;>simp only[upon] at hh ⊢ <;>
      first
        | exact hh
        | exact Calls.mono hh (λe w'' he=>by cases e<;>first | exact he | exact hp _ _ _ he | exact ho he)
        | exact Rows.mono hh (λ_ _ he=>he)
  | halt x w'=>cases x<;>simp only[upon] at hh ⊢<;>first | exact hh | exact hp _ _ _ hh
section
variable {P:Program} {ro:Option Nat} {I:fH->World->Prop} {Q:Exit->Fr->aF->Prop} {fr:Fr} {h:aF} {ops:Array Oper} {K:Fr->aF->Prop}
theorem zM {Q Q1:Exit->Act->World->Prop} {l2:List Oper} (hq:¬LetsOut Q) (hp:∀ch a w,Q1 (.panic ch) a w->Q (.panic ch) a w) (ho:LetsOut Q1->LetsOut Q) (hn:∀a w,Q1 .normal a w->wpListIn (Fc ro) 0 P ops Q l2 a w):
    ∀ {l:List Oper} {a:Act} {w:World},(l.all λo=>nd o.op)=true->wpList P ops Q1 l a w->wpListIn (Fc ro) 0 P ops Q (l++l2) a w
  | [],_,_,_,h=>hn _ _ h
  | o::l,a,w,hd,h=>by
    simp only[all_cons,and_eq_true] at hd
    refine wpListIn_step λK hK=> ?_
    unfold wpList at h
    split at h
    . rename_i hw
      rw[if_pos hw]
      rcases h with h | ⟨_,h⟩
      . exact JE hd.1 (aDK hp ho (Oper.wp_mono (λa' w' h'=>hK _ _ (zM hq hp ho hn hd.2 h')) h))
      . exact absurd (ho h) hq
    . rename_i hw
      rw[if_neg hw]
      exact⟨λf _=>FN ro f,hK _ _ (zM hq hp ho hn hd.2 h)⟩
theorem PT {l l2:List Oper} (hI:QI I) (hd:(l.all λo=>nd o.op)=true) (hl:iQ P ops l (λfr hh=>LM I ro P ops l2 K fr hh) fr h):LM I ro P ops (l++l2) K fr h:=by
 intro E w a i r v d Q hq hQ
 refine zM (Q1:=λe a' w'=>match e with | .normal=>wpListIn (Fc ro) 0 P ops Q l2 a' w' | e=>Q e a' w') hq (λ_ _ _ p=>p) (λp=>p) (λ_ _ p=>p) hd (hl E w a r v d _ ?_)
 rintro a' w' ⟨E',fr',h',k,r',v',d',q⟩
 exact q E' w' a' (hI _ _ _ _ k i) r' v' d' Q hq λa'' w'' p=>hQ _ _ (p.trans k)
theorem SZ (hk:K fr h):LM I ro P ops [] K fr h:=λE w a _ r v d _ _ hQ=>hQ a w ⟨E,fr,h,dD.refl E w,r,v,d,hk⟩
theorem PU {id:Nat} {l:List Oper} (hl:LM I ro P l.toArray l (Q .normal) fr h):rX I ro P (.region id l.toArray false) Q fr h:=by
 intro E w a i r v d
 refine wpIn_mono (wpIn_region_lit (id:=id) (Q:=λe a' w'=>e= .normal/\nM E w (Q .normal) a' w') (hl E w a i r v d _ ?_ λ_ _ p=>⟨rfl,p⟩)) ?_
 ·rintro⟨_,_,e,_⟩
  cases e
 ·rintro e a' w' ⟨rfl,p⟩
  exact p
theorem S0 {c:Code} {e:Exit} (hc:∀(R:Exit->Act->World->Prop) a w,R e a w->c.wpIn (Fc ro) 0 P R a w) (hq:Q e fr h):rX I ro P c Q fr h:=
 λE w a _ r v d=>hc _ a w ⟨E,fr,h,dD.refl E w,r,v,d,hq⟩
theorem PW (hq:Q .normal fr h):rX I ro P .skip Q fr h:=S0 (λ_ _ _ p=>wpIn_skip p) hq
theorem PX {c:Code} (hI:QI I) (J:Nat->Fr->aF->Prop) (n:Nat) (h0:J n fr h)
    (round:∀n fr h,J n fr h->rX I none P c (Seq (λfr' h'=>∃n',n' < n/\J n' fr' h') Q) fr h):rX I none P (.loop c) Q fr h:=by
  intro E w a i r v d
  refine wpIn_wide.2 (wp_loop_ghost (λn a' w'=>nM E w (J n) a' w') n ⟨E,fr,h,dD.refl E w,r,v,d,h0⟩ ?_)
  intro n a' w' p
  obtain⟨E',fr',h',k,r',v',d',q⟩:=p
  refine wp_mono (wpIn_wide.1 (round n fr' h' q E' w' a' (hI _ _ _ _ k i) r' v' d')) ?_
  intro e a'' w'' p'
  cases e with
  | normal=>
    obtain⟨E'',fr'',h'',k',r'',v'',d'',n',hn,q'⟩:=p'
    exact⟨n',hn,E'',fr'',h'',k.trans k',r'',v'',d'',q'⟩
  | exit id=>exact p'.trans k
  | goto l=>exact p'.trans k
  | ret=>exact p'.trans k
  | panic ch=>exact p'.trans k
  | outgrown=>exact p'.trans k
theorem KY {l D p:Nat} {rec:Loop} {fr0:Fr} {x:AV} {Kr:aF->Prop} {y b:Operand} {dst:Option Tmp} {ts:Array TypeId} {ty:TypeId} {pos:String} {dL:Array Edge} {l2:List Oper}
    (hp:rec.params= #[p]) (hy:ev fr y= .fn (.yield l) []) (hx:ev fr b=x) (hr:YQ P l D p rec fr0 x h Kr)
    (k:∀h',Kr h'->LM (xC l D rec fr0) none P ops l2 K (iK fr dst (.sc (.bool true))) h'):
    LM (xC l D rec fr0) none P ops (⟨dst,.call { callee:=.value y,args:= #[b],argTypes:=ts},ty,pos,dL,none⟩::l2) K fr h:=by
  intro E w a i r v d Q hq hQ
  refine wpListIn_plain rfl λK' hK'=>⟨λf _=>FN none f, ?_⟩
  have e1:a.eval y= .func (.yield l) #[] #[]:=by
    have h1:=sB v y
    rw[hy] at h1
    simp only[VR] at h1
    obtain⟨vs,e,h2⟩:=h1
    have:vs= #[]:=by
      have:=cJ h2
      exact Array.eq_empty_of_size_eq_zero (by simpa using this.symm)
    rw[e,this]
  have e2:VR E w x (a.eval b):=hx ▸ sB v b
  have hrun:((⟨dst,.call { callee:=.value y,args:= #[b],argTypes:=ts},ty,pos,dL,none⟩:Oper).semAt (Fc none).round a.eval).run P w= .ok (.round l rec.fn (rec.tmps.setIfInBounds p (a.eval b)) rec.assign rec.body) w:=by
    have hy:=run_yield (P:=P) (args:= #[a.eval b]) i.2.1 (by rw[hp]; rfl)
    rw[hp] at hy
    have hz:Array.foldl (λ(tmps:Array Value) (x:Tmp×Value)=>match x with | (t,a)=>tmps.setIfInBounds t a) rec.tmps (#[p].zip #[a.eval b])=rec.tmps.setIfInBounds p (a.eval b):=by simp
    rw[hz] at hy
    simp only[semAt,Fc]
    simp[execOp,resolve,Deferred.ofValue,e1,invoke,Fence.wide,hy]
  rw[hrun,Oper.uponIn_round]
  refine⟨λhh=>(by cases hh),(hr E w _ i r e2).mono ?_⟩
  rintro e w' ⟨rfl,E',h',k1,r1,kh⟩
  refine hK' _ _ (k h' kh E' w' _ (xC.stb _ _ _ _ k1 i) r1 (l6 _ (bW k1 _ _ v) (by simp[VR])) (by rw[iP]; exact d) Q hq λa'' w'' p'=>hQ _ _ (p'.trans k1))
end
theorem dD.unlock {E E':fH} {w w':World} {L:Nat->Prop} (L0:Nat->Prop) (hs:∀g,L0 g->L g) (k:dD { E with lock:=L} w E' w'):dD { E with lock:=L0} w { E' with lock:=L0} w':=
 ⟨k.imm,λ_=>Iff.rfl,λg hg=>k.lock g (hs g hg),k.used,k.ob,k.tkc,k.tkf,k.os,k.tape,k.output,k.size⟩
theorem eI.turnK {E:fH} {h:aF} {w:World} (r:eI E h w) {l:Nat} {ob ob':Obj} (hl:w.heap[l]? =some ob) (ho:nC ob=true) (ho':nC ob'=true) (hlk:∀k,¬E.at h k l) (hn:¬E.lock l):
    eI E h (w.putObj l ob')/\dD E w E (w.putObj l ob'):=by
  obtain⟨r1,kv⟩:=r.turn hl ho ho' hlk
  refine⟨r1,λg o hi=>kv.imm g o hi,λ_=>Iff.rfl,λg hg=>putObj_heap_other λe=>hn (e ▸ hg),kv.used,kv.ob,λk t ht o ho2=>kv.tkc k t ht o ho2,kv.tkf,rfl,rfl,rfl, ?_⟩
  rw[putObj_size]
  exact Nat.le_refl _
def mkD (D:Nat):Deferred:={ target:=.collected D,args:= #[]}
def zO (E:fH) (w:World) (K:Fr->aF->Prop) (a':Act) (w':World):Prop:=
 ∃D E1 w1 E' fr' h',¬E.lock D/\dD E w E1 w1/\dD { E1 with lock:=λg=>E1.lock g\/g=D} w1 E' w'/\eI E' h' w'/\cI E' w' fr' a'.tmps.toList/\a'.defers= [mkD D]/\w'.heap[D]? =some (.deferred (some []))/\K fr' h'
def FP (D:Nat) (E:fH) (w:World) (K:Fr->aF->Prop) (a':Act) (w':World):Prop:=
 ∃E' fr' h',dD E w E' w'/\eI E' h' w'/\cI E' w' fr' a'.tmps.toList/\a'.defers= [mkD D]/\K fr' h'
def HS (P:Program) (c:Code) (Q:Exit->Fr->aF->Prop) (fr:Fr) (h:aF):Prop:=
 ∀E w a,eI E h w->cI E w fr a.tmps.toList->a.defers= []->c.wpIn Fence.wide 0 P (λe a' w'=>zO E w (Q e) a' w') a w
def YR (P:Program) (c:Code) (Q:Exit->Fr->aF->Prop) (fr:Fr) (h:aF):Prop:=
 ∀D E w a,eI E h w->cI E w fr a.tmps.toList->a.defers= [mkD D]->c.wpIn Fence.wide 0 P (λe a' w'=>FP D E w (Q e) a' w') a w
def AOd (P:Program) (ops:Array Oper) (l:List Oper) (K:Fr->aF->Prop) (fr:Fr) (h:aF):Prop:=
 ∀D E w a,eI E h w->cI E w fr a.tmps.toList->a.defers= [mkD D]->∀Q,(∀a' w',FP D E w K a' w'->Q .normal a' w')->wpListIn Fence.wide 0 P ops Q l a w
theorem FP.trans {D:Nat} {E E':fH} {w w':World} {K:Fr->aF->Prop} {a'':Act} {w'':World} (k:dD E w E' w') (h:FP D E' w' K a'' w''):FP D E w K a'' w'':=
 let ⟨E'',fr',h',h1,h2,h3,h4,h5⟩:=h; ⟨E'',fr',h',k.trans h1,h2,h3,h4,h5⟩
theorem zO.trans {E E':fH} {w w':World} {K:Fr->aF->Prop} {a'':Act} {w'':World} (k:dD E w E' w') (h:zO E' w' K a'' w''):zO E w K a'' w'':=by
 obtain⟨D,E1,w1,E2,fr',h',n,k1,k2,r,v,d,c,q⟩:=h
 exact⟨D,E1,w1,E2,fr',h',λe=>n ((k.lockEq D).2 e),k.trans k1,k2,r,v,d,c,q⟩
theorem zO.mono {E:fH} {w:World} {K K':Fr->aF->Prop} {a':Act} {w':World} (hk:∀fr h,K fr h->K' fr h) (h:zO E w K a' w'):zO E w K' a' w':=
 let ⟨D,E1,w1,E2,fr',h',n,k1,k2,r,v,d,c,q⟩:=h; ⟨D,E1,w1,E2,fr',h',n,k1,k2,r,v,d,c,hk _ _ q⟩
section
variable {P:Program} {Q:Exit->Fr->aF->Prop} {fr:Fr} {h:aF} {ops:Array Oper} {K:Fr->aF->Prop}
theorem S1 (hk:K fr h):AOd P ops [] K fr h:=λD E w a r v d _ hQ=>hQ a w ⟨E,fr,h,dD.refl E w,r,v,d,hk⟩
theorem BI {o:Oper} {l:List Oper} (hg:o.guard=none) (hd:nd o.op=true) (ho:jG P o (λx h'=>AOd P ops l K (iK fr o.dst x) h') fr h):AOd P ops (o::l) K fr h:=by
 intro D E w a r v d Q hQ
 refine wpListIn_plain hg λK' hK'=>JE (ro:=none) hd (ho E w a r (λy _=>sB v y) K' Q ?_)
 intro x u w' E' h' k r' vx kx
 refine hK' _ _ (kx D E' w' _ r' (l6 _ (bW k _ _ v) vx) (by rw[iP]; exact d) Q ?_)
 intro a' w'' p
 exact hQ _ _ (p.trans k)
theorem PY {id:Nat} {l:List Oper} (hl:AOd P l.toArray l (Q .normal) fr h):YR P (.region id l.toArray false) Q fr h:=
 λD E w a r v d=>wpIn_region_lit (hl D E w a r v d _ λ_ _ p=>p)
theorem S2 (hq:Q .ret fr h):YR P .ret Q fr h:=λD E w a r v d=>wpIn_ret ⟨E,fr,h,dD.refl E w,r,v,d,hq⟩
theorem S3 {x y:Code} (hx:YR P x (Seq (YR P y Q) Q) fr h):YR P (.seq x y) Q fr h:=by
 intro D E w a r v d
 refine wpIn_seq (wpIn_mono (hx D E w a r v d) ?_)
 intro e a' w' p
 cases e with
 | normal=>
  obtain⟨E',fr',h',k,r',v',d',q⟩:=p
  exact wpIn_mono (q D E' w' a' r' v' d') λ_ _ _ p'=>p'.trans k
 | exit id=>exact p
 | goto l=>exact p
 | ret=>exact p
 | panic ch=>exact p
 | outgrown=>exact p
theorem gA.awm {c:Code} {fr':Fr} {h':aF} (le:gA fr' h' fr h) (hc:HS P c Q fr' h'):HS P c Q fr h:=by
 intro E w a r v d
 obtain⟨E',k,r',v'⟩:=le E w _ r v
 exact wpIn_mono (hc E' w a r' v' d) λ_ _ _ p=>p.trans k
theorem JH {x y:Code} (hx:AW P x (λe fr h=>e= .normal/\HS P y Q fr h) fr h):HS P (.seq x y) Q fr h:=by
 intro E w a r v d
 refine wpIn_seq (wpIn_mono (wpIn_wide.2 (hx E w a r v d)) ?_)
 rintro e a' w' ⟨E',fr',h',k,r',v',d',rfl,q⟩
 exact wpIn_mono (q E' w' a' r' v' d') λ_ _ _ p'=>p'.trans k
theorem PZ {x y:Code} (hx:HS P x (λe fr h=>e= .normal/\YR P y Q fr h) fr h):HS P (.seq x y) Q fr h:=by
 intro E w a r v d
 refine wpIn_seq (wpIn_mono (hx E w a r v d) ?_)
 rintro e a' w' ⟨D,E1,w1,E2,fr',h',n,k1,k2,r',v',d',c,rfl,q⟩
 refine wpIn_mono (q D E2 w' a' r' v' d') λe a'' w'' p'=> ?_
 obtain⟨E3,fr3,h3,k3,r3,v3,d3,q3⟩:=p'
 exact⟨D,E1,w1,E3,fr3,h3,n,k1,k2.trans k3,r3,v3,d3,(k3.lock D ((k2.lockEq D).2 (.inr rfl))).trans c,q3⟩
theorem KZ {id:Nat} {c:Code} (hc:HS P c (λe fr h=>e= .normal/\Q .normal fr h) fr h):HS P (.block id c) Q fr h:=by
 intro E w a r v d
 refine wpIn_block (wpIn_mono (hc E w a r v d) ?_)
 intro e a' w' p
 have e0:e= .normal:=by
  obtain⟨D,E1,w1,E2,fr',h',n,k1,k2,r',v',d',c,e0,q⟩:=p
  exact e0
 subst e0
 exact p.mono λ_ _ q=>q.2
theorem AI {f:FuncId} {fn:Func} {c:Code} {args:List AV} {Q:AV->aF->Prop} (hf:P.funcs[f]? =some fn) (hb:fn.body=some c)
    (hc:HS P c (dW P fn.results.toList Q) (args++List.replicate (fn.ntmps - args.length) (.sc undef)) h):aM P f args h Q:=by
  intro E w vs r v
  refine callsIn_wide.1 (callsIn_of_wp_marks (n:=0) hf hb trivial ?_)
  have hl:args.length=vs.size:=by simpa using cJ v
  have hv:cI E w (args++List.replicate (fn.ntmps - args.length) (.sc undef)) (vs++Array.replicate (fn.ntmps - vs.size) undef).toList:=by
    rw[toList_append,<- hl]
    refine cL v ?_
    have:=oJ (E:=E) (w:=w) (List.replicate (fn.ntmps - args.length) undef)
    simpa using this
  refine wpIn_mono (hc E w { tmps:=vs++Array.replicate (fn.ntmps - vs.size) undef,defers:=[]} r hv rfl) ?_
  intro e a' w' p
  obtain⟨D,E1,w1,E2,fr',h',n,k1,k2,r',v',d',c,q⟩:=p
  have hD:E2.lock D:=(k2.lockEq D).2 (.inr rfl)
  have h1:∀g,E1.lock g->E2.lock g:=λg hg=>(k2.lockEq g).2 (.inl hg)
  have r3:eI { E2 with lock:=E1.lock} h' w':=r'.relock E1.lock (λk g ha hg=>(r'.dis k g ha).1 (h1 g hg)) (λg hg=>r'.lkb g (h1 g hg))
  have k3:dD E w { E2 with lock:=E1.lock} w':=k1.trans (k2.unlock E1.lock λg hg=>.inl hg)
  obtain⟨r4,k4⟩:=r3.turnK (ob':=.deferred none) c rfl rfl (λk ha=>(r'.dis k D ha).1 hD) (λe=>n ((k1.lockEq D).1 e))
  have k5:=k3.trans k4
  have v4:cI { E2 with lock:=E1.lock} (w'.putObj D (.deferred none)) fr' a'.tmps.toList:=bW k4 _ _ (o9 v')
  have fin:∀x y h'',uY P h' fr' fn.results.toList=some x->iJ h'' h'->bD h'' x y->Q y h''->
      LeavesInM Fence.wide 0 P fn a'.tmps (λe w'=>∃v E' x h',e=Ending.returned v/\dD E w E' w'/\eI E' h' w'/\VR E' w' x v/\Q x h') a'.defers .returning w':=by
    intro x y h'' hx hs hl hq
    rw[d']
    obtain⟨u,g1,g2⟩:=rC r4 v4 hx
    obtain⟨E'',k'',r''⟩:=r4.drop hs
    exact⟨nofun,.inl ⟨D,_,rfl,run_takeDeferred c,u,g1,u,E'',y,h'',rfl,k5.trans k'',r'',hl _ _ _ r'' (kO k'' _ _ g2),hq⟩⟩
  cases e with
  | normal=>obtain⟨x,y,h'',q1,q2,q3,q4⟩:=q; exact fin x y h'' q1 q2 q3 q4
  | ret=>obtain⟨x,y,h'',q1,q2,q3,q4⟩:=q; exact fin x y h'' q1 q2 q3 q4
  | exit id=>exact q.elim
  | goto l=>exact q.elim
  | panic ch=>exact q.elim
  | outgrown=>exact q.elim
theorem LA {g:Operand} {ps:Array Tmp} {assign body:Code} {f:FuncId} {caps:List AV} {Kr:aF->Prop} (hg:ev fr g= .fn (.func f) caps) (hb:aP P f=true)
    (hit:∀(l D:Nat) (rec:Loop),rec.state= .ready->rec.pending=none->rec.params=ps->rec.assign=assign->rec.body=body->∀E w (vs:Array Value),xC l D rec fr E w->eI E h w->cI E w (.fn (.yield l) []::caps) vs.toList->
      CallsIn Fence.wide 0 P f vs w (λe w'=>∃v E' h',e= .returned v/\dD E w E' w'/\eI E' h' w'/\Kr h'))
    (hq:∀h',Kr h'->Q .normal fr h'):HS P (.rangeFunc g ps assign body) Q fr h:=by
  intro E w a r v d
  have vg:=sB v g
  rw[hg] at vg
  simp only[VR] at vg
  obtain⟨cs,eg,vc⟩:=vg
  refine wpIn_rangeFunc λfn _=> ?_
  obtain⟨rec,hrec⟩:∃rec:Loop,rec= { state:=.ready,pending:=none,fn,tmps:=a.tmps,params:=ps,assign,body,defers:=w.heap.size}:=⟨_,rfl⟩
  obtain⟨W1,hW1⟩:∃W1,(w.alloc (.deferred (some []))).alloc (.loop rec)=W1:=⟨_,rfl⟩
  have hL1:W1.heap[w.heap.size+1]? =some (.loop rec):=by
    rw[<- hW1]; have:=World.alloc_heap_new (w.alloc (.deferred (some []))) (.loop rec); rwa [World.size_alloc] at this
  have hK1:W1.heap[w.heap.size]? =some (.deferred (some [])):=by
    rw[<- hW1]
    show ((w.heap.push _).push _)[w.heap.size]? =_
    simp[Array.getElem?_push]
  obtain⟨ra,ka⟩:=r.more (.deferred (some []))
  obtain⟨rb,kb⟩:=ra.more (.loop rec)
  rw[hW1] at rb kb
  have kab:=ka.trans kb
  have hsz:W1.heap.size=w.heap.size+2:=by rw[<- hW1]; simp
  obtain⟨L,hL⟩:∃L:Nat->Prop,L=λg=>E.lock g\/g=w.heap.size\/g=w.heap.size+1:=⟨_,rfl⟩
  have hat:∀k g,E.at h k g->g < w.heap.size:=λk g ha=>r.at_lt ha
  have r1:eI { E with lock:=L} h W1:=rb.relock L
    (λk g ha hg=>by
      subst hL
      have h1:=hat k g ha
      rcases hg with hg | hg | hg
      . exact(r.dis k g ha).1 hg
      . omega
      . omega)
    (λg hg=>by
      subst hL
      rcases hg with hg | hg | hg
      . have:=r.lkb g hg; omega
      . omega
      . omega)
  have v1:cI { E with lock:=L} W1 fr a.tmps.toList:=o9 (bW kab _ _ v)
  refine⟨w.heap.size+1,[mkD w.heap.size],W1,{ target:=.fn (.func f) cs,args:= #[.func (.yield (w.heap.size+1)) #[] #[]]},W1,f, #[.func (.yield (w.heap.size+1)) #[] #[]]++cs,W1, ?_, ?_,λf' _=>trivial, ?_,λhh=>(by cases hh), ?_⟩
  . rw[<- hW1,hrec]; exact run_enterLoop_outer _ _ _ _ _
  . simp only[resolve,eg]
    simp[go_sem]
  . simp[invoke,sF hb]
  . have hI:xC (w.heap.size+1) w.heap.size rec fr { E with lock:=L} W1:=⟨by subst hL; exact .inr (.inr rfl),hL1,by subst hL; exact .inr (.inl rfl),hK1,by rw[hrec]; exact v1⟩
    refine(hit _ _ rec (by rw[hrec]) (by rw[hrec]) (by rw[hrec]) (by rw[hrec]) (by rw[hrec]) _ W1 _ hI r1 ?_).mono ?_
    . rw[toList_append]
      refine cL (xs:=[.fn (.yield (w.heap.size+1)) []]) ?_ (o9 (bW kab _ _ vc))
      simp only[cI,VR,List.toList_toArray]
      exact⟨⟨#[],rfl,by simp[cI]⟩,trivial⟩
    . rintro e W3 ⟨u,E3,h',rfl,k3,r3,kh⟩
      obtain⟨i1,i2,i3,i4,i5⟩:=xC.stb _ _ _ _ k3 hI
      refine⟨none,_,by have:=run_endLoop (P:=P) i2 (by rw[hrec]; simp); rw[hrec] at this; exact this, ?_⟩
      have hlo:∀g,(E.lock g\/g=w.heap.size)->L g:=λg hg=>by subst hL; exact hg.elim .inl λe=>.inr (.inl e)
      have hlo3:∀g,(E.lock g\/g=w.heap.size)->E3.lock g:=λg hg=>(k3.lockEq g).2 (hlo g hg)
      have r4:eI { E3 with lock:=λg=>E.lock g\/g=w.heap.size} h' W3:=r3.relock _ (λk g ha hg=>(r3.dis k g ha).1 (hlo3 g hg)) (λg hg=>r3.lkb g (hlo3 g hg))
      have k4:dD { E with lock:=λg=>E.lock g\/g=w.heap.size} W1 { E3 with lock:=λg=>E.lock g\/g=w.heap.size} W3:=dD.unlock (E:=E) (L:=L) _ hlo k3
      obtain⟨r5,k5⟩:=r4.turnK (ob':=.loop { rec with state:=.exhausted}) i2 rfl rfl (λk ha=>(r3.dis k _ ha).1 i1) (λhh=>by
        rcases hh with hh | hh
        . have:=r.lkb _ hh; omega
        . omega)
      rw[hrec] at r5 k5
      refine⟨w.heap.size,E,W1,_,fr,h',λhh=>by have:=r.lkb _ hh; omega,kab,k4.trans k5,r5, ?_,by rw[d]; rfl, ?_,hq h' kh⟩
      . have i5':cI E3 W3 fr a.tmps.toList:=by rw[hrec] at i5; exact i5
        exact bW k5 _ _ (o9 i5')
      . rw[putObj_heap_other (by omega)]; exact i4
end
section
variable {P:Program} {Q:Exit->Fr->aF->Prop} {h:aF} {n:Nat}
theorem JI {args:List AV} {ntm:Nat} (hn:ntm=n) (hle:ble args.length n=true):gA (fm n (CC 0 args).k) h (args++List.replicate (ntm - args.length) (.sc undef)) h:=by
 have hle:=Nat.le_of_ble_eq_true hle
 subst hn
 rw[GR]
 refine gA.of (iJ.refl h) (nG ?_ ?_)
 ·rw[lF,List.length_append,List.length_replicate]; omega
 ·intro i x y hx hy
  rw[pN] at hy
  split at hy
  ·cases hy
   have e:=uZ (ntm - args.length) 0 args i
   rw[Nat.zero_add] at e
   rw[e]
   by_cases hi:i < args.length
   ·rw[List.getElem?_append_left hi] at hx
    simp only[List.getD,List.getElem?_append_left hi,hx,Option.getD_some]
    exact bD.refl _ _
   ·simp only[List.getD,List.getElem?_append_right (Nat.le_of_not_lt hi),List.getElem?_replicate]
    split<;>exact bD.any _ _
  ·cases hy
theorem ACm {f:FuncId} {fn:Func} {c:Code} {args:List AV} {Q:AV->aF->Prop} (n:Nat) (rs:List ResultVar) (hf:P.funcs[f]? =some fn) (hb:fn.body=some c) (hn:fn.ntmps=n) (hr:fn.results.toList=rs) (hle:ble args.length n=true)
    (hc:HS P c (dW P rs Q) (fm n (CC 0 args).k) h):aM P f args h Q:=by
  refine AI hf hb ?_
  rw[hr]
  exact(JI hn hle).awm hc
theorem aI0 {I:fH->World->Prop} (hI:QI I) {f:FuncId} {fn:Func} {c:Code} {args:List AV} {K:aF->Prop} (n:Nat) (hf:P.funcs[f]? =some fn) (hb:fn.body=some c) (hn:fn.ntmps=n) (hr:fn.results.toList= []) (hle:ble args.length n=true)
    (hc:rX I none P c (λe fr h=>(e= .normal\/e= .ret)/\∃h' g,K h'/\gA g h' fr h) (fm n (CC 0 args).k) h) {E:fH} {w:World} {vs:Array Value} (i:I E w) (r:eI E h w) (v:cI E w args vs.toList):
    CallsIn Fence.wide 0 P f vs w (λe w'=>∃v E' h',e= .returned v/\dD E w E' w'/\eI E' h' w'/\K h'):=by
  refine callsIn_wide.2 (calls_of_wp hf hb ?_)
  have hl:args.length=vs.size:=by simpa using cJ v
  have hv:cI E w (args++List.replicate (fn.ntmps - args.length) (.sc undef)) (vs++Array.replicate (fn.ntmps - vs.size) undef).toList:=by
    rw[toList_append,<- hl]
    refine cL v ?_
    have:=oJ (E:=E) (w:=w) (List.replicate (fn.ntmps - args.length) undef)
    simpa using this
  refine wp_mono (wpIn_wide.1 ((JI hn hle).awn hI hc E w { tmps:=vs++Array.replicate (fn.ntmps - vs.size) undef,defers:=[]} i r hv rfl)) ?_
  rintro e a' w' ⟨E1,fr1,h1,k1,r1,v1,d',q,h',fr',kh,le⟩
  obtain⟨E',k2,r',v'⟩:=le E1 w' _ r1 v1
  have k:=k1.trans k2
  have hx:uY P h' fr' fn.results.toList=some (.tup []):=by rw[hr]; rfl
  obtain⟨u,g1, -⟩:=rC r' v' hx
  rcases q with rfl | rfl
  . exact⟨d',u,g1,u,E',h',rfl,k,r',kh⟩
  . exact⟨d',u,g1,u,E',h',rfl,k,r',kh⟩
theorem P0 {x y:Code} {f:FR} {L:HL} (hk:bP h L) (hx:VC P h n x (λf L=>bP h L->HS P y Q (fm n f.k) (hp h L)) (λ_ _ _=>False) f L):HS P (.seq x y) Q (fm n f.k) (hp h L):=by
 refine JH ((hx.r hk).mono ?_)
 rintro e fr hh ⟨f',L',hk',le,q⟩
 cases e with
 | normal=>exact⟨rfl,le.awm (q hk')⟩
 | exit i=>exact q.elim
 | goto l=>exact q.elim
 | ret=>exact q.elim
 | panic c=>exact q.elim
 | outgrown=>exact q.elim
theorem P1 {I:fH->World->Prop} (hI:QI I) {x y:Code} {f:FR} {L:HL} {ke:Exit->FR->HL->Prop} (hk:bP h L) (hx:VC P h n x (λf L=>bP h L->rX I none P y Q (fm n f.k) (hp h L)) ke f L)
    (he:∀e f L fr hh,e≠ .normal->ke e f L->bP h L->gA (fm n f.k) (hp h L) fr hh->Q e fr hh):rX I none P (.seq x y) Q (fm n f.k) (hp h L):=by
  refine DL hI (PR ((hx.r hk).mono ?_))
  rintro e fr hh ⟨f',L',hk',le,q⟩
  cases e with
  | normal=>exact le.awn hI (q hk')
  | exit i=>exact he _ _ _ _ _ (by simp) q hk' le
  | goto l=>exact he _ _ _ _ _ (by simp) q hk' le
  | ret=>exact he _ _ _ _ _ (by simp) q hk' le
  | panic c=>exact he _ _ _ _ _ (by simp) q hk' le
  | outgrown=>exact he _ _ _ _ _ (by simp) q hk' le
theorem aDM {α:Type} {c:α->List AV} {xs ys:List α} {dst:Option Tmp} {a lo hi mx:Operand} {t:TypeId} {sz:Nat} {q1 q2 q3:IntKind} {x y:Int} {kvs:KV} {ty:TypeId} {pos:String} {dL:Array Edge} (hm:slc xs x y=some ys) (hy:decide (0 < y)=true) (ht:nN P t=some sz) (h0:Nat.blt 0 sz=true) (ha:dB n kvs a= .sl none sz (xs.map c))
    (hl:dB n kvs lo= .sc (.int q1 x)) (hh:dB n kvs hi= .sc (.int q2 y)) (hx:dB n kvs mx= .sc (.int q3 y)):eB P ⟨dst,.slice t a (some lo) (some hi) (some mx),ty,pos,dL,none⟩ (.sl none sz (ys.map c)) (fm n kvs) h:=by
  simp only[Nat.blt_eq] at h0
  simp only[decide_eq_true_eq] at hy
  unfold slc at hm
  split at hm
  . rename_i hc
    cases hm
    refine jZ (c:=(sz=sz/\0 < sz)/\0<=x/\x<=y/\y<=y/\y<=(xs.map c).length) ?_ ⟨⟨rfl,h0⟩,hc.1,hc.2.1,Int.le_refl _,by rw[length_map]; exact hc.2.2⟩
    have e3:LS (some (AV.sc (.int q1 x))) (.sc (.int q2 y)) (.sc (.int q3 y)) (some sz) (.sl none sz (xs.map c))=some ((sz=sz/\0 < sz)/\0<=x/\x<=y/\y<=y/\y<=(xs.map c).length,.sl none sz (((xs.take y.toNat).drop x.toNat).map c)):=by
      simp only[LS,oK,lC,bind_some]
      rw[List.map_drop,List.map_take]
    obtain⟨k,hk⟩:∃k:Nat,y=Int.ofNat (k+1):=⟨y.toNat - 1,by show y=((y.toNat - 1+1:Nat):Int); omega⟩
    show YA (some (ev (fm n kvs) lo)) (ev (fm n kvs) hi) (ev (fm n kvs) mx) (nN P t) (ev (fm n kvs) a)=_
    rw[bF,bF,bF,bF,ha,hl,hh,hx,ht]
    unfold YA
    rw[e3]
    subst hk
    rfl
  . cases hm
end
section
variable {P:Program} {Q:Exit->Fr->aF->Prop} {h:aF} {n:Nat} {I:fH->World->Prop} {ro:Option Nat}
theorem gA.aon {ops:Array Oper} {l:List Oper} {K:Fr->aF->Prop} {fr fr':Fr} {h h':aF} (hI:QI I) (le:gA fr' h' fr h) (hc:LM I ro P ops l K fr' h'):LM I ro P ops l K fr h:=by
 intro E w a i r v d Q hq hQ
 obtain⟨E',k,r',v'⟩:=le E w _ r v
 exact hc E' w a (hI _ _ _ _ k i) r' v' d Q hq λa' w' p=>hQ _ _ (p.trans k)
theorem BJ {ops:Array Oper} {l:List Oper} {K K':Fr->aF->Prop} {fr:Fr} {h:aF} (hk:∀fr h,K fr h->K' fr h) (hc:iQ P ops l K fr h):iQ P ops l K' fr h:=
 λE w a r v d Q hQ=>hc E w a r v d Q λa' w' p=>hQ _ _ (p.mono hk)
theorem S4 {T:Tr TI} {w:Bool} (hT:EA P T) (hI:QI I) (k:Nat) {id:Nat} {l:List Oper} {f:FR} {L:HL} (hd:((l.take k).all λo=>nd o.op)=true) (hk:bP h L)
    (hv:vo false T w P h n l (λf L=>bP h L->LM I ro P l.toArray (l.drop k) (Q .normal) (fm n f.k) (hp h L)) (l.take k) f L):rX I ro P (.region id l.toArray false) Q (fm n f.k) (hp h L):=by
  refine PU ?_
  have h1:=PT (l:=l.take k) (l2:=l.drop k) (ro:=ro) (K:=Q .normal) hI hd (BJ (λfr hh q=> ?_) (MG hT _ f L hv hk))
  . rw[List.take_append_drop] at h1
    exact h1
  . obtain⟨f',L',hk',le,q⟩:=q
    exact le.aon hI (q hk')
theorem S5 {T:Tr TI} {w:Bool} (hT:EA P T) (hI:QI I) {l0 l:List Oper} {K:Fr->aF->Prop} {f:FR} {L:HL} (hq:∀fr' h' fr h,gA fr' h' fr h->K fr' h'->K fr h) (hd:(l.all λo=>nd o.op)=true) (hk:bP h L)
    (hv:vo false T w P h n l0 (λf L=>bP h L->K (fm n f.k) (hp h L)) l f L):LM I ro P l0.toArray l K (fm n f.k) (hp h L):=by
  have h1:=PT (l:=l) (l2:=[]) (ro:=ro) (K:=K) hI hd (BJ (λfr hh q=> ?_) (MG hT _ f L hv hk))
  . rw[List.append_nil] at h1
    exact h1
  . obtain⟨f',L',hk',le,q⟩:=q
    exact SZ (hq _ _ _ _ le (q hk'))
theorem HT {l D p:Nat} {rec:Loop} {fr0:Fr} {x:AV} {Kr:aF->Prop} {y b:Operand} {dst:Option Tmp} {ts:Array TypeId} {ty:TypeId} {pos:String} {dL:Array Edge} {l2:List Oper} {ops:Array Oper} {K:Fr->aF->Prop} {f:FR}
    (hp:rec.params= #[p]) (hy:dB n f.k y= .fn (.yield l) []) (hx:dB n f.k b=x) (hr:YQ P l D p rec fr0 x h Kr)
    (k:∀h',Kr h'->LM (xC l D rec fr0) none P ops l2 K (fm n (f.put dst (.sc (.bool true))).k) h'):
    LM (xC l D rec fr0) none P ops (⟨dst,.call { callee:=.value y,args:= #[b],argTypes:=ts},ty,pos,dL,none⟩::l2) K (fm n f.k) h:=by
  refine KY hp (by rw[bF]; exact hy) (by rw[bF]; exact hx) hr λh' kh=> ?_
  rw[jD,<- FR.put_k]
  exact k h' kh
theorem S6 {K:AV->aF->Prop} {o:Oper} {h1 h2:aF} {t:Nat} {kvs:KV} (v:AV) (hs:iJ h2 h1) (hv:bD h2 (lk n kvs t) v) (ho:jG P o K (fm n (kp kvs t v)) h2):jG P o K (fm n kvs) h1:=by
 intro E w a r hva Nx Qx hn
 obtain⟨E',k,r'⟩:=r.drop hs
 refine ho E' w a r' (λy hy=> ?_) Nx Qx λx u w' E'' h' k'=>hn x u w' E'' h' (k.trans k')
 have h1:=kO k _ _ (hva y hy)
 rw[bF] at h1 ⊢
 cases y with
 | tmp s=>
  simp only[dB] at h1 ⊢
  by_cases e:t=s
  ·subst e
   have h3:=hv E' w _ r' h1
   rw[lB]
   split
   ·rw[lN]; exact h3
   ·simp only[VR]
  ·rw[lB] at h1 ⊢
   rw[pO _ _ e]; exact h1
 | const v=>exact h1
 | global g=>exact h1
 | func g=>exact h1
theorem XO {x y:Code} {f:FR} (g:FR) (hx:VC P h n x (λf L=>L= []/\LX h n f [] g []) (λ_ _ _=>False) f []) (hy:HS P y Q (fm n g.k) (hp h [])):HS P (.seq x y) Q (fm n f.k) (hp h []):=by
 refine JH ((hx.r trivial).mono ?_)
 rintro e fr hh ⟨f',L',hk',le,q⟩
 cases e with
 | normal=>
  obtain⟨rfl,hl⟩:=q
  exact⟨rfl,(le.trans (hl trivial).2).awm hy⟩
 | exit i=>exact q.elim
 | goto l=>exact q.elim
 | ret=>exact q.elim
 | panic c=>exact q.elim
 | outgrown=>exact q.elim
theorem aDN {x:Code} {f:FR} {L:HL} (hq:∀fr' h' fr h,gA fr' h' fr h->Q .normal fr' h'->Q .normal fr h) (hk:bP h L) (hx:VC P h n x (λf L=>bP h L->Q .normal (fm n f.k) (hp h L)) (λ_ _ _=>False) f L):rX I none P x Q (fm n f.k) (hp h L):=by
 refine PR ((hx.r hk).mono ?_)
 rintro e fr hh ⟨f',L',hk',le,q⟩
 cases e with
 | normal=>exact hq _ _ _ _ le (q hk')
 | exit i=>exact q.elim
 | goto l=>exact q.elim
 | ret=>exact q.elim
 | panic c=>exact q.elim
 | outgrown=>exact q.elim
end
end Go.Vm
