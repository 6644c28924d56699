import Derived.Test.YtbbifdfldpfphaaGreatK9P10
import Derived.Test.YtbbifdfldpfphaaGreatK9P3
import Derived.RangeFuncLeaves
import Derived.RangeFuncRecord
import Derived.OrdersIn
import Derived.Test.YtbbifdfldpfphaaGreatK9P4
import Derived.Test.YtbbifdfldpfphaaGreatK9P5
import Derived.Test.YtbbifdfldpfphaaGreatK9P9
import Derived.Test.YtbbifdfldpfphaaGreatK9P7
set_option linter.unusedSimpArgs false
set_option linter.unusedVariables false
set_option maxHeartbeats 4000000
set_option maxRecDepth 100000
open Array(toList_append)
open Bool(and_eq_true or_eq_true)
open ByteArray(empty)
open Go.IntKind(wrap)
open List(all_cons all_eq_true any_eq_false any_eq_true filter_sublist getElem?_set_self length_drop length_map length_set length_take map map_map mem_append mem_append_left mem_cons mem_cons_of_mem mem_cons_self mem_filter mem_map mem_map_of_mem mem_or_eq_of_mem_set mem_singleton nil_sublist pairwise_append pairwise_cons pairwise_map)
open Nat(ble le_succ_of_le le_trans)
open Go.Oper(semAt upon)
open Option(bind_some)
open Go.Proofs.Tryz(prog)
open Go.World(putObj_heap_other putObj_heap_same putObj_size)
namespace Go.Proofs.YtbbifdfldpfphaaGreat
open Go.Vm
structure Bd (n:Nat) (c:aA):Prop where
 k:∀x∈c.Chunks,x.Locs.length<=n
 s:∀x∈c.Snaps,x.Locs.length<=n
 e:∀x∈c.Exps,x.Locs.length<=n
 f:∀x∈c.Vols,x.Files<=n
 q:c.Seq<=n
theorem Bd.mono {n m:Nat} {c:aA} (h:Bd n c) (hm:n<=m):Bd m c:=⟨λx hx=>le_trans (h.k x hx) hm,λx hx=>le_trans (h.s x hx) hm,λx hx=>le_trans (h.e x hx) hm,λx hx=>by have:=h.f x hx; omega,by have:=h.q; omega⟩
theorem JQ {v f:Int} {c:aA}:∀ {l:List aE},l.Pairwise Un->∀y∈(iF v f c l).Chunks,∃z∈c.Chunks,y.Id=z.Id/\y.Staged=z.Staged/\y.Data=z.Data/\(y.Locs=z.Locs\/∃i∈l,i.Kind=1/\i.Id=z.Id/\y.Locs=fY z.Locs (jY v f i)):=fun {l}=>lD (P:=λl=>l.Pairwise Un->∀y∈(iF v f c l).Chunks,∃z∈c.Chunks,y.Id=z.Id/\y.Staged=z.Staged/\y.Data=z.Data/\(y.Locs=z.Locs\/∃i∈l,i.Kind=1/\i.Id=z.Id/\y.Locs=fY z.Locs (jY v f i)))
 (λ_ y hy=>⟨y,hy,rfl,rfl,rfl,.inl rfl⟩) (λl i ih hu y hy=>by
  rw[lC] at hy
  obtain⟨y',hy',rfl⟩:=mem_map.1 hy
  obtain⟨hu1, -,hu2⟩:=pairwise_append.1 hu
  obtain⟨z,hz,e1,e2,e3,e4⟩:=ih hu1 y' hy'
  by_cases k:i.Kind=1/\y'.Id=i.Id
  ·rw[show pR i (jY v f i) y'= { y' with Locs:=fY y'.Locs (jY v f i)} from if_pos k]
   refine⟨z,hz,e1,e2,e3,.inr ⟨i,by simp,k.1,by rw[<- k.2,e1], ?_⟩⟩
   rcases e4 with e4 | ⟨j,hj,j1,j2,j3⟩
   ·show fY y'.Locs _=_
    rw[e4]
   ·exact absurd ⟨by omega,λ_=>by rw[j2,<- e1,k.2],λh=>absurd j1 h⟩ (hu2 j hj i mem_cons_self)
  ·rw[show pR i (jY v f i) y'=y' from if_neg k]
   exact⟨z,hz,e1,e2,e3,e4.imp_right λ⟨j,hj,h⟩=>⟨j,mem_append_left _ hj,h⟩⟩) l
theorem P5 {v f:Int} {c:aA}:∀ {l:List aE},l.Pairwise Un->∀y∈(iF v f c l).Snaps,∃z∈c.Snaps,y.Seq=z.Seq/\y.Man=z.Man/\(y.Locs=z.Locs\/∃i∈l,i.Kind=2/\i.Seq=z.Seq/\y.Locs=fY z.Locs (jY v f i)):=fun {l}=>lD (P:=λl=>l.Pairwise Un->∀y∈(iF v f c l).Snaps,∃z∈c.Snaps,y.Seq=z.Seq/\y.Man=z.Man/\(y.Locs=z.Locs\/∃i∈l,i.Kind=2/\i.Seq=z.Seq/\y.Locs=fY z.Locs (jY v f i)))
 (λ_ y hy=>⟨y,hy,rfl,rfl,.inl rfl⟩) (λl i ih hu y hy=>by
  rw[lC] at hy
  obtain⟨y',hy',rfl⟩:=mem_map.1 hy
  obtain⟨hu1, -,hu2⟩:=pairwise_append.1 hu
  obtain⟨z,hz,e1,e2,e4⟩:=ih hu1 y' hy'
  by_cases k:i.Kind=2/\y'.Seq=i.Seq
  ·rw[show xI i (jY v f i) y'= { y' with Locs:=fY y'.Locs (jY v f i)} from if_pos k]
   refine⟨z,hz,e1,e2,.inr ⟨i,by simp,k.1,by rw[<- k.2,e1], ?_⟩⟩
   rcases e4 with e4 | ⟨j,hj,j1,j2,j3⟩
   ·show fY y'.Locs _=_
    rw[e4]
   ·exact absurd ⟨by omega,λh=>absurd h (by omega),λ_=>by rw[j2,<- e1,k.2]⟩ (hu2 j hj i mem_cons_self)
  ·rw[show xI i (jY v f i) y'=y' from if_neg k]
   exact⟨z,hz,e1,e2,e4.imp_right λ⟨j,hj,h⟩=>⟨j,mem_append_left _ hj,h⟩⟩) l
theorem BW {v f:Int} {c:aA}:∀ {l:List aE},l.Pairwise Un->∀y∈(iF v f c l).Exps,(∃z∈c.Exps,y.Seq=z.Seq/\y.Of=z.Of/\(y.Locs=z.Locs\/∃i∈l,i.Kind=3/\i.Seq=z.Seq/\y.Locs=fY z.Locs (jY v f i)))\/∃i∈l,i.Kind=3/\y= { Seq:=i.Seq,Of:=i.Of,Locs:=[jY v f i]}:=fun {l}=>lD (P:=λl=>l.Pairwise Un->∀y∈(iF v f c l).Exps,(∃z∈c.Exps,y.Seq=z.Seq/\y.Of=z.Of/\(y.Locs=z.Locs\/∃i∈l,i.Kind=3/\i.Seq=z.Seq/\y.Locs=fY z.Locs (jY v f i)))\/∃i∈l,i.Kind=3/\y= { Seq:=i.Seq,Of:=i.Of,Locs:=[jY v f i]})
 (λ_ y hy=>.inl ⟨y,hy,rfl,rfl,.inl rfl⟩) (λl i ih hu y hy=>by
  rw[lC] at hy
  obtain⟨hu1, -,hu2⟩:=pairwise_append.1 hu
  have old:∀y'∈(iF v f c l).Exps,(∃z∈c.Exps,y'.Seq=z.Seq/\y'.Of=z.Of/\(y'.Locs=z.Locs\/∃j∈l++ [i],j.Kind=3/\j.Seq=z.Seq/\y'.Locs=fY z.Locs (jY v f j)))\/∃j∈l++ [i],j.Kind=3/\y'= { Seq:=j.Seq,Of:=j.Of,Locs:=[jY v f j]}:=λy' hy'=>by
   rcases ih hu1 y' hy' with⟨z,hz,e1,e2,e4⟩ | ⟨j,hj,h⟩
   ·exact .inl ⟨z,hz,e1,e2,e4.imp_right λ⟨j,hj,h⟩=>⟨j,mem_append_left _ hj,h⟩⟩
   ·exact .inr ⟨j,mem_append_left _ hj,h⟩
  have hy:y∈(if i.Kind=3 then mO (iF v f c l).Exps i (jY v f i) else (iF v f c l).Exps):=hy
  split at hy
  ·rename_i k3
   unfold mO at hy
   rcases mem_append.1 hy with h | h
   ·exact old y (mem_filter.1 h).1
   ·rcases mem_cons.1 h with rfl | h
    ·have hs:=zR (iF v f c l).Exps i
     rcases JL (iF v f c l).Exps i with ht | ht
     ·rcases ih hu1 _ ht with⟨z,hz,e1,e2,e4⟩ | ⟨j,hj,j1,j3⟩
      ·refine .inl ⟨z,hz,e1,e2,.inr ⟨i,by simp,k3,by omega, ?_⟩⟩
       rcases e4 with e4 | ⟨j,hj,j1,j2,j3⟩
       ·show fY (wC _ i).Locs _=_
        rw[e4]
       ·exact absurd ⟨by omega,λh=>absurd h (by omega),λ_=>by omega⟩ (hu2 j hj i mem_cons_self)
      ·rw[j3] at hs
       exact absurd ⟨by omega,λh=>absurd h (by omega),λ_=>hs⟩ (hu2 j hj i mem_cons_self)
     ·refine .inr ⟨i,by simp,k3, ?_⟩
      rw[ht]
      simp[fY]
    ·exact old y (mem_filter.1 h).1
  ·exact old y hy) l
theorem P6 {c:aA} {d:aW} {x:aR}:∀y∈(jI c d x).Chunks,∃z∈(iF d.Vol (x.Files+1) (ws c d.Vol x) d.Items).Chunks,y.Id=z.Id/\y.Locs=z.Locs:=by
 have h1:∀y∈(iW c d x).Chunks,∃z∈(iF d.Vol (x.Files+1) (ws c d.Vol x) d.Items).Chunks,y.Id=z.Id/\y.Locs=z.Locs:=λy hy=>by
  unfold iW at hy
  rw[nU] at hy
  obtain⟨z,hz,rfl⟩:=mem_map.1 hy
  refine⟨z,hz,uW _ _ z, ?_⟩
  unfold dU
  generalize d.Items=l
  clear hy hz
  induction l generalizing z with
  | nil=>rfl
  | cons i l ih=>
   rw[List.foldl_cons,ih]
   unfold qZ
   split<;>rfl
 intro y hy
 unfold jI at hy
 split at hy
 ·obtain⟨w,hw,rfl⟩:=mem_map.1 hy
  obtain⟨z,hz,e1,e2⟩:=h1 w (mem_filter.1 hw).1
  exact⟨z,hz,(kD _ w).2.1.trans e1,(kD _ w).1.trans e2⟩
 ·exact h1 y hy
theorem P7 {c:aA} {d:aW} {x:aR}:(jI c d x).Seq=(iF d.Vol (x.Files+1) (ws c d.Vol x) d.Items).Seq/\(jI c d x).Exps=(iF d.Vol (x.Files+1) (ws c d.Vol x) d.Items).Exps/\(jI c d x).Snaps=(iF d.Vol (x.Files+1) (ws c d.Vol x) d.Items).Snaps.filter λs=> !jE d.Items s:=by
 have e:iW c d x= { iF d.Vol (x.Files+1) (ws c d.Vol x) d.Items with Chunks:=(iF d.Vol (x.Files+1) (ws c d.Vol x) d.Items).Chunks.map (dU x.Pool d.Items)}:=nU _ _ _ _ _
 have e1:(iW c d x).Seq=(iF d.Vol (x.Files+1) (ws c d.Vol x) d.Items).Seq:=by rw[e]
 have e2:(iW c d x).Exps=(iF d.Vol (x.Files+1) (ws c d.Vol x) d.Items).Exps:=by rw[e]
 have e3:(iW c d x).Snaps=(iF d.Vol (x.Files+1) (ws c d.Vol x) d.Items).Snaps:=by rw[e]
 rw[<- e1,<- e2,<- e3]
 unfold jI
 split<;>exact⟨rfl,rfl,rfl⟩
theorem P8 {v f:Int} {q:Int}:∀ {l:List aE} {c:aA},c.Seq<=q->(∀i∈l,i.Kind=3->i.Seq+1<=q)->(iF v f c l).Seq<=q
  | [],_,h,_=>h
  | i :: l, c, h, hi => P8 (l := l) (by
      show (if i.Kind=3 then max c.Seq (i.Seq+1) else c.Seq)<=q
      split
      . rename_i k; have:=hi i mem_cons_self k; omega
      . exact h) λj hj=>hi j (mem_cons_of_mem _ hj)
theorem YC {n:Nat} {c:aA} {d:aW} {e:aA} (h:Bd n c) (G:Gd c) (hd:JF d) (hm:Mk c d) (hr:u6 c.Chunks) (he:Eff c d e):Bd (n+1) e:=by
 have hq:=h.q
 cases he with
 | add k q nn w=>
  subst w
  refine⟨nA (P:=λx=>x.Locs.length<=n+1) (λx hx=>le_succ_of_le (h.k x hx)) (λ_ _=>by simp) λx hx _ _=>hx,λs hs=> ?_,λx hx=>le_succ_of_le (h.e x hx),λx hx=>by have:=h.f x hx; omega,by show c.Seq+1<=_; omega⟩
  rcases mem_append.1 hs with h1 | h1
  ·exact le_succ_of_le (h.s s h1)
  ·rw[mem_singleton.1 h1]; simp
 | drop k q w=>
  subst w
  refine⟨λy hy=> ?_,λs hs=>le_succ_of_le (h.s s (mem_filter.1 hs).1),λx hx=>le_succ_of_le (h.e x hx),λx hx=>by have:=h.f x hx; omega,by show c.Seq<=_; omega⟩
  obtain⟨z,hz,rfl⟩:=mem_map.1 hy
  rw[(kD _ z).1]
  exact le_succ_of_le (h.k z (mem_filter.1 hz).1)
 | ret k x hx q w=>
  subst w
  have lfl:∀(l:List aS),(lf d.Vol l).length<=l.length:=λl=>List.length_filter_le _ _
  refine⟨λy hy=> ?_,λy hy=> ?_,λy hy=> ?_,λy hy=> ?_,by show c.Seq<=_; omega⟩
  ·obtain⟨z,hz,rfl⟩:=mem_map.1 (mem_filter.1 hy).1
   exact le_trans (lfl _) (le_succ_of_le (h.k z hz))
  ·obtain⟨z,hz,rfl⟩:=mem_map.1 hy
   exact le_trans (lfl _) (le_succ_of_le (h.s z hz))
  ·obtain⟨z,hz,rfl⟩:=mem_map.1 (mem_filter.1 hy).1
   exact le_trans (lfl _) (le_succ_of_le (h.e z hz))
  ·rcases mem_or_eq_of_mem_set hy with h1 | rfl
   ·have:=h.f y h1; omega
   ·simp only; omega
 | rel k x hx q w=>
  subst w
  refine⟨λy hy=>le_succ_of_le (h.k y hy),λy hy=>le_succ_of_le (h.s y hy),λy hy=>le_succ_of_le (h.e y hy),λy hy=> ?_,by show c.Seq<=_; omega⟩
  rcases mem_or_eq_of_mem_set hy with h1 | rfl
  ·have:=h.f y h1; omega
  ·have:=h.f x (List.mem_of_getElem? hx); simp only; omega
 | wrote k x hx q p w=>
  subst w
  have hu:=hm.un
  obtain⟨o1,o2,o3⟩:=P7 (c:=c) (d:=d) (x:=x)
  have pl:∀(l:List aS) (a:aS),l.length<=n->(fY l a).length<=n+1:=λl a hl=>by rw[lX]; omega
  refine⟨λy hy=> ?_,λy hy=> ?_,λy hy=> ?_,λy hy=> ?_, ?_⟩
  ·obtain⟨w,hw, -,e⟩:=P6 y hy
   obtain⟨z,hz, -, -, -,e2⟩:=JQ hu w hw
   rw[e]
   have hz:=h.k z hz
   rcases e2 with e2 | ⟨i, -, -, -,e2⟩<;>rw[e2]
   ·omega
   ·exact pl _ _ hz
  ·rw[o3] at hy
   obtain⟨z,hz, -, -,e2⟩:=P5 hu y (mem_filter.1 hy).1
   have hz:=h.s z hz
   rcases e2 with e2 | ⟨i, -, -, -,e2⟩<;>rw[e2]
   ·omega
   ·exact pl _ _ hz
  ·rw[o2] at hy
   rcases BW hu y hy with⟨z,hz, -, -,e2⟩ | ⟨i, -, -,rfl⟩
   ·have hz:=h.e z hz
    rcases e2 with e2 | ⟨i, -, -, -,e2⟩<;>rw[e2]
    ·omega
    ·exact pl _ _ hz
   ·simp
  ·have e:(jI c d x).Vols=c.Vols.set d.Vol.toNat { x with State:=2,Files:=x.Files+1}:=by
    have:(iW c d x).Vols=c.Vols.set d.Vol.toNat { x with State:=2,Files:=x.Files+1}:=oM _ _ _ _ _
    unfold jI
    split<;>exact this
   rw[e] at hy
   rcases mem_or_eq_of_mem_set hy with h1 | rfl
   ·have:=h.f y h1; omega
   ·have:=h.f x (List.mem_of_getElem? hx); simp only; omega
  ·rw[o1]
   refine P8 (by show c.Seq<=_; omega) λi hi k3=> ?_
   rcases hm.it with ht | ⟨s,hs,e⟩
   ·rcases(ht.a i hi).w with⟨a,_⟩ | ⟨a,_⟩ | ⟨_,_,j,_,y,y1,y2,y3⟩
    ·omega
    ·omega
    ·have:=(G.eq y (List.mem_of_getElem? y1)).1
     simp only[fI,and_eq_true,decide_eq_true_eq] at this
     omega
   ·rw[e] at hi
    rw[mem_singleton.1 hi]
    show c.Seq+1<=_
    omega
theorem YD (q:List Int):Bd 0 (nN q):=by
 refine⟨λx hx=> ?_,λx hx=> ?_,λx hx=> ?_,λx hx=> ?_, ?_⟩
 ·cases hx
 ·cases hx
 ·cases hx
 ·unfold nN at hx
  obtain⟨p,hp,rfl⟩:=mem_map.1 hx
  exact Int.le_refl _
 ·exact Int.le_refl _
theorem aJU {F:Nat} {q:List Int} {l:List nJ} (hF:1000<=F) (h1:fI q.length 1 8=true) (h2:q.all FE=true) (h3:gL gI q) (gl:gL IV l) (ho:∀a∈l.take 30,F1 a):T (ZF F q l) λc=>Sm c/\f8 c=true/\Bd 30 c:=by
 have h8:q.length<=8:=by unfold fI at h1; simp at h1; omega
 unfold ZF
 refine .bindEq (m32 hF (by omega)) ?_
 refine .loop (λs=>0<=s.2/\s.2<=30/\Sm s.1/\f8 s.1=true/\Bd s.2.toNat s.1) (λs=>(30 - s.2).toNat) (λs=>Sm s.1/\f8 s.1=true/\Bd 30 s.1) (by simp; omega) ⟨by simp,by simp,SC h8 h3,KW h1 h2,YD q⟩ (λs hs=> ?_) (λs hs=>.some hs)
 obtain⟨c,i⟩:=s
 simp only at hs
 obtain⟨s1,s2,s3,s4,s5⟩:=hs
 have G:=jP.1 s4
 have fin:Bd 30 c:=s5.mono (by omega)
 unfold DR
 refine .after (.ite (λhc=>.brk (T.ite (λhc2=> ?_) λhc2=>.brk ⟨s3,s4,fin⟩)) λhc=>.brk (T.ite (λh=>by cases h) λ_=>.brk ⟨s3,s4,fin⟩))
 have hc:=of_decide_eq_true hc
 have hc2:=of_decide_eq_true hc2
 simp only at hc hc2
 rw[wr (n:=i+1) (by omega) (by omega)]
 have go:∀c':aA,Sm c'->f8 c'=true->Bd (i+1).toNat c'->T (some (.go (c',i+1)):Option (Lp (aA×Int) aA)) (L3 (λs'=>(0<=s'.2/\s'.2<=30/\Sm s'.1/\f8 s'.1=true/\Bd s'.2.toNat s'.1)/\(30 - s'.2).toNat < (30 - i).toNat) (λs=>Sm s.1/\f8 s.1=true/\Bd 30 s.1) (λc=>Sm c/\f8 c=true/\Bd 30 c)):=λc' h5 h6 h7=>.go ⟨⟨by first | omega | (simp only; omega),by first | omega | (simp only; omega),h5,h6,h7⟩,by first | omega | (simp only; omega)⟩
 have same:Bd (i+1).toNat c:=s5.mono (by omega)
 refine .ix (by omega) (by omega) λa ea ha=>.bind _ (t66 hF ⟨s3,rng s4⟩ G λf hf=>⟨ho a (PW ea (by simp only; omega)) f hf,((gl a ha).2.2.2.1 f hf).2⟩) λy hy=> ?_
 obtain⟨hd,hm⟩:=hy
 obtain⟨e,n,he2,hn⟩:=YB hF s3 G hd hm
 refine .after (.ite (λ_=>.bindEq he2 (.after (.ite (λh0=> ?_) λ_=>.brk (.brk (go _ s3 s4 same))))) λ_=>.brk (go _ s3 s4 same))
 rcases hn with⟨hn,_⟩ | ⟨_,hS,hGe,hE⟩
 ·exact absurd (by simpa using h0) hn
 ·have hr:u6 c.Chunks:=qH.2 ⟨λx hx=>(s3.g.2.2.1 x hx).1,G.co⟩
  have:=YC s5 G hd hm hr hE
  rw[show i.toNat+1=(i+1).toNat by omega] at this
  exact .brk (.brk (go _ hS (jP.2 hGe) this))
structure Wok (n:Nat) (c:aA) (d:aW) (x:aR):Prop where
 w:Wd d
 u:d.Items.Pairwise Un
 hx:c.Vols[d.Vol.toNat]? =some x
 v:0<=d.Vol
 g:gI d.Vol
 k:jS x d=true
 p:∀i∈d.Items,jZ c i=true
 o:∀i∈d.Items,0<=i.Off/\i.Off<=16777215/\13<=i.Len/\i.Len<=8013
 e:∀i∈d.Items,i.Kind=3->0<=i.Of/\i.Of < i.Seq/\i.Seq<=n
theorem Wok.kd {n:Nat} {c:aA} {d:aW} {x:aR} (h:Wok n c d x):∀i∈d.Items,1<=i.Kind/\i.Kind<=3:=λi hi=>by
 have c1:=h.k
 unfold jS at c1
 simp only[and_eq_true,Bool.not_eq_true',any_eq_false,or_eq_true,decide_eq_true_eq,not_or,Int.not_lt] at c1
 exact c1.2 i hi
theorem JR {v f:Int} {c:aA}:∀l:List aE,∀i∈l,i.Kind=1->∀y∈(iF v f c l).Chunks,y.Id=i.Id->jY v f i∈y.Locs:=lD (λi hi=>by cases hi) λl j ih i hi k y hy e=>by
 rw[lC] at hy
 obtain⟨z,hz,rfl⟩:=mem_map.1 hy
 rw[qL] at e
 rcases mem_append.1 hi with h | h
 ·have:=ih i h k z hz e
  unfold pR
  split
  ·exact kF.2 (.inl this)
  ·exact this
 ·rw[mem_singleton.1 h] at e ⊢
  rw[mem_singleton.1 h] at k
  unfold pR
  rw[if_pos ⟨k,e⟩]
  exact kF.2 (.inr rfl)
theorem YE {vs:List aR} {l:List aS} {a:aS} (h:Lk vs l) (hn:l.length < 200) (ha:tX vs a=true) (hw:∀y∈l,nk y a):Lk vs (fY l a):=by
 refine⟨by rw[lX]; omega,λy hy=> ?_, ?_⟩
 ·rcases kF.1 hy with h1 | rfl
  ·exact h.a y h1
  ·exact ha
 ·rw[wQ h.o (by omega)]
  refine pairwise_append.2 ⟨h.o.sublist filter_sublist,pairwise_cons.2 ⟨λy hy=>(mem_filter.1 hy).2,h.o.sublist filter_sublist⟩,λy hy z hz=> ?_⟩
  obtain⟨h1,h2⟩:=mem_filter.1 hy
  have h2:jV y a=false:=by simpa using h2
  have hya:jV a y=true:=by
   have hk:=hw y h1
   unfold nk at hk
   have h3:¬jV y a=true:=by rw[h2]; decide
   rw[xB] at h3 ⊢
   omega
  rcases mem_cons.1 hz with rfl | hz
  ·exact hya
  ·exact zA y a z hya (mem_filter.1 hz).2
theorem YF {vs:List aR} {y:aS} {v:Nat} {x:aR} (h:tX vs y=true) (hx:vs[v]? =some x):tX (vs.set v { x with State:=2,Files:=x.Files+1}) y=true:=by
 have hl:=(List.getElem?_eq_some_iff.1 hx).1
 by_cases e:y.Vol.toNat=v
 ·subst e
  unfold tX at h ⊢
  rw[length_set,getElem?_set_self hl]
  rw[hx] at h
  simp only[and_eq_true,beq_iff_eq,fI,decide_eq_true_eq] at h ⊢
  exact⟨⟨⟨h.1.1.1,trivial,h.1.1.2.2.1,by omega⟩,h.1.2⟩,h.2⟩
 ·exact JN h e
theorem Lk.up {vs:List aR} {l:List aS} {v:Nat} {x:aR} (h:Lk vs l) (hx:vs[v]? =some x):Lk (vs.set v { x with State:=2,Files:=x.Files+1}) l:=⟨h.n,λy hy=>YF (h.a y hy) hx,h.o⟩
theorem F4 {b:Int}:∀ {l:List aQ} {a:Int},l.Pairwise (λy x=>y.Seq < x.Seq)->(∀x∈l,a<=x.Seq/\x.Seq < b)->a<=b->(l.length:Int)<=b - a
 | [],a,_,_,h=>by simp; omega
 | x::l,a,hp,hb,hab=>by
  obtain⟨h1,h2⟩:=pairwise_cons.1 hp
  have hx:=hb x mem_cons_self
  have:=F4 (b:=b) (l:=l) (a:=x.Seq+1) h2 (λy hy=>⟨by have:=h1 y hy; omega,(hb y (mem_cons_of_mem _ hy)).2⟩) (by omega)
  simp only[List.length_cons]
  omega
theorem YG {n:Nat} {c:aA} {d:aW} {x:aR} (h:Sm c) (G:Gd c) (B:Bd n c) (hn:n<=190) (W:Wok n c d x):Gd (jI c d x)/\Bd (n+1) (jI c d x):=by
 have hxb:=G.v x (List.mem_of_getElem? W.hx)
 have hx:=W.hx
 have hl:=(List.getElem?_eq_some_iff.1 hx).1
 have gf:=B.f x (List.mem_of_getElem? hx)
 have hqc:=G.q
 simp only[fI,and_eq_true,decide_eq_true_eq] at hqc
 unfold mD fI at hxb
 simp only[and_eq_true,or_eq_true,decide_eq_true_eq,beq_iff_eq] at hxb
 have gF:gI (x.Files+1):=⟨by omega,by omega⟩
 have hI:∀i∈d.Items,It i:=λi hi=>by
  obtain⟨a1,a2,a3,a4,a5⟩:=W.w.it i hi
  exact⟨a1,a2,W.kd i hi,a3,a4,a5⟩
 have hWe:=wD (p:=x.Pool) W.g gF (JM h G hx) hI
 have R:=zU (p:=1) (v:=d.Vol) (f:=x.Files+1) d.Items (ws c d.Vol x)
 rw[<- qV] at R
 obtain⟨o1,o2,o3⟩:=P7 (c:=c) (d:=d) (x:=x)
 have o4:(jI c d x).Vols=c.Vols.set d.Vol.toNat { x with State:=2,Files:=x.Files+1}:=by
  have:(iW c d x).Vols=c.Vols.set d.Vol.toNat { x with State:=2,Files:=x.Files+1}:=oM _ _ _ _ _
  unfold jI
  split<;>exact this
 have hu:=W.u
 -- places
 have hpl:∀i∈d.Items,tX (jI c d x).Vols (jY d.Vol (x.Files+1) i)=true:=λi hi=>by
  have:=W.o i hi
  have hv:=W.v
  rw[o4]
  unfold tX
  rw[length_set]
  show (fI d.Vol 0 _ && _ && fI i.Off _ _ && fI i.Len _ _)=true
  rw[show (jY d.Vol (x.Files+1) i).Vol=d.Vol from rfl,getElem?_set_self hl]
  simp only[fI,and_eq_true,decide_eq_true_eq,beq_iff_eq]
  refine⟨⟨⟨⟨hv,by omega⟩,trivial, ?_, ?_⟩,this.1,this.2.1⟩,this.2.2⟩
  ·show 1<=x.Files+1; omega
  ·show x.Files+1<=x.Files+1; omega
 have up:∀l:List aS,Lk c.Vols l->Lk (jI c d x).Vols l:=λl hl=>by rw[o4]; exact hl.up hx
 have pt:∀(l:List aS),Lk c.Vols l->l.length<=n->∀i∈d.Items,Lk (jI c d x).Vols (fY l (jY d.Vol (x.Files+1) i)):=λl hl hn' i hi=>YE (up l hl) (by omega) (hpl i hi) (JP hx hl).2
 have kl:∀y∈(iF d.Vol (x.Files+1) (ws c d.Vol x) d.Items).Chunks,Lk (jI c d x).Vols y.Locs:=λy hy=>by
  obtain⟨z,hz, -, -, -,e⟩:=JQ hu y hy
  have hz:z∈c.Chunks:=hz
  rcases e with e | ⟨i,hi, -, -,e⟩<;>rw[e]
  ·exact up _ (G.cl z hz)
  ·exact pt _ (G.cl z hz) (B.k z hz) i hi
 have sl:∀y∈(iF d.Vol (x.Files+1) (ws c d.Vol x) d.Items).Snaps,Lk (jI c d x).Vols y.Locs:=λy hy=>by
  obtain⟨z,hz, -, -,e⟩:=P5 hu y hy
  have hz:z∈c.Snaps:=hz
  rcases e with e | ⟨i,hi, -, -,e⟩<;>rw[e]
  ·exact up _ (G.sl z hz)
  ·exact pt _ (G.sl z hz) (B.s z hz) i hi
 have eo:(jI c d x).Exps.Pairwise λy x=>y.Seq < x.Seq:=by
  have:=hWe.eo
  rw[nU] at this
  rw[o2]; exact this
 have wlv:Lv (iF d.Vol (x.Files+1) (ws c d.Vol x) d.Items):=H9 (c:=ws c d.Vol x) (by have h1:=P2 G; exact h1)
 -- chunks after clearing
 have cl1:∀z∈(iF d.Vol (x.Files+1) (ws c d.Vol x) d.Items).Chunks,(dU x.Pool d.Items z).Locs=z.Locs/\((dU x.Pool d.Items z=z)\/((dU x.Pool d.Items z).Staged=false/\(dU x.Pool d.Items z).Data= []/\z.Locs≠ [])):=λz hz=>by
  have:∀l:List aE,(∀i∈l,i∈d.Items)->(dU x.Pool l z).Locs=z.Locs/\((dU x.Pool l z=z)\/((dU x.Pool l z).Staged=false/\(dU x.Pool l z).Data= []/\z.Locs≠ [])):=lD (λ_=>⟨rfl,.inl rfl⟩) λl i ih hs=>by
   obtain⟨i1,i2⟩:=ih λj hj=>hs j (mem_append_left _ hj)
   have e:dU x.Pool (l++ [i]) z=qZ x.Pool i (dU x.Pool l z):=by unfold dU; rw[List.foldl_append]; rfl
   rw[e]
   by_cases hc:x.Pool=0/\i.Kind=1/\(dU x.Pool l z).Id=i.Id
   ·rw[show qZ x.Pool i (dU x.Pool l z)= { dU x.Pool l z with Staged:=false,Data:=[]} from if_pos hc]
    refine⟨i1,.inr ⟨rfl,rfl,λhn=> ?_⟩⟩
    have:=JR d.Items i (hs i (by simp)) hc.2.1 z hz (by rw[<- hc.2.2,uW])
    rw[hn] at this
    cases this
   ·rw[show qZ x.Pool i (dU x.Pool l z)=dU x.Pool l z from if_neg hc]
    exact⟨i1,i2⟩
  exact this d.Items λ_ h=>h
 have hw1:iW c d x= { iF d.Vol (x.Files+1) (ws c d.Vol x) d.Items with Chunks:=(iF d.Vol (x.Files+1) (ws c d.Vol x) d.Items).Chunks.map (dU x.Pool d.Items)}:=nU _ _ _ _ _
 have cs1:∀y∈(iW c d x).Chunks,(if y.Staged then fI y.Data.length 1 64=true else y.Data= []/\y.Locs≠ [])/\pI y=true:=λy hy=>by
  rw[hw1] at hy
  obtain⟨z,hz,rfl⟩:=mem_map.1 hy
  obtain⟨e1,e2⟩:=cl1 z hz
  rcases e2 with e2 | ⟨e2,e3,e4⟩
  ·rw[e2]
   refine⟨?_,wlv z hz⟩
   obtain⟨w,hw, -,f2,f3,f4⟩:=JQ hu z hz
   have:=G.cs w hw
   rw[f2,f3]
   split
   ·rename_i hst; rw[if_pos hst] at this; exact this
   ·rename_i hst
    rw[if_neg hst] at this
    refine⟨this.1, ?_⟩
    rcases f4 with f4 | ⟨i, -, -, -,f4⟩<;>rw[f4]
    ·exact this.2
    ·intro hn
     have:=lX (l:=w.Locs) (x:=jY d.Vol (x.Files+1) i)
     rw[hn] at this
     simp at this
  ·refine⟨by rw[if_neg (by rw[e2]; decide),e1]; exact⟨e3,e4⟩, ?_⟩
   have:=List.length_pos_iff.2 e4
   unfold pI
   rw[e1]
   simp; omega
 have us:∀y∈(jI c d x).Chunks,∃w∈(iW c d x).Chunks,y=w\/(y=FU (sC c d x) w/\pI y=true):=λy hy=>by
  unfold jI at hy
  split at hy
  ·obtain⟨w,hw,rfl⟩:=mem_map.1 hy
   obtain⟨h1,h2⟩:=mem_filter.1 hw
   exact⟨w,h1,.inr ⟨rfl,h2⟩⟩
  ·exact⟨y,hy,.inl rfl⟩
 have hqe:c.Seq<=(jI c d x).Seq/\(jI c d x).Seq<=n+1:=by
  rw[o1]
  have hq:=B.q
  exact⟨R.q,P8 (by show c.Seq<=_; omega) λi hi k3=>by have:=(W.e i hi k3).2.2; omega⟩
 have esq:∀y∈(jI c d x).Exps,0<=y.Of/\y.Of < y.Seq/\y.Seq < (jI c d x).Seq:=λy hy=>by
  have hlt:y.Seq < (jI c d x).Seq:=by
   have:=(hWe.eq y (by rw[nU]; rw[o2] at hy; exact hy)).2.2
   rw[nU] at this
   rw[o1]; exact this
  rw[o2] at hy
  rcases BW hu y hy with⟨z,hz,e1,e2, -⟩ | ⟨i,hi,k3,rfl⟩
  ·have:=G.eq z hz
   simp only[fI,and_eq_true,decide_eq_true_eq] at this
   omega
  ·have:=W.e i hi k3
   exact⟨this.1,this.2.1,hlt⟩
 obtain⟨-,⟨fs,hfs,efs⟩, -⟩:=R
 have snm:(jI c d x).Snaps=((c.Snaps.map fs).filter λs=> !jE d.Items s):=by rw[o3,efs]; rfl
 have sgn:∀s,jE d.Items (fs s)=jE d.Items s:=λs=>by unfold jE; rw[(hfs s).1]
 have smem:∀s∈(jI c d x).Snaps,∃t∈c.Snaps,s.Seq=t.Seq/\s.Man=t.Man/\jE d.Items s=false:=λs hs=>by
  rw[snm] at hs
  obtain⟨h1,h2⟩:=mem_filter.1 hs
  obtain⟨t,ht,rfl⟩:=mem_map.1 h1
  exact⟨t,ht,(hfs t).1,(hfs t).2,by simpa using h2⟩
 have spw:∀(P:aI->aI->Prop),(∀a b,P a b->P (fs a) (fs b))->c.Snaps.Pairwise P->(jI c d x).Snaps.Pairwise P:=λP hP hp=>by
  rw[snm]
  exact(pairwise_map.2 (hp.imp fun {a b} h=>hP a b h)).sublist filter_sublist
 have cle:(jI c d x).Chunks.length<=c.Chunks.length/\(jI c d x).Chunks.Pairwise λy x=>ky y.Id < ky x.Id:=by
  have l1:(iW c d x).Chunks.length=c.Chunks.length:=by
   obtain⟨-, -,g, -,eg⟩:=zU (p:=x.Pool) (v:=d.Vol) (f:=x.Files+1) d.Items (ws c d.Vol x)
   show (xK x.Pool d.Vol (x.Files+1) (ws c d.Vol x) d.Items).Chunks.length=_
   rw[eg,length_map]; rfl
  have p1:(iW c d x).Chunks.Pairwise λy x=>ky y.Id < ky x.Id:=(qH.1 hWe.r).2
  unfold jI
  split
  ·refine⟨?_,pairwise_map.2 ((p1.sublist filter_sublist).imp fun {a b} hab=>by rw[(kD _ a).2.1,(kD _ b).2.1]; exact hab)⟩
   show (map _ _).length<=_
   rw[length_map,<- l1]
   exact List.length_filter_le _ _
  ·exact⟨by rw[<- l1]; exact Nat.le_refl _,p1⟩
 have kfin:∀y∈(jI c d x).Chunks,∃z∈(iF d.Vol (x.Files+1) (ws c d.Vol x) d.Items).Chunks,y.Id=z.Id/\y.Locs=z.Locs:=P6
 refine⟨{ q:= ?_,v:= ?_,vn:= ?_,cn:=le_trans cle.1 G.cn,co:=cle.2,cl:= ?_,cs:= ?_,sn:= ?_,so:= ?_,sq:= ?_,sm:= ?_,sb:= ?_,sl:= ?_,sp:= ?_,en:= ?_,eo:=eo,eq:= ?_,el:= ?_,ee:= ?_,ex:= ?_}, ?_⟩
 ·simp only[fI,and_eq_true,decide_eq_true_eq]; omega
 ·intro v hv
  rw[o4] at hv
  rcases mem_or_eq_of_mem_set hv with h1 | rfl
  ·exact G.v v h1
  ·unfold mD fI
   simp only[and_eq_true,or_eq_true,decide_eq_true_eq,beq_iff_eq]
   exact⟨hxb.1,.inl ⟨trivial,by omega,by omega⟩⟩
 ·rw[o4,length_set]; exact G.vn
 ·intro y hy
  obtain⟨z,hz, -,e⟩:=kfin y hy
  rw[e]; exact kl z hz
 ·intro y hy
  obtain⟨w,hw,e⟩:=us y hy
  obtain⟨c1,c2⟩:=cs1 w hw
  rcases e with rfl | ⟨rfl,e⟩
  ·exact c1
  ·unfold FU at e ⊢
   split
   ·exact c1
   ·rename_i hnu
    rw[if_neg hnu] at e
    simp only[pI,Bool.false_or,decide_eq_true_eq] at e
    rw[if_neg (show ¬(false=true) by decide)]
    refine⟨rfl,λhn=> ?_⟩
    have hn:w.Locs= []:=hn
    rw[hn] at e; simp at e
 ·rw[snm]
  exact le_trans (List.length_filter_le _ _) (by rw[length_map]; exact G.sn)
 ·exact spw _ (λa b h=>by rw[(hfs a).1,(hfs b).1]; exact h) G.so
 ·intro s hs
  obtain⟨t,ht,e, -⟩:=smem s hs
  have:=G.sq t ht
  simp only[fI,and_eq_true,decide_eq_true_eq] at this ⊢
  omega
 ·exact spw _ (λa b h=>by rw[(hfs a).2,(hfs b).2]; exact h) G.sm
 ·intro s hs
  obtain⟨t,ht, -,e, -⟩:=smem s hs
  rw[e]; exact G.sb t ht
 ·intro s hs
  rw[o3] at hs
  exact sl s (mem_filter.1 hs).1
 ·intro s hs
  obtain⟨t,ht, -,e, -⟩:=smem s hs
  have hp:=G.sp t ht
  unfold KS at hp ⊢
  rw[e]
  refine all_eq_true.2 λp hp1=>all_eq_true.2 λid hid=> ?_
  have h1:=all_eq_true.1 (all_eq_true.1 hp p hp1) id hid
  have hu1:iS (sC c d x) id=true:=by
   have es:(sC c d x).Snaps=(jI c d x).Snaps:=by unfold jI; split<;>rfl
   refine any_eq_true.2 ⟨s,by rw[es]; exact hs,any_eq_true.2 ⟨p,by rw[e]; exact hp1,any_eq_true.2 ⟨id,hid,decide_eq_true rfl⟩⟩⟩
  have h2:(iW c d x).Chunks.any (λy=>decide (y.Id=id))=true:=by
   have:=oL (l:=(iF d.Vol (x.Files+1) (ws c d.Vol x) d.Items).Chunks) (f:=dU x.Pool d.Items) (uW x.Pool d.Items) id
   have e9:(iW c d x).Chunks=(iF d.Vol (x.Files+1) (ws c d.Vol x) d.Items).Chunks.map (dU x.Pool d.Items):=by rw[hw1]
   rw[e9]
   refine this.trans ?_
   obtain⟨-, -,g,hg,eg⟩:=zU (p:=1) (v:=d.Vol) (f:=x.Files+1) d.Items (ws c d.Vol x)
   rw[<- qV] at eg
   rw[eg,oL λy=>(hg y).1]
   exact h1
  obtain⟨y,hy,ey⟩:=any_eq_true.1 h2
  have ey:y.Id=id:=of_decide_eq_true ey
  refine any_eq_true.2 ?_
  unfold jI
  split
  ·refine⟨FU (sC c d x) y,mem_map.2 ⟨y,mem_filter.2 ⟨hy, ?_⟩,rfl⟩,decide_eq_true ((kD _ y).2.1.trans ey)⟩
   unfold FU
   rw[if_pos (by rw[ey]; exact hu1)]
   exact(cs1 y hy).2
  ·exact⟨y,hy,decide_eq_true ey⟩
 ·have:=F4 (b:=(jI c d x).Seq) (a:=0) eo (λy hy=>⟨by have:=esq y hy; omega,(esq y hy).2.2⟩) (by omega)
  omega
 ·intro y hy
  have:=esq y hy
  simp only[fI,and_eq_true,decide_eq_true_eq]
  omega
 ·intro y hy
  rw[o2] at hy
  rcases BW hu y hy with⟨z,hz, -, -,e⟩ | ⟨i,hi,k3,rfl⟩
  ·have hz:z∈c.Exps:=hz
   rcases e with e | ⟨i,hi, -, -,e⟩<;>rw[e]
   ·exact up _ (G.el z hz)
   ·exact pt _ (G.el z hz) (B.e z hz) i hi
  ·exact⟨by simp,λy hy=>by rw[mem_singleton.1 hy]; exact hpl i hi,List.pairwise_singleton _ _⟩
 ·intro y hy hn
  rw[o2] at hy
  rcases BW hu y hy with⟨z,hz, -, -,e⟩ | ⟨i,hi,k3,rfl⟩
  ·rcases e with e | ⟨i,hi, -, -,e⟩<;>rw[e] at hn
   ·exact G.ee z hz hn
   ·have:=lX (l:=z.Locs) (x:=jY d.Vol (x.Files+1) i)
    rw[hn] at this
    simp at this
  ·cases hn
 ·intro y hy s hs e
  obtain⟨t,ht,e1, -,e2⟩:=smem s hs
  rw[o2] at hy
  rcases BW hu y hy with⟨z,hz, -,f2, -⟩ | ⟨i,hi,k3,rfl⟩
  ·exact G.ex z hz t ht (by omega)
  ·have:=any_eq_false.1 e2 i hi
   have e:s.Seq=i.Of:=e
   simp[k3,e] at this
 ·have pl:∀(l:List aS) (a:aS),l.length<=n->(fY l a).length<=n+1:=λl a hl=>by rw[lX]; omega
  refine⟨λy hy=> ?_,λy hy=> ?_,λy hy=> ?_,λy hy=> ?_,by have:=hqe.2; omega⟩
  ·obtain⟨w,hw, -,e⟩:=P6 y hy
   obtain⟨z,hz, -, -, -,e2⟩:=JQ hu w hw
   rw[e]
   have hz:=B.k z hz
   rcases e2 with e2 | ⟨i, -, -, -,e2⟩<;>rw[e2]
   ·omega
   ·exact pl _ _ hz
  ·rw[o3] at hy
   obtain⟨z,hz, -, -,e2⟩:=P5 hu y (mem_filter.1 hy).1
   have hz:=B.s z hz
   rcases e2 with e2 | ⟨i, -, -, -,e2⟩<;>rw[e2]
   ·omega
   ·exact pl _ _ hz
  ·rw[o2] at hy
   rcases BW hu y hy with⟨z,hz, -, -,e2⟩ | ⟨i, -, -,rfl⟩
   ·have hz:=B.e z hz
    rcases e2 with e2 | ⟨i, -, -, -,e2⟩<;>rw[e2]
    ·omega
    ·exact pl _ _ hz
   ·simp
  ·rw[o4] at hy
   rcases mem_or_eq_of_mem_set hy with h1 | rfl
   ·have:=B.f y h1; omega
   ·simp only; omega
end Go.Proofs.YtbbifdfldpfphaaGreat
namespace Go.Vm
def Fc:Option Nat->Fence
 | none=>Fence.wide
 | some l=>Fence.wide.inRound l
theorem F5 (ro:Option Nat) (f:FuncId):(Fc ro).fn f:=by cases ro<;>trivial
theorem F6 (ro:Option Nat):(Fc ro).depth.isSome=true->1<=0:=by cases ro<;>exact λh=>by cases h
theorem P9 {ro:Option Nat} {n:Nat} {P:Program} {f:FuncId} {args:Array Value} {w:World} {R:Ending->World->Prop} (h:Calls P f args w R):CallsIn (Fc ro) n P f args w R:=by
 cases ro<;>exact callsIn_wide.2 h
theorem TD {ro:Option Nat} {n:Nat} {P:Program} {r:String} {args:Array Value} {w:World} {R:Value->World->Prop} (h:Rows P r args w R):RowsIn (Fc ro) n P r args w R:=by
 intro c cs _
 obtain⟨v,w',hR,hs⟩:=h c cs
 refine⟨v,w',hR, ?_⟩
 cases ro<;>exact stepsIn_wide.2 hs
def nd:Op->Bool
 | .defer _=>false
 | _=>true
theorem aED {o:Op} (h:nd o=true):∀c,o≠ .defer c:=λc e=>by subst e; cases h
section
variable {P:Program} {ro:Option Nat}
theorem JS {o:Oper} {a:Act} {w:World} {Nx:Act->World->Prop} {Qx:Exit->Act->World->Prop} (hd:nd o.op=true) (h:o.wp P a w Nx Qx):o.wpIn (Fc ro) 0 P a w Nx Qx:=by
 refine⟨λf _=>F5 ro f, ?_⟩
 have hs:o.semAt (Fc ro).round a.eval=execOp a.eval o:=by
  cases ro with
  | none=>simp[semAt,Fc]
  | some l=>exact Oper.semAt_some _ _ _ (aED hd)
 rw[hs]
 unfold Oper.wp at h
 cases e:(execOp a.eval o).run P w with
 | ok nx w'=>
  rw[e] at h
  cases nx with
  | value v=>exact h
  | skip=>exact h
  | defer d=>exact h
  | enter f args=>exact⟨F6 ro,P9 h⟩
  | row r args=>exact⟨F6 ro,TD h⟩
  | _=>first | exact h.elim | exact h
 | halt x w'=>
  rw[e] at h
  cases x with
  | panic v=>exact h
  | _=>first | exact h.elim | exact h
theorem DW {ops:Array Oper} {Q:Exit->Act->World->Prop} (hq:¬LetsOut Q):∀ {l:List Oper} {a:Act} {w:World},(l.all λo=>nd o.op)=true->wpList P ops Q l a w->wpListIn (Fc ro) 0 P ops Q l a w
 | [],_,_,_,h=>h
 | o::l,a,w,hd,h=>by
  simp only[all_cons,and_eq_true] at hd
  refine wpListIn_step λK hK=> ?_
  unfold wpList at h
  split at h
  ·rename_i hw
   rw[if_pos hw]
   rcases h with h | ⟨_,h⟩
   ·exact JS hd.1 (Oper.wp_mono (λa' w' h'=>hK _ _ (DW hq hd.2 h')) h)
   ·exact absurd h hq
  ·rename_i hw
   rw[if_neg hw]
   exact⟨λf _=>F5 ro f,hK _ _ (DW hq hd.2 h)⟩
theorem DX {md:Region.Mode} {ops:Array Oper} {Q:Exit->Act->World->Prop} (hq:¬LetsOut Q) (hd:(ops.toList.all λo=>nd o.op)=true):∀ {fuel:Nat} {S:Array Bool} {a:Act} {w:World},wpAny P md ops Q fuel S a w->wpAnyIn (Fc ro) 0 P md ops Q fuel S a w
 | 0,_,_,_,h=>h
 | fuel+1,S,a,w,h=>by
  refine⟨h.1,λi hi=> ?_⟩
  have hi':=h.2 i hi
  unfold wpOp at hi'
  unfold wpOpIn
  cases ho:ops[i]? with
  | none=>rw[ho] at hi'; exact DX hq hd hi'
  | some o=>
   rw[ho] at hi'
   simp only at hi' ⊢
   have hn:nd o.op=true:=all_eq_true.1 hd o (by
    have:=Array.mem_of_getElem? ho
    simpa using this)
   split at hi'
   ·rename_i hw
    rw[if_pos hw]
    rcases hi' with hi' | ⟨_,hi'⟩
    ·exact JS hn (Oper.wp_mono (λa' w' h'=>DX hq hd h') hi')
    ·exact absurd hi' hq
   ·rename_i hw
    rw[if_neg hw]
    exact⟨λf _=>F5 ro f,DX hq hd hi'⟩
end
def Q2 (I:fH->World->Prop):Prop:=∀E w E' w',dL E w E' w'->I E w->I E' w'
def sF (I:fH->World->Prop) (ro:Option Nat) (P:Program) (c:Code) (Q:Exit->Fr->aF->Prop) (fr:Fr) (h:aF):Prop:=
 ∀E w a,I E w->eS E h w->cP E w fr a.tmps.toList->a.defers= []->c.wpIn (Fc ro) 0 P (λe a' w'=>nV E w (Q e) a' w') a w
section
variable {P:Program} {ro:Option Nat} {I:fH->World->Prop} {Q:Exit->Fr->aF->Prop} {fr:Fr} {h:aF}
theorem sF.mono {c:Code} {Q':Exit->Fr->aF->Prop} (hc:sF I ro P c Q fr h) (hq:∀e fr h,Q e fr h->Q' e fr h):sF I ro P c Q' fr h:=
 λE w a i r v d=>wpIn_mono (hc E w a i r v d) λe _ _ p=>p.mono (hq e)
theorem QA {c:Code} (hc:AW P c Q fr h):sF I none P c Q fr h:=λE w a _ r v d=>wpIn_wide.2 (hc E w a r v d)
theorem DY (hI:Q2 I) {x y:Code} (hx:sF I ro P x (Seq (sF I ro P y Q) Q) fr h):sF I ro P (.seq x y) Q fr h:=by
 intro E w a i r v d
 refine wpIn_seq (wpIn_mono (hx E w a i r v d) ?_)
 intro e a' w' p
 cases e with
 | normal=>
  obtain⟨E',fr',h',k,r',v',d',q⟩:=p
  exact wpIn_mono (q E' w' a' (hI _ _ _ _ k i) r' v' d') λ_ _ _ p'=>p'.trans k
 | exit id=>exact p
 | goto l=>exact p
 | ret=>exact p
 | panic ch=>exact p
 | outgrown=>exact p
theorem YH {c:Operand} {x y:Code} {t:Bool} (hc:ev fr c= .sc (.bool t)) (ht:t=true->sF I ro P x Q fr h) (hf:t=false->sF I ro P y Q fr h):sF I ro P (.cond c x y) Q fr h:=
 λE w a i r v d=>wpIn_cond (t:=t) (TW v hc) (by
  cases t
  ·exact hf rfl E w a i r v d
  ·exact ht rfl E w a i r v d)
theorem wG {id:Nat} {c:Code} (hc:sF I ro P c (IG id Q) fr h):sF I ro P (.block id c) Q fr h:=by
 intro E w a i r v d
 refine wpIn_block (wpIn_mono (hc E w a i r v d) ?_)
 intro e a' w' p
 cases e with
 | exit id'=>
  by_cases hid:id'=id
  ·simp only[Exit.inBlock,hid,if_true]
   exact p.mono (λfr h q=>by simpa [IG,hid] using q)
  ·simp only[Exit.inBlock,hid,if_false]
   exact p.mono (λfr h q=>by simpa [IG,hid] using q)
 | normal=>exact p
 | goto l=>exact p
 | ret=>exact p
 | panic ch=>exact p
 | outgrown=>exact p
theorem gP.awn (hI:Q2 I) {c:Code} {fr':Fr} {h':aF} (le:gP fr' h' fr h) (hc:sF I ro P c Q fr' h'):sF I ro P c Q fr h:=by
 intro E w a i r v d
 obtain⟨E',k,r',v'⟩:=le E w _ r v
 exact wpIn_mono (hc E' w a (hI _ _ _ _ k i) r' v' d) λ_ _ _ p=>p.trans k
theorem TE {id:Nat} {l:List Oper} (hd:(l.all λo=>nd o.op)=true) (hl:iU P l.toArray l (Q .normal) fr h):sF I ro P (.region id l.toArray false) Q fr h:=by
 intro E w a _ r v d
 have h1:=hl E w a r v d (λe a' w'=>e= .normal/\nV E w (Q .normal) a' w') λa' w' p=>⟨rfl,p⟩
 have hq:¬LetsOut λe a' w'=>e=Exit.normal/\nV E w (Q .normal) a' w':=λhx=>by
  obtain⟨_,_,e,_⟩:=hx
  cases e
 refine wpIn_mono (wpIn_region_lit (id:=id) (DW (ro:=ro) hq hd h1)) ?_
 rintro e a' w' ⟨rfl,p⟩
 exact p
theorem QB {id:Nat} {l:List Oper} (fs:List (Nat×Option bX×jC)) (hd:(l.all λo=>nd o.op)=true) (hm:P.follows .mixedOrders=true) (hI:fS fs (Array.replicate l.length false) h)
    (hl:sE P l.toArray fs (Q .normal) l.length (Array.replicate l.length false) fr h):sF I ro P (.region id l.toArray true) Q fr h:=by
  intro E w a _ r v d
  obtain⟨r',k⟩:=r.drewn (w.drawn+1)
  have h1:=pX l.length (Array.replicate l.length false) fr h (hl hI) E { w with drawn:=w.drawn+1} a r' (cB k _ _ v) d (λe a' w'=>e= .normal/\nV E w (Q .normal) a' w') (λa' w' p=>⟨rfl,p.trans k⟩)
  have hq:¬LetsOut λe a' w'=>e=Exit.normal/\nV E w (Q .normal) a' w':=λhx=>by
    obtain⟨_,_,e,_⟩:=hx
    cases e
  have h2:=wpIn_region_any (F:=Fc ro) (n:=0) (id:=id) (ops:=l.toArray) (a:=a) (w:=w) hm (DX (ro:=ro) hq (by simpa using hd) (by simpa using h1))
  refine wpIn_mono h2 ?_
  rintro e a' w' ⟨rfl,p⟩
  exact p
end
def nC:Obj->Bool
 | .cells _ _ _=>false
 | _=>true
theorem JT {w:World} {g o:Nat} {ob:Obj} (hl:w.heap[g]? =some ob) (ho:nC ob=true):w.cell? ⟨g,o,none⟩=none:=by
 cases ob<;>simp_all [World.cell?,nC]
theorem JU {w:World} {l g o:Nat} {ob ob':Obj} (hl:w.heap[l]? =some ob) (ho:nC ob=true) (ho':nC ob'=true):(w.putObj l ob').cell? ⟨g,o,none⟩=w.cell? ⟨g,o,none⟩:=by
 by_cases e:g=l
 ·subst e
  have h1:=putObj_heap_same (w:=w) (o:=ob') (Array.getElem?_eq_some_iff.1 hl).1
  rw[JT h1 ho',JT hl ho]
 ·exact dQ (putObj_heap_other e) o
def fH.un (E:fH) (l:Nat):fH:={ E with lock:=λg=>E.lock g/\g≠l}
theorem eS.relock {E:fH} {h:aF} {w:World} (r:eS E h w) (L:Nat->Prop) (hL:∀k g,E.at h k g->¬L g) (hb:∀g,L g->g < w.heap.size):eS { E with lock:=L} h w:=by
 have hat:∀k g,fH.at { E with lock:=L} h k g->E.at h k g:=λk g ha=>ha
 constructor
 ·intro k ty cs hk
  obtain⟨g,cur,e1,e2,e3,e4⟩:=r.obj k ty cs hk
  refine⟨g,cur,e1,e2, ?_,e4⟩
  exact iY (E:=E) (E':={ E with lock:=L}) ⟨λ_ _ h=>⟨h,rfl⟩,λ_ h=>h,λ_ _ h=>h,λ_ t ht o ho=>⟨.inr ⟨t,ht,rfl,ho⟩,rfl⟩,λ_ t ht _=>⟨t,ht,Nat.le_refl _,λ_=>rfl⟩⟩ _ _ e3
 ·exact r.tok
 ·exact r.tkh
 ·exact λk k' g ha hb=>r.sep k k' g ha hb
 ·exact λk g ha=>⟨hL k g ha,(r.dis k g ha).2⟩
 ·exact r.hus
 ·exact r.obu
 ·exact r.fre
 ·exact r.imb
 ·exact hb
 ·exact r.mp
theorem pE {E:fH} {w:World} {L:Nat->Prop} {xs:List AV} {vs:List Value} (h:cP E w xs vs):cP { E with lock:=L} w xs vs:=
 iY (E:=E) (E':={ E with lock:=L}) ⟨λ_ _ h=>⟨h,rfl⟩,λ_ h=>h,λ_ _ h=>h,λ_ t ht o ho=>⟨.inr ⟨t,ht,rfl,ho⟩,rfl⟩,λ_ t ht _=>⟨t,ht,Nat.le_refl _,λ_=>rfl⟩⟩ _ _ h
theorem eS.turn {E:fH} {h:aF} {w:World} (r:eS E h w) {l:Nat} {ob ob':Obj} (hl:w.heap[l]? =some ob) (ho:nC ob=true) (ho':nC ob'=true) (hlk:∀k,¬E.at h k l):eS E h (w.putObj l ob')/\sG E w E (w.putObj l ob'):=by
 have hv:sG E w E (w.putObj l ob'):=⟨λg o hi=>⟨hi,JU hl ho ho'⟩,λ_ h=>h,λ_ _ h=>h,λ_ t ht o ho2=>⟨.inr ⟨t,ht,rfl,ho2⟩,JU hl ho ho'⟩,λ_ t ht _=>⟨t,ht,Nat.le_refl _,λ_=>rfl⟩⟩
 refine⟨?_,hv⟩
 have ne:∀k g,E.at h k g->g≠l:=λk g ha e=>hlk k (e ▸ ha)
 constructor
 ·intro k ty cs hk
  obtain⟨g,cur,e1,e2,e3,e4⟩:=r.obj k ty cs hk
  exact⟨g,cur,e1,by rw[putObj_heap_other (ne k g (.inl ⟨_,rfl,hk,e1⟩))]; exact e2,iY hv _ _ e3,e4⟩
 ·intro k ty sz m hk
  obtain⟨t,cur,e1,e2,e3,e4,e5⟩:=r.tok k ty sz m hk
  exact⟨t,cur,e1,e2,e3,by rw[putObj_heap_other (ne k t.b (.inr ⟨_,_,_,t,hk,e1,rfl⟩))]; exact e4,e5⟩
 ·exact r.tkh
 ·exact r.sep
 ·exact r.dis
 ·exact r.hus
 ·exact r.obu
 ·exact r.fre
 ·intro g o hg
  obtain⟨v,e⟩:=r.imb g o hg
  exact⟨v,(JU hl ho ho').trans e⟩
 ·intro g hg
  rw[putObj_size]
  exact r.lkb g hg
 ·intro k es hk
  obtain⟨g,ents,clk,e1,e2,e3⟩:=r.mp k es hk
  exact⟨g,ents,clk,e1,by rw[putObj_heap_other (ne k g (.inl ⟨_,rfl,hk,e1⟩))]; exact e2,e3⟩
theorem eS.more {E:fH} {h:aF} {w:World} (r:eS E h w) (ob:Obj):eS E h (w.alloc ob)/\dL E w E (w.alloc ob):=by
 have hb:∀g,g < w.heap.size->(w.alloc ob).heap[g]? =w.heap[g]? :=λg hg=>by
  show (w.heap.push ob)[g]? =w.heap[g]?
  rw[Array.getElem?_push_lt hg,Array.getElem?_eq_getElem hg]
 have hc:∀g o v,w.cell? ⟨g,o,none⟩=some v->(w.alloc ob).cell? ⟨g,o,none⟩=w.cell? ⟨g,o,none⟩:=λg o v e=>dQ (hb g (h9 e)) o
 have htk:∀k t,E.tk k=some t->t.b < w.heap.size:=λk t ht=>by
  obtain⟨ty,e⟩:=r.tkh k t ht
  exact r.at_lt (.inr ⟨_,_,_,t,e,ht,rfl⟩)
 have hk:dL E w E (w.alloc ob):=by
  refine⟨λg o hi=>⟨hi, ?_⟩,λ_=>Iff.rfl,λg hg=>hb g (r.lkb g hg),λ_ h=>h,λ_ _ h=>h,λk t ht o ho=>⟨.inr ⟨t,ht,rfl,ho⟩,dQ (hb _ (htk k t ht)) o⟩,λ_ t ht _=>⟨t,ht,Nat.le_refl _,λ_=>rfl⟩,rfl,rfl,rfl, ?_⟩
  ·obtain⟨v,e⟩:=r.imb g o hi
   exact hc g o v e
  ·show w.heap.size<=(w.heap.push ob).size
   simp
 refine⟨?_,hk⟩
 constructor
 ·intro k ty cs hk'
  obtain⟨g,cur,e1,e2,e3,e4⟩:=r.obj k ty cs hk'
  exact⟨g,cur,e1,by rw[hb g (Array.getElem?_eq_some_iff.1 e2).1]; exact e2,cB hk _ _ e3,e4⟩
 ·intro k ty sz m hk'
  obtain⟨t,cur,e1,e2,e3,e4,e5⟩:=r.tok k ty sz m hk'
  exact⟨t,cur,e1,e2,e3,by rw[hb t.b (Array.getElem?_eq_some_iff.1 e4).1]; exact e4,e5⟩
 ·exact r.tkh
 ·exact r.sep
 ·exact r.dis
 ·exact r.hus
 ·exact r.obu
 ·exact r.fre
 ·intro g o hg
  obtain⟨v,e⟩:=r.imb g o hg
  exact⟨v,(hc g o v e).trans e⟩
 ·intro g hg
  have:=r.lkb g hg
  show g < (w.heap.push ob).size
  simp; omega
 ·intro k es hk'
  obtain⟨g,ents,clk,e1,e2,e3⟩:=r.mp k es hk'
  exact⟨g,ents,clk,e1,by rw[hb g (Array.getElem?_eq_some_iff.1 e2).1]; exact e2,e3⟩
def xN (l D:Nat) (rec:Loop) (fr0:Fr) (E:fH) (w:World):Prop:=
 E.lock l/\w.heap[l]? =some (.loop rec)/\E.lock D/\w.heap[D]? =some (.deferred (some []))/\cP E w fr0 rec.tmps.toList
theorem xN.stb {l D:Nat} {rec:Loop} {fr0:Fr}:Q2 (xN l D rec fr0):=λE w E' w' k ⟨a,b,c,d,e⟩=>
 ⟨(k.lockEq l).2 a,(k.lock l a).trans b,(k.lockEq D).2 c,(k.lock D c).trans d,cB k _ _ e⟩
theorem LN {P:Program} {l D p:Nat} {rec:Loop} {fr0 fr1:Fr} {h:aF} {K:aF->Prop} {x:AV} (hst:rec.state= .ready) (hpn:rec.pending=none)
    (ha:sF (λ_ _=>True) (some l) P rec.assign (λe fr hh=>e= .normal/\gP fr1 h fr hh) (fr0.set p x) h)
    (hb:sF (λ_ _=>True) (some l) P rec.body (λe fr hh=>e= .normal/\∃h' g,K h'/\gP g h' fr hh) fr1 h)
    {E:fH} {w:World} {v:Value} (hi:xN l D rec fr0 E w) (r:eS E h w) (hv:VR E w x v):
    RoundIn Fence.wide 0 P l rec.fn (rec.tmps.setIfInBounds p v) rec.assign rec.body w (λe w'=>e= .returned (.bool true)/\∃E' h',dL E w E' w'/\eS E' h' w'/\K h'):=by
  obtain⟨il,ih,iD,iDh,iv⟩:=hi
  have hnat:∀ {E:fH} {h:aF} {w:World},eS E h w->E.lock l->∀k,¬E.at h k l:=λr hl k ha=>(r.dis k l ha).1 hl
  refine roundIn_of_wpIn trivial ?_
  have hv0:cP E w (fr0.set p x) (rec.tmps.setIfInBounds p v).toList:=by
    rw[Array.toList_setIfInBounds]
    exact B1 p iv hv
  refine wpIn_mono (ha E w { tmps:=rec.tmps.setIfInBounds p v,defers:=[]} trivial r hv0 rfl) ?_
  rintro e a1 w1 ⟨E1,fr',hh,k1,r1,v1,d1,rfl,le1⟩
  obtain⟨E2,k2,r2,v2⟩:=le1 E1 w1 _ r1 v1
  have k12:=k1.trans k2
  have il2:E2.lock l:=(k12.lockEq l).2 il
  have hl1:w1.heap[l]? =some (.loop rec):=(k1.lock l il).trans ih
  refine⟨_,run_beginRound hl1 hst, ?_⟩
  obtain⟨r3,kv3⟩:=r2.turn (ob':=.loop { rec with state:=.busy}) hl1 rfl rfl (hnat r2 il2)
  have hl3:(w1.putObj l (.loop { rec with state:=.busy})).heap[l]? =some (.loop { rec with state:=.busy}):=putObj_heap_same (Array.getElem?_eq_some_iff.1 hl1).1
  refine wpIn_mono (hb E2 _ a1 trivial r3 (iY kv3 _ _ v2) d1) ?_
  rintro e a4 w4 ⟨E4,fr4,h4,k4,r4,v4,d4,rfl,h',g4,kh,le4⟩
  obtain⟨E5,k5,r5, -⟩:=le4 E4 w4 _ r4 v4
  have k45:=k4.trans k5
  have hl4:w4.heap[l]? =some (.loop { rec with state:=.busy}):=(k4.lock l il2).trans hl3
  have il5:E5.lock l:=(k45.lockEq l).2 il2
  obtain⟨r6,kv6⟩:=r5.turn (ob':=.loop rec) hl4 rfl rfl (hnat r5 il5)
  have hend:=run_endRound (P:=P) none hl4
  have hrec:({ ({ rec with state:=.busy}:Loop) with state:=if (none:Option Code).isNone then .ready else .done,pending:=none}:Loop)=rec:=by
    cases rec; simp_all
  rw[hrec] at hend
  refine⟨_,_,hend,rfl,E5,h', ?_,r6,kh⟩
  have hl6:(w4.putObj l (.loop rec)).heap[l]? =some (.loop rec):=putObj_heap_same (Array.getElem?_eq_some_iff.1 hl4).1
  have oth:∀g,g≠l->(w4.putObj l (.loop rec)).heap[g]? =w4.heap[g]? :=λg hg=>putObj_heap_other hg
  have oth3:∀g,g≠l->(w1.putObj l (.loop { rec with state:=.busy})).heap[g]? =w1.heap[g]? :=λg hg=>putObj_heap_other hg
  -- what is kept, from the round's begin to its end
  have c1:=kv3
  refine⟨λg o hg=> ?_,λg=> ?_,λg hg=> ?_,λk hk=>k45.used k (k12.used k hk),λk g hk=>k45.ob k g (k12.ob k g hk),λk t ht o ho=> ?_,λk t' ht' hu=> ?_, ?_, ?_, ?_, ?_⟩
  . obtain⟨q1,q2⟩:=k12.imm g o hg
    obtain⟨q3,q4⟩:=kv3.imm g o q1
    obtain⟨q5,q6⟩:=k45.imm g o q3
    obtain⟨q7,q8⟩:=kv6.imm g o q5
    exact⟨q7,q8.trans (q6.trans (q4.trans q2))⟩
  . exact(k45.lockEq g).trans (k12.lockEq g)
  . by_cases e:g=l
    . subst e; exact hl6.trans ih.symm
    . rw[oth g e,k45.lock g ((k12.lockEq g).2 hg),oth3 g e,k12.lock g hg]
  . obtain⟨q1,q2⟩:=k12.tkc k t ht o ho
    rcases q1 with q1 | ⟨t2,q1,qb,qm⟩
    . obtain⟨q3,q4⟩:=kv3.imm _ _ q1
      obtain⟨q5,q6⟩:=k45.imm _ _ q3
      obtain⟨q7,q8⟩:=kv6.imm _ _ q5
      exact⟨.inl q7,q8.trans (q6.trans (q4.trans q2))⟩
    . obtain⟨q3,q4⟩:=kv3.tkc k t2 q1 o qm
      obtain⟨q5,q6⟩:=k45.tkc k t2 q1 o qm
      rw[qb] at q4 q5 q6
      have q8:(w4.putObj l (.loop rec)).cell? ⟨t.b,o,none⟩=w4.cell? ⟨t.b,o,none⟩:=JU hl4 rfl rfl
      refine⟨?_,q8.trans (q6.trans (q4.trans q2))⟩
      rcases q5 with q5 | ⟨t3,q5,qb3,qm3⟩
      . exact .inl q5
      . exact .inr ⟨t3,q5,qb3,qm3⟩
  . obtain⟨t5,q1,q2,q3⟩:=k45.tkf k t' ht' (k12.used k hu)
    obtain⟨t1,q4,q5,q6⟩:=k12.tkf k t5 q1 hu
    refine⟨t1,q4,le_trans q5 q2,λe=> ?_⟩
    have e1:t1.m=t5.m:=by omega
    have e2:t5.m=t'.m:=by omega
    rw[q6 e1,q3 e2]
  . exact(show (w4.putObj l (.loop rec)).os=w4.os from rfl).trans (k45.os.trans ((show (w1.putObj l (.loop { rec with state:=.busy})).os=w1.os from rfl).trans k12.os))
  . exact(show (w4.putObj l (.loop rec)).tape=w4.tape from rfl).trans (k45.tape.trans ((show (w1.putObj l (.loop { rec with state:=.busy})).tape=w1.tape from rfl).trans k12.tape))
  . exact(show (w4.putObj l (.loop rec)).output=w4.output from rfl).trans (k45.output.trans ((show (w1.putObj l (.loop { rec with state:=.busy})).output=w1.output from rfl).trans k12.output))
  . have s1:=k12.size
    have s2:=k45.size
    rw[putObj_size] at s2 ⊢
    omega
def ZG (P:Program) (l D p:Nat) (rec:Loop) (fr0:Fr) (x:AV) (h:aF) (K:aF->Prop):Prop:=
 ∀E w v,xN l D rec fr0 E w->eS E h w->VR E w x v->
  RoundIn Fence.wide 0 P l rec.fn (rec.tmps.setIfInBounds p v) rec.assign rec.body w (λe w'=>e= .returned (.bool true)/\∃E' h',dL E w E' w'/\eS E' h' w'/\K h')
theorem ZG.of {P:Program} {l D p:Nat} {rec:Loop} {fr0 fr1:Fr} {h:aF} {K:aF->Prop} {x:AV} (hst:rec.state= .ready) (hpn:rec.pending=none)
    (ha:sF (λ_ _=>True) (some l) P rec.assign (λe fr hh=>e= .normal/\gP fr1 h fr hh) (fr0.set p x) h)
    (hb:sF (λ_ _=>True) (some l) P rec.body (λe fr hh=>e= .normal/\∃h' g,K h'/\gP g h' fr hh) fr1 h):ZG P l D p rec fr0 x h K:=
  λ_ _ _ hi r hv=>LN hst hpn ha hb hi r hv
def L5 (I:fH->World->Prop) (ro:Option Nat) (P:Program) (ops:Array Oper) (l:List Oper) (K:Fr->aF->Prop) (fr:Fr) (h:aF):Prop:=
 ∀E w a,I E w->eS E h w->cP E w fr a.tmps.toList->a.defers= []->∀Q:Exit->Act->World->Prop,¬LetsOut Q->(∀a' w',nV E w K a' w'->Q .normal a' w')->wpListIn (Fc ro) 0 P ops Q l a w
theorem aEE {P:Program} {o:Oper} {a:Act} {w:World} {K:Act->World->Prop} {Q Q':Exit->Act->World->Prop} (hp:∀ch a w,Q (.panic ch) a w->Q' (.panic ch) a w) (ho:LetsOut Q->LetsOut Q')
    (hh:o.wp P a w K Q):o.wp P a w K Q':=by
  unfold Oper.wp at*
  generalize (execOp a.eval o).run P w=r at*
  cases r with
  | ok n w'=>
    cases n<;>simp only[upon] at hh ⊢ <;>
      first
        | exact hh
        | exact Calls.mono hh (λe w'' he=>by cases e<;>first | exact he | exact hp _ _ _ he | exact ho he)
        | exact Rows.mono hh (λ_ _ he=>he)
  | halt x w'=>cases x<;>simp only[upon] at hh ⊢<;>first | exact hh | exact hp _ _ _ hh
section
variable {P:Program} {ro:Option Nat} {I:fH->World->Prop} {Q:Exit->Fr->aF->Prop} {fr:Fr} {h:aF} {ops:Array Oper} {K:Fr->aF->Prop}
theorem zW {Q Q1:Exit->Act->World->Prop} {l2:List Oper} (hq:¬LetsOut Q) (hp:∀ch a w,Q1 (.panic ch) a w->Q (.panic ch) a w) (ho:LetsOut Q1->LetsOut Q) (hn:∀a w,Q1 .normal a w->wpListIn (Fc ro) 0 P ops Q l2 a w):
    ∀ {l:List Oper} {a:Act} {w:World},(l.all λo=>nd o.op)=true->wpList P ops Q1 l a w->wpListIn (Fc ro) 0 P ops Q (l++l2) a w
  | [],_,_,_,h=>hn _ _ h
  | o::l,a,w,hd,h=>by
    simp only[all_cons,and_eq_true] at hd
    refine wpListIn_step λK hK=> ?_
    unfold wpList at h
    split at h
    . rename_i hw
      rw[if_pos hw]
      rcases h with h | ⟨_,h⟩
      . exact JS hd.1 (aEE hp ho (Oper.wp_mono (λa' w' h'=>hK _ _ (zW hq hp ho hn hd.2 h')) h))
      . exact absurd (ho h) hq
    . rename_i hw
      rw[if_neg hw]
      exact⟨λf _=>F5 ro f,hK _ _ (zW hq hp ho hn hd.2 h)⟩
theorem QC {l l2:List Oper} (hI:Q2 I) (hd:(l.all λo=>nd o.op)=true) (hl:iU P ops l (λfr hh=>L5 I ro P ops l2 K fr hh) fr h):L5 I ro P ops (l++l2) K fr h:=by
 intro E w a i r v d Q hq hQ
 refine zW (Q1:=λe a' w'=>match e with | .normal=>wpListIn (Fc ro) 0 P ops Q l2 a' w' | e=>Q e a' w') hq (λ_ _ _ p=>p) (λp=>p) (λ_ _ p=>p) hd (hl E w a r v d _ ?_)
 rintro a' w' ⟨E',fr',h',k,r',v',d',q⟩
 exact q E' w' a' (hI _ _ _ _ k i) r' v' d' Q hq λa'' w'' p=>hQ _ _ (p.trans k)
theorem TF (hk:K fr h):L5 I ro P ops [] K fr h:=λE w a _ r v d _ _ hQ=>hQ a w ⟨E,fr,h,dL.refl E w,r,v,d,hk⟩
theorem QD {id:Nat} {l:List Oper} (hl:L5 I ro P l.toArray l (Q .normal) fr h):sF I ro P (.region id l.toArray false) Q fr h:=by
 intro E w a i r v d
 refine wpIn_mono (wpIn_region_lit (id:=id) (Q:=λe a' w'=>e= .normal/\nV E w (Q .normal) a' w') (hl E w a i r v d _ ?_ λ_ _ p=>⟨rfl,p⟩)) ?_
 ·rintro⟨_,_,e,_⟩
  cases e
 ·rintro e a' w' ⟨rfl,p⟩
  exact p
theorem TG {c:Code} {e:Exit} (hc:∀(R:Exit->Act->World->Prop) a w,R e a w->c.wpIn (Fc ro) 0 P R a w) (hq:Q e fr h):sF I ro P c Q fr h:=
 λE w a _ r v d=>hc _ a w ⟨E,fr,h,dL.refl E w,r,v,d,hq⟩
theorem QE (hq:Q .normal fr h):sF I ro P .skip Q fr h:=TG (λ_ _ _ p=>wpIn_skip p) hq
theorem QF {c:Code} (hI:Q2 I) (J:Nat->Fr->aF->Prop) (n:Nat) (h0:J n fr h)
    (round:∀n fr h,J n fr h->sF I none P c (Seq (λfr' h'=>∃n',n' < n/\J n' fr' h') Q) fr h):sF I none P (.loop c) Q fr h:=by
  intro E w a i r v d
  refine wpIn_wide.2 (wp_loop_ghost (λn a' w'=>nV E w (J n) a' w') n ⟨E,fr,h,dL.refl E w,r,v,d,h0⟩ ?_)
  intro n a' w' p
  obtain⟨E',fr',h',k,r',v',d',q⟩:=p
  refine wp_mono (wpIn_wide.1 (round n fr' h' q E' w' a' (hI _ _ _ _ k i) r' v' d')) ?_
  intro e a'' w'' p'
  cases e with
  | normal=>
    obtain⟨E'',fr'',h'',k',r'',v'',d'',n',hn,q'⟩:=p'
    exact⟨n',hn,E'',fr'',h'',k.trans k',r'',v'',d'',q'⟩
  | exit id=>exact p'.trans k
  | goto l=>exact p'.trans k
  | ret=>exact p'.trans k
  | panic ch=>exact p'.trans k
  | outgrown=>exact p'.trans k
theorem LO {l D p:Nat} {rec:Loop} {fr0:Fr} {x:AV} {Kr:aF->Prop} {y b:Operand} {dst:Option Tmp} {ts:Array TypeId} {ty:TypeId} {pos:String} {dP:Array Edge} {l2:List Oper}
    (hp:rec.params= #[p]) (hy:ev fr y= .fn (.yield l) []) (hx:ev fr b=x) (hr:ZG P l D p rec fr0 x h Kr)
    (k:∀h',Kr h'->L5 (xN l D rec fr0) none P ops l2 K (iP fr dst (.sc (.bool true))) h'):
    L5 (xN l D rec fr0) none P ops (⟨dst,.call { callee:=.value y,args:= #[b],argTypes:=ts},ty,pos,dP,none⟩::l2) K fr h:=by
  intro E w a i r v d Q hq hQ
  refine wpListIn_plain rfl λK' hK'=>⟨λf _=>F5 none f, ?_⟩
  have e1:a.eval y= .func (.yield l) #[] #[]:=by
    have h1:=sJ v y
    rw[hy] at h1
    simp only[VR] at h1
    obtain⟨vs,e,h2⟩:=h1
    have:vs= #[]:=by
      have:=cR h2
      exact Array.eq_empty_of_size_eq_zero (by simpa using this.symm)
    rw[e,this]
  have e2:VR E w x (a.eval b):=hx ▸ sJ v b
  have hrun:((⟨dst,.call { callee:=.value y,args:= #[b],argTypes:=ts},ty,pos,dP,none⟩:Oper).semAt (Fc none).round a.eval).run P w= .ok (.round l rec.fn (rec.tmps.setIfInBounds p (a.eval b)) rec.assign rec.body) w:=by
    have hy:=run_yield (P:=P) (args:= #[a.eval b]) i.2.1 (by rw[hp]; rfl)
    rw[hp] at hy
    have hz:Array.foldl (λ(tmps:Array Value) (x:Tmp×Value)=>match x with | (t,a)=>tmps.setIfInBounds t a) rec.tmps (#[p].zip #[a.eval b])=rec.tmps.setIfInBounds p (a.eval b):=by simp
    rw[hz] at hy
    simp only[semAt,Fc]
    simp[execOp,resolve,Deferred.ofValue,e1,invoke,Fence.wide,hy]
  rw[hrun,Oper.uponIn_round]
  refine⟨λhh=>(by cases hh),(hr E w _ i r e2).mono ?_⟩
  rintro e w' ⟨rfl,E',h',k1,r1,kh⟩
  refine hK' _ _ (k h' kh E' w' _ (xN.stb _ _ _ _ k1 i) r1 (mI _ (cB k1 _ _ v) (by simp[VR])) (by rw[iT]; exact d) Q hq λa'' w'' p'=>hQ _ _ (p'.trans k1))
end
theorem dL.unlock {E E':fH} {w w':World} {L:Nat->Prop} (L0:Nat->Prop) (hs:∀g,L0 g->L g) (k:dL { E with lock:=L} w E' w'):dL { E with lock:=L0} w { E' with lock:=L0} w':=
 ⟨k.imm,λ_=>Iff.rfl,λg hg=>k.lock g (hs g hg),k.used,k.ob,k.tkc,k.tkf,k.os,k.tape,k.output,k.size⟩
theorem eS.turnK {E:fH} {h:aF} {w:World} (r:eS E h w) {l:Nat} {ob ob':Obj} (hl:w.heap[l]? =some ob) (ho:nC ob=true) (ho':nC ob'=true) (hlk:∀k,¬E.at h k l) (hn:¬E.lock l):
    eS E h (w.putObj l ob')/\dL E w E (w.putObj l ob'):=by
  obtain⟨r1,kv⟩:=r.turn hl ho ho' hlk
  refine⟨r1,λg o hi=>kv.imm g o hi,λ_=>Iff.rfl,λg hg=>putObj_heap_other λe=>hn (e ▸ hg),kv.used,kv.ob,λk t ht o ho2=>kv.tkc k t ht o ho2,kv.tkf,rfl,rfl,rfl, ?_⟩
  rw[putObj_size]
  exact Nat.le_refl _
def mkD (D:Nat):Deferred:={ target:=.collected D,args:= #[]}
def zY (E:fH) (w:World) (K:Fr->aF->Prop) (a':Act) (w':World):Prop:=
 ∃D E1 w1 E' fr' h',¬E.lock D/\dL E w E1 w1/\dL { E1 with lock:=λg=>E1.lock g\/g=D} w1 E' w'/\eS E' h' w'/\cP E' w' fr' a'.tmps.toList/\a'.defers= [mkD D]/\w'.heap[D]? =some (.deferred (some []))/\K fr' h'
def F7 (D:Nat) (E:fH) (w:World) (K:Fr->aF->Prop) (a':Act) (w':World):Prop:=
 ∃E' fr' h',dL E w E' w'/\eS E' h' w'/\cP E' w' fr' a'.tmps.toList/\a'.defers= [mkD D]/\K fr' h'
def IA (P:Program) (c:Code) (Q:Exit->Fr->aF->Prop) (fr:Fr) (h:aF):Prop:=
 ∀E w a,eS E h w->cP E w fr a.tmps.toList->a.defers= []->c.wpIn Fence.wide 0 P (λe a' w'=>zY E w (Q e) a' w') a w
def ZH (P:Program) (c:Code) (Q:Exit->Fr->aF->Prop) (fr:Fr) (h:aF):Prop:=
 ∀D E w a,eS E h w->cP E w fr a.tmps.toList->a.defers= [mkD D]->c.wpIn Fence.wide 0 P (λe a' w'=>F7 D E w (Q e) a' w') a w
def AOd (P:Program) (ops:Array Oper) (l:List Oper) (K:Fr->aF->Prop) (fr:Fr) (h:aF):Prop:=
 ∀D E w a,eS E h w->cP E w fr a.tmps.toList->a.defers= [mkD D]->∀Q,(∀a' w',F7 D E w K a' w'->Q .normal a' w')->wpListIn Fence.wide 0 P ops Q l a w
theorem F7.trans {D:Nat} {E E':fH} {w w':World} {K:Fr->aF->Prop} {a'':Act} {w'':World} (k:dL E w E' w') (h:F7 D E' w' K a'' w''):F7 D E w K a'' w'':=
 let ⟨E'',fr',h',h1,h2,h3,h4,h5⟩:=h; ⟨E'',fr',h',k.trans h1,h2,h3,h4,h5⟩
theorem zY.trans {E E':fH} {w w':World} {K:Fr->aF->Prop} {a'':Act} {w'':World} (k:dL E w E' w') (h:zY E' w' K a'' w''):zY E w K a'' w'':=by
 obtain⟨D,E1,w1,E2,fr',h',n,k1,k2,r,v,d,c,q⟩:=h
 exact⟨D,E1,w1,E2,fr',h',λe=>n ((k.lockEq D).2 e),k.trans k1,k2,r,v,d,c,q⟩
theorem zY.mono {E:fH} {w:World} {K K':Fr->aF->Prop} {a':Act} {w':World} (hk:∀fr h,K fr h->K' fr h) (h:zY E w K a' w'):zY E w K' a' w':=
 let ⟨D,E1,w1,E2,fr',h',n,k1,k2,r,v,d,c,q⟩:=h; ⟨D,E1,w1,E2,fr',h',n,k1,k2,r,v,d,c,hk _ _ q⟩
section
variable {P:Program} {Q:Exit->Fr->aF->Prop} {fr:Fr} {h:aF} {ops:Array Oper} {K:Fr->aF->Prop}
theorem TH (hk:K fr h):AOd P ops [] K fr h:=λD E w a r v d _ hQ=>hQ a w ⟨E,fr,h,dL.refl E w,r,v,d,hk⟩
theorem BX {o:Oper} {l:List Oper} (hg:o.guard=none) (hd:nd o.op=true) (ho:jF P o (λx h'=>AOd P ops l K (iP fr o.dst x) h') fr h):AOd P ops (o::l) K fr h:=by
 intro D E w a r v d Q hQ
 refine wpListIn_plain hg λK' hK'=>JS (ro:=none) hd (ho E w a r (λy _=>sJ v y) K' Q ?_)
 intro x u w' E' h' k r' vx kx
 refine hK' _ _ (kx D E' w' _ r' (mI _ (cB k _ _ v) vx) (by rw[iT]; exact d) Q ?_)
 intro a' w'' p
 exact hQ _ _ (p.trans k)
theorem QG {id:Nat} {l:List Oper} (hl:AOd P l.toArray l (Q .normal) fr h):ZH P (.region id l.toArray false) Q fr h:=
 λD E w a r v d=>wpIn_region_lit (hl D E w a r v d _ λ_ _ p=>p)
theorem TJ (hq:Q .ret fr h):ZH P .ret Q fr h:=λD E w a r v d=>wpIn_ret ⟨E,fr,h,dL.refl E w,r,v,d,hq⟩
theorem TK {x y:Code} (hx:ZH P x (Seq (ZH P y Q) Q) fr h):ZH P (.seq x y) Q fr h:=by
 intro D E w a r v d
 refine wpIn_seq (wpIn_mono (hx D E w a r v d) ?_)
 intro e a' w' p
 cases e with
 | normal=>
  obtain⟨E',fr',h',k,r',v',d',q⟩:=p
  exact wpIn_mono (q D E' w' a' r' v' d') λ_ _ _ p'=>p'.trans k
 | exit id=>exact p
 | goto l=>exact p
 | ret=>exact p
 | panic ch=>exact p
 | outgrown=>exact p
theorem gP.awm {c:Code} {fr':Fr} {h':aF} (le:gP fr' h' fr h) (hc:IA P c Q fr' h'):IA P c Q fr h:=by
 intro E w a r v d
 obtain⟨E',k,r',v'⟩:=le E w _ r v
 exact wpIn_mono (hc E' w a r' v' d) λ_ _ _ p=>p.trans k
theorem JV {x y:Code} (hx:AW P x (λe fr h=>e= .normal/\IA P y Q fr h) fr h):IA P (.seq x y) Q fr h:=by
 intro E w a r v d
 refine wpIn_seq (wpIn_mono (wpIn_wide.2 (hx E w a r v d)) ?_)
 rintro e a' w' ⟨E',fr',h',k,r',v',d',rfl,q⟩
 exact wpIn_mono (q E' w' a' r' v' d') λ_ _ _ p'=>p'.trans k
theorem QH {x y:Code} (hx:IA P x (λe fr h=>e= .normal/\ZH P y Q fr h) fr h):IA P (.seq x y) Q fr h:=by
 intro E w a r v d
 refine wpIn_seq (wpIn_mono (hx E w a r v d) ?_)
 rintro e a' w' ⟨D,E1,w1,E2,fr',h',n,k1,k2,r',v',d',c,rfl,q⟩
 refine wpIn_mono (q D E2 w' a' r' v' d') λe a'' w'' p'=> ?_
 obtain⟨E3,fr3,h3,k3,r3,v3,d3,q3⟩:=p'
 exact⟨D,E1,w1,E3,fr3,h3,n,k1,k2.trans k3,r3,v3,d3,(k3.lock D ((k2.lockEq D).2 (.inr rfl))).trans c,q3⟩
theorem LP {id:Nat} {c:Code} (hc:IA P c (λe fr h=>e= .normal/\Q .normal fr h) fr h):IA P (.block id c) Q fr h:=by
 intro E w a r v d
 refine wpIn_block (wpIn_mono (hc E w a r v d) ?_)
 intro e a' w' p
 have e0:e= .normal:=by
  obtain⟨D,E1,w1,E2,fr',h',n,k1,k2,r',v',d',c,e0,q⟩:=p
  exact e0
 subst e0
 exact p.mono λ_ _ q=>q.2
theorem AX {f:FuncId} {fn:Func} {c:Code} {args:List AV} {Q:AV->aF->Prop} (hf:P.funcs[f]? =some fn) (hb:fn.body=some c)
    (hc:IA P c (dW P fn.results.toList Q) (args++List.replicate (fn.ntmps - args.length) (.sc undef)) h):aM P f args h Q:=by
  intro E w vs r v
  refine callsIn_wide.1 (callsIn_of_wp_marks (n:=0) hf hb trivial ?_)
  have hl:args.length=vs.size:=by simpa using cR v
  have hv:cP E w (args++List.replicate (fn.ntmps - args.length) (.sc undef)) (vs++Array.replicate (fn.ntmps - vs.size) undef).toList:=by
    rw[toList_append,<- hl]
    refine cT v ?_
    have:=oN (E:=E) (w:=w) (List.replicate (fn.ntmps - args.length) undef)
    simpa using this
  refine wpIn_mono (hc E w { tmps:=vs++Array.replicate (fn.ntmps - vs.size) undef,defers:=[]} r hv rfl) ?_
  intro e a' w' p
  obtain⟨D,E1,w1,E2,fr',h',n,k1,k2,r',v',d',c,q⟩:=p
  have hD:E2.lock D:=(k2.lockEq D).2 (.inr rfl)
  have h1:∀g,E1.lock g->E2.lock g:=λg hg=>(k2.lockEq g).2 (.inl hg)
  have r3:eS { E2 with lock:=E1.lock} h' w':=r'.relock E1.lock (λk g ha hg=>(r'.dis k g ha).1 (h1 g hg)) (λg hg=>r'.lkb g (h1 g hg))
  have k3:dL E w { E2 with lock:=E1.lock} w':=k1.trans (k2.unlock E1.lock λg hg=>.inl hg)
  obtain⟨r4,k4⟩:=r3.turnK (ob':=.deferred none) c rfl rfl (λk ha=>(r'.dis k D ha).1 hD) (λe=>n ((k1.lockEq D).1 e))
  have k5:=k3.trans k4
  have v4:cP { E2 with lock:=E1.lock} (w'.putObj D (.deferred none)) fr' a'.tmps.toList:=cB k4 _ _ (pE v')
  have fin:∀x y h'',vI P h' fr' fn.results.toList=some x->iG h'' h'->bD h'' x y->Q y h''->
      LeavesInM Fence.wide 0 P fn a'.tmps (λe w'=>∃v E' x h',e=Ending.returned v/\dL E w E' w'/\eS E' h' w'/\VR E' w' x v/\Q x h') a'.defers .returning w':=by
    intro x y h'' hx hs hl hq
    rw[d']
    obtain⟨u,g1,g2⟩:=rK r4 v4 hx
    obtain⟨E'',k'',r''⟩:=r4.drop hs
    exact⟨nofun,.inl ⟨D,_,rfl,run_takeDeferred c,u,g1,u,E'',y,h'',rfl,k5.trans k'',r'',hl _ _ _ r'' (kQ k'' _ _ g2),hq⟩⟩
  cases e with
  | normal=>obtain⟨x,y,h'',q1,q2,q3,q4⟩:=q; exact fin x y h'' q1 q2 q3 q4
  | ret=>obtain⟨x,y,h'',q1,q2,q3,q4⟩:=q; exact fin x y h'' q1 q2 q3 q4
  | exit id=>exact q.elim
  | goto l=>exact q.elim
  | panic ch=>exact q.elim
  | outgrown=>exact q.elim
theorem LQ {g:Operand} {ps:Array Tmp} {assign body:Code} {f:FuncId} {caps:List AV} {Kr:aF->Prop} (hg:ev fr g= .fn (.func f) caps) (hb:aP P f=true)
    (hit:∀(l D:Nat) (rec:Loop),rec.state= .ready->rec.pending=none->rec.params=ps->rec.assign=assign->rec.body=body->∀E w (vs:Array Value),xN l D rec fr E w->eS E h w->cP E w (.fn (.yield l) []::caps) vs.toList->
      CallsIn Fence.wide 0 P f vs w (λe w'=>∃v E' h',e= .returned v/\dL E w E' w'/\eS E' h' w'/\Kr h'))
    (hq:∀h',Kr h'->Q .normal fr h'):IA P (.rangeFunc g ps assign body) Q fr h:=by
  intro E w a r v d
  have vg:=sJ v g
  rw[hg] at vg
  simp only[VR] at vg
  obtain⟨cs,eg,vc⟩:=vg
  refine wpIn_rangeFunc λfn _=> ?_
  obtain⟨rec,hrec⟩:∃rec:Loop,rec= { state:=.ready,pending:=none,fn,tmps:=a.tmps,params:=ps,assign,body,defers:=w.heap.size}:=⟨_,rfl⟩
  obtain⟨W1,hW1⟩:∃W1,(w.alloc (.deferred (some []))).alloc (.loop rec)=W1:=⟨_,rfl⟩
  have hL1:W1.heap[w.heap.size+1]? =some (.loop rec):=by
    rw[<- hW1]; have:=World.alloc_heap_new (w.alloc (.deferred (some []))) (.loop rec); rwa [World.size_alloc] at this
  have hK1:W1.heap[w.heap.size]? =some (.deferred (some [])):=by
    rw[<- hW1]
    show ((w.heap.push _).push _)[w.heap.size]? =_
    simp[Array.getElem?_push]
  obtain⟨ra,ka⟩:=r.more (.deferred (some []))
  obtain⟨rb,kb⟩:=ra.more (.loop rec)
  rw[hW1] at rb kb
  have kab:=ka.trans kb
  have hsz:W1.heap.size=w.heap.size+2:=by rw[<- hW1]; simp
  obtain⟨L,hL⟩:∃L:Nat->Prop,L=λg=>E.lock g\/g=w.heap.size\/g=w.heap.size+1:=⟨_,rfl⟩
  have hat:∀k g,E.at h k g->g < w.heap.size:=λk g ha=>r.at_lt ha
  have r1:eS { E with lock:=L} h W1:=rb.relock L
    (λk g ha hg=>by
      subst hL
      have h1:=hat k g ha
      rcases hg with hg | hg | hg
      . exact(r.dis k g ha).1 hg
      . omega
      . omega)
    (λg hg=>by
      subst hL
      rcases hg with hg | hg | hg
      . have:=r.lkb g hg; omega
      . omega
      . omega)
  have v1:cP { E with lock:=L} W1 fr a.tmps.toList:=pE (cB kab _ _ v)
  refine⟨w.heap.size+1,[mkD w.heap.size],W1,{ target:=.fn (.func f) cs,args:= #[.func (.yield (w.heap.size+1)) #[] #[]]},W1,f, #[.func (.yield (w.heap.size+1)) #[] #[]]++cs,W1, ?_, ?_,λf' _=>trivial, ?_,λhh=>(by cases hh), ?_⟩
  . rw[<- hW1,hrec]; exact run_enterLoop_outer _ _ _ _ _
  . simp only[resolve,eg]
    simp[go_sem]
  . simp[invoke,sN hb]
  . have hI:xN (w.heap.size+1) w.heap.size rec fr { E with lock:=L} W1:=⟨by subst hL; exact .inr (.inr rfl),hL1,by subst hL; exact .inr (.inl rfl),hK1,by rw[hrec]; exact v1⟩
    refine(hit _ _ rec (by rw[hrec]) (by rw[hrec]) (by rw[hrec]) (by rw[hrec]) (by rw[hrec]) _ W1 _ hI r1 ?_).mono ?_
    . rw[toList_append]
      refine cT (xs:=[.fn (.yield (w.heap.size+1)) []]) ?_ (pE (cB kab _ _ vc))
      simp only[cP,VR,List.toList_toArray]
      exact⟨⟨#[],rfl,by simp[cP]⟩,trivial⟩
    . rintro e W3 ⟨u,E3,h',rfl,k3,r3,kh⟩
      obtain⟨i1,i2,i3,i4,i5⟩:=xN.stb _ _ _ _ k3 hI
      refine⟨none,_,by have:=run_endLoop (P:=P) i2 (by rw[hrec]; simp); rw[hrec] at this; exact this, ?_⟩
      have hlo:∀g,(E.lock g\/g=w.heap.size)->L g:=λg hg=>by subst hL; exact hg.elim .inl λe=>.inr (.inl e)
      have hlo3:∀g,(E.lock g\/g=w.heap.size)->E3.lock g:=λg hg=>(k3.lockEq g).2 (hlo g hg)
      have r4:eS { E3 with lock:=λg=>E.lock g\/g=w.heap.size} h' W3:=r3.relock _ (λk g ha hg=>(r3.dis k g ha).1 (hlo3 g hg)) (λg hg=>r3.lkb g (hlo3 g hg))
      have k4:dL { E with lock:=λg=>E.lock g\/g=w.heap.size} W1 { E3 with lock:=λg=>E.lock g\/g=w.heap.size} W3:=dL.unlock (E:=E) (L:=L) _ hlo k3
      obtain⟨r5,k5⟩:=r4.turnK (ob':=.loop { rec with state:=.exhausted}) i2 rfl rfl (λk ha=>(r3.dis k _ ha).1 i1) (λhh=>by
        rcases hh with hh | hh
        . have:=r.lkb _ hh; omega
        . omega)
      rw[hrec] at r5 k5
      refine⟨w.heap.size,E,W1,_,fr,h',λhh=>by have:=r.lkb _ hh; omega,kab,k4.trans k5,r5, ?_,by rw[d]; rfl, ?_,hq h' kh⟩
      . have i5':cP E3 W3 fr a.tmps.toList:=by rw[hrec] at i5; exact i5
        exact cB k5 _ _ (pE i5')
      . rw[putObj_heap_other (by omega)]; exact i4
end
section
variable {P:Program} {Q:Exit->Fr->aF->Prop} {h:aF} {n:Nat}
theorem JW {args:List AV} {ntm:Nat} (hn:ntm=n) (hle:ble args.length n=true):gP (fm n (CQ 0 args).k) h (args++List.replicate (ntm - args.length) (.sc undef)) h:=by
 have hle:=Nat.le_of_ble_eq_true hle
 subst hn
 rw[G5]
 refine gP.of (iG.refl h) (nQ ?_ ?_)
 ·rw[lK,List.length_append,List.length_replicate]; omega
 ·intro i x y hx hy
  rw[pU] at hy
  split at hy
  ·cases hy
   have e:=vJ (ntm - args.length) 0 args i
   rw[Nat.zero_add] at e
   rw[e]
   by_cases hi:i < args.length
   ·rw[List.getElem?_append_left hi] at hx
    simp only[List.getD,List.getElem?_append_left hi,hx,Option.getD_some]
    exact bD.refl _ _
   ·simp only[List.getD,List.getElem?_append_right (Nat.le_of_not_lt hi),List.getElem?_replicate]
    split<;>exact bD.any _ _
  ·cases hy
theorem ACm {f:FuncId} {fn:Func} {c:Code} {args:List AV} {Q:AV->aF->Prop} (n:Nat) (rs:List ResultVar) (hf:P.funcs[f]? =some fn) (hb:fn.body=some c) (hn:fn.ntmps=n) (hr:fn.results.toList=rs) (hle:ble args.length n=true)
    (hc:IA P c (dW P rs Q) (fm n (CQ 0 args).k) h):aM P f args h Q:=by
  refine AX hf hb ?_
  rw[hr]
  exact(JW hn hle).awm hc
theorem aJV {I:fH->World->Prop} (hI:Q2 I) {f:FuncId} {fn:Func} {c:Code} {args:List AV} {K:aF->Prop} (n:Nat) (hf:P.funcs[f]? =some fn) (hb:fn.body=some c) (hn:fn.ntmps=n) (hr:fn.results.toList= []) (hle:ble args.length n=true)
    (hc:sF I none P c (λe fr h=>(e= .normal\/e= .ret)/\∃h' g,K h'/\gP g h' fr h) (fm n (CQ 0 args).k) h) {E:fH} {w:World} {vs:Array Value} (i:I E w) (r:eS E h w) (v:cP E w args vs.toList):
    CallsIn Fence.wide 0 P f vs w (λe w'=>∃v E' h',e= .returned v/\dL E w E' w'/\eS E' h' w'/\K h'):=by
  refine callsIn_wide.2 (calls_of_wp hf hb ?_)
  have hl:args.length=vs.size:=by simpa using cR v
  have hv:cP E w (args++List.replicate (fn.ntmps - args.length) (.sc undef)) (vs++Array.replicate (fn.ntmps - vs.size) undef).toList:=by
    rw[toList_append,<- hl]
    refine cT v ?_
    have:=oN (E:=E) (w:=w) (List.replicate (fn.ntmps - args.length) undef)
    simpa using this
  refine wp_mono (wpIn_wide.1 ((JW hn hle).awn hI hc E w { tmps:=vs++Array.replicate (fn.ntmps - vs.size) undef,defers:=[]} i r hv rfl)) ?_
  rintro e a' w' ⟨E1,fr1,h1,k1,r1,v1,d',q,h',fr',kh,le⟩
  obtain⟨E',k2,r',v'⟩:=le E1 w' _ r1 v1
  have k:=k1.trans k2
  have hx:vI P h' fr' fn.results.toList=some (.tup []):=by rw[hr]; rfl
  obtain⟨u,g1, -⟩:=rK r' v' hx
  rcases q with rfl | rfl
  . exact⟨d',u,g1,u,E',h',rfl,k,r',kh⟩
  . exact⟨d',u,g1,u,E',h',rfl,k,r',kh⟩
theorem QI {x y:Code} {f:FR} {L:HL} (hk:bT h L) (hx:VC P h n x (λf L=>bT h L->IA P y Q (fm n f.k) (hp h L)) (λ_ _ _=>False) f L):IA P (.seq x y) Q (fm n f.k) (hp h L):=by
 refine JV ((hx.r hk).mono ?_)
 rintro e fr hh ⟨f',L',hk',le,q⟩
 cases e with
 | normal=>exact⟨rfl,le.awm (q hk')⟩
 | exit i=>exact q.elim
 | goto l=>exact q.elim
 | ret=>exact q.elim
 | panic c=>exact q.elim
 | outgrown=>exact q.elim
theorem QJ {I:fH->World->Prop} (hI:Q2 I) {x y:Code} {f:FR} {L:HL} {ke:Exit->FR->HL->Prop} (hk:bT h L) (hx:VC P h n x (λf L=>bT h L->sF I none P y Q (fm n f.k) (hp h L)) ke f L)
    (he:∀e f L fr hh,e≠ .normal->ke e f L->bT h L->gP (fm n f.k) (hp h L) fr hh->Q e fr hh):sF I none P (.seq x y) Q (fm n f.k) (hp h L):=by
  refine DY hI (QA ((hx.r hk).mono ?_))
  rintro e fr hh ⟨f',L',hk',le,q⟩
  cases e with
  | normal=>exact le.awn hI (q hk')
  | exit i=>exact he _ _ _ _ _ (by simp) q hk' le
  | goto l=>exact he _ _ _ _ _ (by simp) q hk' le
  | ret=>exact he _ _ _ _ _ (by simp) q hk' le
  | panic c=>exact he _ _ _ _ _ (by simp) q hk' le
  | outgrown=>exact he _ _ _ _ _ (by simp) q hk' le
theorem aEG {α:Type} {c:α->List AV} {xs ys:List α} {dst:Option Tmp} {a lo hi mx:Operand} {t:TypeId} {sz:Nat} {q1 q2 q3:IntKind} {x y:Int} {kvs:KV} {ty:TypeId} {pos:String} {dP:Array Edge} (hm:slc xs x y=some ys) (hy:decide (0 < y)=true) (ht:nW P t=some sz) (h0:Nat.blt 0 sz=true) (ha:dK n kvs a= .sl none sz (xs.map c))
    (hl:dK n kvs lo= .sc (.int q1 x)) (hh:dK n kvs hi= .sc (.int q2 y)) (hx:dK n kvs mx= .sc (.int q3 y)):eK P ⟨dst,.slice t a (some lo) (some hi) (some mx),ty,pos,dP,none⟩ (.sl none sz (ys.map c)) (fm n kvs) h:=by
  simp only[Nat.blt_eq] at h0
  simp only[decide_eq_true_eq] at hy
  unfold slc at hm
  split at hm
  . rename_i hc
    cases hm
    refine kA (c:=(sz=sz/\0 < sz)/\0<=x/\x<=y/\y<=y/\y<=(xs.map c).length) ?_ ⟨⟨rfl,h0⟩,hc.1,hc.2.1,Int.le_refl _,by rw[length_map]; exact hc.2.2⟩
    have e3:MC (some (AV.sc (.int q1 x))) (.sc (.int q2 y)) (.sc (.int q3 y)) (some sz) (.sl none sz (xs.map c))=some ((sz=sz/\0 < sz)/\0<=x/\x<=y/\y<=y/\y<=(xs.map c).length,.sl none sz (((xs.take y.toNat).drop x.toNat).map c)):=by
      simp only[MC,oO,lH,bind_some]
      rw[List.map_drop,List.map_take]
    obtain⟨k,hk⟩:∃k:Nat,y=Int.ofNat (k+1):=⟨y.toNat - 1,by show y=((y.toNat - 1+1:Nat):Int); omega⟩
    show YN (some (ev (fm n kvs) lo)) (ev (fm n kvs) hi) (ev (fm n kvs) mx) (nW P t) (ev (fm n kvs) a)=_
    rw[bI,bI,bI,bI,ha,hl,hh,hx,ht]
    unfold YN
    rw[e3]
    subst hk
    rfl
  . cases hm
end
section
variable {P:Program} {Q:Exit->Fr->aF->Prop} {h:aF} {n:Nat} {I:fH->World->Prop} {ro:Option Nat}
theorem gP.aon {ops:Array Oper} {l:List Oper} {K:Fr->aF->Prop} {fr fr':Fr} {h h':aF} (hI:Q2 I) (le:gP fr' h' fr h) (hc:L5 I ro P ops l K fr' h'):L5 I ro P ops l K fr h:=by
 intro E w a i r v d Q hq hQ
 obtain⟨E',k,r',v'⟩:=le E w _ r v
 exact hc E' w a (hI _ _ _ _ k i) r' v' d Q hq λa' w' p=>hQ _ _ (p.trans k)
theorem BY {ops:Array Oper} {l:List Oper} {K K':Fr->aF->Prop} {fr:Fr} {h:aF} (hk:∀fr h,K fr h->K' fr h) (hc:iU P ops l K fr h):iU P ops l K' fr h:=
 λE w a r v d Q hQ=>hc E w a r v d Q λa' w' p=>hQ _ _ (p.mono hk)
theorem TL {T:Tr TI} {w:Bool} (hT:EO P T) (hI:Q2 I) (k:Nat) {id:Nat} {l:List Oper} {f:FR} {L:HL} (hd:((l.take k).all λo=>nd o.op)=true) (hk:bT h L)
    (hv:vo false T w P h n l (λf L=>bT h L->L5 I ro P l.toArray (l.drop k) (Q .normal) (fm n f.k) (hp h L)) (l.take k) f L):sF I ro P (.region id l.toArray false) Q (fm n f.k) (hp h L):=by
  refine QD ?_
  have h1:=QC (l:=l.take k) (l2:=l.drop k) (ro:=ro) (K:=Q .normal) hI hd (BY (λfr hh q=> ?_) (MV hT _ f L hv hk))
  . rw[List.take_append_drop] at h1
    exact h1
  . obtain⟨f',L',hk',le,q⟩:=q
    exact le.aon hI (q hk')
theorem TM {T:Tr TI} {w:Bool} (hT:EO P T) (hI:Q2 I) {l0 l:List Oper} {K:Fr->aF->Prop} {f:FR} {L:HL} (hq:∀fr' h' fr h,gP fr' h' fr h->K fr' h'->K fr h) (hd:(l.all λo=>nd o.op)=true) (hk:bT h L)
    (hv:vo false T w P h n l0 (λf L=>bT h L->K (fm n f.k) (hp h L)) l f L):L5 I ro P l0.toArray l K (fm n f.k) (hp h L):=by
  have h1:=QC (l:=l) (l2:=[]) (ro:=ro) (K:=K) hI hd (BY (λfr hh q=> ?_) (MV hT _ f L hv hk))
  . rw[List.append_nil] at h1
    exact h1
  . obtain⟨f',L',hk',le,q⟩:=q
    exact TF (hq _ _ _ _ le (q hk'))
theorem IB {l D p:Nat} {rec:Loop} {fr0:Fr} {x:AV} {Kr:aF->Prop} {y b:Operand} {dst:Option Tmp} {ts:Array TypeId} {ty:TypeId} {pos:String} {dP:Array Edge} {l2:List Oper} {ops:Array Oper} {K:Fr->aF->Prop} {f:FR}
    (hp:rec.params= #[p]) (hy:dK n f.k y= .fn (.yield l) []) (hx:dK n f.k b=x) (hr:ZG P l D p rec fr0 x h Kr)
    (k:∀h',Kr h'->L5 (xN l D rec fr0) none P ops l2 K (fm n (f.put dst (.sc (.bool true))).k) h'):
    L5 (xN l D rec fr0) none P ops (⟨dst,.call { callee:=.value y,args:= #[b],argTypes:=ts},ty,pos,dP,none⟩::l2) K (fm n f.k) h:=by
  refine LO hp (by rw[bI]; exact hy) (by rw[bI]; exact hx) hr λh' kh=> ?_
  rw[jD,<- FR.put_k]
  exact k h' kh
theorem TN {K:AV->aF->Prop} {o:Oper} {h1 h2:aF} {t:Nat} {kvs:KV} (v:AV) (hs:iG h2 h1) (hv:bD h2 (lk n kvs t) v) (ho:jF P o K (fm n (kp kvs t v)) h2):jF P o K (fm n kvs) h1:=by
 intro E w a r hva Nx Qx hn
 obtain⟨E',k,r'⟩:=r.drop hs
 refine ho E' w a r' (λy hy=> ?_) Nx Qx λx u w' E'' h' k'=>hn x u w' E'' h' (k.trans k')
 have h1:=kQ k _ _ (hva y hy)
 rw[bI] at h1 ⊢
 cases y with
 | tmp s=>
  simp only[dK] at h1 ⊢
  by_cases e:t=s
  ·subst e
   have h3:=hv E' w _ r' h1
   rw[lG]
   split
   ·rw[lR]; exact h3
   ·simp only[VR]
  ·rw[lG] at h1 ⊢
   rw[pV _ _ e]; exact h1
 | const v=>exact h1
 | global g=>exact h1
 | func g=>exact h1
theorem YI {x y:Code} {f:FR} (g:FR) (hx:VC P h n x (λf L=>L= []/\LX h n f [] g []) (λ_ _ _=>False) f []) (hy:IA P y Q (fm n g.k) (hp h [])):IA P (.seq x y) Q (fm n f.k) (hp h []):=by
 refine JV ((hx.r trivial).mono ?_)
 rintro e fr hh ⟨f',L',hk',le,q⟩
 cases e with
 | normal=>
  obtain⟨rfl,hl⟩:=q
  exact⟨rfl,(le.trans (hl trivial).2).awm hy⟩
 | exit i=>exact q.elim
 | goto l=>exact q.elim
 | ret=>exact q.elim
 | panic c=>exact q.elim
 | outgrown=>exact q.elim
theorem aEH {x:Code} {f:FR} {L:HL} (hq:∀fr' h' fr h,gP fr' h' fr h->Q .normal fr' h'->Q .normal fr h) (hk:bT h L) (hx:VC P h n x (λf L=>bT h L->Q .normal (fm n f.k) (hp h L)) (λ_ _ _=>False) f L):sF I none P x Q (fm n f.k) (hp h L):=by
 refine QA ((hx.r hk).mono ?_)
 rintro e fr hh ⟨f',L',hk',le,q⟩
 cases e with
 | normal=>exact hq _ _ _ _ le (q hk')
 | exit i=>exact q.elim
 | goto l=>exact q.elim
 | ret=>exact q.elim
 | panic c=>exact q.elim
 | outgrown=>exact q.elim
end
end Go.Vm
namespace Go.Proofs.YtbbifdfldpfphaaGreat
open Go.Vm
def lS {β:Type} (p0:List aE) (m:Int) (st:β->List aE->Option β) (s:β) (i:Int):Option (Lp (β×Int) β):=
 if decide (i < (p0.length:Int)) then ((slc p0 i (p0.length:Int)).bind λtl=>(slc p0 i (wrap .i64 (i+min m (tl.length:Int)))).bind λrow=>grd (decide (0 < wrap .i64 (i+min m (tl.length:Int)))) ((st s row).bind λs'=>Gk (s',wrap .i64 (i+m)))) else Bk (s,i)
def TO {β:Type} (u:Nat) (p0:List aE) (m:Int) (st:β->List aE->Option β) (s0:β):Option β:=after (aT (λs=>lS p0 m st s.1 s.2) u (s0,0)) λs=>some s.1
theorem aJW {β:Type} {Hs:β->aF->Prop} {st:β->List aE->Option β} {j:Nat} {p0:List aE} {m:Int} {s0 o:β} {k1 k2:bX} {l D p:Nat} {rec:Loop} {fr0:Fr} {h:aF}
 (hp:rec.params= #[p])
 (h1:∀s h,Hs s h->h k1=some (.obj 33 [.sl none 37 (p0.map aJ)])) (h2:∀s h,Hs s h->h k2=some (.obj 3 [nZ m]))
 (hr:∀s row s' h,st s row=some s'->Hs s h->ZG prog l D p rec fr0 (.sl none 37 (row.map aJ)) h (Hs s'))
 (u:TO j p0 m st s0=some o) (h0:Hs s0 h) {E:fH} {w:World} {us:Array Value} (hi:xN l D rec fr0 E w) (r:eS E h w) (hv:cP E w [.fn (.yield l) [],.ptr k1 0,.ptr k2 0] us.toList):
 CallsIn Fence.wide 0 prog 113 us w (λe w'=>∃v E' h',e= .returned v/\dL E w E' w'/\eS E' h' w'/\Hs o h'):=by
 refine aJV xN.stb 31 Tryz.func113 rfl rfl rfl rfl ?_ hi r hv
 unfold TO at u
 refine QJ xN.stb (h:=h) (L:=[]) trivial ?_ (ke:=λ_ _ _=>False) (λ_ _ _ _ _ _ q=>q.elim)
 refine v ?_
 intro _
 refine wG ?_
 obtain⟨SL,hSL⟩:∃SL:Int->FR,SL=λi=>.c 0 (.fn (.yield l) []) (.c 1 (.ptr k1 0) (.c 2 (.ptr k2 0) (.c 4 (nZ i) .nil))):=⟨_,rfl⟩
 refine QF xN.stb (λm' fr hh=>∃s i,after (aT (λs=>lS p0 m st s.1 s.2) m' (s,i)) (λs=>some s.1)=some o/\∃h1,Hs s h1/\gP (fm 31 (SL i).k) h1 fr hh) j ⟨s0,0,u,h,h0, ?_⟩ ?_
 subst hSL
 exact(lx (h:=h) (L:=[]) (.k4 .nil) trivial).2
 rintro m' fr hh ⟨s,i,u,h',hs,le⟩
 refine le.awn xN.stb ?_
 cases m' with
 | zero=>cases u
 | succ m'=>
 simp only[aT] at u
 cases hx:lS p0 m st s i with
 | none=>rw[hx] at u; cases u
 | some x=>
 rw[hx] at u
 unfold lS at hx
 subst hSL
 refine QJ xN.stb (h:=h') (L:=[]) trivial ?_ (ke:=λe _ L=>e= .exit 0/\x= .brk (s,i)/\L= []) ?_
 refine vs (v (bV (gO _ mM rfl (h1 _ _ hs) rfl) (dI mA rfl (v (vi hx (λhc hx=> ?_) (λhc hx=> ?_))))))
 refine v ?_
 intro _
 obtain⟨tl,X1,hx⟩:=aC hx
 obtain⟨row,X2,hx⟩:=aC hx
 obtain⟨X3,hx⟩:=l6 hx
 obtain⟨s',X4,hx⟩:=aC hx
 injection hx with hx
 subst hx
 refine DY xN.stb (wG (QJ xN.stb (h:=h') (L:=[]) trivial ?_ (ke:=λ_ _ _=>False) (λ_ _ _ _ _ _ q=>q.elim)))
 refine v (vq (by kernel_rfl) (bV (gO _ cG rfl (h2 _ _ hs) rfl) (bV (gO _ mM rfl (h1 _ _ hs) rfl) (bV (pG X1 n3 rfl rfl rfl rfl) (dI mA rfl (bV (ZY rfl rfl) ?_))))))
 intro _
 refine DY xN.stb (TL YS xN.stb 10 (h:=h') (L:=[]) (w:=false) rfl trivial (bV (gO _ mM rfl (h1 _ _ hs) rfl) (bV (aEG X2 X3 n3 rfl rfl rfl rfl rfl) ?_)))
 intro _
 refine IB hp rfl rfl (hr _ _ _ _ X4 hs) λg2 hs2=>TM YS xN.stb (h:=g2) (L:=[]) (w:=false) (λ_ _ _ _ le q=>le.awn xN.stb q) rfl trivial ?_
 intro _
 refine YH (t:=false) (by rw[bI]; rfl) nofun λ_=>QE (aEH (h:=g2) (L:=[]) ?_ trivial ?_)
 rintro fr' hh' fr hh le ⟨n',hn,s,i,u,h1,hs,le'⟩
 exact⟨n',hn,s,i,u,h1,hs,le.trans le'⟩
 refine v (bV (gO _ cG rfl (h2 _ _ hs2) rfl) ?_)
 intro _
 exact⟨m',Nat.lt_succ_self _,s',_,u,g2,hs2,(lx (h:=g2) (L:=[]) (.k4 .nil) trivial).2⟩
 refine v ?_
 injection hx with hx
 exact⟨rfl,hx.symm,rfl⟩
 rintro e f L fr hh - ⟨rfl,rfl,rfl⟩ - le
 cases u
 exact⟨.inl rfl,h',_,hs,le⟩
theorem W70 {p0:List aE} {m:Int} (h:aF) (u:decide (m < 1)=false):
 aM prog 70 [.sl none 37 (map aJ p0),nZ m] h (λr h'=>∃k1 k2,bT h [(some k2,.obj 3 [nZ m]),(some k1,.obj 33 [.sl none 37 (map aJ p0)])]/\r= .fn (.func 113) [.ptr k1 0,.ptr k2 0]/\h'=hp h [(some k2,.obj 3 [nZ m]),(some k1,.obj 33 [.sl none 37 (map aJ p0)])]):=by
 exact fM 9 [.tmp 4] Tryz.func70 rfl rfl rfl rfl (v (gX rfl rfl λk1 K3=>gX rfl rfl λk2 K3=>vs (vs (v (vl 0 _ cG rfl rfl rfl (v (vf u (v (v (v (vr λw=>dW.of1 (.inl rfl) (gK _ _ (.fn (.func 113) [.ptr k1 0,.ptr k2 0]) rfl) (iG.refl _) (bD.refl _ _) ⟨k1,k2,w,rfl,rfl⟩)))))))))))
theorem aJX:aP prog 70=true:=by kernel_rfl
theorem aEI:aP prog 113=true:=by kernel_rfl
def Q3 (p1:Int):Int:=if (decide (p1 < 1) || decide (64 < p1))then 64 else p1
theorem TP (p1:Int):decide (Q3 p1 < 1)=false:=by
 unfold Q3
 split
 rfl
 rename_i h
 simp only[or_eq_true,decide_eq_true_eq,not_or] at h
 simp only[decide_eq_false_iff_not]
 omega
def TQ (m:Nat) (s:List (List aE)) (row:List aE):Option (List (List aE)):=(M71 m row).bind λr=>app s [r]
def ZI (u:Nat) (p0:List aE) (p1:Int):Option (List (List aE)):=TO u p0 (Q3 p1) (TQ u) []
section
variable (p0:List aE) (m:Int) (k1 k2 k5:bX)
def L28 (tg:Option bX) (s:List (List aE)):HL:=
 [(tg,.tok 33 1 (s.length*1)),(some k2,.obj 3 [nZ m]),(some k1,.obj 33 [.sl none 37 (map aJ p0)]),(some k5,.obj 50 [ow tg 1 (map iX s)])]
def H28 (h:aF) (s:List (List aE)) (hh:aF):Prop:=∃tg,(tg=none->s= [])/\bT h (L28 p0 m k1 k2 k5 tg s)/\hh=hp h (L28 p0 m k1 k2 k5 tg s)
end
theorem W28 {fuel:Nat} {p0:List aE} {p1:Int} {o:List (List aE)} (h:aF) (u:ZI fuel p0 p1=some o):
 aM prog 28 [.sl none 37 (map aJ p0),nZ p1] h (λr h'=>r= .sl none 1 (map iX o)/\h'=h):=by
 unfold ZI at u
 refine ACm 23 [.tmp 4] Tryz.func28 rfl rfl rfl rfl (QI (h:=h) (L:=[]) trivial (v ?_))
 intro _
 obtain⟨m,em⟩:∃m,m=Q3 p1:=⟨_,rfl⟩
 have hpos:=TP p1
 rw[<- em] at u hpos
 refine YI (h:=h) (.c 0 (.sl none 37 (map aJ p0)) (.c 1 (nZ m) .nil)) ?_ ?_
 refine vs ?_
 rcases Bool.eq_false_or_eq_true (decide (p1 < 1)) with c1 | c1
 refine v (vt c1 ?_)
 rw[c1]
 refine v (v ?_)
 have e64:m=64:=by rw[em]; simp[Q3,c1]
 subst e64
 exact⟨rfl,lx (.k2 .nil)⟩
 rcases Bool.eq_false_or_eq_true (decide (64 < p1)) with c2 | c2
 refine v (vf c1 ?_)
 rw[c1]
 refine v (vt c2 (v ?_))
 have e64:m=64:=by rw[em]; simp[Q3,c1,c2]
 subst e64
 exact⟨rfl,lx (.k2 .nil)⟩
 refine v (vf c1 ?_)
 rw[c1]
 refine v (vf c2 (v ?_))
 have e64:m=p1:=by rw[em]; simp[Q3,c1,c2]
 subst e64
 exact⟨rfl,lx (.k2 .nil)⟩
 refine QI (h:=h) (L:=[]) trivial (v (ve λj=>bE [sZ] j aF5 rfl rfl λk5 K5=>qk K5 rfl ?_))
 intro K5
 refine QH (QI (h:=h) K5 (v (ve λj=>dD (W70 _ hpos) rfl aJX rfl ?_)))
 rintro x h' ⟨k1,k2,K1,rfl,rfl⟩
 refine qk (cZ j K1) (cM h _ _) ?_
 intro j
 have le0:=leo (n:=23) (f:=.c 15 (.fn (.func 113) [.ptr k1 0,.ptr k2 0]) (.c 14 (nZ m) (.c 13 (.sl none 37 (map aJ p0)) (.c 5 (.ptr k5 0) (.c 0 (.sl none 37 (map aJ p0)) (.c 1 (nZ m) .nil)))))) (.tok 33 1 (([]:List (List aE)).length*1)) 3 [ow none 1 (map iX [])] rfl (.cons (iB _ _) .nil) j
 obtain⟨hkL,le0⟩:=le0
 refine le0.awm (LP (LQ (by rw[bI]; rfl) aEI (λl D rec r1 r2 r3 r4 r5 E w us hi r hv=>aJW (Hs:=H28 p0 m k1 k2 k5 h) (st:=TQ fuel) r3 ?_ ?_ ?_ u ⟨none,λ_=>rfl,hkL,rfl⟩ hi r hv) ?_))
 rintro s hh ⟨tg,ot,j,rfl⟩
 exact a9 2 j rfl
 rintro s hh ⟨tg,ot,j,rfl⟩
 exact a9 1 j rfl
 rintro s row s' hh hst ⟨tg,ot,j,rfl⟩
 unfold TQ at hst
 obtain⟨row',hr1,hst⟩:=aC hst
 have e6:∀(f:FR) (x:AV),(fm 23 f.k).set 16 x=fm 23 (f.put (some 16) x).k:=λf x=>by
   show iP (fm 23 f.k) (some 16) x=_
   rw[jD,FR.put_k]
 refine ZG.of r1 r2 (fr1:=fm 23 (FR.put (FR.put (.c 15 (.fn (.func 113) [.ptr k1 0,.ptr k2 0]) (.c 14 (nZ m) (.c 13 (.sl none 37 (map aJ p0)) (.c 5 (.ptr k5 0) (.c 0 (.sl none 37 (map aJ p0)) (.c 1 (nZ m) .nil)))))) (some 16) (.sl none 37 (map aJ row))) (some 6) (.sl none 37 (map aJ row))).k) ?_ ?_
 rw[r4,e6]
 refine TE rfl ?_
 rw[FR.put_k]
 refine qN (iJ (.sl none 37 (map aJ row)) rfl) (e8 ⟨rfl, ?_⟩)
 rw[FR.put_k]
 exact gP.rfl'
 rw[r5]
 refine wG (QB [(5,some k5,.obj 50 [ow tg 1 (map iX s)])] rfl mixed ⟨λ_=>aN 3 j rfl,trivial⟩ (zL 0 0 (ow tg 1 (map iX s)) rfl aAR rfl rfl rfl (zC 1 rfl (fC (.sl none 37 (map aJ row)) rfl) (zE 2 rfl (dD (W71 _ hr1) rfl aGM rfl ?_)))))
 rintro x h' ⟨t,ot',hk',rfl,rfl⟩
 refine⟨⟨λ_=> ?_,trivial⟩, ?_⟩
 rw[cM]
 exact aN 4 (cZ j hk') rfl
 refine zE 3 rfl (TN (t:=19) (.sl none 37 (map aJ row')) (G6 hk') (eB 37 0 ot' hk' rfl) (a_v (eJ (map iX [row']) aAQ rfl rfl rfl rfl) ⟨⟨λ_=>aN 3 j rfl,trivial⟩, ?_⟩))
 refine zE 4 rfl (fK (c:=iX) 0 hst aAQ rfl rfl rfl ot j rfl λtg' ot' hk'=>⟨⟨λ_=>aN 3 hk' rfl,trivial⟩, ?_⟩)
 refine zE 5 rfl (aL 3 ([ow tg' 1 (map iX s')]) hk' rfl rfl (jN rfl) (pW _ _ _) aF4 rfl rfl λhk''=>⟨⟨λe=>absurd e (by decide),trivial⟩, ?_⟩)
 exact zX ⟨rfl,_,_,⟨tg',ot',hk'',rfl⟩,gP.rfl'⟩
 rintro hh ⟨tg,ot,j,rfl⟩
 refine⟨rfl,rfl, ?_⟩
 refine TK (QG (BX rfl rfl (a_v (gO (ow tg 1 (map iX o)) aAR rfl (a9 3 j rfl) rfl) ?_)))
 rw[jD]
 refine BX rfl rfl (a_v (iJ (ow tg 1 (map iX o)) rfl) ?_)
 rw[jD]
 exact TH (TJ (dW.of1 (.inl rfl) (gK _ _ (ow tg 1 (map iX o)) rfl) (aU (nil_sublist _) j).1 (eB 1 0 ot j rfl) ⟨rfl,rfl⟩))
theorem aEJ:aP prog 28=true:=by kernel_rfl
def ZJ (m:Nat):Option (Bool):=
 (ZI m ([({ Kind:=0,Id:=iC,Seq:=1,Of:=0,Off:=0,Len:=0}:aE),({ Kind:=0,Id:=iC,Seq:=2,Of:=0,Off:=0,Len:=0}:aE),({ Kind:=0,Id:=iC,Seq:=3,Of:=0,Off:=0,Len:=0}:aE)]:List aE) 2).bind λy3=>after (if ((y3.length:Int)==2)then ((ix y3 0).bind λx0=>if ((x0.length:Int)==2)then ((ix y3 1).bind λx1=>if ((x1.length:Int)==1)then ((ix y3 1).bind λx2=>(ix x2 0).bind λx3=>Bk (x3.Seq==3)) else Bk false) else Bk false) else Bk false:Option (Lp (Bool) (Bool))) λj0=>some j0
theorem W27 {u:Nat} {o:Bool} (h:aF) (m:ZJ u=some o):
 aM prog 27 [] h (λr h'=>r= .sc (.bool o)/\h'=h):=by
 refine fM 33 [.tmp 0] Tryz.func27 rfl rfl rfl rfl ?_
 unfold ZJ at m
 refine v (v (bV (eQ (aJ ({ Kind:=0,Id:=iC,Seq:=1,Of:=0,Off:=0,Len:=0}:aE)) s9 rfl) (bV (eQ (aJ ({ Kind:=0,Id:=iC,Seq:=2,Of:=0,Off:=0,Len:=0}:aE)) s9 rfl) (bV (eQ (aJ ({ Kind:=0,Id:=iC,Seq:=3,Of:=0,Off:=0,Len:=0}:aE)) s9 rfl) (bV (eJ (map aJ ([({ Kind:=0,Id:=iC,Seq:=1,Of:=0,Off:=0,Len:=0}:aE),({ Kind:=0,Id:=iC,Seq:=2,Of:=0,Off:=0,Len:=0}:aE),({ Kind:=0,Id:=iC,Seq:=3,Of:=0,Off:=0,Len:=0}:aE)]:List aE)) lM rfl rfl rfl rfl) (vk W28 aEJ m rfl rfl λ_ m=>vs (fP m (σ:=Bool) (λs=>[]) (λs=>.c 0 (.sc (.bool s)) .nil) (λx m=> ?_) ?_)))))))
 refine v (dI aAP rfl ?_)
 apply vi m<;>intro b0 m
 rw[b0]
 refine vx m RT rfl rfl λ_ _ m=>dI mA rfl ?_
 apply vi m<;>intro b1 m
 rw[b1]
 refine vx m RT rfl rfl λ_ _ m=>dI mA rfl ?_
 apply vi m<;>intro b2 m
 rw[b2]
 exact vx m RT rfl rfl λ_ _ m=>vx m n3 rfl rfl λ_ _ m=>nI m
 rw[b2]
 exact nI m
 rw[b1]
 exact nI m
 rw[b0]
 exact nI m
 rintro _ j0 m
 refine v ?_
 obtain rfl:=eT m
 exact eI rfl
theorem YJ:aP prog 27=true:=by kernel_rfl
def M17 (m:Nat) (p0:aA) (p1:Int):Option ((List aE)):=
 after (if decide (p1 < 0) then Bk true else if decide (1 < p1) then Bk true else (QY m p0).bind λy0=>Bk (y0 !=0):Option (Lp (Bool) ((List aE)))) λj0=>if j0 then (some []) else (R6 m p0 (λx0 x1=>M51 m x0 x1 p0 p1)).bind λy1=>some y1
theorem W17 {w:Nat} {p0:aA} {p1:Int} {o:(List aE)} (h:aF) (m:M17 w p0 p1=some o):
 aM prog 17 [.agg (aD p0),nZ p1] h (λr h'=>r= .sl none 37 (map aJ o)/\h'=h):=by
 refine fM 19 [.tmp 4] Tryz.func17 rfl rfl rfl rfl ?_
 unfold M17 at m
 refine v (gX rfl rfl λk2 K3=>gX rfl rfl λk5 K6=>vs (vs (fP m (σ:=Bool) (λs=>[(some k5,.obj 3 (fQ p1)),(some k2,.obj 30 (aD p0))]) (λs=>.c 2 (.ptr k2 0) (.c 3 (.ptr k5 0) (.c 15 (.sc (.bool s)) .nil))) (λx m=> ?_) ?_)))
 refine v (vl 0 _ cG rfl rfl rfl ?_)
 apply vi m<;>intro b0 m
 rw[b0]
 exact hX m
 rw[b0]
 refine vl 0 _ cG rfl rfl rfl ?_
 apply vi m<;>intro b1 m
 rw[b1]
 exact hX m
 rw[b1]
 exact vl 1 (.agg (aD p0)) dG rfl rfl rfl (vk YT KO m rfl rfl λ_ m=>hX m)
 rintro _ j0 m
 refine v ?_
 apply vi m<;>intro c0 m
 refine v (v ?_)
 cases m
 exact vr λu=>dW.of1 (.inl rfl) (gK _ _ (.sc (.slice _ _ _)) rfl) (aU (nil_sublist _) u).1 (bC _) ⟨rfl,rfl⟩
 refine v (v (vl 1 (.agg (aD p0)) dG rfl rfl rfl ?_))
 obtain⟨_,Y0,m⟩:=aC m
 refine vn (λu=>bW (W50 _ aHA (λ_ _ o h0 hs ho=>W51 _ (hs _ _ (a9 1 u rfl)) (hs _ _ (a9 0 u rfl)) ho) Y0) rfl WH rfl) (v ?_)
 obtain rfl:=eT m
 exact eI rfl
theorem aJ0:aP prog 17=true:=by kernel_rfl
def DZ (m:Nat) (p0:aA) (p1:List aS) (p2:Int) (q0:Int):Option (Lp (Int) (Bool)):=
 if decide (q0 < (p1.length:Int)) then (after ((ix p1 q0).bind λx0=>if decide (0<=x0.Vol) then ((ix p1 q0).bind λx1=>if decide (x1.Vol < (p0.Vols.length:Int)) then ((ix p1 q0).bind λx2=>(ix p0.Vols x2.Vol).bind λx3=>Bk (x3.Pool==p2)) else Bk false) else Bk false:Option (Lp (Bool) (Lp (Int) (Bool)))) λj0=>if j0 then Rk true else Gk (wrap .i64 (q0+1))) else Bk q0
def TR (m:Nat) (p0:aA) (p1:List aS) (p2:Int):Option (Bool):=
 after (aT (λs=>DZ m p0 p1 p2 s) m 0) λr0=>some false
theorem aEK {u:Nat} {p0:aA} {p1:List aS} {p2:Int} {o:Bool} (h:aF) (m:TR u p0 p1 p2=some o):
 aM prog 107 [.agg (aD p0),.sl none 4 (map aO p1),nZ p2] h (λr h'=>r= .sc (.bool o)/\h'=h):=by
 refine fM 45 [.tmp 6] Tryz.func107 rfl rfl rfl rfl ?_
 unfold TR at m
 refine v (gX rfl rfl λk2 K3=>v (jT m (σ:=Int) (λs=>[(some k2,.obj 30 (aD p0))]) (λs=>.c 1 (.sl none 4 (map aO p1)) (.c 2 (nZ p2) (.c 3 (.ptr k2 0) (.c 7 (nZ s) .nil)))) (lx (.k4 .nil)) ?_ ?_))
 rintro _ q0 x m
 replace m:DZ u p0 p1 p2 q0=some x:=m
 unfold DZ at m
 refine v (dI kC rfl (v ?_))
 apply vi m<;>intro c0 m
 refine v (v (vs (fP m (σ:=Bool) (λs=>[(some k2,.obj 30 (aD p0))]) (λs=>.c 1 (.sl none 4 (map aO p1)) (.c 2 (nZ p2) (.c 3 (.ptr k2 0) (.c 7 (nZ q0) (.c 44 (.sc (.bool s)) .nil))))) (λx m=> ?_) ?_)))
 refine v (vq (by kernel_rfl) (vx m jH rfl rfl λ_ _ m=> ?_))
 apply vi m<;>intro b0 m
 rw[b0]
 refine vx m jH rfl rfl λ_ _ m=>vl 0 _ gH rfl rfl rfl (dI pM rfl ?_)
 apply vi m<;>intro b1 m
 rw[b1]
 exact vl 0 _ gH rfl rfl rfl (vx m jH rfl rfl λ_ _ m=>vx m kZ rfl rfl λ_ _ m=>lE m)
 rw[b1]
 exact lE m
 rw[b0]
 exact lE m
 rintro _ j0 m
 refine v ?_
 apply vi m<;>intro c1 m
 refine v (v (gM m λm=> ?_))
 obtain rfl:=eT m
 exact eI rfl
 exact v (v (fV m))
 exact v (u0 m)
 rintro _ r0 m
 refine v (v ?_)
 obtain rfl:=eT m
 exact eI rfl
theorem UX:aP prog 107=true:=by kernel_rfl
def M52 (m:Nat) (p0:aA) (p1:List aS) (p2:Int):Option (Bool):=
 after ((TR m p0 p1 p2).bind λy0=>if (!y0)then (if (p2==0)then Bk true else (TR m p0 p1 0).bind λy1=>Bk y1) else Bk false:Option (Lp (Bool) (Bool))) λj0=>some j0
theorem W52 {u:Nat} {p0:aA} {p1:List aS} {p2:Int} {o:Bool} (h:aF) (m:M52 u p0 p1 p2=some o):
 aM prog 52 [.agg (aD p0),.sl none 4 (map aO p1),nZ p2] h (λr h'=>r= .sc (.bool o)/\h'=h):=by
 refine fM 21 [.tmp 6] Tryz.func52 rfl rfl rfl rfl ?_
 unfold M52 at m
 refine v (gX rfl rfl λk2 K3=>vs (fP m (σ:=Bool) (λs=>[(some k2,.obj 30 (aD p0))]) (λs=>.c 6 (.sc (.bool s)) .nil) (λx m=> ?_) ?_))
 refine v (vl 0 (.agg (aD p0)) dG rfl rfl rfl (vk aEK UX m rfl rfl λ_ m=> ?_))
 apply vi m<;>intro b0 m
 rw[b0]
 apply vi m<;>intro b1 m
 rw[b1]
 exact nI m
 rw[b1]
 exact vl 0 (.agg (aD p0)) dG rfl rfl rfl (vk aEK UX m rfl rfl λ_ m=>nI m)
 rw[b0]
 exact nI m
 rintro _ j0 m
 refine v ?_
 obtain rfl:=eT m
 exact eI rfl
theorem YK:aP prog 52=true:=by kernel_rfl
def IC (m:Nat) (p0:aA) (p1:Int) (q0:List aE) (q1:Int):Option (Lp ((List aE)×Int) ((List aE))):=
 if decide (q1 < (p0.Chunks.length:Int)) then (after ((ix p0.Chunks q1).bind λx0=>(WW m p0 x0.Id).bind λy0=>if y0 then ((ix p0.Chunks q1).bind λx1=>(M52 m p0 x1.Locs p1).bind λy1=>Bk y1) else Bk false:Option (Lp (Bool) (Lp ((List aE)×Int) ((List aE))))) λj0=>after (if j0 then ((ix p0.Chunks q1).bind λx2=>(app q0 ([({ Kind:=1,Id:=x2.Id,Seq:=0,Of:=0,Off:=0,Len:=0}:aE)]:List aE)).bind λz0=>Bk z0) else Bk q0:Option (Lp ((List aE)) (Lp ((List aE)×Int) ((List aE))))) λj1=>Gk (j1,wrap .i64 (q1+1))) else Bk (q0,q1)
def ID (m:Nat) (p0:aA) (p1:Int) (q0:List aE) (q1:Int):Option (Lp ((List aE)×Int) ((List aE))):=
 if decide (q1 < (p0.Snaps.length:Int)) then ((ix p0.Snaps q1).bind λx0=>(M52 m p0 x0.Locs p1).bind λy0=>after (if y0 then ((ix p0.Snaps q1).bind λx1=>(app q0 ([({ Kind:=2,Id:=iC,Seq:=x1.Seq,Of:=0,Off:=0,Len:=0}:aE)]:List aE)).bind λz0=>Bk z0) else Bk q0:Option (Lp ((List aE)) (Lp ((List aE)×Int) ((List aE))))) λj0=>Gk (j0,wrap .i64 (q1+1))) else Bk (q0,q1)
def IE (m:Nat) (p0:aA) (p1:Int) (q0:List aE) (q1:Int):Option (Lp ((List aE)×Int) ((List aE))):=
 if decide (q1 < (p0.Exps.length:Int)) then ((ix p0.Exps q1).bind λx0=>(M52 m p0 x0.Locs p1).bind λy0=>after (if y0 then ((ix p0.Exps q1).bind λx1=>(ix p0.Exps q1).bind λx2=>(app q0 ([({ Kind:=3,Id:=iC,Seq:=x1.Seq,Of:=x2.Of,Off:=0,Len:=0}:aE)]:List aE)).bind λz0=>Bk z0) else Bk q0:Option (Lp ((List aE)) (Lp ((List aE)×Int) ((List aE))))) λj0=>Gk (j0,wrap .i64 (q1+1))) else Bk (q0,q1)
def M19 (m:Nat) (p0:aA) (p1:Int):Option ((List aE)):=
 after (if (p1 !=0)then (Bk (p1 !=1)) else Bk false:Option (Lp (Bool) ((List aE)))) λj9=>if j9 then (some []) else after (aT (λs=>IC m p0 p1 s.1 s.2) m ([],0)) λ⟨r0,r1⟩=>after (aT (λs=>ID m p0 p1 s.1 s.2) m (r0,0)) λ⟨r2,r3⟩=>after (aT (λs=>IE m p0 p1 s.1 s.2) m (r2,0)) λ⟨r4,r5⟩=>some r4
theorem W19 {w:Nat} {p0:aA} {p1:Int} {o:(List aE)} (h:aF) (m:M19 w p0 p1=some o):
 aM prog 19 [.agg (aD p0),nZ p1] h (λr h'=>r= .sl none 37 (map aJ o)/\h'=h):=by
 refine fM 110 [.tmp 4] Tryz.func19 rfl rfl rfl rfl ?_
 unfold M19 at m
 refine v (gX rfl rfl λk2 K3=>v (vs (vs (fP m (σ:=Bool) (λs=>[(some k2,.obj 30 (aD p0))]) (λs=>.c 1 (nZ p1) (.c 2 (.ptr k2 0) (.c 5 (sZ) (.c 14 (.sc (.bool s)) .nil)))) (λx m=> ?_) ?_))))
 refine v ?_
 apply vi m<;>intro b0 m
 rw[b0]
 exact fV m
 rw[b0]
 exact fV m
 rintro _ j9 m
 refine v ?_
 apply vi m<;>intro c0 m
 refine v (v ?_)
 cases m
 exact vr λu=>dW.of1 (.inl rfl) (gK _ _ (.sc (.slice _ _ _)) rfl) (aU (nil_sublist _) u).1 (bC _) ⟨rfl,rfl⟩
 refine v (v (pJ (BI (.tok 38 37 (([]:List aE).length*37)) 5 (ow none 37 (map aJ [])) (iB _ _)) (nE m (σ:=(List aE)×Int) (τ:=Option bX) (λg s=>[(g,.tok 38 37 ((s.1:List aE).length*37)),(some k2,.obj 30 (aD p0))]) (λg s=>(g=none->s.1= [])) (λg s=>.c 1 (nZ p1) (.c 2 (.ptr k2 0) (.c 5 (ow g 37 (map aJ s.1)) (.c 6 (nZ s.2) .nil)))) none (λ_=>rfl) (lx (.k4 .nil)) ?_ ?_)))
 rintro tg0 ⟨q0,q1⟩ x t0 m
 replace m:IC w p0 p1 q0 q1=some x:=m
 unfold IC at m
 refine v (vl 1 _ fA rfl rfl rfl (dI kY rfl (v ?_)))
 apply vi m<;>intro c1 m
 refine v (v (vs (fP m (σ:=Bool) (λs=>[(tg0,.tok 38 37 ((q0:List aE).length*37)),(some k2,.obj 30 (aD p0))]) (λs=>.c 1 (nZ p1) (.c 2 (.ptr k2 0) (.c 5 (ow tg0 37 (map aJ q0)) (.c 6 (nZ q1) (.c 40 (.sc (.bool s)) .nil))))) (λx m=> ?_) ?_)))
 refine v (vq (by kernel_rfl) (vl 1 (.agg (aD p0)) dG rfl rfl rfl (vl 1 _ fA rfl rfl rfl (vx m fZ rfl rfl λx0 _ m=>va (.agg (bF x0.Id)) fF rfl rfl (vk W38 WX m rfl rfl λ_ m=> ?_)))))
 apply vi m<;>intro b1 m
 rw[b1]
 exact vl 1 (.agg (aD p0)) dG rfl rfl rfl (vl 1 _ fA rfl rfl rfl (vx m fZ rfl rfl λ_ _ m=>vk W52 YK m rfl rfl λ_ m=>lE m))
 rw[b1]
 exact lE m
 rintro _ j0 m
 refine oA m (σ:=(List aE)) (τ:=Option bX) (λg s=>[(g,.tok 38 37 ((s:List aE).length*37)),(some k2,.obj 30 (aD p0))]) (λg s=>(g=none->s= [])) (λg s=>.c 1 (nZ p1) (.c 2 (.ptr k2 0) (.c 5 (ow g 37 (map aJ s)) (.c 6 (nZ q1) .nil)))) (λx m=> ?_) ?_
 refine v ?_
 apply vi m<;>intro c2 m
 refine v (vl 1 _ fA rfl rfl rfl (vx m fZ rfl rfl λx1 _ m=>va (.agg (bF x1.Id)) fF rfl rfl (bV (eQ (aJ ({ Kind:=1,Id:=x1.Id,Seq:=0,Of:=0,Off:=0,Len:=0}:aE)) s9 rfl) (bV (eJ (map aJ ([({ Kind:=1,Id:=x1.Id,Seq:=0,Of:=0,Off:=0,Len:=0}:aE)]:List aE)) lM rfl rfl rfl rfl) ?_))))
 obtain⟨z0,Z0,m⟩:=aC m
 exact ve λu=>fK (c:=aJ) 0 Z0 lM rfl rfl rfl t0 u rfl λtg1 t1 K0=>qk K0 rfl (eF m tg1 t1 (lx (.k4 .nil)))
 exact v (eF m tg0 t0 (lx (.k4 .nil)))
 rintro tg2 j1 t2 m
 exact v (eF m tg2 t2 (lx (.k4 .nil)))
 exact v (lF m tg0 t0 (lx (.k4 .nil)))
 rintro tg3 ⟨r0,r1⟩ t3 m
 refine v (nE m (σ:=(List aE)×Int) (τ:=Option bX) (λg s=>[(g,.tok 38 37 ((s.1:List aE).length*37)),(some k2,.obj 30 (aD p0))]) (λg s=>(g=none->s.1= [])) (λg s=>.c 1 (nZ p1) (.c 2 (.ptr k2 0) (.c 5 (ow g 37 (map aJ s.1)) (.c 7 (nZ s.2) .nil)))) tg3 t3 (lx (.k4 .nil)) ?_ ?_)
 rintro tg4 ⟨q2,q3⟩ x t4 m
 replace m:ID w p0 p1 q2 q3=some x:=m
 unfold ID at m
 refine v (vl 1 _ fE rfl rfl rfl (dI kN rfl (v ?_)))
 apply vi m<;>intro c3 m
 refine v (v (v (vq (by kernel_rfl) (vl 1 (.agg (aD p0)) dG rfl rfl rfl (vl 1 _ fE rfl rfl rfl (vx m jG rfl rfl λ_ _ m=>vk W52 YK m rfl rfl λ_ m=>oA m (σ:=(List aE)) (τ:=Option bX) (λg s=>[(g,.tok 38 37 ((s:List aE).length*37)),(some k2,.obj 30 (aD p0))]) (λg s=>(g=none->s= [])) (λg s=>.c 1 (nZ p1) (.c 2 (.ptr k2 0) (.c 5 (ow g 37 (map aJ s)) (.c 7 (nZ q3) .nil)))) (λx m=> ?_) ?_))))))
 refine v ?_
 apply vi m<;>intro c4 m
 refine v (vl 1 _ fE rfl rfl rfl (vx m jG rfl rfl λx2 _ m=>bV (eQ (aJ ({ Kind:=2,Id:=iC,Seq:=x2.Seq,Of:=0,Off:=0,Len:=0}:aE)) s9 rfl) (bV (eJ (map aJ ([({ Kind:=2,Id:=iC,Seq:=x2.Seq,Of:=0,Off:=0,Len:=0}:aE)]:List aE)) lM rfl rfl rfl rfl) ?_)))
 obtain⟨z1,Z1,m⟩:=aC m
 exact ve λu=>fK (c:=aJ) 0 Z1 lM rfl rfl rfl t4 u rfl λtg5 t5 K1=>qk K1 rfl (eF m tg5 t5 (lx (.k4 .nil)))
 exact v (eF m tg4 t4 (lx (.k4 .nil)))
 rintro tg6 j2 t6 m
 exact v (eF m tg6 t6 (lx (.k4 .nil)))
 exact v (lF m tg4 t4 (lx (.k4 .nil)))
 rintro tg7 ⟨r2,r3⟩ t7 m
 refine v (nE m (σ:=(List aE)×Int) (τ:=Option bX) (λg s=>[(g,.tok 38 37 ((s.1:List aE).length*37)),(some k2,.obj 30 (aD p0))]) (λg s=>(g=none->s.1= [])) (λg s=>.c 1 (nZ p1) (.c 2 (.ptr k2 0) (.c 5 (ow g 37 (map aJ s.1)) (.c 8 (nZ s.2) .nil)))) tg7 t7 (lx (.k4 .nil)) ?_ ?_)
 rintro tg8 ⟨q4,q5⟩ x t8 m
 replace m:IE w p0 p1 q4 q5=some x:=m
 unfold IE at m
 refine v (vl 1 _ gN rfl rfl rfl (dI nK rfl (v ?_)))
 apply vi m<;>intro c5 m
 refine v (v (v (vq (by kernel_rfl) (vl 1 (.agg (aD p0)) dG rfl rfl rfl (vl 1 _ gN rfl rfl rfl (vx m gU rfl rfl λ_ _ m=>vk W52 YK m rfl rfl λ_ m=>oA m (σ:=(List aE)) (τ:=Option bX) (λg s=>[(g,.tok 38 37 ((s:List aE).length*37)),(some k2,.obj 30 (aD p0))]) (λg s=>(g=none->s= [])) (λg s=>.c 1 (nZ p1) (.c 2 (.ptr k2 0) (.c 5 (ow g 37 (map aJ s)) (.c 8 (nZ q5) .nil)))) (λx m=> ?_) ?_))))))
 refine v ?_
 apply vi m<;>intro c6 m
 refine v (vz [(1000000,some k2,.obj 30 (aD p0))] mixed (λu=>⟨λ_=>aN 1 u rfl,trivial⟩) λu=>zC 0 rfl (fC (ow _ _ _) rfl) (zF 1 rfl eH rfl (zL 2 0 (.sl none 3 (map cE p0.Exps)) rfl gN rfl rfl rfl (zI 3 rfl rfl ?_))))
 obtain⟨x3,X0,m⟩:=aC m
 refine zC 4 rfl (l4 X0 gU rfl rfl) (zC 5 rfl (nG yM rfl rfl) (zC 6 rfl (mJ (nZ x3.Seq) cG rfl rfl) (zF 7 rfl eH rfl (zL 8 0 (.sl none 3 (map cE p0.Exps)) rfl gN rfl rfl rfl (zI 9 rfl rfl ?_)))))
 obtain⟨x4,X1,m⟩:=aC m
 refine zC 10 rfl (l4 X1 gU rfl rfl) (zC 11 rfl (nG HD rfl rfl) (zC 12 rfl (mJ (nZ x4.Of) cG rfl rfl) (zC 13 rfl (eQ (aJ ({ Kind:=3,Id:=iC,Seq:=x3.Seq,Of:=x4.Of,Off:=0,Len:=0}:aE)) s9 rfl) (zC 14 rfl (eJ (map aJ ([({ Kind:=3,Id:=iC,Seq:=x3.Seq,Of:=x4.Of,Off:=0,Len:=0}:aE)]:List aE)) lM rfl rfl rfl rfl) ?_))))
 obtain⟨z2,Z2,m⟩:=aC m
 refine zE 15 rfl (fK (c:=aJ) 0 Z2 lM rfl rfl rfl t8 u rfl λtg9 t9 K2=>⟨⟨λ_=>aN 1 K2 rfl,trivial⟩, ?_⟩)
 exact zC 16 rfl (iJ (ow _ _ _) rfl) (zX (qk (f:=.c 5 _ (MX 108 _ _ _ _ _ _ _ _ _ _ _ _ _ _ _ _ _)) K2 rfl (eF m tg9 t9 (lx (.k4 .nil)))))
 exact v (eF m tg8 t8 (lx (.k4 .nil)))
 rintro tg10 j3 t10 m
 exact v (eF m tg10 t10 (lx (.k4 .nil)))
 exact v (lF m tg8 t8 (lx (.k4 .nil)))
 rintro tg11 ⟨r4,r5⟩ t11 m
 refine v (v ?_)
 obtain rfl:=eT m
 exact vr λu=>dW.of1 (.inl rfl) (gK _ _ (ow _ _ _) rfl) (aU (nil_sublist _) u).1 ((eB _ 0 t11 u rfl)) ⟨rfl,rfl⟩
theorem aJ3:aP prog 19=true:=by kernel_rfl
def M26 (m:Nat) (p0:aA) (p1:Int):Option ((List aE)):=
 (M69 m p0 p1 true).bind λy6=>some y6
theorem W26 {u:Nat} {p0:aA} {p1:Int} {o:(List aE)} (h:aF) (m:M26 u p0 p1=some o):
 aM prog 26 [.agg (aD p0),nZ p1] h (λr h'=>r= .sl none 37 (map aJ o)/\h'=h):=by
 refine fM 8 [.tmp 4] Tryz.func26 rfl rfl rfl rfl ?_
 unfold M26 at m
 refine v (gX rfl rfl λk2 K3=>v (vl 0 (.agg (aD p0)) dG rfl rfl rfl (vk W69 aB7 m rfl rfl λ_ m=>v ?_)))
 obtain rfl:=eT m
 exact eI rfl
theorem aJ5:aP prog 26=true:=by kernel_rfl
def QL (m:Nat) (y0:aA) (q0:Int) (y1:(List aE)) (q1:Int):Option (Lp (Int) (Lp (Int) (Bool))):=
 if decide (q1 < (y1.length:Int)) then (after ((ix y1 q1).bind λx0=>if (x0.Kind !=1)then (Bk ()) else (ix y1 q1).bind λx1=>(M20 m y0 x1.Id).bind λy2=>after (if decide (y2 < 0) then Bk true else if decide ((y0.Chunks.length:Int)<=y2) then Bk true else (ix y0.Chunks y2).bind λx2=>(UK m y0 x2.Locs q0).bind λy3=>if y3 then Bk true else (ix y1 q1).bind λx3=>(WF m y0 x3.Id).bind λy4=>Bk (!y4):Option (Lp (Bool) (Lp (Unit) (Lp (Int) (Lp (Int) (Bool)))))) λj0=>if j0 then (Rk (.ret (.ret false))) else Bk ():Option (Lp (Unit) (Lp (Int) (Lp (Int) (Bool))))) λ_=>Gk (wrap .i64 (q1+1))) else Bk q1
def QM (m:Nat) (y0:aA) (q0:Int):Option (Lp (Int) (Bool)):=
 if decide (q0<=2) then ((M17 m y0 q0).bind λy1=>(M19 m y0 q0).bind λy2=>(M18 m y1 y2).bind λy3=>if (!y3)then Rk false else after (aT (λs=>QL m y0 q0 y1 s) m 0) λr0=>Gk (wrap .i64 (q0+1))) else Bk q0
def QN (m:Nat) (y0:aA) (q0:Int):Option (Lp (Int) (Bool)):=
 if decide (q0<=(y0.Vols.length:Int)) then ((YY m y0 q0).bind λy1=>(SG m y0 q0).bind λy2=>after ((M25 m y0 q0).bind λy3=>(M18 m y1 y3).bind λy4=>if (!y4)then Bk true else (M26 m y0 q0).bind λy5=>(M18 m y2 y5).bind λy6=>if (!y6)then Bk true else Bk (decide ((y1.length:Int) < (y2.length:Int))):Option (Lp (Bool) (Lp (Int) (Bool)))) λj0=>if j0 then Rk false else Gk (wrap .i64 (q0+1))) else Bk q0
def M3 (m:Nat) (p0:List Int) (p1:List nJ):Option (Bool):=
 after (if decide (30 < (p0.length:Int)) then Bk true else (ZD m p1).bind λy9=>Bk y9:Option (Lp (Bool) (Bool))) λj7=>if j7 then (some true) else (ZE m p0).bind λy0=>(ZF m y0 p1).bind λy1=>after (aT (λs=>QM m y1 s) m (-1)) λr0=>after (aT (λs=>QN m y1 s) m (-1)) λr1=>(ZJ m).bind λy2=>some y2
theorem W3 {w:Nat} {p0:List Int} {p1:List nJ} {o:Bool} (h:aF) (m:M3 w p0 p1=some o):
 aM prog 3 [.sl none 1 (map fQ p0),.sl none 5 (map fR p1)] h (λr h'=>r= .sc (.bool o)/\h'=h):=by
 refine fM 121 [.tmp 4] Tryz.func3 rfl rfl rfl rfl ?_
 unfold M3 at m
 refine v (vs (vs (fP m (σ:=Bool) (λs=>[]) (λs=>.c 0 (.sl none 1 (map fQ p0)) (.c 1 (.sl none 5 (map fR p1)) (.c 19 (.sc (.bool s)) .nil))) (λx m=> ?_) ?_)))
 refine v (dI MZ rfl ?_)
 apply vi m<;>intro b8 m
 rw[b8]
 exact hX m
 rw[b8]
 exact vk W14 aD0 m rfl rfl λ_ m=>hX m
 rintro _ j7 m
 refine v ?_
 apply vi m<;>intro c0 m
 refine v (v ?_)
 obtain rfl:=eT m
 exact eI rfl
 refine v (v (vk W16 aD1 m rfl rfl λ_ m=>vk W15 aD2 m rfl rfl λy0 m=>ve λu=>bE (jB) u rO rfl rfl λk19 K0=>qk K0 rfl (ve λu=>aL 0 (aD y0) u rfl rfl rfl rfl mZ rfl rfl λK1=>qk K1 rfl (v (jT m (σ:=Int) (λs=>[(some k19,.obj 30 (aD y0))]) (λs=>.c 5 (.ptr k19 0) (.c 6 (nZ s) .nil)) (lx (.k2 .nil)) ?_ ?_)))))
 rintro _ q0 x m
 replace m:QM w y0 q0=some x:=m
 unfold QM at m
 refine v (v ?_)
 apply vi m<;>intro c1 m
 refine v (v (v (vl 0 (.agg (aD y0)) dG rfl rfl rfl (vk W17 aJ0 m rfl rfl λy1 m=>v (vl 0 (.agg (aD y0)) dG rfl rfl rfl (vk W19 aJ3 m rfl rfl λ_ m=>vk W18 WU m rfl rfl λ_ m=>v ?_))))))
 apply vi m<;>intro c2 m
 refine v (v (gM m λm=> ?_))
 obtain rfl:=eT m
 exact eI rfl
 refine v (v (jT m (σ:=Int) (λs=>[(some k19,.obj 30 (aD y0))]) (λs=>.c 5 (.ptr k19 0) (.c 6 (nZ q0) (.c 7 (.sl none 37 (map aJ y1)) (.c 8 (nZ s) .nil)))) (lx (.k4 .nil)) ?_ ?_))
 rintro _ q1 x m
 replace m:QL w y0 q0 y1 q1=some x:=m
 unfold QL at m
 refine v (dI mA rfl (v ?_))
 apply vi m<;>intro c3 m
 refine v (vs (fP m (σ:=Unit) (λs=>[(some k19,.obj 30 (aD y0))]) (λs=>.c 5 (.ptr k19 0) (.c 6 (nZ q0) (.c 7 (.sl none 37 (map aJ y1)) (.c 8 (nZ q1) .nil)))) (λx m=> ?_) ?_))
 refine v (v (vx m n3 rfl rfl λ_ _ m=>v ?_))
 apply vi m<;>intro c4 m
 exact v (fV m)
 refine v (v (vq (by kernel_rfl) (vl 0 (.agg (aD y0)) dG rfl rfl rfl (vx m n3 rfl rfl λx0 _ m=>va (.agg (bF x0.Id)) fF rfl rfl (vk W20 aG8 m rfl rfl λ_ m=>vs (fP m (σ:=Bool) (λs=>[(some k19,.obj 30 (aD y0))]) (λs=>.c 5 (.ptr k19 0) (.c 6 (nZ q0) (.c 7 (.sl none 37 (map aJ y1)) (.c 8 (nZ q1) (.c 85 (.sc (.bool s)) .nil))))) (λx m=> ?_) ?_))))))
 refine v (vq (by kernel_rfl) ?_)
 apply vi m<;>intro b0 m
 rw[b0]
 exact lE m
 rw[b0]
 refine vl 0 _ fA rfl rfl rfl (dI kY rfl ?_)
 apply vi m<;>intro b1 m
 rw[b1]
 exact lE m
 rw[b1]
 refine vl 0 (.agg (aD y0)) dG rfl rfl rfl (vl 0 _ fA rfl rfl rfl (vx m fZ rfl rfl λ_ _ m=>vk W21 R8 m rfl rfl λ_ m=> ?_))
 apply vi m<;>intro b2 m
 rw[b2]
 exact lE m
 rw[b2]
 exact vl 0 (.agg (aD y0)) dG rfl rfl rfl (vx m n3 rfl rfl λx1 _ m=>va (.agg (bF x1.Id)) fF rfl rfl (vk W22 WG m rfl rfl λ_ m=>lE m))
 rintro _ j0 m
 refine v ?_
 apply vi m<;>intro c5 m
 refine v (v (gM m λm=>gM m λm=>gM m λm=> ?_))
 obtain rfl:=eT m
 exact eI rfl
 exact v (fV m)
 rintro _ _ m
 exact v (fV m)
 exact v (u0 m)
 rintro _ r0 m
 exact v (w7 m)
 exact v (LY m)
 rintro _ r1 m
 refine v (jT m (σ:=Int) (λs=>[(some k19,.obj 30 (aD y0))]) (λs=>.c 5 (.ptr k19 0) (.c 10 (nZ s) .nil)) (lx (.k2 .nil)) ?_ ?_)
 rintro _ q2 x m
 replace m:QN w y0 q2=some x:=m
 unfold QN at m
 refine v (vl 0 _ gH rfl rfl rfl (dI pM rfl (v ?_)))
 apply vi m<;>intro c6 m
 refine v (v (v (vq (by kernel_rfl) (vl 0 (.agg (aD y0)) dG rfl rfl rfl (vk W23 aB5 m rfl rfl λ_ m=>vl 0 (.agg (aD y0)) dG rfl rfl rfl (vk W24 W4 m rfl rfl λ_ m=>vs (fP m (σ:=Bool) (λs=>[(some k19,.obj 30 (aD y0))]) (λs=>.c 5 (.ptr k19 0) (.c 10 (nZ q2) (.c 119 (.sc (.bool s)) .nil))) (λx m=> ?_) ?_)))))))
 refine v (vl 0 (.agg (aD y0)) dG rfl rfl rfl (vk W25 aH6 m rfl rfl λ_ m=>vk W18 WU m rfl rfl λ_ m=> ?_))
 apply vi m<;>intro b3 m
 rw[b3]
 exact hX m
 rw[b3]
 refine vl 0 (.agg (aD y0)) dG rfl rfl rfl (vk W26 aJ5 m rfl rfl λ_ m=>vk W18 WU m rfl rfl λ_ m=> ?_)
 apply vi m<;>intro b4 m
 rw[b4]
 exact hX m
 rw[b4]
 exact dI mA rfl (dI mA rfl (hX m))
 rintro _ j1 m
 refine v ?_
 apply vi m<;>intro c7 m
 refine v (v (gM m λm=> ?_))
 obtain rfl:=eT m
 exact eI rfl
 exact v (v (w7 m))
 exact v (LY m)
 rintro _ r2 m
 refine v (vk W27 YJ m rfl rfl λ_ m=>v ?_)
 obtain rfl:=eT m
 exact eI rfl
def laB (c:aA) (p:Int) (l:List aS):Bool:= !l.any (inP c p) && (p==0 || l.any (inP c 0))
def aLK (c:aA) (p:Int):List aE:=lT c λl b=>b && laB c p l
def zZ (c:aA) (v p:Int) (l:List aS):Bool:=(l.filter λx=> !(x.Vol==v)).any (inP c p)
theorem m39:ZJ 1000=some true:=by decide+kernel
def wH (m:Nat) (p0:List aE) (q0:List aE) (q1:Int):Option (Lp ((List aE)×Int) ((List aE))):=
 if decide (q1 < (p0.length:Int)) then ((ix p0 q1).bind λx0=>(app q0 ([{ { x0 with Off:=wrap .i64 (13+(wrap .i64 (20*q1)))} with Len:=20}]:List aE)).bind λz0=>Gk (z0,wrap .i64 (q1+1))) else Bk (q0,q1)
def ZK (m:Nat) (p0:List aE):Option ((List aE)):=
 after (aT (λs=>wH m p0 s.1 s.2) m ([],0)) λ⟨r0,r1⟩=>some r0
theorem W30 {w:Nat} {p0:List aE} {o:(List aE)} (h:aF) (m:ZK w p0=some o):
 aM prog 30 [.sl none 37 (map aJ p0)] h (λr h'=>r= .sl none 37 (map aJ o)/\h'=h):=by
 refine fM 26 [.tmp 2] Tryz.func30 rfl rfl rfl rfl ?_
 unfold ZK at m
 refine v (v (v (pJ (BI (.tok 38 37 (([]:List aE).length*37)) 3 (ow none 37 (map aJ [])) (iB _ _)) (nE m (σ:=(List aE)×Int) (τ:=Option bX) (λg s=>[(g,.tok 38 37 ((s.1:List aE).length*37))]) (λg s=>(g=none->s.1= [])) (λg s=>.c 0 (.sl none 37 (map aJ p0)) (.c 3 (ow g 37 (map aJ s.1)) (.c 4 (nZ s.2) .nil))) none (λ_=>rfl) (lx (.k3 .nil)) ?_ ?_))))
 rintro tg0 ⟨q0,q1⟩ x t0 m
 replace m:wH w p0 q0 q1=some x:=m
 unfold wH at m
 refine v (dI mA rfl (v ?_))
 apply vi m<;>intro c0 m
 refine v (v (v (vx m n3 rfl rfl λx0 _ m=>va (.agg (aJ x0)) CV rfl rfl (ve λu=>bE (([nZ 0]:List AV)++bF iC++(J1:List AV)) u HB rfl rfl λk79 K0=>qk K0 rfl (ve λu=>aL 0 (aJ x0) u rfl rfl rfl rfl HA rfl rfl λK1=>qk K1 rfl (v (ve λu=>aL 0 (aJ { x0 with Off:=wrap .i64 (13+(wrap .i64 (20*q1)))}) u rfl rfl rfl rfl AA rfl rfl λK2=>qk K2 rfl (ve λu=>aL 0 (aJ { { x0 with Off:=wrap .i64 (13+(wrap .i64 (20*q1)))} with Len:=20}) u rfl rfl rfl rfl AA rfl rfl λK3=>qk K3 rfl (v (vl 0 (.agg (aJ { { x0 with Off:=wrap .i64 (13+(wrap .i64 (20*q1)))} with Len:=20})) CV rfl rfl rfl (bV (eJ (map aJ ([{ { x0 with Off:=wrap .i64 (13+(wrap .i64 (20*q1)))} with Len:=20}]:List aE)) lM rfl rfl rfl rfl) ?_)))))))))))
 obtain⟨z0,Z0,m⟩:=aC m
 exact ve λu=>fK (c:=aJ) 1 Z0 lM rfl rfl rfl t0 u rfl λtg1 t1 K4=>qk K4 rfl (v (eF m tg1 t1 (mG [1] rfl rfl (.k3 .nil))))
 exact v (lF m tg0 t0 (lx (.k3 .nil)))
 rintro tg2 ⟨r0,r1⟩ t2 m
 refine v (v ?_)
 obtain rfl:=eT m
 exact vr λu=>dW.of1 (.inl rfl) (gK _ _ (ow _ _ _) rfl) (aU (nil_sublist _) u).1 ((eB _ 0 t2 u rfl)) ⟨rfl,rfl⟩
theorem aJ7:aP prog 30=true:=by kernel_rfl
theorem n71 {F:Nat} {l:List aE} (h:l.length<=1000000):M71 F l=some l:=by unfold M71; rw[bS (by simp; omega)]; simp
def D0 {α:Type} (k:Nat):Nat->List α->List (List α)
 | 0,_=>[]
 | n+1,l=>if l.length=0 then[] else l.take k::D0 k n (l.drop k)
theorem F8 {α:Type} {k:Nat} (hk:0 < k):∀(n:Nat) (l:List α),l.length<=n->(D0 k n l).flatten=l
 | 0,l,h=>by have:l= []:=List.length_eq_zero_iff.1 (by omega); subst this; rfl
 | n+1,l,h=>by
  unfold D0
  split
  ·rename_i h0
   have:l= []:=List.length_eq_zero_iff.1 h0
   subst this; rfl
  ·rename_i h0
   rw[List.flatten_cons,F8 hk n _ (by rw[length_drop]; omega),List.take_append_drop]
theorem aJ8 {α:Type} {l:List α} {i k:Nat} (h:i < l.length):slc l (i:Int) (min ((i:Int)+(k:Int)) (l.length:Int))=some ((l.drop i).take k):=by
 unfold slc
 rw[if_pos ⟨by omega,by omega,by omega⟩]
 have e:(min ((i:Int)+(k:Int)) (l.length:Int)).toNat=min (i+k) l.length:=by omega
 have e2:(i:Int).toNat=i:=by omega
 rw[e,e2,List.drop_take]
 congr 1
 by_cases hk:i+k<=l.length
 ·congr 1; omega
 ·rw[List.take_of_length_le (by rw[length_drop]; omega),List.take_of_length_le (by rw[length_drop]; omega)]
theorem F9 {α ρ:Type} {l:List α} {k:Nat} {body:List (List α)×Int->Option (Lp (List (List α)×Int) ρ)} (hk:0 < k) (hk2:k<=64)
    (hgo:∀(s:List (List α)) (i:Nat),i < l.length->s.length<=1000->body (s,(i:Int))=some (.go (s++ [(l.drop i).take k],((i+k:Nat):Int)))) (hbr:∀(s:List (List α)) (i:Nat),l.length<=i->i<=1000->body (s,(i:Int))=some (.brk (s,(i:Int)))) (hl:l.length<=800):
    ∀(n G:Nat) (s:List (List α)) (i:Nat),l.length - i<=n->i<=1000->n < G->s.length+n<=1000->∃j,aT body G (s,(i:Int))=some (.brk (s++D0 k n (l.drop i),j))
  | n,0,_,_,_,_,h,_=>by omega
  | n,G+1,s,i,h1,h3,h2,h4=>by
    have hi:(l.drop i).length=l.length - i:=length_drop
    unfold aT
    by_cases h:i < l.length
    . rw[hgo s i h (by omega)]
      cases n with
      | zero=>omega
      | succ n=>
        obtain⟨j,e⟩:=F9 hk hk2 hgo hbr hl n G (s++ [(l.drop i).take k]) (i+k) (by omega) (by omega) (by omega) (by simp; omega)
        refine⟨j, ?_⟩
        show aT body G _=_
        rw[e]
        rw[show D0 k (n+1) (l.drop i)=(l.drop i).take k::D0 k n ((l.drop i).drop k) from by
          show (if (l.drop i).length=0 then _ else _)=_
          rw[if_neg (by omega)],List.drop_drop]
        simp
    . rw[hbr s i (by omega) h3]
      refine⟨(i:Int), ?_⟩
      have e:D0 k n (l.drop i)= []:=by
        cases n with
        | zero=>rfl
        | succ n=>unfold D0; rw[if_pos (by omega)]
      rw[e,List.append_nil]
def AY (p1:Int):Nat:=(Q3 p1).toNat
theorem JX (p1:Int):0 < AY p1/\AY p1<=64/\Q3 p1=(AY p1:Int):=by
 unfold AY Q3
 split
 ·decide
 ·rename_i h
  simp only[or_eq_true,decide_eq_true_eq,not_or] at h
  omega
theorem n28 {F:Nat} {l:List aE} {p1:Int} (hF:1000<=F) (hl:l.length<=800):ZI F l p1=some (D0 (AY p1) l.length l):=by
 obtain⟨hk,hk2,hm⟩:=JX p1
 unfold ZI TO
 rw[hm]
 have hgo:∀(s:List (List aE)) (i:Nat),i < l.length->s.length<=1000->lS l (AY p1:Int) (TQ F) s (i:Int)=some (.go (s++ [(l.drop i).take (AY p1)],((i+AY p1:Nat):Int))):=by
  intro s i h hs
  have hi:(l.drop i).length=l.length - i:=length_drop
  unfold lS
  rw[if_pos (by simpa using h)]
  have e1:slc l (i:Int) (l.length:Int)=some (l.drop i):=by
   unfold slc
   rw[if_pos ⟨by omega,by omega,by omega⟩]
   have e2:(i:Int).toNat=i:=by omega
   have e3:(l.length:Int).toNat=l.length:=by omega
   rw[e2,e3,List.take_length]
  have e2:wrap .i64 ((i:Int)+min (AY p1:Int) ((l.drop i).length:Int))=min ((i:Int)+(AY p1:Int)) (l.length:Int):=by
   rw[hi,wr (by omega) (by omega)]; omega
  have e3:wrap .i64 ((i:Int)+(AY p1:Int))=((i+AY p1:Nat):Int):=by rw[wr (by omega) (by omega)]; omega
  have e4:TQ F s ((l.drop i).take (AY p1))=some (s++ [(l.drop i).take (AY p1)]):=by
   unfold TQ
   rw[n71 (by rw[length_take]; omega)]
   simp only[bind_some]
   exact bS (by simp; omega)
  simp only[e1,bind_some,e2,aJ8 h,e4,e3]
  unfold grd
  rw[if_pos (by simp; omega)]
 have hbr:∀(s:List (List aE)) (i:Nat),l.length<=i->i<=1000->lS l (AY p1:Int) (TQ F) s (i:Int)=some (.brk (s,(i:Int))):=by
  intro s i h _
  unfold lS
  rw[if_neg (by simpa using h)]
 obtain⟨j,e⟩:=F9 (ρ:=List (List aE)) (body:=λs=>lS l (AY p1:Int) (TQ F) s.1 s.2) (l:=l) hk hk2 hgo hbr hl l.length F [] 0 (by omega) (by omega) (by omega) (by simp; omega)
 have e':aT (λs=>lS l (AY p1:Int) (TQ F) s.1 s.2) F (([]:List (List aE)),(0:Int))=_:=e
 rw[e']
 rfl
theorem JY {α:Type} {k:Nat}:∀(n:Nat) (l:List α),∀x∈D0 k n l,x.Sublist l/\x.length<=k/\(0 < k->0 < x.length)
 | 0,l,x,h=>by simp[D0] at h
 | n+1,l,x,h=>by
  unfold D0 at h
  split at h
  ·simp at h
  ·rename_i h0
   rcases mem_cons.1 h with rfl | h
   ·exact⟨List.take_sublist _ _,by rw[length_take]; omega,λhk=>by rw[length_take]; omega⟩
   ·obtain⟨h1,h2⟩:=JY n _ x h
    exact⟨h1.trans (List.drop_sublist _ _),h2⟩
def iO:Nat->List aE->List aE
 | _,[]=>[]
 | i,x::l=> { x with Off:=13+20*(i:Int),Len:=20}::iO (i+1) l
theorem BZ (x:aE):∀(l:List aE) (i:Nat),iO i (l++ [x])=iO i l++ [{ x with Off:=13+20*((i+l.length:Nat):Int),Len:=20}]
 | [],i=>rfl
 | y::l,i=>by
  show _::iO (i+1) (l++ [x])=_
  rw[BZ x l (i+1),show i+1+l.length=i+(y::l).length by simp; omega]
  rfl
theorem uX:∀(l:List aE) (i:Nat),(iO i l).length=l.length
 | [],_=>rfl
 | x::l,i=>by
  show (iO (i+1) l).length+1=_
  rw[uX l (i+1)]; rfl
theorem nB:∀ {l:List aE} {i:Nat},∀y∈iO i l,∃x∈l,y.Kind=x.Kind/\y.Id=x.Id/\y.Seq=x.Seq/\y.Of=x.Of/\13<=y.Off/\y.Off<=13+20*((i+l.length:Nat):Int)/\y.Len=20
 | [],_,y,h=>by cases h
 | x::l,i,y,h=>by
  rcases mem_cons.1 h with rfl | h
  ·refine⟨x,mem_cons_self,rfl,rfl,rfl,rfl, ?_, ?_,rfl⟩
   ·show (13:Int)<=13+20*(i:Int); omega
   ·show 13+20*(i:Int)<=_; simp; omega
  ·obtain⟨z,hz,a,b,c,d,e,f,g⟩:=nB y h
   refine⟨z,mem_cons_of_mem _ hz,a,b,c,d,e, ?_,g⟩
   simp only[List.length_cons] at f ⊢
   omega
theorem uY:∀ {l:List aE} {i:Nat},∀x∈l,∃y∈iO i l,y.Kind=x.Kind/\y.Id=x.Id/\y.Seq=x.Seq/\y.Of=x.Of
 | [],_,x,h=>by cases h
 | z::l,i,x,h=>by
  rcases mem_cons.1 h with rfl | h
  ·exact⟨_,mem_cons_self,rfl,rfl,rfl,rfl⟩
  ·obtain⟨y,hy,e⟩:=uY (i:=i+1) x h
   exact⟨y,mem_cons_of_mem _ hy,e⟩
theorem JZ:∀ {l:List aE} {i:Nat},l.Pairwise Un->(iO i l).Pairwise Un
 | [],_,_=>.nil
 | x::l,i,h=>by
  obtain⟨h1,h2⟩:=pairwise_cons.1 h
  refine pairwise_cons.2 ⟨λy hy=> ?_,JZ h2⟩
  obtain⟨z,hz,a,b,c, -⟩:=nB y hy
  have:=h1 z hz
  unfold Un at this ⊢
  rw[a,b,c]
  exact this
theorem n30 {F:Nat} {l:List aE} (hF:1000<=F) (hl:l.length<=800):ZK F l=some (iO 0 l):=by
 have:=kH (body:=λs:List aE×Int=>wH F l s.1 s.2) (s0:=(([]:List aE),(0:Int))) (n:=l.length) (F:=F) (λi:Nat=>(iO 0 (l.take i),(i:Int))) (by omega) rfl (λi hi=>by
  have hx:l[i]? =some l[i]:=List.getElem?_eq_getElem hi
  unfold wH
  simp only
  rw[f0 (by omega),List.take_succ_eq_append_getElem hi,BZ]
  simp only[a8,hx,bind_some,Int.ofNat_lt,hi,decide_true,if_true]
  rw[bS (by rw[uX]; simp; omega),wr (n:=20*(i:Int)) (by omega) (by omega),wr (n:=13+20*(i:Int)) (by omega) (by omega)]
  simp[Nat.min_eq_left (Nat.le_of_lt hi)]) (by unfold wH; simp)
 unfold ZK
 rw[this]
 simp[aG]
def Mo (v:Int) (a b:List aS):Prop:=(∀l∈a,l∈b)/\∀l∈b,l∈a\/l.Vol=v
theorem Mo.refl (v:Int) (a:List aS):Mo v a a:=⟨λ_ h=>h,λ_ h=>.inl h⟩
theorem Mo.trans {v:Int} {a b c:List aS} (h:Mo v a b) (k:Mo v b c):Mo v a c:=⟨λl hl=>k.1 l (h.1 l hl),λl hl=>by
 rcases k.2 l hl with h1 | h1
 ·exact h.2 l h1
 ·exact .inr h1⟩
theorem Mo.put (a:List aS) (x:aS):Mo x.Vol a (fY a x):=⟨λl hl=>kF.2 (.inl hl),λl hl=>by
 rcases kF.1 hl with h | h
 ·exact .inl h
 ·exact .inr (by rw[h])⟩
def L6 (v:Int) (l:List aS):Prop:=∃x∈l,x.Vol=v
theorem L6.mo {v:Int} {a b:List aS} (h:L6 v a) (k:Mo v a b):L6 v b:=by
 obtain⟨x,hx,e⟩:=h
 exact⟨x,k.1 x hx,e⟩
structure Fk (v:Int) (g:aB->aB):Prop where
 i:∀y,(g y).Id=y.Id
 l:∀y,Mo v y.Locs (g y).Locs
structure Fs (v:Int) (f:aI->aI):Prop where
 i:∀y,(f y).Seq=y.Seq/\(f y).Man=y.Man
 l:∀y,Mo v y.Locs (f y).Locs
structure Fe (v:Int) (f:aQ->aQ):Prop where
 i:∀y,(f y).Seq=y.Seq/\(f y).Of=y.Of
 l:∀y,Mo v y.Locs (f y).Locs
theorem Fk.comp {v:Int} {f g:aB->aB} (h:Fk v f) (k:Fk v g):Fk v (g ∘ f):=⟨λy=>(k.i _).trans (h.i y),λy=>(h.l y).trans (k.l _)⟩
theorem Fs.comp {v:Int} {f g:aI->aI} (h:Fs v f) (k:Fs v g):Fs v (g ∘ f):=⟨λy=>⟨(k.i _).1.trans (h.i y).1,(k.i _).2.trans (h.i y).2⟩,λy=>(h.l y).trans (k.l _)⟩
theorem Fe.comp {v:Int} {f g:aQ->aQ} (h:Fe v f) (k:Fe v g):Fe v (g ∘ f):=⟨λy=>⟨(k.i _).1.trans (h.i y).1,(k.i _).2.trans (h.i y).2⟩,λy=>(h.l y).trans (k.l _)⟩
theorem aEM {i:aE} {a:aS}:Fk a.Vol (pR i a):=⟨qL i a,λy=>by
 unfold pR
 split
 ·exact Mo.put _ a
 ·exact Mo.refl _ _⟩
theorem UY {v p:Int} {l:List aE}:Fk v (dU p l):=⟨uW p l,λy=>by
 have:(dU p l y).Locs=y.Locs:=by
  unfold dU
  induction l generalizing y with
  | nil=>rfl
  | cons i l ih=>
   rw[List.foldl_cons,ih]
   unfold qZ
   split<;>rfl
 rw[this]
 exact Mo.refl _ _⟩
theorem UZ {i:aE} {a:aS}:Fs a.Vol (xI i a):=⟨pD i a,λy=>by
 unfold xI
 split
 ·exact Mo.put _ a
 ·exact Mo.refl _ _⟩
def U0 (i:aE) (a:aS) (s:aQ):aQ:=if i.Kind=3/\s.Seq=i.Seq then { s with Locs:=fY s.Locs a} else s
theorem QO {i:aE} {a:aS}:Fe a.Vol (U0 i a):=⟨λy=>by unfold U0; split<;>exact⟨rfl,rfl⟩,λy=>by
 unfold U0
 split
 ·exact Mo.put _ a
 ·exact Mo.refl _ _⟩
theorem GA {l:List aQ} {i:aE} {a:aS} (h:l.Pairwise λy x=>y.Seq < x.Seq) (k:i.Kind=3) (hz:∃z∈l,z.Seq=i.Seq):mO l i a=l.map (U0 i a):=by
 obtain⟨z,hz,e⟩:=hz
 obtain⟨p,hp,rfl⟩:=List.getElem_of_mem hz
 have hx:l[p]? =some l[p]:=List.getElem?_eq_getElem hp
 obtain⟨s1, -,s3⟩:=zT h (Nat.le_of_lt hp) (q:=i.Seq) (λj x hj hjp=>by
  have:=LI h hj hx hjp
  omega) (λx hx'=>by rw[hx] at hx'; cases hx'; omega)
 obtain⟨f1,f2⟩:=s3 _ hx e
 unfold mO wC
 rw[f2,s1,f1]
 have:=pC (λy:aQ=>y.Seq=i.Seq) (λy=> { y with Locs:=fY y.Locs a}) hx e (λy hy e2=>by
  obtain⟨j,hj,rfl⟩:=List.getElem_of_mem hy
  simp only[length_take] at hj
  rw[List.getElem_take] at e2
  have:=LI h (List.getElem?_eq_getElem (show j < l.length by omega)) hx (by omega)
  omega) (λy hy e2=>by
  obtain⟨j,hj,rfl⟩:=List.getElem_of_mem hy
  simp only[length_drop] at hj
  rw[List.getElem_drop] at e2
  have:=LI h hx (List.getElem?_eq_getElem (show p+1+j < l.length by omega)) (by omega)
  omega)
 rw[List.set_eq_take_append_cons_drop,if_pos hp] at this
 refine this.trans (List.map_congr_left λy _=> ?_)
 unfold U0
 simp only[k,true_and]
def aEN (c:aA) (i:aE):Prop:=(i.Kind=1->kO c.Chunks i.Id=true)/\(i.Kind=2->c.Snaps.any (λs=>s.Seq==i.Seq)=true)/\(i.Kind=3->∃z∈c.Exps,z.Seq=i.Seq/\z.Of=i.Of)
theorem GB {v f:Int} {c:aA} (hp:c.Exps.Pairwise λy x=>y.Seq < x.Seq):∀l:List aE,(∀i∈l,i.Kind=3->∃z∈c.Exps,z.Seq=i.Seq)->(∀i∈l,i.Kind=3->i.Seq < c.Seq)->
    (iF v f c l).Seq=c.Seq/\(∃g,Fk v g/\(iF v f c l).Chunks=c.Chunks.map g)/\(∃g,Fs v g/\(iF v f c l).Snaps=c.Snaps.map g)/\∃g,Fe v g/\(iF v f c l).Exps=c.Exps.map g:=lD
  (λ_ _=>⟨rfl,⟨id,⟨λ_=>rfl,λ_=>Mo.refl _ _⟩,by simp[iF]⟩,⟨id,⟨λ_=>⟨rfl,rfl⟩,λ_=>Mo.refl _ _⟩,by simp[iF]⟩,⟨id,⟨λ_=>⟨rfl,rfl⟩,λ_=>Mo.refl _ _⟩,by simp[iF]⟩⟩)
  λl i ih h1 h2=>by
    obtain⟨q,⟨g,hg,eg⟩,⟨f',hf,ef⟩,x,hx,ex⟩:=ih (λj hj=>h1 j (mem_append_left _ hj)) (λj hj=>h2 j (mem_append_left _ hj))
    rw[lC]
    refine⟨?_,⟨pR i (jY v f i) ∘ g,hg.comp (aEM (a:=jY v f i)), ?_⟩,⟨xI i (jY v f i) ∘ f',hf.comp (UZ (a:=jY v f i)), ?_⟩,U0 i (jY v f i) ∘ x,hx.comp (QO (a:=jY v f i)), ?_⟩
    . show (if i.Kind=3 then max (iF v f c l).Seq (i.Seq+1) else (iF v f c l).Seq)=_
      split
      . rename_i k
        have:=h2 i (by simp) k
        omega
      . exact q
    . show (iF v f c l).Chunks.map _=_
      rw[eg,map_map]
    . show (iF v f c l).Snaps.map _=_
      rw[ef,map_map]
    . show (if i.Kind=3 then mO (iF v f c l).Exps i (jY v f i) else (iF v f c l).Exps)=_
      split
      . rename_i k
        obtain⟨z,hz,e⟩:=h1 i (by simp) k
        rw[GA (by rw[ex]; exact pairwise_map.2 (hp.imp fun {a b} h=>by rw[(hx.i a).1,(hx.i b).1]; exact h)) k ⟨x z,by rw[ex]; exact mem_map_of_mem hz,by rw[(hx.i z).1,e]⟩,ex,map_map]
      . rename_i k
        rw[ex,<- map_map,kK (f:=U0 i (jY v f i)) λy _=>if_neg λh=>k h.1]
theorem QP {v f:Int} {c:aA}:∀l:List aE,∀i∈l,i.Kind=2->∀y∈(iF v f c l).Snaps,y.Seq=i.Seq->L6 v y.Locs:=lD (λi hi=>by cases hi) λl j ih i hi k y hy e=>by
 rw[lC] at hy
 obtain⟨z,hz,rfl⟩:=mem_map.1 hy
 rw[(pD _ _ _).1] at e
 rcases mem_append.1 hi with h | h
 ·exact(ih i h k z hz e).mo ((UZ (i:=j) (a:=jY v f j)).l z)
 ·rw[mem_singleton.1 h] at e k
  unfold xI
  rw[if_pos ⟨k,e⟩]
  exact⟨_,kF.2 (.inr rfl),rfl⟩
theorem QR {v f:Int} {c:aA} (hp:c.Exps.Pairwise λy x=>y.Seq < x.Seq):∀l:List aE,(∀i∈l,i.Kind=3->∃z∈c.Exps,z.Seq=i.Seq)->(∀i∈l,i.Kind=3->i.Seq < c.Seq)->∀i∈l,i.Kind=3->∀y∈(iF v f c l).Exps,y.Seq=i.Seq->L6 v y.Locs:=lD (λ_ _ i hi=>by cases hi) λl j ih h1 h2 i hi k y hy e=>by
 obtain⟨-, -, -,x,hx,ex⟩:=GB (v:=v) (f:=f) hp l (λj hj=>h1 j (mem_append_left _ hj)) (λj hj=>h2 j (mem_append_left _ hj))
 have ih:=ih (λj hj=>h1 j (mem_append_left _ hj)) (λj hj=>h2 j (mem_append_left _ hj))
 rw[lC] at hy
 have hy:y∈(if j.Kind=3 then mO (iF v f c l).Exps j (jY v f j) else (iF v f c l).Exps):=hy
 split at hy
 ·rename_i k3
  obtain⟨z,hz,ez⟩:=h1 j (by simp) k3
  rw[GA (by rw[ex]; exact pairwise_map.2 (hp.imp fun {a b} h=>by rw[(hx.i a).1,(hx.i b).1]; exact h)) k3 ⟨x z,by rw[ex]; exact mem_map_of_mem hz,by rw[(hx.i z).1,ez]⟩] at hy
  obtain⟨w,hw,rfl⟩:=mem_map.1 hy
  rw[((QO (i:=j) (a:=jY v f j)).i w).1] at e
  rcases mem_append.1 hi with h | h
  ·exact(ih i h k w hw e).mo ((QO (i:=j) (a:=jY v f j)).l w)
  ·rw[mem_singleton.1 h] at e
   unfold U0
   rw[if_pos ⟨k3,e⟩]
   exact⟨_,kF.2 (.inr rfl),rfl⟩
 ·rename_i k3
  rcases mem_append.1 hi with h | h
  ·exact ih i h k y hy e
  ·rw[mem_singleton.1 h] at k
   exact absurd k k3
structure Xt (v:Int) (n:Nat) (c e:aA) (S:List aE):Prop where
 sm:Sm e
 gd:Gd e
 bd:Bd n e
 q:e.Seq=c.Seq
 k:∃g,Fk v g/\e.Chunks=c.Chunks.map g
 s:∃g,Fs v g/\e.Snaps=c.Snaps.map g
 x:∃g,Fe v g/\e.Exps=c.Exps.map g
 wl:e.Vols.length=c.Vols.length
 wp:∀j:Nat,(e.Vols[j]?).map (·.Pool)=(c.Vols[j]?).map (·.Pool)
 wo:∀j:Nat,j≠v.toNat->e.Vols[j]? =c.Vols[j]?
 wv:∃x,e.Vols[v.toNat]? =some x/\x.State≠3
 gk:∀i∈S,i.Kind=1->∀y∈e.Chunks,y.Id=i.Id->L6 v y.Locs
 gs:∀i∈S,i.Kind=2->∀y∈e.Snaps,y.Seq=i.Seq->L6 v y.Locs
 ge:∀i∈S,i.Kind=3->∀y∈e.Exps,y.Seq=i.Seq->L6 v y.Locs
theorem Xt.init {v:Int} {n:Nat} {c:aA} (h:Sm c) (G:Gd c) (B:Bd n c) (hx:∃x,c.Vols[v.toNat]? =some x/\x.State≠3):Xt v n c c []:=
 ⟨h,G,B,rfl,⟨id,⟨λ_=>rfl,λ_=>Mo.refl _ _⟩,by simp⟩,⟨id,⟨λ_=>⟨rfl,rfl⟩,λ_=>Mo.refl _ _⟩,by simp⟩,⟨id,⟨λ_=>⟨rfl,rfl⟩,λ_=>Mo.refl _ _⟩,by simp⟩,rfl,λ_=>rfl,λ_ _=>rfl,hx,λ_ h=>(by cases h),λ_ h=>(by cases h),λ_ h=>(by cases h)⟩
structure Row (c:aA) (l:List aE):Prop where
 n:0 < l.length/\l.length<=64
 it:∀i∈l,mQ i.Id/\(0<=i.Seq/\i.Seq<=1073741824)/\gI i.Of/\1<=i.Kind/\i.Kind<=3
 h:∀i∈l,aEN c i
 u:l.Pairwise Un
def pS (v:Int) (l:List aE):aW:={ Kind:=3,Snap:={ Seq:=0,Man:={ Name:=empty,Parts:=[]},Locs:=[]},Chunks:=[],Seq:=0,Vol:=v,Items:=iO 0 l}
theorem Xt.step {F:Nat} {v:Int} {n:Nat} {c e:aA} {S l:List aE} (hF:1000<=F) (G:Gd c) (X:Xt v n c e S) (hn:n<=190) (hv:0<=v) (gv:gI v) (R:Row c l):
    ∃e',OZ F e (pS v l)=some (e',0)/\Xt v (n+1) c e' (S++l):=by
  obtain⟨x,hx,hs⟩:=X.wv
  obtain⟨gk,hgk,egk⟩:=X.k
  obtain⟨gs,hgs,egs⟩:=X.s
  obtain⟨gx,hgx,egx⟩:=X.x
  have hq:=X.q
  have bq:=X.bd.q
  have e3:∀i∈iO 0 l,i.Kind=3->(∃z∈e.Exps,z.Seq=i.Seq/\z.Of=i.Of)/\0<=i.Of/\i.Of < i.Seq/\i.Seq < e.Seq:=λi hi k=>by
    obtain⟨j,hj,a,b,s,o, -⟩:=nB i hi
    obtain⟨z,hz,z1,z2⟩:=(R.h j hj).2.2 (by omega)
    have:=G.eq z hz
    simp only[fI,and_eq_true,decide_eq_true_eq] at this
    refine⟨⟨gx z,by rw[egx]; exact mem_map_of_mem hz,by rw[(hgx.i z).1,z1,s],by rw[(hgx.i z).2,z2,o]⟩,by omega,by omega,by omega⟩
  have W:Wok n e (pS v l) x:=by
    refine⟨⟨by show (iO 0 l).length<=64; rw[uX]; exact R.n.2,λi hi=> ?_⟩,JZ R.u,hx,hv,gv, ?_,λi hi=> ?_,λi hi=> ?_,λi hi k=> ?_⟩
    . obtain⟨j,hj,a,b,s,o,o1,o2,o3⟩:=nB i hi
      have:=R.it j hj
      have hl:=R.n.2
      rw[b,s,o,o3]
      exact⟨this.1,this.2.1,this.2.2.1,(show gI i.Off from⟨by omega,by omega⟩),(show gI 20 from⟨by decide,by decide⟩)⟩
    . have hne:iO 0 l≠ []:=λh=>by
        have:=uX l 0
        rw[h] at this
        have:=R.n.1
        simp at*; omega
      have hany:(iO 0 l).any (λi=>decide (i.Kind < 1) || decide (3 < i.Kind))=false:=any_eq_false.2 λi hi=>by
        obtain⟨j,hj,a, -⟩:=nB i hi
        have:=(R.it j hj).2.2.2
        simp; omega
      show (!(x.State==3) && !(iO 0 l).isEmpty && !_)=true
      rw[show (pS v l).Items=iO 0 l from rfl,hany]
      simp[hs,hne]
    . obtain⟨j,hj,a,b,s, -⟩:=nB i hi
      have hh:=R.h j hj
      unfold jZ
      split
      . rename_i k
        rw[egk,oL hgk.i,b]
        exact hh.1 (by omega)
      . split
        . rename_i k
          have:=hh.2.1 (by omega)
          rw[egs,List.any_map,s]
          rw[show ((λt:aI=>t.Seq==j.Seq) ∘ gs)=λt=>t.Seq==j.Seq from funext λt=>by simp[(hgs.i t).1]]
          exact this
        . rfl
    . obtain⟨j,hj, -, -, -, -,o1,o2,o3⟩:=nB i hi
      have hl:=R.n.2
      omega
    . have:=e3 i hi k
      omega
  obtain⟨GE,BE⟩:=YG X.sm X.gd X.bd hn W
  have SE:=DT X.sm X.gd W.w gv hx W.kd
  have hap:=PU hF X.sm X.gd rfl W.w gv hv hx
  rw[if_pos W.k,if_pos (all_eq_true.2 λi hi=>W.p i hi),if_pos (jP.2 GE)] at hap
  refine⟨jI e (pS v l) x,hap, ?_⟩
  obtain⟨o1,o2,o3⟩:=P7 (c:=e) (d:=pS v l) (x:=x)
  obtain⟨m1,⟨fk,hfk,efk⟩,⟨fs,hfs,efs⟩,fx,hfx,efx⟩:=GB (v:=v) (f:=x.Files+1) (c:=ws e v x) X.gd.eo (iO 0 l) (λi hi k=>by obtain⟨⟨z,hz,h1, -⟩, -⟩:=e3 i hi k; exact⟨z,hz,h1⟩) (λi hi k=>(e3 i hi k).2.2.2)
  have efs:(iF v (x.Files+1) (ws e v x) (iO 0 l)).Snaps=e.Snaps.map fs:=efs
  have efk:(iF v (x.Files+1) (ws e v x) (iO 0 l)).Chunks=e.Chunks.map fk:=efk
  have efx:(iF v (x.Files+1) (ws e v x) (iO 0 l)).Exps=e.Exps.map fx:=efx
  have m1:(iF v (x.Files+1) (ws e v x) (iO 0 l)).Seq=e.Seq:=m1
  have hng:∀s∈(iF v (x.Files+1) (ws e v x) (iO 0 l)).Snaps,jE (iO 0 l) s=false:=λs hs=>by
    rw[efs] at hs
    obtain⟨t,ht,rfl⟩:=mem_map.1 hs
    unfold jE
    rw[any_eq_false]
    intro i hi
    by_cases k:i.Kind=3
    . obtain⟨⟨z,hz,z1,z2⟩, -⟩:=e3 i hi k
      have:=X.gd.ex z hz t ht
      rw[(hfs.i t).1]
      simp[k]; omega
    . simp[k]
  have es:(jI e (pS v l) x).Snaps=e.Snaps.map fs:=by
    rw[o3]
    show ((iF v (x.Files+1) (ws e v x) (iO 0 l)).Snaps.filter λs=> !jE (iO 0 l) s)=_
    rw[List.filter_eq_self.2 λs hs=>by rw[hng s hs]; rfl,efs]
  have hw1:iW e (pS v l) x= { iF v (x.Files+1) (ws e v x) (iO 0 l) with Chunks:=(iF v (x.Files+1) (ws e v x) (iO 0 l)).Chunks.map (dU x.Pool (iO 0 l))}:=nU _ _ _ _ _
  have ek:(jI e (pS v l) x).Chunks=e.Chunks.map (dU x.Pool (iO 0 l) ∘ fk):=by
    have h1:(iW e (pS v l) x).Chunks=e.Chunks.map (dU x.Pool (iO 0 l) ∘ fk):=by rw[hw1,<- map_map,<- efk]
    have h2:(sC e (pS v l) x).Snaps=(iW e (pS v l) x).Snaps:=by
      show (iW e (pS v l) x).Snaps.filter _=_
      have h3:(iW e (pS v l) x).Snaps=(iF v (x.Files+1) (ws e v x) (iO 0 l)).Snaps:=by rw[hw1]
      rw[List.filter_eq_self.2 λs hs=>by rw[h3] at hs; rw[show (pS v l).Items=iO 0 l from rfl,hng s hs]; rfl]
    unfold jI
    rw[h2,if_neg (Nat.lt_irrefl _)]
    exact h1
  have ex:(jI e (pS v l) x).Exps=e.Exps.map fx:=by rw[o2]; exact efx
  have ev:(jI e (pS v l) x).Vols=e.Vols.set v.toNat { x with State:=2,Files:=x.Files+1}:=by
    have:(iW e (pS v l) x).Vols=e.Vols.set v.toNat { x with State:=2,Files:=x.Files+1}:=oM _ _ _ _ _
    unfold jI
    split<;>exact this
  have hl:=(List.getElem?_eq_some_iff.1 hx).1
  have ak:Fk v (dU x.Pool (iO 0 l) ∘ fk):=hfk.comp UY
  refine⟨SE,GE,BE,by rw[o1]; exact m1.trans hq,⟨_,hgk.comp ak,by rw[ek,egk,map_map]⟩,⟨_,hgs.comp hfs,by rw[es,egs,map_map]⟩,⟨_,hgx.comp hfx,by rw[ex,egx,map_map]⟩,by rw[ev,length_set]; exact X.wl,λj=> ?_,λj hj=> ?_,⟨{ x with State:=2,Files:=x.Files+1},by rw[ev,getElem?_set_self hl],by show (2:Int)≠3; decide⟩, ?_, ?_, ?_⟩
  . rw[ev,<- X.wp j]
    by_cases hj:j=v.toNat
    . subst hj
      rw[getElem?_set_self hl,hx]; rfl
    . rw[List.getElem?_set_ne λh=>hj h.symm]
  . rw[ev,List.getElem?_set_ne λh=>hj h.symm]
    exact X.wo j hj
  . intro i hi k y hy e1
    rw[ek] at hy
    obtain⟨z,hz,rfl⟩:=mem_map.1 hy
    rw[ak.i z] at e1
    rcases mem_append.1 hi with h | h
    . exact(X.gk i h k z hz e1).mo (ak.l z)
    . obtain⟨j,hj,a,b, -⟩:=uY (i:=0) i h
      have:=JR (v:=v) (f:=x.Files+1) (c:=ws e v x) (iO 0 l) j hj (by omega) (fk z) (by rw[efk]; exact mem_map_of_mem hz) (by rw[hfk.i z,e1,b])
      exact L6.mo ⟨_,this,rfl⟩ ((UY (v:=v) (p:=x.Pool) (l:=iO 0 l)).l (fk z))
  . intro i hi k y hy e1
    rw[es] at hy
    obtain⟨z,hz,rfl⟩:=mem_map.1 hy
    rw[(hfs.i z).1] at e1
    rcases mem_append.1 hi with h | h
    . exact(X.gs i h k z hz e1).mo (hfs.l z)
    . obtain⟨j,hj,a,b,s, -⟩:=uY (i:=0) i h
      exact QP (v:=v) (f:=x.Files+1) (c:=ws e v x) (iO 0 l) j hj (by omega) (fs z) (by rw[efs]; exact mem_map_of_mem hz) (by rw[(hfs.i z).1,e1,s])
  . intro i hi k y hy e1
    rw[ex] at hy
    obtain⟨z,hz,rfl⟩:=mem_map.1 hy
    rw[(hfx.i z).1] at e1
    rcases mem_append.1 hi with h | h
    . exact(X.ge i h k z hz e1).mo (hfx.l z)
    . obtain⟨j,hj,a,b,s, -⟩:=uY (i:=0) i h
      exact QR (v:=v) (f:=x.Files+1) (c:=ws e v x) X.gd.eo (iO 0 l) (λi hi k=>by obtain⟨⟨z,hz,h1, -⟩, -⟩:=e3 i hi k; exact⟨z,hz,h1⟩) (λi hi k=>(e3 i hi k).2.2.2) j hj (by omega) (fx z) (by rw[efx]; exact mem_map_of_mem hz) (by rw[(hfx.i z).1,e1,s])
end Go.Proofs.YtbbifdfldpfphaaGreat
