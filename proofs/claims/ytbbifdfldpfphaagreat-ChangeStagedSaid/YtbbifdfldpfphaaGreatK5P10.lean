import Derived.Test.YtbbifdfldpfphaaGreatK5P9
import Derived.Test.YtbbifdfldpfphaaGreatK5P6
import Derived.Test.YtbbifdfldpfphaaGreatK5P7
import Derived.Test.YtbbifdfldpfphaaGreatK5P3
import Derived.Test.YtbbifdfldpfphaaGreatK5P5
import Derived.Test.YtbbifdfldpfphaaGreatK5P4
set_option linter.unusedSimpArgs false
set_option linter.unusedVariables false
set_option maxHeartbeats 4000000
set_option maxRecDepth 100000
namespace Go.Proofs.YtbbifdfldpfphaaGreat
open Go.Vm
def fY (l:List a8) (x:a8):List a8:=(l.reverse.dropWhile λy=>jO y x).reverse++x::(l.reverse.takeWhile λy=>jO y x).reverse
theorem IX {l:List a8} {x:a8} {p:Nat} (h:Pt l x p):l.take p++x::l.drop p=fY l x:=by
 have e:l.reverse=(l.drop p).reverse++(l.take p).reverse:=by rw[← List.reverse_append,List.take_append_drop]
 have h1:∀y∈(l.drop p).reverse,jO y x=true:=λy hy=>h.hi y (List.mem_reverse.1 hy)
 have h2:((l.take p).reverse.takeWhile λy=>jO y x)= []∧((l.take p).reverse.dropWhile λy=>jO y x)=(l.take p).reverse:=by
  cases p with
  | zero=>simp
  | succ q=>
   have hl:=h.le
   have hq:l[q]? =some l[q]:=List.getElem?_eq_getElem (by omega)
   have:=h.lo l[q] (by omega) (by simp[hq])
   rw[List.take_succ_eq_append_getElem (by omega),List.reverse_append,List.reverse_singleton,List.singleton_append]
   simp[this]
 unfold fY
 rw[e,List.takeWhile_append_of_pos h1,List.dropWhile_append_of_pos h1,h2.1,h2.2]
 simp
theorem IY {F:Nat} {l:List a8} {x:a8} (hF:1000≤F) (hl:l.length≤400):v8 F l x=some (fY l x):=by
 obtain⟨p,hp,e⟩:=aAR hF hl (x:=x)
 rw[e,IX hp]
theorem IZ (l:List a8) (x:a8):∃a b,l=a++b∧fY l x=a++x::b:=by
 refine⟨_,_, ?_,rfl⟩
 rw[← List.reverse_append,List.takeWhile_append_dropWhile,List.reverse_reverse]
theorem nC {l:List a8} {x y:a8}:y∈fY l x↔y∈l∨y=x:=by
 obtain⟨a,b,e,e2⟩:=IZ l x
 rw[e2,e]
 simp only[List.mem_append,List.mem_cons]
 constructor
 ·rintro(h | h | h)
  ·exact .inl (.inl h)
  ·exact .inr h
  ·exact .inl (.inr h)
 ·rintro((h | h) | h)
  ·exact .inl h
  ·exact .inr (.inr h)
  ·exact .inr (.inl h)
theorem kV {l:List a8} {x:a8}:(fY l x).length=l.length+1:=by
 obtain⟨a,b,e,e2⟩:=IZ l x
 rw[e2,e]
 simp; omega
open Go.Vm
theorem FB {α:Type} {R:α→α→Prop} {l:List α} (h:l.Pairwise R) {i j:Nat} {x y:α} (hx:l[i]? =some x) (hy:l[j]? =some y) (hij:i < j):R x y:=by
 obtain⟨h1,rfl⟩:=List.getElem?_eq_some_iff.1 hx
 obtain⟨h2,rfl⟩:=List.getElem?_eq_some_iff.1 hy
 exact List.pairwise_iff_getElem.1 h i j h1 h2 hij
theorem qQ {α:Type} {l:List α} {k:Nat} {x:α} (q:α→Prop) [DecidablePred q] (f:α→α) (hx:l[k]? =some x) (hq:q x) (h1:∀y∈l.take k,¬q y) (h2:∀y∈l.drop (k+1),¬q y):l.set k (f x)=l.map λy=>if q y then f y else y:=by
 obtain⟨hk,rfl⟩:=List.getElem?_eq_some_iff.1 hx
 rw[List.set_eq_take_append_cons_drop,if_pos hk]
 have e:(l.map λy=>if q y then f y else y)=(l.take k++l[k]::l.drop (k+1)).map λy=>if q y then f y else y:=by
  rw[← List.drop_eq_getElem_cons hk,List.take_append_drop]
 have m:∀m:List α,(∀y∈m,¬q y)→(m.map λy=>if q y then f y else y)=m:=λm hm=>by
  conv=>rhs; rw[← List.map_id m]
  exact List.map_congr_left λy hy=>by rw[if_neg (hm y hy)]; rfl
 rw[e,List.map_append,List.map_cons,if_pos hq,m _ h1,m _ h2]
theorem kG {α:Type} {l:List α} {f:α→α} (h:∀y∈l,f y=y):l.map f=l:=by
 conv=>rhs; rw[← List.map_id l]
 exact List.map_congr_left λy hy=>h y hy
structure AtE (l:List aQ) (q:Int) (p:Nat):Prop where
 le:p≤l.length
 lo:∀x∈l.take p,x.Seq < q
 hi:∀x∈l.drop p,q≤x.Seq
def QY (l:List aQ) (q:Int):Bool:=l.any λx=>x.Seq==q
theorem U8 {F:Nat} {l:List aQ} {q:Int} (hr:l.Pairwise λy x=>y.Seq < x.Seq) (hq:0≤q∧q≤1073741824) (hs:∀x∈l,0≤x.Seq∧x.Seq≤1073741824) (hl:l.length < 1000):∀(G lo hi:Nat),lo≤hi→hi≤l.length→hi - lo < G→
    (∀j x,l[j]? =some x→j < lo→x.Seq < q)→(∀j x,l[j]? =some x→hi≤j→q≤x.Seq)→
    ∃p:Nat,p≤l.length∧aU (λs=>tH F l q (λx0 x1=>CY F x0 x1) s.1 s.2) G ((lo:Int),(hi:Int))=some (.brk ((p:Int),(p:Int)))∧
      (∀j x,l[j]? =some x→j < p→x.Seq < q)∧(∀j x,l[j]? =some x→p≤j→q≤x.Seq)
  | 0,_,_,_,_,h,_,_=>by omega
  | G+1,lo,hi,h1,h2,h3,h4,h5=>by
    unfold aU tH
    by_cases hlt:lo < hi
    · have hm:(lo+hi) / 2 < l.length:=by omega
      have hx:l[(lo+hi) / 2]? =some l[(lo+hi) / 2]:=List.getElem?_eq_getElem hm
      generalize l[(lo+hi) / 2]=x at hx
      have gx:=hs x (List.mem_of_getElem? hx)
      have e:CY F x q=some (x.Seq - q):=by unfold CY; rw[wr (by omega) (by omega)]
      simp only[Int.ofNat_lt,hlt,decide_true,if_true,YN (show lo+hi < 1000000000 by omega),bH,hx,Option.bind_some,e]
      by_cases hk:x.Seq < q
      · simp only[show x.Seq - q < 0 by omega,decide_true,if_true,aG]
        rw[iW (by omega)]
        exact U8 hr hq hs hl G ((lo+hi) / 2+1) hi (by omega) h2 (by omega) (λj y hy hj=>by
          rcases Nat.lt_or_ge j ((lo+hi) / 2) with w | w
          · exact Int.lt_trans (FB hr hy hx w) hk
          · obtain rfl:j=(lo+hi) / 2:=by omega
            rw[hx] at hy; cases hy; exact hk) h5
      · simp only[show ¬x.Seq - q < 0 by omega,decide_false,Bool.false_eq_true,if_false,aG]
        exact U8 hr hq hs hl G lo ((lo+hi) / 2) (by omega) (by omega) (by omega) h4 (λj y hy hj=>by
          rcases Nat.lt_or_ge ((lo+hi) / 2) j with w | w
          · have:=FB hr hx hy w; omega
          · obtain rfl:j=(lo+hi) / 2:=by omega
            rw[hx] at hy; cases hy; omega)
    · obtain rfl:lo=hi:=by omega
      refine⟨lo,h2, ?_,h4,h5⟩
      simp
theorem aGP {F:Nat} {l:List aQ} {q:Int} (hF:1000≤F) (hr:l.Pairwise λy x=>y.Seq < x.Seq) (hq:0≤q∧q≤1073741824) (hs:∀x∈l,0≤x.Seq∧x.Seq≤1073741824) (hl:l.length < 1000):
    ∃p:Nat,AtE l q p∧M6 F l q (λx0 x1=>CY F x0 x1)=some ((p:Int),QY l q):=by
  obtain⟨p,hp,e,h1,h2⟩:=U8 (F:=F) hr hq hs hl F 0 l.length (by omega) (Nat.le_refl _) (by omega) (λj x _ hj=>by omega) (λj x hx hj=>by have:=(List.getElem?_eq_some_iff.1 hx).1; omega)
  refine⟨p,⟨hp,λx hx=> ?_,λx hx=> ?_⟩, ?_⟩
  · obtain⟨i,hi,rfl⟩:=List.getElem_of_mem hx
    simp only[List.length_take] at hi
    rw[List.getElem_take]
    exact h1 i _ (List.getElem?_eq_getElem (by omega)) (by omega)
  · obtain⟨i,hi,rfl⟩:=List.getElem_of_mem hx
    simp only[List.length_drop] at hi
    rw[List.getElem_drop]
    exact h2 (p+i) _ (List.getElem?_eq_getElem (by omega)) (by omega)
  · unfold M6
    rw[show ((0:Int),(l.length:Int))=(((0:Nat):Int),(l.length:Int)) from rfl,e]
    simp only[aG]
    by_cases hlt:p < l.length
    · have hx:l[p]? =some l[p]:=List.getElem?_eq_getElem hlt
      have hmem:=List.getElem_mem hlt
      generalize l[p]=x at hx hmem
      have gx:=hs x hmem
      have hge:=h2 p x hx (Nat.le_refl _)
      have e:CY F x q=some (x.Seq - q):=by unfold CY; rw[wr (by omega) (by omega)]
      simp only[Int.ofNat_lt,hlt,decide_true,if_true,bH,hx,Option.bind_some,e,aG]
      congr 2
      rw[Bool.eq_iff_iff]
      unfold QY
      simp only[beq_iff_eq,List.any_eq_true]
      constructor
      · intro h; exact⟨x,hmem,by omega⟩
      · rintro⟨y,hy,e⟩
        obtain⟨j,hj,rfl⟩:=List.getElem_of_mem hy
        have hj':l[j]? =some l[j]:=List.getElem?_eq_getElem hj
        rcases Nat.lt_trichotomy j p with w | w | w
        · have:=h1 j _ hj' w; omega
        · subst w; rw[hj'] at hx; cases hx; omega
        · have:=FB hr hx hj' w; omega
    · simp only[show ¬((p:Int) < (l.length:Int)) by omega,decide_false,Bool.false_eq_true,if_false,aG]
      congr 2
      symm
      unfold QY
      rw[List.any_eq_false]
      intro x hx
      obtain⟨j,hj,rfl⟩:=List.getElem_of_mem hx
      have:=h1 j _ (List.getElem?_eq_getElem hj) (by omega)
      simp; omega
structure It (i:aS):Prop where
 id:m7 i.Id
 q0:0≤i.Seq∧i.Seq≤1073741824
 k:1≤i.Kind∧i.Kind≤3
 of:gI i.Of
 off:gI i.Off
 len:gI i.Len
def oF (i:aS) (a:a8) (y:aB):aB:=if i.Kind=1∧y.Id=i.Id then { y with Locs:=fY y.Locs a} else y
def AH (i:aS) (a:a8) (s:aH):aH:=if i.Kind=2∧s.Seq=i.Seq then { s with Locs:=fY s.Locs a} else s
def wT (l:List aQ) (i:aS):aQ:=match l.find? λx=>decide (x.Seq=i.Seq) with | some x=>x | none=> { Seq:=i.Seq,Of:=i.Of,Locs:= []}
def oG (l:List aQ) (i:aS) (a:a8):List aQ:=(l.filter λx=>decide (x.Seq < i.Seq))++ { wT l i with Locs:=fY (wT l i).Locs a}::l.filter λx=>decide (i.Seq < x.Seq)
def wU (c:aA) (i:aS) (a:a8):aA:= { c with
 Seq:=if i.Kind=3 then max c.Seq (i.Seq+1) else c.Seq
 Snaps:=c.Snaps.map (AH i a)
 Chunks:=c.Chunks.map (oF i a)
 Exps:=if i.Kind=3 then oG c.Exps i a else c.Exps}
def jU (c:aA) (i:aS):Bool:=if i.Kind=1 then kR c.Chunks i.Id else if i.Kind=2 then c.Snaps.any (λs=>s.Seq==i.Seq) else true
structure Wm (n:Nat) (c:aA):Prop where
 g:BA c
 r:uF c.Chunks
 cn:c.Chunks.length≤400
 cl:∀x∈c.Chunks,x.Locs.length≤n∧x.Data.length≤300
 so:c.Snaps.Pairwise λy x=>y.Seq < x.Seq
 sn:c.Snaps.length≤12
 sl:∀x∈c.Snaps,x.Locs.length≤n
 man:∀s∈c.Snaps,s.Man.Name.size≤100∧s.Man.Parts.length≤10∧∀p∈s.Man.Parts,p.Path.size≤100∧p.Ids.length≤40
 eo:c.Exps.Pairwise λy x=>y.Seq < x.Seq
 en:c.Exps.length≤n
 el:∀x∈c.Exps,x.Locs.length≤n
 eq:∀x∈c.Exps,0≤x.Seq∧x.Seq≤1073741824∧x.Seq < c.Seq
 q:0≤c.Seq∧c.Seq≤1073741826
 vo:c.Vols.length≤20
theorem Wm.sm {n:Nat} {c:aA} (h:Wm n c) (hn:n≤300):Sm c:=
 ⟨h.g,h.sn,h.cn,Nat.le_trans h.en hn,h.vo,λs hs=>Nat.le_trans (h.sl s hs) hn,λs hs=>⟨Nat.le_trans (h.cl s hs).1 hn,(h.cl s hs).2⟩,λs hs=>Nat.le_trans (h.el s hs) hn,h.man⟩
theorem aGQ {F n:Nat} {c:aA} {i:aS} {a:a8} (hF:1000≤F) (h:Wm n c) (hn:n≤300) (hi:It i):
    HB F c i a=some (if jU c i then (0,(wU c i a).Seq,(wU c i a).Snaps,(wU c i a).Chunks,(wU c i a).Exps) else (8,c.Seq,c.Snaps,c.Chunks,c.Exps)):=by
  have hcn:=h.cn
  have hsn:=h.sn
  have hen:=h.en
  have hk:=hi.k
  unfold HB wU jU
  by_cases k1:i.Kind=1
  · have e2:c.Snaps.map (AH i a)=c.Snaps:=kG λy _=>by unfold AH; rw[if_neg (by omega)]
    obtain⟨p,ha,e⟩:=aAQ hF h.r hi.id (l:=c.Chunks) (by omega)
    rw[if_pos (by simp[k1]),e]
    simp only[Option.bind_some,k1,if_true,e2,show ¬((1:Int)=3) by omega,if_false]
    cases hh:kR c.Chunks i.Id with
    | false=>simp[cL]
    | true=>
      obtain⟨x,h1,h2⟩:=HG h.r ha hi.id hh
      have hx:=List.mem_of_getElem? h1
      simp only[Bool.not_true,Bool.false_eq_true,if_false,bH,h1,Option.bind_some,IY hF (show x.Locs.length≤400 by have:=(h.cl x hx).1; omega),aG,Int.toNat_natCast]
      rw[qQ (λy:aB=>y.Id=i.Id) (λy=> { y with Locs:=fY y.Locs a}) h1 h2 (λy hy e=>by
        have:=ha.lo y hy
        rw[e] at this; omega) (λy hy e=>by
        obtain⟨j,hj,rfl⟩:=List.getElem_of_mem hy
        simp only[List.length_drop] at hj
        rw[List.getElem_drop] at e
        have:=h.r.2 p (p+1+j) _ _ h1 (List.getElem?_eq_getElem (by omega)) (by omega)
        rw[e,h2] at this; omega)]
      simp[oF,k1]
  · have e1:c.Chunks.map (oF i a)=c.Chunks:=kG λy _=>by unfold oF; rw[if_neg (by omega)]
    rw[if_neg (by simpa using k1)]
    by_cases k2:i.Kind=2
    · have hi2:p8 F c.Snaps (λx0=>M5 F x0 i)=some (vN c.Snaps λs=>s.Seq==i.Seq):=by
        unfold p8
        refine n8 (l:=c.Snaps) (λs:aH=>s.Seq==i.Seq) (by omega) (λi' x hx hm hi'=> ?_) (by unfold lU; simp)
        unfold lU M5
        rw[iW (by omega)]
        simp only[bH,hx,Option.bind_some,Int.ofNat_lt,hi',decide_true,if_true]
        split <;> rfl
      rw[if_pos (by simp[k2]),hi2]
      simp only[Option.bind_some,k2,show ¬((2:Int)=1) by omega,if_true,e1,show ¬((2:Int)=3) by omega,if_false]
      cases ha:c.Snaps.any (λs=>s.Seq==i.Seq) with
      | false=>rw[mR ha]; simp[cL]
      | true=>
        obtain⟨p,x,h1,h2,h3,h4⟩:=lH ha
        have hx:=List.mem_of_getElem? h2
        rw[h1]
        simp only[show decide ((p:Int) < 0)=false from decide_eq_false (by omega),Bool.false_eq_true,if_false,bH,h2,Option.bind_some,IY hF (show x.Locs.length≤400 by have:=h.sl x hx; omega),aG,Int.toNat_natCast,if_true]
        have h3:x.Seq=i.Seq:=by simpa using h3
        rw[qQ (λy:aH=>y.Seq=i.Seq) (λy=> { y with Locs:=fY y.Locs a}) h2 h3 (λy hy e=>by
          have:=h4 y hy
          simp[e] at this) (λy hy e=>by
          obtain⟨j,hj,rfl⟩:=List.getElem_of_mem hy
          simp only[List.length_drop] at hj
          rw[List.getElem_drop] at e
          have:=FB h.so h2 (List.getElem?_eq_getElem (show p+1+j < c.Snaps.length by omega)) (by omega)
          omega)]
        simp[AH,k2]
    · have k3:i.Kind=3:=by omega
      have e2:c.Snaps.map (AH i a)=c.Snaps:=kG λy _=>by unfold AH; rw[if_neg (by omega)]
      obtain⟨p,ha,e⟩:=aGP hF h.eo hi.q0 (λx hx=>⟨(h.eq x hx).1,(h.eq x hx).2.1⟩) (l:=c.Exps) (by omega)
      have hp:=ha.le
      rw[if_neg (by simpa using k2),if_pos (by simp[k3]),e]
      simp only[Option.bind_some,k3,if_true,e1,e2,show ¬((3:Int)=1) by omega,show ¬((3:Int)=2) by omega,if_false]
      have hq0:=hi.q0
      have lowE:(c.Exps.filter λx=>decide (x.Seq < i.Seq))=c.Exps.take p:=by
        have e:(c.Exps.filter λx=>decide (x.Seq < i.Seq))=(c.Exps.take p++c.Exps.drop p).filter λx=>decide (x.Seq < i.Seq):=by rw[List.take_append_drop]
        rw[e,List.filter_append,List.filter_eq_self.2 λy hy=>decide_eq_true (ha.lo y hy),List.filter_eq_nil_iff.2 λy hy=>by
          have:=ha.hi y hy
          simp; omega]
        simp
      have higE:∀m,p+m≤c.Exps.length→(∀y∈(c.Exps.drop p).take m,y.Seq=i.Seq)→(∀y∈c.Exps.drop (p+m),y.Seq≠i.Seq)→(c.Exps.filter λx=>decide (i.Seq < x.Seq))=c.Exps.drop (p+m):=λm hm h5 h6=>by
        have e:(c.Exps.filter λx=>decide (i.Seq < x.Seq))=(c.Exps.take p++((c.Exps.drop p).take m++(c.Exps.drop p).drop m)).filter λx=>decide (i.Seq < x.Seq):=by rw[List.take_append_drop,List.take_append_drop]
        rw[e,List.filter_append,List.filter_append,List.filter_eq_nil_iff.2 λy hy=>by
          have:=ha.lo y hy
          simp; omega,List.filter_eq_nil_iff.2 λy hy=>by simp[h5 y hy],List.drop_drop,List.filter_eq_self.2 λy hy=>by
          have h7:=ha.hi y (by
            have:y∈(c.Exps.drop p).drop m:=by rw[List.drop_drop]; exact hy
            exact List.mem_of_mem_drop this)
          have:=h6 y hy
          exact decide_eq_true (by omega)]
        simp
      cases hh:QY c.Exps i.Seq with
      | false=>
        have hf:(c.Exps.find? λx=>decide (x.Seq=i.Seq))=none:=List.find?_eq_none.2 λx hx=>by
          have:=List.any_eq_false.1 hh x hx
          simpa using this
        have g0:(c.Exps.take p++({ Seq:=i.Seq,Of:=i.Of,Locs:= []}:aQ)::c.Exps.drop p)[p]? =some { Seq:=i.Seq,Of:=i.Of,Locs:= []}:=by
          rw[List.getElem?_append_right (by simp; omega)]
          simp[Nat.min_eq_left hp]
        have eh:=higE 0 hp (λy hy=>by simp at hy) (λy hy e=>by
          have:=List.any_eq_false.1 hh y (List.mem_of_mem_drop hy)
          simp[e] at this)
        simp only[Nat.add_zero] at eh
        simp only[Bool.not_false,if_true,IS hp (show c.Exps.length < 1000 by omega),Option.bind_some,aG,bH,g0,IY hF (show ([]:List a8).length≤400 by simp),Int.toNat_natCast,wr (n:=i.Seq+1) (by omega) (by omega)]
        unfold oG wT
        rw[hf,lowE,eh,List.set_append_right _ _ (by simp; omega)]
        simp[Nat.min_eq_left hp]
      | true=>
        obtain⟨y,hy,ey⟩:=List.any_eq_true.1 hh
        have ey:y.Seq=i.Seq:=by simpa using ey
        have hpl:p < c.Exps.length:=by
          rcases Nat.lt_or_ge p c.Exps.length with w | w
          · exact w
          · have:y∈c.Exps.take p:=by rw[List.take_of_length_le w]; exact hy
            have:=ha.lo y this; omega
        have h1:c.Exps[p]? =some c.Exps[p]:=List.getElem?_eq_getElem hpl
        have hx:=List.getElem_mem hpl
        have h2:(c.Exps[p]).Seq=i.Seq:=by
          have hge:=ha.hi c.Exps[p] (by rw[List.drop_eq_getElem_cons hpl]; exact List.mem_cons_self)
          obtain⟨j,hj,rfl⟩:=List.getElem_of_mem hy
          rcases Nat.lt_trichotomy j p with w | w | w
          · have:=ha.lo (c.Exps[j]) (List.mem_of_getElem? (i:=j) (by rw[List.getElem?_take_of_lt w]; exact List.getElem?_eq_getElem hj)); omega
          · subst w; exact ey
          · have:=FB h.eo h1 (List.getElem?_eq_getElem hj) w; omega
        generalize c.Exps[p]=x at h1 h2 hx
        have hdr:∀z∈c.Exps.drop (p+1),x.Seq < z.Seq:=λz hz=>by
          obtain⟨j,hj,rfl⟩:=List.getElem_of_mem hz
          simp only[List.length_drop] at hj
          rw[List.getElem_drop]
          exact FB h.eo h1 (List.getElem?_eq_getElem (show p+1+j < c.Exps.length by omega)) (by omega)
        have hf:(c.Exps.find? λz=>decide (z.Seq=i.Seq))=some x:=by
          cases e:c.Exps.find? λz=>decide (z.Seq=i.Seq) with
          | none=>
            have:=List.find?_eq_none.1 e x hx
            simp[h2] at this
          | some z=>
            have h5:z.Seq=i.Seq:=by simpa using List.find?_some e
            obtain⟨j,hj,rfl⟩:=List.getElem_of_mem (List.mem_of_find?_eq_some e)
            rcases Nat.lt_trichotomy j p with w | w | w
            · have:=FB h.eo (List.getElem?_eq_getElem hj) h1 w; omega
            · subst w; rw[List.getElem?_eq_getElem hj] at h1; exact h1
            · have:=FB h.eo h1 (List.getElem?_eq_getElem hj) w; omega
        have eh:=higE 1 (by omega) (λz hz=>by
          rw[List.drop_eq_getElem_cons hpl,List.take_succ_cons,List.take_zero] at hz
          have:z=c.Exps[p]:=List.mem_singleton.1 hz
          rw[List.getElem?_eq_getElem hpl] at h1
          rw[this,Option.some.inj h1,h2]) (λz hz e=>by have:=hdr z hz; omega)
        have hsq:=(h.eq x hx).2.2
        simp only[Bool.not_true,Bool.false_eq_true,if_false,aG,bH,h1,Option.bind_some,IY hF (show x.Locs.length≤400 by have:=h.el x hx; omega),Int.toNat_natCast]
        unfold oG wT
        rw[hf,lowE,eh,List.set_eq_take_append_cons_drop,if_pos hpl,show max c.Seq (i.Seq+1)=c.Seq by omega]
open Go.Vm
theorem zJ {S ρ:Type} {body:S→Option (Lp S ρ)} {n:Nat} (emb:Nat→S) (p:Nat→Bool) (R:ρ→Prop) (hb:∀i,i < n→p i=true→body (emb i)=some (.go (emb (i+1))))
    (hb2:∀i,i < n→p i=false→∃r,R r∧body (emb i)=some (.ret r)) (he:body (emb n)=some (.brk (emb n))):∀(m k G:Nat),k+m=n→m < G→
    ((∀j,k≤j→j < n→p j=true)∧aU body G (emb k)=some (.brk (emb n)))∨((∃j,k≤j∧j < n∧p j=false)∧∃r,R r∧aU body G (emb k)=some (.ret r))
  | 0,k,G+1,h,_=>.inl ⟨λj h1 h2=>by omega,by
      obtain rfl:k=n:=by omega
      unfold aU; rw[he]⟩
  | m+1,k,G+1,h,hG=>by
    unfold aU
    cases hp:p k with
    | false=>
      obtain⟨r,h1,h2⟩:=hb2 k (by omega) hp
      exact .inr ⟨⟨k,Nat.le_refl _,by omega,hp⟩,r,h1,by rw[h2]⟩
    | true=>
      rw[hb k (by omega) hp]
      rcases zJ emb p R hb hb2 he m (k+1) G (by omega) (by omega) with⟨h1,h2⟩ | ⟨⟨j,h1,h2,h3⟩,h4⟩
      · refine .inl ⟨λj h3 h4=> ?_,h2⟩
        rcases Nat.lt_or_ge k j with w | w
        · exact h1 j w h4
        · obtain rfl:j=k:=by omega
          exact hp
      · exact .inr ⟨⟨j,by omega,h2,h3⟩,h4⟩
def pG (p:Int) (i:aS) (y:aB):aB:=if p=0∧i.Kind=1∧y.Id=i.Id then { y with Staged:=false,Data:= []} else y
def uG (p:Int) (c:aA) (i:aS) (a:a8):aA:= { wU c i a with Chunks:=(wU c i a).Chunks.map (pG p i)}
def kX (v f:Int) (i:aS):a8:= { Vol:=v,File:=f,Off:=i.Off,Len:=i.Len}
def xD (p v f:Int) (c:aA) (l:List aS):aA:=l.foldl (λc i=>uG p c i (kX v f i)) c
def ws (c:aA) (v:Int) (x:aP):aA:= { c with Vols:=c.Vols.set v.toNat { x with State:=2,Files:=x.Files+1}}
def jJ (l:List aS) (s:aH):Bool:=l.any λi=>i.Kind==3 && s.Seq==i.Of
def jK (c:aA) (d:aR) (x:aP):aA:=xD x.Pool d.Vol (x.Files+1) (ws c d.Vol x) d.Items
def qS (c:aA) (d:aR) (x:aP):aA:= { jK c d x with Snaps:=(jK c d x).Snaps.filter λs=> !jJ d.Items s}
def jV (c:aA) (d:aR) (x:aP):aA:=if (qS c d x).Snaps.length < (jK c d x).Snaps.length then { qS c d x with Chunks:=KB (qS c d x)} else qS c d x
theorem rU (i:aS) (a:a8) (y:aB):(oF i a y).Id=y.Id:=by unfold oF; split <;> rfl
theorem DK (p:Int) (i:aS) (y:aB):(pG p i y).Id=y.Id:=by unfold pG; split <;> rfl
theorem uB (i:aS) (a:a8) (y:aH):(AH i a y).Seq=y.Seq∧(AH i a y).Man=y.Man:=by unfold AH; split <;> exact⟨rfl,rfl⟩
theorem zK (l:List aQ) (i:aS):(wT l i).Seq=i.Seq:=by
 unfold wT
 cases e:l.find? λx=>decide (x.Seq=i.Seq) with
 | none=>rfl
 | some x=>simpa using List.find?_some e
theorem I0 (l:List aQ) (i:aS):wT l i∈l∨wT l i= { Seq:=i.Seq,Of:=i.Of,Locs:= []}:=by
 unfold wT
 cases e:l.find? λx=>decide (x.Seq=i.Seq) with
 | none=>exact .inr rfl
 | some x=>exact .inl (List.mem_of_find?_eq_some e)
theorem qG {l:List aB} {f:aB→aB} (h:∀y,(f y).Id=y.Id) (d:bO):kR (l.map f) d=kR l d:=by
 unfold kR
 rw[List.any_map]
 congr 1
 funext y
 simp[h y]
theorem NZ {p:Int} {c:aA} {i j:aS} {a:a8}:jU (uG p c i a) j=jU c j:=by
 unfold jU
 have e1:kR (uG p c i a).Chunks j.Id=kR c.Chunks j.Id:=by
  show kR ((c.Chunks.map (oF i a)).map (pG p i)) j.Id=_
  rw[qG (DK p i),qG (rU i a)]
 have e2:(uG p c i a).Snaps.any (λs=>s.Seq==j.Seq)=c.Snaps.any λs=>s.Seq==j.Seq:=by
  show (c.Snaps.map (AH i a)).any _=_
  rw[List.any_map]
  congr 1
  funext y
  simp[(uB i a y).1]
 rw[e1,e2]
theorem N0 (l:List aQ) (i:aS) (a:a8):(oG l i a).length≤l.length+1:=by
 have:∀m:List aQ,(m.filter λx=>decide (x.Seq < i.Seq)).length+(m.filter λx=>decide (i.Seq < x.Seq)).length≤m.length:=by
  intro m
  induction m with
  | nil=>simp
  | cons b m ih=>
   by_cases h1:b.Seq < i.Seq
   ·have h2:¬i.Seq < b.Seq:=by omega
    simp[List.filter_cons,h1,h2]; omega
   ·by_cases h2:i.Seq < b.Seq <;> simp[List.filter_cons,h1,h2] <;> omega
 have:=this l
 unfold oG
 simp only[List.length_append,List.length_cons]
 omega
theorem N1 {P:aQ→Prop} {l:List aQ} {i:aS} {a:a8} (h:∀x∈l,P x) (h1:∀x∈l,P { x with Locs:=fY x.Locs a}) (h2:P { Seq:=i.Seq,Of:=i.Of,Locs:=fY [] a}):∀x∈oG l i a,P x:=by
 intro x hx
 unfold oG at hx
 rcases List.mem_append.1 hx with hx | hx
 ·exact h x (List.mem_filter.1 hx).1
 ·rcases List.mem_cons.1 hx with rfl | hx
  ·rcases I0 l i with e | e
   ·exact h1 _ e
   ·rw[e]; exact h2
  ·exact h x (List.mem_filter.1 hx).1
theorem QZ {l:List aQ} {i:aS} {a:a8} (h:l.Pairwise λy x=>y.Seq < x.Seq):(oG l i a).Pairwise λy x=>y.Seq < x.Seq:=by
 unfold oG
 have hs:=zK l i
 refine List.pairwise_append.2 ⟨h.sublist List.filter_sublist,List.pairwise_cons.2 ⟨λy hy=> ?_,h.sublist List.filter_sublist⟩,λy hy z hz=> ?_⟩
 ·have:=of_decide_eq_true (List.mem_filter.1 hy).2
  simp only[hs]; exact this
 ·have h1:=of_decide_eq_true (List.mem_filter.1 hy).2
  rcases List.mem_cons.1 hz with rfl | hz
  ·simp only[hs]; exact h1
  ·have:=of_decide_eq_true (List.mem_filter.1 hz).2
   omega
theorem HP {l:List a8} {a:a8} (h:gL p4 l) (ha:p4 a):gL p4 (fY l a):=λx hx=>by
 rcases nC.1 hx with h1 | rfl
 ·exact h x h1
 ·exact ha
theorem xE {l:List aB} {f:aB→aB} (h:∀y,(f y).Id=y.Id) (hr:uF l):uF (l.map f):=by
 rw[qC] at*
 refine⟨λx hx=> ?_,List.pairwise_map.2 (hr.2.imp fun {a b} e=>by rw[h a,h b]; exact e)⟩
 obtain⟨y,hy,rfl⟩:=List.mem_map.1 hx
 rw[h y]; exact hr.1 y hy
theorem Wm.step {n:Nat} {c:aA} {i:aS} {a:a8} (p:Int) (h:Wm n c) (hi:It i) (ha:p4 a):Wm (n+1) (uG p c i a):=by
 obtain⟨g0,g1,g2,g3,g4⟩:=h.g
 have hq:=h.q
 have hiq:=hi.q0
 have hsq:0≤(uG p c i a).Seq∧(uG p c i a).Seq≤1073741826∧c.Seq≤(uG p c i a).Seq∧(i.Kind=3→i.Seq < (uG p c i a).Seq):=by
  show 0≤(if i.Kind=3 then max c.Seq (i.Seq+1) else c.Seq)∧(if i.Kind=3 then max c.Seq (i.Seq+1) else c.Seq)≤_∧c.Seq≤(if i.Kind=3 then max c.Seq (i.Seq+1) else c.Seq)∧(i.Kind=3→i.Seq < (if i.Kind=3 then max c.Seq (i.Seq+1) else c.Seq))
  split <;> omega
 have el:∀P:aQ→Prop,(∀x∈c.Exps,P x)→(∀x∈c.Exps,P { x with Locs:=fY x.Locs a})→(i.Kind=3→P { Seq:=i.Seq,Of:=i.Of,Locs:=fY [] a})→∀x∈(uG p c i a).Exps,P x:=λP h1 h2 h3 x hx=>by
  have hx:x∈(if i.Kind=3 then oG c.Exps i a else c.Exps):=hx
  split at hx
  ·rename_i k; exact N1 h1 h2 (h3 k) x hx
  ·exact h1 x hx
 have cl:∀P:aB→Prop,(∀x∈c.Chunks,∀l d s,(l=x.Locs∨l=fY x.Locs a)→(d=x.Data∨d= [])→P { Id:=x.Id,Staged:=s,Data:=d,Locs:=l})→∀x∈(uG p c i a).Chunks,P x:=λP h1 x hx=>by
  obtain⟨y,hy,rfl⟩:=List.mem_map.1 hx
  obtain⟨z,hz,rfl⟩:=List.mem_map.1 hy
  unfold pG oF
  split <;> split <;> first | exact h1 z hz _ _ _ (.inr rfl) (.inr rfl) | exact h1 z hz _ _ _ (.inl rfl) (.inr rfl) | exact h1 z hz _ _ _ (.inr rfl) (.inl rfl) | exact h1 z hz _ _ _ (.inl rfl) (.inl rfl)
 have sl:∀P:aH→Prop,(∀x∈c.Snaps,∀l,(l=x.Locs∨l=fY x.Locs a)→P { x with Locs:=l})→∀x∈(uG p c i a).Snaps,P x:=λP h1 x hx=>by
  obtain⟨z,hz,rfl⟩:=List.mem_map.1 hx
  unfold AH
  split
  ·exact h1 z hz _ (.inr rfl)
  ·exact h1 z hz _ (.inl rfl)
 have pl:∀l l':List a8,(l'=l∨l'=fY l a)→l.length≤n→l'.length≤n+1:=λl l' e hl=>by
  rcases e with rfl | rfl
  ·omega
  ·rw[kV]; omega
 have pg:∀l l':List a8,(l'=l∨l'=fY l a)→gL p4 l→gL p4 l':=λl l' e hl=>by
  rcases e with rfl | rfl
  ·exact hl
  ·exact HP hl ha
 have p0:(fY [] a).length≤n+1:=by rw[kV]; simp
 refine⟨⟨⟨by omega,by omega⟩,sl _ λx hx l e=>⟨(g1 x hx).1,(g1 x hx).2.1,pg _ _ e (g1 x hx).2.2⟩,cl _ λx hx l d s e e2=>⟨(g2 x hx).1,trivial, ?_,pg _ _ e (g2 x hx).2.2.2⟩,el _ g3 (λx hx=>⟨(g3 x hx).1,(g3 x hx).2.1,HP (g3 x hx).2.2 ha⟩) λ_=>⟨⟨by show _≤i.Seq; omega,by show i.Seq < _; omega⟩,hi.of,HP (λ_ h=>by cases h) ha⟩,g4⟩,xE (DK p i) (xE (rU i a) h.r), ?_,cl _ λx hx l d s e e2=>⟨pl _ _ e (h.cl x hx).1, ?_⟩,List.pairwise_map.2 (h.so.imp fun {y z} e=>by rw[(uB i a y).1,(uB i a z).1]; exact e), ?_,sl _ λx hx l e=>pl _ _ e (h.sl x hx),sl _ λx hx l e=>h.man x hx, ?_, ?_,el _ (λx hx=>Nat.le_succ_of_le (h.el x hx)) (λx hx=>pl _ _ (.inr rfl) (h.el x hx)) λ_=>p0, ?_,⟨hsq.1,hsq.2.1⟩,h.vo⟩
 ·rcases e2 with rfl | rfl
  ·exact(g2 x hx).2.2.1
  ·intro z hz; cases hz
 ·show ((c.Chunks.map _).map _).length≤_
  simp; exact h.cn
 ·rcases e2 with rfl | rfl
  ·exact(h.cl x hx).2
  ·simp
 ·show (c.Snaps.map _).length≤_
  simp; exact h.sn
 ·show List.Pairwise _ (if i.Kind=3 then oG c.Exps i a else c.Exps)
  split
  ·exact QZ h.eo
  ·exact h.eo
 ·show (if i.Kind=3 then oG c.Exps i a else c.Exps).length≤_
  have:=h.en
  split
  ·have:=N0 c.Exps i a; omega
  ·omega
 ·refine λx hx=>⟨?_, ?_, ?_⟩
  ·exact el (λx=>0≤x.Seq) (λx hx=>(h.eq x hx).1) (λx hx=>(h.eq x hx).1) (λ_=>hiq.1) x hx
  ·exact el (λx=>x.Seq≤1073741824) (λx hx=>(h.eq x hx).2.1) (λx hx=>(h.eq x hx).2.1) (λ_=>hiq.2) x hx
  ·exact el (λx=>x.Seq < (uG p c i a).Seq) (λx hx=>by have:=(h.eq x hx).2.2; omega) (λx hx=>by have:=(h.eq x hx).2.2; simp only; omega) (λk=>hsq.2.2.2 k) x hx
theorem vT {p v f:Int} (gv:gI v) (gf:gI f):∀ {l:List aS} {n:Nat} {c:aA},Wm n c→(∀i∈l,It i)→Wm (n+l.length) (xD p v f c l)
 | [],_,_,h,_=>h
 | i::l,n,c,h,hi=>by
  have:=vT (p:=p) gv gf (l:=l) (h.step p (hi i List.mem_cons_self) (a:=kX v f i) ⟨gv,gf,(hi i List.mem_cons_self).off,(hi i List.mem_cons_self).len⟩) λj hj=>hi j (List.mem_cons_of_mem _ hj)
  rw[List.length_cons,show n+(l.length+1)=n+1+l.length by omega]
  exact this
theorem zM {p v f:Int} {j:aS}:∀ {l:List aS} {c:aA},jU (xD p v f c l) j=jU c j
 | [],_=>rfl
 | i::l,c=>by
  show jU (xD p v f (uG p c i (kX v f i)) l) j=_
  rw[zM,NZ]
open Go.Vm
structure Wd (d:aR):Prop where
 n:d.Items.length≤64
 it:∀i∈d.Items,m7 i.Id∧(0≤i.Seq∧i.Seq≤1073741824)∧gI i.Of∧gI i.Off∧gI i.Len
def gs (l:List aS):List Int:=l.foldl (λa i=>if i.Kind==3 then mK a i.Of else a) []
theorem N2 {l:List Int} {x:Int} (q:Int→Bool):(mK l x).any q=(l.any q || q x):=by
 unfold mK
 split
 ·rename_i h
  obtain⟨y,hy,e⟩:=List.any_eq_true.1 h
  have e:x=y:=by simpa using e
  subst e
  cases hq:q x with
  | false=>simp
  | true=>simp[List.any_eq_true.2 ⟨x,hy,hq⟩]
 ·simp
theorem U9 (s:aH):∀(l:List aS),((gs l).any λz=>s.Seq==z)=jJ l s:=by
 have:∀(l:List aS) (a:List Int),((l.foldl (λa i=>if i.Kind==3 then mK a i.Of else a) a).any λz=>s.Seq==z)=(a.any (λz=>s.Seq==z) || jJ l s):=by
  intro l
  induction l with
  | nil=>intro a; simp[jJ]
  | cons i l ih=>
   intro a
   rw[List.foldl_cons,ih]
   unfold jJ
   rw[List.any_cons]
   cases e:i.Kind==3 with
   | false=>simp[e]
   | true=>simp[e,N2,Bool.or_assoc]
 intro l
 unfold gs
 rw[this]
 simp
theorem Q0 (l:List aS) (i:aS):gs (l++ [i])=if i.Kind==3 then mK (gs l) i.Of else gs l:=by
 unfold gs
 rw[List.foldl_append]
 rfl
theorem FC (p v f:Int) (c:aA) (l:List aS) (i:aS):xD p v f c (l++ [i])=uG p (xD p v f c l) i (kX v f i):=by
 unfold xD
 rw[List.foldl_append]
 rfl
theorem qH (p v f:Int):∀(l:List aS) (c:aA),(xD p v f c l).Vols=c.Vols
 | [],_=>rfl
 | i::l,c=>qH p v f l (uG p c i (kX v f i))
theorem I1 {c:aA} {v:Int} {x:aP} (h:Sm c) (hg:Gd c) (hx:c.Vols[v.toNat]? =some x):Wm 200 (ws c v x):=by
 obtain⟨g0,g1,g2,g3,g4⟩:=h.g
 have hq:=hg.q
 unfold fR at hq
 simp only[Bool.and_eq_true,decide_eq_true_eq] at hq
 have hxb:=hg.v x (List.mem_of_getElem? hx)
 unfold mA fR at hxb
 simp only[Bool.and_eq_true,Bool.or_eq_true,decide_eq_true_eq,beq_iff_eq] at hxb
 refine⟨⟨g0,g1,g2,g3,λy hy=> ?_⟩,qC.2 ⟨λy hy=>(g2 y hy).1,hg.co⟩,h.ch,λy hy=>⟨(hg.cl y hy).n,(h.cl y hy).2⟩,hg.so,h.sn,λy hy=>(hg.sl y hy).n,h.man,hg.eo,hg.en,λy hy=>(hg.el y hy).n,λy hy=> ?_,⟨hq.1,by show c.Seq≤_; omega⟩, ?_⟩
 ·rcases List.mem_or_eq_of_mem_set hy with h1 | rfl
  ·exact g4 y h1
  ·have:=g4 x (List.mem_of_getElem? hx)
   exact⟨this.1,this.2.1,(⟨by decide,by decide⟩:gI 2),(⟨by show _≤x.Files+1; omega,by show x.Files+1 < _; omega⟩:gI (x.Files+1))⟩
 ·have:=(hg.eq y hy).1
  unfold fR at this
  simp only[Bool.and_eq_true,decide_eq_true_eq] at this
  exact⟨this.1,by omega,by show y.Seq < c.Seq; omega⟩
 ·show (c.Vols.set _ _).length≤20
  rw[List.length_set]; exact h.vo
theorem aGR {F:Nat} {l:List aS} (hF:1000≤F) (hl:l.length≤64):J8 F l (λx0=>J7 F x0)=some (l.any λi=>decide (i.Kind < 1) || decide (3 < i.Kind)):=by
 have h1:NB F l (λx0=>J7 F x0)=some (vN l λi=>decide (i.Kind < 1) || decide (3 < i.Kind)):=by
  unfold NB
  refine n8 (l:=l) (λi:aS=>decide (i.Kind < 1) || decide (3 < i.Kind)) (by omega) (λi x hx hm hi=> ?_) (by unfold tJ; simp)
  unfold tJ J7
  rw[iW (by omega)]
  simp only[bH,hx,Option.bind_some,Int.ofNat_lt,hi,decide_true,if_true]
  by_cases a:x.Kind < 1 <;> by_cases b:3 < x.Kind <;> simp[a,b,aG]
 unfold J8
 rw[h1]
 simp only[Option.bind_some]
 cases ha:l.any (λi=>decide (i.Kind < 1) || decide (3 < i.Kind)) with
 | false=>rw[mR ha]; rfl
 | true=>
  obtain⟨i,x,h1, -⟩:=lH ha
  rw[h1]
  simp
def iZ (x:aP) (d:aR):Bool:= !(x.State==3) && !d.Items.isEmpty && !d.Items.any λi=>decide (i.Kind < 1) || decide (3 < i.Kind)
theorem Q1 {l:List aB} {d:bO} {p:Nat} {y:aB} (f:aB→aB) (hr:uF l) (ha:At l d p) (hy:l[p]? =some y) (hd:y.Id=d):l.set p (f y)=l.map λz=>if z.Id=d then f z else z:=
 qQ (λz:aB=>z.Id=d) f hy hd (λz hz e=>by
  have:=ha.lo z hz
  rw[e] at this; omega) λz hz e=>by
  obtain⟨j,hj,rfl⟩:=List.getElem_of_mem hz
  simp only[List.length_drop] at hj
  rw[List.getElem_drop] at e
  have:=hr.2 p (p+1+j) _ _ hy (List.getElem?_eq_getElem (by omega)) (by omega)
  rw[e,hd] at this; omega
theorem FD {F:Nat} {c:aA} {d:aR} {x:aP} {i:aS} {k:Nat} (hF:1000≤F) (hW:Wm 200 (ws c d.Vol x)) (gv:gI d.Vol) (gf:0≤x.Files∧x.Files≤65535) (hn:d.Items.length≤64) (hI:∀i∈d.Items,It i) (hk:k < d.Items.length) (hi:d.Items[k]? =some i)
    (e:aA) (he:e=xD x.Pool d.Vol (x.Files+1) (ws c d.Vol x) (d.Items.take k)):
    (jU (ws c d.Vol x) i=true→o7 F c d x (gs (d.Items.take k)) e.Seq e.Snaps e.Chunks e.Exps (k:Int)=some (.go (gs (d.Items.take (k+1)),(uG x.Pool e i (kX d.Vol (x.Files+1) i)).Seq,(uG x.Pool e i (kX d.Vol (x.Files+1) i)).Snaps,(uG x.Pool e i (kX d.Vol (x.Files+1) i)).Chunks,(uG x.Pool e i (kX d.Vol (x.Files+1) i)).Exps,((k+1:Nat):Int))))∧
    (jU (ws c d.Vol x) i=false→∃r,r.1=8∧o7 F c d x (gs (d.Items.take k)) e.Seq e.Snaps e.Chunks e.Exps (k:Int)=some (.ret r)):=by
  have gF:gI (x.Files+1):=⟨by omega,by omega⟩
  have hm:=List.mem_of_getElem? hi
  have It':=hI i hm
  have hWe:=vT (p:=x.Pool) gv gF (l:=d.Items.take k) hW λj hj=>hI j (List.mem_of_mem_take hj)
  have hp:=zM (p:=x.Pool) (v:=d.Vol) (f:=x.Files+1) (j:=i) (l:=d.Items.take k) (c:=ws c d.Vol x)
  have hv:=qH x.Pool d.Vol (x.Files+1) (d.Items.take k) (ws c d.Vol x)
  rw[← he] at hWe hp hv
  rw[List.length_take] at hWe
  have hV:(c.Vols.set d.Vol.toNat { x with State:=2}).set d.Vol.toNat { ({ x with State:=2}:aP) with Files:=x.Files+1}=e.Vols:=by
    rw[hv,List.set_set]; rfl
  have hga:p4 (kX d.Vol (x.Files+1) i):=⟨gv,gF,It'.off,It'.len⟩
  have hgs:gs (d.Items.take (k+1))=if i.Kind==3 then mK (gs (d.Items.take k)) i.Of else gs (d.Items.take k):=by
    obtain⟨hk',rfl⟩:=List.getElem?_eq_some_iff.1 hi
    rw[List.take_succ_eq_append_getElem hk,Q0]
  have h123:=aGQ (a:=kX d.Vol (x.Files+1) i) hF hWe (by omega) It'
  have wF:IntKind.wrap .i64 (x.Files+1)=x.Files+1:=wr (by omega) (by omega)
  have h123':HB F { Seq:=e.Seq,Snaps:=e.Snaps,Chunks:=e.Chunks,Exps:=e.Exps,Vols:=e.Vols} i { Vol:=d.Vol,File:=x.Files+1,Off:=i.Off,Len:=i.Len}=HB F e i (kX d.Vol (x.Files+1) i):=rfl
  constructor
  · intro hpr
    rw[hp,hpr,if_pos rfl] at h123
    have hr:=xE (rU i (kX d.Vol (x.Files+1) i)) hWe.r
    obtain⟨p,ha,e116⟩:=aAQ hF hr It'.id (l:=e.Chunks.map (oF i (kX d.Vol (x.Files+1) i))) (by simp; have:=hWe.cn; omega)
    have e116':wQ F (wU e i (kX d.Vol (x.Files+1) i)).Chunks i.Id=_:=e116
    unfold o7
    rw[iW (by omega)]
    simp only[bH,hi,Option.bind_some,Int.ofNat_lt,hk,decide_true,if_true,wF,hV,h123',h123,e116']
    rw[if_neg (by simp),hgs]
    have gn:∀ {ρ:Type} (k':List Int→Option ρ),(after (if (i.Kind==3)=true then some (.brk (mK (gs (d.Items.take k)) i.Of)) else some (.brk (gs (d.Items.take k))):Option (Lp (List Int) ρ)) k')=k' (if i.Kind==3 then mK (gs (d.Items.take k)) i.Of else gs (d.Items.take k)):=λk'=>by split <;> rfl
    rw[gn]
    have fin:(uG x.Pool e i (kX d.Vol (x.Files+1) i)).Chunks=(wU e i (kX d.Vol (x.Files+1) i)).Chunks.map (pG x.Pool i):=rfl
    by_cases k1:i.Kind=1
    · have hhas:kR (wU e i (kX d.Vol (x.Files+1) i)).Chunks i.Id=true:=by
        show kR (e.Chunks.map (oF i (kX d.Vol (x.Files+1) i))) i.Id=true
        rw[qG (rU i _)]
        rw[← hp] at hpr
        unfold jU at hpr
        rwa [if_pos k1] at hpr
      rw[show kR (e.Chunks.map (oF i (kX d.Vol (x.Files+1) i))) i.Id=true from hhas]
      obtain⟨y,y1,y2⟩:=HG hr ha It'.id hhas
      simp only[k1,beq_self_eq_true,if_true,aG]
      by_cases p0:x.Pool=0
      · have y1':(wU e i (kX d.Vol (x.Files+1) i)).Chunks[p]? =some y:=y1
        have hpl:=(List.getElem?_eq_some_iff.1 y1').1
        have hb:(x.Pool==0)=true:=by simpa using p0
        simp only[hb,if_true,y1',Option.bind_some,Int.toNat_natCast]
        rw[List.getElem?_set_self hpl]
        simp only[Option.bind_some,List.set_set,aG]
        rw[fin]
        have:=Q1 (λz:aB=> { z with Staged:=false,Data:= []}) (show uF (wU e i (kX d.Vol (x.Files+1) i)).Chunks from hr) (show At (wU e i (kX d.Vol (x.Files+1) i)).Chunks i.Id p from ha) y1' y2
        rw[this]
        have e9:(λz:aB=>if z.Id=i.Id then ({ z with Staged:=false,Data:= []}:aB) else z)=pG x.Pool i:=by
          funext z
          simp only[pG,p0,k1,true_and]
        rw[e9]
        rfl
      · simp only[show (x.Pool==0)=false from by simpa using p0,Bool.false_eq_true,if_false,aG]
        rw[fin,kG λz _=>by unfold pG; rw[if_neg (by simp[p0])]]
        rfl
    · simp only[show (i.Kind==1)=false from by simpa using k1,Bool.false_eq_true,if_false,aG]
      rw[fin,kG λz _=>by unfold pG; rw[if_neg (by simp[k1])]]
      rfl
  · intro hpr
    rw[hp,hpr,if_neg (by decide)] at h123
    refine⟨(8,e.Seq,e.Snaps,e.Chunks,e.Exps,e.Vols),rfl, ?_⟩
    unfold o7
    simp only[bH,hi,Option.bind_some,Int.ofNat_lt,hk,decide_true,if_true,wF,hV,h123',h123]
    rw[if_pos (by simp)]
theorem n74 {F:Nat} {c:aA} {d:aR} {x:aP} (hF:1000≤F) (h:Sm c) (hg:Gd c) (hd:Wd d) (gv:gI d.Vol) (h0:0≤d.Vol) (hx:c.Vols[d.Vol.toNat]? =some x):
    ∃r,V8 F c d=some r∧(if iZ x d=true then (if d.Items.all (jU c)=true then r=(0,(jV c d x).Seq,(jV c d x).Snaps,(jV c d x).Chunks,(jV c d x).Exps,(jV c d x).Vols) else r.1=8) else r.1=1):=by
  have hxb:=hg.v x (List.mem_of_getElem? hx)
  have gf:0≤x.Files∧x.Files≤65535:=by
    unfold mA fR at hxb
    simp only[Bool.and_eq_true,Bool.or_eq_true,decide_eq_true_eq,beq_iff_eq] at hxb
    omega
  have gF:gI (x.Files+1):=⟨by omega,by omega⟩
  have hlt:=(List.getElem?_eq_some_iff.1 hx).1
  have hn:=hd.n
  have hW:=I1 h hg hx
  unfold V8
  rw[aGR hF hn]
  simp only[Option.bind_some,pZ _ h0,hx]
  rw[if_neg (by simp; omega),if_neg (by simp; omega)]
  by_cases c1:x.State=3
  · rw[if_pos (by simp[c1])]
    simp only[aG,if_true]
    exact⟨_,rfl,by simp[iZ,c1]⟩
  rw[if_neg (by simp[c1])]
  by_cases c2:d.Items= []
  · simp[c2,aG,iZ]
  have hpos:0 < d.Items.length:=List.length_pos_iff.2 c2
  rw[if_neg (by simp; omega),if_neg (by simp; omega)]
  simp only[aG]
  cases c3:d.Items.any (λi=>decide (i.Kind < 1) || decide (3 < i.Kind)) with
  | true=>
    simp only[Bool.not_true,Bool.not_false,if_true]
    exact⟨_,rfl,by simp[iZ,c3]⟩
  | false=>
  have hI:∀i∈d.Items,It i:=λi hi=>by
    obtain⟨a1,a2,a3,a4,a5⟩:=hd.it i hi
    have:=List.any_eq_false.1 c3 i hi
    simp only[Bool.or_eq_true,decide_eq_true_eq] at this
    exact⟨a1,a2,by omega,a3,a4,a5⟩
  have hwc:iZ x d=true:=by simp[iZ,c1,c2,c3]
  simp only[Bool.not_false,Bool.not_true,Bool.false_eq_true,if_false,hwc,if_true]
  have key:=zJ (body:=λs:List Int×Int×List aH×List aB×List aQ×Int=>o7 F c d x s.1 s.2.1 s.2.2.1 s.2.2.2.1 s.2.2.2.2.1 s.2.2.2.2.2) (n:=d.Items.length)
    (λk=>(gs (d.Items.take k),(xD x.Pool d.Vol (x.Files+1) (ws c d.Vol x) (d.Items.take k)).Seq,(xD x.Pool d.Vol (x.Files+1) (ws c d.Vol x) (d.Items.take k)).Snaps,(xD x.Pool d.Vol (x.Files+1) (ws c d.Vol x) (d.Items.take k)).Chunks,(xD x.Pool d.Vol (x.Files+1) (ws c d.Vol x) (d.Items.take k)).Exps,(k:Int)))
    (λk=>(d.Items[k]?).any (jU c)) (λr=>r.1=8)
    (λk hk hp=>by
      have hi:d.Items[k]? =some d.Items[k]:=List.getElem?_eq_getElem hk
      have:=(FD hF hW gv gf hn hI hk hi _ rfl).1 (by rw[hi] at hp; exact hp)
      refine this.trans ?_
      rw[← FC,← List.take_succ_eq_append_getElem hk])
    (λk hk hp=>by
      have hi:d.Items[k]? =some d.Items[k]:=List.getElem?_eq_getElem hk
      exact(FD hF hW gv gf hn hI hk hi _ rfl).2 (by rw[hi] at hp; exact hp))
    (by unfold o7; simp) d.Items.length 0 F (by omega) (by omega)
  have st0:([],c.Seq,c.Snaps,c.Chunks,c.Exps,0)=(gs (d.Items.take 0),(xD x.Pool d.Vol (x.Files+1) (ws c d.Vol x) (d.Items.take 0)).Seq,(xD x.Pool d.Vol (x.Files+1) (ws c d.Vol x) (d.Items.take 0)).Snaps,(xD x.Pool d.Vol (x.Files+1) (ws c d.Vol x) (d.Items.take 0)).Chunks,(xD x.Pool d.Vol (x.Files+1) (ws c d.Vol x) (d.Items.take 0)).Exps,((0:Nat):Int)):=rfl
  rw[st0]
  rcases key with⟨k1,k2⟩ | ⟨⟨j, -,k1,k2⟩,r,k3,k4⟩
  · rw[k2]
    simp only[aG,List.take_length]
    have hall:d.Items.all (jU c)=true:=List.all_eq_true.2 λi hi=>by
      obtain⟨j,hj,rfl⟩:=List.getElem_of_mem hi
      have:=k1 j (Nat.zero_le _) hj
      rw[List.getElem?_eq_getElem hj] at this
      exact this
    rw[hall]
    simp only[if_true]
    have hWe:=vT (p:=x.Pool) gv gF hW hI
    have e1:xD x.Pool d.Vol (x.Files+1) (ws c d.Vol x) d.Items=jK c d x:=rfl
    have hVv:(c.Vols.set d.Vol.toNat { x with State:=2}).set d.Vol.toNat { ({ x with State:=2}:aP) with Files:=IntKind.wrap .i64 (x.Files+1)}=(jK c d x).Vols:=by
      rw[← e1,qH,List.set_set,wr (by omega) (by omega)]; rfl
    rw[e1] at hWe ⊢
    have hsm:=hWe.sm (by omega)
    rw[aGO (l:=(jK c d x).Snaps) (λs=>jJ d.Items s) hF (by have:=hWe.sn; omega) (λs hs=>by unfold QH; rw[U9])]
    simp only[Option.bind_some]
    rw[hVv]
    have h120:HA F { Seq:=(jK c d x).Seq,Snaps:=(jK c d x).Snaps.filter (λs=> !jJ d.Items s),Chunks:=(jK c d x).Chunks,Exps:=(jK c d x).Exps,Vols:=(jK c d x).Vols}=some (KB (qS c d x)):=aFY hF (tO hsm _)
    rw[h120]
    refine⟨_, ?_,rfl⟩
    unfold jV
    have e2:(qS c d x).Snaps=(jK c d x).Snaps.filter λs=> !jJ d.Items s:=rfl
    rw[e2]
    by_cases hs:((jK c d x).Snaps.filter λs=> !jJ d.Items s).length < (jK c d x).Snaps.length
    · rw[if_pos (by simpa using hs),if_pos hs]
      simp only[Option.bind_some,aG]
      rfl
    · rw[if_neg (by simpa using hs),if_neg hs]
      simp only[aG]
      rfl
  · have hall:d.Items.all (jU c)=false:=by
      rw[List.all_eq_false]
      refine⟨d.Items[j],List.getElem_mem k1, ?_⟩
      rw[List.getElem?_eq_getElem k1] at k2
      simpa using k2
    rw[k4,hall]
    exact⟨_,rfl,by simpa using k3⟩
theorem DL {c:aA} {d:aR} {x:aP} (h:Sm c) (hg:Gd c) (hd:Wd d) (gv:gI d.Vol) (hx:c.Vols[d.Vol.toNat]? =some x) (hI:∀i∈d.Items,1≤i.Kind∧i.Kind≤3):Sm (jV c d x):=by
 have hxb:=hg.v x (List.mem_of_getElem? hx)
 have gf:0≤x.Files∧x.Files≤65535:=by
  unfold mA fR at hxb
  simp only[Bool.and_eq_true,Bool.or_eq_true,decide_eq_true_eq,beq_iff_eq] at hxb
  omega
 have gF:gI (x.Files+1):=⟨by omega,by omega⟩
 have hn:=hd.n
 have hWe:=vT (p:=x.Pool) gv gF (I1 h hg hx) (λi hi=>⟨(hd.it i hi).1,(hd.it i hi).2.1,hI i hi,(hd.it i hi).2.2.1,(hd.it i hi).2.2.2.1,(hd.it i hi).2.2.2.2⟩)
 have hs:=tO (hWe.sm (by omega)) λs=> !jJ d.Items s
 unfold jV
 split
 ·exact IW hs
 ·exact hs
theorem N3 {F:Nat} {c:aA} {d:aR} {x:aP} (hF:1000≤F) (h:Sm c) (hg:Gd c) (hk:d.Kind=3) (hd:Wd d) (gv:gI d.Vol) (h0:0≤d.Vol) (hx:c.Vols[d.Vol.toNat]? =some x):
    UX F c d=some (if iZ x d=true then (if d.Items.all (jU c)=true then (if iA (jV c d x)=true then (jV c d x,0) else (cG,1)) else (cG,8)) else (cG,1)):=by
  have hk2:nV.find? (λe=>e.1==d.Kind)=some (d.Kind,74):=by rw[hk]; rfl
  have go:∀(e:aA) (n:Int),o9 F 74 c d=some (e,n)→(n=0→Sm e)→_:=λe n=>n29 (n:=n) hF h (lS.2 hg) hk2
  obtain⟨r,hr,hq⟩:=n74 hF h hg hd gv h0 hx
  have e0:o9 F 74 c d=(V8 F c d).bind λo=>some ({ c with Seq:=o.2.1,Snaps:=o.2.2.1,Chunks:=o.2.2.2.1,Exps:=o.2.2.2.2.1,Vols:=o.2.2.2.2.2},o.1):=by
    unfold o9
    simp only[if_neg (show ¬(74:Nat)=72 by decide),if_neg (show ¬(74:Nat)=73 by decide),if_true]
  rw[hr] at e0
  by_cases c1:iZ x d=true
  · rw[if_pos c1] at hq ⊢
    by_cases c2:d.Items.all (jU c)=true
    · rw[if_pos c2] at hq ⊢
      subst hq
      rw[go (jV c d x) 0 e0 λ_=>DL h hg hd gv hx λi hi=>by
        unfold iZ at c1
        simp only[Bool.and_eq_true,Bool.not_eq_true',List.any_eq_false,Bool.or_eq_true,decide_eq_true_eq,not_or,Int.not_lt] at c1
        exact c1.2 i hi]
      rfl
    · rw[if_neg c2] at hq ⊢
      rw[go _ _ e0 λh=>by rw[hq] at h; cases h]
      simp[hq]
  · rw[if_neg c1] at hq ⊢
    rw[go _ _ e0 λh=>by rw[hq] at h; cases h]
    simp[hq]
open Go.Vm
def KG (n:Nat) (l:List a8):Prop:=l.length≤n∧gL p4 l
def Q2 (n:Nat) (s:aH):Prop:=gI s.Seq∧IT s.Man∧KG n s.Locs
def Q3 (n:Nat) (x:aB):Prop:=m7 x.Id∧x.Data.length≤300∧gL gB x.Data∧KG n x.Locs
def Q4 (n:Nat) (x:aQ):Prop:=gI x.Seq∧gI x.Of∧KG n x.Locs
structure Md (n m:Nat) (q:Int) (s:List aH) (k:List aB) (e:List aQ) (v:List aP):Prop where
 q:gI q
 sn:s.length≤9
 s:∀x∈s,Q2 n x
 kn:k.length≤360
 k:∀x∈k,Q3 n x
 en:e.length≤m
 e:∀x∈e,Q4 n x
 vn:v.length≤8
 v:∀x∈v,RX x
theorem KG.mono {n n':Nat} {l:List a8} (h:KG n l) (hn:n≤n'):KG n' l:=⟨Nat.le_trans h.1 hn,h.2⟩
theorem Q2.mono {n n':Nat} {x:aH} (h:Q2 n x) (hn:n≤n'):Q2 n' x:=⟨h.1,h.2.1,h.2.2.mono hn⟩
theorem Q3.mono {n n':Nat} {x:aB} (h:Q3 n x) (hn:n≤n'):Q3 n' x:=⟨h.1,h.2.1,h.2.2.1,h.2.2.2.mono hn⟩
theorem Q4.mono {n n':Nat} {x:aQ} (h:Q4 n x) (hn:n≤n'):Q4 n' x:=⟨h.1,h.2.1,h.2.2.mono hn⟩
theorem Md.mono {n m n' m':Nat} {q:Int} {s:List aH} {k:List aB} {e:List aQ} {v:List aP} (h:Md n m q s k e v) (hn:n≤n') (hm:m≤m'):Md n' m' q s k e v:=
 ⟨h.q,h.sn,λx hx=>(h.s x hx).mono hn,h.kn,λx hx=>(h.k x hx).mono hn,Nat.le_trans h.en hm,λx hx=>(h.e x hx).mono hn,h.vn,h.v⟩
theorem Md.sm {n m:Nat} {q:Int} {s:List aH} {k:List aB} {e:List aQ} {v:List aP} (h:Md n m q s k e v) (hn:n≤300) (hm:m≤300):Sm { Seq:=q,Snaps:=s,Chunks:=k,Exps:=e,Vols:=v} where
 g:=⟨h.q,λx hx=>⟨(h.s x hx).1,(h.s x hx).2.1.2.2.2,(h.s x hx).2.2.2⟩,λx hx=>⟨(h.k x hx).1,trivial,(h.k x hx).2.2.1,(h.k x hx).2.2.2.2⟩,λx hx=>⟨(h.e x hx).1,(h.e x hx).2.1,(h.e x hx).2.2.2⟩,h.v⟩
 sn:=Nat.le_trans h.sn (by omega)
 ch:=Nat.le_trans h.kn (by omega)
 ex:=Nat.le_trans h.en hm
 vo:=Nat.le_trans h.vn (by omega)
 sl:=λx hx=>Nat.le_trans (h.s x hx).2.2.1 hn
 cl:=λx hx=>⟨Nat.le_trans (h.k x hx).2.2.2.1 hn,(h.k x hx).2.1⟩
 el:=λx hx=>Nat.le_trans (h.e x hx).2.2.1 hn
 man:=λx hx=>⟨(h.s x hx).2.1.1,(h.s x hx).2.1.2.1,(h.s x hx).2.1.2.2.1⟩
theorem vU {c:aA} {l:List a8} (h:h9 c l=true):l.length≤200:=by
 unfold h9 at h
 simp only[Bool.and_eq_true,decide_eq_true_eq] at h
 exact h.1
theorem Ok.md {c:aA} (h:Ok c):Md 200 200 c.Seq c.Snaps c.Chunks c.Exps c.Vols where
 q:=h.sm.g.1
 sn:=Nat.le_trans h.rg.sn (by omega)
 s:=λx hx=>⟨(h.sm.g.2.1 x hx).1,⟨(h.sm.man x hx).1,(h.sm.man x hx).2.1,(h.sm.man x hx).2.2,(h.sm.g.2.1 x hx).2.1⟩,vU (h.rg.s x hx).2.2.2,(h.sm.g.2.1 x hx).2.2⟩
 kn:=Nat.le_trans h.rg.ch (by omega)
 k:=λx hx=>⟨(h.sm.g.2.2.1 x hx).1,(h.sm.cl x hx).2,(h.sm.g.2.2.1 x hx).2.2.1,vU (h.rg.k x hx).2,(h.sm.g.2.2.1 x hx).2.2.2⟩
 en:=h.rg.ex
 e:=λx hx=>⟨(h.sm.g.2.2.2.1 x hx).1,(h.sm.g.2.2.2.1 x hx).2.1,vU (h.rg.e x hx).2.2.2.2,(h.sm.g.2.2.2.1 x hx).2.2⟩
 vn:=h.rg.vo
 v:=h.sm.g.2.2.2.2
open Go.Vm
theorem BH {α:Type} {l:List α} {P:α→Prop} {i:Int} {x:α} (h0:0≤i) (hx:l[i.toNat]? =some x) (h:∀y∈l.take i.toNat,P y) (hP:P x):∀y∈l.take (i+1).toNat,P y:=by
 intro y hy
 obtain⟨hlt,he⟩:=List.getElem?_eq_some_iff.1 hx
 rw[show (i+1).toNat=i.toNat+1 from by omega,List.take_succ_eq_append_getElem hlt] at hy
 rcases List.mem_append.1 hy with h1 | h1
 ·exact h y h1
 ·rw[List.mem_singleton,he] at h1
  exact h1 ▸ hP
theorem N4 {α:Type} {l:List α} {i n:Nat} {x:α} (hx:l[i]? =some x) (hi:i < n):x∈l.take n:=by
 refine List.mem_of_getElem? (i:=i) ?_
 rw[List.getElem?_take_of_lt hi,hx]
def FE (a:n4):Prop:=∀f∈a.Tree,f.Path.size≤100
theorem t27 {F:Nat} {l:List n4} (hF:1000≤F):T (M14 F l) λb=>b=false→∀a∈l.take 30,FE a:=by
 unfold M14
 refine .ite (λ_=>.some λh=>by cases h) λhl=> ?_
 have hl:l.length≤120:=by simp at hl; omega
 refine .loop (λi=>0≤i∧i≤l.length∧i≤30∧∀a∈l.take i.toNat,FE a) (λi=>(l.length - i).toNat) (λ_=>∀a∈l.take 30,FE a) (by omega) (by simp) (λi hi=> ?_) (λi hi=>.some λ_=>hi)
 obtain⟨i0,i1,i2,i3⟩:=hi
 unfold DH
 refine .after (.ite (λhc=>.brk (T.ite (λhc2=> ?_) λhc2=>.brk λa ha=> ?_)) λhc=>.brk (T.ite (λh=>by cases h) λ_=>.brk λa ha=> ?_))
 ·have hc:=of_decide_eq_true hc
  have hc2:=of_decide_eq_true hc2
  rw[wr (n:=i+1) (by omega) (by omega)]
  refine .after (.ix (by omega) (by omega) λx e hx=>.ite (λ_=>.brk (T.ite (λ_=>.ret λh=>by cases h) λh=>absurd rfl h)) λ_=>.ix (by omega) (by omega) λy e2 hy=>.brk (T.ite (λ_=>.ret λh=>by cases h) λht=> ?_))
  have ht:y.Tree.length≤10:=by simp at ht; omega
  refine .loop (λj=>0≤j∧j≤y.Tree.length∧∀f∈y.Tree.take j.toNat,f.Path.size≤100) (λj=>(y.Tree.length - j).toNat) (λ_=>FE y) (by omega) (by simp) (λj hj=> ?_) (λj hj=>.go ⟨⟨by omega,by omega,by omega,BH i0 e2 i3 hj⟩,by omega⟩)
  obtain⟨j0,j1,j2⟩:=hj
  have same:∀z,l[i.toNat]? =some z→z=y:=λz hz=>by rw[e2] at hz; exact(Option.some.inj hz).symm
  unfold DG
  refine .ix (by omega) (by omega) λz ez _=> ?_
  obtain rfl:=same z ez
  refine .ite (λhc=> ?_) λhc=>.brk λf hf=>j2 f ?_
  ·have hc:=of_decide_eq_true hc
   rw[wr (n:=j+1) (by omega) (by omega)]
   refine .after (.ix (by omega) (by omega) λz2 ez2 _=> ?_)
   obtain rfl:=same z2 ez2
   refine .ix (by omega) (by omega) λf ef hf=>.ite (λ_=>.brk (T.ite (λ_=>.ret (show (_:Bool)=false→_ from λh=>by cases h)) λh=>absurd rfl h)) λ_=>.ix (by omega) (by omega) λz3 ez3 _=> ?_
   obtain rfl:=same z3 ez3
   refine .ix (by omega) (by omega) λf ef hf=>.brk (T.ite (λ_=>.ret (show (_:Bool)=false→_ from λh=>by cases h)) λhp=>.go ⟨⟨by omega,by omega,BH j0 ef j2 ?_⟩,by omega⟩)
   simp at hp
   omega
  ·have hc:¬(j < z.Tree.length):=by simpa using hc
   rw[List.take_of_length_le (by omega)]
   exact hf
 ·have hc2:¬(i < 30):=by simpa using hc2
  have:i.toNat=30:=by omega
  rw[this] at i3
  exact i3 a ha
 ·have hc:¬(i < l.length):=by simpa using hc
  refine i3 a ?_
  rw[List.take_of_length_le (by omega)]
  exact List.mem_of_mem_take ha
theorem aGS (x:Int) (hx:gI x):cH .and .i64 x 1=0∨cH .and .i64 x 1=1:=by
 have e:cH .and .i64 x 1=IntKind.wrap .i64 ((BitVec.ofInt 64 x &&& BitVec.ofInt 64 1).toNat:Int):=rfl
 have e1:(BitVec.ofInt 64 1).toNat=1:=by decide
 rw[e,BitVec.toNat_and,e1,Nat.and_one_is_mod]
 rcases Nat.mod_two_eq_zero_or_one (BitVec.ofInt 64 x).toNat with h | h <;> rw[h]
 ·exact .inl rfl
 ·exact .inr rfl
theorem t29 {F:Nat} {l:List Int} (hF:1000≤F) (gl:gL gI l):T (M16 F l) λr=>fR r.length 1 8=true∧r.all EW=true∧gL gI r:=by
 unfold M16
 refine .loop (λs=>0≤s.2∧s.2≤l.length∧s.2≤8∧(s.1.length:Int)=s.2∧∀x∈s.1,x=0∨x=1) (λs=>(8 - s.2).toNat) (λs=>s.1.length≤8∧∀x∈s.1,x=0∨x=1) (by simp; omega) (by simp) (λs hs=> ?_) (λs hs=> ?_)
 ·obtain⟨q,i⟩:=s
  simp only at hs
  unfold DI
  refine .after (.ite (λhc=>.brk (T.ite (λhc2=> ?_) λhc2=>.brk ⟨by first | omega | (simp only; omega),hs.2.2.2.2⟩)) λhc=>.brk (T.ite (λh=>by cases h) λ_=>.brk ⟨by first | omega | (simp only; omega),hs.2.2.2.2⟩))
  have hc:=of_decide_eq_true hc
  have hc2:=of_decide_eq_true hc2
  simp only at hc hc2
  rw[wr (n:=i+1) (by omega) (by omega)]
  refine .ix (by omega) (by omega) λx _ hx=>.app (by simp; omega) (.go ⟨⟨by first | omega | (simp only; omega),by first | omega | (simp only; omega),by first | omega | (simp only; omega),by simp; omega,λy hy=> ?_⟩,by first | omega | (simp only; omega)⟩)
  rcases List.mem_append.1 hy with h | h
  ·exact hs.2.2.2.2 y h
  ·rw[List.mem_singleton] at h
   exact h ▸ aGS x (gl x hx)
 ·obtain⟨q,i⟩:=s
  simp only at hs
  have fin:∀r:List Int,0 < r.length→r.length≤8→(∀x∈r,x=0∨x=1)→fR r.length 1 8=true∧r.all EW=true∧gL gI r:=λr h1 h2 h3=>by
   refine⟨by unfold fR; simp; omega, ?_,λx hx=> ?_⟩
   ·rw[List.all_eq_true]
    intro x hx
    rcases h3 x hx with rfl | rfl <;> rfl
   ·rcases h3 x hx with rfl | rfl <;> simp[gI]
  refine .after (.ite (λ_=>.brk (.some (fin _ (by simp) (by simp) (by simp)))) λhc=>.brk (.some (fin _ ?_ hs.1 hs.2)))
  have:¬((q.length:Int)=0):=by simpa using hc
  omega
open Go.Vm
def zO (m:Nat) (p0:List Int) (p1:Int) (p2:Int):Option ((List Int)):=
 (IB m [] p1 p2).bind λy3=>(app p0 y3.1).bind λz0=>some z0
theorem DM {w:Nat} {p0:List Int} {p1:Int} {p2:Int} {o:(List Int)} (h:aE) {t_p0:Option cB} (ot_p0:t_p0=none→p0= []) (K0:bT h [(t_p0,.tok 5 1 ((p0:List Int).length*1))]) (m:zO w p0 p1 p2=some o):
 aL Tryz.prog 95 [ow t_p0 1 (List.map dF p0),nZ p1,nZ p2] (hp h [(t_p0,.tok 5 1 ((p0:List Int).length*1))]) (λr h'=>∃t,(t=none→o= [])∧bT h [(t,.tok 5 1 (o.length*1))]∧r=ow t 1 (List.map dF o)∧h'=hp h [(t,.tok 5 1 (o.length*1))]):=by
 refine uE K0 18 [.tmp 6] Tryz.func95 rfl rfl rfl rfl ?_
 unfold zO at m
 refine v (v ?_)
 obtain⟨_,Y4,m⟩:=aC m
 refine ve λu=>cK (qJ (.cons (aX _) (.k2 .nil)) (RS _ Y4)) rfl RT rfl ?_
 rintro x h' ⟨tg5,t6,K7,rfl,rfl⟩
 refine qk (bT.co u K7) (iS _ _ _) (v ?_)
 obtain⟨z0,Z0,m⟩:=aC m
 refine ve λu=>fF (c:=dF) 1 Z0 jH rfl rfl rfl ot_p0 u (n3 t6) λtg0 t0 K1=>qk K1 rfl (v ?_)
 obtain rfl:=eT m
 exact vr λu=>dW.one (.inl rfl) (aT (.cons _ (.cons_cons _ (List.nil_sublist _))) u).1 (bF.refl _ _) ⟨tg0,t0,(aT (.cons _ (.cons_cons _ (List.nil_sublist _))) u).2,rfl,rfl⟩
theorem DN:aO Tryz.prog 95=true:=by kernel_rfl
def AI (m:Nat) (p0:Int) (p1:Int):Option (Bool):=
 after (if (decide (0≤p0))=true then (some (.brk (decide (p0≤p1)))) else some (.brk false):Option (Lp (Bool) (Bool))) λj4=>some j4
theorem FF {u:Nat} {p0:Int} {p1:Int} {o:Bool} (h:aE) (m:AI u p0 p1=some o):
 aL Tryz.prog 161 [nZ p0,nZ p1] h (λr h'=>r= .sc (.bool o)∧h'=h):=by
 refine f8 12 [.tmp 4] Tryz.func161 rfl rfl rfl rfl ?_
 unfold AI at m
 refine v (vs (fN m (σ:=Bool) (λs=> []) (λs=>.c 4 (.sc (.bool s)) .nil) (λx m=> ?_) ?_))
 refine v ?_
 apply vi m <;> intro b5 m
 rw[b5]
 exact iX m
 rw[b5]
 exact iX m
 rintro _ j4 m
 refine v ?_
 obtain rfl:=eT m
 exact eD rfl
theorem v9:aO Tryz.prog 161=true:=by kernel_rfl
def VA (m:Nat) (p0:aS):Option (Bool):=
 after ((AI m p0.Seq 4294967295).bind λy0=>if (!y0)=true then (some (.brk true)) else (AI m p0.Of 4294967295).bind λy1=>if (!y1)=true then (some (.brk true)) else (AI m p0.Off 16777215).bind λy2=>if (!y2)=true then (some (.brk true)) else (AI m p0.Len 65535).bind λy3=>some (.brk (!y3)):Option (Lp (Bool) (Bool))) λj0=>if j0=true then (some false) else if (p0.Kind==1)=true then (after (if (p0.Seq==0)=true then (some (.brk (p0.Of==0))) else some (.brk false):Option (Lp (Bool) (Bool))) λj1=>some j1) else if (p0.Kind==2)=true then (after (if (decide (p0.Id=jW))=true then (some (.brk (p0.Of==0))) else some (.brk false):Option (Lp (Bool) (Bool))) λj2=>some j2) else after (if (p0.Kind==3)=true then (some (.brk (decide (p0.Id=jW)))) else some (.brk false):Option (Lp (Bool) (Bool))) λj3=>some j3
theorem aGT {u:Nat} {p0:aS} {o:Bool} (h:aE) (m:VA u p0=some o):
 aL Tryz.prog 163 [.agg (aY p0)] h (λr h'=>r= .sc (.bool o)∧h'=h):=by
 refine f8 57 [.tmp 2] Tryz.func163 rfl rfl rfl rfl ?_
 unfold VA at m
 refine v (gY rfl rfl λk2 K3=>vs (vs (fN m (σ:=Bool) (λs=> [(some k2,.obj 38 (aY p0))]) (λs=>.c 1 (.ptr k2 0) (.c 24 (.sc (.bool s)) .nil)) (λx m=> ?_) ?_)))
 refine v (vl 0 _ cF rfl rfl rfl (vk FF v9 m rfl rfl λ_ m=> ?_))
 apply vi m <;> intro b0 m
 rw[b0]
 exact rH m
 rw[b0]
 refine vl 0 _ cF rfl rfl rfl (vk FF v9 m rfl rfl λ_ m=> ?_)
 apply vi m <;> intro b1 m
 rw[b1]
 exact rH m
 rw[b1]
 refine vl 0 _ cF rfl rfl rfl (vk FF v9 m rfl rfl λ_ m=> ?_)
 apply vi m <;> intro b2 m
 rw[b2]
 exact rH m
 rw[b2]
 exact vl 0 _ cF rfl rfl rfl (vk FF v9 m rfl rfl λ_ m=>rH m)
 rintro _ j0 m
 refine v ?_
 apply vi m <;> intro c0 m
 refine v (v ?_)
 obtain rfl:=eT m
 exact eD rfl
 refine v (v (vl 0 _ cF rfl rfl rfl (v (v (v ?_)))))
 apply vi m <;> intro c1 m
 refine vs (fN m (σ:=Bool) (λs=> [(some k2,.obj 38 (aY p0))]) (λs=>.c 2 (.sc (.bool s)) .nil) (λx m=> ?_) ?_)
 refine v (vl 0 _ cF rfl rfl rfl ?_)
 apply vi m <;> intro b3 m
 rw[b3]
 exact vl 0 _ cF rfl rfl rfl (iX m)
 rw[b3]
 exact iX m
 rintro _ j1 m
 refine v ?_
 obtain rfl:=eT m
 exact eD rfl
 refine v (v ?_)
 apply vi m <;> intro c2 m
 refine vs (fN m (σ:=Bool) (λs=> [(some k2,.obj 38 (aY p0))]) (λs=>.c 2 (.sc (.bool s)) .nil) (λx m=> ?_) ?_)
 refine v (vl 0 (.agg (bL p0.Id)) fW rfl rfl rfl (bU (F8 (bL jW) (show yA Tryz.prog 36=some (List.replicate 32 (.int .u8 0),(List.range 32).map λi=>(i,1)) from by kernel_rfl) rfl) (bU (vX EI RK u5 EH rfl rfl) ?_)))
 apply vi m <;> intro b4 m
 rw[b4]
 exact vl 0 _ cF rfl rfl rfl (iX m)
 rw[b4]
 exact iX m
 rintro _ j2 m
 refine v ?_
 obtain rfl:=eT m
 exact eD rfl
 refine v (vs (fN m (σ:=Bool) (λs=> [(some k2,.obj 38 (aY p0))]) (λs=>.c 2 (.sc (.bool s)) .nil) (λx m=> ?_) ?_))
 refine v (vl 0 _ cF rfl rfl rfl ?_)
 apply vi m <;> intro b5 m
 rw[b5]
 exact vl 0 (.agg (bL p0.Id)) fW rfl rfl rfl (bU (F8 (bL jW) (show yA Tryz.prog 36=some (List.replicate 32 (.int .u8 0),(List.range 32).map λi=>(i,1)) from by kernel_rfl) rfl) (bU (vX EI RK u5 EH rfl rfl) (iX m)))
 rw[b5]
 exact iX m
 rintro _ j3 m
 refine v ?_
 obtain rfl:=eT m
 exact eD rfl
theorem aBF:aO Tryz.prog 163=true:=by kernel_rfl
def VB (m:Nat) (p0:aS):Option (Bool):=
 (VA m p0).bind λy6=>some (!y6)
theorem aGU {u:Nat} {p0:aS} {o:Bool} (h:aE) (m:VB u p0=some o):
 aL Tryz.prog 162 [.agg (aY p0)] h (λr h'=>r= .sc (.bool o)∧h'=h):=by
 refine f8 6 [.tmp 2] Tryz.func162 rfl rfl rfl rfl ?_
 unfold VB at m
 refine v (gY rfl rfl λk2 K3=>v (vl 0 (.agg (aY p0)) GK rfl rfl rfl (vk aGT aBF m rfl rfl λ_ m=>v ?_)))
 cases m
 exact eD rfl
theorem aBG:aO Tryz.prog 162=true:=by kernel_rfl
def VE (m:Nat) (p0:aR):Option (Bool):=
 after (if (p0.Snap.Seq==0)=true then (if (p0.Snap.Man.Name.toList==(ByteArray.mk #[]).toList)=true then (some (.brk ((IntKind.wrap .i64 ((p0.Snap.Man.Parts.length:Int)+(p0.Snap.Locs.length:Int)))==0))) else some (.brk false)) else some (.brk false):Option (Lp (Bool) (Bool))) λj8=>if (p0.Kind==1)=true then (after (if (p0.Seq==0)=true then (if (p0.Vol==0)=true then (some (.brk ((p0.Items.length:Int)==0))) else some (.brk false)) else some (.brk false):Option (Lp (Bool) (Bool))) λj0=>some j0) else if (p0.Kind==2)=true then (after (if j8=true then (if ((p0.Chunks.length:Int)==0)=true then (if (p0.Vol==0)=true then (some (.brk ((p0.Items.length:Int)==0))) else some (.brk false)) else some (.brk false)) else some (.brk false):Option (Lp (Bool) (Bool))) λj1=>some j1) else if (p0.Kind==3)=true then (after (if j8=true then (if ((p0.Chunks.length:Int)==0)=true then (some (.brk (p0.Seq==0))) else some (.brk false)) else some (.brk false):Option (Lp (Bool) (Bool))) λj2=>some j2) else after (if j8=true then (if ((p0.Chunks.length:Int)==0)=true then (if (p0.Seq==0)=true then (some (.brk ((p0.Items.length:Int)==0))) else some (.brk false)) else some (.brk false)) else some (.brk false):Option (Lp (Bool) (Bool))) λj3=>some j3
theorem aGV {u:Nat} {p0:aR} {o:Bool} (h:aE) (m:VE u p0=some o):
 aL Tryz.prog 158 [.agg (aD p0)] h (λr h'=>r= .sc (.bool o)∧h'=h):=by
 refine f8 98 [.tmp 2] Tryz.func158 rfl rfl rfl rfl ?_
 unfold VE at m
 refine v (gY rfl rfl λk2 K3=>vs (fN m (σ:=Bool) (λs=> [(some k2,.obj 62 (aD p0))]) (λs=>.c 1 (.ptr k2 0) (.c 3 (.sc (.bool s)) .nil)) (λx m=> ?_) ?_))
 refine v (vl 0 _ cF rfl rfl rfl ?_)
 apply vi m <;> intro b9 m
 rw[b9]
 refine vl 0 _ zU rfl rfl rfl (bU (BT rfl rfl rfl trivial) ?_)
 apply vi m <;> intro b0 m
 rw[b0]
 exact vl 0 _ nF rfl rfl rfl (dE uX rfl (vl 0 _ eL rfl rfl rfl (dE gO rfl (rH m))))
 rw[b0]
 exact rH m
 rw[b9]
 exact rH m
 rintro _ j8 m
 refine v (vl 0 _ cF rfl rfl rfl (v (v (v ?_))))
 apply vi m <;> intro c0 m
 refine vs (fN m (σ:=Bool) (λs=> [(some k2,.obj 62 (aD p0))]) (λs=>.c 2 (.sc (.bool s)) .nil) (λx m=> ?_) ?_)
 refine v (vl 0 _ cF rfl rfl rfl ?_)
 apply vi m <;> intro b1 m
 rw[b1]
 refine vl 0 _ cF rfl rfl rfl ?_
 apply vi m <;> intro b2 m
 rw[b2]
 exact vl 0 _ lC rfl rfl rfl (dE pI rfl (iX m))
 rw[b2]
 exact iX m
 rw[b1]
 exact iX m
 rintro _ j0 m
 refine v ?_
 obtain rfl:=eT m
 exact eD rfl
 refine v (v ?_)
 apply vi m <;> intro c1 m
 refine vs (fN m (σ:=Bool) (λs=> [(some k2,.obj 62 (aD p0))]) (λs=>.c 2 (.sc (.bool s)) .nil) (λx m=> ?_) ?_)
 refine v ?_
 apply vi m <;> intro b3 m
 rw[b3]
 refine vl 0 _ eJ rfl rfl rfl (dE iG rfl ?_)
 apply vi m <;> intro b4 m
 rw[b4]
 refine vl 0 _ cF rfl rfl rfl ?_
 apply vi m <;> intro b5 m
 rw[b5]
 exact vl 0 _ lC rfl rfl rfl (dE pI rfl (iX m))
 rw[b5]
 exact iX m
 rw[b4]
 exact iX m
 rw[b3]
 exact iX m
 rintro _ j1 m
 refine v ?_
 obtain rfl:=eT m
 exact eD rfl
 refine v (v ?_)
 apply vi m <;> intro c2 m
 refine vs (fN m (σ:=Bool) (λs=> [(some k2,.obj 62 (aD p0))]) (λs=>.c 2 (.sc (.bool s)) .nil) (λx m=> ?_) ?_)
 refine v ?_
 apply vi m <;> intro b6 m
 rw[b6]
 refine vl 0 _ eJ rfl rfl rfl (dE iG rfl ?_)
 apply vi m <;> intro b7 m
 rw[b7]
 exact vl 0 _ cF rfl rfl rfl (iX m)
 rw[b7]
 exact iX m
 rw[b6]
 exact iX m
 rintro _ j2 m
 refine v ?_
 obtain rfl:=eT m
 exact eD rfl
 refine v (vs (fN m (σ:=Bool) (λs=> [(some k2,.obj 62 (aD p0))]) (λs=>.c 2 (.sc (.bool s)) .nil) (λx m=> ?_) ?_))
 refine v ?_
 apply vi m <;> intro b8 m
 rw[b8]
 refine vl 0 _ eJ rfl rfl rfl (dE iG rfl ?_)
 apply vi m <;> intro b49 m
 rw[b49]
 refine vl 0 _ cF rfl rfl rfl ?_
 apply vi m <;> intro b50 m
 rw[b50]
 exact vl 0 _ lC rfl rfl rfl (dE pI rfl (iX m))
 rw[b50]
 exact iX m
 rw[b49]
 exact iX m
 rw[b8]
 exact iX m
 rintro _ j3 m
 refine v ?_
 obtain rfl:=eT m
 exact eD rfl
theorem aBH:aO Tryz.prog 158=true:=by kernel_rfl
def VF (m:Nat) (p0:aB):Option (Bool):=
 some (decide (255 < (p0.Data.length:Int)))
theorem aGW {u:Nat} {p0:aB} {o:Bool} (h:aE) (m:VF u p0=some o):
 aL Tryz.prog 160 [.agg (aI p0)] h (λr h'=>r= .sc (.bool o)∧h'=h):=by
 refine f8 7 [.tmp 2] Tryz.func160 rfl rfl rfl rfl ?_
 unfold VF at m
 refine v (gY rfl rfl λk2 K3=>v (vl 0 _ kA rfl rfl rfl (dE kK rfl (v ?_))))
 cases m
 exact eD rfl
theorem aBI:aO Tryz.prog 160=true:=by kernel_rfl
def M94 (m:Nat) (p0:aR):Option (Bool):=
 (VE m p0).bind λy7=>if (!y7)=true then (some false) else if (p0.Kind==1)=true then ((QJ m p0.Chunks (λx0=>VF m x0)).bind λy0=>after ((AI m p0.Snap.Seq 4294967295).bind λy1=>if y1=true then (if ((p0.Snap.Locs.length:Int)==0)=true then ((EK m p0.Snap.Man).bind λy2=>if (y2==0)=true then (if (decide ((p0.Chunks.length:Int)≤65535))=true then ((QL m p0.Chunks).bind λy3=>if y3=true then (some (.brk (!y0))) else some (.brk false)) else some (.brk false)) else some (.brk false)) else some (.brk false)) else some (.brk false):Option (Lp (Bool) (Bool))) λj0=>some j0) else if (p0.Kind==2)=true then ((AI m p0.Seq 4294967295).bind λy4=>some y4) else if (p0.Kind==3)=true then (after ((AI m p0.Vol 255).bind λy5=>if y5=true then (if (decide ((p0.Items.length:Int)≤255))=true then ((J8 m p0.Items (λx0=>VB m x0)).bind λy6=>some (.brk (!y6))) else some (.brk false)) else some (.brk false):Option (Lp (Bool) (Bool))) λj1=>some j1) else after (if (p0.Kind==4)=true then (some (.brk (p0.Kind==4))) else some (.brk (p0.Kind==5)):Option (Lp (Bool) (Bool))) λj2=>if j2=true then ((AI m p0.Vol 255).bind λy8=>some y8) else some false
theorem W94 {u:Nat} {p0:aR} {o:Bool} (h:aE) (m:M94 u p0=some o):
 aL Tryz.prog 94 [.agg (aD p0)] h (λr h'=>r= .sc (.bool o)∧h'=h):=by
 refine f8 75 [.tmp 2] Tryz.func94 rfl rfl rfl rfl ?_
 unfold M94 at m
 refine v (gY rfl rfl λk2 K3=>v (vl 0 (.agg (aD p0)) pK rfl rfl rfl (vk aGV aBH m rfl rfl λ_ m=>v ?_)))
 apply vi m <;> intro c9 m
 refine v (v ?_)
 obtain rfl:=eT m
 exact eD rfl
 refine v (v (vl 0 _ cF rfl rfl rfl (v (v (v ?_)))))
 apply vi m <;> intro c0 m
 refine v (vl 0 _ eJ rfl rfl rfl ?_)
 obtain⟨_,Y0,m⟩:=aC m
 refine bU (bY (aAF _ aBI (λx0 o h0 hs ho=>aGW _ ho) Y0) rfl SB rfl) (vs (fN m (σ:=Bool) (λs=> [(some k2,.obj 62 (aD p0))]) (λs=>.c 2 (.sc (.bool s)) .nil) (λx m=> ?_) ?_))
 refine v (vl 0 _ cF rfl rfl rfl (vk FF v9 m rfl rfl λ_ m=> ?_))
 apply vi m <;> intro b0 m
 rw[b0]
 refine vl 0 _ eL rfl rfl rfl (dE gO rfl ?_)
 apply vi m <;> intro b1 m
 rw[b1]
 refine vl 0 (.agg (bK p0.Snap.Man)) nU rfl rfl rfl (vk PZ H9 m rfl rfl λ_ m=> ?_)
 apply vi m <;> intro b2 m
 rw[b2]
 refine vl 0 _ eJ rfl rfl rfl (dE iG rfl ?_)
 apply vi m <;> intro b3 m
 rw[b3]
 refine vl 0 _ eJ rfl rfl rfl (vk aAG SC m rfl rfl λ_ m=> ?_)
 apply vi m <;> intro b4 m
 rw[b4]
 exact iX m
 rw[b4]
 exact iX m
 rw[b3]
 exact iX m
 rw[b2]
 exact iX m
 rw[b1]
 exact iX m
 rw[b0]
 exact iX m
 rintro _ j0 m
 refine v ?_
 obtain rfl:=eT m
 exact eD rfl
 refine v (v ?_)
 apply vi m <;> intro c1 m
 refine v (vl 0 _ cF rfl rfl rfl (vk FF v9 m rfl rfl λ_ m=>v ?_))
 obtain rfl:=eT m
 exact eD rfl
 refine v (v ?_)
 apply vi m <;> intro c2 m
 refine vs (fN m (σ:=Bool) (λs=> [(some k2,.obj 62 (aD p0))]) (λs=>.c 2 (.sc (.bool s)) .nil) (λx m=> ?_) ?_)
 refine v (vl 0 _ cF rfl rfl rfl (vk FF v9 m rfl rfl λ_ m=> ?_))
 apply vi m <;> intro b5 m
 rw[b5]
 refine vl 0 _ lC rfl rfl rfl (dE pI rfl ?_)
 apply vi m <;> intro b6 m
 rw[b6]
 refine vl 0 _ lC rfl rfl rfl ?_
 obtain⟨_,Y1,m⟩:=aC m
 exact bU (bY (ZQ _ aBG (λx0 o h0 hs ho=>aGU _ ho) Y1) rfl R9 rfl) (iX m)
 rw[b6]
 exact iX m
 rw[b5]
 exact iX m
 rintro _ j1 m
 refine v ?_
 obtain rfl:=eT m
 exact eD rfl
 refine v (fN m (σ:=Bool) (λs=> [(some k2,.obj 62 (aD p0))]) (λs=>.c 1 (.ptr k2 0) (.c 69 (.sc (.bool s)) .nil)) (λx m=> ?_) ?_)
 refine v ?_
 apply vi m <;> intro c3 m
 exact v (rH m)
 exact v (rH m)
 rintro _ j2 m
 refine v ?_
 apply vi m <;> intro c4 m
 refine v (vl 0 _ cF rfl rfl rfl (vk FF v9 m rfl rfl λ_ m=>v ?_))
 obtain rfl:=eT m
 exact eD rfl
 refine v (v (v ?_))
 obtain rfl:=eT m
 exact eD rfl
theorem aGY:aO Tryz.prog 94=true:=by kernel_rfl
def HQ (m:Nat) (p0:aR) (q0:List Int) (q1:Int):Option (Lp ((List Int)×Int) (Lp ((List Int)) ((List Int)×Int))):=
 if (decide (q1 < (p0.Chunks.length:Int)))=true then ((ix p0.Chunks q1).bind λx0=>(app q0 x0.Id.1).bind λz0=>(zO m z0 (x0.Data.length:Int) 1).bind λy0=>(app y0 x0.Data).bind λz1=>some (.go (z1,IntKind.wrap .i64 (q1+1)))) else some (.brk (q0,q1))
def HR (m:Nat) (p0:aR) (q0:List Int) (q1:Int):Option (Lp ((List Int)×Int) (Lp ((List Int)) (Lp ((List Int)) (Lp ((List Int)) ((List Int)×Int))))):=
 if (decide (q1 < (p0.Items.length:Int)))=true then ((ix p0.Items q1).bind λx0=>(app q0 ([IntKind.wrap .u8 x0.Kind]:List Int)).bind λz0=>(app z0 x0.Id.1).bind λz1=>(zO m z1 x0.Seq 4).bind λy0=>(zO m y0 x0.Of 4).bind λy1=>(zO m y1 x0.Off 3).bind λy2=>(zO m y2 x0.Len 2).bind λy3=>some (.go (y3,IntKind.wrap .i64 (q1+1)))) else some (.brk (q0,q1))
def M40 (m:Nat) (p0:aR):Option ((List Int)×Int):=
 (M94 m p0).bind λy7=>if (!y7)=true then (some ([],1)) else after (if (p0.Kind==1)=true then ((M42 m p0.Snap.Man).bind λy0=>(zO m ([IntKind.wrap .u8 p0.Kind]:List Int) p0.Snap.Seq 4).bind λy1=>(zO m y1 (y0.1.length:Int) 4).bind λy2=>(app y2 y0.1).bind λz0=>(zO m z0 (p0.Chunks.length:Int) 2).bind λy3=>after (aU (λs=>HQ m p0 s.1 s.2) m (y3,0)) λ⟨r0,r1⟩=>some (.brk r0)) else after (if (p0.Kind==2)=true then ((zO m ([IntKind.wrap .u8 p0.Kind]:List Int) p0.Seq 4).bind λy4=>some (.brk y4)) else after (if (p0.Kind==3)=true then ((app ([IntKind.wrap .u8 p0.Kind]:List Int) ([IntKind.wrap .u8 p0.Vol,IntKind.wrap .u8 (p0.Items.length:Int)]:List Int)).bind λz1=>after (aU (λs=>HR m p0 s.1 s.2) m (z1,0)) λ⟨r2,r3⟩=>some (.brk r2)) else (app ([IntKind.wrap .u8 p0.Kind]:List Int) ([IntKind.wrap .u8 p0.Vol]:List Int)).bind λz2=>some (.brk z2):Option (Lp ((List Int)) (Lp ((List Int)) (Lp ((List Int)) ((List Int)×Int))))) λj0=>some (.brk j0):Option (Lp ((List Int)) (Lp ((List Int)) ((List Int)×Int)))) λj1=>some (.brk j1):Option (Lp ((List Int)) ((List Int)×Int))) λj2=>(TV m j2).bind λy5=>some (y5,0)
theorem W40 {w:Nat} {p0:aR} {o:(List Int)×Int} (h:aE) (m:M40 w p0=some o):
 aL Tryz.prog 40 [.agg (aD p0)] h (λr h'=>r= .tup [.sl none 1 (List.map dF o.1),nZ o.2]∧h'=h):=by
 refine f8 120 [.tmp 2,.tmp 3] Tryz.func40 rfl rfl rfl rfl ?_
 unfold M40 at m
 refine v (gY rfl rfl λk2 K3=>v (vl 0 (.agg (aD p0)) pK rfl rfl rfl (vk W94 aGY m rfl rfl λ_ m=>v ?_)))
 apply vi m <;> intro c9 m
 refine v (v ?_)
 cases m
 exact vr λu=>dW.of2 (.inl rfl) (fT _ _ (.sc (.slice _ _ _)) rfl) (fT _ _ (.sc (.int _ _)) rfl) (aT (List.nil_sublist _) u).1 (aX _) (bF.refl _ _) ⟨rfl,rfl⟩
 refine v (v (vl 0 _ cF rfl rfl rfl (ve λu=>F0 (c:=dF) ([IntKind.wrap .u8 p0.Kind]:List Int) u jH rfl rfl rfl rfl λtg0 t0 K0=>qk K0 rfl (v (vl 1 _ cF rfl rfl rfl (v (v (pO m (σ:=(List Int)) (τ:=Option cB) (λg s=> [(g,.tok 5 1 ((s:List Int).length*1)),(some k2,.obj 62 (aD p0))]) (λg s=>(g=none→s= [])) (λg s=>.c 4 (ow g 1 (List.map dF s)) .nil) (λx m=> ?_) ?_))))))))
 refine v ?_
 apply vi m <;> intro c0 m
 refine v (vl 1 (.agg (bK p0.Snap.Man)) nU rfl rfl rfl (vk W42 aDQ m rfl rfl λ_ m=>v (vl 1 _ cF rfl rfl rfl ?_)))
 obtain⟨y0,Y0,m⟩:=aC m
 refine ve λu=> ?_
 have ho0:=mD (A:= [(tg0,.tok 5 1 ((([IntKind.wrap .u8 p0.Kind]:List Int):List Int).length*1))]) (R:= [(some k2,.obj 62 (aD p0))]) u [[_], [_]] rfl [0] [1] rfl rfl rfl
 refine dB ho0.1 (cK (DM _ t0 ho0.2.2 Y0) rfl DN rfl ?_)
 rintro x h' ⟨tg1,t1,K1,rfl,rfl⟩
 have K2:=mE (L':= [(tg1,.tok 5 1 ((y0:List Int).length*1)),(some k2,.obj 62 (aD p0))]) ho0.2.1 K1 [[_]] [[_]] rfl rfl [0,1] rfl rfl
 refine qk K2.2 K2.1 (dE kK rfl ?_)
 obtain⟨y1,Y1,m⟩:=aC m
 refine ve λu=> ?_
 have ho1:=mD (A:= [(tg1,.tok 5 1 ((y0:List Int).length*1))]) (R:= [(some k2,.obj 62 (aD p0))]) u [[_], [_]] rfl [0] [1] rfl rfl rfl
 refine dB ho1.1 (cK (DM _ t1 ho1.2.2 Y1) rfl DN rfl ?_)
 rintro x h' ⟨tg2,t2,K4,rfl,rfl⟩
 have K5:=mE (L':= [(tg2,.tok 5 1 ((y1:List Int).length*1)),(some k2,.obj 62 (aD p0))]) ho1.2.1 K4 [[_]] [[_]] rfl rfl [0,1] rfl rfl
 refine qk K5.2 K5.1 ?_
 obtain⟨z0,Z0,m⟩:=aC m
 refine ve λu=>fF (c:=dF) 0 Z0 jH rfl rfl rfl t2 u rfl λtg3 t3 K6=>qk K6 rfl (v (vl 1 _ eJ rfl rfl rfl (dE iG rfl ?_)))
 obtain⟨y2,Y2,m⟩:=aC m
 refine ve λu=> ?_
 have ho2:=mD (A:= [(tg3,.tok 5 1 ((z0:List Int).length*1))]) (R:= [(some k2,.obj 62 (aD p0))]) u [[_], [_]] rfl [0] [1] rfl rfl rfl
 refine dB ho2.1 (cK (DM _ t3 ho2.2.2 Y2) rfl DN rfl ?_)
 rintro x h' ⟨tg4,t4,K7,rfl,rfl⟩
 have K8:=mE (L':= [(tg4,.tok 5 1 ((y2:List Int).length*1)),(some k2,.obj 62 (aD p0))]) ho2.2.1 K7 [[_]] [[_]] rfl rfl [0,1] rfl rfl
 refine qk K8.2 K8.1 (v (vl 1 _ eJ rfl rfl rfl (dE iG rfl (nR m (σ:=(List Int)×Int) (τ:=Option cB) (λg s=> [(g,.tok 5 1 ((s.1:List Int).length*1)),(some k2,.obj 62 (aD p0))]) (λg s=>(g=none→s.1= [])) (λg s=>.c 4 (ow g 1 (List.map dF s.1)) (.c 51 (.sl none 35 (List.map aI p0.Chunks)) (.c 52 (nZ (p0.Chunks.length:Int)) (.c 53 (nZ s.2) .nil)))) tg4 t4 (lx (.k4 .nil)) ?_ ?_))))
 rintro tg5 ⟨q0,q1⟩ x t5 m
 replace m:HQ w p0 q0 q1=some x:=m
 unfold HQ at m
 refine v (v ?_)
 apply vi m <;> intro c1 m
 refine v (v (v (vx m fH rfl rfl λx0 _ m=>va (.agg (aI x0)) kQ rfl rfl (ve λu=>bJ (bL jW++(FN:List AV)) u l6 rfl rfl λk1507 K9=>qk K9 rfl (ve λu=>aK 0 (aI x0) u rfl rfl rfl rfl rI rfl rfl λK10=>qk K10 rfl (v (bU (D9 sL rfl) ?_)))))))
 obtain⟨z1,Z1,m⟩:=aC m
 refine ve λu=>fF (c:=dF) 1 Z1 jH rfl rfl rfl t5 u (xV (bB 0 u rfl) rfl rfl) λtg6 t6 K11=>qk K11 rfl (v (vz [(1000000,some k1507,.obj 44 (aI x0))] mixed (λu=>⟨λ_=>aJ 0 u rfl,trivial⟩) λu=>zC 0 rfl (eY (ow _ _ _) rfl) (zF 1 rfl jS rfl (zL 2 0 (.sl none 1 (List.map dF x0.Data)) rfl kA rfl rfl rfl (zC 3 rfl (uP kK rfl) (zF 5 rfl jS rfl (zL 6 0 (.sl none 1 (List.map dF x0.Data)) rfl kA rfl rfl rfl ?_)))))))
 obtain⟨y3,Y3,m⟩:=aC m
 refine zE 4 rfl ?_
 have ho3:=mD (A:= [(tg6,.tok 5 1 ((z1:List Int).length*1))]) (R:= [(some k1507,.obj 44 (aI x0)),(some k2,.obj 62 (aD p0))]) u [[_], [_], [_]] rfl [1] [0,2] rfl rfl rfl
 refine dB ho3.1 (cK (DM _ t6 ho3.2.2 Y3) rfl DN rfl ?_)
 rintro x h' ⟨tg7,t7,K12,rfl,rfl⟩
 have K13:=mE (L':= [(some k1507,.obj 44 (aI x0)),(tg7,.tok 5 1 ((y3:List Int).length*1)),(some k2,.obj 62 (aD p0))]) ho3.2.1 K12 [[_]] [[_], [_]] rfl rfl [1,0,2] rfl rfl
 refine kW K13.1 (⟨⟨λ_=>aJ 0 K13.2 rfl,trivial⟩, ?_⟩)
 obtain⟨z2,Z2,m⟩:=aC m
 refine zE 7 rfl (fF (c:=dF) 1 Z2 jH rfl rfl rfl t7 K13.2 rfl λtg8 t8 K15=>⟨⟨λ_=>aJ 0 K15 rfl,trivial⟩, ?_⟩)
 exact zC 8 rfl (iC (ow _ _ _) rfl) (zX (qk (f:=.c 4 _ (.c 68 _ (.c 65 _ (.c 67 _ (.c 66 _ (PN 64 _ _ _ _ _)))))) K15 rfl (v (eW m tg8 t8 (lW [1,2] rfl rfl (.k4 .nil))))))
 exact v (lM m tg5 t5 (lx (.k4 .nil)))
 rintro tg9 ⟨r0,r1⟩ t9 m
 exact eW m tg9 t9 (lx (.cons (bF.refl _ _) .nil))
 refine v (pO m (σ:=(List Int)) (τ:=Option cB) (λg s=> [(g,.tok 5 1 ((s:List Int).length*1)),(some k2,.obj 62 (aD p0))]) (λg s=>(g=none→s= [])) (λg s=>.c 4 (ow g 1 (List.map dF s)) .nil) (λx m=> ?_) ?_)
 refine v ?_
 apply vi m <;> intro c2 m
 refine v (vl 1 _ cF rfl rfl rfl ?_)
 obtain⟨y4,Y4,m⟩:=aC m
 refine ve λu=> ?_
 have ho4:=mD (A:= [(tg0,.tok 5 1 ((([IntKind.wrap .u8 p0.Kind]:List Int):List Int).length*1))]) (R:= [(some k2,.obj 62 (aD p0))]) u [[_], [_]] rfl [0] [1] rfl rfl rfl
 refine dB ho4.1 (cK (DM _ t0 ho4.2.2 Y4) rfl DN rfl ?_)
 rintro x h' ⟨tg10,t10,K16,rfl,rfl⟩
 have K17:=mE (L':= [(tg10,.tok 5 1 ((y4:List Int).length*1)),(some k2,.obj 62 (aD p0))]) ho4.2.1 K16 [[_]] [[_]] rfl rfl [0,1] rfl rfl
 exact qk K17.2 K17.1 (eW m tg10 t10 (lx (.cons (bF.refl _ _) .nil)))
 refine v (pO m (σ:=(List Int)) (τ:=Option cB) (λg s=> [(g,.tok 5 1 ((s:List Int).length*1)),(some k2,.obj 62 (aD p0))]) (λg s=>(g=none→s= [])) (λg s=>.c 4 (ow g 1 (List.map dF s)) .nil) (λx m=> ?_) ?_)
 refine v ?_
 apply vi m <;> intro c3 m
 refine v (vl 1 _ cF rfl rfl rfl (vl 1 _ lC rfl rfl rfl (dE pI rfl (bU (eK (List.map dF ([IntKind.wrap .u8 p0.Vol,IntKind.wrap .u8 (p0.Items.length:Int)]:List Int)) jH rfl rfl rfl rfl) ?_))))
 obtain⟨z3,Z3,m⟩:=aC m
 refine ve λu=>fF (c:=dF) 0 Z3 jH rfl rfl rfl t0 u rfl λtg11 t11 K18=>qk K18 rfl (v (vl 1 _ lC rfl rfl rfl (dE pI rfl (nR m (σ:=(List Int)×Int) (τ:=Option cB) (λg s=> [(g,.tok 5 1 ((s.1:List Int).length*1)),(some k2,.obj 62 (aD p0))]) (λg s=>(g=none→s.1= [])) (λg s=>.c 4 (ow g 1 (List.map dF s.1)) (.c 89 (.sl none 37 (List.map aY p0.Items)) (.c 90 (nZ (p0.Items.length:Int)) (.c 91 (nZ s.2) .nil)))) tg11 t11 (lx (.k4 .nil)) ?_ ?_))))
 rintro tg13 ⟨q2,q3⟩ x t12 m
 replace m:HR w p0 q2 q3=some x:=m
 unfold HR at m
 refine v (v ?_)
 apply vi m <;> intro c4 m
 refine v (v (v (vx m wO rfl rfl λx1 _ m=>va (.agg (aY x1)) GK rfl rfl (ve λu=>bJ (([nZ 0]:List AV)++bL jW++(OQ:List AV)) u TD rfl rfl λk2640 K19=>qk K19 rfl (ve λu=>aK 0 (aY x1) u rfl rfl rfl rfl TB rfl rfl λK20=>qk K20 rfl (v (vz [(1000000,some k2640,.obj 38 (aY x1))] mixed (λu=>⟨λ_=>aJ 0 u rfl,trivial⟩) λu=>zC 0 rfl (eY (ow _ _ _) rfl) (zF 1 rfl l4 rfl (zL 2 0 (nZ x1.Kind) rfl cF rfl rfl rfl (zC 3 rfl (JK W1 ti5 rfl) (zC 4 rfl (eK (List.map dF ([IntKind.wrap .u8 x1.Kind]:List Int)) jH rfl rfl rfl rfl) (zF 6 rfl uV rfl (zC 7 rfl (D9 sL rfl) ?_)))))))))))))
 obtain⟨z4,Z4,m⟩:=aC m
 refine zE 5 rfl (fF (c:=dF) 1 Z4 jH rfl rfl rfl t12 u rfl λtg14 t14 K21=>⟨⟨λ_=>aJ 0 K21 rfl,trivial⟩, ?_⟩)
 obtain⟨z5,Z5,m⟩:=aC m
 refine zE 8 rfl (fF (c:=dF) 1 Z5 jH rfl rfl rfl t14 K21 (xV (bB 0 K21 rfl) rfl rfl) λtg15 t15 K22=>⟨⟨λ_=>aJ 0 K22 rfl,trivial⟩, ?_⟩)
 refine zC 9 rfl (iC (ow _ _ _) rfl) (zX (qk (f:=.c 4 _ (.c 103 _ (.c 100 _ (.c 102 _ (.c 101 _ (fq5 99 _ _ _ _ _ _)))))) K22 rfl (v (vz [(1000000,some k2640,.obj 38 (aY x1))] mixed (λu=>⟨λ_=>aJ 0 u rfl,trivial⟩) λu=>zC 0 rfl (eY (ow _ _ _) rfl) (zF 1 rfl lD rfl (zL 2 0 (nZ x1.Seq) rfl cF rfl rfl rfl (zF 4 rfl uW rfl (zL 5 0 (nZ x1.Of) rfl cF rfl rfl rfl (zF 7 rfl GL rfl (zL 8 0 (nZ x1.Off) rfl cF rfl rfl rfl (zF 10 rfl GM rfl (zL 11 0 (nZ x1.Len) rfl cF rfl rfl rfl ?_))))))))))))
 obtain⟨y5,Y5,m⟩:=aC m
 refine zE 3 rfl ?_
 have ho5:=mD (A:= [(tg15,.tok 5 1 ((z5:List Int).length*1))]) (R:= [(some k2640,.obj 38 (aY x1)),(some k2,.obj 62 (aD p0))]) u [[_], [_], [_]] rfl [1] [0,2] rfl rfl rfl
 refine dB ho5.1 (cK (DM _ t15 ho5.2.2 Y5) rfl DN rfl ?_)
 rintro x h' ⟨tg16,t16,K23,rfl,rfl⟩
 have K24:=mE (L':= [(some k2640,.obj 38 (aY x1)),(tg16,.tok 5 1 ((y5:List Int).length*1)),(some k2,.obj 62 (aD p0))]) ho5.2.1 K23 [[_]] [[_], [_]] rfl rfl [1,0,2] rfl rfl
 refine kW K24.1 (⟨⟨λ_=>aJ 0 K24.2 rfl,trivial⟩, ?_⟩)
 obtain⟨y6,Y6,m⟩:=aC m
 refine zE 6 rfl ?_
 have ho6:=mD (A:= [(tg16,.tok 5 1 ((y5:List Int).length*1))]) (R:= [(some k2640,.obj 38 (aY x1)),(some k2,.obj 62 (aD p0))]) K24.2 [[_], [_], [_]] rfl [1] [0,2] rfl rfl rfl
 refine dB ho6.1 (cK (DM _ t16 ho6.2.2 Y6) rfl DN rfl ?_)
 rintro x h' ⟨tg17,t17,K25,rfl,rfl⟩
 have K26:=mE (L':= [(some k2640,.obj 38 (aY x1)),(tg17,.tok 5 1 ((y6:List Int).length*1)),(some k2,.obj 62 (aD p0))]) ho6.2.1 K25 [[_]] [[_], [_]] rfl rfl [1,0,2] rfl rfl
 refine kW K26.1 (⟨⟨λ_=>aJ 0 K26.2 rfl,trivial⟩, ?_⟩)
 obtain⟨y7,Y7,m⟩:=aC m
 refine zE 9 rfl ?_
 have ho7:=mD (A:= [(tg17,.tok 5 1 ((y6:List Int).length*1))]) (R:= [(some k2640,.obj 38 (aY x1)),(some k2,.obj 62 (aD p0))]) K26.2 [[_], [_], [_]] rfl [1] [0,2] rfl rfl rfl
 refine dB ho7.1 (cK (DM _ t17 ho7.2.2 Y7) rfl DN rfl ?_)
 rintro x h' ⟨tg18,t18,K27,rfl,rfl⟩
 have K28:=mE (L':= [(some k2640,.obj 38 (aY x1)),(tg18,.tok 5 1 ((y7:List Int).length*1)),(some k2,.obj 62 (aD p0))]) ho7.2.1 K27 [[_]] [[_], [_]] rfl rfl [1,0,2] rfl rfl
 refine kW K28.1 (⟨⟨λ_=>aJ 0 K28.2 rfl,trivial⟩, ?_⟩)
 obtain⟨y8,Y8,m⟩:=aC m
 refine zE 12 rfl ?_
 have ho8:=mD (A:= [(tg18,.tok 5 1 ((y7:List Int).length*1))]) (R:= [(some k2640,.obj 38 (aY x1)),(some k2,.obj 62 (aD p0))]) K28.2 [[_], [_], [_]] rfl [1] [0,2] rfl rfl rfl
 refine dB ho8.1 (cK (DM _ t18 ho8.2.2 Y8) rfl DN rfl ?_)
 rintro x h' ⟨tg19,t19,K29,rfl,rfl⟩
 have K30:=mE (L':= [(some k2640,.obj 38 (aY x1)),(tg19,.tok 5 1 ((y8:List Int).length*1)),(some k2,.obj 62 (aD p0))]) ho8.2.1 K29 [[_]] [[_], [_]] rfl rfl [1,0,2] rfl rfl
 refine kW K30.1 (⟨⟨λ_=>aJ 0 K30.2 rfl,trivial⟩, ?_⟩)
 exact zC 13 rfl (iC (ow _ _ _) rfl) (zX (qk (f:=.c 4 _ (.c 116 _ (.c 113 _ (.c 110 _ (.c 107 _ (.c 115 _ (.c 114 _ (.c 112 _ (.c 111 _ (.c 109 _ (.c 108 _ (.c 106 _ (.c 105 _ (.c 104 _ _)))))))))))))) K30.2 rfl (v (eW m tg19 t19 (lW [1,2] rfl rfl (.k4 .nil))))))
 exact v (lM m tg13 t12 (lx (.k4 .nil)))
 rintro tg20 ⟨r2,r3⟩ t20 m
 exact eW m tg20 t20 (lx (.cons (bF.refl _ _) .nil))
 refine v (vl 1 _ cF rfl rfl rfl (bU (eK (List.map dF ([IntKind.wrap .u8 p0.Vol]:List Int)) jH rfl rfl rfl rfl) ?_))
 obtain⟨z6,Z6,m⟩:=aC m
 exact ve λu=>fF (c:=dF) 0 Z6 jH rfl rfl rfl t0 u rfl λtg21 t21 K31=>qk K31 rfl (eW m tg21 t21 (lx (.cons (bF.refl _ _) .nil)))
 rintro tg22 j0 t22 m
 exact eW m tg22 t22 (lx (.cons (bF.refl _ _) .nil))
 rintro tg23 j1 t23 m
 exact eW m tg23 t23 (lx (.cons (bF.refl _ _) .nil))
 rintro tg24 j2 t24 m
 refine v ?_
 obtain⟨_,Y9,m⟩:=aC m
 refine ve λu=>CE (t:=118) (.sl none 1 (List.map dF j2)) (aT (List.eraseIdx_sublist _ 0) u).1 (mZ _ 0 t24 u rfl (.refl _)) (cK (W96 _ Y9) rfl P1 rfl ?_)
 rintro x h' ⟨tg25,t25,K32,rfl,rfl⟩
 refine qk (bT.co ((aT (List.eraseIdx_sublist _ 0) u).2) K32) (iS _ _ _) (v ?_)
 cases m
 exact vr λu=>dW.of2 (.inl rfl) (fT _ _ (ow _ _ _) rfl) (fT _ _ (.sc (.int _ _)) rfl) (aT (List.nil_sublist _) u).1 ((eZ _ 0 t25 u rfl)) (bF.refl _ _) ⟨rfl,rfl⟩
theorem aG0:aO Tryz.prog 40=true:=by kernel_rfl
def M37 (m:Nat):Option (Bool):=
 (M32 m ([0]:List Int)).bind λy3=>(UX m y3.1 ({ Kind:=1,Snap:=({ Seq:=0,Man:=({ Name:=(ByteArray.mk #[97]),Parts:= []}:bG),Locs:= []}:aH),Chunks:= [],Seq:=0,Vol:=0,Items:= []}:aR)).bind λy0=>(M40 m ({ Kind:=1,Snap:=({ Seq:=0,Man:=({ Name:=(ByteArray.mk #[97]),Parts:= []}:bG),Locs:= []}:aH),Chunks:= [],Seq:=0,Vol:=0,Items:= []}:aR)).bind λy1=>after (if (y3.2==0)=true then (if (y0.2==0)=true then (if (y1.2==0)=true then (if ((y0.1.Snaps.length:Int)==1)=true then (if (y0.1.Seq==1)=true then (some (.brk ((y1.1.length:Int)==14))) else some (.brk false)) else some (.brk false)) else some (.brk false)) else some (.brk false)) else some (.brk false):Option (Lp (Bool) (Bool))) λj0=>some j0
theorem W37 {w:Nat} {o:Bool} (h:aE) (m:M37 w=some o):
 aL Tryz.prog 37 [] h (λr h'=>r= .sc (.bool o)∧h'=h):=by
 refine f8 53 [.tmp 0] Tryz.func37 rfl rfl rfl rfl ?_
 unfold M37 at m
 refine v (v (bU (eK (List.map iY ([0]:List Int)) PT rfl rfl rfl rfl) (vk W32 aEV m rfl rfl λy3 m=>ve λu=>bJ (hH) u pX rfl rfl λk5 K6=>qk K6 rfl (ve λu=>aK 0 (aF y3.1) u rfl rfl rfl rfl lZ rfl rfl λK8=>qk K8 rfl (v (bU (eS ([.sc (.string (ByteArray.mk #[97])),sZ]) PX rfl) (bU (eS ([nZ 0,.sc (.string (ByteArray.mk #[97])),sZ,sZ]) TF rfl) (bU (eS ([nZ 1,nZ 0,.sc (.string (ByteArray.mk #[97])),sZ,sZ,sZ,nZ 0,nZ 0,sZ]) z7 rfl) (ve λu=>bJ (xI) u LW rfl rfl λk10 K0=>qk K0 rfl (ve λu=>aK 0 ([nZ 1,nZ 0,.sc (.string (ByteArray.mk #[97])),sZ,sZ,sZ,nZ 0,nZ 0,sZ]) u rfl rfl rfl rfl wP rfl rfl λK1=>qk K1 rfl (v (vl 1 (.agg (aF y3.1)) fC rfl rfl rfl (vl 0 (.agg ([nZ 1,nZ 0,.sc (.string (ByteArray.mk #[97])),sZ,sZ,sZ,nZ 0,nZ 0,sZ])) pK rfl rfl rfl ?_)))))))))))))
 obtain⟨y0,Y0,m⟩:=aC m
 refine bU (bY (qJ (.cons (bF.refl _ _) (.cons (bF.agg (.k3 (.cons (aX _) (.cons (aX _) (.cons (aX _) (.k2 (.cons (aX _) .nil))))))) .nil)) (W29 _ Y0)) rfl aAP rfl) (ve λu=>bJ (hH) u pX rfl rfl λk17 K2=>qk K2 rfl (ve λu=>aK 0 (aF y0.1) u rfl rfl rfl rfl lZ rfl rfl λK3=>qk K3 rfl (v (vl 1 (.agg ([nZ 1,nZ 0,.sc (.string (ByteArray.mk #[97])),sZ,sZ,sZ,nZ 0,nZ 0,sZ])) pK rfl rfl rfl ?_))))
 obtain⟨_,Y1,m⟩:=aC m
 refine bU (bY (qJ (.cons (bF.agg (.k3 (.cons (aX _) (.cons (aX _) (.cons (aX _) (.k2 (.cons (aX _) .nil))))))) .nil) (W40 _ Y1)) rfl aG0 rfl) (vs (fN m (σ:=Bool) (λs=> [(some k17,.obj 30 (aF y0.1)),(some k10,.obj 62 ([nZ 1,nZ 0,.sc (.string (ByteArray.mk #[97])),sZ,sZ,sZ,nZ 0,nZ 0,sZ])),(some k5,.obj 30 (aF y3.1))]) (λs=>.c 0 (.sc (.bool s)) .nil) (λx m=> ?_) ?_))
 refine v ?_
 apply vi m <;> intro b0 m
 rw[b0]
 apply vi m <;> intro b1 m
 rw[b1]
 apply vi m <;> intro b2 m
 rw[b2]
 refine vl 0 _ fM rfl rfl rfl (dE jZ rfl ?_)
 apply vi m <;> intro b3 m
 rw[b3]
 refine vl 0 _ cF rfl rfl rfl ?_
 apply vi m <;> intro b4 m
 rw[b4]
 exact dE kK rfl (iX m)
 rw[b4]
 exact iX m
 rw[b3]
 exact iX m
 rw[b2]
 exact iX m
 rw[b1]
 exact iX m
 rw[b0]
 exact iX m
 rintro _ j0 m
 refine v ?_
 obtain rfl:=eT m
 exact eD rfl
theorem aBK:aO Tryz.prog 37=true:=by kernel_rfl
open Go.Vm
theorem Lk.filt {vs:List aP} {l:List a8} (h:Lk vs l) (q:a8→Bool):Lk vs (l.filter q):=
 ⟨Nat.le_trans (List.length_filter_le _ _) h.n,λx hx=>h.a x (List.mem_filter.1 hx).1,h.o.sublist (List.filter_sublist)⟩
theorem I2 {vs:List aP} {x:a8} {v:Nat} {z:aP} (h:tD vs x=true) (hv:x.Vol.toNat≠v):tD (vs.set v z) x=true:=by
 unfold tD at*
 rw[List.length_set,List.getElem?_set_ne (λe=>hv e.symm)]
 exact h
theorem DO {vs:List aP} {x:a8} (h:tD vs x=true):0≤x.Vol∧∃v,vs[x.Vol.toNat]? =some v∧v.State=2∧1≤x.File∧x.File≤v.Files:=by
 unfold tD at h
 simp only[Bool.and_eq_true,fR,decide_eq_true_eq] at h
 obtain⟨⟨⟨h1,h2⟩, -⟩, -⟩:=h
 refine⟨h1.1, ?_⟩
 cases e:vs[x.Vol.toNat]? with
 | none=>rw[e] at h2; cases h2
 | some v=>
  rw[e] at h2
  simp only[Bool.and_eq_true,beq_iff_eq,decide_eq_true_eq] at h2
  exact⟨v,rfl,h2.1,h2.2.1,h2.2.2⟩
theorem Lk.set {vs:List aP} {l:List a8} {v:Int} {z:aP} (h:Lk vs l) (h0:0≤v) (hv:∀x∈l,x.Vol≠v):Lk (vs.set v.toNat z) l:=
 ⟨h.n,λx hx=>I2 (h.a x hx) (by have:=(DO (h.a x hx)).1; have:=hv x hx; omega),h.o⟩
theorem Lk.lf {vs:List aP} {l:List a8} {v:Int} {z:aP} (h:Lk vs l) (h0:0≤v):Lk (vs.set v.toNat z) (lf v l):=
 Lk.set (h.filt _) h0 λx hx=>by
  have:=(List.mem_filter.1 hx).2
  simpa using this
theorem Lk.off {vs:List aP} {l:List a8} {v:Int} {z:aP} (h:Lk vs l) (hz:vs[v.toNat]? =some z) (hs:z.State≠2):∀x∈l,x.Vol≠v:=λx hx e=>by
 obtain⟨-,y,hy,h2, -⟩:=DO (h.a x hx)
 rw[e,hz] at hy
 obtain rfl:=Option.some.inj hy
 exact hs h2
theorem N5 {c:aA} {v:Int} {x:aP} (h:Sm c) (hx:c.Vols[v.toNat]? =some x):Sm (ret c v x):=by
 obtain⟨g0,g1,g2,g3,g4⟩:=h.g
 have lfm:∀ {l:List a8} {y},y∈lf v l→y∈l:=λhy=>(List.mem_filter.1 hy).1
 have lfl:∀(l:List a8),(lf v l).length≤l.length:=λl=>List.length_filter_le _ _
 refine⟨⟨g0, ?_, ?_, ?_, ?_⟩, ?_, ?_, ?_, ?_, ?_, ?_, ?_, ?_⟩
 ·intro s hs
  obtain⟨s0,h0,rfl⟩:=List.mem_map.1 hs
  exact⟨(g1 s0 h0).1,(g1 s0 h0).2.1,λy hy=>(g1 s0 h0).2.2 y (lfm hy)⟩
 ·intro s hs
  obtain⟨s0,h0,rfl⟩:=List.mem_map.1 (List.mem_filter.1 hs).1
  exact⟨(g2 s0 h0).1,(g2 s0 h0).2.1,(g2 s0 h0).2.2.1,λy hy=>(g2 s0 h0).2.2.2 y (lfm hy)⟩
 ·intro s hs
  obtain⟨s0,h0,rfl⟩:=List.mem_map.1 (List.mem_filter.1 hs).1
  exact⟨(g3 s0 h0).1,(g3 s0 h0).2.1,λy hy=>(g3 s0 h0).2.2 y (lfm hy)⟩
 ·intro s hs
  rcases List.mem_or_eq_of_mem_set hs with h1 | rfl
  ·exact g4 s h1
  ·have:=g4 x (List.mem_of_getElem? hx)
   exact⟨this.1,this.2.1,(⟨by decide,by decide⟩:gI 3),(⟨by decide,by decide⟩:gI 0)⟩
 ·simpa [ret] using h.sn
 ·exact Nat.le_trans (List.length_filter_le _ _) (by simpa using h.ch)
 ·exact Nat.le_trans (List.length_filter_le _ _) (by simpa using h.ex)
 ·simpa [ret] using h.vo
 ·intro s hs
  obtain⟨s0,h0,rfl⟩:=List.mem_map.1 hs
  exact Nat.le_trans (lfl _) (h.sl s0 h0)
 ·intro s hs
  obtain⟨s0,h0,rfl⟩:=List.mem_map.1 (List.mem_filter.1 hs).1
  exact⟨Nat.le_trans (lfl _) (h.cl s0 h0).1,(h.cl s0 h0).2⟩
 ·intro s hs
  obtain⟨s0,h0,rfl⟩:=List.mem_map.1 (List.mem_filter.1 hs).1
  exact Nat.le_trans (lfl _) (h.el s0 h0)
 ·intro s hs
  obtain⟨s0,h0,rfl⟩:=List.mem_map.1 hs
  exact h.man s0 h0
theorem N6 {c:aA} {v:Int} {x:aP} (h:Sm c) (hx:c.Vols[v.toNat]? =some x) (he:x.Epoch≤1048576∧0≤x.Epoch):Sm (rel c v x):=by
 obtain⟨g0,g1,g2,g3,g4⟩:=h.g
 refine { h with g:=⟨g0,g1,g2,g3, ?_⟩,vo:=by simpa [rel] using h.vo}
 intro s hs
 rcases List.mem_or_eq_of_mem_set hs with h1 | rfl
 ·exact g4 s h1
 ·have:=g4 x (List.mem_of_getElem? hx)
  exact⟨this.1,⟨by simp only; omega,by simp only; omega⟩,(⟨by decide,by decide⟩:gI 1),this.2.2.2⟩
open Go.Vm
theorem Mk.wd {c:aA} {d:aR} (h:Mk c d) (hG:Gd c) (hd:IU d):Wd d:=by
 refine⟨hd.it,λi hi=> ?_⟩
 obtain⟨-,a2,a3,a4⟩:=hd.iti i hi
 refine⟨?_, ?_,a2,a3,a4⟩
 ·rcases h.it with h1 | ⟨s,hs,e⟩
  ·exact(h1.a i hi).id
  ·rw[e] at hi
   rw[List.mem_singleton.1 hi]
   exact NU
 ·rcases h.it with h1 | ⟨s,hs,e⟩
  ·exact(h1.a i hi).q
  ·rw[e] at hi
   rw[List.mem_singleton.1 hi]
   have:=hG.q
   simpa [fR] using this
inductive Eff (c:aA) (d:aR) (e:aA):Prop
 | add (k:d.Kind=1) (q:d.Snap.Seq=c.Seq∧pA d.Chunks=true) (n:c.Snaps.any (λs=>s.Man.Name.toList==d.Snap.Man.Name.toList)=false) (w:e=ad c d)
 | drop (k:d.Kind=2) (q:c.Snaps.any (λs=>s.Seq==d.Seq)=true) (w:e=C0 c d.Seq)
 | wrote (k:d.Kind=3) (x:aP) (hx:c.Vols[d.Vol.toNat]? =some x) (q:iZ x d=true) (p:d.Items.all (jU c)=true) (w:e=jV c d x)
 | ret (k:d.Kind=4) (x:aP) (hx:c.Vols[d.Vol.toNat]? =some x) (q:x.State=2) (w:e=ret c d.Vol x)
 | rel (k:d.Kind=5) (x:aP) (hx:c.Vols[d.Vol.toNat]? =some x) (q:x.State=3) (w:e=rel c d.Vol x)
theorem VG {c:aA} {v:Int} (h:0≤v∧v < c.Vols.length):∃x,c.Vols[v.toNat]? =some x:=⟨_,List.getElem?_eq_getElem (show v.toNat < c.Vols.length by omega)⟩
theorem N7 {c:aA} (hG:Gd c) {n:Nat} {x:aP} (hx:c.Vols[n]? =some x):0≤x.Epoch∧x.Epoch≤1048576:=by
 have:=hG.v x (List.mem_of_getElem? hx)
 unfold mA fR at this
 simp only[Bool.and_eq_true,decide_eq_true_eq] at this
 exact this.1.2
open Go.Vm
theorem xF {ρ:Type} {body:Int→Option (Lp Int ρ)} {c:Nat→Bool} {n:Nat} (hb:∀k:Nat,k≤n→body (k:Int)=some (if decide (k < n) && c k then .go ((k+1:Nat):Int) else .brk (k:Int))):∀(G k:Nat),k≤n→n - k < G→
    ∃p:Nat,k≤p∧p≤n∧aU body G (k:Int)=some (.brk (p:Int))∧(∀j,k≤j→j < p→c j=true)∧(p < n→c p=false)
  | 0,_,_,h=>by omega
  | G+1,k,hk,h=>by
    unfold aU
    rw[hb k hk]
    cases e:decide (k < n) && c k with
    | false=>
      refine⟨k,Nat.le_refl _,hk,by simp,λj h1 h2=>by omega,λh0=> ?_⟩
      simpa [h0] using e
    | true=>
      simp only[Bool.and_eq_true,decide_eq_true_eq] at e
      obtain⟨p,h1,h2,h3,h4,h5⟩:=xF (body:=body) (c:=c) (n:=n) hb G (k+1) (by omega) (by omega)
      refine⟨p,by omega,h2,by simpa using h3,λj hj1 hj2=> ?_,h5⟩
      by_cases ej:j=k
      · rw[ej]; exact e.2
      · exact h4 j (by omega) hj2
def ahB (a b:a8):Bool:=if a.Vol !=b.Vol then decide (a.Vol < b.Vol) else if a.File !=b.File then decide (a.File < b.File) else if a.Off !=b.Off then decide (a.Off < b.Off) else decide (a.Len < b.Len)
def nk (a b:a8):Prop:=¬(a.Vol=b.Vol∧a.File=b.File∧a.Off=b.Off)
theorem N8 {a b:a8} (h:nk a b):ahB a b= !jO a b:=by
 rw[Bool.eq_iff_iff,Bool.not_eq_true',← Bool.not_eq_true,w6]
 unfold nk at h
 unfold ahB
 by_cases h1:a.Vol=b.Vol <;> by_cases h2:a.File=b.File <;> by_cases h3:a.Off=b.Off <;> simp[h1,h2,h3] <;> omega
theorem wA {l:List a8} {x:a8} (h:l.Pairwise λy z=>jO z y=true) (hl:l.length≤400):fY l x=(l.filter λy=> !jO y x)++x::l.filter λy=>jO y x:=by
 obtain⟨p,hp, -⟩:=aAR (F:=1000) (l:=l) (x:=x) (Nat.le_refl _) hl
 have hle:=hp.le
 rw[← IX hp]
 have lo:∀y∈l.take p,jO y x=false:=λy hy=>by
  obtain⟨j,hj,rfl⟩:=List.getElem_of_mem hy
  simp only[List.length_take] at hj
  rw[List.getElem_take]
  have hq:l[p - 1]? =some l[p - 1]:=List.getElem?_eq_getElem (by omega)
  have h0:=hp.lo _ (by omega) hq
  by_cases e:j=p - 1
  ·subst e; exact h0
  ·cases ha:jO l[j] x with
   | false=>rfl
   | true=>
    have:=KM h (List.getElem?_eq_getElem (show j < l.length by omega)) hq (by omega)
    rw[yV x l[j] l[p - 1] ha this] at h0
    cases h0
 have e:∀q:a8→Bool,l.filter q=(l.take p).filter q++(l.drop p).filter q:=λq=>by rw[← List.filter_append,List.take_append_drop]
 rw[e,e,List.filter_eq_self.2 λy hy=>by rw[lo y hy]; rfl,List.filter_eq_nil_iff.2 λy hy=>by rw[hp.hi y hy]; decide,List.filter_eq_nil_iff.2 λy hy=>by rw[lo y hy]; decide,List.filter_eq_self.2 λy hy=>hp.hi y hy]
 simp
theorem VH {F:Nat} {l:List a8} {x:a8} (hF:1000≤F) (h:l.Pairwise λy z=>jO z y=true) (hl:l.length≤300) (hn:∀y∈l,nk y x):HH F l x=some (fY l x):=by
 obtain⟨p, -,hp,h1,h2,h3⟩:=xF (body:=λs=>tP F l x s) (c:=λk=>(l[k]?).any λy=>ahB y x) (n:=l.length) (λk hk=>by
  unfold tP QS
  by_cases hlt:k < l.length
  ·have hx:l[k]? =some l[k]:=List.getElem?_eq_getElem hlt
   generalize l[k]=y at hx
   rw[iW (by omega)]
   simp only[bH,hx,Int.ofNat_lt,hlt,decide_true,if_true,Option.bind_some,Bool.true_and,Option.any_some]
   have:(if (y.Vol !=x.Vol)=true then some (decide (y.Vol < x.Vol)) else if (y.File !=x.File)=true then some (decide (y.File < x.File)) else if (y.Off !=x.Off)=true then some (decide (y.Off < x.Off)) else some (decide (y.Len < x.Len)))=some (ahB y x):=by
    unfold ahB; split <;> (try rfl); split <;> (try rfl); split <;> rfl
   rw[this]
   simp only[Option.bind_some,aG]
   split <;> rfl
  ·have:¬((k:Int) < (l.length:Int)):=by omega
   simp[this,hlt,aG]) F 0 (Nat.zero_le _) (by omega)
 unfold HH
 rw[show ((0:Int))=((0:Nat):Int) from rfl,h1]
 simp only[aG]
 have s1:slc l ((0:Nat):Int) (p:Int)=some (l.take p):=by
  unfold slc; rw[if_pos ⟨by omega,by omega,by omega⟩]; simp
 have s2:slc l (p:Int) (l.length:Int)=some (l.drop p):=by
  unfold slc; rw[if_pos ⟨by omega,by omega,by omega⟩]; simp
 rw[s1,s2]
 simp only[Option.bind_some]
 rw[cC (by simp; omega)]
 simp only[Option.bind_some,List.nil_append]
 rw[cC (by simp; omega)]
 simp only[Option.bind_some]
 rw[cC (by simp; omega)]
 simp only[Option.bind_some,List.append_assoc,List.singleton_append]
 have a1:∀y∈l.take p,jO y x=false:=λy hy=>by
  obtain⟨j,hj,rfl⟩:=List.getElem_of_mem hy
  simp only[List.length_take] at hj
  have hq:l[j]? =some l[j]:=List.getElem?_eq_getElem (by omega)
  have:=h2 j (Nat.zero_le _) (by omega)
  simp only[hq,Option.any_some] at this
  rw[List.getElem_take]
  rw[N8 (hn _ (List.getElem_mem _))] at this
  simpa using this
 have a2:∀y∈l.drop p,jO y x=true:=λy hy=>by
  obtain⟨j,hj,rfl⟩:=List.getElem_of_mem hy
  simp only[List.length_drop] at hj
  have hq:l[p]? =some l[p]:=List.getElem?_eq_getElem (by omega)
  have:=h3 (by omega)
  simp only[hq,Option.any_some] at this
  rw[N8 (hn _ (List.getElem_mem _))] at this
  have this:jO l[p] x=true:=by simpa using this
  rw[List.getElem_drop]
  cases j with
  | zero=>exact this
  | succ j=>exact yV x _ _ this (KM h hq (List.getElem?_eq_getElem (show p+(j+1) < l.length by omega)) (by omega))
 rw[wA h (by omega)]
 have e:∀q:a8→Bool,l.filter q=(l.take p).filter q++(l.drop p).filter q:=λq=>by rw[← List.filter_append,List.take_append_drop]
 rw[e,e,List.filter_eq_self.2 λy hy=>by rw[a1 y hy]; rfl,List.filter_eq_nil_iff.2 λy hy=>by rw[a2 y hy]; decide,List.filter_eq_nil_iff.2 λy hy=>by rw[a1 y hy]; decide,List.filter_eq_self.2 a2]
 simp
theorem VI {F:Nat} {l:List a8} {v:Int} (hF:1000≤F) (hl:l.length≤300):HI F l v=some (lf v l):=by
 unfold HI
 rw[mQ (l:=l) [] (λy=> !(y.Vol==v)) id (by omega) (λi x hx hm hi acc ha=>by
  simp only[List.length_nil] at ha
  unfold tQ
  simp only
  rw[iW (by omega)]
  simp only[bH,hx,Option.bind_some,Int.ofNat_lt,hi,decide_true,if_true]
  rw[cC (by simp; omega)]
  by_cases e:x.Vol=v <;> simp[e,aG]) (λacc=>by unfold tQ; simp)]
 simp[aG,lf]
theorem VJ {F:Nat} {c:aA} {v a b:Int} {x:aP} (h0:0≤v) (hx:c.Vols[v.toNat]? =some x):AE F c v a b=some (x.State==a || x.State==b):=by
 have hlt:=(List.getElem?_eq_some_iff.1 hx).1
 unfold AE
 rw[if_pos (by simpa using h0),if_pos (by simp; omega)]
 simp only[pZ _ h0,hx,Option.bind_some]
 cases h:x.State==a <;> simp[aG]
def Lv (c:aA):Prop:=∀x∈c.Chunks,pF x=true
theorem VK {F:Nat} {c:aA} {q:Int} (hF:1000≤F) (h:Sm c) (hv:Lv c):C3 F c q=some (if c.Snaps.any (λs=>s.Seq==q) then (true,(C0 c q).Snaps,(C0 c q).Chunks) else (false,c.Snaps,c.Chunks)):=by
 have hsn:=h.sn
 have hch:=h.ch
 have hD:=tO h λs=> !(s.Seq==q)
 unfold C3
 rw[mQ (l:=c.Snaps) [] (λs=> !(s.Seq==q)) id (by omega) (λi x hx hm hi acc ha=>by
  simp only[List.length_nil] at ha
  unfold tT
  simp only
  rw[iW (by omega)]
  simp only[bH,hx,Option.bind_some,Int.ofNat_lt,hi,decide_true,if_true]
  rw[cC (by simp; omega)]
  by_cases e:x.Seq=q <;> simp[e,aG]) (λacc=>by unfold tT; simp)]
 simp only[aG,List.nil_append,List.map_id]
 have len:=List.length_filter_le (λs:aH=> !(s.Seq==q)) c.Snaps
 cases ha:c.Snaps.any (λs=>s.Seq==q) with
 | false=>
  rw[List.filter_eq_self.2 λs hs=>by simpa using List.any_eq_false.1 ha s hs,if_pos (by simp)]
  rfl
 | true=>
  have hne:¬((c.Snaps.filter λs=> !(s.Seq==q)).length=c.Snaps.length):=λe=>by
   obtain⟨s,hs,e2⟩:=List.any_eq_true.1 ha
   have:=List.length_filter_eq_length_iff.1 e s hs
   simp[e2] at this
  rw[if_neg (by simp; omega)]
  rw[mQ (l:=c.Chunks) [] (λy=>pF (E8 (qY c q) y)) (E8 (qY c q)) (by omega) (λi x hx hm hi acc ha=>by
   simp only[List.length_nil] at ha
   unfold tU
   simp only
   rw[iW (by omega)]
   have ea:∀z:aB,app acc [z]=some (acc++ [z]):=λz=>cC (by simp; omega)
   have hl:=hv x hm
   simp only[bH,hx,Option.bind_some,Int.ofNat_lt,hi,decide_true,if_true,ea,m65 hF (c:= { Seq:=c.Seq,Snaps:=c.Snaps.filter λs=> !(s.Seq==q),Chunks:=c.Chunks,Exps:=c.Exps,Vols:=c.Vols}) hD]
   unfold E8
   rw[show n6 { Seq:=c.Seq,Snaps:=c.Snaps.filter λs=> !(s.Seq==q),Chunks:=c.Chunks,Exps:=c.Exps,Vols:=c.Vols} x.Id=n6 (qY c q) x.Id from rfl]
   cases n6 (qY c q) x.Id with
   | true=>
    simp only[Bool.not_true,Bool.false_eq_true,if_false,aG,if_true,hl]
   | false=>
    simp only[Bool.not_false,Bool.false_eq_true,if_true,if_false,aG,pF,Bool.false_or]
    by_cases e:x.Locs.length=0
    ·rw[if_pos (by simp[e])]
     simp[e,aG,cL]
    ·rw[if_neg (by simpa using e)]
     have:(0:Int) < (x.Locs.length:Int):=by omega
     simp[this,aG]
     exact λh=>e (by rw[h]; rfl)) (λacc=>by unfold tU; simp)]
  simp only[aG,List.nil_append]
  rfl
theorem aG1 {F:Nat} {l:List aB} {n:aB} (hF:1000≤F) (hr:uF l) (hn:m7 n.Id) (hl:l.length≤360) (hm:∀x∈l,x.Locs.length≤300∧x.Data.length≤300) (hs:n.Staged=true) (ho:n.Locs= []) (hd:n.Data.length≤300):E9 F l n=some (wS l n):=by
  obtain⟨p, -,hp,h1,h2,h3⟩:=xF (body:=λs=>qE F l n s) (c:=λk=>(l[k]?).any λy=>decide (ky y.Id < ky n.Id)) (n:=l.length) (λk hk=>by
    unfold qE
    by_cases hlt:k < l.length
    · have hx:l[k]? =some l[k]:=List.getElem?_eq_getElem hlt
      have gx:=hr.1 l[k] (List.getElem_mem hlt)
      generalize l[k]=y at hx gx
      rw[iW (by omega)]
      simp only[bH,hx,Int.ofNat_lt,hlt,decide_true,if_true,Option.bind_some,Bool.true_and,Option.any_some,m60 hF gx hn,aG]
      split <;> rfl
    · have:¬((k:Int) < (l.length:Int)):=by omega
      simp[this,hlt,aG]) F 0 (Nat.zero_le _) (by omega)
  have ha:At l n.Id p:=⟨hp,λy hy=>by
      obtain⟨j,hj,rfl⟩:=List.getElem_of_mem hy
      simp only[List.length_take] at hj
      have:=h2 j (Nat.zero_le _) (by omega)
      rw[List.getElem?_eq_getElem (show j < l.length by omega)] at this
      rw[List.getElem_take]
      simpa using this,λy hy=>by
      obtain⟨j,hj,rfl⟩:=List.getElem_of_mem hy
      simp only[List.length_drop] at hj
      have hq:l[p]? =some l[p]:=List.getElem?_eq_getElem (by omega)
      have:=h3 (by omega)
      rw[hq] at this
      have this:¬ky (l[p]).Id < ky n.Id:=by simpa using this
      rw[List.getElem_drop]
      cases j with
      | zero=>show ky n.Id≤ky (l[p+0]).Id; simp only[Nat.add_zero]; omega
      | succ j=>
        have:=hr.2 p (p+(j+1)) _ _ hq (List.getElem?_eq_getElem (show p+(j+1) < l.length by omega)) (by omega)
        omega⟩
  unfold E9
  rw[show ((0:Int))=((0:Nat):Int) from rfl,h1]
  simp only[aG]
  have eN:({ Id:=n.Id,Staged:=true,Data:=n.Data,Locs:= []}:aB)=n:=by
    cases n; simp only at hs ho; subst hs; subst ho; rfl
  cases hh:kR l n.Id with
  | true=>
    obtain⟨x,e1,e2⟩:=HG hr ha hn hh
    obtain⟨hpl,e0⟩:=List.getElem?_eq_some_iff.1 e1
    have e152:BG F l=some l:=by
      unfold BG
      rw[n7 (l:=l) (by omega) (λi x hx hm' hi=>by
        have:=hm x hm'
        have el:x.Locs.length≤300:=this.1
        unfold qD vM wR
        simp only
        rw[iW (by omega)]
        have a1:app [] x.Data=some x.Data:=by rw[cC (by simp; omega)]; rfl
        have a2:app [] x.Locs=some x.Locs:=by rw[cC (by simp; omega)]; rfl
        simp only[bH,hx,Option.bind_some,Int.ofNat_lt,hi,decide_true,if_true,a1,a2]
        rw[cC (by simp; omega)]
        rfl) (by unfold qD; simp)]
      rfl
    have e141:vM F n.Data=some n.Data:=by unfold vM; rw[cC (by simp; omega)]; rfl
    rw[if_pos (by simp; omega)]
    simp only[bH,e1,Option.bind_some,aG,e2,decide_true,if_true,e152,e141,Int.toNat_natCast]
    rw[List.getElem?_set_self hpl]
    simp only[Option.bind_some,List.set_set]
    have hf:=QW hr e1
    rw[e2] at hf
    unfold wS
    rw[hf,← NW ha,← QV ha hr e1 e2]
    simp only
    rw[List.set_eq_take_append_cons_drop,if_pos hpl,e2]
  | false=>
    have hne:∀y:aB,l[p]? =some y→y.Id≠n.Id:=λy hy e=>by
      have:=List.any_eq_false.1 hh y (List.mem_of_getElem? hy)
      simp[e] at this
    have s1:slc l ((0:Nat):Int) (p:Int)=some (l.take p):=by
      unfold slc; rw[if_pos ⟨by omega,by omega,by omega⟩]; simp
    have s2:slc l (p:Int) (l.length:Int)=some (l.drop p):=by
      unfold slc; rw[if_pos ⟨by omega,by omega,by omega⟩]; simp
    have fin:((slc l ((0:Nat):Int) (p:Int)).bind λx102=>(app ([]:List aB) x102).bind λz104=>(app z104 ([n]:List aB)).bind λz112=>(slc l (p:Int) (l.length:Int)).bind λx120=>(app z112 x120).bind λz122=>some z122)=some (wS l n):=by
      rw[s1,s2]
      simp only[Option.bind_some]
      rw[cC (by simp; omega)]
      simp only[Option.bind_some,List.nil_append]
      rw[cC (by simp; omega)]
      simp only[Option.bind_some]
      rw[cC (by simp; omega)]
      have hf:(l.find? λx=>decide (x.Id=n.Id))=none:=List.find?_eq_none.2 λx hx=>by
        have:=List.any_eq_false.1 hh x hx
        simpa using this
      unfold wS
      rw[hf,← NW ha,← U7 ha hr hn hh]
      simp only[Option.bind_some,eN]
      simp
    by_cases hlt:p < l.length
    · have hx:l[p]? =some l[p]:=List.getElem?_eq_getElem hlt
      rw[if_pos (by simpa using hlt)]
      simp only[bH,hx,Option.bind_some,aG]
      rw[if_neg (by simpa using hne _ hx)]
      exact fin
    · rw[if_neg (by simpa using hlt)]
      simp only[aG,Bool.false_eq_true,if_false]
      exact fin
open Go.Vm
theorem I3 {S ρ:Type} {body:S→Option (Lp S ρ)} (emb:Nat→S) {p:Nat} {r:ρ} (hb:∀j,j < p→body (emb j)=some (.go (emb (j+1)))) (hr:body (emb p)=some (.ret r)):∀(G k:Nat),k≤p→p - k < G→aU body G (emb k)=some (.ret r)
 | 0,_,_,h=>by omega
 | G+1,k,hk,h=>by
  unfold aU
  by_cases e:k=p
  ·subst e; rw[hr]
  ·rw[hb k (by omega)]
   exact I3 emb hb hr G (k+1) (by omega) (by omega)
theorem p88 {F:Nat} {c:aA} {d:bO} (hF:1000≤F) (hl:c.Chunks.length≤400):KL F c d=some (vN c.Chunks λx=>decide (x.Id=d)):=by
 unfold KL
 refine n8 (l:=c.Chunks) (λx:aB=>decide (x.Id=d)) (by omega) (λi x hx hm hi=> ?_) (by unfold oU; simp)
 unfold oU
 rw[iW (by omega)]
 simp only[bH,hx,Option.bind_some,Int.ofNat_lt,hi,decide_true,if_true]
 split <;> rfl
def Nw (l:List a8) (a:a8):Prop:=(l.Pairwise λy z=>jO z y=true)∧∀y∈l,nk y a
structure NwI (c:aA) (i:aS) (a:a8):Prop where
 k:i.Kind=1→∀y∈c.Chunks,y.Id=i.Id→Nw y.Locs a
 s:i.Kind=2→∀y∈c.Snaps,y.Seq=i.Seq→Nw y.Locs a
 e:i.Kind=3→∀y∈c.Exps,y.Seq=i.Seq→Nw y.Locs a
theorem HS {l:List aQ} {q:Int} {p:Nat} (h:l.Pairwise λy x=>y.Seq < x.Seq) (hp:p≤l.length) (h1:∀j x,l[j]? =some x→j < p→x.Seq < q) (h2:∀x,l[p]? =some x→q≤x.Seq):
    (l.filter λx=>decide (x.Seq < q))=l.take p∧(l[p]?.all (λx=>x.Seq !=q)=true→(l.filter λx=>decide (q < x.Seq))=l.drop p∧(l.find? λx=>decide (x.Seq=q))=none)∧
    (∀x,l[p]? =some x→x.Seq=q→(l.filter λx=>decide (q < x.Seq))=l.drop (p+1)∧(l.find? λx=>decide (x.Seq=q))=some x):=by
  have lo:∀y∈l.take p,y.Seq < q:=λy hy=>by
    obtain⟨j,hj,rfl⟩:=List.getElem_of_mem hy
    simp only[List.length_take] at hj
    rw[List.getElem_take]
    exact h1 j _ (List.getElem?_eq_getElem (by omega)) (by omega)
  have hi:∀y∈l.drop (p+1),q < y.Seq:=λy hy=>by
    obtain⟨j,hj,rfl⟩:=List.getElem_of_mem hy
    simp only[List.length_drop] at hj
    have hq:l[p]? =some l[p]:=List.getElem?_eq_getElem (by omega)
    have:=h2 _ hq
    have:=KM h hq (List.getElem?_eq_getElem (show p+1+j < l.length by omega)) (by omega)
    rw[List.getElem_drop]; omega
  have hm:∀y∈l.drop p,q≤y.Seq:=λy hy=>by
    by_cases hl:p < l.length
    · rw[List.drop_eq_getElem_cons hl] at hy
      rcases List.mem_cons.1 hy with rfl | hy
      · exact h2 _ (List.getElem?_eq_getElem hl)
      · have:=hi y hy; omega
    · rw[List.drop_eq_nil_of_le (by omega)] at hy; cases hy
  have e:∀f:aQ→Bool,l.filter f=(l.take p).filter f++(l.drop p).filter f:=λf=>by rw[← List.filter_append,List.take_append_drop]
  have lo2:((l.take p).filter λx=>decide (q < x.Seq))= []:=List.filter_eq_nil_iff.2 λy hy=>by have:=lo y hy; simp; omega
  have fp:(l.find? λx=>decide (x.Seq=q))=(l.drop p).find? λx=>decide (x.Seq=q):=by
    have:(l.find? λx=>decide (x.Seq=q))=(l.take p++l.drop p).find? λx=>decide (x.Seq=q):=by rw[List.take_append_drop]
    rw[this,List.find?_append,List.find?_eq_none.2 λy hy=>by have:=lo y hy; simp; omega]
    rfl
  refine⟨?_,λhn=> ?_,λx hx hq=> ?_⟩
  · rw[e,List.filter_eq_self.2 λy hy=>decide_eq_true (lo y hy),List.filter_eq_nil_iff.2 λy hy=>by have:=hm y hy; simp; omega]
    simp
  · have ne:∀y∈l.drop p,q < y.Seq:=λy hy=>by
      by_cases hl:p < l.length
      · rw[List.drop_eq_getElem_cons hl] at hy
        rcases List.mem_cons.1 hy with rfl | hy
        · have hq:=List.getElem?_eq_getElem hl
          rw[hq] at hn
          have:=h2 _ hq
          have hn:l[p].Seq≠q:=by simpa using hn
          omega
        · exact hi y hy
      · rw[List.drop_eq_nil_of_le (by omega)] at hy; cases hy
    refine⟨by rw[e,lo2,List.filter_eq_self.2 λy hy=>decide_eq_true (ne y hy)]; rfl, ?_⟩
    rw[fp]
    exact List.find?_eq_none.2 λy hy=>by have:=ne y hy; simp; omega
  · obtain⟨hl,rfl⟩:=List.getElem?_eq_some_iff.1 hx
    refine⟨?_, ?_⟩
    · rw[e,lo2,List.drop_eq_getElem_cons hl,List.filter_cons_of_neg (by simp; omega),List.filter_eq_self.2 λy hy=>decide_eq_true (hi y hy)]; rfl
    · rw[fp,List.drop_eq_getElem_cons hl,List.find?_cons_of_pos (by simpa using hq)]
theorem aBN {F n:Nat} {c:aA} {i:aS} {a:a8} (hF:1000≤F) (h:Wm n c) (hn:n≤300) (hi:It i) (hw:NwI c i a):
    HJ F c i a=some (if jU c i then (true,(wU c i a).Seq,(wU c i a).Snaps,(wU c i a).Chunks,(wU c i a).Exps) else (false,c.Seq,c.Snaps,c.Chunks,c.Exps)):=by
  have hcn:=h.cn
  have hsn:=h.sn
  have hen:=h.en
  have hk:=hi.k
  have hq0:=hi.q0
  have hcq:=h.q
  unfold HJ wU jU
  by_cases k1:i.Kind=1
  · have e2:c.Snaps.map (AH i a)=c.Snaps:=kG λy _=>by unfold AH; rw[if_neg (by omega)]
    rw[if_pos (by simp[k1])]
    rw[show KL F { Seq:=c.Seq,Snaps:=c.Snaps,Chunks:=c.Chunks,Exps:=c.Exps,Vols:=c.Vols} i.Id=some (vN c.Chunks λx=>decide (x.Id=i.Id)) from p88 hF hcn]
    simp only[Option.bind_some,k1,if_true,e2,show ¬((1:Int)=3) by omega,if_false]
    cases hh:kR c.Chunks i.Id with
    | false=>
      rw[mR hh]
      simp[cL]
    | true=>
      obtain⟨p,x,h1,h2,h3,h4⟩:=lH hh
      have h3:x.Id=i.Id:=by simpa using h3
      have hx:=List.mem_of_getElem? h2
      obtain⟨w1,w2⟩:=hw.k k1 x hx h3
      rw[h1,if_neg (by simp)]
      simp only[bH,h2,Option.bind_some,VH hF w1 (Nat.le_trans (h.cl x hx).1 hn) w2,aG,Int.toNat_natCast]
      rw[qQ (λy:aB=>y.Id=i.Id) (λy=> { y with Locs:=fY y.Locs a}) h2 h3 (λy hy e=>by
        have:=h4 y hy
        simp[e] at this) (λy hy e=>by
        obtain⟨j,hj,rfl⟩:=List.getElem_of_mem hy
        simp only[List.length_drop] at hj
        rw[List.getElem_drop] at e
        have:=h.r.2 p (p+1+j) _ _ h2 (List.getElem?_eq_getElem (by omega)) (by omega)
        rw[e,h3] at this; omega)]
      simp[oF,k1]
  · have e1:c.Chunks.map (oF i a)=c.Chunks:=kG λy _=>by unfold oF; rw[if_neg (by omega)]
    rw[if_neg (by simpa using k1)]
    by_cases k2:i.Kind=2
    · rw[if_pos (by simp[k2])]
      simp only[k2,show ¬((2:Int)=1) by omega,if_true,e1,show ¬((2:Int)=3) by omega,if_false]
      cases ha:c.Snaps.any (λs=>s.Seq==i.Seq) with
      | false=>
        have:=kC (body:=λs=>mL F c i a s) (s0:=0) (n:=c.Snaps.length) (F:=F) (λk:Nat=>(k:Int)) (by omega) rfl (λk hk'=>by
          have hx:c.Snaps[k]? =some c.Snaps[k]:=List.getElem?_eq_getElem hk'
          have:=List.any_eq_false.1 ha _ (List.getElem_mem hk')
          unfold mL
          rw[iW (by omega)]
          simp only[bH,hx,Option.bind_some,Int.ofNat_lt,hk',decide_true,if_true]
          rw[if_neg this]) (by unfold mL; simp)
        rw[this]
        simp[aG,cL]
      | true=>
        obtain⟨p,x,h1,h2,h3,h4⟩:=lH ha
        have hpl:=(List.getElem?_eq_some_iff.1 h2).1
        have hx:=List.mem_of_getElem? h2
        have h3:x.Seq=i.Seq:=by simpa using h3
        obtain⟨w1,w2⟩:=hw.s k2 x hx h3
        have:=I3 (body:=λs=>mL F c i a s) (λk:Nat=>(k:Int)) (p:=p) (r:=.ret (true,c.Seq,c.Snaps.set p { x with Locs:=fY x.Locs a},c.Chunks,c.Exps)) (λj hj=>by
          have hx:c.Snaps[j]? =some c.Snaps[j]:=List.getElem?_eq_getElem (by omega)
          have:=h4 c.Snaps[j] (List.mem_of_getElem? (i:=j) (by rw[List.getElem?_take_of_lt hj]; exact hx))
          unfold mL
          rw[iW (by omega)]
          simp only[bH,hx,Option.bind_some,Int.ofNat_lt,show j < c.Snaps.length by omega,decide_true,if_true]
          rw[if_neg (by simp[this])]) (by
          unfold mL
          simp only[bH,h2,Option.bind_some,Int.ofNat_lt,hpl,decide_true,if_true,VH hF w1 (Nat.le_trans (h.sl x hx) hn) w2,Int.toNat_natCast]
          rw[if_pos (by simp[h3])]) F 0 (Nat.zero_le _) (by omega)
        rw[show ((0:Int))=((0:Nat):Int) from rfl,this]
        simp only[cL]
        rw[qQ (λy:aH=>y.Seq=i.Seq) (λy=> { y with Locs:=fY y.Locs a}) h2 h3 (λy hy e=>by
          have:=h4 y hy
          simp[e] at this) (λy hy e=>by
          obtain⟨j,hj,rfl⟩:=List.getElem_of_mem hy
          simp only[List.length_drop] at hj
          rw[List.getElem_drop] at e
          have:=KM h.so h2 (List.getElem?_eq_getElem (show p+1+j < c.Snaps.length by omega)) (by omega)
          omega)]
        simp[AH,k2]
    · have k3:i.Kind=3:=by omega
      have e2:c.Snaps.map (AH i a)=c.Snaps:=kG λy _=>by unfold AH; rw[if_neg (by omega)]
      rw[if_neg (by simpa using k2)]
      simp only[k3,if_true,e1,e2,show ¬((3:Int)=1) by omega,show ¬((3:Int)=2) by omega,if_false]
      obtain⟨p, -,hp,l1,l2,l3⟩:=xF (body:=λs=>tV F c i s) (c:=λk=>(c.Exps[k]?).any λy=>decide (y.Seq < i.Seq)) (n:=c.Exps.length) (λk hk=>by
        unfold tV
        by_cases hlt:k < c.Exps.length
        · have hx:c.Exps[k]? =some c.Exps[k]:=List.getElem?_eq_getElem hlt
          generalize c.Exps[k]=y at hx
          rw[iW (by omega)]
          simp only[bH,hx,Int.ofNat_lt,hlt,decide_true,if_true,Option.bind_some,Bool.true_and,Option.any_some,aG]
          split <;> rfl
        · have:¬((k:Int) < (c.Exps.length:Int)):=by omega
          simp[this,hlt,aG]) F 0 (Nat.zero_le _) (by omega)
      obtain⟨s1,s2,s3⟩:=HS h.eo hp (q:=i.Seq) (λj x hx hj=>by
        have:=l2 j (Nat.zero_le _) hj
        rw[hx] at this
        simpa using this) (λx hx=>by
        have:=l3 (List.getElem?_eq_some_iff.1 hx).1
        rw[hx] at this
        simpa using this)
      rw[show ((0:Int))=((0:Nat):Int) from rfl,l1]
      simp only[aG]
      have fin:(c.Exps[p]?).all (λx=>x.Seq !=i.Seq)=true→((slc c.Exps ((0:Nat):Int) (p:Int)).bind λx433=>(app ([]:List aQ) x433).bind λz435=>(app z435 ([({ Seq:=i.Seq,Of:=i.Of,Locs:=([a]:List a8)}:aQ)]:List aQ)).bind λz443=>(slc c.Exps (p:Int) (c.Exps).length).bind λx451=>(app z443 x451).bind λz453=>after (if (decide (c.Seq≤i.Seq))=true then (some (.brk (decide (i.Seq < 4611686018427387904)))) else some (.brk false):Option (Lp (Bool) (Lp (Int×(List aB)×(List aQ)) (Bool×Int×(List aH)×(List aB)×(List aQ))))) λj463=>after (if j463=true then (some (.brk (IntKind.wrap .i64 (i.Seq+1)))) else some (.brk c.Seq):Option (Lp (Int) (Lp (Int×(List aB)×(List aQ)) (Bool×Int×(List aH)×(List aB)×(List aQ))))) λj468=>some (.brk (j468,c.Chunks,z453)))=some (.brk (max c.Seq (i.Seq+1),c.Chunks,oG c.Exps i a)):=λhn=>by
        obtain⟨f1,f2⟩:=s2 hn
        have u1:slc c.Exps ((0:Nat):Int) (p:Int)=some (c.Exps.take p):=by
          unfold slc; rw[if_pos ⟨by omega,by omega,by omega⟩]; simp
        have u2:slc c.Exps (p:Int) (c.Exps.length:Int)=some (c.Exps.drop p):=by
          unfold slc; rw[if_pos ⟨by omega,by omega,by omega⟩]; simp
        rw[u1,u2]
        simp only[Option.bind_some]
        rw[cC (by simp; omega)]
        simp only[Option.bind_some,List.nil_append]
        rw[cC (by simp; omega)]
        simp only[Option.bind_some]
        rw[cC (by simp; omega)]
        have eX:c.Exps.take p++ [({ Seq:=i.Seq,Of:=i.Of,Locs:=([a]:List a8)}:aQ)]++c.Exps.drop p=oG c.Exps i a:=by
          unfold oG wT
          rw[s1,f1,f2]
          simp[fY]
        simp only[Option.bind_some,eX,wr (n:=i.Seq+1) (by omega) (by omega)]
        by_cases q1:c.Seq≤i.Seq
        · rw[if_pos (by simpa using q1)]
          simp only[aG]
          rw[if_pos (by simp; omega)]
          simp only[aG]
          rw[show max c.Seq (i.Seq+1)=i.Seq+1 by omega]
        · rw[if_neg (by simpa using q1)]
          simp only[aG,Bool.false_eq_true,if_false]
          rw[show max c.Seq (i.Seq+1)=c.Seq by omega]
      by_cases hlt:p < c.Exps.length
      · have hx:c.Exps[p]? =some c.Exps[p]:=List.getElem?_eq_getElem hlt
        have hm:=List.getElem_mem hlt
        generalize c.Exps[p]=x at hx hm
        rw[if_pos (by simpa using hlt)]
        simp only[bH,hx,Option.bind_some,aG]
        by_cases hq:x.Seq=i.Seq
        · obtain⟨f1,f2⟩:=s3 x hx hq
          obtain⟨w1,w2⟩:=hw.e k3 x hm hq
          have hsq:=(h.eq x hm).2.2
          rw[if_pos (by simp[hq])]
          simp only[VH hF w1 (Nat.le_trans (h.el x hm) hn) w2,Option.bind_some,cL,Int.toNat_natCast]
          unfold oG wT
          rw[f2,s1,f1,List.set_eq_take_append_cons_drop,if_pos hlt,show max c.Seq (i.Seq+1)=c.Seq by omega]
        · rw[if_neg (by simpa using hq)]
          rw[fin (by rw[hx]; simpa using hq)]
          rfl
      · rw[if_neg (by simpa using hlt)]
        simp only[aG,Bool.false_eq_true,if_false]
        rw[fin (by rw[List.getElem?_eq_none (by omega)]; rfl)]
        rfl
theorem p92 {F:Nat} {d:aR} (hF:1000≤F) (h:IU d):M92 F d=some d:=by
 have hc:=h.cn
 have hi:=h.it
 obtain⟨-,m2,m3, -⟩:=h.man
 unfold M92
 rw[m52 hF m2 (λp hp=>(m3 p hp).2)]
 simp only[Option.bind_some]
 rw[m53 (by rw[h.locs]; simp)]
 simp only[Option.bind_some]
 rw[m54 hF (by omega) (λx hx=>⟨by rw[(h.ch x hx).2.2.2]; simp,(h.ch x hx).2.1⟩)]
 simp only[Option.bind_some]
 rw[cC (by simp; omega)]
 rfl
open Go.Vm
structure Rl (v:Int) (c e:aA):Prop where
 q:c.Seq≤e.Seq
 s:∃f:aH→aH,(∀s,(f s).Seq=s.Seq∧(f s).Man=s.Man)∧e.Snaps=c.Snaps.map f
 k:∃g:aB→aB,(∀y,(g y).Id=y.Id∧(∀l∈y.Locs,l∈(g y).Locs)∧∀l∈(g y).Locs,l∈y.Locs∨l.Vol=v)∧e.Chunks=c.Chunks.map g
theorem Rl.refl (v:Int) (c:aA):Rl v c c:=⟨Int.le_refl _,⟨id,λ_=>⟨rfl,rfl⟩,by simp⟩,⟨id,λ_=>⟨rfl,λ_ h=>h,λ_ h=>.inl h⟩,by simp⟩⟩
theorem Rl.trans {v:Int} {a b c:aA} (h:Rl v a b) (k:Rl v b c):Rl v a c:=by
 obtain⟨h1,⟨f,hf,ef⟩,g,hg,eg⟩:=h
 obtain⟨k1,⟨f',hf',ef'⟩,g',hg',eg'⟩:=k
 refine⟨Int.le_trans h1 k1,⟨f' ∘ f,λs=>⟨(hf' _).1.trans (hf s).1,(hf' _).2.trans (hf s).2⟩,by rw[ef',ef,List.map_map]⟩,g' ∘ g,λy=>⟨(hg' _).1.trans (hg y).1,λl hl=>(hg' _).2.1 l ((hg y).2.1 l hl),λl hl=> ?_⟩,by rw[eg',eg,List.map_map]⟩
 rcases(hg' _).2.2 l hl with h | h
 ·exact(hg y).2.2 l h
 ·exact .inr h
theorem VL {p:Int} {c:aA} {i:aS} {a:a8}:Rl a.Vol c (uG p c i a):=by
 refine⟨?_,⟨AH i a,uB i a,rfl⟩,λy=>pG p i (oF i a y),λy=> ?_,by show (c.Chunks.map _).map _=_; rw[List.map_map]; rfl⟩
 ·show c.Seq≤if i.Kind=3 then max c.Seq (i.Seq+1) else c.Seq
  split <;> omega
 ·have h1:(pG p i (oF i a y)).Locs=(oF i a y).Locs:=by unfold pG; split <;> rfl
  refine⟨(DK p i _).trans (rU i a y), ?_⟩
  rw[h1]
  unfold oF
  split
  ·refine⟨λl hl=>nC.2 (.inl hl),λl hl=> ?_⟩
   rcases nC.1 hl with h | h
   ·exact .inl h
   ·exact .inr (by rw[h])
  ·exact⟨λl hl=>hl,λl hl=>.inl hl⟩
theorem zQ {p v f:Int}:∀(l:List aS) (c:aA),Rl v c (xD p v f c l)
 | [],c=>.refl v c
 | i::l,c=>(VL (a:=kX v f i)).trans (zQ l _)
open Go.Vm
def kL (v f:Int) (c:aA) (l:List aS):aA:=l.foldl (λc i=>wU c i (kX v f i)) c
theorem oH (v f:Int) (c:aA) (l:List aS) (i:aS):kL v f c (l++ [i])=wU (kL v f c l) i (kX v f i):=by
 unfold kL
 rw[List.foldl_append]
 rfl
theorem FG (v f:Int):∀(l:List aS) (c:aA),(kL v f c l).Vols=c.Vols
 | [],_=>rfl
 | i::l,c=>FG v f l (wU c i (kX v f i))
theorem Q5 {c:aA} {i:aS} {a:a8}:uG 1 c i a=wU c i a:=by
 unfold uG
 rw[kG λy _=>by unfold pG; rw[if_neg (by omega)]]
theorem qR (v f:Int):∀(l:List aS) (c:aA),kL v f c l=xD 1 v f c l
 | [],_=>rfl
 | i::l,c=>by
  show kL v f (wU c i (kX v f i)) l=xD 1 v f (uG 1 c i (kX v f i)) l
  rw[Q5,qR v f l]
def eM (p:Int) (l:List aS) (y:aB):aB:=l.foldl (λy i=>pG p i y) y
theorem xG (p:Int) (l:List aS) (y:aB):(eM p l y).Id=y.Id:=by
 unfold eM
 induction l generalizing y with
 | nil=>rfl
 | cons i l ih=>rw[List.foldl_cons,ih,DK]
theorem Q6 (p:Int) (i j:aS) (a:a8) (y:aB):pG p i (oF j a y)=oF j a (pG p i y):=by
 by_cases h2:j.Kind=1∧y.Id=j.Id <;> by_cases h1:p=0∧i.Kind=1∧y.Id=i.Id
 ·rw[show oF j a y= { y with Locs:=fY y.Locs a} from if_pos h2,show pG p i y= { y with Staged:=false,Data:= []} from if_pos h1]
  exact(if_pos h1).trans (if_pos h2).symm
 ·rw[show oF j a y= { y with Locs:=fY y.Locs a} from if_pos h2,show pG p i y=y from if_neg h1]
  exact(if_neg h1).trans (if_pos h2).symm
 ·rw[show oF j a y=y from if_neg h2,show pG p i y= { y with Staged:=false,Data:= []} from if_pos h1]
  exact(if_neg h2).symm
 ·rw[show oF j a y=y from if_neg h2,show pG p i y=y from if_neg h1]
  exact(if_neg h2).symm
theorem HT (p:Int) (l:List aS) (j:aS) (a:a8) (y:aB):eM p l (oF j a y)=oF j a (eM p l y):=by
 unfold eM
 induction l generalizing y with
 | nil=>rfl
 | cons i l ih=>rw[List.foldl_cons,List.foldl_cons,Q6,ih]
theorem oI {α:Type} {P:List α→Prop} (h0:P []) (h1:∀l x,P l→P (l++ [x])) (l:List α):P l:=by
 have:∀m:List α,P m.reverse:=λm=>by
  induction m with
  | nil=>exact h0
  | cons a m ih=>rw[List.reverse_cons]; exact h1 _ _ ih
 have:=this l.reverse
 rwa [List.reverse_reverse] at this
theorem pB (p v f:Int) (c:aA):∀l:List aS,xD p v f c l= { kL v f c l with Chunks:=(kL v f c l).Chunks.map (eM p l)}:=oI (by
 show c= { c with Chunks:=c.Chunks.map (eM p [])}
 rw[show c.Chunks.map (eM p [])=c.Chunks from kG λy _=>rfl]) λl i ih=>by
 rw[FC,oH,ih]
 unfold uG wU
 simp only[List.map_map]
 congr 1
 refine List.map_congr_left λy _=> ?_
 show pG p i (oF i (kX v f i) (eM p l y))=eM p (l++ [i]) (oF i (kX v f i) y)
 rw[← HT]
 unfold eM
 rw[List.foldl_append]
 rfl
def Un (i j:aS):Prop:=¬(i.Kind=j.Kind∧(i.Kind=1→i.Id=j.Id)∧(i.Kind≠1→i.Seq=j.Seq))
theorem Mk.un {c:aA} {d:aR} (h:Mk c d):d.Items.Pairwise Un:=by
 rcases h.it with h | ⟨s,_,e⟩
 ·refine List.Pairwise.imp_of_mem (fun {a b} ha hb hn hu=> ?_) h.d
  obtain⟨u1,u2,u3⟩:=hu
  have wa:=(h.a a ha).w
  have wb:=(h.a b hb).w
  rcases wa with⟨ka,qa,_⟩ | ⟨ka,qa,_⟩ | ⟨ka,qa,_⟩ <;> rcases wb with⟨kb,qb,_⟩ | ⟨kb,qb,_⟩ | ⟨kb,qb,_⟩
  ·exact hn u1 (u2 ka) (by omega)
  ·omega
  ·omega
  ·omega
  ·exact hn u1 (by rw[qa,qb]) (u3 (by omega))
  ·omega
  ·omega
  ·omega
  ·exact hn u1 (by rw[qa,qb]) (u3 (by omega))
 ·rw[e]; exact List.pairwise_singleton _ _
theorem aBO {v f:Int} {i:aS} (k:i.Kind=1):∀ {m:List aS} {c:aA} {y:aB},(∀j∈m,Un j i)→y∈(kL v f c m).Chunks→y.Id=i.Id→y∈c.Chunks
 | [],_,_,_,h,_=>h
 | j::m,c,y,hu,h,e=>by
  have:=aBO k (m:=m) (λj hj=>hu j (List.mem_cons_of_mem _ hj)) h e
  obtain⟨z,hz,rfl⟩:=List.mem_map.1 this
  rw[rU] at e
  have hj:=hu j List.mem_cons_self
  unfold oF
  rw[if_neg (λh=>hj ⟨by omega,λ_=>by rw[← h.2,e],λh2=>absurd h.1 h2⟩)]
  exact hz
theorem aBP {v f:Int} {i:aS} (k:i.Kind=2):∀ {m:List aS} {c:aA} {y:aH},(∀j∈m,Un j i)→y∈(kL v f c m).Snaps→y.Seq=i.Seq→y∈c.Snaps
 | [],_,_,_,h,_=>h
 | j::m,c,y,hu,h,e=>by
  have:=aBP k (m:=m) (λj hj=>hu j (List.mem_cons_of_mem _ hj)) h e
  obtain⟨z,hz,rfl⟩:=List.mem_map.1 this
  rw[(uB _ _ _).1] at e
  have hj:=hu j List.mem_cons_self
  unfold AH
  rw[if_neg (λh=>hj ⟨by omega,λh2=>absurd h2 (by omega),λ_=>by omega⟩)]
  exact hz
theorem aBQ {v f:Int} {i:aS} (k:i.Kind=3):∀ {m:List aS} {c:aA} {y:aQ},(∀j∈m,Un j i)→y∈(kL v f c m).Exps→y.Seq=i.Seq→y∈c.Exps
 | [],_,_,_,h,_=>h
 | j::m,c,y,hu,h,e=>by
  have this:y∈(if j.Kind=3 then oG c.Exps j (kX v f j) else c.Exps):=aBQ k (m:=m) (λj hj=>hu j (List.mem_cons_of_mem _ hj)) h e
  have hj:=hu j List.mem_cons_self
  split at this
  ·rename_i k3
   unfold oG at this
   rcases List.mem_append.1 this with h | h
   ·exact(List.mem_filter.1 h).1
   ·rcases List.mem_cons.1 h with rfl | h
    ·exact absurd ⟨by omega,λh2=>absurd h2 (by omega),λ_=>by rw[← e]; exact(zK c.Exps j).symm⟩ hj
    ·exact(List.mem_filter.1 h).1
  ·exact this
theorem I4 {c:aA} {v:Int} {x:aP} {l:List a8} {i:aS} (hx:c.Vols[v.toNat]? =some x) (h:Lk c.Vols l):Nw l (kX v (x.Files+1) i):=by
 refine⟨h.o,λy hy hk=> ?_⟩
 obtain⟨h1,h2,h3⟩:=hk
 obtain⟨q1,w,q2,q3,q4,q5⟩:=DO (h.a y hy)
 have h1:y.Vol=v:=h1
 have h2:y.File=x.Files+1:=h2
 rw[h1,hx] at q2
 cases q2
 omega
theorem N9 {c:aA} {d:aR} {x:aP} {k:Nat} {i:aS} (G:Gd c) (hx:c.Vols[d.Vol.toNat]? =some x) (hu:d.Items.Pairwise Un) (hi:d.Items[k]? =some i):NwI (kL d.Vol (x.Files+1) (ws c d.Vol x) (d.Items.take k)) i (kX d.Vol (x.Files+1) i):=by
 have hun:∀j∈d.Items.take k,Un j i:=λj hj=>by
  obtain⟨q,hq,rfl⟩:=List.getElem_of_mem hj
  simp only[List.length_take] at hq
  rw[List.getElem_take]
  exact KM hu (List.getElem?_eq_getElem (show q < d.Items.length by omega)) hi (by omega)
 exact⟨λk1 y hy e=>I4 hx (G.cl y (aBO (c:=ws c d.Vol x) k1 hun hy e)),λk2 y hy e=>I4 hx (G.sl y (aBP (c:=ws c d.Vol x) k2 hun hy e)),λk3 y hy e=>I4 hx (G.el y (aBQ (c:=ws c d.Vol x) k3 hun hy e))⟩
theorem HU {v f:Int}:∀ {l:List aS} {c:aA},Lv c→Lv (kL v f c l)
 | [],_,h=>h
 | i::l,c,h=>HU (l:=l) λy hy=>by
  obtain⟨z,hz,rfl⟩:=List.mem_map.1 hy
  have:=h z hz
  unfold oF
  split
  ·unfold pF
   rw[kV]
   simp
  ·exact this
theorem OA {c:aA} (G:Gd c):Lv c:=λx hx=>by
 have:=G.cs x hx
 unfold pF
 cases e:x.Staged with
 | true=>rfl
 | false=>
  rw[e] at this
  have:=List.length_pos_iff.2 this.2
  simp; omega
theorem FH {v f:Int} {j:aS} {l:List aS} {c:aA}:jU (kL v f c l) j=jU c j:=by rw[qR,zM]
theorem OB {v f:Int} {c:aA} {l:List aS} {q:Int}:(kL v f c l).Snaps.any (λs=>s.Seq==q)=c.Snaps.any λs=>s.Seq==q:=by
 obtain⟨-,⟨g,hg,e⟩, -⟩:=zQ (p:=1) (v:=v) (f:=f) l c
 rw[qR,e,List.any_map]
 congr 1
 funext s
 simp[(hg s).1]
open Go.Vm
theorem zR {F:Nat} {c:aA} {d:aR} {e:aA} {n:Int} {r:Int×Int×List aH×List aB×List aQ×List aP} (hF:1000≤F) (h:Sm c) (hg:Gd c) (hd:IU d) (hk:1≤d.Kind∧d.Kind≤5) (h91:rS F c d=some r) (hr:(r.1=n∧n≠0)∨(n=0∧r=(0,e.Seq,e.Snaps,e.Chunks,e.Exps,e.Vols)∧Sm e)):
    FA F c d=some (if n=0 then (if iA e=true then (e,0) else (cG,1)) else (cG,n)):=by
  unfold FA
  rw[m19 hF h,lS.2 hg]
  simp only[Option.bind_some,Bool.not_true,Bool.false_eq_true,if_false]
  rw[if_neg (by simp; omega)]
  simp only[aG]
  rw[if_neg (by simp; omega),aF2 hF h,p92 hF hd]
  simp only[Option.bind_some]
  rw[show rS F { Seq:=c.Seq,Snaps:=c.Snaps,Chunks:=c.Chunks,Exps:=c.Exps,Vols:=c.Vols} d=some r from h91]
  simp only[Option.bind_some]
  rcases hr with⟨h1,h2⟩ | ⟨rfl,rfl,hs⟩
  · rw[if_pos (by simpa [h1] using h2),if_neg h2,h1]
    rfl
  · rw[if_neg (by simp),if_pos rfl]
    rw[show TY F { Seq:=e.Seq,Snaps:=e.Snaps,Chunks:=e.Chunks,Exps:=e.Exps,Vols:=e.Vols}=some (iA e) from m19 hF hs]
    simp only[Option.bind_some]
    cases iA e <;> rfl
theorem VM {F:Nat} {d:aR} {b:Bool} (hF:1000≤F) (hd:IU d):aU (λs=>rQ F d s.1 s.2) F (b,0)=some (.brk (b && pA d.Chunks,(d.Chunks.length:Int))):=by
 have hc:=hd.cn
 have:=kC (body:=λs:Bool×Int=>rQ F d s.1 s.2) (s0:=(b,(0:Int))) (n:=d.Chunks.length) (F:=F) (λk:Nat=>(b && (d.Chunks.take k).all λx=>x.Staged && ((x.Locs.length:Int)==0),(k:Int))) (by omega) (by simp) (λk hk=>by
  have hx:d.Chunks[k]? =some d.Chunks[k]:=List.getElem?_eq_getElem hk
  unfold rQ
  simp only
  rw[iW (by omega),List.take_succ_eq_append_getElem hk]
  simp only[bH,hx,Option.bind_some,Int.ofNat_lt,hk,decide_true,if_true,List.all_append,List.all_cons,List.all_nil,Bool.and_true]
  rw[← Bool.and_assoc]
  cases (b && (d.Chunks.take k).all λx=>x.Staged && ((x.Locs.length:Int)==0)) with
  | false=>simp[aG]
  | true=>cases (d.Chunks[k]).Staged <;> simp[aG]) (by unfold rQ; simp)
 rw[this,List.take_length]
 congr 4
 unfold pA
 rw[List.all_eq_not_any_not]
 congr 2
 funext x
 cases x.Staged with
 | false=>simp
 | true=>
  cases x.Locs with
  | nil=>simp
  | cons a l=>simp; omega
theorem Q7 {F:Nat} {c:aA} {d:aR} (hF:1000≤F) (h:Sm c) (hg:Gd c) (hd:IU d) (k:d.Kind=1):
    FA F c d=some (if d.Snap.Seq=c.Seq∧pA d.Chunks=true then (if c.Snaps.any (λs=>s.Man.Name.toList==d.Snap.Man.Name.toList) then (cG,9) else if iA (ad c d) then (ad c d,0) else (cG,1)) else (cG,1)):=by
  have hsn:=h.sn
  have hcn:=hg.cn
  have hdn:=hd.cn
  have hq:=hg.q
  unfold fR at hq
  simp only[Bool.and_eq_true,decide_eq_true_eq] at hq
  have hr:uF c.Chunks:=qC.2 ⟨λx hx=>(h.g.2.2.1 x hx).1,hg.co⟩
  have go:∀(e:aA) (n:Int) (r),rS F c d=some r→_→_:=λe n r h1=>zR (e:=e) (n:=n) hF h hg hd (by omega) h1
  have l1:=λb=>VM (b:=b) hF hd
  by_cases e1:d.Snap.Seq=c.Seq∧pA d.Chunks=true
  · rw[if_pos e1]
    have nm:=aEZ hF (c:=c) (nm:=d.Snap.Man.Name) (by omega)
    cases ha:c.Snaps.any (λs=>s.Man.Name.toList==d.Snap.Man.Name.toList) with
    | true=>
      obtain⟨p,x,h1, -⟩:=lH ha
      rw[h1] at nm
      have e0:rS F c d=some (9,c.Seq,c.Snaps,c.Chunks,c.Exps,c.Vols):=by
        unfold rS
        rw[if_pos (by simp[k]),if_pos (by simp[e1.1]),hd.locs]
        simp only[aG,l1,e1.2]
        rw[if_neg (by simp),show yM F { Seq:=c.Seq,Snaps:=c.Snaps,Chunks:=c.Chunks,Exps:=c.Exps,Vols:=c.Vols} d.Snap.Man.Name=some (p:Int) from nm]
        simp[cL]
      rw[go cG 9 _ e0 (.inl ⟨rfl,by decide⟩)]
      rfl
    | false=>
      rw[mR ha] at nm
      have hloop:=kC (body:=λs:List aB×Int=>vS F d s.1 s.2) (s0:=(c.Chunks,(0:Int))) (n:=d.Chunks.length) (F:=F) (λi:Nat=>(nW c.Chunks (d.Chunks.take i),(i:Int))) (by omega) rfl (λi hi=>by
        have hx:d.Chunks[i]? =some d.Chunks[i]:=List.getElem?_eq_getElem hi
        have hm:=List.getElem_mem hi
        have ht:d.Chunks.take (i+1)=d.Chunks.take i++ [d.Chunks[i]]:=List.take_succ_eq_append_getElem hi
        have hR:=zH (ns:=d.Chunks.take i) hr λn hn=>(hd.ch n (List.mem_of_mem_take hn)).1
        have hL:=rT (ns:=d.Chunks.take i) (l:=c.Chunks)
        have hA:=nB (P:=λx=>x.Locs.length≤300∧x.Data.length≤300) (ns:=d.Chunks.take i) (l:=c.Chunks) h.cl (λn hn=>⟨by simp,(hd.ch n (List.mem_of_mem_take hn)).2.1⟩) λx hx n hn=>⟨hx.1,(hd.ch n (List.mem_of_mem_take hn)).2.1⟩
        rw[List.length_take] at hL
        rw[ht]
        have hfr:(d.Chunks[i]).Staged=true:=by
          have:=e1.2
          unfold pA at this
          simp only[Bool.not_eq_true',List.any_eq_false] at this
          have:=this _ hm
          simp at this
          exact this.1
        generalize d.Chunks[i]=n at hx hm hfr
        unfold vS
        simp only
        rw[iW (by omega)]
        simp only[bH,hx,Option.bind_some,Int.ofNat_lt,hi,decide_true,if_true]
        rw[aG1 hF hR (hd.ch n hm).1 (by omega) hA hfr (hd.ch n hm).2.2.2 (hd.ch n hm).2.1]
        unfold nW
        rw[List.foldl_append]
        rfl) (by unfold vS; simp)
      have e0:rS F c d=some (0,(ad c d).Seq,(ad c d).Snaps,(ad c d).Chunks,(ad c d).Exps,(ad c d).Vols):=by
        unfold rS
        rw[if_pos (by simp[k]),if_pos (by simp[e1.1])]
        have hl0:=hd.locs
        simp only[hl0,aG,l1,e1.2]
        rw[if_neg (by simp),show yM F { Seq:=c.Seq,Snaps:=c.Snaps,Chunks:=c.Chunks,Exps:=c.Exps,Vols:=c.Vols} d.Snap.Man.Name=some (-1) from nm]
        simp only[Option.bind_some]
        rw[if_neg (by decide),cC (by simp; omega)]
        simp only[Option.bind_some]
        rw[hloop]
        simp only[aG,List.take_length,wr (n:=c.Seq+1) (by omega) (by omega)]
        have:d.Snap= { Seq:=d.Snap.Seq,Man:=d.Snap.Man,Locs:= []}:=by rw[← hl0]
        unfold ad
        simp only
        rw[← this]
      rw[go (ad c d) 0 _ e0 (.inr ⟨rfl,rfl,SJ h hg hd⟩)]
      rfl
  · rw[if_neg e1]
    have e0:∃r,rS F c d=some r∧r.1=1:=by
      unfold rS
      rw[if_pos (by simp[k])]
      by_cases e2:d.Snap.Seq=c.Seq
      · have e3:pA d.Chunks=false:=by
          cases h:pA d.Chunks with
          | false=>rfl
          | true=>exact absurd ⟨e2,h⟩ e1
        rw[if_pos (by simp[e2])]
        simp only[aG,l1,e3,Bool.and_false]
        rw[if_pos (by simp)]
        exact⟨_,rfl,rfl⟩
      · rw[if_neg (by simpa using e2)]
        simp only[aG,l1,Bool.false_and]
        rw[if_pos (by simp)]
        exact⟨_,rfl,rfl⟩
    obtain⟨r,e0,e3⟩:=e0
    rw[go cG 1 r e0 (.inl ⟨e3,by decide⟩)]
    rfl
theorem OD {F:Nat} {c:aA} {d:aR} (hF:1000≤F) (h:Sm c) (hg:Gd c) (hd:IU d) (k:d.Kind=2):
    FA F c d=some (if c.Snaps.any (λs=>s.Seq==d.Seq) then (if iA (C0 c d.Seq) then (C0 c d.Seq,0) else (cG,1)) else (cG,8)):=by
  have go:∀(e:aA) (n:Int) (r),rS F c d=some r→_→_:=λe n r h1=>zR (e:=e) (n:=n) hF h hg hd (by omega) h1
  have e1:C3 F { Seq:=c.Seq,Snaps:=c.Snaps,Chunks:=c.Chunks,Exps:=c.Exps,Vols:=c.Vols} d.Seq=_:=VK hF h (OA hg)
  cases ha:c.Snaps.any (λs=>s.Seq==d.Seq) with
  | true=>
    rw[ha,if_pos rfl] at e1
    have e0:rS F c d=some (0,(C0 c d.Seq).Seq,(C0 c d.Seq).Snaps,(C0 c d.Seq).Chunks,(C0 c d.Seq).Exps,(C0 c d.Seq).Vols):=by
      unfold rS
      rw[if_neg (by simp[k]),if_pos (by simp[k]),e1]
      rfl
    rw[go (C0 c d.Seq) 0 _ e0 (.inr ⟨rfl,rfl,HO h⟩)]
    rfl
  | false=>
    rw[ha,if_neg (by decide)] at e1
    have e0:rS F c d=some (8,c.Seq,c.Snaps,c.Chunks,c.Exps,c.Vols):=by
      unfold rS
      rw[if_neg (by simp[k]),if_pos (by simp[k]),e1]
      rfl
    rw[go cG 8 _ e0 (.inl ⟨rfl,by decide⟩)]
    rfl
theorem Q8 {F:Nat} {c:aA} {d:aR} {x:aP} (hF:1000≤F) (h:Sm c) (hg:Gd c) (hd:IU d) (k:d.Kind=4) (h0:0≤d.Vol) (hx:c.Vols[d.Vol.toNat]? =some x):
    FA F c d=some (if x.State=2 then (if iA (ret c d.Vol x) then (ret c d.Vol x,0) else (cG,1)) else (cG,1)):=by
  have hsn:=h.sn
  have hch:=h.ch
  have hex:=h.ex
  have go:∀(e:aA) (n:Int) (r),rS F c d=some r→_→_:=λe n r h1=>zR (e:=e) (n:=n) hF h hg hd (by omega) h1
  have e1:AE F { Seq:=c.Seq,Snaps:=c.Snaps,Chunks:=c.Chunks,Exps:=c.Exps,Vols:=c.Vols} d.Vol 2 2=_:=VJ (a:=2) (b:=2) h0 hx
  by_cases e2:x.State=2
  · rw[if_pos e2]
    have hl:=(List.getElem?_eq_some_iff.1 hx).1
    have e0:rS F c d=some (0,(ret c d.Vol x).Seq,(ret c d.Vol x).Snaps,(ret c d.Vol x).Chunks,(ret c d.Vol x).Exps,(ret c d.Vol x).Vols):=by
      unfold rS
      rw[if_neg (by simp[k]),if_neg (by simp[k]),if_neg (by simp[k]),if_pos (by simp[k]),e1]
      simp only[Option.bind_some,e2,beq_self_eq_true,Bool.or_self]
      rw[if_neg (by simp)]
      simp only[pZ _ h0,hx,Option.bind_some,List.getElem?_set_self hl]
      rw[mQ (l:=c.Chunks) [] (λy=> !NK (QO d.Vol y)) (QO d.Vol) (by omega) (λi y hy hm hi acc ha=>by
        simp only[List.length_nil] at ha
        unfold tW
        simp only
        rw[iW (by omega)]
        have ea:∀z:aB,app acc [z]=some (acc++ [z]):=λz=>cC (by simp; omega)
        simp only[bH,hy,Option.bind_some,Int.ofNat_lt,hi,decide_true,if_true,VI hF (h.cl y hm).1,ea]
        unfold NK QO
        simp only
        by_cases q:(lf d.Vol y.Locs).length=0
        · cases y.Staged <;> simp[q,aG]
        · have:0 < (lf d.Vol y.Locs).length:=by omega
          cases y.Staged <;> simp[q,this,aG]) (λacc=>by unfold tW; simp)]
      simp only[aG,List.nil_append]
      rw[qB (l:=c.Snaps) (λs=> { s with Locs:=lf d.Vol s.Locs}) (by omega) (λcur i y hc hy hm hi=>by
        unfold tX
        simp only
        rw[iW (by omega)]
        simp only[bH,hy,hc,Option.bind_some,Int.ofNat_lt,hi,decide_true,if_true,VI hF (h.sl y hm),Int.toNat_natCast]) (λcur hc=>by unfold tX; simp[hc])]
      simp only[aG]
      rw[mQ (l:=c.Exps) [] (λy=> !(((QP d.Vol y).Locs.length:Int)==0)) (QP d.Vol) (by omega) (λi y hy hm hi acc ha=>by
        simp only[List.length_nil] at ha
        unfold tY
        simp only
        rw[iW (by omega)]
        have ea:∀z:aQ,app acc [z]=some (acc++ [z]):=λz=>cC (by simp; omega)
        simp only[bH,hy,Option.bind_some,Int.ofNat_lt,hi,decide_true,if_true,VI hF (h.el y hm),ea]
        unfold QP
        simp only
        by_cases q:(lf d.Vol y.Locs).length=0
        · simp[q,aG]
        · have:0 < (lf d.Vol y.Locs).length:=by omega
          simp[q,this,aG]) (λacc=>by unfold tY; simp)]
      simp only[aG,List.nil_append,List.set_set]
      unfold ret
      simp only[List.filter_map]
      rfl
    rw[go (ret c d.Vol x) 0 _ e0 (.inr ⟨rfl,rfl,N5 h hx⟩)]
    rfl
  · rw[if_neg e2]
    have e0:rS F c d=some (1,c.Seq,c.Snaps,c.Chunks,c.Exps,c.Vols):=by
      unfold rS
      rw[if_neg (by simp[k]),if_neg (by simp[k]),if_neg (by simp[k]),if_pos (by simp[k]),e1]
      simp only[Option.bind_some]
      rw[if_pos (by simp[e2])]
      rfl
    rw[go cG 1 _ e0 (.inl ⟨rfl,by decide⟩)]
    rfl
theorem Q9 {F:Nat} {c:aA} {d:aR} {x:aP} (hF:1000≤F) (h:Sm c) (hg:Gd c) (hd:IU d) (k:d.Kind=5) (h0:0≤d.Vol) (hx:c.Vols[d.Vol.toNat]? =some x):
    FA F c d=some (if x.State=3 then (if iA (rel c d.Vol x) then (rel c d.Vol x,0) else (cG,1)) else (cG,1)):=by
  have go:∀(e:aA) (n:Int) (r),rS F c d=some r→_→_:=λe n r h1=>zR (e:=e) (n:=n) hF h hg hd (by omega) h1
  have e1:AE F { Seq:=c.Seq,Snaps:=c.Snaps,Chunks:=c.Chunks,Exps:=c.Exps,Vols:=c.Vols} d.Vol 3 3=_:=VJ (a:=3) (b:=3) h0 hx
  have ep:=N7 hg hx
  by_cases e2:x.State=3
  · rw[if_pos e2]
    have hl:=(List.getElem?_eq_some_iff.1 hx).1
    have e0:rS F c d=some (0,(rel c d.Vol x).Seq,(rel c d.Vol x).Snaps,(rel c d.Vol x).Chunks,(rel c d.Vol x).Exps,(rel c d.Vol x).Vols):=by
      unfold rS
      rw[if_neg (by simp[k]),if_neg (by simp[k]),if_neg (by simp[k]),if_neg (by simp[k]),if_pos (by simp[k]),e1]
      simp only[Option.bind_some,e2,beq_self_eq_true,Bool.or_self]
      rw[if_neg (by simp)]
      simp only[pZ _ h0,hx,Option.bind_some,List.getElem?_set_self hl,List.set_set,wr (n:=x.Epoch+1) (by omega) (by omega),aG]
      rfl
    rw[go (rel c d.Vol x) 0 _ e0 (.inr ⟨rfl,rfl,N6 h hx ⟨ep.2,ep.1⟩⟩)]
    rfl
  · rw[if_neg e2]
    have e0:rS F c d=some (1,c.Seq,c.Snaps,c.Chunks,c.Exps,c.Vols):=by
      unfold rS
      rw[if_neg (by simp[k]),if_neg (by simp[k]),if_neg (by simp[k]),if_neg (by simp[k]),if_pos (by simp[k]),e1]
      simp only[Option.bind_some]
      rw[if_pos (by simp[e2])]
      rfl
    rw[go cG 1 _ e0 (.inl ⟨rfl,by decide⟩)]
    rfl
end Go.Proofs.YtbbifdfldpfphaaGreat
