import Derived.Test.YtbbifdfldpfphaaGreatK1P9
import Derived.Test.YtbbifdfldpfphaaGreatK1P6
import Derived.Test.YtbbifdfldpfphaaGreatK1P7
import Derived.Test.YtbbifdfldpfphaaGreatK1P3
import Derived.Test.YtbbifdfldpfphaaGreatK1P5
import Derived.Test.YtbbifdfldpfphaaGreatK1P4
set_option linter.unusedSimpArgs false
set_option linter.unusedVariables false
set_option maxHeartbeats 4000000
set_option maxRecDepth 100000
namespace Go.Proofs.YtbbifdfldpfphaaGreat
open Go.Vm
theorem qM {P:aA→Prop}:∀ {ns l:List aA},(∀x∈l,P x)→(∀n∈ns,P { Id:=n.Id,Staged:=true,Data:=n.Data,Locs:= []})→(∀x,P x→∀n∈ns,P { x with Staged:=true,Data:=n.Data})→∀y∈nA l ns,P y
  | [],_,h,_,_=>h
  | n :: ns, l, h, hn, hs => qM (ns := ns) (l := xN l n) (fun y hy => by
      rw[HP,List.mem_append,List.mem_cons] at hy
      rcases hy with h1 | h1 | h1
      · exact h y (List.mem_filter.1 h1).1
      · rw[h1]
        unfold JC
        cases e:l.find? λx=>decide (x.Id=n.Id) with
        | none=>exact hn n List.mem_cons_self
        | some x=>exact hs x (h x (List.mem_of_find?_eq_some e)) n List.mem_cons_self
      · exact h y (List.mem_filter.1 h1).1) (λm hm=>hn m (List.mem_cons_of_mem _ hm)) λx hx m hm=>hs x hx m (List.mem_cons_of_mem _ hm)
theorem Q2 {c:aB} {d:aS} (h:Sm c) (hg:Gd c) (hd:MV d):Sm (ad c d):=by
 have hq:=hg.q
 have hsn:=hg.sn
 have hcn:=hg.cn
 have hdn:=hd.cn
 unfold gP at hq
 simp only[Bool.and_eq_true,decide_eq_true_eq] at hq
 obtain⟨m1,m2,m3,m4⟩:=hd.man
 have L:=qL (ns:=d.Chunks) (l:=c.Chunks)
 refine⟨⟨⟨by show _≤c.Seq+1; omega,by show c.Seq+1 < _; omega⟩, ?_, ?_,h.g.2.2.2.1,h.g.2.2.2.2⟩, ?_, ?_,h.ex,h.vo, ?_, ?_,h.el, ?_⟩
 ·intro s hs
  rcases List.mem_append.1 hs with h1 | h1
  ·exact h.g.2.1 s h1
  ·obtain rfl:=List.mem_singleton.1 h1
   exact⟨hd.seq,m4,λx hx=>by cases hx⟩
 ·exact qM (P:=G9) h.g.2.2.1 (λn hn=>⟨(hd.ch n hn).1,trivial,(hd.ch n hn).2.2.1,λx hx=>by cases hx⟩) λx hx n hn=>⟨hx.1,trivial,(hd.ch n hn).2.2.1,hx.2.2.2⟩
 ·show (c.Snaps++_).length≤12
  simp; omega
 ·show (nA c.Chunks d.Chunks).length≤400
  omega
 ·intro s hs
  rcases List.mem_append.1 hs with h1 | h1
  ·exact h.sl s h1
  ·obtain rfl:=List.mem_singleton.1 h1
   simp
 ·exact qM (P:=λx=>x.Locs.length≤300∧x.Data.length≤300) h.cl (λn hn=>⟨by simp,(hd.ch n hn).2.1⟩) λx hx n hn=>⟨hx.1,(hd.ch n hn).2.1⟩
 ·intro s hs
  rcases List.mem_append.1 hs with h1 | h1
  ·exact h.man s h1
  ·obtain rfl:=List.mem_singleton.1 h1
   exact⟨m1,m2,m3⟩
theorem EA (c:aB) (y:aA):(NR c y).Locs=y.Locs∧(NR c y).Id=y.Id∧((NR c y).Data=y.Data∨(NR c y).Data= []):=by
 unfold NR
 split
 ·exact⟨rfl,rfl,.inl rfl⟩
 ·exact⟨rfl,rfl,.inr rfl⟩
theorem HQ {c:aB} (h:Sm c):Sm { c with Chunks:=I6 c}:=by
 obtain⟨g0,g1,g2,g3,g4⟩:=h.g
 refine { h with g:=⟨g0,g1, ?_,g3,g4⟩,ch:= ?_,cl:= ?_}
 ·intro y hy
  obtain⟨x,hx,rfl⟩:=List.mem_map.1 hy
  obtain⟨e1,e2,e3⟩:=EA c x
  have:=g2 x (List.mem_filter.1 hx).1
  refine⟨by rw[e2]; exact this.1,trivial, ?_,by rw[e1]; exact this.2.2.2⟩
  rcases e3 with e | e <;> rw[e]
  ·exact this.2.2.1
  ·intro z hz; cases hz
 ·show (List.map _ _).length≤400
  rw[List.length_map]
  exact Nat.le_trans (List.length_filter_le _ _) h.ch
 ·intro y hy
  obtain⟨x,hx,rfl⟩:=List.mem_map.1 hy
  obtain⟨e1,e2,e3⟩:=EA c x
  have:=h.cl x (List.mem_filter.1 hx).1
  refine⟨by rw[e1]; exact this.1, ?_⟩
  rcases e3 with e | e <;> rw[e]
  ·exact this.2
  ·simp
theorem M3 {c:aB} {n:Int} (h:Sm c):Sm (TF c n):=HQ (sH h _)
theorem M4 {F:Nat} {c:aB} {d:aS} (hF:1000≤F) (h:Sm c) (hg:Gd c) (hd:MV d) (hk:d.Kind=1):
    zU F c d=some (if d.Snap.Seq=c.Seq∧pH d.Chunks=true then (if c.Snaps.any (λs=>s.Man.Name.toList==d.Snap.Man.Name.toList) then (dA,9) else if iP (ad c d) then (ad c d,0) else (dA,1)) else (dA,1)):=by
  have hk2:jP.find? (λe=>e.1==d.Kind)=some (d.Kind,72):=by rw[hk]; rfl
  have go:∀(e:aB) (n:Int),gK F 72 c d=some (e,n)→(n=0→Sm e)→_:=λe n=>YS (n:=n) hF h (lB.2 hg) hk2
  have e0:gK F 72 c d=(UC F c d).bind λo=>some ({ c with Seq:=o.2.1,Snaps:=o.2.2.1,Chunks:=o.2.2.2},o.1):=by
    unfold gK
    rw[if_pos rfl]
  rw[n72 hF h hg hd] at e0
  by_cases e1:d.Snap.Seq=c.Seq∧pH d.Chunks=true
  · rw[if_pos e1] at e0 ⊢
    cases ha:c.Snaps.any (λs=>s.Man.Name.toList==d.Snap.Man.Name.toList) with
    | true=>
      rw[ha,if_pos rfl] at e0
      rw[go _ _ e0 nofun]
      rfl
    | false=>
      rw[ha,if_neg (by decide)] at e0
      rw[go (ad c d) 0 e0 λ_=>Q2 h hg hd]
      rfl
  · rw[if_neg e1] at e0 ⊢
    rw[go _ _ e0 nofun]
    rfl
theorem HR {F:Nat} {c:aB} {d:aS} (hF:1000≤F) (h:Sm c) (hg:Gd c) (hk:d.Kind=2):
    zU F c d=some (if c.Snaps.any (λs=>s.Seq==d.Seq) then (if iP (TF c d.Seq) then (TF c d.Seq,0) else (dA,1)) else (dA,8)):=by
  have hk2:jP.find? (λe=>e.1==d.Kind)=some (d.Kind,73):=by rw[hk]; rfl
  have go:∀(e:aB) (n:Int),gK F 73 c d=some (e,n)→(n=0→Sm e)→_:=λe n=>YS (n:=n) hF h (lB.2 hg) hk2
  have e0:gK F 73 c d=(T9 F c d).bind λo=>some ({ c with Snaps:=o.2.1,Chunks:=o.2.2},o.1):=by
    unfold gK
    rw[if_neg (by decide),if_pos rfl]
  rw[n73 hF h hg] at e0
  cases ha:c.Snaps.any (λs=>s.Seq==d.Seq) with
  | true=>
    rw[ha,if_pos rfl] at e0
    rw[go (TF c d.Seq) 0 e0 λ_=>M3 h]
    rfl
  | false=>
    rw[ha,if_neg (by decide)] at e0
    rw[go _ _ e0 nofun]
    rfl
open Go.Vm
theorem aES {F:Nat} {l:List aG} {f:aG→Option Bool} (q:aG→Bool) (hF:1000≤F) (hl:l.length≤400) (hf:∀x∈l,f x=some (q x)):D4 F l f=some (l.filter λx=> !q x):=by
 have h119:uH F l f=some (pA l q):=by
  unfold uH
  refine iH q (by omega) (λi x hx hm hi=> ?_) (by unfold mM; simp)
  unfold mM
  rw[jA (by omega)]
  simp only[bS,hx,hf x hm,Option.bind_some,Int.ofNat_lt,hi,decide_true,if_true]
  split <;> rfl
 unfold D4
 rw[h119]
 simp only[Option.bind_some]
 cases ha:l.any q with
 | false=>
  rw[jG ha]
  simp only[beq_self_eq_true,if_true]
  rw[List.filter_eq_self.2 λx hx=>by simpa using List.any_eq_false.1 ha x hx]
 | true=>
  obtain⟨i,x,h1,h2,h3,h4⟩:=jF ha
  rw[h1]
  have hn:((i:Int)== -1)=false:=by simp
  have hil:=(List.getElem?_eq_some_iff.1 h2).1
  rw[hn,jA (by omega)]
  simp only[Bool.false_eq_true,if_false]
  obtain⟨cur,w,e1,e2,e3,e4⟩:=rV (l:=l) (q:=q) (F:=F) (body:=λs=>nM F f s.1 s.2.1 s.2.2) (by omega) h2 h3 h4 (λcur w r x hc hw hr hx hm=>by
   unfold nM
   simp only
   rw[jA (i:=r) (by omega),jA (i:=w) (by omega)]
   have hcw:cur[w]? =some cur[w]:=List.getElem?_eq_getElem (by omega)
   simp only[bS,hx,hf x hm,Option.bind_some,hc,Int.ofNat_lt,hr,decide_true,if_true,hcw,Int.toNat_natCast]
   cases q x <;> rfl) (λcur w hc=>by unfold nM; simp[hc])
  rw[e1]
  simp only[aK]
  have g1:(decide ((0:Int)≤(w:Int)) && decide ((w:Int) < (cur.length:Int)))=true:=by simp; omega
  have g2:(decide ((0:Int)≤(w:Int)) && decide ((w:Int)≤(cur.length:Int)))=true:=by simp; omega
  simp only[grd,g1,g2,if_true,Int.toNat_natCast,e4]
open Go.Vm
def nB (l:List bK) (x:bK):List bK:=(l.reverse.dropWhile λy=>nG y x).reverse++x::(l.reverse.takeWhile λy=>nG y x).reverse
theorem PU {l:List bK} {x:bK} {p:Nat} (h:Pt l x p):l.take p++x::l.drop p=nB l x:=by
 have e:l.reverse=(l.drop p).reverse++(l.take p).reverse:=by rw[← List.reverse_append,List.take_append_drop]
 have h1:∀y∈(l.drop p).reverse,nG y x=true:=λy hy=>h.hi y (List.mem_reverse.1 hy)
 have h2:((l.take p).reverse.takeWhile λy=>nG y x)= []∧((l.take p).reverse.dropWhile λy=>nG y x)=(l.take p).reverse:=by
  cases p with
  | zero=>simp
  | succ q=>
   have hl:=h.le
   have hq:l[q]? =some l[q]:=List.getElem?_eq_getElem (by omega)
   have:=h.lo l[q] (by omega) (by simp[hq])
   rw[List.take_succ_eq_append_getElem (by omega),List.reverse_append,List.reverse_singleton,List.singleton_append]
   simp[this]
 unfold nB
 rw[e,List.takeWhile_append_of_pos h1,List.dropWhile_append_of_pos h1,h2.1,h2.2]
 simp
theorem HS {F:Nat} {l:List bK} {x:bK} (hF:1000≤F) (hl:l.length≤400):uI F l x=some (nB l x):=by
 obtain⟨p,hp,e⟩:=aD1 hF hl (x:=x)
 rw[e,PU hp]
theorem HT (l:List bK) (x:bK):∃a b,l=a++b∧nB l x=a++x::b:=by
 refine⟨_,_, ?_,rfl⟩
 rw[← List.reverse_append,List.takeWhile_append_dropWhile,List.reverse_reverse]
theorem M5 {l:List bK} {x y:bK}:y∈nB l x↔y∈l∨y=x:=by
 obtain⟨a,b,e,e2⟩:=HT l x
 rw[e2,e]
 simp only[List.mem_append,List.mem_cons]
 constructor
 ·rintro(h | h | h)
  ·exact .inl (.inl h)
  ·exact .inr h
  ·exact .inl (.inr h)
 ·rintro((h | h) | h)
  ·exact .inl h
  ·exact .inr (.inr h)
  ·exact .inr (.inl h)
theorem EB {l:List bK} {x:bK}:(nB l x).length=l.length+1:=by
 obtain⟨a,b,e,e2⟩:=HT l x
 rw[e2,e]
 simp; omega
open Go.Vm
theorem EC {α:Type} {R:α→α→Prop} {l:List α} (h:l.Pairwise R) {i j:Nat} {x y:α} (hx:l[i]? =some x) (hy:l[j]? =some y) (hij:i < j):R x y:=by
 obtain⟨h1,rfl⟩:=List.getElem?_eq_some_iff.1 hx
 obtain⟨h2,rfl⟩:=List.getElem?_eq_some_iff.1 hy
 exact List.pairwise_iff_getElem.1 h i j h1 h2 hij
theorem CF {α:Type} {l:List α} {k:Nat} {x:α} (q:α→Prop) [DecidablePred q] (f:α→α) (hx:l[k]? =some x) (hq:q x) (h1:∀y∈l.take k,¬q y) (h2:∀y∈l.drop (k+1),¬q y):l.set k (f x)=l.map λy=>if q y then f y else y:=by
 obtain⟨hk,rfl⟩:=List.getElem?_eq_some_iff.1 hx
 rw[List.set_eq_take_append_cons_drop,if_pos hk]
 have e:(l.map λy=>if q y then f y else y)=(l.take k++l[k]::l.drop (k+1)).map λy=>if q y then f y else y:=by
  rw[← List.drop_eq_getElem_cons hk,List.take_append_drop]
 have m:∀m:List α,(∀y∈m,¬q y)→(m.map λy=>if q y then f y else y)=m:=λm hm=>by
  conv=>rhs; rw[← List.map_id m]
  exact List.map_congr_left λy hy=>by rw[if_neg (hm y hy)]; rfl
 rw[e,List.map_append,List.map_cons,if_pos hq,m _ h1,m _ h2]
theorem xP {α:Type} {l:List α} {f:α→α} (h:∀y∈l,f y=y):l.map f=l:=by
 conv=>rhs; rw[← List.map_id l]
 exact List.map_congr_left λy hy=>h y hy
structure AtE (l:List aN) (q:Int) (p:Nat):Prop where
 le:p≤l.length
 lo:∀x∈l.take p,x.Seq < q
 hi:∀x∈l.drop p,q≤x.Seq
def PW (l:List aN) (q:Int):Bool:=l.any λx=>x.Seq==q
theorem TP {F:Nat} {l:List aN} {q:Int} (hr:l.Pairwise λy x=>y.Seq < x.Seq) (hq:0≤q∧q≤1073741824) (hs:∀x∈l,0≤x.Seq∧x.Seq≤1073741824) (hl:l.length < 1000):∀(G lo hi:Nat),lo≤hi→hi≤l.length→hi - lo < G→
    (∀j x,l[j]? =some x→j < lo→x.Seq < q)→(∀j x,l[j]? =some x→hi≤j→q≤x.Seq)→
    ∃p:Nat,p≤l.length∧aW (λs=>rZ F l q (λx0 x1=>BP F x0 x1) s.1 s.2) G ((lo:Int),(hi:Int))=some (.brk ((p:Int),(p:Int)))∧
      (∀j x,l[j]? =some x→j < p→x.Seq < q)∧(∀j x,l[j]? =some x→p≤j→q≤x.Seq)
  | 0,_,_,_,_,h,_,_=>by omega
  | G+1,lo,hi,h1,h2,h3,h4,h5=>by
    unfold aW rZ
    by_cases hlt:lo < hi
    · have hm:(lo+hi) / 2 < l.length:=by omega
      have hx:l[(lo+hi) / 2]? =some l[(lo+hi) / 2]:=List.getElem?_eq_getElem hm
      generalize l[(lo+hi) / 2]=x at hx
      have gx:=hs x (List.mem_of_getElem? hx)
      have e:BP F x q=some (x.Seq - q):=by unfold BP; rw[wr (by omega) (by omega)]
      simp only[Int.ofNat_lt,hlt,decide_true,if_true,WY (show lo+hi < 1000000000 by omega),bS,hx,Option.bind_some,e]
      by_cases hk:x.Seq < q
      · simp only[show x.Seq - q < 0 by omega,decide_true,if_true,aK]
        rw[jA (by omega)]
        exact TP hr hq hs hl G ((lo+hi) / 2+1) hi (by omega) h2 (by omega) (λj y hy hj=>by
          rcases Nat.lt_or_ge j ((lo+hi) / 2) with w | w
          · exact Int.lt_trans (EC hr hy hx w) hk
          · obtain rfl:j=(lo+hi) / 2:=by omega
            rw[hx] at hy; cases hy; exact hk) h5
      · simp only[show ¬x.Seq - q < 0 by omega,decide_false,Bool.false_eq_true,if_false,aK]
        exact TP hr hq hs hl G lo ((lo+hi) / 2) (by omega) (by omega) (by omega) h4 (λj y hy hj=>by
          rcases Nat.lt_or_ge ((lo+hi) / 2) j with w | w
          · have:=EC hr hx hy w; omega
          · obtain rfl:j=(lo+hi) / 2:=by omega
            rw[hx] at hy; cases hy; omega)
    · obtain rfl:lo=hi:=by omega
      refine⟨lo,h2, ?_,h4,h5⟩
      simp
theorem aET {F:Nat} {l:List aN} {q:Int} (hF:1000≤F) (hr:l.Pairwise λy x=>y.Seq < x.Seq) (hq:0≤q∧q≤1073741824) (hs:∀x∈l,0≤x.Seq∧x.Seq≤1073741824) (hl:l.length < 1000):
    ∃p:Nat,AtE l q p∧LZ F l q (λx0 x1=>BP F x0 x1)=some ((p:Int),PW l q):=by
  obtain⟨p,hp,e,h1,h2⟩:=TP (F:=F) hr hq hs hl F 0 l.length (by omega) (Nat.le_refl _) (by omega) (λj x _ hj=>by omega) (λj x hx hj=>by have:=(List.getElem?_eq_some_iff.1 hx).1; omega)
  refine⟨p,⟨hp,λx hx=> ?_,λx hx=> ?_⟩, ?_⟩
  · obtain⟨i,hi,rfl⟩:=List.getElem_of_mem hx
    simp only[List.length_take] at hi
    rw[List.getElem_take]
    exact h1 i _ (List.getElem?_eq_getElem (by omega)) (by omega)
  · obtain⟨i,hi,rfl⟩:=List.getElem_of_mem hx
    simp only[List.length_drop] at hi
    rw[List.getElem_drop]
    exact h2 (p+i) _ (List.getElem?_eq_getElem (by omega)) (by omega)
  · unfold LZ
    rw[show ((0:Int),(l.length:Int))=(((0:Nat):Int),(l.length:Int)) from rfl,e]
    simp only[aK]
    by_cases hlt:p < l.length
    · have hx:l[p]? =some l[p]:=List.getElem?_eq_getElem hlt
      have hmem:=List.getElem_mem hlt
      generalize l[p]=x at hx hmem
      have gx:=hs x hmem
      have hge:=h2 p x hx (Nat.le_refl _)
      have e:BP F x q=some (x.Seq - q):=by unfold BP; rw[wr (by omega) (by omega)]
      simp only[Int.ofNat_lt,hlt,decide_true,if_true,bS,hx,Option.bind_some,e,aK]
      congr 2
      rw[Bool.eq_iff_iff]
      unfold PW
      simp only[beq_iff_eq,List.any_eq_true]
      constructor
      · intro h; exact⟨x,hmem,by omega⟩
      · rintro⟨y,hy,e⟩
        obtain⟨j,hj,rfl⟩:=List.getElem_of_mem hy
        have hj':l[j]? =some l[j]:=List.getElem?_eq_getElem hj
        rcases Nat.lt_trichotomy j p with w | w | w
        · have:=h1 j _ hj' w; omega
        · subst w; rw[hj'] at hx; cases hx; omega
        · have:=EC hr hx hj' w; omega
    · simp only[show ¬((p:Int) < (l.length:Int)) by omega,decide_false,Bool.false_eq_true,if_false,aK]
      congr 2
      symm
      unfold PW
      rw[List.any_eq_false]
      intro x hx
      obtain⟨j,hj,rfl⟩:=List.getElem_of_mem hx
      have:=h1 j _ (List.getElem?_eq_getElem hj) (by omega)
      simp; omega
structure It (i:bC):Prop where
 id:mK i.Id
 q0:0≤i.Seq∧i.Seq≤1073741824
 k:1≤i.Kind∧i.Kind≤3
 of:gI i.Of
 off:gI i.Off
 len:gI i.Len
def M6 (i:bC) (a:bK) (y:aA):aA:=if i.Kind=1∧y.Id=i.Id then { y with Locs:=nB y.Locs a} else y
def M7 (i:bC) (a:bK) (s:aG):aG:=if i.Kind=2∧s.Seq=i.Seq then { s with Locs:=nB s.Locs a} else s
def CG (l:List aN) (i:bC):aN:=match l.find? λx=>decide (x.Seq=i.Seq) with | some x=>x | none=> { Seq:=i.Seq,Of:=i.Of,Locs:= []}
def uX (l:List aN) (i:bC) (a:bK):List aN:=(l.filter λx=>decide (x.Seq < i.Seq))++ { CG l i with Locs:=nB (CG l i).Locs a}::l.filter λx=>decide (i.Seq < x.Seq)
def JD (c:aB) (i:bC) (a:bK):aB:= { c with
 Seq:=if i.Kind=3 then max c.Seq (i.Seq+1) else c.Seq
 Snaps:=c.Snaps.map (M7 i a)
 Chunks:=c.Chunks.map (M6 i a)
 Exps:=if i.Kind=3 then uX c.Exps i a else c.Exps}
def oD (c:aB) (i:bC):Bool:=if i.Kind=1 then kG c.Chunks i.Id else if i.Kind=2 then c.Snaps.any (λs=>s.Seq==i.Seq) else true
structure Wm (n:Nat) (c:aB):Prop where
 g:zR c
 r:vD c.Chunks
 cn:c.Chunks.length≤400
 cl:∀x∈c.Chunks,x.Locs.length≤n∧x.Data.length≤300
 so:c.Snaps.Pairwise λy x=>y.Seq < x.Seq
 sn:c.Snaps.length≤12
 sl:∀x∈c.Snaps,x.Locs.length≤n
 man:∀s∈c.Snaps,s.Man.Name.size≤100∧s.Man.Parts.length≤10∧∀p∈s.Man.Parts,p.Path.size≤100∧p.Ids.length≤40
 eo:c.Exps.Pairwise λy x=>y.Seq < x.Seq
 en:c.Exps.length≤n
 el:∀x∈c.Exps,x.Locs.length≤n
 eq:∀x∈c.Exps,0≤x.Seq∧x.Seq≤1073741824∧x.Seq < c.Seq
 q:0≤c.Seq∧c.Seq≤1073741826
 vo:c.Vols.length≤20
theorem Wm.sm {n:Nat} {c:aB} (h:Wm n c) (hn:n≤300):Sm c:=
 ⟨h.g,h.sn,h.cn,Nat.le_trans h.en hn,h.vo,λs hs=>Nat.le_trans (h.sl s hs) hn,λs hs=>⟨Nat.le_trans (h.cl s hs).1 hn,(h.cl s hs).2⟩,λs hs=>Nat.le_trans (h.el s hs) hn,h.man⟩
theorem aEU {F n:Nat} {c:aB} {i:bC} {a:bK} (hF:1000≤F) (h:Wm n c) (hn:n≤300) (hi:It i):
    GC F c i a=some (if oD c i then (0,(JD c i a).Seq,(JD c i a).Snaps,(JD c i a).Chunks,(JD c i a).Exps) else (8,c.Seq,c.Snaps,c.Chunks,c.Exps)):=by
  have hcn:=h.cn
  have hsn:=h.sn
  have hen:=h.en
  have hk:=hi.k
  unfold GC JD oD
  by_cases k1:i.Kind=1
  · have e2:c.Snaps.map (M7 i a)=c.Snaps:=xP λy _=>by unfold M7; rw[if_neg (by omega)]
    obtain⟨p,ha,e⟩:=TE hF h.r hi.id (l:=c.Chunks) (by omega)
    rw[if_pos (by simp[k1]),e]
    simp only[Option.bind_some,k1,if_true,e2,show ¬((1:Int)=3) by omega,if_false]
    cases hh:kG c.Chunks i.Id with
    | false=>simp[dC]
    | true=>
      obtain⟨x,h1,h2⟩:=GD h.r ha hi.id hh
      have hx:=List.mem_of_getElem? h1
      simp only[Bool.not_true,Bool.false_eq_true,if_false,bS,h1,Option.bind_some,HS hF (show x.Locs.length≤400 by have:=(h.cl x hx).1; omega),aK,Int.toNat_natCast]
      rw[CF (λy:aA=>y.Id=i.Id) (λy=> { y with Locs:=nB y.Locs a}) h1 h2 (λy hy e=>by
        have:=ha.lo y hy
        rw[e] at this; omega) (λy hy e=>by
        obtain⟨j,hj,rfl⟩:=List.getElem_of_mem hy
        simp only[List.length_drop] at hj
        rw[List.getElem_drop] at e
        have:=h.r.2 p (p+1+j) _ _ h1 (List.getElem?_eq_getElem (by omega)) (by omega)
        rw[e,h2] at this; omega)]
      simp[M6,k1]
  · have e1:c.Chunks.map (M6 i a)=c.Chunks:=xP λy _=>by unfold M6; rw[if_neg (by omega)]
    rw[if_neg (by simpa using k1)]
    by_cases k2:i.Kind=2
    · have hi2:pE F c.Snaps (λx0=>LY F x0 i)=some (pA c.Snaps λs=>s.Seq==i.Seq):=by
        unfold pE
        refine iH (l:=c.Snaps) (λs:aG=>s.Seq==i.Seq) (by omega) (λi' x hx hm hi'=> ?_) (by unfold lD; simp)
        unfold lD LY
        rw[jA (by omega)]
        simp only[bS,hx,Option.bind_some,Int.ofNat_lt,hi',decide_true,if_true]
        split <;> rfl
      rw[if_pos (by simp[k2]),hi2]
      simp only[Option.bind_some,k2,show ¬((2:Int)=1) by omega,if_true,e1,show ¬((2:Int)=3) by omega,if_false]
      cases ha:c.Snaps.any (λs=>s.Seq==i.Seq) with
      | false=>rw[jG ha]; simp[dC]
      | true=>
        obtain⟨p,x,h1,h2,h3,h4⟩:=jF ha
        have hx:=List.mem_of_getElem? h2
        rw[h1]
        simp only[show decide ((p:Int) < 0)=false from decide_eq_false (by omega),Bool.false_eq_true,if_false,bS,h2,Option.bind_some,HS hF (show x.Locs.length≤400 by have:=h.sl x hx; omega),aK,Int.toNat_natCast,if_true]
        have h3:x.Seq=i.Seq:=by simpa using h3
        rw[CF (λy:aG=>y.Seq=i.Seq) (λy=> { y with Locs:=nB y.Locs a}) h2 h3 (λy hy e=>by
          have:=h4 y hy
          simp[e] at this) (λy hy e=>by
          obtain⟨j,hj,rfl⟩:=List.getElem_of_mem hy
          simp only[List.length_drop] at hj
          rw[List.getElem_drop] at e
          have:=EC h.so h2 (List.getElem?_eq_getElem (show p+1+j < c.Snaps.length by omega)) (by omega)
          omega)]
        simp[M7,k2]
    · have k3:i.Kind=3:=by omega
      have e2:c.Snaps.map (M7 i a)=c.Snaps:=xP λy _=>by unfold M7; rw[if_neg (by omega)]
      obtain⟨p,ha,e⟩:=aET hF h.eo hi.q0 (λx hx=>⟨(h.eq x hx).1,(h.eq x hx).2.1⟩) (l:=c.Exps) (by omega)
      have hp:=ha.le
      rw[if_neg (by simpa using k2),if_pos (by simp[k3]),e]
      simp only[Option.bind_some,k3,if_true,e1,e2,show ¬((3:Int)=1) by omega,show ¬((3:Int)=2) by omega,if_false]
      have hq0:=hi.q0
      have lowE:(c.Exps.filter λx=>decide (x.Seq < i.Seq))=c.Exps.take p:=by
        have e:(c.Exps.filter λx=>decide (x.Seq < i.Seq))=(c.Exps.take p++c.Exps.drop p).filter λx=>decide (x.Seq < i.Seq):=by rw[List.take_append_drop]
        rw[e,List.filter_append,List.filter_eq_self.2 λy hy=>decide_eq_true (ha.lo y hy),List.filter_eq_nil_iff.2 λy hy=>by
          have:=ha.hi y hy
          simp; omega]
        simp
      have higE:∀m,p+m≤c.Exps.length→(∀y∈(c.Exps.drop p).take m,y.Seq=i.Seq)→(∀y∈c.Exps.drop (p+m),y.Seq≠i.Seq)→(c.Exps.filter λx=>decide (i.Seq < x.Seq))=c.Exps.drop (p+m):=λm hm h5 h6=>by
        have e:(c.Exps.filter λx=>decide (i.Seq < x.Seq))=(c.Exps.take p++((c.Exps.drop p).take m++(c.Exps.drop p).drop m)).filter λx=>decide (i.Seq < x.Seq):=by rw[List.take_append_drop,List.take_append_drop]
        rw[e,List.filter_append,List.filter_append,List.filter_eq_nil_iff.2 λy hy=>by
          have:=ha.lo y hy
          simp; omega,List.filter_eq_nil_iff.2 λy hy=>by simp[h5 y hy],List.drop_drop,List.filter_eq_self.2 λy hy=>by
          have h7:=ha.hi y (by
            have:y∈(c.Exps.drop p).drop m:=by rw[List.drop_drop]; exact hy
            exact List.mem_of_mem_drop this)
          have:=h6 y hy
          exact decide_eq_true (by omega)]
        simp
      cases hh:PW c.Exps i.Seq with
      | false=>
        have hf:(c.Exps.find? λx=>decide (x.Seq=i.Seq))=none:=List.find?_eq_none.2 λx hx=>by
          have:=List.any_eq_false.1 hh x hx
          simpa using this
        have g0:(c.Exps.take p++({ Seq:=i.Seq,Of:=i.Of,Locs:= []}:aN)::c.Exps.drop p)[p]? =some { Seq:=i.Seq,Of:=i.Of,Locs:= []}:=by
          rw[List.getElem?_append_right (by simp; omega)]
          simp[Nat.min_eq_left hp]
        have eh:=higE 0 hp (λy hy=>by simp at hy) (λy hy e=>by
          have:=List.any_eq_false.1 hh y (List.mem_of_mem_drop hy)
          simp[e] at this)
        simp only[Nat.add_zero] at eh
        simp only[Bool.not_false,if_true,BR hp (show c.Exps.length < 1000 by omega),Option.bind_some,aK,bS,g0,HS hF (show ([]:List bK).length≤400 by simp),Int.toNat_natCast,wr (n:=i.Seq+1) (by omega) (by omega)]
        unfold uX CG
        rw[hf,lowE,eh,List.set_append_right _ _ (by simp; omega)]
        simp[Nat.min_eq_left hp]
      | true=>
        obtain⟨y,hy,ey⟩:=List.any_eq_true.1 hh
        have ey:y.Seq=i.Seq:=by simpa using ey
        have hpl:p < c.Exps.length:=by
          rcases Nat.lt_or_ge p c.Exps.length with w | w
          · exact w
          · have:y∈c.Exps.take p:=by rw[List.take_of_length_le w]; exact hy
            have:=ha.lo y this; omega
        have h1:c.Exps[p]? =some c.Exps[p]:=List.getElem?_eq_getElem hpl
        have hx:=List.getElem_mem hpl
        have h2:(c.Exps[p]).Seq=i.Seq:=by
          have hge:=ha.hi c.Exps[p] (by rw[List.drop_eq_getElem_cons hpl]; exact List.mem_cons_self)
          obtain⟨j,hj,rfl⟩:=List.getElem_of_mem hy
          rcases Nat.lt_trichotomy j p with w | w | w
          · have:=ha.lo (c.Exps[j]) (List.mem_of_getElem? (i:=j) (by rw[List.getElem?_take_of_lt w]; exact List.getElem?_eq_getElem hj)); omega
          · subst w; exact ey
          · have:=EC h.eo h1 (List.getElem?_eq_getElem hj) w; omega
        generalize c.Exps[p]=x at h1 h2 hx
        have hdr:∀z∈c.Exps.drop (p+1),x.Seq < z.Seq:=λz hz=>by
          obtain⟨j,hj,rfl⟩:=List.getElem_of_mem hz
          simp only[List.length_drop] at hj
          rw[List.getElem_drop]
          exact EC h.eo h1 (List.getElem?_eq_getElem (show p+1+j < c.Exps.length by omega)) (by omega)
        have hf:(c.Exps.find? λz=>decide (z.Seq=i.Seq))=some x:=by
          cases e:c.Exps.find? λz=>decide (z.Seq=i.Seq) with
          | none=>
            have:=List.find?_eq_none.1 e x hx
            simp[h2] at this
          | some z=>
            have h5:z.Seq=i.Seq:=by simpa using List.find?_some e
            obtain⟨j,hj,rfl⟩:=List.getElem_of_mem (List.mem_of_find?_eq_some e)
            rcases Nat.lt_trichotomy j p with w | w | w
            · have:=EC h.eo (List.getElem?_eq_getElem hj) h1 w; omega
            · subst w; rw[List.getElem?_eq_getElem hj] at h1; exact h1
            · have:=EC h.eo h1 (List.getElem?_eq_getElem hj) w; omega
        have eh:=higE 1 (by omega) (λz hz=>by
          rw[List.drop_eq_getElem_cons hpl,List.take_succ_cons,List.take_zero] at hz
          have:z=c.Exps[p]:=List.mem_singleton.1 hz
          rw[List.getElem?_eq_getElem hpl] at h1
          rw[this,Option.some.inj h1,h2]) (λz hz e=>by have:=hdr z hz; omega)
        have hsq:=(h.eq x hx).2.2
        simp only[Bool.not_true,Bool.false_eq_true,if_false,aK,bS,h1,Option.bind_some,HS hF (show x.Locs.length≤400 by have:=h.el x hx; omega),Int.toNat_natCast]
        unfold uX CG
        rw[hf,lowE,eh,List.set_eq_take_append_cons_drop,if_pos hpl,show max c.Seq (i.Seq+1)=c.Seq by omega]
open Go.Vm
theorem ED {S ρ:Type} {body:S→Option (Lp S ρ)} {n:Nat} (emb:Nat→S) (p:Nat→Bool) (R:ρ→Prop) (hb:∀i,i < n→p i=true→body (emb i)=some (.go (emb (i+1))))
    (hb2:∀i,i < n→p i=false→∃r,R r∧body (emb i)=some (.ret r)) (he:body (emb n)=some (.brk (emb n))):∀(m k G:Nat),k+m=n→m < G→
    ((∀j,k≤j→j < n→p j=true)∧aW body G (emb k)=some (.brk (emb n)))∨((∃j,k≤j∧j < n∧p j=false)∧∃r,R r∧aW body G (emb k)=some (.ret r))
  | 0,k,G+1,h,_=>.inl ⟨λj h1 h2=>by omega,by
      obtain rfl:k=n:=by omega
      unfold aW; rw[he]⟩
  | m+1,k,G+1,h,hG=>by
    unfold aW
    cases hp:p k with
    | false=>
      obtain⟨r,h1,h2⟩:=hb2 k (by omega) hp
      exact .inr ⟨⟨k,Nat.le_refl _,by omega,hp⟩,r,h1,by rw[h2]⟩
    | true=>
      rw[hb k (by omega) hp]
      rcases ED emb p R hb hb2 he m (k+1) G (by omega) (by omega) with⟨h1,h2⟩ | ⟨⟨j,h1,h2,h3⟩,h4⟩
      · refine .inl ⟨λj h3 h4=> ?_,h2⟩
        rcases Nat.lt_or_ge k j with w | w
        · exact h1 j w h4
        · obtain rfl:j=k:=by omega
          exact hp
      · exact .inr ⟨⟨j,by omega,h2,h3⟩,h4⟩
def NS (p:Int) (i:bC) (y:aA):aA:=if p=0∧i.Kind=1∧y.Id=i.Id then { y with Staged:=false,Data:= []} else y
def yL (p:Int) (c:aB) (i:bC) (a:bK):aB:= { JD c i a with Chunks:=(JD c i a).Chunks.map (NS p i)}
def xQ (v f:Int) (i:bC):bK:= { Vol:=v,File:=f,Off:=i.Off,Len:=i.Len}
def CS (p v f:Int) (c:aB) (l:List bC):aB:=l.foldl (λc i=>yL p c i (xQ v f i)) c
def ws (c:aB) (v:Int) (x:aP):aB:= { c with Vols:=c.Vols.set v.toNat { x with State:=2,Files:=x.Files+1}}
def pY (l:List bC) (s:aG):Bool:=l.any λi=>i.Kind==3 && s.Seq==i.Of
def qN (c:aB) (d:aS) (x:aP):aB:=CS x.Pool d.Vol (x.Files+1) (ws c d.Vol x) d.Items
def JE (c:aB) (d:aS) (x:aP):aB:= { qN c d x with Snaps:=(qN c d x).Snaps.filter λs=> !pY d.Items s}
def GL (c:aB) (d:aS) (x:aP):aB:=if (JE c d x).Snaps.length < (qN c d x).Snaps.length then { JE c d x with Chunks:=I6 (JE c d x)} else JE c d x
theorem CH (i:bC) (a:bK) (y:aA):(M6 i a y).Id=y.Id:=by unfold M6; split <;> rfl
theorem M9 (p:Int) (i:bC) (y:aA):(NS p i y).Id=y.Id:=by unfold NS; split <;> rfl
theorem CI (i:bC) (a:bK) (y:aG):(M7 i a y).Seq=y.Seq∧(M7 i a y).Man=y.Man:=by unfold M7; split <;> exact⟨rfl,rfl⟩
theorem NA (l:List aN) (i:bC):(CG l i).Seq=i.Seq:=by
 unfold CG
 cases e:l.find? λx=>decide (x.Seq=i.Seq) with
 | none=>rfl
 | some x=>simpa using List.find?_some e
theorem PX (l:List aN) (i:bC):CG l i∈l∨CG l i= { Seq:=i.Seq,Of:=i.Of,Locs:= []}:=by
 unfold CG
 cases e:l.find? λx=>decide (x.Seq=i.Seq) with
 | none=>exact .inr rfl
 | some x=>exact .inl (List.mem_of_find?_eq_some e)
theorem xR {l:List aA} {f:aA→aA} (h:∀y,(f y).Id=y.Id) (d:bP):kG (l.map f) d=kG l d:=by
 unfold kG
 rw[List.any_map]
 congr 1
 funext y
 simp[h y]
theorem NB {p:Int} {c:aB} {i j:bC} {a:bK}:oD (yL p c i a) j=oD c j:=by
 unfold oD
 have e1:kG (yL p c i a).Chunks j.Id=kG c.Chunks j.Id:=by
  show kG ((c.Chunks.map (M6 i a)).map (NS p i)) j.Id=_
  rw[xR (M9 p i),xR (CH i a)]
 have e2:(yL p c i a).Snaps.any (λs=>s.Seq==j.Seq)=c.Snaps.any λs=>s.Seq==j.Seq:=by
  show (c.Snaps.map (M7 i a)).any _=_
  rw[List.any_map]
  congr 1
  funext y
  simp[(CI i a y).1]
 rw[e1,e2]
theorem NC (l:List aN) (i:bC) (a:bK):(uX l i a).length≤l.length+1:=by
 have:∀m:List aN,(m.filter λx=>decide (x.Seq < i.Seq)).length+(m.filter λx=>decide (i.Seq < x.Seq)).length≤m.length:=by
  intro m
  induction m with
  | nil=>simp
  | cons b m ih=>
   by_cases h1:b.Seq < i.Seq
   ·have h2:¬i.Seq < b.Seq:=by omega
    simp[List.filter_cons,h1,h2]; omega
   ·by_cases h2:i.Seq < b.Seq <;> simp[List.filter_cons,h1,h2] <;> omega
 have:=this l
 unfold uX
 simp only[List.length_append,List.length_cons]
 omega
theorem ND {P:aN→Prop} {l:List aN} {i:bC} {a:bK} (h:∀x∈l,P x) (h1:∀x∈l,P { x with Locs:=nB x.Locs a}) (h2:P { Seq:=i.Seq,Of:=i.Of,Locs:=nB [] a}):∀x∈uX l i a,P x:=by
 intro x hx
 unfold uX at hx
 rcases List.mem_append.1 hx with hx | hx
 ·exact h x (List.mem_filter.1 hx).1
 ·rcases List.mem_cons.1 hx with rfl | hx
  ·rcases PX l i with e | e
   ·exact h1 _ e
   ·rw[e]; exact h2
  ·exact h x (List.mem_filter.1 hx).1
theorem PY {l:List aN} {i:bC} {a:bK} (h:l.Pairwise λy x=>y.Seq < x.Seq):(uX l i a).Pairwise λy x=>y.Seq < x.Seq:=by
 unfold uX
 have hs:=NA l i
 refine List.pairwise_append.2 ⟨h.sublist List.filter_sublist,List.pairwise_cons.2 ⟨λy hy=> ?_,h.sublist List.filter_sublist⟩,λy hy z hz=> ?_⟩
 ·have:=of_decide_eq_true (List.mem_filter.1 hy).2
  simp only[hs]; exact this
 ·have h1:=of_decide_eq_true (List.mem_filter.1 hy).2
  rcases List.mem_cons.1 hz with rfl | hz
  ·simp only[hs]; exact h1
  ·have:=of_decide_eq_true (List.mem_filter.1 hz).2
   omega
theorem GM {l:List bK} {a:bK} (h:gL mW l) (ha:mW a):gL mW (nB l a):=λx hx=>by
 rcases M5.1 hx with h1 | rfl
 ·exact h x h1
 ·exact ha
theorem CJ {l:List aA} {f:aA→aA} (h:∀y,(f y).Id=y.Id) (hr:vD l):vD (l.map f):=by
 rw[BQ] at*
 refine⟨λx hx=> ?_,List.pairwise_map.2 (hr.2.imp fun {a b} e=>by rw[h a,h b]; exact e)⟩
 obtain⟨y,hy,rfl⟩:=List.mem_map.1 hx
 rw[h y]; exact hr.1 y hy
theorem Wm.step {n:Nat} {c:aB} {i:bC} {a:bK} (p:Int) (h:Wm n c) (hi:It i) (ha:mW a):Wm (n+1) (yL p c i a):=by
 obtain⟨g0,g1,g2,g3,g4⟩:=h.g
 have hq:=h.q
 have hiq:=hi.q0
 have hsq:0≤(yL p c i a).Seq∧(yL p c i a).Seq≤1073741826∧c.Seq≤(yL p c i a).Seq∧(i.Kind=3→i.Seq < (yL p c i a).Seq):=by
  show 0≤(if i.Kind=3 then max c.Seq (i.Seq+1) else c.Seq)∧(if i.Kind=3 then max c.Seq (i.Seq+1) else c.Seq)≤_∧c.Seq≤(if i.Kind=3 then max c.Seq (i.Seq+1) else c.Seq)∧(i.Kind=3→i.Seq < (if i.Kind=3 then max c.Seq (i.Seq+1) else c.Seq))
  split <;> omega
 have el:∀P:aN→Prop,(∀x∈c.Exps,P x)→(∀x∈c.Exps,P { x with Locs:=nB x.Locs a})→(i.Kind=3→P { Seq:=i.Seq,Of:=i.Of,Locs:=nB [] a})→∀x∈(yL p c i a).Exps,P x:=λP h1 h2 h3 x hx=>by
  have hx:x∈(if i.Kind=3 then uX c.Exps i a else c.Exps):=hx
  split at hx
  ·rename_i k; exact ND h1 h2 (h3 k) x hx
  ·exact h1 x hx
 have cl:∀P:aA→Prop,(∀x∈c.Chunks,∀l d s,(l=x.Locs∨l=nB x.Locs a)→(d=x.Data∨d= [])→P { Id:=x.Id,Staged:=s,Data:=d,Locs:=l})→∀x∈(yL p c i a).Chunks,P x:=λP h1 x hx=>by
  obtain⟨y,hy,rfl⟩:=List.mem_map.1 hx
  obtain⟨z,hz,rfl⟩:=List.mem_map.1 hy
  unfold NS M6
  split <;> split <;> first | exact h1 z hz _ _ _ (.inr rfl) (.inr rfl) | exact h1 z hz _ _ _ (.inl rfl) (.inr rfl) | exact h1 z hz _ _ _ (.inr rfl) (.inl rfl) | exact h1 z hz _ _ _ (.inl rfl) (.inl rfl)
 have sl:∀P:aG→Prop,(∀x∈c.Snaps,∀l,(l=x.Locs∨l=nB x.Locs a)→P { x with Locs:=l})→∀x∈(yL p c i a).Snaps,P x:=λP h1 x hx=>by
  obtain⟨z,hz,rfl⟩:=List.mem_map.1 hx
  unfold M7
  split
  ·exact h1 z hz _ (.inr rfl)
  ·exact h1 z hz _ (.inl rfl)
 have pl:∀l l':List bK,(l'=l∨l'=nB l a)→l.length≤n→l'.length≤n+1:=λl l' e hl=>by
  rcases e with rfl | rfl
  ·omega
  ·rw[EB]; omega
 have pg:∀l l':List bK,(l'=l∨l'=nB l a)→gL mW l→gL mW l':=λl l' e hl=>by
  rcases e with rfl | rfl
  ·exact hl
  ·exact GM hl ha
 have p0:(nB [] a).length≤n+1:=by rw[EB]; simp
 refine⟨⟨⟨by omega,by omega⟩,sl _ λx hx l e=>⟨(g1 x hx).1,(g1 x hx).2.1,pg _ _ e (g1 x hx).2.2⟩,cl _ λx hx l d s e e2=>⟨(g2 x hx).1,trivial, ?_,pg _ _ e (g2 x hx).2.2.2⟩,el _ g3 (λx hx=>⟨(g3 x hx).1,(g3 x hx).2.1,GM (g3 x hx).2.2 ha⟩) λ_=>⟨⟨by show _≤i.Seq; omega,by show i.Seq < _; omega⟩,hi.of,GM (λ_ h=>by cases h) ha⟩,g4⟩,CJ (M9 p i) (CJ (CH i a) h.r), ?_,cl _ λx hx l d s e e2=>⟨pl _ _ e (h.cl x hx).1, ?_⟩,List.pairwise_map.2 (h.so.imp fun {y z} e=>by rw[(CI i a y).1,(CI i a z).1]; exact e), ?_,sl _ λx hx l e=>pl _ _ e (h.sl x hx),sl _ λx hx l e=>h.man x hx, ?_, ?_,el _ (λx hx=>Nat.le_succ_of_le (h.el x hx)) (λx hx=>pl _ _ (.inr rfl) (h.el x hx)) λ_=>p0, ?_,⟨hsq.1,hsq.2.1⟩,h.vo⟩
 ·rcases e2 with rfl | rfl
  ·exact(g2 x hx).2.2.1
  ·intro z hz; cases hz
 ·show ((c.Chunks.map _).map _).length≤_
  simp; exact h.cn
 ·rcases e2 with rfl | rfl
  ·exact(h.cl x hx).2
  ·simp
 ·show (c.Snaps.map _).length≤_
  simp; exact h.sn
 ·show List.Pairwise _ (if i.Kind=3 then uX c.Exps i a else c.Exps)
  split
  ·exact PY h.eo
  ·exact h.eo
 ·show (if i.Kind=3 then uX c.Exps i a else c.Exps).length≤_
  have:=h.en
  split
  ·have:=NC c.Exps i a; omega
  ·omega
 ·refine λx hx=>⟨?_, ?_, ?_⟩
  ·exact el (λx=>0≤x.Seq) (λx hx=>(h.eq x hx).1) (λx hx=>(h.eq x hx).1) (λ_=>hiq.1) x hx
  ·exact el (λx=>x.Seq≤1073741824) (λx hx=>(h.eq x hx).2.1) (λx hx=>(h.eq x hx).2.1) (λ_=>hiq.2) x hx
  ·exact el (λx=>x.Seq < (yL p c i a).Seq) (λx hx=>by have:=(h.eq x hx).2.2; omega) (λx hx=>by have:=(h.eq x hx).2.2; simp only; omega) (λk=>hsq.2.2.2 k) x hx
theorem CK {p v f:Int} (gv:gI v) (gf:gI f):∀ {l:List bC} {n:Nat} {c:aB},Wm n c→(∀i∈l,It i)→Wm (n+l.length) (CS p v f c l)
 | [],_,_,h,_=>h
 | i::l,n,c,h,hi=>by
  have:=CK (p:=p) gv gf (l:=l) (h.step p (hi i List.mem_cons_self) (a:=xQ v f i) ⟨gv,gf,(hi i List.mem_cons_self).off,(hi i List.mem_cons_self).len⟩) λj hj=>hi j (List.mem_cons_of_mem _ hj)
  rw[List.length_cons,show n+(l.length+1)=n+1+l.length by omega]
  exact this
theorem EE {p v f:Int} {j:bC}:∀ {l:List bC} {c:aB},oD (CS p v f c l) j=oD c j
 | [],_=>rfl
 | i::l,c=>by
  show oD (CS p v f (yL p c i (xQ v f i)) l) j=_
  rw[EE,NB]
open Go.Vm
structure Wd (d:aS):Prop where
 n:d.Items.length≤64
 it:∀i∈d.Items,mK i.Id∧(0≤i.Seq∧i.Seq≤1073741824)∧gI i.Of∧gI i.Off∧gI i.Len
def gs (l:List bC):List Int:=l.foldl (λa i=>if i.Kind==3 then lU a i.Of else a) []
theorem NE {l:List Int} {x:Int} (q:Int→Bool):(lU l x).any q=(l.any q || q x):=by
 unfold lU
 split
 ·rename_i h
  obtain⟨y,hy,e⟩:=List.any_eq_true.1 h
  have e:x=y:=by simpa using e
  subst e
  cases hq:q x with
  | false=>simp
  | true=>simp[List.any_eq_true.2 ⟨x,hy,hq⟩]
 ·simp
theorem TQ (s:aG):∀(l:List bC),((gs l).any λz=>s.Seq==z)=pY l s:=by
 have:∀(l:List bC) (a:List Int),((l.foldl (λa i=>if i.Kind==3 then lU a i.Of else a) a).any λz=>s.Seq==z)=(a.any (λz=>s.Seq==z) || pY l s):=by
  intro l
  induction l with
  | nil=>intro a; simp[pY]
  | cons i l ih=>
   intro a
   rw[List.foldl_cons,ih]
   unfold pY
   rw[List.any_cons]
   cases e:i.Kind==3 with
   | false=>simp[e]
   | true=>simp[e,NE,Bool.or_assoc]
 intro l
 unfold gs
 rw[this]
 simp
theorem PZ (l:List bC) (i:bC):gs (l++ [i])=if i.Kind==3 then lU (gs l) i.Of else gs l:=by
 unfold gs
 rw[List.foldl_append]
 rfl
theorem NF (p v f:Int) (c:aB) (l:List bC) (i:bC):CS p v f c (l++ [i])=yL p (CS p v f c l) i (xQ v f i):=by
 unfold CS
 rw[List.foldl_append]
 rfl
theorem sK (p v f:Int):∀(l:List bC) (c:aB),(CS p v f c l).Vols=c.Vols
 | [],_=>rfl
 | i::l,c=>sK p v f l (yL p c i (xQ v f i))
theorem Q3 {c:aB} {v:Int} {x:aP} (h:Sm c) (hg:Gd c) (hx:c.Vols[v.toNat]? =some x):Wm 200 (ws c v x):=by
 obtain⟨g0,g1,g2,g3,g4⟩:=h.g
 have hq:=hg.q
 unfold gP at hq
 simp only[Bool.and_eq_true,decide_eq_true_eq] at hq
 have hxb:=hg.v x (List.mem_of_getElem? hx)
 unfold nH gP at hxb
 simp only[Bool.and_eq_true,Bool.or_eq_true,decide_eq_true_eq,beq_iff_eq] at hxb
 refine⟨⟨g0,g1,g2,g3,λy hy=> ?_⟩,BQ.2 ⟨λy hy=>(g2 y hy).1,hg.co⟩,h.ch,λy hy=>⟨(hg.cl y hy).n,(h.cl y hy).2⟩,hg.so,h.sn,λy hy=>(hg.sl y hy).n,h.man,hg.eo,hg.en,λy hy=>(hg.el y hy).n,λy hy=> ?_,⟨hq.1,by show c.Seq≤_; omega⟩, ?_⟩
 ·rcases List.mem_or_eq_of_mem_set hy with h1 | rfl
  ·exact g4 y h1
  ·have:=g4 x (List.mem_of_getElem? hx)
   exact⟨this.1,this.2.1,(⟨by decide,by decide⟩:gI 2),(⟨by show _≤x.Files+1; omega,by show x.Files+1 < _; omega⟩:gI (x.Files+1))⟩
 ·have:=(hg.eq y hy).1
  unfold gP at this
  simp only[Bool.and_eq_true,decide_eq_true_eq] at this
  exact⟨this.1,by omega,by show y.Seq < c.Seq; omega⟩
 ·show (c.Vols.set _ _).length≤20
  rw[List.length_set]; exact h.vo
theorem aEV {F:Nat} {l:List bC} (hF:1000≤F) (hl:l.length≤64):I3 F l (λx0=>I2 F x0)=some (l.any λi=>decide (i.Kind < 1) || decide (3 < i.Kind)):=by
 have h1:L7 F l (λx0=>I2 F x0)=some (pA l λi=>decide (i.Kind < 1) || decide (3 < i.Kind)):=by
  unfold L7
  refine iH (l:=l) (λi:bC=>decide (i.Kind < 1) || decide (3 < i.Kind)) (by omega) (λi x hx hm hi=> ?_) (by unfold sB; simp)
  unfold sB I2
  rw[jA (by omega)]
  simp only[bS,hx,Option.bind_some,Int.ofNat_lt,hi,decide_true,if_true]
  by_cases a:x.Kind < 1 <;> by_cases b:3 < x.Kind <;> simp[a,b,aK]
 unfold I3
 rw[h1]
 simp only[Option.bind_some]
 cases ha:l.any (λi=>decide (i.Kind < 1) || decide (3 < i.Kind)) with
 | false=>rw[jG ha]; rfl
 | true=>
  obtain⟨i,x,h1, -⟩:=jF ha
  rw[h1]
  simp
def oI (x:aP) (d:aS):Bool:= !(x.State==3) && !d.Items.isEmpty && !d.Items.any λi=>decide (i.Kind < 1) || decide (3 < i.Kind)
theorem P0 {l:List aA} {d:bP} {p:Nat} {y:aA} (f:aA→aA) (hr:vD l) (ha:At l d p) (hy:l[p]? =some y) (hd:y.Id=d):l.set p (f y)=l.map λz=>if z.Id=d then f z else z:=
 CF (λz:aA=>z.Id=d) f hy hd (λz hz e=>by
  have:=ha.lo z hz
  rw[e] at this; omega) λz hz e=>by
  obtain⟨j,hj,rfl⟩:=List.getElem_of_mem hz
  simp only[List.length_drop] at hj
  rw[List.getElem_drop] at e
  have:=hr.2 p (p+1+j) _ _ hy (List.getElem?_eq_getElem (by omega)) (by omega)
  rw[e,hd] at this; omega
theorem EF {F:Nat} {c:aB} {d:aS} {x:aP} {i:bC} {k:Nat} (hF:1000≤F) (hW:Wm 200 (ws c d.Vol x)) (gv:gI d.Vol) (gf:0≤x.Files∧x.Files≤65535) (hn:d.Items.length≤64) (hI:∀i∈d.Items,It i) (hk:k < d.Items.length) (hi:d.Items[k]? =some i)
    (e:aB) (he:e=CS x.Pool d.Vol (x.Files+1) (ws c d.Vol x) (d.Items.take k)):
    (oD (ws c d.Vol x) i=true→oA F c d x (gs (d.Items.take k)) e.Seq e.Snaps e.Chunks e.Exps (k:Int)=some (.go (gs (d.Items.take (k+1)),(yL x.Pool e i (xQ d.Vol (x.Files+1) i)).Seq,(yL x.Pool e i (xQ d.Vol (x.Files+1) i)).Snaps,(yL x.Pool e i (xQ d.Vol (x.Files+1) i)).Chunks,(yL x.Pool e i (xQ d.Vol (x.Files+1) i)).Exps,((k+1:Nat):Int))))∧
    (oD (ws c d.Vol x) i=false→∃r,r.1=8∧oA F c d x (gs (d.Items.take k)) e.Seq e.Snaps e.Chunks e.Exps (k:Int)=some (.ret r)):=by
  have gF:gI (x.Files+1):=⟨by omega,by omega⟩
  have hm:=List.mem_of_getElem? hi
  have It':=hI i hm
  have hWe:=CK (p:=x.Pool) gv gF (l:=d.Items.take k) hW λj hj=>hI j (List.mem_of_mem_take hj)
  have hp:=EE (p:=x.Pool) (v:=d.Vol) (f:=x.Files+1) (j:=i) (l:=d.Items.take k) (c:=ws c d.Vol x)
  have hv:=sK x.Pool d.Vol (x.Files+1) (d.Items.take k) (ws c d.Vol x)
  rw[← he] at hWe hp hv
  rw[List.length_take] at hWe
  have hV:(c.Vols.set d.Vol.toNat { x with State:=2}).set d.Vol.toNat { ({ x with State:=2}:aP) with Files:=x.Files+1}=e.Vols:=by
    rw[hv,List.set_set]; rfl
  have hga:mW (xQ d.Vol (x.Files+1) i):=⟨gv,gF,It'.off,It'.len⟩
  have hgs:gs (d.Items.take (k+1))=if i.Kind==3 then lU (gs (d.Items.take k)) i.Of else gs (d.Items.take k):=by
    obtain⟨hk',rfl⟩:=List.getElem?_eq_some_iff.1 hi
    rw[List.take_succ_eq_append_getElem hk,PZ]
  have h123:=aEU (a:=xQ d.Vol (x.Files+1) i) hF hWe (by omega) It'
  have wF:IntKind.wrap .i64 (x.Files+1)=x.Files+1:=wr (by omega) (by omega)
  have h123':GC F { Seq:=e.Seq,Snaps:=e.Snaps,Chunks:=e.Chunks,Exps:=e.Exps,Vols:=e.Vols} i { Vol:=d.Vol,File:=x.Files+1,Off:=i.Off,Len:=i.Len}=GC F e i (xQ d.Vol (x.Files+1) i):=rfl
  constructor
  · intro hpr
    rw[hp,hpr,if_pos rfl] at h123
    have hr:=CJ (CH i (xQ d.Vol (x.Files+1) i)) hWe.r
    obtain⟨p,ha,e116⟩:=TE hF hr It'.id (l:=e.Chunks.map (M6 i (xQ d.Vol (x.Files+1) i))) (by simp; have:=hWe.cn; omega)
    have e116':uW F (JD e i (xQ d.Vol (x.Files+1) i)).Chunks i.Id=_:=e116
    unfold oA
    rw[jA (by omega)]
    simp only[bS,hi,Option.bind_some,Int.ofNat_lt,hk,decide_true,if_true,wF,hV,h123',h123,e116']
    rw[if_neg (by simp),hgs]
    have gn:∀ {ρ:Type} (k':List Int→Option ρ),(after (if (i.Kind==3)=true then some (.brk (lU (gs (d.Items.take k)) i.Of)) else some (.brk (gs (d.Items.take k))):Option (Lp (List Int) ρ)) k')=k' (if i.Kind==3 then lU (gs (d.Items.take k)) i.Of else gs (d.Items.take k)):=λk'=>by split <;> rfl
    rw[gn]
    have fin:(yL x.Pool e i (xQ d.Vol (x.Files+1) i)).Chunks=(JD e i (xQ d.Vol (x.Files+1) i)).Chunks.map (NS x.Pool i):=rfl
    by_cases k1:i.Kind=1
    · have hhas:kG (JD e i (xQ d.Vol (x.Files+1) i)).Chunks i.Id=true:=by
        show kG (e.Chunks.map (M6 i (xQ d.Vol (x.Files+1) i))) i.Id=true
        rw[xR (CH i _)]
        rw[← hp] at hpr
        unfold oD at hpr
        rwa [if_pos k1] at hpr
      rw[show kG (e.Chunks.map (M6 i (xQ d.Vol (x.Files+1) i))) i.Id=true from hhas]
      obtain⟨y,y1,y2⟩:=GD hr ha It'.id hhas
      simp only[k1,beq_self_eq_true,if_true,aK]
      by_cases p0:x.Pool=0
      · have y1':(JD e i (xQ d.Vol (x.Files+1) i)).Chunks[p]? =some y:=y1
        have hpl:=(List.getElem?_eq_some_iff.1 y1').1
        have hb:(x.Pool==0)=true:=by simpa using p0
        simp only[hb,if_true,y1',Option.bind_some,Int.toNat_natCast]
        rw[List.getElem?_set_self hpl]
        simp only[Option.bind_some,List.set_set,aK]
        rw[fin]
        have:=P0 (λz:aA=> { z with Staged:=false,Data:= []}) (show vD (JD e i (xQ d.Vol (x.Files+1) i)).Chunks from hr) (show At (JD e i (xQ d.Vol (x.Files+1) i)).Chunks i.Id p from ha) y1' y2
        rw[this]
        have e9:(λz:aA=>if z.Id=i.Id then ({ z with Staged:=false,Data:= []}:aA) else z)=NS x.Pool i:=by
          funext z
          simp only[NS,p0,k1,true_and]
        rw[e9]
        rfl
      · simp only[show (x.Pool==0)=false from by simpa using p0,Bool.false_eq_true,if_false,aK]
        rw[fin,xP λz _=>by unfold NS; rw[if_neg (by simp[p0])]]
        rfl
    · simp only[show (i.Kind==1)=false from by simpa using k1,Bool.false_eq_true,if_false,aK]
      rw[fin,xP λz _=>by unfold NS; rw[if_neg (by simp[k1])]]
      rfl
  · intro hpr
    rw[hp,hpr,if_neg (by decide)] at h123
    refine⟨(8,e.Seq,e.Snaps,e.Chunks,e.Exps,e.Vols),rfl, ?_⟩
    unfold oA
    simp only[bS,hi,Option.bind_some,Int.ofNat_lt,hk,decide_true,if_true,wF,hV,h123',h123]
    rw[if_pos (by simp)]
theorem n74 {F:Nat} {c:aB} {d:aS} {x:aP} (hF:1000≤F) (h:Sm c) (hg:Gd c) (hd:Wd d) (gv:gI d.Vol) (h0:0≤d.Vol) (hx:c.Vols[d.Vol.toNat]? =some x):
    ∃r,UA F c d=some r∧(if oI x d=true then (if d.Items.all (oD c)=true then r=(0,(GL c d x).Seq,(GL c d x).Snaps,(GL c d x).Chunks,(GL c d x).Exps,(GL c d x).Vols) else r.1=8) else r.1=1):=by
  have hxb:=hg.v x (List.mem_of_getElem? hx)
  have gf:0≤x.Files∧x.Files≤65535:=by
    unfold nH gP at hxb
    simp only[Bool.and_eq_true,Bool.or_eq_true,decide_eq_true_eq,beq_iff_eq] at hxb
    omega
  have gF:gI (x.Files+1):=⟨by omega,by omega⟩
  have hlt:=(List.getElem?_eq_some_iff.1 hx).1
  have hn:=hd.n
  have hW:=Q3 h hg hx
  unfold UA
  rw[aEV hF hn]
  simp only[Option.bind_some,qF _ h0,hx]
  rw[if_neg (by simp; omega),if_neg (by simp; omega)]
  by_cases c1:x.State=3
  · rw[if_pos (by simp[c1])]
    simp only[aK,if_true]
    exact⟨_,rfl,by simp[oI,c1]⟩
  rw[if_neg (by simp[c1])]
  by_cases c2:d.Items= []
  · simp[c2,aK,oI]
  have hpos:0 < d.Items.length:=List.length_pos_iff.2 c2
  rw[if_neg (by simp; omega),if_neg (by simp; omega)]
  simp only[aK]
  cases c3:d.Items.any (λi=>decide (i.Kind < 1) || decide (3 < i.Kind)) with
  | true=>
    simp only[Bool.not_true,Bool.not_false,if_true]
    exact⟨_,rfl,by simp[oI,c3]⟩
  | false=>
  have hI:∀i∈d.Items,It i:=λi hi=>by
    obtain⟨a1,a2,a3,a4,a5⟩:=hd.it i hi
    have:=List.any_eq_false.1 c3 i hi
    simp only[Bool.or_eq_true,decide_eq_true_eq] at this
    exact⟨a1,a2,by omega,a3,a4,a5⟩
  have hwc:oI x d=true:=by simp[oI,c1,c2,c3]
  simp only[Bool.not_false,Bool.not_true,Bool.false_eq_true,if_false,hwc,if_true]
  have key:=ED (body:=λs:List Int×Int×List aG×List aA×List aN×Int=>oA F c d x s.1 s.2.1 s.2.2.1 s.2.2.2.1 s.2.2.2.2.1 s.2.2.2.2.2) (n:=d.Items.length)
    (λk=>(gs (d.Items.take k),(CS x.Pool d.Vol (x.Files+1) (ws c d.Vol x) (d.Items.take k)).Seq,(CS x.Pool d.Vol (x.Files+1) (ws c d.Vol x) (d.Items.take k)).Snaps,(CS x.Pool d.Vol (x.Files+1) (ws c d.Vol x) (d.Items.take k)).Chunks,(CS x.Pool d.Vol (x.Files+1) (ws c d.Vol x) (d.Items.take k)).Exps,(k:Int)))
    (λk=>(d.Items[k]?).any (oD c)) (λr=>r.1=8)
    (λk hk hp=>by
      have hi:d.Items[k]? =some d.Items[k]:=List.getElem?_eq_getElem hk
      have:=(EF hF hW gv gf hn hI hk hi _ rfl).1 (by rw[hi] at hp; exact hp)
      refine this.trans ?_
      rw[← NF,← List.take_succ_eq_append_getElem hk])
    (λk hk hp=>by
      have hi:d.Items[k]? =some d.Items[k]:=List.getElem?_eq_getElem hk
      exact(EF hF hW gv gf hn hI hk hi _ rfl).2 (by rw[hi] at hp; exact hp))
    (by unfold oA; simp) d.Items.length 0 F (by omega) (by omega)
  have st0:([],c.Seq,c.Snaps,c.Chunks,c.Exps,0)=(gs (d.Items.take 0),(CS x.Pool d.Vol (x.Files+1) (ws c d.Vol x) (d.Items.take 0)).Seq,(CS x.Pool d.Vol (x.Files+1) (ws c d.Vol x) (d.Items.take 0)).Snaps,(CS x.Pool d.Vol (x.Files+1) (ws c d.Vol x) (d.Items.take 0)).Chunks,(CS x.Pool d.Vol (x.Files+1) (ws c d.Vol x) (d.Items.take 0)).Exps,((0:Nat):Int)):=rfl
  rw[st0]
  rcases key with⟨k1,k2⟩ | ⟨⟨j, -,k1,k2⟩,r,k3,k4⟩
  · rw[k2]
    simp only[aK,List.take_length]
    have hall:d.Items.all (oD c)=true:=List.all_eq_true.2 λi hi=>by
      obtain⟨j,hj,rfl⟩:=List.getElem_of_mem hi
      have:=k1 j (Nat.zero_le _) hj
      rw[List.getElem?_eq_getElem hj] at this
      exact this
    rw[hall]
    simp only[if_true]
    have hWe:=CK (p:=x.Pool) gv gF hW hI
    have e1:CS x.Pool d.Vol (x.Files+1) (ws c d.Vol x) d.Items=qN c d x:=rfl
    have hVv:(c.Vols.set d.Vol.toNat { x with State:=2}).set d.Vol.toNat { ({ x with State:=2}:aP) with Files:=IntKind.wrap .i64 (x.Files+1)}=(qN c d x).Vols:=by
      rw[← e1,sK,List.set_set,wr (by omega) (by omega)]; rfl
    rw[e1] at hWe ⊢
    have hsm:=hWe.sm (by omega)
    rw[aES (l:=(qN c d x).Snaps) (λs=>pY d.Items s) hF (by have:=hWe.sn; omega) (λs hs=>by unfold PI; rw[TQ])]
    simp only[Option.bind_some]
    rw[hVv]
    have h120:GB F { Seq:=(qN c d x).Seq,Snaps:=(qN c d x).Snaps.filter (λs=> !pY d.Items s),Chunks:=(qN c d x).Chunks,Exps:=(qN c d x).Exps,Vols:=(qN c d x).Vols}=some (I6 (JE c d x)):=YT hF (sH hsm _)
    rw[h120]
    refine⟨_, ?_,rfl⟩
    unfold GL
    have e2:(JE c d x).Snaps=(qN c d x).Snaps.filter λs=> !pY d.Items s:=rfl
    rw[e2]
    by_cases hs:((qN c d x).Snaps.filter λs=> !pY d.Items s).length < (qN c d x).Snaps.length
    · rw[if_pos (by simpa using hs),if_pos hs]
      simp only[Option.bind_some,aK]
      rfl
    · rw[if_neg (by simpa using hs),if_neg hs]
      simp only[aK]
      rfl
  · have hall:d.Items.all (oD c)=false:=by
      rw[List.all_eq_false]
      refine⟨d.Items[j],List.getElem_mem k1, ?_⟩
      rw[List.getElem?_eq_getElem k1] at k2
      simpa using k2
    rw[k4,hall]
    exact⟨_,rfl,by simpa using k3⟩
theorem NG {c:aB} {d:aS} {x:aP} (h:Sm c) (hg:Gd c) (hd:Wd d) (gv:gI d.Vol) (hx:c.Vols[d.Vol.toNat]? =some x) (hI:∀i∈d.Items,1≤i.Kind∧i.Kind≤3):Sm (GL c d x):=by
 have hxb:=hg.v x (List.mem_of_getElem? hx)
 have gf:0≤x.Files∧x.Files≤65535:=by
  unfold nH gP at hxb
  simp only[Bool.and_eq_true,Bool.or_eq_true,decide_eq_true_eq,beq_iff_eq] at hxb
  omega
 have gF:gI (x.Files+1):=⟨by omega,by omega⟩
 have hn:=hd.n
 have hWe:=CK (p:=x.Pool) gv gF (Q3 h hg hx) (λi hi=>⟨(hd.it i hi).1,(hd.it i hi).2.1,hI i hi,(hd.it i hi).2.2.1,(hd.it i hi).2.2.2.1,(hd.it i hi).2.2.2.2⟩)
 have hs:=sH (hWe.sm (by omega)) λs=> !pY d.Items s
 unfold GL
 split
 ·exact HQ hs
 ·exact hs
theorem EG {F:Nat} {c:aB} {d:aS} {x:aP} (hF:1000≤F) (h:Sm c) (hg:Gd c) (hk:d.Kind=3) (hd:Wd d) (gv:gI d.Vol) (h0:0≤d.Vol) (hx:c.Vols[d.Vol.toNat]? =some x):
    zU F c d=some (if oI x d=true then (if d.Items.all (oD c)=true then (if iP (GL c d x)=true then (GL c d x,0) else (dA,1)) else (dA,8)) else (dA,1)):=by
  have hk2:jP.find? (λe=>e.1==d.Kind)=some (d.Kind,74):=by rw[hk]; rfl
  have go:∀(e:aB) (n:Int),gK F 74 c d=some (e,n)→(n=0→Sm e)→_:=λe n=>YS (n:=n) hF h (lB.2 hg) hk2
  obtain⟨r,hr,hq⟩:=n74 hF h hg hd gv h0 hx
  have e0:gK F 74 c d=(UA F c d).bind λo=>some ({ c with Seq:=o.2.1,Snaps:=o.2.2.1,Chunks:=o.2.2.2.1,Exps:=o.2.2.2.2.1,Vols:=o.2.2.2.2.2},o.1):=by
    unfold gK
    simp only[if_neg (show ¬(74:Nat)=72 by decide),if_neg (show ¬(74:Nat)=73 by decide),if_true]
  rw[hr] at e0
  by_cases c1:oI x d=true
  · rw[if_pos c1] at hq ⊢
    by_cases c2:d.Items.all (oD c)=true
    · rw[if_pos c2] at hq ⊢
      subst hq
      rw[go (GL c d x) 0 e0 λ_=>NG h hg hd gv hx λi hi=>by
        unfold oI at c1
        simp only[Bool.and_eq_true,Bool.not_eq_true',List.any_eq_false,Bool.or_eq_true,decide_eq_true_eq,not_or,Int.not_lt] at c1
        exact c1.2 i hi]
      rfl
    · rw[if_neg c2] at hq ⊢
      rw[go _ _ e0 λh=>by rw[hq] at h; cases h]
      simp[hq]
  · rw[if_neg c1] at hq ⊢
    rw[go _ _ e0 λh=>by rw[hq] at h; cases h]
    simp[hq]
open Go.Vm
def xS (n:Nat) (l:List bK):Prop:=l.length≤n∧gL mW l
def CL (n:Nat) (s:aG):Prop:=gI s.Seq∧HO s.Man∧xS n s.Locs
def lF (n:Nat) (x:aA):Prop:=mK x.Id∧x.Data.length≤300∧gL gB x.Data∧xS n x.Locs
def GO (n:Nat) (x:aN):Prop:=gI x.Seq∧gI x.Of∧xS n x.Locs
structure Md (n m:Nat) (q:Int) (s:List aG) (k:List aA) (e:List aN) (v:List aP):Prop where
 q:gI q
 sn:s.length≤9
 s:∀x∈s,CL n x
 kn:k.length≤360
 k:∀x∈k,lF n x
 en:e.length≤m
 e:∀x∈e,GO n x
 vn:v.length≤8
 v:∀x∈v,pV x
theorem xS.mono {n n':Nat} {l:List bK} (h:xS n l) (hn:n≤n'):xS n' l:=⟨Nat.le_trans h.1 hn,h.2⟩
theorem CL.mono {n n':Nat} {x:aG} (h:CL n x) (hn:n≤n'):CL n' x:=⟨h.1,h.2.1,h.2.2.mono hn⟩
theorem lF.mono {n n':Nat} {x:aA} (h:lF n x) (hn:n≤n'):lF n' x:=⟨h.1,h.2.1,h.2.2.1,h.2.2.2.mono hn⟩
theorem GO.mono {n n':Nat} {x:aN} (h:GO n x) (hn:n≤n'):GO n' x:=⟨h.1,h.2.1,h.2.2.mono hn⟩
theorem Md.mono {n m n' m':Nat} {q:Int} {s:List aG} {k:List aA} {e:List aN} {v:List aP} (h:Md n m q s k e v) (hn:n≤n') (hm:m≤m'):Md n' m' q s k e v:=
 ⟨h.q,h.sn,λx hx=>(h.s x hx).mono hn,h.kn,λx hx=>(h.k x hx).mono hn,Nat.le_trans h.en hm,λx hx=>(h.e x hx).mono hn,h.vn,h.v⟩
theorem Md.sm {n m:Nat} {q:Int} {s:List aG} {k:List aA} {e:List aN} {v:List aP} (h:Md n m q s k e v) (hn:n≤300) (hm:m≤300):Sm { Seq:=q,Snaps:=s,Chunks:=k,Exps:=e,Vols:=v} where
 g:=⟨h.q,λx hx=>⟨(h.s x hx).1,(h.s x hx).2.1.2.2.2,(h.s x hx).2.2.2⟩,λx hx=>⟨(h.k x hx).1,trivial,(h.k x hx).2.2.1,(h.k x hx).2.2.2.2⟩,λx hx=>⟨(h.e x hx).1,(h.e x hx).2.1,(h.e x hx).2.2.2⟩,h.v⟩
 sn:=Nat.le_trans h.sn (by omega)
 ch:=Nat.le_trans h.kn (by omega)
 ex:=Nat.le_trans h.en hm
 vo:=Nat.le_trans h.vn (by omega)
 sl:=λx hx=>Nat.le_trans (h.s x hx).2.2.1 hn
 cl:=λx hx=>⟨Nat.le_trans (h.k x hx).2.2.2.1 hn,(h.k x hx).2.1⟩
 el:=λx hx=>Nat.le_trans (h.e x hx).2.2.1 hn
 man:=λx hx=>⟨(h.s x hx).2.1.1,(h.s x hx).2.1.2.1,(h.s x hx).2.1.2.2.1⟩
theorem uD {c:aB} {l:List bK} (h:iR c l=true):l.length≤200:=by
 unfold iR at h
 simp only[Bool.and_eq_true,decide_eq_true_eq] at h
 exact h.1
theorem Ok.md {c:aB} (h:Ok c):Md 200 200 c.Seq c.Snaps c.Chunks c.Exps c.Vols where
 q:=h.sm.g.1
 sn:=Nat.le_trans h.rg.sn (by omega)
 s:=λx hx=>⟨(h.sm.g.2.1 x hx).1,⟨(h.sm.man x hx).1,(h.sm.man x hx).2.1,(h.sm.man x hx).2.2,(h.sm.g.2.1 x hx).2.1⟩,uD (h.rg.s x hx).2.2.2,(h.sm.g.2.1 x hx).2.2⟩
 kn:=Nat.le_trans h.rg.ch (by omega)
 k:=λx hx=>⟨(h.sm.g.2.2.1 x hx).1,(h.sm.cl x hx).2,(h.sm.g.2.2.1 x hx).2.2.1,uD (h.rg.k x hx).2,(h.sm.g.2.2.1 x hx).2.2.2⟩
 en:=h.rg.ex
 e:=λx hx=>⟨(h.sm.g.2.2.2.1 x hx).1,(h.sm.g.2.2.2.1 x hx).2.1,uD (h.rg.e x hx).2.2.2.2,(h.sm.g.2.2.2.1 x hx).2.2⟩
 vn:=h.rg.vo
 v:=h.sm.g.2.2.2.2
theorem t64 {F:Nat} {c:aB} {d:bP} (hF:1000≤F) (hl:c.Chunks.length < 1000):T (NP F c d) λn=>n < c.Chunks.length:=by
 unfold NP
 refine .loop (λi=>0≤i∧i≤c.Chunks.length) (λi=>(c.Chunks.length - i).toNat) (λ_=>True) (by omega) (by omega) (λi hi=> ?_) (λi _=>.some (by omega))
 unfold o8
 refine .ite (λhc=> ?_) λ_=>.brk trivial
 have hc:=of_decide_eq_true hc
 rw[wr (by omega) (by omega)]
 exact .ix (by omega) (by omega) λx _ _=>.ite (λ_=>.ret hc) λ_=>.go (by omega)
theorem aEW {F:Nat} {a b:bK}:T (MK F a b) λ_=>True:=by
 unfold MK
 exact .ite (λ_=>.some trivial) λ_=>.ite (λ_=>.some trivial) λ_=>.ite (λ_=>.some trivial) λ_=>.some trivial
theorem TR {F n:Nat} {l:List bK} {x:bK} (hF:1000≤F) (h:xS n l) (hn:n≤300) (hx:mW x):T (GF F l x) λr=>xS (n+1) r:=by
 have h1:=h.1
 unfold GF
 refine T.scan (by omega) (by omega) (λ_=>rfl) (λy _=>.bind _ aEW λ_ _=>.brk trivial) λr hr=> ?_
 refine .ins hr (by omega) λz z1 z2=>.some ⟨by omega,λy hy=> ?_⟩
 rcases z2 y hy with h2 | rfl
 ·exact h.2 y h2
 ·exact hx
theorem TS {F n:Nat} {l:List bK} {v:Int} (hF:1000≤F) (h:xS n l) (hn:n≤300):T (GG F l v) λr=>xS n r:=by
 have h1:=h.1
 unfold GG
 refine .loop (λs=>0≤s.2∧s.2≤l.length∧(s.1.length:Int)≤s.2∧gL mW s.1) (λs=>(l.length - s.2).toNat) (λs=>xS n s.1) (by simp; omega) ⟨by simp,by simp,by simp,λ_ h=>by simp at h⟩ (λs hs=> ?_) (λs hs=>.some hs)
 obtain⟨q,i⟩:=s
 simp only at hs
 unfold vF
 refine .ite (λhc=> ?_) λ_=>.brk ⟨by simp only; omega,hs.2.2.2⟩
 have hc:=of_decide_eq_true hc
 simp only at hc
 rw[wr (n:=i+1) (by omega) (by omega)]
 refine .ix (by omega) (by omega) λx _ hx=>.after (.ite (λ_=>.ix (by omega) (by omega) λy _ hy=>.app (by simp; omega) (.brk (.go ?_))) λ_=>.brk (.go ⟨⟨by simp only; omega,by simp only; omega,by simp only; omega,hs.2.2.2⟩,by simp only; omega⟩))
 refine⟨⟨by simp only; omega,by simp only; omega,by simp; omega,λz hz=> ?_⟩,by simp only; omega⟩
 rcases List.mem_append.1 hz with h2 | h2
 ·exact hs.2.2.2 z h2
 ·rw[List.mem_singleton] at h2
  exact h2 ▸ h.2 y hy
theorem TT {F:Nat} {c:aB} {i a b:Int}:T (GH F c i a b) λr=>r=true→0≤i∧i < c.Vols.length:=by
 unfold GH
 refine .after (.ite (λh0=>.ite (λh1=> ?_) λ_=>.brk (.some λh=>by cases h)) λ_=>.brk (.some λh=>by cases h))
 have h0:=of_decide_eq_true h0
 have h1:=of_decide_eq_true h1
 exact .ix (by omega) (by omega) λx _ hx=>.ite (λ_=>.brk (.some λ_=>⟨h0,h1⟩)) λ_=>.ix (by omega) (by omega) λy _ _=>.brk (.some λ_=>⟨h0,h1⟩)
theorem ZT {F n m:Nat} {q:Int} {s:List aG} {k:List aA} {e:List aN} {v:List aP} {z:Int} (hF:1000≤F) (h:Md n m q s k e v) (hn:n≤300) (hm:m≤300):
    T (I7 F { Seq:=q,Snaps:=s,Chunks:=k,Exps:=e,Vols:=v} z) λr=>Md n m q r.2.1 r.2.2 e v:=by
  have h1:=h.sn
  have h2:=h.kn
  unfold I7
  refine .loop (λs'=>0≤s'.2∧s'.2≤s.length∧(s'.1.length:Int)≤s'.2∧∀x∈s'.1,CL n x) (λs'=>(s.length - s'.2).toNat) (λs'=>s'.1.length≤9∧∀x∈s'.1,CL n x) (by simp; omega) (by simp) (λs' hs=> ?_) (λs' hs=> ?_)
  · obtain⟨a,i⟩:=s'
    simp only at hs
    unfold vG
    refine .ite (λhc=> ?_) λ_=>.brk ⟨by simp only; omega,hs.2.2.2⟩
    have hc:=of_decide_eq_true hc
    simp only at hc
    rw[wr (n:=i+1) (by omega) (by omega)]
    refine .ix (by omega) (by simp only; omega) λx _ hx=>.after (.ite (λ_=>.ix (by omega) (by simp only; omega) λy _ hy=>.app (by simp; omega) (.brk (.go ?_))) λ_=>.brk (.go ⟨⟨by simp only; omega,by simp only; omega,by simp only; omega,hs.2.2.2⟩,by simp only; omega⟩))
    refine⟨⟨by simp only; omega,by simp only; omega,by simp; omega,λw hw=> ?_⟩,by simp only; omega⟩
    rcases List.mem_append.1 hw with h3 | h3
    · exact hs.2.2.2 w h3
    · rw[List.mem_singleton] at h3
      exact h3 ▸ h.s y hy
  · obtain⟨a,i0⟩:=s'
    have M1:Md n m q a k e v:=⟨h.q,hs.1,hs.2,h.kn,h.k,h.en,h.e,h.vn,h.v⟩
    refine .ite (λ_=>.some h) λ_=> ?_
    refine .loop (λs'=>0≤s'.2∧s'.2≤k.length∧(s'.1.length:Int)≤s'.2∧∀x∈s'.1,lF n x) (λs'=>(k.length - s'.2).toNat) (λs'=>s'.1.length≤360∧∀x∈s'.1,lF n x) (by simp; omega) (by simp) (λs' hs2=> ?_) (λs' hs2=>.some ⟨h.q,hs.1,hs.2,hs2.1,hs2.2,h.en,h.e,h.vn,h.v⟩)
    obtain⟨b,i⟩:=s'
    simp only at hs2
    unfold vH
    refine .ite (λhc=> ?_) λ_=>.brk ⟨by simp only; omega,hs2.2.2.2⟩
    have hc:=of_decide_eq_true hc
    simp only at hc
    rw[wr (n:=i+1) (by omega) (by omega)]
    have put:∀y:aA,lF n y→T ((app b ([y]:List aA)).bind λz490=>some (.brk z490):Option (Lp (List aA) (Lp (List aA×Int) (Bool×List aG×List aA))))
        (L3 (λ_=>False) (λb':List aA=>b'.length≤b.length+1∧∀x∈b',lF n x) (λb':Lp (List aA×Int) (Bool×List aG×List aA)=>∃s,b'= .brk s∧s.1.length≤360∧∀x∈s.1,lF n x)):=λy hy=>by
      refine .app (by simp; omega) (.brk ⟨by simp,λx hx=> ?_⟩)
      rcases List.mem_append.1 hx with h3 | h3
      · exact hs2.2.2.2 x h3
      · rw[List.mem_singleton] at h3
        exact h3 ▸ hy
    refine .after (T.mono (P:=L3 (λ_=>False) (λb':List aA=>b'.length≤b.length+1∧∀x∈b',lF n x) (λb':Lp (List aA×Int) (Bool×List aG×List aA)=>∃s,b'= .brk s∧s.1.length≤360∧∀x∈s.1,lF n x)) (.ix (by omega) (by simp only; omega) λx _ hx=>.bindEq (m65 hF (M1.sm hn hm)) (.after ?_)) λj hj=> ?_)
    · have gx:=h.k x hx
      refine .ite (λ_=>.ite (λ_=>.ret (show b.length≤b.length+1∧_ from⟨by omega,hs2.2.2.2⟩)) λ_=>.brk (put _ ⟨gx.1,by simp,λ_ h=>by simp at h,gx.2.2.2⟩)) λ_=>.brk (put _ gx)
    · cases j with
      | go s=>exact hj
      | ret s=>
        obtain⟨s',rfl,h3⟩:=hj
        exact h3
      | brk b'=>
        have:=hj.1
        exact .go ⟨⟨by simp only; omega,by simp only; omega,by simp only; omega,hj.2⟩,by simp only; omega⟩
open Go.Vm
section
variable {n m:Nat} {q:Int} {s:List aG} {k:List aA} {e:List aN} {v:List aP}
theorem Md.setK (h:Md n m q s k e v) {i:Nat} {x:aA} (hx:lF n x):Md n m q s (k.set i x) e v:=
 ⟨h.q,h.sn,h.s,by simp[h.kn],λy hy=>(kC hy).elim (h.k y) λe=>e ▸ hx,h.en,h.e,h.vn,h.v⟩
theorem Md.setS (h:Md n m q s k e v) {i:Nat} {x:aG} (hx:CL n x):Md n m q (s.set i x) k e v:=
 ⟨h.q,by simp[h.sn],λy hy=>(kC hy).elim (h.s y) λe=>e ▸ hx,h.kn,h.k,h.en,h.e,h.vn,h.v⟩
theorem Md.setE (h:Md n m q s k e v) {i:Nat} {x:aN} (hx:GO n x):Md n m q s k (e.set i x) v:=
 ⟨h.q,h.sn,h.s,h.kn,h.k,by simp[h.en],λy hy=>(kC hy).elim (h.e y) λe=>e ▸ hx,h.vn,h.v⟩
theorem Md.setV (h:Md n m q s k e v) {i:Nat} {x:aP} (hx:pV x):Md n m q s k e (v.set i x):=
 ⟨h.q,h.sn,h.s,h.kn,h.k,h.en,h.e,by simp[h.vn],λy hy=>(kC hy).elim (h.v y) λe=>e ▸ hx⟩
end
theorem aEX {F n m:Nat} {q:Int} {s:List aG} {k:List aA} {e:List aN} {v:List aP} {it:bC} {lc:bK} (hF:1000≤F) (h:Md n m q s k e v) (hn:n < 300) (hm:m < 300) (hl:mW lc) (h1:gI it.Seq) (h2:gI it.Of):
    T (MO F { Seq:=q,Snaps:=s,Chunks:=k,Exps:=e,Vols:=v} it lc) λr=>Md (n+1) (m+1) r.2.1 r.2.2.1 r.2.2.2.1 r.2.2.2.2 v:=by
  have hsn:=h.sn
  have hkn:=h.kn
  have hen:=h.en
  have H:Md (n+1) (m+1) q s k e v:=h.mono (by omega) (by omega)
  have H1:Md (n+1) m q s k e v:=h.mono (by omega) (by omega)
  unfold MO
  refine .after (T.mono (P:=L3 (λ_=>False) (λj=>Md (n+1) (m+1) j.1 s j.2.1 j.2.2 v) λr=>Md (n+1) (m+1) r.2.1 r.2.2.1 r.2.2.2.1 r.2.2.2.2 v) (.ite (λ_=> ?_) λ_=>.ite (λ_=> ?_) λ_=> ?_) λj hj=> ?_)
  · refine .bind _ (t64 hF (by simp only; omega)) λy hy=>.ite (λ_=>.ret H) λhc=> ?_
    have hc:¬(y < 0):=by simpa using hc
    simp only at hy
    refine .ix (by omega) (by simp only; omega) λx _ hx=>.bind _ (TR hF (h.k x hx).2.2.2 (by omega) hl) λz hz=>.ix (by omega) (by simp only; omega) λx2 _ hx2=>.brk ?_
    exact H.setK ⟨(h.k x2 hx2).1,(h.k x2 hx2).2.1,(h.k x2 hx2).2.2.1,hz⟩
  · refine .loop (λi=>0≤i∧i≤s.length) (λi=>(s.length - i).toNat) (λ_=>True) (by omega) (by omega) (λi hi=> ?_) (λ_ _=>.ret H)
    unfold vI
    refine .ite (λhc=> ?_) λ_=>.brk trivial
    have hc:=of_decide_eq_true hc
    simp only at hc
    rw[wr (n:=i+1) (by omega) (by omega)]
    refine .ix (by omega) (by simp only; omega) λx _ hx=>.ite (λ_=> ?_) λ_=>.go (by omega)
    refine .ix (by omega) (by simp only; omega) λx _ hx=>.bind _ (TR hF (h.s x hx).2.2 (by omega) hl) λz hz=>.ix (by omega) (by simp only; omega) λx2 _ hx2=>.ret ?_
    exact H.setS (x:= { x2 with Locs:=z}) ⟨(h.s x2 hx2).1,(h.s x2 hx2).2.1,hz⟩
  · refine T.scan (by simp only; omega) (by simp only; omega) (λ_=>rfl) (λy _=>.brk trivial) λr hr=> ?_
    simp only at hr
    have rest:T ((slc e 0 r).bind λx441=>(app ([]:List aN) x441).bind λz443=>(app z443 ([({ Seq:=it.Seq,Of:=it.Of,Locs:=([lc]:List bK)}:aN)]:List aN)).bind λz451=>(slc e r (e).length).bind λx459=>(app z451 x459).bind λz461=>after (if (decide (q≤it.Seq))=true then (some (.brk (decide (it.Seq < 4611686018427387904)))) else some (.brk false):Option (Lp (Bool) (Lp (Int×(List aA)×(List aN)) (Bool×Int×(List aG)×(List aA)×(List aN))))) λj471=>after (if j471=true then (some (.brk (IntKind.wrap .i64 (it.Seq+1)))) else some (.brk q):Option (Lp (Int) (Lp (Int×(List aA)×(List aN)) (Bool×Int×(List aG)×(List aA)×(List aN))))) λj476=>some (.brk (j476,k,z461)))
        (L3 (λ_=>False) (λj=>Md (n+1) (m+1) j.1 s j.2.1 j.2.2 v) λr=>Md (n+1) (m+1) r.2.1 r.2.2.1 r.2.2.2.1 r.2.2.2.2 v):=by
      refine .ins (by omega) (by omega) λz z1 z2=> ?_
      have fin:∀q':Int,gI q'→Md (n+1) (m+1) q' s k z v:=λq' hq=>⟨hq,H.sn,H.s,H.kn,H.k,by omega,λx hx=>by
        rcases z2 x hx with h3 | rfl
        · exact H.e x h3
        · exact⟨h1,h2,by simp,λy hy=>by rw[List.mem_singleton] at hy; exact hy ▸ hl⟩,H.vn,H.v⟩
      have fin2:∀b:Bool,T (after (if b=true then (some (.brk (IntKind.wrap .i64 (it.Seq+1)))) else some (.brk q):Option (Lp (Int) (Lp (Int×(List aA)×(List aN)) (Bool×Int×(List aG)×(List aA)×(List aN))))) λj476=>some (.brk (j476,k,z)))
          (L3 (λ_=>False) (λj=>Md (n+1) (m+1) j.1 s j.2.1 j.2.2 v) λr=>Md (n+1) (m+1) r.2.1 r.2.2.1 r.2.2.2.1 r.2.2.2.2 v):=λb=>.after (.ite (λ_=>.brk (.brk (fin _ (xM _)))) λ_=>.brk (.brk (fin _ h.q)))
      exact .after (.ite (λ_=>.brk (fin2 _)) λ_=>.brk (fin2 _))
    refine .after (.ite (λhc=> ?_) λ_=>.brk (T.ite (λh=>by cases h) λ_=>rest))
    have hc:=of_decide_eq_true hc
    simp only at hc
    refine .ix (by omega) (by simp only; omega) λx _ hx=>.brk (T.ite (λ_=> ?_) λ_=>rest)
    refine .ix (by omega) (by simp only; omega) λx _ hx=>.bind _ (TR hF (h.e x hx).2.2 (by omega) hl) λz hz=>.ix (by omega) (by simp only; omega) λx2 _ hx2=>.ret ?_
    exact H.setE (x:= { x2 with Locs:=z}) ⟨(h.e x2 hx2).1,(h.e x2 hx2).2.1,hz⟩
  · cases j with
    | go _=>exact hj
    | brk j=>exact .some hj
    | ret r=>exact hj
theorem aEY {F n:Nat} {k:List aA} {x:aA} (hF:1000≤F) (hk:k.length≤390) (h:∀y∈k,lF n y) (hx:lF n x) (hn:n≤300):T (D9 F k x) λr=>r.length≤k.length+1∧∀y∈r,lF n y:=by
 unfold D9
 refine T.scan (by omega) (by omega) (λ_=>rfl) (λy hy=>.bindEq (m60 hF (h y hy).1 hx.1) (.brk trivial)) λr hr=> ?_
 have rest:T ((slc k 0 r).bind λx104=>(app ([]:List aA) x104).bind λz106=>(app z106 ([x]:List aA)).bind λz114=>(slc k r (k).length).bind λx122=>(app z114 x122).bind λz124=>some z124) λr=>r.length≤k.length+1∧∀y∈r,lF n y:=
  .ins hr (by omega) λz z1 z2=>.some ⟨by omega,λy hy=>by
   rcases z2 y hy with h3 | rfl
   ·exact h y h3
   ·exact hx⟩
 refine .after (.ite (λhc=> ?_) λ_=>.brk (T.ite (λh=>by cases h) λ_=>rest))
 have hc:=of_decide_eq_true hc
 refine .ix (by omega) (by omega) λy _ hy=>.brk (T.ite (λ_=> ?_) λ_=>rest)
 rw[aD5]
 refine .bindEq (m54 hF (by omega) λy hy=>⟨Nat.le_trans (h y hy).2.2.2.1 hn,(h y hy).2.1⟩) (.bindEq (PB (by have:=hx.2.1; omega)) (.ix (by omega) (by omega) λy2 _ hy2=>.ix (by omega) (by simp; omega) λy3 _ hy3=>.some ⟨by simp,λw hw=> ?_⟩))
 have g2:=h y2 hy2
 have g2':lF n { y2 with Staged:=true}:=g2
 have g3:lF n y3:=by
  rcases kC hy3 with h4 | rfl
  ·exact h y3 h4
  ·exact g2'
 rcases kC hw with h3 | rfl
 ·rcases kC h3 with h4 | rfl
  ·exact h w h4
  ·exact g2'
 ·exact⟨g3.1,hx.2.1,hx.2.2.1,g3.2.2.2⟩
theorem aEZ {F:Nat} {c:aS} (hF:1000≤F) (h:MV c):T (UD F c) MV:=by
 unfold UD
 have h1:=h.cn
 have h2:=h.it
 refine .bindEq (m52 hF h.man.2.1 λp hp=>(h.man.2.2.1 p hp).2) (.bindEq (m53 (by rw[h.locs]; simp)) (.bindEq (m54 hF (by simp only; omega) λy hy=>⟨by rw[(h.ch y hy).2.2.2]; simp,(h.ch y hy).2.1⟩) (.app (by simp; omega) (.some ?_))))
 exact⟨h.seq,h.man,h.locs,h.cn,h.ch,h.sq,h.vol,by simpa using h.it,by simpa using h.iti⟩
open Go.Vm
abbrev TU:=Int×Int×(List aG)×(List aA)×(List aN)×(List aP)
def Po (r:TU):Prop:=r.1=0→Md 264 264 r.2.1 r.2.2.1 r.2.2.2.1 r.2.2.2.2.1 r.2.2.2.2.2
theorem GP {n:Int} {x:Int×(List aG)×(List aA)×(List aN)×(List aP)} (h:n≠0):Po (n,x):=λh0=>absurd h0 h
theorem aE0 {F:Nat} {c:aB} {d:aS} (hF:1000≤F) (ok:Ok c) (hd:MV d):T (UE F c d) Po:=by
  have H:=ok.md
  have H2:Md 264 264 c.Seq c.Snaps c.Chunks c.Exps c.Vols:=H.mono (by omega) (by omega)
  have c1:=ok.rg.ch
  have c2:=ok.rg.sn
  have c3:=ok.rg.ex
  have c4:=ok.rg.vo
  have dn:=hd.cn
  have di:=hd.it
  have gvol:gI d.Vol:=hd.vol
  unfold UE
  refine .after (T.mono (P:=L3 (λ_=>False) (λj=>Md 264 264 j.1 j.2.1 j.2.2.1 j.2.2.2.1 j.2.2.2.2) Po) (.ite (λ_=> ?_) λ_=> ?_) λj hj=> ?_)
  · have k1:∀b:Bool,T (after (aW (λs=>xK F d s.1 s.2) F (b,0)) λ⟨r8267,r8268⟩=>if (!r8267)=true then (some (.ret (1,c.Seq,c.Snaps,c.Chunks,c.Exps,c.Vols))) else (yH F ({ Seq:=c.Seq,Snaps:=c.Snaps,Chunks:=c.Chunks,Exps:=c.Exps,Vols:=c.Vols}:aB) d.Snap.Man.Name).bind λy8276=>if (decide (0≤y8276))=true then (some (.ret (9,c.Seq,c.Snaps,c.Chunks,c.Exps,c.Vols))) else (app c.Snaps ([d.Snap]:List aG)).bind λz8291=>after (aW (λs=>xL F d s.1 s.2) F (c.Chunks,0)) λ⟨r8375,r8376⟩=>some (.brk (IntKind.wrap .i64 (c.Seq+1),z8291,r8375,c.Exps,c.Vols)))
        (L3 (λ_=>False) (λj=>Md 264 264 j.1 j.2.1 j.2.2.1 j.2.2.2.1 j.2.2.2.2) Po):=λb=>by
      refine .loop (λs=>0≤s.2∧s.2≤d.Chunks.length) (λs=>(d.Chunks.length - s.2).toNat) (λ_=>True) (by simp; omega) (by simp) (λs hs=> ?_) (λs _=> ?_)
      · obtain⟨b,i⟩:=s
        simp only at hs
        unfold xK
        refine .ite (λhc=> ?_) λ_=>.brk trivial
        have hc:=of_decide_eq_true hc
        simp only at hc
        rw[wr (n:=i+1) (by omega) (by omega)]
        refine .after (.ite (λ_=>.ix (by omega) (by omega) λx _ _=>.ite (λ_=>.ix (by omega) (by omega) λy _ _=>.brk (.go (by first | omega | (simp only; omega)))) λ_=>.brk (.go (by first | omega | (simp only; omega)))) λ_=>.brk (.go (by first | omega | (simp only; omega))))
      · obtain⟨b,i⟩:=s
        refine .ite (λ_=>.ret (GP (by decide))) λ_=>.bindEq (aC3 hF (by first | omega | (simp only; omega))) (.ite (λ_=>.ret (GP (by decide))) λ_=>.app (by simp; omega) ?_)
        refine .loop (λs=>0≤s.2∧s.2≤d.Chunks.length∧(s.1.length:Int)≤c.Chunks.length+s.2∧∀x∈s.1,lF 200 x) (λs=>(d.Chunks.length - s.2).toNat) (λs=>s.1.length≤360∧∀x∈s.1,lF 200 x) (by simp; omega) ⟨by simp,by simp,by simp,H.k⟩ (λs hs=> ?_) (λs hs=> ?_)
        · obtain⟨q,i⟩:=s
          simp only at hs
          unfold xL
          refine .ite (λhc=> ?_) λ_=>.brk ⟨by first | omega | (simp only; omega),hs.2.2.2⟩
          have hc:=of_decide_eq_true hc
          simp only at hc
          rw[wr (n:=i+1) (by omega) (by omega)]
          refine .ix (by omega) (by omega) λx _ hx=> ?_
          have gx:=hd.ch x hx
          refine .bind _ (aEY hF (by first | omega | (simp only; omega)) hs.2.2.2 ⟨gx.1,gx.2.1,gx.2.2.1,by rw[gx.2.2.2]; exact⟨by simp,λ_ h=>by simp at h⟩⟩ (by omega)) λy hy=>.go ⟨⟨by first | omega | (simp only; omega),by first | omega | (simp only; omega), ?_,hy.2⟩,by first | omega | (simp only; omega)⟩
          have:=hy.1
          simp only at this ⊢
          omega
        · obtain⟨q,i⟩:=s
          refine .some ?_
          refine⟨xM _,by simp; omega,λx hx=> ?_,hs.1,λx hx=>(hs.2 x hx).mono (by omega),H2.en,H2.e,H2.vn,H2.v⟩
          rcases List.mem_append.1 hx with h | h
          · exact H2.s x h
          · rw[List.mem_singleton] at h
            subst h
            exact⟨hd.seq,hd.man,by rw[hd.locs]; exact⟨by simp,λ_ h=>by simp at h⟩⟩
    exact .after (.ite (λ_=>.brk (k1 _)) λ_=>.brk (k1 _))
  · refine .after (T.mono (P:=L3 (λ_=>False) (λj=>Md 264 264 j.1 j.2.1 j.2.2.1 j.2.2.2.1 j.2.2.2.2) (L3 (λ_=>False) (λj=>Md 264 264 j.1 j.2.1 j.2.2.1 j.2.2.2.1 j.2.2.2.2) Po)) (.ite (λ_=> ?_) λ_=> ?_) λj hj=> ?_)
    · refine .bind _ (ZT hF H (by omega) (by omega)) λy hy=>.ite (λ_=>.ret (show Po _ from GP (by decide))) λ_=>.brk (hy.mono (by omega) (by omega))
    · refine .after (T.mono (P:=L3 (λ_=>False) (λj=>Md 264 264 j.1 j.2.1 j.2.2.1 j.2.2.2.1 j.2.2.2.2) (L3 (λ_=>False) (λj=>Md 264 264 j.1 j.2.1 j.2.2.1 j.2.2.2.1 j.2.2.2.2) (L3 (λ_=>False) (λj=>Md 264 264 j.1 j.2.1 j.2.2.1 j.2.2.2.1 j.2.2.2.2) Po))) (.ite (λ_=> ?_) λ_=> ?_) λj hj=> ?_)
      · have H137:=TT (F:=F) (c:= { Seq:=c.Seq,Snaps:=c.Snaps,Chunks:=c.Chunks,Exps:=c.Exps,Vols:=c.Vols}) (i:=d.Vol) (a:=1) (b:=2)
        refine .after (T.mono (P:=L3 (λ_=>False) (λb=>b=true→0≤d.Vol∧d.Vol < c.Vols.length) (λ_=>False)) (.bind _ H137 λy hy=>.ite (λhc=>.ite (λ_=>.brk λ_=>hy hc) λ_=>.brk λh=>by cases h) λ_=>.brk λh=>by cases h) λj hj=> ?_)
        cases j with
        | go _=>exact hj
        | ret _=>exact hj.elim
        | brk b=>
        replace hj:b=true→0≤d.Vol∧d.Vol < c.Vols.length:=hj
        refine T.loop (λs=>0≤s.2∧s.2≤d.Items.length∧(s.1=true→0≤d.Vol∧d.Vol < c.Vols.length)) (λs=>(d.Items.length - s.2).toNat) (λs=>s.1=true→0≤d.Vol∧d.Vol < c.Vols.length) (by simp; omega) ⟨by simp,by simp,hj⟩ (λs hs=> ?_) (λs hs=> ?_)
        · obtain⟨b,i⟩:=s
          simp only at hs
          unfold BW
          refine .ite (λhc=> ?_) λ_=>.brk hs.2.2
          have hc:=of_decide_eq_true hc
          simp only at hc
          rw[wr (n:=i+1) (by omega) (by omega)]
          have fin:∀b':Bool,(b'=true→0≤d.Vol∧d.Vol < c.Vols.length)→T (some (.go (b',i+1)):Option (Lp (Bool×Int) (Lp (Int×List aG×List aA×List aN×List aP) (Lp (Int×List aG×List aA×List aN×List aP) (Lp (Int×List aG×List aA×List aN×List aP) TU)))))
            (L3 (λs'=>(0≤s'.2∧s'.2≤d.Items.length∧(s'.1=true→0≤d.Vol∧d.Vol < c.Vols.length))∧(d.Items.length - s'.2).toNat < (d.Items.length - i).toNat) (λs=>s.1=true→0≤d.Vol∧d.Vol < c.Vols.length) (L3 (λ_=>False) (λj=>Md 264 264 j.1 j.2.1 j.2.2.1 j.2.2.2.1 j.2.2.2.2) (L3 (λ_=>False) (λj=>Md 264 264 j.1 j.2.1 j.2.2.1 j.2.2.2.1 j.2.2.2.2) (L3 (λ_=>False) (λj=>Md 264 264 j.1 j.2.1 j.2.2.1 j.2.2.2.1 j.2.2.2.2) Po)))):=λb' hb'=>.go ⟨⟨by first | omega | (simp only; omega),by first | omega | (simp only; omega),hb'⟩,by first | omega | (simp only; omega)⟩
          refine .after (.ite (λhb=> ?_) λ_=>.brk (fin _ λh=>by cases h))
          exact .ix (by omega) (by omega) λx _ _=>.ite (λ_=>.ix (by omega) (by omega) λy _ _=>.brk (fin _ λ_=>hs.2.2 hb)) λ_=>.brk (fin _ λh=>by cases h)
        · obtain⟨b,i0⟩:=s
          refine .ite (λ_=>.ret (show Po _ from GP (by decide))) λhb=> ?_
          have hv:=hs (by simpa using hb)
          refine .ix hv.1 hv.2 λx _ hx=> ?_
          have gx:=ok.sm.g.2.2.2.2 x hx
          have gx1:pV { x with State:=2}:=⟨gx.1,gx.2.1,(by show gI _; simp[gI]),gx.2.2.2⟩
          have gx2:pV { ({ x with State:=2}:aP) with Files:=IntKind.wrap .i64 (x.Files+1)}:=⟨gx.1,gx.2.1,(by show gI _; simp[gI]),xM _⟩
          have HV:Md 200 200 c.Seq c.Snaps c.Chunks c.Exps ((c.Vols.set d.Vol.toNat { x with State:=2}).set d.Vol.toNat { ({ x with State:=2}:aP) with Files:=IntKind.wrap .i64 (x.Files+1)}):=(H.setV gx1).setV gx2
          generalize hV:(c.Vols.set d.Vol.toNat { x with State:=2}).set d.Vol.toNat { ({ x with State:=2}:aP) with Files:=IntKind.wrap .i64 (x.Files+1)}=V at HV
          refine T.loop (λs=>0≤s.2.2.2.2∧s.2.2.2.2≤d.Items.length∧Md (200+s.2.2.2.2.toNat) (200+s.2.2.2.2.toNat) s.1 s.2.1 s.2.2.1 s.2.2.2.1 V) (λs=>(d.Items.length - s.2.2.2.2).toNat) (λs=>Md 264 264 s.1 s.2.1 s.2.2.1 s.2.2.2.1 V) (by simp; omega) ⟨by simp,by simp,HV⟩ (λs hs=> ?_) (λs hs=> ?_)
          · obtain⟨q,s,k,e,i⟩:=s
            simp only at hs
            unfold BX
            refine .ite (λhc=> ?_) λ_=>.brk (hs.2.2.mono (by first | omega | (simp only; omega)) (by first | omega | (simp only; omega)))
            have hc:=of_decide_eq_true hc
            simp only at hc
            simp only[hV]
            rw[wr (n:=i+1) (by omega) (by omega)]
            refine .ix (by omega) (by omega) λx1 _ hx1=>.ix (by omega) (by omega) λx2 _ hx2=>.ix (by omega) (by omega) λx3 _ hx3=> ?_
            have d1:=hd.iti x1 hx1
            have d2:=hd.iti x2 hx2
            have d3:=hd.iti x3 hx3
            refine .bind _ (aEX hF hs.2.2 (by omega) (by omega) ⟨gvol,xM _,d2.2.2.1,d3.2.2.2⟩ d1.1 d1.2.1) λy hy=>.ite (λ_=>.ret (show Po _ from GP (by decide))) λ_=>.go ⟨⟨by first | omega | (simp only; omega),by first | omega | (simp only; omega), ?_⟩,by first | omega | (simp only; omega)⟩
            exact hy.mono (by first | omega | (simp only; omega)) (by first | omega | (simp only; omega))
          · obtain⟨q,s,k,e,i0⟩:=s
            simp only at hs
            refine T.loop (λs'=>0≤s'.2.2∧s'.2.2≤d.Items.length∧Md 264 264 q s'.1 s'.2.1 e V) (λs'=>(d.Items.length - s'.2.2).toNat) (λs'=>Md 264 264 q s'.1 s'.2.1 e V) (by simp; omega) ⟨by simp,by simp,hs⟩ (λs' hs2=> ?_) (λs' hs2=> ?_)
            · obtain⟨s,k,i⟩:=s'
              simp only at hs2
              unfold BY
              refine .ite (λhc=> ?_) λ_=>.brk hs2.2.2
              have hc:=of_decide_eq_true hc
              simp only at hc
              simp only[hV]
              rw[wr (n:=i+1) (by omega) (by omega)]
              refine .ix (by omega) (by omega) λx1 _ _=>.after (.ite (λ_=>.ix (by omega) (by omega) λx2 _ _=>.bind _ (ZT hF hs2.2.2 (by omega) (by omega)) λy hy=>.brk (.go ⟨⟨by first | omega | (simp only; omega),by first | omega | (simp only; omega),hy⟩,by first | omega | (simp only; omega)⟩)) λ_=>.brk (.go ⟨⟨by first | omega | (simp only; omega),by first | omega | (simp only; omega),hs2.2.2⟩,by first | omega | (simp only; omega)⟩))
            · obtain⟨s,k,i1⟩:=s'
              simp only at hs2
              simp only[hV]
              refine .after (T.mono (P:=L3 (λ_=>False) (λk'=>Md 264 264 q s k' e V) (λ_=>False)) (.ite (λ_=> ?_) λ_=>.brk hs2) λj hj2=> ?_)
              · refine T.loop (λs'=>0≤s'.2∧s'.2≤d.Items.length∧Md 264 264 q s s'.1 e V) (λs'=>(d.Items.length - s'.2).toNat) (λs'=>Md 264 264 q s s'.1 e V) (by simp; omega) ⟨by simp,by simp,hs2⟩ (λs' hs3=> ?_) (λs' hs3=>.brk hs3)
                obtain⟨k,i⟩:=s'
                simp only at hs3
                unfold vJ
                refine .ite (λhc=> ?_) λ_=>.brk hs3.2.2
                have hc:=of_decide_eq_true hc
                simp only at hc
                simp only[hV]
                rw[wr (n:=i+1) (by omega) (by omega)]
                have hk:=hs3.2.2.kn
                refine .ix (by omega) (by omega) λx1 _ _=>.after (.ite (λ_=>.ix (by omega) (by omega) λx2 _ _=>.bind _ (t64 hF (by first | omega | (simp only; omega))) λy hy=>.after (.ite (λh0=> ?_) λ_=>.brk (.brk (.go ⟨⟨by first | omega | (simp only; omega),by first | omega | (simp only; omega),hs3.2.2⟩,by first | omega | (simp only; omega)⟩)))) λ_=>.brk (.go ⟨⟨by first | omega | (simp only; omega),by first | omega | (simp only; omega),hs3.2.2⟩,by first | omega | (simp only; omega)⟩))
                have h0:=of_decide_eq_true h0
                simp only at hy
                refine .ix (by omega) (by omega) λz _ hz=>.ix (by omega) (by simp; omega) λz2 _ hz2=>.brk (.brk (.go ⟨⟨by first | omega | (simp only; omega),by first | omega | (simp only; omega), ?_⟩,by first | omega | (simp only; omega)⟩))
                have gz:=hs3.2.2.k z hz
                have gz1:lF 264 { z with Staged:=false}:=gz
                have gz2:lF 264 z2:=(kC hz2).elim (hs3.2.2.k z2) λe=>e ▸ gz1
                exact(hs3.2.2.setK gz1).setK (x:= { z2 with Data:= []}) ⟨gz2.1,by simp,λ_ h=>by simp at h,gz2.2.2.2⟩
              · cases j with
                | go _=>exact hj2
                | ret _=>exact hj2.elim
                | brk k'=>exact .brk hj2
      · refine .after (T.mono (P:=L3 (λ_=>False) (λj=>Md 264 264 c.Seq j.1 j.2.1 j.2.2.1 j.2.2.2) (L3 (λ_=>False) (λj=>Md 264 264 j.1 j.2.1 j.2.2.1 j.2.2.2.1 j.2.2.2.2) (L3 (λ_=>False) (λj=>Md 264 264 j.1 j.2.1 j.2.2.1 j.2.2.2.1 j.2.2.2.2) (L3 (λ_=>False) (λj=>Md 264 264 j.1 j.2.1 j.2.2.1 j.2.2.2.1 j.2.2.2.2) Po)))) (.ite (λ_=> ?_) λ_=> ?_) λj hj=> ?_)
        · refine .bind _ TT λy hy=>.ite (λ_=>.ret (show Po _ from GP (by decide))) λhb=> ?_
          have hv:=hy (by simpa using hb)
          refine .ix hv.1 hv.2 λx _ hx=> ?_
          have gx:=ok.sm.g.2.2.2.2 x hx
          have gx1:pV { x with State:=3}:=⟨gx.1,gx.2.1,(by show gI _; simp[gI]),gx.2.2.2⟩
          refine .ix hv.1 (by simp; exact hv.2) λx2 _ hx2=> ?_
          have gx2:pV x2:=(kC hx2).elim (ok.sm.g.2.2.2.2 x2) λe=>e ▸ gx1
          have gx3:pV { x2 with Files:=0}:=⟨gx2.1,gx2.2.1,gx2.2.2.1,(by show gI _; simp[gI])⟩
          have HV:Md 200 200 c.Seq c.Snaps c.Chunks c.Exps ((c.Vols.set d.Vol.toNat { x with State:=3}).set d.Vol.toNat { x2 with Files:=0}):=(H.setV gx1).setV gx3
          refine T.loop (λs=>0≤s.2∧s.2≤c.Chunks.length∧(s.1.length:Int)≤s.2∧∀x∈s.1,lF 200 x) (λs=>(c.Chunks.length - s.2).toNat) (λs=>s.1.length≤360∧∀x∈s.1,lF 200 x) (by simp; omega) (by simp) (λs hs=> ?_) (λs hs=> ?_)
          · obtain⟨q,i⟩:=s
            simp only at hs
            unfold vK
            refine .ite (λhc=> ?_) λ_=>.brk ⟨by first | omega | (simp only; omega),hs.2.2.2⟩
            have hc:=of_decide_eq_true hc
            simp only at hc
            rw[wr (n:=i+1) (by omega) (by omega)]
            refine .ix (by omega) (by omega) λx1 _ hx1=>.bind _ (TS hF (H.k x1 hx1).2.2.2 (by omega)) λy hy=> ?_
            have put:∀b:Bool,T (after (if b=true then ((app q ([{ x1 with Locs:=y}]:List aA)).bind λz16059=>some (.brk z16059)) else some (.brk q):Option (Lp (List aA) (Lp (List aA×Int) (Lp (List aG×List aA×List aN×List aP) (Lp (Int×List aG×List aA×List aN×List aP) (Lp (Int×List aG×List aA×List aN×List aP) (Lp (Int×List aG×List aA×List aN×List aP) TU))))))) λj16055=>some (.go (j16055,i+1)))
                (L3 (λs'=>(0≤s'.2∧s'.2≤c.Chunks.length∧(s'.1.length:Int)≤s'.2∧∀x∈s'.1,lF 200 x)∧(c.Chunks.length - s'.2).toNat < (c.Chunks.length - i).toNat) (λs=>s.1.length≤360∧∀x∈s.1,lF 200 x) (L3 (λ_=>False) (λj=>Md 264 264 c.Seq j.1 j.2.1 j.2.2.1 j.2.2.2) (L3 (λ_=>False) (λj=>Md 264 264 j.1 j.2.1 j.2.2.1 j.2.2.2.1 j.2.2.2.2) (L3 (λ_=>False) (λj=>Md 264 264 j.1 j.2.1 j.2.2.1 j.2.2.2.1 j.2.2.2.2) (L3 (λ_=>False) (λj=>Md 264 264 j.1 j.2.1 j.2.2.1 j.2.2.2.1 j.2.2.2.2) Po))))):=λb=>by
              refine .after (.ite (λ_=>.app (by simp; omega) (.brk (.go ⟨⟨by first | omega | (simp only; omega),by first | omega | (simp only; omega),by simp; omega,λw hw=> ?_⟩,by first | omega | (simp only; omega)⟩))) λ_=>.brk (.go ⟨⟨by first | omega | (simp only; omega),by first | omega | (simp only; omega),by first | omega | (simp only; omega),hs.2.2.2⟩,by first | omega | (simp only; omega)⟩))
              rcases List.mem_append.1 hw with h | h
              · exact hs.2.2.2 w h
              · rw[List.mem_singleton] at h
                subst h
                exact⟨(H.k x1 hx1).1,(H.k x1 hx1).2.1,(H.k x1 hx1).2.2.1,hy⟩
            exact .after (.ite (λ_=>.brk (put _)) λ_=>.brk (put _))
          · obtain⟨k,i0⟩:=s
            simp only at hs
            refine T.loop (λs=>0≤s.2∧s.2≤c.Snaps.length∧s.1.length=c.Snaps.length∧∀x∈s.1,CL 200 x) (λs=>(c.Snaps.length - s.2).toNat) (λs=>s.1.length≤9∧∀x∈s.1,CL 200 x) (by simp; omega) ⟨by simp,by simp,rfl,H.s⟩ (λs hs2=> ?_) (λs hs2=> ?_)
            · obtain⟨q,i⟩:=s
              simp only at hs2
              unfold vL
              refine .ite (λhc=> ?_) λ_=>.brk ⟨by first | omega | (simp only; omega),hs2.2.2.2⟩
              have hc:=of_decide_eq_true hc
              simp only at hc
              rw[wr (n:=i+1) (by omega) (by omega)]
              refine .ix (by omega) (by omega) λx1 _ hx1=>.bind _ (TS hF (hs2.2.2.2 x1 hx1).2.2 (by omega)) λy hy=>.ix (by omega) (by omega) λx2 _ hx2=>.go ⟨⟨by first | omega | (simp only; omega),by first | omega | (simp only; omega),by simp; exact hs2.2.2.1,λw hw=> ?_⟩,by first | omega | (simp only; omega)⟩
              rcases kC hw with h | rfl
              · exact hs2.2.2.2 w h
              · exact⟨(hs2.2.2.2 x2 hx2).1,(hs2.2.2.2 x2 hx2).2.1,hy⟩
            · obtain⟨s,i1⟩:=s
              simp only at hs2
              refine T.loop (λs=>0≤s.2∧s.2≤c.Exps.length∧(s.1.length:Int)≤s.2∧∀x∈s.1,GO 200 x) (λs=>(c.Exps.length - s.2).toNat) (λs=>s.1.length≤200∧∀x∈s.1,GO 200 x) (by simp; omega) (by simp) (λs hs3=> ?_) (λs hs3=> ?_)
              · obtain⟨q,i⟩:=s
                simp only at hs3
                unfold vM
                refine .ite (λhc=> ?_) λ_=>.brk ⟨by first | omega | (simp only; omega),hs3.2.2.2⟩
                have hc:=of_decide_eq_true hc
                simp only at hc
                rw[wr (n:=i+1) (by omega) (by omega)]
                refine .ix (by omega) (by omega) λx1 _ hx1=>.bind _ (TS hF (H.e x1 hx1).2.2 (by omega)) λy hy=> ?_
                refine .after (.ite (λ_=>.app (by simp; omega) (.brk (.go ⟨⟨by first | omega | (simp only; omega),by first | omega | (simp only; omega),by simp; omega,λw hw=> ?_⟩,by first | omega | (simp only; omega)⟩))) λ_=>.brk (.go ⟨⟨by first | omega | (simp only; omega),by first | omega | (simp only; omega),by first | omega | (simp only; omega),hs3.2.2.2⟩,by first | omega | (simp only; omega)⟩))
                rcases List.mem_append.1 hw with h | h
                · exact hs3.2.2.2 w h
                · rw[List.mem_singleton] at h
                  subst h
                  exact⟨(H.e x1 hx1).1,(H.e x1 hx1).2.1,hy⟩
              · obtain⟨e,i2⟩:=s
                simp only at hs3
                exact .brk (Md.mono (n:=200) (m:=200) ⟨H.q,hs2.1,hs2.2,hs.1,hs.2,hs3.1,hs3.2,HV.vn,HV.v⟩ (by omega) (by omega))
        · refine .after (T.mono (P:=L3 (λ_=>False) (λv'=>Md 264 264 c.Seq c.Snaps c.Chunks c.Exps v') (L3 (λ_=>False) (λj=>Md 264 264 c.Seq j.1 j.2.1 j.2.2.1 j.2.2.2) (L3 (λ_=>False) (λj=>Md 264 264 j.1 j.2.1 j.2.2.1 j.2.2.2.1 j.2.2.2.2) (L3 (λ_=>False) (λj=>Md 264 264 j.1 j.2.1 j.2.2.1 j.2.2.2.1 j.2.2.2.2) (L3 (λ_=>False) (λj=>Md 264 264 j.1 j.2.1 j.2.2.1 j.2.2.2.1 j.2.2.2.2) Po))))) (.ite (λ_=> ?_) λ_=>.brk H2) λj hj=> ?_)
          · refine .bind _ TT λy hy=>.ite (λ_=>.ret (show Po _ from GP (by decide))) λhb=> ?_
            have hv:=hy (by simpa using hb)
            refine .ix hv.1 hv.2 λx _ hx=>.ix hv.1 hv.2 λx1 _ hx1=> ?_
            have gx:=ok.sm.g.2.2.2.2 x1 hx1
            have gx1:pV { x1 with State:=1}:=⟨gx.1,gx.2.1,(by show gI _; simp[gI]),gx.2.2.2⟩
            refine .ix hv.1 (by simp; exact hv.2) λx2 _ hx2=>.brk ?_
            have gx2:pV x2:=(kC hx2).elim (ok.sm.g.2.2.2.2 x2) λe=>e ▸ gx1
            exact(H2.setV gx1).setV (x:= { x2 with Epoch:=IntKind.wrap .i64 (x.Epoch+1)}) ⟨gx2.1,xM _,gx2.2.2.1,gx2.2.2.2⟩
          · cases j with
            | go _=>exact hj
            | brk j=>exact .brk hj
            | ret r=>exact hj
        · cases j with
          | go _=>exact hj
          | brk j=>exact .brk hj
          | ret r=>exact hj
      · cases j with
        | go _=>exact hj
        | brk j=>exact .brk hj
        | ret r=>exact hj
    · cases j with
      | go _=>exact hj
      | brk j=>exact .brk hj
      | ret r=>exact hj
  · cases j with
    | go _=>exact hj
    | brk j=>exact .some λ_=>hj
    | ret r=>exact hj
open Go.Vm
theorem zY {α:Type} {l:List α} {P:α→Prop} {i:Int} {x:α} (h0:0≤i) (hx:l[i.toNat]? =some x) (h:∀y∈l.take i.toNat,P y) (hP:P x):∀y∈l.take (i+1).toNat,P y:=by
 intro y hy
 obtain⟨hlt,he⟩:=List.getElem?_eq_some_iff.1 hx
 rw[show (i+1).toNat=i.toNat+1 from by omega,List.take_succ_eq_append_getElem hlt] at hy
 rcases List.mem_append.1 hy with h1 | h1
 ·exact h y h1
 ·rw[List.mem_singleton,he] at h1
  exact h1 ▸ hP
theorem NH {α:Type} {l:List α} {i n:Nat} {x:α} (hx:l[i]? =some x) (hi:i < n):x∈l.take n:=by
 refine List.mem_of_getElem? (i:=i) ?_
 rw[List.getElem?_take_of_lt hi,hx]
theorem t67 {F:Nat} {c:aB} {d:aS} (hF:1000≤F) (h:Sm c) (hg:iP c=true) (hd:MV d):T (ZA F c d) λr=>r.2=0→Sm r.1∧iP r.1=true:=by
  unfold ZA
  refine .after (.bindEq (m19 hF h) (.ite (λhc=> ?_) λ_=> ?_))
  · rw[hg] at hc; cases hc
  · have rest:T (if (false:Bool)=true then (some (({ Seq:=0,Snaps:= [],Chunks:= [],Exps:= [],Vols:= []}:aB),1)) else (MJ F c).bind λy27=>(UD F d).bind λy47=>(UE F ({ Seq:=y27.Seq,Snaps:=y27.Snaps,Chunks:=y27.Chunks,Exps:=y27.Exps,Vols:=y27.Vols}:aB) y47).bind λy49=>if (y49.1 !=0)=true then (some (({ Seq:=0,Snaps:= [],Chunks:= [],Exps:= [],Vols:= []}:aB),y49.1)) else (SM F ({ Seq:=y49.2.1,Snaps:=y49.2.2.1,Chunks:=y49.2.2.2.1,Exps:=y49.2.2.2.2.1,Vols:=y49.2.2.2.2.2}:aB)).bind λy69=>if (!y69)=true then (some (({ Seq:=0,Snaps:= [],Chunks:= [],Exps:= [],Vols:= []}:aB),1)) else some (({ Seq:=y49.2.1,Snaps:=y49.2.2.1,Chunks:=y49.2.2.2.1,Exps:=y49.2.2.2.2.1,Vols:=y49.2.2.2.2.2}:aB),0))
        λr=>r.2=0→Sm r.1∧iP r.1=true:=by
      refine .ite (λh=>by cases h) λ_=>.bindEq (aD6 hF h) (.bind _ (aEZ hF hd) λd' hd'=>.bind _ (aE0 hF ⟨h,rng hg⟩ hd') λy hy=>.ite (λh0=>.some λh1=> ?_) λh0=> ?_)
      · simp only at h1
        rw[h1] at h0
        cases h0
      · have M:=hy (by simpa using h0)
        have S:=M.sm (by omega) (by omega)
        refine .bindEq (m19 hF S) (.ite (λ_=>.some λh=>by simp at h) λhq=>.some λ_=>⟨S, ?_⟩)
        simpa using hq
    refine .ite (λ_=>.brk (T.ite (λ_=>.some λh=>by simp at h) λh=>absurd rfl h)) λ_=>.brk ?_
    cases decide (5 < d.Kind)
    · exact rest
    · exact T.ite (λ_=>.some λh=>by simp at h) λh=>absurd rfl h
def EH (a:lI):Prop:=∀f∈a.Tree,f.Path.size≤100
theorem t27 {F:Nat} {l:List lI} (hF:1000≤F):T (UH F l) λb=>b=false→∀a∈l.take 30,EH a:=by
 unfold UH
 refine .ite (λ_=>.some λh=>by cases h) λhl=> ?_
 have hl:l.length≤120:=by simp at hl; omega
 refine .loop (λi=>0≤i∧i≤l.length∧i≤30∧∀a∈l.take i.toNat,EH a) (λi=>(l.length - i).toNat) (λ_=>∀a∈l.take 30,EH a) (by omega) (by simp) (λi hi=> ?_) (λi hi=>.some λ_=>hi)
 obtain⟨i0,i1,i2,i3⟩:=hi
 unfold CC
 refine .after (.ite (λhc=>.brk (T.ite (λhc2=> ?_) λhc2=>.brk λa ha=> ?_)) λhc=>.brk (T.ite (λh=>by cases h) λ_=>.brk λa ha=> ?_))
 ·have hc:=of_decide_eq_true hc
  have hc2:=of_decide_eq_true hc2
  rw[wr (n:=i+1) (by omega) (by omega)]
  refine .after (.ix (by omega) (by omega) λx e hx=>.ite (λ_=>.brk (T.ite (λ_=>.ret λh=>by cases h) λh=>absurd rfl h)) λ_=>.ix (by omega) (by omega) λy e2 hy=>.brk (T.ite (λ_=>.ret λh=>by cases h) λht=> ?_))
  have ht:y.Tree.length≤10:=by simp at ht; omega
  refine .loop (λj=>0≤j∧j≤y.Tree.length∧∀f∈y.Tree.take j.toNat,f.Path.size≤100) (λj=>(y.Tree.length - j).toNat) (λ_=>EH y) (by omega) (by simp) (λj hj=> ?_) (λj hj=>.go ⟨⟨by omega,by omega,by omega,zY i0 e2 i3 hj⟩,by omega⟩)
  obtain⟨j0,j1,j2⟩:=hj
  have same:∀z,l[i.toNat]? =some z→z=y:=λz hz=>by rw[e2] at hz; exact(Option.some.inj hz).symm
  unfold CB
  refine .ix (by omega) (by omega) λz ez _=> ?_
  obtain rfl:=same z ez
  refine .ite (λhc=> ?_) λhc=>.brk λf hf=>j2 f ?_
  ·have hc:=of_decide_eq_true hc
   rw[wr (n:=j+1) (by omega) (by omega)]
   refine .after (.ix (by omega) (by omega) λz2 ez2 _=> ?_)
   obtain rfl:=same z2 ez2
   refine .ix (by omega) (by omega) λf ef hf=>.ite (λ_=>.brk (T.ite (λ_=>.ret (show (_:Bool)=false→_ from λh=>by cases h)) λh=>absurd rfl h)) λ_=>.ix (by omega) (by omega) λz3 ez3 _=> ?_
   obtain rfl:=same z3 ez3
   refine .ix (by omega) (by omega) λf ef hf=>.brk (T.ite (λ_=>.ret (show (_:Bool)=false→_ from λh=>by cases h)) λhp=>.go ⟨⟨by omega,by omega,zY j0 ef j2 ?_⟩,by omega⟩)
   simp at hp
   omega
  ·have hc:¬(j < z.Tree.length):=by simpa using hc
   rw[List.take_of_length_le (by omega)]
   exact hf
 ·have hc2:¬(i < 30):=by simpa using hc2
  have:i.toNat=30:=by omega
  rw[this] at i3
  exact i3 a ha
 ·have hc:¬(i < l.length):=by simpa using hc
  refine i3 a ?_
  rw[List.take_of_length_le (by omega)]
  exact List.mem_of_mem_take ha
theorem aE1 (x:Int) (hx:gI x):cF .and .i64 x 1=0∨cF .and .i64 x 1=1:=by
 have e:cF .and .i64 x 1=IntKind.wrap .i64 ((BitVec.ofInt 64 x &&& BitVec.ofInt 64 1).toNat:Int):=rfl
 have e1:(BitVec.ofInt 64 1).toNat=1:=by decide
 rw[e,BitVec.toNat_and,e1,Nat.and_one_is_mod]
 rcases Nat.mod_two_eq_zero_or_one (BitVec.ofInt 64 x).toNat with h | h <;> rw[h]
 ·exact .inl rfl
 ·exact .inr rfl
theorem t29 {F:Nat} {l:List Int} (hF:1000≤F) (gl:gL gI l):T (ZM F l) λr=>gP r.length 1 8=true∧r.all DU=true∧gL gI r:=by
 unfold ZM
 refine .loop (λs=>0≤s.2∧s.2≤l.length∧s.2≤8∧(s.1.length:Int)=s.2∧∀x∈s.1,x=0∨x=1) (λs=>(8 - s.2).toNat) (λs=>s.1.length≤8∧∀x∈s.1,x=0∨x=1) (by simp; omega) (by simp) (λs hs=> ?_) (λs hs=> ?_)
 ·obtain⟨q,i⟩:=s
  simp only at hs
  unfold CD
  refine .after (.ite (λhc=>.brk (T.ite (λhc2=> ?_) λhc2=>.brk ⟨by first | omega | (simp only; omega),hs.2.2.2.2⟩)) λhc=>.brk (T.ite (λh=>by cases h) λ_=>.brk ⟨by first | omega | (simp only; omega),hs.2.2.2.2⟩))
  have hc:=of_decide_eq_true hc
  have hc2:=of_decide_eq_true hc2
  simp only at hc hc2
  rw[wr (n:=i+1) (by omega) (by omega)]
  refine .ix (by omega) (by omega) λx _ hx=>.app (by simp; omega) (.go ⟨⟨by first | omega | (simp only; omega),by first | omega | (simp only; omega),by first | omega | (simp only; omega),by simp; omega,λy hy=> ?_⟩,by first | omega | (simp only; omega)⟩)
  rcases List.mem_append.1 hy with h | h
  ·exact hs.2.2.2.2 y h
  ·rw[List.mem_singleton] at h
   exact h ▸ aE1 x (gl x hx)
 ·obtain⟨q,i⟩:=s
  simp only at hs
  have fin:∀r:List Int,0 < r.length→r.length≤8→(∀x∈r,x=0∨x=1)→gP r.length 1 8=true∧r.all DU=true∧gL gI r:=λr h1 h2 h3=>by
   refine⟨by unfold gP; simp; omega, ?_,λx hx=> ?_⟩
   ·rw[List.all_eq_true]
    intro x hx
    rcases h3 x hx with rfl | rfl <;> rfl
   ·rcases h3 x hx with rfl | rfl <;> simp[gI]
  refine .after (.ite (λ_=>.brk (.some (fin _ (by simp) (by simp) (by simp)))) λhc=>.brk (.some (fin _ ?_ hs.1 hs.2)))
  have:¬((q.length:Int)=0):=by simpa using hc
  omega
theorem t28 {F:Nat} {q:List Int} {l:List lI} (hF:1000≤F) (h1:gP q.length 1 8=true) (h2:q.all DU=true) (h3:gL gI q) (gl:gL DO l) (ho:∀a∈l.take 30,EH a):T (ZN F q l) λc=>Sm c∧iP c=true:=by
 have h8:q.length≤8:=by unfold gP at h1; simp at h1; omega
 unfold ZN
 refine .bindEq (m32 hF (by omega)) ?_
 refine .loop (λs=>0≤s.2∧s.2≤30∧Sm s.1∧iP s.1=true) (λs=>(30 - s.2).toNat) (λs=>Sm s.1∧iP s.1=true) (by simp; omega) ⟨by simp,by simp,PC h8 h3,IY h1 h2⟩ (λs hs=> ?_) (λs hs=>.some hs)
 obtain⟨c,i⟩:=s
 simp only at hs
 obtain⟨s1,s2,s3,s4⟩:=hs
 unfold CE
 refine .after (.ite (λhc=>.brk (T.ite (λhc2=> ?_) λhc2=>.brk ⟨s3,s4⟩)) λhc=>.brk (T.ite (λh=>by cases h) λ_=>.brk ⟨s3,s4⟩))
 have hc:=of_decide_eq_true hc
 have hc2:=of_decide_eq_true hc2
 simp only at hc hc2
 rw[wr (n:=i+1) (by omega) (by omega)]
 have go:∀c':aB,Sm c'→iP c'=true→T (some (.go (c',i+1)):Option (Lp (aB×Int) aB)) (L3 (λs'=>(0≤s'.2∧s'.2≤30∧Sm s'.1∧iP s'.1=true)∧(30 - s'.2).toNat < (30 - i).toNat) (λs=>Sm s.1∧iP s.1=true) (λc=>Sm c∧iP c=true)):=λc' h5 h6=>.go ⟨⟨by first | omega | (simp only; omega),by first | omega | (simp only; omega),h5,h6⟩,by first | omega | (simp only; omega)⟩
 refine .ix (by omega) (by omega) λa ea ha=>.bind _ (t66 hF ⟨s3,rng s4⟩ (lB.1 s4) λf hf=>⟨ho a (NH ea (by omega)) f hf,((gl a ha).2.2.2.1 f hf).2⟩) λy hy=>.after (.ite (λ_=>.bind _ (t67 hF s3 s4 hy.1) λz hz=>.after (.ite (λh0=> ?_) λ_=>.brk (.brk (go _ s3 s4)))) λ_=>.brk (go _ s3 s4))
 have:=hz (by simpa using h0)
 exact .brk (.brk (go _ this.1 this.2))
open Go.Vm
def xT (m:Nat) (p0:List Int) (p1:Int) (p2:Int):Option ((List Int)):=
 (G7 m [] p1 p2).bind λy3=>(app p0 y3.1).bind λz0=>some z0
theorem CM {w:Nat} {p0:List Int} {p1:Int} {p2:Int} {o:(List Int)} (h:aE) {t_p0:Option cB} (ot_p0:t_p0=none→p0= []) (K0:bT h [(t_p0,.tok 5 1 ((p0:List Int).length*1))]) (m:xT w p0 p1 p2=some o):
 aL Tryz.prog 95 [ow t_p0 1 (List.map dG p0),nZ p1,nZ p2] (hp h [(t_p0,.tok 5 1 ((p0:List Int).length*1))]) (λr h'=>∃t,(t=none→o= [])∧bT h [(t,.tok 5 1 (o.length*1))]∧r=ow t 1 (List.map dG o)∧h'=hp h [(t,.tok 5 1 (o.length*1))]):=by
 refine sN K0 18 [.tmp 6] Tryz.func95 rfl rfl rfl rfl ?_
 unfold xT at m
 refine v (v ?_)
 obtain⟨_,Y4,m⟩:=aC m
 refine ve λu=>cI (sW (.cons (aV _) (.k2 .nil)) (QG _ Y4)) rfl QH rfl ?_
 rintro x h' ⟨tg5,t6,K7,rfl,rfl⟩
 refine qk (bT.co u K7) (iL _ _ _) (v ?_)
 obtain⟨z0,Z0,m⟩:=aC m
 refine ve λu=>fB (c:=dG) 1 Z0 i9 rfl rfl rfl ot_p0 u (nD t6) λtg0 t0 K1=>qk K1 rfl (v ?_)
 obtain rfl:=eY m
 exact vr λu=>dV.one (.inl rfl) (aR (.cons _ (.cons_cons _ (List.nil_sublist _))) u).1 (bE.refl _ _) ⟨tg0,t0,(aR (.cons _ (.cons_cons _ (List.nil_sublist _))) u).2,rfl,rfl⟩
theorem CN:aO Tryz.prog 95=true:=by kernel_rfl
def yM (m:Nat) (p0:Int) (p1:Int):Option (Bool):=
 after (if (decide (0≤p0))=true then (some (.brk (decide (p0≤p1)))) else some (.brk false):Option (Lp (Bool) (Bool))) λj4=>some j4
theorem EI {u:Nat} {p0:Int} {p1:Int} {o:Bool} (h:aE) (m:yM u p0 p1=some o):
 aL Tryz.prog 161 [nZ p0,nZ p1] h (λr h'=>r= .sc (.bool o)∧h'=h):=by
 refine fY 12 [.tmp 4] Tryz.func161 rfl rfl rfl rfl ?_
 unfold yM at m
 refine v (vs (fR m (σ:=Bool) (λs=> []) (λs=>.c 4 (.sc (.bool s)) .nil) (λx m=> ?_) ?_))
 refine v ?_
 apply vi m <;> intro b5 m
 rw[b5]
 exact iD m
 rw[b5]
 exact iD m
 rintro _ j4 m
 refine v ?_
 obtain rfl:=eY m
 exact eK rfl
theorem uJ:aO Tryz.prog 161=true:=by kernel_rfl
def TV (m:Nat) (p0:bC):Option (Bool):=
 after ((yM m p0.Seq 4294967295).bind λy0=>if (!y0)=true then (some (.brk true)) else (yM m p0.Of 4294967295).bind λy1=>if (!y1)=true then (some (.brk true)) else (yM m p0.Off 16777215).bind λy2=>if (!y2)=true then (some (.brk true)) else (yM m p0.Len 65535).bind λy3=>some (.brk (!y3)):Option (Lp (Bool) (Bool))) λj0=>if j0=true then (some false) else if (p0.Kind==1)=true then (after (if (p0.Seq==0)=true then (some (.brk (p0.Of==0))) else some (.brk false):Option (Lp (Bool) (Bool))) λj1=>some j1) else if (p0.Kind==2)=true then (after (if (decide (p0.Id=jR))=true then (some (.brk (p0.Of==0))) else some (.brk false):Option (Lp (Bool) (Bool))) λj2=>some j2) else after (if (p0.Kind==3)=true then (some (.brk (decide (p0.Id=jR)))) else some (.brk false):Option (Lp (Bool) (Bool))) λj3=>some j3
theorem aE2 {u:Nat} {p0:bC} {o:Bool} (h:aE) (m:TV u p0=some o):
 aL Tryz.prog 163 [.agg (aX p0)] h (λr h'=>r= .sc (.bool o)∧h'=h):=by
 refine fY 57 [.tmp 2] Tryz.func163 rfl rfl rfl rfl ?_
 unfold TV at m
 refine v (gZ rfl rfl λk2 K3=>vs (vs (fR m (σ:=Bool) (λs=> [(some k2,.obj 38 (aX p0))]) (λs=>.c 1 (.ptr k2 0) (.c 24 (.sc (.bool s)) .nil)) (λx m=> ?_) ?_)))
 refine v (vl 0 _ cE rfl rfl rfl (vk EI uJ m rfl rfl λ_ m=> ?_))
 apply vi m <;> intro b0 m
 rw[b0]
 exact qA m
 rw[b0]
 refine vl 0 _ cE rfl rfl rfl (vk EI uJ m rfl rfl λ_ m=> ?_)
 apply vi m <;> intro b1 m
 rw[b1]
 exact qA m
 rw[b1]
 refine vl 0 _ cE rfl rfl rfl (vk EI uJ m rfl rfl λ_ m=> ?_)
 apply vi m <;> intro b2 m
 rw[b2]
 exact qA m
 rw[b2]
 exact vl 0 _ cE rfl rfl rfl (vk EI uJ m rfl rfl λ_ m=>qA m)
 rintro _ j0 m
 refine v ?_
 apply vi m <;> intro c0 m
 refine v (v ?_)
 obtain rfl:=eY m
 exact eK rfl
 refine v (v (vl 0 _ cE rfl rfl rfl (v (v (v ?_)))))
 apply vi m <;> intro c1 m
 refine vs (fR m (σ:=Bool) (λs=> [(some k2,.obj 38 (aX p0))]) (λs=>.c 2 (.sc (.bool s)) .nil) (λx m=> ?_) ?_)
 refine v (vl 0 _ cE rfl rfl rfl ?_)
 apply vi m <;> intro b3 m
 rw[b3]
 exact vl 0 _ cE rfl rfl rfl (iD m)
 rw[b3]
 exact iD m
 rintro _ j1 m
 refine v ?_
 obtain rfl:=eY m
 exact eK rfl
 refine v (v ?_)
 apply vi m <;> intro c2 m
 refine vs (fR m (σ:=Bool) (λs=> [(some k2,.obj 38 (aX p0))]) (λs=>.c 2 (.sc (.bool s)) .nil) (λx m=> ?_) ?_)
 refine v (vl 0 (.agg (bM p0.Id)) fZ rfl rfl rfl (bU (FA (bM jR) (show wM Tryz.prog 36=some (List.replicate 32 (.int .u8 0),(List.range 32).map λi=>(i,1)) from by kernel_rfl) rfl) (bU (wD FJ RX u5 EO rfl rfl) ?_)))
 apply vi m <;> intro b4 m
 rw[b4]
 exact vl 0 _ cE rfl rfl rfl (iD m)
 rw[b4]
 exact iD m
 rintro _ j2 m
 refine v ?_
 obtain rfl:=eY m
 exact eK rfl
 refine v (vs (fR m (σ:=Bool) (λs=> [(some k2,.obj 38 (aX p0))]) (λs=>.c 2 (.sc (.bool s)) .nil) (λx m=> ?_) ?_))
 refine v (vl 0 _ cE rfl rfl rfl ?_)
 apply vi m <;> intro b5 m
 rw[b5]
 exact vl 0 (.agg (bM p0.Id)) fZ rfl rfl rfl (bU (FA (bM jR) (show wM Tryz.prog 36=some (List.replicate 32 (.int .u8 0),(List.range 32).map λi=>(i,1)) from by kernel_rfl) rfl) (bU (wD FJ RX u5 EO rfl rfl) (iD m)))
 rw[b5]
 exact iD m
 rintro _ j3 m
 refine v ?_
 obtain rfl:=eY m
 exact eK rfl
theorem ZU:aO Tryz.prog 163=true:=by kernel_rfl
def TW (m:Nat) (p0:bC):Option (Bool):=
 (TV m p0).bind λy6=>some (!y6)
theorem aE3 {u:Nat} {p0:bC} {o:Bool} (h:aE) (m:TW u p0=some o):
 aL Tryz.prog 162 [.agg (aX p0)] h (λr h'=>r= .sc (.bool o)∧h'=h):=by
 refine fY 6 [.tmp 2] Tryz.func162 rfl rfl rfl rfl ?_
 unfold TW at m
 refine v (gZ rfl rfl λk2 K3=>v (vl 0 (.agg (aX p0)) FK rfl rfl rfl (vk aE2 ZU m rfl rfl λ_ m=>v ?_)))
 cases m
 exact eK rfl
theorem ZV:aO Tryz.prog 162=true:=by kernel_rfl
def TX (m:Nat) (p0:aS):Option (Bool):=
 after (if (p0.Snap.Seq==0)=true then (if (p0.Snap.Man.Name.toList==(ByteArray.mk #[]).toList)=true then (some (.brk ((IntKind.wrap .i64 ((p0.Snap.Man.Parts.length:Int)+(p0.Snap.Locs.length:Int)))==0))) else some (.brk false)) else some (.brk false):Option (Lp (Bool) (Bool))) λj8=>if (p0.Kind==1)=true then (after (if (p0.Seq==0)=true then (if (p0.Vol==0)=true then (some (.brk ((p0.Items.length:Int)==0))) else some (.brk false)) else some (.brk false):Option (Lp (Bool) (Bool))) λj0=>some j0) else if (p0.Kind==2)=true then (after (if j8=true then (if ((p0.Chunks.length:Int)==0)=true then (if (p0.Vol==0)=true then (some (.brk ((p0.Items.length:Int)==0))) else some (.brk false)) else some (.brk false)) else some (.brk false):Option (Lp (Bool) (Bool))) λj1=>some j1) else if (p0.Kind==3)=true then (after (if j8=true then (if ((p0.Chunks.length:Int)==0)=true then (some (.brk (p0.Seq==0))) else some (.brk false)) else some (.brk false):Option (Lp (Bool) (Bool))) λj2=>some j2) else after (if j8=true then (if ((p0.Chunks.length:Int)==0)=true then (if (p0.Seq==0)=true then (some (.brk ((p0.Items.length:Int)==0))) else some (.brk false)) else some (.brk false)) else some (.brk false):Option (Lp (Bool) (Bool))) λj3=>some j3
theorem aE4 {u:Nat} {p0:aS} {o:Bool} (h:aE) (m:TX u p0=some o):
 aL Tryz.prog 158 [.agg (aD p0)] h (λr h'=>r= .sc (.bool o)∧h'=h):=by
 refine fY 98 [.tmp 2] Tryz.func158 rfl rfl rfl rfl ?_
 unfold TX at m
 refine v (gZ rfl rfl λk2 K3=>vs (fR m (σ:=Bool) (λs=> [(some k2,.obj 62 (aD p0))]) (λs=>.c 1 (.ptr k2 0) (.c 3 (.sc (.bool s)) .nil)) (λx m=> ?_) ?_))
 refine v (vl 0 _ cE rfl rfl rfl ?_)
 apply vi m <;> intro b9 m
 rw[b9]
 refine vl 0 _ xX rfl rfl rfl (bU (AH rfl rfl rfl trivial) ?_)
 apply vi m <;> intro b0 m
 rw[b0]
 exact vl 0 _ mQ rfl rfl rfl (dL tG rfl (vl 0 _ fJ rfl rfl rfl (dL jJ rfl (qA m))))
 rw[b0]
 exact qA m
 rw[b9]
 exact qA m
 rintro _ j8 m
 refine v (vl 0 _ cE rfl rfl rfl (v (v (v ?_))))
 apply vi m <;> intro c0 m
 refine vs (fR m (σ:=Bool) (λs=> [(some k2,.obj 62 (aD p0))]) (λs=>.c 2 (.sc (.bool s)) .nil) (λx m=> ?_) ?_)
 refine v (vl 0 _ cE rfl rfl rfl ?_)
 apply vi m <;> intro b1 m
 rw[b1]
 refine vl 0 _ cE rfl rfl rfl ?_
 apply vi m <;> intro b2 m
 rw[b2]
 exact vl 0 _ kK rfl rfl rfl (dL oN rfl (iD m))
 rw[b2]
 exact iD m
 rw[b1]
 exact iD m
 rintro _ j0 m
 refine v ?_
 obtain rfl:=eY m
 exact eK rfl
 refine v (v ?_)
 apply vi m <;> intro c1 m
 refine vs (fR m (σ:=Bool) (λs=> [(some k2,.obj 62 (aD p0))]) (λs=>.c 2 (.sc (.bool s)) .nil) (λx m=> ?_) ?_)
 refine v ?_
 apply vi m <;> intro b3 m
 rw[b3]
 refine vl 0 _ eU rfl rfl rfl (dL jE rfl ?_)
 apply vi m <;> intro b4 m
 rw[b4]
 refine vl 0 _ cE rfl rfl rfl ?_
 apply vi m <;> intro b5 m
 rw[b5]
 exact vl 0 _ kK rfl rfl rfl (dL oN rfl (iD m))
 rw[b5]
 exact iD m
 rw[b4]
 exact iD m
 rw[b3]
 exact iD m
 rintro _ j1 m
 refine v ?_
 obtain rfl:=eY m
 exact eK rfl
 refine v (v ?_)
 apply vi m <;> intro c2 m
 refine vs (fR m (σ:=Bool) (λs=> [(some k2,.obj 62 (aD p0))]) (λs=>.c 2 (.sc (.bool s)) .nil) (λx m=> ?_) ?_)
 refine v ?_
 apply vi m <;> intro b6 m
 rw[b6]
 refine vl 0 _ eU rfl rfl rfl (dL jE rfl ?_)
 apply vi m <;> intro b7 m
 rw[b7]
 exact vl 0 _ cE rfl rfl rfl (iD m)
 rw[b7]
 exact iD m
 rw[b6]
 exact iD m
 rintro _ j2 m
 refine v ?_
 obtain rfl:=eY m
 exact eK rfl
 refine v (vs (fR m (σ:=Bool) (λs=> [(some k2,.obj 62 (aD p0))]) (λs=>.c 2 (.sc (.bool s)) .nil) (λx m=> ?_) ?_))
 refine v ?_
 apply vi m <;> intro b8 m
 rw[b8]
 refine vl 0 _ eU rfl rfl rfl (dL jE rfl ?_)
 apply vi m <;> intro b49 m
 rw[b49]
 refine vl 0 _ cE rfl rfl rfl ?_
 apply vi m <;> intro b50 m
 rw[b50]
 exact vl 0 _ kK rfl rfl rfl (dL oN rfl (iD m))
 rw[b50]
 exact iD m
 rw[b49]
 exact iD m
 rw[b8]
 exact iD m
 rintro _ j3 m
 refine v ?_
 obtain rfl:=eY m
 exact eK rfl
theorem ZW:aO Tryz.prog 158=true:=by kernel_rfl
def TY (m:Nat) (p0:aA):Option (Bool):=
 some (decide (255 < (p0.Data.length:Int)))
theorem aE5 {u:Nat} {p0:aA} {o:Bool} (h:aE) (m:TY u p0=some o):
 aL Tryz.prog 160 [.agg (aH p0)] h (λr h'=>r= .sc (.bool o)∧h'=h):=by
 refine fY 7 [.tmp 2] Tryz.func160 rfl rfl rfl rfl ?_
 unfold TY at m
 refine v (gZ rfl rfl λk2 K3=>v (vl 0 _ lV rfl rfl rfl (dL lK rfl (v ?_))))
 cases m
 exact eK rfl
theorem ZX:aO Tryz.prog 160=true:=by kernel_rfl
def M94 (m:Nat) (p0:aS):Option (Bool):=
 (TX m p0).bind λy7=>if (!y7)=true then (some false) else if (p0.Kind==1)=true then ((MD m p0.Chunks (λx0=>TY m x0)).bind λy0=>after ((yM m p0.Snap.Seq 4294967295).bind λy1=>if y1=true then (if ((p0.Snap.Locs.length:Int)==0)=true then ((DJ m p0.Snap.Man).bind λy2=>if (y2==0)=true then (if (decide ((p0.Chunks.length:Int)≤65535))=true then ((I5 m p0.Chunks).bind λy3=>if y3=true then (some (.brk (!y0))) else some (.brk false)) else some (.brk false)) else some (.brk false)) else some (.brk false)) else some (.brk false):Option (Lp (Bool) (Bool))) λj0=>some j0) else if (p0.Kind==2)=true then ((yM m p0.Seq 4294967295).bind λy4=>some y4) else if (p0.Kind==3)=true then (after ((yM m p0.Vol 255).bind λy5=>if y5=true then (if (decide ((p0.Items.length:Int)≤255))=true then ((I3 m p0.Items (λx0=>TW m x0)).bind λy6=>some (.brk (!y6))) else some (.brk false)) else some (.brk false):Option (Lp (Bool) (Bool))) λj1=>some j1) else after (if (p0.Kind==4)=true then (some (.brk (p0.Kind==4))) else some (.brk (p0.Kind==5)):Option (Lp (Bool) (Bool))) λj2=>if j2=true then ((yM m p0.Vol 255).bind λy8=>some y8) else some false
theorem W94 {u:Nat} {p0:aS} {o:Bool} (h:aE) (m:M94 u p0=some o):
 aL Tryz.prog 94 [.agg (aD p0)] h (λr h'=>r= .sc (.bool o)∧h'=h):=by
 refine fY 75 [.tmp 2] Tryz.func94 rfl rfl rfl rfl ?_
 unfold M94 at m
 refine v (gZ rfl rfl λk2 K3=>v (vl 0 (.agg (aD p0)) nF rfl rfl rfl (vk aE4 ZW m rfl rfl λ_ m=>v ?_)))
 apply vi m <;> intro c9 m
 refine v (v ?_)
 obtain rfl:=eY m
 exact eK rfl
 refine v (v (vl 0 _ cE rfl rfl rfl (v (v (v ?_)))))
 apply vi m <;> intro c0 m
 refine v (vl 0 _ eU rfl rfl rfl ?_)
 obtain⟨_,Y0,m⟩:=aC m
 refine bU (bY (YF _ ZX (λx0 o h0 hs ho=>aE5 _ ho) Y0) rfl QV rfl) (vs (fR m (σ:=Bool) (λs=> [(some k2,.obj 62 (aD p0))]) (λs=>.c 2 (.sc (.bool s)) .nil) (λx m=> ?_) ?_))
 refine v (vl 0 _ cE rfl rfl rfl (vk EI uJ m rfl rfl λ_ m=> ?_))
 apply vi m <;> intro b0 m
 rw[b0]
 refine vl 0 _ fJ rfl rfl rfl (dL jJ rfl ?_)
 apply vi m <;> intro b1 m
 rw[b1]
 refine vl 0 (.agg (bH p0.Snap.Man)) m8 rfl rfl rfl (vk OQ G5 m rfl rfl λ_ m=> ?_)
 apply vi m <;> intro b2 m
 rw[b2]
 refine vl 0 _ eU rfl rfl rfl (dL jE rfl ?_)
 apply vi m <;> intro b3 m
 rw[b3]
 refine vl 0 _ eU rfl rfl rfl (vk YG QW m rfl rfl λ_ m=> ?_)
 apply vi m <;> intro b4 m
 rw[b4]
 exact iD m
 rw[b4]
 exact iD m
 rw[b3]
 exact iD m
 rw[b2]
 exact iD m
 rw[b1]
 exact iD m
 rw[b0]
 exact iD m
 rintro _ j0 m
 refine v ?_
 obtain rfl:=eY m
 exact eK rfl
 refine v (v ?_)
 apply vi m <;> intro c1 m
 refine v (vl 0 _ cE rfl rfl rfl (vk EI uJ m rfl rfl λ_ m=>v ?_))
 obtain rfl:=eY m
 exact eK rfl
 refine v (v ?_)
 apply vi m <;> intro c2 m
 refine vs (fR m (σ:=Bool) (λs=> [(some k2,.obj 62 (aD p0))]) (λs=>.c 2 (.sc (.bool s)) .nil) (λx m=> ?_) ?_)
 refine v (vl 0 _ cE rfl rfl rfl (vk EI uJ m rfl rfl λ_ m=> ?_))
 apply vi m <;> intro b5 m
 rw[b5]
 refine vl 0 _ kK rfl rfl rfl (dL oN rfl ?_)
 apply vi m <;> intro b6 m
 rw[b6]
 refine vl 0 _ kK rfl rfl rfl ?_
 obtain⟨_,Y1,m⟩:=aC m
 exact bU (bY (XN _ ZV (λx0 o h0 hs ho=>aE3 _ ho) Y1) rfl QT rfl) (iD m)
 rw[b6]
 exact iD m
 rw[b5]
 exact iD m
 rintro _ j1 m
 refine v ?_
 obtain rfl:=eY m
 exact eK rfl
 refine v (fR m (σ:=Bool) (λs=> [(some k2,.obj 62 (aD p0))]) (λs=>.c 1 (.ptr k2 0) (.c 69 (.sc (.bool s)) .nil)) (λx m=> ?_) ?_)
 refine v ?_
 apply vi m <;> intro c3 m
 exact v (qA m)
 exact v (qA m)
 rintro _ j2 m
 refine v ?_
 apply vi m <;> intro c4 m
 refine v (vl 0 _ cE rfl rfl rfl (vk EI uJ m rfl rfl λ_ m=>v ?_))
 obtain rfl:=eY m
 exact eK rfl
 refine v (v (v ?_))
 obtain rfl:=eY m
 exact eK rfl
theorem aE7:aO Tryz.prog 94=true:=by kernel_rfl
def GQ (m:Nat) (p0:aS) (q0:List Int) (q1:Int):Option (Lp ((List Int)×Int) (Lp ((List Int)) ((List Int)×Int))):=
 if (decide (q1 < (p0.Chunks.length:Int)))=true then ((ix p0.Chunks q1).bind λx0=>(app q0 x0.Id.1).bind λz0=>(xT m z0 (x0.Data.length:Int) 1).bind λy0=>(app y0 x0.Data).bind λz1=>some (.go (z1,IntKind.wrap .i64 (q1+1)))) else some (.brk (q0,q1))
def GR (m:Nat) (p0:aS) (q0:List Int) (q1:Int):Option (Lp ((List Int)×Int) (Lp ((List Int)) (Lp ((List Int)) (Lp ((List Int)) ((List Int)×Int))))):=
 if (decide (q1 < (p0.Items.length:Int)))=true then ((ix p0.Items q1).bind λx0=>(app q0 ([IntKind.wrap .u8 x0.Kind]:List Int)).bind λz0=>(app z0 x0.Id.1).bind λz1=>(xT m z1 x0.Seq 4).bind λy0=>(xT m y0 x0.Of 4).bind λy1=>(xT m y1 x0.Off 3).bind λy2=>(xT m y2 x0.Len 2).bind λy3=>some (.go (y3,IntKind.wrap .i64 (q1+1)))) else some (.brk (q0,q1))
def M40 (m:Nat) (p0:aS):Option ((List Int)×Int):=
 (M94 m p0).bind λy7=>if (!y7)=true then (some ([],1)) else after (if (p0.Kind==1)=true then ((M42 m p0.Snap.Man).bind λy0=>(xT m ([IntKind.wrap .u8 p0.Kind]:List Int) p0.Snap.Seq 4).bind λy1=>(xT m y1 (y0.1.length:Int) 4).bind λy2=>(app y2 y0.1).bind λz0=>(xT m z0 (p0.Chunks.length:Int) 2).bind λy3=>after (aW (λs=>GQ m p0 s.1 s.2) m (y3,0)) λ⟨r0,r1⟩=>some (.brk r0)) else after (if (p0.Kind==2)=true then ((xT m ([IntKind.wrap .u8 p0.Kind]:List Int) p0.Seq 4).bind λy4=>some (.brk y4)) else after (if (p0.Kind==3)=true then ((app ([IntKind.wrap .u8 p0.Kind]:List Int) ([IntKind.wrap .u8 p0.Vol,IntKind.wrap .u8 (p0.Items.length:Int)]:List Int)).bind λz1=>after (aW (λs=>GR m p0 s.1 s.2) m (z1,0)) λ⟨r2,r3⟩=>some (.brk r2)) else (app ([IntKind.wrap .u8 p0.Kind]:List Int) ([IntKind.wrap .u8 p0.Vol]:List Int)).bind λz2=>some (.brk z2):Option (Lp ((List Int)) (Lp ((List Int)) (Lp ((List Int)) ((List Int)×Int))))) λj0=>some (.brk j0):Option (Lp ((List Int)) (Lp ((List Int)) ((List Int)×Int)))) λj1=>some (.brk j1):Option (Lp ((List Int)) ((List Int)×Int))) λj2=>(QF m j2).bind λy5=>some (y5,0)
theorem W40 {w:Nat} {p0:aS} {o:(List Int)×Int} (h:aE) (m:M40 w p0=some o):
 aL Tryz.prog 40 [.agg (aD p0)] h (λr h'=>r= .tup [.sl none 1 (List.map dG o.1),nZ o.2]∧h'=h):=by
 refine fY 120 [.tmp 2,.tmp 3] Tryz.func40 rfl rfl rfl rfl ?_
 unfold M40 at m
 refine v (gZ rfl rfl λk2 K3=>v (vl 0 (.agg (aD p0)) nF rfl rfl rfl (vk W94 aE7 m rfl rfl λ_ m=>v ?_)))
 apply vi m <;> intro c9 m
 refine v (v ?_)
 cases m
 exact vr λu=>dV.of2 (.inl rfl) (fP _ _ (.sc (.slice _ _ _)) rfl) (fP _ _ (.sc (.int _ _)) rfl) (aR (List.nil_sublist _) u).1 (aV _) (bE.refl _ _) ⟨rfl,rfl⟩
 refine v (v (vl 0 _ cE rfl rfl rfl (ve λu=>E2 (c:=dG) ([IntKind.wrap .u8 p0.Kind]:List Int) u i9 rfl rfl rfl rfl λtg0 t0 K0=>qk K0 rfl (v (vl 1 _ cE rfl rfl rfl (v (v (oU m (σ:=(List Int)) (τ:=Option cB) (λg s=> [(g,.tok 5 1 ((s:List Int).length*1)),(some k2,.obj 62 (aD p0))]) (λg s=>(g=none→s= [])) (λg s=>.c 4 (ow g 1 (List.map dG s)) .nil) (λx m=> ?_) ?_))))))))
 refine v ?_
 apply vi m <;> intro c0 m
 refine v (vl 1 (.agg (bH p0.Snap.Man)) m8 rfl rfl rfl (vk W42 aBZ m rfl rfl λ_ m=>v (vl 1 _ cE rfl rfl rfl ?_)))
 obtain⟨y0,Y0,m⟩:=aC m
 refine ve λu=> ?_
 have ho0:=lN (A:= [(tg0,.tok 5 1 ((([IntKind.wrap .u8 p0.Kind]:List Int):List Int).length*1))]) (R:= [(some k2,.obj 62 (aD p0))]) u [[_], [_]] rfl [0] [1] rfl rfl rfl
 refine cY ho0.1 (cI (CM _ t0 ho0.2.2 Y0) rfl CN rfl ?_)
 rintro x h' ⟨tg1,t1,K1,rfl,rfl⟩
 have K2:=lO (L':= [(tg1,.tok 5 1 ((y0:List Int).length*1)),(some k2,.obj 62 (aD p0))]) ho0.2.1 K1 [[_]] [[_]] rfl rfl [0,1] rfl rfl
 refine qk K2.2 K2.1 (dL lK rfl ?_)
 obtain⟨y1,Y1,m⟩:=aC m
 refine ve λu=> ?_
 have ho1:=lN (A:= [(tg1,.tok 5 1 ((y0:List Int).length*1))]) (R:= [(some k2,.obj 62 (aD p0))]) u [[_], [_]] rfl [0] [1] rfl rfl rfl
 refine cY ho1.1 (cI (CM _ t1 ho1.2.2 Y1) rfl CN rfl ?_)
 rintro x h' ⟨tg2,t2,K4,rfl,rfl⟩
 have K5:=lO (L':= [(tg2,.tok 5 1 ((y1:List Int).length*1)),(some k2,.obj 62 (aD p0))]) ho1.2.1 K4 [[_]] [[_]] rfl rfl [0,1] rfl rfl
 refine qk K5.2 K5.1 ?_
 obtain⟨z0,Z0,m⟩:=aC m
 refine ve λu=>fB (c:=dG) 0 Z0 i9 rfl rfl rfl t2 u rfl λtg3 t3 K6=>qk K6 rfl (v (vl 1 _ eU rfl rfl rfl (dL jE rfl ?_)))
 obtain⟨y2,Y2,m⟩:=aC m
 refine ve λu=> ?_
 have ho2:=lN (A:= [(tg3,.tok 5 1 ((z0:List Int).length*1))]) (R:= [(some k2,.obj 62 (aD p0))]) u [[_], [_]] rfl [0] [1] rfl rfl rfl
 refine cY ho2.1 (cI (CM _ t3 ho2.2.2 Y2) rfl CN rfl ?_)
 rintro x h' ⟨tg4,t4,K7,rfl,rfl⟩
 have K8:=lO (L':= [(tg4,.tok 5 1 ((y2:List Int).length*1)),(some k2,.obj 62 (aD p0))]) ho2.2.1 K7 [[_]] [[_]] rfl rfl [0,1] rfl rfl
 refine qk K8.2 K8.1 (v (vl 1 _ eU rfl rfl rfl (dL jE rfl (m5 m (σ:=(List Int)×Int) (τ:=Option cB) (λg s=> [(g,.tok 5 1 ((s.1:List Int).length*1)),(some k2,.obj 62 (aD p0))]) (λg s=>(g=none→s.1= [])) (λg s=>.c 4 (ow g 1 (List.map dG s.1)) (.c 51 (.sl none 35 (List.map aH p0.Chunks)) (.c 52 (nZ (p0.Chunks.length:Int)) (.c 53 (nZ s.2) .nil)))) tg4 t4 (lx (.k4 .nil)) ?_ ?_))))
 rintro tg5 ⟨q0,q1⟩ x t5 m
 replace m:GQ w p0 q0 q1=some x:=m
 unfold GQ at m
 refine v (v ?_)
 apply vi m <;> intro c1 m
 refine v (v (v (vx m fI rfl rfl λx0 _ m=>va (.agg (aH x0)) mH rfl rfl (ve λu=>bI (bM jR++(JK:List AV)) u m7 rfl rfl λk1507 K9=>qk K9 rfl (ve λu=>aJ 0 (aH x0) u rfl rfl rfl rfl wN rfl rfl λK10=>qk K10 rfl (v (bU (DA rC rfl) ?_)))))))
 obtain⟨z1,Z1,m⟩:=aC m
 refine ve λu=>fB (c:=dG) 1 Z1 i9 rfl rfl rfl t5 u (wG (a8 0 u rfl) rfl rfl) λtg6 t6 K11=>qk K11 rfl (v (vz [(1000000,some k1507,.obj 44 (aH x0))] mixed (λu=>⟨λ_=>aI 0 u rfl,trivial⟩) λu=>zC 0 rfl (eT (ow _ _ _) rfl) (zF 1 rfl jK rfl (zL 2 0 (.sl none 1 (List.map dG x0.Data)) rfl lV rfl rfl rfl (zC 3 rfl (sY lK rfl) (zF 5 rfl jK rfl (zL 6 0 (.sl none 1 (List.map dG x0.Data)) rfl lV rfl rfl rfl ?_)))))))
 obtain⟨y3,Y3,m⟩:=aC m
 refine zE 4 rfl ?_
 have ho3:=lN (A:= [(tg6,.tok 5 1 ((z1:List Int).length*1))]) (R:= [(some k1507,.obj 44 (aH x0)),(some k2,.obj 62 (aD p0))]) u [[_], [_], [_]] rfl [1] [0,2] rfl rfl rfl
 refine cY ho3.1 (cI (CM _ t6 ho3.2.2 Y3) rfl CN rfl ?_)
 rintro x h' ⟨tg7,t7,K12,rfl,rfl⟩
 have K13:=lO (L':= [(some k1507,.obj 44 (aH x0)),(tg7,.tok 5 1 ((y3:List Int).length*1)),(some k2,.obj 62 (aD p0))]) ho3.2.1 K12 [[_]] [[_], [_]] rfl rfl [1,0,2] rfl rfl
 refine kF K13.1 (⟨⟨λ_=>aI 0 K13.2 rfl,trivial⟩, ?_⟩)
 obtain⟨z2,Z2,m⟩:=aC m
 refine zE 7 rfl (fB (c:=dG) 1 Z2 i9 rfl rfl rfl t7 K13.2 rfl λtg8 t8 K15=>⟨⟨λ_=>aI 0 K15 rfl,trivial⟩, ?_⟩)
 exact zC 8 rfl (hU (ow _ _ _) rfl) (zX (qk (f:=.c 4 _ (.c 68 _ (.c 65 _ (.c 67 _ (.c 66 _ (OE 64 _ _ _ _ _)))))) K15 rfl (v (eR m tg8 t8 (l4 [1,2] rfl rfl (.k4 .nil))))))
 exact v (kT m tg5 t5 (lx (.k4 .nil)))
 rintro tg9 ⟨r0,r1⟩ t9 m
 exact eR m tg9 t9 (lx (.cons (bE.refl _ _) .nil))
 refine v (oU m (σ:=(List Int)) (τ:=Option cB) (λg s=> [(g,.tok 5 1 ((s:List Int).length*1)),(some k2,.obj 62 (aD p0))]) (λg s=>(g=none→s= [])) (λg s=>.c 4 (ow g 1 (List.map dG s)) .nil) (λx m=> ?_) ?_)
 refine v ?_
 apply vi m <;> intro c2 m
 refine v (vl 1 _ cE rfl rfl rfl ?_)
 obtain⟨y4,Y4,m⟩:=aC m
 refine ve λu=> ?_
 have ho4:=lN (A:= [(tg0,.tok 5 1 ((([IntKind.wrap .u8 p0.Kind]:List Int):List Int).length*1))]) (R:= [(some k2,.obj 62 (aD p0))]) u [[_], [_]] rfl [0] [1] rfl rfl rfl
 refine cY ho4.1 (cI (CM _ t0 ho4.2.2 Y4) rfl CN rfl ?_)
 rintro x h' ⟨tg10,t10,K16,rfl,rfl⟩
 have K17:=lO (L':= [(tg10,.tok 5 1 ((y4:List Int).length*1)),(some k2,.obj 62 (aD p0))]) ho4.2.1 K16 [[_]] [[_]] rfl rfl [0,1] rfl rfl
 exact qk K17.2 K17.1 (eR m tg10 t10 (lx (.cons (bE.refl _ _) .nil)))
 refine v (oU m (σ:=(List Int)) (τ:=Option cB) (λg s=> [(g,.tok 5 1 ((s:List Int).length*1)),(some k2,.obj 62 (aD p0))]) (λg s=>(g=none→s= [])) (λg s=>.c 4 (ow g 1 (List.map dG s)) .nil) (λx m=> ?_) ?_)
 refine v ?_
 apply vi m <;> intro c3 m
 refine v (vl 1 _ cE rfl rfl rfl (vl 1 _ kK rfl rfl rfl (dL oN rfl (bU (eI (List.map dG ([IntKind.wrap .u8 p0.Vol,IntKind.wrap .u8 (p0.Items.length:Int)]:List Int)) i9 rfl rfl rfl rfl) ?_))))
 obtain⟨z3,Z3,m⟩:=aC m
 refine ve λu=>fB (c:=dG) 0 Z3 i9 rfl rfl rfl t0 u rfl λtg11 t11 K18=>qk K18 rfl (v (vl 1 _ kK rfl rfl rfl (dL oN rfl (m5 m (σ:=(List Int)×Int) (τ:=Option cB) (λg s=> [(g,.tok 5 1 ((s.1:List Int).length*1)),(some k2,.obj 62 (aD p0))]) (λg s=>(g=none→s.1= [])) (λg s=>.c 4 (ow g 1 (List.map dG s.1)) (.c 89 (.sl none 37 (List.map aX p0.Items)) (.c 90 (nZ (p0.Items.length:Int)) (.c 91 (nZ s.2) .nil)))) tg11 t11 (lx (.k4 .nil)) ?_ ?_))))
 rintro tg13 ⟨q2,q3⟩ x t12 m
 replace m:GR w p0 q2 q3=some x:=m
 unfold GR at m
 refine v (v ?_)
 apply vi m <;> intro c4 m
 refine v (v (v (vx m uV rfl rfl λx1 _ m=>va (.agg (aX x1)) FK rfl rfl (ve λu=>bI (([nZ 0]:List AV)++bM jR++(NT:List AV)) u RZ rfl rfl λk2640 K19=>qk K19 rfl (ve λu=>aJ 0 (aX x1) u rfl rfl rfl rfl RY rfl rfl λK20=>qk K20 rfl (v (vz [(1000000,some k2640,.obj 38 (aX x1))] mixed (λu=>⟨λ_=>aI 0 u rfl,trivial⟩) λu=>zC 0 rfl (eT (ow _ _ _) rfl) (zF 1 rfl lJ rfl (zL 2 0 (nZ x1.Kind) rfl cE rfl rfl rfl (zC 3 rfl (IB VE ti5 rfl) (zC 4 rfl (eI (List.map dG ([IntKind.wrap .u8 x1.Kind]:List Int)) i9 rfl rfl rfl rfl) (zF 6 rfl tE rfl (zC 7 rfl (DA rC rfl) ?_)))))))))))))
 obtain⟨z4,Z4,m⟩:=aC m
 refine zE 5 rfl (fB (c:=dG) 1 Z4 i9 rfl rfl rfl t12 u rfl λtg14 t14 K21=>⟨⟨λ_=>aI 0 K21 rfl,trivial⟩, ?_⟩)
 obtain⟨z5,Z5,m⟩:=aC m
 refine zE 8 rfl (fB (c:=dG) 1 Z5 i9 rfl rfl rfl t14 K21 (wG (a8 0 K21 rfl) rfl rfl) λtg15 t15 K22=>⟨⟨λ_=>aI 0 K22 rfl,trivial⟩, ?_⟩)
 refine zC 9 rfl (hU (ow _ _ _) rfl) (zX (qk (f:=.c 4 _ (.c 103 _ (.c 100 _ (.c 102 _ (.c 101 _ (fq5 99 _ _ _ _ _ _)))))) K22 rfl (v (vz [(1000000,some k2640,.obj 38 (aX x1))] mixed (λu=>⟨λ_=>aI 0 u rfl,trivial⟩) λu=>zC 0 rfl (eT (ow _ _ _) rfl) (zF 1 rfl kL rfl (zL 2 0 (nZ x1.Seq) rfl cE rfl rfl rfl (zF 4 rfl tF rfl (zL 5 0 (nZ x1.Of) rfl cE rfl rfl rfl (zF 7 rfl FL rfl (zL 8 0 (nZ x1.Off) rfl cE rfl rfl rfl (zF 10 rfl FM rfl (zL 11 0 (nZ x1.Len) rfl cE rfl rfl rfl ?_))))))))))))
 obtain⟨y5,Y5,m⟩:=aC m
 refine zE 3 rfl ?_
 have ho5:=lN (A:= [(tg15,.tok 5 1 ((z5:List Int).length*1))]) (R:= [(some k2640,.obj 38 (aX x1)),(some k2,.obj 62 (aD p0))]) u [[_], [_], [_]] rfl [1] [0,2] rfl rfl rfl
 refine cY ho5.1 (cI (CM _ t15 ho5.2.2 Y5) rfl CN rfl ?_)
 rintro x h' ⟨tg16,t16,K23,rfl,rfl⟩
 have K24:=lO (L':= [(some k2640,.obj 38 (aX x1)),(tg16,.tok 5 1 ((y5:List Int).length*1)),(some k2,.obj 62 (aD p0))]) ho5.2.1 K23 [[_]] [[_], [_]] rfl rfl [1,0,2] rfl rfl
 refine kF K24.1 (⟨⟨λ_=>aI 0 K24.2 rfl,trivial⟩, ?_⟩)
 obtain⟨y6,Y6,m⟩:=aC m
 refine zE 6 rfl ?_
 have ho6:=lN (A:= [(tg16,.tok 5 1 ((y5:List Int).length*1))]) (R:= [(some k2640,.obj 38 (aX x1)),(some k2,.obj 62 (aD p0))]) K24.2 [[_], [_], [_]] rfl [1] [0,2] rfl rfl rfl
 refine cY ho6.1 (cI (CM _ t16 ho6.2.2 Y6) rfl CN rfl ?_)
 rintro x h' ⟨tg17,t17,K25,rfl,rfl⟩
 have K26:=lO (L':= [(some k2640,.obj 38 (aX x1)),(tg17,.tok 5 1 ((y6:List Int).length*1)),(some k2,.obj 62 (aD p0))]) ho6.2.1 K25 [[_]] [[_], [_]] rfl rfl [1,0,2] rfl rfl
 refine kF K26.1 (⟨⟨λ_=>aI 0 K26.2 rfl,trivial⟩, ?_⟩)
 obtain⟨y7,Y7,m⟩:=aC m
 refine zE 9 rfl ?_
 have ho7:=lN (A:= [(tg17,.tok 5 1 ((y6:List Int).length*1))]) (R:= [(some k2640,.obj 38 (aX x1)),(some k2,.obj 62 (aD p0))]) K26.2 [[_], [_], [_]] rfl [1] [0,2] rfl rfl rfl
 refine cY ho7.1 (cI (CM _ t17 ho7.2.2 Y7) rfl CN rfl ?_)
 rintro x h' ⟨tg18,t18,K27,rfl,rfl⟩
 have K28:=lO (L':= [(some k2640,.obj 38 (aX x1)),(tg18,.tok 5 1 ((y7:List Int).length*1)),(some k2,.obj 62 (aD p0))]) ho7.2.1 K27 [[_]] [[_], [_]] rfl rfl [1,0,2] rfl rfl
 refine kF K28.1 (⟨⟨λ_=>aI 0 K28.2 rfl,trivial⟩, ?_⟩)
 obtain⟨y8,Y8,m⟩:=aC m
 refine zE 12 rfl ?_
 have ho8:=lN (A:= [(tg18,.tok 5 1 ((y7:List Int).length*1))]) (R:= [(some k2640,.obj 38 (aX x1)),(some k2,.obj 62 (aD p0))]) K28.2 [[_], [_], [_]] rfl [1] [0,2] rfl rfl rfl
 refine cY ho8.1 (cI (CM _ t18 ho8.2.2 Y8) rfl CN rfl ?_)
 rintro x h' ⟨tg19,t19,K29,rfl,rfl⟩
 have K30:=lO (L':= [(some k2640,.obj 38 (aX x1)),(tg19,.tok 5 1 ((y8:List Int).length*1)),(some k2,.obj 62 (aD p0))]) ho8.2.1 K29 [[_]] [[_], [_]] rfl rfl [1,0,2] rfl rfl
 refine kF K30.1 (⟨⟨λ_=>aI 0 K30.2 rfl,trivial⟩, ?_⟩)
 exact zC 13 rfl (hU (ow _ _ _) rfl) (zX (qk (f:=.c 4 _ (.c 116 _ (.c 113 _ (.c 110 _ (.c 107 _ (.c 115 _ (.c 114 _ (.c 112 _ (.c 111 _ (.c 109 _ (.c 108 _ (.c 106 _ (.c 105 _ (.c 104 _ _)))))))))))))) K30.2 rfl (v (eR m tg19 t19 (l4 [1,2] rfl rfl (.k4 .nil))))))
 exact v (kT m tg13 t12 (lx (.k4 .nil)))
 rintro tg20 ⟨r2,r3⟩ t20 m
 exact eR m tg20 t20 (lx (.cons (bE.refl _ _) .nil))
 refine v (vl 1 _ cE rfl rfl rfl (bU (eI (List.map dG ([IntKind.wrap .u8 p0.Vol]:List Int)) i9 rfl rfl rfl rfl) ?_))
 obtain⟨z6,Z6,m⟩:=aC m
 exact ve λu=>fB (c:=dG) 0 Z6 i9 rfl rfl rfl t0 u rfl λtg21 t21 K31=>qk K31 rfl (eR m tg21 t21 (lx (.cons (bE.refl _ _) .nil)))
 rintro tg22 j0 t22 m
 exact eR m tg22 t22 (lx (.cons (bE.refl _ _) .nil))
 rintro tg23 j1 t23 m
 exact eR m tg23 t23 (lx (.cons (bE.refl _ _) .nil))
 rintro tg24 j2 t24 m
 refine v ?_
 obtain⟨_,Y9,m⟩:=aC m
 refine ve λu=>A5 (t:=118) (.sl none 1 (List.map dG j2)) (aR (List.eraseIdx_sublist _ 0) u).1 (mF _ 0 t24 u rfl (.refl _)) (cI (W96 _ Y9) rfl OS rfl ?_)
 rintro x h' ⟨tg25,t25,K32,rfl,rfl⟩
 refine qk (bT.co ((aR (List.eraseIdx_sublist _ 0) u).2) K32) (iL _ _ _) (v ?_)
 cases m
 exact vr λu=>dV.of2 (.inl rfl) (fP _ _ (ow _ _ _) rfl) (fP _ _ (.sc (.int _ _)) rfl) (aR (List.nil_sublist _) u).1 ((eS _ 0 t25 u rfl)) (bE.refl _ _) ⟨rfl,rfl⟩
theorem aE9:aO Tryz.prog 40=true:=by kernel_rfl
def JF (m:Nat):Option (Bool):=
 (M32 m ([0]:List Int)).bind λy3=>(zU m y3.1 ({ Kind:=1,Snap:=({ Seq:=0,Man:=({ Name:=(ByteArray.mk #[97]),Parts:= []}:bF),Locs:= []}:aG),Chunks:= [],Seq:=0,Vol:=0,Items:= []}:aS)).bind λy0=>(M40 m ({ Kind:=1,Snap:=({ Seq:=0,Man:=({ Name:=(ByteArray.mk #[97]),Parts:= []}:bF),Locs:= []}:aG),Chunks:= [],Seq:=0,Vol:=0,Items:= []}:aS)).bind λy1=>after (if (y3.2==0)=true then (if (y0.2==0)=true then (if (y1.2==0)=true then (if ((y0.1.Snaps.length:Int)==1)=true then (if (y0.1.Seq==1)=true then (some (.brk ((y1.1.length:Int)==14))) else some (.brk false)) else some (.brk false)) else some (.brk false)) else some (.brk false)) else some (.brk false):Option (Lp (Bool) (Bool))) λj0=>some j0
theorem UI {w:Nat} {o:Bool} (h:aE) (m:JF w=some o):
 aL Tryz.prog 37 [] h (λr h'=>r= .sc (.bool o)∧h'=h):=by
 refine fY 53 [.tmp 0] Tryz.func37 rfl rfl rfl rfl ?_
 unfold JF at m
 refine v (v (bU (eI (List.map iQ ([0]:List Int)) OJ rfl rfl rfl rfl) (vk W32 aCZ m rfl rfl λy3 m=>ve λu=>bI (gQ) u oM rfl rfl λk5 K6=>qk K6 rfl (ve λu=>aJ 0 (aF y3.1) u rfl rfl rfl rfl lA rfl rfl λK8=>qk K8 rfl (v (bU (fF ([.sc (.string (ByteArray.mk #[97])),sZ]) OO rfl) (bU (fF ([nZ 0,.sc (.string (ByteArray.mk #[97])),sZ,sZ]) R4 rfl) (bU (fF ([nZ 1,nZ 0,.sc (.string (ByteArray.mk #[97])),sZ,sZ,sZ,nZ 0,nZ 0,sZ]) BD rfl) (ve λu=>bI (uY) u IN rfl rfl λk10 K0=>qk K0 rfl (ve λu=>aJ 0 ([nZ 1,nZ 0,.sc (.string (ByteArray.mk #[97])),sZ,sZ,sZ,nZ 0,nZ 0,sZ]) u rfl rfl rfl rfl tK rfl rfl λK1=>qk K1 rfl (v (vl 1 (.agg (aF y3.1)) eV rfl rfl rfl (vl 0 (.agg ([nZ 1,nZ 0,.sc (.string (ByteArray.mk #[97])),sZ,sZ,sZ,nZ 0,nZ 0,sZ])) nF rfl rfl rfl ?_)))))))))))))
 obtain⟨y0,Y0,m⟩:=aC m
 refine bU (bY (sW (.cons (bE.refl _ _) (.cons (bE.agg (.k3 (.cons (aV _) (.cons (aV _) (.cons (aV _) (.k2 (.cons (aV _) .nil))))))) .nil)) (W29 _ Y0)) rfl TC rfl) (ve λu=>bI (gQ) u oM rfl rfl λk17 K2=>qk K2 rfl (ve λu=>aJ 0 (aF y0.1) u rfl rfl rfl rfl lA rfl rfl λK3=>qk K3 rfl (v (vl 1 (.agg ([nZ 1,nZ 0,.sc (.string (ByteArray.mk #[97])),sZ,sZ,sZ,nZ 0,nZ 0,sZ])) nF rfl rfl rfl ?_))))
 obtain⟨_,Y1,m⟩:=aC m
 refine bU (bY (sW (.cons (bE.agg (.k3 (.cons (aV _) (.cons (aV _) (.cons (aV _) (.k2 (.cons (aV _) .nil))))))) .nil) (W40 _ Y1)) rfl aE9 rfl) (vs (fR m (σ:=Bool) (λs=> [(some k17,.obj 30 (aF y0.1)),(some k10,.obj 62 ([nZ 1,nZ 0,.sc (.string (ByteArray.mk #[97])),sZ,sZ,sZ,nZ 0,nZ 0,sZ])),(some k5,.obj 30 (aF y3.1))]) (λs=>.c 0 (.sc (.bool s)) .nil) (λx m=> ?_) ?_))
 refine v ?_
 apply vi m <;> intro b0 m
 rw[b0]
 apply vi m <;> intro b1 m
 rw[b1]
 apply vi m <;> intro b2 m
 rw[b2]
 refine vl 0 _ fM rfl rfl rfl (dL jU rfl ?_)
 apply vi m <;> intro b3 m
 rw[b3]
 refine vl 0 _ cE rfl rfl rfl ?_
 apply vi m <;> intro b4 m
 rw[b4]
 exact dL lK rfl (iD m)
 rw[b4]
 exact iD m
 rw[b3]
 exact iD m
 rw[b2]
 exact iD m
 rw[b1]
 exact iD m
 rw[b0]
 exact iD m
 rintro _ j0 m
 refine v ?_
 obtain rfl:=eY m
 exact eK rfl
theorem JG:aO Tryz.prog 37=true:=by kernel_rfl
open Go.Vm
theorem EJ:JF 1000=some true:=by decide+kernel
theorem Lk.filt {vs:List aP} {l:List bK} (h:Lk vs l) (q:bK→Bool):Lk vs (l.filter q):=
 ⟨Nat.le_trans (List.length_filter_le _ _) h.n,λx hx=>h.a x (List.mem_filter.1 hx).1,h.o.sublist (List.filter_sublist)⟩
theorem P1 {vs:List aP} {x:bK} {v:Nat} {z:aP} (h:DV vs x=true) (hv:x.Vol.toNat≠v):DV (vs.set v z) x=true:=by
 unfold DV at*
 rw[List.length_set,List.getElem?_set_ne (λe=>hv e.symm)]
 exact h
theorem HU {vs:List aP} {x:bK} (h:DV vs x=true):0≤x.Vol∧∃v,vs[x.Vol.toNat]? =some v∧v.State=2∧1≤x.File∧x.File≤v.Files:=by
 unfold DV at h
 simp only[Bool.and_eq_true,gP,decide_eq_true_eq] at h
 obtain⟨⟨⟨h1,h2⟩, -⟩, -⟩:=h
 refine⟨h1.1, ?_⟩
 cases e:vs[x.Vol.toNat]? with
 | none=>rw[e] at h2; cases h2
 | some v=>
  rw[e] at h2
  simp only[Bool.and_eq_true,beq_iff_eq,decide_eq_true_eq] at h2
  exact⟨v,rfl,h2.1,h2.2.1,h2.2.2⟩
theorem Lk.set {vs:List aP} {l:List bK} {v:Int} {z:aP} (h:Lk vs l) (h0:0≤v) (hv:∀x∈l,x.Vol≠v):Lk (vs.set v.toNat z) l:=
 ⟨h.n,λx hx=>P1 (h.a x hx) (by have:=(HU (h.a x hx)).1; have:=hv x hx; omega),h.o⟩
theorem Lk.lf {vs:List aP} {l:List bK} {v:Int} {z:aP} (h:Lk vs l) (h0:0≤v):Lk (vs.set v.toNat z) (lf v l):=
 Lk.set (h.filt _) h0 λx hx=>by
  have:=(List.mem_filter.1 hx).2
  simpa using this
theorem Lk.off {vs:List aP} {l:List bK} {v:Int} {z:aP} (h:Lk vs l) (hz:vs[v.toNat]? =some z) (hs:z.State≠2):∀x∈l,x.Vol≠v:=λx hx e=>by
 obtain⟨-,y,hy,h2, -⟩:=HU (h.a x hx)
 rw[e,hz] at hy
 obtain rfl:=Option.some.inj hy
 exact hs h2
theorem NI {c:aB} {v:Int} {x:aP} (h:Sm c) (hx:c.Vols[v.toNat]? =some x):Sm (ret c v x):=by
 obtain⟨g0,g1,g2,g3,g4⟩:=h.g
 have lfm:∀ {l:List bK} {y},y∈lf v l→y∈l:=λhy=>(List.mem_filter.1 hy).1
 have lfl:∀(l:List bK),(lf v l).length≤l.length:=λl=>List.length_filter_le _ _
 refine⟨⟨g0, ?_, ?_, ?_, ?_⟩, ?_, ?_, ?_, ?_, ?_, ?_, ?_, ?_⟩
 ·intro s hs
  obtain⟨s0,h0,rfl⟩:=List.mem_map.1 hs
  exact⟨(g1 s0 h0).1,(g1 s0 h0).2.1,λy hy=>(g1 s0 h0).2.2 y (lfm hy)⟩
 ·intro s hs
  obtain⟨s0,h0,rfl⟩:=List.mem_map.1 (List.mem_filter.1 hs).1
  exact⟨(g2 s0 h0).1,(g2 s0 h0).2.1,(g2 s0 h0).2.2.1,λy hy=>(g2 s0 h0).2.2.2 y (lfm hy)⟩
 ·intro s hs
  obtain⟨s0,h0,rfl⟩:=List.mem_map.1 (List.mem_filter.1 hs).1
  exact⟨(g3 s0 h0).1,(g3 s0 h0).2.1,λy hy=>(g3 s0 h0).2.2 y (lfm hy)⟩
 ·intro s hs
  rcases List.mem_or_eq_of_mem_set hs with h1 | rfl
  ·exact g4 s h1
  ·have:=g4 x (List.mem_of_getElem? hx)
   exact⟨this.1,this.2.1,(⟨by decide,by decide⟩:gI 3),(⟨by decide,by decide⟩:gI 0)⟩
 ·simpa [ret] using h.sn
 ·exact Nat.le_trans (List.length_filter_le _ _) (by simpa using h.ch)
 ·exact Nat.le_trans (List.length_filter_le _ _) (by simpa using h.ex)
 ·simpa [ret] using h.vo
 ·intro s hs
  obtain⟨s0,h0,rfl⟩:=List.mem_map.1 hs
  exact Nat.le_trans (lfl _) (h.sl s0 h0)
 ·intro s hs
  obtain⟨s0,h0,rfl⟩:=List.mem_map.1 (List.mem_filter.1 hs).1
  exact⟨Nat.le_trans (lfl _) (h.cl s0 h0).1,(h.cl s0 h0).2⟩
 ·intro s hs
  obtain⟨s0,h0,rfl⟩:=List.mem_map.1 (List.mem_filter.1 hs).1
  exact Nat.le_trans (lfl _) (h.el s0 h0)
 ·intro s hs
  obtain⟨s0,h0,rfl⟩:=List.mem_map.1 hs
  exact h.man s0 h0
theorem NJ {c:aB} {v:Int} {x:aP} (h:Sm c) (hx:c.Vols[v.toNat]? =some x) (he:x.Epoch≤1048576∧0≤x.Epoch):Sm (rel c v x):=by
 obtain⟨g0,g1,g2,g3,g4⟩:=h.g
 refine { h with g:=⟨g0,g1,g2,g3, ?_⟩,vo:=by simpa [rel] using h.vo}
 intro s hs
 rcases List.mem_or_eq_of_mem_set hs with h1 | rfl
 ·exact g4 s h1
 ·have:=g4 x (List.mem_of_getElem? hx)
  exact⟨this.1,⟨by simp only; omega,by simp only; omega⟩,(⟨by decide,by decide⟩:gI 1),this.2.2.2⟩
open Go.Vm
theorem zZ {F:Nat} {c:aB} {d:aS} {x:aP} (hF:1000≤F) (h:Sm c) (hg:Gd c) (hk:d.Kind=4) (h0:0≤d.Vol) (hx:c.Vols[d.Vol.toNat]? =some x):
    zU F c d=some (if x.State=2 then (if iP (ret c d.Vol x) then (ret c d.Vol x,0) else (dA,1)) else (dA,1)):=by
  have hk2:jP.find? (λe=>e.1==d.Kind)=some (d.Kind,75):=by rw[hk]; rfl
  have go:∀(e:aB) (n:Int),gK F 75 c d=some (e,n)→(n=0→Sm e)→_:=λe n=>YS (n:=n) hF h (lB.2 hg) hk2
  have e0:gK F 75 c d=(UB F c d).bind λo=>some ({ c with Snaps:=o.2.1,Chunks:=o.2.2.1,Exps:=o.2.2.2.1,Vols:=o.2.2.2.2},o.1):=by
    unfold gK
    simp only[if_neg (show ¬(75:Nat)=72 by decide),if_neg (show ¬(75:Nat)=73 by decide),if_neg (show ¬(75:Nat)=74 by decide),if_true]
  rw[n75 hF h h0 hx] at e0
  by_cases e1:x.State=2
  · rw[if_pos e1] at e0 ⊢
    rw[go (ret c d.Vol x) 0 e0 λ_=>NI h hx]
    rfl
  · rw[if_neg e1] at e0 ⊢
    rw[go _ _ e0 nofun]
    rfl
theorem xU {F:Nat} {c:aB} {d:aS} {x:aP} (hF:1000≤F) (h:Sm c) (hg:Gd c) (hk:d.Kind=5) (h0:0≤d.Vol) (hx:c.Vols[d.Vol.toNat]? =some x) (he:0≤x.Epoch∧x.Epoch≤1048576) (hs:Sm (rel c d.Vol x)):
    zU F c d=some (if x.State=3 then (if iP (rel c d.Vol x) then (rel c d.Vol x,0) else (dA,1)) else (dA,1)):=by
  have hk2:jP.find? (λe=>e.1==d.Kind)=some (d.Kind,76):=by rw[hk]; rfl
  have go:∀(e:aB) (n:Int),gK F 76 c d=some (e,n)→(n=0→Sm e)→_:=λe n=>YS (n:=n) hF h (lB.2 hg) hk2
  have e0:gK F 76 c d=(T8 F c d).bind λo=>some ({ c with Vols:=o.2},o.1):=by
    unfold gK
    simp only[if_neg (show ¬(76:Nat)=72 by decide),if_neg (show ¬(76:Nat)=73 by decide),if_neg (show ¬(76:Nat)=74 by decide),if_neg (show ¬(76:Nat)=75 by decide),if_true]
  rw[n76 h0 hx he] at e0
  by_cases e1:x.State=3
  · rw[if_pos e1] at e0 ⊢
    rw[go (rel c d.Vol x) 0 e0 λ_=>hs]
    rfl
  · rw[if_neg e1] at e0 ⊢
    rw[go _ _ e0 nofun]
    rfl
open Go.Vm
theorem Mk.wd {c:aB} {d:aS} (h:Mk c d) (hG:Gd c) (hd:MV d):Wd d:=by
 refine⟨hd.it,λi hi=> ?_⟩
 obtain⟨-,a2,a3,a4⟩:=hd.iti i hi
 refine⟨?_, ?_,a2,a3,a4⟩
 ·rcases h.it with h1 | ⟨s,hs,e⟩
  ·exact(h1.a i hi).id
  ·rw[e] at hi
   rw[List.mem_singleton.1 hi]
   exact MW
 ·rcases h.it with h1 | ⟨s,hs,e⟩
  ·exact(h1.a i hi).q
  ·rw[e] at hi
   rw[List.mem_singleton.1 hi]
   have:=hG.q
   simpa [gP] using this
inductive Eff (c:aB) (d:aS) (e:aB):Prop
 | add (k:d.Kind=1) (q:d.Snap.Seq=c.Seq∧pH d.Chunks=true) (n:c.Snaps.any (λs=>s.Man.Name.toList==d.Snap.Man.Name.toList)=false) (w:e=ad c d)
 | drop (k:d.Kind=2) (q:c.Snaps.any (λs=>s.Seq==d.Seq)=true) (w:e=TF c d.Seq)
 | wrote (k:d.Kind=3) (x:aP) (hx:c.Vols[d.Vol.toNat]? =some x) (q:oI x d=true) (p:d.Items.all (oD c)=true) (w:e=GL c d x)
 | ret (k:d.Kind=4) (x:aP) (hx:c.Vols[d.Vol.toNat]? =some x) (q:x.State=2) (w:e=ret c d.Vol x)
 | rel (k:d.Kind=5) (x:aP) (hx:c.Vols[d.Vol.toNat]? =some x) (q:x.State=3) (w:e=rel c d.Vol x)
theorem TZ {c:aB} {v:Int} (h:0≤v∧v < c.Vols.length):∃x,c.Vols[v.toNat]? =some x:=⟨_,List.getElem?_eq_getElem (show v.toNat < c.Vols.length by omega)⟩
theorem GS {c:aB} (hG:Gd c) {n:Nat} {x:aP} (hx:c.Vols[n]? =some x):0≤x.Epoch∧x.Epoch≤1048576:=by
 have:=hG.v x (List.mem_of_getElem? hx)
 unfold nH gP at this
 simp only[Bool.and_eq_true,decide_eq_true_eq] at this
 exact this.1.2
theorem aFA {F:Nat} {c:aB} {d:aS} (hk:d.Kind=0):zU F c d=some (dA,1):=by
 have hk2:jP.find? (λe=>e.1==d.Kind)=none:=by rw[hk]; rfl
 unfold zU
 rw[hk2]
theorem T0 {F:Nat} {c:aB} {d:aS} (hF:1000≤F) (h:Sm c) (hg:Gd c) (hd:MV d) (hm:Mk c d):
    ∃e n,zU F c d=some (e,n)∧((n≠0∧e=dA)∨(n=0∧Sm e∧Gd e∧Eff c d e)):=by
  have hk:=hm.k
  have no:∀n:Int,n≠0→zU F c d=some (dA,n)→∃e n,zU F c d=some (e,n)∧((n≠0∧e=dA)∨(n=0∧Sm e∧Gd e∧Eff c d e)):=λn hn e=>⟨_,_,e,.inl ⟨hn,rfl⟩⟩
  have yes:∀e,(iP e=true→Sm e∧Eff c d e)→zU F c d=some (if iP e=true then (e,0) else (dA,1))→∃e n,zU F c d=some (e,n)∧((n≠0∧e=dA)∨(n=0∧Sm e∧Gd e∧Eff c d e)):=λe he h2=>by
    by_cases hge:iP e=true
    · rw[if_pos hge] at h2
      exact⟨_,_,h2,.inr ⟨rfl,(he hge).1,lB.1 hge,(he hge).2⟩⟩
    · rw[if_neg hge] at h2
      exact no 1 (by decide) h2
  obtain⟨x,hx⟩:=TZ hm.v
  by_cases k0:d.Kind=0
  · exact no 1 (by decide) (aFA k0)
  by_cases k1:d.Kind=1
  · have:=M4 hF h hg hd k1
    by_cases c1:d.Snap.Seq=c.Seq∧pH d.Chunks=true
    · rw[if_pos c1] at this
      cases c2:c.Snaps.any (λs=>s.Man.Name.toList==d.Snap.Man.Name.toList) with
      | true=>rw[c2,if_pos rfl] at this; exact no 9 (by decide) this
      | false=>rw[c2,if_neg (by decide)] at this; exact yes _ (λ_=>⟨Q2 h hg hd,.add k1 c1 c2 rfl⟩) this
    · rw[if_neg c1] at this; exact no 1 (by decide) this
  by_cases k2:d.Kind=2
  · have:=HR hF h hg k2
    by_cases c1:c.Snaps.any (λs=>s.Seq==d.Seq)=true
    · rw[if_pos c1] at this; exact yes _ (λ_=>⟨M3 h,.drop k2 c1 rfl⟩) this
    · rw[if_neg c1] at this; exact no 8 (by decide) this
  by_cases k3:d.Kind=3
  · have:=EG hF h hg k3 (hm.wd hg hd) hd.vol hm.v.1 hx
    by_cases c1:oI x d=true
    · rw[if_pos c1] at this
      by_cases c2:d.Items.all (oD c)=true
      · rw[if_pos c2] at this
        exact yes _ (λ_=>⟨NG h hg (hm.wd hg hd) hd.vol hx λi hi=>by
          unfold oI at c1
          simp only[Bool.and_eq_true,Bool.not_eq_true',List.any_eq_false,Bool.or_eq_true,decide_eq_true_eq,not_or,Int.not_lt] at c1
          exact c1.2 i hi,.wrote k3 x hx c1 c2 rfl⟩) this
      · rw[if_neg c2] at this; exact no 8 (by decide) this
    · rw[if_neg c1] at this; exact no 1 (by decide) this
  by_cases k4:d.Kind=4
  · have:=zZ hF h hg k4 hm.v.1 hx
    by_cases c1:x.State=2
    · rw[if_pos c1] at this; exact yes _ (λ_=>⟨NI h hx,.ret k4 x hx c1 rfl⟩) this
    · rw[if_neg c1] at this; exact no 1 (by decide) this
  · have k5:d.Kind=5:=by omega
    have ep:=GS hg hx
    have hs:=NJ h hx ⟨ep.2,ep.1⟩
    have:=xU hF h hg k5 hm.v.1 hx ep hs
    by_cases c1:x.State=3
    · rw[if_pos c1] at this; exact yes _ (λ_=>⟨hs,.rel k5 x hx c1 rfl⟩) this
    · rw[if_neg c1] at this; exact no 1 (by decide) this
end Go.Proofs.YtbbifdfldpfphaaGreat
