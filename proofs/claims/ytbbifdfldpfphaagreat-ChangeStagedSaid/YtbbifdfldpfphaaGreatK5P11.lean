import Derived.Test.YtbbifdfldpfphaaGreatK5P10
import Derived.Test.YtbbifdfldpfphaaGreatK5P7
import Derived.Test.YtbbifdfldpfphaaGreatK5P5
import Derived.Test.YtbbifdfldpfphaaGreatK5P4
import Derived.Test.YtbbifdfldpfphaaGreatK5P9
set_option linter.unusedSimpArgs false
set_option linter.unusedVariables false
set_option maxHeartbeats 4000000
set_option maxRecDepth 100000
namespace Go.Proofs.YtbbifdfldpfphaaGreat
open Go.Vm
theorem VO {F:Nat} {d:aR} {b:Bool} (hF:1000≤F) (hn:d.Items.length≤64):aU (λs=>rR F d s.1 s.2) F (b,0)=some (.brk (b && !(d.Items.any λi=>decide (i.Kind < 1) || decide (3 < i.Kind)),(d.Items.length:Int))):=by
 have:=kC (body:=λs:Bool×Int=>rR F d s.1 s.2) (s0:=(b,(0:Int))) (n:=d.Items.length) (F:=F) (λk:Nat=>(b && (d.Items.take k).all λi=>decide (1≤i.Kind) && decide (i.Kind≤3),(k:Int))) (by omega) (by simp) (λk hk=>by
  have hx:d.Items[k]? =some d.Items[k]:=List.getElem?_eq_getElem hk
  unfold rR
  simp only
  rw[iW (by omega),List.take_succ_eq_append_getElem hk]
  simp only[bH,hx,Option.bind_some,Int.ofNat_lt,hk,decide_true,if_true,List.all_append,List.all_cons,List.all_nil,Bool.and_true]
  rw[← Bool.and_assoc]
  cases (b && (d.Items.take k).all λi=>decide (1≤i.Kind) && decide (i.Kind≤3)) with
  | false=>simp[aG]
  | true=>by_cases h1:1≤(d.Items[k]).Kind <;> simp[h1,aG]) (by unfold rR; simp)
 rw[this,List.take_length]
 congr 4
 rw[List.all_eq_not_any_not]
 congr 2
 funext x
 by_cases h1:1≤x.Kind <;> by_cases h2:x.Kind≤3 <;> simp[h1,h2] <;> omega
theorem VP {F:Nat} {c:aA} {d:aR} {x:aP} {e:aA} (hF:1000≤F) (hS:Sm e) (hv:Lv e) (hn:d.Items.length≤64) (hV:(c.Vols.set d.Vol.toNat { x with State:=2}).set d.Vol.toNat { ({ x with State:=2}:aP) with Files:=IntKind.wrap .i64 (x.Files+1)}=e.Vols)
    (hno:∀i∈d.Items,i.Kind=3→e.Snaps.any (λs=>s.Seq==i.Of)=false):
    aU (λs=>nA F c d x e.Seq e.Exps s.1 s.2.1 s.2.2) F (e.Snaps,e.Chunks,0)=some (.brk (e.Snaps,e.Chunks,(d.Items.length:Int))):=by
  refine kC (λk:Nat=>(e.Snaps,e.Chunks,(k:Int))) (by omega) rfl (λk hk=> ?_) (by unfold nA; simp)
  have hx:d.Items[k]? =some d.Items[k]:=List.getElem?_eq_getElem hk
  have hm:=List.getElem_mem hk
  generalize d.Items[k]=i at hx hm
  unfold nA
  simp only
  rw[iW (by omega)]
  simp only[bH,hx,Option.bind_some,Int.ofNat_lt,hk,decide_true,if_true,hV]
  rw[show C3 F { Seq:=e.Seq,Snaps:=e.Snaps,Chunks:=e.Chunks,Exps:=e.Exps,Vols:=e.Vols} i.Of=_ from VK hF hS hv]
  by_cases k3:i.Kind=3
  · rw[if_pos (by simp[k3]),hno i hm k3]
    simp[aG]
  · rw[if_neg (by simpa using k3)]
    rfl
theorem RA {F:Nat} {c:aA} {d:aR} {x:aP} {q:Int} {ex:List aQ} {sn:List aH} {l:List aB} (hF:1000≤F) (hr:uF l) (hl:l.length≤400) (hn:d.Items.length≤64):
    aU (λs=>nL F c d x q ex sn s.1 s.2) F (l,0)=some (.brk (l.map (eM 0 d.Items),(d.Items.length:Int))):=by
  have:=kC (body:=λs:List aB×Int=>nL F c d x q ex sn s.1 s.2) (s0:=(l,(0:Int))) (n:=d.Items.length) (F:=F) (λk:Nat=>(l.map (eM 0 (d.Items.take k)),(k:Int))) (by omega) (by rw[show l.map (eM 0 (d.Items.take 0))=l from kG λy _=>rfl]; rfl) (λk hk=>by
    have hx:d.Items[k]? =some d.Items[k]:=List.getElem?_eq_getElem hk
    have ht:d.Items.take (k+1)=d.Items.take k++ [d.Items[k]]:=List.take_succ_eq_append_getElem hk
    have hR:=xE (xG 0 (d.Items.take k)) hr
    have hL:(l.map (eM 0 (d.Items.take k))).length≤400:=by simpa using hl
    have hM:l.map (eM 0 (d.Items.take (k+1)))=(l.map (eM 0 (d.Items.take k))).map (pG 0 d.Items[k]):=by
      rw[ht,List.map_map]
      refine List.map_congr_left λy _=> ?_
      unfold eM
      rw[List.foldl_append]
      rfl
    rw[hM]
    generalize l.map (eM 0 (d.Items.take k))=m at hR hL
    generalize d.Items[k]=i at hx
    unfold nL
    simp only
    rw[iW (by omega)]
    simp only[bH,hx,Option.bind_some,Int.ofNat_lt,hk,decide_true,if_true]
    have e88:∀c':aA,c'.Chunks=m→KL F c' i.Id=some (vN m λy=>decide (y.Id=i.Id)):=λc' h=>by rw[p88 hF (by rw[h]; exact hL),h]
    rw[e88 _ rfl]
    by_cases k1:i.Kind=1
    · rw[if_pos (by simp[k1])]
      cases hh:m.any λy=>decide (y.Id=i.Id) with
      | false=>
        rw[mR hh,kG λy hy=>by
          have:=List.any_eq_false.1 hh y hy
          unfold pG
          rw[if_neg λh=>this (decide_eq_true h.2.2)]]
        simp[aG]
      | true=>
        obtain⟨p,y,h1,h2,h3,h4⟩:=lH hh
        have h3:y.Id=i.Id:=by simpa using h3
        have hpl:=(List.getElem?_eq_some_iff.1 h2).1
        rw[h1]
        simp only[Option.bind_some]
        rw[if_pos (by simp)]
        simp only[bH,h2,Option.bind_some,Int.toNat_natCast]
        rw[List.getElem?_set_self hpl]
        simp only[Option.bind_some,List.set_set,aG]
        have e9:m.set p { y with Staged:=false,Data:= []}=m.map (pG 0 i):=by
          rw[qQ (λz:aB=>z.Id=i.Id) (λz=> { z with Staged:=false,Data:= []}) h2 h3 (λz hz e=>by
            have:=h4 z hz
            simp[e] at this) (λz hz e=>by
            obtain⟨j,hj,rfl⟩:=List.getElem_of_mem hz
            simp only[List.length_drop] at hj
            rw[List.getElem_drop] at e
            have:=hR.2 p (p+1+j) _ _ h2 (List.getElem?_eq_getElem (by omega)) (by omega)
            rw[e,h3] at this; omega)]
          refine List.map_congr_left λz _=> ?_
          unfold pG
          simp only[k1,true_and]
        rw[e9]
    · rw[if_neg (by simpa using k1),kG λy _=>by unfold pG; rw[if_neg (by omega)]]
      rfl) (by unfold nL; simp)
  rw[this,List.take_length]
theorem BI {p:Int} {l:List aS} {m:List aB} (h:p≠0∨∀i∈l,i.Kind≠1):m.map (eM p l)=m:=kG λy _=>by
 unfold eM
 induction l generalizing y with
 | nil=>rfl
 | cons i l ih=>
  rw[List.foldl_cons,show pG p i y=y from if_neg λhh=>by
   rcases h with h | h
   ·exact h hh.1
   ·exact h i List.mem_cons_self hh.2.1]
  exact ih (h.imp_right λh j hj=>h j (List.mem_cons_of_mem _ hj)) y ‹_›
theorem KH {F:Nat} {c:aA} {d:aR} {x:aP} (hF:1000≤F) (h:Sm c) (hg:Gd c) (hd:IU d) (hm:Mk c d) (k:d.Kind=3) (hx:c.Vols[d.Vol.toNat]? =some x):
    FA F c d=some (if iZ x d=true then (if d.Items.all (jU c)=true then (if iA (jV c d x)=true then (jV c d x,0) else (cG,1)) else (cG,8)) else (cG,1)):=by
  have go:∀(e:aA) (n:Int) (r),rS F c d=some r→_→_:=λe n r h1=>zR (e:=e) (n:=n) hF h hg hd (by omega) h1
  have hv:=hm.v
  have hn:=hd.it
  have hw:=hm.wd hg hd
  have gv:=hd.vol
  have hxb:=hg.v x (List.mem_of_getElem? hx)
  unfold mA fR at hxb
  simp only[Bool.and_eq_true,Bool.or_eq_true,decide_eq_true_eq,beq_iff_eq] at hxb
  have gf:0≤x.Files∧x.Files≤65535:=by omega
  have gF:gI (x.Files+1):=⟨by omega,by omega⟩
  have e1:AE F { Seq:=c.Seq,Snaps:=c.Snaps,Chunks:=c.Chunks,Exps:=c.Exps,Vols:=c.Vols} d.Vol 1 2=_:=VJ (a:=1) (b:=2) hv.1 hx
  have l5:=λb=>VO (b:=b) hF hn
  have hW:=I1 h hg hx
  have pre:∀(Q:Int×Int×List aH×List aB×List aQ×List aP→Prop),
      (iZ x d=false→∀a b e f g,Q (1,a,b,e,f,g))→(iZ x d=true→T ((ix c.Vols d.Vol).bind λx14318=>after (aU (λs=>qF F c d x14318 s.1 s.2.1 s.2.2.1 s.2.2.2.1 s.2.2.2.2) F (c.Seq,c.Snaps,c.Chunks,c.Exps,0)) λ⟨r14470,r14471,r14472,r14473,r14474⟩=>after (aU (λs=>nA F c d x14318 r14470 r14473 s.1 s.2.1 s.2.2) F (r14471,r14472,0)) λ⟨r14611,r14612,r14613⟩=>after (if ((({ ({ x14318 with State:=2}:aP) with Files:=IntKind.wrap .i64 (x14318.Files+1)}:aP).Pool)==0)=true then (after (aU (λs=>nL F c d x14318 r14470 r14473 r14611 s.1 s.2) F (r14612,0)) λ⟨r15156,r15157⟩=>some (.brk r15156)) else some (.brk r14612):Option (Lp ((List aB)) (Lp (Int×(List aH)×(List aB)×(List aQ)×(List aP)) (Lp (Int×(List aH)×(List aB)×(List aQ)×(List aP)) (Lp (Int×(List aH)×(List aB)×(List aQ)×(List aP)) (Int×Int×(List aH)×(List aB)×(List aQ)×(List aP))))))) λj14888=>some (.brk (r14470,r14611,j14888,r14473,(c.Vols.set d.Vol.toNat ({ x14318 with State:=2})).set d.Vol.toNat ({ ({ x14318 with State:=2}:aP) with Files:=IntKind.wrap .i64 (x14318.Files+1)})))) (λy=>(∃r,y= .ret (.ret (.ret r))∧Q r)∨∃s,y= .brk s∧Q (0,s)))→T (rS F c d) Q:=λQ q1 q2=>by
    unfold rS
    rw[if_neg (by simp[k]),if_neg (by simp[k]),if_pos (by simp[k]),e1]
    simp only[Option.bind_some]
    have hcond:∀(ρ:Type) (kk:Bool→Option ρ),(after (if (x.State==1 || x.State==2)=true then (if (decide (1≤(d.Items.length:Int)))=true then (some (.brk (decide ((d.Items.length:Int)≤64)))) else some (.brk false)) else some (.brk false):Option (Lp (Bool) ρ)) kk)=kk (!(x.State==3) && !d.Items.isEmpty):=λρ kk=>by
      by_cases s3:x.State=3
      · rw[if_neg (by simp[s3])]
        simp[s3,aG]
      · rw[if_pos (by simp; omega)]
        by_cases em:d.Items= []
        · simp[em,aG]
        · have:=List.length_pos_iff.2 em
          rw[if_pos (decide_eq_true (by omega))]
          have e64:decide ((d.Items.length:Int)≤64)=true:=decide_eq_true (by omega)
          rw[e64]
          have em2:d.Items.isEmpty=false:=by simpa using em
          have s32:(x.State==3)=false:=by simpa using s3
          rw[s32,em2]
          rfl
    rw[hcond,l5]
    simp only[aG]
    have hwc:(!(x.State==3) && !d.Items.isEmpty && !(d.Items.any λi=>decide (i.Kind < 1) || decide (3 < i.Kind)))=iZ x d:=rfl
    rw[hwc]
    cases hc:iZ x d with
    | false=>
      rw[if_pos (by simp)]
      exact⟨_,rfl,q1 hc _ _ _ _ _⟩
    | true=>
      rw[if_neg (by simp)]
      obtain⟨y,hy,hq⟩:=q2 hc
      rw[hy]
      rcases hq with⟨r,rfl,hr⟩ | ⟨s,rfl,hs⟩
      · exact⟨_,rfl,hr⟩
      · exact⟨_,rfl,hs⟩
  have main:T (rS F c d) λr=>if iZ x d=true then (if d.Items.all (jU c)=true then r=(0,(jV c d x).Seq,(jV c d x).Snaps,(jV c d x).Chunks,(jV c d x).Exps,(jV c d x).Vols) else r.1=8) else r.1=1:=by
    refine pre _ (λhc a b e f g=>by rw[hc]; simp) λhc=> ?_
    rw[hc]
    simp only[if_true]
    have hI:∀i∈d.Items,It i:=λi hi=>by
      obtain⟨a1,a2,a3,a4,a5⟩:=hw.it i hi
      unfold iZ at hc
      simp only[Bool.and_eq_true,Bool.not_eq_true',List.any_eq_false,Bool.or_eq_true,decide_eq_true_eq,not_or,Int.not_lt] at hc
      exact⟨a1,a2,hc.2 i hi,a3,a4,a5⟩
    refine .bindEq (by rw[pZ _ hv.1,hx]) ?_
    have wF:IntKind.wrap .i64 (x.Files+1)=x.Files+1:=wr (by omega) (by omega)
    have hVw:∀m:List aS,(c.Vols.set d.Vol.toNat { x with State:=2}).set d.Vol.toNat { ({ x with State:=2}:aP) with Files:=x.Files+1}=(kL d.Vol (x.Files+1) (ws c d.Vol x) m).Vols:=λm=>by
      rw[FG,List.set_set]; rfl
    have hWi:∀n,Wm (200+(d.Items.take n).length) (kL d.Vol (x.Files+1) (ws c d.Vol x) (d.Items.take n)):=λn=>by
      rw[qR]
      exact vT gv gF hW λj hj=>hI j (List.mem_of_mem_take hj)
    have key:=zJ (body:=λs:Int×List aH×List aB×List aQ×Int=>qF F c d x s.1 s.2.1 s.2.2.1 s.2.2.2.1 s.2.2.2.2) (n:=d.Items.length)
      (λn=>((kL d.Vol (x.Files+1) (ws c d.Vol x) (d.Items.take n)).Seq,(kL d.Vol (x.Files+1) (ws c d.Vol x) (d.Items.take n)).Snaps,(kL d.Vol (x.Files+1) (ws c d.Vol x) (d.Items.take n)).Chunks,(kL d.Vol (x.Files+1) (ws c d.Vol x) (d.Items.take n)).Exps,(n:Int)))
      (λn=>(d.Items[n]?).any (jU c)) (λy=>∃r,y= .ret (.ret (.ret r))∧r.1=8)
      (λn hn' hp=>by
        have hi:d.Items[n]? =some d.Items[n]:=List.getElem?_eq_getElem hn'
        have hmm:=List.getElem_mem hn'
        have hWn:=hWi n
        rw[List.length_take] at hWn
        have h156:=aBN hF hWn (by omega) (hI _ hmm) (N9 hg hx hm.un hi)
        rw[FH] at h156
        rw[hi] at hp
        rw[show jU (ws c d.Vol x) d.Items[n]=true from hp,if_pos rfl] at h156
        rw[List.take_succ_eq_append_getElem hn',oH]
        generalize d.Items[n]=i at hi h156
        have hVn:=hVw (d.Items.take n)
        generalize kL d.Vol (x.Files+1) (ws c d.Vol x) (d.Items.take n)=e at h156 hVn
        unfold qF
        simp only
        rw[iW (by omega)]
        simp only[bH,hi,Option.bind_some,Int.ofNat_lt,hn',decide_true,if_true,wF,hVn]
        rw[show HJ F { Seq:=e.Seq,Snaps:=e.Snaps,Chunks:=e.Chunks,Exps:=e.Exps,Vols:=e.Vols} i { Vol:=d.Vol,File:=x.Files+1,Off:=i.Off,Len:=i.Len}=_ from h156]
        rfl)
      (λn hn' hp=>by
        have hi:d.Items[n]? =some d.Items[n]:=List.getElem?_eq_getElem hn'
        have hmm:=List.getElem_mem hn'
        have hWn:=hWi n
        rw[List.length_take] at hWn
        have h156:=aBN hF hWn (by omega) (hI _ hmm) (N9 hg hx hm.un hi)
        rw[FH] at h156
        rw[hi] at hp
        rw[show jU (ws c d.Vol x) d.Items[n]=false from hp,if_neg (by decide)] at h156
        generalize d.Items[n]=i at hi h156
        have hVn:=hVw (d.Items.take n)
        generalize kL d.Vol (x.Files+1) (ws c d.Vol x) (d.Items.take n)=e at h156 hVn
        refine⟨.ret (.ret (.ret (8,e.Seq,e.Snaps,e.Chunks,e.Exps,e.Vols))),⟨_,rfl,rfl⟩, ?_⟩
        unfold qF
        simp only
        simp only[bH,hi,Option.bind_some,Int.ofNat_lt,hn',decide_true,if_true,wF,hVn]
        rw[show HJ F { Seq:=e.Seq,Snaps:=e.Snaps,Chunks:=e.Chunks,Exps:=e.Exps,Vols:=e.Vols} i { Vol:=d.Vol,File:=x.Files+1,Off:=i.Off,Len:=i.Len}=_ from h156]
        rfl)
      (by unfold qF; simp) d.Items.length 0 F (by omega) (by omega)
    have st0:(c.Seq,c.Snaps,c.Chunks,c.Exps,(0:Int))=((kL d.Vol (x.Files+1) (ws c d.Vol x) (d.Items.take 0)).Seq,(kL d.Vol (x.Files+1) (ws c d.Vol x) (d.Items.take 0)).Snaps,(kL d.Vol (x.Files+1) (ws c d.Vol x) (d.Items.take 0)).Chunks,(kL d.Vol (x.Files+1) (ws c d.Vol x) (d.Items.take 0)).Exps,((0:Nat):Int)):=rfl
    rw[st0]
    rcases key with⟨k1,k2⟩ | ⟨⟨j, -,k1,k2⟩,r,⟨r',rfl,k3⟩,k4⟩
    · have hall:d.Items.all (jU c)=true:=List.all_eq_true.2 λi hi=>by
        obtain⟨j,hj,rfl⟩:=List.getElem_of_mem hi
        have:=k1 j (Nat.zero_le _) hj
        rw[List.getElem?_eq_getElem hj] at this
        exact this
      rw[k2,hall]
      simp only[aG,List.take_length,if_true]
      have hWe:=hWi d.Items.length
      rw[List.take_length] at hWe
      have hV:=hVw d.Items
      have hLv:Lv (kL d.Vol (x.Files+1) (ws c d.Vol x) d.Items):=HU (c:=ws c d.Vol x) (by have h1:=OA hg; exact h1)
      have hsq:=λq=>OB (v:=d.Vol) (f:=x.Files+1) (c:=ws c d.Vol x) (l:=d.Items) (q:=q)
      have hww:=pB x.Pool d.Vol (x.Files+1) (ws c d.Vol x) d.Items
      have hw1:jK c d x=xD x.Pool d.Vol (x.Files+1) (ws c d.Vol x) d.Items:=rfl
      rw[hww] at hw1
      have hS:=hWe.sm (by omega)
      have hWn:=hWe.cn
      have hWr:=hWe.r
      rw[wF]
      generalize kL d.Vol (x.Files+1) (ws c d.Vol x) d.Items=e at hWe hV hLv hsq hw1 hS hWn hWr
      suffices hfin:∃s l,uF l∧l.length≤400∧aU (λs=>nA F c d x e.Seq e.Exps s.1 s.2.1 s.2.2) F (e.Snaps,e.Chunks,0)=some (.brk (s,l,(d.Items.length:Int)))∧((0:Int),e.Seq,s,l.map (eM x.Pool d.Items),e.Exps,e.Vols)=(0,(jV c d x).Seq,(jV c d x).Snaps,(jV c d x).Chunks,(jV c d x).Exps,(jV c d x).Vols) by
        obtain⟨s,l,h1,h2,h3,h4⟩:=hfin
        rw[h3]
        simp only[aG]
        by_cases p0:x.Pool=0
        · rw[if_pos (by simp[p0]),RA hF h1 h2 hn]
          simp only[aG]
          refine⟨_,rfl,.inr ⟨_,rfl, ?_⟩⟩
          rw[← h4,hV,p0]
        · rw[if_neg (by simpa using p0)]
          simp only[aG]
          refine⟨_,rfl,.inr ⟨_,rfl, ?_⟩⟩
          rw[← h4,hV,BI (.inl p0)]
      by_cases hno:∀i∈d.Items,i.Kind=3→c.Snaps.any (λs=>s.Seq==i.Of)=false
      · refine⟨e.Snaps,e.Chunks,hWr,hWn,VP hF hS hLv hn (by rw[wF]; exact hV) λi hi k3=>by rw[hsq]; exact hno i hi k3, ?_⟩
        have hng:∀s∈e.Snaps,jJ d.Items s=false:=λs hs=>by
          unfold jJ
          rw[List.any_eq_false]
          intro i hi
          by_cases k3:i.Kind=3
          · have:=hsq i.Of
            rw[show (ws c d.Vol x).Snaps.any (λs=>s.Seq==i.Of)=false from hno i hi k3] at this
            have:=List.any_eq_false.1 this s hs
            simpa [k3] using this
          · simp[k3]
        have e1:(jK c d x).Snaps=e.Snaps:=by rw[hw1]
        have e2:(qS c d x).Snaps=e.Snaps:=by
          show (jK c d x).Snaps.filter _=_
          rw[e1,List.filter_eq_self.2 λs hs=>by rw[hng s hs]; rfl]
        have e3:jV c d x= { e with Chunks:=e.Chunks.map (eM x.Pool d.Items)}:=by
          unfold jV
          rw[if_neg (by rw[e1,e2]; omega)]
          unfold qS
          rw[List.filter_eq_self.2 λs hs=>by rw[e1] at hs; rw[hng s hs]; rfl,hw1]
        rw[e3]
      · have⟨i,hi,k3,ha⟩:∃i∈d.Items,i.Kind=3∧c.Snaps.any (λs=>s.Seq==i.Of)=true:=by
          by_cases hh:∃i∈d.Items,i.Kind=3∧c.Snaps.any (λs=>s.Seq==i.Of)=true
          · exact hh
          · refine absurd (λi hi k3=> ?_) hno
            cases hc:c.Snaps.any (λs=>s.Seq==i.Of) with
            | false=>rfl
            | true=>exact absurd ⟨i,hi,k3,hc⟩ hh
        have hone:d.Items= [i]:=by
          rcases hm.it with h | ⟨s,hs,e⟩
          · exfalso
            rcases(h.a i hi).w with⟨a,_⟩ | ⟨a,_⟩ | ⟨_,_,j,_,y,y1,y2,y3⟩
            · omega
            · omega
            · obtain⟨s,hs,e⟩:=List.any_eq_true.1 ha
              exact hg.ex y (List.mem_of_getElem? y1) s hs (by rw[y3]; simpa using e)
          · rw[e] at hi ⊢
            rw[List.mem_singleton.1 hi]
        have hae:e.Snaps.any (λs=>s.Seq==i.Of)=true:=by rw[hsq]; exact ha
        have hoff:∀m:List aB,m.map (eM x.Pool d.Items)=m:=λm=>BI (.inr λj hj=>by
          rw[hone] at hj
          rw[List.mem_singleton.1 hj]; omega)
        have hD:=HO (n:=i.Of) hS
        have e1:jK c d x=e:=by rw[hw1,hoff]
        have hgn:∀s:aH,jJ d.Items s=(s.Seq==i.Of):=λs=>by rw[hone]; simp[jJ,k3]
        have e2:qS c d x=qY e i.Of:=by
          unfold qS qY
          rw[e1]
          rw[show (λs=> !jJ d.Items s)=λs:aH=> !(s.Seq==i.Of) from funext λs=>by rw[hgn]]
        have hlt:(qY e i.Of).Snaps.length < e.Snaps.length:=by
          obtain⟨s,hs,e9⟩:=List.any_eq_true.1 hae
          rcases Nat.lt_or_ge (qY e i.Of).Snaps.length e.Snaps.length with w | w
          · exact w
          · have hl:=List.length_filter_le (λs:aH=> !(s.Seq==i.Of)) e.Snaps
            have w:e.Snaps.length≤(e.Snaps.filter λs=> !(s.Seq==i.Of)).length:=w
            have:=List.length_filter_eq_length_iff.1 (Nat.le_antisymm hl w) s hs
            simp[e9] at this
        have e3:jV c d x=C0 e i.Of:=by
          unfold jV
          rw[e2,e1,if_pos hlt]
          rfl
        refine⟨(C0 e i.Of).Snaps,(C0 e i.Of).Chunks,qC.2 ⟨λy hy=> ?_, ?_⟩,hD.ch, ?_,by rw[e3,hoff]; rfl⟩
        · exact(hD.g.2.2.1 y hy).1
        · exact List.pairwise_map.2 (((qC.1 hWr).2.sublist List.filter_sublist).imp fun {a b} hab=>by rw[(kB _ a).2.1,(kB _ b).2.1]; exact hab)
        · have h154:=VK (q:=i.Of) hF hS hLv
          rw[hae,if_pos rfl] at h154
          rw[hone]
          have:=kC (body:=λs:List aH×List aB×Int=>nA F c d x e.Seq e.Exps s.1 s.2.1 s.2.2) (s0:=(e.Snaps,e.Chunks,(0:Int))) (n:=1) (F:=F) (λk:Nat=>(if k=0 then e.Snaps else (C0 e i.Of).Snaps,if k=0 then e.Chunks else (C0 e i.Of).Chunks,(k:Int))) (by omega) rfl (λk hk=>by
            obtain rfl:k=0:=by omega
            unfold nA
            simp only
            rw[iW (by omega),hone]
            have h154':C3 F { Seq:=e.Seq,Snaps:=e.Snaps,Chunks:=e.Chunks,Exps:=e.Exps,Vols:=e.Vols} i.Of=some (true,(C0 e i.Of).Snaps,(C0 e i.Of).Chunks):=h154
            simp only[bH,List.getElem?_cons_zero,Option.bind_some,wF,hV,if_true,k3,h154',beq_self_eq_true,aG,List.length_singleton]
            rfl) (by unfold nA; rw[hone]; simp)
          simpa using this
    · have hall:d.Items.all (jU c)=false:=by
        rw[List.all_eq_false]
        refine⟨d.Items[j],List.getElem_mem k1, ?_⟩
        rw[List.getElem?_eq_getElem k1] at k2
        simpa using k2
      rw[k4,hall]
      exact⟨_,rfl,.inl ⟨r',rfl,by simpa using k3⟩⟩
  obtain⟨r,hr,hq⟩:=main
  by_cases c1:iZ x d=true
  · rw[if_pos c1] at hq ⊢
    by_cases c2:d.Items.all (jU c)=true
    · rw[if_pos c2] at hq ⊢
      rw[go (jV c d x) 0 r hr (.inr ⟨rfl,hq,DL h hg hw gv hx λi hi=>by
        unfold iZ at c1
        simp only[Bool.and_eq_true,Bool.not_eq_true',List.any_eq_false,Bool.or_eq_true,decide_eq_true_eq,not_or,Int.not_lt] at c1
        exact c1.2 i hi⟩)]
      rfl
    · rw[if_neg c2] at hq ⊢
      rw[go cG 8 r hr (.inl ⟨hq,by decide⟩)]
      rfl
  · rw[if_neg c1] at hq ⊢
    rw[go cG 1 r hr (.inl ⟨hq,by decide⟩)]
    rfl
open Go.Vm
theorem VQ {F:Nat} {c:aA} {d:aR} (hF:1000≤F) (h:Sm c) (hg:Gd c) (k:d.Kind=0):FA F c d=some (cG,1):=by
 unfold FA
 rw[m19 hF h,lS.2 hg]
 simp only[Option.bind_some,Bool.not_true,Bool.false_eq_true,if_false]
 rw[if_pos (by simp[k])]
 rfl
theorem VS {F:Nat} {c:aA} {d:aR} (hF:1000≤F) (h:Sm c) (hg:Gd c) (hd:IU d) (hm:Mk c d):
    ∃e n,FA F c d=some (e,n)∧((n≠0∧e=cG)∨(n=0∧Sm e∧Gd e∧Eff c d e)):=by
  have hk:=hm.k
  have no:∀n:Int,n≠0→FA F c d=some (cG,n)→∃e n,FA F c d=some (e,n)∧((n≠0∧e=cG)∨(n=0∧Sm e∧Gd e∧Eff c d e)):=λn hn e=>⟨_,_,e,.inl ⟨hn,rfl⟩⟩
  have yes:∀e,(iA e=true→Sm e∧Eff c d e)→FA F c d=some (if iA e=true then (e,0) else (cG,1))→∃e n,FA F c d=some (e,n)∧((n≠0∧e=cG)∨(n=0∧Sm e∧Gd e∧Eff c d e)):=λe he h2=>by
    by_cases hge:iA e=true
    · rw[if_pos hge] at h2
      exact⟨_,_,h2,.inr ⟨rfl,(he hge).1,lS.1 hge,(he hge).2⟩⟩
    · rw[if_neg hge] at h2
      exact no 1 (by decide) h2
  obtain⟨x,hx⟩:=VG hm.v
  by_cases k0:d.Kind=0
  · exact no 1 (by decide) (VQ hF h hg k0)
  by_cases k1:d.Kind=1
  · have:=Q7 hF h hg hd k1
    by_cases c1:d.Snap.Seq=c.Seq∧pA d.Chunks=true
    · rw[if_pos c1] at this
      cases c2:c.Snaps.any (λs=>s.Man.Name.toList==d.Snap.Man.Name.toList) with
      | true=>rw[c2,if_pos rfl] at this; exact no 9 (by decide) this
      | false=>rw[c2,if_neg (by decide)] at this; exact yes _ (λ_=>⟨SJ h hg hd,.add k1 c1 c2 rfl⟩) this
    · rw[if_neg c1] at this; exact no 1 (by decide) this
  by_cases k2:d.Kind=2
  · have:=OD hF h hg hd k2
    by_cases c1:c.Snaps.any (λs=>s.Seq==d.Seq)=true
    · rw[if_pos c1] at this; exact yes _ (λ_=>⟨HO h,.drop k2 c1 rfl⟩) this
    · rw[if_neg c1] at this; exact no 8 (by decide) this
  by_cases k3:d.Kind=3
  · have:=KH hF h hg hd hm k3 hx
    by_cases c1:iZ x d=true
    · rw[if_pos c1] at this
      by_cases c2:d.Items.all (jU c)=true
      · rw[if_pos c2] at this
        exact yes _ (λ_=>⟨DL h hg (hm.wd hg hd) hd.vol hx λi hi=>by
          unfold iZ at c1
          simp only[Bool.and_eq_true,Bool.not_eq_true',List.any_eq_false,Bool.or_eq_true,decide_eq_true_eq,not_or,Int.not_lt] at c1
          exact c1.2 i hi,.wrote k3 x hx c1 c2 rfl⟩) this
      · rw[if_neg c2] at this; exact no 8 (by decide) this
    · rw[if_neg c1] at this; exact no 1 (by decide) this
  by_cases k4:d.Kind=4
  · have:=Q8 hF h hg hd k4 hm.v.1 hx
    by_cases c1:x.State=2
    · rw[if_pos c1] at this; exact yes _ (λ_=>⟨N5 h hx,.ret k4 x hx c1 rfl⟩) this
    · rw[if_neg c1] at this; exact no 1 (by decide) this
  · have k5:d.Kind=5:=by omega
    have ep:=N7 hg hx
    have:=Q9 hF h hg hd k5 hm.v.1 hx
    by_cases c1:x.State=3
    · rw[if_pos c1] at this; exact yes _ (λ_=>⟨N6 h hx ⟨ep.2,ep.1⟩,.rel k5 x hx c1 rfl⟩) this
    · rw[if_neg c1] at this; exact no 1 (by decide) this
open Go.Vm
structure Bd (n:Nat) (c:aA):Prop where
 k:∀x∈c.Chunks,x.Locs.length≤n
 s:∀x∈c.Snaps,x.Locs.length≤n
 e:∀x∈c.Exps,x.Locs.length≤n
 f:∀x∈c.Vols,x.Files≤n
 q:c.Seq≤n
theorem Bd.mono {n m:Nat} {c:aA} (h:Bd n c) (hm:n≤m):Bd m c:=⟨λx hx=>Nat.le_trans (h.k x hx) hm,λx hx=>Nat.le_trans (h.s x hx) hm,λx hx=>Nat.le_trans (h.e x hx) hm,λx hx=>by have:=h.f x hx; omega,by have:=h.q; omega⟩
theorem I5 {v f:Int} {c:aA}:∀ {l:List aS},l.Pairwise Un→∀y∈(kL v f c l).Chunks,∃z∈c.Chunks,y.Id=z.Id∧y.Staged=z.Staged∧y.Data=z.Data∧(y.Locs=z.Locs∨∃i∈l,i.Kind=1∧i.Id=z.Id∧y.Locs=fY z.Locs (kX v f i)):=fun {l}=>oI (P:=λl=>l.Pairwise Un→∀y∈(kL v f c l).Chunks,∃z∈c.Chunks,y.Id=z.Id∧y.Staged=z.Staged∧y.Data=z.Data∧(y.Locs=z.Locs∨∃i∈l,i.Kind=1∧i.Id=z.Id∧y.Locs=fY z.Locs (kX v f i)))
 (λ_ y hy=>⟨y,hy,rfl,rfl,rfl,.inl rfl⟩) (λl i ih hu y hy=>by
  rw[oH] at hy
  obtain⟨y',hy',rfl⟩:=List.mem_map.1 hy
  obtain⟨hu1, -,hu2⟩:=List.pairwise_append.1 hu
  obtain⟨z,hz,e1,e2,e3,e4⟩:=ih hu1 y' hy'
  by_cases k:i.Kind=1∧y'.Id=i.Id
  ·rw[show oF i (kX v f i) y'= { y' with Locs:=fY y'.Locs (kX v f i)} from if_pos k]
   refine⟨z,hz,e1,e2,e3,.inr ⟨i,by simp,k.1,by rw[← k.2,e1], ?_⟩⟩
   rcases e4 with e4 | ⟨j,hj,j1,j2,j3⟩
   ·show fY y'.Locs _=_
    rw[e4]
   ·exact absurd ⟨by omega,λ_=>by rw[j2,← e1,k.2],λh=>absurd j1 h⟩ (hu2 j hj i List.mem_cons_self)
  ·rw[show oF i (kX v f i) y'=y' from if_neg k]
   exact⟨z,hz,e1,e2,e3,e4.imp_right λ⟨j,hj,h⟩=>⟨j,List.mem_append_left _ hj,h⟩⟩) l
theorem OE {v f:Int} {c:aA}:∀ {l:List aS},l.Pairwise Un→∀y∈(kL v f c l).Snaps,∃z∈c.Snaps,y.Seq=z.Seq∧y.Man=z.Man∧(y.Locs=z.Locs∨∃i∈l,i.Kind=2∧i.Seq=z.Seq∧y.Locs=fY z.Locs (kX v f i)):=fun {l}=>oI (P:=λl=>l.Pairwise Un→∀y∈(kL v f c l).Snaps,∃z∈c.Snaps,y.Seq=z.Seq∧y.Man=z.Man∧(y.Locs=z.Locs∨∃i∈l,i.Kind=2∧i.Seq=z.Seq∧y.Locs=fY z.Locs (kX v f i)))
 (λ_ y hy=>⟨y,hy,rfl,rfl,.inl rfl⟩) (λl i ih hu y hy=>by
  rw[oH] at hy
  obtain⟨y',hy',rfl⟩:=List.mem_map.1 hy
  obtain⟨hu1, -,hu2⟩:=List.pairwise_append.1 hu
  obtain⟨z,hz,e1,e2,e4⟩:=ih hu1 y' hy'
  by_cases k:i.Kind=2∧y'.Seq=i.Seq
  ·rw[show AH i (kX v f i) y'= { y' with Locs:=fY y'.Locs (kX v f i)} from if_pos k]
   refine⟨z,hz,e1,e2,.inr ⟨i,by simp,k.1,by rw[← k.2,e1], ?_⟩⟩
   rcases e4 with e4 | ⟨j,hj,j1,j2,j3⟩
   ·show fY y'.Locs _=_
    rw[e4]
   ·exact absurd ⟨by omega,λh=>absurd h (by omega),λ_=>by rw[j2,← e1,k.2]⟩ (hu2 j hj i List.mem_cons_self)
  ·rw[show AH i (kX v f i) y'=y' from if_neg k]
   exact⟨z,hz,e1,e2,e4.imp_right λ⟨j,hj,h⟩=>⟨j,List.mem_append_left _ hj,h⟩⟩) l
theorem BJ {v f:Int} {c:aA}:∀ {l:List aS},l.Pairwise Un→∀y∈(kL v f c l).Exps,(∃z∈c.Exps,y.Seq=z.Seq∧y.Of=z.Of∧(y.Locs=z.Locs∨∃i∈l,i.Kind=3∧i.Seq=z.Seq∧y.Locs=fY z.Locs (kX v f i)))∨∃i∈l,i.Kind=3∧y= { Seq:=i.Seq,Of:=i.Of,Locs:= [kX v f i]}:=fun {l}=>oI (P:=λl=>l.Pairwise Un→∀y∈(kL v f c l).Exps,(∃z∈c.Exps,y.Seq=z.Seq∧y.Of=z.Of∧(y.Locs=z.Locs∨∃i∈l,i.Kind=3∧i.Seq=z.Seq∧y.Locs=fY z.Locs (kX v f i)))∨∃i∈l,i.Kind=3∧y= { Seq:=i.Seq,Of:=i.Of,Locs:= [kX v f i]})
 (λ_ y hy=>.inl ⟨y,hy,rfl,rfl,.inl rfl⟩) (λl i ih hu y hy=>by
  rw[oH] at hy
  obtain⟨hu1, -,hu2⟩:=List.pairwise_append.1 hu
  have old:∀y'∈(kL v f c l).Exps,(∃z∈c.Exps,y'.Seq=z.Seq∧y'.Of=z.Of∧(y'.Locs=z.Locs∨∃j∈l++ [i],j.Kind=3∧j.Seq=z.Seq∧y'.Locs=fY z.Locs (kX v f j)))∨∃j∈l++ [i],j.Kind=3∧y'= { Seq:=j.Seq,Of:=j.Of,Locs:= [kX v f j]}:=λy' hy'=>by
   rcases ih hu1 y' hy' with⟨z,hz,e1,e2,e4⟩ | ⟨j,hj,h⟩
   ·exact .inl ⟨z,hz,e1,e2,e4.imp_right λ⟨j,hj,h⟩=>⟨j,List.mem_append_left _ hj,h⟩⟩
   ·exact .inr ⟨j,List.mem_append_left _ hj,h⟩
  have hy:y∈(if i.Kind=3 then oG (kL v f c l).Exps i (kX v f i) else (kL v f c l).Exps):=hy
  split at hy
  ·rename_i k3
   unfold oG at hy
   rcases List.mem_append.1 hy with h | h
   ·exact old y (List.mem_filter.1 h).1
   ·rcases List.mem_cons.1 h with rfl | h
    ·have hs:=zK (kL v f c l).Exps i
     rcases I0 (kL v f c l).Exps i with ht | ht
     ·rcases ih hu1 _ ht with⟨z,hz,e1,e2,e4⟩ | ⟨j,hj,j1,j3⟩
      ·refine .inl ⟨z,hz,e1,e2,.inr ⟨i,by simp,k3,by omega, ?_⟩⟩
       rcases e4 with e4 | ⟨j,hj,j1,j2,j3⟩
       ·show fY (wT _ i).Locs _=_
        rw[e4]
       ·exact absurd ⟨by omega,λh=>absurd h (by omega),λ_=>by omega⟩ (hu2 j hj i List.mem_cons_self)
      ·rw[j3] at hs
       exact absurd ⟨by omega,λh=>absurd h (by omega),λ_=>hs⟩ (hu2 j hj i List.mem_cons_self)
     ·refine .inr ⟨i,by simp,k3, ?_⟩
      rw[ht]
      simp[fY]
    ·exact old y (List.mem_filter.1 h).1
  ·exact old y hy) l
theorem OF {c:aA} {d:aR} {x:aP}:∀y∈(jV c d x).Chunks,∃z∈(kL d.Vol (x.Files+1) (ws c d.Vol x) d.Items).Chunks,y.Id=z.Id∧y.Locs=z.Locs:=by
 have h1:∀y∈(jK c d x).Chunks,∃z∈(kL d.Vol (x.Files+1) (ws c d.Vol x) d.Items).Chunks,y.Id=z.Id∧y.Locs=z.Locs:=λy hy=>by
  unfold jK at hy
  rw[pB] at hy
  obtain⟨z,hz,rfl⟩:=List.mem_map.1 hy
  refine⟨z,hz,xG _ _ z, ?_⟩
  unfold eM
  generalize d.Items=l
  clear hy hz
  induction l generalizing z with
  | nil=>rfl
  | cons i l ih=>
   rw[List.foldl_cons,ih]
   unfold pG
   split <;> rfl
 intro y hy
 unfold jV at hy
 split at hy
 ·obtain⟨w,hw,rfl⟩:=List.mem_map.1 hy
  obtain⟨z,hz,e1,e2⟩:=h1 w (List.mem_filter.1 hw).1
  exact⟨z,hz,(kB _ w).2.1.trans e1,(kB _ w).1.trans e2⟩
 ·exact h1 y hy
theorem SK {c:aA} {d:aR} {x:aP}:(jV c d x).Seq=(kL d.Vol (x.Files+1) (ws c d.Vol x) d.Items).Seq∧(jV c d x).Exps=(kL d.Vol (x.Files+1) (ws c d.Vol x) d.Items).Exps∧(jV c d x).Snaps=(kL d.Vol (x.Files+1) (ws c d.Vol x) d.Items).Snaps.filter λs=> !jJ d.Items s:=by
 have e:jK c d x= { kL d.Vol (x.Files+1) (ws c d.Vol x) d.Items with Chunks:=(kL d.Vol (x.Files+1) (ws c d.Vol x) d.Items).Chunks.map (eM x.Pool d.Items)}:=pB _ _ _ _ _
 have e1:(jK c d x).Seq=(kL d.Vol (x.Files+1) (ws c d.Vol x) d.Items).Seq:=by rw[e]
 have e2:(jK c d x).Exps=(kL d.Vol (x.Files+1) (ws c d.Vol x) d.Items).Exps:=by rw[e]
 have e3:(jK c d x).Snaps=(kL d.Vol (x.Files+1) (ws c d.Vol x) d.Items).Snaps:=by rw[e]
 rw[← e1,← e2,← e3]
 unfold jV
 split <;> exact⟨rfl,rfl,rfl⟩
theorem OH {v f:Int} {q:Int}:∀ {l:List aS} {c:aA},c.Seq≤q→(∀i∈l,i.Kind=3→i.Seq+1≤q)→(kL v f c l).Seq≤q
  | [],_,h,_=>h
  | i :: l, c, h, hi => OH (l := l) (by
      show (if i.Kind=3 then max c.Seq (i.Seq+1) else c.Seq)≤q
      split
      · rename_i k; have:=hi i List.mem_cons_self k; omega
      · exact h) λj hj=>hi j (List.mem_cons_of_mem _ hj)
theorem VT {n:Nat} {c:aA} {d:aR} {e:aA} (h:Bd n c) (G:Gd c) (hd:IU d) (hm:Mk c d) (hr:uF c.Chunks) (he:Eff c d e):Bd (n+1) e:=by
 have hq:=h.q
 cases he with
 | add k q nn w=>
  subst w
  refine⟨nB (P:=λx=>x.Locs.length≤n+1) (λx hx=>Nat.le_succ_of_le (h.k x hx)) (λ_ _=>by simp) λx hx _ _=>hx,λs hs=> ?_,λx hx=>Nat.le_succ_of_le (h.e x hx),λx hx=>by have:=h.f x hx; omega,by show c.Seq+1≤_; omega⟩
  rcases List.mem_append.1 hs with h1 | h1
  ·exact Nat.le_succ_of_le (h.s s h1)
  ·rw[List.mem_singleton.1 h1]; simp
 | drop k q w=>
  subst w
  refine⟨λy hy=> ?_,λs hs=>Nat.le_succ_of_le (h.s s (List.mem_filter.1 hs).1),λx hx=>Nat.le_succ_of_le (h.e x hx),λx hx=>by have:=h.f x hx; omega,by show c.Seq≤_; omega⟩
  obtain⟨z,hz,rfl⟩:=List.mem_map.1 hy
  rw[(kB _ z).1]
  exact Nat.le_succ_of_le (h.k z (List.mem_filter.1 hz).1)
 | ret k x hx q w=>
  subst w
  have lfl:∀(l:List a8),(lf d.Vol l).length≤l.length:=λl=>List.length_filter_le _ _
  refine⟨λy hy=> ?_,λy hy=> ?_,λy hy=> ?_,λy hy=> ?_,by show c.Seq≤_; omega⟩
  ·obtain⟨z,hz,rfl⟩:=List.mem_map.1 (List.mem_filter.1 hy).1
   exact Nat.le_trans (lfl _) (Nat.le_succ_of_le (h.k z hz))
  ·obtain⟨z,hz,rfl⟩:=List.mem_map.1 hy
   exact Nat.le_trans (lfl _) (Nat.le_succ_of_le (h.s z hz))
  ·obtain⟨z,hz,rfl⟩:=List.mem_map.1 (List.mem_filter.1 hy).1
   exact Nat.le_trans (lfl _) (Nat.le_succ_of_le (h.e z hz))
  ·rcases List.mem_or_eq_of_mem_set hy with h1 | rfl
   ·have:=h.f y h1; omega
   ·simp only; omega
 | rel k x hx q w=>
  subst w
  refine⟨λy hy=>Nat.le_succ_of_le (h.k y hy),λy hy=>Nat.le_succ_of_le (h.s y hy),λy hy=>Nat.le_succ_of_le (h.e y hy),λy hy=> ?_,by show c.Seq≤_; omega⟩
  rcases List.mem_or_eq_of_mem_set hy with h1 | rfl
  ·have:=h.f y h1; omega
  ·have:=h.f x (List.mem_of_getElem? hx); simp only; omega
 | wrote k x hx q p w=>
  subst w
  have hu:=hm.un
  obtain⟨o1,o2,o3⟩:=SK (c:=c) (d:=d) (x:=x)
  have pl:∀(l:List a8) (a:a8),l.length≤n→(fY l a).length≤n+1:=λl a hl=>by rw[kV]; omega
  refine⟨λy hy=> ?_,λy hy=> ?_,λy hy=> ?_,λy hy=> ?_, ?_⟩
  ·obtain⟨w,hw, -,e⟩:=OF y hy
   obtain⟨z,hz, -, -, -,e2⟩:=I5 hu w hw
   rw[e]
   have hz:=h.k z hz
   rcases e2 with e2 | ⟨i, -, -, -,e2⟩ <;> rw[e2]
   ·omega
   ·exact pl _ _ hz
  ·rw[o3] at hy
   obtain⟨z,hz, -, -,e2⟩:=OE hu y (List.mem_filter.1 hy).1
   have hz:=h.s z hz
   rcases e2 with e2 | ⟨i, -, -, -,e2⟩ <;> rw[e2]
   ·omega
   ·exact pl _ _ hz
  ·rw[o2] at hy
   rcases BJ hu y hy with⟨z,hz, -, -,e2⟩ | ⟨i, -, -,rfl⟩
   ·have hz:=h.e z hz
    rcases e2 with e2 | ⟨i, -, -, -,e2⟩ <;> rw[e2]
    ·omega
    ·exact pl _ _ hz
   ·simp
  ·have e:(jV c d x).Vols=c.Vols.set d.Vol.toNat { x with State:=2,Files:=x.Files+1}:=by
    have:(jK c d x).Vols=c.Vols.set d.Vol.toNat { x with State:=2,Files:=x.Files+1}:=qH _ _ _ _ _
    unfold jV
    split <;> exact this
   rw[e] at hy
   rcases List.mem_or_eq_of_mem_set hy with h1 | rfl
   ·have:=h.f y h1; omega
   ·have:=h.f x (List.mem_of_getElem? hx); simp only; omega
  ·rw[o1]
   refine OH (by show c.Seq≤_; omega) λi hi k3=> ?_
   rcases hm.it with ht | ⟨s,hs,e⟩
   ·rcases(ht.a i hi).w with⟨a,_⟩ | ⟨a,_⟩ | ⟨_,_,j,_,y,y1,y2,y3⟩
    ·omega
    ·omega
    ·have:=(G.eq y (List.mem_of_getElem? y1)).1
     simp only[fR,Bool.and_eq_true,decide_eq_true_eq] at this
     omega
   ·rw[e] at hi
    rw[List.mem_singleton.1 hi]
    show c.Seq+1≤_
    omega
theorem VU (q:List Int):Bd 0 (nG q):=by
 refine⟨λx hx=> ?_,λx hx=> ?_,λx hx=> ?_,λx hx=> ?_, ?_⟩
 ·cases hx
 ·cases hx
 ·cases hx
 ·unfold nG at hx
  obtain⟨p,hp,rfl⟩:=List.mem_map.1 hx
  exact Int.le_refl _
 ·exact Int.le_refl _
theorem aG2 {F:Nat} {q:List Int} {l:List n4} (hF:1000≤F) (h1:fR q.length 1 8=true) (h2:q.all EW=true) (h3:gL gI q) (gl:gL ID l) (ho:∀a∈l.take 30,FE a):T (M15 F q l) λc=>Sm c∧iA c=true∧Bd 30 c:=by
 have h8:q.length≤8:=by unfold fR at h1; simp at h1; omega
 unfold M15
 refine .bindEq (m32 hF (by omega)) ?_
 refine .loop (λs=>0≤s.2∧s.2≤30∧Sm s.1∧iA s.1=true∧Bd s.2.toNat s.1) (λs=>(30 - s.2).toNat) (λs=>Sm s.1∧iA s.1=true∧Bd 30 s.1) (by simp; omega) ⟨by simp,by simp,QA h8 h3,J3 h1 h2,VU q⟩ (λs hs=> ?_) (λs hs=>.some hs)
 obtain⟨c,i⟩:=s
 simp only at hs
 obtain⟨s1,s2,s3,s4,s5⟩:=hs
 have G:=lS.1 s4
 have fin:Bd 30 c:=s5.mono (by omega)
 unfold DJ
 refine .after (.ite (λhc=>.brk (T.ite (λhc2=> ?_) λhc2=>.brk ⟨s3,s4,fin⟩)) λhc=>.brk (T.ite (λh=>by cases h) λ_=>.brk ⟨s3,s4,fin⟩))
 have hc:=of_decide_eq_true hc
 have hc2:=of_decide_eq_true hc2
 simp only at hc hc2
 rw[wr (n:=i+1) (by omega) (by omega)]
 have go:∀c':aA,Sm c'→iA c'=true→Bd (i+1).toNat c'→T (some (.go (c',i+1)):Option (Lp (aA×Int) aA)) (L3 (λs'=>(0≤s'.2∧s'.2≤30∧Sm s'.1∧iA s'.1=true∧Bd s'.2.toNat s'.1)∧(30 - s'.2).toNat < (30 - i).toNat) (λs=>Sm s.1∧iA s.1=true∧Bd 30 s.1) (λc=>Sm c∧iA c=true∧Bd 30 c)):=λc' h5 h6 h7=>.go ⟨⟨by first | omega | (simp only; omega),by first | omega | (simp only; omega),h5,h6,h7⟩,by first | omega | (simp only; omega)⟩
 have same:Bd (i+1).toNat c:=s5.mono (by omega)
 refine .ix (by omega) (by omega) λa ea ha=>.bind _ (t66 hF ⟨s3,rng s4⟩ G λf hf=>⟨ho a (N4 ea (by simp only; omega)) f hf,((gl a ha).2.2.2.1 f hf).2⟩) λy hy=> ?_
 obtain⟨hd,hm⟩:=hy
 obtain⟨e,n,he2,hn⟩:=VS hF s3 G hd hm
 refine .after (.ite (λ_=>.bindEq he2 (.after (.ite (λh0=> ?_) λ_=>.brk (.brk (go _ s3 s4 same))))) λ_=>.brk (go _ s3 s4 same))
 rcases hn with⟨hn,_⟩ | ⟨_,hS,hGe,hE⟩
 ·exact absurd (by simpa using h0) hn
 ·have hr:uF c.Chunks:=qC.2 ⟨λx hx=>(s3.g.2.2.1 x hx).1,G.co⟩
  have:=VT s5 G hd hm hr hE
  rw[show i.toNat+1=(i+1).toNat by omega] at this
  exact .brk (.brk (go _ hS (lS.2 hGe) this))
open Go.Vm
structure Wok (n:Nat) (c:aA) (d:aR) (x:aP):Prop where
 w:Wd d
 u:d.Items.Pairwise Un
 hx:c.Vols[d.Vol.toNat]? =some x
 v:0≤d.Vol
 g:gI d.Vol
 k:iZ x d=true
 p:∀i∈d.Items,jU c i=true
 o:∀i∈d.Items,0≤i.Off∧i.Off≤16777215∧13≤i.Len∧i.Len≤8013
 e:∀i∈d.Items,i.Kind=3→0≤i.Of∧i.Of < i.Seq∧i.Seq≤n
theorem Wok.kd {n:Nat} {c:aA} {d:aR} {x:aP} (h:Wok n c d x):∀i∈d.Items,1≤i.Kind∧i.Kind≤3:=λi hi=>by
 have c1:=h.k
 unfold iZ at c1
 simp only[Bool.and_eq_true,Bool.not_eq_true',List.any_eq_false,Bool.or_eq_true,decide_eq_true_eq,not_or,Int.not_lt] at c1
 exact c1.2 i hi
theorem RB {v f:Int} {c:aA}:∀l:List aS,∀i∈l,i.Kind=1→∀y∈(kL v f c l).Chunks,y.Id=i.Id→kX v f i∈y.Locs:=oI (λi hi=>by cases hi) λl j ih i hi k y hy e=>by
 rw[oH] at hy
 obtain⟨z,hz,rfl⟩:=List.mem_map.1 hy
 rw[rU] at e
 rcases List.mem_append.1 hi with h | h
 ·have:=ih i h k z hz e
  unfold oF
  split
  ·exact nC.2 (.inl this)
  ·exact this
 ·rw[List.mem_singleton.1 h] at e ⊢
  rw[List.mem_singleton.1 h] at k
  unfold oF
  rw[if_pos ⟨k,e⟩]
  exact nC.2 (.inr rfl)
theorem VV {vs:List aP} {l:List a8} {a:a8} (h:Lk vs l) (hn:l.length < 200) (ha:tD vs a=true) (hw:∀y∈l,nk y a):Lk vs (fY l a):=by
 refine⟨by rw[kV]; omega,λy hy=> ?_, ?_⟩
 ·rcases nC.1 hy with h1 | rfl
  ·exact h.a y h1
  ·exact ha
 ·rw[wA h.o (by omega)]
  refine List.pairwise_append.2 ⟨h.o.sublist List.filter_sublist,List.pairwise_cons.2 ⟨λy hy=>(List.mem_filter.1 hy).2,h.o.sublist List.filter_sublist⟩,λy hy z hz=> ?_⟩
  obtain⟨h1,h2⟩:=List.mem_filter.1 hy
  have h2:jO y a=false:=by simpa using h2
  have hya:jO a y=true:=by
   have hk:=hw y h1
   unfold nk at hk
   have h3:¬jO y a=true:=by rw[h2]; decide
   rw[w6] at h3 ⊢
   omega
  rcases List.mem_cons.1 hz with rfl | hz
  ·exact hya
  ·exact yV y a z hya (List.mem_filter.1 hz).2
theorem VW {vs:List aP} {y:a8} {v:Nat} {x:aP} (h:tD vs y=true) (hx:vs[v]? =some x):tD (vs.set v { x with State:=2,Files:=x.Files+1}) y=true:=by
 have hl:=(List.getElem?_eq_some_iff.1 hx).1
 by_cases e:y.Vol.toNat=v
 ·subst e
  unfold tD at h ⊢
  rw[List.length_set,List.getElem?_set_self hl]
  rw[hx] at h
  simp only[Bool.and_eq_true,beq_iff_eq,fR,decide_eq_true_eq] at h ⊢
  exact⟨⟨⟨h.1.1.1,trivial,h.1.1.2.2.1,by omega⟩,h.1.2⟩,h.2⟩
 ·exact I2 h e
theorem Lk.up {vs:List aP} {l:List a8} {v:Nat} {x:aP} (h:Lk vs l) (hx:vs[v]? =some x):Lk (vs.set v { x with State:=2,Files:=x.Files+1}) l:=⟨h.n,λy hy=>VW (h.a y hy) hx,h.o⟩
theorem FI {b:Int}:∀ {l:List aQ} {a:Int},l.Pairwise (λy x=>y.Seq < x.Seq)→(∀x∈l,a≤x.Seq∧x.Seq < b)→a≤b→(l.length:Int)≤b - a
 | [],a,_,_,h=>by simp; omega
 | x::l,a,hp,hb,hab=>by
  obtain⟨h1,h2⟩:=List.pairwise_cons.1 hp
  have hx:=hb x List.mem_cons_self
  have:=FI (b:=b) (l:=l) (a:=x.Seq+1) h2 (λy hy=>⟨by have:=h1 y hy; omega,(hb y (List.mem_cons_of_mem _ hy)).2⟩) (by omega)
  simp only[List.length_cons]
  omega
theorem VX {n:Nat} {c:aA} {d:aR} {x:aP} (h:Sm c) (G:Gd c) (B:Bd n c) (hn:n≤190) (W:Wok n c d x):Gd (jV c d x)∧Bd (n+1) (jV c d x):=by
 have hxb:=G.v x (List.mem_of_getElem? W.hx)
 have hx:=W.hx
 have hl:=(List.getElem?_eq_some_iff.1 hx).1
 have gf:=B.f x (List.mem_of_getElem? hx)
 have hqc:=G.q
 simp only[fR,Bool.and_eq_true,decide_eq_true_eq] at hqc
 unfold mA fR at hxb
 simp only[Bool.and_eq_true,Bool.or_eq_true,decide_eq_true_eq,beq_iff_eq] at hxb
 have gF:gI (x.Files+1):=⟨by omega,by omega⟩
 have hI:∀i∈d.Items,It i:=λi hi=>by
  obtain⟨a1,a2,a3,a4,a5⟩:=W.w.it i hi
  exact⟨a1,a2,W.kd i hi,a3,a4,a5⟩
 have hWe:=vT (p:=x.Pool) W.g gF (I1 h G hx) hI
 have R:=zQ (p:=1) (v:=d.Vol) (f:=x.Files+1) d.Items (ws c d.Vol x)
 rw[← qR] at R
 obtain⟨o1,o2,o3⟩:=SK (c:=c) (d:=d) (x:=x)
 have o4:(jV c d x).Vols=c.Vols.set d.Vol.toNat { x with State:=2,Files:=x.Files+1}:=by
  have:(jK c d x).Vols=c.Vols.set d.Vol.toNat { x with State:=2,Files:=x.Files+1}:=qH _ _ _ _ _
  unfold jV
  split <;> exact this
 have hu:=W.u
 -- places
 have hpl:∀i∈d.Items,tD (jV c d x).Vols (kX d.Vol (x.Files+1) i)=true:=λi hi=>by
  have:=W.o i hi
  have hv:=W.v
  rw[o4]
  unfold tD
  rw[List.length_set]
  show (fR d.Vol 0 _ && _ && fR i.Off _ _ && fR i.Len _ _)=true
  rw[show (kX d.Vol (x.Files+1) i).Vol=d.Vol from rfl,List.getElem?_set_self hl]
  simp only[fR,Bool.and_eq_true,decide_eq_true_eq,beq_iff_eq]
  refine⟨⟨⟨⟨hv,by omega⟩,trivial, ?_, ?_⟩,this.1,this.2.1⟩,this.2.2⟩
  ·show 1≤x.Files+1; omega
  ·show x.Files+1≤x.Files+1; omega
 have up:∀l:List a8,Lk c.Vols l→Lk (jV c d x).Vols l:=λl hl=>by rw[o4]; exact hl.up hx
 have pt:∀(l:List a8),Lk c.Vols l→l.length≤n→∀i∈d.Items,Lk (jV c d x).Vols (fY l (kX d.Vol (x.Files+1) i)):=λl hl hn' i hi=>VV (up l hl) (by omega) (hpl i hi) (I4 hx hl).2
 have kl:∀y∈(kL d.Vol (x.Files+1) (ws c d.Vol x) d.Items).Chunks,Lk (jV c d x).Vols y.Locs:=λy hy=>by
  obtain⟨z,hz, -, -, -,e⟩:=I5 hu y hy
  have hz:z∈c.Chunks:=hz
  rcases e with e | ⟨i,hi, -, -,e⟩ <;> rw[e]
  ·exact up _ (G.cl z hz)
  ·exact pt _ (G.cl z hz) (B.k z hz) i hi
 have sl:∀y∈(kL d.Vol (x.Files+1) (ws c d.Vol x) d.Items).Snaps,Lk (jV c d x).Vols y.Locs:=λy hy=>by
  obtain⟨z,hz, -, -,e⟩:=OE hu y hy
  have hz:z∈c.Snaps:=hz
  rcases e with e | ⟨i,hi, -, -,e⟩ <;> rw[e]
  ·exact up _ (G.sl z hz)
  ·exact pt _ (G.sl z hz) (B.s z hz) i hi
 have eo:(jV c d x).Exps.Pairwise λy x=>y.Seq < x.Seq:=by
  have:=hWe.eo
  rw[pB] at this
  rw[o2]; exact this
 have wlv:Lv (kL d.Vol (x.Files+1) (ws c d.Vol x) d.Items):=HU (c:=ws c d.Vol x) (by have h1:=OA G; exact h1)
 -- chunks after clearing
 have cl1:∀z∈(kL d.Vol (x.Files+1) (ws c d.Vol x) d.Items).Chunks,(eM x.Pool d.Items z).Locs=z.Locs∧((eM x.Pool d.Items z=z)∨((eM x.Pool d.Items z).Staged=false∧(eM x.Pool d.Items z).Data= []∧z.Locs≠ [])):=λz hz=>by
  have:∀l:List aS,(∀i∈l,i∈d.Items)→(eM x.Pool l z).Locs=z.Locs∧((eM x.Pool l z=z)∨((eM x.Pool l z).Staged=false∧(eM x.Pool l z).Data= []∧z.Locs≠ [])):=oI (λ_=>⟨rfl,.inl rfl⟩) λl i ih hs=>by
   obtain⟨i1,i2⟩:=ih λj hj=>hs j (List.mem_append_left _ hj)
   have e:eM x.Pool (l++ [i]) z=pG x.Pool i (eM x.Pool l z):=by unfold eM; rw[List.foldl_append]; rfl
   rw[e]
   by_cases hc:x.Pool=0∧i.Kind=1∧(eM x.Pool l z).Id=i.Id
   ·rw[show pG x.Pool i (eM x.Pool l z)= { eM x.Pool l z with Staged:=false,Data:= []} from if_pos hc]
    refine⟨i1,.inr ⟨rfl,rfl,λhn=> ?_⟩⟩
    have:=RB d.Items i (hs i (by simp)) hc.2.1 z hz (by rw[← hc.2.2,xG])
    rw[hn] at this
    cases this
   ·rw[show pG x.Pool i (eM x.Pool l z)=eM x.Pool l z from if_neg hc]
    exact⟨i1,i2⟩
  exact this d.Items λ_ h=>h
 have hw1:jK c d x= { kL d.Vol (x.Files+1) (ws c d.Vol x) d.Items with Chunks:=(kL d.Vol (x.Files+1) (ws c d.Vol x) d.Items).Chunks.map (eM x.Pool d.Items)}:=pB _ _ _ _ _
 have cs1:∀y∈(jK c d x).Chunks,(if y.Staged=true then fR y.Data.length 1 64=true else y.Data= []∧y.Locs≠ [])∧pF y=true:=λy hy=>by
  rw[hw1] at hy
  obtain⟨z,hz,rfl⟩:=List.mem_map.1 hy
  obtain⟨e1,e2⟩:=cl1 z hz
  rcases e2 with e2 | ⟨e2,e3,e4⟩
  ·rw[e2]
   refine⟨?_,wlv z hz⟩
   obtain⟨w,hw, -,f2,f3,f4⟩:=I5 hu z hz
   have:=G.cs w hw
   rw[f2,f3]
   split
   ·rename_i hst; rw[if_pos hst] at this; exact this
   ·rename_i hst
    rw[if_neg hst] at this
    refine⟨this.1, ?_⟩
    rcases f4 with f4 | ⟨i, -, -, -,f4⟩ <;> rw[f4]
    ·exact this.2
    ·intro hn
     have:=kV (l:=w.Locs) (x:=kX d.Vol (x.Files+1) i)
     rw[hn] at this
     simp at this
  ·refine⟨by rw[if_neg (by rw[e2]; decide),e1]; exact⟨e3,e4⟩, ?_⟩
   have:=List.length_pos_iff.2 e4
   unfold pF
   rw[e1]
   simp; omega
 have us:∀y∈(jV c d x).Chunks,∃w∈(jK c d x).Chunks,y=w∨(y=E8 (qS c d x) w∧pF y=true):=λy hy=>by
  unfold jV at hy
  split at hy
  ·obtain⟨w,hw,rfl⟩:=List.mem_map.1 hy
   obtain⟨h1,h2⟩:=List.mem_filter.1 hw
   exact⟨w,h1,.inr ⟨rfl,h2⟩⟩
  ·exact⟨y,hy,.inl rfl⟩
 have hqe:c.Seq≤(jV c d x).Seq∧(jV c d x).Seq≤n+1:=by
  rw[o1]
  have hq:=B.q
  exact⟨R.q,OH (by show c.Seq≤_; omega) λi hi k3=>by have:=(W.e i hi k3).2.2; omega⟩
 have esq:∀y∈(jV c d x).Exps,0≤y.Of∧y.Of < y.Seq∧y.Seq < (jV c d x).Seq:=λy hy=>by
  have hlt:y.Seq < (jV c d x).Seq:=by
   have:=(hWe.eq y (by rw[pB]; rw[o2] at hy; exact hy)).2.2
   rw[pB] at this
   rw[o1]; exact this
  rw[o2] at hy
  rcases BJ hu y hy with⟨z,hz,e1,e2, -⟩ | ⟨i,hi,k3,rfl⟩
  ·have:=G.eq z hz
   simp only[fR,Bool.and_eq_true,decide_eq_true_eq] at this
   omega
  ·have:=W.e i hi k3
   exact⟨this.1,this.2.1,hlt⟩
 obtain⟨-,⟨fs,hfs,efs⟩, -⟩:=R
 have snm:(jV c d x).Snaps=((c.Snaps.map fs).filter λs=> !jJ d.Items s):=by rw[o3,efs]; rfl
 have sgn:∀s,jJ d.Items (fs s)=jJ d.Items s:=λs=>by unfold jJ; rw[(hfs s).1]
 have smem:∀s∈(jV c d x).Snaps,∃t∈c.Snaps,s.Seq=t.Seq∧s.Man=t.Man∧jJ d.Items s=false:=λs hs=>by
  rw[snm] at hs
  obtain⟨h1,h2⟩:=List.mem_filter.1 hs
  obtain⟨t,ht,rfl⟩:=List.mem_map.1 h1
  exact⟨t,ht,(hfs t).1,(hfs t).2,by simpa using h2⟩
 have spw:∀(P:aH→aH→Prop),(∀a b,P a b→P (fs a) (fs b))→c.Snaps.Pairwise P→(jV c d x).Snaps.Pairwise P:=λP hP hp=>by
  rw[snm]
  exact(List.pairwise_map.2 (hp.imp fun {a b} h=>hP a b h)).sublist List.filter_sublist
 have cle:(jV c d x).Chunks.length≤c.Chunks.length∧(jV c d x).Chunks.Pairwise λy x=>ky y.Id < ky x.Id:=by
  have l1:(jK c d x).Chunks.length=c.Chunks.length:=by
   obtain⟨-, -,g, -,eg⟩:=zQ (p:=x.Pool) (v:=d.Vol) (f:=x.Files+1) d.Items (ws c d.Vol x)
   show (xD x.Pool d.Vol (x.Files+1) (ws c d.Vol x) d.Items).Chunks.length=_
   rw[eg,List.length_map]; rfl
  have p1:(jK c d x).Chunks.Pairwise λy x=>ky y.Id < ky x.Id:=(qC.1 hWe.r).2
  unfold jV
  split
  ·refine⟨?_,List.pairwise_map.2 ((p1.sublist List.filter_sublist).imp fun {a b} hab=>by rw[(kB _ a).2.1,(kB _ b).2.1]; exact hab)⟩
   show (List.map _ _).length≤_
   rw[List.length_map,← l1]
   exact List.length_filter_le _ _
  ·exact⟨by rw[← l1]; exact Nat.le_refl _,p1⟩
 have kfin:∀y∈(jV c d x).Chunks,∃z∈(kL d.Vol (x.Files+1) (ws c d.Vol x) d.Items).Chunks,y.Id=z.Id∧y.Locs=z.Locs:=OF
 refine⟨{ q:= ?_,v:= ?_,vn:= ?_,cn:=Nat.le_trans cle.1 G.cn,co:=cle.2,cl:= ?_,cs:= ?_,sn:= ?_,so:= ?_,sq:= ?_,sm:= ?_,sb:= ?_,sl:= ?_,sp:= ?_,en:= ?_,eo:=eo,eq:= ?_,el:= ?_,ee:= ?_,ex:= ?_}, ?_⟩
 ·simp only[fR,Bool.and_eq_true,decide_eq_true_eq]; omega
 ·intro v hv
  rw[o4] at hv
  rcases List.mem_or_eq_of_mem_set hv with h1 | rfl
  ·exact G.v v h1
  ·unfold mA fR
   simp only[Bool.and_eq_true,Bool.or_eq_true,decide_eq_true_eq,beq_iff_eq]
   exact⟨hxb.1,.inl ⟨trivial,by omega,by omega⟩⟩
 ·rw[o4,List.length_set]; exact G.vn
 ·intro y hy
  obtain⟨z,hz, -,e⟩:=kfin y hy
  rw[e]; exact kl z hz
 ·intro y hy
  obtain⟨w,hw,e⟩:=us y hy
  obtain⟨c1,c2⟩:=cs1 w hw
  rcases e with rfl | ⟨rfl,e⟩
  ·exact c1
  ·unfold E8 at e ⊢
   split
   ·exact c1
   ·rename_i hnu
    rw[if_neg hnu] at e
    simp only[pF,Bool.false_or,decide_eq_true_eq] at e
    rw[if_neg (show ¬(false=true) by decide)]
    refine⟨rfl,λhn=> ?_⟩
    have hn:w.Locs= []:=hn
    rw[hn] at e; simp at e
 ·rw[snm]
  exact Nat.le_trans (List.length_filter_le _ _) (by rw[List.length_map]; exact G.sn)
 ·exact spw _ (λa b h=>by rw[(hfs a).1,(hfs b).1]; exact h) G.so
 ·intro s hs
  obtain⟨t,ht,e, -⟩:=smem s hs
  have:=G.sq t ht
  simp only[fR,Bool.and_eq_true,decide_eq_true_eq] at this ⊢
  omega
 ·exact spw _ (λa b h=>by rw[(hfs a).2,(hfs b).2]; exact h) G.sm
 ·intro s hs
  obtain⟨t,ht, -,e, -⟩:=smem s hs
  rw[e]; exact G.sb t ht
 ·intro s hs
  rw[o3] at hs
  exact sl s (List.mem_filter.1 hs).1
 ·intro s hs
  obtain⟨t,ht, -,e, -⟩:=smem s hs
  have hp:=G.sp t ht
  unfold MP at hp ⊢
  rw[e]
  refine List.all_eq_true.2 λp hp1=>List.all_eq_true.2 λid hid=> ?_
  have h1:=List.all_eq_true.1 (List.all_eq_true.1 hp p hp1) id hid
  have hu1:n6 (qS c d x) id=true:=by
   have es:(qS c d x).Snaps=(jV c d x).Snaps:=by unfold jV; split <;> rfl
   refine List.any_eq_true.2 ⟨s,by rw[es]; exact hs,List.any_eq_true.2 ⟨p,by rw[e]; exact hp1,List.any_eq_true.2 ⟨id,hid,decide_eq_true rfl⟩⟩⟩
  have h2:(jK c d x).Chunks.any (λy=>decide (y.Id=id))=true:=by
   have:=qG (l:=(kL d.Vol (x.Files+1) (ws c d.Vol x) d.Items).Chunks) (f:=eM x.Pool d.Items) (xG x.Pool d.Items) id
   have e9:(jK c d x).Chunks=(kL d.Vol (x.Files+1) (ws c d.Vol x) d.Items).Chunks.map (eM x.Pool d.Items):=by rw[hw1]
   rw[e9]
   refine this.trans ?_
   obtain⟨-, -,g,hg,eg⟩:=zQ (p:=1) (v:=d.Vol) (f:=x.Files+1) d.Items (ws c d.Vol x)
   rw[← qR] at eg
   rw[eg,qG λy=>(hg y).1]
   exact h1
  obtain⟨y,hy,ey⟩:=List.any_eq_true.1 h2
  have ey:y.Id=id:=of_decide_eq_true ey
  refine List.any_eq_true.2 ?_
  unfold jV
  split
  ·refine⟨E8 (qS c d x) y,List.mem_map.2 ⟨y,List.mem_filter.2 ⟨hy, ?_⟩,rfl⟩,decide_eq_true ((kB _ y).2.1.trans ey)⟩
   unfold E8
   rw[if_pos (by rw[ey]; exact hu1)]
   exact(cs1 y hy).2
  ·exact⟨y,hy,decide_eq_true ey⟩
 ·have:=FI (b:=(jV c d x).Seq) (a:=0) eo (λy hy=>⟨by have:=esq y hy; omega,(esq y hy).2.2⟩) (by omega)
  omega
 ·intro y hy
  have:=esq y hy
  simp only[fR,Bool.and_eq_true,decide_eq_true_eq]
  omega
 ·intro y hy
  rw[o2] at hy
  rcases BJ hu y hy with⟨z,hz, -, -,e⟩ | ⟨i,hi,k3,rfl⟩
  ·have hz:z∈c.Exps:=hz
   rcases e with e | ⟨i,hi, -, -,e⟩ <;> rw[e]
   ·exact up _ (G.el z hz)
   ·exact pt _ (G.el z hz) (B.e z hz) i hi
  ·exact⟨by simp,λy hy=>by rw[List.mem_singleton.1 hy]; exact hpl i hi,List.pairwise_singleton _ _⟩
 ·intro y hy hn
  rw[o2] at hy
  rcases BJ hu y hy with⟨z,hz, -, -,e⟩ | ⟨i,hi,k3,rfl⟩
  ·rcases e with e | ⟨i,hi, -, -,e⟩ <;> rw[e] at hn
   ·exact G.ee z hz hn
   ·have:=kV (l:=z.Locs) (x:=kX d.Vol (x.Files+1) i)
    rw[hn] at this
    simp at this
  ·cases hn
 ·intro y hy s hs e
  obtain⟨t,ht,e1, -,e2⟩:=smem s hs
  rw[o2] at hy
  rcases BJ hu y hy with⟨z,hz, -,f2, -⟩ | ⟨i,hi,k3,rfl⟩
  ·exact G.ex z hz t ht (by omega)
  ·have:=List.any_eq_false.1 e2 i hi
   have e:s.Seq=i.Of:=e
   simp[k3,e] at this
 ·have pl:∀(l:List a8) (a:a8),l.length≤n→(fY l a).length≤n+1:=λl a hl=>by rw[kV]; omega
  refine⟨λy hy=> ?_,λy hy=> ?_,λy hy=> ?_,λy hy=> ?_,by have:=hqe.2; omega⟩
  ·obtain⟨w,hw, -,e⟩:=OF y hy
   obtain⟨z,hz, -, -, -,e2⟩:=I5 hu w hw
   rw[e]
   have hz:=B.k z hz
   rcases e2 with e2 | ⟨i, -, -, -,e2⟩ <;> rw[e2]
   ·omega
   ·exact pl _ _ hz
  ·rw[o3] at hy
   obtain⟨z,hz, -, -,e2⟩:=OE hu y (List.mem_filter.1 hy).1
   have hz:=B.s z hz
   rcases e2 with e2 | ⟨i, -, -, -,e2⟩ <;> rw[e2]
   ·omega
   ·exact pl _ _ hz
  ·rw[o2] at hy
   rcases BJ hu y hy with⟨z,hz, -, -,e2⟩ | ⟨i, -, -,rfl⟩
   ·have hz:=B.e z hz
    rcases e2 with e2 | ⟨i, -, -, -,e2⟩ <;> rw[e2]
    ·omega
    ·exact pl _ _ hz
   ·simp
  ·rw[o4] at hy
   rcases List.mem_or_eq_of_mem_set hy with h1 | rfl
   ·have:=B.f y h1; omega
   ·simp only; omega
open Go.Vm
def vV (m:Nat) (p0:List a8) (p1:a8) (q0:Int):Option (Lp (Int) (Bool)):=
 if (decide (q0 < (p0.length:Int)))=true then ((ix p0 q0).bind λx0=>(EV m x0 p1).bind λy0=>if y0=true then (some (.ret true)) else some (.go (IntKind.wrap .i64 (q0+1)))) else some (.brk q0)
def WA (m:Nat) (p0:List a8) (p1:a8):Option (Bool):=
 after (aU (λs=>vV m p0 p1 s) m 0) λr0=>some false
theorem W45 {u:Nat} {p0:List a8} {p1:a8} {o:Bool} (h:aE) (m:WA u p0 p1=some o):
 aL Tryz.prog 45 [.sl none 4 (List.map aN p0),.agg (aN p1)] h (λr h'=>r= .sc (.bool o)∧h'=h):=by
 refine f8 18 [.tmp 4] Tryz.func45 rfl rfl rfl rfl ?_
 unfold WA at m
 refine v (gY rfl rfl λk2 K3=>v (jY m (σ:=Int) (λs=> [(some k2,.obj 81 (aN p1))]) (λs=>.c 0 (.sl none 4 (List.map aN p0)) (.c 3 (.ptr k2 0) (.c 5 (nZ s) .nil))) (lx (.k3 .nil)) ?_ ?_))
 rintro _ q0 x m
 replace m:vV u p0 p1 q0=some x:=m
 unfold vV at m
 refine v (dE gO rfl (v ?_))
 apply vi m <;> intro c0 m
 refine v (v (v (vq (by kernel_rfl) (vx m jR rfl rfl λx0 _ m=>va (.agg (aN x0)) l8 rfl rfl (vl 0 (.agg (aN p1)) l8 rfl rfl rfl (vk YR R5 m rfl rfl λ_ m=>v ?_))))))
 apply vi m <;> intro c1 m
 refine v (v (gM m λm=> ?_))
 obtain rfl:=eT m
 exact eD rfl
 exact v (v (gU m))
 exact v (EE m)
 rintro _ r0 m
 refine v (v ?_)
 obtain rfl:=eT m
 exact eD rfl
theorem RC:aO Tryz.prog 45=true:=by kernel_rfl
open Go.Vm
def vW (m:Nat) (p2:Int) (p3:Int) (y0:aA) (y1:aA×Int) (q0:Int):Option (Lp (Int) (Bool)):=
 if (decide (q0 < (y0.Chunks.length:Int)))=true then (after ((ix y0.Chunks q0).bind λx0=>(ix y1.1.Chunks q0).bind λx1=>if (q0 !=(IntKind.wrap .i64 ((IntKind.wrap .u64 p3).tmod (IntKind.wrap .u64 (y0.Chunks.length:Int)))))=true then ((YT m x0 x1).bind λy2=>if (!y2)=true then (some (.ret (.ret false))) else some (.brk ())) else after (if x0.Staged=true then ((ix y0.Vols (IntKind.wrap .i64 ((IntKind.wrap .u64 p2).tmod (IntKind.wrap .u64 (y0.Vols.length:Int))))).bind λx2=>some (.brk (x2.Pool==1))) else some (.brk false):Option (Lp (Bool) (Lp (Unit) (Lp (Int) (Bool))))) λj0=>after (if (x1.Staged !=j0)=true then (some (.brk true)) else if j0=true then ((V6 m x1.Data x0.Data).bind λy3=>if (!y3)=true then (some (.brk true)) else if ((x1.Locs.length:Int) !=(IntKind.wrap .i64 ((x0.Locs.length:Int)+1)))=true then (some (.brk true)) else (ix y1.1.Vols (IntKind.wrap .i64 ((IntKind.wrap .u64 p2).tmod (IntKind.wrap .u64 (y0.Vols.length:Int))))).bind λx3=>(WA m x1.Locs ({ Vol:=IntKind.wrap .i64 ((IntKind.wrap .u64 p2).tmod (IntKind.wrap .u64 (y0.Vols.length:Int))),File:=x3.Files,Off:=13,Len:=20}:a8)).bind λy4=>some (.brk (!y4))) else if (decide (0 < (x1.Data.length:Int)))=true then (some (.brk true)) else if ((x1.Locs.length:Int) !=(IntKind.wrap .i64 ((x0.Locs.length:Int)+1)))=true then (some (.brk true)) else (ix y1.1.Vols (IntKind.wrap .i64 ((IntKind.wrap .u64 p2).tmod (IntKind.wrap .u64 (y0.Vols.length:Int))))).bind λx4=>(WA m x1.Locs ({ Vol:=IntKind.wrap .i64 ((IntKind.wrap .u64 p2).tmod (IntKind.wrap .u64 (y0.Vols.length:Int))),File:=x4.Files,Off:=13,Len:=20}:a8)).bind λy5=>some (.brk (!y5)):Option (Lp (Bool) (Lp (Unit) (Lp (Int) (Bool))))) λj1=>if j1=true then (some (.ret (.ret false))) else some (.brk ()):Option (Lp (Unit) (Lp (Int) (Bool)))) λ_=>some (.go (IntKind.wrap .i64 (q0+1)))) else some (.brk q0)
def M11 (m:Nat) (p0:List Int) (p1:List n4) (p2:Int) (p3:Int):Option (Bool):=
 after (if (decide (30 < (p0.length:Int)))=true then (some (.brk true)) else (M14 m p1).bind λy9=>some (.brk y9):Option (Lp (Bool) (Bool))) λj7=>if j7=true then (some true) else (M16 m p0).bind λy0=>(M15 m y0 p1).bind λy1=>grd ((IntKind.wrap .u64 (y1.Vols.length:Int)) !=0) <| after (if ((y1.Chunks.length:Int)==0)=true then (some (.brk true)) else (ix y1.Vols (IntKind.wrap .i64 ((IntKind.wrap .u64 p2).tmod (IntKind.wrap .u64 (y1.Vols.length:Int))))).bind λx0=>some (.brk (x0.State==3)):Option (Lp (Bool) (Bool))) λj0=>if j0=true then ((M37 m).bind λy2=>some y2) else grd ((IntKind.wrap .u64 (y1.Chunks.length:Int)) !=0) <| (ix y1.Chunks (IntKind.wrap .i64 ((IntKind.wrap .u64 p3).tmod (IntKind.wrap .u64 (y1.Chunks.length:Int))))).bind λx1=>(UX m y1 ({ Kind:=3,Snap:=({ Seq:=0,Man:=({ Name:=ByteArray.empty,Parts:= []}:bG),Locs:= []}:aH),Chunks:= [],Seq:=0,Vol:=IntKind.wrap .i64 ((IntKind.wrap .u64 p2).tmod (IntKind.wrap .u64 (y1.Vols.length:Int))),Items:=([({ Kind:=1,Id:=x1.Id,Seq:=0,Of:=0,Off:=13,Len:=20}:aS)]:List aS)}:aR)).bind λy3=>after (if (y3.2 !=0)=true then (some (.brk true)) else if ((y3.1.Chunks.length:Int) !=(y1.Chunks.length:Int))=true then (some (.brk true)) else if (decide ((y3.1.Vols.length:Int)≤(IntKind.wrap .i64 ((IntKind.wrap .u64 p2).tmod (IntKind.wrap .u64 (y1.Vols.length:Int))))))=true then (some (.brk true)) else (ix y3.1.Vols (IntKind.wrap .i64 ((IntKind.wrap .u64 p2).tmod (IntKind.wrap .u64 (y1.Vols.length:Int))))).bind λx2=>(ix y1.Vols (IntKind.wrap .i64 ((IntKind.wrap .u64 p2).tmod (IntKind.wrap .u64 (y1.Vols.length:Int))))).bind λx3=>if (x2.Files !=(IntKind.wrap .i64 (x3.Files+1)))=true then (some (.brk true)) else (ix y3.1.Vols (IntKind.wrap .i64 ((IntKind.wrap .u64 p2).tmod (IntKind.wrap .u64 (y1.Vols.length:Int))))).bind λx4=>some (.brk (x4.State !=2)):Option (Lp (Bool) (Bool))) λj1=>if j1=true then (some false) else after (aU (λs=>vW m p2 p3 y1 y3 s) m 0) λr0=>after (if (y3.1.Seq==y1.Seq)=true then (if ((y3.1.Snaps.length:Int)==(y1.Snaps.length:Int))=true then ((M37 m).bind λy4=>some (.brk y4)) else some (.brk false)) else some (.brk false):Option (Lp (Bool) (Bool))) λj2=>some j2
theorem W11 {w:Nat} {p0:List Int} {p1:List n4} {p2:Int} {p3:Int} {o:Bool} (h:aE) (m:M11 w p0 p1 p2 p3=some o):
 aL Tryz.prog 11 [.sl none 1 (List.map iY p0),.sl none 5 (List.map gG p1),nZ p2,nZ p3] h (λr h'=>r= .sc (.bool o)∧h'=h):=by
 refine f8 217 [.tmp 8] Tryz.func11 rfl rfl rfl rfl ?_
 unfold M11 at m
 refine v (vs (vs (fN m (σ:=Bool) (λs=> []) (λs=>.c 0 (.sl none 1 (List.map iY p0)) (.c 1 (.sl none 5 (List.map gG p1)) (.c 2 (nZ p2) (.c 3 (nZ p3) (.c 23 (.sc (.bool s)) .nil))))) (λx m=> ?_) ?_)))
 refine v (dE JN rfl ?_)
 apply vi m <;> intro b8 m
 rw[b8]
 exact lX m
 rw[b8]
 exact vk W14 aGE m rfl rfl λ_ m=>lX m
 rintro _ j7 m
 refine v ?_
 apply vi m <;> intro c0 m
 refine v (v ?_)
 obtain rfl:=eT m
 exact eD rfl
 refine v (v (vk W16 aGF m rfl rfl λ_ m=>vk W15 aGG m rfl rfl λy0 m=>ve λu=>bJ (hH) u pX rfl rfl λk19 K0=>qk K0 rfl (ve λu=>aK 0 (aF y0) u rfl rfl rfl rfl lZ rfl rfl λK1=>qk K1 rfl (v (vl 0 _ gH rfl rfl rfl (dE sK rfl (PP m λ_ m=>vs (vs (fN m (σ:=Bool) (λs=> [(some k19,.obj 30 (aF y0))]) (λs=>.c 3 (nZ p3) (.c 9 (.ptr k19 0) (.c 10 (nZ (IntKind.wrap .i64 ((IntKind.wrap .u64 p2).tmod (IntKind.wrap .u64 (y0.Vols.length:Int))))) (.c 48 (.sc (.bool s)) .nil)))) (λx m=> ?_) ?_)))))))))
 refine v (vl 0 _ eJ rfl rfl rfl (dE iG rfl ?_))
 apply vi m <;> intro b0 m
 rw[b0]
 exact iE m
 rw[b0]
 exact vl 0 _ gH rfl rfl rfl (vx m jN rfl rfl λ_ _ m=>iE m)
 rintro _ j0 m
 refine v ?_
 apply vi m <;> intro c1 m
 refine v (vk W37 aBK m rfl rfl λ_ m=>v ?_)
 obtain rfl:=eT m
 exact eD rfl
 refine v (v (vl 0 _ eJ rfl rfl rfl (dE iG rfl (PP m λ_ m=>v (vz [(1000000,some k19,.obj 30 (aF y0))] mixed (λu=>⟨λ_=>aJ 0 u rfl,trivial⟩) λu=>zL 0 0 (.agg (aF y0)) rfl fC rfl rfl rfl (zI 1 rfl rfl (zF 2 rfl dR rfl (zL 3 0 (.sl none 35 (List.map aI y0.Chunks)) rfl eJ rfl rfl rfl (zI 4 rfl rfl ?_)))))))))
 obtain⟨x0,X0,m⟩:=aC m
 refine zC 5 rfl (nO X0 fH rfl rfl) (zC 6 rfl (oM nT rfl rfl) (zC 7 rfl (nX (.agg (bL x0.Id)) fW rfl rfl) (zC 8 rfl (eS (aY ({ Kind:=1,Id:=x0.Id,Seq:=0,Of:=0,Off:=13,Len:=20}:aS)) TC rfl) (zC 9 rfl (eK (List.map aY ([({ Kind:=1,Id:=x0.Id,Seq:=0,Of:=0,Off:=13,Len:=20}:aS)]:List aS)) LS rfl rfl rfl rfl) (zC 10 rfl (eS ([nZ 3,nZ 0,.sc (.string ByteArray.empty),sZ,sZ,sZ,nZ 0,nZ (IntKind.wrap .i64 ((IntKind.wrap .u64 p2).tmod (IntKind.wrap .u64 (y0.Vols.length:Int)))),.sl none 37 (List.map aY ([({ Kind:=1,Id:=x0.Id,Seq:=0,Of:=0,Off:=13,Len:=20}:aS)]:List aS))]) z7 rfl) ?_)))))
 obtain⟨y1,Y0,m⟩:=aC m
 refine zC 11 rfl (bY (qJ (.cons (bF.refl _ _) (.cons (bF.agg (.k3 (.cons (aX _) (.cons (aX _) (.cons (aX _) (.k3 .nil)))))) .nil)) (W29 _ Y0)) rfl aAP rfl) (zC 12 rfl (eY (.tup _) rfl) (zC 13 rfl (PB (.agg _) rfl rfl) (zC 14 rfl (PB (.sc (.int _ _)) rfl rfl) (zE 15 rfl (bJ (hH) u pX rfl rfl λk54 K2=>⟨⟨λ_=>aJ 1 K2 rfl,trivial⟩, ?_⟩)))))
 refine zE 16 rfl (aK 0 (aF y1.1) K2 rfl rfl rfl rfl lZ rfl rfl λK3=>⟨⟨λ_=>aJ 1 K3 rfl,trivial⟩, ?_⟩)
 refine zC 17 rfl (iC (.sc (.int _ _)) rfl) (zX (qk (f:=.c 12 _ (.c 11 _ (.c 72 _ (.c 71 _ (.c 58 _ (GD 70 _ _ _ _ _ _ _ _ _ _ _ _ _)))))) K3 rfl (vs (vs (fN m (σ:=Bool) (λs=> [(some k54,.obj 30 (aF y1.1)),(some k19,.obj 30 (aF y0))]) (λs=>.c 3 (nZ (IntKind.wrap .i64 ((IntKind.wrap .u64 p3).tmod (IntKind.wrap .u64 (y0.Chunks.length:Int))))) (.c 9 (.ptr k19 0) (.c 10 (nZ (IntKind.wrap .i64 ((IntKind.wrap .u64 p2).tmod (IntKind.wrap .u64 (y0.Vols.length:Int))))) (.c 11 (.ptr k54 0) (.c 115 (.sc (.bool s)) .nil))))) (λx m=> ?_) ?_)))))
 refine v (vq (by kernel_rfl) ?_)
 apply vi m <;> intro b1 m
 rw[b1]
 exact lX m
 rw[b1]
 refine vl 0 _ eJ rfl rfl rfl (dE iG rfl (vl 1 _ eJ rfl rfl rfl (dE iG rfl ?_)))
 apply vi m <;> intro b2 m
 rw[b2]
 exact lX m
 rw[b2]
 refine vl 0 _ gH rfl rfl rfl (dE sK rfl ?_)
 apply vi m <;> intro b3 m
 rw[b3]
 exact lX m
 rw[b3]
 refine vl 0 _ gH rfl rfl rfl (vx m jN rfl rfl λ_ _ m=>vl 1 _ gH rfl rfl rfl (vx m jN rfl rfl λ_ _ m=> ?_))
 apply vi m <;> intro b4 m
 rw[b4]
 exact lX m
 rw[b4]
 exact vl 0 _ gH rfl rfl rfl (vx m jN rfl rfl λ_ _ m=>lX m)
 rintro _ j1 m
 refine v ?_
 apply vi m <;> intro c2 m
 refine v (v ?_)
 obtain rfl:=eT m
 exact eD rfl
 refine v (v (jY m (σ:=Int) (λs=> [(some k54,.obj 30 (aF y1.1)),(some k19,.obj 30 (aF y0))]) (λs=>.c 3 (nZ (IntKind.wrap .i64 ((IntKind.wrap .u64 p3).tmod (IntKind.wrap .u64 (y0.Chunks.length:Int))))) (.c 9 (.ptr k19 0) (.c 10 (nZ (IntKind.wrap .i64 ((IntKind.wrap .u64 p2).tmod (IntKind.wrap .u64 (y0.Vols.length:Int))))) (.c 11 (.ptr k54 0) (.c 13 (nZ s) .nil))))) (lx (.k5 .nil)) ?_ ?_))
 rintro _ q0 x m
 replace m:vW w p2 p3 y0 y1 q0=some x:=m
 unfold vW at m
 refine v (vl 1 _ eJ rfl rfl rfl (dE iG rfl (v ?_)))
 apply vi m <;> intro c3 m
 refine v (vs (fN m (σ:=Unit) (λs=> [(some k54,.obj 30 (aF y1.1)),(some k19,.obj 30 (aF y0))]) (λs=>.c 3 (nZ (IntKind.wrap .i64 ((IntKind.wrap .u64 p3).tmod (IntKind.wrap .u64 (y0.Chunks.length:Int))))) (.c 9 (.ptr k19 0) (.c 10 (nZ (IntKind.wrap .i64 ((IntKind.wrap .u64 p2).tmod (IntKind.wrap .u64 (y0.Vols.length:Int))))) (.c 11 (.ptr k54 0) (.c 13 (nZ q0) .nil))))) (λx m=> ?_) ?_))
 refine v (v (vz [(1000000,some k19,.obj 30 (aF y0)),(1000000,some k54,.obj 30 (aF y1.1))] mixed (λu=>⟨λ_=>aJ 1 u rfl,λ_=>aJ 0 u rfl,trivial⟩) λu=>zF 0 rfl dR rfl (zL 1 0 (.sl none 35 (List.map aI y0.Chunks)) rfl eJ rfl rfl rfl (zI 2 rfl rfl ?_))))
 obtain⟨x1,X1,m⟩:=aC m
 refine zC 3 rfl (nO X1 fH rfl rfl) (zC 4 rfl (nX (.agg (aI x1)) kQ rfl rfl) (zF 5 rfl dR rfl (zL 6 1 (.sl none 35 (List.map aI y1.1.Chunks)) rfl eJ rfl rfl rfl (zI 7 rfl rfl ?_))))
 obtain⟨x2,X2,m⟩:=aC m
 refine zC 8 rfl (nO X2 fH rfl rfl) (zC 9 rfl (nX (.agg (aI x2)) kQ rfl rfl) (aCL 10 11 rfl rfl (by kernel_rfl) ?_ ?_))
 refine(bJ (bL jW++(FN:List AV)) u l6 rfl rfl λk882 K4=>⟨⟨λ_=>aJ 2 K4 rfl,λ_=>aJ 1 K4 rfl,trivial⟩, ?_⟩)
 refine zE 11 rfl (bJ (bL jW++(FN:List AV)) K4 l6 rfl rfl λk885 K5=>⟨⟨λ_=>aJ 3 K5 rfl,λ_=>aJ 2 K5 rfl,trivial⟩, ?_⟩)
 refine zE 12 rfl (aK 1 (aI x1) K5 rfl rfl rfl rfl rI rfl rfl λK6=>⟨⟨λ_=>aJ 3 K6 rfl,λ_=>aJ 2 K6 rfl,trivial⟩, ?_⟩)
 refine zE 13 rfl (aK 0 (aI x2) K6 rfl rfl rfl rfl rI rfl rfl λK7=>⟨⟨λ_=>aJ 3 K7 rfl,λ_=>aJ 2 K7 rfl,trivial⟩, ?_⟩)
 refine zX (qk (f:=.c 15 _ (.c 14 _ (PO 132 _ _ _ _ _ _ _ _ _ _ _))) K7 rfl (v (v ?_)))
 apply vi m <;> intro c4 m
 refine v (vl 1 (.agg (aI x1)) kQ rfl rfl rfl (vl 0 (.agg (aI x2)) kQ rfl rfl rfl (vk W43 YU m rfl rfl λ_ m=>v ?_)))
 apply vi m <;> intro c5 m
 refine v (v (gM m λm=>gM m λm=> ?_))
 obtain rfl:=eT m
 exact eD rfl
 exact v (v (yB m (lW [2,3] rfl rfl (.k5 .nil))))
 refine v (vs (fN m (σ:=Bool) (λs=> [(some k885,.obj 44 (aI x2)),(some k882,.obj 44 (aI x1)),(some k54,.obj 30 (aF y1.1)),(some k19,.obj 30 (aF y0))]) (λs=>.c 3 (nZ (IntKind.wrap .i64 ((IntKind.wrap .u64 p3).tmod (IntKind.wrap .u64 (y0.Chunks.length:Int))))) (.c 9 (.ptr k19 0) (.c 10 (nZ (IntKind.wrap .i64 ((IntKind.wrap .u64 p2).tmod (IntKind.wrap .u64 (y0.Vols.length:Int))))) (.c 11 (.ptr k54 0) (.c 13 (nZ q0) (.c 14 (.ptr k882 0) (.c 15 (.ptr k885 0) (.c 16 (.sc (.bool s)) .nil)))))))) (λx m=> ?_) ?_))
 refine v (vl 1 _ yC rfl rfl rfl ?_)
 apply vi m <;> intro b5 m
 rw[b5]
 exact vl 3 _ gH rfl rfl rfl (vx m jN rfl rfl λ_ _ m=>GG m)
 rw[b5]
 exact GG m
 rintro _ j2 m
 refine vs (fN m (σ:=Bool) (λs=> [(some k885,.obj 44 (aI x2)),(some k882,.obj 44 (aI x1)),(some k54,.obj 30 (aF y1.1)),(some k19,.obj 30 (aF y0))]) (λs=>.c 3 (nZ (IntKind.wrap .i64 ((IntKind.wrap .u64 p3).tmod (IntKind.wrap .u64 (y0.Chunks.length:Int))))) (.c 9 (.ptr k19 0) (.c 10 (nZ (IntKind.wrap .i64 ((IntKind.wrap .u64 p2).tmod (IntKind.wrap .u64 (y0.Vols.length:Int))))) (.c 11 (.ptr k54 0) (.c 13 (nZ q0) (.c 199 (.sc (.bool s)) .nil)))))) (λx m=> ?_) ?_)
 refine v (vq (by kernel_rfl) (vl 0 _ yC rfl rfl rfl (bU (JJ u4 rfl rfl rfl) ?_)))
 apply vi m <;> intro b6 m
 rw[b6]
 exact nE m
 rw[b6]
 apply vi m <;> intro b7 m
 rw[b7]
 refine vl 0 _ kA rfl rfl rfl (vl 1 _ kA rfl rfl rfl (vk W44 UC m rfl rfl λ_ m=> ?_))
 apply vi m <;> intro b9 m
 rw[b9]
 exact nE m
 rw[b9]
 refine vl 0 _ eL rfl rfl rfl (dE gO rfl (vl 1 _ eL rfl rfl rfl (dE gO rfl ?_)))
 apply vi m <;> intro b10 m
 rw[b10]
 exact nE m
 rw[b10]
 exact vl 0 _ eL rfl rfl rfl (vl 2 _ gH rfl rfl rfl (vx m jN rfl rfl λx3 _ m=>bU (eS (aN ({ Vol:=IntKind.wrap .i64 ((IntKind.wrap .u64 p2).tmod (IntKind.wrap .u64 (y0.Vols.length:Int))),File:=x3.Files,Off:=13,Len:=20}:a8)) JV rfl) (vk W45 RC m rfl rfl λ_ m=>nE m)))
 rw[b7]
 refine vl 0 _ kA rfl rfl rfl (dE kK rfl ?_)
 apply vi m <;> intro b11 m
 rw[b11]
 exact nE m
 rw[b11]
 refine vl 0 _ eL rfl rfl rfl (dE gO rfl (vl 1 _ eL rfl rfl rfl (dE gO rfl ?_)))
 apply vi m <;> intro b12 m
 rw[b12]
 exact nE m
 rw[b12]
 exact vl 0 _ eL rfl rfl rfl (vl 2 _ gH rfl rfl rfl (vx m jN rfl rfl λx4 _ m=>bU (eS (aN ({ Vol:=IntKind.wrap .i64 ((IntKind.wrap .u64 p2).tmod (IntKind.wrap .u64 (y0.Vols.length:Int))),File:=x4.Files,Off:=13,Len:=20}:a8)) JV rfl) (vk W45 RC m rfl rfl λ_ m=>nE m)))
 rintro _ j3 m
 refine v ?_
 apply vi m <;> intro c6 m
 refine v (v (gM m λm=>gM m λm=> ?_))
 obtain rfl:=eT m
 exact eD rfl
 exact v (yB m (lW [2,3] rfl rfl (.k5 .nil)))
 refine(bJ (bL jW++(FN:List AV)) u l6 rfl rfl λk945 K8=>⟨⟨λ_=>aJ 2 K8 rfl,λ_=>aJ 1 K8 rfl,trivial⟩, ?_⟩)
 refine zE 10 rfl (bJ (bL jW++(FN:List AV)) K8 l6 rfl rfl λk948 K9=>⟨⟨λ_=>aJ 3 K9 rfl,λ_=>aJ 2 K9 rfl,trivial⟩, ?_⟩)
 refine zE 12 rfl (aK 0 (aI x1) K9 rfl rfl rfl rfl rI rfl rfl λK10=>⟨⟨λ_=>aJ 3 K10 rfl,λ_=>aJ 2 K10 rfl,trivial⟩, ?_⟩)
 refine zE 13 rfl (aK 1 (aI x2) K10 rfl rfl rfl rfl rI rfl rfl λK11=>⟨⟨λ_=>aJ 3 K11 rfl,λ_=>aJ 2 K11 rfl,trivial⟩, ?_⟩)
 refine zX (qk (f:=.c 14 _ (.c 15 _ (PO 132 _ _ _ _ _ _ _ _ _ _ _))) K11 rfl (v (v ?_)))
 apply vi m <;> intro c7 m
 refine v (vl 0 (.agg (aI x1)) kQ rfl rfl rfl (vl 1 (.agg (aI x2)) kQ rfl rfl rfl (vk W43 YU m rfl rfl λ_ m=>v ?_)))
 apply vi m <;> intro c8 m
 refine v (v (gM m λm=>gM m λm=> ?_))
 obtain rfl:=eT m
 exact eD rfl
 exact v (v (yB m (lW [2,3] rfl rfl (.k5 .nil))))
 refine v (vs (fN m (σ:=Bool) (λs=> [(some k948,.obj 44 (aI x1)),(some k945,.obj 44 (aI x2)),(some k54,.obj 30 (aF y1.1)),(some k19,.obj 30 (aF y0))]) (λs=>.c 3 (nZ (IntKind.wrap .i64 ((IntKind.wrap .u64 p3).tmod (IntKind.wrap .u64 (y0.Chunks.length:Int))))) (.c 9 (.ptr k19 0) (.c 10 (nZ (IntKind.wrap .i64 ((IntKind.wrap .u64 p2).tmod (IntKind.wrap .u64 (y0.Vols.length:Int))))) (.c 11 (.ptr k54 0) (.c 13 (nZ q0) (.c 14 (.ptr k948 0) (.c 15 (.ptr k945 0) (.c 16 (.sc (.bool s)) .nil)))))))) (λx m=> ?_) ?_))
 refine v (vl 0 _ yC rfl rfl rfl ?_)
 apply vi m <;> intro b13 m
 rw[b13]
 exact vl 3 _ gH rfl rfl rfl (vx m jN rfl rfl λ_ _ m=>GG m)
 rw[b13]
 exact GG m
 rintro _ j4 m
 refine vs (fN m (σ:=Bool) (λs=> [(some k948,.obj 44 (aI x1)),(some k945,.obj 44 (aI x2)),(some k54,.obj 30 (aF y1.1)),(some k19,.obj 30 (aF y0))]) (λs=>.c 3 (nZ (IntKind.wrap .i64 ((IntKind.wrap .u64 p3).tmod (IntKind.wrap .u64 (y0.Chunks.length:Int))))) (.c 9 (.ptr k19 0) (.c 10 (nZ (IntKind.wrap .i64 ((IntKind.wrap .u64 p2).tmod (IntKind.wrap .u64 (y0.Vols.length:Int))))) (.c 11 (.ptr k54 0) (.c 13 (nZ q0) (.c 199 (.sc (.bool s)) .nil)))))) (λx m=> ?_) ?_)
 refine v (vq (by kernel_rfl) (vl 1 _ yC rfl rfl rfl (bU (JJ u4 rfl rfl rfl) ?_)))
 apply vi m <;> intro b14 m
 rw[b14]
 exact nE m
 rw[b14]
 apply vi m <;> intro b15 m
 rw[b15]
 refine vl 1 _ kA rfl rfl rfl (vl 0 _ kA rfl rfl rfl (vk W44 UC m rfl rfl λ_ m=> ?_))
 apply vi m <;> intro b16 m
 rw[b16]
 exact nE m
 rw[b16]
 refine vl 1 _ eL rfl rfl rfl (dE gO rfl (vl 0 _ eL rfl rfl rfl (dE gO rfl ?_)))
 apply vi m <;> intro b17 m
 rw[b17]
 exact nE m
 rw[b17]
 exact vl 1 _ eL rfl rfl rfl (vl 2 _ gH rfl rfl rfl (vx m jN rfl rfl λx5 _ m=>bU (eS (aN ({ Vol:=IntKind.wrap .i64 ((IntKind.wrap .u64 p2).tmod (IntKind.wrap .u64 (y0.Vols.length:Int))),File:=x5.Files,Off:=13,Len:=20}:a8)) JV rfl) (vk W45 RC m rfl rfl λ_ m=>nE m)))
 rw[b15]
 refine vl 1 _ kA rfl rfl rfl (dE kK rfl ?_)
 apply vi m <;> intro b18 m
 rw[b18]
 exact nE m
 rw[b18]
 refine vl 1 _ eL rfl rfl rfl (dE gO rfl (vl 0 _ eL rfl rfl rfl (dE gO rfl ?_)))
 apply vi m <;> intro b19 m
 rw[b19]
 exact nE m
 rw[b19]
 exact vl 1 _ eL rfl rfl rfl (vl 2 _ gH rfl rfl rfl (vx m jN rfl rfl λx6 _ m=>bU (eS (aN ({ Vol:=IntKind.wrap .i64 ((IntKind.wrap .u64 p2).tmod (IntKind.wrap .u64 (y0.Vols.length:Int))),File:=x6.Files,Off:=13,Len:=20}:a8)) JV rfl) (vk W45 RC m rfl rfl λ_ m=>nE m)))
 rintro _ j5 m
 refine v ?_
 apply vi m <;> intro c9 m
 refine v (v (gM m λm=>gM m λm=> ?_))
 obtain rfl:=eT m
 exact eD rfl
 exact v (yB m (lW [2,3] rfl rfl (.k5 .nil)))
 rintro _ _ m
 exact v (lX m)
 exact v (V2 m)
 rintro _ r0 m
 refine vs (fN m (σ:=Bool) (λs=> [(some k54,.obj 30 (aF y1.1)),(some k19,.obj 30 (aF y0))]) (λs=>.c 8 (.sc (.bool s)) .nil) (λx m=> ?_) ?_)
 refine v (vl 0 _ cF rfl rfl rfl (vl 1 _ cF rfl rfl rfl ?_))
 apply vi m <;> intro b20 m
 rw[b20]
 refine vl 0 _ fM rfl rfl rfl (dE jZ rfl (vl 1 _ fM rfl rfl rfl (dE jZ rfl ?_)))
 apply vi m <;> intro b21 m
 rw[b21]
 exact vk W37 aBK m rfl rfl λ_ m=>iX m
 rw[b21]
 exact iX m
 rw[b20]
 exact iX m
 rintro _ j6 m
 refine v ?_
 obtain rfl:=eT m
 exact eD rfl
open Go.Vm
theorem OI:M37 1000=some true:=by decide+kernel
theorem aBT (F:Nat) (a b:a8):∃r,EV F a b=some r∧(r=true↔a=b):=by
 obtain⟨a1,a2,a3,a4⟩:=a
 obtain⟨b1,b2,b3,b4⟩:=b
 unfold EV
 by_cases h1:a1=b1
 ·by_cases h2:a2=b2
  ·by_cases h3:a3=b3
   ·exact⟨a4==b4,by simp[h1,h2,h3,aG],by simp[h1,h2,h3]⟩
   ·exact⟨false,by simp[h1,h2,h3,aG],by simp[h3]⟩
  ·exact⟨false,by simp[h1,h2,aG],by simp[h2]⟩
 ·exact⟨false,by simp[h1,aG],by simp[h1]⟩
theorem n45 {F:Nat} {l:List a8} {x:a8} (hF:1000≤F) (hl:l.length≤300):∃r,WA F l x=some r∧(r=true↔x∈l):=by
 obtain⟨q,hq⟩:∃q:a8→Bool,∀y,EV F y x=some (q y)∧(q y=true↔y=x):=⟨λy=>Classical.choose (aBT F y x),λy=>Classical.choose_spec (aBT F y x)⟩
 have e:=m8 (l:=l) (F:=F) (body:=λs=>vV F l x s) q true (by omega) (λi y hy hm hi=>by
  unfold vV
  rw[iW (by omega)]
  simp only[bH,hy,Option.bind_some,Int.ofNat_lt,hi,decide_true,if_true,(hq y).1]
  split <;> rfl) (by unfold vV; simp)
 unfold WA
 rw[e]
 refine⟨l.any q,by cases l.any q <;> rfl, ?_⟩
 rw[List.any_eq_true]
 constructor
 ·rintro⟨y,hy,h⟩
  rw[(hq y).2.1 h] at hy
  exact hy
 ·exact λh=>⟨x,h,(hq x).2.2 rfl⟩
theorem n43 {F:Nat} {x:aB} (hF:1000≤F) (h:x.Locs.length≤300∧x.Data.length≤300):YT F x x=some true:=by
 unfold YT
 simp[YV hF h.2,m58 hF h.1,aG]
def AJ (v:Int) (id:bO):aR:= { Kind:=3,Snap:= { Seq:=0,Man:= { Name:=ByteArray.empty,Parts:= []},Locs:= []},Chunks:= [],Seq:=0,Vol:=v,Items:= [{ Kind:=1,Id:=id,Seq:=0,Of:=0,Off:=13,Len:=20}]}
theorem RD {n:Nat} {c:aA} {v:Int} {x:aP} {y:aB} (h:Sm c) (G:Gd c) (hx:c.Vols[v.toNat]? =some x) (hv:0≤v) (gv:gI v) (hs:x.State≠3) (hy:y∈c.Chunks):Wok n c (AJ v y.Id) x where
 w:=⟨by simp[AJ],λi hi=>by
  rw[List.mem_singleton.1 hi]
  exact⟨(h.g.2.2.1 y hy).1,(show (0:Int)≤0∧(0:Int)≤1073741824 by decide),(show gI 0 from⟨by decide,by decide⟩),(show gI 13 from⟨by decide,by decide⟩),(show gI 20 from⟨by decide,by decide⟩)⟩⟩
 u:=List.pairwise_singleton _ _
 hx:=hx
 v:=hv
 g:=gv
 k:=by simp[iZ,AJ,hs]
 p:=λi hi=>by
  rw[List.mem_singleton.1 hi]
  unfold jU
  rw[if_pos rfl]
  exact List.any_eq_true.2 ⟨y,hy,decide_eq_true rfl⟩
 o:=λi hi=>by rw[List.mem_singleton.1 hi]; exact(show (0:Int)≤13∧(13:Int)≤16777215∧(13:Int)≤20∧(20:Int)≤8013 by decide)
 e:=λi hi k=>by rw[List.mem_singleton.1 hi] at k; exact absurd k (by show ¬(1:Int)=3; decide)
theorem OJ {c:aA} {v:Int} {x:aP} {id:bO}:jV c (AJ v id) x= { c with
    Chunks:=c.Chunks.map λz=>pG x.Pool { Kind:=1,Id:=id,Seq:=0,Of:=0,Off:=13,Len:=20} (oF { Kind:=1,Id:=id,Seq:=0,Of:=0,Off:=13,Len:=20} { Vol:=v,File:=x.Files+1,Off:=13,Len:=20} z)
    Vols:=c.Vols.set v.toNat { x with State:=2,Files:=x.Files+1}}:=by
  have e1:jK c (AJ v id) x= { c with
      Chunks:=c.Chunks.map λz=>pG x.Pool { Kind:=1,Id:=id,Seq:=0,Of:=0,Off:=13,Len:=20} (oF { Kind:=1,Id:=id,Seq:=0,Of:=0,Off:=13,Len:=20} { Vol:=v,File:=x.Files+1,Off:=13,Len:=20} z)
      Vols:=c.Vols.set v.toNat { x with State:=2,Files:=x.Files+1}}:=by
    show uG x.Pool (ws c v x) _ _=_
    unfold uG wU ws
    simp only[List.map_map]
    rw[kG λs _=>show AH { Kind:=1,Id:=id,Seq:=0,Of:=0,Off:=13,Len:=20} _ s=s from if_neg λh=>absurd h.1 (by show ¬(1:Int)=2; decide),if_neg (by decide),if_neg (by decide)]
    rfl
  have e2:∀s:aH,jJ (AJ v id).Items s=false:=λs=>by simp[jJ,AJ]
  have e3:(qS c (AJ v id) x)=jK c (AJ v id) x:=by
    unfold qS
    rw[List.filter_eq_self.2 λs _=>by rw[e2]; rfl]
  unfold jV
  rw[e3,if_neg (Nat.lt_irrefl _),e1]
theorem AK {q:List Int} {l:List n4} {p k:Int} (gq:gL gI q) (gl:gL ID l) (gp:gI p) (gk:gI k):M11 1000 q l p k=some true:=by
 have hF:1000≤1000:=Nat.le_refl _
 have key:T (M11 1000 q l p k) λb=>b=true:=by
  unfold M11
  refine .after (.ite (λ_=>.brk (T.ite (λ_=>.some rfl) λh=>absurd rfl h)) λ_=>.bind _ (t27 hF) λb hb=>.brk (T.ite (λ_=>.some rfl) λhb0=> ?_))
  have ho:=hb (by simpa using hb0)
  refine .bind _ (t29 hF gq) λq hq=>.bind _ (aG2 hF hq.1 hq.2.1 hq.2.2 gl ho) λc hc=> ?_
  obtain⟨h,hg,B⟩:=hc
  have G:=lS.1 hg
  have hvn:=G.vn
  simp only[fR,Bool.and_eq_true,decide_eq_true_eq] at hvn
  obtain⟨w,hw1,hw⟩:=QU p (n:=c.Vols.length) (by omega) (by omega)
  rw[← U2 (n:=c.Vols.length) (by omega)] at hw
  have hx:c.Vols[w]? =some c.Vols[w]:=List.getElem?_eq_getElem hw1
  have hm:=List.getElem_mem hw1
  generalize c.Vols[w]=x at hx hm
  have hx':c.Vols[((w:Int)).toNat]? =some x:=by simpa using hx
  have gw:gI (w:Int):=⟨by omega,by omega⟩
  refine .grd (by rw[U2 (by omega)]; exact bne_iff_ne.2 (by omega)) ?_
  rw[hw]
  refine .after (.ite (λ_=>.brk (T.ite (λ_=>.bindEq OI (.some rfl)) λh=>absurd rfl h)) λhne=>.bindEq (by rw[bH,hx]) (.brk (T.ite (λ_=>.bindEq OI (.some rfl)) λhs=> ?_)))
  have hs:x.State≠3:=by simpa using hs
  have hch:=h.ch
  have hne:0 < c.Chunks.length:=by
   have:¬((c.Chunks.length:Int)=0):=by simpa using hne
   omega
  obtain⟨u,hu1,hu⟩:=QU k (n:=c.Chunks.length) hne (by omega)
  rw[← U2 (n:=c.Chunks.length) (by omega)] at hu
  have hy:c.Chunks[u]? =some c.Chunks[u]:=List.getElem?_eq_getElem hu1
  have hym:=List.getElem_mem hu1
  generalize c.Chunks[u]=y at hy hym
  refine .grd (by rw[U2 (by omega)]; exact bne_iff_ne.2 (by omega)) ?_
  have hu':=hu
  rw[hu]
  refine .bindEq (by rw[bH,hy]) ?_
  have W:Wok 30 c (AJ w y.Id) x:=RD h G hx' (by omega) gw hs hym
  obtain⟨GE,BE⟩:=VX h G B (by decide) W
  have hap:=N3 hF h G rfl W.w gw (by show (0:Int)≤w; omega) hx'
  rw[if_pos W.k,if_pos (List.all_eq_true.2 λi hi=>W.p i hi),if_pos (lS.2 GE)] at hap
  have SE:=DL h G W.w gw hx' W.kd
  refine .bindEq hap ?_
  rw[OJ] at SE ⊢
  generalize hFz:(λz=>pG x.Pool { Kind:=1,Id:=y.Id,Seq:=0,Of:=0,Off:=13,Len:=20} (oF { Kind:=1,Id:=y.Id,Seq:=0,Of:=0,Off:=13,Len:=20} { Vol:=(w:Int),File:=x.Files+1,Off:=13,Len:=20} z))=f at SE ⊢
  have f0:∀z:aB,z.Id≠y.Id→f z=z:=λz hz=>by
   rw[← hFz]
   show pG _ _ (oF _ _ z)=z
   rw[show oF { Kind:=1,Id:=y.Id,Seq:=0,Of:=0,Off:=13,Len:=20} { Vol:=(w:Int),File:=x.Files+1,Off:=13,Len:=20} z=z from if_neg λh=>hz h.2]
   exact if_neg λh=>hz h.2.2
  have f1:f y=(if x.Pool=0 then { y with Locs:=fY y.Locs { Vol:=(w:Int),File:=x.Files+1,Off:=13,Len:=20},Staged:=false,Data:= []} else { y with Locs:=fY y.Locs { Vol:=(w:Int),File:=x.Files+1,Off:=13,Len:=20}}):=by
   rw[← hFz]
   show pG _ _ (oF _ _ y)=_
   rw[show oF { Kind:=1,Id:=y.Id,Seq:=0,Of:=0,Off:=13,Len:=20} { Vol:=(w:Int),File:=x.Files+1,Off:=13,Len:=20} y= { y with Locs:=fY y.Locs { Vol:=(w:Int),File:=x.Files+1,Off:=13,Len:=20}} from if_pos ⟨rfl,rfl⟩]
   unfold pG
   by_cases p0:x.Pool=0
   ·rw[if_pos p0,if_pos ⟨p0,rfl,rfl⟩]
   ·rw[if_neg p0,if_neg λh=>p0 h.1]
  have gf:=B.f x hm
  have hxb:=G.v x hm
  unfold mA fR at hxb
  simp only[Bool.and_eq_true,Bool.or_eq_true,decide_eq_true_eq,beq_iff_eq] at hxb
  have hset:(c.Vols.set ((w:Int)).toNat { x with State:=2,Files:=x.Files+1})[w]? =some { x with State:=2,Files:=x.Files+1}:=by
   rw[show ((w:Int)).toNat=w by simp,List.getElem?_set_self hw1]
  have L0:aU (λs=>vW 1000 p k c ({ c with Chunks:=c.Chunks.map f,Vols:=c.Vols.set ((w:Int)).toNat { x with State:=2,Files:=x.Files+1}},0) s) 1000 0=some (.brk (c.Chunks.length:Int)):=by
   refine kC (λi:Nat=>(i:Int)) (by omega) rfl (λi hi=> ?_) (by unfold vW; simp)
   have hz:c.Chunks[i]? =some c.Chunks[i]:=List.getElem?_eq_getElem hi
   have hzm:=List.getElem_mem hi
   generalize c.Chunks[i]=z at hz hzm
   have hzf:(c.Chunks.map f)[i]? =some (f z):=by rw[List.getElem?_map,hz]; rfl
   have bz:=h.cl z hzm
   unfold vW
   rw[iW (by omega)]
   simp only[bH,hz,hzf,Option.bind_some,Int.ofNat_lt,hi,decide_true,if_true,hw,hu',hx,hset]
   by_cases e:i=u
   ·subst e
    rw[hy] at hz
    cases hz
    rw[if_neg (by simp)]
    have hin:({ Vol:=(w:Int),File:=x.Files+1,Off:=13,Len:=20}:a8)∈fY y.Locs { Vol:=(w:Int),File:=x.Files+1,Off:=13,Len:=20}:=nC.2 (.inr rfl)
    have hlen:=kV (l:=y.Locs) (x:= { Vol:=(w:Int),File:=x.Files+1,Off:=13,Len:=20})
    have kb:=B.k y hym
    obtain⟨r,r1,r2⟩:=n45 (F:=1000) (l:=fY y.Locs { Vol:=(w:Int),File:=x.Files+1,Off:=13,Len:=20}) (x:= { Vol:=(w:Int),File:=x.Files+1,Off:=13,Len:=20}) hF (by rw[hlen]; omega)
    rw[r2.2 hin] at r1
    have cs:=G.cs y hym
    rw[f1]
    by_cases p0:x.Pool=0
    ·rw[if_pos p0]
     simp only[p0,hlen,wr (n:=(y.Locs.length:Int)+1) (by omega) (by omega),r1]
     cases y.Staged <;> simp[aG,r1]
    ·have p1:x.Pool=1:=by omega
     rw[if_neg p0]
     simp only[p1,hlen,wr (n:=(y.Locs.length:Int)+1) (by omega) (by omega),r1]
     cases hst:y.Staged with
     | false=>
      rw[hst] at cs
      have hd:y.Data= []:=cs.1
      simp[aG,r1,hd]
     | true=>simp[aG,r1,YV hF bz.2]
   ·have hid:z.Id≠y.Id:=λe2=>by
     rcases Nat.lt_or_gt_of_ne e with w2 | w2
     ·have:=KM G.co hz hy w2
      rw[e2] at this; omega
     ·have:=KM G.co hy hz w2
      rw[e2] at this; omega
    rw[if_pos (by simp; omega),f0 z hid,n43 hF bz]
    simp[aG]
  refine .of (a:=true) ?_ rfl
  have l1:((c.Vols.set ((w:Int)).toNat { x with State:=2,Files:=x.Files+1}).length:Int)=c.Vols.length:=by simp
  simp only[hw,L0,bH,hx,hset,Option.bind_some,List.length_map,l1,wr (n:=x.Files+1) (by omega) (by omega)]
  rw[if_neg (by simp),if_neg (by simp),if_neg (by simp; omega),if_neg (by simp)]
  simp[aG,OI]
 obtain⟨b,hb,rfl⟩:=key
 exact hb
end Go.Proofs.YtbbifdfldpfphaaGreat
