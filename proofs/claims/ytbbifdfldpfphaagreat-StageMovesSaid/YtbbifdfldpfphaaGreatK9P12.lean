import Derived.Test.YtbbifdfldpfphaaGreatK9P11
import Derived.Test.YtbbifdfldpfphaaGreatK9P7
import Derived.Test.YtbbifdfldpfphaaGreatK9P6
import Derived.Test.YtbbifdfldpfphaaGreatK9P3
import Derived.Test.YtbbifdfldpfphaaGreatK9P5
import Derived.Test.YtbbifdfldpfphaaGreatK9P4
import Derived.Test.YtbbifdfldpfphaaGreatK9P9
import Derived.Test.YtbbifdfldpfphaaGreatK9P10
set_option linter.unusedSimpArgs false
set_option linter.unusedVariables false
set_option maxHeartbeats 4000000
set_option maxRecDepth 100000
open Bool(and_eq_true)
open ByteArray(empty)
open Int(ofNat_lt)
open Go.IntKind(wrap)
open List(any_eq_false any_eq_true filter_congr filter_eq_nil_iff filter_map map map_map mem_append mem_filter mem_map pairwise_map)
open Option(bind_some)
namespace Go.Proofs.YtbbifdfldpfphaaGreat
open Go.Vm
theorem TS {c:aA} (G:Gd c) (g:List aS->Bool->Bool):(lT c g).Pairwise Un:=by
 unfold lT
 refine List.pairwise_append.2 ⟨List.pairwise_append.2 ⟨pairwise_map.2 ((G.co.filter _).imp fun {a b} h=> ?_),pairwise_map.2 ((G.so.filter _).imp fun {a b} h=> ?_),λx hx y hy=> ?_⟩,pairwise_map.2 ((G.eo.filter _).imp fun {a b} h=> ?_),λx hx y hy=> ?_⟩
 ·rintro⟨-,k, -⟩
  have k:a.Id=b.Id:=k rfl
  rw[k] at h; omega
 ·rintro⟨-, -,k⟩
  have k:a.Seq=b.Seq:=k (by decide:(2:Int)≠1)
  omega
 ·obtain⟨a, -,rfl⟩:=mem_map.1 hx
  obtain⟨b, -,rfl⟩:=mem_map.1 hy
  rintro⟨k, -⟩
  exact absurd k (by decide:¬(1:Int)=2)
 ·rintro⟨-, -,k⟩
  have k:a.Seq=b.Seq:=k (by decide:(3:Int)≠1)
  omega
 ·obtain⟨b, -,rfl⟩:=mem_map.1 hy
  rcases mem_append.1 hx with hx | hx
  ·obtain⟨a, -,rfl⟩:=mem_map.1 hx
   rintro⟨k, -⟩
   exact absurd k (by decide:¬(1:Int)=3)
  ·obtain⟨a, -,rfl⟩:=mem_map.1 hx
   rintro⟨k, -⟩
   exact absurd k (by decide:¬(2:Int)=3)
theorem GC {c:aA} {g:List aS->Bool->Bool} {i:aE} (h:i∈lT c g):(∃x∈c.Chunks,i=L2 x)\/(∃x∈c.Snaps,i=L4 x)\/∃x∈c.Exps,i=Q0 x:=by
 unfold lT at h
 rcases mem_append.1 h with h | h
 ·rcases mem_append.1 h with h | h
  ·obtain⟨a,ha,rfl⟩:=mem_map.1 h
   exact .inl ⟨a,(mem_filter.1 ha).1,rfl⟩
  ·obtain⟨a,ha,rfl⟩:=mem_map.1 h
   exact .inr (.inl ⟨a,(mem_filter.1 ha).1,rfl⟩)
 ·obtain⟨a,ha,rfl⟩:=mem_map.1 h
  exact .inr (.inr ⟨a,(mem_filter.1 ha).1,rfl⟩)
theorem YL {c:aA} {g:List aS->Bool->Bool} {l:List aE} (h:Sm c) (G:Gd c) (hs:l.Sublist (lT c g)) (h0:0 < l.length) (h1:l.length<=64):Row c l:=by
 have hq:=G.q
 simp only[fI,and_eq_true,decide_eq_true_eq] at hq
 refine⟨⟨h0,h1⟩,λi hi=> ?_,λi hi=> ?_,(TS G g).sublist hs⟩
 ·rcases GC (hs.subset hi) with⟨x,hx,rfl⟩ | ⟨x,hx,rfl⟩ | ⟨x,hx,rfl⟩
  ·exact⟨(h.g.2.2.1 x hx).1,(show (0:Int)<=0/\(0:Int)<=1073741824 by decide),(show gI 0 from⟨by decide,by decide⟩),(show (1:Int)<=1/\(1:Int)<=3 by decide)⟩
  ·have:=G.sq x hx
   simp only[fI,and_eq_true,decide_eq_true_eq] at this
   exact⟨FX,(show 0<=x.Seq/\x.Seq<=1073741824 by omega),(show gI 0 from⟨by decide,by decide⟩),(show (1:Int)<=2/\(2:Int)<=3 by decide)⟩
  ·have:=G.eq x hx
   simp only[fI,and_eq_true,decide_eq_true_eq] at this
   exact⟨FX,(show 0<=x.Seq/\x.Seq<=1073741824 by omega),(h.g.2.2.2.1 x hx).2.1,(show (1:Int)<=3/\(3:Int)<=3 by decide)⟩
 ·rcases GC (hs.subset hi) with⟨x,hx,rfl⟩ | ⟨x,hx,rfl⟩ | ⟨x,hx,rfl⟩
  ·exact⟨λ_=>any_eq_true.2 ⟨x,hx,decide_eq_true rfl⟩,λk=>absurd k (by show ¬(1:Int)=2; decide),λk=>absurd k (by show ¬(1:Int)=3; decide)⟩
  ·exact⟨λk=>absurd k (by show ¬(2:Int)=1; decide),λ_=>any_eq_true.2 ⟨x,hx,beq_iff_eq.2 rfl⟩,λk=>absurd k (by show ¬(2:Int)=3; decide)⟩
  ·exact⟨λk=>absurd k (by show ¬(3:Int)=1; decide),λk=>absurd k (by show ¬(3:Int)=2; decide),λ_=>⟨x,hx,rfl,rfl⟩⟩
theorem LR {F:Nat} {v:Int} {n:Nat} {c:aA} {L:List (List aE)} {body:aA×Int->Option (Lp (aA×Int) Bool)} (hF:1000<=F) (G:Gd c) (X:Xt v n c c []) (hn:n+L.length<=190) (hv:0<=v) (gv:gI v) (hR:∀l∈L,Row c l)
    (hb:∀(e e':aA) (i:Nat) (l:List aE),L[i]? =some l->i < L.length->ZK F l=some (iO 0 l)->OZ F e (pS v l)=some (e',0)->body (e,(i:Int))=some (.go (e',((i+1:Nat):Int)))) (he:∀e,body (e,(L.length:Int))=some (.brk (e,(L.length:Int)))):
    ∃e,aT body F (c,0)=some (.brk (e,(L.length:Int)))/\Xt v (n+L.length) c e L.flatten:=by
  obtain⟨⟨e,j⟩,⟨h1,h2⟩,h3⟩:=m6 (body:=body) (I:=λi s=>s.2=(i:Int)/\Xt v (n+i) c s.1 (L.take i).flatten) (n:=L.length) (λi s hi hI=>by
    obtain⟨e,j⟩:=s
    obtain⟨rfl,X⟩:=hI
    have hx:L[i]? =some L[i]:=List.getElem?_eq_getElem hi
    have R:=hR _ (List.getElem_mem hi)
    obtain⟨e',h1,X'⟩:=X.step hF G (by omega) hv gv R
    refine⟨(e',((i+1:Nat):Int)),hb e e' i _ hx hi (n30 hF (by have:=R.n.2; omega)) h1,rfl, ?_⟩
    rw[List.take_succ_eq_append_getElem hi,List.flatten_append,List.flatten_singleton]
    exact X') (λs hs=>by
    obtain⟨e,j⟩:=s
    obtain⟨rfl, -⟩:=hs
    exact he e) F 0 (c,0) (Nat.zero_le _) (by omega) ⟨rfl,by simpa using X⟩
  simp only at h1
  subst h1
  rw[List.take_length] at h2
  exact⟨e,h3,h2⟩
section
variable {v:Int} {n:Nat} {c e:aA} {S:List aE}
theorem Xt.inP (X:Xt v n c e S) (p:Int) (x:aS):Go.Proofs.YtbbifdfldpfphaaGreat.inP e p x=Go.Proofs.YtbbifdfldpfphaaGreat.inP c p x:=by
 unfold Go.Proofs.YtbbifdfldpfphaaGreat.inP
 rw[X.wl]
 have:=X.wp x.Vol.toNat
 congr 1
 revert this
 cases e.Vols[x.Vol.toNat]?<;>cases c.Vols[x.Vol.toNat]?<;>simp
 intro h; rw[h]
theorem Xt.used (X:Xt v n c e S) (d:bK):iS e d=iS c d:=by
 obtain⟨g,hg,eg⟩:=X.s
 unfold iS
 rw[eg,List.any_map]
 refine congrArg (λf=>c.Snaps.any f) (funext λs=> ?_)
 simp only[Function.comp,(hg.i s).2]
theorem Xt.any1 (X:Xt v n c e S) {b:List aS} {p:Int} (hv:0<=v) (hq:(c.Vols[v.toNat]?).map (·.Pool)=some p) (h:L6 v b):b.any (Go.Proofs.YtbbifdfldpfphaaGreat.inP e p)=true:=by
 obtain⟨x,hx,rfl⟩:=h
 refine any_eq_true.2 ⟨x,hx, ?_⟩
 rw[X.inP]
 unfold Go.Proofs.YtbbifdfldpfphaaGreat.inP fI
 cases h:c.Vols[x.Vol.toNat]? with
 | none=>rw[h] at hq; cases hq
 | some w=>
  rw[h] at hq
  have hl:=(List.getElem?_eq_some_iff.1 h).1
  have:w.Pool=p:=by simpa using hq
  simp[this]; omega
theorem QS {g:List aS->Bool->Bool} (h1:∀x∈e.Chunks,g x.Locs (iS e x.Id)=false) (h2:∀x∈e.Snaps,g x.Locs true=false) (h3:∀x∈e.Exps,g x.Locs true=false):lT e g= []:=by
 unfold lT
 rw[filter_eq_nil_iff.2 λx hx=>by rw[h1 x hx]; decide,filter_eq_nil_iff.2 λx hx=>by rw[h2 x hx]; decide,filter_eq_nil_iff.2 λx hx=>by rw[h3 x hx]; decide]
 rfl
theorem Xt.same (X:Xt v n c e S) {g g':List aS->Bool->Bool} (hg:∀a b u,Mo v a b->g' b u=g a u):lT e g'=lT c g:=by
 obtain⟨gk,hgk,egk⟩:=X.k
 obtain⟨gs,hgs,egs⟩:=X.s
 obtain⟨gx,hgx,egx⟩:=X.x
 unfold lT
 rw[egk,egs,egx,filter_map,filter_map,filter_map,map_map,map_map,map_map]
 congr 1
 ·congr 1
  ·rw[show (L2 ∘ gk)=L2 from funext λy=>by simp[L2,hgk.i]]
   refine congrArg (map L2) (filter_congr λy _=> ?_)
   simp only[Function.comp]
   rw[hgk.i,X.used]
   exact hg _ _ _ (hgk.l y)
  ·rw[show (L4 ∘ gs)=L4 from funext λy=>by simp[L4,(hgs.i y).1]]
   exact congrArg (map L4) (filter_congr λy _=>hg _ _ _ (hgs.l y))
 ·rw[show (Q0 ∘ gx)=Q0 from funext λy=>by simp[Q0,(hgx.i y).1,(hgx.i y).2]]
  exact congrArg (map Q0) (filter_congr λy _=>hg _ _ _ (hgx.l y))
theorem Xt.none (X:Xt v n c e S) {g g':List aS->Bool->Bool} (hS:∀i∈lT c g,i∈S) (h1:∀a b u,Mo v a b->g a u=false->g' b u=false) (h2:∀b u,L6 v b->g' b u=false):lT e g'= []:=by
 obtain⟨gk,hgk,egk⟩:=X.k
 obtain⟨gs,hgs,egs⟩:=X.s
 obtain⟨gx,hgx,egx⟩:=X.x
 refine QS (λx hx=> ?_) (λx hx=> ?_) λx hx=> ?_
 ·have hx':=hx
  rw[egk] at hx
  obtain⟨y,hy,rfl⟩:=mem_map.1 hx
  rw[hgk.i,X.used]
  cases h:g y.Locs (iS c y.Id) with
  | false=>exact h1 _ _ _ (hgk.l y) h
  | true=>
   refine h2 _ _ (X.gk (L2 y) (hS _ ?_) rfl _ hx' (hgk.i y))
   unfold lT
   exact List.mem_append_left _ (List.mem_append_left _ (List.mem_map_of_mem (mem_filter.2 ⟨hy,h⟩)))
 ·have hx':=hx
  rw[egs] at hx
  obtain⟨y,hy,rfl⟩:=mem_map.1 hx
  cases h:g y.Locs true with
  | false=>exact h1 _ _ _ (hgs.l y) h
  | true=>
   refine h2 _ _ (X.gs (L4 y) (hS _ ?_) rfl _ hx' (hgs.i y).1)
   unfold lT
   exact List.mem_append_left _ (List.mem_append_right _ (List.mem_map_of_mem (mem_filter.2 ⟨hy,h⟩)))
 ·have hx':=hx
  rw[egx] at hx
  obtain⟨y,hy,rfl⟩:=mem_map.1 hx
  cases h:g y.Locs true with
  | false=>exact h1 _ _ _ (hgx.l y) h
  | true=>
   refine h2 _ _ (X.ge (Q0 y) (hS _ ?_) rfl _ hx' (hgx.i y).1)
   unfold lT
   exact List.mem_append_right _ (List.mem_map_of_mem (mem_filter.2 ⟨hy,h⟩))
end
theorem J0 {α:Type} {k:Nat} (hk:0 < k):∀(n:Nat) (l:List α),(D0 k n l).length*k<=l.length+(k - 1)
 | 0,l=>by simp[D0]
 | n+1,l=>by
  unfold D0
  split
  ·simp
  ·have:=J0 hk n (l.drop k)
   rw[List.length_cons,Nat.add_mul,Nat.one_mul]
   rw[List.length_drop] at this
   by_cases h:k<=l.length
   ·omega
   ·have e:l.drop k= []:=List.drop_eq_nil_of_le (by omega)
    rw[e]
    cases n<;>simp[D0]<;>omega
theorem LS {c:aA} {g:List aS->Bool->Bool} (G:Gd c):(lT c g).length<=408:=by
 have h1:=G.cn
 have h2:=G.sn
 have h3:=G.en
 have a1:=List.length_filter_le (λx:aB=>g x.Locs (iS c x.Id)) c.Chunks
 have a2:=List.length_filter_le (λx:aI=>g x.Locs true) c.Snaps
 have a3:=List.length_filter_le (λx:aQ=>g x.Locs true) c.Exps
 unfold lT
 simp only[List.length_append,List.length_map]
 omega
def z5 (m:Nat) (p2:Int) (y0:aA) (q0:Int) (q1:Int):Option (Lp (Int×Int) (Bool)):=
 if decide (q1 < (y0.Vols.length:Int)) then (after (if (q1 !=(wrap .i64 ((wrap .u64 p2).tmod (wrap .u64 (y0.Vols.length:Int)))))then ((ix y0.Vols q1).bind λx0=>(ix y0.Vols (wrap .i64 ((wrap .u64 p2).tmod (wrap .u64 (y0.Vols.length:Int))))).bind λx1=>if (x0.Pool==x1.Pool)then ((ix y0.Vols q1).bind λx2=>Bk (x2.State !=3)) else Bk false) else Bk false:Option (Lp (Bool) (Lp (Int×Int) (Bool)))) λj0=>after (if j0 then Bk q1 else Bk q0:Option (Lp (Int) (Lp (Int×Int) (Bool)))) λj1=>Gk (j1,wrap .i64 (q1+1))) else Bk (q0,q1)
def B0 (m:Nat) (r0:Int) (y0:(List (List aE))) (q0:aA) (q1:Int):Option (Lp (aA×Int) (Bool)):=
 if decide (q1 < (y0.length:Int)) then ((ix y0 q1).bind λx0=>(ZK m x0).bind λy1=>(OZ m q0 ({ Kind:=3,Snap:=({ Seq:=0,Man:=({ Name:=empty,Parts:=[]}:bG),Locs:=[]}:aI),Chunks:=[],Seq:=0,Vol:=r0,Items:=y1}:aW)).bind λy2=>if (y2.2 !=0)then Rk false else Gk (y2.1,wrap .i64 (q1+1))) else Bk (q0,q1)
def M6 (m:Nat) (p0:List Int) (p1:List nJ) (p2:Int):Option (Bool):=
 after (if decide (30 < (p0.length:Int)) then Bk true else (ZD m p1).bind λy9=>Bk y9:Option (Lp (Bool) (Bool))) λj7=>if j7 then (some true) else (ZE m p0).bind λy0=>(ZF m y0 p1).bind λy1=>grd ((wrap .u64 (y1.Vols.length:Int)) !=0) <| after (aT (λs=>z5 m p2 y1 s.1 s.2) m ((-1),0)) λ⟨r0,r1⟩=>after ((ix y1.Vols (wrap .i64 ((wrap .u64 p2).tmod (wrap .u64 (y1.Vols.length:Int))))).bind λx0=>if (x0.State !=2)then Bk true else Bk (decide (r0 < 0)):Option (Lp (Bool) (Bool))) λj0=>if j0 then ((ZJ m).bind λy2=>some y2) else (SG m y1 (wrap .i64 ((wrap .u64 p2).tmod (wrap .u64 (y1.Vols.length:Int))))).bind λy3=>(ZI m y3 10).bind λy4=>after (aT (λs=>B0 m r0 y4 s.1 s.2) m (y1,0)) λ⟨r2,r3⟩=>(SG m r2 (wrap .i64 ((wrap .u64 p2).tmod (wrap .u64 (y1.Vols.length:Int))))).bind λy5=>if ((y5.length:Int) !=0)then (some false) else (OZ m r2 ({ Kind:=4,Snap:=({ Seq:=0,Man:=({ Name:=empty,Parts:=[]}:bG),Locs:=[]}:aI),Chunks:=[],Seq:=0,Vol:=wrap .i64 ((wrap .u64 p2).tmod (wrap .u64 (y1.Vols.length:Int))),Items:=[]}:aW)).bind λy6=>after (if (y6.2 !=0)then Bk true else if ((y6.1.Snaps.length:Int) !=(r2.Snaps.length:Int))then Bk true else if ((y6.1.Exps.length:Int) !=(r2.Exps.length:Int))then Bk true else (YY m y6.1 (wrap .i64 ((wrap .u64 p2).tmod (wrap .u64 (y1.Vols.length:Int))))).bind λy7=>if ((y7.length:Int) !=0)then Bk true else (QY m y6.1).bind λy8=>Bk (y8 !=0):Option (Lp (Bool) (Bool))) λj1=>if j1 then (some false) else (ZJ m).bind λy10=>some y10
theorem W6 {w:Nat} {p0:List Int} {p1:List nJ} {p2:Int} {o:Bool} (h:aF) (m:M6 w p0 p1 p2=some o):
 aM Tryz.prog 6 [.sl none 1 (map fQ p0),.sl none 5 (map fR p1),nZ p2] h (λr h'=>r= .sc (.bool o)/\h'=h):=by
 refine fM 153 [.tmp 6] Tryz.func6 rfl rfl rfl rfl ?_
 unfold M6 at m
 refine v (vs (vs (fP m (σ:=Bool) (λs=>[]) (λs=>.c 0 (.sl none 1 (map fQ p0)) (.c 1 (.sl none 5 (map fR p1)) (.c 2 (nZ p2) (.c 23 (.sc (.bool s)) .nil)))) (λx m=> ?_) ?_)))
 refine v (dI MZ rfl ?_)
 apply vi m<;>intro b8 m
 rw[b8]
 exact fV m
 rw[b8]
 exact vk W14 aD0 m rfl rfl λ_ m=>fV m
 rintro _ j7 m
 refine v ?_
 apply vi m<;>intro c0 m
 refine v (v ?_)
 obtain rfl:=eT m
 exact eI rfl
 refine v (v (vk W16 aD1 m rfl rfl λ_ m=>vk W15 aD2 m rfl rfl λy0 m=>ve λu=>bE (jB) u rO rfl rfl λk19 K0=>qk K0 rfl (ve λu=>aL 0 (aD y0) u rfl rfl rfl rfl mZ rfl rfl λK1=>qk K1 rfl (v (vl 0 _ gH rfl rfl rfl (dI pM rfl (YQ m λ_ m=>v (v (jT m (σ:=Int×Int) (λs=>[(some k19,.obj 30 (aD y0))]) (λs=>.c 7 (.ptr k19 0) (.c 8 (nZ (wrap .i64 ((wrap .u64 p2).tmod (wrap .u64 (y0.Vols.length:Int))))) (.c 9 (nZ s.1) (.c 10 (nZ s.2) .nil)))) (lx (.k4 .nil)) ?_ ?_)))))))))
 rintro _ ⟨q0,q1⟩ x m
 replace m:z5 w p2 y0 q0 q1=some x:=m
 unfold z5 at m
 refine v (vl 0 _ gH rfl rfl rfl (dI pM rfl (v ?_)))
 apply vi m<;>intro c1 m
 refine v (v (vs (fP m (σ:=Bool) (λs=>[(some k19,.obj 30 (aD y0))]) (λs=>.c 7 (.ptr k19 0) (.c 8 (nZ (wrap .i64 ((wrap .u64 p2).tmod (wrap .u64 (y0.Vols.length:Int))))) (.c 9 (nZ q0) (.c 10 (nZ q1) (.c 69 (.sc (.bool s)) .nil))))) (λx m=> ?_) ?_)))
 refine v (vq (by kernel_rfl) ?_)
 apply vi m<;>intro b0 m
 rw[b0]
 refine vl 0 _ gH rfl rfl rfl (vx m kZ rfl rfl λ_ _ m=>vl 0 _ gH rfl rfl rfl (vx m kZ rfl rfl λ_ _ m=> ?_))
 apply vi m<;>intro b1 m
 rw[b1]
 exact vl 0 _ gH rfl rfl rfl (vx m kZ rfl rfl λ_ _ m=>lE m)
 rw[b1]
 exact lE m
 rw[b0]
 exact lE m
 rintro _ j0 m
 refine fP m (σ:=Int) (λs=>[(some k19,.obj 30 (aD y0))]) (λs=>.c 7 (.ptr k19 0) (.c 8 (nZ (wrap .i64 ((wrap .u64 p2).tmod (wrap .u64 (y0.Vols.length:Int))))) (.c 9 (nZ s) (.c 10 (nZ q1) .nil)))) (λx m=> ?_) ?_
 refine v ?_
 apply vi m<;>intro c2 m
 exact v (fV m)
 exact v (fV m)
 rintro _ j1 m
 exact v (fV m)
 exact v (u0 m)
 rintro _ ⟨r0,r1⟩ m
 refine vs (vs (fP m (σ:=Bool) (λs=>[(some k19,.obj 30 (aD y0))]) (λs=>.c 7 (.ptr k19 0) (.c 8 (nZ (wrap .i64 ((wrap .u64 p2).tmod (wrap .u64 (y0.Vols.length:Int))))) (.c 9 (nZ r0) (.c 81 (.sc (.bool s)) .nil)))) (λx m=> ?_) ?_))
 refine v (vl 0 _ gH rfl rfl rfl (vx m kZ rfl rfl λ_ _ m=> ?_))
 apply vi m<;>intro b2 m
 rw[b2]
 exact fV m
 rw[b2]
 exact fV m
 rintro _ j2 m
 refine v ?_
 apply vi m<;>intro c3 m
 refine v (vk W27 YJ m rfl rfl λ_ m=>v ?_)
 obtain rfl:=eT m
 exact eI rfl
 refine v (v (vl 0 (.agg (aD y0)) dG rfl rfl rfl (vk W24 W4 m rfl rfl λ_ m=>vk W28 aEJ m rfl rfl λy1 m=>v (jT m (σ:=aA×Int) (λs=>[(some k19,.obj 30 (aD s.1))]) (λs=>.c 7 (.ptr k19 0) (.c 8 (nZ (wrap .i64 ((wrap .u64 p2).tmod (wrap .u64 (y0.Vols.length:Int))))) (.c 9 (nZ r0) (.c 11 (.sl none 1 (map iX y1)) (.c 12 (nZ s.2) .nil))))) (lx (.k5 .nil)) ?_ ?_))))
 rintro _ ⟨q2,q3⟩ x m
 replace m:B0 w r0 y1 q2 q3=some x:=m
 unfold B0 at m
 refine v (dI aAP rfl (v ?_))
 apply vi m<;>intro c4 m
 refine v (v (v (vz [(1000000,some k19,.obj 30 (aD q2))] mixed (λu=>⟨λ_=>aN 0 u rfl,trivial⟩) λu=>zL 0 0 (.agg (aD q2)) rfl dG rfl rfl rfl (zI 1 rfl rfl (zC 2 rfl (fC (.sl _ _ _) rfl) (zI 3 rfl rfl ?_))))))
 obtain⟨x0,X0,m⟩:=aC m
 refine zC 4 rfl (l4 X0 RT rfl rfl) (zC 5 rfl (mJ (.sl none 37 (map aJ x0)) mM rfl rfl) ?_)
 obtain⟨y2,Y0,m⟩:=aC m
 refine zC 6 rfl (bW (W30 _ Y0) rfl aJ7 rfl) (zC 7 rfl (eQ ([nZ 3,nZ 0,.sc (.string empty),sZ,sZ,sZ,nZ 0,nZ r0,.sl none 37 (map aJ y2)]) AJ rfl) ?_)
 obtain⟨y3,Y1,m⟩:=aC m
 refine zC 8 rfl (bW (A7 (.cons (bD.refl _ _) (.cons (bD.agg (.k3 (.cons (bC _) (.cons (bC _) (.cons (bC _) (.k3 .nil)))))) .nil)) (W29 _ Y1)) rfl aDG rfl) (zC 9 rfl (fC (.tup _) rfl) (zC 10 rfl (RF (.agg _) rfl rfl) (zC 11 rfl (RF (.sc (.int _ _)) rfl rfl) (zE 12 rfl (bE (jB) u rO rfl rfl λk221 K2=>⟨⟨λ_=>aN 1 K2 rfl,trivial⟩, ?_⟩)))))
 refine zE 13 rfl (aL 0 (aD y3.1) K2 rfl rfl rfl rfl mZ rfl rfl λK3=>⟨⟨λ_=>aN 1 K3 rfl,trivial⟩, ?_⟩)
 refine zC 14 rfl (iJ (.sc (.int _ _)) rfl) (zX (qk (f:=.c 14 _ (.c 13 _ (.c 104 _ (.c 103 _ (.c 93 _ (fq9 102 _ _ _ _ _ _ _ _ _ _)))))) K3 rfl (v (v ?_))))
 apply vi m<;>intro c5 m
 refine v (v (gM m λm=> ?_))
 obtain rfl:=eT m
 exact eI rfl
 exact v (v (vl 0 (.agg (aD y3.1)) dG rfl rfl rfl (ve λu=>aL 1 (aD y3.1) u rfl rfl rfl rfl mZ rfl rfl λK4=>qk K4 rfl (v (z8 m (mG [1] rfl rfl (.k5 .nil)))))))
 exact v (YR m)
 rintro _ ⟨r2,r3⟩ m
 refine v (vl 0 (.agg (aD r2)) dG rfl rfl rfl (vk W24 W4 m rfl rfl λ_ m=>dI mA rfl (v ?_)))
 apply vi m<;>intro c6 m
 refine v (v ?_)
 obtain rfl:=eT m
 exact eI rfl
 refine v (v (vl 0 (.agg (aD r2)) dG rfl rfl rfl (bV (eQ ([nZ 4,nZ 0,.sc (.string empty),sZ,sZ,sZ,nZ 0,nZ (wrap .i64 ((wrap .u64 p2).tmod (wrap .u64 (y0.Vols.length:Int)))),sZ]) AJ rfl) ?_)))
 obtain⟨y4,Y2,m⟩:=aC m
 refine bV (bW (A7 (.cons (bD.refl _ _) (.cons (bD.agg (.k3 (.cons (bC _) (.cons (bC _) (.cons (bC _) (.k2 (.cons (bC _) .nil))))))) .nil)) (W29 _ Y2)) rfl aDG rfl) (ve λu=>bE (jB) u rO rfl rfl λk241 K5=>qk K5 rfl (ve λu=>aL 0 (aD y4.1) u rfl rfl rfl rfl mZ rfl rfl λK6=>qk K6 rfl (vs (vs (fP m (σ:=Bool) (λs=>[(some k241,.obj 30 (aD y4.1)),(some k19,.obj 30 (aD r2))]) (λs=>.c 151 (.sc (.bool s)) .nil) (λx m=> ?_) ?_)))))
 refine v ?_
 apply vi m<;>intro b3 m
 rw[b3]
 exact nI m
 rw[b3]
 refine vl 0 _ fE rfl rfl rfl (dI kN rfl (vl 1 _ fE rfl rfl rfl (dI kN rfl ?_)))
 apply vi m<;>intro b4 m
 rw[b4]
 exact nI m
 rw[b4]
 refine vl 0 _ gN rfl rfl rfl (dI nK rfl (vl 1 _ gN rfl rfl rfl (dI nK rfl ?_)))
 apply vi m<;>intro b5 m
 rw[b5]
 exact nI m
 rw[b5]
 refine vl 0 (.agg (aD y4.1)) dG rfl rfl rfl (vk W23 aB5 m rfl rfl λ_ m=>dI mA rfl ?_)
 apply vi m<;>intro b6 m
 rw[b6]
 exact nI m
 rw[b6]
 exact vl 0 (.agg (aD y4.1)) dG rfl rfl rfl (vk YT KO m rfl rfl λ_ m=>nI m)
 rintro _ j3 m
 refine v ?_
 apply vi m<;>intro c7 m
 refine v (v ?_)
 obtain rfl:=eT m
 exact eI rfl
 refine v (v (vk W27 YJ m rfl rfl λ_ m=>v ?_))
 obtain rfl:=eT m
 exact eI rfl
theorem TT {c:aA} {v p:Int} {l:List aS} {u:Bool}:AS c v p l u=(u && u7 v l && !zZ c v p l):=rfl
theorem IF {v:Int} {l:List aS}:u7 v (lf v l)=false:=by
 unfold u7 lf
 rw[any_eq_false]
 intro y hy
 have:=(mem_filter.1 hy).2
 simpa using this
theorem TU {v:Int} {l:List aS} (h:u7 v l=false):lf v l=l:=List.filter_eq_self.2 λy hy=>by
 have:=any_eq_false.1 h y hy
 simpa using this
theorem QT {c:aA} {v p:Int} {l:List aS} (h:zZ c v p l=true):lf v l≠ []:=λk=>by
 unfold zZ at h
 have k:(l.filter λx=> !(x.Vol==v))= []:=k
 rw[k] at h
 cases h
theorem TV {c:aA} {v:Int} {x:aR}:onL (ret c v x) v= []:=by
 unfold onL ret
 rw[filter_eq_nil_iff.2 λy hy=>by
  obtain⟨z, -,rfl⟩:=mem_map.1 (mem_filter.1 hy).1
  show ¬u7 v (lf v z.Locs)=true
  rw[IF]; decide,filter_eq_nil_iff.2 λy hy=>by
  obtain⟨z, -,rfl⟩:=mem_map.1 hy
  show ¬u7 v (lf v z.Locs)=true
  rw[IF]; decide,filter_eq_nil_iff.2 λy hy=>by
  obtain⟨z, -,rfl⟩:=mem_map.1 (mem_filter.1 hy).1
  show ¬u7 v (lf v z.Locs)=true
  rw[IF]; decide]
 rfl
theorem QU {c:aA} {g:List aS->Bool->Bool} (h:lT c g= []):(∀x∈c.Chunks,g x.Locs (iS c x.Id)=false)/\(∀x∈c.Snaps,g x.Locs true=false)/\∀x∈c.Exps,g x.Locs true=false:=by
 unfold lT at h
 obtain⟨h,h3⟩:=List.append_eq_nil_iff.1 h
 obtain⟨h1,h2⟩:=List.append_eq_nil_iff.1 h
 exact⟨λx hx=>by simpa using filter_eq_nil_iff.1 (List.map_eq_nil_iff.1 h1) x hx,λx hx=>by simpa using filter_eq_nil_iff.1 (List.map_eq_nil_iff.1 h2) x hx,λx hx=>by simpa using filter_eq_nil_iff.1 (List.map_eq_nil_iff.1 h3) x hx⟩
theorem GD {q:List Int} {l:List nJ} {p:Int} (gq:gL gI q) (gl:gL IV l) (gp:gI p):M6 1000 q l p=some true:=by
 have hF:1000<=1000:=Nat.le_refl _
 have key:T (M6 1000 q l p) λb=>b=true:=by
  unfold M6
  refine .after (.ite (λ_=>.brk (T.ite (λ_=>.some rfl) λh=>absurd rfl h)) λ_=>.bind _ (t27 hF) λb hb=>.brk (T.ite (λ_=>.some rfl) λhb0=> ?_))
  have ho:=hb (by simpa using hb0)
  refine .bind _ (t29 hF gq) λq hq=>.bind _ (aJU hF hq.1 hq.2.1 hq.2.2 gl ho) λc hc=> ?_
  obtain⟨h,hg,B⟩:=hc
  have G:=jP.1 hg
  have hvo:=h.vo
  have hvn:=G.vn
  simp only[fI,and_eq_true,decide_eq_true_eq] at hvn
  obtain⟨w,hw1,hw⟩:=XI p (n:=c.Vols.length) (by omega) (by omega)
  rw[<- wru (n:=c.Vols.length) (by omega)] at hw
  have hx:c.Vols[w]? =some c.Vols[w]:=List.getElem?_eq_getElem hw1
  have hm:=List.getElem_mem hw1
  generalize c.Vols[w]=x at hx hm
  have hx':c.Vols[((w:Int)).toNat]? =some x:=by simpa using hx
  refine .grd (by rw[wru (by omega)]; exact bne_iff_ne.2 (by omega)) ?_
  obtain⟨⟨v,j⟩,⟨-,hv⟩,e1⟩:=m6 (body:=λs:Int×Int=>z5 1000 p c s.1 s.2) (I:=λi s=>s.2=(i:Int)/\(s.1= -1\/0<=s.1/\s.1<=20/\s.1≠(w:Int)/\∃y,c.Vols[s.1.toNat]? =some y/\y.Pool=x.Pool/\y.State≠3)) (n:=c.Vols.length) (λi s hi hI=>by
   obtain⟨a,j⟩:=s
   obtain⟨rfl,hI⟩:=hI
   have hy:c.Vols[i]? =some c.Vols[i]:=List.getElem?_eq_getElem hi
   generalize c.Vols[i]=y at hy
   by_cases h1:(i:Int)≠(w:Int)/\y.Pool=x.Pool/\y.State≠3
   ·refine⟨((i:Int),((i+1:Nat):Int)), ?_,rfl,.inr ⟨by simp,by show (i:Int)<=20; omega,h1.1,y,by simpa using hy,h1.2.1,h1.2.2⟩⟩
    unfold z5
    rw[f0 (by omega),hw]
    simp only[a8,hx,hy,bind_some,ofNat_lt,hi,decide_true,if_true,h1.2.1,beq_self_eq_true,bne_iff_ne.2 h1.2.2,bne_iff_ne.2 h1.1,aG]
   ·refine⟨(a,((i+1:Nat):Int)), ?_,rfl,hI⟩
    unfold z5
    rw[f0 (by omega),hw]
    simp only[a8,hx,hy,bind_some,ofNat_lt,hi,decide_true,if_true]
    by_cases h2:(i:Int)=(w:Int)
    ·simp[h2,aG]
    ·by_cases h3:y.Pool=x.Pool
     ·have h4:y.State=3:=Classical.not_not.1 λk=>h1 ⟨h2,h3,k⟩
      simp[h3,h4,aG]
     ·simp[h3,aG]) (λs hs=>by
   obtain⟨a,j⟩:=s
   obtain⟨rfl, -⟩:=hs
   unfold z5
   simp) 1000 0 (-1,0) (Nat.zero_le _) (by omega) ⟨rfl,.inl rfl⟩
  rw[e1,aG,hw]
  refine .after (.bindEq (by rw[a8,hx]) (T.ite (λ_=>.brk (T.ite (λ_=>.bindEq m39 (.some rfl)) λk=>absurd rfl k)) λhs=>.brk (T.ite (λ_=>.bindEq m39 (.some rfl)) λhn=> ?_)))
  have hs:x.State=2:=by simpa using hs
  obtain⟨v0,v1,vw,z,hz,z1,z3⟩:0<=v/\v<=20/\v≠(w:Int)/\∃y,c.Vols[v.toNat]? =some y/\y.Pool=x.Pool/\y.State≠3:=by
   rcases hv with hv | hv
   ·exact absurd (by rw[show v= -1 from hv]; rfl) hn
   ·exact hv
  have hp:(c.Vols[v.toNat]?).map (·.Pool)=some x.Pool:=by rw[hz]; exact congrArg some z1
  have hwl:(0:Int)<=w/\(w:Int) < c.Vols.length:=by omega
  have m24:SG 1000 c w=some (lT c (AS c w x.Pool)):=by rw[m38 hF h,if_pos ⟨hg,hwl⟩,hx']; rfl
  have hl:(lT c (AS c w x.Pool)).length<=408:=LS G
  refine .bindEq m24 (.bindEq (n28 hF (by omega)) ?_)
  generalize hM:lT c (AS c w x.Pool)=M at hl
  have hk:=JX 10
  have hc7:(D0 (AY 10) M.length M).length<=41:=by
   have:=J0 hk.1 M.length M
   rw[show AY 10=10 from rfl] at this ⊢
   omega
  obtain⟨e,e2,X⟩:=LR (F:=1000) (v:=v) (n:=30) (c:=c) (L:=D0 (AY 10) M.length M) (body:=λs:aA×Int=>B0 1000 v (D0 (AY 10) M.length M) s.1 s.2) hF G (Xt.init h G B ⟨z,hz,z3⟩) (by omega) v0 ⟨by omega,by omega⟩ (λy hy=>by
   obtain⟨s1,s2,s3⟩:=JY _ _ y hy
   rw[<- hM] at s1
   exact YL h G s1 (s3 hk.1) (by omega)) (λe e' i y hy hi h1 h2=>by
   unfold B0
   have h2:OZ 1000 e { Kind:=3,Snap:={ Seq:=0,Man:={ Name:=empty,Parts:=[]},Locs:=[]},Chunks:=[],Seq:=0,Vol:=v,Items:=iO 0 y}=some (e',0):=h2
   rw[f0 (by omega)]
   simp only[a8,hy,bind_some,ofNat_lt,hi,decide_true,if_true,h1,h2,bne_self_eq_false,Bool.false_eq_true,if_false]) (λe=>by unfold B0; simp)
  rw[F8 hk.1 _ _ (Nat.le_refl _)] at X
  rw[e2,aG]
  have ge:=jP.2 X.gd
  have hxe:e.Vols[((w:Int)).toNat]? =some x:=by rw[X.wo _ (by omega)]; exact hx'
  have othM:∀ {a b:List aS},Mo v a b->zZ c w x.Pool a=true->zZ e w x.Pool b=true:=λm ha=>by
   unfold zZ at*
   obtain⟨y,hy,hi⟩:=any_eq_true.1 ha
   obtain⟨y1,y2⟩:=mem_filter.1 hy
   exact any_eq_true.2 ⟨y,mem_filter.2 ⟨m.1 y y1,y2⟩,by rw[X.inP]; exact hi⟩
  have othW:∀ {b:List aS},L6 v b->zZ e w x.Pool b=true:=fun {b} hb=>by
   obtain⟨y,hy,ey⟩:=hb
   have:=X.any1 (b:=[y]) v0 hp ⟨y,List.mem_singleton.2 rfl,ey⟩
   rw[List.any_cons,List.any_nil,Bool.or_false] at this
   unfold zZ
   exact any_eq_true.2 ⟨y,mem_filter.2 ⟨hy,by rw[ey]; simpa using vw⟩,this⟩
  have n1:lT e (AS e w x.Pool)= []:=X.none (g:=AS c w x.Pool) (λi hi=>by rw[hM] at hi; exact hi) (λa b u m hu=>by
   rw[TT] at hu ⊢
   cases u with
   | false=>rfl
   | true=>
    cases h1:u7 w a with
    | false=>
     have:u7 w b=false:=any_eq_false.2 λy hy=>by
      rcases m.2 y hy with h2 | h2
      ·exact any_eq_false.1 h1 y h2
      ·rw[h2]; simpa using vw
     rw[this]; rfl
    | true=>
     rw[h1] at hu
     have hu:zZ c w x.Pool a=true:=by simpa using hu
     rw[othM m hu]; simp) λb u hb=>by rw[TT,othW hb]; simp
  have m24e:SG 1000 e w=some []:=by rw[m38 hF X.sm,if_pos ⟨ge,hwl.1,by rw[X.wl]; exact hwl.2⟩,hxe]; exact congrArg some n1
  refine .bindEq m24e (T.ite (λk=>absurd k (by simp)) λ_=> ?_)
  obtain⟨k1,k2,k3⟩:=QU n1
  have hal:e.Chunks.any (S6 e w)=false:=any_eq_false.2 λy hy hal=>by
   unfold S6 at hal
   simp only[and_eq_true,decide_eq_true_eq] at hal
   obtain⟨⟨⟨-,a1⟩,a2⟩,a3⟩:=hal
   have:=k1 y hy
   rw[TT,a2] at this
   have o1:u7 w y.Locs=true:=by
    cases hL:y.Locs with
    | nil=>rw[hL] at a1; simp at a1
    | cons t ts=>
     rw[hL] at a3
     exact any_eq_true.2 ⟨t,List.mem_cons_self,List.all_eq_true.1 a3 t List.mem_cons_self⟩
   have o2:zZ e w x.Pool y.Locs=false:=by
    cases ho:zZ e w x.Pool y.Locs with
    | false=>rfl
    | true=>
     refine absurd ?_ (QT ho)
     exact filter_eq_nil_iff.2 λt ht=>by
      have:=List.all_eq_true.1 a3 t ht
      simpa using this
   rw[o1,o2] at this
   cases this
  have GR:=PX X.gd hwl.1 hxe hal
  have gr:=jP.2 GR
  have hap:=LL (d:={ Kind:=4,Snap:={ Seq:=0,Man:={ Name:=empty,Parts:=[]},Locs:=[]},Chunks:=[],Seq:=0,Vol:=(w:Int),Items:=[]}) hF X.sm X.gd rfl hwl.1 hxe
  rw[if_pos hs,if_pos gr] at hap
  have SR:=DV X.sm hxe
  have hex:(ret e w x).Exps.length=e.Exps.length:=by
   show ((e.Exps.map (HV w)).filter _).length=_
   rw[List.filter_eq_self.2 λy hy=>by
    obtain⟨t,ht,rfl⟩:=mem_map.1 hy
    have h1:=k3 t ht
    have h2:=X.gd.ee t ht
    have h3:lf w t.Locs≠ []:=by
     cases o1:u7 w t.Locs with
     | false=>rw[TU o1]; exact h2
     | true=>
      rw[TT,o1] at h1
      exact QT (by simpa using h1)
    have h4:(lf w t.Locs).length≠0:=λk=>h3 (List.length_eq_zero_iff.1 k)
    show (!(((lf w t.Locs).length:Int)==0))=true
    simp; omega,List.length_map]
  refine .bindEq hap (.after (T.ite (λk=>absurd k (by simp)) λ_=>T.ite (λk=>absurd k (by show ¬(((e.Snaps.map (XD w)).length:Int) !=(e.Snaps.length:Int))=true; simp)) λ_=>T.ite (λk=>absurd k (by show ¬(((ret e w x).Exps.length:Int) !=(e.Exps.length:Int))=true; rw[hex]; simp)) λ_=> ?_))
  refine .bindEq (by rw[m37 hF SR,if_pos gr,TV]) (T.ite (λk=>absurd k (by simp)) λ_=>.bindEq (by rw[m33 hF SR,gr]) (.brk (T.ite (λk=>absurd k (by decide)) λ_=>.bindEq m39 (.some rfl))))
 obtain⟨b,e,rfl⟩:=key
 exact e
end Go.Proofs.YtbbifdfldpfphaaGreat
