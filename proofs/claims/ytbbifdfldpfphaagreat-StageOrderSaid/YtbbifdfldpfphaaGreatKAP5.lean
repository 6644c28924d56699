import Derived.Test.YtbbifdfldpfphaaGreatKAP3
import Derived.Test.YtbbifdfldpfphaaGreatKAP4
import Derived.Laws.Externs
set_option linter.unusedSimpArgs false
set_option linter.unusedVariables false
set_option maxHeartbeats 4000000
set_option maxRecDepth 100000
open Array(toList_append)
open Bool(and_eq_true not_eq_true not_eq_true')
open Go.Builtin(append_ copy_ lenOf nextslicecap zeroCells)
open Go.Call(operands)
open Go.Instr(sliceAt)
open Int(ofNat_lt)
open Go.IntKind(i64 wrap wrap_i64)
open List(all_eq_true any_cons any_eq_false append_assoc eraseIdx_sublist filter filter_append flatten_append flatten_cons getElem?_eq_getElem getElem?_map getElem?_set getElem?_take getElem_mem getElem_of_mem length_append length_drop length_eq_zero_iff length_map length_set length_take map map_append map_cons map_nil map_set map_toArray mem_append mem_cons mem_cons_of_mem mem_cons_self mem_map mem_of_getElem? mem_of_mem_take mem_range mem_replicate nil_sublist of_mem_zip range replicate)
open Nat(le_trans zero_add)
open Go.Oper(wp)
open Option(all_none all_some any_some bind_some map_none map_some)
open Go.Result(andThen_ok)
open Go.Sem(run run_bind run_pure)
open Go.Proofs.Tryz(prog)
open Go.World(cell? shape?)
namespace Go.Proofs.YtbbifdfldpfphaaGreat
open Go.Vm
def G7 (m:Nat) (p0:List aE) (p1:List aE) (q0:Int):Option (Lp (Int) (Bool)):=
 if decide (q0 < (p0.length:Int)) then ((ix p0 q0).bind λx0=>(ix p1 q0).bind λx1=>after (if (x0.Kind !=x1.Kind)then Bk true else if (!decide (x0.Id=x1.Id))then Bk true else if (x0.Seq !=x1.Seq)then Bk true else if (x0.Of !=x1.Of)then Bk true else if (x0.Off !=x1.Off)then Bk true else Bk (x0.Len !=x1.Len):Option (Lp (Bool) (Lp (Int) (Bool)))) λj0=>if j0 then Rk false else Gk (wrap .i64 (q0+1))) else Bk q0
def M18 (m:Nat) (p0:List aE) (p1:List aE):Option (Bool):=
 if ((p0.length:Int) !=(p1.length:Int))then (some false) else after (aR (λs=>G7 m p0 p1 s) m 0) λr0=>some true
theorem W18 {w:Nat} {p0:List aE} {p1:List aE} {o:Bool} (h:aF) (m:M18 w p0 p1=some o):
 aM prog 18 [.sl none 37 (map aI p0),.sl none 37 (map aI p1)] h (λr h'=>r= .sc (.bool o)/\h'=h):=by
 refine fQ 67 [.tmp 4] Tryz.func18 rfl rfl rfl rfl ?_
 unfold M18 at m
 refine v (v (cU mC rfl (cU mC rfl (v ?_))))
 apply vi m<;>intro c4 m
 refine v (v ?_)
 obtain rfl:=eR m
 exact eH rfl
 refine v (v (jS m (σ:=Int) (λs=>[]) (λs=>.c 0 (.sl none 37 (map aI p0)) (.c 1 (.sl none 37 (map aI p1)) (.c 5 (nZ s) .nil))) (lx (.k3 .nil)) ?_ ?_))
 rintro _ q0 x m
 replace m:G7 w p0 p1 q0=some x:=m
 unfold G7 at m
 refine v (cU mC rfl (v ?_))
 apply vi m<;>intro c0 m
 refine v (v (v (vz [] mixed (λu=>trivial) λu=>zC 0 rfl (fJ (.sl _ _ _) rfl) (zI 1 rfl rfl ?_))))
 obtain⟨x0,X0,m⟩:=aD m
 refine zC 2 rfl (lV X0 nQ rfl rfl) (zC 3 rfl (l8 (.agg (aI x0)) CE rfl rfl) (zC 4 rfl (fJ (.sl _ _ _) rfl) (zI 5 rfl rfl ?_)))
 obtain⟨x1,X1,m⟩:=aD m
 refine zC 6 rfl (lV X1 nQ rfl rfl) (zC 7 rfl (l8 (.agg (aI x1)) CE rfl rfl) (aER 8 9 rfl rfl (by kernel_rfl) ?_ ?_))
 refine(bG (([nZ 0]:List AV)++bC gY++(JO:List AV)) u GY rfl rfl λk189 K0=>⟨trivial, ?_⟩)
 refine zE 9 rfl (bG (([nZ 0]:List AV)++bC gY++(JO:List AV)) K0 GY rfl rfl λk192 K1=>⟨trivial, ?_⟩)
 refine zE 10 rfl (aL 1 (aI x0) K1 rfl rfl rfl rfl GX rfl rfl λK2=>⟨trivial, ?_⟩)
 refine zE 11 rfl (aL 0 (aI x1) K2 rfl rfl rfl rfl GX rfl rfl λK3=>⟨trivial, ?_⟩)
 refine zX (qk (f:=.c 7 _ (.c 6 _ (Q8 26 _ _ _ _ _ _ _ _ _))) K3 rfl (vs (fO m (σ:=Bool) (λs=>[(some k192,.obj 38 (aI x1)),(some k189,.obj 38 (aI x0))]) (λs=>.c 0 (.sl none 37 (map aI p0)) (.c 1 (.sl none 37 (map aI p1)) (.c 5 (nZ q0) (.c 66 (.sc (.bool s)) .nil)))) (λx m=> ?_) ?_)))
 refine v (vl 1 _ cB rfl rfl rfl (vl 0 _ cB rfl rfl rfl ?_))
 apply vi m<;>intro b0 m
 rw[b0]
 exact fZ m
 rw[b0]
 refine vl 1 (.agg (bC x0.Id)) fA rfl rfl rfl (vl 0 (.agg (bC x1.Id)) fA rfl rfl rfl (bU (TM EI TR u5 EE rfl rfl) ?_))
 apply vi m<;>intro b1 m
 rw[b1]
 exact fZ m
 rw[b1]
 refine vl 1 _ cB rfl rfl rfl (vl 0 _ cB rfl rfl rfl ?_)
 apply vi m<;>intro b2 m
 rw[b2]
 exact fZ m
 rw[b2]
 refine vl 1 _ cB rfl rfl rfl (vl 0 _ cB rfl rfl rfl ?_)
 apply vi m<;>intro b3 m
 rw[b3]
 exact fZ m
 rw[b3]
 refine vl 1 _ cB rfl rfl rfl (vl 0 _ cB rfl rfl rfl ?_)
 apply vi m<;>intro b4 m
 rw[b4]
 exact fZ m
 rw[b4]
 exact vl 1 _ cB rfl rfl rfl (vl 0 _ cB rfl rfl rfl (fZ m))
 rintro _ j0 m
 refine v ?_
 apply vi m<;>intro c1 m
 refine v (v (fY m λm=> ?_))
 obtain rfl:=eR m
 exact eH rfl
 exact v (v (zU m (mK [] rfl rfl (.k3 .nil))))
 refine(bG (([nZ 0]:List AV)++bC gY++(JO:List AV)) u GY rfl rfl λk212 K4=>⟨trivial, ?_⟩)
 refine zE 8 rfl (bG (([nZ 0]:List AV)++bC gY++(JO:List AV)) K4 GY rfl rfl λk215 K5=>⟨trivial, ?_⟩)
 refine zE 10 rfl (aL 0 (aI x0) K5 rfl rfl rfl rfl GX rfl rfl λK6=>⟨trivial, ?_⟩)
 refine zE 11 rfl (aL 1 (aI x1) K6 rfl rfl rfl rfl GX rfl rfl λK7=>⟨trivial, ?_⟩)
 refine zX (qk (f:=.c 6 _ (.c 7 _ (Q8 26 _ _ _ _ _ _ _ _ _))) K7 rfl (vs (fO m (σ:=Bool) (λs=>[(some k215,.obj 38 (aI x0)),(some k212,.obj 38 (aI x1))]) (λs=>.c 0 (.sl none 37 (map aI p0)) (.c 1 (.sl none 37 (map aI p1)) (.c 5 (nZ q0) (.c 66 (.sc (.bool s)) .nil)))) (λx m=> ?_) ?_)))
 refine v (vl 0 _ cB rfl rfl rfl (vl 1 _ cB rfl rfl rfl ?_))
 apply vi m<;>intro b5 m
 rw[b5]
 exact fZ m
 rw[b5]
 refine vl 0 (.agg (bC x0.Id)) fA rfl rfl rfl (vl 1 (.agg (bC x1.Id)) fA rfl rfl rfl (bU (TM EI TR u5 EE rfl rfl) ?_))
 apply vi m<;>intro b6 m
 rw[b6]
 exact fZ m
 rw[b6]
 refine vl 0 _ cB rfl rfl rfl (vl 1 _ cB rfl rfl rfl ?_)
 apply vi m<;>intro b7 m
 rw[b7]
 exact fZ m
 rw[b7]
 refine vl 0 _ cB rfl rfl rfl (vl 1 _ cB rfl rfl rfl ?_)
 apply vi m<;>intro b8 m
 rw[b8]
 exact fZ m
 rw[b8]
 refine vl 0 _ cB rfl rfl rfl (vl 1 _ cB rfl rfl rfl ?_)
 apply vi m<;>intro b9 m
 rw[b9]
 exact fZ m
 rw[b9]
 exact vl 0 _ cB rfl rfl rfl (vl 1 _ cB rfl rfl rfl (fZ m))
 rintro _ j1 m
 refine v ?_
 apply vi m<;>intro c2 m
 refine v (v (fY m λm=> ?_))
 obtain rfl:=eR m
 exact eH rfl
 exact v (v (zU m (mK [] rfl rfl (.k3 .nil))))
 exact v (GT m)
 rintro _ r0 m
 refine v (v ?_)
 obtain rfl:=eR m
 exact eH rfl
theorem WD:aP prog 18=true:=by kernel_rfl
theorem tM {α ρ:Type} {l:List α} {F:Nat} {body:Int->Option (Lp Int ρ)} (q:α->Bool) (r:ρ) (hF:l.length < F) (hb:∀(i:Nat) (x:α),l[i]? =some x->x∈l->i < l.length->body (i:Int)=some (if q x then .ret r else .go ((i+1:Nat):Int)))
    (he:body (l.length:Int)=some (.brk (l.length:Int))):aR body F 0=some (if l.any q then .ret r else .brk (l.length:Int)):=by
  rw[eZ (s0:=(0:Int)) (n:=l.length) (F:=F) (λi:Nat=>(i:Int)) (λi=>(l[i]?).any q) (λ_=>r) hF rfl (λi hi _=>by
    rw[hb i l[i] (getElem?_eq_getElem hi) (getElem_mem hi) hi,getElem?_eq_getElem hi]; rfl) (λ_=>he),iS,i6]
theorem m53 {F:Nat} {l:List aS} (hl:l.length<=1000):wM F l=some l:=by unfold wM; rw[bN (by simp; omega)]; simp
theorem WE {F:Nat} {l:List Int} (hl:l.length<=1000):vO F l=some l:=by unfold vO; rw[bN (by simp; omega)]; simp
theorem iT {S ρ:Type} {body:S->Option (Lp S ρ)} {n F:Nat} {s0:S} (emb:Nat->S) (hF:n < F) (h0:s0=emb 0) (hb:∀i,i < n->body (emb i)=some (.go (emb (i+1)))) (he:body (emb n)=some (.brk (emb n))):
    aR body F s0=some (.brk (emb n)):=by
  obtain⟨s',h1,h2⟩:=n7 (body:=body) (I:=λi s=>s=emb i) (n:=n) (λi s hi hs=>⟨_,by rw[hs]; exact hb i hi,rfl⟩) (λs hs=>by rw[hs]; exact he) F 0 s0 (Nat.zero_le _) (by omega) h0
  rw[h2,h1]
theorem n8 {α ρ:Type} {l:List α} {F:Nat} {body:List α×Int->Option (Lp (List α×Int) ρ)} (hF:l.length < F)
    (hb:∀(i:Nat) (x:α),l[i]? =some x->x∈l->i < l.length->body (l.take i,(i:Int))=some (.go (l.take i++ [x],((i+1:Nat):Int)))) (he:body (l,(l.length:Int))=some (.brk (l,(l.length:Int)))):
    aR body F ([],0)=some (.brk (l,(l.length:Int))):=by
  have:=iT (body:=body) (s0:=(([]:List α),(0:Int))) (n:=l.length) (F:=F) (λi:Nat=>(l.take i,(i:Int))) hF rfl (λi hi=>by
    rw[hb i l[i] (getElem?_eq_getElem hi) (getElem_mem hi) hi]
    simp) (by simpa using he)
  simpa using this
theorem m52 {F:Nat} {m:bE} (hF:1000<=F) (hp:m.Parts.length<=10) (hi:∀p∈m.Parts,p.Ids.length<=40):G4 F m=some m:=by
 unfold G4
 rw[n8 (l:=m.Parts) (by omega) (λi x hx hm hi'=>by
  have:=hi x hm
  unfold tK
  rw[iG (by omega)]
  simp only[aX,hx,bind_some,ofNat_lt,hi',decide_true,if_true]
  rw[bN (by simp; omega)]
  simp only[bind_some,List.nil_append]
  rw[bN (by simp; omega)]
  rfl) (by unfold tK; simp)]
 rfl
theorem m54 {F:Nat} {l:List aB} (hF:1000<=F) (hl:l.length<=400) (hx:∀x∈l,x.Locs.length<=300/\x.Data.length<=300):KE F l=some l:=by
 unfold KE
 rw[n8 (l:=l) (by omega) (λi x hx' hm hi'=>by
  have:=hx x hm
  unfold tL
  rw[iG (by omega)]
  simp only[aX,hx',bind_some,ofNat_lt,hi',decide_true,if_true,WE (F:=F) (show x.Data.length<=1000 by omega),m53 (F:=F) (show x.Locs.length<=1000 by omega)]
  rw[bN (by simp; omega)]
  rfl) (by unfold tL; simp)]
 rfl
theorem m14 {F:Nat} {c:aA} (hF:1000<=F) (h:Sm c):M90 F c=some c:=by
 have hsn:=h.sn
 have hex:=h.ex
 have hvo:=h.vo
 unfold M90
 rw[n8 (l:=c.Snaps) (by omega) (λi x hx hm hi'=>by
  have h1:=h.sl x hm
  obtain⟨-,h2,h3⟩:=h.man x hm
  unfold G5
  rw[iG (by omega)]
  simp only[aX,hx,bind_some,ofNat_lt,hi',decide_true,if_true,m52 hF h2 (λp hp=>(h3 p hp).2),m53 (F:=F) (show x.Locs.length<=1000 by omega)]
  rw[bN (by simp; omega)]
  rfl) (by unfold G5; simp)]
 rw[n8 (l:=c.Exps) (by omega) (λi x hx hm hi'=>by
  have h1:=h.el x hm
  unfold G6
  rw[iG (by omega)]
  simp only[aX,hx,bind_some,ofNat_lt,hi',decide_true,if_true,m53 (F:=F) (show x.Locs.length<=1000 by omega)]
  rw[bN (by simp; omega)]
  rfl) (by unfold G6; simp)]
 simp only[aG,m54 hF h.ch h.cl,bind_some]
 rw[bN (by simp; omega)]
 rfl
def M23 (m:Nat) (p0:aA) (p1:Int):Option ((List aE)):=
 (RK m p0).bind λy0=>if (y0 !=0)then (some []) else (VZ m p0 (λx0 x1=>M63 m x0 x1 p1)).bind λy1=>some y1
theorem W23 {w:Nat} {p0:aA} {p1:Int} {o:(List aE)} (h:aF) (m:M23 w p0 p1=some o):
 aM prog 23 [.agg (aC p0),nZ p1] h (λr h'=>r= .sl none 37 (map aI o)/\h'=h):=by
 refine fQ 11 [.tmp 4] Tryz.func23 rfl rfl rfl rfl ?_
 unfold M23 at m
 refine v (gZ rfl rfl λk2 K3=>gZ rfl rfl λk5 K6=>v (vl 1 (.agg (aC p0)) dC rfl rfl rfl (vk W31 NF m rfl rfl λ_ m=>v ?_)))
 apply vi m<;>intro c0 m
 refine v (v ?_)
 cases m
 exact vr λu=>dW.of1 (.inl rfl) (gQ _ _ (.sc (.slice _ _ _)) rfl) (aU (nil_sublist _) u).1 (a9 _) ⟨rfl,rfl⟩
 refine v (v (vl 1 (.agg (aC p0)) dC rfl rfl rfl ?_))
 obtain⟨_,Y0,m⟩:=aD m
 refine vn (λu=>bV (W50 _ aGC (λ_ _ o h0 hs ho=>W63 _ (hs _ _ (aW 0 u rfl)) ho) Y0) rfl V0 rfl) (v ?_)
 obtain rfl:=eR m
 exact eH rfl
theorem aG8:aP prog 23=true:=by kernel_rfl
def yR (m:Nat) (p0:List Int) (q0:List aQ) (q1:Int):Option (Lp ((List aQ)×Int) (aA)):=
 if decide (q1 < (p0.length:Int)) then ((ix p0 q1).bind λx0=>(app q0 ([({ Pool:=x0,Epoch:=0,State:=1,Files:=0}:aQ)]:List aQ)).bind λz0=>Gk (z0,wrap .i64 (q1+1))) else Bk (q0,q1)
def M33 (m:Nat) (p0:List Int):Option (aA):=
 after (aR (λs=>yR m p0 s.1 s.2) m ([],0)) λ⟨r0,r1⟩=>some ({ Seq:=0,Snaps:=[],Chunks:=[],Exps:=[],Vols:=r0}:aA)
theorem W33 {w:Nat} {p0:List Int} {o:aA} (h:aF) (m:M33 w p0=some o):
 aM prog 33 [.sl none 1 (map eO p0)] h (λr h'=>r= .agg (aC o)/\h'=h):=by
 refine fQ 22 [.cell 2 30] Tryz.func33 rfl rfl rfl rfl ?_
 unfold M33 at m
 refine v (ve λu=>bG (jF) u sP rfl rfl λk2 K3=>qk K3 rfl (v (ve λu=>bG (jF) u sP rfl rfl λk6 K7=>qk K7 rfl (v (pM (ZV (.tok 49 4 (([]:List aQ).length*4)) 1 ([nZ 0,sZ,sZ,sZ,ow none 4 (map dH [])]) rfl (.k4 (.cons (gD (c:=dH) _ 4) .nil))) (nU m (σ:=(List aQ)×Int) (τ:=Option bT) (λg s=>[(g,.tok 49 4 ((s.1:List aQ).length*4)),(some k6,.obj 30 ([nZ 0,sZ,sZ,sZ,ow g 4 (map dH s.1)])),(some k2,.obj 30 (jF))]) (λg s=>(g=none->s.1= [])) (λg s=>.c 0 (.sl none 1 (map eO p0)) (.c 2 (.ptr k2 0) (.c 3 (.ptr k6 0) (.c 4 (nZ s.2) .nil)))) none (λ_=>rfl) (lx (.k4 .nil)) ?_ ?_))))))
 rintro tg0 ⟨q0,q1⟩ x t0 m
 replace m:yR w p0 q0 q1=some x:=m
 unfold yR at m
 refine v (cU J4 rfl (v ?_))
 apply vi m<;>intro c0 m
 refine v (v (v (vz [(10,some k6,.obj 30 ([nZ 0,sZ,sZ,sZ,ow tg0 4 (map dH q0)]))] mixed (λu=>⟨λ_=>aO 1 u rfl,trivial⟩) λu=>zF 0 rfl jA rfl (zL 1 0 (ow tg0 4 (map dH q0)) rfl i9 rfl rfl rfl (zC 2 rfl (fJ (.sl _ _ _) rfl) (zI 3 rfl rfl ?_))))))
 obtain⟨x0,X0,m⟩:=aD m
 refine zC 4 rfl (lV X0 U8 rfl rfl) (zC 5 rfl (l8 (nZ x0) cB rfl rfl) (zC 6 rfl (eJ (dH ({ Pool:=x0,Epoch:=0,State:=1,Files:=0}:aQ)) aFD rfl) (zC 7 rfl (dX (map dH ([({ Pool:=x0,Epoch:=0,State:=1,Files:=0}:aQ)]:List aQ)) MO rfl rfl rfl rfl) ?_)))
 obtain⟨z0,Z0,m⟩:=aD m
 refine zE 8 rfl (fC (c:=dH) 0 Z0 MO rfl rfl rfl t0 u rfl λtg1 t1 K0=>⟨⟨λ_=>aO 1 K0 rfl,trivial⟩, ?_⟩)
 refine zF 9 rfl jA rfl (zE 10 rfl (aL 1 ([nZ 0,sZ,sZ,sZ,ow tg1 4 (map dH z0)]) K0 rfl rfl (jN rfl) (pQ _ _ _) U9 rfl rfl λK1=>⟨⟨λe=>absurd e (by decide),trivial⟩, ?_⟩))
 exact zX (qk (f:=ZT 20 _ _ _ _ _ _ _ _ _ _ _) K1 rfl (v (eG m tg1 t1 (lx (.k4 .nil)))))
 exact v (lR m tg0 t0 (lx (.k4 .nil)))
 rintro tg2 ⟨r0,r1⟩ t2 m
 refine v (vl 1 (.agg ([nZ 0,sZ,sZ,sZ,ow tg2 4 (map dH r0)])) dC rfl rfl rfl (ve λu=>aL 2 ([nZ 0,sZ,sZ,sZ,ow tg2 4 (map dH r0)]) u rfl rfl rfl (by repeat (first | exact rfl | refine cG (jO _ _ _) ?_ | refine cG (cC _ _ _) ?_ | refine cG (gK _ _ _ _) ?_ | refine cG rfl ?_)) nB rfl rfl λK2=>qk K2 rfl ?_))
 refine v ?_
 cases m
 exact vr λu=>dW.of1 (.inl rfl) (sJ (.agg ([nZ 0,sZ,sZ,sZ,ow tg2 4 (map dH r0)])) dC rfl (aW 2 u rfl) rfl) (aU (nil_sublist _) u).1 (bD.agg (.cons (bD.refl _ _) (.cons (a9 _) (.cons (a9 _) (.cons (a9 _) (.cons ((dU _ 0 t2 u rfl)) .nil)))))) ⟨rfl,rfl⟩
theorem aG9:aP prog 33=true:=by kernel_rfl
def yS (m:Nat) (p0:aA) (p1:bH) (q0:Int) (q1:Int) (q2:Int):Option (Lp (Int) (Lp (Int) (Lp (Int) (Bool)))):=
 (ix p0.Snaps q0).bind λx0=>(ix x0.Man.Parts q1).bind λx1=>if decide (q2 < (x1.Ids.length:Int)) then ((ix p0.Snaps q0).bind λx2=>(ix x2.Man.Parts q1).bind λx3=>(ix x3.Ids q2).bind λx4=>if decide (x4=p1) then (Rk (.ret (.ret true))) else Gk (wrap .i64 (q2+1))) else Bk q2
def yT (m:Nat) (p0:aA) (p1:bH) (q0:Int) (q1:Int):Option (Lp (Int) (Lp (Int) (Bool))):=
 (ix p0.Snaps q0).bind λx0=>if decide (q1 < (x0.Man.Parts.length:Int)) then (after (aR (λs=>yS m p0 p1 q0 q1 s) m 0) λr0=>Gk (wrap .i64 (q1+1))) else Bk q1
def yU (m:Nat) (p0:aA) (p1:bH) (q0:Int):Option (Lp (Int) (Bool)):=
 if decide (q0 < (p0.Snaps.length:Int)) then (after (aR (λs=>yT m p0 p1 q0 s) m 0) λr0=>Gk (wrap .i64 (q0+1))) else Bk q0
def WF (m:Nat) (p0:aA) (p1:bH):Option (Bool):=
 after (aR (λs=>yU m p0 p1 s) m 0) λr0=>some false
theorem W38 {u:Nat} {p0:aA} {p1:bH} {o:Bool} (h:aF) (m:WF u p0 p1=some o):
 aM prog 38 [.agg (aC p0),.agg (bC p1)] h (λr h'=>r= .sc (.bool o)/\h'=h):=by
 refine fQ 59 [.tmp 4] Tryz.func38 rfl rfl rfl rfl ?_
 unfold WF at m
 refine v (gZ rfl rfl λk2 K3=>gZ rfl rfl λk5 K6=>v (jS m (σ:=Int) (λs=>[(some k5,.obj 36 (bC p1)),(some k2,.obj 30 (aC p0))]) (λs=>.c 2 (.ptr k2 0) (.c 3 (.ptr k5 0) (.c 5 (nZ s) .nil))) (lx (.k3 .nil)) ?_ ?_))
 rintro _ q0 x m
 replace m:yU u p0 p1 q0=some x:=m
 unfold yU at m
 refine v (vl 1 _ fD rfl rfl rfl (cU lA rfl (v ?_)))
 apply vi m<;>intro c0 m
 refine v (v (v (jS m (σ:=Int) (λs=>[(some k5,.obj 36 (bC p1)),(some k2,.obj 30 (aC p0))]) (λs=>.c 2 (.ptr k2 0) (.c 3 (.ptr k5 0) (.c 5 (nZ q0) (.c 6 (nZ s) .nil)))) (lx (.k4 .nil)) ?_ ?_)))
 rintro _ q1 x m
 replace m:yT u p0 p1 q0 q1=some x:=m
 unfold yT at m
 refine v (vl 1 _ fD rfl rfl rfl (vx m iW rfl rfl λ_ _ m=>cU xX rfl (v ?_)))
 apply vi m<;>intro c1 m
 refine v (v (v (jS m (σ:=Int) (λs=>[(some k5,.obj 36 (bC p1)),(some k2,.obj 30 (aC p0))]) (λs=>.c 2 (.ptr k2 0) (.c 3 (.ptr k5 0) (.c 5 (nZ q0) (.c 6 (nZ q1) (.c 7 (nZ s) .nil))))) (lx (.k5 .nil)) ?_ ?_)))
 rintro _ q2 x m
 replace m:yS u p0 p1 q0 q1 q2=some x:=m
 unfold yS at m
 refine v (vl 1 _ fD rfl rfl rfl (vx m iW rfl rfl λ_ _ m=>vx m qQ rfl rfl λ_ _ m=>cU sU rfl (v ?_)))
 apply vi m<;>intro c2 m
 refine v (v (v (vq (by kernel_rfl) (vl 1 _ fD rfl rfl rfl (vx m iW rfl rfl λ_ _ m=>vx m qQ rfl rfl λ_ _ m=>vx m yB rfl rfl λx0 _ m=>va (.agg (bC x0)) fA rfl rfl (vl 0 (.agg (bC p1)) fA rfl rfl rfl (bU (AY EI TR u5 EE rfl rfl) (v ?_))))))))
 apply vi m<;>intro c3 m
 refine v (v (fY m λm=>fY m λm=>fY m λm=> ?_))
 obtain rfl:=eR m
 exact eH rfl
 exact v (v (kN m))
 exact v (YE m)
 rintro _ r0 m
 exact v (fZ m)
 exact v (vB m)
 rintro _ r1 m
 exact v (hH m)
 exact v (GT m)
 rintro _ r2 m
 refine v (v ?_)
 obtain rfl:=eR m
 exact eH rfl
theorem WG:aP prog 38=true:=by kernel_rfl
def CO (m:Nat) (p0:aA) (p1:List aS) (p2:Int) (q0:Bool) (q1:Bool) (q2:Int):Option (Lp (Bool×Bool×Int) (Bool×Bool)):=
 if decide (q2 < (p1.length:Int)) then ((ix p1 q2).bind λx0=>after (if (x0.Vol==p2)then (Bk (true,q1)) else (ix p1 q2).bind λx1=>(ix p0.Vols x1.Vol).bind λx2=>(ix p0.Vols p2).bind λx3=>after (if (x2.Pool==x3.Pool)then Bk true else Bk q1:Option (Lp (Bool) (Lp (Bool×Bool) (Lp (Bool×Bool×Int) (Bool×Bool))))) λj0=>Bk (q0,j0):Option (Lp (Bool×Bool) (Lp (Bool×Bool×Int) (Bool×Bool)))) λ⟨j1,j2⟩=>Gk (j1,j2,wrap .i64 (q2+1))) else Bk (q0,q1,q2)
def NT (m:Nat) (p0:aA) (p1:List aS) (p2:Int):Option (Bool×Bool):=
 after (aR (λs=>CO m p0 p1 p2 s.1 s.2.1 s.2.2) m (false,false,0)) λ⟨r0,r1,r2⟩=>some (r0,r1)
theorem WH {u:Nat} {p0:aA} {p1:List aS} {p2:Int} {o:Bool×Bool} (h:aF) (m:NT u p0 p1 p2=some o):
 aM prog 112 [.agg (aC p0),.sl none 4 (map aN p1),nZ p2] h (λr h'=>r= .tup [.sc (.bool o.1),.sc (.bool o.2)]/\h'=h):=by
 refine fQ 41 [.tmp 6,.tmp 7] Tryz.func112 rfl rfl rfl rfl ?_
 unfold NT at m
 refine v (gZ rfl rfl λk2 K3=>v (jS m (σ:=Bool×Bool×Int) (λs=>[(some k2,.obj 30 (aC p0))]) (λs=>.c 1 (.sl none 4 (map aN p1)) (.c 2 (nZ p2) (.c 3 (.ptr k2 0) (.c 6 (.sc (.bool s.1)) (.c 7 (.sc (.bool s.2.1)) (.c 8 (nZ s.2.2) .nil)))))) (lx (.k6 .nil)) ?_ ?_))
 rintro _ ⟨q0,q1,q2⟩ x m
 replace m:CO u p0 p1 p2 q0 q1 q2=some x:=m
 unfold CO at m
 refine v (cU kB rfl (v ?_))
 apply vi m<;>intro c0 m
 refine v (v (v (vx m jH rfl rfl λ_ _ m=>fO m (σ:=Bool×Bool) (λs=>[(some k2,.obj 30 (aC p0))]) (λs=>.c 1 (.sl none 4 (map aN p1)) (.c 2 (nZ p2) (.c 3 (.ptr k2 0) (.c 6 (.sc (.bool s.1)) (.c 7 (.sc (.bool s.2)) (.c 8 (nZ q2) .nil)))))) (λx m=> ?_) ?_)))
 refine v ?_
 apply vi m<;>intro c1 m
 exact v (mX m)
 refine v (vq (by kernel_rfl) (vl 0 _ i9 rfl rfl rfl (vx m jH rfl rfl λ_ _ m=>vx m nA rfl rfl λ_ _ m=>vl 0 _ i9 rfl rfl rfl (vx m nA rfl rfl λ_ _ m=>fO m (σ:=Bool) (λs=>[(some k2,.obj 30 (aC p0))]) (λs=>.c 1 (.sl none 4 (map aN p1)) (.c 2 (nZ p2) (.c 3 (.ptr k2 0) (.c 6 (.sc (.bool q0)) (.c 7 (.sc (.bool s)) (.c 8 (nZ q2) .nil)))))) (λx m=> ?_) ?_))))
 refine v ?_
 apply vi m<;>intro c2 m
 exact v (mX m)
 exact v (mX m)
 rintro _ j0 m
 exact mX m
 rintro _ ⟨j1,j2⟩ m
 exact v (mX m)
 exact v (bq6 m)
 rintro _ ⟨r0,r1,r2⟩ m
 refine v (v ?_)
 cases m
 exact vr2 rfl rfl
theorem NU:aP prog 112=true:=by kernel_rfl
def G8 (m:Nat) (p0:aA) (p1:Int) (p2:Bool) (q0:List aE) (q1:Int):Option (Lp ((List aE)×Int) ((List aE))):=
 if decide (q1 < (p0.Chunks.length:Int)) then ((ix p0.Chunks q1).bind λx0=>(NT m p0 x0.Locs p1).bind λy0=>after (if y0.1 then (if (!p2)then Bk true else if (!y0.2)then ((ix p0.Chunks q1).bind λx1=>(WF m p0 x1.Id).bind λy1=>Bk y1) else Bk false) else Bk false:Option (Lp (Bool) (Lp ((List aE)×Int) ((List aE))))) λj0=>after (if j0 then ((ix p0.Chunks q1).bind λx2=>(app q0 ([({ Kind:=1,Id:=x2.Id,Seq:=0,Of:=0,Off:=0,Len:=0}:aE)]:List aE)).bind λz0=>Bk z0) else Bk q0:Option (Lp ((List aE)) (Lp ((List aE)×Int) ((List aE))))) λj1=>Gk (j1,wrap .i64 (q1+1))) else Bk (q0,q1)
def G9 (m:Nat) (p0:aA) (p1:Int) (p2:Bool) (q0:List aE) (q1:Int):Option (Lp ((List aE)×Int) ((List aE))):=
 if decide (q1 < (p0.Snaps.length:Int)) then ((ix p0.Snaps q1).bind λx0=>(NT m p0 x0.Locs p1).bind λy0=>after (if y0.1 then (if (!p2)then Bk true else Bk (!y0.2)) else Bk false:Option (Lp (Bool) (Lp ((List aE)×Int) ((List aE))))) λj0=>after (if j0 then ((ix p0.Snaps q1).bind λx1=>(app q0 ([({ Kind:=2,Id:=gY,Seq:=x1.Seq,Of:=0,Off:=0,Len:=0}:aE)]:List aE)).bind λz0=>Bk z0) else Bk q0:Option (Lp ((List aE)) (Lp ((List aE)×Int) ((List aE))))) λj1=>Gk (j1,wrap .i64 (q1+1))) else Bk (q0,q1)
def HA (m:Nat) (p0:aA) (p1:Int) (p2:Bool) (q0:List aE) (q1:Int):Option (Lp ((List aE)×Int) ((List aE))):=
 if decide (q1 < (p0.Exps.length:Int)) then ((ix p0.Exps q1).bind λx0=>(NT m p0 x0.Locs p1).bind λy0=>after (if y0.1 then (if (!p2)then Bk true else Bk (!y0.2)) else Bk false:Option (Lp (Bool) (Lp ((List aE)×Int) ((List aE))))) λj0=>after (if j0 then ((ix p0.Exps q1).bind λx1=>(ix p0.Exps q1).bind λx2=>(app q0 ([({ Kind:=3,Id:=gY,Seq:=x1.Seq,Of:=x2.Of,Off:=0,Len:=0}:aE)]:List aE)).bind λz0=>Bk z0) else Bk q0:Option (Lp ((List aE)) (Lp ((List aE)×Int) ((List aE))))) λj1=>Gk (j1,wrap .i64 (q1+1))) else Bk (q0,q1)
def M69 (m:Nat) (p0:aA) (p1:Int) (p2:Bool):Option ((List aE)):=
 after (if decide (p1 < 0) then Bk true else Bk (decide ((p0.Vols.length:Int)<=p1)):Option (Lp (Bool) ((List aE)))) λj9=>if j9 then (some []) else after (aR (λs=>G8 m p0 p1 p2 s.1 s.2) m ([],0)) λ⟨r0,r1⟩=>after (aR (λs=>G9 m p0 p1 p2 s.1 s.2) m (r0,0)) λ⟨r2,r3⟩=>after (aR (λs=>HA m p0 p1 p2 s.1 s.2) m (r2,0)) λ⟨r4,r5⟩=>some r4
theorem W69 {w:Nat} {p0:aA} {p1:Int} {p2:Bool} {o:(List aE)} (h:aF) (m:M69 w p0 p1 p2=some o):
 aM prog 69 [.agg (aC p0),nZ p1,.sc (.bool p2)] h (λr h'=>r= .sl none 37 (map aI o)/\h'=h):=by
 refine fQ 157 [.tmp 6] Tryz.func69 rfl rfl rfl rfl ?_
 unfold M69 at m
 refine v (gZ rfl rfl λk2 K3=>v (vs (vs (fO m (σ:=Bool) (λs=>[(some k2,.obj 30 (aC p0))]) (λs=>.c 1 (nZ p1) (.c 2 (.sc (.bool p2)) (.c 3 (.ptr k2 0) (.c 7 (sZ) (.c 25 (.sc (.bool s)) .nil))))) (λx m=> ?_) ?_))))
 refine v ?_
 apply vi m<;>intro b0 m
 rw[b0]
 exact kN m
 rw[b0]
 exact vl 0 _ i9 rfl rfl rfl (cU rF rfl (kN m))
 rintro _ j9 m
 refine v ?_
 apply vi m<;>intro c0 m
 refine v (v ?_)
 cases m
 exact vr λu=>dW.of1 (.inl rfl) (gQ _ _ (.sc (.slice _ _ _)) rfl) (aU (nil_sublist _) u).1 (a9 _) ⟨rfl,rfl⟩
 refine v (v (pM (z6 (.tok 38 37 (([]:List aE).length*37)) 7 (ow none 37 (map aI [])) (gD _ _)) (nU m (σ:=(List aE)×Int) (τ:=Option bT) (λg s=>[(g,.tok 38 37 ((s.1:List aE).length*37)),(some k2,.obj 30 (aC p0))]) (λg s=>(g=none->s.1= [])) (λg s=>.c 1 (nZ p1) (.c 2 (.sc (.bool p2)) (.c 3 (.ptr k2 0) (.c 7 (ow g 37 (map aI s.1)) (.c 8 (nZ s.2) .nil))))) none (λ_=>rfl) (lx (.k5 .nil)) ?_ ?_)))
 rintro tg0 ⟨q0,q1⟩ x t0 m
 replace m:G8 w p0 p1 p2 q0 q1=some x:=m
 unfold G8 at m
 refine v (vl 1 _ fE rfl rfl rfl (cU lH rfl (v ?_)))
 apply vi m<;>intro c1 m
 refine v (v (v (vq (by kernel_rfl) (vl 1 (.agg (aC p0)) dC rfl rfl rfl (vl 1 _ fE rfl rfl rfl (vx m hX rfl rfl λ_ _ m=>vk WH NU m rfl rfl λ_ m=>vs (fO m (σ:=Bool) (λs=>[(tg0,.tok 38 37 ((q0:List aE).length*37)),(some k2,.obj 30 (aC p0))]) (λs=>.c 1 (nZ p1) (.c 2 (.sc (.bool p2)) (.c 3 (.ptr k2 0) (.c 7 (ow tg0 37 (map aI q0)) (.c 8 (nZ q1) (.c 63 (.sc (.bool s)) .nil)))))) (λx m=> ?_) ?_)))))))
 refine v (vq (by kernel_rfl) ?_)
 apply vi m<;>intro b1 m
 rw[b1]
 apply vi m<;>intro b2 m
 rw[b2]
 exact mX m
 rw[b2]
 apply vi m<;>intro b3 m
 rw[b3]
 exact vl 1 (.agg (aC p0)) dC rfl rfl rfl (vl 1 _ fE rfl rfl rfl (vx m hX rfl rfl λx0 _ m=>va (.agg (bC x0.Id)) fA rfl rfl (vk W38 WG m rfl rfl λ_ m=>mX m)))
 rw[b3]
 exact mX m
 rw[b1]
 exact mX m
 rintro _ j0 m
 refine oI m (σ:=(List aE)) (τ:=Option bT) (λg s=>[(g,.tok 38 37 ((s:List aE).length*37)),(some k2,.obj 30 (aC p0))]) (λg s=>(g=none->s= [])) (λg s=>.c 1 (nZ p1) (.c 2 (.sc (.bool p2)) (.c 3 (.ptr k2 0) (.c 7 (ow g 37 (map aI s)) (.c 8 (nZ q1) .nil))))) (λx m=> ?_) ?_
 refine v ?_
 apply vi m<;>intro c2 m
 refine v (vl 1 _ fE rfl rfl rfl (vx m hX rfl rfl λx1 _ m=>va (.agg (bC x1.Id)) fA rfl rfl (bU (eJ (aI ({ Kind:=1,Id:=x1.Id,Seq:=0,Of:=0,Off:=0,Len:=0}:aE)) sQ rfl) (bU (dX (map aI ([({ Kind:=1,Id:=x1.Id,Seq:=0,Of:=0,Off:=0,Len:=0}:aE)]:List aE)) lI rfl rfl rfl rfl) ?_))))
 obtain⟨z0,Z0,m⟩:=aD m
 exact ve λu=>fC (c:=aI) 0 Z0 lI rfl rfl rfl t0 u rfl λtg1 t1 K0=>qk K0 rfl (eG m tg1 t1 (lx (.k5 .nil)))
 exact v (eG m tg0 t0 (lx (.k5 .nil)))
 rintro tg2 j1 t2 m
 exact v (eG m tg2 t2 (lx (.k5 .nil)))
 exact v (lR m tg0 t0 (lx (.k5 .nil)))
 rintro tg3 ⟨r0,r1⟩ t3 m
 refine v (nU m (σ:=(List aE)×Int) (τ:=Option bT) (λg s=>[(g,.tok 38 37 ((s.1:List aE).length*37)),(some k2,.obj 30 (aC p0))]) (λg s=>(g=none->s.1= [])) (λg s=>.c 1 (nZ p1) (.c 2 (.sc (.bool p2)) (.c 3 (.ptr k2 0) (.c 7 (ow g 37 (map aI s.1)) (.c 11 (nZ s.2) .nil))))) tg3 t3 (lx (.k5 .nil)) ?_ ?_)
 rintro tg4 ⟨q2,q3⟩ x t4 m
 replace m:G9 w p0 p1 p2 q2 q3=some x:=m
 unfold G9 at m
 refine v (vl 1 _ fD rfl rfl rfl (cU lA rfl (v ?_)))
 apply vi m<;>intro c3 m
 refine v (v (v (vq (by kernel_rfl) (vl 1 (.agg (aC p0)) dC rfl rfl rfl (vl 1 _ fD rfl rfl rfl (vx m iW rfl rfl λ_ _ m=>vk WH NU m rfl rfl λ_ m=>vs (fO m (σ:=Bool) (λs=>[(tg4,.tok 38 37 ((q2:List aE).length*37)),(some k2,.obj 30 (aC p0))]) (λs=>.c 1 (nZ p1) (.c 2 (.sc (.bool p2)) (.c 3 (.ptr k2 0) (.c 7 (ow tg4 37 (map aI q2)) (.c 11 (nZ q3) (.c 101 (.sc (.bool s)) .nil)))))) (λx m=> ?_) ?_)))))))
 refine v ?_
 apply vi m<;>intro b4 m
 rw[b4]
 apply vi m<;>intro b5 m
 rw[b5]
 exact mX m
 rw[b5]
 exact mX m
 rw[b4]
 exact mX m
 rintro _ j2 m
 refine oI m (σ:=(List aE)) (τ:=Option bT) (λg s=>[(g,.tok 38 37 ((s:List aE).length*37)),(some k2,.obj 30 (aC p0))]) (λg s=>(g=none->s= [])) (λg s=>.c 1 (nZ p1) (.c 2 (.sc (.bool p2)) (.c 3 (.ptr k2 0) (.c 7 (ow g 37 (map aI s)) (.c 11 (nZ q3) .nil))))) (λx m=> ?_) ?_
 refine v ?_
 apply vi m<;>intro c4 m
 refine v (vl 1 _ fD rfl rfl rfl (vx m iW rfl rfl λx2 _ m=>bU (eJ (aI ({ Kind:=2,Id:=gY,Seq:=x2.Seq,Of:=0,Off:=0,Len:=0}:aE)) sQ rfl) (bU (dX (map aI ([({ Kind:=2,Id:=gY,Seq:=x2.Seq,Of:=0,Off:=0,Len:=0}:aE)]:List aE)) lI rfl rfl rfl rfl) ?_)))
 obtain⟨z1,Z1,m⟩:=aD m
 exact ve λu=>fC (c:=aI) 0 Z1 lI rfl rfl rfl t4 u rfl λtg5 t5 K1=>qk K1 rfl (eG m tg5 t5 (lx (.k5 .nil)))
 exact v (eG m tg4 t4 (lx (.k5 .nil)))
 rintro tg6 j3 t6 m
 exact v (eG m tg6 t6 (lx (.k5 .nil)))
 exact v (lR m tg4 t4 (lx (.k5 .nil)))
 rintro tg7 ⟨r2,r3⟩ t7 m
 refine v (nU m (σ:=(List aE)×Int) (τ:=Option bT) (λg s=>[(g,.tok 38 37 ((s.1:List aE).length*37)),(some k2,.obj 30 (aC p0))]) (λg s=>(g=none->s.1= [])) (λg s=>.c 1 (nZ p1) (.c 2 (.sc (.bool p2)) (.c 3 (.ptr k2 0) (.c 7 (ow g 37 (map aI s.1)) (.c 14 (nZ s.2) .nil))))) tg7 t7 (lx (.k5 .nil)) ?_ ?_)
 rintro tg8 ⟨q4,q5⟩ x t8 m
 replace m:HA w p0 p1 p2 q4 q5=some x:=m
 unfold HA at m
 refine v (vl 1 _ iL rfl rfl rfl (cU pT rfl (v ?_)))
 apply vi m<;>intro c5 m
 refine v (v (v (vq (by kernel_rfl) (vl 1 (.agg (aC p0)) dC rfl rfl rfl (vl 1 _ iL rfl rfl rfl (vx m iX rfl rfl λ_ _ m=>vk WH NU m rfl rfl λ_ m=>vs (fO m (σ:=Bool) (λs=>[(tg8,.tok 38 37 ((q4:List aE).length*37)),(some k2,.obj 30 (aC p0))]) (λs=>.c 1 (nZ p1) (.c 2 (.sc (.bool p2)) (.c 3 (.ptr k2 0) (.c 7 (ow tg8 37 (map aI q4)) (.c 14 (nZ q5) (.c 139 (.sc (.bool s)) .nil)))))) (λx m=> ?_) ?_)))))))
 refine v ?_
 apply vi m<;>intro b6 m
 rw[b6]
 apply vi m<;>intro b7 m
 rw[b7]
 exact mX m
 rw[b7]
 exact mX m
 rw[b6]
 exact mX m
 rintro _ j4 m
 refine oI m (σ:=(List aE)) (τ:=Option bT) (λg s=>[(g,.tok 38 37 ((s:List aE).length*37)),(some k2,.obj 30 (aC p0))]) (λg s=>(g=none->s= [])) (λg s=>.c 1 (nZ p1) (.c 2 (.sc (.bool p2)) (.c 3 (.ptr k2 0) (.c 7 (ow g 37 (map aI s)) (.c 14 (nZ q5) .nil))))) (λx m=> ?_) ?_
 refine v ?_
 apply vi m<;>intro c6 m
 refine v (vz [(1000000,some k2,.obj 30 (aC p0))] mixed (λu=>⟨λ_=>aO 1 u rfl,trivial⟩) λu=>zC 0 rfl (fJ (ow _ _ _) rfl) (zF 1 rfl eY rfl (zL 2 0 (.sl none 3 (map cH p0.Exps)) rfl iL rfl rfl rfl (zI 3 rfl rfl ?_))))
 obtain⟨x3,X0,m⟩:=aD m
 refine zC 4 rfl (lV X0 iX rfl rfl) (zC 5 rfl (m9 yD rfl rfl) (zC 6 rfl (l8 (nZ x3.Seq) cB rfl rfl) (zF 7 rfl eY rfl (zL 8 0 (.sl none 3 (map cH p0.Exps)) rfl iL rfl rfl rfl (zI 9 rfl rfl ?_)))))
 obtain⟨x4,X1,m⟩:=aD m
 refine zC 10 rfl (lV X1 iX rfl rfl) (zC 11 rfl (m9 G0 rfl rfl) (zC 12 rfl (l8 (nZ x4.Of) cB rfl rfl) (zC 13 rfl (eJ (aI ({ Kind:=3,Id:=gY,Seq:=x3.Seq,Of:=x4.Of,Off:=0,Len:=0}:aE)) sQ rfl) (zC 14 rfl (dX (map aI ([({ Kind:=3,Id:=gY,Seq:=x3.Seq,Of:=x4.Of,Off:=0,Len:=0}:aE)]:List aE)) lI rfl rfl rfl rfl) ?_))))
 obtain⟨z2,Z2,m⟩:=aD m
 refine zE 15 rfl (fC (c:=aI) 0 Z2 lI rfl rfl rfl t8 u rfl λtg9 t9 K2=>⟨⟨λ_=>aO 1 K2 rfl,trivial⟩, ?_⟩)
 exact zC 16 rfl (iC (ow _ _ _) rfl) (zX (qk (f:=.c 7 _ (Q9 155 _ _ _ _ _ _ _ _ _ _ _ _ _ _ _ _ _)) K2 rfl (eG m tg9 t9 (lx (.k5 .nil)))))
 exact v (eG m tg8 t8 (lx (.k5 .nil)))
 rintro tg10 j5 t10 m
 exact v (eG m tg10 t10 (lx (.k5 .nil)))
 exact v (lR m tg8 t8 (lx (.k5 .nil)))
 rintro tg11 ⟨r4,r5⟩ t11 m
 refine v (v ?_)
 obtain rfl:=eR m
 exact vr λu=>dW.of1 (.inl rfl) (gQ _ _ (ow _ _ _) rfl) (aU (nil_sublist _) u).1 ((dU _ 0 t11 u rfl)) ⟨rfl,rfl⟩
theorem aBR:aP prog 69=true:=by kernel_rfl
def M25 (m:Nat) (p0:aA) (p1:Int):Option ((List aE)):=
 (M69 m p0 p1 false).bind λy6=>some y6
theorem W25 {u:Nat} {p0:aA} {p1:Int} {o:(List aE)} (h:aF) (m:M25 u p0 p1=some o):
 aM prog 25 [.agg (aC p0),nZ p1] h (λr h'=>r= .sl none 37 (map aI o)/\h'=h):=by
 refine fQ 8 [.tmp 4] Tryz.func25 rfl rfl rfl rfl ?_
 unfold M25 at m
 refine v (gZ rfl rfl λk2 K3=>v (vl 0 (.agg (aC p0)) dC rfl rfl rfl (vk W69 aBR m rfl rfl λ_ m=>v ?_)))
 obtain rfl:=eR m
 exact eH rfl
theorem aHC:aP prog 25=true:=by kernel_rfl
def onV (v:Int) (l:List aS):Bool:=l.any λy=>y.Vol==v
def LK (x:aB):aE:={ Kind:=1,Id:=x.Id,Seq:=0,Of:=0,Off:=0,Len:=0}
def QG (x:aH):aE:={ Kind:=2,Id:=gY,Seq:=x.Seq,Of:=0,Off:=0,Len:=0}
def RT (x:aT):aE:={ Kind:=3,Id:=gY,Seq:=x.Seq,Of:=x.Of,Off:=0,Len:=0}
def onL (c:aA) (v:Int):List aE:=(c.Chunks.filter λx=>onV v x.Locs).map LK++(c.Snaps.filter λx=>onV v x.Locs).map QG++(c.Exps.filter λx=>onV v x.Locs).map RT
theorem i7 {α β ρ:Type} {l:List α} {F:Nat} (acc0:List β) (q:α->Bool) (it:α->β) {body:List β×Int->Option (Lp (List β×Int) ρ)} (hF:l.length < F)
    (hb:∀(i:Nat) (x:α),l[i]? =some x->x∈l->i < l.length->∀acc:List β,acc.length<=acc0.length+i->body (acc,(i:Int))=some (.go (if q x then acc++ [it x] else acc,((i+1:Nat):Int))))
    (he:∀acc,body (acc,(l.length:Int))=some (.brk (acc,(l.length:Int)))):aR body F (acc0,0)=some (.brk (acc0++(l.filter q).map it,(l.length:Int))):=by
  have:=iT (body:=body) (s0:=(acc0,(0:Int))) (n:=l.length) (F:=F) (λi:Nat=>(acc0++((l.take i).filter q).map it,(i:Int))) hF (by simp) (λi hi=>by
    have hlen:((l.take i).filter q).length<=i:=le_trans (List.length_filter_le _ _) (by rw[length_take]; omega)
    rw[hb i l[i] (getElem?_eq_getElem hi) (getElem_mem hi) hi _ (by rw[length_append,length_map]; omega)]
    rw[List.take_succ_eq_append_getElem hi,filter_append,map_append]
    cases hq:q l[i]<;>simp[filter,hq]) (he _)
  simpa using this
def aL2 (c:aA) (v:Int):Nat:=((onL c v).filter λx=>x.Kind !=1 || iO c x.Id).length
theorem RU {c:aA} {l:List aS} (h:iH c l=true):∀x∈l,0<=x.Vol/\x.Vol.toNat < c.Vols.length:=by
 intro x hx
 obtain⟨i,hi,rfl⟩:=getElem_of_mem hx
 unfold iH at h
 simp only[and_eq_true,not_eq_true',any_eq_false,mem_range] at h
 have this:EQ c l i=true:=by simpa using h.2 i hi
 unfold EQ at this
 rw[getElem?_eq_getElem hi] at this
 simp only[and_eq_true,fB,decide_eq_true_eq] at this
 obtain⟨⟨⟨⟨⟨k1,k2⟩, -⟩, -⟩, -⟩, -⟩:=this
 omega
theorem KF {c:aA} (hg:gJ c=true):(∀x∈c.Chunks,iH c x.Locs=true)/\(∀x∈c.Snaps,iH c x.Locs=true)/\(∀x∈c.Exps,iH c x.Locs=true):=by
 unfold gJ vM CN AE at hg
 simp only[and_eq_true,not_eq_true',any_eq_false,mem_range] at hg
 obtain⟨⟨⟨⟨-, -⟩,h1, -⟩,h2, -⟩,h3, -⟩:=hg
 refine⟨λx hx=> ?_,λx hx=> ?_,λx hx=> ?_⟩
 ·obtain⟨i,hi,rfl⟩:=getElem_of_mem hx
  have this:IG c i=true:=by simpa using h1 i hi
  unfold IG at this
  rw[getElem?_eq_getElem hi] at this
  simp only[and_eq_true] at this
  exact this.1.2
 ·obtain⟨i,hi,rfl⟩:=getElem_of_mem hx
  have this:DQ c i=true/\F2 c i=true:=by simpa using h2 i hi
  replace this:=this.1
  unfold DQ at this
  rw[getElem?_eq_getElem hi] at this
  simp only[and_eq_true] at this
  exact this.2
 ·obtain⟨i,hi,rfl⟩:=getElem_of_mem hx
  have this:zT c i=true/\KD c i=true:=by simpa using h3 i hi
  replace this:=this.1
  unfold zT at this
  rw[getElem?_eq_getElem hi] at this
  simp only[and_eq_true] at this
  exact this.2
theorem m65 {F:Nat} {c:aA} {d:bH} (hF:1000<=F) (h:Sm c):WF F c d=some (iO c d):=by
 have hsn:=h.sn
 unfold WF
 rw[tM (l:=c.Snaps) (F:=F) (λs=>s.Man.Parts.any λp=>p.Ids.any λx=>decide (d=x)) true (by omega) (λi s hs hm hi=>by
  obtain⟨-,k2,k3⟩:=h.man s hm
  unfold yU
  rw[iG (by omega),tM (l:=s.Man.Parts) (F:=F) (λp=>p.Ids.any λx=>decide (d=x)) (Lp.ret true) (by omega) (λj p hp hm' hj=>by
   have k4:=(k3 p hm').2
   unfold yT
   rw[iG (by omega),tM (l:=p.Ids) (F:=F) (λx=>decide (d=x)) (Lp.ret (Lp.ret true)) (by omega) (λk x hx _ hk=>by
    unfold yS
    rw[iG (by omega)]
    simp only[aX,hs,hp,hx,bind_some,ofNat_lt,hk,decide_true,if_true,decide_eq_true_eq,eq_comm (a:=x)]
    split<;>rfl) (by unfold yS; simp[aX,hs,hp])]
   simp only[aX,hs,bind_some,ofNat_lt,hj,decide_true,if_true]
   cases p.Ids.any λx=>decide (d=x)<;>rfl) (by unfold yT; simp[aX,hs])]
  simp only[ofNat_lt,hi,decide_true,if_true]
  cases s.Man.Parts.any λp=>p.Ids.any λx=>decide (d=x)<;>rfl) (by unfold yU; simp)]
 unfold iO
 cases c.Snaps.any λs=>s.Man.Parts.any λp=>p.Ids.any λx=>decide (d=x)<;>rfl
def UR (c:aA) (p need:Int) (r:List Int) (nt st:Int) (i:Nat):Bool:=match c.Vols[i]?,r[i]? with
 | some x,some z=>x.Pool==p && (i:Int) !=nt && x.State==st && decide (need<=z)
 | _,_=>false
def rO {α:Type} (l:List α) (q:α->Bool):Int:=match (range l.length).find? λi=>(l[i]?).any q with
 | none=> -1
 | some i=>(i:Int)
theorem mM {α:Type} {l:List α} (q:α->Bool) {F:Nat} {body:Int->Option (Lp Int Int)} (hF:l.length < F)
    (hb:∀(i:Nat) (x:α),l[i]? =some x->x∈l->i < l.length->body (i:Int)=some (if q x then .ret (i:Int) else .go ((i+1:Nat):Int))) (he:body (l.length:Int)=some (.brk (l.length:Int))):
    (after (aR body F 0) λ_=>some (-1))=some (rO l q):=by
  rw[eZ (s0:=(0:Int)) (n:=l.length) (F:=F) (λi:Nat=>(i:Int)) (λi=>(l[i]?).any q) (λi=>(i:Int)) hF rfl (λi hi _=>by
    rw[hb i l[i] (getElem?_eq_getElem hi) (getElem_mem hi) hi,getElem?_eq_getElem hi]; rfl) (λ_=>he)]
  unfold LF rO
  cases (range l.length).find? λi=>(l[i]?).any q<;>rfl
theorem aHE {F:Nat} {c:aA} {nm:ByteArray} (hF:1000<=F) (hl:c.Snaps.length < 1000):yK F c nm=some (rO c.Snaps λs=>s.Man.Name.toList==nm.toList):=by
 unfold yK
 refine mM _ (by omega) (λi x hx hm hi=> ?_) (by unfold oU; simp)
 unfold oU
 rw[iG (by omega)]
 simp only[aX,hx,bind_some,ofNat_lt,hi,decide_true,if_true]
 cases x.Man.Name.toList==nm.toList<;>simp
theorem m98 {F:Nat} {l:List aB} {f:aB->Option Bool} (q:aB->Bool) (hF:l.length < F) (hl:l.length < 1000) (hf:∀x∈l,f x=some (q x)):M53 F l f=some (rO l q):=by
 unfold M53
 refine mM q hF (λi x hx hm hi=> ?_) (by unfold yO; simp)
 unfold yO
 rw[iG (by omega)]
 simp only[aX,hx,hf x hm,bind_some,ofNat_lt,hi,decide_true,if_true]
 cases q x<;>simp
theorem m48 {F:Nat} {c:aA} {d:bH} (hF:1000<=F) (hl:c.Chunks.length < 1000):YJ F c d=some (rO c.Chunks λx=>decide (x.Id=d)):=by
 unfold YJ
 rw[m98 (f:=λx0=>M54 F x0 d) (λx=>decide (x.Id=d)) (by omega) hl (λx _=>rfl)]
 rfl
def inP (c:aA) (p:Int) (x:aS):Bool:=fB x.Vol 0 ((c.Vols.length:Int) - 1) && (c.Vols[x.Vol.toNat]?).any λv=>v.Pool==p
theorem m95 {F:Nat} {c:aA} {p:Int} {x:aS} (hv:c.Vols.length < 1000):YI F x c p=some (inP c p x):=by
 unfold YI inP
 rw[wr (by omega) (by omega),T6]
 simp only[bind_some]
 cases h:fB x.Vol 0 ((c.Vols.length:Int) - 1)
 ·rfl
 ·have h':0<=x.Vol/\x.Vol<=(c.Vols.length:Int) - 1:=by simpa [fB] using h
  have hi:x.Vol.toNat < c.Vols.length:=by omega
  simp only[if_true,oQ _ h'.1,getElem?_eq_getElem hi,bind_some,aG,any_some,Bool.true_and]
theorem m46 {F:Nat} {c:aA} {l:List aS} {p:Int} (hF:1000<=F) (hv:c.Vols.length < 1000) (hl:l.length<=300):T4 F c l p=some (l.any (inP c p)):=by
 unfold T4
 rw[m94 (F:=F) (f:=λx0=>YI F x0 c p) (inP c p) (by omega) (by omega) (λx _=>m95 hv)]
 rfl
def mF (l:List Int):aA:={ Seq:=0,Snaps:=[],Chunks:=[],Exps:=[],Vols:=l.map λp=> { Pool:=p,Epoch:=0,State:=1,Files:=0}}
theorem m32 {F:Nat} {l:List Int} (hF:1000<=F) (hl:l.length<=100):M33 F l=some (mF l):=by
  unfold M33
  rw[iT (s0:=(([]:List aQ),(0:Int))) (n:=l.length) (F:=F) (λi:Nat=>((l.take i).map λp=>({ Pool:=p,Epoch:=0,State:=1,Files:=0}:aQ),(i:Int))) (by omega) (by simp) (λi hi=>by
      unfold yR
      have hx:l[i]? =some l[i]:=getElem?_eq_getElem hi
      rw[iG (by omega)]
      simp only[aX,hx,bind_some,ofNat_lt,hi,decide_true,if_true]
      rw[bN (by simp; omega),List.take_succ_eq_append_getElem hi,map_append]; rfl) (by unfold yR; simp)]
  simp[mF,after]
def v9 (p:Int):Bool:=fB p 0 1
theorem RW {l:List Int} (hl:l.length<=8) (hg:gL gI l):Sm (mF l) where
 g:=by
  refine⟨by simp[mF,gI],λ_ h=>by simp[mF] at h,λ_ h=>by simp[mF] at h,λ_ h=>by simp[mF] at h,λx hx=> ?_⟩
  obtain⟨p,hp,rfl⟩:=mem_map.1 hx
  exact⟨hg p hp,by simp[gI],by simp[gI],by simp[gI]⟩
 sn:=by simp[mF]
 ch:=by simp[mF]
 ex:=by simp[mF]
 vo:=by simp[mF]; omega
 sl:=by simp[mF]
 man:=by simp[mF]
 cl:=by simp[mF]
 el:=by simp[mF]
theorem KG {l:List Int} (hl:fB l.length 1 8=true) (hp:l.all v9=true):gJ (mF l)=true:=by
 have h1:(mF l).Vols.all mE=true:=by
  rw[all_eq_true]
  intro x hx
  obtain⟨p,hq,rfl⟩:=mem_map.1 hx
  have:=all_eq_true.1 hp p hq
  simp only[v9,fB,and_eq_true,decide_eq_true_eq] at this
  simp[mE,fB,this.1,this.2]
 have h2:(mF l).Vols.length=l.length:=by simp[mF]
 unfold gJ
 rw[h1,h2,hl]
 simp[mF,vM,CN,AE,fB]
theorem WI {c:aA} (hg:gJ c=true) {i:Nat} {s:aH} (hs:c.Snaps[i]? =some s):DQ c i=true/\LJ c s.Man=true:=by
 unfold gJ CN at hg
 simp only[and_eq_true,not_eq_true',any_eq_false,mem_range] at hg
 obtain⟨⟨⟨⟨-, -⟩, -, -⟩,h2, -⟩, -, -⟩:=hg
 have h:=h2 i (List.getElem?_eq_some_iff.1 hs).1
 have h:DQ c i=true/\F2 c i=true:=by simpa using h
 refine⟨h.1, ?_⟩
 have:=h.2
 unfold F2 at this
 rw[hs] at this
 exact this
theorem WJ {c:aA} (hg:gJ c=true) {i:Nat} {x:aB} (hs:c.Chunks[i]? =some x):IG c i=true:=by
 unfold gJ vM at hg
 simp only[and_eq_true,not_eq_true',any_eq_false,mem_range] at hg
 obtain⟨⟨⟨⟨-, -⟩,h1, -⟩, -, -⟩, -, -⟩:=hg
 have h:=h1 i (List.getElem?_eq_some_iff.1 hs).1
 simpa using h
theorem KH {c:aA} (hg:gJ c=true):c.Vols.all mE=true:=by
 unfold gJ at hg
 simp only[and_eq_true] at hg
 exact hg.1.1.1.2.1
theorem YK {c:aA} (hg:gJ c=true) {l:List aS} (hl:iH c l=true) (hne:l≠ []):l.any (inP c 0)=true\/l.any (inP c 1)=true:=by
 cases l with
 | nil=>exact absurd rfl hne
 | cons x l=>
  obtain⟨h1,h2⟩:=RU hl x (by simp)
  have hv:c.Vols[x.Vol.toNat]? =some c.Vols[x.Vol.toNat]:=getElem?_eq_getElem h2
  have hb:=all_eq_true.1 (KH hg) _ (getElem_mem h2)
  unfold mE fB at hb
  simp only[and_eq_true,decide_eq_true_eq] at hb
  have hr:fB x.Vol 0 ((c.Vols.length:Int) - 1)=true:=by
   simp only[fB,and_eq_true,decide_eq_true_eq]; omega
  have:c.Vols[x.Vol.toNat].Pool=0\/c.Vols[x.Vol.toNat].Pool=1:=by omega
  rcases this with e | e
  ·left; simp only[any_cons,inP,hr,hv,any_some,e]; simp
  ·right; simp only[any_cons,inP,hr,hv,any_some,e]; simp
structure Rng (c:aA):Prop where
 seq:0<=c.Seq/\c.Seq<=1073741824
 sn:c.Snaps.length<=8
 ch:c.Chunks.length<=200
 ex:c.Exps.length<=200
 vo:c.Vols.length<=8
 s:∀s∈c.Snaps,0<=s.Seq/\s.Seq < c.Seq/\vN s.Man=true/\iH c s.Locs=true
 k:∀x∈c.Chunks,x.Data.length<=64/\iH c x.Locs=true
 e:∀x∈c.Exps,0<=x.Seq/\x.Seq < c.Seq/\0<=x.Of/\x.Of < c.Seq/\iH c x.Locs=true
 v:∀x∈c.Vols,0<=x.Pool/\x.Pool<=1/\0<=x.Epoch/\x.Epoch<=1048576/\1<=x.State/\x.State<=3/\0<=x.Files/\x.Files<=65535
theorem rng {c:aA} (hg:gJ c=true):Rng c:=by
 obtain⟨q1,q2,q3⟩:=KF hg
 have hg0:=hg
 unfold gJ at hg0
 simp only[and_eq_true,fB,decide_eq_true_eq] at hg0
 obtain⟨⟨⟨⟨g1,g2,g3⟩,g4,g5⟩,g6,g7⟩,g8,g9⟩:=hg0
 refine⟨g1,g7,g5,g9,by omega,λs hs=> ?_,λx hx=>⟨?_,q1 x hx⟩,λx hx=> ?_,λx hx=> ?_⟩
 ·obtain⟨i,hi,rfl⟩:=getElem_of_mem hs
  have:=(WI hg (getElem?_eq_getElem hi)).1
  unfold DQ at this
  rw[getElem?_eq_getElem hi] at this
  simp only[and_eq_true,fB,decide_eq_true_eq] at this
  obtain⟨⟨⟨⟨h1,h2⟩,h3⟩,h4⟩,h5⟩:=this
  exact⟨h1.1,by omega,h4,h5⟩
 ·obtain⟨i,hi,rfl⟩:=getElem_of_mem hx
  have:=WJ hg (getElem?_eq_getElem hi)
  unfold IG at this
  rw[getElem?_eq_getElem hi] at this
  simp only[and_eq_true] at this
  have:=this.2
  split at this
  ·simp only[fB,and_eq_true,decide_eq_true_eq] at this; omega
  ·simp only[and_eq_true,not_eq_true',decide_eq_false_iff_not] at this; omega
 ·obtain⟨i,hi,rfl⟩:=getElem_of_mem hx
  unfold AE at g8
  simp only[not_eq_true',any_eq_false,mem_range] at g8
  have:=g8 i hi
  have this:zT c i=true/\KD c i=true:=by simpa using this
  have:=this.1
  unfold zT at this
  rw[getElem?_eq_getElem hi] at this
  simp only[and_eq_true,fB,decide_eq_true_eq] at this
  obtain⟨⟨⟨⟨h1,h2⟩,h3⟩,h4⟩,h5⟩:=this
  exact⟨h1.1,by omega,h3.1,by omega,h5⟩
 ·have hb:=all_eq_true.1 g2 x hx
  unfold mE fB at hb
  simp only[and_eq_true,Bool.or_eq_true,decide_eq_true_eq,beq_iff_eq] at hb
  omega
theorem i1:((1:Nat):Int)=1:=rfl
theorem i2:((2:Nat):Int)=2:=rfl
theorem i4:((4:Nat):Int)=4:=rfl
theorem NV {α:Type} {R:α->α->Prop} (tr:∀a b c,R a b->R b c->R a c):∀ {l:List α},(∀(i:Nat) (x y:α),l[i]? =some y->l[i+1]? =some x->R y x)->l.Pairwise R
 | [],_=>.nil
 | [a],_=>List.pairwise_singleton _ _
 | a::b::t,h=>by
  have ih:(b::t).Pairwise R:=NV tr λi x y h1 h2=>h (i+1) x y (by simpa using h1) (by simpa using h2)
  have ab:R a b:=h 0 b a rfl rfl
  refine List.pairwise_cons.2 ⟨λz hz=> ?_,ih⟩
  rcases mem_cons.1 hz with rfl | hz
  ·exact ab
  ·exact tr _ _ _ ab ((List.pairwise_cons.1 ih).1 z hz)
theorem WK {α:Type} {R:α->α->Prop} {l:List α} (h:l.Pairwise R) {i:Nat} {x y:α} (hy:l[i]? =some y) (hx:l[i+1]? =some x):R y x:=by
 obtain⟨h1,e1⟩:=List.getElem?_eq_some_iff.1 hy
 obtain⟨h2,e2⟩:=List.getElem?_eq_some_iff.1 hx
 have:=List.pairwise_iff_getElem.1 h i (i+1) h1 h2 (by omega)
 rwa [e1,e2] at this
theorem p5 {α:Type} {q:α->α->Bool} (tr:∀a b c,q b a=true->q c b=true->q c a=true) (l:List α):
    (∀(i:Nat) (x:α),l[i]? =some x->(i==0 || ((l[i - 1]?).all (q x)))=true)↔l.Pairwise λy x=>q x y=true:=by
  constructor
  . intro h
    refine NV (λa b c h1 h2=>tr a b c h1 h2) λi x y hy hx=> ?_
    have:=h (i+1) x hx
    simpa [hy] using this
  . intro h i x hx
    cases i with
    | zero=>rfl
    | succ i=>
      obtain⟨h1,e1⟩:=List.getElem?_eq_some_iff.1 hx
      have hy:l[i]? =some l[i]:=getElem?_eq_getElem (by omega)
      have:=WK h hy hx
      simp[hy,this]
theorem wU (a b:aS):jU a b=true↔b.Vol < a.Vol\/(a.Vol=b.Vol/\(b.File < a.File\/(a.File=b.File/\b.Off < a.Off))):=by
 unfold jU
 by_cases e1:a.Vol=b.Vol<;>by_cases f1:a.File=b.File<;>simp[e1,f1]
theorem yV (a b c:aS) (h1:jU b a=true) (h2:jU c b=true):jU c a=true:=by
 rw[wU] at*
 omega
def tN (vs:List aQ) (x:aS):Bool:=fB x.Vol 0 ((vs.length:Int) - 1) && (match vs[x.Vol.toNat]? with | none=>false | some v=>v.State==2 && fB x.File 1 v.Files) && fB x.Off 0 16777215 && fB x.Len 13 8013
structure Lk (vs:List aQ) (l:List aS):Prop where
 n:l.length<=200
 a:∀x∈l,tN vs x=true
 o:l.Pairwise λy x=>jU x y=true
theorem m0 {α:Type} {l:List α} {P:α->Prop}:(∀x∈l,P x)↔∀(i:Nat) (x:α),l[i]? =some x->P x:=by
 constructor
 ·exact λh i x hx=>h x (mem_of_getElem? hx)
 ·intro h x hx
  obtain⟨i,hi,rfl⟩:=getElem_of_mem hx
  exact h i _ (getElem?_eq_getElem hi)
theorem oX {α:Type} {l:List α} {q:Nat->Bool} {P:Nat->α->Prop} (h:∀(i:Nat) (x:α),l[i]? =some x->(q i=true↔P i x)):(!(range l.length).any λi=> !q i)=true↔∀(i:Nat) (x:α),l[i]? =some x->P i x:=by
 simp only[not_eq_true',any_eq_false,mem_range,not_eq_true,Bool.not_eq_false']
 constructor
 ·intro k i x hx
  exact(h i x hx).1 (by simpa using k i (List.getElem?_eq_some_iff.1 hx).1)
 ·intro k i hi
  have:=(h i _ (getElem?_eq_getElem hi)).2 (k i _ (getElem?_eq_getElem hi))
  simpa using this
theorem n9 {c:aA} {l:List aS}:iH c l=true↔Lk c.Vols l:=by
 unfold iH
 rw[and_eq_true,oX (P:=λi x=>tN c.Vols x=true/\(i==0 || ((l[i - 1]?).all (jU x)))=true) (λi x hx=>by
  unfold EQ tN
  rw[hx]
  cases l[i - 1]?<;>simp only[and_eq_true,all_none,all_some]<;>exact Iff.rfl)]
 constructor
 ·rintro⟨h1,h2⟩
  exact⟨of_decide_eq_true h1,m0.2 λi x hx=>(h2 i x hx).1,(p5 yV l).1 λi x hx=>(h2 i x hx).2⟩
 ·intro h
  exact⟨decide_eq_true h.n,λi x hx=>⟨h.a x (mem_of_getElem? hx),(p5 yV l).2 h.o i x hx⟩⟩
structure Gd (c:aA):Prop where
 q:fB c.Seq 0 1073741824=true
 v:∀v∈c.Vols,mE v=true
 vn:fB c.Vols.length 1 8=true
 cn:c.Chunks.length<=200
 co:c.Chunks.Pairwise λy x=>ky y.Id < ky x.Id
 cl:∀x∈c.Chunks,Lk c.Vols x.Locs
 cs:∀x∈c.Chunks,if x.Staged then fB x.Data.length 1 64=true else x.Data= []/\x.Locs≠ []
 sn:c.Snaps.length<=8
 so:c.Snaps.Pairwise λy x=>y.Seq < x.Seq
 sq:∀s∈c.Snaps,fB s.Seq 0 (c.Seq - 1)=true
 sm:c.Snaps.Pairwise λy x=>(x.Man.Name==y.Man.Name)=false
 sb:∀s∈c.Snaps,vN s.Man=true
 sl:∀s∈c.Snaps,Lk c.Vols s.Locs
 sp:∀s∈c.Snaps,LJ c s.Man=true
 en:c.Exps.length<=200
 eo:c.Exps.Pairwise λy x=>y.Seq < x.Seq
 eq:∀x∈c.Exps,fB x.Seq 0 (c.Seq - 1)=true/\fB x.Of 0 (x.Seq - 1)=true
 el:∀x∈c.Exps,Lk c.Vols x.Locs
 ee:∀x∈c.Exps,x.Locs≠ []
 ex:∀x∈c.Exps,∀s∈c.Snaps,s.Seq≠x.Of
theorem II {β:Type} {f:β->β->Bool} (l:List β):(∀(i:Nat) (x:β),l[i]? =some x->(!((l.take i).any λy=>f x y))=true)↔l.Pairwise λy x=>f x y=false:=by
 rw[List.pairwise_iff_getElem]
 constructor
 ·intro h i j hi hj hij
  have:=h j _ (getElem?_eq_getElem hj)
  simp only[not_eq_true',any_eq_false,not_eq_true] at this
  exact this l[i] (mem_of_getElem? (i:=i) (by rw[List.getElem?_take_of_lt hij]; exact getElem?_eq_getElem hi))
 ·intro h j x hx
  obtain⟨hj,rfl⟩:=List.getElem?_eq_some_iff.1 hx
  simp only[not_eq_true',any_eq_false,not_eq_true]
  intro y hy
  obtain⟨i,hi,rfl⟩:=getElem_of_mem hy
  simp only[length_take] at hi
  rw[List.getElem_take]
  exact h i j (by omega) hj (by omega)
theorem kV {c:aA}:gJ c=true↔Gd c:=by
  have trS:∀a b d:aH,decide (a.Seq < b.Seq)=true->decide (b.Seq < d.Seq)=true->decide (a.Seq < d.Seq)=true:=λa b d h1 h2=>decide_eq_true (by have:=of_decide_eq_true h1; have:=of_decide_eq_true h2; omega)
  have trE:∀a b d:aT,decide (a.Seq < b.Seq)=true->decide (b.Seq < d.Seq)=true->decide (a.Seq < d.Seq)=true:=λa b d h1 h2=>decide_eq_true (by have:=of_decide_eq_true h1; have:=of_decide_eq_true h2; omega)
  have trC:∀a b d:aB,decide (ky a.Id < ky b.Id)=true->decide (ky b.Id < ky d.Id)=true->decide (ky a.Id < ky d.Id)=true:=λa b d h1 h2=>decide_eq_true (by have:=of_decide_eq_true h1; have:=of_decide_eq_true h2; omega)
  unfold gJ vM CN AE
  simp only[and_eq_true]
  rw[oX (l:=c.Chunks) (P:=λi x=>((i==0 || ((c.Chunks[i - 1]?).all λy=>decide (ky y.Id < ky x.Id)))=true/\iH c x.Locs=true)/\(if x.Staged then fB x.Data.length 1 64 else (!decide (0 < x.Data.length) && !(x.Locs.length==0)))=true) (λi x hx=>by
      unfold IG; rw[hx]; cases c.Chunks[i - 1]?<;>simp only[and_eq_true,all_none,all_some]<;>exact Iff.rfl),
    oX (l:=c.Snaps) (P:=λi s=>((((fB s.Seq 0 (c.Seq - 1)=true/\(i==0 || ((c.Snaps[i - 1]?).all λy=>decide (y.Seq < s.Seq)))=true)/\(!((c.Snaps.take i).any λy=>s.Man.Name==y.Man.Name))=true)/\vN s.Man=true)/\iH c s.Locs=true)/\LJ c s.Man=true) (λi x hx=>by
      unfold DQ F2; rw[hx]; cases c.Snaps[i - 1]?<;>simp only[and_eq_true,all_none,all_some]<;>exact Iff.rfl),
    oX (l:=c.Exps) (P:=λi x=>((((fB x.Seq 0 (c.Seq - 1)=true/\(i==0 || ((c.Exps[i - 1]?).all λy=>decide (y.Seq < x.Seq)))=true)/\fB x.Of 0 (x.Seq - 1)=true)/\(!(x.Locs.length==0))=true)/\iH c x.Locs=true)/\(!c.Snaps.any λs=>s.Seq==x.Of)=true) (λi x hx=>by
      unfold zT KD; rw[hx]; cases c.Exps[i - 1]?<;>simp only[and_eq_true,all_none,all_some]<;>exact Iff.rfl)]
  constructor
  . rintro⟨⟨⟨⟨h1,h2,h3⟩,hc,h4⟩,hs,h5⟩,he,h6⟩
    refine⟨h1,all_eq_true.1 h2,h3,of_decide_eq_true h4, ?_,m0.2 λi x hx=>n9.1 (hc i x hx).1.2,m0.2 λi x hx=> ?_,of_decide_eq_true h5, ?_,m0.2 λi x hx=>(hs i x hx).1.1.1.1.1,(II (f:=λs y:aH=>s.Man.Name==y.Man.Name) c.Snaps).1 λi x hx=>(hs i x hx).1.1.1.2,m0.2 λi x hx=>(hs i x hx).1.1.2,m0.2 λi x hx=>n9.1 (hs i x hx).1.2,m0.2 λi x hx=>(hs i x hx).2,of_decide_eq_true h6, ?_,m0.2 λi x hx=>⟨(he i x hx).1.1.1.1.1,(he i x hx).1.1.1.2⟩,m0.2 λi x hx=>n9.1 (he i x hx).1.2,m0.2 λi x hx=> ?_,m0.2 λi x hx=> ?_⟩
    . exact((p5 (q:=λx y:aB=>decide (ky y.Id < ky x.Id)) trC c.Chunks).1 λi x hx=>(hc i x hx).1.1).imp λh=>of_decide_eq_true h
    . have:=(hc i x hx).2
      cases hst:x.Staged<;>rw[hst] at this
      . simp only[Bool.false_eq_true,if_false,and_eq_true] at this ⊢
        obtain⟨t1,t2⟩:=this
        refine⟨?_, ?_⟩
        . cases hd:x.Data with
          | nil=>rfl
          | cons a b=>rw[hd] at t1; simp at t1
        . intro e; rw[e] at t2; simp at t2
      . simpa using this
    . exact((p5 (q:=λx y:aH=>decide (y.Seq < x.Seq)) trS c.Snaps).1 λi x hx=>(hs i x hx).1.1.1.1.2).imp λh=>of_decide_eq_true h
    . exact((p5 (q:=λx y:aT=>decide (y.Seq < x.Seq)) trE c.Exps).1 λi x hx=>(he i x hx).1.1.1.1.2).imp λh=>of_decide_eq_true h
    . intro e
      have:=(he i x hx).1.1.2
      rw[e] at this
      simp at this
    . have:=(he i x hx).2
      simp only[not_eq_true',any_eq_false,beq_iff_eq] at this
      exact this
  . intro h
    refine⟨⟨⟨⟨h.q,all_eq_true.2 h.v,h.vn⟩,λi x hx=> ?_,decide_eq_true h.cn⟩,λi x hx=> ?_,decide_eq_true h.sn⟩,λi x hx=> ?_,decide_eq_true h.en⟩
    . have hm:=mem_of_getElem? hx
      refine⟨⟨(p5 (q:=λx y:aB=>decide (ky y.Id < ky x.Id)) trC c.Chunks).2 (h.co.imp λh=>decide_eq_true h) i x hx,n9.2 (h.cl x hm)⟩, ?_⟩
      have:=h.cs x hm
      cases hst:x.Staged<;>rw[hst] at this
      . simp only[Bool.false_eq_true,if_false] at this ⊢
        obtain⟨t1,t2⟩:=this
        rw[t1]
        simp[t2]
      . simpa using this
    . have hm:=mem_of_getElem? hx
      exact⟨⟨⟨⟨⟨h.sq x hm,(p5 (q:=λx y:aH=>decide (y.Seq < x.Seq)) trS c.Snaps).2 (h.so.imp λh=>decide_eq_true h) i x hx⟩,(II (f:=λs y:aH=>s.Man.Name==y.Man.Name) c.Snaps).2 h.sm i x hx⟩,h.sb x hm⟩,n9.2 (h.sl x hm)⟩,h.sp x hm⟩
    . have hm:=mem_of_getElem? hx
      refine⟨⟨⟨⟨⟨(h.eq x hm).1,(p5 (q:=λx y:aT=>decide (y.Seq < x.Seq)) trE c.Exps).2 (h.eo.imp λh=>decide_eq_true h) i x hx⟩,(h.eq x hm).2⟩,by simp[h.ee x hm]⟩,n9.2 (h.el x hm)⟩, ?_⟩
      simp only[not_eq_true',any_eq_false,beq_iff_eq]
      exact h.ex x hm
def CP (m:Nat) (p0:List aS):Option (List aS):=app [] p0
theorem RX {w:Nat} {p0:List aS} {o:List aS} (h:aF) (m:CP w p0=some o):
 aM prog 67 [.sl none 4 (map aN p0)] h (λr h'=>∃g:dE,bK g 4 o.length/\bP h [(g.t,.obj 81 (fl aN o g.sp))]/\r=aZ g/\h'=hp h [(g.t,.obj 81 (fl aN o g.sp))]):=by
 refine iZ 8 [.tmp 2] Tryz.func67 rfl rfl rfl rfl ?_
 unfold CP at m
 refine f0 λK1 H1=>dR (qI (iC (.sc (.slice _ _ _)) rfl) (eV (H1 _ _ (f0 λK1 H1=>f0 λK2 H2=>dR (vE rfl (kR (jT rfl (by rw[jH]; rfl) (by rw[bF]; exact rfl) (.inl ⟨_,_,_,rfl,λb hb=> ?_⟩))))))))
 refine eV (H2 _ _ (mT rfl (λhc=> ?_) (λhc=> ?_)))
 have h0:p0= []:=by
   cases p0 with
   | nil=>rfl
   | cons x l=>have:=hb (by simp); rw[this] at hc; cases hc
 subst h0
 obtain⟨rfl, -⟩:=jM m
 exact f0 λK1 H1=>dR (qI (iC (.sc (.slice _ _ _)) rfl) (eV (H1 _ _ (iB (dW.one (.inl rfl) (iJ.refl _) (fT _) ⟨g0,bK.g0 _,bP.none (bP.nil _),rfl,rfl⟩)))))
 exact lM (H1 _ _ (f0 λK1 H1=>dR (kR (qK (c:=aN) (bP.nil _) pG λu=>vE rfl (kR (gG (c:=aN) 0 m pG rfl EM rfl fL rfl rfl (bK.g0 _) u rfl λg ok u=>qI (iC (aw _ _ _) rfl) (eV (H1 _ _ (iB (dW.one (.inl rfl) (iJ.refl _) (bD.refl _ _) ⟨g,ok,u,rfl,rfl⟩))))))))))
theorem RY:aP prog 67=true:=by kernel_rfl
def yW (m:Nat) (p0:List aS) (p1:aS->Option Bool) (q0:Int):Option (Lp (Int) (Int)):=
 if decide (q0 < (p0.length:Int)) then ((ix p0 q0).bind λx0=>(p1 x0).bind λy0=>if y0 then Rk q0 else Gk (wrap .i64 (q0+1))) else Bk q0
def NW (m:Nat) (p0:List aS) (p1:aS->Option Bool):Option (Int):=
 after (aR (λs=>yW m p0 p1 s) m 0) λr0=>some (-1)
theorem aBS {w:Nat} {p0:List aS} {p1:aS->Option Bool} {o:Int} (h:aF) {g_p0:dE} (ok_p0:bK g_p0 4 p0.length) (K0:bP h [(eC g_p0 p0)]) {p1F:Nat} {p1C:List AV} (p1B:aP prog p1F=true) (p1H:∀x0 o h0,iJ h h0->p1 x0=some o->aM prog p1F ([.agg (aN x0)]++p1C) h0 (λr h'=>r= .sc (.bool o)/\h'=h0)) (m:NW w p0 p1=some o):
 aM prog 108 [aZ g_p0,.fn (.func p1F) p1C] (hp h [(eC g_p0 p0)]) (λr h'=>r=nZ o/\h'=hp h [(eC g_p0 p0)]):=by
 refine F1 K0 19 [.tmp 4] Tryz.func108 rfl rfl rfl rfl ?_
 unfold NW at m
 refine vs (v0 (vs (vs (v0 (bU (fK kB ok_p0 rfl) (jS m (σ:=Int) (λs=>[(eC g_p0 p0)]) (λs=>.c 0 (aZ g_p0) (.c 1 (.fn (.func p1F) p1C) (.c 7 (nZ (p0.length:Int)) (.c 8 (nZ s) .nil)))) (lx (.k4 .nil)) ?_ ?_))))))
 rintro _ q0 x m
 replace m:yW w p0 p1 q0=some x:=m
 unfold yW at m
 refine vs (v0 (vs (v0 ?_)))
 apply vi m<;>intro c0 m
 refine v0 (vs (v0 (vs (v0 (vs (v0 ?_))))))
 obtain⟨x1,X0,m⟩:=aD m
 refine bU (dG X0 jH ok_p0 rfl rfl) (vn (λu=>eK (fo:=0) (.agg (aN x1)) X0 fL ok_p0 nD rfl (aO 0 u rfl) (λ_=>rfl)) ?_)
 obtain⟨_,Y0,m⟩:=aD m
 refine vn (λu=>bV (p1H _ _ _ (aU (nil_sublist _) u).1 Y0) rfl p1B rfl) (v0 ?_)
 apply vi m<;>intro c1 m
 refine vs (v0 (v0 (fY m λm=> ?_)))
 obtain rfl:=eR m
 exact vr λu=>dW.of1 (.inl rfl) (gQ _ _ (.sc (.int _ _)) rfl) (bQ u [0] rfl).2 (bD.refl _ _) ⟨rfl,rfl⟩
 exact v0 (v0 (fZ m))
 exact v0 (vB m)
 rintro _ r0 m
 refine vs (v0 (v0 ?_))
 cases m
 exact vr λu=>dW.of1 (.inl rfl) (gQ _ _ (.sc (.int _ _)) rfl) (bQ u [0] rfl).2 (bD.refl _ _) ⟨rfl,rfl⟩
def CQ (m:Nat) (p1:aS->Option Bool) (q0:List aS) (q1:Int) (q2:Int):Option (Lp ((List aS)×Int×Int) ((List aS))):=
 if decide (q2 < (q0.length:Int)) then ((ix q0 q2).bind λx0=>(p1 x0).bind λy0=>after (if (!y0)then ((ix q0 q1).bind λ_=>Bk (q0.set q1.toNat (x0),wrap .i64 (q1+1))) else Bk (q0,q1):Option (Lp ((List aS)×Int) (Lp ((List aS)×Int×Int) ((List aS))))) λ⟨j0,j1⟩=>Gk (j0,j1,wrap .i64 (q2+1))) else Bk (q0,q1,q2)
def WL (m:Nat) (p0:List aS) (p1:aS->Option Bool):Option ((List aS)):=
 (NW m p0 p1).bind λy3=>if (y3==(-1))then (some p0) else after (aR (λs=>CQ m p1 s.1 s.2.1 s.2.2) m (p0,y3,wrap .i64 (y3+1))) λ⟨r0,r1,r2⟩=>grd (decide (0<=r1) && decide (r1 < (r0.length:Int))) <| grd (decide (0<=r1) && decide (r1<=(r0.length:Int))) <| some (r0.take r1.toNat)
theorem aHF {w:Nat} {p0:List aS} {p1:aS->Option Bool} {o:(List aS)} (h:aF) {g_p0:dE} (ok_p0:bK g_p0 4 p0.length) (K0:bP h [(eC g_p0 p0)]) {p1F:Nat} {p1C:List AV} (p1B:aP prog p1F=true) (p1H:∀x0 o h0,iJ h h0->p1 x0=some o->aM prog p1F ([.agg (aN x0)]++p1C) h0 (λr h'=>r= .sc (.bool o)/\h'=h0)) (m:WL w p0 p1=some o):
 aM prog 66 [aZ g_p0,.fn (.func p1F) p1C] (hp h [(eC g_p0 p0)]) (λr h'=>∃g:dE,bK g 4 o.length/\bP h [(g.t,.obj 81 (fl aN o g.sp))]/\r=aZ g/\h'=hp h [(g.t,.obj 81 (fl aN o g.sp))]):=by
 refine F1 K0 42 [.tmp 4] Tryz.func66 rfl rfl rfl rfl ?_
 unfold WL at m
 refine vs (v0 (vs (v0 ?_)))
 obtain⟨_,Y4,m⟩:=aD m
 refine ve λu=>fP ((bM u [0] rfl rfl).1.trans (dP h [(eC g_p0 p0)] []).symm) (dO (aBS (hp h []) ok_p0 (dK [(eC g_p0 p0)] [] (bM u [0] rfl rfl).2).2 p1B (λx0 o h0 hs ho=>p1H x0 o h0 ((aU (nil_sublist _) (dK [(eC g_p0 p0)] [] (bM u [0] rfl rfl).2).1).1.trans hs) ho) Y4) rfl T3 rfl ?_)
 rintro x h' ⟨rfl,rfl⟩
 refine qk u ((dP h [(eC g_p0 p0)] []).trans (bM u [0] rfl rfl).1.symm) (vs (vs (v0 (v0 ?_))))
 apply vi m<;>intro c7 m
 refine vs (v0 (v0 ?_))
 obtain rfl:=eR m
 exact vr λu=>dW.one (.inl rfl) (aU (h0:=h) (L':=[(eC g_p0 p0)]) (.refl _) u).1 (bD.refl _ _) ⟨g_p0,ok_p0,(aU (h0:=h) (L':=[(eC g_p0 p0)]) (.refl _) u).2,rfl,rfl⟩
 refine v0 (vs (vs (v0 (nU m (σ:=(List aS)×Int×Int) (τ:=dE) (λg s=>[(eC g s.1)]) (λg s=>bK g 4 (s.1:List aS).length) (λg s=>.c 0 (aZ g) (.c 1 (.fn (.func p1F) p1C) (.c 5 (nZ s.2.1) (.c 6 (nZ s.2.2) .nil)))) g_p0 ok_p0 (lx (.k4 .nil)) ?_ ?_))))
 rintro ag0 ⟨q0,q1,q2⟩ x O0 m
 replace m:CQ w p1 q0 q1 q2=some x:=m
 unfold CQ at m
 refine vs (vs (v0 (bU (fK kB O0 rfl) (v0 ?_))))
 apply vi m<;>intro c0 m
 refine v0 (vs (v0 (vs (v0 ?_))))
 obtain⟨x1,X0,m⟩:=aD m
 refine bU (dG X0 jH O0 rfl rfl) (vn (λu=>eK (fo:=0) (.agg (aN x1)) X0 fL O0 nD rfl (aO 0 u rfl) (λ_=>rfl)) (ve λu=>bG (JO) u EM rfl rfl λk86 K1=>qk K1 rfl (ve λu=>aL 0 (aN x1) u rfl rfl rfl rfl MZ rfl rfl λK2=>qk K2 rfl (vs (v0 (vl 0 (.agg (aN x1)) nD rfl rfl rfl ?_))))))
 obtain⟨_,Y0,m⟩:=aD m
 refine vn (λu=>bV (p1H _ _ _ (aU (nil_sublist _) u).1 Y0) rfl p1B rfl) (oI m (σ:=(List aS)×Int) (τ:=dE) (λg s=>[(some k86,.obj 81 (aN x1)),(eC g s.1)]) (λg s=>bK g 4 (s.1:List aS).length) (λg s=>.c 0 (aZ g) (.c 1 (.fn (.func p1F) p1C) (.c 5 (nZ s.2) (.c 6 (nZ q2) .nil)))) (λx m=> ?_) ?_)
 refine v0 ?_
 apply vi m<;>intro c1 m
 refine vs (v0 (vl 0 (.agg (aN x1)) nD rfl rfl rfl ?_))
 obtain⟨_,X1,m⟩:=aD m
 exact bU (dG X1 jH O0 rfl rfl) (ve λu=>cY (fo:=0) (x1:aS) 1 u X1 fL O0 rfl rfl rfl rfl (cS.refl _ _) MZ rfl rfl λK3=>qk K3 rfl (v0 (eG m ag0 (bK.set O0) (lx (.k4 .nil)))))
 exact v0 (eG m ag0 O0 (lx (.k4 .nil)))
 rintro ag1 ⟨j0,j1⟩ O1 m
 exact v0 (eG m ag1 O1 (mK [1] rfl rfl (.k4 .nil)))
 exact v0 (lR m ag0 O0 (lx (.k4 .nil)))
 rintro ag2 ⟨r0,r1,r2⟩ t0 m
 refine vs (v0 ?_)
 obtain⟨Z0,m⟩:=pP m
 refine bU (MJ Z0 jH t0 rfl rfl) (ve λu=>TQ 0 u Z0 fL t0 u42 EM rfl rfl rfl rfl λsp0 O2 K4=>qk K4 rfl (vs (v0 ?_)))
 obtain⟨Z1,m⟩:=pP m
 refine bU (MK Z1 t0 jH rfl rfl) (v0 ?_)
 cases m
 exact vr λu=>dW.one (.inl rfl) (aU (h0:=h) (L':=[((⟨ag2.t,r1.toNat,ag2.cap,sp0⟩:dE).t,.obj 81 (fl aN (r0.take r1.toNat:List aS) (⟨ag2.t,r1.toNat,ag2.cap,sp0⟩:dE).sp))]) (.refl _) u).1 (bD.refl _ _) ⟨(⟨ag2.t,r1.toNat,ag2.cap,sp0⟩:dE),O2,(aU (h0:=h) (L':=[((⟨ag2.t,r1.toNat,ag2.cap,sp0⟩:dE).t,.obj 81 (fl aN (r0.take r1.toNat:List aS) (⟨ag2.t,r1.toNat,ag2.cap,sp0⟩:dE).sp))]) (.refl _) u).2,rfl,rfl⟩
theorem aHG:aP prog 66=true:=by kernel_rfl
def M65 (m:Nat) (p0:List aS) (p1:Bool) (c0:Int) (c1:aA) (c2:Int):Option (Bool):=
 (CP m p0).bind λy3=>(WL m y3 (λx0=>M68 m x0 c0)).bind λy9=>after (if p1 then ((M64 m p0 c0).bind λy0=>if y0 then ((T4 m c1 y9 c2).bind λy1=>Bk (!y1)) else Bk false) else Bk false:Option (Lp (Bool) (Bool))) λj0=>some j0
theorem W65 {w:Nat} {p0:List aS} {p1:Bool} {c0:Int} {c1:aA} {c2:Int} {o:Bool} (h:aF) {c0K:bT} (c0H:h c0K=some (.obj 3 (eO c0))) {c1K:bT} (c1H:h c1K=some (.obj 30 (aC c1))) {c2K:bT} (c2H:h c2K=some (.obj 3 (eO c2))) (m:M65 w p0 p1 c0 c1 c2=some o):
 aM prog 65 [.sl none 4 (map aN p0),.sc (.bool p1),.ptr c0K 0,.ptr c1K 0,.ptr c2K 0] h (λr h'=>r= .sc (.bool o)/\h'=h):=by
 refine fQ 26 [.tmp 7] Tryz.func65 rfl rfl rfl rfl ?_
 unfold M65 at m
 refine vs (v0 (vs (v0 ?_)))
 obtain⟨y3,Y4,m⟩:=aD m
 refine ve λu=>dO (RX _ Y4) rfl RY rfl ?_
 rintro x h' ⟨ag5,O6,K7,rfl,rfl⟩
 refine qk (bP.co u K7) (kU _ _ _) ?_
 obtain⟨y9,Y0,m⟩:=aD m
 refine ve λu=>fP ((bM u [0] rfl rfl).1.trans (dP h [(eC ag5 y3)] []).symm) (dO (aHF (hp h []) O6 (dK [(eC ag5 y3)] [] (bM u [0] rfl rfl).2).2 aGI (λ_ o h0 hs ho=>W68 _ (hs _ _ (gP (dK [(eC ag5 y3)] [] (bM u [0] rfl rfl).2).1 c0H)) ho) Y0) rfl aHG rfl ?_)
 rintro x h' ⟨ag0,O0,K0,rfl,rfl⟩
 have K1:=bM (L':=[(eC ag0 y9)]) (eA (dK [(eC ag5 y3)] [] (bM u [0] rfl rfl).2).1 K0) [0] rfl rfl
 refine qk K1.2 ((dP h [(eC ag0 y9)] []).trans K1.1) (vs (fO m (σ:=Bool) (λs=>[(eC ag0 y9)]) (λs=>.c 7 (.sc (.bool s)) .nil) (λx m=> ?_) ?_))
 refine v0 ?_
 apply vi m<;>intro b0 m
 rw[b0]
 refine vn (λu=>gO (nZ c0) cB rfl (gP u c0H) rfl) (vk W64 aBB m rfl rfl λ_ m=> ?_)
 apply vi m<;>intro b1 m
 rw[b1]
 refine vn (λu=>gO (.agg (aC c1)) dC rfl (gP u c1H) rfl) (vn (λu=>gO (nZ c2) cB rfl (gP u c2H) rfl) ?_)
 obtain⟨_,Y1,m⟩:=aD m
 exact vn (λu=>bV (fN (.cons (Br.refl _ _) (.cons (Br.aw 0 fL O0 u rfl) (.cons (Br.refl _ _) .nil))) rfl (W21 _ Y1)) rfl RQ rfl) (n5 m)
 rw[b1]
 exact n5 m
 rw[b0]
 exact n5 m
 rintro _ j0 m
 refine v0 ?_
 obtain rfl:=eR m
 exact vr λu=>dW.of1 (.inl rfl) (gQ _ _ (.sc (.bool _)) rfl) (aU (nil_sublist _) u).1 (bD.refl _ _) ⟨rfl,rfl⟩
theorem aHI:aP prog 65=true:=by kernel_rfl
def M24 (m:Nat) (p0:aA) (p1:Int):Option ((List aE)):=
 after (if decide (p1 < 0) then Bk true else if decide ((p0.Vols.length:Int)<=p1) then Bk true else (RK m p0).bind λy0=>Bk (y0 !=0):Option (Lp (Bool) ((List aE)))) λj0=>if j0 then (some []) else (ix p0.Vols p1).bind λx2=>(VZ m p0 (λx0 x1=>M65 m x0 x1 p1 p0 x2.Pool)).bind λy1=>some y1
theorem W24 {w:Nat} {p0:aA} {p1:Int} {o:(List aE)} (h:aF) (m:M24 w p0 p1=some o):
 aM prog 24 [.agg (aC p0),nZ p1] h (λr h'=>r= .sl none 37 (map aI o)/\h'=h):=by
 refine fQ 29 [.tmp 4] Tryz.func24 rfl rfl rfl rfl ?_
 unfold M24 at m
 refine v (gZ rfl rfl λk2 K3=>gZ rfl rfl λk5 K6=>vs (vs (fO m (σ:=Bool) (λs=>[(some k5,.obj 3 (eO p1)),(some k2,.obj 30 (aC p0))]) (λs=>.c 2 (.ptr k2 0) (.c 3 (.ptr k5 0) (.c 19 (.sc (.bool s)) .nil))) (λx m=> ?_) ?_)))
 refine v (vl 0 _ cB rfl rfl rfl ?_)
 apply vi m<;>intro b0 m
 rw[b0]
 exact hH m
 rw[b0]
 refine vl 0 _ cB rfl rfl rfl (vl 1 _ i9 rfl rfl rfl (cU rF rfl ?_))
 apply vi m<;>intro b1 m
 rw[b1]
 exact hH m
 rw[b1]
 exact vl 1 (.agg (aC p0)) dC rfl rfl rfl (vk W31 NF m rfl rfl λ_ m=>hH m)
 rintro _ j0 m
 refine v ?_
 apply vi m<;>intro c0 m
 refine v (v ?_)
 cases m
 exact vr λu=>dW.of1 (.inl rfl) (gQ _ _ (.sc (.slice _ _ _)) rfl) (aU (nil_sublist _) u).1 (a9 _) ⟨rfl,rfl⟩
 refine v (v (vl 1 _ i9 rfl rfl rfl (vl 0 _ cB rfl rfl rfl (vx m nA rfl rfl λx0 _ m=>ve λu=>bG (eO 0) u zr3 rfl rfl λk25 K0=>qk K0 rfl (ve λu=>aL 0 (eO x0.Pool) u rfl rfl rfl rfl A2 rfl rfl λK1=>qk K1 rfl (v (vl 2 (.agg (aC p0)) dC rfl rfl rfl ?_)))))))
 obtain⟨_,Y0,m⟩:=aD m
 refine vn (λu=>bV (W50 _ aHI (λ_ _ o h0 hs ho=>W65 _ (hs _ _ (aW 1 u rfl)) (hs _ _ (aW 2 u rfl)) (hs _ _ (aW 0 u rfl)) ho) Y0) rfl V0 rfl) (v ?_)
 obtain rfl:=eR m
 exact eH rfl
theorem aHK:aP prog 24=true:=by kernel_rfl
theorem kK {α:Type} {l:List α} {q:α->Bool} (h:l.any q=true):∃(i:Nat) (x:α),rO l q=(i:Int)/\l[i]? =some x/\q x=true/\∀y∈l.take i,q y=false:=by
 unfold rO
 cases e:(range l.length).find? λi=>(l[i]?).any q with
 | none=>
  exfalso
  obtain⟨x,hx,hq⟩:=List.any_eq_true.1 h
  obtain⟨i,hi,rfl⟩:=getElem_of_mem hx
  have:=List.find?_eq_none.1 e i (mem_range.2 hi)
  simp[hi,hq] at this
 | some i=>
  obtain⟨h1,h2,h3⟩:=List.find?_range_eq_some.1 e
  cases e2:l[i]? with
  | none=>rw[e2] at h1; cases h1
  | some x=>
   refine⟨i,x,rfl,e2,by rw[e2] at h1; simpa using h1,λy hy=> ?_⟩
   obtain⟨j,hj,rfl⟩:=getElem_of_mem hy
   rw[length_take] at hj
   have h4:=h3 j (by omega)
   have:l[j]? =some l[j]:=getElem?_eq_getElem (by omega)
   rw[this] at h4
   rw[List.getElem_take]
   simpa using h4
theorem mN {α:Type} {l:List α} {q:α->Bool} (h:l.any q=false):rO l q= -1:=by
 unfold rO
 have:(range l.length).find? (λi=>(l[i]?).any q)=none:=by
  rw[List.find?_eq_none]
  intro i hi
  have hi:=mem_range.1 hi
  rw[getElem?_eq_getElem hi]
  have:=any_eq_false.1 h l[i] (getElem_mem hi)
  simpa using this
 rw[this]
theorem NX {α ρ:Type} {l:List α} {q:α->Bool} {F:Nat} {body:List α×Int×Int->Option (Lp (List α×Int×Int) ρ)} {i0:Nat} {x0:α} (hF:l.length < F) (h0:l[i0]? =some x0) (hq:q x0=true) (hn:∀y∈l.take i0,q y=false)
    (hb:∀(cur:List α) (w r:Nat) (x:α),cur.length=l.length->w < r->r < l.length->cur[r]? =some x->x∈l->body (cur,(w:Int),(r:Int))=some (.go (if q x then (cur,(w:Int),((r+1:Nat):Int)) else (cur.set w x,((w+1:Nat):Int),((r+1:Nat):Int)))))
    (he:∀(cur:List α) (w:Nat),cur.length=l.length->body (cur,(w:Int),(l.length:Int))=some (.brk (cur,(w:Int),(l.length:Int)))):
    ∃(cur:List α) (w:Nat),aR body F (l,(i0:Int),((i0+1:Nat):Int))=some (.brk (cur,(w:Int),(l.length:Int)))/\w < l.length/\cur.length=l.length/\cur.take w=l.filter λx=> !q x:=by
  have hi0:=(List.getElem?_eq_some_iff.1 h0).1
  have hx0:=(List.getElem?_eq_some_iff.1 h0).2
  obtain⟨s,⟨cur,w,e1,e2,e3,e4,e5⟩,h3⟩:=n7 (body:=body) (I:=λk s=>∃(cur:List α) (w:Nat),s=(cur,(w:Int),(k:Int))/\w < k/\cur.length=l.length/\cur.take w=((l.take k).filter λx=> !q x)/\cur.drop k=l.drop k) (n:=l.length) (λk s hk hI=>by
    obtain⟨cur,w,rfl,i2,i3,i4,i5⟩:=hI
    have hx:cur[k]? =l[k]? :=by
      have:=congrArg (λz=>z[0]?) i5
      simpa [List.getElem?_drop] using this
    have hlk:l[k]? =some l[k]:=getElem?_eq_getElem hk
    rw[hlk] at hx
    have htk:=List.take_succ_eq_append_getElem hk
    have hmem:=getElem_mem hk
    generalize l[k]=x at hx htk hmem
    have hd:cur.drop (k+1)=l.drop (k+1):=by
      have:=congrArg (List.drop 1) i5
      simpa [List.drop_drop,Nat.add_comm] using this
    refine⟨_,hb cur w k x i3 i2 hk hx hmem, ?_⟩
    cases hqx:q x
    . refine⟨cur.set w x,w+1,by simp,by omega,by simpa using i3, ?_, ?_⟩
      . rw[htk,filter_append,<- i4]
        have hw:w < (cur.set w x).length:=by rw[length_set]; omega
        rw[List.take_succ_eq_append_getElem hw,List.getElem_set_self,List.take_set_of_le (Nat.le_refl _)]
        simp[filter,hqx]
      . rw[List.drop_set_of_lt (by omega)]
        exact hd
    . refine⟨cur,w,by simp,by omega,i3, ?_,hd⟩
      rw[htk,filter_append,<- i4]
      simp[filter,hqx]) (λs hI=>by
    obtain⟨cur,w,rfl,i2,i3, -⟩:=hI
    exact he cur w i3) F (i0+1) (l,(i0:Int),((i0+1:Nat):Int)) hi0 (by omega) ⟨l,i0,rfl,by omega,rfl,by
      rw[List.take_succ_eq_append_getElem hi0,filter_append,hx0]
      have:(l.take i0).filter (λx=> !q x)=l.take i0:=List.filter_eq_self.2 λy hy=>by simp[hn y hy]
      rw[this]
      simp[filter,hq],rfl⟩
  subst e1
  refine⟨cur,w,h3,by omega,e3, ?_⟩
  rw[e4,List.take_length]
def oA (c:aA) (g:List aS->Bool->Bool):List aE:=(c.Chunks.filter λx=>g x.Locs (iO c x.Id)).map LK++(c.Snaps.filter λx=>g x.Locs true).map QG++(c.Exps.filter λx=>g x.Locs true).map RT
theorem aHL {F:Nat} {c:aA} {f:List aS->Bool->Option Bool} (g:List aS->Bool->Bool) (hF:1000<=F) (h:Sm c) (hf:∀l b,l.length<=300->f l b=some (g l b)):VZ F c f=some (oA c g):=by
 have hsn:=h.sn
 have hch:=h.ch
 have hex:=h.ex
 unfold VZ
 rw[i7 (l:=c.Chunks) [] (λx=>g x.Locs (iO c x.Id)) LK (by omega) (λi x hx hm hi acc ha=>by
  unfold yL
  rw[iG (by omega)]
  simp only[aX,hx,bind_some,ofNat_lt,hi,decide_true,if_true,m44 hF h,hf _ _ (h.cl x hm).1]
  simp only[List.length_nil] at ha
  rw[bN (by simp; omega)]
  cases g x.Locs (iO c x.Id)<;>rfl) (λacc=>by unfold yL; simp)]
 simp only[aG,List.nil_append]
 have l1:((c.Chunks.filter λx=>g x.Locs (iO c x.Id)).map LK).length<=400:=by rw[length_map]; exact le_trans (List.length_filter_le _ _) hch
 rw[i7 (l:=c.Snaps) _ (λx=>g x.Locs true) QG (by omega) (λi x hx hm hi acc ha=>by
  unfold yM
  rw[iG (by omega)]
  simp only[aX,hx,bind_some,ofNat_lt,hi,decide_true,if_true,hf _ _ (h.sl x hm)]
  rw[bN (by simp; omega)]
  cases g x.Locs true<;>rfl) (λacc=>by unfold yM; simp)]
 simp only[aG]
 have l2:((c.Snaps.filter λx=>g x.Locs true).map QG).length<=12:=by rw[length_map]; exact le_trans (List.length_filter_le _ _) hsn
 rw[i7 (l:=c.Exps) _ (λx=>g x.Locs true) RT (by omega) (λi x hx hm hi acc ha=>by
  unfold yN
  rw[iG (by omega)]
  simp only[aX,hx,bind_some,ofNat_lt,hi,decide_true,if_true,hf _ _ (h.el x hm)]
  rw[length_append] at ha
  rw[bN (by simp; omega)]
  cases g x.Locs true<;>rfl) (λacc=>by unfold yN; simp)]
 rfl
end Go.Proofs.YtbbifdfldpfphaaGreat
namespace Go.Vm
abbrev OG:=Option dE
def oT (og:OG):Option bT:=og.bind (·.t)
def oS (og:OG):List AV:=og.elim [] (·.sp)
def awO {β:Type} (ci:β->List AV) (szi:Nat) (og:OG) (l:List β):AV:=match og with
 | some g=>aw g.t g.n g.cap
 | none=>.sl none szi (l.map ci)
structure dI where
 a:dE
 gs:List OG
def gx (gs:List OG) (i:Nat):OG:=(gs[i]?).getD none
def zg {α:Type} (xs:List α) (gs:List OG):List (α×OG):=xs.zip gs
def nl {α β:Type} (l:α->List β) (ys:List (α×OG)):List (List β×OG):=ys.map λy=>(l y.1,y.2)
def lO {β:Type} (ty:TypeId) (ci:β->List AV) (zs:List (List β×OG)):HL:=zs.map λz=>(oT z.2,.obj ty (fl ci z.1 (oS z.2)))
structure tO {α β:Type} (l:α->List β) (sz szi:Nat) (g:dI) (xs:List α):Prop where
 a:bK g.a sz xs.length
 len:g.gs.length=xs.length
 el:∀z∈nl l (zg xs g.gs),∀g',z.2=some g'->bK g' szi z.1.length
section
variable {α β:Type} {l:α->List β} {sz szi:Nat}
theorem vP {xs:List α} {gs:List OG} (h:gs.length=xs.length):(zg xs gs).length=xs.length:=by simp[zg,List.length_zip,h]
theorem tO.z {g:dI} {xs:List α} (ok:tO l sz szi g xs):bK g.a sz (zg xs g.gs).length:=by rw[vP ok.len]; exact ok.a
theorem HB {xs:List α} {gs:List OG} (h:gs.length=xs.length) {k:Nat} {x:α} (hx:xs[k]? =some x):(zg xs gs)[k]? =some (x,gx gs k):=by
 obtain⟨hk,rfl⟩:=List.getElem?_eq_some_iff.1 hx
 have hk':k < gs.length:=by omega
 simp[zg,gx,List.getElem?_zip_eq_some,hk,hk']
theorem aBT {xs:List α} {gs:List OG} (h:gs.length=xs.length) {i:Int} {x:α} (hx:ix xs i=some x):ix (zg xs gs) i=some (x,gx gs i.toNat):=by
 obtain⟨h1,h2,h3⟩:=fU hx
 unfold ix
 rw[if_pos h1]
 exact HB h h3
theorem NY {xs:List α} {gs:List OG} (k:Nat) (x:α) (og:OG):(zg xs gs).set k (x,og)=zg (xs.set k x) (gs.set k og):=by
 unfold zg
 induction xs generalizing gs k with
 | nil=>simp
 | cons y ys ih=>cases gs with
  | nil=>simp
  | cons g gs=>cases k with
   | zero=>simp
   | succ k=>simp[ih]
theorem RZ {gs:List OG} (k:Nat) (h:k < gs.length):gs.set k (gx gs k)=gs:=by
 apply List.ext_getElem?
 intro i
 rw[getElem?_set]
 split
 ·rename_i e; subst e; simp[gx,h]
 ·rfl
theorem tO.ix {g:dI} {xs:List α} (ok:tO l sz szi g xs) {i:Int} {x:α} (hx:ix xs i=some x):Vm.ix (zg xs g.gs) i=some (x,gx g.gs i.toNat):=aBT ok.len hx
theorem tO.set {g:dI} {xs:List α} {i:Int} {x x':α} (ok:tO l sz szi g xs) (hx:Vm.ix xs i=some x) (e:l x'=l x):
    tO l sz szi g (xs.set i.toNat x')/\(zg xs g.gs).set i.toNat (x',gx g.gs i.toNat)=zg (xs.set i.toNat x') g.gs/\nl l (zg (xs.set i.toNat x') g.gs)=nl l (zg xs g.gs):=by
  obtain⟨h1,h2,h3⟩:=fU hx
  have hk:i.toNat < xs.length:=(List.getElem?_eq_some_iff.1 h3).1
  have e1:(zg xs g.gs).set i.toNat (x',gx g.gs i.toNat)=zg (xs.set i.toNat x') g.gs:=by rw[NY,RZ _ (by have:=ok.len; omega)]
  have e2:nl l (zg (xs.set i.toNat x') g.gs)=nl l (zg xs g.gs):=by
    rw[<- e1]
    unfold nl
    rw[map_set]
    apply List.ext_getElem?
    intro j
    rw[getElem?_set]
    split
    . rename_i q; subst q
      have h5:=HB ok.len h3
      rw[getElem?_map,h5]
      simp[e,vP ok.len,hk]
    . rfl
  exact⟨⟨by rw[length_set]; exact ok.a,by rw[length_set]; exact ok.len,by rw[e2]; exact ok.el⟩,e1,e2⟩
theorem tO.setL {g:dI} {xs:List α} {i:Int} {x x':α} (ok:tO l sz szi g xs) (hx:Vm.ix xs i=some x) (g':dE) (hg:bK g' szi (l x').length):
    tO l sz szi ⟨g.a,g.gs.set i.toNat (some g')⟩ (xs.set i.toNat x')/\(zg xs g.gs).set i.toNat (x',some g')=zg (xs.set i.toNat x') (g.gs.set i.toNat (some g'))/\
      nl l (zg (xs.set i.toNat x') (g.gs.set i.toNat (some g')))=(nl l (zg xs g.gs)).set i.toNat (l x',some g'):=by
  obtain⟨h1,h2,h3⟩:=fU hx
  have e1:(zg xs g.gs).set i.toNat (x',some g')=zg (xs.set i.toNat x') (g.gs.set i.toNat (some g')):=NY _ _ _
  have e2:nl l (zg (xs.set i.toNat x') (g.gs.set i.toNat (some g')))=(nl l (zg xs g.gs)).set i.toNat (l x',some g'):=by
    rw[<- e1]; unfold nl; rw[map_set]
  refine⟨⟨by rw[length_set]; exact ok.a,by simp[ok.len], ?_⟩,e1,e2⟩
  show ∀z∈nl l (zg (xs.set i.toNat x') (g.gs.set i.toNat (some g'))),_
  rw[e2]
  intro z hz g2 hg2
  rcases List.mem_or_eq_of_mem_set hz with hz | rfl
  . exact ok.el z hz g2 hg2
  . cases hg2; exact hg
theorem tO.nlat {g:dI} {xs:List α} {i:Int} {x:α} (ok:tO l sz szi g xs) (hx:Vm.ix xs i=some x):(nl l (zg xs g.gs))[i.toNat]? =some (l x,gx g.gs i.toNat):=by
 obtain⟨h1,h2,h3⟩:=fU hx
 unfold nl
 rw[getElem?_map,HB ok.len h3]
 rfl
theorem tO.plain {a:dE} {xs:List α} (ok:bK a sz xs.length):tO l sz szi ⟨a,replicate xs.length none⟩ xs:=⟨ok,by simp,λz hz g' e=>by
 unfold nl zg at hz
 obtain⟨y,hy,rfl⟩:=mem_map.1 hz
 have:=(of_mem_zip hy).2
 rw[mem_replicate] at this
 simp only at e
 rw[this.2] at e
 cases e⟩
variable {ty:TypeId} {ci:β->List AV} {h0:aF}
theorem yX {γ:Type}:∀ {zs:List γ} {j:Nat} {z:γ},zs[j]? =some z->zs.Perm (z::zs.eraseIdx j)
 | [],_,_,h=>by simp at h
 | y::ys,0,z,h=>by
  simp only[List.getElem?_cons_zero,Option.some.injEq] at h
  subst h
  exact .refl _
 | y::ys,j+1,z,h=>by
  have:=yX (zs:=ys) (j:=j) (z:=z) (by simpa using h)
  simp only[List.eraseIdx_cons_succ]
  exact(this.cons y).trans (.swap z y _)
theorem IJ {zs:List (List β×OG)} {j:Nat} {z:List β×OG} (hz:zs[j]? =some z):(lO ty ci zs).Perm ((oT z.2,.obj ty (fl ci z.1 (oS z.2)))::lO ty ci (zs.eraseIdx j)):=by
 exact(yX hz).map _
theorem R0 {zs:List (List β×OG)} {j:Nat} (z:List β×OG) (hj:j < zs.length):(lO ty ci (zs.set j z)).Perm ((oT z.2,.obj ty (fl ci z.1 (oS z.2)))::lO ty ci (zs.eraseIdx j)):=by
 have:=IJ (ty:=ty) (ci:=ci) (zs:=zs.set j z) (j:=j) (z:=z) (by simp[hj])
 rwa [List.eraseIdx_set_eq] at this
theorem vQ {k:bT} {e:jC}:∀ {L:HL},bP h0 L->(some k,e)∈L->hp h0 L k=some e
 | [],_,h=>by cases h
 | (t,e')::r,ok,h=>by
  rcases mem_cons.1 h with h | h
  ·cases h; simp only[hp,cW]
  ·have ih:=vQ (L:=r) ok.1 h
   cases t with
   | none=>exact ih
   | some k'=>
    have hne:k≠k':=λq=>by
     have:=ok.2 k' rfl
     rw[<- q,ih] at this
     cases this
    simp only[hp]
    rw[cF _ _ hne,ih]
theorem HC {k:bT} {e:jC}:∀ {L:HL},bP h0 L->(some k,e)∈L->h0 k=none
 | [],_,h=>by cases h
 | (t,e')::r,ok,h=>by
  rcases mem_cons.1 h with h | h
  ·cases h
   have:=ok.2 k rfl
   exact mV (aU (nil_sublist r) ok.1).1 this
  ·exact HC ok.1 h
theorem HD {k:bT}:∀ {L:HL},h0 k=none->(∀e,(some k,e) ∉ L)->hp h0 L k=none
 | [],h,_=>h
 | (t,e')::r,h,hn=>by
  have ih:=HD (L:=r) h λe q=>hn e (mem_cons_of_mem _ q)
  cases t with
  | none=>exact ih
  | some k'=>
   have hne:k≠k':=λq=>hn e' (by rw[q]; exact mem_cons_self)
   simp only[hp]
   rw[cF _ _ hne,ih]
theorem CR {k:bT} {e e':jC}:∀ {A F:HL},bP h0 (A++F)->(some k,e)∈F->(some k,e') ∉ A
 | [],_,_,_=>nofun
 | (t,e2)::A,F,ok,h=>λq=>by
  rcases mem_cons.1 q with q | q
  ·cases q
   have:=ok.2 k rfl
   rw[vQ ok.1 (List.mem_append_right _ h)] at this
   cases this
  ·exact CR ok.1 h q
theorem uQ.append {H:aF} {xs ys:List AV} (h:uQ H xs ys) {us vs:List AV} (h2:uQ H us vs):uQ H (xs++us) (ys++vs):=by
 induction h with
 | nil=>exact h2
 | cons a _ ih=>exact .cons a ih
theorem uQ.flat {γ:Type} {H:aF} {c c':γ->List AV}:∀ {ys:List γ},(∀y∈ys,uQ H (c y) (c' y))->uQ H (ys.map c).flatten (ys.map c').flatten
 | [],_=>.nil
 | y::ys,h=>by
  simp only[map_cons,flatten_cons]
  exact(h y mem_cons_self).append (uQ.flat λz hz=>h z (mem_cons_of_mem _ hz))
theorem Br.vwN {γ:Type} {c c':γ->List AV} {ys:List γ} {H:aF} {k:bT} {ty:TypeId} {sp:List AV} {sz cap:Nat} (hc:∀y,(c' y).length=sz) (hk:H k=some (.obj ty (fl c ys sp))) (hb:∀y∈ys,uQ H (c y) (c' y)):Br H (.vw k ys.length cap) (.sl none sz (ys.map c')):=by
 intro E w v r hv
 simp only[VR] at hv ⊢
 obtain⟨g,hg,rfl,h1,h2⟩:=hv
 obtain⟨g',cur,e1,e2,e3,e4⟩:=r.obj _ _ _ hk
 rw[hg] at e1; cases e1
 refine⟨_,cap,by rw[length_map],by rw[length_map]; exact h1,h2, ?_, ?_,nofun⟩
 ·refine .inr ⟨g,0,rfl,jK.2 ?_⟩
  have htake:cI E w (ys.map c).flatten (cur.toList.take ((ys.map c).flatten.length)):=by
   have:=fS ((ys.map c).flatten.length) e3
   rwa [fl,List.take_left' rfl] at this
  refine eT ((uQ.flat hb).spec r htake) (λu hu=>e4 u (mem_of_mem_take hu)) ?_
  intro j u hj
  rw[getElem?_take] at hj
  split at hj
  ·have hcell:w.cell? ⟨g,0+j,none⟩=some u:=by
    simp only[cell?,e2,zero_add]
    simpa using hj
   exact⟨hcell,.inl (.inr ⟨⟨k,.inl ⟨_,rfl,hk,hg⟩⟩,u,hcell⟩)⟩
  ·cases hj
 ·intro x hx
  obtain⟨y,_,rfl⟩:=mem_map.1 hx
  exact hc y
theorem yY {γ:Type} {xs:List α} {gs:List OG} (h:gs.length=xs.length) (c:α->γ):(zg xs gs).map (λy=>c y.1)=xs.map c:=by
 unfold zg
 have:(xs.zip gs).map Prod.fst=xs:=List.map_fst_zip (by omega)
 conv=>rhs; rw[<- this,List.map_map]
 rfl
theorem Br.awO {H:aF} {og:OG} {xs:List β} (hc:∀y,(ci y).length=szi) (ok:∀g,og=some g->bK g szi xs.length) (hk:∀k,oT og=some k->H k=some (.obj ty (fl ci xs (oS og)))):Br H (Vm.awO ci szi og xs) (.sl none szi (xs.map ci)):=by
 cases og with
 | none=>exact Br.refl _ _
 | some g=>
  have ok:=ok g rfl
  show Br H (Vm.aw g.t g.n g.cap) _
  rw[ok.eqn]
  cases ht:g.t with
  | none=>
   have h0:xs= []:=length_eq_zero_iff.1 (ok.nil ht)
   subst h0
   exact Br.ale (u7 _ szi)
  | some k=>exact Br.vw hc (hk k ht)
theorem Br.awN {cN:α×OG->List AV} {c:α->List AV} {L:HL} {tyo:TypeId} {g:dI} {xs:List α} (i:Nat) (hc:∀y,(c y).length=sz) (hci:∀y,(ci y).length=szi) (hb:∀(H:aF) (y:α×OG),Br H (Vm.awO ci szi y.2 (l y.1)) (.sl none szi ((l y.1).map ci))->uQ H (cN y) (c y.1))
    (ok:tO l sz szi g xs) (hk:bP h0 L) (hi:L[i]? =some (g.a.t,.obj tyo (fl cN (zg xs g.gs) g.a.sp))) (hm:∀e∈lO ty ci (nl l (zg xs g.gs)),e∈L):Br (hp h0 L) (Vm.aw g.a.t g.a.n g.a.cap) (.sl none sz (xs.map c)):=by
  rw[ok.a.eqn]
  cases ht:g.a.t with
  | none=>
    have h0:xs= []:=length_eq_zero_iff.1 (ok.a.nil ht)
    subst h0
    exact Br.ale (u7 _ sz)
  | some k=>
    rw[ht] at hi
    have:=Br.vwN (c':=λy:α×OG=>c y.1) (sz:=sz) (cap:=g.a.cap) (λy=>hc y.1) (aW i hk hi) λy hy=>hb _ y (Br.awO (ty:=ty) hci (ok.el (l y.1,y.2) (mem_map.2 ⟨y,hy,rfl⟩)) λk' hk'=>by
      refine vQ hk (hm _ ?_)
      rw[<- hk']
      exact mem_map.2 ⟨(l y.1,y.2),mem_map.2 ⟨y,hy,rfl⟩,rfl⟩)
    rwa [vP ok.len,yY ok.len] at this
theorem pL.append {H H':aF} {xs ys:List AV} (h:pL H H' xs ys) {us vs:List AV} (h2:pL H H' us vs):pL H H' (xs++us) (ys++vs):=by
 induction h with
 | nil=>exact h2
 | cons a _ ih=>exact .cons a ih
theorem pL.flat {γ:Type} {H H':aF} {c c':γ->List AV}:∀ {ys:List γ},(∀y∈ys,pL H H' (c y) (c' y))->pL H H' (ys.map c).flatten (ys.map c').flatten
 | [],_=>.nil
 | y::ys,h=>by
  simp only[map_cons,flatten_cons]
  exact(h y mem_cons_self).append (pL.flat λz hz=>h z (mem_cons_of_mem _ hz))
theorem Fz.vwN {γ:Type} {c c':γ->List AV} {ys:List γ} {H H':aF} {k:bT} {ty:TypeId} {sp:List AV} {sz cap:Nat} (hc:∀y,(c' y).length=sz) (hk:H k=some (.obj ty (fl c ys sp))) (hn:H' k=none) (hb:∀y∈ys,pL H H' (c y) (c' y)):Fz H H' (.vw k ys.length cap) (.sl none sz (ys.map c')):=by
 intro E w v r hv
 simp only[VR] at hv ⊢
 obtain⟨g,hg,rfl,h1,h2⟩:=hv
 obtain⟨g',cur,e1,e2,e3,e4⟩:=r.obj _ _ _ hk
 rw[hg] at e1; cases e1
 refine⟨_,cap,by rw[length_map],by rw[length_map]; exact h1,h2, ?_, ?_,nofun⟩
 ·refine .inr ⟨g,0,rfl,jK.2 ?_⟩
  have htake:cI E w (ys.map c).flatten (cur.toList.take ((ys.map c).flatten.length)):=by
   have:=fS ((ys.map c).flatten.length) e3
   rwa [fl,List.take_left' rfl] at this
  refine eT ((pL.flat hb).spec r htake) (λu hu=>e4 u (mem_of_mem_take hu)) ?_
  intro j u hj
  rw[getElem?_take] at hj
  split at hj
  ·have hcell:w.cell? ⟨g,0+j,none⟩=some u:=by
    simp only[cell?,e2,zero_add]
    simpa using hj
   exact⟨hcell,.inl (.inr ⟨⟨k,.inl ⟨_,rfl,hk,hg⟩,hn⟩,u,hcell⟩)⟩
  ·cases hj
 ·intro x hx
  obtain⟨y,_,rfl⟩:=mem_map.1 hx
  exact hc y
theorem Fz.awO {H H':aF} (hs:iJ H' H) {og:OG} {xs:List β} (hc:∀y,(ci y).length=szi) (ok:∀g,og=some g->bK g szi xs.length) (hk:∀k,oT og=some k->H k=some (.obj ty (fl ci xs (oS og)))/\H' k=none):Fz H H' (Vm.awO ci szi og xs) (.sl none szi (xs.map ci)):=by
 cases og with
 | none=>exact Fz.refl _ _ _
 | some g=>
  have ok:=ok g rfl
  show Fz H H' (Vm.aw g.t g.n g.cap) _
  rw[ok.eqn]
  cases ht:g.t with
  | none=>
   have h0:xs= []:=length_eq_zero_iff.1 (ok.nil ht)
   subst h0
   exact Fz.ale hs (u7 _ szi)
  | some k=>exact Fz.vw hc (hk k ht).1 (hk k ht).2
theorem Fz.awN {cN:α×OG->List AV} {c:α->List AV} {A A' F:HL} {tyo:TypeId} {g:dI} {xs:List α} (i:Nat) (hc:∀y,(c y).length=sz) (hci:∀y,(ci y).length=szi) (hb:∀(H H':aF) (y:α×OG),Fz H H' (Vm.awO ci szi y.2 (l y.1)) (.sl none szi ((l y.1).map ci))->pL H H' (cN y) (c y.1))
    (ok:tO l sz szi g xs) (hk:bP h0 (A++F)) (hi:A[i]? =some (g.a.t,.obj tyo (fl cN (zg xs g.gs) g.a.sp))) (hm:∀e∈lO ty ci (nl l (zg xs g.gs)),e∈F) (hs:A'.Sublist (A.eraseIdx i)):Fz (hp h0 (A++F)) (hp h0 A') (Vm.aw g.a.t g.a.n g.a.cap) (.sl none sz (xs.map c)):=by
  have hA:A'.Sublist (A++F):=(hs.trans (eraseIdx_sublist A i)).trans (List.sublist_append_left A F)
  have hsub:=(aU hA hk).1
  rw[ok.a.eqn]
  cases ht:g.a.t with
  | none=>
    have h0:xs= []:=length_eq_zero_iff.1 (ok.a.nil ht)
    subst h0
    exact Fz.ale hsub (u7 _ sz)
  | some k=>
    rw[ht] at hi
    have hil:i < A.length:=(List.getElem?_eq_some_iff.1 hi).1
    have hi2:(A++F)[i]? =some (some k,.obj tyo (fl cN (zg xs g.gs) g.a.sp)):=by rw[List.getElem?_append_left hil]; exact hi
    have hs2:A'.Sublist ((A++F).eraseIdx i):=by
      rw[List.eraseIdx_append_of_lt_length hil]
      exact hs.trans (List.sublist_append_left _ F)
    have:=Fz.vwN (c':=λy:α×OG=>c y.1) (sz:=sz) (cap:=g.a.cap) (H':=hp h0 A') (λy=>hc y.1) (aW i hk hi2) (mV (aU hs2 (aU (eraseIdx_sublist _ i) hk).2).1 (nX i hk hi2)) λy hy=>hb _ _ y (Fz.awO (ty:=ty) hsub hci (ok.el (l y.1,y.2) (mem_map.2 ⟨y,hy,rfl⟩)) λk' hk'=>by
      have hmF:(some k',jC.obj ty (fl ci (l y.1) (oS y.2)))∈F:=hm _ (by rw[<- hk']; exact mem_map.2 ⟨(l y.1,y.2),mem_map.2 ⟨y,hy,rfl⟩,rfl⟩)
      refine⟨vQ hk (List.mem_append_right _ hmF),HD (HC hk (List.mem_append_right _ hmF)) λe q=> ?_⟩
      exact CR hk hmF ((hs.trans (eraseIdx_sublist A i)).subset q))
    rwa [vP ok.len,yY ok.len] at this
end
def iI:List HL->HL
 | []=>[]
 | [x]=>x
 | x::y::r=>x++iI (y::r)
theorem fX:∀b:List HL,iI b=b.flatten
 | []=>rfl
 | [x]=>by simp[iI]
 | x::y::r=>by rw[iI,fX (y::r)]; rfl
theorem qM {bl bl':List HL} (p:bl.Perm bl'):(iI bl).Perm (iI bl'):=by rw[fX,fX]; exact p.flatten
theorem oY {bl:List HL} {b:Nat} {F:HL} (h:bl[b]? =some F):(iI bl).Perm (F++(bl.eraseIdx b).flatten):=by
 rw[fX]
 exact(yX h).flatten
theorem p6 {bl:List HL} {b:Nat} {F:HL} (F':HL) (h:bl[b]? =some F):(iI (bl.set b F')).Perm (F'++(bl.eraseIdx b).flatten):=by
 have hb:b < bl.length:=(List.getElem?_eq_some_iff.1 h).1
 have:=oY (bl:=bl.set b F') (b:=b) (F:=F') (by simp[hb])
 rwa [List.eraseIdx_set_eq] at this
section
variable {h0:aF} {L L' R:HL}
theorem BA (hk:bP h0 L) (bl:List HL) (hL:iI bl=L) (σ:List Nat) (hL':iI (pick σ bl)=L') (ho:σ.isPerm (range bl.length)=true):hp h0 L=hp h0 L'/\bP h0 L':=by
 subst hL hL'
 exact iA (qM (mJ ho)) hk
theorem tP (hk:bP h0 L) (bl:List HL) (hL:iI bl=L) (σ:List Nat) (hL':iI (pick σ bl)=L') (ho:(σ++sO σ bl.length).isPerm (range bl.length)=true):bP h0 L'/\iJ (hp h0 L') (hp h0 L):=by
 subst hL hL'
 have p:=qM (mJ ho)
 have e2:pick (σ++sO σ bl.length) bl=pick σ bl++pick (sO σ bl.length) bl:=List.filterMap_append
 rw[e2,fX (_++_),flatten_append,<- fX (pick σ bl)] at p
 obtain⟨e,k⟩:=iA p hk
 have:=aU (List.sublist_append_left (iI (pick σ bl)) (pick (sO σ bl.length) bl).flatten) k
 exact⟨this.2,by rw[e]; exact this.1⟩
theorem lxB {n:Nat} {f g:FR} (bl:List HL) (hL:iI bl=L) (σ:List Nat) (hL':iI (pick σ bl)=L') (ho:(σ++sO σ bl.length).isPerm (range bl.length)=true) (hf:FT (hp h0 L') n f.k g.k):LX h0 n f L g L':=λhk=>
 let ⟨h1,h2⟩:=tP hk bl hL σ hL' ho; ⟨h1,gA.fm h2 hf⟩
variable {β:Type} {ty:TypeId} {ci:β->List AV}
theorem CS (hk:bP h0 L) (bl:List HL) (hL:iI bl=L) (b:Nat) {zs:List (List β×OG)} {j:Nat} {z:List β×OG} (hb:bl[b]? =some (lO ty ci zs)) (hz:zs[j]? =some z) (hR:iI (bl.set b (lO ty ci (zs.eraseIdx j)))=R):
    hp h0 L=hp h0 ((oT z.2,.obj ty (fl ci z.1 (oS z.2)))::R)/\bP h0 ((oT z.2,.obj ty (fl ci z.1 (oS z.2)))::R):=by
  subst hL hR
  refine iA ?_ hk
  refine(oY hb).trans (((IJ hz).append_right _).trans ?_)
  exact((p6 (lO ty ci (zs.eraseIdx j)) hb).symm.cons _)
theorem vR (bl:List HL) (hR:iI bl=R) (b:Nat) {zs:List (List β×OG)} {j:Nat} (z:List β×OG) (hj:j < zs.length) (hb:bl[b]? =some (lO ty ci (zs.eraseIdx j))) (hk:bP h0 ((oT z.2,.obj ty (fl ci z.1 (oS z.2)))::R)) (hL':iI (bl.set b (lO ty ci (zs.set j z)))=L'):
    hp h0 ((oT z.2,.obj ty (fl ci z.1 (oS z.2)))::R)=hp h0 L'/\bP h0 L':=by
  subst hR hL'
  refine iA ?_ hk
  refine((oY hb).cons _).trans ?_
  refine(((R0 z hj).symm.append_right _).trans ?_)
  exact(p6 _ hb).symm
theorem EW (a b:List HL):iI (a++b)=iI a++iI b:=by rw[fX,fX,fX,flatten_append]
theorem NZ {γ:Type} (σ τ:List Nat) (l:List γ):pick (σ++τ) l=pick σ l++pick τ l:=List.filterMap_append
theorem EX {A:HL} (hk:bP h0 L) (bl:List HL) (hL:iI bl=L) (σ τ:List Nat) (hA:iI (pick σ bl)=A) (hR:iI (pick τ bl)=R) (ho:(σ++τ).isPerm (range bl.length)=true):hp h0 L=hp (hp h0 R) A/\bP h0 R/\bP (hp h0 R) A:=by
 subst hL hA hR
 obtain⟨e,k⟩:=iA (qM (mJ ho)) hk
 rw[NZ,EW] at e k
 obtain⟨k1,k2⟩:=dK _ _ k
 exact⟨e.trans (dP h0 _ _).symm,k1,k2⟩
theorem EY {A:HL} (hR:bP h0 R) (hA:bP (hp h0 R) A) (ba br:List HL) (hA':iI ba=A) (hR':iI br=R) (σ:List Nat) (hL':iI (pick σ (ba++br))=L') (ho:σ.isPerm (range (ba++br).length)=true):hp (hp h0 R) A=hp h0 L'/\bP h0 L':=by
 subst hA' hR' hL'
 have k:=eA hR hA
 rw[dP]
 rw[<- EW] at k ⊢
 exact iA (qM (mJ ho)) k
end
structure nI {α β:Type} (l:α->List β) (sz szi:Nat) (g:dI) (xs:List α):Prop where
 k:tO l sz szi g xs
 own:∀og∈g.gs,og≠none
section
variable {α β:Type} {l:α->List β} {sz szi:Nat} {g:dI} {xs:List α} {i:Int} {x x':α}
theorem nI.gx (ok:nI l sz szi g xs) (hx:Vm.ix xs i=some x):∃gv,Vm.gx g.gs i.toNat=some gv/\bK gv szi (l x).length/\(nl l (zg xs g.gs))[i.toNat]? =some (l x,some gv):=by
 have h1:=ok.k.nlat hx
 obtain⟨_,_,h3⟩:=fU hx
 have hk:i.toNat < xs.length:=(List.getElem?_eq_some_iff.1 h3).1
 have hk':i.toNat < g.gs.length:=by have:=ok.k.len; omega
 cases hg:Vm.gx g.gs i.toNat with
 | none=>
  have:g.gs[i.toNat]=none:=by unfold Vm.gx at hg; rw[getElem?_eq_getElem hk'] at hg; exact hg
  exact absurd this (ok.own _ (getElem_mem hk'))
 | some gv=>
  rw[hg] at h1
  exact⟨gv,rfl,ok.k.el _ (mem_of_getElem? h1) gv rfl,h1⟩
theorem nI.set (ok:nI l sz szi g xs) (hx:Vm.ix xs i=some x) (e:l x'=l x):nI l sz szi g (xs.set i.toNat x'):=⟨(ok.k.set hx e).1,ok.own⟩
theorem nI.setL (ok:nI l sz szi g xs) (hx:Vm.ix xs i=some x) (g':dE) (hg:bK g' szi (l x').length):nI l sz szi ⟨g.a,g.gs.set i.toNat (some g')⟩ (xs.set i.toNat x'):=
 ⟨(ok.k.setL hx g' hg).1,λog h=>by rcases List.mem_or_eq_of_mem_set h with h | rfl; exact ok.own og h; exact nofun⟩
end
theorem mO {γ:Type} {l:List γ} {j:Nat} {z:γ} (h:l[j]? =some z):j < l.length:=(List.getElem?_eq_some_iff.1 h).1
theorem eqN {h0:aF} {L L':HL} (hk:bP h0 L) (e:L=L'):hp h0 L=hp h0 L'/\bP h0 L':=by subst e; exact⟨rfl,hk⟩
theorem tO.br {α β:Type} {l:α->List β} {sz szi:Nat} {ty:TypeId} {ci:β->List AV} {h0:aF} {L:HL} {g:dI} {xs:List α} {i:Int} {x:α} (ok:tO l sz szi g xs) (hx:Vm.ix xs i=some x) (hci:∀y,(ci y).length=szi) (hk:bP h0 L)
    (hm:∀e∈lO ty ci (nl l (zg xs g.gs)),e∈L):Br (hp h0 L) (awO ci szi (Vm.gx g.gs i.toNat) (l x)) (.sl none szi ((l x).map ci)):=by
  have hn:=mem_of_getElem? (ok.nlat hx)
  refine Br.awO (ty:=ty) hci (ok.el _ hn) λk hk'=>vQ hk (hm _ ?_)
  rw[<- hk']
  exact mem_map.2 ⟨_,hn,rfl⟩
theorem R4 {xs r:List AV} {m:Nat} (h:xs.length=m):DO true m ((xs++r).drop 0)=some (.agg xs):=by
 subst h
 simp[DO]
theorem gK {β:Type} (ci:β->List AV) (szi:Nat) (og:OG) (l:List β):gN (awO ci szi og l)=true:=by
 cases og with
 | none=>rfl
 | some g=>exact cC _ _ _
theorem WM {α β:Type} (f:α->β) (xs:List α) (i:Int):ix (xs.map f) i=(ix xs i).map f:=by
 unfold ix
 split
 ·rw[getElem?_map]
 ·rfl
theorem WN {α ρ:Type} {xs:List α} {gs:List OG} (hl:gs.length=xs.length) {F:List α->Option ρ} {G:Option ρ} (e:F ((zg xs gs).map Prod.fst)=G) {o:ρ} (h:F xs=some o):G=some o:=by
 rw[<- e,show (zg xs gs).map Prod.fst=xs from by simpa using yY hl (λx=>x)]
 exact h
theorem WO {F L:HL} (bl:List HL) (hL:iI bl=L) (b:Nat) (hb:bl[b]? =some F):∀e∈F,e∈L:=λe he=>by
 subst hL
 rw[fX]
 exact List.mem_flatten.2 ⟨F,mem_of_getElem? hb,he⟩
section
variable {α β:Type} {l:α->List β} {sz szi:Nat} {ty:TypeId} {ci:β->List AV} {h0:aF} {L L':HL}
theorem LL {n:Nat} {f:FR} {cN:α×OG->List AV} {c:α->List AV} {tyo:TypeId} {g:dI} {xs:List α} (bl:List HL) (hL:iI bl=L) (i b:Nat) (hci:∀y,(ci y).length=szi)
    (hb:∀(H H':aF) (y:α×OG),Fz H H' (awO ci szi y.2 (l y.1)) (.sl none szi ((l y.1).map ci))->pL H H' (cN y) (c y.1))
    (ok:tO l sz szi g xs) (hi:bl[i]? =some [(g.a.t,.obj tyo (fl cN (zg xs g.gs) g.a.sp))]) (hbf:bl[b]? =some (lO ty ci (nl l (zg xs g.gs)))) (hib:i < b)
    (hL':iI ((bl.eraseIdx b).set i [(g.a.t,.obj tyo (fl c xs g.a.sp))])=L') (hk:bP h0 L):bP h0 L'/\gA (fm n f.k) (hp h0 L') (fm n f.k) (hp h0 L):=by
  subst hL hL'
  -- the array's block and the family's block, ahead of the rest
  have hi':(bl.eraseIdx b)[i]? =some [(g.a.t,.obj tyo (fl cN (zg xs g.gs) g.a.sp))]:=by
    rw[List.getElem?_eraseIdx]; simp[hib,hi]
  generalize hR:((bl.eraseIdx b).eraseIdx i).flatten=R
  have p1:(iI bl).Perm (lO ty ci (nl l (zg xs g.gs))++((g.a.t,.obj tyo (fl cN (zg xs g.gs) g.a.sp))::R)):=by
    refine(oY hbf).trans (List.Perm.append_left _ ?_)
    have:=oY hi'
    rw[fX,hR] at this
    exact this
  have p2:(iI ((bl.eraseIdx b).set i [(g.a.t,.obj tyo (fl c xs g.a.sp))])).Perm ((g.a.t,.obj tyo (fl c xs g.a.sp))::R):=by
    have:=p6 [(g.a.t,jC.obj tyo (fl c xs g.a.sp))] hi'
    rw[hR] at this
    exact this
  obtain⟨e1,k1⟩:=iA p1 hk
  have k2:bP h0 ((g.a.t,.obj tyo (fl cN (zg xs g.gs) g.a.sp))::R):=(dK _ _ k1).1
  have k3:bP h0 ((g.a.t,.obj tyo (fl c xs g.a.sp))::R):=⟨k2.1,k2.2⟩
  obtain⟨e2,k4⟩:=iA p2.symm k3
  refine⟨k4, ?_⟩
  rw[e1,<- e2]
  have hs:iJ (hp h0 ((g.a.t,.obj tyo (fl cN (zg xs g.gs) g.a.sp))::R)) (hp h0 (lO ty ci (nl l (zg xs g.gs))++((g.a.t,.obj tyo (fl cN (zg xs g.gs) g.a.sp))::R))):=(aU (List.sublist_append_right _ _) k1).1
  intro E w vs r v
  have r1:=sM r hs
  have kk:dD E w (FZ E _ (hp h0 ((g.a.t,.obj tyo (fl cN (zg xs g.gs) g.a.sp))::R)) w) w:=iE r
  cases ht:g.a.t with
  | none=>rw[ht] at r1 kk; exact⟨_,kk,r1,bW kk _ _ v⟩
  | some k=>
    rw[ht] at r1 kk k2 k1 hs r
    have hg1:hp h0 ((some k,jC.obj tyo (fl cN (zg xs g.gs) g.a.sp))::R) k=some (.obj tyo (fl cN (zg xs g.gs) g.a.sp)):=aW 0 k2 rfl
    obtain⟨gg,cur,f1,f2,f3,f4⟩:=r.obj k tyo _ (hs _ _ hg1)
    have hfz:pL (hp h0 (lO ty ci (nl l (zg xs g.gs))++((some k,.obj tyo (fl cN (zg xs g.gs) g.a.sp))::R))) (hp h0 ((some k,.obj tyo (fl cN (zg xs g.gs) g.a.sp))::R)) (fl cN (zg xs g.gs) g.a.sp) (fl c xs g.a.sp):=by
      unfold fl
      refine pL.append ?_ (pL.refl _ _ _)
      rw[<- yY ok.len c]
      refine pL.flat λy hy=>hb _ _ y (Fz.awO (ty:=ty) hs hci (ok.el (l y.1,y.2) (mem_map.2 ⟨y,hy,rfl⟩)) λk' hk'=> ?_)
      have hm:(some k',jC.obj ty (fl ci (l y.1) (oS y.2)))∈lO ty ci (nl l (zg xs g.gs)):=by rw[<- hk']; exact mem_map.2 ⟨(l y.1,y.2),mem_map.2 ⟨y,hy,rfl⟩,rfl⟩
      refine⟨vQ k1 (List.mem_append_left _ hm),HD (HC k1 (List.mem_append_left _ hm)) λe q=> ?_⟩
      have p3:=List.perm_append_comm (l₁:=lO ty ci (nl l (zg xs g.gs))) (l₂:=(some k,jC.obj tyo (fl cN (zg xs g.gs) g.a.sp))::R)
      exact CR (iA p3 k1).2 hm q
    obtain⟨q1,q2⟩:=r1.set_obj hg1 (show (FZ E _ (hp h0 ((some k,.obj tyo (fl cN (zg xs g.gs) g.a.sp))::R)) w).ob k=some gg from f1) (w':=w) f2 (λ_ _=>rfl) (Nat.le_refl _) rfl rfl rfl (hfz.spec r f3) f4
    have e3:upd (hp h0 ((some k,jC.obj tyo (fl cN (zg xs g.gs) g.a.sp))::R)) k (some (.obj tyo (fl c xs g.a.sp)))=hp h0 ((some k,.obj tyo (fl c xs g.a.sp))::R):=by
      funext z
      simp only[hp,upd]
      split<;>rfl
    rw[e3] at q2
    exact⟨_,kk.trans q1,q2,bW (kk.trans q1) _ _ v⟩
end
theorem KI {P:Program} {h:aF} {n:Nat} {rs:List ResultVar} {Q:AV->aF->Prop} {e:Exit} {f g:FR} {L L':HL} (le:bP h L->bP h L'/\gA (fm n g.k) (hp h L') (fm n f.k) (hp h L)) (k:RV P rs Q h n e g L'):RV P rs Q h n e f L:=
 ⟨λhk=>let ⟨h1,h2⟩:=le hk; let ⟨fr,hh,l2,q⟩:=k.r h1; ⟨fr,hh,h2.trans l2,q⟩⟩
structure CT {α β:Type} (l:α->List β) (sz szi:Nat) (g:dI) (xs:List α) (m N:Nat):Prop where
 k:tO l sz szi g xs
 len:xs.length=N
 pre:∀j,j < m->j < xs.length->gx g.gs j≠none
 post:∀j,m<=j->gx g.gs j=none
section
variable {α β:Type} {l:α->List β} {sz szi:Nat} {g:dI} {xs:List α} {q:Int} {x x':α} {ty:TypeId} {ci:β->List AV} {h0:aF} {L L':HL}
theorem WP (n j:Nat):gx (replicate n none) j=none:=by
 unfold gx
 rw[List.getElem?_replicate]
 split<;>rfl
theorem CT.zero {a:dE} (ok:bK a sz xs.length):CT l sz szi ⟨a,replicate xs.length none⟩ xs 0 xs.length:=⟨tO.plain ok,rfl,λj h=>absurd h (Nat.not_lt_zero _),λj _=>WP _ _⟩
theorem N0 {gs:List OG} {i j:Nat} {og:OG}:gx (gs.set i og) j=if i=j/\j < gs.length then og else gx gs j:=by
 unfold gx
 rw[getElem?_set]
 by_cases e:i=j
 ·subst e
  by_cases h:i < gs.length
  ·simp[h]
  ·simp[h]
 ·simp[e]
theorem CT.step {N:Nat} (ok:CT l sz szi g xs q.toNat N) (hx:Vm.ix xs q=some x) (g':dE) (hg:bK g' szi (l x').length):CT l sz szi ⟨g.a,g.gs.set q.toNat (some g')⟩ (xs.set q.toNat x') (wrap .i64 (q+1)).toNat N:=by
 obtain⟨h1,h2,h3⟩:=fU hx
 have hm:=ok.k.a.mx
 have hl:=ok.k.a.le
 have hw:(wrap .i64 (q+1)).toNat=q.toNat+1:=by
  rw[wrap_i64]; simp only[maxLen] at hm; omega
 have hk:q.toNat < g.gs.length:=by have:=ok.k.len; omega
 rw[hw]
 refine⟨(ok.k.setL hx g' hg).1,by rw[length_set]; exact ok.len,λj hj hj2=> ?_,λj hj=> ?_⟩
 ·simp only[N0]
  rw[length_set] at hj2
  split
  ·exact nofun
  ·rename_i q1
   exact ok.pre j (by have:=ok.k.len; by_cases e:q.toNat=j<;>omega) hj2
 ·simp only[N0]
  rw[if_neg (by omega)]
  exact ok.post j (by omega)
theorem CT.set {N:Nat} (ok:CT l sz szi g xs q.toNat N) (hx:Vm.ix xs q=some x) (e:l x'=l x):CT l sz szi g (xs.set q.toNat x') q.toNat N:=⟨(ok.k.set hx e).1,by rw[length_set]; exact ok.len,λj hj hj2=>ok.pre j hj (by rwa [length_set] at hj2),ok.post⟩
theorem CT.all {N:Nat} (ok:CT l sz szi g xs q.toNat N) (hq:decide (q < (N:Int))=false):nI l sz szi g xs:=by
 have hq:=of_decide_eq_false hq
 have hN:=ok.len
 refine⟨ok.k,λog ho=> ?_⟩
 obtain⟨j,hj,rfl⟩:=getElem_of_mem ho
 have hl:=ok.k.len
 have:=ok.pre j (by omega) (by omega)
 unfold gx at this
 rwa [getElem?_eq_getElem hj] at this
theorem toN {n:Nat} {f:FR} {cN:α×OG->List AV} {c:α->List AV} {tyo:TypeId} {a:dE} (hc:∀x,cN (x,none)=c x) (bl:List HL) (hL:iI bl=L) (i:Nat) (hi:bl[i]? =some [(a.t,.obj tyo (fl c xs a.sp))])
    (hL':iI (bl.set i [(a.t,.obj tyo (fl cN (zg xs (replicate xs.length none)) a.sp))]++ [lO ty ci (nl l (zg xs (replicate xs.length none)))])=L') (hk:bP h0 L):bP h0 L'/\gA (fm n f.k) (hp h0 L') (fm n f.k) (hp h0 L):=by
  have e1:fl cN (zg xs (replicate xs.length none)) a.sp=fl c xs a.sp:=by
    unfold fl
    have:(zg xs (replicate xs.length none)).map cN=xs.map c:=by
      have h1:(zg xs (replicate xs.length none)).map cN=(zg xs (replicate xs.length none)).map (λy=>c y.1):=by
        refine List.map_congr_left λy hy=> ?_
        have h2:=(of_mem_zip hy).2
        rw[mem_replicate] at h2
        obtain⟨y1,y2⟩:=y
        simp only at h2
        rw[h2.2,hc]
      rw[h1,yY (by simp)]
    rw[this]
  have e2:bl.set i [(a.t,jC.obj tyo (fl c xs a.sp))]=bl:=by
    obtain⟨hi',he⟩:=List.getElem?_eq_some_iff.1 hi
    rw[<- he]
    exact List.set_getElem_self hi'
  rw[e1,e2] at hL'
  subst hL hL'
  have key:∀zs:List (List β×OG),(∀z∈zs,z.2=none)->∀ {L:HL},bP h0 L->bP h0 (lO ty ci zs++L)/\hp h0 (lO ty ci zs++L)=hp h0 L:=by
    intro zs
    induction zs with
    | nil=>intro _ L hk; exact⟨hk,rfl⟩
    | cons z zs ih=>
      intro hz L hk
      obtain⟨k1,k2⟩:=ih (λz hz'=>hz z (mem_cons_of_mem _ hz')) hk
      have h1:oT z.2=none:=by rw[hz z mem_cons_self]; rfl
      show bP h0 ((oT z.2,_)::(lO ty ci zs++L))/\hp h0 ((oT z.2,_)::(lO ty ci zs++L))=_
      rw[h1]
      exact⟨⟨k1,nofun⟩,k2⟩
  have hz:∀z∈nl l (zg xs (replicate xs.length none)),z.2=none:=by
    intro z hz
    obtain⟨y,hy,rfl⟩:=mem_map.1 hz
    have h2:=(of_mem_zip hy).2
    rw[mem_replicate] at h2
    exact h2.2
  obtain⟨k1,k2⟩:=key _ hz hk
  have p:(lO ty ci (nl l (zg xs (replicate xs.length none)))++iI bl).Perm (iI (bl++ [lO ty ci (nl l (zg xs (replicate xs.length none)))])):=by
    rw[fX,fX,flatten_append]
    simp only[flatten_cons,List.flatten_nil,List.append_nil]
    exact List.perm_append_comm
  obtain⟨k3,k4⟩:=iA p k1
  exact⟨k4,gA.eqh (k2.symm.trans k3)⟩
theorem N1 {n:Nat} {f:FR} (bl:List HL) (hL:iI bl=L) (b:Nat) {zs:List (List β×OG)} (j:Nat) (hb:bl[b]? =some (lO ty ci zs)) (hL':iI (bl.set b (lO ty ci (zs.eraseIdx j)))=L') (hk:bP h0 L):bP h0 L'/\gA (fm n f.k) (hp h0 L') (fm n f.k) (hp h0 L):=by
 subst hL hL'
 obtain⟨e1,k1⟩:=iA (oY hb) hk
 have hs:(lO ty ci (zs.eraseIdx j)++(bl.eraseIdx b).flatten).Sublist (lO ty ci zs++(bl.eraseIdx b).flatten):=((eraseIdx_sublist zs j).map _).append_right _
 obtain⟨s1,k2⟩:=aU hs k1
 obtain⟨e2,k3⟩:=iA (p6 (lO ty ci (zs.eraseIdx j)) hb).symm k2
 refine⟨k3,gA.of ?_ (cS.refl _ _)⟩
 rw[e1,<- e2]
 exact s1
end
theorem WQ {P:Program} {h:aF} {n:Nat} {τ σ ρ:Type} {id:Nat} {c:Code} {kn:FR->HL->Prop} {ke:Exit->FR->HL->Prop} {f:FR} {L:HL} {step:σ->Option (Lp σ ρ)} {fuel:Nat} {s0:σ} {k:σ->Option ρ} {o:ρ} (hm:after (aR step fuel s0) k=some o)
    (Lg:τ->σ->HL) (J JB:τ->σ->Prop) (sl:τ->σ->FR) (g0:τ) (i0:J g0 s0) (h0:LX h n f L (sl g0 s0) (Lg g0 s0))
    (round:∀g s x,J g s->step s=some x->VC P h n c (GN h n J sl Lg .go x) (GE h n JB sl Lg (some id) ke o x) (sl g s) (Lg g s))
    (next:∀g s,JB g s->k s=some o->kn (sl g s) (Lg g s)):VC P h n (.block id (.loop c)) kn ke f L:=by
  refine⟨λhkL=>xE ?_⟩
  obtain⟨out,hout,hk⟩:∃out,aR step fuel s0=some out/\((∃s,out= .brk s/\k s=some o)\/∃r,out= .ret r/\r=o):=by
    cases e:aR step fuel s0 with
    | none=>rw[e] at hm; cases hm
    | some out=>
      rw[e] at hm
      cases out with
      | go s=>cases hm
      | brk s=>exact⟨_,rfl,.inl ⟨s,rfl,hm⟩⟩
      | ret r=>exact⟨_,rfl,.inr ⟨r,rfl,Option.some.inj hm⟩⟩
  obtain⟨hk1,le1⟩:=h0 hkL
  refine H3 (λm fr' h'=>∃s,aR step m s=some out/\∃g,J g s/\bP h (Lg g s)/\gA (fm n (sl g s).k) (hp h (Lg g s)) fr' h') fuel ⟨s0,hout,g0,i0,hk1,le1⟩ ?_
  rintro m fr' h' ⟨s,hs,g,hj,hk2,hle⟩
  cases m with
  | zero=>cases hs
  | succ m=>
    simp only[aR] at hs
    cases e:step s with
    | none=>rw[e] at hs; cases hs
    | some x=>
      rw[e] at hs
      refine hle.aw (((round g s x hj e).r hk2).mono ?_)
      rintro ex fr'' h'' ⟨f1,L1,hk3,le3,q⟩
      have fin:∀ {ex:Exit},GE h n JB sl Lg (some id) ke o x ex f1 L1->ex≠ .normal->(∃s',x= .brk s'/\ex= .exit id/\∃g',JB g' s'/\LX h n f1 L1 (sl g' s') (Lg g' s'))\/(ke ex f1 L1/\ex≠ .exit id):=by
        intro ex q hne
        cases q with
        | b i' hi he q=>
          cases hi
          obtain⟨s',g',e1,j',le4⟩:=q.g
          exact .inl ⟨s',e1,he,g',j',le4⟩
        | r y hx h1 h2 k2=>
          subst hx; cases hs
          rcases hk with⟨s2,e2,_⟩ | ⟨r',e2,e3⟩
          . cases e2
          . cases e2; exact .inr ⟨k2 e3,h2 id rfl⟩
      cases ex with
      | normal=>
        obtain⟨s',g',rfl,j',le4⟩:=q.g
        obtain⟨hk5,le5⟩:=le4.le hk3 le3
        exact⟨m,Nat.lt_succ_self m,s',hs,g',j',hk5,le5⟩
      | exit i=>
        rcases fin q nofun with⟨s',rfl,he,g',j',le4⟩ | ⟨hke,hne⟩
        . cases he
          obtain⟨hk5,le5⟩:=le4.le hk3 le3
          cases hs
          simp only[Seq,HZ,if_true]
          rcases hk with⟨s2,e2,hk⟩ | ⟨r,e2,_⟩
          . cases e2; exact⟨_,_,hk5,le5,next _ _ j' hk⟩
          . cases e2
        . have:i≠id:=λe=>hne (by rw[e])
          simp only[Seq,HZ,this,if_false]
          exact⟨_,_,hk3,le3,hke⟩
      | goto l=>
        rcases fin q nofun with⟨_,_,he,_⟩ | ⟨hke,_⟩
        . cases he
        . exact⟨_,_,hk3,le3,hke⟩
      | ret=>
        rcases fin q nofun with⟨_,_,he,_⟩ | ⟨hke,_⟩
        . cases he
        . exact⟨_,_,hk3,le3,hke⟩
      | panic c=>
        rcases fin q nofun with⟨_,_,he,_⟩ | ⟨hke,_⟩
        . cases he
        . exact⟨_,_,hk3,le3,hke⟩
      | outgrown=>
        rcases fin q nofun with⟨_,_,he,_⟩ | ⟨hke,_⟩
        . cases he
        . exact⟨_,_,hk3,le3,hke⟩
section
variable {P:Program}
theorem EZ (w:World) (dT sT ty e:TypeId) (i:TypeInfo) (hu:P.underlying dT=some (.slice e)) (hi:P.info? e=some i) (g o dLen dCap:Nat) (cur:Array Value) (hg:w.heap[g]? =some (.cells cur e (0,0)))
    (a:Addr) (sLen sCap:Nat) (cs:List Value) (hn:cs.length=min sLen dLen*i.size) (hsrc:∀j v,cs[j]? =some v->w.cell? (a.add j)=some v) (h1:∀v∈cs,v.oneCell'=true) (hfit:o+cs.length<=cur.size):
    (copy_ #[dT,sT] ty #[.slice (some ⟨g,o,none⟩) dLen dCap,.slice (some a) sLen sCap]).run P w=
      .ok (goInt (min sLen dLen:Nat)) (w.setRow g (cur.toList.take o++cs++cur.toList.drop (o+cs.length)).toArray):=by
  have hf:=run_firstCells_some (P:=P) w i.size (min sLen dLen) a sLen sCap cs hn hsrc
  have hst:=run_storeCells_at P g o e cs 0 cur w hg (by simpa using hfit) h1
  simp only[Nat.add_zero] at hst
  have hm:Nat.min sLen dLen=min sLen dLen:=rfl
  simp[copy_,run_underlying hu,lenOf,sizeOf,typeInfo,hi,hm,hf,hst]
variable {ops:Array Oper} {h h0:aF} {L:HL} {n:Nat} {kvs:KV} {l:List Oper} {ty:TypeId} {pos:String} {dL:Array Edge}
def IK (h:aF) (x:AV) (m k:Nat) (cs:List AV):Prop:=∀E w v,eI E h w->VR E w x v->∃a cap cv,v= .slice (some a) m cap/\cI E w cs cv/\(∀u∈cv,u.oneCell'=true)/\(∀j u,cv[j]? =some u->w.cell? (a.add j)=some u)
theorem IK.sl {tag:Option bT} {sz:Nat} {ys:List (List AV)} (hne:ys≠ []) (k:Nat):IK h (.sl tag sz ys) ys.length k ys.flatten:=by
 intro E w v r hv
 obtain⟨g,o,cap,cv,e,c1,c2,c3,c4⟩:=nV hv hne
 exact⟨_,cap,cv,e,c1,c2,λj u hj=>by rw[Addr.add_lit]; exact(c4 j u hj).1⟩
theorem IK.view {k:bT} {off m c:Nat} {cs:List AV} {e:TypeId} (hk:h k=some (.obj e cs)):IK h (.view k off m) m c ((cs.drop off).take c):=by
 intro E w v r hv
 simp only[VR] at hv
 obtain⟨g,cap,hg,rfl,h1,h2⟩:=hv
 obtain⟨g',cur,e1,e2,e3,e4⟩:=r.obj _ _ _ hk
 rw[hg] at e1; cases e1
 refine⟨_,cap,(cur.toList.drop off).take c,rfl,fS _ (jJ _ e3),λu hu=>e4 u (List.mem_of_mem_drop (mem_of_mem_take hu)),λj u hj=> ?_⟩
 rw[getElem?_take] at hj
 split at hj
 ·rw[List.getElem?_drop] at hj
  rw[Addr.add_lit]
  simp only[cell?,e2]
  simpa using hj
 ·cases hj
theorem N2 {K:AV->aF->Prop} {dst:Option Tmp} {d s:Operand} {dT sT e:TypeId} {sz b:Nat} (ht:lQ P dT e sz b) {k:bT} {off n1 m:Nat} {cur cs:List AV} (hd:dB n kvs d= .view k off n1) (hk:h k=some (.obj e cur))
    (hs:IK h (dB n kvs s) m cs.length cs) (hl:cs.length=min m n1*sz) (hfit:off+cs.length<=cur.length)
    (hK:K .any (upd h k (some (.obj e (eU cur off cs))))):
    jG P ⟨dst,.call { callee:=.builtin .copy,args:= #[d,s],argTypes:= #[dT,sT]},ty,pos,dL,none⟩ K (fm n kvs) h:=by
  obtain⟨i,z,hi,hz,rfl,rfl,hzs,hsp⟩:=ht.inf
  intro E w a r hv Nx Qx hn
  have vd:=hv d (by simp[Op.operands,operands])
  have vs:=hv s (by simp[Op.operands,operands])
  rw[bF] at vd vs
  rw[hd] at vd
  simp only[VR] at vd
  obtain⟨g,dc,hg,ed,d1,d2⟩:=vd
  obtain⟨sa,sc,cv,es,c1,c2,c3⟩:=hs E w _ r vs
  obtain⟨g',cu,f1,f2,f3,f4⟩:=r.obj _ _ _ hk
  rw[hg] at f1; cases f1
  have hlen:cur.length=cu.size:=by simpa using cJ f3
  have hcl:cs.length=cv.length:=cJ c1
  have hrun:=EZ (P:=P) w dT sT ty e i ht.ut hi g off n1 dc cu f2 sa m sc cv (by rw[<- hcl]; exact hl) c3 c2 (by omega)
  have hv':cI E w (eU cur off cs) (cu.toList.take off++cv++cu.toList.drop (off+cv.length)):=by
    unfold eU
    rw[hcl]
    exact cL (cL (fS _ f3) c1) (jJ _ f3)
  have h1':∀u∈cu.toList.take off++cv++cu.toList.drop (off+cv.length),u.oneCell'=true:=by
    intro u hu
    rcases mem_append.1 hu with hu | hu
    . rcases mem_append.1 hu with hu | hu
      . exact f4 u (mem_of_mem_take hu)
      . exact c2 u hu
    . exact f4 u (List.mem_of_mem_drop hu)
  obtain⟨k1,k2⟩:=r.set_obj (cur:=(cu.toList.take off++cv++cu.toList.drop (off+cv.length)).toArray) hk hg
    (w':=w.setRow g (cu.toList.take off++cv++cu.toList.drop (off+cv.length)).toArray)
    (setRow_heap w g cu _ e _ f2) (λg' hg'=>setRow_other w g g' _ hg') (by simp) rfl rfl rfl (by simpa using hv') (by simpa using h1')
  unfold wp
  have hex:(execOp a.eval ⟨dst,.call { callee:=.builtin .copy,args:= #[d,s],argTypes:= #[dT,sT]},ty,pos,dL,none⟩).run P w= .ok (.value (goInt (min m n1:Nat))) (w.setRow g (cu.toList.take off++cv++cu.toList.drop (off+cv.length)).toArray):=by
    simp only[execOp,resolve,invoke,builtin,map_toArray,map_cons,map_nil,ed,es,run_bind,run_pure,andThen_ok,hrun]
  rw[hex]
  exact hn .any _ _ E _ k1 k2 (by simp only[VR]) hK
theorem p7 {K:AV->aF->Prop} {dst:Option Tmp} {d s:Operand} {dT sT e:TypeId} {sz b:Nat} (p:Nat) (ht:lQ P dT e sz b) (hk:bP h0 L) {k:bT} {off n1 m:Nat} {cur cs:List AV} (hd:dB n kvs d= .view k off n1) (hi:L[p]? =some (some k,.obj e cur))
    (hs:IK (hp h0 L) (dB n kvs s) m cs.length cs) (hl:cs.length=min m n1*sz) (hfit:off+cs.length<=cur.length) (cur':List AV) (hc:eU cur off cs=cur')
    (hK:bP h0 (L.set p (some k,.obj e cur'))->K .any (hp h0 (L.set p (some k,.obj e cur')))):
    jG P ⟨dst,.call { callee:=.builtin .copy,args:= #[d,s],argTypes:= #[dT,sT]},ty,pos,dL,none⟩ K (fm n kvs) (hp h0 L):=by
  subst hc
  obtain⟨h1,h2,_⟩:=kT (e':=.obj e (eU cur off cs)) p hk hi (.inl rfl)
  refine N2 ht hd (aW p hk hi) hs hl hfit ?_
  rw[h1]
  exact hK h2
theorem N3 {dst:Option Tmp} {s:Operand} {t e:TypeId} {k:bT} {m cap:Nat} (hu:P.underlying t=some (.slice e)) (ha:dB n kvs s= .vw k m cap):
    eB P ⟨dst,.call { callee:=.builtin .cap,args:= #[s],argTypes:= #[t]},ty,pos,dL,none⟩ (.sc (.int .i64 cap)) (fm n kvs) h:=by
  refine dZ (x:=.sc (.int .i64 cap)) (λE w ac r hv=> ?_) ⟨rfl,rfl⟩
  have vs:=hv s (by simp[Op.operands,operands])
  rw[bF,ha] at vs
  simp only[VR] at vs
  obtain⟨g,hg,es,h1,h2⟩:=vs
  refine⟨.int .i64 cap, ?_,by simp only[VR]⟩
  simp[execOp,resolve,invoke,builtin,es,Builtin.cap_,run_underlying hu,goInt]
theorem IL {dst:Option Tmp} {s:Nat} {hi:Operand} {t:TypeId} {k:bT} {m cap sz:Nat} {q:IntKind} {i:Int} (h0':0<=i) (h1':i<=(cap:Int)) (ht:nN P t=some sz) (ha:dB n kvs (.tmp s)= .vw k m cap) (hb:dB n kvs hi= .sc (.int q i)):
    eB P ⟨dst,.slice t (.tmp s) none (some hi) none,ty,pos,dL,none⟩ (.vw k i.toNat cap) (fm n kvs) h:=by
  obtain⟨e,hu,he⟩:=gM ht
  refine dZ (x:=.vw k i.toNat cap) (λE w ac r hv=> ?_) ⟨rfl,rfl⟩
  have va:=hv (.tmp s) (by simp[Op.operands])
  have vb:=hv hi (by simp[Op.operands])
  rw[bF,ha] at va; rw[bF,hb] at vb
  simp only[VR] at va vb
  obtain⟨g,hg,e1,e2,e3⟩:=va
  have hbd:=gU (P:=P) (w:=w) (sl:=true) (len:=m) (cap:=cap) (l:=0) (h:=i) (lo:=none) (hi:=some (.sc (.int q i))) (lv:=none) (hv:=some (.int q i)) rfl rfl (E:=E) nofun (λ_=>rfl)
    (λx hx=>by cases hx; exact⟨_,rfl,by simp only[VR]⟩) nofun (by omega) h0' (by omega)
  refine⟨.slice (some ⟨g,0,none⟩) i.toNat cap, ?_,by simp only[VR]; exact⟨g,hg,rfl,by omega,e3⟩⟩
  by_cases hz:cap=0
  . subst hz
    have hi0:i.toNat=0:=by omega
    simp[execOp,e1,vb,sliceAt,Instr.slice,run_underlying hu,hbd,cO he,hi0]
  . have:¬cap=(0:Int).toNat:=by simpa using hz
    simp[execOp,e1,vb,sliceAt,Instr.slice,run_underlying hu,hbd,cO he,hz,Addr.add]
theorem aBU {dst:Option Tmp} {s:Nat} {lo:Operand} {t:TypeId} {k:bT} {m cap sz:Nat} {q:IntKind} {i:Int} (h0':0<=i) (h1':i<=(m:Int)) (ht:nN P t=some sz) (ha:dB n kvs (.tmp s)= .vw k m cap) (hb:dB n kvs lo= .sc (.int q i)):
    eB P ⟨dst,.slice t (.tmp s) (some lo) none none,ty,pos,dL,none⟩ .any (fm n kvs) h:=by
  obtain⟨e,hu,he⟩:=gM ht
  refine dZ (x:=.any) (λE w ac r hv=> ?_) ⟨rfl,rfl⟩
  have va:=hv (.tmp s) (by simp[Op.operands])
  have vb:=hv lo (by simp[Op.operands])
  rw[bF,ha] at va; rw[bF,hb] at vb
  simp only[VR] at va vb
  obtain⟨g,hg,e1,e2,e3⟩:=va
  have hbd:=gU (P:=P) (w:=w) (sl:=true) (len:=m) (cap:=cap) (l:=i) (h:=m) (lo:=some (.sc (.int q i))) (hi:=none) (lv:=some (.int q i)) (hv:=none) rfl rfl (E:=E) (λx hx=>by cases hx; exact⟨_,rfl,by simp only[VR]⟩) nofun
    nofun (λ_=>rfl) h0' h1' (by omega)
  refine⟨.slice (if cap=i.toNat then some ⟨g,0,none⟩ else some (Addr.add ⟨g,0,none⟩ (i.toNat*sz))) (m - i.toNat) (cap - i.toNat), ?_,by simp only[VR]⟩
  simp[execOp,e1,vb,sliceAt,Instr.slice,run_underlying hu,hbd,cO he]
theorem nJ {dst:Option Tmp} {s:Nat} {lo:Operand} {t:TypeId} {k:bT} {m cap sz:Nat} {q:IntKind} {i:Int} (h0':0<=i) (h1':i < (m:Int)) (ht:nN P t=some sz) (ha:lk n kvs s= .vw k m cap) (hb:dB n kvs lo= .sc (.int q i)):
    eB P ⟨dst,.slice t (.tmp s) (some lo) none none,ty,pos,dL,none⟩ (.view k (i.toNat*sz) (m - i.toNat)) (fm n kvs) h:=by
  have hT:DT P t=true:=by simp[DT,ht]
  refine sK (s:=s) (.view k 0 m) (by rw[ha]; exact B7 _ _ _ _) (jZ (c:=0<=i/\i < (m:Int)/\(m:Int)<=m) ?_ ⟨h0',h1',by omega⟩)
  have e:dB n (kp kvs s (.view k 0 m)) (.tmp s)= .view k 0 m:=D7 ha (by simp)
  have e2:dB n (kp kvs s (.view k 0 m)) lo= .sc (.int q i):=GI ha (by simp) hb
  simp only[pv,bF,e,map_some,e2,map_none,BP,ht,bind_some,oK,lC,hT,if_true,zero_add,Int.toNat_natCast]
theorem N4 {K:AV->aF->Prop} {dst:Option Tmp} {s x:Operand} {t tn e:TypeId} {sz b:Nat} {ik:IntKind} {zv:List Value} (p:Nat) (ht:lQ P t e sz b) (htn:P.underlying tn=some (.int ik)) (hzr:rV P e=some zv) (hzo:zv.all (·.oneCell')=true) (hpos:0 < sz)
    (hk:bP h0 L) {k:bT} {i m cap:Nat} {cs:List AV} (ha:dB n kvs s= .vw k i cap) (hi:L[p]? =some (some k,.obj e cs)) (hx:dB n kvs x= .sc (.int ik (m:Int))) (hfull:cap < i+m) (hcs:i*sz<=cs.length) (hb:(i+m)*(b+1)<=140737488355328)
    (k2:∀(q:bT) (cap':Nat) (R:List AV),i+m<=cap'->cap'<=maxLen->i*sz+R.length=cap'*sz->bP h0 ((some q,.obj e (cs.take (i*sz)++R))::L)->K (.vw q (i+m) cap') (hp h0 ((some q,.obj e (cs.take (i*sz)++R))::L))):
    jG P ⟨dst,.call { callee:=.builtin .append,args:= #[s,x],argTypes:= #[t,tn]},ty,pos,dL,none⟩ K (fm n kvs) (hp h0 L):=by
  obtain⟨ii,z,hii,hz,rfl,rfl,hzs,hsp⟩:=ht.inf
  have hzc:∀u∈z.cells.toList,u.oneCell'=true:=by
    have:zv=z.cells.toList:=by
      unfold rV at hzr
      rw[hii] at hzr
      simp only[bind_some,hz,map_some,Option.some.injEq] at hzr
      exact hzr.symm
    subst this
    exact λu hu=>all_eq_true.1 hzo u hu
  rw[Nat.mul_add,Nat.mul_one] at hb
  intro E w a r hv Nx Qx hn
  have vs:=hv s (by simp[Op.operands,operands])
  have vx:=hv x (by simp[Op.operands,operands])
  rw[bF] at vs vx
  rw[ha] at vs; rw[hx] at vx
  simp only[VR] at vs vx
  obtain⟨g,hg,es,h1,h2⟩:=vs
  obtain⟨g',cur,f1,f2,f3,f4⟩:=r.obj _ _ _ (aW p hk hi)
  rw[hg] at f1; cases f1
  have hlen:cs.length=cur.size:=by simpa using cJ f3
  have htl:(cur.toList.take (i*ii.size)).length=i*ii.size:=by
    rw[length_take]
    have:cur.toList.length=cur.size:=by simp
    omega
  have hold:∀j u,(cur.toList.take (i*ii.size))[j]? =some u->w.drew.cell? ((⟨g,0,none⟩:Addr).add j)=some u:=by
    intro j u hj
    rw[Addr.add_lit,zero_add]
    rw[getElem?_take] at hj
    split at hj
    . show w.cell? ⟨g,j,none⟩=some u
      simp only[cell?,f2]
      simpa using hj
    . cases hj
  have hf:=run_firstCells_some (P:=P) w.drew ii.size i ⟨g,0,none⟩ i cap (cur.toList.take (i*ii.size)) htl hold
  have hm0:0 < m:=by omega
  have hw:i64.wrap (m:Int)=m:=by rw[wrap_i64]; omega
  have hnn:¬((m:Int) < 0):=by omega
  have hfit:nextslicecap (i+m) cap*ii.bytes<=281474976710656:=growslice_fits (by omega) (by omega)
  have hmb:¬(281474976710656 < (m:Int)*(ii.bytes:Int)):=by
    rw[<- Int.natCast_mul]
    have:m*ii.bytes<=(i+m)*ii.bytes:=Nat.mul_le_mul_right _ (by omega)
    omega
  have hnr:¬(i+m<=cap):=by omega
  have h63:¬(9223372036854775807 < (i:Int)+(m:Int)):=by omega
  have hnf:¬(281474976710656 < nextslicecap (i+m) cap*ii.bytes):=by omega
  have hns:¬(m*ii.size=0):=Nat.mul_ne_zero (by omega) (by omega)
  have hm00:m≠0:=by omega
  have hsz0:ii.size≠0:=by omega
  have hrun:(append_ #[t,tn] ty #[.slice (some ⟨g,0,none⟩) i cap,.int ik m]).run P w=
      .ok (.slice (some ⟨w.heap.size,0,none⟩) (i+m) (grownCap w (i+m) cap e)) (w.drew.alloc (.cells ((cur.toList.take (i*ii.size)).toArray++zeroCells z.cells m++zeroCells z.cells (grownCap w (i+m) cap e - (i+m))) e)):=by
    simp[append_,run_underlying ht.ut,run_underlying htn,sizeOf,typeInfo,zeroValue,hii,hz,asInt,asIntOf,hw,hnn,hmb,hnr,h63,hnf,hns,hm00,hsz0,Question.forced,hf,newRow,grownCap]
  have hge:=grownCap_ge w (i+m) cap e
  have hcm:grownCap w (i+m) cap e<=maxLen:=grownCap_le_maxLen w (i+m) cap e (by simp only[maxLen]; omega)
  generalize hgc:grownCap w (i+m) cap e=gc at hge hcm hrun
  obtain⟨rd,kd⟩:=r.drewn (w.drawn+1)
  have rd':eI E (hp h0 L) w.drew:=rd
  obtain⟨nn,hE1⟩:=rd'.fresh 0
  have hlz:∀q,(zeroCells z.cells q).toList.length=q*ii.size:=λq=>by rw[Array.length_toList,size_zeroCells,hzs]
  have hvl:cI E w.drew (cs.take (i*ii.size)++replicate ((zeroCells z.cells m).toList.length+(zeroCells z.cells (gc - (i+m))).toList.length) AV.any) ((cur.toList.take (i*ii.size)).toArray++zeroCells z.cells m++zeroCells z.cells (gc - (i+m))).toList:=by
    rw[toList_append,toList_append,append_assoc]
    exact cL (bW kd _ _ (fS _ f3)) (sA _ (by rw[length_append]))
  obtain⟨E',e1,e2,e3⟩:=eI.new_obj (w:=w.drew) rd' hE1 e hvl (by
    intro v hv
    rw[toList_append,toList_append] at hv
    rcases mem_append.1 hv with hv | hv
    . rcases mem_append.1 hv with hv | hv
      . exact f4 v (mem_of_mem_take (by simpa using hv))
      . exact kA hzc v hv
    . exact kA hzc v hv)
  unfold wp
  have hex:(execOp a.eval ⟨dst,.call { callee:=.builtin .append,args:= #[s,x],argTypes:= #[t,tn]},ty,pos,dL,none⟩).run P w= .ok (.value (.slice (some ⟨w.heap.size,0,none⟩) (i+m) gc)) (w.drew.alloc (.cells ((cur.toList.take (i*ii.size)).toArray++zeroCells z.cells m++zeroCells z.cells (gc - (i+m))) e)):=by
    simp only[execOp,resolve,invoke,builtin,map_toArray,map_cons,map_nil,es,vx,run_bind,run_pure,andThen_ok,hrun]
  rw[hex]
  have hno:hp h0 L (0,nn)=none:=by
    cases hh:hp h0 L (0,nn) with
    | none=>rfl
    | some en=>exact absurd (r.hus _ _ hh) hE1
  have hkk:=k2 (0,nn) gc (replicate ((zeroCells z.cells m).toList.length+(zeroCells z.cells (gc - (i+m))).toList.length) AV.any) hge hcm (by
    rw[List.length_replicate,hlz,hlz,<- Nat.add_mul,<- Nat.add_mul]
    congr 1; omega) ⟨hk,λk e=>by cases e; exact hno⟩
  refine hn (.vw (0,nn) (i+m) gc) _ _ E' _ (kd.trans e2) e3 ?_ hkk
  simp only[VR]
  exact⟨_,e1,rfl,hge,hcm⟩
theorem tQ {K : AV → aF → Prop} {dst : Option Tmp} {x y : Operand} {ts : Array TypeId} {f : FuncId} {fn : Func} {tS tR e : TypeId} {sz : Nat} (hf : P.funcs[f]? = some fn) (hname : (fn.name == "runtime.NumGoroutine") = false)
    (hb:fn.body.isNone=true) (hn':Extern.findNext fn=none) (he:Extern.find fn=some (Extern.SlicesOverlaps.overlaps #[tS,tS] #[tR])) {b:Nat} (het:lQ P tS e sz b) {ys:List (List AV)} (hne:ys≠ []) {k:bT} {off m:Nat} {cs:List AV} {ty2:TypeId}
    (hsz:0 < sz) (hx:dB n kvs x= .sl none sz ys) (hy:dB n kvs y= .view k off m) (hk:h k=some (.obj ty2 cs)) (hcs:0 < cs.length) (k1:K (.sc (.bool false)) h):
    jG P ⟨dst,.call { callee:=.value (.func f),args:= #[x,y],argTypes:=ts},ty,pos,dL,none⟩ K (fm n kvs) h:=by
  obtain⟨ii,z,hii, -, -, -, -, -⟩:=het.inf
  have ht:=het.ut
  refine dZ (x:=.sc (.bool false)) (λE w a r hv=> ?_) k1
  have vx:=hv x (by simp[Op.operands,operands])
  have vy:=hv y (by simp[Op.operands,operands])
  rw[bF] at vx vy
  rw[hx] at vx; rw[hy] at vy
  have hall:∀z∈ys,z.length=sz:=by
    have:=vx
    simp only[VR] at this
    obtain⟨_,_,_,_,_,_,h4,_⟩:=this
    exact h4
  obtain⟨gb,o,cap,cv,ex,c1,c2,c3,c4⟩:=nV vx hne
  simp only[VR] at vx vy
  obtain⟨g,yc,hg,ey,y1,y2⟩:=vy
  obtain⟨a0,cap0,ea, -, -,h3, -, -⟩:=vx
  obtain⟨g',cur,f1,f2,f3,f4⟩:=r.obj _ _ _ hk
  rw[hg] at f1; cases f1
  have hlen:cs.length=cur.size:=by simpa using cJ f3
  have hcl:0 < cv.length:=by
    rw[c3]
    exact Nat.mul_pos (List.length_pos_iff.2 hne) hsz
  obtain⟨u,hu⟩:∃u,cv[0]? =some u:=⟨cv[0],getElem?_eq_getElem hcl⟩
  obtain⟨hc0,hp0⟩:=c4 0 u hu
  rw[Nat.add_zero] at hc0
  have himm:E.imm gb o:=by
    rcases hp0 with h5 | ⟨kk,t,h5,_⟩
    . simpa using h5
    . cases h5
  have hbne:gb≠g:=λq=>(r.dis k g (.inl ⟨_,rfl,hk,hg⟩)).2 o (q ▸ himm)
  have hb1:(gb !=g)=true:=by simpa using hbne
  have hb2:(gb==g)=false:=by simpa using hbne
  obtain⟨bs,bt,bz,hblk⟩:∃cells ty fz,w.heap[gb]? =some (.cells cells ty fz):=by
    cases hh:w.heap[gb]? with
    | none=>simp[cell?,hh] at hc0
    | some ob=>cases ob with
      | cells a b c=>exact⟨a,b,c,rfl⟩
      | _=>simp[cell?,hh] at hc0
  have hsa:w.shape? gb=some (bt,bs.size):=by simp[shape?,hblk]
  have hsb:w.shape? g=some (ty2,cur.size):=by simp[shape?,f2]
  have hfb:∀off,w.frozen? ⟨g,off,none⟩=false:=λoff=>by simp[World.frozen?,f2]
  have hcz:cur.size≠0:=by omega
  have hbz:bs.size≠0:=by
    intro hz
    have:bs= #[]:=by simpa using hz
    rw[this] at hblk
    simp[cell?,hblk] at hc0
  have hrun:(Extern.SlicesOverlaps.overlaps #[tS,tS] #[tR] #[.slice (some ⟨gb,o,none⟩) ys.length cap,.slice (some ⟨g,off,none⟩) m yc]).run P w= .ok (.bool false) w:=by
    refine (Sem.run_bind (x:=underlying tS) ..).trans ?_
    rw [run_underlying ht]
    simp only [Result.andThen_ok]
    have hsz':(sizeOf e).run P w= .ok ii.size w:=by simp[sizeOf,typeInfo,hii]
    by_cases hz:ys.length=0\/m=0\/ii.size=0
    . rcases hz with hz | hz | hz
      . exact absurd (length_eq_zero_iff.1 hz) hne
      . simp[run_underlying ht,hsz',hz]
      . simp[run_underlying ht,hsz',hz]
    . cases hsc:cur.size with
      | zero=>exact absurd hsc hcz
      | succ q=>
        cases hbc:bs.size with
        | zero=>exact absurd hbc hbz
        | succ q2=>
        rw[hsc] at hsb
        rw[hbc] at hsa
        simp[run_underlying ht,hsz',hz,hb1,hb2,frozen,noView,viewAt,mayBeOne,stringish,shape,run,hsa,hsb,hfb]
  refine⟨.bool false, ?_,by simp only[VR]⟩
  rw[ex] at ea
  have hfu:a.eval (.func f)= .func (.func f) #[] #[]:=rfl
  simp only[execOp,resolve,hfu,Deferred.ofValue,invoke,map_toArray,map_cons,map_nil,run_bind,run_pure,andThen_ok,ex,ey]
  simp[run_callFunc_extern hf hname hb hn' he,hrun]
end
section
variable {α:Type} {c:α->List AV} {sz:Nat}
def qR (xs:List α) (i:Int) (x:α):Option (List α):=if 0<=i/\i<=(xs.length:Int)/\xs.length < 1000000000 then some (xs.take i.toNat++x::xs.drop i.toNat) else none
theorem mP {xs o:List α} {i:Int} {x:α} (h:qR xs i x=some o):0<=i/\i<=(xs.length:Int)/\xs.length < 1000000000/\o=xs.take i.toNat++x::xs.drop i.toNat:=by
 unfold qR at h
 split at h
 ·rename_i q; cases h; exact⟨q.1,q.2.1,q.2.2,rfl⟩
 ·cases h
theorem IM {xs:List α} {x:α} (h:xs.length < 1000000000):app xs [x]=some (xs++ [x]):=by
 unfold app
 rw[if_pos (by simp only[length_append,List.length_singleton]; omega)]
theorem N5 {P:Program} {n:Nat} {kvs:KV} {h:aF} {ty:TypeId} {pos:String} {dL:Array Edge} {dst:Option Tmp} {s:Nat} {lo:Operand} {t:TypeId} {g:dE} {m:Nat} {q:IntKind} {i:Int} (h0':0<=i) (h1':i<=(m:Int)) (ok:bK g sz m) (ht:nN P t=some sz) (ha:dB n kvs (.tmp s)=aw g.t g.n g.cap) (hb:dB n kvs lo= .sc (.int q i)):
    eB P ⟨dst,.slice t (.tmp s) (some lo) none none,ty,pos,dL,none⟩ .any (fm n kvs) h:=by
  rw[ok.eqn] at ha
  cases ht':g.t with
  | some k=>rw[ht'] at ha; exact aBU h0' h1' ht ha hb
  | none=>
    rw[ht'] at ha
    have:=ok.nil ht'
    have hi0:i=0:=by omega
    subst hi0
    have hT:DT P t=true:=by simp[DT,ht]
    have ha:dB n kvs (.tmp s)= .e0:=ha
    refine iR (x:=.e0) (jZ (c:=(0:Int)=0/\(0:Int)=0) ?_ ⟨rfl,rfl⟩) (λ_ _ _ _ _=>by simp only[VR])
    simp only[pv,bF,ha,map_some,hb,map_none,BP,ht,bind_some,oK,lC,hT,if_true]
theorem BB (hc:∀y,(c y).length=sz) {xs:List α} {i:Nat} (hi:i<=xs.length) (sp:List AV):
    fl c xs sp=((xs.take i).map c).flatten++(((xs.drop i).map c).flatten++sp)/\((xs.take i).map c).flatten.length=i*sz/\((xs.drop i).map c).flatten.length=(xs.length - i)*sz/\
      ∀(x:α) (sp':List AV),fl c (xs.take i++x::xs.drop i) sp'=((xs.take i).map c).flatten++(c x++(((xs.drop i).map c).flatten++sp')):=by
  refine⟨?_, ?_, ?_,λx sp'=> ?_⟩
  . unfold fl
    rw[<- append_assoc,<- flatten_append,<- map_append,List.take_append_drop]
  . rw[mW hc,length_take]; congr 1; omega
  . rw[mW hc,length_drop]
  . unfold fl
    simp[map_append,flatten_append]
theorem jP {A B B' C:List AV} {n:Nat} (hn:A.length=n) (hb:B.length=B'.length):eU (A++(B++C)) n B'=A++(B'++C):=by
 subst hn
 unfold eU
 rw[List.take_left,<- hb,<- append_assoc A B C,show A.length+B.length=(A++B).length from by simp,List.drop_left]
 simp
end
section
variable {α β:Type} {l:α->List β} {sz szi:Nat} {ty:TypeId} {ci:β->List AV} {h0:aF} {L L':HL}
def lS (gs:List OG) (i:Nat) (og:OG):List OG:=gs.take i++og::gs.drop i
theorem E6 {γ δ:Type}:∀(i:Nat) (xs:List γ) (gs:List δ),(xs.take i).zip (gs.take i)=(xs.zip gs).take i
 | 0,_,_=>by simp
 | i+1,[],_=>by simp
 | i+1,_::_,[]=>by simp
 | i+1,x::xs,g::gs=>by simp[E6 i xs gs]
theorem E7 {γ δ:Type}:∀(i:Nat) (xs:List γ) (gs:List δ),(xs.drop i).zip (gs.drop i)=(xs.zip gs).drop i
 | 0,_,_=>by simp
 | i+1,[],_=>by simp
 | i+1,_::_,[]=>by simp
 | i+1,x::xs,g::gs=>by simp[E7 i xs gs]
theorem IN {xs:List α} {gs:List OG} (hl:gs.length=xs.length) (i:Nat) (x:α) (og:OG):zg (xs.take i++x::xs.drop i) (lS gs i og)=(zg xs gs).take i++(x,og)::(zg xs gs).drop i:=by
 unfold zg lS
 rw[List.zip_append (by simp[hl]),List.zip_cons_cons,E6,E7]
theorem R5 {xs y:List α} {gs:List OG} (hl:gs.length=xs.length) {i:Int} {x:α} (og:OG) (h:qR xs i x=some y):qR (zg xs gs) i (x,og)=some (zg y (lS gs i.toNat og)):=by
 obtain⟨h1,h2,h3,rfl⟩:=mP h
 unfold qR
 rw[vP hl,if_pos ⟨h1,h2,h3⟩,IN hl]
theorem N6 {xs y:List α} {gs:List OG} (hl:gs.length=xs.length) {i:Int} {x:α} (og:OG) (h:qR xs i x=some y):(nl l (zg y (lS gs i.toNat og))).Perm ((l x,og)::nl l (zg xs gs)):=by
 obtain⟨h1,h2,h3,rfl⟩:=mP h
 rw[IN hl]
 unfold nl
 rw[map_append,map_cons]
 refine List.perm_middle.trans (List.Perm.cons _ ?_)
 rw[<- map_append,List.take_append_drop]
theorem N7 {xs y:List α} {i:Int} {x:α} (h:qR xs i x=some y):y.length=xs.length+1:=by
 obtain⟨h1,h2,h3,rfl⟩:=mP h
 simp only[length_append,length_take,List.length_cons,length_drop]
 omega
theorem tO.ins {g:dI} {xs y:List α} (ok:tO l sz szi g xs) {i:Int} {x:α} (h:qR xs i x=some y) (hx:l x= []) {g':dE} (og:OG) (hog:∀g2,og=some g2->bK g2 szi 0) (ok':bK g' sz (zg y (lS g.gs i.toNat og)).length):tO l sz szi ⟨g',lS g.gs i.toNat og⟩ y:=by
 obtain⟨h1,h2,h3,e⟩:=mP h
 have hl:(lS g.gs i.toNat og).length=y.length:=by
  rw[N7 h,lS]
  have:=ok.len
  simp only[length_append,length_take,List.length_cons,length_drop]
  omega
 refine⟨by rw[vP hl] at ok'; exact ok',hl,λz hz g2 hg2=> ?_⟩
 have hz2:=(N6 (l:=l) ok.len og h).mem_iff.1 hz
 rcases mem_cons.1 hz2 with rfl | hz2
 ·simp only[hx]
  exact hog g2 hg2
 ·exact ok.el z hz2 g2 hg2
theorem nI.ins {g:dI} {xs y:List α} (ok:nI l sz szi g xs) {i:Int} {x:α} (h:qR xs i x=some y) (hx:l x= []) {g':dE} (ok':bK g' sz (zg y (lS g.gs i.toNat (some g0))).length):nI l sz szi ⟨g',lS g.gs i.toNat (some g0)⟩ y:=
 ⟨ok.k.ins h hx (some g0) (λg2 e=>by cases e; exact bK.g0 szi) ok',λog ho=>by
  unfold lS at ho
  rcases mem_append.1 ho with ho | ho
  ·exact ok.own og (mem_of_mem_take ho)
  ·rcases mem_cons.1 ho with rfl | ho
   ·exact nofun
   ·exact ok.own og (List.mem_of_mem_drop ho)⟩
theorem R6 (hk:bP h0 L) (bl:List HL) (hL:iI bl=L) (b:Nat) {xs y:List α} {gs:List OG} (hl:gs.length=xs.length) {i:Int} {x:α} {og:OG} (hog:oT og=none) (h:qR xs i x=some y) (hb:bl[b]? =some (lO ty ci (nl l (zg xs gs))))
    (hL':iI (bl.set b (lO ty ci (nl l (zg y (lS gs i.toNat og)))))=L'):hp h0 L=hp h0 L'/\bP h0 L':=by
  subst hL hL'
  have p:(lO ty ci (nl l (zg y (lS gs i.toNat og)))).Perm ((none,.obj ty (fl ci (l x) (oS og)))::lO ty ci (nl l (zg xs gs))):=by
    have:=(N6 (l:=l) hl og h).map λz:List β×OG=>(oT z.2,jC.obj ty (fl ci z.1 (oS z.2)))
    simp only[map_cons,hog] at this
    exact this
  obtain⟨e1,k1⟩:=iA (oY hb) hk
  have k2:bP h0 ((none,jC.obj ty (fl ci (l x) (oS og)))::(lO ty ci (nl l (zg xs gs))++(bl.eraseIdx b).flatten)):=⟨k1,nofun⟩
  obtain⟨e3,k3⟩:=iA ((p.append_right _).symm.trans (p6 _ hb).symm) k2
  exact⟨e1.trans e3,k3⟩
end
end Go.Vm
namespace Go.Proofs.YtbbifdfldpfphaaGreat
open Go.Vm
def kW (y:aB×OG):List AV:=bC y.1.Id++([.sc (.bool y.1.Staged),.sl none 1 (map f9 y.1.Data),awO aN 4 y.2 y.1.Locs]:List AV)
theorem kL:∀y,(kW y).length=35:=λy=>by first | rfl | simp[kW,bC,bH.len]
theorem E8:∀(H:aF) (y:aB×OG),Br H (awO aN 4 y.2 y.1.Locs) (.sl none 4 (y.1.Locs.map aN))->uQ H (kW y) (aK y.1):=λH y b=>uQ.app 32 rfl (.cons (Br.refl _ _) (.cons (Br.refl _ _) (.cons b .nil)))
theorem tT:∀(H H':aF) (y:aB×OG),Fz H H' (awO aN 4 y.2 y.1.Locs) (.sl none 4 (y.1.Locs.map aN))->pL H H' (kW y) (aK y.1):=λH H' y b=>pL.app 32 rfl (.cons (Fz.refl _ _ _) (.cons (Fz.refl _ _ _) (.cons b .nil)))
def mG (y:aH×OG):List AV:=[.sc (.int .i64 y.1.Seq),.sc (.string y.1.Man.Name),.sl none 3 (map bX y.1.Man.Parts),awO aN 4 y.2 y.1.Locs]
theorem m5:∀y,(mG y).length=4:=λy=>by first | rfl | simp[mG,bC,bH.len]
theorem wV:∀(H H':aF) (y:aH×OG),Fz H H' (awO aN 4 y.2 y.1.Locs) (.sl none 4 (y.1.Locs.map aN))->pL H H' (mG y) (bJ y.1):=λH H' y b=>.cons (Fz.refl _ _ _) (.cons (Fz.refl _ _ _) (.cons (Fz.refl _ _ _) (.cons b .nil)))
def m6 (y:aT×OG):List AV:=[.sc (.int .i64 y.1.Seq),.sc (.int .i64 y.1.Of),awO aN 4 y.2 y.1.Locs]
theorem tU:∀y,(m6 y).length=3:=λy=>by first | rfl | simp[m6,bC,bH.len]
theorem WR:∀(H:aF) (y:aT×OG),Br H (awO aN 4 y.2 y.1.Locs) (.sl none 4 (y.1.Locs.map aN))->uQ H (m6 y) (cH y.1):=λH y b=>.cons (Br.refl _ _) (.cons (Br.refl _ _) (.cons b .nil))
theorem CU:∀(H H':aF) (y:aT×OG),Fz H H' (awO aN 4 y.2 y.1.Locs) (.sl none 4 (y.1.Locs.map aN))->pL H H' (m6 y) (cH y.1):=λH H' y b=>.cons (Fz.refl _ _ _) (.cons (Fz.refl _ _ _) (.cons b .nil))
abbrev cD (g:dE) (e:List aB):Option bT×jC:=(g.t,.obj 44 (fl aK e g.sp))
abbrev aY (g:dI) (e:List aB):Option bT×jC:=(g.a.t,.obj 44 (fl kW (zg e g.gs) g.a.sp))
abbrev bB (g:dI) (e:List aB):HL:=lO 81 aN (nl aB.Locs (zg e g.gs))
abbrev a8 (g:dE) (e:List aQ):Option bT×jC:=(g.t,.obj 49 (fl dH e g.sp))
abbrev cP (g:dE) (e:List aH):Option bT×jC:=(g.t,.obj 60 (fl bJ e g.sp))
abbrev bL (g:dI) (e:List aH):Option bT×jC:=(g.a.t,.obj 60 (fl mG (zg e g.gs) g.a.sp))
abbrev bO (g:dI) (e:List aH):HL:=lO 81 aN (nl aH.Locs (zg e g.gs))
abbrev kG (g:dE) (e:List aS):Option bT×jC:=(g.t,.obj 81 (fl aN e g.sp))
abbrev eQ (g:dE) (e:List aT):Option bT×jC:=(g.t,.obj 99 (fl cH e g.sp))
abbrev bR (g:dI) (e:List aT):Option bT×jC:=(g.a.t,.obj 99 (fl m6 (zg e g.gs) g.a.sp))
abbrev bS (g:dI) (e:List aT):HL:=lO 81 aN (nl aT.Locs (zg e g.gs))
abbrev OC (k:bT) (q:Int) (a b c d:dE):Option bT×jC:=(some k,.obj 30 [.sc (.int .i64 q),aw a.t a.n a.cap,aw b.t b.n b.cap,aw c.t c.n c.cap,aw d.t d.n d.cap])
end Go.Proofs.YtbbifdfldpfphaaGreat
