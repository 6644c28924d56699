import Derived.Test.YtbbifdfldpfphaaGreatK5P3
import Derived.Test.YtbbifdfldpfphaaGreatK5P4
import Derived.Laws.Externs
set_option linter.unusedSimpArgs false
set_option linter.unusedVariables false
set_option maxHeartbeats 4000000
set_option maxRecDepth 100000
namespace Go.Proofs.YtbbifdfldpfphaaGreat
open Go.Vm
def EV (m:Nat) (p0:a8) (p1:a8):Option (Bool):=
 after (if (p0.Vol==p1.Vol)=true then (if (p0.File==p1.File)=true then (if (p0.Off==p1.Off)=true then (some (.brk (p0.Len==p1.Len))) else some (.brk false)) else some (.brk false)) else some (.brk false):Option (Lp (Bool) (Bool))) λj0=>some j0
theorem YR {u:Nat} {p0:a8} {p1:a8} {o:Bool} (h:aE) (m:EV u p0 p1=some o):
 aL Tryz.prog 102 [.agg (aN p0),.agg (aN p1)] h (λr h'=>r= .sc (.bool o)∧h'=h):=by
 refine f8 31 [.tmp 4] Tryz.func102 rfl rfl rfl rfl ?_
 unfold EV at m
 refine v (gY rfl rfl λk2 K3=>gY rfl rfl λk5 K6=>vs (fN m (σ:=Bool) (λs=> [(some k5,.obj 81 (aN p1)),(some k2,.obj 81 (aN p0))]) (λs=>.c 4 (.sc (.bool s)) .nil) (λx m=> ?_) ?_))
 refine v (vl 1 _ cF rfl rfl rfl (vl 0 _ cF rfl rfl rfl ?_))
 apply vi m <;> intro b0 m
 rw[b0]
 refine vl 1 _ cF rfl rfl rfl (vl 0 _ cF rfl rfl rfl ?_)
 apply vi m <;> intro b1 m
 rw[b1]
 refine vl 1 _ cF rfl rfl rfl (vl 0 _ cF rfl rfl rfl ?_)
 apply vi m <;> intro b2 m
 rw[b2]
 exact vl 1 _ cF rfl rfl rfl (vl 0 _ cF rfl rfl rfl (iX m))
 rw[b2]
 exact iX m
 rw[b1]
 exact iX m
 rw[b0]
 exact iX m
 rintro _ j0 m
 refine v ?_
 obtain rfl:=eT m
 exact eD rfl
theorem R5:aO Tryz.prog 102=true:=by kernel_rfl
def yP (m:Nat) (p0:List a8) (p1:List a8) (q0:Int):Option (Lp (Int) (Bool)):=
 if (decide (q0 < (p0.length:Int)))=true then ((ix p0 q0).bind λx0=>(ix p1 q0).bind λx1=>(EV m x0 x1).bind λy0=>if (!y0)=true then (some (.ret false)) else some (.go (IntKind.wrap .i64 (q0+1)))) else some (.brk q0)
def YS (m:Nat) (p0:List a8) (p1:List a8):Option (Bool):=
 if ((p0.length:Int) !=(p1.length:Int))=true then (some false) else after (aU (λs=>yP m p0 p1 s) m 0) λr0=>some true
theorem W84 {u:Nat} {p0:List a8} {p1:List a8} {o:Bool} (h:aE) (m:YS u p0 p1=some o):
 aL Tryz.prog 84 [.sl none 4 (List.map aN p0),.sl none 4 (List.map aN p1)] h (λr h'=>r= .sc (.bool o)∧h'=h):=by
 refine f8 27 [.tmp 4] Tryz.func84 rfl rfl rfl rfl ?_
 unfold YS at m
 refine v (v (dE gO rfl (dE gO rfl (v ?_))))
 apply vi m <;> intro c4 m
 refine v (v ?_)
 obtain rfl:=eT m
 exact eD rfl
 refine v (v (jY m (σ:=Int) (λs=> []) (λs=>.c 0 (.sl none 4 (List.map aN p0)) (.c 1 (.sl none 4 (List.map aN p1)) (.c 5 (nZ s) .nil))) (lx (.k3 .nil)) ?_ ?_))
 rintro _ q0 x m
 replace m:yP u p0 p1 q0=some x:=m
 unfold yP at m
 refine v (dE gO rfl (v ?_))
 apply vi m <;> intro c0 m
 refine v (v (v (vq (by kernel_rfl) (vx m jR rfl rfl λx0 _ m=>va (.agg (aN x0)) l8 rfl rfl (vx m jR rfl rfl λx1 _ m=>va (.agg (aN x1)) l8 rfl rfl (vk YR R5 m rfl rfl λ_ m=>v ?_))))))
 apply vi m <;> intro c1 m
 refine v (v (gM m λm=> ?_))
 obtain rfl:=eT m
 exact eD rfl
 exact v (v (gU m))
 exact v (EE m)
 rintro _ r0 m
 refine v (v ?_)
 obtain rfl:=eT m
 exact eD rfl
theorem aES:aO Tryz.prog 84=true:=by kernel_rfl
def yQ (m:Nat) (p0:List Int) (p1:List Int) (q0:Int):Option (Lp (Int) (Bool)):=
 if (decide (q0 < (p0.length:Int)))=true then ((ix p0 q0).bind λx0=>(ix p1 q0).bind λx1=>if (x0 !=x1)=true then (some (.ret false)) else some (.go (IntKind.wrap .i64 (q0+1)))) else some (.brk q0)
def V6 (m:Nat) (p0:List Int) (p1:List Int):Option (Bool):=
 if ((p0.length:Int) !=(p1.length:Int))=true then (some false) else after (aU (λs=>yQ m p0 p1 s) m 0) λr0=>some true
theorem W44 {u:Nat} {p0:List Int} {p1:List Int} {o:Bool} (h:aE) (m:V6 u p0 p1=some o):
 aL Tryz.prog 44 [.sl none 1 (List.map dF p0),.sl none 1 (List.map dF p1)] h (λr h'=>r= .sc (.bool o)∧h'=h):=by
 refine f8 26 [.tmp 4] Tryz.func44 rfl rfl rfl rfl ?_
 unfold V6 at m
 refine v (v (dE kK rfl (dE kK rfl (v ?_))))
 apply vi m <;> intro c4 m
 refine v (v ?_)
 obtain rfl:=eT m
 exact eD rfl
 refine v (v (jY m (σ:=Int) (λs=> []) (λs=>.c 0 (.sl none 1 (List.map dF p0)) (.c 1 (.sl none 1 (List.map dF p1)) (.c 5 (nZ s) .nil))) (lx (.k3 .nil)) ?_ ?_))
 rintro _ q0 x m
 replace m:yQ u p0 p1 q0=some x:=m
 unfold yQ at m
 refine v (dE kK rfl (v ?_))
 apply vi m <;> intro c0 m
 refine v (v (v (vq (by kernel_rfl) (vx m GO rfl rfl λ_ _ m=>vx m GO rfl rfl λ_ _ m=>v ?_))))
 apply vi m <;> intro c1 m
 refine v (v (gM m λm=> ?_))
 obtain rfl:=eT m
 exact eD rfl
 exact v (v (gU m))
 exact v (EE m)
 rintro _ r0 m
 refine v (v ?_)
 obtain rfl:=eT m
 exact eD rfl
theorem UC:aO Tryz.prog 44=true:=by kernel_rfl
def YT (m:Nat) (p0:aB) (p1:aB):Option (Bool):=
 after (if (decide (p0.Id=p1.Id))=true then (if (p0.Staged==p1.Staged)=true then ((V6 m p0.Data p1.Data).bind λy0=>if y0=true then ((YS m p0.Locs p1.Locs).bind λy1=>some (.brk y1)) else some (.brk false)) else some (.brk false)) else some (.brk false):Option (Lp (Bool) (Bool))) λj0=>some j0
theorem W43 {u:Nat} {p0:aB} {p1:aB} {o:Bool} (h:aE) (m:YT u p0 p1=some o):
 aL Tryz.prog 43 [.agg (aI p0),.agg (aI p1)] h (λr h'=>r= .sc (.bool o)∧h'=h):=by
 refine f8 31 [.tmp 4] Tryz.func43 rfl rfl rfl rfl ?_
 unfold YT at m
 refine v (gY rfl rfl λk2 K3=>gY rfl rfl λk5 K6=>vs (fN m (σ:=Bool) (λs=> [(some k5,.obj 44 (aI p1)),(some k2,.obj 44 (aI p0))]) (λs=>.c 4 (.sc (.bool s)) .nil) (λx m=> ?_) ?_))
 refine v (vl 1 (.agg (bL p0.Id)) fW rfl rfl rfl (vl 0 (.agg (bL p1.Id)) fW rfl rfl rfl (bU (vX EI RK u5 EH rfl rfl) ?_)))
 apply vi m <;> intro b0 m
 rw[b0]
 refine vl 1 _ yC rfl rfl rfl (vl 0 _ yC rfl rfl rfl (bU (JJ u4 rfl rfl rfl) ?_))
 apply vi m <;> intro b1 m
 rw[b1]
 refine vl 1 _ kA rfl rfl rfl (vl 0 _ kA rfl rfl rfl (vk W44 UC m rfl rfl λ_ m=> ?_))
 apply vi m <;> intro b2 m
 rw[b2]
 exact vl 1 _ eL rfl rfl rfl (vl 0 _ eL rfl rfl rfl (vk W84 aES m rfl rfl λ_ m=>iX m))
 rw[b2]
 exact iX m
 rw[b1]
 exact iX m
 rw[b0]
 exact iX m
 rintro _ j0 m
 refine v ?_
 obtain rfl:=eT m
 exact eD rfl
theorem YU:aO Tryz.prog 43=true:=by kernel_rfl
open Go.Vm
theorem m8 {α ρ:Type} {l:List α} {F:Nat} {body:Int→Option (Lp Int ρ)} (q:α→Bool) (r:ρ) (hF:l.length < F) (hb:∀(i:Nat) (x:α),l[i]? =some x→x∈l→i < l.length→body (i:Int)=some (if q x then .ret r else .go ((i+1:Nat):Int)))
    (he:body (l.length:Int)=some (.brk (l.length:Int))):aU body F 0=some (if l.any q then .ret r else .brk (l.length:Int)):=by
  rw[fD (s0:=(0:Int)) (n:=l.length) (F:=F) (λi:Nat=>(i:Int)) (λi=>(l[i]?).any q) (λ_=>r) hF rfl (λi hi _=>by
    rw[hb i l[i] (List.getElem?_eq_getElem hi) (List.getElem_mem hi) hi,List.getElem?_eq_getElem hi]; rfl) (λ_=>he),iH,iO]
theorem m53 {F:Nat} {l:List a8} (hl:l.length≤1000):wR F l=some l:=by unfold wR; rw[cC (by simp; omega)]; simp
theorem UD {F:Nat} {l:List Int} (hl:l.length≤1000):vM F l=some l:=by unfold vM; rw[cC (by simp; omega)]; simp
theorem kC {S ρ:Type} {body:S→Option (Lp S ρ)} {n F:Nat} {s0:S} (emb:Nat→S) (hF:n < F) (h0:s0=emb 0) (hb:∀i,i < n→body (emb i)=some (.go (emb (i+1)))) (he:body (emb n)=some (.brk (emb n))):
    aU body F s0=some (.brk (emb n)):=by
  obtain⟨s',h1,h2⟩:=p5 (body:=body) (I:=λi s=>s=emb i) (n:=n) (λi s hi hs=>⟨_,by rw[hs]; exact hb i hi,rfl⟩) (λs hs=>by rw[hs]; exact he) F 0 s0 (Nat.zero_le _) (by omega) h0
  rw[h2,h1]
theorem n7 {α ρ:Type} {l:List α} {F:Nat} {body:List α×Int→Option (Lp (List α×Int) ρ)} (hF:l.length < F)
    (hb:∀(i:Nat) (x:α),l[i]? =some x→x∈l→i < l.length→body (l.take i,(i:Int))=some (.go (l.take i++ [x],((i+1:Nat):Int)))) (he:body (l,(l.length:Int))=some (.brk (l,(l.length:Int)))):
    aU body F ([],0)=some (.brk (l,(l.length:Int))):=by
  have:=kC (body:=body) (s0:=(([]:List α),(0:Int))) (n:=l.length) (F:=F) (λi:Nat=>(l.take i,(i:Int))) hF rfl (λi hi=>by
    rw[hb i l[i] (List.getElem?_eq_getElem hi) (List.getElem_mem hi) hi]
    simp) (by simpa using he)
  simpa using this
theorem m52 {F:Nat} {m:bG} (hF:1000≤F) (hp:m.Parts.length≤10) (hi:∀p∈m.Parts,p.Ids.length≤40):GZ F m=some m:=by
 unfold GZ
 rw[n7 (l:=m.Parts) (by omega) (λi x hx hm hi'=>by
  have:=hi x hm
  unfold tB
  rw[iW (by omega)]
  simp only[bH,hx,Option.bind_some,Int.ofNat_lt,hi',decide_true,if_true]
  rw[cC (by simp; omega)]
  simp only[Option.bind_some,List.nil_append]
  rw[cC (by simp; omega)]
  rfl) (by unfold tB; simp)]
 rfl
theorem m54 {F:Nat} {l:List aB} (hF:1000≤F) (hl:l.length≤400) (hx:∀x∈l,x.Locs.length≤300∧x.Data.length≤300):J1 F l=some l:=by
 unfold J1
 rw[n7 (l:=l) (by omega) (λi x hx' hm hi'=>by
  have:=hx x hm
  unfold tC
  rw[iW (by omega)]
  simp only[bH,hx',Option.bind_some,Int.ofNat_lt,hi',decide_true,if_true,UD (F:=F) (show x.Data.length≤1000 by omega),m53 (F:=F) (show x.Locs.length≤1000 by omega)]
  rw[cC (by simp; omega)]
  rfl) (by unfold tC; simp)]
 rfl
theorem m14 {F:Nat} {c:aA} (hF:1000≤F) (h:Sm c):M90 F c=some c:=by
 have hsn:=h.sn
 have hex:=h.ex
 have hvo:=h.vo
 unfold M90
 rw[n7 (l:=c.Snaps) (by omega) (λi x hx hm hi'=>by
  have h1:=h.sl x hm
  obtain⟨-,h2,h3⟩:=h.man x hm
  unfold G0
  rw[iW (by omega)]
  simp only[bH,hx,Option.bind_some,Int.ofNat_lt,hi',decide_true,if_true,m52 hF h2 (λp hp=>(h3 p hp).2),m53 (F:=F) (show x.Locs.length≤1000 by omega)]
  rw[cC (by simp; omega)]
  rfl) (by unfold G0; simp)]
 rw[n7 (l:=c.Exps) (by omega) (λi x hx hm hi'=>by
  have h1:=h.el x hm
  unfold G1
  rw[iW (by omega)]
  simp only[bH,hx,Option.bind_some,Int.ofNat_lt,hi',decide_true,if_true,m53 (F:=F) (show x.Locs.length≤1000 by omega)]
  rw[cC (by simp; omega)]
  rfl) (by unfold G1; simp)]
 simp only[aG,m54 hF h.ch h.cl,Option.bind_some]
 rw[cC (by simp; omega)]
 rfl
theorem m58 {F:Nat} {l:List a8} (hF:1000≤F) (hl:l.length≤300):YS F l l=some true:=by
 unfold YS
 rw[if_neg (by simp),m8 (l:=l) (F:=F) (λ_=>false) false (by omega) (λi x hx _ hi=>by
  unfold yP EV
  rw[iW (by omega)]
  simp[bH,hx,hi,after]) (by unfold yP; simp)]
 simp[after]
theorem YV {F:Nat} {l:List Int} (hF:1000≤F) (hl:l.length≤300):V6 F l l=some true:=by
 unfold V6
 rw[if_neg (by simp),m8 (l:=l) (F:=F) (λ_=>false) false (by omega) (λi x hx _ hi=>by
  unfold yQ
  rw[iW (by omega)]
  simp[bH,hx,hi,after]) (by unfold yQ; simp)]
 simp[after]
open Go.Vm
def G2 (m:Nat) (p0:List Int) (q0:List aP) (q1:Int):Option (Lp ((List aP)×Int) (aA×Int)):=
 if (decide (q1 < (p0.length:Int)))=true then ((ix p0 q1).bind λx0=>(yG m x0 0 1).bind λy0=>if (!y0)=true then (some (.ret (({ Seq:=0,Snaps:= [],Chunks:= [],Exps:= [],Vols:= []}:aA),1))) else (app q0 ([({ Pool:=x0,Epoch:=0,State:=1,Files:=0}:aP)]:List aP)).bind λz0=>some (.go (z0,IntKind.wrap .i64 (q1+1)))) else some (.brk (q0,q1))
def M32 (m:Nat) (p0:List Int):Option (aA×Int):=
 (yG m (p0.length:Int) 1 8).bind λy7=>if (!y7)=true then (some (({ Seq:=0,Snaps:= [],Chunks:= [],Exps:= [],Vols:= []}:aA),2)) else after (aU (λs=>G2 m p0 s.1 s.2) m ([],0)) λ⟨r0,r1⟩=>some (({ Seq:=0,Snaps:= [],Chunks:= [],Exps:= [],Vols:=r0}:aA),0)
theorem W32 {w:Nat} {p0:List Int} {o:aA×Int} (h:aE) (m:M32 w p0=some o):
 aL Tryz.prog 32 [.sl none 1 (List.map iY p0)] h (λr h'=>r= .tup [.agg (aF o.1),nZ o.2]∧h'=h):=by
 refine f8 31 [.cell 2 30,.tmp 3] Tryz.func32 rfl rfl rfl rfl ?_
 unfold M32 at m
 refine v (ve λu=>bJ (hH) u pX rfl rfl λk2 K3=>qk K3 rfl (v (dE JN rfl (vk CQ oR m rfl rfl λ_ m=>v ?_))))
 apply vi m <;> intro c9 m
 refine v (bU (eS (hH) CI rfl) (ve λu=>aK 0 (hH) u rfl rfl rfl rfl lZ rfl rfl λK0=>qk K0 rfl (v ?_)))
 cases m
 exact vr λu=>dW.of2 (.inl rfl) (qW (.agg (hH)) fC rfl (bB 0 u rfl) rfl) (fT _ _ (.sc (.int _ _)) rfl) (aT (List.nil_sublist _) u).1 (bF.agg (.cons (bF.refl _ _) (.cons (aX _) (.cons (aX _) (.cons (aX _) (.cons (aX _) .nil)))))) (bF.refl _ _) ⟨rfl,rfl⟩
 refine v (v (ve λu=>bJ (hH) u pX rfl rfl λk13 K1=>qk K1 rfl (v (dE JN rfl (qK (W0 (.tok 49 4 (([]:List aP).length*4)) 1 ([nZ 0,sZ,sZ,sZ,ow none 4 (List.map dC [])]) rfl (.k4 (.cons (jD (c:=dC) _ 4) .nil))) (nR m (σ:=(List aP)×Int) (τ:=Option cB) (λg s=> [(g,.tok 49 4 ((s.1:List aP).length*4)),(some k13,.obj 30 ([nZ 0,sZ,sZ,sZ,ow g 4 (List.map dC s.1)])),(some k2,.obj 30 (hH))]) (λg s=>(g=none→s.1= [])) (λg s=>.c 2 (.ptr k2 0) (.c 4 (.ptr k13 0) (.c 12 (.sl none 1 (List.map iY p0)) (.c 13 (nZ (p0.length:Int)) (.c 14 (nZ s.2) .nil))))) none (λ_=>rfl) (lx (.k5 .nil)) ?_ ?_))))))
 rintro tg0 ⟨q0,q1⟩ x t0 m
 replace m:G2 w p0 q0 q1=some x:=m
 unfold G2 at m
 refine v (v ?_)
 apply vi m <;> intro c0 m
 refine v (v (v (vx m S9 rfl rfl λx0 _ m=>v (vk CQ oR m rfl rfl λ_ m=>v ?_))))
 apply vi m <;> intro c1 m
 refine v (bU (eS (hH) CI rfl) (ve λu=>aK 2 (hH) u rfl rfl rfl rfl lZ rfl rfl λK2=>qk K2 rfl (v (gM m λm=> ?_))))
 cases m
 exact vr λu=>dW.of2 (.inl rfl) (qW (.agg (hH)) fC rfl (bB 2 u rfl) rfl) (fT _ _ (.sc (.int _ _)) rfl) (aT (List.nil_sublist _) u).1 (bF.agg (.cons (bF.refl _ _) (.cons (aX _) (.cons (aX _) (.cons (aX _) (.cons (aX _) .nil)))))) (bF.refl _ _) ⟨rfl,rfl⟩
 refine v (v (vl 1 (ow tg0 4 (List.map dC q0)) gH rfl rfl rfl (bU (eS (dC ({ Pool:=x0,Epoch:=0,State:=1,Files:=0}:aP)) W5 rfl) (bU (eK (List.map dC ([({ Pool:=x0,Epoch:=0,State:=1,Files:=0}:aP)]:List aP)) GJ rfl rfl rfl rfl) ?_))))
 obtain⟨z0,Z0,m⟩:=aC m
 exact ve λu=>fF (c:=dC) 0 Z0 GJ rfl rfl rfl t0 u rfl λtg1 t1 K4=>qk K4 rfl (ve λu=>aK 1 ([nZ 0,sZ,sZ,sZ,ow tg1 4 (List.map dC z0)]) u rfl rfl (jE rfl) (pR _ _ _) PU rfl rfl λK5=>qk K5 rfl (v (eW m tg1 t1 (lx (.k5 .nil)))))
 exact v (lM m tg0 t0 (lx (.k5 .nil)))
 rintro tg2 ⟨r0,r1⟩ t2 m
 refine v (vl 1 (.agg ([nZ 0,sZ,sZ,sZ,ow tg2 4 (List.map dC r0)])) fC rfl rfl rfl (ve λu=>aK 2 ([nZ 0,sZ,sZ,sZ,ow tg2 4 (List.map dC r0)]) u rfl rfl rfl (by repeat (first | exact rfl | refine cD (iL _ _ _) ?_ | refine cD (bW _ _ _) ?_ | refine cD (gJ _ _ _ _) ?_ | refine cD rfl ?_)) lZ rfl rfl λK6=>qk K6 rfl ?_))
 refine v ?_
 cases m
 exact vr λu=>dW.of2 (.inl rfl) (qW (.agg ([nZ 0,sZ,sZ,sZ,ow tg2 4 (List.map dC r0)])) fC rfl (bB 2 u rfl) rfl) (fT _ _ (.sc (.int _ _)) rfl) (aT (List.nil_sublist _) u).1 (bF.agg (.cons (bF.refl _ _) (.cons (aX _) (.cons (aX _) (.cons (aX _) (.cons ((eZ _ 0 t2 u rfl)) .nil)))))) (bF.refl _ _) ⟨rfl,rfl⟩
theorem aEV:aO Tryz.prog 32=true:=by kernel_rfl
def yR (m:Nat) (p0:List Int) (q0:List aP) (q1:Int):Option (Lp ((List aP)×Int) (aA)):=
 if (decide (q1 < (p0.length:Int)))=true then ((ix p0 q1).bind λx0=>(app q0 ([({ Pool:=x0,Epoch:=0,State:=1,Files:=0}:aP)]:List aP)).bind λz0=>some (.go (z0,IntKind.wrap .i64 (q1+1)))) else some (.brk (q0,q1))
def YW (m:Nat) (p0:List Int):Option (aA):=
 after (aU (λs=>yR m p0 s.1 s.2) m ([],0)) λ⟨r0,r1⟩=>some ({ Seq:=0,Snaps:= [],Chunks:= [],Exps:= [],Vols:=r0}:aA)
theorem W33 {w:Nat} {p0:List Int} {o:aA} (h:aE) (m:YW w p0=some o):
 aL Tryz.prog 33 [.sl none 1 (List.map iY p0)] h (λr h'=>r= .agg (aF o)∧h'=h):=by
 refine f8 22 [.cell 2 30] Tryz.func33 rfl rfl rfl rfl ?_
 unfold YW at m
 refine v (ve λu=>bJ (hH) u pX rfl rfl λk2 K3=>qk K3 rfl (v (ve λu=>bJ (hH) u pX rfl rfl λk6 K7=>qk K7 rfl (v (qK (W0 (.tok 49 4 (([]:List aP).length*4)) 1 ([nZ 0,sZ,sZ,sZ,ow none 4 (List.map dC [])]) rfl (.k4 (.cons (jD (c:=dC) _ 4) .nil))) (nR m (σ:=(List aP)×Int) (τ:=Option cB) (λg s=> [(g,.tok 49 4 ((s.1:List aP).length*4)),(some k6,.obj 30 ([nZ 0,sZ,sZ,sZ,ow g 4 (List.map dC s.1)])),(some k2,.obj 30 (hH))]) (λg s=>(g=none→s.1= [])) (λg s=>.c 0 (.sl none 1 (List.map iY p0)) (.c 2 (.ptr k2 0) (.c 3 (.ptr k6 0) (.c 4 (nZ s.2) .nil)))) none (λ_=>rfl) (lx (.k4 .nil)) ?_ ?_))))))
 rintro tg0 ⟨q0,q1⟩ x t0 m
 replace m:yR w p0 q0 q1=some x:=m
 unfold yR at m
 refine v (dE JN rfl (v ?_))
 apply vi m <;> intro c0 m
 refine v (v (v (vz [(10,some k6,.obj 30 ([nZ 0,sZ,sZ,sZ,ow tg0 4 (List.map dC q0)]))] mixed (λu=>⟨λ_=>aJ 1 u rfl,trivial⟩) λu=>zF 0 rfl fQ rfl (zL 1 0 (ow tg0 4 (List.map dC q0)) rfl gH rfl rfl rfl (zC 2 rfl (eY (.sl _ _ _) rfl) (zI 3 rfl rfl ?_))))))
 obtain⟨x0,X0,m⟩:=aC m
 refine zC 4 rfl (nO X0 S9 rfl rfl) (zC 5 rfl (nX (nZ x0) cF rfl rfl) (zC 6 rfl (eS (dC ({ Pool:=x0,Epoch:=0,State:=1,Files:=0}:aP)) W5 rfl) (zC 7 rfl (eK (List.map dC ([({ Pool:=x0,Epoch:=0,State:=1,Files:=0}:aP)]:List aP)) GJ rfl rfl rfl rfl) ?_)))
 obtain⟨z0,Z0,m⟩:=aC m
 refine zE 8 rfl (fF (c:=dC) 0 Z0 GJ rfl rfl rfl t0 u rfl λtg1 t1 K0=>⟨⟨λ_=>aJ 1 K0 rfl,trivial⟩, ?_⟩)
 refine zF 9 rfl fQ rfl (zE 10 rfl (aK 1 ([nZ 0,sZ,sZ,sZ,ow tg1 4 (List.map dC z0)]) K0 rfl rfl (jE rfl) (pR _ _ _) PU rfl rfl λK1=>⟨⟨λe=>absurd e (by decide),trivial⟩, ?_⟩))
 exact zX (qk (f:=PO 20 _ _ _ _ _ _ _ _ _ _ _) K1 rfl (v (eW m tg1 t1 (lx (.k4 .nil)))))
 exact v (lM m tg0 t0 (lx (.k4 .nil)))
 rintro tg2 ⟨r0,r1⟩ t2 m
 refine v (vl 1 (.agg ([nZ 0,sZ,sZ,sZ,ow tg2 4 (List.map dC r0)])) fC rfl rfl rfl (ve λu=>aK 2 ([nZ 0,sZ,sZ,sZ,ow tg2 4 (List.map dC r0)]) u rfl rfl rfl (by repeat (first | exact rfl | refine cD (iL _ _ _) ?_ | refine cD (bW _ _ _) ?_ | refine cD (gJ _ _ _ _) ?_ | refine cD rfl ?_)) lZ rfl rfl λK2=>qk K2 rfl ?_))
 refine v ?_
 cases m
 exact vr λu=>dW.of1 (.inl rfl) (qW (.agg ([nZ 0,sZ,sZ,sZ,ow tg2 4 (List.map dC r0)])) fC rfl (bB 2 u rfl) rfl) (aT (List.nil_sublist _) u).1 (bF.agg (.cons (bF.refl _ _) (.cons (aX _) (.cons (aX _) (.cons (aX _) (.cons ((eZ _ 0 t2 u rfl)) .nil)))))) ⟨rfl,rfl⟩
theorem aEW:aO Tryz.prog 33=true:=by kernel_rfl
open Go.Vm
def yS (m:Nat) (p0:aA) (p1:bO) (q0:Int) (q1:Int) (q2:Int):Option (Lp (Int) (Lp (Int) (Lp (Int) (Bool)))):=
 (ix p0.Snaps q0).bind λx0=>(ix x0.Man.Parts q1).bind λx1=>if (decide (q2 < (x1.Ids.length:Int)))=true then ((ix p0.Snaps q0).bind λx2=>(ix x2.Man.Parts q1).bind λx3=>(ix x3.Ids q2).bind λx4=>if (decide (x4=p1))=true then (some (.ret (.ret (.ret true)))) else some (.go (IntKind.wrap .i64 (q2+1)))) else some (.brk q2)
def yT (m:Nat) (p0:aA) (p1:bO) (q0:Int) (q1:Int):Option (Lp (Int) (Lp (Int) (Bool))):=
 (ix p0.Snaps q0).bind λx0=>if (decide (q1 < (x0.Man.Parts.length:Int)))=true then (after (aU (λs=>yS m p0 p1 q0 q1 s) m 0) λr0=>some (.go (IntKind.wrap .i64 (q1+1)))) else some (.brk q1)
def yU (m:Nat) (p0:aA) (p1:bO) (q0:Int):Option (Lp (Int) (Bool)):=
 if (decide (q0 < (p0.Snaps.length:Int)))=true then (after (aU (λs=>yT m p0 p1 q0 s) m 0) λr0=>some (.go (IntKind.wrap .i64 (q0+1)))) else some (.brk q0)
def YX (m:Nat) (p0:aA) (p1:bO):Option (Bool):=
 after (aU (λs=>yU m p0 p1 s) m 0) λr0=>some false
theorem W38 {u:Nat} {p0:aA} {p1:bO} {o:Bool} (h:aE) (m:YX u p0 p1=some o):
 aL Tryz.prog 38 [.agg (aF p0),.agg (bL p1)] h (λr h'=>r= .sc (.bool o)∧h'=h):=by
 refine f8 59 [.tmp 4] Tryz.func38 rfl rfl rfl rfl ?_
 unfold YX at m
 refine v (gY rfl rfl λk2 K3=>gY rfl rfl λk5 K6=>v (jY m (σ:=Int) (λs=> [(some k5,.obj 36 (bL p1)),(some k2,.obj 30 (aF p0))]) (λs=>.c 2 (.ptr k2 0) (.c 3 (.ptr k5 0) (.c 5 (nZ s) .nil))) (lx (.k3 .nil)) ?_ ?_))
 rintro _ q0 x m
 replace m:yU u p0 p1 q0=some x:=m
 unfold yU at m
 refine v (vl 1 _ fM rfl rfl rfl (dE jZ rfl (v ?_)))
 apply vi m <;> intro c0 m
 refine v (v (v (jY m (σ:=Int) (λs=> [(some k5,.obj 36 (bL p1)),(some k2,.obj 30 (aF p0))]) (λs=>.c 2 (.ptr k2 0) (.c 3 (.ptr k5 0) (.c 5 (nZ q0) (.c 6 (nZ s) .nil)))) (lx (.k4 .nil)) ?_ ?_)))
 rintro _ q1 x m
 replace m:yT u p0 p1 q0 q1=some x:=m
 unfold yT at m
 refine v (vl 1 _ fM rfl rfl rfl (vx m iU rfl rfl λ_ _ m=>dE uX rfl (v ?_)))
 apply vi m <;> intro c1 m
 refine v (v (v (jY m (σ:=Int) (λs=> [(some k5,.obj 36 (bL p1)),(some k2,.obj 30 (aF p0))]) (λs=>.c 2 (.ptr k2 0) (.c 3 (.ptr k5 0) (.c 5 (nZ q0) (.c 6 (nZ q1) (.c 7 (nZ s) .nil))))) (lx (.k5 .nil)) ?_ ?_)))
 rintro _ q2 x m
 replace m:yS u p0 p1 q0 q1 q2=some x:=m
 unfold yS at m
 refine v (vl 1 _ fM rfl rfl rfl (vx m iU rfl rfl λ_ _ m=>vx m rJ rfl rfl λ_ _ m=>dE rK rfl (v ?_)))
 apply vi m <;> intro c2 m
 refine v (v (v (vq (by kernel_rfl) (vl 1 _ fM rfl rfl rfl (vx m iU rfl rfl λ_ _ m=>vx m rJ rfl rfl λ_ _ m=>vx m yE rfl rfl λx0 _ m=>va (.agg (bL x0)) fW rfl rfl (vl 0 (.agg (bL p1)) fW rfl rfl rfl (bU (vX EI RK u5 EH rfl rfl) (v ?_))))))))
 apply vi m <;> intro c3 m
 refine v (v (gM m λm=>gM m λm=>gM m λm=> ?_))
 obtain rfl:=eT m
 exact eD rfl
 exact v (v (lX m))
 exact v (V2 m)
 rintro _ r0 m
 exact v (iE m)
 exact v (wW m)
 rintro _ r1 m
 exact v (gU m)
 exact v (EE m)
 rintro _ r2 m
 refine v (v ?_)
 obtain rfl:=eT m
 exact eD rfl
theorem aEX:aO Tryz.prog 38=true:=by kernel_rfl
open Go.Vm
def onV (v:Int) (l:List a8):Bool:=l.any λy=>y.Vol==v
def it1 (x:aB):aS:= { Kind:=1,Id:=x.Id,Seq:=0,Of:=0,Off:=0,Len:=0}
def it2 (x:aH):aS:= { Kind:=2,Id:=jW,Seq:=x.Seq,Of:=0,Off:=0,Len:=0}
def it3 (x:aQ):aS:= { Kind:=3,Id:=jW,Seq:=x.Seq,Of:=x.Of,Off:=0,Len:=0}
def onL (c:aA) (v:Int):List aS:=(c.Chunks.filter λx=>onV v x.Locs).map it1++(c.Snaps.filter λx=>onV v x.Locs).map it2++(c.Exps.filter λx=>onV v x.Locs).map it3
theorem mQ {α β ρ:Type} {l:List α} {F:Nat} (acc0:List β) (q:α→Bool) (it:α→β) {body:List β×Int→Option (Lp (List β×Int) ρ)} (hF:l.length < F)
    (hb:∀(i:Nat) (x:α),l[i]? =some x→x∈l→i < l.length→∀acc:List β,acc.length≤acc0.length+i→body (acc,(i:Int))=some (.go (if q x then acc++ [it x] else acc,((i+1:Nat):Int))))
    (he:∀acc,body (acc,(l.length:Int))=some (.brk (acc,(l.length:Int)))):aU body F (acc0,0)=some (.brk (acc0++(l.filter q).map it,(l.length:Int))):=by
  have:=kC (body:=body) (s0:=(acc0,(0:Int))) (n:=l.length) (F:=F) (λi:Nat=>(acc0++((l.take i).filter q).map it,(i:Int))) hF (by simp) (λi hi=>by
    have hlen:((l.take i).filter q).length≤i:=Nat.le_trans (List.length_filter_le _ _) (by rw[List.length_take]; omega)
    rw[hb i l[i] (List.getElem?_eq_getElem hi) (List.getElem_mem hi) hi _ (by rw[List.length_append,List.length_map]; omega)]
    rw[List.take_succ_eq_append_getElem hi,List.filter_append,List.map_append]
    cases hq:q l[i] <;> simp[List.filter,hq]) (he _)
  simpa using this
def aJH (c:aA) (v:Int):Nat:=((onL c v).filter λx=>x.Kind !=1 || n6 c x.Id).length
theorem P9 {c:aA} {l:List a8} (h:h9 c l=true):∀x∈l,0≤x.Vol∧x.Vol.toNat < c.Vols.length:=by
 intro x hx
 obtain⟨i,hi,rfl⟩:=List.getElem_of_mem hx
 unfold h9 at h
 simp only[Bool.and_eq_true,Bool.not_eq_true',List.any_eq_false,List.mem_range] at h
 have this:EP c l i=true:=by simpa using h.2 i hi
 unfold EP at this
 rw[List.getElem?_eq_getElem hi] at this
 simp only[Bool.and_eq_true,fR,decide_eq_true_eq] at this
 obtain⟨⟨⟨⟨⟨k1,k2⟩, -⟩, -⟩, -⟩, -⟩:=this
 omega
theorem J2 {c:aA} (hg:iA c=true):(∀x∈c.Chunks,h9 c x.Locs=true)∧(∀x∈c.Snaps,h9 c x.Locs=true)∧(∀x∈c.Exps,h9 c x.Locs=true):=by
 unfold iA vK CS AD at hg
 simp only[Bool.and_eq_true,Bool.not_eq_true',List.any_eq_false,List.mem_range] at hg
 obtain⟨⟨⟨⟨-, -⟩,h1, -⟩,h2, -⟩,h3, -⟩:=hg
 refine⟨λx hx=> ?_,λx hx=> ?_,λx hx=> ?_⟩
 ·obtain⟨i,hi,rfl⟩:=List.getElem_of_mem hx
  have this:IG c i=true:=by simpa using h1 i hi
  unfold IG at this
  rw[List.getElem?_eq_getElem hi] at this
  simp only[Bool.and_eq_true] at this
  exact this.1.2
 ·obtain⟨i,hi,rfl⟩:=List.getElem_of_mem hx
  have this:DQ c i=true∧FM c i=true:=by simpa using h2 i hi
  replace this:=this.1
  unfold DQ at this
  rw[List.getElem?_eq_getElem hi] at this
  simp only[Bool.and_eq_true] at this
  exact this.2
 ·obtain⟨i,hi,rfl⟩:=List.getElem_of_mem hx
  have this:zS c i=true∧J0 c i=true:=by simpa using h3 i hi
  replace this:=this.1
  unfold zS at this
  rw[List.getElem?_eq_getElem hi] at this
  simp only[Bool.and_eq_true] at this
  exact this.2
theorem m65 {F:Nat} {c:aA} {d:bO} (hF:1000≤F) (h:Sm c):YX F c d=some (n6 c d):=by
 have hsn:=h.sn
 unfold YX
 rw[m8 (l:=c.Snaps) (F:=F) (λs=>s.Man.Parts.any λp=>p.Ids.any λx=>decide (d=x)) true (by omega) (λi s hs hm hi=>by
  obtain⟨-,k2,k3⟩:=h.man s hm
  unfold yU
  rw[iW (by omega),m8 (l:=s.Man.Parts) (F:=F) (λp=>p.Ids.any λx=>decide (d=x)) (Lp.ret true) (by omega) (λj p hp hm' hj=>by
   have k4:=(k3 p hm').2
   unfold yT
   rw[iW (by omega),m8 (l:=p.Ids) (F:=F) (λx=>decide (d=x)) (Lp.ret (Lp.ret true)) (by omega) (λk x hx _ hk=>by
    unfold yS
    rw[iW (by omega)]
    simp only[bH,hs,hp,hx,Option.bind_some,Int.ofNat_lt,hk,decide_true,if_true,decide_eq_true_eq,eq_comm (a:=x)]
    split <;> rfl) (by unfold yS; simp[bH,hs,hp])]
   simp only[bH,hs,Option.bind_some,Int.ofNat_lt,hj,decide_true,if_true]
   cases p.Ids.any λx=>decide (d=x) <;> rfl) (by unfold yT; simp[bH,hs])]
  simp only[Int.ofNat_lt,hi,decide_true,if_true]
  cases s.Man.Parts.any λp=>p.Ids.any λx=>decide (d=x) <;> rfl) (by unfold yU; simp)]
 unfold n6
 cases c.Snaps.any λs=>s.Man.Parts.any λp=>p.Ids.any λx=>decide (d=x) <;> rfl
open Go.Vm
def SQ (c:aA) (p need:Int) (r:List Int) (nt st:Int) (i:Nat):Bool:=match c.Vols[i]?,r[i]? with
 | some x,some z=>x.Pool==p && (i:Int) !=nt && x.State==st && decide (need≤z)
 | _,_=>false
open Go.Vm
def vN {α:Type} (l:List α) (q:α→Bool):Int:=match (List.range l.length).find? λi=>(l[i]?).any q with
 | none=> -1
 | some i=>(i:Int)
theorem n8 {α:Type} {l:List α} (q:α→Bool) {F:Nat} {body:Int→Option (Lp Int Int)} (hF:l.length < F)
    (hb:∀(i:Nat) (x:α),l[i]? =some x→x∈l→i < l.length→body (i:Int)=some (if q x then .ret (i:Int) else .go ((i+1:Nat):Int))) (he:body (l.length:Int)=some (.brk (l.length:Int))):
    (after (aU body F 0) λ_=>some (-1))=some (vN l q):=by
  rw[fD (s0:=(0:Int)) (n:=l.length) (F:=F) (λi:Nat=>(i:Int)) (λi=>(l[i]?).any q) (λi=>(i:Int)) hF rfl (λi hi _=>by
    rw[hb i l[i] (List.getElem?_eq_getElem hi) (List.getElem_mem hi) hi,List.getElem?_eq_getElem hi]; rfl) (λ_=>he)]
  unfold LF vN
  cases (List.range l.length).find? λi=>(l[i]?).any q <;> rfl
theorem aEZ {F:Nat} {c:aA} {nm:ByteArray} (hF:1000≤F) (hl:c.Snaps.length < 1000):yM F c nm=some (vN c.Snaps λs=>s.Man.Name.toList==nm.toList):=by
 unfold yM
 refine n8 _ (by omega) (λi x hx hm hi=> ?_) (by unfold oW; simp)
 unfold oW
 rw[iW (by omega)]
 simp only[bH,hx,Option.bind_some,Int.ofNat_lt,hi,decide_true,if_true]
 cases x.Man.Name.toList==nm.toList <;> simp
def inP (c:aA) (p:Int) (x:a8):Bool:=fR x.Vol 0 ((c.Vols.length:Int) - 1) && (c.Vols[x.Vol.toNat]?).any λv=>v.Pool==p
def nG (l:List Int):aA:= { Seq:=0,Snaps:= [],Chunks:= [],Exps:= [],Vols:=l.map λp=> { Pool:=p,Epoch:=0,State:=1,Files:=0}}
theorem m32 {F:Nat} {l:List Int} (hF:1000≤F) (hl:l.length≤100):YW F l=some (nG l):=by
  unfold YW
  rw[kC (s0:=(([]:List aP),(0:Int))) (n:=l.length) (F:=F) (λi:Nat=>((l.take i).map λp=>({ Pool:=p,Epoch:=0,State:=1,Files:=0}:aP),(i:Int))) (by omega) (by simp) (λi hi=>by
      unfold yR
      have hx:l[i]? =some l[i]:=List.getElem?_eq_getElem hi
      rw[iW (by omega)]
      simp only[bH,hx,Option.bind_some,Int.ofNat_lt,hi,decide_true,if_true]
      rw[cC (by simp; omega),List.take_succ_eq_append_getElem hi,List.map_append]; rfl) (by unfold yR; simp)]
  simp[nG,after]
def EW (p:Int):Bool:=fR p 0 1
theorem QA {l:List Int} (hl:l.length≤8) (hg:gL gI l):Sm (nG l) where
 g:=by
  refine⟨by simp[nG,gI],λ_ h=>by simp[nG] at h,λ_ h=>by simp[nG] at h,λ_ h=>by simp[nG] at h,λx hx=> ?_⟩
  obtain⟨p,hp,rfl⟩:=List.mem_map.1 hx
  exact⟨hg p hp,by simp[gI],by simp[gI],by simp[gI]⟩
 sn:=by simp[nG]
 ch:=by simp[nG]
 ex:=by simp[nG]
 vo:=by simp[nG]; omega
 sl:=by simp[nG]
 man:=by simp[nG]
 cl:=by simp[nG]
 el:=by simp[nG]
theorem J3 {l:List Int} (hl:fR l.length 1 8=true) (hp:l.all EW=true):iA (nG l)=true:=by
 have h1:(nG l).Vols.all mA=true:=by
  rw[List.all_eq_true]
  intro x hx
  obtain⟨p,hq,rfl⟩:=List.mem_map.1 hx
  have:=List.all_eq_true.1 hp p hq
  simp only[EW,fR,Bool.and_eq_true,decide_eq_true_eq] at this
  simp[mA,fR,this.1,this.2]
 have h2:(nG l).Vols.length=l.length:=by simp[nG]
 unfold iA
 rw[h1,h2,hl]
 simp[nG,vK,CS,AD,fR]
theorem UE {c:aA} (hg:iA c=true) {i:Nat} {s:aH} (hs:c.Snaps[i]? =some s):DQ c i=true∧MP c s.Man=true:=by
 unfold iA CS at hg
 simp only[Bool.and_eq_true,Bool.not_eq_true',List.any_eq_false,List.mem_range] at hg
 obtain⟨⟨⟨⟨-, -⟩, -, -⟩,h2, -⟩, -, -⟩:=hg
 have h:=h2 i (List.getElem?_eq_some_iff.1 hs).1
 have h:DQ c i=true∧FM c i=true:=by simpa using h
 refine⟨h.1, ?_⟩
 have:=h.2
 unfold FM at this
 rw[hs] at this
 exact this
theorem UF {c:aA} (hg:iA c=true) {i:Nat} {x:aB} (hs:c.Chunks[i]? =some x):IG c i=true:=by
 unfold iA vK at hg
 simp only[Bool.and_eq_true,Bool.not_eq_true',List.any_eq_false,List.mem_range] at hg
 obtain⟨⟨⟨⟨-, -⟩,h1, -⟩, -, -⟩, -, -⟩:=hg
 have h:=h1 i (List.getElem?_eq_some_iff.1 hs).1
 simpa using h
theorem J4 {c:aA} (hg:iA c=true):c.Vols.all mA=true:=by
 unfold iA at hg
 simp only[Bool.and_eq_true] at hg
 exact hg.1.1.1.2.1
theorem V7 {c:aA} (hg:iA c=true) {l:List a8} (hl:h9 c l=true) (hne:l≠ []):l.any (inP c 0)=true∨l.any (inP c 1)=true:=by
 cases l with
 | nil=>exact absurd rfl hne
 | cons x l=>
  obtain⟨h1,h2⟩:=P9 hl x (by simp)
  have hv:c.Vols[x.Vol.toNat]? =some c.Vols[x.Vol.toNat]:=List.getElem?_eq_getElem h2
  have hb:=List.all_eq_true.1 (J4 hg) _ (List.getElem_mem h2)
  unfold mA fR at hb
  simp only[Bool.and_eq_true,decide_eq_true_eq] at hb
  have hr:fR x.Vol 0 ((c.Vols.length:Int) - 1)=true:=by
   simp only[fR,Bool.and_eq_true,decide_eq_true_eq]; omega
  have:c.Vols[x.Vol.toNat].Pool=0∨c.Vols[x.Vol.toNat].Pool=1:=by omega
  rcases this with e | e
  ·left; simp only[List.any_cons,inP,hr,hv,Option.any_some,e]; simp
  ·right; simp only[List.any_cons,inP,hr,hv,Option.any_some,e]; simp
open Go.Vm
structure Rng (c:aA):Prop where
 seq:0≤c.Seq∧c.Seq≤1073741824
 sn:c.Snaps.length≤8
 ch:c.Chunks.length≤200
 ex:c.Exps.length≤200
 vo:c.Vols.length≤8
 s:∀s∈c.Snaps,0≤s.Seq∧s.Seq < c.Seq∧vL s.Man=true∧h9 c s.Locs=true
 k:∀x∈c.Chunks,x.Data.length≤64∧h9 c x.Locs=true
 e:∀x∈c.Exps,0≤x.Seq∧x.Seq < c.Seq∧0≤x.Of∧x.Of < c.Seq∧h9 c x.Locs=true
 v:∀x∈c.Vols,0≤x.Pool∧x.Pool≤1∧0≤x.Epoch∧x.Epoch≤1048576∧1≤x.State∧x.State≤3∧0≤x.Files∧x.Files≤65535
theorem rng {c:aA} (hg:iA c=true):Rng c:=by
 obtain⟨q1,q2,q3⟩:=J2 hg
 have hg0:=hg
 unfold iA at hg0
 simp only[Bool.and_eq_true,fR,decide_eq_true_eq] at hg0
 obtain⟨⟨⟨⟨g1,g2,g3⟩,g4,g5⟩,g6,g7⟩,g8,g9⟩:=hg0
 refine⟨g1,g7,g5,g9,by omega,λs hs=> ?_,λx hx=>⟨?_,q1 x hx⟩,λx hx=> ?_,λx hx=> ?_⟩
 ·obtain⟨i,hi,rfl⟩:=List.getElem_of_mem hs
  have:=(UE hg (List.getElem?_eq_getElem hi)).1
  unfold DQ at this
  rw[List.getElem?_eq_getElem hi] at this
  simp only[Bool.and_eq_true,fR,decide_eq_true_eq] at this
  obtain⟨⟨⟨⟨h1,h2⟩,h3⟩,h4⟩,h5⟩:=this
  exact⟨h1.1,by omega,h4,h5⟩
 ·obtain⟨i,hi,rfl⟩:=List.getElem_of_mem hx
  have:=UF hg (List.getElem?_eq_getElem hi)
  unfold IG at this
  rw[List.getElem?_eq_getElem hi] at this
  simp only[Bool.and_eq_true] at this
  have:=this.2
  split at this
  ·simp only[fR,Bool.and_eq_true,decide_eq_true_eq] at this; omega
  ·simp only[Bool.and_eq_true,Bool.not_eq_true',decide_eq_false_iff_not] at this; omega
 ·obtain⟨i,hi,rfl⟩:=List.getElem_of_mem hx
  unfold AD at g8
  simp only[Bool.not_eq_true',List.any_eq_false,List.mem_range] at g8
  have:=g8 i hi
  have this:zS c i=true∧J0 c i=true:=by simpa using this
  have:=this.1
  unfold zS at this
  rw[List.getElem?_eq_getElem hi] at this
  simp only[Bool.and_eq_true,fR,decide_eq_true_eq] at this
  obtain⟨⟨⟨⟨h1,h2⟩,h3⟩,h4⟩,h5⟩:=this
  exact⟨h1.1,by omega,h3.1,by omega,h5⟩
 ·have hb:=List.all_eq_true.1 g2 x hx
  unfold mA fR at hb
  simp only[Bool.and_eq_true,Bool.or_eq_true,decide_eq_true_eq,beq_iff_eq] at hb
  omega
theorem i1:((1:Nat):Int)=1:=rfl
theorem i2:((2:Nat):Int)=2:=rfl
theorem i4:((4:Nat):Int)=4:=rfl
open Go.Vm
theorem MU {α:Type} {R:α→α→Prop} (tr:∀a b c,R a b→R b c→R a c):∀ {l:List α},(∀(i:Nat) (x y:α),l[i]? =some y→l[i+1]? =some x→R y x)→l.Pairwise R
 | [],_=>.nil
 | [a],_=>List.pairwise_singleton _ _
 | a::b::t,h=>by
  have ih:(b::t).Pairwise R:=MU tr λi x y h1 h2=>h (i+1) x y (by simpa using h1) (by simpa using h2)
  have ab:R a b:=h 0 b a rfl rfl
  refine List.pairwise_cons.2 ⟨λz hz=> ?_,ih⟩
  rcases List.mem_cons.1 hz with rfl | hz
  ·exact ab
  ·exact tr _ _ _ ab ((List.pairwise_cons.1 ih).1 z hz)
theorem UG {α:Type} {R:α→α→Prop} {l:List α} (h:l.Pairwise R) {i:Nat} {x y:α} (hy:l[i]? =some y) (hx:l[i+1]? =some x):R y x:=by
 obtain⟨h1,e1⟩:=List.getElem?_eq_some_iff.1 hy
 obtain⟨h2,e2⟩:=List.getElem?_eq_some_iff.1 hx
 have:=List.pairwise_iff_getElem.1 h i (i+1) h1 h2 (by omega)
 rwa [e1,e2] at this
theorem p6 {α:Type} {q:α→α→Bool} (tr:∀a b c,q b a=true→q c b=true→q c a=true) (l:List α):
    (∀(i:Nat) (x:α),l[i]? =some x→(i==0 || ((l[i - 1]?).all (q x)))=true)↔l.Pairwise λy x=>q x y=true:=by
  constructor
  · intro h
    refine MU (λa b c h1 h2=>tr a b c h1 h2) λi x y hy hx=> ?_
    have:=h (i+1) x hx
    simpa [hy] using this
  · intro h i x hx
    cases i with
    | zero=>rfl
    | succ i=>
      obtain⟨h1,e1⟩:=List.getElem?_eq_some_iff.1 hx
      have hy:l[i]? =some l[i]:=List.getElem?_eq_getElem (by omega)
      have:=UG h hy hx
      simp[hy,this]
theorem w6 (a b:a8):jO a b=true↔b.Vol < a.Vol∨(a.Vol=b.Vol∧(b.File < a.File∨(a.File=b.File∧b.Off < a.Off))):=by
 unfold jO
 by_cases e1:a.Vol=b.Vol <;> by_cases f1:a.File=b.File <;> simp[e1,f1]
theorem yV (a b c:a8) (h1:jO b a=true) (h2:jO c b=true):jO c a=true:=by
 rw[w6] at*
 omega
def tD (vs:List aP) (x:a8):Bool:=fR x.Vol 0 ((vs.length:Int) - 1) && (match vs[x.Vol.toNat]? with | none=>false | some v=>v.State==2 && fR x.File 1 v.Files) && fR x.Off 0 16777215 && fR x.Len 13 8013
structure Lk (vs:List aP) (l:List a8):Prop where
 n:l.length≤200
 a:∀x∈l,tD vs x=true
 o:l.Pairwise λy x=>jO x y=true
theorem m9 {α:Type} {l:List α} {P:α→Prop}:(∀x∈l,P x)↔∀(i:Nat) (x:α),l[i]? =some x→P x:=by
 constructor
 ·exact λh i x hx=>h x (List.mem_of_getElem? hx)
 ·intro h x hx
  obtain⟨i,hi,rfl⟩:=List.getElem_of_mem hx
  exact h i _ (List.getElem?_eq_getElem hi)
theorem oY {α:Type} {l:List α} {q:Nat→Bool} {P:Nat→α→Prop} (h:∀(i:Nat) (x:α),l[i]? =some x→(q i=true↔P i x)):(!(List.range l.length).any λi=> !q i)=true↔∀(i:Nat) (x:α),l[i]? =some x→P i x:=by
 simp only[Bool.not_eq_true',List.any_eq_false,List.mem_range,Bool.not_eq_true,Bool.not_eq_false']
 constructor
 ·intro k i x hx
  exact(h i x hx).1 (by simpa using k i (List.getElem?_eq_some_iff.1 hx).1)
 ·intro k i hi
  have:=(h i _ (List.getElem?_eq_getElem hi)).2 (k i _ (List.getElem?_eq_getElem hi))
  simpa using this
theorem n9 {c:aA} {l:List a8}:h9 c l=true↔Lk c.Vols l:=by
 unfold h9
 rw[Bool.and_eq_true,oY (P:=λi x=>tD c.Vols x=true∧(i==0 || ((l[i - 1]?).all (jO x)))=true) (λi x hx=>by
  unfold EP tD
  rw[hx]
  cases l[i - 1]? <;> simp only[Bool.and_eq_true,Option.all_none,Option.all_some] <;> exact Iff.rfl)]
 constructor
 ·rintro⟨h1,h2⟩
  exact⟨of_decide_eq_true h1,m9.2 λi x hx=>(h2 i x hx).1,(p6 yV l).1 λi x hx=>(h2 i x hx).2⟩
 ·intro h
  exact⟨decide_eq_true h.n,λi x hx=>⟨h.a x (List.mem_of_getElem? hx),(p6 yV l).2 h.o i x hx⟩⟩
structure Gd (c:aA):Prop where
 q:fR c.Seq 0 1073741824=true
 v:∀v∈c.Vols,mA v=true
 vn:fR c.Vols.length 1 8=true
 cn:c.Chunks.length≤200
 co:c.Chunks.Pairwise λy x=>ky y.Id < ky x.Id
 cl:∀x∈c.Chunks,Lk c.Vols x.Locs
 cs:∀x∈c.Chunks,if x.Staged=true then fR x.Data.length 1 64=true else x.Data= []∧x.Locs≠ []
 sn:c.Snaps.length≤8
 so:c.Snaps.Pairwise λy x=>y.Seq < x.Seq
 sq:∀s∈c.Snaps,fR s.Seq 0 (c.Seq - 1)=true
 sm:c.Snaps.Pairwise λy x=>(x.Man.Name==y.Man.Name)=false
 sb:∀s∈c.Snaps,vL s.Man=true
 sl:∀s∈c.Snaps,Lk c.Vols s.Locs
 sp:∀s∈c.Snaps,MP c s.Man=true
 en:c.Exps.length≤200
 eo:c.Exps.Pairwise λy x=>y.Seq < x.Seq
 eq:∀x∈c.Exps,fR x.Seq 0 (c.Seq - 1)=true∧fR x.Of 0 (x.Seq - 1)=true
 el:∀x∈c.Exps,Lk c.Vols x.Locs
 ee:∀x∈c.Exps,x.Locs≠ []
 ex:∀x∈c.Exps,∀s∈c.Snaps,s.Seq≠x.Of
theorem II {β:Type} {f:β→β→Bool} (l:List β):(∀(i:Nat) (x:β),l[i]? =some x→(!((l.take i).any λy=>f x y))=true)↔l.Pairwise λy x=>f x y=false:=by
 rw[List.pairwise_iff_getElem]
 constructor
 ·intro h i j hi hj hij
  have:=h j _ (List.getElem?_eq_getElem hj)
  simp only[Bool.not_eq_true',List.any_eq_false,Bool.not_eq_true] at this
  exact this l[i] (List.mem_of_getElem? (i:=i) (by rw[List.getElem?_take_of_lt hij]; exact List.getElem?_eq_getElem hi))
 ·intro h j x hx
  obtain⟨hj,rfl⟩:=List.getElem?_eq_some_iff.1 hx
  simp only[Bool.not_eq_true',List.any_eq_false,Bool.not_eq_true]
  intro y hy
  obtain⟨i,hi,rfl⟩:=List.getElem_of_mem hy
  simp only[List.length_take] at hi
  rw[List.getElem_take]
  exact h i j (by omega) hj (by omega)
theorem lS {c:aA}:iA c=true↔Gd c:=by
  have trS:∀a b d:aH,decide (a.Seq < b.Seq)=true→decide (b.Seq < d.Seq)=true→decide (a.Seq < d.Seq)=true:=λa b d h1 h2=>decide_eq_true (by have:=of_decide_eq_true h1; have:=of_decide_eq_true h2; omega)
  have trE:∀a b d:aQ,decide (a.Seq < b.Seq)=true→decide (b.Seq < d.Seq)=true→decide (a.Seq < d.Seq)=true:=λa b d h1 h2=>decide_eq_true (by have:=of_decide_eq_true h1; have:=of_decide_eq_true h2; omega)
  have trC:∀a b d:aB,decide (ky a.Id < ky b.Id)=true→decide (ky b.Id < ky d.Id)=true→decide (ky a.Id < ky d.Id)=true:=λa b d h1 h2=>decide_eq_true (by have:=of_decide_eq_true h1; have:=of_decide_eq_true h2; omega)
  unfold iA vK CS AD
  simp only[Bool.and_eq_true]
  rw[oY (l:=c.Chunks) (P:=λi x=>((i==0 || ((c.Chunks[i - 1]?).all λy=>decide (ky y.Id < ky x.Id)))=true∧h9 c x.Locs=true)∧(if x.Staged then fR x.Data.length 1 64 else (!decide (0 < x.Data.length) && !(x.Locs.length==0)))=true) (λi x hx=>by
      unfold IG; rw[hx]; cases c.Chunks[i - 1]? <;> simp only[Bool.and_eq_true,Option.all_none,Option.all_some] <;> exact Iff.rfl),
    oY (l:=c.Snaps) (P:=λi s=>((((fR s.Seq 0 (c.Seq - 1)=true∧(i==0 || ((c.Snaps[i - 1]?).all λy=>decide (y.Seq < s.Seq)))=true)∧(!((c.Snaps.take i).any λy=>s.Man.Name==y.Man.Name))=true)∧vL s.Man=true)∧h9 c s.Locs=true)∧MP c s.Man=true) (λi x hx=>by
      unfold DQ FM; rw[hx]; cases c.Snaps[i - 1]? <;> simp only[Bool.and_eq_true,Option.all_none,Option.all_some] <;> exact Iff.rfl),
    oY (l:=c.Exps) (P:=λi x=>((((fR x.Seq 0 (c.Seq - 1)=true∧(i==0 || ((c.Exps[i - 1]?).all λy=>decide (y.Seq < x.Seq)))=true)∧fR x.Of 0 (x.Seq - 1)=true)∧(!(x.Locs.length==0))=true)∧h9 c x.Locs=true)∧(!c.Snaps.any λs=>s.Seq==x.Of)=true) (λi x hx=>by
      unfold zS J0; rw[hx]; cases c.Exps[i - 1]? <;> simp only[Bool.and_eq_true,Option.all_none,Option.all_some] <;> exact Iff.rfl)]
  constructor
  · rintro⟨⟨⟨⟨h1,h2,h3⟩,hc,h4⟩,hs,h5⟩,he,h6⟩
    refine⟨h1,List.all_eq_true.1 h2,h3,of_decide_eq_true h4, ?_,m9.2 λi x hx=>n9.1 (hc i x hx).1.2,m9.2 λi x hx=> ?_,of_decide_eq_true h5, ?_,m9.2 λi x hx=>(hs i x hx).1.1.1.1.1,(II (f:=λs y:aH=>s.Man.Name==y.Man.Name) c.Snaps).1 λi x hx=>(hs i x hx).1.1.1.2,m9.2 λi x hx=>(hs i x hx).1.1.2,m9.2 λi x hx=>n9.1 (hs i x hx).1.2,m9.2 λi x hx=>(hs i x hx).2,of_decide_eq_true h6, ?_,m9.2 λi x hx=>⟨(he i x hx).1.1.1.1.1,(he i x hx).1.1.1.2⟩,m9.2 λi x hx=>n9.1 (he i x hx).1.2,m9.2 λi x hx=> ?_,m9.2 λi x hx=> ?_⟩
    · exact((p6 (q:=λx y:aB=>decide (ky y.Id < ky x.Id)) trC c.Chunks).1 λi x hx=>(hc i x hx).1.1).imp λh=>of_decide_eq_true h
    · have:=(hc i x hx).2
      cases hst:x.Staged <;> rw[hst] at this
      · simp only[Bool.false_eq_true,if_false,Bool.and_eq_true] at this ⊢
        obtain⟨t1,t2⟩:=this
        refine⟨?_, ?_⟩
        · cases hd:x.Data with
          | nil=>rfl
          | cons a b=>rw[hd] at t1; simp at t1
        · intro e; rw[e] at t2; simp at t2
      · simpa using this
    · exact((p6 (q:=λx y:aH=>decide (y.Seq < x.Seq)) trS c.Snaps).1 λi x hx=>(hs i x hx).1.1.1.1.2).imp λh=>of_decide_eq_true h
    · exact((p6 (q:=λx y:aQ=>decide (y.Seq < x.Seq)) trE c.Exps).1 λi x hx=>(he i x hx).1.1.1.1.2).imp λh=>of_decide_eq_true h
    · intro e
      have:=(he i x hx).1.1.2
      rw[e] at this
      simp at this
    · have:=(he i x hx).2
      simp only[Bool.not_eq_true',List.any_eq_false,beq_iff_eq] at this
      exact this
  · intro h
    refine⟨⟨⟨⟨h.q,List.all_eq_true.2 h.v,h.vn⟩,λi x hx=> ?_,decide_eq_true h.cn⟩,λi x hx=> ?_,decide_eq_true h.sn⟩,λi x hx=> ?_,decide_eq_true h.en⟩
    · have hm:=List.mem_of_getElem? hx
      refine⟨⟨(p6 (q:=λx y:aB=>decide (ky y.Id < ky x.Id)) trC c.Chunks).2 (h.co.imp λh=>decide_eq_true h) i x hx,n9.2 (h.cl x hm)⟩, ?_⟩
      have:=h.cs x hm
      cases hst:x.Staged <;> rw[hst] at this
      · simp only[Bool.false_eq_true,if_false] at this ⊢
        obtain⟨t1,t2⟩:=this
        rw[t1]
        simp[t2]
      · simpa using this
    · have hm:=List.mem_of_getElem? hx
      exact⟨⟨⟨⟨⟨h.sq x hm,(p6 (q:=λx y:aH=>decide (y.Seq < x.Seq)) trS c.Snaps).2 (h.so.imp λh=>decide_eq_true h) i x hx⟩,(II (f:=λs y:aH=>s.Man.Name==y.Man.Name) c.Snaps).2 h.sm i x hx⟩,h.sb x hm⟩,n9.2 (h.sl x hm)⟩,h.sp x hm⟩
    · have hm:=List.mem_of_getElem? hx
      refine⟨⟨⟨⟨⟨(h.eq x hm).1,(p6 (q:=λx y:aQ=>decide (y.Seq < x.Seq)) trE c.Exps).2 (h.eo.imp λh=>decide_eq_true h) i x hx⟩,(h.eq x hm).2⟩,by simp[h.ee x hm]⟩,n9.2 (h.el x hm)⟩, ?_⟩
      simp only[Bool.not_eq_true',List.any_eq_false,beq_iff_eq]
      exact h.ex x hm
open Go.Vm
def EX (m:Nat) (p0:List a8):Option (List a8):=app [] p0
theorem UH {w:Nat} {p0:List a8} {o:List a8} (h:aE) (m:EX w p0=some o):
 aL Tryz.prog 67 [.sl none 4 (List.map aN p0)] h (λr h'=>∃g:cT,bI g 4 o.length∧bT h [(g.t,.obj 81 (fl aN o g.sp))]∧r=aZ g∧h'=hp h [(g.t,.obj 81 (fl aN o g.sp))]):=by
 refine jL 8 [.tmp 2] Tryz.func67 rfl rfl rfl rfl ?_
 unfold EX at m
 refine gX λK1 H1=>eH (rV (iC (.sc (.slice _ _ _)) rfl) (fS (H1 _ _ (gX λK1 H1=>gX λK2 H2=>eH (vE rfl (lP (kH rfl (by rw[jR]; rfl) (by rw[bN]; exact rfl) (.inl ⟨_,_,_,rfl,λb hb=> ?_⟩))))))))
 refine fS (H2 _ _ (nN rfl (λhc=> ?_) (λhc=> ?_)))
 have h0:p0= []:=by
   cases p0 with
   | nil=>rfl
   | cons x l=>have:=hb (by simp); rw[this] at hc; cases hc
 subst h0
 obtain⟨rfl, -⟩:=jC m
 exact gX λK1 H1=>eH (rV (iC (.sc (.slice _ _ _)) rfl) (fS (H1 _ _ (iR (dW.one (.inl rfl) (iD.refl _) (f9 _) ⟨g0,bI.g0 _,bT.none (bT.nil _),rfl,rfl⟩)))))
 exact mH (H1 _ _ (gX λK1 H1=>eH (lP (qL (c:=aN) (bT.nil _) pJ λu=>vE rfl (lP (gD (c:=aN) 0 m pJ rfl EJ rfl eU rfl rfl (bI.g0 _) u rfl λg ok u=>rV (iC (aw _ _ _) rfl) (fS (H1 _ _ (iR (dW.one (.inl rfl) (iD.refl _) (bF.refl _ _) ⟨g,ok,u,rfl,rfl⟩))))))))))
theorem UI:aO Tryz.prog 67=true:=by kernel_rfl
def yW (m:Nat) (p0:List a8) (p1:a8→Option Bool) (q0:Int):Option (Lp (Int) (Int)):=
 if (decide (q0 < (p0.length:Int)))=true then ((ix p0 q0).bind λx0=>(p1 x0).bind λy0=>if y0=true then (some (.ret q0)) else some (.go (IntKind.wrap .i64 (q0+1)))) else some (.brk q0)
def MV (m:Nat) (p0:List a8) (p1:a8→Option Bool):Option (Int):=
 after (aU (λs=>yW m p0 p1 s) m 0) λr0=>some (-1)
theorem YY {w:Nat} {p0:List a8} {p1:a8→Option Bool} {o:Int} (h:aE) {g_p0:cT} (ok_p0:bI g_p0 4 p0.length) (K0:bT h [(eF g_p0 p0)]) {p1F:Nat} {p1C:List AV} (p1B:aO Tryz.prog p1F=true) (p1H:∀x0 o h0,iD h h0→p1 x0=some o→aL Tryz.prog p1F ([.agg (aN x0)]++p1C) h0 (λr h'=>r= .sc (.bool o)∧h'=h0)) (m:MV w p0 p1=some o):
 aL Tryz.prog 108 [aZ g_p0,.fn (.func p1F) p1C] (hp h [(eF g_p0 p0)]) (λr h'=>r=nZ o∧h'=hp h [(eF g_p0 p0)]):=by
 refine uE K0 19 [.tmp 4] Tryz.func108 rfl rfl rfl rfl ?_
 unfold MV at m
 refine vs (v0 (vs (vs (v0 (bU (dQ gO ok_p0 rfl) (jY m (σ:=Int) (λs=> [(eF g_p0 p0)]) (λs=>.c 0 (aZ g_p0) (.c 1 (.fn (.func p1F) p1C) (.c 7 (nZ (p0.length:Int)) (.c 8 (nZ s) .nil)))) (lx (.k4 .nil)) ?_ ?_))))))
 rintro _ q0 x m
 replace m:yW w p0 p1 q0=some x:=m
 unfold yW at m
 refine vs (v0 (vs (v0 ?_)))
 apply vi m <;> intro c0 m
 refine v0 (vs (v0 (vs (v0 (vs (v0 ?_))))))
 obtain⟨x1,X0,m⟩:=aC m
 refine bU (cM X0 jR ok_p0 rfl rfl) (vn (λu=>dX (fo:=0) (.agg (aN x1)) X0 eU ok_p0 l8 rfl (aJ 0 u rfl) (λ_=>rfl)) ?_)
 obtain⟨_,Y0,m⟩:=aC m
 refine vn (λu=>bY (p1H _ _ _ (aT (List.nil_sublist _) u).1 Y0) rfl p1B rfl) (v0 ?_)
 apply vi m <;> intro c1 m
 refine vs (v0 (v0 (gM m λm=> ?_)))
 obtain rfl:=eT m
 exact vr λu=>dW.of1 (.inl rfl) (fT _ _ (.sc (.int _ _)) rfl) (bE u [0] rfl).2 (bF.refl _ _) ⟨rfl,rfl⟩
 exact v0 (v0 (iE m))
 exact v0 (wW m)
 rintro _ r0 m
 refine vs (v0 (v0 ?_))
 cases m
 exact vr λu=>dW.of1 (.inl rfl) (fT _ _ (.sc (.int _ _)) rfl) (bE u [0] rfl).2 (bF.refl _ _) ⟨rfl,rfl⟩
def CT (m:Nat) (p1:a8→Option Bool) (q0:List a8) (q1:Int) (q2:Int):Option (Lp ((List a8)×Int×Int) ((List a8))):=
 if (decide (q2 < (q0.length:Int)))=true then ((ix q0 q2).bind λx0=>(p1 x0).bind λy0=>after (if (!y0)=true then ((ix q0 q1).bind λ_=>some (.brk (q0.set q1.toNat (x0),IntKind.wrap .i64 (q1+1)))) else some (.brk (q0,q1)):Option (Lp ((List a8)×Int) (Lp ((List a8)×Int×Int) ((List a8))))) λ⟨j0,j1⟩=>some (.go (j0,j1,IntKind.wrap .i64 (q2+1)))) else some (.brk (q0,q1,q2))
def UJ (m:Nat) (p0:List a8) (p1:a8→Option Bool):Option ((List a8)):=
 (MV m p0 p1).bind λy3=>if (y3==(-1))=true then (some p0) else after (aU (λs=>CT m p1 s.1 s.2.1 s.2.2) m (p0,y3,IntKind.wrap .i64 (y3+1))) λ⟨r0,r1,r2⟩=>grd (decide (0≤r1) && decide (r1 < (r0.length:Int))) <| grd (decide (0≤r1) && decide (r1≤(r0.length:Int))) <| some (r0.take r1.toNat)
theorem aE0 {w:Nat} {p0:List a8} {p1:a8→Option Bool} {o:(List a8)} (h:aE) {g_p0:cT} (ok_p0:bI g_p0 4 p0.length) (K0:bT h [(eF g_p0 p0)]) {p1F:Nat} {p1C:List AV} (p1B:aO Tryz.prog p1F=true) (p1H:∀x0 o h0,iD h h0→p1 x0=some o→aL Tryz.prog p1F ([.agg (aN x0)]++p1C) h0 (λr h'=>r= .sc (.bool o)∧h'=h0)) (m:UJ w p0 p1=some o):
 aL Tryz.prog 66 [aZ g_p0,.fn (.func p1F) p1C] (hp h [(eF g_p0 p0)]) (λr h'=>∃g:cT,bI g 4 o.length∧bT h [(g.t,.obj 81 (fl aN o g.sp))]∧r=aZ g∧h'=hp h [(g.t,.obj 81 (fl aN o g.sp))]):=by
 refine uE K0 42 [.tmp 4] Tryz.func66 rfl rfl rfl rfl ?_
 unfold UJ at m
 refine vs (v0 (vs (v0 ?_)))
 obtain⟨_,Y4,m⟩:=aC m
 refine ve λu=>dB ((bC u [0] rfl rfl).1.trans (cV h [(eF g_p0 p0)] []).symm) (cK (YY (hp h []) ok_p0 (cJ [(eF g_p0 p0)] [] (bC u [0] rfl rfl).2).2 p1B (λx0 o h0 hs ho=>p1H x0 o h0 ((aT (List.nil_sublist _) (cJ [(eF g_p0 p0)] [] (bC u [0] rfl rfl).2).1).1.trans hs) ho) Y4) rfl YE rfl ?_)
 rintro x h' ⟨rfl,rfl⟩
 refine qk u ((cV h [(eF g_p0 p0)] []).trans (bC u [0] rfl rfl).1.symm) (vs (vs (v0 (v0 ?_))))
 apply vi m <;> intro c7 m
 refine vs (v0 (v0 ?_))
 obtain rfl:=eT m
 exact vr λu=>dW.one (.inl rfl) (aT (h0:=h) (L':= [(eF g_p0 p0)]) (.refl _) u).1 (bF.refl _ _) ⟨g_p0,ok_p0,(aT (h0:=h) (L':= [(eF g_p0 p0)]) (.refl _) u).2,rfl,rfl⟩
 refine v0 (vs (vs (v0 (nR m (σ:=(List a8)×Int×Int) (τ:=cT) (λg s=> [(eF g s.1)]) (λg s=>bI g 4 (s.1:List a8).length) (λg s=>.c 0 (aZ g) (.c 1 (.fn (.func p1F) p1C) (.c 5 (nZ s.2.1) (.c 6 (nZ s.2.2) .nil)))) g_p0 ok_p0 (lx (.k4 .nil)) ?_ ?_))))
 rintro ag0 ⟨q0,q1,q2⟩ x O0 m
 replace m:CT w p1 q0 q1 q2=some x:=m
 unfold CT at m
 refine vs (vs (v0 (bU (dQ gO O0 rfl) (v0 ?_))))
 apply vi m <;> intro c0 m
 refine v0 (vs (v0 (vs (v0 ?_))))
 obtain⟨x1,X0,m⟩:=aC m
 refine bU (cM X0 jR O0 rfl rfl) (vn (λu=>dX (fo:=0) (.agg (aN x1)) X0 eU O0 l8 rfl (aJ 0 u rfl) (λ_=>rfl)) (ve λu=>bJ (OQ) u EJ rfl rfl λk86 K1=>qk K1 rfl (ve λu=>aK 0 (aN x1) u rfl rfl rfl rfl L2 rfl rfl λK2=>qk K2 rfl (vs (v0 (vl 0 (.agg (aN x1)) l8 rfl rfl rfl ?_))))))
 obtain⟨_,Y0,m⟩:=aC m
 refine vn (λu=>bY (p1H _ _ _ (aT (List.nil_sublist _) u).1 Y0) rfl p1B rfl) (pO m (σ:=(List a8)×Int) (τ:=cT) (λg s=> [(some k86,.obj 81 (aN x1)),(eF g s.1)]) (λg s=>bI g 4 (s.1:List a8).length) (λg s=>.c 0 (aZ g) (.c 1 (.fn (.func p1F) p1C) (.c 5 (nZ s.2) (.c 6 (nZ q2) .nil)))) (λx m=> ?_) ?_)
 refine v0 ?_
 apply vi m <;> intro c1 m
 refine vs (v0 (vl 0 (.agg (aN x1)) l8 rfl rfl rfl ?_))
 obtain⟨_,X1,m⟩:=aC m
 exact bU (cM X1 jR O0 rfl rfl) (ve λu=>cI (fo:=0) (x1:a8) 1 u X1 eU O0 rfl rfl rfl rfl (cW.refl _ _) L2 rfl rfl λK3=>qk K3 rfl (v0 (eW m ag0 (bI.set O0) (lx (.k4 .nil)))))
 exact v0 (eW m ag0 O0 (lx (.k4 .nil)))
 rintro ag1 ⟨j0,j1⟩ O1 m
 exact v0 (eW m ag1 O1 (lW [1] rfl rfl (.k4 .nil)))
 exact v0 (lM m ag0 O0 (lx (.k4 .nil)))
 rintro ag2 ⟨r0,r1,r2⟩ t0 m
 refine vs (v0 ?_)
 obtain⟨Z0,m⟩:=m0 m
 refine bU (CG Z0 jR t0 rfl rfl) (ve λu=>A4 0 u Z0 eU t0 u42 EJ rfl rfl rfl rfl λsp0 O2 K4=>qk K4 rfl (vs (v0 ?_)))
 obtain⟨Z1,m⟩:=m0 m
 refine bU (CH Z1 t0 jR rfl rfl) (v0 ?_)
 cases m
 exact vr λu=>dW.one (.inl rfl) (aT (h0:=h) (L':= [((⟨ag2.t,r1.toNat,ag2.cap,sp0⟩:cT).t,.obj 81 (fl aN (r0.take r1.toNat:List a8) (⟨ag2.t,r1.toNat,ag2.cap,sp0⟩:cT).sp))]) (.refl _) u).1 (bF.refl _ _) ⟨(⟨ag2.t,r1.toNat,ag2.cap,sp0⟩:cT),O2,(aT (h0:=h) (L':= [((⟨ag2.t,r1.toNat,ag2.cap,sp0⟩:cT).t,.obj 81 (fl aN (r0.take r1.toNat:List a8) (⟨ag2.t,r1.toNat,ag2.cap,sp0⟩:cT).sp))]) (.refl _) u).2,rfl,rfl⟩
theorem aE1:aO Tryz.prog 66=true:=by kernel_rfl
open Go.Vm
theorem lH {α:Type} {l:List α} {q:α→Bool} (h:l.any q=true):∃(i:Nat) (x:α),vN l q=(i:Int)∧l[i]? =some x∧q x=true∧∀y∈l.take i,q y=false:=by
 unfold vN
 cases e:(List.range l.length).find? λi=>(l[i]?).any q with
 | none=>
  exfalso
  obtain⟨x,hx,hq⟩:=List.any_eq_true.1 h
  obtain⟨i,hi,rfl⟩:=List.getElem_of_mem hx
  have:=List.find?_eq_none.1 e i (List.mem_range.2 hi)
  simp[hi,hq] at this
 | some i=>
  obtain⟨h1,h2,h3⟩:=List.find?_range_eq_some.1 e
  cases e2:l[i]? with
  | none=>rw[e2] at h1; cases h1
  | some x=>
   refine⟨i,x,rfl,e2,by rw[e2] at h1; simpa using h1,λy hy=> ?_⟩
   obtain⟨j,hj,rfl⟩:=List.getElem_of_mem hy
   rw[List.length_take] at hj
   have h4:=h3 j (by omega)
   have:l[j]? =some l[j]:=List.getElem?_eq_getElem (by omega)
   rw[this] at h4
   rw[List.getElem_take]
   simpa using h4
theorem mR {α:Type} {l:List α} {q:α→Bool} (h:l.any q=false):vN l q= -1:=by
 unfold vN
 have:(List.range l.length).find? (λi=>(l[i]?).any q)=none:=by
  rw[List.find?_eq_none]
  intro i hi
  have hi:=List.mem_range.1 hi
  rw[List.getElem?_eq_getElem hi]
  have:=List.any_eq_false.1 h l[i] (List.getElem_mem hi)
  simpa using this
 rw[this]
theorem MW {α ρ:Type} {l:List α} {q:α→Bool} {F:Nat} {body:List α×Int×Int→Option (Lp (List α×Int×Int) ρ)} {i0:Nat} {x0:α} (hF:l.length < F) (h0:l[i0]? =some x0) (hq:q x0=true) (hn:∀y∈l.take i0,q y=false)
    (hb:∀(cur:List α) (w r:Nat) (x:α),cur.length=l.length→w < r→r < l.length→cur[r]? =some x→x∈l→body (cur,(w:Int),(r:Int))=some (.go (if q x then (cur,(w:Int),((r+1:Nat):Int)) else (cur.set w x,((w+1:Nat):Int),((r+1:Nat):Int)))))
    (he:∀(cur:List α) (w:Nat),cur.length=l.length→body (cur,(w:Int),(l.length:Int))=some (.brk (cur,(w:Int),(l.length:Int)))):
    ∃(cur:List α) (w:Nat),aU body F (l,(i0:Int),((i0+1:Nat):Int))=some (.brk (cur,(w:Int),(l.length:Int)))∧w < l.length∧cur.length=l.length∧cur.take w=l.filter λx=> !q x:=by
  have hi0:=(List.getElem?_eq_some_iff.1 h0).1
  have hx0:=(List.getElem?_eq_some_iff.1 h0).2
  obtain⟨s,⟨cur,w,e1,e2,e3,e4,e5⟩,h3⟩:=p5 (body:=body) (I:=λk s=>∃(cur:List α) (w:Nat),s=(cur,(w:Int),(k:Int))∧w < k∧cur.length=l.length∧cur.take w=((l.take k).filter λx=> !q x)∧cur.drop k=l.drop k) (n:=l.length) (λk s hk hI=>by
    obtain⟨cur,w,rfl,i2,i3,i4,i5⟩:=hI
    have hx:cur[k]? =l[k]? :=by
      have:=congrArg (λz=>z[0]?) i5
      simpa [List.getElem?_drop] using this
    have hlk:l[k]? =some l[k]:=List.getElem?_eq_getElem hk
    rw[hlk] at hx
    have htk:=List.take_succ_eq_append_getElem hk
    have hmem:=List.getElem_mem hk
    generalize l[k]=x at hx htk hmem
    have hd:cur.drop (k+1)=l.drop (k+1):=by
      have:=congrArg (List.drop 1) i5
      simpa [List.drop_drop,Nat.add_comm] using this
    refine⟨_,hb cur w k x i3 i2 hk hx hmem, ?_⟩
    cases hqx:q x
    · refine⟨cur.set w x,w+1,by simp,by omega,by simpa using i3, ?_, ?_⟩
      · rw[htk,List.filter_append,← i4]
        have hw:w < (cur.set w x).length:=by rw[List.length_set]; omega
        rw[List.take_succ_eq_append_getElem hw,List.getElem_set_self,List.take_set_of_le (Nat.le_refl _)]
        simp[List.filter,hqx]
      · rw[List.drop_set_of_lt (by omega)]
        exact hd
    · refine⟨cur,w,by simp,by omega,i3, ?_,hd⟩
      rw[htk,List.filter_append,← i4]
      simp[List.filter,hqx]) (λs hI=>by
    obtain⟨cur,w,rfl,i2,i3, -⟩:=hI
    exact he cur w i3) F (i0+1) (l,(i0:Int),((i0+1:Nat):Int)) hi0 (by omega) ⟨l,i0,rfl,by omega,rfl,by
      rw[List.take_succ_eq_append_getElem hi0,List.filter_append,hx0]
      have:(l.take i0).filter (λx=> !q x)=l.take i0:=List.filter_eq_self.2 λy hy=>by simp[hn y hy]
      rw[this]
      simp[List.filter,hq],rfl⟩
  subst e1
  refine⟨cur,w,h3,by omega,e3, ?_⟩
  rw[e4,List.take_length]
end Go.Proofs.YtbbifdfldpfphaaGreat
namespace Go.Vm
abbrev OG:=Option cT
def oT (og:OG):Option cB:=og.bind (·.t)
def oS (og:OG):List AV:=og.elim [] (·.sp)
def awO {β:Type} (ci:β→List AV) (szi:Nat) (og:OG) (l:List β):AV:=match og with
 | some g=>aw g.t g.n g.cap
 | none=>.sl none szi (l.map ci)
structure dH where
 a:cT
 gs:List OG
def gx (gs:List OG) (i:Nat):OG:=(gs[i]?).getD none
def zg {α:Type} (xs:List α) (gs:List OG):List (α×OG):=xs.zip gs
def nl {α β:Type} (l:α→List β) (ys:List (α×OG)):List (List β×OG):=ys.map λy=>(l y.1,y.2)
def kM {β:Type} (ty:TypeId) (ci:β→List AV) (zs:List (List β×OG)):HL:=zs.map λz=>(oT z.2,.obj ty (fl ci z.1 (oS z.2)))
structure tE {α β:Type} (l:α→List β) (sz szi:Nat) (g:dH) (xs:List α):Prop where
 a:bI g.a sz xs.length
 len:g.gs.length=xs.length
 el:∀z∈nl l (zg xs g.gs),∀g',z.2=some g'→bI g' szi z.1.length
section
variable {α β:Type} {l:α→List β} {sz szi:Nat}
theorem vO {xs:List α} {gs:List OG} (h:gs.length=xs.length):(zg xs gs).length=xs.length:=by simp[zg,List.length_zip,h]
theorem tE.z {g:dH} {xs:List α} (ok:tE l sz szi g xs):bI g.a sz (zg xs g.gs).length:=by rw[vO ok.len]; exact ok.a
theorem G3 {xs:List α} {gs:List OG} (h:gs.length=xs.length) {k:Nat} {x:α} (hx:xs[k]? =some x):(zg xs gs)[k]? =some (x,gx gs k):=by
 obtain⟨hk,rfl⟩:=List.getElem?_eq_some_iff.1 hx
 have hk':k < gs.length:=by omega
 simp[zg,gx,List.getElem?_zip_eq_some,hk,hk']
theorem YZ {xs:List α} {gs:List OG} (h:gs.length=xs.length) {i:Int} {x:α} (hx:ix xs i=some x):ix (zg xs gs) i=some (x,gx gs i.toNat):=by
 obtain⟨h1,h2,h3⟩:=gA hx
 unfold ix
 rw[if_pos h1]
 exact G3 h h3
theorem MX {xs:List α} {gs:List OG} (k:Nat) (x:α) (og:OG):(zg xs gs).set k (x,og)=zg (xs.set k x) (gs.set k og):=by
 unfold zg
 induction xs generalizing gs k with
 | nil=>simp
 | cons y ys ih=>cases gs with
  | nil=>simp
  | cons g gs=>cases k with
   | zero=>simp
   | succ k=>simp[ih]
theorem QB {gs:List OG} (k:Nat) (h:k < gs.length):gs.set k (gx gs k)=gs:=by
 apply List.ext_getElem?
 intro i
 rw[List.getElem?_set]
 split
 ·rename_i e; subst e; simp[gx,h]
 ·rfl
theorem tE.ix {g:dH} {xs:List α} (ok:tE l sz szi g xs) {i:Int} {x:α} (hx:ix xs i=some x):Vm.ix (zg xs g.gs) i=some (x,gx g.gs i.toNat):=YZ ok.len hx
theorem tE.set {g:dH} {xs:List α} {i:Int} {x x':α} (ok:tE l sz szi g xs) (hx:Vm.ix xs i=some x) (e:l x'=l x):
    tE l sz szi g (xs.set i.toNat x')∧(zg xs g.gs).set i.toNat (x',gx g.gs i.toNat)=zg (xs.set i.toNat x') g.gs∧nl l (zg (xs.set i.toNat x') g.gs)=nl l (zg xs g.gs):=by
  obtain⟨h1,h2,h3⟩:=gA hx
  have hk:i.toNat < xs.length:=(List.getElem?_eq_some_iff.1 h3).1
  have e1:(zg xs g.gs).set i.toNat (x',gx g.gs i.toNat)=zg (xs.set i.toNat x') g.gs:=by rw[MX,QB _ (by have:=ok.len; omega)]
  have e2:nl l (zg (xs.set i.toNat x') g.gs)=nl l (zg xs g.gs):=by
    rw[← e1]
    unfold nl
    rw[List.map_set]
    apply List.ext_getElem?
    intro j
    rw[List.getElem?_set]
    split
    · rename_i q; subst q
      have h5:=G3 ok.len h3
      rw[List.getElem?_map,h5]
      simp[e,vO ok.len,hk]
    · rfl
  exact⟨⟨by rw[List.length_set]; exact ok.a,by rw[List.length_set]; exact ok.len,by rw[e2]; exact ok.el⟩,e1,e2⟩
theorem tE.setL {g:dH} {xs:List α} {i:Int} {x x':α} (ok:tE l sz szi g xs) (hx:Vm.ix xs i=some x) (g':cT) (hg:bI g' szi (l x').length):
    tE l sz szi ⟨g.a,g.gs.set i.toNat (some g')⟩ (xs.set i.toNat x')∧(zg xs g.gs).set i.toNat (x',some g')=zg (xs.set i.toNat x') (g.gs.set i.toNat (some g'))∧
      nl l (zg (xs.set i.toNat x') (g.gs.set i.toNat (some g')))=(nl l (zg xs g.gs)).set i.toNat (l x',some g'):=by
  obtain⟨h1,h2,h3⟩:=gA hx
  have e1:(zg xs g.gs).set i.toNat (x',some g')=zg (xs.set i.toNat x') (g.gs.set i.toNat (some g')):=MX _ _ _
  have e2:nl l (zg (xs.set i.toNat x') (g.gs.set i.toNat (some g')))=(nl l (zg xs g.gs)).set i.toNat (l x',some g'):=by
    rw[← e1]; unfold nl; rw[List.map_set]
  refine⟨⟨by rw[List.length_set]; exact ok.a,by simp[ok.len], ?_⟩,e1,e2⟩
  show ∀z∈nl l (zg (xs.set i.toNat x') (g.gs.set i.toNat (some g'))),_
  rw[e2]
  intro z hz g2 hg2
  rcases List.mem_or_eq_of_mem_set hz with hz | rfl
  · exact ok.el z hz g2 hg2
  · cases hg2; exact hg
theorem tE.nlat {g:dH} {xs:List α} {i:Int} {x:α} (ok:tE l sz szi g xs) (hx:Vm.ix xs i=some x):(nl l (zg xs g.gs))[i.toNat]? =some (l x,gx g.gs i.toNat):=by
 obtain⟨h1,h2,h3⟩:=gA hx
 unfold nl
 rw[List.getElem?_map,G3 ok.len h3]
 rfl
theorem tE.plain {a:cT} {xs:List α} (ok:bI a sz xs.length):tE l sz szi ⟨a,List.replicate xs.length none⟩ xs:=⟨ok,by simp,λz hz g' e=>by
 unfold nl zg at hz
 obtain⟨y,hy,rfl⟩:=List.mem_map.1 hz
 have:=(List.of_mem_zip hy).2
 rw[List.mem_replicate] at this
 simp only at e
 rw[this.2] at e
 cases e⟩
variable {ty:TypeId} {ci:β→List AV} {h0:aE}
theorem yX {γ:Type}:∀ {zs:List γ} {j:Nat} {z:γ},zs[j]? =some z→zs.Perm (z::zs.eraseIdx j)
 | [],_,_,h=>by simp at h
 | y::ys,0,z,h=>by
  simp only[List.getElem?_cons_zero,Option.some.injEq] at h
  subst h
  exact .refl _
 | y::ys,j+1,z,h=>by
  have:=yX (zs:=ys) (j:=j) (z:=z) (by simpa using h)
  simp only[List.eraseIdx_cons_succ]
  exact(this.cons y).trans (.swap z y _)
theorem IJ {zs:List (List β×OG)} {j:Nat} {z:List β×OG} (hz:zs[j]? =some z):(kM ty ci zs).Perm ((oT z.2,.obj ty (fl ci z.1 (oS z.2)))::kM ty ci (zs.eraseIdx j)):=by
 exact(yX hz).map _
theorem QC {zs:List (List β×OG)} {j:Nat} (z:List β×OG) (hj:j < zs.length):(kM ty ci (zs.set j z)).Perm ((oT z.2,.obj ty (fl ci z.1 (oS z.2)))::kM ty ci (zs.eraseIdx j)):=by
 have:=IJ (ty:=ty) (ci:=ci) (zs:=zs.set j z) (j:=j) (z:=z) (by simp[hj])
 rwa [List.eraseIdx_set_eq] at this
theorem vP {k:cB} {e:iI}:∀ {L:HL},bT h0 L→(some k,e)∈L→hp h0 L k=some e
 | [],_,h=>by cases h
 | (t,e')::r,ok,h=>by
  rcases List.mem_cons.1 h with h | h
  ·cases h; simp only[hp,dM]
  ·have ih:=vP (L:=r) ok.1 h
   cases t with
   | none=>exact ih
   | some k'=>
    have hne:k≠k':=λq=>by
     have:=ok.2 k' rfl
     rw[← q,ih] at this
     cases this
    simp only[hp]
    rw[cR _ _ hne,ih]
theorem G4 {k:cB} {e:iI}:∀ {L:HL},bT h0 L→(some k,e)∈L→h0 k=none
 | [],_,h=>by cases h
 | (t,e')::r,ok,h=>by
  rcases List.mem_cons.1 h with h | h
  ·cases h
   have:=ok.2 k rfl
   exact mY (aT (List.nil_sublist r) ok.1).1 this
  ·exact G4 ok.1 h
theorem G5 {k:cB}:∀ {L:HL},h0 k=none→(∀e,(some k,e) ∉ L)→hp h0 L k=none
 | [],h,_=>h
 | (t,e')::r,h,hn=>by
  have ih:=G5 (L:=r) h λe q=>hn e (List.mem_cons_of_mem _ q)
  cases t with
  | none=>exact ih
  | some k'=>
   have hne:k≠k':=λq=>hn e' (by rw[q]; exact List.mem_cons_self)
   simp only[hp]
   rw[cR _ _ hne,ih]
theorem CU {k:cB} {e e':iI}:∀ {A F:HL},bT h0 (A++F)→(some k,e)∈F→(some k,e') ∉ A
 | [],_,_,_=>nofun
 | (t,e2)::A,F,ok,h=>λq=>by
  rcases List.mem_cons.1 q with q | q
  ·cases q
   have:=ok.2 k rfl
   rw[vP ok.1 (List.mem_append_right _ h)] at this
   cases this
  ·exact CU ok.1 h q
theorem uD.append {H:aE} {xs ys:List AV} (h:uD H xs ys) {us vs:List AV} (h2:uD H us vs):uD H (xs++us) (ys++vs):=by
 induction h with
 | nil=>exact h2
 | cons a _ ih=>exact .cons a ih
theorem uD.flat {γ:Type} {H:aE} {c c':γ→List AV}:∀ {ys:List γ},(∀y∈ys,uD H (c y) (c' y))→uD H (ys.map c).flatten (ys.map c').flatten
 | [],_=>.nil
 | y::ys,h=>by
  simp only[List.map_cons,List.flatten_cons]
  exact(h y List.mem_cons_self).append (uD.flat λz hz=>h z (List.mem_cons_of_mem _ hz))
theorem Br.vwN {γ:Type} {c c':γ→List AV} {ys:List γ} {H:aE} {k:cB} {ty:TypeId} {sp:List AV} {sz cap:Nat} (hc:∀y,(c' y).length=sz) (hk:H k=some (.obj ty (fl c ys sp))) (hb:∀y∈ys,uD H (c y) (c' y)):Br H (.vw k ys.length cap) (.sl none sz (ys.map c')):=by
 intro E w v r hv
 simp only[VR] at hv ⊢
 obtain⟨g,hg,rfl,h1,h2⟩:=hv
 obtain⟨g',cur,e1,e2,e3,e4⟩:=r.obj _ _ _ hk
 rw[hg] at e1; cases e1
 refine⟨_,cap,by rw[List.length_map],by rw[List.length_map]; exact h1,h2, ?_, ?_,nofun⟩
 ·refine .inr ⟨g,0,rfl,i9.2 ?_⟩
  have htake:cY E w (ys.map c).flatten (cur.toList.take ((ys.map c).flatten.length)):=by
   have:=fO ((ys.map c).flatten.length) e3
   rwa [fl,List.take_left' rfl] at this
  refine dZ ((uD.flat hb).spec r htake) (λu hu=>e4 u (List.mem_of_mem_take hu)) ?_
  intro j u hj
  rw[List.getElem?_take] at hj
  split at hj
  ·have hcell:w.cell? ⟨g,0+j,none⟩=some u:=by
    simp only[World.cell?,e2,Nat.zero_add]
    simpa using hj
   exact⟨hcell,.inl (.inr ⟨⟨k,.inl ⟨_,rfl,hk,hg⟩⟩,u,hcell⟩)⟩
  ·cases hj
 ·intro x hx
  obtain⟨y,_,rfl⟩:=List.mem_map.1 hx
  exact hc y
theorem yY {γ:Type} {xs:List α} {gs:List OG} (h:gs.length=xs.length) (c:α→γ):(zg xs gs).map (λy=>c y.1)=xs.map c:=by
 unfold zg
 have:(xs.zip gs).map Prod.fst=xs:=List.map_fst_zip (by omega)
 conv=>rhs; rw[← this,List.map_map]
 rfl
theorem Br.awO {H:aE} {og:OG} {xs:List β} (hc:∀y,(ci y).length=szi) (ok:∀g,og=some g→bI g szi xs.length) (hk:∀k,oT og=some k→H k=some (.obj ty (fl ci xs (oS og)))):Br H (Vm.awO ci szi og xs) (.sl none szi (xs.map ci)):=by
 cases og with
 | none=>exact Br.refl _ _
 | some g=>
  have ok:=ok g rfl
  show Br H (Vm.aw g.t g.n g.cap) _
  rw[ok.eqn]
  cases ht:g.t with
  | none=>
   have h0:xs= []:=List.length_eq_zero_iff.1 (ok.nil ht)
   subst h0
   exact Br.ale (uT _ szi)
  | some k=>exact Br.vw hc (hk k ht)
theorem Br.awN {cN:α×OG→List AV} {c:α→List AV} {L:HL} {tyo:TypeId} {g:dH} {xs:List α} (i:Nat) (hc:∀y,(c y).length=sz) (hci:∀y,(ci y).length=szi) (hb:∀(H:aE) (y:α×OG),Br H (Vm.awO ci szi y.2 (l y.1)) (.sl none szi ((l y.1).map ci))→uD H (cN y) (c y.1))
    (ok:tE l sz szi g xs) (hk:bT h0 L) (hi:L[i]? =some (g.a.t,.obj tyo (fl cN (zg xs g.gs) g.a.sp))) (hm:∀e∈kM ty ci (nl l (zg xs g.gs)),e∈L):Br (hp h0 L) (Vm.aw g.a.t g.a.n g.a.cap) (.sl none sz (xs.map c)):=by
  rw[ok.a.eqn]
  cases ht:g.a.t with
  | none=>
    have h0:xs= []:=List.length_eq_zero_iff.1 (ok.a.nil ht)
    subst h0
    exact Br.ale (uT _ sz)
  | some k=>
    rw[ht] at hi
    have:=Br.vwN (c':=λy:α×OG=>c y.1) (sz:=sz) (cap:=g.a.cap) (λy=>hc y.1) (bB i hk hi) λy hy=>hb _ y (Br.awO (ty:=ty) hci (ok.el (l y.1,y.2) (List.mem_map.2 ⟨y,hy,rfl⟩)) λk' hk'=>by
      refine vP hk (hm _ ?_)
      rw[← hk']
      exact List.mem_map.2 ⟨(l y.1,y.2),List.mem_map.2 ⟨y,hy,rfl⟩,rfl⟩)
    rwa [vO ok.len,yY ok.len] at this
theorem pN.append {H H':aE} {xs ys:List AV} (h:pN H H' xs ys) {us vs:List AV} (h2:pN H H' us vs):pN H H' (xs++us) (ys++vs):=by
 induction h with
 | nil=>exact h2
 | cons a _ ih=>exact .cons a ih
theorem pN.flat {γ:Type} {H H':aE} {c c':γ→List AV}:∀ {ys:List γ},(∀y∈ys,pN H H' (c y) (c' y))→pN H H' (ys.map c).flatten (ys.map c').flatten
 | [],_=>.nil
 | y::ys,h=>by
  simp only[List.map_cons,List.flatten_cons]
  exact(h y List.mem_cons_self).append (pN.flat λz hz=>h z (List.mem_cons_of_mem _ hz))
theorem Fz.vwN {γ:Type} {c c':γ→List AV} {ys:List γ} {H H':aE} {k:cB} {ty:TypeId} {sp:List AV} {sz cap:Nat} (hc:∀y,(c' y).length=sz) (hk:H k=some (.obj ty (fl c ys sp))) (hn:H' k=none) (hb:∀y∈ys,pN H H' (c y) (c' y)):Fz H H' (.vw k ys.length cap) (.sl none sz (ys.map c')):=by
 intro E w v r hv
 simp only[VR] at hv ⊢
 obtain⟨g,hg,rfl,h1,h2⟩:=hv
 obtain⟨g',cur,e1,e2,e3,e4⟩:=r.obj _ _ _ hk
 rw[hg] at e1; cases e1
 refine⟨_,cap,by rw[List.length_map],by rw[List.length_map]; exact h1,h2, ?_, ?_,nofun⟩
 ·refine .inr ⟨g,0,rfl,i9.2 ?_⟩
  have htake:cY E w (ys.map c).flatten (cur.toList.take ((ys.map c).flatten.length)):=by
   have:=fO ((ys.map c).flatten.length) e3
   rwa [fl,List.take_left' rfl] at this
  refine dZ ((pN.flat hb).spec r htake) (λu hu=>e4 u (List.mem_of_mem_take hu)) ?_
  intro j u hj
  rw[List.getElem?_take] at hj
  split at hj
  ·have hcell:w.cell? ⟨g,0+j,none⟩=some u:=by
    simp only[World.cell?,e2,Nat.zero_add]
    simpa using hj
   exact⟨hcell,.inl (.inr ⟨⟨k,.inl ⟨_,rfl,hk,hg⟩,hn⟩,u,hcell⟩)⟩
  ·cases hj
 ·intro x hx
  obtain⟨y,_,rfl⟩:=List.mem_map.1 hx
  exact hc y
theorem Fz.awO {H H':aE} (hs:iD H' H) {og:OG} {xs:List β} (hc:∀y,(ci y).length=szi) (ok:∀g,og=some g→bI g szi xs.length) (hk:∀k,oT og=some k→H k=some (.obj ty (fl ci xs (oS og)))∧H' k=none):Fz H H' (Vm.awO ci szi og xs) (.sl none szi (xs.map ci)):=by
 cases og with
 | none=>exact Fz.refl _ _ _
 | some g=>
  have ok:=ok g rfl
  show Fz H H' (Vm.aw g.t g.n g.cap) _
  rw[ok.eqn]
  cases ht:g.t with
  | none=>
   have h0:xs= []:=List.length_eq_zero_iff.1 (ok.nil ht)
   subst h0
   exact Fz.ale hs (uT _ szi)
  | some k=>exact Fz.vw hc (hk k ht).1 (hk k ht).2
theorem Fz.awN {cN:α×OG→List AV} {c:α→List AV} {A A' F:HL} {tyo:TypeId} {g:dH} {xs:List α} (i:Nat) (hc:∀y,(c y).length=sz) (hci:∀y,(ci y).length=szi) (hb:∀(H H':aE) (y:α×OG),Fz H H' (Vm.awO ci szi y.2 (l y.1)) (.sl none szi ((l y.1).map ci))→pN H H' (cN y) (c y.1))
    (ok:tE l sz szi g xs) (hk:bT h0 (A++F)) (hi:A[i]? =some (g.a.t,.obj tyo (fl cN (zg xs g.gs) g.a.sp))) (hm:∀e∈kM ty ci (nl l (zg xs g.gs)),e∈F) (hs:A'.Sublist (A.eraseIdx i)):Fz (hp h0 (A++F)) (hp h0 A') (Vm.aw g.a.t g.a.n g.a.cap) (.sl none sz (xs.map c)):=by
  have hA:A'.Sublist (A++F):=(hs.trans (List.eraseIdx_sublist A i)).trans (List.sublist_append_left A F)
  have hsub:=(aT hA hk).1
  rw[ok.a.eqn]
  cases ht:g.a.t with
  | none=>
    have h0:xs= []:=List.length_eq_zero_iff.1 (ok.a.nil ht)
    subst h0
    exact Fz.ale hsub (uT _ sz)
  | some k=>
    rw[ht] at hi
    have hil:i < A.length:=(List.getElem?_eq_some_iff.1 hi).1
    have hi2:(A++F)[i]? =some (some k,.obj tyo (fl cN (zg xs g.gs) g.a.sp)):=by rw[List.getElem?_append_left hil]; exact hi
    have hs2:A'.Sublist ((A++F).eraseIdx i):=by
      rw[List.eraseIdx_append_of_lt_length hil]
      exact hs.trans (List.sublist_append_left _ F)
    have:=Fz.vwN (c':=λy:α×OG=>c y.1) (sz:=sz) (cap:=g.a.cap) (H':=hp h0 A') (λy=>hc y.1) (bB i hk hi2) (mY (aT hs2 (aT (List.eraseIdx_sublist _ i) hk).2).1 (nY i hk hi2)) λy hy=>hb _ _ y (Fz.awO (ty:=ty) hsub hci (ok.el (l y.1,y.2) (List.mem_map.2 ⟨y,hy,rfl⟩)) λk' hk'=>by
      have hmF:(some k',iI.obj ty (fl ci (l y.1) (oS y.2)))∈F:=hm _ (by rw[← hk']; exact List.mem_map.2 ⟨(l y.1,y.2),List.mem_map.2 ⟨y,hy,rfl⟩,rfl⟩)
      refine⟨vP hk (List.mem_append_right _ hmF),G5 (G4 hk (List.mem_append_right _ hmF)) λe q=> ?_⟩
      exact CU hk hmF ((hs.trans (List.eraseIdx_sublist A i)).subset q))
    rwa [vO ok.len,yY ok.len] at this
end
def iB:List HL→HL
 | []=> []
 | [x]=>x
 | x::y::r=>x++iB (y::r)
theorem gK:∀b:List HL,iB b=b.flatten
 | []=>rfl
 | [x]=>by simp[iB]
 | x::y::r=>by rw[iB,gK (y::r)]; rfl
theorem qN {bl bl':List HL} (p:bl.Perm bl'):(iB bl).Perm (iB bl'):=by rw[gK,gK]; exact p.flatten
theorem oZ {bl:List HL} {b:Nat} {F:HL} (h:bl[b]? =some F):(iB bl).Perm (F++(bl.eraseIdx b).flatten):=by
 rw[gK]
 exact(yX h).flatten
theorem p7 {bl:List HL} {b:Nat} {F:HL} (F':HL) (h:bl[b]? =some F):(iB (bl.set b F')).Perm (F'++(bl.eraseIdx b).flatten):=by
 have hb:b < bl.length:=(List.getElem?_eq_some_iff.1 h).1
 have:=oZ (bl:=bl.set b F') (b:=b) (F:=F') (by simp[hb])
 rwa [List.eraseIdx_set_eq] at this
section
variable {h0:aE} {L L' R:HL}
theorem tF (hk:bT h0 L) (bl:List HL) (hL:iB bl=L) (σ:List Nat) (hL':iB (pick σ bl)=L') (ho:σ.isPerm (List.range bl.length)=true):hp h0 L=hp h0 L'∧bT h0 L':=by
 subst hL hL'
 exact gZ (qN (mP ho)) hk
theorem tG (hk:bT h0 L) (bl:List HL) (hL:iB bl=L) (σ:List Nat) (hL':iB (pick σ bl)=L') (ho:(σ++sJ σ bl.length).isPerm (List.range bl.length)=true):bT h0 L'∧iD (hp h0 L') (hp h0 L):=by
 subst hL hL'
 have p:=qN (mP ho)
 have e2:pick (σ++sJ σ bl.length) bl=pick σ bl++pick (sJ σ bl.length) bl:=List.filterMap_append
 rw[e2,gK (_++_),List.flatten_append,← gK (pick σ bl)] at p
 obtain⟨e,k⟩:=gZ p hk
 have:=aT (List.sublist_append_left (iB (pick σ bl)) (pick (sJ σ bl.length) bl).flatten) k
 exact⟨this.2,by rw[e]; exact this.1⟩
theorem lxB {n:Nat} {f g:FR} (bl:List HL) (hL:iB bl=L) (σ:List Nat) (hL':iB (pick σ bl)=L') (ho:(σ++sJ σ bl.length).isPerm (List.range bl.length)=true) (hf:FT (hp h0 L') n f.k g.k):LX h0 n f L g L':=λhk=>
 let ⟨h1,h2⟩:=tG hk bl hL σ hL' ho; ⟨h1,i7.fm h2 hf⟩
variable {β:Type} {ty:TypeId} {ci:β→List AV}
theorem qO (hk:bT h0 L) (bl:List HL) (hL:iB bl=L) (b:Nat) {zs:List (List β×OG)} {j:Nat} {z:List β×OG} (hb:bl[b]? =some (kM ty ci zs)) (hz:zs[j]? =some z) (hR:iB (bl.set b (kM ty ci (zs.eraseIdx j)))=R):
    hp h0 L=hp h0 ((oT z.2,.obj ty (fl ci z.1 (oS z.2)))::R)∧bT h0 ((oT z.2,.obj ty (fl ci z.1 (oS z.2)))::R):=by
  subst hL hR
  refine gZ ?_ hk
  refine(oZ hb).trans (((IJ hz).append_right _).trans ?_)
  exact((p7 (kM ty ci (zs.eraseIdx j)) hb).symm.cons _)
theorem o0 (bl:List HL) (hR:iB bl=R) (b:Nat) {zs:List (List β×OG)} {j:Nat} (z:List β×OG) (hj:j < zs.length) (hb:bl[b]? =some (kM ty ci (zs.eraseIdx j))) (hk:bT h0 ((oT z.2,.obj ty (fl ci z.1 (oS z.2)))::R)) (hL':iB (bl.set b (kM ty ci (zs.set j z)))=L'):
    hp h0 ((oT z.2,.obj ty (fl ci z.1 (oS z.2)))::R)=hp h0 L'∧bT h0 L':=by
  subst hR hL'
  refine gZ ?_ hk
  refine((oZ hb).cons _).trans ?_
  refine(((QC z hj).symm.append_right _).trans ?_)
  exact(p7 _ hb).symm
theorem EY (a b:List HL):iB (a++b)=iB a++iB b:=by rw[gK,gK,gK,List.flatten_append]
theorem MY {γ:Type} (σ τ:List Nat) (l:List γ):pick (σ++τ) l=pick σ l++pick τ l:=List.filterMap_append
theorem mD {A:HL} (hk:bT h0 L) (bl:List HL) (hL:iB bl=L) (σ τ:List Nat) (hA:iB (pick σ bl)=A) (hR:iB (pick τ bl)=R) (ho:(σ++τ).isPerm (List.range bl.length)=true):hp h0 L=hp (hp h0 R) A∧bT h0 R∧bT (hp h0 R) A:=by
 subst hL hA hR
 obtain⟨e,k⟩:=gZ (qN (mP ho)) hk
 rw[MY,EY] at e k
 obtain⟨k1,k2⟩:=cJ _ _ k
 exact⟨e.trans (cV h0 _ _).symm,k1,k2⟩
theorem mE {A:HL} (hR:bT h0 R) (hA:bT (hp h0 R) A) (ba br:List HL) (hA':iB ba=A) (hR':iB br=R) (σ:List Nat) (hL':iB (pick σ (ba++br))=L') (ho:σ.isPerm (List.range (ba++br).length)=true):hp (hp h0 R) A=hp h0 L'∧bT h0 L':=by
 subst hA' hR' hL'
 have k:=dI hR hA
 rw[cV]
 rw[← EY] at k ⊢
 exact gZ (qN (mP ho)) k
end
structure mF {α β:Type} (l:α→List β) (sz szi:Nat) (g:dH) (xs:List α):Prop where
 k:tE l sz szi g xs
 own:∀og∈g.gs,og≠none
section
variable {α β:Type} {l:α→List β} {sz szi:Nat} {g:dH} {xs:List α} {i:Int} {x x':α}
theorem mF.gx (ok:mF l sz szi g xs) (hx:Vm.ix xs i=some x):∃gv,Vm.gx g.gs i.toNat=some gv∧bI gv szi (l x).length∧(nl l (zg xs g.gs))[i.toNat]? =some (l x,some gv):=by
 have h1:=ok.k.nlat hx
 obtain⟨_,_,h3⟩:=gA hx
 have hk:i.toNat < xs.length:=(List.getElem?_eq_some_iff.1 h3).1
 have hk':i.toNat < g.gs.length:=by have:=ok.k.len; omega
 cases hg:Vm.gx g.gs i.toNat with
 | none=>
  have:g.gs[i.toNat]=none:=by unfold Vm.gx at hg; rw[List.getElem?_eq_getElem hk'] at hg; exact hg
  exact absurd this (ok.own _ (List.getElem_mem hk'))
 | some gv=>
  rw[hg] at h1
  exact⟨gv,rfl,ok.k.el _ (List.mem_of_getElem? h1) gv rfl,h1⟩
theorem mF.set (ok:mF l sz szi g xs) (hx:Vm.ix xs i=some x) (e:l x'=l x):mF l sz szi g (xs.set i.toNat x'):=⟨(ok.k.set hx e).1,ok.own⟩
theorem mF.setL (ok:mF l sz szi g xs) (hx:Vm.ix xs i=some x) (g':cT) (hg:bI g' szi (l x').length):mF l sz szi ⟨g.a,g.gs.set i.toNat (some g')⟩ (xs.set i.toNat x'):=
 ⟨(ok.k.setL hx g' hg).1,λog h=>by rcases List.mem_or_eq_of_mem_set h with h | rfl; exact ok.own og h; exact nofun⟩
end
theorem jP {γ:Type} {l:List γ} {j:Nat} {z:γ} (h:l[j]? =some z):j < l.length:=(List.getElem?_eq_some_iff.1 h).1
theorem eqN {h0:aE} {L L':HL} (hk:bT h0 L) (e:L=L'):hp h0 L=hp h0 L'∧bT h0 L':=by subst e; exact⟨rfl,hk⟩
theorem tE.br {α β:Type} {l:α→List β} {sz szi:Nat} {ty:TypeId} {ci:β→List AV} {h0:aE} {L:HL} {g:dH} {xs:List α} {i:Int} {x:α} (ok:tE l sz szi g xs) (hx:Vm.ix xs i=some x) (hci:∀y,(ci y).length=szi) (hk:bT h0 L)
    (hm:∀e∈kM ty ci (nl l (zg xs g.gs)),e∈L):Br (hp h0 L) (awO ci szi (Vm.gx g.gs i.toNat) (l x)) (.sl none szi ((l x).map ci)):=by
  have hn:=List.mem_of_getElem? (ok.nlat hx)
  refine Br.awO (ty:=ty) hci (ok.el _ hn) λk hk'=>vP hk (hm _ ?_)
  rw[← hk']
  exact List.mem_map.2 ⟨_,hn,rfl⟩
theorem QD {xs r:List AV} {m:Nat} (h:xs.length=m):DP true m ((xs++r).drop 0)=some (.agg xs):=by
 subst h
 simp[DP]
theorem gJ {β:Type} (ci:β→List AV) (szi:Nat) (og:OG) (l:List β):gP (awO ci szi og l)=true:=by
 cases og with
 | none=>rfl
 | some g=>exact bW _ _ _
theorem UK {α β:Type} (f:α→β) (xs:List α) (i:Int):ix (xs.map f) i=(ix xs i).map f:=by
 unfold ix
 split
 ·rw[List.getElem?_map]
 ·rfl
theorem UL {α ρ:Type} {xs:List α} {gs:List OG} (hl:gs.length=xs.length) {F:List α→Option ρ} {G:Option ρ} (e:F ((zg xs gs).map Prod.fst)=G) {o:ρ} (h:F xs=some o):G=some o:=by
 rw[← e,show (zg xs gs).map Prod.fst=xs from by simpa using yY hl (λx=>x)]
 exact h
theorem UM {F L:HL} (bl:List HL) (hL:iB bl=L) (b:Nat) (hb:bl[b]? =some F):∀e∈F,e∈L:=λe he=>by
 subst hL
 rw[gK]
 exact List.mem_flatten.2 ⟨F,List.mem_of_getElem? hb,he⟩
section
variable {α β:Type} {l:α→List β} {sz szi:Nat} {ty:TypeId} {ci:β→List AV} {h0:aE} {L L':HL}
theorem DR {n:Nat} {f:FR} {cN:α×OG→List AV} {c:α→List AV} {tyo:TypeId} {g:dH} {xs:List α} (bl:List HL) (hL:iB bl=L) (i b:Nat) (hci:∀y,(ci y).length=szi)
    (hb:∀(H H':aE) (y:α×OG),Fz H H' (awO ci szi y.2 (l y.1)) (.sl none szi ((l y.1).map ci))→pN H H' (cN y) (c y.1))
    (ok:tE l sz szi g xs) (hi:bl[i]? =some [(g.a.t,.obj tyo (fl cN (zg xs g.gs) g.a.sp))]) (hbf:bl[b]? =some (kM ty ci (nl l (zg xs g.gs)))) (hib:i < b)
    (hL':iB ((bl.eraseIdx b).set i [(g.a.t,.obj tyo (fl c xs g.a.sp))])=L') (hk:bT h0 L):bT h0 L'∧i7 (fm n f.k) (hp h0 L') (fm n f.k) (hp h0 L):=by
  subst hL hL'
  -- the array's block and the family's block, ahead of the rest
  have hi':(bl.eraseIdx b)[i]? =some [(g.a.t,.obj tyo (fl cN (zg xs g.gs) g.a.sp))]:=by
    rw[List.getElem?_eraseIdx]; simp[hib,hi]
  generalize hR:((bl.eraseIdx b).eraseIdx i).flatten=R
  have p1:(iB bl).Perm (kM ty ci (nl l (zg xs g.gs))++((g.a.t,.obj tyo (fl cN (zg xs g.gs) g.a.sp))::R)):=by
    refine(oZ hbf).trans (List.Perm.append_left _ ?_)
    have:=oZ hi'
    rw[gK,hR] at this
    exact this
  have p2:(iB ((bl.eraseIdx b).set i [(g.a.t,.obj tyo (fl c xs g.a.sp))])).Perm ((g.a.t,.obj tyo (fl c xs g.a.sp))::R):=by
    have:=p7 [(g.a.t,iI.obj tyo (fl c xs g.a.sp))] hi'
    rw[hR] at this
    exact this
  obtain⟨e1,k1⟩:=gZ p1 hk
  have k2:bT h0 ((g.a.t,.obj tyo (fl cN (zg xs g.gs) g.a.sp))::R):=(cJ _ _ k1).1
  have k3:bT h0 ((g.a.t,.obj tyo (fl c xs g.a.sp))::R):=⟨k2.1,k2.2⟩
  obtain⟨e2,k4⟩:=gZ p2.symm k3
  refine⟨k4, ?_⟩
  rw[e1,← e2]
  have hs:iD (hp h0 ((g.a.t,.obj tyo (fl cN (zg xs g.gs) g.a.sp))::R)) (hp h0 (kM ty ci (nl l (zg xs g.gs))++((g.a.t,.obj tyo (fl cN (zg xs g.gs) g.a.sp))::R))):=(aT (List.sublist_append_right _ _) k1).1
  intro E w vs r v
  have r1:=sG r hs
  have kk:eR E w (FJ E _ (hp h0 ((g.a.t,.obj tyo (fl cN (zg xs g.gs) g.a.sp))::R)) w) w:=hU r
  cases ht:g.a.t with
  | none=>rw[ht] at r1 kk; exact⟨_,kk,r1,cQ kk _ _ v⟩
  | some k=>
    rw[ht] at r1 kk k2 k1 hs r
    have hg1:hp h0 ((some k,iI.obj tyo (fl cN (zg xs g.gs) g.a.sp))::R) k=some (.obj tyo (fl cN (zg xs g.gs) g.a.sp)):=bB 0 k2 rfl
    obtain⟨gg,cur,f1,f2,f3,f4⟩:=r.obj k tyo _ (hs _ _ hg1)
    have hfz:pN (hp h0 (kM ty ci (nl l (zg xs g.gs))++((some k,.obj tyo (fl cN (zg xs g.gs) g.a.sp))::R))) (hp h0 ((some k,.obj tyo (fl cN (zg xs g.gs) g.a.sp))::R)) (fl cN (zg xs g.gs) g.a.sp) (fl c xs g.a.sp):=by
      unfold fl
      refine pN.append ?_ (pN.refl _ _ _)
      rw[← yY ok.len c]
      refine pN.flat λy hy=>hb _ _ y (Fz.awO (ty:=ty) hs hci (ok.el (l y.1,y.2) (List.mem_map.2 ⟨y,hy,rfl⟩)) λk' hk'=> ?_)
      have hm:(some k',iI.obj ty (fl ci (l y.1) (oS y.2)))∈kM ty ci (nl l (zg xs g.gs)):=by rw[← hk']; exact List.mem_map.2 ⟨(l y.1,y.2),List.mem_map.2 ⟨y,hy,rfl⟩,rfl⟩
      refine⟨vP k1 (List.mem_append_left _ hm),G5 (G4 k1 (List.mem_append_left _ hm)) λe q=> ?_⟩
      have p3:=List.perm_append_comm (l₁:=kM ty ci (nl l (zg xs g.gs))) (l₂:=(some k,iI.obj tyo (fl cN (zg xs g.gs) g.a.sp))::R)
      exact CU (gZ p3 k1).2 hm q
    obtain⟨q1,q2⟩:=r1.set_obj hg1 (show (FJ E _ (hp h0 ((some k,.obj tyo (fl cN (zg xs g.gs) g.a.sp))::R)) w).ob k=some gg from f1) (w':=w) f2 (λ_ _=>rfl) (Nat.le_refl _) rfl rfl rfl (hfz.spec r f3) f4
    have e3:upd (hp h0 ((some k,iI.obj tyo (fl cN (zg xs g.gs) g.a.sp))::R)) k (some (.obj tyo (fl c xs g.a.sp)))=hp h0 ((some k,.obj tyo (fl c xs g.a.sp))::R):=by
      funext z
      simp only[hp,upd]
      split <;> rfl
    rw[e3] at q2
    exact⟨_,kk.trans q1,q2,cQ (kk.trans q1) _ _ v⟩
end
theorem CV {P:Program} {h:aE} {n:Nat} {rs:List ResultVar} {Q:AV→aE→Prop} {e:Exit} {f g:FR} {L L':HL} (le:bT h L→bT h L'∧i7 (fm n g.k) (hp h L') (fm n f.k) (hp h L)) (k:RV P rs Q h n e g L'):RV P rs Q h n e f L:=
 ⟨λhk=>let ⟨h1,h2⟩:=le hk; let ⟨fr,hh,l2,q⟩:=k.r h1; ⟨fr,hh,h2.trans l2,q⟩⟩
structure CW {α β:Type} (l:α→List β) (sz szi:Nat) (g:dH) (xs:List α) (m N:Nat):Prop where
 k:tE l sz szi g xs
 len:xs.length=N
 pre:∀j,j < m→j < xs.length→gx g.gs j≠none
 post:∀j,m≤j→gx g.gs j=none
section
variable {α β:Type} {l:α→List β} {sz szi:Nat} {g:dH} {xs:List α} {q:Int} {x x':α} {ty:TypeId} {ci:β→List AV} {h0:aE} {L L':HL}
theorem UN (n j:Nat):gx (List.replicate n none) j=none:=by
 unfold gx
 rw[List.getElem?_replicate]
 split <;> rfl
theorem CW.zero {a:cT} (ok:bI a sz xs.length):CW l sz szi ⟨a,List.replicate xs.length none⟩ xs 0 xs.length:=⟨tE.plain ok,rfl,λj h=>absurd h (Nat.not_lt_zero _),λj _=>UN _ _⟩
theorem MZ {gs:List OG} {i j:Nat} {og:OG}:gx (gs.set i og) j=if i=j∧j < gs.length then og else gx gs j:=by
 unfold gx
 rw[List.getElem?_set]
 by_cases e:i=j
 ·subst e
  by_cases h:i < gs.length
  ·simp[h]
  ·simp[h]
 ·simp[e]
theorem CW.step {N:Nat} (ok:CW l sz szi g xs q.toNat N) (hx:Vm.ix xs q=some x) (g':cT) (hg:bI g' szi (l x').length):CW l sz szi ⟨g.a,g.gs.set q.toNat (some g')⟩ (xs.set q.toNat x') (IntKind.wrap .i64 (q+1)).toNat N:=by
 obtain⟨h1,h2,h3⟩:=gA hx
 have hm:=ok.k.a.mx
 have hl:=ok.k.a.le
 have hw:(IntKind.wrap .i64 (q+1)).toNat=q.toNat+1:=by
  rw[IntKind.wrap_i64]; simp only[maxLen] at hm; omega
 have hk:q.toNat < g.gs.length:=by have:=ok.k.len; omega
 rw[hw]
 refine⟨(ok.k.setL hx g' hg).1,by rw[List.length_set]; exact ok.len,λj hj hj2=> ?_,λj hj=> ?_⟩
 ·simp only[MZ]
  rw[List.length_set] at hj2
  split
  ·exact nofun
  ·rename_i q1
   exact ok.pre j (by have:=ok.k.len; by_cases e:q.toNat=j <;> omega) hj2
 ·simp only[MZ]
  rw[if_neg (by omega)]
  exact ok.post j (by omega)
theorem CW.set {N:Nat} (ok:CW l sz szi g xs q.toNat N) (hx:Vm.ix xs q=some x) (e:l x'=l x):CW l sz szi g (xs.set q.toNat x') q.toNat N:=⟨(ok.k.set hx e).1,by rw[List.length_set]; exact ok.len,λj hj hj2=>ok.pre j hj (by rwa [List.length_set] at hj2),ok.post⟩
theorem CW.all {N:Nat} (ok:CW l sz szi g xs q.toNat N) (hq:decide (q < (N:Int))=false):mF l sz szi g xs:=by
 have hq:=of_decide_eq_false hq
 have hN:=ok.len
 refine⟨ok.k,λog ho=> ?_⟩
 obtain⟨j,hj,rfl⟩:=List.getElem_of_mem ho
 have hl:=ok.k.len
 have:=ok.pre j (by omega) (by omega)
 unfold gx at this
 rwa [List.getElem?_eq_getElem hj] at this
theorem toN {n:Nat} {f:FR} {cN:α×OG→List AV} {c:α→List AV} {tyo:TypeId} {a:cT} (hc:∀x,cN (x,none)=c x) (bl:List HL) (hL:iB bl=L) (i:Nat) (hi:bl[i]? =some [(a.t,.obj tyo (fl c xs a.sp))])
    (hL':iB (bl.set i [(a.t,.obj tyo (fl cN (zg xs (List.replicate xs.length none)) a.sp))]++ [kM ty ci (nl l (zg xs (List.replicate xs.length none)))])=L') (hk:bT h0 L):bT h0 L'∧i7 (fm n f.k) (hp h0 L') (fm n f.k) (hp h0 L):=by
  have e1:fl cN (zg xs (List.replicate xs.length none)) a.sp=fl c xs a.sp:=by
    unfold fl
    have:(zg xs (List.replicate xs.length none)).map cN=xs.map c:=by
      have h1:(zg xs (List.replicate xs.length none)).map cN=(zg xs (List.replicate xs.length none)).map (λy=>c y.1):=by
        refine List.map_congr_left λy hy=> ?_
        have h2:=(List.of_mem_zip hy).2
        rw[List.mem_replicate] at h2
        obtain⟨y1,y2⟩:=y
        simp only at h2
        rw[h2.2,hc]
      rw[h1,yY (by simp)]
    rw[this]
  have e2:bl.set i [(a.t,iI.obj tyo (fl c xs a.sp))]=bl:=by
    obtain⟨hi',he⟩:=List.getElem?_eq_some_iff.1 hi
    rw[← he]
    exact List.set_getElem_self hi'
  rw[e1,e2] at hL'
  subst hL hL'
  have key:∀zs:List (List β×OG),(∀z∈zs,z.2=none)→∀ {L:HL},bT h0 L→bT h0 (kM ty ci zs++L)∧hp h0 (kM ty ci zs++L)=hp h0 L:=by
    intro zs
    induction zs with
    | nil=>intro _ L hk; exact⟨hk,rfl⟩
    | cons z zs ih=>
      intro hz L hk
      obtain⟨k1,k2⟩:=ih (λz hz'=>hz z (List.mem_cons_of_mem _ hz')) hk
      have h1:oT z.2=none:=by rw[hz z List.mem_cons_self]; rfl
      show bT h0 ((oT z.2,_)::(kM ty ci zs++L))∧hp h0 ((oT z.2,_)::(kM ty ci zs++L))=_
      rw[h1]
      exact⟨⟨k1,nofun⟩,k2⟩
  have hz:∀z∈nl l (zg xs (List.replicate xs.length none)),z.2=none:=by
    intro z hz
    obtain⟨y,hy,rfl⟩:=List.mem_map.1 hz
    have h2:=(List.of_mem_zip hy).2
    rw[List.mem_replicate] at h2
    exact h2.2
  obtain⟨k1,k2⟩:=key _ hz hk
  have p:(kM ty ci (nl l (zg xs (List.replicate xs.length none)))++iB bl).Perm (iB (bl++ [kM ty ci (nl l (zg xs (List.replicate xs.length none)))])):=by
    rw[gK,gK,List.flatten_append]
    simp only[List.flatten_cons,List.flatten_nil,List.append_nil]
    exact List.perm_append_comm
  obtain⟨k3,k4⟩:=gZ p k1
  exact⟨k4,i7.eqh (k2.symm.trans k3)⟩
theorem M0 {n:Nat} {f:FR} (bl:List HL) (hL:iB bl=L) (b:Nat) {zs:List (List β×OG)} (j:Nat) (hb:bl[b]? =some (kM ty ci zs)) (hL':iB (bl.set b (kM ty ci (zs.eraseIdx j)))=L') (hk:bT h0 L):bT h0 L'∧i7 (fm n f.k) (hp h0 L') (fm n f.k) (hp h0 L):=by
 subst hL hL'
 obtain⟨e1,k1⟩:=gZ (oZ hb) hk
 have hs:(kM ty ci (zs.eraseIdx j)++(bl.eraseIdx b).flatten).Sublist (kM ty ci zs++(bl.eraseIdx b).flatten):=((List.eraseIdx_sublist zs j).map _).append_right _
 obtain⟨s1,k2⟩:=aT hs k1
 obtain⟨e2,k3⟩:=gZ (p7 (kM ty ci (zs.eraseIdx j)) hb).symm k2
 refine⟨k3,i7.of ?_ (cW.refl _ _)⟩
 rw[e1,← e2]
 exact s1
end
theorem UO {P:Program} {h:aE} {n:Nat} {τ σ ρ:Type} {id:Nat} {c:Code} {kn:FR→HL→Prop} {ke:Exit→FR→HL→Prop} {f:FR} {L:HL} {step:σ→Option (Lp σ ρ)} {fuel:Nat} {s0:σ} {k:σ→Option ρ} {o:ρ} (hm:after (aU step fuel s0) k=some o)
    (Lg:τ→σ→HL) (J JB:τ→σ→Prop) (sl:τ→σ→FR) (g0:τ) (i0:J g0 s0) (h0:LX h n f L (sl g0 s0) (Lg g0 s0))
    (round:∀g s x,J g s→step s=some x→VC P h n c (GN h n J sl Lg .go x) (GE h n JB sl Lg (some id) ke o x) (sl g s) (Lg g s))
    (next:∀g s,JB g s→k s=some o→kn (sl g s) (Lg g s)):VC P h n (.block id (.loop c)) kn ke f L:=by
  refine⟨λhkL=>xK ?_⟩
  obtain⟨out,hout,hk⟩:∃out,aU step fuel s0=some out∧((∃s,out= .brk s∧k s=some o)∨∃r,out= .ret r∧r=o):=by
    cases e:aU step fuel s0 with
    | none=>rw[e] at hm; cases hm
    | some out=>
      rw[e] at hm
      cases out with
      | go s=>cases hm
      | brk s=>exact⟨_,rfl,.inl ⟨s,rfl,hm⟩⟩
      | ret r=>exact⟨_,rfl,.inr ⟨r,rfl,Option.some.inj hm⟩⟩
  obtain⟨hk1,le1⟩:=h0 hkL
  refine HW (λm fr' h'=>∃s,aU step m s=some out∧∃g,J g s∧bT h (Lg g s)∧i7 (fm n (sl g s).k) (hp h (Lg g s)) fr' h') fuel ⟨s0,hout,g0,i0,hk1,le1⟩ ?_
  rintro m fr' h' ⟨s,hs,g,hj,hk2,hle⟩
  cases m with
  | zero=>cases hs
  | succ m=>
    simp only[aU] at hs
    cases e:step s with
    | none=>rw[e] at hs; cases hs
    | some x=>
      rw[e] at hs
      refine hle.aw (((round g s x hj e).r hk2).mono ?_)
      rintro ex fr'' h'' ⟨f1,L1,hk3,le3,q⟩
      have fin:∀ {ex:Exit},GE h n JB sl Lg (some id) ke o x ex f1 L1→ex≠ .normal→(∃s',x= .brk s'∧ex= .exit id∧∃g',JB g' s'∧LX h n f1 L1 (sl g' s') (Lg g' s'))∨(ke ex f1 L1∧ex≠ .exit id):=by
        intro ex q hne
        cases q with
        | b i' hi he q=>
          cases hi
          obtain⟨s',g',e1,j',le4⟩:=q.g
          exact .inl ⟨s',e1,he,g',j',le4⟩
        | r y hx h1 h2 k2=>
          subst hx; cases hs
          rcases hk with⟨s2,e2,_⟩ | ⟨r',e2,e3⟩
          · cases e2
          · cases e2; exact .inr ⟨k2 e3,h2 id rfl⟩
      cases ex with
      | normal=>
        obtain⟨s',g',rfl,j',le4⟩:=q.g
        obtain⟨hk5,le5⟩:=le4.le hk3 le3
        exact⟨m,Nat.lt_succ_self m,s',hs,g',j',hk5,le5⟩
      | exit i=>
        rcases fin q nofun with⟨s',rfl,he,g',j',le4⟩ | ⟨hke,hne⟩
        · cases he
          obtain⟨hk5,le5⟩:=le4.le hk3 le3
          cases hs
          simp only[Seq,KO,if_true]
          rcases hk with⟨s2,e2,hk⟩ | ⟨r,e2,_⟩
          · cases e2; exact⟨_,_,hk5,le5,next _ _ j' hk⟩
          · cases e2
        · have:i≠id:=λe=>hne (by rw[e])
          simp only[Seq,KO,this,if_false]
          exact⟨_,_,hk3,le3,hke⟩
      | goto l=>
        rcases fin q nofun with⟨_,_,he,_⟩ | ⟨hke,_⟩
        · cases he
        · exact⟨_,_,hk3,le3,hke⟩
      | ret=>
        rcases fin q nofun with⟨_,_,he,_⟩ | ⟨hke,_⟩
        · cases he
        · exact⟨_,_,hk3,le3,hke⟩
      | panic c=>
        rcases fin q nofun with⟨_,_,he,_⟩ | ⟨hke,_⟩
        · cases he
        · exact⟨_,_,hk3,le3,hke⟩
      | outgrown=>
        rcases fin q nofun with⟨_,_,he,_⟩ | ⟨hke,_⟩
        · cases he
        · exact⟨_,_,hk3,le3,hke⟩
section
variable {P:Program}
theorem EZ (w:World) (dT sT ty e:TypeId) (i:TypeInfo) (hu:P.underlying dT=some (.slice e)) (hi:P.info? e=some i) (g o dLen dCap:Nat) (cur:Array Value) (hg:w.heap[g]? =some (.cells cur e (0,0)))
    (a:Addr) (sLen sCap:Nat) (cs:List Value) (hn:cs.length=min sLen dLen*i.size) (hsrc:∀j v,cs[j]? =some v→w.cell? (a.add j)=some v) (h1:∀v∈cs,v.oneCell'=true) (hfit:o+cs.length≤cur.size):
    (Builtin.copy_ #[dT,sT] ty #[.slice (some ⟨g,o,none⟩) dLen dCap,.slice (some a) sLen sCap]).run P w=
      .ok (goInt (min sLen dLen:Nat)) (w.setRow g (cur.toList.take o++cs++cur.toList.drop (o+cs.length)).toArray):=by
  have hf:=run_firstCells_some (P:=P) w i.size (min sLen dLen) a sLen sCap cs hn hsrc
  have hst:=run_storeCells_at P g o e cs 0 cur w hg (by simpa using hfit) h1
  simp only[Nat.add_zero] at hst
  have hm:Nat.min sLen dLen=min sLen dLen:=rfl
  simp[Builtin.copy_,run_underlying hu,Builtin.lenOf,sizeOf,typeInfo,hi,hm,hf,hst]
variable {ops:Array Oper} {h h0:aE} {L:HL} {n:Nat} {kvs:KV} {l:List Oper} {ty:TypeId} {pos:String} {dP:Array Edge}
def BC (h:aE) (x:AV) (m k:Nat) (cs:List AV):Prop:=∀E w v,fZ E h w→VR E w x v→∃a cap cv,v= .slice (some a) m cap∧cY E w cs cv∧(∀u∈cv,u.oneCell'=true)∧(∀j u,cv[j]? =some u→w.cell? (a.add j)=some u)
theorem BC.sl {tag:Option cB} {sz:Nat} {ys:List (List AV)} (hne:ys≠ []) (k:Nat):BC h (.sl tag sz ys) ys.length k ys.flatten:=by
 intro E w v r hv
 obtain⟨g,o,cap,cv,e,c1,c2,c3,c4⟩:=mU hv hne
 exact⟨_,cap,cv,e,c1,c2,λj u hj=>by rw[Addr.add_lit]; exact(c4 j u hj).1⟩
theorem BC.view {k:cB} {off m c:Nat} {cs:List AV} {e:TypeId} (hk:h k=some (.obj e cs)):BC h (.view k off m) m c ((cs.drop off).take c):=by
 intro E w v r hv
 simp only[VR] at hv
 obtain⟨g,cap,hg,rfl,h1,h2⟩:=hv
 obtain⟨g',cur,e1,e2,e3,e4⟩:=r.obj _ _ _ hk
 rw[hg] at e1; cases e1
 refine⟨_,cap,(cur.toList.drop off).take c,rfl,fO _ (iJ _ e3),λu hu=>e4 u (List.mem_of_mem_drop (List.mem_of_mem_take hu)),λj u hj=> ?_⟩
 rw[List.getElem?_take] at hj
 split at hj
 ·rw[List.getElem?_drop] at hj
  rw[Addr.add_lit]
  simp only[World.cell?,e2]
  simpa using hj
 ·cases hj
theorem M1 {K:AV→aE→Prop} {dst:Option Tmp} {d s:Operand} {dT sT e:TypeId} {sz b:Nat} (ht:kY P dT e sz b) {k:cB} {off n1 m:Nat} {cur cs:List AV} (hd:dK n kvs d= .view k off n1) (hk:h k=some (.obj e cur))
    (hs:BC h (dK n kvs s) m cs.length cs) (hl:cs.length=min m n1*sz) (hfit:off+cs.length≤cur.length)
    (hK:K .any (upd h k (some (.obj e (eB cur off cs))))):
    i6 P ⟨dst,.call { callee:=.builtin .copy,args:= #[d,s],argTypes:= #[dT,sT]},ty,pos,dP,none⟩ K (fm n kvs) h:=by
  obtain⟨i,z,hi,hz,rfl,rfl,hzs,hsp⟩:=ht.inf
  intro E w a r hv Nx Qx hn
  have vd:=hv d (by simp[Op.operands,Call.operands])
  have vs:=hv s (by simp[Op.operands,Call.operands])
  rw[bN] at vd vs
  rw[hd] at vd
  simp only[VR] at vd
  obtain⟨g,dc,hg,ed,d1,d2⟩:=vd
  obtain⟨sa,sc,cv,es,c1,c2,c3⟩:=hs E w _ r vs
  obtain⟨g',cu,f1,f2,f3,f4⟩:=r.obj _ _ _ hk
  rw[hg] at f1; cases f1
  have hlen:cur.length=cu.size:=by simpa using cZ f3
  have hcl:cs.length=cv.length:=cZ c1
  have hrun:=EZ (P:=P) w dT sT ty e i ht.ut hi g off n1 dc cu f2 sa m sc cv (by rw[← hcl]; exact hl) c3 c2 (by omega)
  have hv':cY E w (eB cur off cs) (cu.toList.take off++cv++cu.toList.drop (off+cv.length)):=by
    unfold eB
    rw[hcl]
    exact dA (dA (fO _ f3) c1) (iJ _ f3)
  have h1':∀u∈cu.toList.take off++cv++cu.toList.drop (off+cv.length),u.oneCell'=true:=by
    intro u hu
    rcases List.mem_append.1 hu with hu | hu
    · rcases List.mem_append.1 hu with hu | hu
      · exact f4 u (List.mem_of_mem_take hu)
      · exact c2 u hu
    · exact f4 u (List.mem_of_mem_drop hu)
  obtain⟨k1,k2⟩:=r.set_obj (cur:=(cu.toList.take off++cv++cu.toList.drop (off+cv.length)).toArray) hk hg
    (w':=w.setRow g (cu.toList.take off++cv++cu.toList.drop (off+cv.length)).toArray)
    (setRow_heap w g cu _ e _ f2) (λg' hg'=>setRow_other w g g' _ hg') (by simp) rfl rfl rfl (by simpa using hv') (by simpa using h1')
  unfold Oper.wp
  have hex:(execOp a.eval ⟨dst,.call { callee:=.builtin .copy,args:= #[d,s],argTypes:= #[dT,sT]},ty,pos,dP,none⟩).run P w= .ok (.value (goInt (min m n1:Nat))) (w.setRow g (cu.toList.take off++cv++cu.toList.drop (off+cv.length)).toArray):=by
    simp only[execOp,resolve,invoke,builtin,List.map_toArray,List.map_cons,List.map_nil,ed,es,Sem.run_bind,Sem.run_pure,Result.andThen_ok,hrun]
  rw[hex]
  exact hn .any _ _ E _ k1 k2 (by simp only[VR]) hK
theorem mB {K:AV→aE→Prop} {dst:Option Tmp} {d s:Operand} {dT sT e:TypeId} {sz b:Nat} (p:Nat) (ht:kY P dT e sz b) (hk:bT h0 L) {k:cB} {off n1 m:Nat} {cur cs:List AV} (hd:dK n kvs d= .view k off n1) (hi:L[p]? =some (some k,.obj e cur))
    (hs:BC (hp h0 L) (dK n kvs s) m cs.length cs) (hl:cs.length=min m n1*sz) (hfit:off+cs.length≤cur.length) (cur':List AV) (hc:eB cur off cs=cur')
    (hK:bT h0 (L.set p (some k,.obj e cur'))→K .any (hp h0 (L.set p (some k,.obj e cur')))):
    i6 P ⟨dst,.call { callee:=.builtin .copy,args:= #[d,s],argTypes:= #[dT,sT]},ty,pos,dP,none⟩ K (fm n kvs) (hp h0 L):=by
  subst hc
  obtain⟨h1,h2,_⟩:=jB (e':=.obj e (eB cur off cs)) p hk hi (.inl rfl)
  refine M1 ht hd (bB p hk hi) hs hl hfit ?_
  rw[h1]
  exact hK h2
theorem G6 {dst:Option Tmp} {s:Operand} {t e:TypeId} {k:cB} {m cap:Nat} (hu:P.underlying t=some (.slice e)) (ha:dK n kvs s= .vw k m cap):
    eO P ⟨dst,.call { callee:=.builtin .cap,args:= #[s],argTypes:= #[t]},ty,pos,dP,none⟩ (.sc (.int .i64 cap)) (fm n kvs) h:=by
  refine eC (x:=.sc (.int .i64 cap)) (λE w ac r hv=> ?_) ⟨rfl,rfl⟩
  have vs:=hv s (by simp[Op.operands,Call.operands])
  rw[bN,ha] at vs
  simp only[VR] at vs
  obtain⟨g,hg,es,h1,h2⟩:=vs
  refine⟨.int .i64 cap, ?_,by simp only[VR]⟩
  simp[execOp,resolve,invoke,builtin,es,Builtin.cap_,run_underlying hu,goInt]
theorem yZ {dst:Option Tmp} {s:Nat} {hi:Operand} {t:TypeId} {k:cB} {m cap sz:Nat} {q:IntKind} {i:Int} (h0':0≤i) (h1':i≤(cap:Int)) (ht:nM P t=some sz) (ha:dK n kvs (.tmp s)= .vw k m cap) (hb:dK n kvs hi= .sc (.int q i)):
    eO P ⟨dst,.slice t (.tmp s) none (some hi) none,ty,pos,dP,none⟩ (.vw k i.toNat cap) (fm n kvs) h:=by
  obtain⟨e,hu,he⟩:=fP ht
  refine eC (x:=.vw k i.toNat cap) (λE w ac r hv=> ?_) ⟨rfl,rfl⟩
  have va:=hv (.tmp s) (by simp[Op.operands])
  have vb:=hv hi (by simp[Op.operands])
  rw[bN,ha] at va; rw[bN,hb] at vb
  simp only[VR] at va vb
  obtain⟨g,hg,e1,e2,e3⟩:=va
  have hbd:=fU (P:=P) (w:=w) (sl:=true) (len:=m) (cap:=cap) (l:=0) (h:=i) (lo:=none) (hi:=some (.sc (.int q i))) (lv:=none) (hv:=some (.int q i)) rfl rfl (E:=E) nofun (λ_=>rfl)
    (λx hx=>by cases hx; exact⟨_,rfl,by simp only[VR]⟩) nofun (by omega) h0' (by omega)
  refine⟨.slice (some ⟨g,0,none⟩) i.toNat cap, ?_,by simp only[VR]; exact⟨g,hg,rfl,by omega,e3⟩⟩
  by_cases hz:cap=0
  · subst hz
    have hi0:i.toNat=0:=by omega
    simp[execOp,e1,vb,Instr.sliceAt,Instr.slice,run_underlying hu,hbd,cS he,hi0]
  · have:¬cap=(0:Int).toNat:=by simpa using hz
    simp[execOp,e1,vb,Instr.sliceAt,Instr.slice,run_underlying hu,hbd,cS he,hz,Addr.add]
theorem ZA {dst:Option Tmp} {s:Nat} {lo:Operand} {t:TypeId} {k:cB} {m cap sz:Nat} {q:IntKind} {i:Int} (h0':0≤i) (h1':i≤(m:Int)) (ht:nM P t=some sz) (ha:dK n kvs (.tmp s)= .vw k m cap) (hb:dK n kvs lo= .sc (.int q i)):
    eO P ⟨dst,.slice t (.tmp s) (some lo) none none,ty,pos,dP,none⟩ .any (fm n kvs) h:=by
  obtain⟨e,hu,he⟩:=fP ht
  refine eC (x:=.any) (λE w ac r hv=> ?_) ⟨rfl,rfl⟩
  have va:=hv (.tmp s) (by simp[Op.operands])
  have vb:=hv lo (by simp[Op.operands])
  rw[bN,ha] at va; rw[bN,hb] at vb
  simp only[VR] at va vb
  obtain⟨g,hg,e1,e2,e3⟩:=va
  have hbd:=fU (P:=P) (w:=w) (sl:=true) (len:=m) (cap:=cap) (l:=i) (h:=m) (lo:=some (.sc (.int q i))) (hi:=none) (lv:=some (.int q i)) (hv:=none) rfl rfl (E:=E) (λx hx=>by cases hx; exact⟨_,rfl,by simp only[VR]⟩) nofun
    nofun (λ_=>rfl) h0' h1' (by omega)
  refine⟨.slice (if cap=i.toNat then some ⟨g,0,none⟩ else some (Addr.add ⟨g,0,none⟩ (i.toNat*sz))) (m - i.toNat) (cap - i.toNat), ?_,by simp only[VR]⟩
  simp[execOp,e1,vb,Instr.sliceAt,Instr.slice,run_underlying hu,hbd,cS he]
theorem jQ {dst:Option Tmp} {s:Nat} {lo:Operand} {t:TypeId} {k:cB} {m cap sz:Nat} {q:IntKind} {i:Int} (h0':0≤i) (h1':i < (m:Int)) (ht:nM P t=some sz) (ha:lk n kvs s= .vw k m cap) (hb:dK n kvs lo= .sc (.int q i)):
    eO P ⟨dst,.slice t (.tmp s) (some lo) none none,ty,pos,dP,none⟩ (.view k (i.toNat*sz) (m - i.toNat)) (fm n kvs) h:=by
  have hT:DV P t=true:=by simp[DV,ht]
  refine sE (s:=s) (.view k 0 m) (by rw[ha]; exact B4 _ _ _ _) (kF (c:=0≤i∧i < (m:Int)∧(m:Int)≤m) ?_ ⟨h0',h1',by omega⟩)
  have e:dK n (kp kvs s (.view k 0 m)) (.tmp s)= .view k 0 m:=EB ha (by simp)
  have e2:dK n (kp kvs s (.view k 0 m)) lo= .sc (.int q i):=F5 ha (by simp) hb
  simp only[pv,bN,e,Option.map_some,e2,Option.map_none,BL,ht,Option.bind_some,pD,lO,hT,if_true,Nat.zero_add,Int.toNat_natCast]
theorem G7 {K:AV→aE→Prop} {dst:Option Tmp} {s x:Operand} {t tn e:TypeId} {sz b:Nat} {ik:IntKind} {zv:List Value} (p:Nat) (ht:kY P t e sz b) (htn:P.underlying tn=some (.int ik)) (hzr:uC P e=some zv) (hzo:zv.all (·.oneCell')=true) (hpos:0 < sz)
    (hk:bT h0 L) {k:cB} {i m cap:Nat} {cs:List AV} (ha:dK n kvs s= .vw k i cap) (hi:L[p]? =some (some k,.obj e cs)) (hx:dK n kvs x= .sc (.int ik (m:Int))) (hfull:cap < i+m) (hcs:i*sz≤cs.length) (hb:(i+m)*(b+1)≤140737488355328)
    (k2:∀(q:cB) (cap':Nat) (R:List AV),i+m≤cap'→cap'≤maxLen→i*sz+R.length=cap'*sz→bT h0 ((some q,.obj e (cs.take (i*sz)++R))::L)→K (.vw q (i+m) cap') (hp h0 ((some q,.obj e (cs.take (i*sz)++R))::L))):
    i6 P ⟨dst,.call { callee:=.builtin .append,args:= #[s,x],argTypes:= #[t,tn]},ty,pos,dP,none⟩ K (fm n kvs) (hp h0 L):=by
  obtain⟨ii,z,hii,hz,rfl,rfl,hzs,hsp⟩:=ht.inf
  have hzc:∀u∈z.cells.toList,u.oneCell'=true:=by
    have:zv=z.cells.toList:=by
      unfold uC at hzr
      rw[hii] at hzr
      simp only[Option.bind_some,hz,Option.map_some,Option.some.injEq] at hzr
      exact hzr.symm
    subst this
    exact λu hu=>List.all_eq_true.1 hzo u hu
  rw[Nat.mul_add,Nat.mul_one] at hb
  intro E w a r hv Nx Qx hn
  have vs:=hv s (by simp[Op.operands,Call.operands])
  have vx:=hv x (by simp[Op.operands,Call.operands])
  rw[bN] at vs vx
  rw[ha] at vs; rw[hx] at vx
  simp only[VR] at vs vx
  obtain⟨g,hg,es,h1,h2⟩:=vs
  obtain⟨g',cur,f1,f2,f3,f4⟩:=r.obj _ _ _ (bB p hk hi)
  rw[hg] at f1; cases f1
  have hlen:cs.length=cur.size:=by simpa using cZ f3
  have htl:(cur.toList.take (i*ii.size)).length=i*ii.size:=by
    rw[List.length_take]
    have:cur.toList.length=cur.size:=by simp
    omega
  have hold:∀j u,(cur.toList.take (i*ii.size))[j]? =some u→w.drew.cell? ((⟨g,0,none⟩:Addr).add j)=some u:=by
    intro j u hj
    rw[Addr.add_lit,Nat.zero_add]
    rw[List.getElem?_take] at hj
    split at hj
    · show w.cell? ⟨g,j,none⟩=some u
      simp only[World.cell?,f2]
      simpa using hj
    · cases hj
  have hf:=run_firstCells_some (P:=P) w.drew ii.size i ⟨g,0,none⟩ i cap (cur.toList.take (i*ii.size)) htl hold
  have hm0:0 < m:=by omega
  have hw:IntKind.i64.wrap (m:Int)=m:=by rw[IntKind.wrap_i64]; omega
  have hnn:¬((m:Int) < 0):=by omega
  have hfit:Builtin.nextslicecap (i+m) cap*ii.bytes≤281474976710656:=growslice_fits (by omega) (by omega)
  have hmb:¬(281474976710656 < (m:Int)*(ii.bytes:Int)):=by
    rw[← Int.natCast_mul]
    have:m*ii.bytes≤(i+m)*ii.bytes:=Nat.mul_le_mul_right _ (by omega)
    omega
  have hnr:¬(i+m≤cap):=by omega
  have h63:¬(9223372036854775807 < (i:Int)+(m:Int)):=by omega
  have hnf:¬(281474976710656 < Builtin.nextslicecap (i+m) cap*ii.bytes):=by omega
  have hns:¬(m*ii.size=0):=Nat.mul_ne_zero (by omega) (by omega)
  have hm00:m≠0:=by omega
  have hsz0:ii.size≠0:=by omega
  have hrun:(Builtin.append_ #[t,tn] ty #[.slice (some ⟨g,0,none⟩) i cap,.int ik m]).run P w=
      .ok (.slice (some ⟨w.heap.size,0,none⟩) (i+m) (grownCap w (i+m) cap e)) (w.drew.alloc (.cells ((cur.toList.take (i*ii.size)).toArray++Builtin.zeroCells z.cells m++Builtin.zeroCells z.cells (grownCap w (i+m) cap e - (i+m))) e)):=by
    simp[Builtin.append_,run_underlying ht.ut,run_underlying htn,sizeOf,typeInfo,zeroValue,hii,hz,asInt,asIntOf,hw,hnn,hmb,hnr,h63,hnf,hns,hm00,hsz0,Question.forced,hf,newRow,grownCap]
  have hge:=grownCap_ge w (i+m) cap e
  have hcm:grownCap w (i+m) cap e≤maxLen:=grownCap_le_maxLen w (i+m) cap e (by simp only[maxLen]; omega)
  generalize hgc:grownCap w (i+m) cap e=gc at hge hcm hrun
  obtain⟨rd,kd⟩:=r.drewn (w.drawn+1)
  have rd':fZ E (hp h0 L) w.drew:=rd
  obtain⟨nn,hE1⟩:=rd'.fresh 0
  have hlz:∀q,(Builtin.zeroCells z.cells q).toList.length=q*ii.size:=λq=>by rw[Array.length_toList,size_zeroCells,hzs]
  have hvl:cY E w.drew (cs.take (i*ii.size)++List.replicate ((Builtin.zeroCells z.cells m).toList.length+(Builtin.zeroCells z.cells (gc - (i+m))).toList.length) AV.any) ((cur.toList.take (i*ii.size)).toArray++Builtin.zeroCells z.cells m++Builtin.zeroCells z.cells (gc - (i+m))).toList:=by
    rw[Array.toList_append,Array.toList_append,List.append_assoc]
    exact dA (cQ kd _ _ (fO _ f3)) (rX _ (by rw[List.length_append]))
  obtain⟨E',e1,e2,e3⟩:=fZ.new_obj (w:=w.drew) rd' hE1 e hvl (by
    intro v hv
    rw[Array.toList_append,Array.toList_append] at hv
    rcases List.mem_append.1 hv with hv | hv
    · rcases List.mem_append.1 hv with hv | hv
      · exact f4 v (List.mem_of_mem_take (by simpa using hv))
      · exact jX hzc v hv
    · exact jX hzc v hv)
  unfold Oper.wp
  have hex:(execOp a.eval ⟨dst,.call { callee:=.builtin .append,args:= #[s,x],argTypes:= #[t,tn]},ty,pos,dP,none⟩).run P w= .ok (.value (.slice (some ⟨w.heap.size,0,none⟩) (i+m) gc)) (w.drew.alloc (.cells ((cur.toList.take (i*ii.size)).toArray++Builtin.zeroCells z.cells m++Builtin.zeroCells z.cells (gc - (i+m))) e)):=by
    simp only[execOp,resolve,invoke,builtin,List.map_toArray,List.map_cons,List.map_nil,es,vx,Sem.run_bind,Sem.run_pure,Result.andThen_ok,hrun]
  rw[hex]
  have hno:hp h0 L (0,nn)=none:=by
    cases hh:hp h0 L (0,nn) with
    | none=>rfl
    | some en=>exact absurd (r.hus _ _ hh) hE1
  have hkk:=k2 (0,nn) gc (List.replicate ((Builtin.zeroCells z.cells m).toList.length+(Builtin.zeroCells z.cells (gc - (i+m))).toList.length) AV.any) hge hcm (by
    rw[List.length_replicate,hlz,hlz,← Nat.add_mul,← Nat.add_mul]
    congr 1; omega) ⟨hk,λk e=>by cases e; exact hno⟩
  refine hn (.vw (0,nn) (i+m) gc) _ _ E' _ (kd.trans e2) e3 ?_ hkk
  simp only[VR]
  exact⟨_,e1,rfl,hge,hcm⟩
theorem o5 {K : AV → aE → Prop} {dst : Option Tmp} {x y : Operand} {ts : Array TypeId} {f : FuncId} {fn : Func} {tS tR e : TypeId} {sz : Nat} (hf : P.funcs[f]? = some fn) (hname : (fn.name == "runtime.NumGoroutine") = false)
    (hb:fn.body.isNone=true) (hn':Extern.findNext fn=none) (he:Extern.find fn=some (Extern.SlicesOverlaps.overlaps #[tS,tS] #[tR])) {b:Nat} (het:kY P tS e sz b) {ys:List (List AV)} (hne:ys≠ []) {k:cB} {off m:Nat} {cs:List AV} {ty2:TypeId}
    (hsz:0 < sz) (hx:dK n kvs x= .sl none sz ys) (hy:dK n kvs y= .view k off m) (hk:h k=some (.obj ty2 cs)) (hcs:0 < cs.length) (k1:K (.sc (.bool false)) h):
    i6 P ⟨dst,.call { callee:=.value (.func f),args:= #[x,y],argTypes:=ts},ty,pos,dP,none⟩ K (fm n kvs) h:=by
  obtain⟨ii,z,hii, -, -, -, -, -⟩:=het.inf
  have ht:=het.ut
  refine eC (x:=.sc (.bool false)) (λE w a r hv=> ?_) k1
  have vx:=hv x (by simp[Op.operands,Call.operands])
  have vy:=hv y (by simp[Op.operands,Call.operands])
  rw[bN] at vx vy
  rw[hx] at vx; rw[hy] at vy
  have hall:∀z∈ys,z.length=sz:=by
    have:=vx
    simp only[VR] at this
    obtain⟨_,_,_,_,_,_,h4,_⟩:=this
    exact h4
  obtain⟨gb,o,cap,cv,ex,c1,c2,c3,c4⟩:=mU vx hne
  simp only[VR] at vx vy
  obtain⟨g,yc,hg,ey,y1,y2⟩:=vy
  obtain⟨a0,cap0,ea, -, -,h3, -, -⟩:=vx
  obtain⟨g',cur,f1,f2,f3,f4⟩:=r.obj _ _ _ hk
  rw[hg] at f1; cases f1
  have hlen:cs.length=cur.size:=by simpa using cZ f3
  have hcl:0 < cv.length:=by
    rw[c3]
    exact Nat.mul_pos (List.length_pos_iff.2 hne) hsz
  obtain⟨u,hu⟩:∃u,cv[0]? =some u:=⟨cv[0],List.getElem?_eq_getElem hcl⟩
  obtain⟨hc0,hp0⟩:=c4 0 u hu
  rw[Nat.add_zero] at hc0
  have himm:E.imm gb o:=by
    rcases hp0 with h5 | ⟨kk,t,h5,_⟩
    · simpa using h5
    · cases h5
  have hbne:gb≠g:=λq=>(r.dis k g (.inl ⟨_,rfl,hk,hg⟩)).2 o (q ▸ himm)
  have hb1:(gb !=g)=true:=by simpa using hbne
  have hb2:(gb==g)=false:=by simpa using hbne
  obtain⟨bs,bt,bz,hblk⟩:∃cells ty fz,w.heap[gb]? =some (.cells cells ty fz):=by
    cases hh:w.heap[gb]? with
    | none=>simp[World.cell?,hh] at hc0
    | some ob=>cases ob with
      | cells a b c=>exact⟨a,b,c,rfl⟩
      | _=>simp[World.cell?,hh] at hc0
  have hsa:w.shape? gb=some (bt,bs.size):=by simp[World.shape?,hblk]
  have hsb:w.shape? g=some (ty2,cur.size):=by simp[World.shape?,f2]
  have hfb:∀off,w.frozen? ⟨g,off,none⟩=false:=λoff=>by simp[World.frozen?,f2]
  have hcz:cur.size≠0:=by omega
  have hbz:bs.size≠0:=by
    intro hz
    have:bs= #[]:=by simpa using hz
    rw[this] at hblk
    simp[World.cell?,hblk] at hc0
  have hrun:(Extern.SlicesOverlaps.overlaps #[tS,tS] #[tR] #[.slice (some ⟨gb,o,none⟩) ys.length cap,.slice (some ⟨g,off,none⟩) m yc]).run P w= .ok (.bool false) w:=by
    refine (Sem.run_bind (x:=underlying tS) ..).trans ?_
    rw [run_underlying ht]
    simp only [Result.andThen_ok]
    have hsz':(sizeOf e).run P w= .ok ii.size w:=by simp[sizeOf,typeInfo,hii]
    by_cases hz:ys.length=0∨m=0∨ii.size=0
    · rcases hz with hz | hz | hz
      · exact absurd (List.length_eq_zero_iff.1 hz) hne
      · simp[run_underlying ht,hsz',hz]
      · simp[run_underlying ht,hsz',hz]
    · cases hsc:cur.size with
      | zero=>exact absurd hsc hcz
      | succ q=>
        cases hbc:bs.size with
        | zero=>exact absurd hbc hbz
        | succ q2=>
        rw[hsc] at hsb
        rw[hbc] at hsa
        simp[run_underlying ht,hsz',hz,hb1,hb2,frozen,noView,viewAt,mayBeOne,stringish,shape,Sem.run,hsa,hsb,hfb]
  refine⟨.bool false, ?_,by simp only[VR]⟩
  rw[ex] at ea
  have hfu:a.eval (.func f)= .func (.func f) #[] #[]:=rfl
  simp only[execOp,resolve,hfu,Deferred.ofValue,invoke,List.map_toArray,List.map_cons,List.map_nil,Sem.run_bind,Sem.run_pure,Result.andThen_ok,ex,ey]
  simp[run_callFunc_extern hf hname hb hn' he,hrun]
end
section
variable {α:Type} {c:α→List AV} {sz:Nat}
def pM (xs:List α) (i:Int) (x:α):Option (List α):=if 0≤i∧i≤(xs.length:Int)∧xs.length < 1000000000 then some (xs.take i.toNat++x::xs.drop i.toNat) else none
theorem lI {xs o:List α} {i:Int} {x:α} (h:pM xs i x=some o):0≤i∧i≤(xs.length:Int)∧xs.length < 1000000000∧o=xs.take i.toNat++x::xs.drop i.toNat:=by
 unfold pM at h
 split at h
 ·rename_i q; cases h; exact⟨q.1,q.2.1,q.2.2,rfl⟩
 ·cases h
theorem CX {xs:List α} {x:α} (h:xs.length < 1000000000):app xs [x]=some (xs++ [x]):=by
 unfold app
 rw[if_pos (by simp only[List.length_append,List.length_singleton]; omega)]
theorem G8 {P:Program} {n:Nat} {kvs:KV} {h:aE} {ty:TypeId} {pos:String} {dP:Array Edge} {dst:Option Tmp} {s:Nat} {lo:Operand} {t:TypeId} {g:cT} {m:Nat} {q:IntKind} {i:Int} (h0':0≤i) (h1':i≤(m:Int)) (ok:bI g sz m) (ht:nM P t=some sz) (ha:dK n kvs (.tmp s)=aw g.t g.n g.cap) (hb:dK n kvs lo= .sc (.int q i)):
    eO P ⟨dst,.slice t (.tmp s) (some lo) none none,ty,pos,dP,none⟩ .any (fm n kvs) h:=by
  rw[ok.eqn] at ha
  cases ht':g.t with
  | some k=>rw[ht'] at ha; exact ZA h0' h1' ht ha hb
  | none=>
    rw[ht'] at ha
    have:=ok.nil ht'
    have hi0:i=0:=by omega
    subst hi0
    have hT:DV P t=true:=by simp[DV,ht]
    have ha:dK n kvs (.tmp s)= .e0:=ha
    refine fB (x:=.e0) (kF (c:=(0:Int)=0∧(0:Int)=0) ?_ ⟨rfl,rfl⟩) (λ_ _ _ _ _=>by simp only[VR])
    simp only[pv,bN,ha,Option.map_some,hb,Option.map_none,BL,ht,Option.bind_some,pD,lO,hT,if_true]
theorem oA (hc:∀y,(c y).length=sz) {xs:List α} {i:Nat} (hi:i≤xs.length) (sp:List AV):
    fl c xs sp=((xs.take i).map c).flatten++(((xs.drop i).map c).flatten++sp)∧((xs.take i).map c).flatten.length=i*sz∧((xs.drop i).map c).flatten.length=(xs.length - i)*sz∧
      ∀(x:α) (sp':List AV),fl c (xs.take i++x::xs.drop i) sp'=((xs.take i).map c).flatten++(c x++(((xs.drop i).map c).flatten++sp')):=by
  refine⟨?_, ?_, ?_,λx sp'=> ?_⟩
  · unfold fl
    rw[← List.append_assoc,← List.flatten_append,← List.map_append,List.take_append_drop]
  · rw[jF hc,List.length_take]; congr 1; omega
  · rw[jF hc,List.length_drop]
  · unfold fl
    simp[List.map_append,List.flatten_append]
theorem fX {A B B' C:List AV} {n:Nat} (hn:A.length=n) (hb:B.length=B'.length):eB (A++(B++C)) n B'=A++(B'++C):=by
 subst hn
 unfold eB
 rw[List.take_left,← hb,← List.append_assoc A B C,show A.length+B.length=(A++B).length from by simp,List.drop_left]
 simp
end
section
variable {α β:Type} {l:α→List β} {sz szi:Nat} {ty:TypeId} {ci:β→List AV} {h0:aE} {L L':HL}
def lT (gs:List OG) (i:Nat) (og:OG):List OG:=gs.take i++og::gs.drop i
theorem E2 {γ δ:Type}:∀(i:Nat) (xs:List γ) (gs:List δ),(xs.take i).zip (gs.take i)=(xs.zip gs).take i
 | 0,_,_=>by simp
 | i+1, [],_=>by simp
 | i+1,_::_, []=>by simp
 | i+1,x::xs,g::gs=>by simp[E2 i xs gs]
theorem E3 {γ δ:Type}:∀(i:Nat) (xs:List γ) (gs:List δ),(xs.drop i).zip (gs.drop i)=(xs.zip gs).drop i
 | 0,_,_=>by simp
 | i+1, [],_=>by simp
 | i+1,_::_, []=>by simp
 | i+1,x::xs,g::gs=>by simp[E3 i xs gs]
theorem IK {xs:List α} {gs:List OG} (hl:gs.length=xs.length) (i:Nat) (x:α) (og:OG):zg (xs.take i++x::xs.drop i) (lT gs i og)=(zg xs gs).take i++(x,og)::(zg xs gs).drop i:=by
 unfold zg lT
 rw[List.zip_append (by simp[hl]),List.zip_cons_cons,E2,E3]
theorem QE {xs y:List α} {gs:List OG} (hl:gs.length=xs.length) {i:Int} {x:α} (og:OG) (h:pM xs i x=some y):pM (zg xs gs) i (x,og)=some (zg y (lT gs i.toNat og)):=by
 obtain⟨h1,h2,h3,rfl⟩:=lI h
 unfold pM
 rw[vO hl,if_pos ⟨h1,h2,h3⟩,IK hl]
theorem M2 {xs y:List α} {gs:List OG} (hl:gs.length=xs.length) {i:Int} {x:α} (og:OG) (h:pM xs i x=some y):(nl l (zg y (lT gs i.toNat og))).Perm ((l x,og)::nl l (zg xs gs)):=by
 obtain⟨h1,h2,h3,rfl⟩:=lI h
 rw[IK hl]
 unfold nl
 rw[List.map_append,List.map_cons]
 refine List.perm_middle.trans (List.Perm.cons _ ?_)
 rw[← List.map_append,List.take_append_drop]
theorem M3 {xs y:List α} {i:Int} {x:α} (h:pM xs i x=some y):y.length=xs.length+1:=by
 obtain⟨h1,h2,h3,rfl⟩:=lI h
 simp only[List.length_append,List.length_take,List.length_cons,List.length_drop]
 omega
theorem tE.ins {g:dH} {xs y:List α} (ok:tE l sz szi g xs) {i:Int} {x:α} (h:pM xs i x=some y) (hx:l x= []) {g':cT} (og:OG) (hog:∀g2,og=some g2→bI g2 szi 0) (ok':bI g' sz (zg y (lT g.gs i.toNat og)).length):tE l sz szi ⟨g',lT g.gs i.toNat og⟩ y:=by
 obtain⟨h1,h2,h3,e⟩:=lI h
 have hl:(lT g.gs i.toNat og).length=y.length:=by
  rw[M3 h,lT]
  have:=ok.len
  simp only[List.length_append,List.length_take,List.length_cons,List.length_drop]
  omega
 refine⟨by rw[vO hl] at ok'; exact ok',hl,λz hz g2 hg2=> ?_⟩
 have hz2:=(M2 (l:=l) ok.len og h).mem_iff.1 hz
 rcases List.mem_cons.1 hz2 with rfl | hz2
 ·simp only[hx]
  exact hog g2 hg2
 ·exact ok.el z hz2 g2 hg2
theorem mF.ins {g:dH} {xs y:List α} (ok:mF l sz szi g xs) {i:Int} {x:α} (h:pM xs i x=some y) (hx:l x= []) {g':cT} (ok':bI g' sz (zg y (lT g.gs i.toNat (some g0))).length):mF l sz szi ⟨g',lT g.gs i.toNat (some g0)⟩ y:=
 ⟨ok.k.ins h hx (some g0) (λg2 e=>by cases e; exact bI.g0 szi) ok',λog ho=>by
  unfold lT at ho
  rcases List.mem_append.1 ho with ho | ho
  ·exact ok.own og (List.mem_of_mem_take ho)
  ·rcases List.mem_cons.1 ho with rfl | ho
   ·exact nofun
   ·exact ok.own og (List.mem_of_mem_drop ho)⟩
theorem QF (hk:bT h0 L) (bl:List HL) (hL:iB bl=L) (b:Nat) {xs y:List α} {gs:List OG} (hl:gs.length=xs.length) {i:Int} {x:α} {og:OG} (hog:oT og=none) (h:pM xs i x=some y) (hb:bl[b]? =some (kM ty ci (nl l (zg xs gs))))
    (hL':iB (bl.set b (kM ty ci (nl l (zg y (lT gs i.toNat og)))))=L'):hp h0 L=hp h0 L'∧bT h0 L':=by
  subst hL hL'
  have p:(kM ty ci (nl l (zg y (lT gs i.toNat og)))).Perm ((none,.obj ty (fl ci (l x) (oS og)))::kM ty ci (nl l (zg xs gs))):=by
    have:=(M2 (l:=l) hl og h).map λz:List β×OG=>(oT z.2,iI.obj ty (fl ci z.1 (oS z.2)))
    simp only[List.map_cons,hog] at this
    exact this
  obtain⟨e1,k1⟩:=gZ (oZ hb) hk
  have k2:bT h0 ((none,iI.obj ty (fl ci (l x) (oS og)))::(kM ty ci (nl l (zg xs gs))++(bl.eraseIdx b).flatten)):=⟨k1,nofun⟩
  obtain⟨e3,k3⟩:=gZ ((p.append_right _).symm.trans (p7 _ hb).symm) k2
  exact⟨e1.trans e3,k3⟩
end
end Go.Vm
namespace Go.Proofs.YtbbifdfldpfphaaGreat
open Go.Vm
def jI (y:aB×OG):List AV:=bL y.1.Id++([.sc (.bool y.1.Staged),.sl none 1 (List.map dF y.1.Data),awO aN 4 y.2 y.1.Locs]:List AV)
theorem iP:∀y,(jI y).length=35:=λy=>by first | rfl | simp[jI,bL,bO.len]
theorem E4:∀(H:aE) (y:aB×OG),Br H (awO aN 4 y.2 y.1.Locs) (.sl none 4 (y.1.Locs.map aN))→uD H (jI y) (aI y.1):=λH y b=>uD.app 32 rfl (.cons (Br.refl _ _) (.cons (Br.refl _ _) (.cons b .nil)))
theorem oB:∀(H H':aE) (y:aB×OG),Fz H H' (awO aN 4 y.2 y.1.Locs) (.sl none 4 (y.1.Locs.map aN))→pN H H' (jI y) (aI y.1):=λH H' y b=>pN.app 32 rfl (.cons (Fz.refl _ _ _) (.cons (Fz.refl _ _ _) (.cons b .nil)))
def kT (y:aH×OG):List AV:= [.sc (.int .i64 y.1.Seq),.sc (.string y.1.Man.Name),.sl none 3 (List.map bX y.1.Man.Parts),awO aN 4 y.2 y.1.Locs]
theorem kU:∀y,(kT y).length=4:=λy=>by first | rfl | simp[kT,bL,bO.len]
theorem qP:∀(H H':aE) (y:aH×OG),Fz H H' (awO aN 4 y.2 y.1.Locs) (.sl none 4 (y.1.Locs.map aN))→pN H H' (kT y) (bS y.1):=λH H' y b=>.cons (Fz.refl _ _ _) (.cons (Fz.refl _ _ _) (.cons (Fz.refl _ _ _) (.cons b .nil)))
def lJ (y:aQ×OG):List AV:= [.sc (.int .i64 y.1.Seq),.sc (.int .i64 y.1.Of),awO aN 4 y.2 y.1.Locs]
theorem o6:∀y,(lJ y).length=3:=λy=>by first | rfl | simp[lJ,bL,bO.len]
theorem UP:∀(H:aE) (y:aQ×OG),Br H (awO aN 4 y.2 y.1.Locs) (.sl none 4 (y.1.Locs.map aN))→uD H (lJ y) (cP y.1):=λH y b=>.cons (Br.refl _ _) (.cons (Br.refl _ _) (.cons b .nil))
theorem vQ:∀(H H':aE) (y:aQ×OG),Fz H H' (awO aN 4 y.2 y.1.Locs) (.sl none 4 (y.1.Locs.map aN))→pN H H' (lJ y) (cP y.1):=λH H' y b=>.cons (Fz.refl _ _ _) (.cons (Fz.refl _ _ _) (.cons b .nil))
abbrev aV (g:cT) (e:List aB):Option cB×iI:=(g.t,.obj 44 (fl aI e g.sp))
abbrev aW (g:dH) (e:List aB):Option cB×iI:=(g.a.t,.obj 44 (fl jI (zg e g.gs) g.a.sp))
abbrev a9 (g:dH) (e:List aB):HL:=kM 81 aN (nl aB.Locs (zg e g.gs))
abbrev aM (g:cT) (e:List aP):Option cB×iI:=(g.t,.obj 49 (fl dC e g.sp))
abbrev bD (g:cT) (e:List aH):Option cB×iI:=(g.t,.obj 60 (fl bS e g.sp))
abbrev bM (g:dH) (e:List aH):Option cB×iI:=(g.a.t,.obj 60 (fl kT (zg e g.gs) g.a.sp))
abbrev bP (g:dH) (e:List aH):HL:=kM 81 aN (nl aH.Locs (zg e g.gs))
abbrev fJ (g:cT) (e:List a8):Option cB×iI:=(g.t,.obj 81 (fl aN e g.sp))
abbrev bV (g:cT) (e:List aQ):Option cB×iI:=(g.t,.obj 99 (fl cP e g.sp))
abbrev bQ (g:dH) (e:List aQ):Option cB×iI:=(g.a.t,.obj 99 (fl lJ (zg e g.gs) g.a.sp))
abbrev bR (g:dH) (e:List aQ):HL:=kM 81 aN (nl aQ.Locs (zg e g.gs))
abbrev OC (k:cB) (q:Int) (a b c d:cT):Option cB×iI:=(some k,.obj 30 [.sc (.int .i64 q),aw a.t a.n a.cap,aw b.t b.n b.cap,aw c.t c.n c.cap,aw d.t d.n d.cap])
open Go.Vm
def lU {α:Type} (m:Nat) (p0:List α) (p1:α→Option Bool) (q0:Int):Option (Lp (Int) (Int)):=
 if (decide (q0 < (p0.length:Int)))=true then ((ix p0 q0).bind λx0=>(p1 x0).bind λy0=>if y0=true then (some (.ret q0)) else some (.go (IntKind.wrap .i64 (q0+1)))) else some (.brk q0)
def p8 {α:Type} (m:Nat) (p0:List α) (p1:α→Option Bool):Option (Int):=
 after (aU (λs=>lU m p0 p1 s) m 0) λr0=>some (-1)
theorem ZB {α:Type} {c:α→List AV} (cz:∀y,(c y).length=4) {w:Nat} {p0:List α} {p1:α→Option Bool} {o:Int} (h:aE) {g_p0:cT} (ok_p0:bI g_p0 4 p0.length) (K0:bT h [(g_p0.t,.obj 60 (fl c (p0:List α) g_p0.sp))]) {p1F:Nat} {p1C:List AV} (p1B:aO Tryz.prog p1F=true) (p1H:∀x0 o h0,iD h h0→p1 x0=some o→aL Tryz.prog p1F ([.agg (c x0)]++p1C) h0 (λr h'=>r= .sc (.bool o)∧h'=h0)) (m:p8 w p0 p1=some o):
 aL Tryz.prog 103 [aZ g_p0,.fn (.func p1F) p1C] (hp h [(g_p0.t,.obj 60 (fl c (p0:List α) g_p0.sp))]) (λr h'=>r=nZ o∧h'=hp h [(g_p0.t,.obj 60 (fl c (p0:List α) g_p0.sp))]):=by
 refine uE K0 19 [.tmp 4] Tryz.func103 rfl rfl rfl rfl ?_
 unfold p8 at m
 refine vs (v0 (vs (vs (v0 (bU (dQ jZ ok_p0 rfl) ?_)))))
 refine jY m (σ:=Int) (λs=> [(g_p0.t,.obj 60 (fl c (p0:List α) g_p0.sp))]) (λs=>.c 0 (aZ g_p0) (.c 1 (.fn (.func p1F) p1C) (.c 7 (nZ (p0.length:Int)) (.c 8 (nZ s) .nil)))) (lx (.k4 .nil)) ?_ ?_
 rintro _ q0 x m
 replace m:lU w p0 p1 q0=some x:=m
 unfold lU at m
 refine vs (v0 (vs (v0 ?_)))
 apply vi m <;> intro c0 m
 refine v0 (vs (v0 (vs (v0 (vs (v0 ?_))))))
 obtain⟨x1,X0,m⟩:=aC m
 refine bU (cM X0 iU ok_p0 rfl rfl) (vn (λu=>dX (fo:=0) (.agg (c x1)) X0 cz ok_p0 uY rfl (aJ 0 u rfl) (λ_=>QD (cz _))) ?_)
 obtain⟨_,Y0,m⟩:=aC m
 refine vn (λu=>bY (p1H _ _ _ (aT (List.nil_sublist _) u).1 Y0) rfl p1B rfl) (v0 ?_)
 apply vi m <;> intro c1 m
 refine vs (v0 (v0 ?_))
 refine gM m λm=> ?_
 obtain rfl:=eT m
 exact vr λu=>dW.of1 (.inl rfl) (fT _ _ (.sc (.int _ _)) rfl) (bE u [0] rfl).2 (bF.refl _ _) ⟨rfl,rfl⟩
 refine v0 (v0 ?_)
 exact iE m
 refine v0 ?_
 exact wW m
 rintro _ r0 m
 refine vs (v0 (v0 ?_))
 cases m
 exact vr λu=>dW.of1 (.inl rfl) (fT _ _ (.sc (.int _ _)) rfl) (bE u [0] rfl).2 (bF.refl _ _) ⟨rfl,rfl⟩
theorem J5 {m:Nat} {α β:Type} (f:α→β) (xs:List α) (p:β→Option Bool):p8 m (xs.map f) p=p8 m xs (λx=>p (f x)):=by
 have h1:lU m (xs.map f) p=lU m xs (λx=>p (f x)):=by
   funext s; unfold lU; rw[List.length_map,UK]; cases ix xs s <;> rfl
 unfold p8
 simp only[h1]
theorem M4 {m:Nat} {α:Type} {xs:List α} {gs:List OG} (hl:gs.length=xs.length) {p:α→Option Bool} {o:Int} (h:p8 m xs p=some o):p8 m (zg xs gs) (λx=>p x.1)=some o:=UL (F:=λl=>p8 m l p) hl (J5 Prod.fst (zg xs gs) p) h
def M5 (m:Nat) (p0:aH) (c0:aS):Option (Bool):=
 some (p0.Seq==c0.Seq)
theorem ZC:aO Tryz.prog 177=true:=by kernel_rfl
theorem ZD {w:Nat} {p0:aH} {c0:aS} {o:Bool} (h:aE) {og0:OG} {c0K:cB} (c0H:h c0K=some (.obj 38 (aY c0))) (m:M5 w p0 c0=some o):
 aL Tryz.prog 177 [.agg (kT (p0,og0)),.ptr c0K 0] h (λr h'=>r= .sc (.bool o)∧h'=h):=by
 refine f8 9 [.tmp 3] Tryz.func177 rfl rfl rfl rfl ?_
 unfold M5 at m
 refine v ?_
 refine ve λu=>RH u rfl (by repeat (first | exact rfl | refine cD (gJ _ _ _ _) ?_ | refine cD rfl ?_)) λk2 K3=>qk K3 rfl ?_
 refine v (vl 0 _ cF rfl rfl rfl (vn (λu=>pE (nZ c0.Seq) cF rfl (kP u c0H) rfl) (v ?_)))
 cases m
 exact eD rfl
def CY (m:Nat) (p0:aQ) (p1:Int):Option (Int):=
 some (IntKind.wrap .i64 (p0.Seq - p1))
theorem aE3 {u:Nat} {p0:aQ} {p1:Int} {o:Int} (h:aE) (m:CY u p0 p1=some o):
 aL Tryz.prog 179 [.agg (cP p0),nZ p1] h (λr h'=>r=nZ o∧h'=h):=by
 refine f8 9 [.tmp 4] Tryz.func179 rfl rfl rfl rfl ?_
 unfold CY at m
 refine v ?_
 refine gY rfl rfl λk2 K3=> ?_
 refine v (vl 0 _ cF rfl rfl rfl (v ?_))
 cases m
 exact eD rfl
theorem ZE:aO Tryz.prog 179=true:=by kernel_rfl
def tH (m:Nat) (p0:List aQ) (p1:Int) (p2:aQ→Int→Option Int) (q0:Int) (q1:Int):Option (Lp (Int×Int) (Int×Bool)):=
 if (decide (q0 < q1))=true then ((ix p0 (IntKind.wrap .i64 ((IntKind.wrap .u64 (IntKind.wrap .i64 (q0+q1))).fdiv (2 ^ (min (1:Int).toNat (IntKind.bits .u64)))))).bind λx0=>(p2 x0 p1).bind λy0=>after (if (decide (y0 < 0))=true then (some (.brk (IntKind.wrap .i64 ((IntKind.wrap .i64 ((IntKind.wrap .u64 (IntKind.wrap .i64 (q0+q1))).fdiv (2 ^ (min (1:Int).toNat (IntKind.bits .u64)))))+1),q1))) else some (.brk (q0,IntKind.wrap .i64 ((IntKind.wrap .u64 (IntKind.wrap .i64 (q0+q1))).fdiv (2 ^ (min (1:Int).toNat (IntKind.bits .u64)))))):Option (Lp (Int×Int) (Lp (Int×Int) (Int×Bool)))) λ⟨j0,j1⟩=>some (.go (j0,j1))) else some (.brk (q0,q1))
def M6 (m:Nat) (p0:List aQ) (p1:Int) (p2:aQ→Int→Option Int):Option (Int×Bool):=
 after (aU (λs=>tH m p0 p1 p2 s.1 s.2) m (0,(p0.length:Int))) λ⟨r0,r1⟩=>after (if (decide (r0 < (p0.length:Int)))=true then ((ix p0 r0).bind λx0=>(p2 x0 p1).bind λy0=>some (.brk (r0,(y0==0)))) else some (.brk (r0,false)):Option (Lp (Int×Bool) (Int×Bool))) λ⟨j0,j1⟩=>some (j0,j1)
theorem aE4 {w:Nat} {p0:List aQ} {p1:Int} {p2:aQ→Int→Option Int} {o:Int×Bool} (h:aE) {p2F:Nat} {p2C:List AV} (p2B:aO Tryz.prog p2F=true) (p2H:∀x0 x1 o h0,iD h h0→p2 x0 x1=some o→aL Tryz.prog p2F ([.agg (cP x0),nZ x1]++p2C) h0 (λr h'=>r=nZ o∧h'=h0)) (m:M6 w p0 p1 p2=some o):
 aL Tryz.prog 178 [.sl none 3 (List.map cP p0),nZ p1,.fn (.func p2F) p2C] h (λr h'=>r= .tup [nZ o.1,.sc (.bool o.2)]∧h'=h):=by
 refine f8 49 [.tmp 6,.tmp 7] Tryz.func178 rfl rfl rfl rfl ?_
 unfold M6 at m
 refine v (v (dE pW rfl (v (vs ?_))))
 refine jY m (σ:=Int×Int) (λs=> []) (λs=>.c 0 (.sl none 3 (List.map cP p0)) (.c 1 (nZ p1) (.c 2 (.fn (.func p2F) p2C) (.c 8 (nZ (p0.length:Int)) (.c 9 (nZ s.1) (.c 10 (nZ s.2) .nil)))))) (lx (.k6 .nil)) ?_ ?_
 rintro _ ⟨q0,q1⟩ x m
 replace m:tH w p0 p1 p2 q0 q1=some x:=m
 unfold tH at m
 refine v (v ?_)
 apply vi m <;> intro c0 m
 refine v (v (v (v ?_)))
 refine vx m iM rfl rfl λx2 _ m=> ?_
 refine va (.agg (cP x2)) u7 rfl rfl ?_
 obtain⟨_,Y0,m⟩:=aC m
 refine vn (λu=>bY (p2H _ _ _ _ (aT (List.nil_sublist _) u).1 Y0) rfl p2B rfl) ?_
 refine fN m (σ:=Int×Int) (λs=> []) (λs=>.c 0 (.sl none 3 (List.map cP p0)) (.c 1 (nZ p1) (.c 2 (.fn (.func p2F) p2C) (.c 8 (nZ (p0.length:Int)) (.c 9 (nZ s.1) (.c 10 (nZ s.2) .nil)))))) (λx m=> ?_) ?_
 refine v ?_
 apply vi m <;> intro c1 m
 refine v ?_
 exact nE m
 refine v ?_
 exact nE m
 rintro _ ⟨j0,j1⟩ m
 exact nE m
 refine v ?_
 exact bq6 m
 rintro _ ⟨r0,r1⟩ m
 refine vs ?_
 refine fN m (σ:=Int×Bool) (λs=> []) (λs=>.c 6 (nZ s.1) (.c 7 (.sc (.bool s.2)) .nil)) (λx m=> ?_) ?_
 refine v ?_
 apply vi m <;> intro b0 m
 rw[b0]
 refine vx m iM rfl rfl λx3 _ m=> ?_
 refine va (.agg (cP x3)) u7 rfl rfl ?_
 obtain⟨_,Y1,m⟩:=aC m
 refine vn (λu=>bY (p2H _ _ _ _ (aT (List.nil_sublist _) u).1 Y1) rfl p2B rfl) ?_
 exact rH m
 rw[b0]
 exact rH m
 rintro _ ⟨j2,j3⟩ m
 refine v ?_
 cases m
 exact vr2 rfl rfl
theorem ZF:aO Tryz.prog 178=true:=by kernel_rfl
end Go.Proofs.YtbbifdfldpfphaaGreat
namespace Go.Vm
section
variable {P:Program} {ops:Array Oper} {h h0:aE} {L:HL} {n:Nat} {kvs:KV} {l:List Oper} {ty:TypeId} {pos:String} {dP:Array Edge}
theorem M7 {K:AV→aE→Prop} {dst:Option Tmp} {s x:Operand} {t e:TypeId} {sz b:Nat} (ht:kY P t e sz b) {k:cB} {i m cap:Nat} {cs ys:List AV} (ha:dK n kvs s= .vw k i cap) (hk:h k=some (.obj e cs))
    (hs:BC h (dK n kvs x) m ys.length ys) (hl:ys.length=m*sz) (hroom:i+m≤cap) (hfit:i*sz+ys.length≤cs.length)
    (hK:K (.vw k (i+m) cap) (upd h k (some (.obj e (eB cs (i*sz) ys))))):
    i6 P ⟨dst,.call { callee:=.builtin .append,args:= #[s,x],argTypes:= #[t,t]},ty,pos,dP,none⟩ K (fm n kvs) h:=by
  obtain⟨ii,z,hii,hz,rfl,rfl,hzs,hsp⟩:=ht.inf
  intro E w a r hv Nx Qx hn
  have vs:=hv s (by simp[Op.operands,Call.operands])
  have vx:=hv x (by simp[Op.operands,Call.operands])
  rw[bN] at vs vx
  rw[ha] at vs
  simp only[VR] at vs
  obtain⟨g,hg,es,h1,h2⟩:=vs
  obtain⟨sa,sc,cv,ex,c1,c2,c3⟩:=hs E w _ r vx
  obtain⟨g',cur,f1,f2,f3,f4⟩:=r.obj _ _ _ hk
  rw[hg] at f1; cases f1
  have hlen:cs.length=cur.size:=by simpa using cZ f3
  have hcl:ys.length=cv.length:=cZ c1
  have hrun:=run_append_room (P:=P) w t ty e ii ht.ut hii g i cap cur f2 sa m sc cv (by rw[← hcl]; exact hl) c3 c2 hroom (by omega)
  have hv':cY E w (eB cs (i*ii.size) ys) (cur.toList.take (i*ii.size)++cv++cur.toList.drop (i*ii.size+cv.length)):=by
    unfold eB
    rw[hcl]
    exact dA (dA (fO _ f3) c1) (iJ _ f3)
  have h1':∀u∈cur.toList.take (i*ii.size)++cv++cur.toList.drop (i*ii.size+cv.length),u.oneCell'=true:=by
    intro u hu
    rcases List.mem_append.1 hu with hu | hu
    · rcases List.mem_append.1 hu with hu | hu
      · exact f4 u (List.mem_of_mem_take hu)
      · exact c2 u hu
    · exact f4 u (List.mem_of_mem_drop hu)
  obtain⟨k1,k2⟩:=r.set_obj (cur:=(cur.toList.take (i*ii.size)++cv++cur.toList.drop (i*ii.size+cv.length)).toArray) hk hg
    (w':=w.setRow g (cur.toList.take (i*ii.size)++cv++cur.toList.drop (i*ii.size+cv.length)).toArray)
    (setRow_heap w g cur _ e _ f2) (λg' hg'=>setRow_other w g g' _ hg') (by simp) rfl rfl rfl (by simpa using hv') (by simpa using h1')
  unfold Oper.wp
  have hex:(execOp a.eval ⟨dst,.call { callee:=.builtin .append,args:= #[s,x],argTypes:= #[t,t]},ty,pos,dP,none⟩).run P w= .ok (.value (.slice (some ⟨g,0,none⟩) (i+m) cap)) (w.setRow g (cur.toList.take (i*ii.size)++cv++cur.toList.drop (i*ii.size+cv.length)).toArray):=by
    simp only[execOp,resolve,invoke,builtin,List.map_toArray,List.map_cons,List.map_nil,es,ex,Sem.run_bind,Sem.run_pure,Result.andThen_ok,hrun]
  rw[hex]
  refine hn (.vw k (i+m) cap) _ _ E _ k1 k2 ?_ hK
  simp only[VR]
  exact⟨g,hg,rfl,hroom,h2⟩
theorem M8 {K:AV→aE→Prop} {dst:Option Tmp} {s x:Operand} {t e:TypeId} {sz b:Nat} (ht:kY P t e sz b) {k:cB} {i cap:Nat} (ha:dK n kvs s= .vw k i cap) (hx:dK n kvs x= .sl none sz []) (hK:K (.vw k i cap) h):
    i6 P ⟨dst,.call { callee:=.builtin .append,args:= #[s,x],argTypes:= #[t,t]},ty,pos,dP,none⟩ K (fm n kvs) h:=by
  intro E w a r hv Nx Qx hn
  have vs:=hv s (by simp[Op.operands,Call.operands])
  have vx:=hv x (by simp[Op.operands,Call.operands])
  rw[bN] at vs vx
  rw[ha] at vs; rw[hx] at vx
  have vs2:=vs
  simp only[VR] at vs vx
  obtain⟨g,hg,es,h1,h2⟩:=vs
  obtain⟨a0,cx,ex, -⟩:=vx
  have hr:=iK (P:=P) (w:=w) (ty:=ty) ht (.inr ⟨_,cap,es,h1⟩) ex
  unfold Oper.wp
  rw[gQ rfl hr]
  exact hn _ _ _ E _ (eR.refl E w) r vs2 hK
theorem UQ {dst:Option Tmp} {s:Nat} {lo hi mx:Operand} {t:TypeId} {k:cB} {m cap sz:Nat} {q q2 q3:IntKind} {i j u:Int} (h0':0≤i) (h1':i≤j) (h2':j≤u) (h3':u≤(cap:Int)) (ht:nM P t=some sz) (ha:dK n kvs (.tmp s)= .vw k m cap) (hb:dK n kvs lo= .sc (.int q i)) (hc:dK n kvs hi= .sc (.int q2 j)) (hd:dK n kvs mx= .sc (.int q3 u)):
    eO P ⟨dst,.slice t (.tmp s) (some lo) (some hi) (some mx),ty,pos,dP,none⟩ .any (fm n kvs) h:=by
  obtain⟨e,hu,he⟩:=fP ht
  refine eC (x:=.any) (λE w ac r hv=> ?_) ⟨rfl,rfl⟩
  have va:=hv (.tmp s) (by simp[Op.operands])
  have vb:=hv lo (by simp[Op.operands])
  have vc:=hv hi (by simp[Op.operands])
  have vd:=hv mx (by simp[Op.operands])
  rw[bN,ha] at va; rw[bN,hb] at vb; rw[bN,hc] at vc; rw[bN,hd] at vd
  simp only[VR] at va vb vc vd
  obtain⟨g,hg,e1,e2,e3⟩:=va
  have hm:u≤9223372036854775807:=by simp only[maxLen] at e3; omega
  have bnd:∀(q:IntKind) (z:Int) (lim:Nat) (code:BoundsCode),0≤z→z≤(lim:Int)→(Instr.sliceBound (.int q z) lim code).run P w= .ok z.toNat w:=by
    intro q z lim code hz hl
    have n1:0≤z∧z≤(lim:Int):=⟨hz,hl⟩
    simp only[Instr.sliceBound,asIntOf,Sem.run_bind,Sem.run_pure,Result.andThen_ok,if_pos n1]
  have hb1:=bnd q3 u cap BoundsCode.slice3Acap (by omega) h3'
  have hb2:=bnd q2 j u.toNat BoundsCode.slice3B (by omega) (by omega)
  have hb3:=bnd q i j.toNat BoundsCode.slice3C h0' (by omega)
  refine⟨.slice (if u.toNat=i.toNat then some ⟨g,0,none⟩ else some (Addr.add ⟨g,0,none⟩ (i.toNat*sz))) (j.toNat - i.toNat) (u.toNat - i.toNat), ?_,by simp only[VR]⟩
  simp[execOp,e1,vb,vc,vd,Instr.sliceAt,Instr.slice,Instr.sliceBounds,run_underlying hu,cS he,hb1,hb2,hb3]
theorem R6 {dst:Option Tmp} {s:Nat} {lo hi:Operand} {t:TypeId} {k:cB} {m cap sz:Nat} {q q2:IntKind} {i j:Int} (h0':0≤i) (h1':i < j) (h2':j≤(cap:Int)) (ht:nM P t=some sz) (ha:dK n kvs (.tmp s)= .vw k m cap) (hb:dK n kvs lo= .sc (.int q i)) (hc:dK n kvs hi= .sc (.int q2 j)):
    eO P ⟨dst,.slice t (.tmp s) (some lo) (some hi) none,ty,pos,dP,none⟩ (.view k (i.toNat*sz) (j.toNat - i.toNat)) (fm n kvs) h:=by
  obtain⟨e,hu,he⟩:=fP ht
  refine eC (x:=.view k (i.toNat*sz) (j.toNat - i.toNat)) (λE w ac r hv=> ?_) ⟨rfl,rfl⟩
  have va:=hv (.tmp s) (by simp[Op.operands])
  have vb:=hv lo (by simp[Op.operands])
  have vc:=hv hi (by simp[Op.operands])
  rw[bN,ha] at va; rw[bN,hb] at vb; rw[bN,hc] at vc
  simp only[VR] at va vb vc
  obtain⟨g,hg,e1,e2,e3⟩:=va
  have hbd:=fU (P:=P) (w:=w) (sl:=true) (len:=m) (cap:=cap) (l:=i) (h:=j) (lo:=some (.sc (.int q i))) (hi:=some (.sc (.int q2 j))) (lv:=some (.int q i)) (hv:=some (.int q2 j)) rfl rfl (E:=E) (λx hx=>by cases hx; exact⟨_,rfl,by simp only[VR]⟩) nofun
    (λx hx=>by cases hx; exact⟨_,rfl,by simp only[VR]⟩) nofun h0' (by omega) h2'
  have hne:¬cap=i.toNat:=by omega
  refine⟨.slice (some ⟨g,i.toNat*sz,none⟩) (j.toNat - i.toNat) (cap - i.toNat), ?_, ?_⟩
  · simp[execOp,e1,vb,vc,Instr.sliceAt,Instr.slice,run_underlying hu,hbd,cS he,hne,Addr.add_lit]
  · simp only[VR]
    exact⟨g,cap - i.toNat,hg,rfl,by omega,by omega⟩
theorem ZG {dst:Option Tmp} {s:Nat} {lo:Operand} {t:TypeId} {k:cB} {m cap sz:Nat} {q:IntKind} (ht:nM P t=some sz) (ha:dK n kvs (.tmp s)= .vw k m cap) (hb:dK n kvs lo= .sc (.int q (m:Int))):
    eO P ⟨dst,.slice t (.tmp s) (some lo) none none,ty,pos,dP,none⟩ (.sl none sz []) (fm n kvs) h:=by
  obtain⟨e,hu,he⟩:=fP ht
  refine eC (x:=.sl none sz []) (λE w ac r hv=> ?_) ⟨rfl,rfl⟩
  have va:=hv (.tmp s) (by simp[Op.operands])
  have vb:=hv lo (by simp[Op.operands])
  rw[bN,ha] at va; rw[bN,hb] at vb
  simp only[VR] at va vb
  obtain⟨g,hg,e1,e2,e3⟩:=va
  have hbd:=fU (P:=P) (w:=w) (sl:=true) (len:=m) (cap:=cap) (l:=(m:Int)) (h:=m) (lo:=some (.sc (.int q (m:Int)))) (hi:=none) (lv:=some (.int q (m:Int))) (hv:=none) rfl rfl (E:=E) (λx hx=>by cases hx; exact⟨_,rfl,by simp only[VR]⟩) nofun
    nofun (λ_=>rfl) (by omega) (by omega) (by omega)
  refine⟨.slice (if cap=m then some ⟨g,0,none⟩ else some (Addr.add ⟨g,0,none⟩ (m*sz))) 0 (cap - m), ?_, ?_⟩
  · simp[execOp,e1,vb,Instr.sliceAt,Instr.slice,run_underlying hu,hbd,cS he]
  · simp only[VR]
    exact⟨_,_,rfl,Nat.zero_le _,by omega,.inl trivial,nofun,nofun⟩
def QG {α:Type} (xs:List α) (i j:Int):Option (List α):=if 0≤i∧i < j∧j≤(xs.length:Int) then some (xs.take i.toNat++xs.drop j.toNat) else none
theorem J6 {α:Type} {xs o:List α} {i j:Int} (h:QG xs i j=some o):0≤i∧i < j∧j≤(xs.length:Int)∧o=xs.take i.toNat++xs.drop j.toNat:=by
 unfold QG at h
 split at h
 ·rename_i q; cases h; exact⟨q.1,q.2.1,q.2.2,rfl⟩
 ·cases h
theorem E5 {α:Type} {c:α→List AV} {sz:Nat} (hc:∀y,(c y).length=sz) {xs:List α} {m:Nat} (hm:m≤xs.length) (sp:List AV):(fl c xs sp).drop (m*sz)=fl c (xs.drop m) sp:=by
 obtain⟨q1,q2,q3,q4⟩:=oA hc hm sp
 rw[q1,← q2,List.drop_left]
 rfl
theorem G9 {α:Type} {c:α→List AV} {sz:Nat} (hc:∀y,(c y).length=sz) {xs:List α} {i j:Nat} (hij:i≤j) (hj:j≤xs.length) (sp:List AV):
    eB (fl c xs sp) (i*sz) ((xs.drop j).map c).flatten=fl c (xs.take i++xs.drop j++xs.drop (i+(xs.length - j))) sp:=by
  obtain⟨q1,q2,q3,q4⟩:=oA hc (i:=i) (by omega:i≤xs.length) sp
  unfold eB
  rw[jF hc,List.length_drop,← Nat.add_mul,E5 hc (by omega),q1,← q2,List.take_left]
  unfold fl
  simp[List.map_append,List.flatten_append]
end
end Go.Vm
