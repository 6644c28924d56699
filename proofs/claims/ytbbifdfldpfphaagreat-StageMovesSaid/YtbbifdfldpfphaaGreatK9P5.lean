import Derived.Test.YtbbifdfldpfphaaGreatK9P3
import Derived.Test.YtbbifdfldpfphaaGreatK9P4
set_option linter.unusedSimpArgs false
set_option linter.unusedVariables false
set_option maxHeartbeats 4000000
set_option maxRecDepth 100000
open Bool(and_eq_true false_eq_true not_eq_true not_eq_true')
open ByteArray(empty)
open Int(ofNat_lt)
open Go.IntKind(wrap)
open List(all_eq_true any_cons any_eq_false eraseIdx_sublist filter filter_append flatten_cons getElem?_eq_getElem getElem?_map getElem?_set getElem_mem getElem_of_mem length_append length_eq_zero_iff length_filter_le length_map length_set length_take map map_cons map_set mem_cons mem_cons_of_mem mem_cons_self mem_map mem_of_getElem? mem_range mem_replicate nil_append nil_sublist of_mem_zip range replicate)
open Nat(le_trans)
open Option(all_none all_some any_some bind_some)
open Go.Proofs.Tryz(prog)
open Go.World(cell?)
namespace Go.Proofs.YtbbifdfldpfphaaGreat
open Go.Vm
def wX (m:Nat) (p0:List aS):Option ((List aS)):=
 (app ([]:List aS) p0).bind λz4=>some z4
theorem N3 {w:Nat} {p0:List aS} {o:(List aS)} (h:aF) (m:wX w p0=some o):
 aM prog 151 [.sl none 4 (map aO p0)] h (λr h'=>r= .sl none 4 (map aO o)/\h'=h):=by
 refine fM 7 [.tmp 2] Tryz.func151 rfl rfl rfl rfl ?_
 unfold wX at m
 refine v (v (v ?_))
 obtain⟨z4,Z5,m⟩:=aC m
 refine ve λu=>oQ (c:=aO) Z5 pN rfl rfl u nofun rfl λtg6 t7 K8=>qk K8 rfl (v ?_)
 obtain rfl:=eT m
 exact vr λu=>dW.of1 (.inl rfl) (gK _ _ (ow _ _ _) rfl) (aU (nil_sublist _) u).1 ((eB _ 0 t7 u rfl)) ⟨rfl,rfl⟩
theorem FC:aP prog 151=true:=by kernel_rfl
def vZ (m:Nat) (p0:List Int):Option ((List Int)):=
 (app ([]:List Int) p0).bind λz4=>some z4
theorem N4 {w:Nat} {p0:List Int} {o:(List Int)} (h:aF) (m:vZ w p0=some o):
 aM prog 141 [.sl none 1 (map gG p0)] h (λr h'=>r= .sl none 1 (map gG o)/\h'=h):=by
 refine fM 7 [.tmp 2] Tryz.func141 rfl rfl rfl rfl ?_
 unfold vZ at m
 refine v (v (v ?_))
 obtain⟨z4,Z5,m⟩:=aC m
 refine ve λu=>oQ (c:=gG) Z5 yH rfl rfl u nofun rfl λtg6 t7 K8=>qk K8 rfl (v ?_)
 obtain rfl:=eT m
 exact vr λu=>dW.of1 (.inl rfl) (gK _ _ (ow _ _ _) rfl) (aU (nil_sublist _) u).1 ((eB _ 0 t7 u rfl)) ⟨rfl,rfl⟩
theorem FD:aP prog 141=true:=by kernel_rfl
def tU (m:Nat) (p0:bG) (q0:List dF) (q1:Int):Option (Lp ((List dF)×Int) (bG)):=
 if decide (q1 < (p0.Parts.length:Int)) then ((ix p0.Parts q1).bind λx0=>(app ([]:List bK) x0.Ids).bind λz0=>(app q0 ([({ Path:=x0.Path,Size:=x0.Size,Ids:=z0}:dF)]:List dF)).bind λz1=>Gk (z1,wrap .i64 (q1+1))) else Bk (q0,q1)
def HJ (m:Nat) (p0:bG):Option (bG):=
 after (aT (λs=>tU m p0 s.1 s.2) m ([],0)) λ⟨r0,r1⟩=>some ({ Name:=p0.Name,Parts:=r0}:bG)
theorem aB3 {w:Nat} {p0:bG} {o:bG} (h:aF) (m:HJ w p0=some o):
 aM prog 150 [.agg (bP p0)] h (λr h'=>r= .agg (bP o)/\h'=h):=by
 refine fM 31 [.cell 2 58] Tryz.func150 rfl rfl rfl rfl ?_
 unfold HJ at m
 refine v (gX rfl rfl λk2 K3=>ve λu=>bE ([.sc (.string empty),sZ]) u NB rfl rfl λk5 K6=>qk K6 rfl (v (v (pJ (BI (.tok 70 3 (([]:List dF).length*3)) 3 (ow none 3 (map cC [])) (iB _ _)) (nE m (σ:=(List dF)×Int) (τ:=Option bX) (λg s=>[(g,.tok 70 3 ((s.1:List dF).length*3)),(some k5,.obj 58 ([.sc (.string empty),sZ])),(some k2,.obj 58 (bP p0))]) (λg s=>(g=none->s.1= [])) (λg s=>.c 1 (.ptr k2 0) (.c 2 (.ptr k5 0) (.c 3 (ow g 3 (map cC s.1)) (.c 4 (nZ s.2) .nil)))) none (λ_=>rfl) (lx (.k4 .nil)) ?_ ?_)))))
 rintro tg0 ⟨q0,q1⟩ x t0 m
 replace m:tU w p0 q0 q1=some x:=m
 unfold tU at m
 refine v (vl 2 _ oW rfl rfl rfl (dI AH rfl (v ?_)))
 apply vi m<;>intro c0 m
 refine v (v (v (vl 2 _ oW rfl rfl rfl (vx m tA rfl rfl λx0 _ m=>va (.agg (cC x0)) EW rfl rfl (ve λu=>bE (ZL) u KJ rfl rfl λk103 K0=>qk K0 rfl (ve λu=>aL 0 (cC x0) u rfl rfl rfl rfl NC rfl rfl λK1=>qk K1 rfl (v (v (vl 0 _ yL rfl rfl rfl ?_)))))))))
 obtain⟨z0,Z0,m⟩:=aC m
 refine ve λu=>oQ (c:=bF) Z0 CY rfl rfl u nofun rfl λtg1 t1 K2=>qk K2 rfl (ve λu=>aL 1 ([.sc (.string x0.Path),nZ x0.Size,ow tg1 32 (map bF z0)]) u rfl rfl (jN rfl) (pW _ _ _) V7 rfl rfl λK4=>qk K4 rfl (v (vl 1 (.agg ([.sc (.string x0.Path),nZ x0.Size,ow tg1 32 (map bF z0)])) EW rfl rfl rfl (ve λu=>IR (t:=25) (.agg (cC ({ Path:=x0.Path,Size:=x0.Size,Ids:=z0}:dF))) (aU (.cons _ (.refl _)) u).1 (bD.agg (.k2 (.cons (sP _ 0 t1 u rfl (.refl _)) .nil))) (a_v (eJ (map cC ([({ Path:=x0.Path,Size:=x0.Size,Ids:=z0}:dF)]:List dF)) KI rfl rfl rfl rfl) (qk ((aU (.cons _ (.refl _)) u).2) rfl ?_))))))
 obtain⟨z1,Z1,m⟩:=aC m
 exact ve λu=>fK (c:=cC) 1 Z1 KI rfl rfl rfl t0 u rfl λtg2 t2 K5=>qk K5 rfl (v (eF m tg2 t2 (mG [1,2,3] rfl rfl (.k4 .nil))))
 exact v (lF m tg0 t0 (lx (.k4 .nil)))
 rintro tg3 ⟨r0,r1⟩ t3 m
 refine v (ve λu=>aL 2 ([.sc (.string p0.Name),ow tg3 3 (map cC r0)]) u rfl rfl (jN rfl) (pW _ _ _) VW rfl rfl λK7=>qk K7 rfl (v (vl 2 (.agg ([.sc (.string p0.Name),ow tg3 3 (map cC r0)])) p5 rfl rfl rfl (ve λu=>aL 1 ([.sc (.string p0.Name),ow tg3 3 (map cC r0)]) u rfl rfl rfl (by repeat (first | exact rfl | refine cI (jO _ _ _) ?_ | refine cI (bZ _ _ _) ?_ | refine cI (gY _ _ _ _) ?_ | refine cI rfl ?_)) AI rfl rfl λK8=>qk K8 rfl ?_))))
 refine v ?_
 cases m
 exact vr λu=>dW.of1 (.inl rfl) (sS (.agg ([.sc (.string p0.Name),ow tg3 3 (map cC r0)])) p5 rfl (a9 1 u rfl) rfl) (aU (nil_sublist _) u).1 (bD.agg (.cons (bD.refl _ _) (.cons ((eB _ 0 t3 u rfl)) .nil))) ⟨rfl,rfl⟩
theorem UQ:aP prog 150=true:=by kernel_rfl
def tV (m:Nat) (p0:List aB) (q0:List aB) (q1:Int):Option (Lp ((List aB)×Int) ((List aB))):=
 if decide (q1 < (p0.length:Int)) then ((ix p0 q1).bind λx0=>(vZ m x0.Data).bind λy0=>(wX m x0.Locs).bind λy1=>(app q0 ([{ { x0 with Data:=y0} with Locs:=y1}]:List aB)).bind λz0=>Gk (z0,wrap .i64 (q1+1))) else Bk (q0,q1)
def KT (m:Nat) (p0:List aB):Option ((List aB)):=
 after (aT (λs=>tV m p0 s.1 s.2) m ([],0)) λ⟨r0,r1⟩=>some r0
theorem aH0 {w:Nat} {p0:List aB} {o:(List aB)} (h:aF) (m:KT w p0=some o):
 aM prog 152 [.sl none 35 (map aK p0)] h (λr h'=>r= .sl none 35 (map aK o)/\h'=h):=by
 refine fM 29 [.tmp 2] Tryz.func152 rfl rfl rfl rfl ?_
 unfold KT at m
 refine v (v (v (pJ (BI (.tok 44 35 (([]:List aB).length*35)) 3 (ow none 35 (map aK [])) (iB _ _)) (nE m (σ:=(List aB)×Int) (τ:=Option bX) (λg s=>[(g,.tok 44 35 ((s.1:List aB).length*35))]) (λg s=>(g=none->s.1= [])) (λg s=>.c 0 (.sl none 35 (map aK p0)) (.c 3 (ow g 35 (map aK s.1)) (.c 4 (nZ s.2) .nil))) none (λ_=>rfl) (lx (.k3 .nil)) ?_ ?_))))
 rintro tg0 ⟨q0,q1⟩ x t0 m
 replace m:tV w p0 q0 q1=some x:=m
 unfold tV at m
 refine v (dI kY rfl (v ?_))
 apply vi m<;>intro c0 m
 refine v (v (v (vx m fZ rfl rfl λx0 _ m=>va (.agg (aK x0)) nL rfl rfl (ve λu=>bE (bF iC++(Q4:List AV)) u pO rfl rfl λk109 K0=>qk K0 rfl (ve λu=>aL 0 (aK x0) u rfl rfl rfl rfl AF rfl rfl λK1=>qk K1 rfl (v (vz [(7,some k109,.obj 44 (aK x0))] mixed (λu=>⟨λ_=>aN 0 u rfl,trivial⟩) λu=>zF 0 rfl mC rfl (zL 1 0 (.sl none 1 (map gG x0.Data)) rfl oB rfl rfl rfl ?_))))))))
 obtain⟨y0,Y0,m⟩:=aC m
 refine zC 2 rfl (bW (N4 _ Y0) rfl FD rfl) (zF 3 rfl jA rfl (zL 4 0 (.sl none 4 (map aO x0.Locs)) rfl fO rfl rfl rfl ?_))
 obtain⟨y1,Y1,m⟩:=aC m
 refine zC 5 rfl (bW (N3 _ Y1) rfl FC rfl) (zF 6 rfl mC rfl (zE 7 rfl (aL 0 (aK { x0 with Data:=y0}) u rfl rfl rfl rfl EV rfl rfl λK2=>⟨⟨λe=>absurd e (by decide),trivial⟩, ?_⟩)))
 refine zF 8 rfl jA rfl (zE 9 rfl (aL 0 (aK { { x0 with Data:=y0} with Locs:=y1}) K2 rfl rfl rfl rfl oD rfl rfl λK3=>⟨⟨λe=>absurd e (by decide),trivial⟩, ?_⟩))
 refine zX (qk (f:=T6 23 _ _ _ _ _ _ _ _ _) K3 rfl (v (vl 0 (.agg (aK { { x0 with Data:=y0} with Locs:=y1})) nL rfl rfl rfl (bV (eJ (map aK ([{ { x0 with Data:=y0} with Locs:=y1}]:List aB)) pK rfl rfl rfl rfl) ?_))))
 obtain⟨z0,Z0,m⟩:=aC m
 exact ve λu=>fK (c:=aK) 1 Z0 pK rfl rfl rfl t0 u rfl λtg1 t1 K4=>qk K4 rfl (v (eF m tg1 t1 (mG [1] rfl rfl (.k3 .nil))))
 exact v (lF m tg0 t0 (lx (.k3 .nil)))
 rintro tg2 ⟨r0,r1⟩ t2 m
 refine v (v ?_)
 obtain rfl:=eT m
 exact vr λu=>dW.of1 (.inl rfl) (gK _ _ (ow _ _ _) rfl) (aU (nil_sublist _) u).1 ((eB _ 0 t2 u rfl)) ⟨rfl,rfl⟩
theorem N5:aP prog 152=true:=by kernel_rfl
def HK (m:Nat) (p0:aA) (q0:List aI) (q1:Int):Option (Lp ((List aI)×Int) (aA)):=
 if decide (q1 < (p0.Snaps.length:Int)) then ((ix p0.Snaps q1).bind λx0=>(HJ m x0.Man).bind λy0=>(wX m x0.Locs).bind λy1=>(app q0 ([{ { x0 with Man:=y0} with Locs:=y1}]:List aI)).bind λz0=>Gk (z0,wrap .i64 (q1+1))) else Bk (q0,q1)
def HM (m:Nat) (p0:aA) (q0:List aQ) (q1:Int):Option (Lp ((List aQ)×Int) (aA)):=
 if decide (q1 < (p0.Exps.length:Int)) then ((ix p0.Exps q1).bind λx0=>(wX m x0.Locs).bind λy0=>(app q0 ([{ x0 with Locs:=y0}]:List aQ)).bind λz0=>Gk (z0,wrap .i64 (q1+1))) else Bk (q0,q1)
def M90 (m:Nat) (p0:aA):Option (aA):=
 after (aT (λs=>HK m p0 s.1 s.2) m ([],0)) λ⟨r0,r1⟩=>after (aT (λs=>HM m p0 s.1 s.2) m ([],0)) λ⟨r2,r3⟩=>(KT m p0.Chunks).bind λy0=>(app ([]:List aR) p0.Vols).bind λz0=>some ({ Seq:=p0.Seq,Snaps:=r0,Chunks:=y0,Exps:=r2,Vols:=z0}:aA)
theorem aH1:aP prog 90=true:=by kernel_rfl
def HN (m:Nat) (p0:List aE) (p1:List aE) (q0:Int):Option (Lp (Int) (Bool)):=
 if decide (q0 < (p0.length:Int)) then ((ix p0 q0).bind λx0=>(ix p1 q0).bind λx1=>after (if (x0.Kind !=x1.Kind)then Bk true else if (!decide (x0.Id=x1.Id))then Bk true else if (x0.Seq !=x1.Seq)then Bk true else if (x0.Of !=x1.Of)then Bk true else if (x0.Off !=x1.Off)then Bk true else Bk (x0.Len !=x1.Len):Option (Lp (Bool) (Lp (Int) (Bool)))) λj0=>if j0 then Rk false else Gk (wrap .i64 (q0+1))) else Bk q0
def M18 (m:Nat) (p0:List aE) (p1:List aE):Option (Bool):=
 if ((p0.length:Int) !=(p1.length:Int))then (some false) else after (aT (λs=>HN m p0 p1 s) m 0) λr0=>some true
theorem W18 {w:Nat} {p0:List aE} {p1:List aE} {o:Bool} (h:aF) (m:M18 w p0 p1=some o):
 aM prog 18 [.sl none 37 (map aJ p0),.sl none 37 (map aJ p1)] h (λr h'=>r= .sc (.bool o)/\h'=h):=by
 refine fM 67 [.tmp 4] Tryz.func18 rfl rfl rfl rfl ?_
 unfold M18 at m
 refine v (v (dI mA rfl (dI mA rfl (v ?_))))
 apply vi m<;>intro c4 m
 refine v (v ?_)
 obtain rfl:=eT m
 exact eI rfl
 refine v (v (jT m (σ:=Int) (λs=>[]) (λs=>.c 0 (.sl none 37 (map aJ p0)) (.c 1 (.sl none 37 (map aJ p1)) (.c 5 (nZ s) .nil))) (lx (.k3 .nil)) ?_ ?_))
 rintro _ q0 x m
 replace m:HN w p0 p1 q0=some x:=m
 unfold HN at m
 refine v (dI mA rfl (v ?_))
 apply vi m<;>intro c0 m
 refine v (v (v (vz [] mixed (λu=>trivial) λu=>zC 0 rfl (fC (.sl _ _ _) rfl) (zI 1 rfl rfl ?_))))
 obtain⟨x0,X0,m⟩:=aC m
 refine zC 2 rfl (l4 X0 n3 rfl rfl) (zC 3 rfl (mJ (.agg (aJ x0)) CV rfl rfl) (zC 4 rfl (fC (.sl _ _ _) rfl) (zI 5 rfl rfl ?_)))
 obtain⟨x1,X1,m⟩:=aC m
 refine zC 6 rfl (l4 X1 n3 rfl rfl) (zC 7 rfl (mJ (.agg (aJ x1)) CV rfl rfl) (aFG 8 9 rfl rfl (by kernel_rfl) ?_ ?_))
 refine(bE (([nZ 0]:List AV)++bF iC++(J1:List AV)) u HB rfl rfl λk189 K0=>⟨trivial, ?_⟩)
 refine zE 9 rfl (bE (([nZ 0]:List AV)++bF iC++(J1:List AV)) K0 HB rfl rfl λk192 K1=>⟨trivial, ?_⟩)
 refine zE 10 rfl (aL 1 (aJ x0) K1 rfl rfl rfl rfl HA rfl rfl λK2=>⟨trivial, ?_⟩)
 refine zE 11 rfl (aL 0 (aJ x1) K2 rfl rfl rfl rfl HA rfl rfl λK3=>⟨trivial, ?_⟩)
 refine zX (qk (f:=.c 7 _ (.c 6 _ (T6 26 _ _ _ _ _ _ _ _ _))) K3 rfl (vs (fP m (σ:=Bool) (λs=>[(some k192,.obj 38 (aJ x1)),(some k189,.obj 38 (aJ x0))]) (λs=>.c 0 (.sl none 37 (map aJ p0)) (.c 1 (.sl none 37 (map aJ p1)) (.c 5 (nZ q0) (.c 66 (.sc (.bool s)) .nil)))) (λx m=> ?_) ?_)))
 refine v (vl 1 _ cG rfl rfl rfl (vl 0 _ cG rfl rfl rfl ?_))
 apply vi m<;>intro b0 m
 rw[b0]
 exact fV m
 rw[b0]
 refine vl 1 (.agg (bF x0.Id)) fF rfl rfl rfl (vl 0 (.agg (bF x1.Id)) fF rfl rfl rfl (bV (T2 EU T8 u5 ES rfl rfl) ?_))
 apply vi m<;>intro b1 m
 rw[b1]
 exact fV m
 rw[b1]
 refine vl 1 _ cG rfl rfl rfl (vl 0 _ cG rfl rfl rfl ?_)
 apply vi m<;>intro b2 m
 rw[b2]
 exact fV m
 rw[b2]
 refine vl 1 _ cG rfl rfl rfl (vl 0 _ cG rfl rfl rfl ?_)
 apply vi m<;>intro b3 m
 rw[b3]
 exact fV m
 rw[b3]
 refine vl 1 _ cG rfl rfl rfl (vl 0 _ cG rfl rfl rfl ?_)
 apply vi m<;>intro b4 m
 rw[b4]
 exact fV m
 rw[b4]
 exact vl 1 _ cG rfl rfl rfl (vl 0 _ cG rfl rfl rfl (fV m))
 rintro _ j0 m
 refine v ?_
 apply vi m<;>intro c1 m
 refine v (v (gM m λm=> ?_))
 obtain rfl:=eT m
 exact eI rfl
 exact v (v (z8 m (mG [] rfl rfl (.k3 .nil))))
 refine(bE (([nZ 0]:List AV)++bF iC++(J1:List AV)) u HB rfl rfl λk212 K4=>⟨trivial, ?_⟩)
 refine zE 8 rfl (bE (([nZ 0]:List AV)++bF iC++(J1:List AV)) K4 HB rfl rfl λk215 K5=>⟨trivial, ?_⟩)
 refine zE 10 rfl (aL 0 (aJ x0) K5 rfl rfl rfl rfl HA rfl rfl λK6=>⟨trivial, ?_⟩)
 refine zE 11 rfl (aL 1 (aJ x1) K6 rfl rfl rfl rfl HA rfl rfl λK7=>⟨trivial, ?_⟩)
 refine zX (qk (f:=.c 6 _ (.c 7 _ (T6 26 _ _ _ _ _ _ _ _ _))) K7 rfl (vs (fP m (σ:=Bool) (λs=>[(some k215,.obj 38 (aJ x0)),(some k212,.obj 38 (aJ x1))]) (λs=>.c 0 (.sl none 37 (map aJ p0)) (.c 1 (.sl none 37 (map aJ p1)) (.c 5 (nZ q0) (.c 66 (.sc (.bool s)) .nil)))) (λx m=> ?_) ?_)))
 refine v (vl 0 _ cG rfl rfl rfl (vl 1 _ cG rfl rfl rfl ?_))
 apply vi m<;>intro b5 m
 rw[b5]
 exact fV m
 rw[b5]
 refine vl 0 (.agg (bF x0.Id)) fF rfl rfl rfl (vl 1 (.agg (bF x1.Id)) fF rfl rfl rfl (bV (T2 EU T8 u5 ES rfl rfl) ?_))
 apply vi m<;>intro b6 m
 rw[b6]
 exact fV m
 rw[b6]
 refine vl 0 _ cG rfl rfl rfl (vl 1 _ cG rfl rfl rfl ?_)
 apply vi m<;>intro b7 m
 rw[b7]
 exact fV m
 rw[b7]
 refine vl 0 _ cG rfl rfl rfl (vl 1 _ cG rfl rfl rfl ?_)
 apply vi m<;>intro b8 m
 rw[b8]
 exact fV m
 rw[b8]
 refine vl 0 _ cG rfl rfl rfl (vl 1 _ cG rfl rfl rfl ?_)
 apply vi m<;>intro b9 m
 rw[b9]
 exact fV m
 rw[b9]
 exact vl 0 _ cG rfl rfl rfl (vl 1 _ cG rfl rfl rfl (fV m))
 rintro _ j1 m
 refine v ?_
 apply vi m<;>intro c2 m
 refine v (v (gM m λm=> ?_))
 obtain rfl:=eT m
 exact eI rfl
 exact v (v (z8 m (mG [] rfl rfl (.k3 .nil))))
 exact v (G7 m)
 rintro _ r0 m
 refine v (v ?_)
 obtain rfl:=eT m
 exact eI rfl
theorem WU:aP prog 18=true:=by kernel_rfl
theorem tW {α ρ:Type} {l:List α} {F:Nat} {body:Int->Option (Lp Int ρ)} (q:α->Bool) (r:ρ) (hF:l.length < F) (hb:∀(i:Nat) (x:α),l[i]? =some x->x∈l->i < l.length->body (i:Int)=some (if q x then .ret r else .go ((i+1:Nat):Int)))
    (he:body (l.length:Int)=some (.brk (l.length:Int))):aT body F 0=some (if l.any q then .ret r else .brk (l.length:Int)):=by
  rw[fB (s0:=(0:Int)) (n:=l.length) (F:=F) (λi:Nat=>(i:Int)) (λi=>(l[i]?).any q) (λ_=>r) hF rfl (λi hi _=>by
    rw[hb i l[i] (getElem?_eq_getElem hi) (getElem_mem hi) hi,getElem?_eq_getElem hi]; rfl) (λ_=>he),iV,i6]
theorem m53 {F:Nat} {l:List aS} (hl:l.length<=1000):wX F l=some l:=by unfold wX; rw[bS (by simp; omega)]; simp
theorem WV {F:Nat} {l:List Int} (hl:l.length<=1000):vZ F l=some l:=by unfold vZ; rw[bS (by simp; omega)]; simp
theorem kH {S ρ:Type} {body:S->Option (Lp S ρ)} {n F:Nat} {s0:S} (emb:Nat->S) (hF:n < F) (h0:s0=emb 0) (hb:∀i,i < n->body (emb i)=some (.go (emb (i+1)))) (he:body (emb n)=some (.brk (emb n))):
    aT body F s0=some (.brk (emb n)):=by
  obtain⟨s',h1,h2⟩:=m6 (body:=body) (I:=λi s=>s=emb i) (n:=n) (λi s hi hs=>⟨_,by rw[hs]; exact hb i hi,rfl⟩) (λs hs=>by rw[hs]; exact he) F 0 s0 (Nat.zero_le _) (by omega) h0
  rw[h2,h1]
theorem oF {α ρ:Type} {l:List α} {F:Nat} {body:List α×Int->Option (Lp (List α×Int) ρ)} (hF:l.length < F)
    (hb:∀(i:Nat) (x:α),l[i]? =some x->x∈l->i < l.length->body (l.take i,(i:Int))=some (.go (l.take i++ [x],((i+1:Nat):Int)))) (he:body (l,(l.length:Int))=some (.brk (l,(l.length:Int)))):
    aT body F ([],0)=some (.brk (l,(l.length:Int))):=by
  have:=kH (body:=body) (s0:=(([]:List α),(0:Int))) (n:=l.length) (F:=F) (λi:Nat=>(l.take i,(i:Int))) hF rfl (λi hi=>by
    rw[hb i l[i] (getElem?_eq_getElem hi) (getElem_mem hi) hi]
    simp) (by simpa using he)
  simpa using this
theorem m52 {F:Nat} {m:bG} (hF:1000<=F) (hp:m.Parts.length<=10) (hi:∀p∈m.Parts,p.Ids.length<=40):HJ F m=some m:=by
 unfold HJ
 rw[oF (l:=m.Parts) (by omega) (λi x hx hm hi'=>by
  have:=hi x hm
  unfold tU
  rw[f0 (by omega)]
  simp only[a8,hx,bind_some,ofNat_lt,hi',decide_true,if_true]
  rw[bS (by simp; omega)]
  simp only[bind_some,nil_append]
  rw[bS (by simp; omega)]
  rfl) (by unfold tU; simp)]
 rfl
theorem m54 {F:Nat} {l:List aB} (hF:1000<=F) (hl:l.length<=400) (hx:∀x∈l,x.Locs.length<=300/\x.Data.length<=300):KT F l=some l:=by
 unfold KT
 rw[oF (l:=l) (by omega) (λi x hx' hm hi'=>by
  have:=hx x hm
  unfold tV
  rw[f0 (by omega)]
  simp only[a8,hx',bind_some,ofNat_lt,hi',decide_true,if_true,WV (F:=F) (show x.Data.length<=1000 by omega),m53 (F:=F) (show x.Locs.length<=1000 by omega)]
  rw[bS (by simp; omega)]
  rfl) (by unfold tV; simp)]
 rfl
theorem m14 {F:Nat} {c:aA} (hF:1000<=F) (h:Sm c):M90 F c=some c:=by
 have hsn:=h.sn
 have hex:=h.ex
 have hvo:=h.vo
 unfold M90
 rw[oF (l:=c.Snaps) (by omega) (λi x hx hm hi'=>by
  have h1:=h.sl x hm
  obtain⟨-,h2,h3⟩:=h.man x hm
  unfold HK
  rw[f0 (by omega)]
  simp only[a8,hx,bind_some,ofNat_lt,hi',decide_true,if_true,m52 hF h2 (λp hp=>(h3 p hp).2),m53 (F:=F) (show x.Locs.length<=1000 by omega)]
  rw[bS (by simp; omega)]
  rfl) (by unfold HK; simp)]
 rw[oF (l:=c.Exps) (by omega) (λi x hx hm hi'=>by
  have h1:=h.el x hm
  unfold HM
  rw[f0 (by omega)]
  simp only[a8,hx,bind_some,ofNat_lt,hi',decide_true,if_true,m53 (F:=F) (show x.Locs.length<=1000 by omega)]
  rw[bS (by simp; omega)]
  rfl) (by unfold HM; simp)]
 simp only[aG,m54 hF h.ch h.cl,bind_some]
 rw[bS (by simp; omega)]
 rfl
def YY (m:Nat) (p0:aA) (p1:Int):Option ((List aE)):=
 (QY m p0).bind λy0=>if (y0 !=0)then (some []) else (R6 m p0 (λx0 x1=>YW m x0 x1 p1)).bind λy1=>some y1
theorem W23 {w:Nat} {p0:aA} {p1:Int} {o:(List aE)} (h:aF) (m:YY w p0 p1=some o):
 aM prog 23 [.agg (aD p0),nZ p1] h (λr h'=>r= .sl none 37 (map aJ o)/\h'=h):=by
 refine fM 11 [.tmp 4] Tryz.func23 rfl rfl rfl rfl ?_
 unfold YY at m
 refine v (gX rfl rfl λk2 K3=>gX rfl rfl λk5 K6=>v (vl 1 (.agg (aD p0)) dG rfl rfl rfl (vk YT KO m rfl rfl λ_ m=>v ?_)))
 apply vi m<;>intro c0 m
 refine v (v ?_)
 cases m
 exact vr λu=>dW.of1 (.inl rfl) (gK _ _ (.sc (.slice _ _ _)) rfl) (aU (nil_sublist _) u).1 (bC _) ⟨rfl,rfl⟩
 refine v (v (vl 1 (.agg (aD p0)) dG rfl rfl rfl ?_))
 obtain⟨_,Y0,m⟩:=aC m
 refine vn (λu=>bW (W50 _ aG2 (λ_ _ o h0 hs ho=>W63 _ (hs _ _ (a9 0 u rfl)) ho) Y0) rfl WH rfl) (v ?_)
 obtain rfl:=eT m
 exact eI rfl
theorem aB5:aP prog 23=true:=by kernel_rfl
def yW (m:Nat) (p0:List Int) (q0:List aR) (q1:Int):Option (Lp ((List aR)×Int) (aA)):=
 if decide (q1 < (p0.length:Int)) then ((ix p0 q1).bind λx0=>(app q0 ([({ Pool:=x0,Epoch:=0,State:=1,Files:=0}:aR)]:List aR)).bind λz0=>Gk (z0,wrap .i64 (q1+1))) else Bk (q0,q1)
def M33 (m:Nat) (p0:List Int):Option (aA):=
 after (aT (λs=>yW m p0 s.1 s.2) m ([],0)) λ⟨r0,r1⟩=>some ({ Seq:=0,Snaps:=[],Chunks:=[],Exps:=[],Vols:=r0}:aA)
theorem W33 {w:Nat} {p0:List Int} {o:aA} (h:aF) (m:M33 w p0=some o):
 aM prog 33 [.sl none 1 (map fQ p0)] h (λr h'=>r= .agg (aD o)/\h'=h):=by
 refine fM 22 [.cell 2 30] Tryz.func33 rfl rfl rfl rfl ?_
 unfold M33 at m
 refine v (ve λu=>bE (jB) u rO rfl rfl λk2 K3=>qk K3 rfl (v (ve λu=>bE (jB) u rO rfl rfl λk6 K7=>qk K7 rfl (v (pJ (leo (.tok 49 4 (([]:List aR).length*4)) 1 ([nZ 0,sZ,sZ,sZ,ow none 4 (map dN [])]) rfl (.k4 (.cons (iB (c:=dN) _ 4) .nil))) (nE m (σ:=(List aR)×Int) (τ:=Option bX) (λg s=>[(g,.tok 49 4 ((s.1:List aR).length*4)),(some k6,.obj 30 ([nZ 0,sZ,sZ,sZ,ow g 4 (map dN s.1)])),(some k2,.obj 30 (jB))]) (λg s=>(g=none->s.1= [])) (λg s=>.c 0 (.sl none 1 (map fQ p0)) (.c 2 (.ptr k2 0) (.c 3 (.ptr k6 0) (.c 4 (nZ s.2) .nil)))) none (λ_=>rfl) (lx (.k4 .nil)) ?_ ?_))))))
 rintro tg0 ⟨q0,q1⟩ x t0 m
 replace m:yW w p0 q0 q1=some x:=m
 unfold yW at m
 refine v (dI MZ rfl (v ?_))
 apply vi m<;>intro c0 m
 refine v (v (v (vz [(10,some k6,.obj 30 ([nZ 0,sZ,sZ,sZ,ow tg0 4 (map dN q0)]))] mixed (λu=>⟨λ_=>aN 1 u rfl,trivial⟩) λu=>zF 0 rfl gW rfl (zL 1 0 (ow tg0 4 (map dN q0)) rfl gH rfl rfl rfl (zC 2 rfl (fC (.sl _ _ _) rfl) (zI 3 rfl rfl ?_))))))
 obtain⟨x0,X0,m⟩:=aC m
 refine zC 4 rfl (l4 X0 aAM rfl rfl) (zC 5 rfl (mJ (nZ x0) cG rfl rfl) (zC 6 rfl (eQ (dN ({ Pool:=x0,Epoch:=0,State:=1,Files:=0}:aR)) aF3 rfl) (zC 7 rfl (eJ (map dN ([({ Pool:=x0,Epoch:=0,State:=1,Files:=0}:aR)]:List aR)) M1 rfl rfl rfl rfl) ?_)))
 obtain⟨z0,Z0,m⟩:=aC m
 refine zE 8 rfl (fK (c:=dN) 0 Z0 M1 rfl rfl rfl t0 u rfl λtg1 t1 K0=>⟨⟨λ_=>aN 1 K0 rfl,trivial⟩, ?_⟩)
 refine zF 9 rfl gW rfl (zE 10 rfl (aL 1 ([nZ 0,sZ,sZ,sZ,ow tg1 4 (map dN z0)]) K0 rfl rfl (jN rfl) (pW _ _ _) VV rfl rfl λK1=>⟨⟨λe=>absurd e (by decide),trivial⟩, ?_⟩))
 exact zX (qk (f:=aAH 20 _ _ _ _ _ _ _ _ _ _ _) K1 rfl (v (eF m tg1 t1 (lx (.k4 .nil)))))
 exact v (lF m tg0 t0 (lx (.k4 .nil)))
 rintro tg2 ⟨r0,r1⟩ t2 m
 refine v (vl 1 (.agg ([nZ 0,sZ,sZ,sZ,ow tg2 4 (map dN r0)])) dG rfl rfl rfl (ve λu=>aL 2 ([nZ 0,sZ,sZ,sZ,ow tg2 4 (map dN r0)]) u rfl rfl rfl (by repeat (first | exact rfl | refine cI (jO _ _ _) ?_ | refine cI (bZ _ _ _) ?_ | refine cI (gY _ _ _ _) ?_ | refine cI rfl ?_)) mZ rfl rfl λK2=>qk K2 rfl ?_))
 refine v ?_
 cases m
 exact vr λu=>dW.of1 (.inl rfl) (sS (.agg ([nZ 0,sZ,sZ,sZ,ow tg2 4 (map dN r0)])) dG rfl (a9 2 u rfl) rfl) (aU (nil_sublist _) u).1 (bD.agg (.cons (bD.refl _ _) (.cons (bC _) (.cons (bC _) (.cons (bC _) (.cons ((eB _ 0 t2 u rfl)) .nil)))))) ⟨rfl,rfl⟩
theorem aH3:aP prog 33=true:=by kernel_rfl
def yX (m:Nat) (p0:aA) (p1:bK) (q0:Int) (q1:Int) (q2:Int):Option (Lp (Int) (Lp (Int) (Lp (Int) (Bool)))):=
 (ix p0.Snaps q0).bind λx0=>(ix x0.Man.Parts q1).bind λx1=>if decide (q2 < (x1.Ids.length:Int)) then ((ix p0.Snaps q0).bind λx2=>(ix x2.Man.Parts q1).bind λx3=>(ix x3.Ids q2).bind λx4=>if decide (x4=p1) then (Rk (.ret (.ret true))) else Gk (wrap .i64 (q2+1))) else Bk q2
def yY (m:Nat) (p0:aA) (p1:bK) (q0:Int) (q1:Int):Option (Lp (Int) (Lp (Int) (Bool))):=
 (ix p0.Snaps q0).bind λx0=>if decide (q1 < (x0.Man.Parts.length:Int)) then (after (aT (λs=>yX m p0 p1 q0 q1 s) m 0) λr0=>Gk (wrap .i64 (q1+1))) else Bk q1
def yZ (m:Nat) (p0:aA) (p1:bK) (q0:Int):Option (Lp (Int) (Bool)):=
 if decide (q0 < (p0.Snaps.length:Int)) then (after (aT (λs=>yY m p0 p1 q0 s) m 0) λr0=>Gk (wrap .i64 (q0+1))) else Bk q0
def WW (m:Nat) (p0:aA) (p1:bK):Option (Bool):=
 after (aT (λs=>yZ m p0 p1 s) m 0) λr0=>some false
theorem W38 {u:Nat} {p0:aA} {p1:bK} {o:Bool} (h:aF) (m:WW u p0 p1=some o):
 aM prog 38 [.agg (aD p0),.agg (bF p1)] h (λr h'=>r= .sc (.bool o)/\h'=h):=by
 refine fM 59 [.tmp 4] Tryz.func38 rfl rfl rfl rfl ?_
 unfold WW at m
 refine v (gX rfl rfl λk2 K3=>gX rfl rfl λk5 K6=>v (jT m (σ:=Int) (λs=>[(some k5,.obj 36 (bF p1)),(some k2,.obj 30 (aD p0))]) (λs=>.c 2 (.ptr k2 0) (.c 3 (.ptr k5 0) (.c 5 (nZ s) .nil))) (lx (.k3 .nil)) ?_ ?_))
 rintro _ q0 x m
 replace m:yZ u p0 p1 q0=some x:=m
 unfold yZ at m
 refine v (vl 1 _ fE rfl rfl rfl (dI kN rfl (v ?_)))
 apply vi m<;>intro c0 m
 refine v (v (v (jT m (σ:=Int) (λs=>[(some k5,.obj 36 (bF p1)),(some k2,.obj 30 (aD p0))]) (λs=>.c 2 (.ptr k2 0) (.c 3 (.ptr k5 0) (.c 5 (nZ q0) (.c 6 (nZ s) .nil)))) (lx (.k4 .nil)) ?_ ?_)))
 rintro _ q1 x m
 replace m:yY u p0 p1 q0 q1=some x:=m
 unfold yY at m
 refine v (vl 1 _ fE rfl rfl rfl (vx m jG rfl rfl λ_ _ m=>dI AH rfl (v ?_)))
 apply vi m<;>intro c1 m
 refine v (v (v (jT m (σ:=Int) (λs=>[(some k5,.obj 36 (bF p1)),(some k2,.obj 30 (aD p0))]) (λs=>.c 2 (.ptr k2 0) (.c 3 (.ptr k5 0) (.c 5 (nZ q0) (.c 6 (nZ q1) (.c 7 (nZ s) .nil))))) (lx (.k5 .nil)) ?_ ?_)))
 rintro _ q2 x m
 replace m:yX u p0 p1 q0 q1 q2=some x:=m
 unfold yX at m
 refine v (vl 1 _ fE rfl rfl rfl (vx m jG rfl rfl λ_ _ m=>vx m tA rfl rfl λ_ _ m=>dI vO rfl (v ?_)))
 apply vi m<;>intro c2 m
 refine v (v (v (vq (by kernel_rfl) (vl 1 _ fE rfl rfl rfl (vx m jG rfl rfl λ_ _ m=>vx m tA rfl rfl λ_ _ m=>vx m AL rfl rfl λx0 _ m=>va (.agg (bF x0)) fF rfl rfl (vl 0 (.agg (bF p1)) fF rfl rfl rfl (bV (BD EU T8 u5 ES rfl rfl) (v ?_))))))))
 apply vi m<;>intro c3 m
 refine v (v (gM m λm=>gM m λm=>gM m λm=> ?_))
 obtain rfl:=eT m
 exact eI rfl
 exact v (v (lE m))
 exact v (YR m)
 rintro _ r0 m
 exact v (fV m)
 exact v (u0 m)
 rintro _ r1 m
 exact v (hX m)
 exact v (G7 m)
 rintro _ r2 m
 refine v (v ?_)
 obtain rfl:=eT m
 exact eI rfl
theorem WX:aP prog 38=true:=by kernel_rfl
def C3 (m:Nat) (p0:aA) (p1:List aS) (p2:Int) (q0:Bool) (q1:Bool) (q2:Int):Option (Lp (Bool×Bool×Int) (Bool×Bool)):=
 if decide (q2 < (p1.length:Int)) then ((ix p1 q2).bind λx0=>after (if (x0.Vol==p2)then (Bk (true,q1)) else (ix p1 q2).bind λx1=>(ix p0.Vols x1.Vol).bind λx2=>(ix p0.Vols p2).bind λx3=>after (if (x2.Pool==x3.Pool)then Bk true else Bk q1:Option (Lp (Bool) (Lp (Bool×Bool) (Lp (Bool×Bool×Int) (Bool×Bool))))) λj0=>Bk (q0,j0):Option (Lp (Bool×Bool) (Lp (Bool×Bool×Int) (Bool×Bool)))) λ⟨j1,j2⟩=>Gk (j1,j2,wrap .i64 (q2+1))) else Bk (q0,q1,q2)
def N6 (m:Nat) (p0:aA) (p1:List aS) (p2:Int):Option (Bool×Bool):=
 after (aT (λs=>C3 m p0 p1 p2 s.1 s.2.1 s.2.2) m (false,false,0)) λ⟨r0,r1,r2⟩=>some (r0,r1)
theorem WY {u:Nat} {p0:aA} {p1:List aS} {p2:Int} {o:Bool×Bool} (h:aF) (m:N6 u p0 p1 p2=some o):
 aM prog 112 [.agg (aD p0),.sl none 4 (map aO p1),nZ p2] h (λr h'=>r= .tup [.sc (.bool o.1),.sc (.bool o.2)]/\h'=h):=by
 refine fM 41 [.tmp 6,.tmp 7] Tryz.func112 rfl rfl rfl rfl ?_
 unfold N6 at m
 refine v (gX rfl rfl λk2 K3=>v (jT m (σ:=Bool×Bool×Int) (λs=>[(some k2,.obj 30 (aD p0))]) (λs=>.c 1 (.sl none 4 (map aO p1)) (.c 2 (nZ p2) (.c 3 (.ptr k2 0) (.c 6 (.sc (.bool s.1)) (.c 7 (.sc (.bool s.2.1)) (.c 8 (nZ s.2.2) .nil)))))) (lx (.k6 .nil)) ?_ ?_))
 rintro _ ⟨q0,q1,q2⟩ x m
 replace m:C3 u p0 p1 p2 q0 q1 q2=some x:=m
 unfold C3 at m
 refine v (dI kC rfl (v ?_))
 apply vi m<;>intro c0 m
 refine v (v (v (vx m jH rfl rfl λ_ _ m=>fP m (σ:=Bool×Bool) (λs=>[(some k2,.obj 30 (aD p0))]) (λs=>.c 1 (.sl none 4 (map aO p1)) (.c 2 (nZ p2) (.c 3 (.ptr k2 0) (.c 6 (.sc (.bool s.1)) (.c 7 (.sc (.bool s.2)) (.c 8 (nZ q2) .nil)))))) (λx m=> ?_) ?_)))
 refine v ?_
 apply vi m<;>intro c1 m
 exact v (nF m)
 refine v (vq (by kernel_rfl) (vl 0 _ gH rfl rfl rfl (vx m jH rfl rfl λ_ _ m=>vx m kZ rfl rfl λ_ _ m=>vl 0 _ gH rfl rfl rfl (vx m kZ rfl rfl λ_ _ m=>fP m (σ:=Bool) (λs=>[(some k2,.obj 30 (aD p0))]) (λs=>.c 1 (.sl none 4 (map aO p1)) (.c 2 (nZ p2) (.c 3 (.ptr k2 0) (.c 6 (.sc (.bool q0)) (.c 7 (.sc (.bool s)) (.c 8 (nZ q2) .nil)))))) (λx m=> ?_) ?_))))
 refine v ?_
 apply vi m<;>intro c2 m
 exact v (nF m)
 exact v (nF m)
 rintro _ j0 m
 exact nF m
 rintro _ ⟨j1,j2⟩ m
 exact v (nF m)
 exact v (bq6 m)
 rintro _ ⟨r0,r1,r2⟩ m
 refine v (v ?_)
 cases m
 exact vr2 rfl rfl
theorem N7:aP prog 112=true:=by kernel_rfl
def HO (m:Nat) (p0:aA) (p1:Int) (p2:Bool) (q0:List aE) (q1:Int):Option (Lp ((List aE)×Int) ((List aE))):=
 if decide (q1 < (p0.Chunks.length:Int)) then ((ix p0.Chunks q1).bind λx0=>(N6 m p0 x0.Locs p1).bind λy0=>after (if y0.1 then (if (!p2)then Bk true else if (!y0.2)then ((ix p0.Chunks q1).bind λx1=>(WW m p0 x1.Id).bind λy1=>Bk y1) else Bk false) else Bk false:Option (Lp (Bool) (Lp ((List aE)×Int) ((List aE))))) λj0=>after (if j0 then ((ix p0.Chunks q1).bind λx2=>(app q0 ([({ Kind:=1,Id:=x2.Id,Seq:=0,Of:=0,Off:=0,Len:=0}:aE)]:List aE)).bind λz0=>Bk z0) else Bk q0:Option (Lp ((List aE)) (Lp ((List aE)×Int) ((List aE))))) λj1=>Gk (j1,wrap .i64 (q1+1))) else Bk (q0,q1)
def HP (m:Nat) (p0:aA) (p1:Int) (p2:Bool) (q0:List aE) (q1:Int):Option (Lp ((List aE)×Int) ((List aE))):=
 if decide (q1 < (p0.Snaps.length:Int)) then ((ix p0.Snaps q1).bind λx0=>(N6 m p0 x0.Locs p1).bind λy0=>after (if y0.1 then (if (!p2)then Bk true else Bk (!y0.2)) else Bk false:Option (Lp (Bool) (Lp ((List aE)×Int) ((List aE))))) λj0=>after (if j0 then ((ix p0.Snaps q1).bind λx1=>(app q0 ([({ Kind:=2,Id:=iC,Seq:=x1.Seq,Of:=0,Off:=0,Len:=0}:aE)]:List aE)).bind λz0=>Bk z0) else Bk q0:Option (Lp ((List aE)) (Lp ((List aE)×Int) ((List aE))))) λj1=>Gk (j1,wrap .i64 (q1+1))) else Bk (q0,q1)
def HQ (m:Nat) (p0:aA) (p1:Int) (p2:Bool) (q0:List aE) (q1:Int):Option (Lp ((List aE)×Int) ((List aE))):=
 if decide (q1 < (p0.Exps.length:Int)) then ((ix p0.Exps q1).bind λx0=>(N6 m p0 x0.Locs p1).bind λy0=>after (if y0.1 then (if (!p2)then Bk true else Bk (!y0.2)) else Bk false:Option (Lp (Bool) (Lp ((List aE)×Int) ((List aE))))) λj0=>after (if j0 then ((ix p0.Exps q1).bind λx1=>(ix p0.Exps q1).bind λx2=>(app q0 ([({ Kind:=3,Id:=iC,Seq:=x1.Seq,Of:=x2.Of,Off:=0,Len:=0}:aE)]:List aE)).bind λz0=>Bk z0) else Bk q0:Option (Lp ((List aE)) (Lp ((List aE)×Int) ((List aE))))) λj1=>Gk (j1,wrap .i64 (q1+1))) else Bk (q0,q1)
def M69 (m:Nat) (p0:aA) (p1:Int) (p2:Bool):Option ((List aE)):=
 after (if decide (p1 < 0) then Bk true else Bk (decide ((p0.Vols.length:Int)<=p1)):Option (Lp (Bool) ((List aE)))) λj9=>if j9 then (some []) else after (aT (λs=>HO m p0 p1 p2 s.1 s.2) m ([],0)) λ⟨r0,r1⟩=>after (aT (λs=>HP m p0 p1 p2 s.1 s.2) m (r0,0)) λ⟨r2,r3⟩=>after (aT (λs=>HQ m p0 p1 p2 s.1 s.2) m (r2,0)) λ⟨r4,r5⟩=>some r4
theorem W69 {w:Nat} {p0:aA} {p1:Int} {p2:Bool} {o:(List aE)} (h:aF) (m:M69 w p0 p1 p2=some o):
 aM prog 69 [.agg (aD p0),nZ p1,.sc (.bool p2)] h (λr h'=>r= .sl none 37 (map aJ o)/\h'=h):=by
 refine fM 157 [.tmp 6] Tryz.func69 rfl rfl rfl rfl ?_
 unfold M69 at m
 refine v (gX rfl rfl λk2 K3=>v (vs (vs (fP m (σ:=Bool) (λs=>[(some k2,.obj 30 (aD p0))]) (λs=>.c 1 (nZ p1) (.c 2 (.sc (.bool p2)) (.c 3 (.ptr k2 0) (.c 7 (sZ) (.c 25 (.sc (.bool s)) .nil))))) (λx m=> ?_) ?_))))
 refine v ?_
 apply vi m<;>intro b0 m
 rw[b0]
 exact lE m
 rw[b0]
 exact vl 0 _ gH rfl rfl rfl (dI pM rfl (lE m))
 rintro _ j9 m
 refine v ?_
 apply vi m<;>intro c0 m
 refine v (v ?_)
 cases m
 exact vr λu=>dW.of1 (.inl rfl) (gK _ _ (.sc (.slice _ _ _)) rfl) (aU (nil_sublist _) u).1 (bC _) ⟨rfl,rfl⟩
 refine v (v (pJ (BI (.tok 38 37 (([]:List aE).length*37)) 7 (ow none 37 (map aJ [])) (iB _ _)) (nE m (σ:=(List aE)×Int) (τ:=Option bX) (λg s=>[(g,.tok 38 37 ((s.1:List aE).length*37)),(some k2,.obj 30 (aD p0))]) (λg s=>(g=none->s.1= [])) (λg s=>.c 1 (nZ p1) (.c 2 (.sc (.bool p2)) (.c 3 (.ptr k2 0) (.c 7 (ow g 37 (map aJ s.1)) (.c 8 (nZ s.2) .nil))))) none (λ_=>rfl) (lx (.k5 .nil)) ?_ ?_)))
 rintro tg0 ⟨q0,q1⟩ x t0 m
 replace m:HO w p0 p1 p2 q0 q1=some x:=m
 unfold HO at m
 refine v (vl 1 _ fA rfl rfl rfl (dI kY rfl (v ?_)))
 apply vi m<;>intro c1 m
 refine v (v (v (vq (by kernel_rfl) (vl 1 (.agg (aD p0)) dG rfl rfl rfl (vl 1 _ fA rfl rfl rfl (vx m fZ rfl rfl λ_ _ m=>vk WY N7 m rfl rfl λ_ m=>vs (fP m (σ:=Bool) (λs=>[(tg0,.tok 38 37 ((q0:List aE).length*37)),(some k2,.obj 30 (aD p0))]) (λs=>.c 1 (nZ p1) (.c 2 (.sc (.bool p2)) (.c 3 (.ptr k2 0) (.c 7 (ow tg0 37 (map aJ q0)) (.c 8 (nZ q1) (.c 63 (.sc (.bool s)) .nil)))))) (λx m=> ?_) ?_)))))))
 refine v (vq (by kernel_rfl) ?_)
 apply vi m<;>intro b1 m
 rw[b1]
 apply vi m<;>intro b2 m
 rw[b2]
 exact nF m
 rw[b2]
 apply vi m<;>intro b3 m
 rw[b3]
 exact vl 1 (.agg (aD p0)) dG rfl rfl rfl (vl 1 _ fA rfl rfl rfl (vx m fZ rfl rfl λx0 _ m=>va (.agg (bF x0.Id)) fF rfl rfl (vk W38 WX m rfl rfl λ_ m=>nF m)))
 rw[b3]
 exact nF m
 rw[b1]
 exact nF m
 rintro _ j0 m
 refine oA m (σ:=(List aE)) (τ:=Option bX) (λg s=>[(g,.tok 38 37 ((s:List aE).length*37)),(some k2,.obj 30 (aD p0))]) (λg s=>(g=none->s= [])) (λg s=>.c 1 (nZ p1) (.c 2 (.sc (.bool p2)) (.c 3 (.ptr k2 0) (.c 7 (ow g 37 (map aJ s)) (.c 8 (nZ q1) .nil))))) (λx m=> ?_) ?_
 refine v ?_
 apply vi m<;>intro c2 m
 refine v (vl 1 _ fA rfl rfl rfl (vx m fZ rfl rfl λx1 _ m=>va (.agg (bF x1.Id)) fF rfl rfl (bV (eQ (aJ ({ Kind:=1,Id:=x1.Id,Seq:=0,Of:=0,Off:=0,Len:=0}:aE)) s9 rfl) (bV (eJ (map aJ ([({ Kind:=1,Id:=x1.Id,Seq:=0,Of:=0,Off:=0,Len:=0}:aE)]:List aE)) lM rfl rfl rfl rfl) ?_))))
 obtain⟨z0,Z0,m⟩:=aC m
 exact ve λu=>fK (c:=aJ) 0 Z0 lM rfl rfl rfl t0 u rfl λtg1 t1 K0=>qk K0 rfl (eF m tg1 t1 (lx (.k5 .nil)))
 exact v (eF m tg0 t0 (lx (.k5 .nil)))
 rintro tg2 j1 t2 m
 exact v (eF m tg2 t2 (lx (.k5 .nil)))
 exact v (lF m tg0 t0 (lx (.k5 .nil)))
 rintro tg3 ⟨r0,r1⟩ t3 m
 refine v (nE m (σ:=(List aE)×Int) (τ:=Option bX) (λg s=>[(g,.tok 38 37 ((s.1:List aE).length*37)),(some k2,.obj 30 (aD p0))]) (λg s=>(g=none->s.1= [])) (λg s=>.c 1 (nZ p1) (.c 2 (.sc (.bool p2)) (.c 3 (.ptr k2 0) (.c 7 (ow g 37 (map aJ s.1)) (.c 11 (nZ s.2) .nil))))) tg3 t3 (lx (.k5 .nil)) ?_ ?_)
 rintro tg4 ⟨q2,q3⟩ x t4 m
 replace m:HP w p0 p1 p2 q2 q3=some x:=m
 unfold HP at m
 refine v (vl 1 _ fE rfl rfl rfl (dI kN rfl (v ?_)))
 apply vi m<;>intro c3 m
 refine v (v (v (vq (by kernel_rfl) (vl 1 (.agg (aD p0)) dG rfl rfl rfl (vl 1 _ fE rfl rfl rfl (vx m jG rfl rfl λ_ _ m=>vk WY N7 m rfl rfl λ_ m=>vs (fP m (σ:=Bool) (λs=>[(tg4,.tok 38 37 ((q2:List aE).length*37)),(some k2,.obj 30 (aD p0))]) (λs=>.c 1 (nZ p1) (.c 2 (.sc (.bool p2)) (.c 3 (.ptr k2 0) (.c 7 (ow tg4 37 (map aJ q2)) (.c 11 (nZ q3) (.c 101 (.sc (.bool s)) .nil)))))) (λx m=> ?_) ?_)))))))
 refine v ?_
 apply vi m<;>intro b4 m
 rw[b4]
 apply vi m<;>intro b5 m
 rw[b5]
 exact nF m
 rw[b5]
 exact nF m
 rw[b4]
 exact nF m
 rintro _ j2 m
 refine oA m (σ:=(List aE)) (τ:=Option bX) (λg s=>[(g,.tok 38 37 ((s:List aE).length*37)),(some k2,.obj 30 (aD p0))]) (λg s=>(g=none->s= [])) (λg s=>.c 1 (nZ p1) (.c 2 (.sc (.bool p2)) (.c 3 (.ptr k2 0) (.c 7 (ow g 37 (map aJ s)) (.c 11 (nZ q3) .nil))))) (λx m=> ?_) ?_
 refine v ?_
 apply vi m<;>intro c4 m
 refine v (vl 1 _ fE rfl rfl rfl (vx m jG rfl rfl λx2 _ m=>bV (eQ (aJ ({ Kind:=2,Id:=iC,Seq:=x2.Seq,Of:=0,Off:=0,Len:=0}:aE)) s9 rfl) (bV (eJ (map aJ ([({ Kind:=2,Id:=iC,Seq:=x2.Seq,Of:=0,Off:=0,Len:=0}:aE)]:List aE)) lM rfl rfl rfl rfl) ?_)))
 obtain⟨z1,Z1,m⟩:=aC m
 exact ve λu=>fK (c:=aJ) 0 Z1 lM rfl rfl rfl t4 u rfl λtg5 t5 K1=>qk K1 rfl (eF m tg5 t5 (lx (.k5 .nil)))
 exact v (eF m tg4 t4 (lx (.k5 .nil)))
 rintro tg6 j3 t6 m
 exact v (eF m tg6 t6 (lx (.k5 .nil)))
 exact v (lF m tg4 t4 (lx (.k5 .nil)))
 rintro tg7 ⟨r2,r3⟩ t7 m
 refine v (nE m (σ:=(List aE)×Int) (τ:=Option bX) (λg s=>[(g,.tok 38 37 ((s.1:List aE).length*37)),(some k2,.obj 30 (aD p0))]) (λg s=>(g=none->s.1= [])) (λg s=>.c 1 (nZ p1) (.c 2 (.sc (.bool p2)) (.c 3 (.ptr k2 0) (.c 7 (ow g 37 (map aJ s.1)) (.c 14 (nZ s.2) .nil))))) tg7 t7 (lx (.k5 .nil)) ?_ ?_)
 rintro tg8 ⟨q4,q5⟩ x t8 m
 replace m:HQ w p0 p1 p2 q4 q5=some x:=m
 unfold HQ at m
 refine v (vl 1 _ gN rfl rfl rfl (dI nK rfl (v ?_)))
 apply vi m<;>intro c5 m
 refine v (v (v (vq (by kernel_rfl) (vl 1 (.agg (aD p0)) dG rfl rfl rfl (vl 1 _ gN rfl rfl rfl (vx m gU rfl rfl λ_ _ m=>vk WY N7 m rfl rfl λ_ m=>vs (fP m (σ:=Bool) (λs=>[(tg8,.tok 38 37 ((q4:List aE).length*37)),(some k2,.obj 30 (aD p0))]) (λs=>.c 1 (nZ p1) (.c 2 (.sc (.bool p2)) (.c 3 (.ptr k2 0) (.c 7 (ow tg8 37 (map aJ q4)) (.c 14 (nZ q5) (.c 139 (.sc (.bool s)) .nil)))))) (λx m=> ?_) ?_)))))))
 refine v ?_
 apply vi m<;>intro b6 m
 rw[b6]
 apply vi m<;>intro b7 m
 rw[b7]
 exact nF m
 rw[b7]
 exact nF m
 rw[b6]
 exact nF m
 rintro _ j4 m
 refine oA m (σ:=(List aE)) (τ:=Option bX) (λg s=>[(g,.tok 38 37 ((s:List aE).length*37)),(some k2,.obj 30 (aD p0))]) (λg s=>(g=none->s= [])) (λg s=>.c 1 (nZ p1) (.c 2 (.sc (.bool p2)) (.c 3 (.ptr k2 0) (.c 7 (ow g 37 (map aJ s)) (.c 14 (nZ q5) .nil))))) (λx m=> ?_) ?_
 refine v ?_
 apply vi m<;>intro c6 m
 refine v (vz [(1000000,some k2,.obj 30 (aD p0))] mixed (λu=>⟨λ_=>aN 1 u rfl,trivial⟩) λu=>zC 0 rfl (fC (ow _ _ _) rfl) (zF 1 rfl eH rfl (zL 2 0 (.sl none 3 (map cE p0.Exps)) rfl gN rfl rfl rfl (zI 3 rfl rfl ?_))))
 obtain⟨x3,X0,m⟩:=aC m
 refine zC 4 rfl (l4 X0 gU rfl rfl) (zC 5 rfl (nG yM rfl rfl) (zC 6 rfl (mJ (nZ x3.Seq) cG rfl rfl) (zF 7 rfl eH rfl (zL 8 0 (.sl none 3 (map cE p0.Exps)) rfl gN rfl rfl rfl (zI 9 rfl rfl ?_)))))
 obtain⟨x4,X1,m⟩:=aC m
 refine zC 10 rfl (l4 X1 gU rfl rfl) (zC 11 rfl (nG HD rfl rfl) (zC 12 rfl (mJ (nZ x4.Of) cG rfl rfl) (zC 13 rfl (eQ (aJ ({ Kind:=3,Id:=iC,Seq:=x3.Seq,Of:=x4.Of,Off:=0,Len:=0}:aE)) s9 rfl) (zC 14 rfl (eJ (map aJ ([({ Kind:=3,Id:=iC,Seq:=x3.Seq,Of:=x4.Of,Off:=0,Len:=0}:aE)]:List aE)) lM rfl rfl rfl rfl) ?_))))
 obtain⟨z2,Z2,m⟩:=aC m
 refine zE 15 rfl (fK (c:=aJ) 0 Z2 lM rfl rfl rfl t8 u rfl λtg9 t9 K2=>⟨⟨λ_=>aN 1 K2 rfl,trivial⟩, ?_⟩)
 exact zC 16 rfl (iJ (ow _ _ _) rfl) (zX (qk (f:=.c 7 _ (MX 155 _ _ _ _ _ _ _ _ _ _ _ _ _ _ _ _ _)) K2 rfl (eF m tg9 t9 (lx (.k5 .nil)))))
 exact v (eF m tg8 t8 (lx (.k5 .nil)))
 rintro tg10 j5 t10 m
 exact v (eF m tg10 t10 (lx (.k5 .nil)))
 exact v (lF m tg8 t8 (lx (.k5 .nil)))
 rintro tg11 ⟨r4,r5⟩ t11 m
 refine v (v ?_)
 obtain rfl:=eT m
 exact vr λu=>dW.of1 (.inl rfl) (gK _ _ (ow _ _ _) rfl) (aU (nil_sublist _) u).1 ((eB _ 0 t11 u rfl)) ⟨rfl,rfl⟩
theorem aB7:aP prog 69=true:=by kernel_rfl
def M25 (m:Nat) (p0:aA) (p1:Int):Option ((List aE)):=
 (M69 m p0 p1 false).bind λy6=>some y6
theorem W25 {u:Nat} {p0:aA} {p1:Int} {o:(List aE)} (h:aF) (m:M25 u p0 p1=some o):
 aM prog 25 [.agg (aD p0),nZ p1] h (λr h'=>r= .sl none 37 (map aJ o)/\h'=h):=by
 refine fM 8 [.tmp 4] Tryz.func25 rfl rfl rfl rfl ?_
 unfold M25 at m
 refine v (gX rfl rfl λk2 K3=>v (vl 0 (.agg (aD p0)) dG rfl rfl rfl (vk W69 aB7 m rfl rfl λ_ m=>v ?_)))
 obtain rfl:=eT m
 exact eI rfl
theorem aH6:aP prog 25=true:=by kernel_rfl
def u7 (v:Int) (l:List aS):Bool:=l.any λy=>y.Vol==v
def L2 (x:aB):aE:={ Kind:=1,Id:=x.Id,Seq:=0,Of:=0,Off:=0,Len:=0}
def L4 (x:aI):aE:={ Kind:=2,Id:=iC,Seq:=x.Seq,Of:=0,Off:=0,Len:=0}
def Q0 (x:aQ):aE:={ Kind:=3,Id:=iC,Seq:=x.Seq,Of:=x.Of,Off:=0,Len:=0}
def onL (c:aA) (v:Int):List aE:=(c.Chunks.filter λx=>u7 v x.Locs).map L2++(c.Snaps.filter λx=>u7 v x.Locs).map L4++(c.Exps.filter λx=>u7 v x.Locs).map Q0
theorem m80 {F:Nat} {l:List aS} {b:Bool} {v:Int} (hF:1000<=F) (hl:l.length<=300):YW F l b v=some (u7 v l):=by
 unfold YW WI u7
 have:=m94 (F:=F) (l:=l) (f:=λx0=>NV F x0 v) (λy=>y.Vol==v) (by omega) (by omega) (λx _=>rfl)
 rw[this]
 rfl
theorem gZ {α β ρ:Type} {l:List α} {F:Nat} (acc0:List β) (q:α->Bool) (it:α->β) {body:List β×Int->Option (Lp (List β×Int) ρ)} (hF:l.length < F)
    (hb:∀(i:Nat) (x:α),l[i]? =some x->x∈l->i < l.length->∀acc:List β,acc.length<=acc0.length+i->body (acc,(i:Int))=some (.go (if q x then acc++ [it x] else acc,((i+1:Nat):Int))))
    (he:∀acc,body (acc,(l.length:Int))=some (.brk (acc,(l.length:Int)))):aT body F (acc0,0)=some (.brk (acc0++(l.filter q).map it,(l.length:Int))):=by
  have:=kH (body:=body) (s0:=(acc0,(0:Int))) (n:=l.length) (F:=F) (λi:Nat=>(acc0++((l.take i).filter q).map it,(i:Int))) hF (by simp) (λi hi=>by
    have hlen:((l.take i).filter q).length<=i:=le_trans (length_filter_le _ _) (by rw[length_take]; omega)
    rw[hb i l[i] (getElem?_eq_getElem hi) (getElem_mem hi) hi _ (by rw[length_append,length_map]; omega)]
    rw[List.take_succ_eq_append_getElem hi,filter_append,List.map_append]
    cases hq:q l[i]<;>simp[filter,hq]) (he _)
  simpa using this
theorem m78 {F:Nat} {c:aA} {v:Int} (hF:1000<=F) (h:Sm c):R6 F c (λx0 x1=>YW F x0 x1 v)=some (onL c v):=by
 have hsn:=h.sn
 have hch:=h.ch
 have hex:=h.ex
 unfold R6
 rw[gZ (l:=c.Chunks) [] (λx=>u7 v x.Locs) L2 (by omega) (λi x hx hm hi acc ha=>by
  unfold rU
  rw[f0 (by omega)]
  simp only[a8,hx,bind_some,ofNat_lt,hi,decide_true,if_true,m44 hF h,m80 hF (h.cl x hm).1]
  simp only[List.length_nil] at ha
  rw[bS (by simp; omega)]
  cases u7 v x.Locs<;>rfl) (λacc=>by unfold rU; simp)]
 simp only[aG,nil_append]
 have l1:((c.Chunks.filter λx=>u7 v x.Locs).map L2).length<=400:=by rw[length_map]; exact le_trans (length_filter_le _ _) hch
 rw[gZ (l:=c.Snaps) _ (λx=>u7 v x.Locs) L4 (by omega) (λi x hx hm hi acc ha=>by
  unfold rV
  rw[f0 (by omega)]
  simp only[a8,hx,bind_some,ofNat_lt,hi,decide_true,if_true,m80 hF (h.sl x hm)]
  rw[bS (by simp; omega)]
  cases u7 v x.Locs<;>rfl) (λacc=>by unfold rV; simp)]
 simp only[aG]
 have l2:((c.Snaps.filter λx=>u7 v x.Locs).map L4).length<=12:=by rw[length_map]; exact le_trans (length_filter_le _ _) hsn
 rw[gZ (l:=c.Exps) _ (λx=>u7 v x.Locs) Q0 (by omega) (λi x hx hm hi acc ha=>by
  unfold rW
  rw[f0 (by omega)]
  simp only[a8,hx,bind_some,ofNat_lt,hi,decide_true,if_true,m80 hF (h.el x hm)]
  rw[length_append] at ha
  rw[bS (by simp; omega)]
  cases u7 v x.Locs<;>rfl) (λacc=>by unfold rW; simp)]
 rfl
theorem m37 {F:Nat} {c:aA} {v:Int} (hF:1000<=F) (h:Sm c):YY F c v=some (if f8 c then onL c v else[]):=by
 unfold YY
 rw[m33 hF h,m78 hF h]
 cases f8 c<;>simp
def aMY (c:aA) (v:Int):Nat:=((onL c v).filter λx=>x.Kind !=1 || iS c x.Id).length
theorem SB {c:aA} {l:List aS} (h:iM c l=true):∀x∈l,0<=x.Vol/\x.Vol.toNat < c.Vols.length:=by
 intro x hx
 obtain⟨i,hi,rfl⟩:=getElem_of_mem hx
 unfold iM at h
 simp only[and_eq_true,not_eq_true',any_eq_false,mem_range] at h
 have this:E8 c l i=true:=by simpa using h.2 i hi
 unfold E8 at this
 rw[getElem?_eq_getElem hi] at this
 simp only[and_eq_true,fI,decide_eq_true_eq] at this
 obtain⟨⟨⟨⟨⟨k1,k2⟩, -⟩, -⟩, -⟩, -⟩:=this
 omega
theorem KU {c:aA} (hg:f8 c=true):(∀x∈c.Chunks,iM c x.Locs=true)/\(∀x∈c.Snaps,iM c x.Locs=true)/\(∀x∈c.Exps,iM c x.Locs=true):=by
 unfold f8 vX C2 AQ at hg
 simp only[and_eq_true,not_eq_true',any_eq_false,mem_range] at hg
 obtain⟨⟨⟨⟨-, -⟩,h1, -⟩,h2, -⟩,h3, -⟩:=hg
 refine⟨λx hx=> ?_,λx hx=> ?_,λx hx=> ?_⟩
 ·obtain⟨i,hi,rfl⟩:=getElem_of_mem hx
  have this:IY c i=true:=by simpa using h1 i hi
  unfold IY at this
  rw[getElem?_eq_getElem hi] at this
  simp only[and_eq_true] at this
  exact this.1.2
 ·obtain⟨i,hi,rfl⟩:=getElem_of_mem hx
  have this:D3 c i=true/\GI c i=true:=by simpa using h2 i hi
  replace this:=this.1
  unfold D3 at this
  rw[getElem?_eq_getElem hi] at this
  simp only[and_eq_true] at this
  exact this.2
 ·obtain⟨i,hi,rfl⟩:=getElem_of_mem hx
  have this:z7 c i=true/\KR c i=true:=by simpa using h3 i hi
  replace this:=this.1
  unfold z7 at this
  rw[getElem?_eq_getElem hi] at this
  simp only[and_eq_true] at this
  exact this.2
theorem m65 {F:Nat} {c:aA} {d:bK} (hF:1000<=F) (h:Sm c):WW F c d=some (iS c d):=by
 have hsn:=h.sn
 unfold WW
 rw[tW (l:=c.Snaps) (F:=F) (λs=>s.Man.Parts.any λp=>p.Ids.any λx=>decide (d=x)) true (by omega) (λi s hs hm hi=>by
  obtain⟨-,k2,k3⟩:=h.man s hm
  unfold yZ
  rw[f0 (by omega),tW (l:=s.Man.Parts) (F:=F) (λp=>p.Ids.any λx=>decide (d=x)) (Lp.ret true) (by omega) (λj p hp hm' hj=>by
   have k4:=(k3 p hm').2
   unfold yY
   rw[f0 (by omega),tW (l:=p.Ids) (F:=F) (λx=>decide (d=x)) (Lp.ret (Lp.ret true)) (by omega) (λk x hx _ hk=>by
    unfold yX
    rw[f0 (by omega)]
    simp only[a8,hs,hp,hx,bind_some,ofNat_lt,hk,decide_true,if_true,decide_eq_true_eq,eq_comm (a:=x)]
    split<;>rfl) (by unfold yX; simp[a8,hs,hp])]
   simp only[a8,hs,bind_some,ofNat_lt,hj,decide_true,if_true]
   cases p.Ids.any λx=>decide (d=x)<;>rfl) (by unfold yY; simp[a8,hs])]
  simp only[ofNat_lt,hi,decide_true,if_true]
  cases s.Man.Parts.any λp=>p.Ids.any λx=>decide (d=x)<;>rfl) (by unfold yZ; simp)]
 unfold iS
 cases c.Snaps.any λs=>s.Man.Parts.any λp=>p.Ids.any λx=>decide (d=x)<;>rfl
def U6 (c:aA) (p need:Int) (r:List Int) (nt st:Int) (i:Nat):Bool:=match c.Vols[i]?,r[i]? with
 | some x,some z=>x.Pool==p && (i:Int) !=nt && x.State==st && decide (need<=z)
 | _,_=>false
def qX {α:Type} (l:List α) (q:α->Bool):Int:=match (range l.length).find? λi=>(l[i]?).any q with
 | none=> -1
 | some i=>(i:Int)
theorem kM {α:Type} {l:List α} (q:α->Bool) {F:Nat} {body:Int->Option (Lp Int Int)} (hF:l.length < F)
    (hb:∀(i:Nat) (x:α),l[i]? =some x->x∈l->i < l.length->body (i:Int)=some (if q x then .ret (i:Int) else .go ((i+1:Nat):Int))) (he:body (l.length:Int)=some (.brk (l.length:Int))):
    (after (aT body F 0) λ_=>some (-1))=some (qX l q):=by
  rw[fB (s0:=(0:Int)) (n:=l.length) (F:=F) (λi:Nat=>(i:Int)) (λi=>(l[i]?).any q) (λi=>(i:Int)) hF rfl (λi hi _=>by
    rw[hb i l[i] (getElem?_eq_getElem hi) (getElem_mem hi) hi,getElem?_eq_getElem hi]; rfl) (λ_=>he)]
  unfold LF qX
  cases (range l.length).find? λi=>(l[i]?).any q<;>rfl
theorem aH8 {F:Nat} {c:aA} {nm:ByteArray} (hF:1000<=F) (hl:c.Snaps.length < 1000):yT F c nm=some (qX c.Snaps λs=>s.Man.Name.toList==nm.toList):=by
 unfold yT
 refine kM _ (by omega) (λi x hx hm hi=> ?_) (by unfold oZ; simp)
 unfold oZ
 rw[f0 (by omega)]
 simp only[a8,hx,bind_some,ofNat_lt,hi,decide_true,if_true]
 cases x.Man.Name.toList==nm.toList<;>simp
def inP (c:aA) (p:Int) (x:aS):Bool:=fI x.Vol 0 ((c.Vols.length:Int) - 1) && (c.Vols[x.Vol.toNat]?).any λv=>v.Pool==p
theorem m95 {F:Nat} {c:aA} {p:Int} {x:aS} (hv:c.Vols.length < 1000):YX F x c p=some (inP c p x):=by
 unfold YX inP
 rw[wr (by omega) (by omega),UM]
 simp only[bind_some]
 cases h:fI x.Vol 0 ((c.Vols.length:Int) - 1)
 ·rfl
 ·have h':0<=x.Vol/\x.Vol<=(c.Vols.length:Int) - 1:=by simpa [fI] using h
  have hi:x.Vol.toNat < c.Vols.length:=by omega
  simp only[if_true,m5 _ h'.1,getElem?_eq_getElem hi,bind_some,aG,any_some,Bool.true_and]
theorem m46 {F:Nat} {c:aA} {l:List aS} {p:Int} (hF:1000<=F) (hv:c.Vols.length < 1000) (hl:l.length<=300):UK F c l p=some (l.any (inP c p)):=by
 unfold UK
 rw[m94 (F:=F) (f:=λx0=>YX F x0 c p) (inP c p) (by omega) (by omega) (λx _=>m95 hv)]
 rfl
def nN (l:List Int):aA:={ Seq:=0,Snaps:=[],Chunks:=[],Exps:=[],Vols:=l.map λp=> { Pool:=p,Epoch:=0,State:=1,Files:=0}}
theorem m32 {F:Nat} {l:List Int} (hF:1000<=F) (hl:l.length<=100):M33 F l=some (nN l):=by
  unfold M33
  rw[kH (s0:=(([]:List aR),(0:Int))) (n:=l.length) (F:=F) (λi:Nat=>((l.take i).map λp=>({ Pool:=p,Epoch:=0,State:=1,Files:=0}:aR),(i:Int))) (by omega) (by simp) (λi hi=>by
      unfold yW
      have hx:l[i]? =some l[i]:=getElem?_eq_getElem hi
      rw[f0 (by omega)]
      simp only[a8,hx,bind_some,ofNat_lt,hi,decide_true,if_true]
      rw[bS (by simp; omega),List.take_succ_eq_append_getElem hi,List.map_append]; rfl) (by unfold yW; simp)]
  simp[nN,after]
def FE (p:Int):Bool:=fI p 0 1
theorem SC {l:List Int} (hl:l.length<=8) (hg:gL gI l):Sm (nN l) where
 g:=by
  refine⟨by simp[nN,gI],λ_ h=>by simp[nN] at h,λ_ h=>by simp[nN] at h,λ_ h=>by simp[nN] at h,λx hx=> ?_⟩
  obtain⟨p,hp,rfl⟩:=mem_map.1 hx
  exact⟨hg p hp,by simp[gI],by simp[gI],by simp[gI]⟩
 sn:=by simp[nN]
 ch:=by simp[nN]
 ex:=by simp[nN]
 vo:=by simp[nN]; omega
 sl:=by simp[nN]
 man:=by simp[nN]
 cl:=by simp[nN]
 el:=by simp[nN]
theorem KW {l:List Int} (hl:fI l.length 1 8=true) (hp:l.all FE=true):f8 (nN l)=true:=by
 have h1:(nN l).Vols.all mD=true:=by
  rw[all_eq_true]
  intro x hx
  obtain⟨p,hq,rfl⟩:=mem_map.1 hx
  have:=all_eq_true.1 hp p hq
  simp only[FE,fI,and_eq_true,decide_eq_true_eq] at this
  simp[mD,fI,this.1,this.2]
 have h2:(nN l).Vols.length=l.length:=by simp[nN]
 unfold f8
 rw[h1,h2,hl]
 simp[nN,vX,C2,AQ,fI]
theorem WZ {c:aA} (hg:f8 c=true) {i:Nat} {s:aI} (hs:c.Snaps[i]? =some s):D3 c i=true/\KS c s.Man=true:=by
 unfold f8 C2 at hg
 simp only[and_eq_true,not_eq_true',any_eq_false,mem_range] at hg
 obtain⟨⟨⟨⟨-, -⟩, -, -⟩,h2, -⟩, -, -⟩:=hg
 have h:=h2 i (List.getElem?_eq_some_iff.1 hs).1
 have h:D3 c i=true/\GI c i=true:=by simpa using h
 refine⟨h.1, ?_⟩
 have:=h.2
 unfold GI at this
 rw[hs] at this
 exact this
theorem W0 {c:aA} (hg:f8 c=true) {i:Nat} {x:aB} (hs:c.Chunks[i]? =some x):IY c i=true:=by
 unfold f8 vX at hg
 simp only[and_eq_true,not_eq_true',any_eq_false,mem_range] at hg
 obtain⟨⟨⟨⟨-, -⟩,h1, -⟩, -, -⟩, -, -⟩:=hg
 have h:=h1 i (List.getElem?_eq_some_iff.1 hs).1
 simpa using h
theorem KX {c:aA} (hg:f8 c=true):c.Vols.all mD=true:=by
 unfold f8 at hg
 simp only[and_eq_true] at hg
 exact hg.1.1.1.2.1
theorem YZ {c:aA} (hg:f8 c=true) {l:List aS} (hl:iM c l=true) (hne:l≠ []):l.any (inP c 0)=true\/l.any (inP c 1)=true:=by
 cases l with
 | nil=>exact absurd rfl hne
 | cons x l=>
  obtain⟨h1,h2⟩:=SB hl x (by simp)
  have hv:c.Vols[x.Vol.toNat]? =some c.Vols[x.Vol.toNat]:=getElem?_eq_getElem h2
  have hb:=all_eq_true.1 (KX hg) _ (getElem_mem h2)
  unfold mD fI at hb
  simp only[and_eq_true,decide_eq_true_eq] at hb
  have hr:fI x.Vol 0 ((c.Vols.length:Int) - 1)=true:=by
   simp only[fI,and_eq_true,decide_eq_true_eq]; omega
  have:c.Vols[x.Vol.toNat].Pool=0\/c.Vols[x.Vol.toNat].Pool=1:=by omega
  rcases this with e | e
  ·left; simp only[any_cons,inP,hr,hv,any_some,e]; simp
  ·right; simp only[any_cons,inP,hr,hv,any_some,e]; simp
structure Rng (c:aA):Prop where
 seq:0<=c.Seq/\c.Seq<=1073741824
 sn:c.Snaps.length<=8
 ch:c.Chunks.length<=200
 ex:c.Exps.length<=200
 vo:c.Vols.length<=8
 s:∀s∈c.Snaps,0<=s.Seq/\s.Seq < c.Seq/\vY s.Man=true/\iM c s.Locs=true
 k:∀x∈c.Chunks,x.Data.length<=64/\iM c x.Locs=true
 e:∀x∈c.Exps,0<=x.Seq/\x.Seq < c.Seq/\0<=x.Of/\x.Of < c.Seq/\iM c x.Locs=true
 v:∀x∈c.Vols,0<=x.Pool/\x.Pool<=1/\0<=x.Epoch/\x.Epoch<=1048576/\1<=x.State/\x.State<=3/\0<=x.Files/\x.Files<=65535
theorem rng {c:aA} (hg:f8 c=true):Rng c:=by
 obtain⟨q1,q2,q3⟩:=KU hg
 have hg0:=hg
 unfold f8 at hg0
 simp only[and_eq_true,fI,decide_eq_true_eq] at hg0
 obtain⟨⟨⟨⟨g1,g2,g3⟩,g4,g5⟩,g6,g7⟩,g8,g9⟩:=hg0
 refine⟨g1,g7,g5,g9,by omega,λs hs=> ?_,λx hx=>⟨?_,q1 x hx⟩,λx hx=> ?_,λx hx=> ?_⟩
 ·obtain⟨i,hi,rfl⟩:=getElem_of_mem hs
  have:=(WZ hg (getElem?_eq_getElem hi)).1
  unfold D3 at this
  rw[getElem?_eq_getElem hi] at this
  simp only[and_eq_true,fI,decide_eq_true_eq] at this
  obtain⟨⟨⟨⟨h1,h2⟩,h3⟩,h4⟩,h5⟩:=this
  exact⟨h1.1,by omega,h4,h5⟩
 ·obtain⟨i,hi,rfl⟩:=getElem_of_mem hx
  have:=W0 hg (getElem?_eq_getElem hi)
  unfold IY at this
  rw[getElem?_eq_getElem hi] at this
  simp only[and_eq_true] at this
  have:=this.2
  split at this
  ·simp only[fI,and_eq_true,decide_eq_true_eq] at this; omega
  ·simp only[and_eq_true,not_eq_true',decide_eq_false_iff_not] at this; omega
 ·obtain⟨i,hi,rfl⟩:=getElem_of_mem hx
  unfold AQ at g8
  simp only[not_eq_true',any_eq_false,mem_range] at g8
  have:=g8 i hi
  have this:z7 c i=true/\KR c i=true:=by simpa using this
  have:=this.1
  unfold z7 at this
  rw[getElem?_eq_getElem hi] at this
  simp only[and_eq_true,fI,decide_eq_true_eq] at this
  obtain⟨⟨⟨⟨h1,h2⟩,h3⟩,h4⟩,h5⟩:=this
  exact⟨h1.1,by omega,h3.1,by omega,h5⟩
 ·have hb:=all_eq_true.1 g2 x hx
  unfold mD fI at hb
  simp only[and_eq_true,Bool.or_eq_true,decide_eq_true_eq,beq_iff_eq] at hb
  omega
theorem i1:((1:Nat):Int)=1:=rfl
theorem i2:((2:Nat):Int)=2:=rfl
theorem i4:((4:Nat):Int)=4:=rfl
theorem N8 {α:Type} {R:α->α->Prop} (tr:∀a b c,R a b->R b c->R a c):∀ {l:List α},(∀(i:Nat) (x y:α),l[i]? =some y->l[i+1]? =some x->R y x)->l.Pairwise R
 | [],_=>.nil
 | [a],_=>List.pairwise_singleton _ _
 | a::b::t,h=>by
  have ih:(b::t).Pairwise R:=N8 tr λi x y h1 h2=>h (i+1) x y (by simpa using h1) (by simpa using h2)
  have ab:R a b:=h 0 b a rfl rfl
  refine List.pairwise_cons.2 ⟨λz hz=> ?_,ih⟩
  rcases mem_cons.1 hz with rfl | hz
  ·exact ab
  ·exact tr _ _ _ ab ((List.pairwise_cons.1 ih).1 z hz)
theorem W2 {α:Type} {R:α->α->Prop} {l:List α} (h:l.Pairwise R) {i:Nat} {x y:α} (hy:l[i]? =some y) (hx:l[i+1]? =some x):R y x:=by
 obtain⟨h1,e1⟩:=List.getElem?_eq_some_iff.1 hy
 obtain⟨h2,e2⟩:=List.getElem?_eq_some_iff.1 hx
 have:=List.pairwise_iff_getElem.1 h i (i+1) h1 h2 (by omega)
 rwa [e1,e2] at this
theorem p9 {α:Type} {q:α->α->Bool} (tr:∀a b c,q b a=true->q c b=true->q c a=true) (l:List α):
    (∀(i:Nat) (x:α),l[i]? =some x->(i==0 || ((l[i - 1]?).all (q x)))=true)↔l.Pairwise λy x=>q x y=true:=by
  constructor
  . intro h
    refine N8 (λa b c h1 h2=>tr a b c h1 h2) λi x y hy hx=> ?_
    have:=h (i+1) x hx
    simpa [hy] using this
  . intro h i x hx
    cases i with
    | zero=>rfl
    | succ i=>
      obtain⟨h1,e1⟩:=List.getElem?_eq_some_iff.1 hx
      have hy:l[i]? =some l[i]:=getElem?_eq_getElem (by omega)
      have:=W2 h hy hx
      simp[hy,this]
theorem xB (a b:aS):jV a b=true↔b.Vol < a.Vol\/(a.Vol=b.Vol/\(b.File < a.File\/(a.File=b.File/\b.Off < a.Off))):=by
 unfold jV
 by_cases e1:a.Vol=b.Vol<;>by_cases f1:a.File=b.File<;>simp[e1,f1]
theorem zA (a b c:aS) (h1:jV b a=true) (h2:jV c b=true):jV c a=true:=by
 rw[xB] at*
 omega
def tX (vs:List aR) (x:aS):Bool:=fI x.Vol 0 ((vs.length:Int) - 1) && (match vs[x.Vol.toNat]? with | none=>false | some v=>v.State==2 && fI x.File 1 v.Files) && fI x.Off 0 16777215 && fI x.Len 13 8013
structure Lk (vs:List aR) (l:List aS):Prop where
 n:l.length<=200
 a:∀x∈l,tX vs x=true
 o:l.Pairwise λy x=>jV x y=true
theorem m7 {α:Type} {l:List α} {P:α->Prop}:(∀x∈l,P x)↔∀(i:Nat) (x:α),l[i]? =some x->P x:=by
 constructor
 ·exact λh i x hx=>h x (mem_of_getElem? hx)
 ·intro h x hx
  obtain⟨i,hi,rfl⟩:=getElem_of_mem hx
  exact h i _ (getElem?_eq_getElem hi)
theorem o5 {α:Type} {l:List α} {q:Nat->Bool} {P:Nat->α->Prop} (h:∀(i:Nat) (x:α),l[i]? =some x->(q i=true↔P i x)):(!(range l.length).any λi=> !q i)=true↔∀(i:Nat) (x:α),l[i]? =some x->P i x:=by
 simp only[not_eq_true',any_eq_false,mem_range,not_eq_true,Bool.not_eq_false']
 constructor
 ·intro k i x hx
  exact(h i x hx).1 (by simpa using k i (List.getElem?_eq_some_iff.1 hx).1)
 ·intro k i hi
  have:=(h i _ (getElem?_eq_getElem hi)).2 (k i _ (getElem?_eq_getElem hi))
  simpa using this
theorem oG {c:aA} {l:List aS}:iM c l=true↔Lk c.Vols l:=by
 unfold iM
 rw[and_eq_true,o5 (P:=λi x=>tX c.Vols x=true/\(i==0 || ((l[i - 1]?).all (jV x)))=true) (λi x hx=>by
  unfold E8 tX
  rw[hx]
  cases l[i - 1]?<;>simp only[and_eq_true,all_none,all_some]<;>exact Iff.rfl)]
 constructor
 ·rintro⟨h1,h2⟩
  exact⟨of_decide_eq_true h1,m7.2 λi x hx=>(h2 i x hx).1,(p9 zA l).1 λi x hx=>(h2 i x hx).2⟩
 ·intro h
  exact⟨decide_eq_true h.n,λi x hx=>⟨h.a x (mem_of_getElem? hx),(p9 zA l).2 h.o i x hx⟩⟩
structure Gd (c:aA):Prop where
 q:fI c.Seq 0 1073741824=true
 v:∀v∈c.Vols,mD v=true
 vn:fI c.Vols.length 1 8=true
 cn:c.Chunks.length<=200
 co:c.Chunks.Pairwise λy x=>ky y.Id < ky x.Id
 cl:∀x∈c.Chunks,Lk c.Vols x.Locs
 cs:∀x∈c.Chunks,if x.Staged then fI x.Data.length 1 64=true else x.Data= []/\x.Locs≠ []
 sn:c.Snaps.length<=8
 so:c.Snaps.Pairwise λy x=>y.Seq < x.Seq
 sq:∀s∈c.Snaps,fI s.Seq 0 (c.Seq - 1)=true
 sm:c.Snaps.Pairwise λy x=>(x.Man.Name==y.Man.Name)=false
 sb:∀s∈c.Snaps,vY s.Man=true
 sl:∀s∈c.Snaps,Lk c.Vols s.Locs
 sp:∀s∈c.Snaps,KS c s.Man=true
 en:c.Exps.length<=200
 eo:c.Exps.Pairwise λy x=>y.Seq < x.Seq
 eq:∀x∈c.Exps,fI x.Seq 0 (c.Seq - 1)=true/\fI x.Of 0 (x.Seq - 1)=true
 el:∀x∈c.Exps,Lk c.Vols x.Locs
 ee:∀x∈c.Exps,x.Locs≠ []
 ex:∀x∈c.Exps,∀s∈c.Snaps,s.Seq≠x.Of
theorem I0 {β:Type} {f:β->β->Bool} (l:List β):(∀(i:Nat) (x:β),l[i]? =some x->(!((l.take i).any λy=>f x y))=true)↔l.Pairwise λy x=>f x y=false:=by
 rw[List.pairwise_iff_getElem]
 constructor
 ·intro h i j hi hj hij
  have:=h j _ (getElem?_eq_getElem hj)
  simp only[not_eq_true',any_eq_false,not_eq_true] at this
  exact this l[i] (mem_of_getElem? (i:=i) (by rw[List.getElem?_take_of_lt hij]; exact getElem?_eq_getElem hi))
 ·intro h j x hx
  obtain⟨hj,rfl⟩:=List.getElem?_eq_some_iff.1 hx
  simp only[not_eq_true',any_eq_false,not_eq_true]
  intro y hy
  obtain⟨i,hi,rfl⟩:=getElem_of_mem hy
  simp only[length_take] at hi
  rw[List.getElem_take]
  exact h i j (by omega) hj (by omega)
theorem jP {c:aA}:f8 c=true↔Gd c:=by
  have trS:∀a b d:aI,decide (a.Seq < b.Seq)=true->decide (b.Seq < d.Seq)=true->decide (a.Seq < d.Seq)=true:=λa b d h1 h2=>decide_eq_true (by have:=of_decide_eq_true h1; have:=of_decide_eq_true h2; omega)
  have trE:∀a b d:aQ,decide (a.Seq < b.Seq)=true->decide (b.Seq < d.Seq)=true->decide (a.Seq < d.Seq)=true:=λa b d h1 h2=>decide_eq_true (by have:=of_decide_eq_true h1; have:=of_decide_eq_true h2; omega)
  have trC:∀a b d:aB,decide (ky a.Id < ky b.Id)=true->decide (ky b.Id < ky d.Id)=true->decide (ky a.Id < ky d.Id)=true:=λa b d h1 h2=>decide_eq_true (by have:=of_decide_eq_true h1; have:=of_decide_eq_true h2; omega)
  unfold f8 vX C2 AQ
  simp only[and_eq_true]
  rw[o5 (l:=c.Chunks) (P:=λi x=>((i==0 || ((c.Chunks[i - 1]?).all λy=>decide (ky y.Id < ky x.Id)))=true/\iM c x.Locs=true)/\(if x.Staged then fI x.Data.length 1 64 else (!decide (0 < x.Data.length) && !(x.Locs.length==0)))=true) (λi x hx=>by
      unfold IY; rw[hx]; cases c.Chunks[i - 1]?<;>simp only[and_eq_true,all_none,all_some]<;>exact Iff.rfl),
    o5 (l:=c.Snaps) (P:=λi s=>((((fI s.Seq 0 (c.Seq - 1)=true/\(i==0 || ((c.Snaps[i - 1]?).all λy=>decide (y.Seq < s.Seq)))=true)/\(!((c.Snaps.take i).any λy=>s.Man.Name==y.Man.Name))=true)/\vY s.Man=true)/\iM c s.Locs=true)/\KS c s.Man=true) (λi x hx=>by
      unfold D3 GI; rw[hx]; cases c.Snaps[i - 1]?<;>simp only[and_eq_true,all_none,all_some]<;>exact Iff.rfl),
    o5 (l:=c.Exps) (P:=λi x=>((((fI x.Seq 0 (c.Seq - 1)=true/\(i==0 || ((c.Exps[i - 1]?).all λy=>decide (y.Seq < x.Seq)))=true)/\fI x.Of 0 (x.Seq - 1)=true)/\(!(x.Locs.length==0))=true)/\iM c x.Locs=true)/\(!c.Snaps.any λs=>s.Seq==x.Of)=true) (λi x hx=>by
      unfold z7 KR; rw[hx]; cases c.Exps[i - 1]?<;>simp only[and_eq_true,all_none,all_some]<;>exact Iff.rfl)]
  constructor
  . rintro⟨⟨⟨⟨h1,h2,h3⟩,hc,h4⟩,hs,h5⟩,he,h6⟩
    refine⟨h1,all_eq_true.1 h2,h3,of_decide_eq_true h4, ?_,m7.2 λi x hx=>oG.1 (hc i x hx).1.2,m7.2 λi x hx=> ?_,of_decide_eq_true h5, ?_,m7.2 λi x hx=>(hs i x hx).1.1.1.1.1,(I0 (f:=λs y:aI=>s.Man.Name==y.Man.Name) c.Snaps).1 λi x hx=>(hs i x hx).1.1.1.2,m7.2 λi x hx=>(hs i x hx).1.1.2,m7.2 λi x hx=>oG.1 (hs i x hx).1.2,m7.2 λi x hx=>(hs i x hx).2,of_decide_eq_true h6, ?_,m7.2 λi x hx=>⟨(he i x hx).1.1.1.1.1,(he i x hx).1.1.1.2⟩,m7.2 λi x hx=>oG.1 (he i x hx).1.2,m7.2 λi x hx=> ?_,m7.2 λi x hx=> ?_⟩
    . exact((p9 (q:=λx y:aB=>decide (ky y.Id < ky x.Id)) trC c.Chunks).1 λi x hx=>(hc i x hx).1.1).imp λh=>of_decide_eq_true h
    . have:=(hc i x hx).2
      cases hst:x.Staged<;>rw[hst] at this
      . simp only[false_eq_true,if_false,and_eq_true] at this ⊢
        obtain⟨t1,t2⟩:=this
        refine⟨?_, ?_⟩
        . cases hd:x.Data with
          | nil=>rfl
          | cons a b=>rw[hd] at t1; simp at t1
        . intro e; rw[e] at t2; simp at t2
      . simpa using this
    . exact((p9 (q:=λx y:aI=>decide (y.Seq < x.Seq)) trS c.Snaps).1 λi x hx=>(hs i x hx).1.1.1.1.2).imp λh=>of_decide_eq_true h
    . exact((p9 (q:=λx y:aQ=>decide (y.Seq < x.Seq)) trE c.Exps).1 λi x hx=>(he i x hx).1.1.1.1.2).imp λh=>of_decide_eq_true h
    . intro e
      have:=(he i x hx).1.1.2
      rw[e] at this
      simp at this
    . have:=(he i x hx).2
      simp only[not_eq_true',any_eq_false,beq_iff_eq] at this
      exact this
  . intro h
    refine⟨⟨⟨⟨h.q,all_eq_true.2 h.v,h.vn⟩,λi x hx=> ?_,decide_eq_true h.cn⟩,λi x hx=> ?_,decide_eq_true h.sn⟩,λi x hx=> ?_,decide_eq_true h.en⟩
    . have hm:=mem_of_getElem? hx
      refine⟨⟨(p9 (q:=λx y:aB=>decide (ky y.Id < ky x.Id)) trC c.Chunks).2 (h.co.imp λh=>decide_eq_true h) i x hx,oG.2 (h.cl x hm)⟩, ?_⟩
      have:=h.cs x hm
      cases hst:x.Staged<;>rw[hst] at this
      . simp only[false_eq_true,if_false] at this ⊢
        obtain⟨t1,t2⟩:=this
        rw[t1]
        simp[t2]
      . simpa using this
    . have hm:=mem_of_getElem? hx
      exact⟨⟨⟨⟨⟨h.sq x hm,(p9 (q:=λx y:aI=>decide (y.Seq < x.Seq)) trS c.Snaps).2 (h.so.imp λh=>decide_eq_true h) i x hx⟩,(I0 (f:=λs y:aI=>s.Man.Name==y.Man.Name) c.Snaps).2 h.sm i x hx⟩,h.sb x hm⟩,oG.2 (h.sl x hm)⟩,h.sp x hm⟩
    . have hm:=mem_of_getElem? hx
      refine⟨⟨⟨⟨⟨(h.eq x hm).1,(p9 (q:=λx y:aQ=>decide (y.Seq < x.Seq)) trE c.Exps).2 (h.eo.imp λh=>decide_eq_true h) i x hx⟩,(h.eq x hm).2⟩,by simp[h.ee x hm]⟩,oG.2 (h.el x hm)⟩, ?_⟩
      simp only[not_eq_true',any_eq_false,beq_iff_eq]
      exact h.ex x hm
def AR (m:Nat) (p0:List aS):Option (List aS):=app [] p0
theorem SD {w:Nat} {p0:List aS} {o:List aS} (h:aF) (m:AR w p0=some o):
 aM prog 67 [.sl none 4 (map aO p0)] h (λr h'=>∃g:cY,bJ g 4 o.length/\bT h [(g.t,.obj 81 (fl aO o g.sp))]/\r=aZ g/\h'=hp h [(g.t,.obj 81 (fl aO o g.sp))]):=by
 refine iZ 8 [.tmp 2] Tryz.func67 rfl rfl rfl rfl ?_
 unfold AR at m
 refine gA λK1 H1=>dV (qN (iJ (.sc (.slice _ _ _)) rfl) (e8 (H1 _ _ (gA λK1 H1=>gA λK2 H2=>dV (vE rfl (kU (jU rfl (by rw[jH]; rfl) (by rw[bI]; exact rfl) (.inl ⟨_,_,_,rfl,λb hb=> ?_⟩))))))))
 refine e8 (H2 _ _ (mV rfl (λhc=> ?_) (λhc=> ?_)))
 have h0:p0= []:=by
   cases p0 with
   | nil=>rfl
   | cons x l=>have:=hb (by simp); rw[this] at hc; cases hc
 subst h0
 obtain⟨rfl, -⟩:=jM m
 exact gA λK1 H1=>dV (qN (iJ (.sc (.slice _ _ _)) rfl) (e8 (H1 _ _ (iI (dW.one (.inl rfl) (iG.refl _) (fU _) ⟨g0,bJ.g0 _,bT.none (bT.nil _),rfl,rfl⟩)))))
 exact lQ (H1 _ _ (gA λK1 H1=>dV (kU (qP (c:=aO) (bT.nil _) pN λu=>vE rfl (kU (gQ (c:=aO) 0 m pN rfl EX rfl eL rfl rfl (bJ.g0 _) u rfl λg ok u=>qN (iJ (aw _ _ _) rfl) (e8 (H1 _ _ (iI (dW.one (.inl rfl) (iG.refl _) (bD.refl _ _) ⟨g,ok,u,rfl,rfl⟩))))))))))
theorem SF:aP prog 67=true:=by kernel_rfl
def qA (m:Nat) (p0:List aS) (p1:aS->Option Bool) (q0:Int):Option (Lp (Int) (Int)):=
 if decide (q0 < (p0.length:Int)) then ((ix p0 q0).bind λx0=>(p1 x0).bind λy0=>if y0 then Rk q0 else Gk (wrap .i64 (q0+1))) else Bk q0
def FF (m:Nat) (p0:List aS) (p1:aS->Option Bool):Option (Int):=
 after (aT (λs=>qA m p0 p1 s) m 0) λr0=>some (-1)
theorem aB9 {w:Nat} {p0:List aS} {p1:aS->Option Bool} {o:Int} (h:aF) {g_p0:cY} (ok_p0:bJ g_p0 4 p0.length) (K0:bT h [(dO g_p0 p0)]) {p1F:Nat} {p1C:List AV} (p1B:aP prog p1F=true) (p1H:∀x0 o h0,iG h h0->p1 x0=some o->aM prog p1F ([.agg (aO x0)]++p1C) h0 (λr h'=>r= .sc (.bool o)/\h'=h0)) (m:FF w p0 p1=some o):
 aM prog 108 [aZ g_p0,.fn (.func p1F) p1C] (hp h [(dO g_p0 p0)]) (λr h'=>r=nZ o/\h'=hp h [(dO g_p0 p0)]):=by
 refine z9 K0 19 [.tmp 4] Tryz.func108 rfl rfl rfl rfl ?_
 unfold FF at m
 refine vs (v0 (vs (vs (v0 (bV (eC kC ok_p0 rfl) (jT m (σ:=Int) (λs=>[(dO g_p0 p0)]) (λs=>.c 0 (aZ g_p0) (.c 1 (.fn (.func p1F) p1C) (.c 7 (nZ (p0.length:Int)) (.c 8 (nZ s) .nil)))) (lx (.k4 .nil)) ?_ ?_))))))
 rintro _ q0 x m
 replace m:qA w p0 p1 q0=some x:=m
 unfold qA at m
 refine vs (v0 (vs (v0 ?_)))
 apply vi m<;>intro c0 m
 refine v0 (vs (v0 (vs (v0 (vs (v0 ?_))))))
 obtain⟨x1,X0,m⟩:=aC m
 refine bV (cQ X0 jH ok_p0 rfl rfl) (vn (λu=>dX (fo:=0) (.agg (aO x1)) X0 eL ok_p0 nM rfl (aN 0 u rfl) (λ_=>rfl)) ?_)
 obtain⟨_,Y0,m⟩:=aC m
 refine vn (λu=>bW (p1H _ _ _ (aU (nil_sublist _) u).1 Y0) rfl p1B rfl) (v0 ?_)
 apply vi m<;>intro c1 m
 refine vs (v0 (v0 (gM m λm=> ?_)))
 obtain rfl:=eT m
 exact vr λu=>dW.of1 (.inl rfl) (gK _ _ (.sc (.int _ _)) rfl) (bR u [0] rfl).2 (bD.refl _ _) ⟨rfl,rfl⟩
 exact v0 (v0 (fV m))
 exact v0 (u0 m)
 rintro _ r0 m
 refine vs (v0 (v0 ?_))
 cases m
 exact vr λu=>dW.of1 (.inl rfl) (gK _ _ (.sc (.int _ _)) rfl) (bR u [0] rfl).2 (bD.refl _ _) ⟨rfl,rfl⟩
def qR (m:Nat) (p1:aS->Option Bool) (q0:List aS) (q1:Int) (q2:Int):Option (Lp ((List aS)×Int×Int) ((List aS))):=
 if decide (q2 < (q0.length:Int)) then ((ix q0 q2).bind λx0=>(p1 x0).bind λy0=>after (if (!y0)then ((ix q0 q1).bind λ_=>Bk (q0.set q1.toNat (x0),wrap .i64 (q1+1))) else Bk (q0,q1):Option (Lp ((List aS)×Int) (Lp ((List aS)×Int×Int) ((List aS))))) λ⟨j0,j1⟩=>Gk (j0,j1,wrap .i64 (q2+1))) else Bk (q0,q1,q2)
def KY (m:Nat) (p0:List aS) (p1:aS->Option Bool):Option ((List aS)):=
 (FF m p0 p1).bind λy3=>if (y3==(-1))then (some p0) else after (aT (λs=>qR m p1 s.1 s.2.1 s.2.2) m (p0,y3,wrap .i64 (y3+1))) λ⟨r0,r1,r2⟩=>grd (decide (0<=r1) && decide (r1 < (r0.length:Int))) <| grd (decide (0<=r1) && decide (r1<=(r0.length:Int))) <| some (r0.take r1.toNat)
theorem aCA {w:Nat} {p0:List aS} {p1:aS->Option Bool} {o:(List aS)} (h:aF) {g_p0:cY} (ok_p0:bJ g_p0 4 p0.length) (K0:bT h [(dO g_p0 p0)]) {p1F:Nat} {p1C:List AV} (p1B:aP prog p1F=true) (p1H:∀x0 o h0,iG h h0->p1 x0=some o->aM prog p1F ([.agg (aO x0)]++p1C) h0 (λr h'=>r= .sc (.bool o)/\h'=h0)) (m:KY w p0 p1=some o):
 aM prog 66 [aZ g_p0,.fn (.func p1F) p1C] (hp h [(dO g_p0 p0)]) (λr h'=>∃g:cY,bJ g 4 o.length/\bT h [(g.t,.obj 81 (fl aO o g.sp))]/\r=aZ g/\h'=hp h [(g.t,.obj 81 (fl aO o g.sp))]):=by
 refine z9 K0 42 [.tmp 4] Tryz.func66 rfl rfl rfl rfl ?_
 unfold KY at m
 refine vs (v0 (vs (v0 ?_)))
 obtain⟨_,Y4,m⟩:=aC m
 refine ve λu=>eA ((bB u [0] rfl rfl).1.trans (cM h [(dO g_p0 p0)] []).symm) (dD (aB9 (hp h []) ok_p0 (cJ [(dO g_p0 p0)] [] (bB u [0] rfl rfl).2).2 p1B (λx0 o h0 hs ho=>p1H x0 o h0 ((aU (nil_sublist _) (cJ [(dO g_p0 p0)] [] (bB u [0] rfl rfl).2).1).1.trans hs) ho) Y4) rfl UJ rfl ?_)
 rintro x h' ⟨rfl,rfl⟩
 refine qk u ((cM h [(dO g_p0 p0)] []).trans (bB u [0] rfl rfl).1.symm) (vs (vs (v0 (v0 ?_))))
 apply vi m<;>intro c7 m
 refine vs (v0 (v0 ?_))
 obtain rfl:=eT m
 exact vr λu=>dW.one (.inl rfl) (aU (h0:=h) (L':=[(dO g_p0 p0)]) (.refl _) u).1 (bD.refl _ _) ⟨g_p0,ok_p0,(aU (h0:=h) (L':=[(dO g_p0 p0)]) (.refl _) u).2,rfl,rfl⟩
 refine v0 (vs (vs (v0 (nE m (σ:=(List aS)×Int×Int) (τ:=cY) (λg s=>[(dO g s.1)]) (λg s=>bJ g 4 (s.1:List aS).length) (λg s=>.c 0 (aZ g) (.c 1 (.fn (.func p1F) p1C) (.c 5 (nZ s.2.1) (.c 6 (nZ s.2.2) .nil)))) g_p0 ok_p0 (lx (.k4 .nil)) ?_ ?_))))
 rintro ag0 ⟨q0,q1,q2⟩ x O0 m
 replace m:qR w p1 q0 q1 q2=some x:=m
 unfold qR at m
 refine vs (vs (v0 (bV (eC kC O0 rfl) (v0 ?_))))
 apply vi m<;>intro c0 m
 refine v0 (vs (v0 (vs (v0 ?_))))
 obtain⟨x1,X0,m⟩:=aC m
 refine bV (cQ X0 jH O0 rfl rfl) (vn (λu=>dX (fo:=0) (.agg (aO x1)) X0 eL O0 nM rfl (aN 0 u rfl) (λ_=>rfl)) (ve λu=>bE (J1) u EX rfl rfl λk86 K1=>qk K1 rfl (ve λu=>aL 0 (aO x1) u rfl rfl rfl rfl NE rfl rfl λK2=>qk K2 rfl (vs (v0 (vl 0 (.agg (aO x1)) nM rfl rfl rfl ?_))))))
 obtain⟨_,Y0,m⟩:=aC m
 refine vn (λu=>bW (p1H _ _ _ (aU (nil_sublist _) u).1 Y0) rfl p1B rfl) (oA m (σ:=(List aS)×Int) (τ:=cY) (λg s=>[(some k86,.obj 81 (aO x1)),(dO g s.1)]) (λg s=>bJ g 4 (s.1:List aS).length) (λg s=>.c 0 (aZ g) (.c 1 (.fn (.func p1F) p1C) (.c 5 (nZ s.2) (.c 6 (nZ q2) .nil)))) (λx m=> ?_) ?_)
 refine v0 ?_
 apply vi m<;>intro c1 m
 refine vs (v0 (vl 0 (.agg (aO x1)) nM rfl rfl rfl ?_))
 obtain⟨_,X1,m⟩:=aC m
 exact bV (cQ X1 jH O0 rfl rfl) (ve λu=>cO (fo:=0) (x1:aS) 1 u X1 eL O0 rfl rfl rfl rfl (cW.refl _ _) NE rfl rfl λK3=>qk K3 rfl (v0 (eF m ag0 (bJ.set O0) (lx (.k4 .nil)))))
 exact v0 (eF m ag0 O0 (lx (.k4 .nil)))
 rintro ag1 ⟨j0,j1⟩ O1 m
 exact v0 (eF m ag1 O1 (mG [1] rfl rfl (.k4 .nil)))
 exact v0 (lF m ag0 O0 (lx (.k4 .nil)))
 rintro ag2 ⟨r0,r1,r2⟩ t0 m
 refine vs (v0 ?_)
 obtain⟨Z0,m⟩:=l6 m
 refine bV (CS Z0 jH t0 rfl rfl) (ve λu=>IS 0 u Z0 eL t0 u42 EX rfl rfl rfl rfl λsp0 O2 K4=>qk K4 rfl (vs (v0 ?_)))
 obtain⟨Z1,m⟩:=l6 m
 refine bV (CT Z1 t0 jH rfl rfl) (v0 ?_)
 cases m
 exact vr λu=>dW.one (.inl rfl) (aU (h0:=h) (L':=[((⟨ag2.t,r1.toNat,ag2.cap,sp0⟩:cY).t,.obj 81 (fl aO (r0.take r1.toNat:List aS) (⟨ag2.t,r1.toNat,ag2.cap,sp0⟩:cY).sp))]) (.refl _) u).1 (bD.refl _ _) ⟨(⟨ag2.t,r1.toNat,ag2.cap,sp0⟩:cY),O2,(aU (h0:=h) (L':=[((⟨ag2.t,r1.toNat,ag2.cap,sp0⟩:cY).t,.obj 81 (fl aO (r0.take r1.toNat:List aS) (⟨ag2.t,r1.toNat,ag2.cap,sp0⟩:cY).sp))]) (.refl _) u).2,rfl,rfl⟩
theorem aCB:aP prog 66=true:=by kernel_rfl
def M65 (m:Nat) (p0:List aS) (p1:Bool) (c0:Int) (c1:aA) (c2:Int):Option (Bool):=
 (AR m p0).bind λy3=>(KY m y3 (λx0=>M68 m x0 c0)).bind λy9=>after (if p1 then ((WI m p0 c0).bind λy0=>if y0 then ((UK m c1 y9 c2).bind λy1=>Bk (!y1)) else Bk false) else Bk false:Option (Lp (Bool) (Bool))) λj0=>some j0
theorem W65 {w:Nat} {p0:List aS} {p1:Bool} {c0:Int} {c1:aA} {c2:Int} {o:Bool} (h:aF) {c0K:bX} (c0H:h c0K=some (.obj 3 (fQ c0))) {c1K:bX} (c1H:h c1K=some (.obj 30 (aD c1))) {c2K:bX} (c2H:h c2K=some (.obj 3 (fQ c2))) (m:M65 w p0 p1 c0 c1 c2=some o):
 aM prog 65 [.sl none 4 (map aO p0),.sc (.bool p1),.ptr c0K 0,.ptr c1K 0,.ptr c2K 0] h (λr h'=>r= .sc (.bool o)/\h'=h):=by
 refine fM 26 [.tmp 7] Tryz.func65 rfl rfl rfl rfl ?_
 unfold M65 at m
 refine vs (v0 (vs (v0 ?_)))
 obtain⟨y3,Y4,m⟩:=aC m
 refine ve λu=>dD (SD _ Y4) rfl SF rfl ?_
 rintro x h' ⟨ag5,O6,K7,rfl,rfl⟩
 refine qk (bT.co u K7) (kW _ _ _) ?_
 obtain⟨y9,Y0,m⟩:=aC m
 refine ve λu=>eA ((bB u [0] rfl rfl).1.trans (cM h [(dO ag5 y3)] []).symm) (dD (aCA (hp h []) O6 (cJ [(dO ag5 y3)] [] (bB u [0] rfl rfl).2).2 aHB (λ_ o h0 hs ho=>W68 _ (hs _ _ (fX (cJ [(dO ag5 y3)] [] (bB u [0] rfl rfl).2).1 c0H)) ho) Y0) rfl aCB rfl ?_)
 rintro x h' ⟨ag0,O0,K0,rfl,rfl⟩
 have K1:=bB (L':=[(dO ag0 y9)]) (cZ (cJ [(dO ag5 y3)] [] (bB u [0] rfl rfl).2).1 K0) [0] rfl rfl
 refine qk K1.2 ((cM h [(dO ag0 y9)] []).trans K1.1) (vs (fP m (σ:=Bool) (λs=>[(dO ag0 y9)]) (λs=>.c 7 (.sc (.bool s)) .nil) (λx m=> ?_) ?_))
 refine v0 ?_
 apply vi m<;>intro b0 m
 rw[b0]
 refine vn (λu=>gO (nZ c0) cG rfl (fX u c0H) rfl) (vk W64 aBR m rfl rfl λ_ m=> ?_)
 apply vi m<;>intro b1 m
 rw[b1]
 refine vn (λu=>gO (.agg (aD c1)) dG rfl (fX u c1H) rfl) (vn (λu=>gO (nZ c2) cG rfl (fX u c2H) rfl) ?_)
 obtain⟨_,Y1,m⟩:=aC m
 exact vn (λu=>bW (fL (.cons (Br.refl _ _) (.cons (Br.aw 0 eL O0 u rfl) (.cons (Br.refl _ _) .nil))) rfl (W21 _ Y1)) rfl R8 rfl) (nI m)
 rw[b1]
 exact nI m
 rw[b0]
 exact nI m
 rintro _ j0 m
 refine v0 ?_
 obtain rfl:=eT m
 exact vr λu=>dW.of1 (.inl rfl) (gK _ _ (.sc (.bool _)) rfl) (aU (nil_sublist _) u).1 (bD.refl _ _) ⟨rfl,rfl⟩
theorem aH9:aP prog 65=true:=by kernel_rfl
def SG (m:Nat) (p0:aA) (p1:Int):Option ((List aE)):=
 after (if decide (p1 < 0) then Bk true else if decide ((p0.Vols.length:Int)<=p1) then Bk true else (QY m p0).bind λy0=>Bk (y0 !=0):Option (Lp (Bool) ((List aE)))) λj0=>if j0 then (some []) else (ix p0.Vols p1).bind λx2=>(R6 m p0 (λx0 x1=>M65 m x0 x1 p1 p0 x2.Pool)).bind λy1=>some y1
theorem W24 {w:Nat} {p0:aA} {p1:Int} {o:(List aE)} (h:aF) (m:SG w p0 p1=some o):
 aM prog 24 [.agg (aD p0),nZ p1] h (λr h'=>r= .sl none 37 (map aJ o)/\h'=h):=by
 refine fM 29 [.tmp 4] Tryz.func24 rfl rfl rfl rfl ?_
 unfold SG at m
 refine v (gX rfl rfl λk2 K3=>gX rfl rfl λk5 K6=>vs (vs (fP m (σ:=Bool) (λs=>[(some k5,.obj 3 (fQ p1)),(some k2,.obj 30 (aD p0))]) (λs=>.c 2 (.ptr k2 0) (.c 3 (.ptr k5 0) (.c 19 (.sc (.bool s)) .nil))) (λx m=> ?_) ?_)))
 refine v (vl 0 _ cG rfl rfl rfl ?_)
 apply vi m<;>intro b0 m
 rw[b0]
 exact hX m
 rw[b0]
 refine vl 0 _ cG rfl rfl rfl (vl 1 _ gH rfl rfl rfl (dI pM rfl ?_))
 apply vi m<;>intro b1 m
 rw[b1]
 exact hX m
 rw[b1]
 exact vl 1 (.agg (aD p0)) dG rfl rfl rfl (vk YT KO m rfl rfl λ_ m=>hX m)
 rintro _ j0 m
 refine v ?_
 apply vi m<;>intro c0 m
 refine v (v ?_)
 cases m
 exact vr λu=>dW.of1 (.inl rfl) (gK _ _ (.sc (.slice _ _ _)) rfl) (aU (nil_sublist _) u).1 (bC _) ⟨rfl,rfl⟩
 refine v (v (vl 1 _ gH rfl rfl rfl (vl 0 _ cG rfl rfl rfl (vx m kZ rfl rfl λx0 _ m=>ve λu=>bE (fQ 0) u zr3 rfl rfl λk25 K0=>qk K0 rfl (ve λu=>aL 0 (fQ x0.Pool) u rfl rfl rfl rfl AA rfl rfl λK1=>qk K1 rfl (v (vl 2 (.agg (aD p0)) dG rfl rfl rfl ?_)))))))
 obtain⟨_,Y0,m⟩:=aC m
 refine vn (λu=>bW (W50 _ aH9 (λ_ _ o h0 hs ho=>W65 _ (hs _ _ (a9 1 u rfl)) (hs _ _ (a9 2 u rfl)) (hs _ _ (a9 0 u rfl)) ho) Y0) rfl WH rfl) (v ?_)
 obtain rfl:=eT m
 exact eI rfl
theorem W4:aP prog 24=true:=by kernel_rfl
theorem i7 {α:Type} {l:List α} {q:α->Bool} (h:l.any q=true):∃(i:Nat) (x:α),qX l q=(i:Int)/\l[i]? =some x/\q x=true/\∀y∈l.take i,q y=false:=by
 unfold qX
 cases e:(range l.length).find? λi=>(l[i]?).any q with
 | none=>
  exfalso
  obtain⟨x,hx,hq⟩:=List.any_eq_true.1 h
  obtain⟨i,hi,rfl⟩:=getElem_of_mem hx
  have:=List.find?_eq_none.1 e i (mem_range.2 hi)
  simp[hi,hq] at this
 | some i=>
  obtain⟨h1,h2,h3⟩:=List.find?_range_eq_some.1 e
  cases e2:l[i]? with
  | none=>rw[e2] at h1; cases h1
  | some x=>
   refine⟨i,x,rfl,e2,by rw[e2] at h1; simpa using h1,λy hy=> ?_⟩
   obtain⟨j,hj,rfl⟩:=getElem_of_mem hy
   rw[length_take] at hj
   have h4:=h3 j (by omega)
   have:l[j]? =some l[j]:=getElem?_eq_getElem (by omega)
   rw[this] at h4
   rw[List.getElem_take]
   simpa using h4
theorem jW {α:Type} {l:List α} {q:α->Bool} (h:l.any q=false):qX l q= -1:=by
 unfold qX
 have:(range l.length).find? (λi=>(l[i]?).any q)=none:=by
  rw[List.find?_eq_none]
  intro i hi
  have hi:=mem_range.1 hi
  rw[getElem?_eq_getElem hi]
  have:=any_eq_false.1 h l[i] (getElem_mem hi)
  simpa using this
 rw[this]
theorem tY {α ρ:Type} {l:List α} {q:α->Bool} {F:Nat} {body:List α×Int×Int->Option (Lp (List α×Int×Int) ρ)} {i0:Nat} {x0:α} (hF:l.length < F) (h0:l[i0]? =some x0) (hq:q x0=true) (hn:∀y∈l.take i0,q y=false)
    (hb:∀(cur:List α) (w r:Nat) (x:α),cur.length=l.length->w < r->r < l.length->cur[r]? =some x->x∈l->body (cur,(w:Int),(r:Int))=some (.go (if q x then (cur,(w:Int),((r+1:Nat):Int)) else (cur.set w x,((w+1:Nat):Int),((r+1:Nat):Int)))))
    (he:∀(cur:List α) (w:Nat),cur.length=l.length->body (cur,(w:Int),(l.length:Int))=some (.brk (cur,(w:Int),(l.length:Int)))):
    ∃(cur:List α) (w:Nat),aT body F (l,(i0:Int),((i0+1:Nat):Int))=some (.brk (cur,(w:Int),(l.length:Int)))/\w < l.length/\cur.length=l.length/\cur.take w=l.filter λx=> !q x:=by
  have hi0:=(List.getElem?_eq_some_iff.1 h0).1
  have hx0:=(List.getElem?_eq_some_iff.1 h0).2
  obtain⟨s,⟨cur,w,e1,e2,e3,e4,e5⟩,h3⟩:=m6 (body:=body) (I:=λk s=>∃(cur:List α) (w:Nat),s=(cur,(w:Int),(k:Int))/\w < k/\cur.length=l.length/\cur.take w=((l.take k).filter λx=> !q x)/\cur.drop k=l.drop k) (n:=l.length) (λk s hk hI=>by
    obtain⟨cur,w,rfl,i2,i3,i4,i5⟩:=hI
    have hx:cur[k]? =l[k]? :=by
      have:=congrArg (λz=>z[0]?) i5
      simpa [List.getElem?_drop] using this
    have hlk:l[k]? =some l[k]:=getElem?_eq_getElem hk
    rw[hlk] at hx
    have htk:=List.take_succ_eq_append_getElem hk
    have hmem:=getElem_mem hk
    generalize l[k]=x at hx htk hmem
    have hd:cur.drop (k+1)=l.drop (k+1):=by
      have:=congrArg (List.drop 1) i5
      simpa [List.drop_drop,Nat.add_comm] using this
    refine⟨_,hb cur w k x i3 i2 hk hx hmem, ?_⟩
    cases hqx:q x
    . refine⟨cur.set w x,w+1,by simp,by omega,by simpa using i3, ?_, ?_⟩
      . rw[htk,filter_append,<- i4]
        have hw:w < (cur.set w x).length:=by rw[length_set]; omega
        rw[List.take_succ_eq_append_getElem hw,List.getElem_set_self,List.take_set_of_le (Nat.le_refl _)]
        simp[filter,hqx]
      . rw[List.drop_set_of_lt (by omega)]
        exact hd
    . refine⟨cur,w,by simp,by omega,i3, ?_,hd⟩
      rw[htk,filter_append,<- i4]
      simp[filter,hqx]) (λs hI=>by
    obtain⟨cur,w,rfl,i2,i3, -⟩:=hI
    exact he cur w i3) F (i0+1) (l,(i0:Int),((i0+1:Nat):Int)) hi0 (by omega) ⟨l,i0,rfl,by omega,rfl,by
      rw[List.take_succ_eq_append_getElem hi0,filter_append,hx0]
      have:(l.take i0).filter (λx=> !q x)=l.take i0:=List.filter_eq_self.2 λy hy=>by simp[hn y hy]
      rw[this]
      simp[filter,hq],rfl⟩
  subst e1
  refine⟨cur,w,h3,by omega,e3, ?_⟩
  rw[e4,List.take_length]
theorem m83 {F:Nat} {l:List aS} {f:aS->Option Bool} (q:aS->Bool) (hF:1000<=F) (hl:l.length<=300) (hf:∀x∈l,f x=some (q x)):KY F l f=some (l.filter λx=> !q x):=by
 have h119:FF F l f=some (qX l q):=by
  unfold FF
  refine kM q (by omega) (λi x hx hm hi=> ?_) (by unfold qA; simp)
  unfold qA
  rw[f0 (by omega)]
  simp only[a8,hx,hf x hm,bind_some,ofNat_lt,hi,decide_true,if_true]
  split<;>rfl
 unfold KY
 rw[h119]
 simp only[bind_some]
 cases ha:l.any q with
 | false=>
  rw[jW ha]
  simp only[beq_self_eq_true,if_true]
  rw[List.filter_eq_self.2 λx hx=>by simpa using any_eq_false.1 ha x hx]
 | true=>
  obtain⟨i,x,h1,h2,h3,h4⟩:=i7 ha
  rw[h1]
  have hn:((i:Int)== -1)=false:=by simp
  have hil:=(List.getElem?_eq_some_iff.1 h2).1
  rw[hn,f0 (by omega)]
  simp only[false_eq_true,if_false]
  obtain⟨cur,w,e1,e2,e3,e4⟩:=tY (l:=l) (q:=q) (F:=F) (body:=λs=>qR F f s.1 s.2.1 s.2.2) (by omega) h2 h3 h4 (λcur w r x hc hw hr hx hm=>by
   unfold qR
   simp only
   rw[f0 (i:=r) (by omega),f0 (i:=w) (by omega)]
   have hcw:cur[w]? =some cur[w]:=getElem?_eq_getElem (by omega)
   simp only[a8,hx,hf x hm,bind_some,hc,ofNat_lt,hr,decide_true,if_true,hcw,Int.toNat_natCast]
   cases q x<;>rfl) (λcur w hc=>by unfold qR; simp[hc])
  rw[e1]
  simp only[aG]
  have g1:(decide ((0:Int)<=(w:Int)) && decide ((w:Int) < (cur.length:Int)))=true:=by simp; omega
  have g2:(decide ((0:Int)<=(w:Int)) && decide ((w:Int)<=(cur.length:Int)))=true:=by simp; omega
  simp only[grd,g1,g2,if_true,Int.toNat_natCast,e4]
def lT (c:aA) (g:List aS->Bool->Bool):List aE:=(c.Chunks.filter λx=>g x.Locs (iS c x.Id)).map L2++(c.Snaps.filter λx=>g x.Locs true).map L4++(c.Exps.filter λx=>g x.Locs true).map Q0
theorem aIB {F:Nat} {c:aA} {f:List aS->Bool->Option Bool} (g:List aS->Bool->Bool) (hF:1000<=F) (h:Sm c) (hf:∀l b,l.length<=300->f l b=some (g l b)):R6 F c f=some (lT c g):=by
 have hsn:=h.sn
 have hch:=h.ch
 have hex:=h.ex
 unfold R6
 rw[gZ (l:=c.Chunks) [] (λx=>g x.Locs (iS c x.Id)) L2 (by omega) (λi x hx hm hi acc ha=>by
  unfold rU
  rw[f0 (by omega)]
  simp only[a8,hx,bind_some,ofNat_lt,hi,decide_true,if_true,m44 hF h,hf _ _ (h.cl x hm).1]
  simp only[List.length_nil] at ha
  rw[bS (by simp; omega)]
  cases g x.Locs (iS c x.Id)<;>rfl) (λacc=>by unfold rU; simp)]
 simp only[aG,nil_append]
 have l1:((c.Chunks.filter λx=>g x.Locs (iS c x.Id)).map L2).length<=400:=by rw[length_map]; exact le_trans (length_filter_le _ _) hch
 rw[gZ (l:=c.Snaps) _ (λx=>g x.Locs true) L4 (by omega) (λi x hx hm hi acc ha=>by
  unfold rV
  rw[f0 (by omega)]
  simp only[a8,hx,bind_some,ofNat_lt,hi,decide_true,if_true,hf _ _ (h.sl x hm)]
  rw[bS (by simp; omega)]
  cases g x.Locs true<;>rfl) (λacc=>by unfold rV; simp)]
 simp only[aG]
 have l2:((c.Snaps.filter λx=>g x.Locs true).map L4).length<=12:=by rw[length_map]; exact le_trans (length_filter_le _ _) hsn
 rw[gZ (l:=c.Exps) _ (λx=>g x.Locs true) Q0 (by omega) (λi x hx hm hi acc ha=>by
  unfold rW
  rw[f0 (by omega)]
  simp only[a8,hx,bind_some,ofNat_lt,hi,decide_true,if_true,hf _ _ (h.el x hm)]
  rw[length_append] at ha
  rw[bS (by simp; omega)]
  cases g x.Locs true<;>rfl) (λacc=>by unfold rW; simp)]
 rfl
def AS (c:aA) (v p:Int) (l:List aS) (b:Bool):Bool:=b && u7 v l && !((l.filter λx=> !(x.Vol==v)).any (inP c p))
theorem m82 {F:Nat} {c:aA} {v p:Int} {l:List aS} {b:Bool} (hF:1000<=F) (h:Sm c) (hl:l.length<=300):M65 F l b v c p=some (AS c v p l b):=by
 have hvo:=h.vo
 unfold M65 AR AS
 rw[bS (by simp; omega)]
 have h81:WI F l v=some (u7 v l):=by
  unfold WI u7
  rw[m94 (F:=F) (l:=l) (f:=λx0=>NV F x0 v) (λy=>y.Vol==v) (by omega) (by omega) (λx _=>rfl)]
  rfl
 simp only[nil_append,bind_some]
 rw[m83 (f:=λx0=>M68 F x0 v) (λy=>y.Vol==v) hF hl (λx _=>rfl)]
 simp only[bind_some,h81,m46 hF (by omega:c.Vols.length < 1000) (le_trans (length_filter_le _ _) hl)]
 cases b<;>cases u7 v l<;>simp[after]
theorem m38 {F:Nat} {c:aA} {v:Int} (hF:1000<=F) (h:Sm c):SG F c v=some (if f8 c=true/\0<=v/\v < c.Vols.length then lT c (AS c v ((c.Vols[v.toNat]?).elim 0 (·.Pool))) else[]):=by
 unfold SG
 by_cases h1:v < 0
 ·have:¬(f8 c=true/\0<=v/\v < c.Vols.length):=by omega
  simp[h1,this,after]
 ·by_cases h2:(c.Vols.length:Int)<=v
  ·have:¬(f8 c=true/\0<=v/\v < c.Vols.length):=by omega
   simp[h1,h2,this,after]
  ·rw[m33 hF h]
   have hv:v.toNat < c.Vols.length:=by omega
   have e:c.Vols[v.toNat]? =some c.Vols[v.toNat]:=getElem?_eq_getElem hv
   generalize c.Vols[v.toNat]=x at e
   have h3:v < (c.Vols.length:Int):=by omega
   have h0:0<=v:=by omega
   cases hg:f8 c
   ·simp[h1,h2,hg,after]
   ·simp only[h1,h2,decide_false,false_eq_true,if_false,if_true,bind_some,bne_self_eq_false,aG,m5 _ h0,e,h0,h3,and_self,true_and,Option.elim_some]
    rw[aIB (AS c v x.Pool) hF h (λl b hl=>m82 hF h hl)]
    rfl
end Go.Proofs.YtbbifdfldpfphaaGreat
namespace Go.Vm
abbrev OG:=Option cY
def oT (og:OG):Option bX:=og.bind (·.t)
def oS (og:OG):List AV:=og.elim [] (·.sp)
def awO {β:Type} (ci:β->List AV) (szi:Nat) (og:OG) (l:List β):AV:=match og with
 | some g=>aw g.t g.n g.cap
 | none=>.sl none szi (l.map ci)
structure dC where
 a:cY
 gs:List OG
def gx (gs:List OG) (i:Nat):OG:=(gs[i]?).getD none
def zg {α:Type} (xs:List α) (gs:List OG):List (α×OG):=xs.zip gs
def nl {α β:Type} (l:α->List β) (ys:List (α×OG)):List (List β×OG):=ys.map λy=>(l y.1,y.2)
def kP {β:Type} (ty:TypeId) (ci:β->List AV) (zs:List (List β×OG)):HL:=zs.map λz=>(oT z.2,.obj ty (fl ci z.1 (oS z.2)))
structure tZ {α β:Type} (l:α->List β) (sz szi:Nat) (g:dC) (xs:List α):Prop where
 a:bJ g.a sz xs.length
 len:g.gs.length=xs.length
 el:∀z∈nl l (zg xs g.gs),∀g',z.2=some g'->bJ g' szi z.1.length
section
variable {α β:Type} {l:α->List β} {sz szi:Nat}
theorem v8 {xs:List α} {gs:List OG} (h:gs.length=xs.length):(zg xs gs).length=xs.length:=by simp[zg,List.length_zip,h]
theorem tZ.z {g:dC} {xs:List α} (ok:tZ l sz szi g xs):bJ g.a sz (zg xs g.gs).length:=by rw[v8 ok.len]; exact ok.a
theorem HR {xs:List α} {gs:List OG} (h:gs.length=xs.length) {k:Nat} {x:α} (hx:xs[k]? =some x):(zg xs gs)[k]? =some (x,gx gs k):=by
 obtain⟨hk,rfl⟩:=List.getElem?_eq_some_iff.1 hx
 have hk':k < gs.length:=by omega
 simp[zg,gx,List.getElem?_zip_eq_some,hk,hk']
theorem aCD {xs:List α} {gs:List OG} (h:gs.length=xs.length) {i:Int} {x:α} (hx:ix xs i=some x):ix (zg xs gs) i=some (x,gx gs i.toNat):=by
 obtain⟨h1,h2,h3⟩:=fW hx
 unfold ix
 rw[if_pos h1]
 exact HR h h3
theorem N9 {xs:List α} {gs:List OG} (k:Nat) (x:α) (og:OG):(zg xs gs).set k (x,og)=zg (xs.set k x) (gs.set k og):=by
 unfold zg
 induction xs generalizing gs k with
 | nil=>simp
 | cons y ys ih=>cases gs with
  | nil=>simp
  | cons g gs=>cases k with
   | zero=>simp
   | succ k=>simp[ih]
theorem SH {gs:List OG} (k:Nat) (h:k < gs.length):gs.set k (gx gs k)=gs:=by
 apply List.ext_getElem?
 intro i
 rw[getElem?_set]
 split
 ·rename_i e; subst e; simp[gx,h]
 ·rfl
theorem tZ.ix {g:dC} {xs:List α} (ok:tZ l sz szi g xs) {i:Int} {x:α} (hx:ix xs i=some x):Vm.ix (zg xs g.gs) i=some (x,gx g.gs i.toNat):=aCD ok.len hx
theorem tZ.set {g:dC} {xs:List α} {i:Int} {x x':α} (ok:tZ l sz szi g xs) (hx:Vm.ix xs i=some x) (e:l x'=l x):
    tZ l sz szi g (xs.set i.toNat x')/\(zg xs g.gs).set i.toNat (x',gx g.gs i.toNat)=zg (xs.set i.toNat x') g.gs/\nl l (zg (xs.set i.toNat x') g.gs)=nl l (zg xs g.gs):=by
  obtain⟨h1,h2,h3⟩:=fW hx
  have hk:i.toNat < xs.length:=(List.getElem?_eq_some_iff.1 h3).1
  have e1:(zg xs g.gs).set i.toNat (x',gx g.gs i.toNat)=zg (xs.set i.toNat x') g.gs:=by rw[N9,SH _ (by have:=ok.len; omega)]
  have e2:nl l (zg (xs.set i.toNat x') g.gs)=nl l (zg xs g.gs):=by
    rw[<- e1]
    unfold nl
    rw[map_set]
    apply List.ext_getElem?
    intro j
    rw[getElem?_set]
    split
    . rename_i q; subst q
      have h5:=HR ok.len h3
      rw[getElem?_map,h5]
      simp[e,v8 ok.len,hk]
    . rfl
  exact⟨⟨by rw[length_set]; exact ok.a,by rw[length_set]; exact ok.len,by rw[e2]; exact ok.el⟩,e1,e2⟩
theorem tZ.setL {g:dC} {xs:List α} {i:Int} {x x':α} (ok:tZ l sz szi g xs) (hx:Vm.ix xs i=some x) (g':cY) (hg:bJ g' szi (l x').length):
    tZ l sz szi ⟨g.a,g.gs.set i.toNat (some g')⟩ (xs.set i.toNat x')/\(zg xs g.gs).set i.toNat (x',some g')=zg (xs.set i.toNat x') (g.gs.set i.toNat (some g'))/\
      nl l (zg (xs.set i.toNat x') (g.gs.set i.toNat (some g')))=(nl l (zg xs g.gs)).set i.toNat (l x',some g'):=by
  obtain⟨h1,h2,h3⟩:=fW hx
  have e1:(zg xs g.gs).set i.toNat (x',some g')=zg (xs.set i.toNat x') (g.gs.set i.toNat (some g')):=N9 _ _ _
  have e2:nl l (zg (xs.set i.toNat x') (g.gs.set i.toNat (some g')))=(nl l (zg xs g.gs)).set i.toNat (l x',some g'):=by
    rw[<- e1]; unfold nl; rw[map_set]
  refine⟨⟨by rw[length_set]; exact ok.a,by simp[ok.len], ?_⟩,e1,e2⟩
  show ∀z∈nl l (zg (xs.set i.toNat x') (g.gs.set i.toNat (some g'))),_
  rw[e2]
  intro z hz g2 hg2
  rcases List.mem_or_eq_of_mem_set hz with hz | rfl
  . exact ok.el z hz g2 hg2
  . cases hg2; exact hg
theorem tZ.nlat {g:dC} {xs:List α} {i:Int} {x:α} (ok:tZ l sz szi g xs) (hx:Vm.ix xs i=some x):(nl l (zg xs g.gs))[i.toNat]? =some (l x,gx g.gs i.toNat):=by
 obtain⟨h1,h2,h3⟩:=fW hx
 unfold nl
 rw[getElem?_map,HR ok.len h3]
 rfl
theorem tZ.plain {a:cY} {xs:List α} (ok:bJ a sz xs.length):tZ l sz szi ⟨a,replicate xs.length none⟩ xs:=⟨ok,by simp,λz hz g' e=>by
 unfold nl zg at hz
 obtain⟨y,hy,rfl⟩:=mem_map.1 hz
 have:=(of_mem_zip hy).2
 rw[mem_replicate] at this
 simp only at e
 rw[this.2] at e
 cases e⟩
variable {ty:TypeId} {ci:β->List AV} {h0:aF}
theorem zB {γ:Type}:∀ {zs:List γ} {j:Nat} {z:γ},zs[j]? =some z->zs.Perm (z::zs.eraseIdx j)
 | [],_,_,h=>by simp at h
 | y::ys,0,z,h=>by
  simp only[List.getElem?_cons_zero,Option.some.injEq] at h
  subst h
  exact .refl _
 | y::ys,j+1,z,h=>by
  have:=zB (zs:=ys) (j:=j) (z:=z) (by simpa using h)
  simp only[List.eraseIdx_cons_succ]
  exact(this.cons y).trans (.swap z y _)
theorem I1 {zs:List (List β×OG)} {j:Nat} {z:List β×OG} (hz:zs[j]? =some z):(kP ty ci zs).Perm ((oT z.2,.obj ty (fl ci z.1 (oS z.2)))::kP ty ci (zs.eraseIdx j)):=by
 exact(zB hz).map _
theorem SI {zs:List (List β×OG)} {j:Nat} (z:List β×OG) (hj:j < zs.length):(kP ty ci (zs.set j z)).Perm ((oT z.2,.obj ty (fl ci z.1 (oS z.2)))::kP ty ci (zs.eraseIdx j)):=by
 have:=I1 (ty:=ty) (ci:=ci) (zs:=zs.set j z) (j:=j) (z:=z) (by simp[hj])
 rwa [List.eraseIdx_set_eq] at this
theorem v9 {k:bX} {e:jC}:∀ {L:HL},bT h0 L->(some k,e)∈L->hp h0 L k=some e
 | [],_,h=>by cases h
 | (t,e')::r,ok,h=>by
  rcases mem_cons.1 h with h | h
  ·cases h; simp only[hp,dJ]
  ·have ih:=v9 (L:=r) ok.1 h
   cases t with
   | none=>exact ih
   | some k'=>
    have hne:k≠k':=λq=>by
     have:=ok.2 k' rfl
     rw[<- q,ih] at this
     cases this
    simp only[hp]
    rw[cL _ _ hne,ih]
theorem HS {k:bX} {e:jC}:∀ {L:HL},bT h0 L->(some k,e)∈L->h0 k=none
 | [],_,h=>by cases h
 | (t,e')::r,ok,h=>by
  rcases mem_cons.1 h with h | h
  ·cases h
   have:=ok.2 k rfl
   exact mX (aU (nil_sublist r) ok.1).1 this
  ·exact HS ok.1 h
theorem HT {k:bX}:∀ {L:HL},h0 k=none->(∀e,(some k,e) ∉ L)->hp h0 L k=none
 | [],h,_=>h
 | (t,e')::r,h,hn=>by
  have ih:=HT (L:=r) h λe q=>hn e (mem_cons_of_mem _ q)
  cases t with
  | none=>exact ih
  | some k'=>
   have hne:k≠k':=λq=>hn e' (by rw[q]; exact mem_cons_self)
   simp only[hp]
   rw[cL _ _ hne,ih]
theorem C4 {k:bX} {e e':jC}:∀ {A F:HL},bT h0 (A++F)->(some k,e)∈F->(some k,e') ∉ A
 | [],_,_,_=>nofun
 | (t,e2)::A,F,ok,h=>λq=>by
  rcases mem_cons.1 q with q | q
  ·cases q
   have:=ok.2 k rfl
   rw[v9 ok.1 (List.mem_append_right _ h)] at this
   cases this
  ·exact C4 ok.1 h q
theorem uZ.append {H:aF} {xs ys:List AV} (h:uZ H xs ys) {us vs:List AV} (h2:uZ H us vs):uZ H (xs++us) (ys++vs):=by
 induction h with
 | nil=>exact h2
 | cons a _ ih=>exact .cons a ih
theorem uZ.flat {γ:Type} {H:aF} {c c':γ->List AV}:∀ {ys:List γ},(∀y∈ys,uZ H (c y) (c' y))->uZ H (ys.map c).flatten (ys.map c').flatten
 | [],_=>.nil
 | y::ys,h=>by
  simp only[map_cons,flatten_cons]
  exact(h y mem_cons_self).append (uZ.flat λz hz=>h z (mem_cons_of_mem _ hz))
theorem Br.vwN {γ:Type} {c c':γ->List AV} {ys:List γ} {H:aF} {k:bX} {ty:TypeId} {sp:List AV} {sz cap:Nat} (hc:∀y,(c' y).length=sz) (hk:H k=some (.obj ty (fl c ys sp))) (hb:∀y∈ys,uZ H (c y) (c' y)):Br H (.vw k ys.length cap) (.sl none sz (ys.map c')):=by
 intro E w v r hv
 simp only[VR] at hv ⊢
 obtain⟨g,hg,rfl,h1,h2⟩:=hv
 obtain⟨g',cur,e1,e2,e3,e4⟩:=r.obj _ _ _ hk
 rw[hg] at e1; cases e1
 refine⟨_,cap,by rw[length_map],by rw[length_map]; exact h1,h2, ?_, ?_,nofun⟩
 ·refine .inr ⟨g,0,rfl,jK.2 ?_⟩
  have htake:cP E w (ys.map c).flatten (cur.toList.take ((ys.map c).flatten.length)):=by
   have:=fT ((ys.map c).flatten.length) e3
   rwa [fl,List.take_left' rfl] at this
  refine eY ((uZ.flat hb).spec r htake) (λu hu=>e4 u (List.mem_of_mem_take hu)) ?_
  intro j u hj
  rw[List.getElem?_take] at hj
  split at hj
  ·have hcell:w.cell? ⟨g,0+j,none⟩=some u:=by
    simp only[cell?,e2,Nat.zero_add]
    simpa using hj
   exact⟨hcell,.inl (.inr ⟨⟨k,.inl ⟨_,rfl,hk,hg⟩⟩,u,hcell⟩)⟩
  ·cases hj
 ·intro x hx
  obtain⟨y,_,rfl⟩:=mem_map.1 hx
  exact hc y
theorem zD {γ:Type} {xs:List α} {gs:List OG} (h:gs.length=xs.length) (c:α->γ):(zg xs gs).map (λy=>c y.1)=xs.map c:=by
 unfold zg
 have:(xs.zip gs).map Prod.fst=xs:=List.map_fst_zip (by omega)
 conv=>rhs; rw[<- this,List.map_map]
 rfl
theorem Br.awO {H:aF} {og:OG} {xs:List β} (hc:∀y,(ci y).length=szi) (ok:∀g,og=some g->bJ g szi xs.length) (hk:∀k,oT og=some k->H k=some (.obj ty (fl ci xs (oS og)))):Br H (Vm.awO ci szi og xs) (.sl none szi (xs.map ci)):=by
 cases og with
 | none=>exact Br.refl _ _
 | some g=>
  have ok:=ok g rfl
  show Br H (Vm.aw g.t g.n g.cap) _
  rw[ok.eqn]
  cases ht:g.t with
  | none=>
   have h0:xs= []:=length_eq_zero_iff.1 (ok.nil ht)
   subst h0
   exact Br.ale (vM _ szi)
  | some k=>exact Br.vw hc (hk k ht)
theorem Br.awN {cN:α×OG->List AV} {c:α->List AV} {L:HL} {tyo:TypeId} {g:dC} {xs:List α} (i:Nat) (hc:∀y,(c y).length=sz) (hci:∀y,(ci y).length=szi) (hb:∀(H:aF) (y:α×OG),Br H (Vm.awO ci szi y.2 (l y.1)) (.sl none szi ((l y.1).map ci))->uZ H (cN y) (c y.1))
    (ok:tZ l sz szi g xs) (hk:bT h0 L) (hi:L[i]? =some (g.a.t,.obj tyo (fl cN (zg xs g.gs) g.a.sp))) (hm:∀e∈kP ty ci (nl l (zg xs g.gs)),e∈L):Br (hp h0 L) (Vm.aw g.a.t g.a.n g.a.cap) (.sl none sz (xs.map c)):=by
  rw[ok.a.eqn]
  cases ht:g.a.t with
  | none=>
    have h0:xs= []:=length_eq_zero_iff.1 (ok.a.nil ht)
    subst h0
    exact Br.ale (vM _ sz)
  | some k=>
    rw[ht] at hi
    have:=Br.vwN (c':=λy:α×OG=>c y.1) (sz:=sz) (cap:=g.a.cap) (λy=>hc y.1) (a9 i hk hi) λy hy=>hb _ y (Br.awO (ty:=ty) hci (ok.el (l y.1,y.2) (mem_map.2 ⟨y,hy,rfl⟩)) λk' hk'=>by
      refine v9 hk (hm _ ?_)
      rw[<- hk']
      exact mem_map.2 ⟨(l y.1,y.2),mem_map.2 ⟨y,hy,rfl⟩,rfl⟩)
    rwa [v8 ok.len,zD ok.len] at this
theorem pT.append {H H':aF} {xs ys:List AV} (h:pT H H' xs ys) {us vs:List AV} (h2:pT H H' us vs):pT H H' (xs++us) (ys++vs):=by
 induction h with
 | nil=>exact h2
 | cons a _ ih=>exact .cons a ih
theorem pT.flat {γ:Type} {H H':aF} {c c':γ->List AV}:∀ {ys:List γ},(∀y∈ys,pT H H' (c y) (c' y))->pT H H' (ys.map c).flatten (ys.map c').flatten
 | [],_=>.nil
 | y::ys,h=>by
  simp only[map_cons,flatten_cons]
  exact(h y mem_cons_self).append (pT.flat λz hz=>h z (mem_cons_of_mem _ hz))
theorem Fz.vwN {γ:Type} {c c':γ->List AV} {ys:List γ} {H H':aF} {k:bX} {ty:TypeId} {sp:List AV} {sz cap:Nat} (hc:∀y,(c' y).length=sz) (hk:H k=some (.obj ty (fl c ys sp))) (hn:H' k=none) (hb:∀y∈ys,pT H H' (c y) (c' y)):Fz H H' (.vw k ys.length cap) (.sl none sz (ys.map c')):=by
 intro E w v r hv
 simp only[VR] at hv ⊢
 obtain⟨g,hg,rfl,h1,h2⟩:=hv
 obtain⟨g',cur,e1,e2,e3,e4⟩:=r.obj _ _ _ hk
 rw[hg] at e1; cases e1
 refine⟨_,cap,by rw[length_map],by rw[length_map]; exact h1,h2, ?_, ?_,nofun⟩
 ·refine .inr ⟨g,0,rfl,jK.2 ?_⟩
  have htake:cP E w (ys.map c).flatten (cur.toList.take ((ys.map c).flatten.length)):=by
   have:=fT ((ys.map c).flatten.length) e3
   rwa [fl,List.take_left' rfl] at this
  refine eY ((pT.flat hb).spec r htake) (λu hu=>e4 u (List.mem_of_mem_take hu)) ?_
  intro j u hj
  rw[List.getElem?_take] at hj
  split at hj
  ·have hcell:w.cell? ⟨g,0+j,none⟩=some u:=by
    simp only[cell?,e2,Nat.zero_add]
    simpa using hj
   exact⟨hcell,.inl (.inr ⟨⟨k,.inl ⟨_,rfl,hk,hg⟩,hn⟩,u,hcell⟩)⟩
  ·cases hj
 ·intro x hx
  obtain⟨y,_,rfl⟩:=mem_map.1 hx
  exact hc y
theorem Fz.awO {H H':aF} (hs:iG H' H) {og:OG} {xs:List β} (hc:∀y,(ci y).length=szi) (ok:∀g,og=some g->bJ g szi xs.length) (hk:∀k,oT og=some k->H k=some (.obj ty (fl ci xs (oS og)))/\H' k=none):Fz H H' (Vm.awO ci szi og xs) (.sl none szi (xs.map ci)):=by
 cases og with
 | none=>exact Fz.refl _ _ _
 | some g=>
  have ok:=ok g rfl
  show Fz H H' (Vm.aw g.t g.n g.cap) _
  rw[ok.eqn]
  cases ht:g.t with
  | none=>
   have h0:xs= []:=length_eq_zero_iff.1 (ok.nil ht)
   subst h0
   exact Fz.ale hs (vM _ szi)
  | some k=>exact Fz.vw hc (hk k ht).1 (hk k ht).2
theorem Fz.awN {cN:α×OG->List AV} {c:α->List AV} {A A' F:HL} {tyo:TypeId} {g:dC} {xs:List α} (i:Nat) (hc:∀y,(c y).length=sz) (hci:∀y,(ci y).length=szi) (hb:∀(H H':aF) (y:α×OG),Fz H H' (Vm.awO ci szi y.2 (l y.1)) (.sl none szi ((l y.1).map ci))->pT H H' (cN y) (c y.1))
    (ok:tZ l sz szi g xs) (hk:bT h0 (A++F)) (hi:A[i]? =some (g.a.t,.obj tyo (fl cN (zg xs g.gs) g.a.sp))) (hm:∀e∈kP ty ci (nl l (zg xs g.gs)),e∈F) (hs:A'.Sublist (A.eraseIdx i)):Fz (hp h0 (A++F)) (hp h0 A') (Vm.aw g.a.t g.a.n g.a.cap) (.sl none sz (xs.map c)):=by
  have hA:A'.Sublist (A++F):=(hs.trans (eraseIdx_sublist A i)).trans (List.sublist_append_left A F)
  have hsub:=(aU hA hk).1
  rw[ok.a.eqn]
  cases ht:g.a.t with
  | none=>
    have h0:xs= []:=length_eq_zero_iff.1 (ok.a.nil ht)
    subst h0
    exact Fz.ale hsub (vM _ sz)
  | some k=>
    rw[ht] at hi
    have hil:i < A.length:=(List.getElem?_eq_some_iff.1 hi).1
    have hi2:(A++F)[i]? =some (some k,.obj tyo (fl cN (zg xs g.gs) g.a.sp)):=by rw[List.getElem?_append_left hil]; exact hi
    have hs2:A'.Sublist ((A++F).eraseIdx i):=by
      rw[List.eraseIdx_append_of_lt_length hil]
      exact hs.trans (List.sublist_append_left _ F)
    have:=Fz.vwN (c':=λy:α×OG=>c y.1) (sz:=sz) (cap:=g.a.cap) (H':=hp h0 A') (λy=>hc y.1) (a9 i hk hi2) (mX (aU hs2 (aU (eraseIdx_sublist _ i) hk).2).1 (n8 i hk hi2)) λy hy=>hb _ _ y (Fz.awO (ty:=ty) hsub hci (ok.el (l y.1,y.2) (mem_map.2 ⟨y,hy,rfl⟩)) λk' hk'=>by
      have hmF:(some k',jC.obj ty (fl ci (l y.1) (oS y.2)))∈F:=hm _ (by rw[<- hk']; exact mem_map.2 ⟨(l y.1,y.2),mem_map.2 ⟨y,hy,rfl⟩,rfl⟩)
      refine⟨v9 hk (List.mem_append_right _ hmF),HT (HS hk (List.mem_append_right _ hmF)) λe q=> ?_⟩
      exact C4 hk hmF ((hs.trans (eraseIdx_sublist A i)).subset q))
    rwa [v8 ok.len,zD ok.len] at this
end
def iN:List HL->HL
 | []=>[]
 | [x]=>x
 | x::y::r=>x++iN (y::r)
theorem f9:∀b:List HL,iN b=b.flatten
 | []=>rfl
 | [x]=>by simp[iN]
 | x::y::r=>by rw[iN,f9 (y::r)]; rfl
theorem qS {bl bl':List HL} (p:bl.Perm bl'):(iN bl).Perm (iN bl'):=by rw[f9,f9]; exact p.flatten
theorem o6 {bl:List HL} {b:Nat} {F:HL} (h:bl[b]? =some F):(iN bl).Perm (F++(bl.eraseIdx b).flatten):=by
 rw[f9]
 exact(zB h).flatten
theorem qB {bl:List HL} {b:Nat} {F:HL} (F':HL) (h:bl[b]? =some F):(iN (bl.set b F')).Perm (F'++(bl.eraseIdx b).flatten):=by
 have hb:b < bl.length:=(List.getElem?_eq_some_iff.1 h).1
 have:=o6 (bl:=bl.set b F') (b:=b) (F:=F') (by simp[hb])
 rwa [List.eraseIdx_set_eq] at this
section
variable {h0:aF} {L L' R:HL}
theorem uA (hk:bT h0 L) (bl:List HL) (hL:iN bl=L) (σ:List Nat) (hL':iN (pick σ bl)=L') (ho:σ.isPerm (range bl.length)=true):hp h0 L=hp h0 L'/\bT h0 L':=by
 subst hL hL'
 exact iH (qS (mP ho)) hk
theorem uB (hk:bT h0 L) (bl:List HL) (hL:iN bl=L) (σ:List Nat) (hL':iN (pick σ bl)=L') (ho:(σ++sY σ bl.length).isPerm (range bl.length)=true):bT h0 L'/\iG (hp h0 L') (hp h0 L):=by
 subst hL hL'
 have p:=qS (mP ho)
 have e2:pick (σ++sY σ bl.length) bl=pick σ bl++pick (sY σ bl.length) bl:=List.filterMap_append
 rw[e2,f9 (_++_),List.flatten_append,<- f9 (pick σ bl)] at p
 obtain⟨e,k⟩:=iH p hk
 have:=aU (List.sublist_append_left (iN (pick σ bl)) (pick (sY σ bl.length) bl).flatten) k
 exact⟨this.2,by rw[e]; exact this.1⟩
theorem lxB {n:Nat} {f g:FR} (bl:List HL) (hL:iN bl=L) (σ:List Nat) (hL':iN (pick σ bl)=L') (ho:(σ++sY σ bl.length).isPerm (range bl.length)=true) (hf:FT (hp h0 L') n f.k g.k):LX h0 n f L g L':=λhk=>
 let ⟨h1,h2⟩:=uB hk bl hL σ hL' ho; ⟨h1,gP.fm h2 hf⟩
variable {β:Type} {ty:TypeId} {ci:β->List AV}
theorem qT (hk:bT h0 L) (bl:List HL) (hL:iN bl=L) (b:Nat) {zs:List (List β×OG)} {j:Nat} {z:List β×OG} (hb:bl[b]? =some (kP ty ci zs)) (hz:zs[j]? =some z) (hR:iN (bl.set b (kP ty ci (zs.eraseIdx j)))=R):
    hp h0 L=hp h0 ((oT z.2,.obj ty (fl ci z.1 (oS z.2)))::R)/\bT h0 ((oT z.2,.obj ty (fl ci z.1 (oS z.2)))::R):=by
  subst hL hR
  refine iH ?_ hk
  refine(o6 hb).trans (((I1 hz).append_right _).trans ?_)
  exact((qB (kP ty ci (zs.eraseIdx j)) hb).symm.cons _)
theorem o7 (bl:List HL) (hR:iN bl=R) (b:Nat) {zs:List (List β×OG)} {j:Nat} (z:List β×OG) (hj:j < zs.length) (hb:bl[b]? =some (kP ty ci (zs.eraseIdx j))) (hk:bT h0 ((oT z.2,.obj ty (fl ci z.1 (oS z.2)))::R)) (hL':iN (bl.set b (kP ty ci (zs.set j z)))=L'):
    hp h0 ((oT z.2,.obj ty (fl ci z.1 (oS z.2)))::R)=hp h0 L'/\bT h0 L':=by
  subst hR hL'
  refine iH ?_ hk
  refine((o6 hb).cons _).trans ?_
  refine(((SI z hj).symm.append_right _).trans ?_)
  exact(qB _ hb).symm
theorem FG (a b:List HL):iN (a++b)=iN a++iN b:=by rw[f9,f9,f9,List.flatten_append]
theorem OA {γ:Type} (σ τ:List Nat) (l:List γ):pick (σ++τ) l=pick σ l++pick τ l:=List.filterMap_append
theorem FH {A:HL} (hk:bT h0 L) (bl:List HL) (hL:iN bl=L) (σ τ:List Nat) (hA:iN (pick σ bl)=A) (hR:iN (pick τ bl)=R) (ho:(σ++τ).isPerm (range bl.length)=true):hp h0 L=hp (hp h0 R) A/\bT h0 R/\bT (hp h0 R) A:=by
 subst hL hA hR
 obtain⟨e,k⟩:=iH (qS (mP ho)) hk
 rw[OA,FG] at e k
 obtain⟨k1,k2⟩:=cJ _ _ k
 exact⟨e.trans (cM h0 _ _).symm,k1,k2⟩
theorem FI {A:HL} (hR:bT h0 R) (hA:bT (hp h0 R) A) (ba br:List HL) (hA':iN ba=A) (hR':iN br=R) (σ:List Nat) (hL':iN (pick σ (ba++br))=L') (ho:σ.isPerm (range (ba++br).length)=true):hp (hp h0 R) A=hp h0 L'/\bT h0 L':=by
 subst hA' hR' hL'
 have k:=cZ hR hA
 rw[cM]
 rw[<- FG] at k ⊢
 exact iH (qS (mP ho)) k
end
structure mH {α β:Type} (l:α->List β) (sz szi:Nat) (g:dC) (xs:List α):Prop where
 k:tZ l sz szi g xs
 own:∀og∈g.gs,og≠none
section
variable {α β:Type} {l:α->List β} {sz szi:Nat} {g:dC} {xs:List α} {i:Int} {x x':α}
theorem mH.gx (ok:mH l sz szi g xs) (hx:Vm.ix xs i=some x):∃gv,Vm.gx g.gs i.toNat=some gv/\bJ gv szi (l x).length/\(nl l (zg xs g.gs))[i.toNat]? =some (l x,some gv):=by
 have h1:=ok.k.nlat hx
 obtain⟨_,_,h3⟩:=fW hx
 have hk:i.toNat < xs.length:=(List.getElem?_eq_some_iff.1 h3).1
 have hk':i.toNat < g.gs.length:=by have:=ok.k.len; omega
 cases hg:Vm.gx g.gs i.toNat with
 | none=>
  have:g.gs[i.toNat]=none:=by unfold Vm.gx at hg; rw[getElem?_eq_getElem hk'] at hg; exact hg
  exact absurd this (ok.own _ (getElem_mem hk'))
 | some gv=>
  rw[hg] at h1
  exact⟨gv,rfl,ok.k.el _ (mem_of_getElem? h1) gv rfl,h1⟩
theorem mH.set (ok:mH l sz szi g xs) (hx:Vm.ix xs i=some x) (e:l x'=l x):mH l sz szi g (xs.set i.toNat x'):=⟨(ok.k.set hx e).1,ok.own⟩
theorem mH.setL (ok:mH l sz szi g xs) (hx:Vm.ix xs i=some x) (g':cY) (hg:bJ g' szi (l x').length):mH l sz szi ⟨g.a,g.gs.set i.toNat (some g')⟩ (xs.set i.toNat x'):=
 ⟨(ok.k.setL hx g' hg).1,λog h=>by rcases List.mem_or_eq_of_mem_set h with h | rfl; exact ok.own og h; exact nofun⟩
end
theorem jX {γ:Type} {l:List γ} {j:Nat} {z:γ} (h:l[j]? =some z):j < l.length:=(List.getElem?_eq_some_iff.1 h).1
theorem eqN {h0:aF} {L L':HL} (hk:bT h0 L) (e:L=L'):hp h0 L=hp h0 L'/\bT h0 L':=by subst e; exact⟨rfl,hk⟩
theorem tZ.br {α β:Type} {l:α->List β} {sz szi:Nat} {ty:TypeId} {ci:β->List AV} {h0:aF} {L:HL} {g:dC} {xs:List α} {i:Int} {x:α} (ok:tZ l sz szi g xs) (hx:Vm.ix xs i=some x) (hci:∀y,(ci y).length=szi) (hk:bT h0 L)
    (hm:∀e∈kP ty ci (nl l (zg xs g.gs)),e∈L):Br (hp h0 L) (awO ci szi (Vm.gx g.gs i.toNat) (l x)) (.sl none szi ((l x).map ci)):=by
  have hn:=mem_of_getElem? (ok.nlat hx)
  refine Br.awO (ty:=ty) hci (ok.el _ hn) λk hk'=>v9 hk (hm _ ?_)
  rw[<- hk']
  exact mem_map.2 ⟨_,hn,rfl⟩
theorem SJ {xs r:List AV} {m:Nat} (h:xs.length=m):D1 true m ((xs++r).drop 0)=some (.agg xs):=by
 subst h
 simp[D1]
theorem gY {β:Type} (ci:β->List AV) (szi:Nat) (og:OG) (l:List β):hU (awO ci szi og l)=true:=by
 cases og with
 | none=>rfl
 | some g=>exact bZ _ _ _
theorem W5 {α β:Type} (f:α->β) (xs:List α) (i:Int):ix (xs.map f) i=(ix xs i).map f:=by
 unfold ix
 split
 ·rw[getElem?_map]
 ·rfl
theorem W7 {α ρ:Type} {xs:List α} {gs:List OG} (hl:gs.length=xs.length) {F:List α->Option ρ} {G:Option ρ} (e:F ((zg xs gs).map Prod.fst)=G) {o:ρ} (h:F xs=some o):G=some o:=by
 rw[<- e,show (zg xs gs).map Prod.fst=xs from by simpa using zD hl (λx=>x)]
 exact h
theorem W8 {F L:HL} (bl:List HL) (hL:iN bl=L) (b:Nat) (hb:bl[b]? =some F):∀e∈F,e∈L:=λe he=>by
 subst hL
 rw[f9]
 exact List.mem_flatten.2 ⟨F,mem_of_getElem? hb,he⟩
section
variable {α β:Type} {l:α->List β} {sz szi:Nat} {ty:TypeId} {ci:β->List AV} {h0:aF} {L L':HL}
theorem D4 {n:Nat} {f:FR} {cN:α×OG->List AV} {c:α->List AV} {tyo:TypeId} {g:dC} {xs:List α} (bl:List HL) (hL:iN bl=L) (i b:Nat) (hci:∀y,(ci y).length=szi)
    (hb:∀(H H':aF) (y:α×OG),Fz H H' (awO ci szi y.2 (l y.1)) (.sl none szi ((l y.1).map ci))->pT H H' (cN y) (c y.1))
    (ok:tZ l sz szi g xs) (hi:bl[i]? =some [(g.a.t,.obj tyo (fl cN (zg xs g.gs) g.a.sp))]) (hbf:bl[b]? =some (kP ty ci (nl l (zg xs g.gs)))) (hib:i < b)
    (hL':iN ((bl.eraseIdx b).set i [(g.a.t,.obj tyo (fl c xs g.a.sp))])=L') (hk:bT h0 L):bT h0 L'/\gP (fm n f.k) (hp h0 L') (fm n f.k) (hp h0 L):=by
  subst hL hL'
  -- the array's block and the family's block, ahead of the rest
  have hi':(bl.eraseIdx b)[i]? =some [(g.a.t,.obj tyo (fl cN (zg xs g.gs) g.a.sp))]:=by
    rw[List.getElem?_eraseIdx]; simp[hib,hi]
  generalize hR:((bl.eraseIdx b).eraseIdx i).flatten=R
  have p1:(iN bl).Perm (kP ty ci (nl l (zg xs g.gs))++((g.a.t,.obj tyo (fl cN (zg xs g.gs) g.a.sp))::R)):=by
    refine(o6 hbf).trans (List.Perm.append_left _ ?_)
    have:=o6 hi'
    rw[f9,hR] at this
    exact this
  have p2:(iN ((bl.eraseIdx b).set i [(g.a.t,.obj tyo (fl c xs g.a.sp))])).Perm ((g.a.t,.obj tyo (fl c xs g.a.sp))::R):=by
    have:=qB [(g.a.t,jC.obj tyo (fl c xs g.a.sp))] hi'
    rw[hR] at this
    exact this
  obtain⟨e1,k1⟩:=iH p1 hk
  have k2:bT h0 ((g.a.t,.obj tyo (fl cN (zg xs g.gs) g.a.sp))::R):=(cJ _ _ k1).1
  have k3:bT h0 ((g.a.t,.obj tyo (fl c xs g.a.sp))::R):=⟨k2.1,k2.2⟩
  obtain⟨e2,k4⟩:=iH p2.symm k3
  refine⟨k4, ?_⟩
  rw[e1,<- e2]
  have hs:iG (hp h0 ((g.a.t,.obj tyo (fl cN (zg xs g.gs) g.a.sp))::R)) (hp h0 (kP ty ci (nl l (zg xs g.gs))++((g.a.t,.obj tyo (fl cN (zg xs g.gs) g.a.sp))::R))):=(aU (List.sublist_append_right _ _) k1).1
  intro E w vs r v
  have r1:=sW r hs
  have kk:dL E w (GF E _ (hp h0 ((g.a.t,.obj tyo (fl cN (zg xs g.gs) g.a.sp))::R)) w) w:=iK r
  cases ht:g.a.t with
  | none=>rw[ht] at r1 kk; exact⟨_,kk,r1,cB kk _ _ v⟩
  | some k=>
    rw[ht] at r1 kk k2 k1 hs r
    have hg1:hp h0 ((some k,jC.obj tyo (fl cN (zg xs g.gs) g.a.sp))::R) k=some (.obj tyo (fl cN (zg xs g.gs) g.a.sp)):=a9 0 k2 rfl
    obtain⟨gg,cur,f1,f2,f3,f4⟩:=r.obj k tyo _ (hs _ _ hg1)
    have hfz:pT (hp h0 (kP ty ci (nl l (zg xs g.gs))++((some k,.obj tyo (fl cN (zg xs g.gs) g.a.sp))::R))) (hp h0 ((some k,.obj tyo (fl cN (zg xs g.gs) g.a.sp))::R)) (fl cN (zg xs g.gs) g.a.sp) (fl c xs g.a.sp):=by
      unfold fl
      refine pT.append ?_ (pT.refl _ _ _)
      rw[<- zD ok.len c]
      refine pT.flat λy hy=>hb _ _ y (Fz.awO (ty:=ty) hs hci (ok.el (l y.1,y.2) (mem_map.2 ⟨y,hy,rfl⟩)) λk' hk'=> ?_)
      have hm:(some k',jC.obj ty (fl ci (l y.1) (oS y.2)))∈kP ty ci (nl l (zg xs g.gs)):=by rw[<- hk']; exact mem_map.2 ⟨(l y.1,y.2),mem_map.2 ⟨y,hy,rfl⟩,rfl⟩
      refine⟨v9 k1 (List.mem_append_left _ hm),HT (HS k1 (List.mem_append_left _ hm)) λe q=> ?_⟩
      have p3:=List.perm_append_comm (l₁:=kP ty ci (nl l (zg xs g.gs))) (l₂:=(some k,jC.obj tyo (fl cN (zg xs g.gs) g.a.sp))::R)
      exact C4 (iH p3 k1).2 hm q
    obtain⟨q1,q2⟩:=r1.set_obj hg1 (show (GF E _ (hp h0 ((some k,.obj tyo (fl cN (zg xs g.gs) g.a.sp))::R)) w).ob k=some gg from f1) (w':=w) f2 (λ_ _=>rfl) (Nat.le_refl _) rfl rfl rfl (hfz.spec r f3) f4
    have e3:upd (hp h0 ((some k,jC.obj tyo (fl cN (zg xs g.gs) g.a.sp))::R)) k (some (.obj tyo (fl c xs g.a.sp)))=hp h0 ((some k,.obj tyo (fl c xs g.a.sp))::R):=by
      funext z
      simp only[hp,upd]
      split<;>rfl
    rw[e3] at q2
    exact⟨_,kk.trans q1,q2,cB (kk.trans q1) _ _ v⟩
end
theorem C5 {P:Program} {h:aF} {n:Nat} {rs:List ResultVar} {Q:AV->aF->Prop} {e:Exit} {f g:FR} {L L':HL} (le:bT h L->bT h L'/\gP (fm n g.k) (hp h L') (fm n f.k) (hp h L)) (k:RV P rs Q h n e g L'):RV P rs Q h n e f L:=
 ⟨λhk=>let ⟨h1,h2⟩:=le hk; let ⟨fr,hh,l2,q⟩:=k.r h1; ⟨fr,hh,h2.trans l2,q⟩⟩
structure C6 {α β:Type} (l:α->List β) (sz szi:Nat) (g:dC) (xs:List α) (m N:Nat):Prop where
 k:tZ l sz szi g xs
 len:xs.length=N
 pre:∀j,j < m->j < xs.length->gx g.gs j≠none
 post:∀j,m<=j->gx g.gs j=none
section
variable {α β:Type} {l:α->List β} {sz szi:Nat} {g:dC} {xs:List α} {q:Int} {x x':α} {ty:TypeId} {ci:β->List AV} {h0:aF} {L L':HL}
theorem W9 (n j:Nat):gx (replicate n none) j=none:=by
 unfold gx
 rw[List.getElem?_replicate]
 split<;>rfl
theorem C6.zero {a:cY} (ok:bJ a sz xs.length):C6 l sz szi ⟨a,replicate xs.length none⟩ xs 0 xs.length:=⟨tZ.plain ok,rfl,λj h=>absurd h (Nat.not_lt_zero _),λj _=>W9 _ _⟩
theorem OB {gs:List OG} {i j:Nat} {og:OG}:gx (gs.set i og) j=if i=j/\j < gs.length then og else gx gs j:=by
 unfold gx
 rw[getElem?_set]
 by_cases e:i=j
 ·subst e
  by_cases h:i < gs.length
  ·simp[h]
  ·simp[h]
 ·simp[e]
theorem C6.step {N:Nat} (ok:C6 l sz szi g xs q.toNat N) (hx:Vm.ix xs q=some x) (g':cY) (hg:bJ g' szi (l x').length):C6 l sz szi ⟨g.a,g.gs.set q.toNat (some g')⟩ (xs.set q.toNat x') (wrap .i64 (q+1)).toNat N:=by
 obtain⟨h1,h2,h3⟩:=fW hx
 have hm:=ok.k.a.mx
 have hl:=ok.k.a.le
 have hw:(wrap .i64 (q+1)).toNat=q.toNat+1:=by
  rw[IntKind.wrap_i64]; simp only[maxLen] at hm; omega
 have hk:q.toNat < g.gs.length:=by have:=ok.k.len; omega
 rw[hw]
 refine⟨(ok.k.setL hx g' hg).1,by rw[length_set]; exact ok.len,λj hj hj2=> ?_,λj hj=> ?_⟩
 ·simp only[OB]
  rw[length_set] at hj2
  split
  ·exact nofun
  ·rename_i q1
   exact ok.pre j (by have:=ok.k.len; by_cases e:q.toNat=j<;>omega) hj2
 ·simp only[OB]
  rw[if_neg (by omega)]
  exact ok.post j (by omega)
theorem C6.set {N:Nat} (ok:C6 l sz szi g xs q.toNat N) (hx:Vm.ix xs q=some x) (e:l x'=l x):C6 l sz szi g (xs.set q.toNat x') q.toNat N:=⟨(ok.k.set hx e).1,by rw[length_set]; exact ok.len,λj hj hj2=>ok.pre j hj (by rwa [length_set] at hj2),ok.post⟩
theorem C6.all {N:Nat} (ok:C6 l sz szi g xs q.toNat N) (hq:decide (q < (N:Int))=false):mH l sz szi g xs:=by
 have hq:=of_decide_eq_false hq
 have hN:=ok.len
 refine⟨ok.k,λog ho=> ?_⟩
 obtain⟨j,hj,rfl⟩:=getElem_of_mem ho
 have hl:=ok.k.len
 have:=ok.pre j (by omega) (by omega)
 unfold gx at this
 rwa [getElem?_eq_getElem hj] at this
theorem toN {n:Nat} {f:FR} {cN:α×OG->List AV} {c:α->List AV} {tyo:TypeId} {a:cY} (hc:∀x,cN (x,none)=c x) (bl:List HL) (hL:iN bl=L) (i:Nat) (hi:bl[i]? =some [(a.t,.obj tyo (fl c xs a.sp))])
    (hL':iN (bl.set i [(a.t,.obj tyo (fl cN (zg xs (replicate xs.length none)) a.sp))]++ [kP ty ci (nl l (zg xs (replicate xs.length none)))])=L') (hk:bT h0 L):bT h0 L'/\gP (fm n f.k) (hp h0 L') (fm n f.k) (hp h0 L):=by
  have e1:fl cN (zg xs (replicate xs.length none)) a.sp=fl c xs a.sp:=by
    unfold fl
    have:(zg xs (replicate xs.length none)).map cN=xs.map c:=by
      have h1:(zg xs (replicate xs.length none)).map cN=(zg xs (replicate xs.length none)).map (λy=>c y.1):=by
        refine List.map_congr_left λy hy=> ?_
        have h2:=(of_mem_zip hy).2
        rw[mem_replicate] at h2
        obtain⟨y1,y2⟩:=y
        simp only at h2
        rw[h2.2,hc]
      rw[h1,zD (by simp)]
    rw[this]
  have e2:bl.set i [(a.t,jC.obj tyo (fl c xs a.sp))]=bl:=by
    obtain⟨hi',he⟩:=List.getElem?_eq_some_iff.1 hi
    rw[<- he]
    exact List.set_getElem_self hi'
  rw[e1,e2] at hL'
  subst hL hL'
  have key:∀zs:List (List β×OG),(∀z∈zs,z.2=none)->∀ {L:HL},bT h0 L->bT h0 (kP ty ci zs++L)/\hp h0 (kP ty ci zs++L)=hp h0 L:=by
    intro zs
    induction zs with
    | nil=>intro _ L hk; exact⟨hk,rfl⟩
    | cons z zs ih=>
      intro hz L hk
      obtain⟨k1,k2⟩:=ih (λz hz'=>hz z (mem_cons_of_mem _ hz')) hk
      have h1:oT z.2=none:=by rw[hz z mem_cons_self]; rfl
      show bT h0 ((oT z.2,_)::(kP ty ci zs++L))/\hp h0 ((oT z.2,_)::(kP ty ci zs++L))=_
      rw[h1]
      exact⟨⟨k1,nofun⟩,k2⟩
  have hz:∀z∈nl l (zg xs (replicate xs.length none)),z.2=none:=by
    intro z hz
    obtain⟨y,hy,rfl⟩:=mem_map.1 hz
    have h2:=(of_mem_zip hy).2
    rw[mem_replicate] at h2
    exact h2.2
  obtain⟨k1,k2⟩:=key _ hz hk
  have p:(kP ty ci (nl l (zg xs (replicate xs.length none)))++iN bl).Perm (iN (bl++ [kP ty ci (nl l (zg xs (replicate xs.length none)))])):=by
    rw[f9,f9,List.flatten_append]
    simp only[flatten_cons,List.flatten_nil,List.append_nil]
    exact List.perm_append_comm
  obtain⟨k3,k4⟩:=iH p k1
  exact⟨k4,gP.eqh (k2.symm.trans k3)⟩
theorem OD {n:Nat} {f:FR} (bl:List HL) (hL:iN bl=L) (b:Nat) {zs:List (List β×OG)} (j:Nat) (hb:bl[b]? =some (kP ty ci zs)) (hL':iN (bl.set b (kP ty ci (zs.eraseIdx j)))=L') (hk:bT h0 L):bT h0 L'/\gP (fm n f.k) (hp h0 L') (fm n f.k) (hp h0 L):=by
 subst hL hL'
 obtain⟨e1,k1⟩:=iH (o6 hb) hk
 have hs:(kP ty ci (zs.eraseIdx j)++(bl.eraseIdx b).flatten).Sublist (kP ty ci zs++(bl.eraseIdx b).flatten):=((eraseIdx_sublist zs j).map _).append_right _
 obtain⟨s1,k2⟩:=aU hs k1
 obtain⟨e2,k3⟩:=iH (qB (kP ty ci (zs.eraseIdx j)) hb).symm k2
 refine⟨k3,gP.of ?_ (cW.refl _ _)⟩
 rw[e1,<- e2]
 exact s1
end
theorem XA {P:Program} {h:aF} {n:Nat} {τ σ ρ:Type} {id:Nat} {c:Code} {kn:FR->HL->Prop} {ke:Exit->FR->HL->Prop} {f:FR} {L:HL} {step:σ->Option (Lp σ ρ)} {fuel:Nat} {s0:σ} {k:σ->Option ρ} {o:ρ} (hm:after (aT step fuel s0) k=some o)
    (Lg:τ->σ->HL) (J JB:τ->σ->Prop) (sl:τ->σ->FR) (g0:τ) (i0:J g0 s0) (h0:LX h n f L (sl g0 s0) (Lg g0 s0))
    (round:∀g s x,J g s->step s=some x->VC P h n c (GN h n J sl Lg .go x) (GE h n JB sl Lg (some id) ke o x) (sl g s) (Lg g s))
    (next:∀g s,JB g s->k s=some o->kn (sl g s) (Lg g s)):VC P h n (.block id (.loop c)) kn ke f L:=by
  refine⟨λhkL=>xP ?_⟩
  obtain⟨out,hout,hk⟩:∃out,aT step fuel s0=some out/\((∃s,out= .brk s/\k s=some o)\/∃r,out= .ret r/\r=o):=by
    cases e:aT step fuel s0 with
    | none=>rw[e] at hm; cases hm
    | some out=>
      rw[e] at hm
      cases out with
      | go s=>cases hm
      | brk s=>exact⟨_,rfl,.inl ⟨s,rfl,hm⟩⟩
      | ret r=>exact⟨_,rfl,.inr ⟨r,rfl,Option.some.inj hm⟩⟩
  obtain⟨hk1,le1⟩:=h0 hkL
  refine IH (λm fr' h'=>∃s,aT step m s=some out/\∃g,J g s/\bT h (Lg g s)/\gP (fm n (sl g s).k) (hp h (Lg g s)) fr' h') fuel ⟨s0,hout,g0,i0,hk1,le1⟩ ?_
  rintro m fr' h' ⟨s,hs,g,hj,hk2,hle⟩
  cases m with
  | zero=>cases hs
  | succ m=>
    simp only[aT] at hs
    cases e:step s with
    | none=>rw[e] at hs; cases hs
    | some x=>
      rw[e] at hs
      refine hle.aw (((round g s x hj e).r hk2).mono ?_)
      rintro ex fr'' h'' ⟨f1,L1,hk3,le3,q⟩
      have fin:∀ {ex:Exit},GE h n JB sl Lg (some id) ke o x ex f1 L1->ex≠ .normal->(∃s',x= .brk s'/\ex= .exit id/\∃g',JB g' s'/\LX h n f1 L1 (sl g' s') (Lg g' s'))\/(ke ex f1 L1/\ex≠ .exit id):=by
        intro ex q hne
        cases q with
        | b i' hi he q=>
          cases hi
          obtain⟨s',g',e1,j',le4⟩:=q.g
          exact .inl ⟨s',e1,he,g',j',le4⟩
        | r y hx h1 h2 k2=>
          subst hx; cases hs
          rcases hk with⟨s2,e2,_⟩ | ⟨r',e2,e3⟩
          . cases e2
          . cases e2; exact .inr ⟨k2 e3,h2 id rfl⟩
      cases ex with
      | normal=>
        obtain⟨s',g',rfl,j',le4⟩:=q.g
        obtain⟨hk5,le5⟩:=le4.le hk3 le3
        exact⟨m,Nat.lt_succ_self m,s',hs,g',j',hk5,le5⟩
      | exit i=>
        rcases fin q nofun with⟨s',rfl,he,g',j',le4⟩ | ⟨hke,hne⟩
        . cases he
          obtain⟨hk5,le5⟩:=le4.le hk3 le3
          cases hs
          simp only[Seq,IG,if_true]
          rcases hk with⟨s2,e2,hk⟩ | ⟨r,e2,_⟩
          . cases e2; exact⟨_,_,hk5,le5,next _ _ j' hk⟩
          . cases e2
        . have:i≠id:=λe=>hne (by rw[e])
          simp only[Seq,IG,this,if_false]
          exact⟨_,_,hk3,le3,hke⟩
      | goto l=>
        rcases fin q nofun with⟨_,_,he,_⟩ | ⟨hke,_⟩
        . cases he
        . exact⟨_,_,hk3,le3,hke⟩
      | ret=>
        rcases fin q nofun with⟨_,_,he,_⟩ | ⟨hke,_⟩
        . cases he
        . exact⟨_,_,hk3,le3,hke⟩
      | panic c=>
        rcases fin q nofun with⟨_,_,he,_⟩ | ⟨hke,_⟩
        . cases he
        . exact⟨_,_,hk3,le3,hke⟩
      | outgrown=>
        rcases fin q nofun with⟨_,_,he,_⟩ | ⟨hke,_⟩
        . cases he
        . exact⟨_,_,hk3,le3,hke⟩
end Go.Vm
