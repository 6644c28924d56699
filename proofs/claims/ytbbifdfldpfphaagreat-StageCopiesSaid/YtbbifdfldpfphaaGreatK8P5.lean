import Derived.Test.YtbbifdfldpfphaaGreatK8P3
import Derived.Test.YtbbifdfldpfphaaGreatK8P4
set_option linter.unusedSimpArgs false
set_option linter.unusedVariables false
set_option maxHeartbeats 4000000
set_option maxRecDepth 100000
namespace Go.Proofs.YtbbifdfldpfphaaGreat
open Go.Vm
def wG (m:Nat) (p0:List aR):Option ((List aR)):=
 (app ([]:List aR) p0).bind λz4=>some z4
theorem NA {w:Nat} {p0:List aR} {o:(List aR)} (h:aF) (m:wG w p0=some o):
 aM Tryz.prog 151 [.sl none 4 (List.map aN p0)] h (λr h'=>r= .sl none 4 (List.map aN o)∧h'=h):=by
 refine fK 7 [.tmp 2] Tryz.func151 rfl rfl rfl rfl ?_
 unfold wG at m
 refine v (v (v ?_))
 obtain⟨z4,Z5,m⟩:=aD m
 refine ve λu=>oD (c:=aN) Z5 pA rfl rfl u nofun rfl λtg6 t7 K8=>qk K8 rfl (v ?_)
 obtain rfl:=eP m
 exact vr λu=>dW.of1 (.inl rfl) (gN _ _ (ow _ _ _) rfl) (aU (List.nil_sublist _) u).1 ((dU _ 0 t7 u rfl)) ⟨rfl,rfl⟩
theorem EM:aP Tryz.prog 151=true:=by kernel_rfl
def vI (m:Nat) (p0:List Int):Option ((List Int)):=
 (app ([]:List Int) p0).bind λz4=>some z4
theorem NB {w:Nat} {p0:List Int} {o:(List Int)} (h:aF) (m:vI w p0=some o):
 aM Tryz.prog 141 [.sl none 1 (List.map fX p0)] h (λr h'=>r= .sl none 1 (List.map fX o)∧h'=h):=by
 refine fK 7 [.tmp 2] Tryz.func141 rfl rfl rfl rfl ?_
 unfold vI at m
 refine v (v (v ?_))
 obtain⟨z4,Z5,m⟩:=aD m
 refine ve λu=>oD (c:=fX) Z5 xQ rfl rfl u nofun rfl λtg6 t7 K8=>qk K8 rfl (v ?_)
 obtain rfl:=eP m
 exact vr λu=>dW.of1 (.inl rfl) (gN _ _ (ow _ _ _) rfl) (aU (List.nil_sublist _) u).1 ((dU _ 0 t7 u rfl)) ⟨rfl,rfl⟩
theorem EN:aP Tryz.prog 141=true:=by kernel_rfl
def tF (m:Nat) (p0:bE) (q0:List cT) (q1:Int):Option (Lp ((List cT)×Int) (bE)):=
 if (decide (q1 < (p0.Parts.length:Int)))=true then ((ix p0.Parts q1).bind λx0=>(app ([]:List bH) x0.Ids).bind λz0=>(app q0 ([({ Path:=x0.Path,Size:=x0.Size,Ids:=z0}:cT)]:List cT)).bind λz1=>some (.go (z1,IntKind.wrap .i64 (q1+1)))) else some (.brk (q0,q1))
def GW (m:Nat) (p0:bE):Option (bE):=
 after (aS (λs=>tF m p0 s.1 s.2) m ([],0)) λ⟨r0,r1⟩=>some ({ Name:=p0.Name,Parts:=r0}:bE)
theorem aA2 {w:Nat} {p0:bE} {o:bE} (h:aF) (m:GW w p0=some o):
 aM Tryz.prog 150 [.agg (bI p0)] h (λr h'=>r= .agg (bI o)∧h'=h):=by
 refine fK 31 [.cell 2 58] Tryz.func150 rfl rfl rfl rfl ?_
 unfold GW at m
 refine v (gX rfl rfl λk2 K3=>ve λu=>bG ([.sc (.string ByteArray.empty),sZ]) u MF rfl rfl λk5 K6=>qk K6 rfl (v (v (qE (AS (.tok 70 3 (([]:List cT).length*3)) 3 (ow none 3 (List.map bX [])) (gQ _ _)) (nW m (σ:=(List cT)×Int) (τ:=Option bT) (λg s=> [(g,.tok 70 3 ((s.1:List cT).length*3)),(some k5,.obj 58 ([.sc (.string ByteArray.empty),sZ])),(some k2,.obj 58 (bI p0))]) (λg s=>(g=none→s.1= [])) (λg s=>.c 1 (.ptr k2 0) (.c 2 (.ptr k5 0) (.c 3 (ow g 3 (List.map bX s.1)) (.c 4 (nZ s.2) .nil)))) none (λ_=>rfl) (lx (.k4 .nil)) ?_ ?_)))))
 rintro tg0 ⟨q0,q1⟩ x t0 m
 replace m:tF w p0 q0 q1=some x:=m
 unfold tF at m
 refine v (vl 2 _ oH rfl rfl rfl (dH zQ rfl (v ?_)))
 apply vi m <;> intro c0 m
 refine v (v (v (vl 2 _ oH rfl rfl rfl (vx m sM rfl rfl λx0 _ m=>va (.agg (bX x0)) ED rfl rfl (ve λu=>bG (XZ) u JS rfl rfl λk103 K0=>qk K0 rfl (ve λu=>aL 0 (bX x0) u rfl rfl rfl rfl MG rfl rfl λK1=>qk K1 rfl (v (v (vl 0 _ xU rfl rfl rfl ?_)))))))))
 obtain⟨z0,Z0,m⟩:=aD m
 refine ve λu=>oD (c:=bC) Z0 CA rfl rfl u nofun rfl λtg1 t1 K2=>qk K2 rfl (ve λu=>aL 1 ([.sc (.string x0.Path),nZ x0.Size,ow tg1 32 (List.map bC z0)]) u rfl rfl (jF rfl) (pK _ _ _) VA rfl rfl λK4=>qk K4 rfl (v (vl 1 (.agg ([.sc (.string x0.Path),nZ x0.Size,ow tg1 32 (List.map bC z0)])) ED rfl rfl rfl (ve λu=>HX (t:=25) (.agg (bX ({ Path:=x0.Path,Size:=x0.Size,Ids:=z0}:cT))) (aU (.cons _ (.refl _)) u).1 (bD.agg (.k2 (.cons (sB _ 0 t1 u rfl (.refl _)) .nil))) (ZC (eA (List.map bX ([({ Path:=x0.Path,Size:=x0.Size,Ids:=z0}:cT)]:List cT)) JR rfl rfl rfl rfl) (qk ((aU (.cons _ (.refl _)) u).2) rfl ?_))))))
 obtain⟨z1,Z1,m⟩:=aD m
 exact ve λu=>fG (c:=bX) 1 Z1 JR rfl rfl rfl t0 u rfl λtg2 t2 K5=>qk K5 rfl (v (eH m tg2 t2 (mE [1,2,3] rfl rfl (.k4 .nil))))
 exact v (lN m tg0 t0 (lx (.k4 .nil)))
 rintro tg3 ⟨r0,r1⟩ t3 m
 refine v (ve λu=>aL 2 ([.sc (.string p0.Name),ow tg3 3 (List.map bX r0)]) u rfl rfl (jF rfl) (pK _ _ _) UZ rfl rfl λK7=>qk K7 rfl (v (vl 2 (.agg ([.sc (.string p0.Name),ow tg3 3 (List.map bX r0)])) pQ rfl rfl rfl (ve λu=>aL 1 ([.sc (.string p0.Name),ow tg3 3 (List.map bX r0)]) u rfl rfl rfl (by repeat (first | exact rfl | refine cG (jG _ _ _) ?_ | refine cG (cC _ _ _) ?_ | refine cG (gG _ _ _ _) ?_ | refine cG rfl ?_)) zR rfl rfl λK8=>qk K8 rfl ?_))))
 refine v ?_
 cases m
 exact vr λu=>dW.of1 (.inl rfl) (sE (.agg ([.sc (.string p0.Name),ow tg3 3 (List.map bX r0)])) pQ rfl (aW 1 u rfl) rfl) (aU (List.nil_sublist _) u).1 (bD.agg (.cons (bD.refl _ _) (.cons ((dU _ 0 t3 u rfl)) .nil))) ⟨rfl,rfl⟩
theorem TW:aP Tryz.prog 150=true:=by kernel_rfl
def tG (m:Nat) (p0:List aB) (q0:List aB) (q1:Int):Option (Lp ((List aB)×Int) ((List aB))):=
 if (decide (q1 < (p0.length:Int)))=true then ((ix p0 q1).bind λx0=>(vI m x0.Data).bind λy0=>(wG m x0.Locs).bind λy1=>(app q0 ([{ { x0 with Data:=y0} with Locs:=y1}]:List aB)).bind λz0=>some (.go (z0,IntKind.wrap .i64 (q1+1)))) else some (.brk (q0,q1))
def J0 (m:Nat) (p0:List aB):Option ((List aB)):=
 after (aS (λs=>tG m p0 s.1 s.2) m ([],0)) λ⟨r0,r1⟩=>some r0
theorem aGP {w:Nat} {p0:List aB} {o:(List aB)} (h:aF) (m:J0 w p0=some o):
 aM Tryz.prog 152 [.sl none 35 (List.map aK p0)] h (λr h'=>r= .sl none 35 (List.map aK o)∧h'=h):=by
 refine fK 29 [.tmp 2] Tryz.func152 rfl rfl rfl rfl ?_
 unfold J0 at m
 refine v (v (v (qE (AS (.tok 44 35 (([]:List aB).length*35)) 3 (ow none 35 (List.map aK [])) (gQ _ _)) (nW m (σ:=(List aB)×Int) (τ:=Option bT) (λg s=> [(g,.tok 44 35 ((s.1:List aB).length*35))]) (λg s=>(g=none→s.1= [])) (λg s=>.c 0 (.sl none 35 (List.map aK p0)) (.c 3 (ow g 35 (List.map aK s.1)) (.c 4 (nZ s.2) .nil))) none (λ_=>rfl) (lx (.k3 .nil)) ?_ ?_))))
 rintro tg0 ⟨q0,q1⟩ x t0 m
 replace m:tG w p0 q0 q1=some x:=m
 unfold tG at m
 refine v (dH lI rfl (v ?_))
 apply vi m <;> intro c0 m
 refine v (v (v (vx m h9 rfl rfl λx0 _ m=>va (.agg (aK x0)) pB rfl rfl (ve λu=>bG (bC gW++(SZ:List AV)) u qL rfl rfl λk109 K0=>qk K0 rfl (ve λu=>aL 0 (aK x0) u rfl rfl rfl rfl EC rfl rfl λK1=>qk K1 rfl (v (vz [(7,some k109,.obj 44 (aK x0))] mixed (λu=>⟨λ_=>aO 0 u rfl,trivial⟩) λu=>zF 0 rfl lS rfl (zL 1 0 (.sl none 1 (List.map fX x0.Data)) rfl nY rfl rfl rfl ?_))))))))
 obtain⟨y0,Y0,m⟩:=aD m
 refine zC 2 rfl (bV (NB _ Y0) rfl EN rfl) (zF 3 rfl jQ rfl (zL 4 0 (.sl none 4 (List.map aN x0.Locs)) rfl fT rfl rfl rfl ?_))
 obtain⟨y1,Y1,m⟩:=aD m
 refine zC 5 rfl (bV (NA _ Y1) rfl EM rfl) (zF 6 rfl lS rfl (zE 7 rfl (aL 0 (aK { x0 with Data:=y0}) u rfl rfl rfl rfl EB rfl rfl λK2=>⟨⟨λe=>absurd e (by decide),trivial⟩, ?_⟩)))
 refine zF 8 rfl jQ rfl (zE 9 rfl (aL 0 (aK { { x0 with Data:=y0} with Locs:=y1}) K2 rfl rfl rfl rfl pO rfl rfl λK3=>⟨⟨λe=>absurd e (by decide),trivial⟩, ?_⟩))
 refine zX (qk (f:=TA 23 _ _ _ _ _ _ _ _ _) K3 rfl (v (vl 0 (.agg (aK { { x0 with Data:=y0} with Locs:=y1})) pB rfl rfl rfl (bU (eA (List.map aK ([{ { x0 with Data:=y0} with Locs:=y1}]:List aB)) o8 rfl rfl rfl rfl) ?_))))
 obtain⟨z0,Z0,m⟩:=aD m
 exact ve λu=>fG (c:=aK) 1 Z0 o8 rfl rfl rfl t0 u rfl λtg1 t1 K4=>qk K4 rfl (v (eH m tg1 t1 (mE [1] rfl rfl (.k3 .nil))))
 exact v (lN m tg0 t0 (lx (.k3 .nil)))
 rintro tg2 ⟨r0,r1⟩ t2 m
 refine v (v ?_)
 obtain rfl:=eP m
 exact vr λu=>dW.of1 (.inl rfl) (gN _ _ (ow _ _ _) rfl) (aU (List.nil_sublist _) u).1 ((dU _ 0 t2 u rfl)) ⟨rfl,rfl⟩
theorem NC:aP Tryz.prog 152=true:=by kernel_rfl
def GX (m:Nat) (p0:aA) (q0:List aH) (q1:Int):Option (Lp ((List aH)×Int) (aA)):=
 if (decide (q1 < (p0.Snaps.length:Int)))=true then ((ix p0.Snaps q1).bind λx0=>(GW m x0.Man).bind λy0=>(wG m x0.Locs).bind λy1=>(app q0 ([{ { x0 with Man:=y0} with Locs:=y1}]:List aH)).bind λz0=>some (.go (z0,IntKind.wrap .i64 (q1+1)))) else some (.brk (q0,q1))
def GY (m:Nat) (p0:aA) (q0:List aT) (q1:Int):Option (Lp ((List aT)×Int) (aA)):=
 if (decide (q1 < (p0.Exps.length:Int)))=true then ((ix p0.Exps q1).bind λx0=>(wG m x0.Locs).bind λy0=>(app q0 ([{ x0 with Locs:=y0}]:List aT)).bind λz0=>some (.go (z0,IntKind.wrap .i64 (q1+1)))) else some (.brk (q0,q1))
def M90 (m:Nat) (p0:aA):Option (aA):=
 after (aS (λs=>GX m p0 s.1 s.2) m ([],0)) λ⟨r0,r1⟩=>after (aS (λs=>GY m p0 s.1 s.2) m ([],0)) λ⟨r2,r3⟩=>(J0 m p0.Chunks).bind λy0=>(app ([]:List aQ) p0.Vols).bind λz0=>some ({ Seq:=p0.Seq,Snaps:=r0,Chunks:=y0,Exps:=r2,Vols:=z0}:aA)
theorem aGQ:aP Tryz.prog 90=true:=by kernel_rfl
open Go.Vm
def yI (m:Nat) (p0:List aE) (p1:List aE) (q0:Int):Option (Lp (Int) (Bool)):=
 if (decide (q0 < (p0.length:Int)))=true then ((ix p0 q0).bind λx0=>(ix p1 q0).bind λx1=>after (if (x0.Kind !=x1.Kind)=true then (some (.brk true)) else if (!decide (x0.Id=x1.Id))=true then (some (.brk true)) else if (x0.Seq !=x1.Seq)=true then (some (.brk true)) else if (x0.Of !=x1.Of)=true then (some (.brk true)) else if (x0.Off !=x1.Off)=true then (some (.brk true)) else some (.brk (x0.Len !=x1.Len)):Option (Lp (Bool) (Lp (Int) (Bool)))) λj0=>if j0=true then (some (.ret false)) else some (.go (IntKind.wrap .i64 (q0+1)))) else some (.brk q0)
def TX (m:Nat) (p0:List aE) (p1:List aE):Option (Bool):=
 if ((p0.length:Int) !=(p1.length:Int))=true then (some false) else after (aS (λs=>yI m p0 p1 s) m 0) λr0=>some true
theorem W18 {w:Nat} {p0:List aE} {p1:List aE} {o:Bool} (h:aF) (m:TX w p0 p1=some o):
 aM Tryz.prog 18 [.sl none 37 (List.map aI p0),.sl none 37 (List.map aI p1)] h (λr h'=>r= .sc (.bool o)∧h'=h):=by
 refine fK 67 [.tmp 4] Tryz.func18 rfl rfl rfl rfl ?_
 unfold TX at m
 refine v (v (dH l4 rfl (dH l4 rfl (v ?_))))
 apply vi m <;> intro c4 m
 refine v (v ?_)
 obtain rfl:=eP m
 exact eF rfl
 refine v (v (jP m (σ:=Int) (λs=> []) (λs=>.c 0 (.sl none 37 (List.map aI p0)) (.c 1 (.sl none 37 (List.map aI p1)) (.c 5 (nZ s) .nil))) (lx (.k3 .nil)) ?_ ?_))
 rintro _ q0 x m
 replace m:yI w p0 p1 q0=some x:=m
 unfold yI at m
 refine v (dH l4 rfl (v ?_))
 apply vi m <;> intro c0 m
 refine v (v (v (vz [] mixed (λu=>trivial) λu=>zC 0 rfl (fA (.sl _ _ _) rfl) (zI 1 rfl rfl ?_))))
 obtain⟨x0,X0,m⟩:=aD m
 refine zC 2 rfl (lP X0 nO rfl rfl) (zC 3 rfl (lW (.agg (aI x0)) B6 rfl rfl) (zC 4 rfl (fA (.sl _ _ _) rfl) (zI 5 rfl rfl ?_)))
 obtain⟨x1,X1,m⟩:=aD m
 refine zC 6 rfl (lP X1 nO rfl rfl) (zC 7 rfl (lW (.agg (aI x1)) B6 rfl rfl) (aD4 8 9 rfl rfl (by kernel_rfl) ?_ ?_))
 refine(bG (([nZ 0]:List AV)++bC gW++(I9:List AV)) u GO rfl rfl λk189 K0=>⟨trivial, ?_⟩)
 refine zE 9 rfl (bG (([nZ 0]:List AV)++bC gW++(I9:List AV)) K0 GO rfl rfl λk192 K1=>⟨trivial, ?_⟩)
 refine zE 10 rfl (aL 1 (aI x0) K1 rfl rfl rfl rfl GM rfl rfl λK2=>⟨trivial, ?_⟩)
 refine zE 11 rfl (aL 0 (aI x1) K2 rfl rfl rfl rfl GM rfl rfl λK3=>⟨trivial, ?_⟩)
 refine zX (qk (f:=.c 7 _ (.c 6 _ (TA 26 _ _ _ _ _ _ _ _ _))) K3 rfl (vs (fN m (σ:=Bool) (λs=> [(some k192,.obj 38 (aI x1)),(some k189,.obj 38 (aI x0))]) (λs=>.c 0 (.sl none 37 (List.map aI p0)) (.c 1 (.sl none 37 (List.map aI p1)) (.c 5 (nZ q0) (.c 66 (.sc (.bool s)) .nil)))) (λx m=> ?_) ?_)))
 refine v (vl 1 _ cB rfl rfl rfl (vl 0 _ cB rfl rfl rfl ?_))
 apply vi m <;> intro b0 m
 rw[b0]
 exact fY m
 rw[b0]
 refine vl 1 (.agg (bC x0.Id)) eY rfl rfl rfl (vl 0 (.agg (bC x1.Id)) eY rfl rfl rfl (bU (S6 EA TD u5 D7 rfl rfl) ?_))
 apply vi m <;> intro b1 m
 rw[b1]
 exact fY m
 rw[b1]
 refine vl 1 _ cB rfl rfl rfl (vl 0 _ cB rfl rfl rfl ?_)
 apply vi m <;> intro b2 m
 rw[b2]
 exact fY m
 rw[b2]
 refine vl 1 _ cB rfl rfl rfl (vl 0 _ cB rfl rfl rfl ?_)
 apply vi m <;> intro b3 m
 rw[b3]
 exact fY m
 rw[b3]
 refine vl 1 _ cB rfl rfl rfl (vl 0 _ cB rfl rfl rfl ?_)
 apply vi m <;> intro b4 m
 rw[b4]
 exact fY m
 rw[b4]
 exact vl 1 _ cB rfl rfl rfl (vl 0 _ cB rfl rfl rfl (fY m))
 rintro _ j0 m
 refine v ?_
 apply vi m <;> intro c1 m
 refine v (v (fZ m λm=> ?_))
 obtain rfl:=eP m
 exact eF rfl
 exact v (v (zH m (mE [] rfl rfl (.k3 .nil))))
 refine(bG (([nZ 0]:List AV)++bC gW++(I9:List AV)) u GO rfl rfl λk212 K4=>⟨trivial, ?_⟩)
 refine zE 8 rfl (bG (([nZ 0]:List AV)++bC gW++(I9:List AV)) K4 GO rfl rfl λk215 K5=>⟨trivial, ?_⟩)
 refine zE 10 rfl (aL 0 (aI x0) K5 rfl rfl rfl rfl GM rfl rfl λK6=>⟨trivial, ?_⟩)
 refine zE 11 rfl (aL 1 (aI x1) K6 rfl rfl rfl rfl GM rfl rfl λK7=>⟨trivial, ?_⟩)
 refine zX (qk (f:=.c 6 _ (.c 7 _ (TA 26 _ _ _ _ _ _ _ _ _))) K7 rfl (vs (fN m (σ:=Bool) (λs=> [(some k215,.obj 38 (aI x0)),(some k212,.obj 38 (aI x1))]) (λs=>.c 0 (.sl none 37 (List.map aI p0)) (.c 1 (.sl none 37 (List.map aI p1)) (.c 5 (nZ q0) (.c 66 (.sc (.bool s)) .nil)))) (λx m=> ?_) ?_)))
 refine v (vl 0 _ cB rfl rfl rfl (vl 1 _ cB rfl rfl rfl ?_))
 apply vi m <;> intro b5 m
 rw[b5]
 exact fY m
 rw[b5]
 refine vl 0 (.agg (bC x0.Id)) eY rfl rfl rfl (vl 1 (.agg (bC x1.Id)) eY rfl rfl rfl (bU (S6 EA TD u5 D7 rfl rfl) ?_))
 apply vi m <;> intro b6 m
 rw[b6]
 exact fY m
 rw[b6]
 refine vl 0 _ cB rfl rfl rfl (vl 1 _ cB rfl rfl rfl ?_)
 apply vi m <;> intro b7 m
 rw[b7]
 exact fY m
 rw[b7]
 refine vl 0 _ cB rfl rfl rfl (vl 1 _ cB rfl rfl rfl ?_)
 apply vi m <;> intro b8 m
 rw[b8]
 exact fY m
 rw[b8]
 refine vl 0 _ cB rfl rfl rfl (vl 1 _ cB rfl rfl rfl ?_)
 apply vi m <;> intro b9 m
 rw[b9]
 exact fY m
 rw[b9]
 exact vl 0 _ cB rfl rfl rfl (vl 1 _ cB rfl rfl rfl (fY m))
 rintro _ j1 m
 refine v ?_
 apply vi m <;> intro c2 m
 refine v (v (fZ m λm=> ?_))
 obtain rfl:=eP m
 exact eF rfl
 exact v (v (zH m (mE [] rfl rfl (.k3 .nil))))
 exact v (Fq m)
 rintro _ r0 m
 refine v (v ?_)
 obtain rfl:=eP m
 exact eF rfl
theorem RD:aP Tryz.prog 18=true:=by kernel_rfl
open Go.Vm
theorem pU {α ρ:Type} {l:List α} {F:Nat} {body:Int→Option (Lp Int ρ)} (q:α→Bool) (r:ρ) (hF:l.length < F) (hb:∀(i:Nat) (x:α),l[i]? =some x→x∈l→i < l.length→body (i:Int)=some (if q x then .ret r else .go ((i+1:Nat):Int)))
    (he:body (l.length:Int)=some (.brk (l.length:Int))):aS body F 0=some (if l.any q then .ret r else .brk (l.length:Int)):=by
  rw[eV (s0:=(0:Int)) (n:=l.length) (F:=F) (λi:Nat=>(i:Int)) (λi=>(l[i]?).any q) (λ_=>r) hF rfl (λi hi _=>by
    rw[hb i l[i] (List.getElem?_eq_getElem hi) (List.getElem_mem hi) hi,List.getElem?_eq_getElem hi]; rfl) (λ_=>he),iO,iU]
theorem m53 {F:Nat} {l:List aR} (hl:l.length≤1000):wG F l=some l:=by unfold wG; rw[bN (by simp; omega)]; simp
theorem V2 {F:Nat} {l:List Int} (hl:l.length≤1000):vI F l=some l:=by unfold vI; rw[bN (by simp; omega)]; simp
theorem jY {S ρ:Type} {body:S→Option (Lp S ρ)} {n F:Nat} {s0:S} (emb:Nat→S) (hF:n < F) (h0:s0=emb 0) (hb:∀i,i < n→body (emb i)=some (.go (emb (i+1)))) (he:body (emb n)=some (.brk (emb n))):
    aS body F s0=some (.brk (emb n)):=by
  obtain⟨s',h1,h2⟩:=mS (body:=body) (I:=λi s=>s=emb i) (n:=n) (λi s hi hs=>⟨_,by rw[hs]; exact hb i hi,rfl⟩) (λs hs=>by rw[hs]; exact he) F 0 s0 (Nat.zero_le _) (by omega) h0
  rw[h2,h1]
theorem n3 {α ρ:Type} {l:List α} {F:Nat} {body:List α×Int→Option (Lp (List α×Int) ρ)} (hF:l.length < F)
    (hb:∀(i:Nat) (x:α),l[i]? =some x→x∈l→i < l.length→body (l.take i,(i:Int))=some (.go (l.take i++ [x],((i+1:Nat):Int)))) (he:body (l,(l.length:Int))=some (.brk (l,(l.length:Int)))):
    aS body F ([],0)=some (.brk (l,(l.length:Int))):=by
  have:=jY (body:=body) (s0:=(([]:List α),(0:Int))) (n:=l.length) (F:=F) (λi:Nat=>(l.take i,(i:Int))) hF rfl (λi hi=>by
    rw[hb i l[i] (List.getElem?_eq_getElem hi) (List.getElem_mem hi) hi]
    simp) (by simpa using he)
  simpa using this
theorem m52 {F:Nat} {m:bE} (hF:1000≤F) (hp:m.Parts.length≤10) (hi:∀p∈m.Parts,p.Ids.length≤40):GW F m=some m:=by
 unfold GW
 rw[n3 (l:=m.Parts) (by omega) (λi x hx hm hi'=>by
  have:=hi x hm
  unfold tF
  rw[iK (by omega)]
  simp only[aX,hx,Option.bind_some,Int.ofNat_lt,hi',decide_true,if_true]
  rw[bN (by simp; omega)]
  simp only[Option.bind_some,List.nil_append]
  rw[bN (by simp; omega)]
  rfl) (by unfold tF; simp)]
 rfl
theorem m54 {F:Nat} {l:List aB} (hF:1000≤F) (hl:l.length≤400) (hx:∀x∈l,x.Locs.length≤300∧x.Data.length≤300):J0 F l=some l:=by
 unfold J0
 rw[n3 (l:=l) (by omega) (λi x hx' hm hi'=>by
  have:=hx x hm
  unfold tG
  rw[iK (by omega)]
  simp only[aX,hx',Option.bind_some,Int.ofNat_lt,hi',decide_true,if_true,V2 (F:=F) (show x.Data.length≤1000 by omega),m53 (F:=F) (show x.Locs.length≤1000 by omega)]
  rw[bN (by simp; omega)]
  rfl) (by unfold tG; simp)]
 rfl
theorem m14 {F:Nat} {c:aA} (hF:1000≤F) (h:Sm c):M90 F c=some c:=by
 have hsn:=h.sn
 have hex:=h.ex
 have hvo:=h.vo
 unfold M90
 rw[n3 (l:=c.Snaps) (by omega) (λi x hx hm hi'=>by
  have h1:=h.sl x hm
  obtain⟨-,h2,h3⟩:=h.man x hm
  unfold GX
  rw[iK (by omega)]
  simp only[aX,hx,Option.bind_some,Int.ofNat_lt,hi',decide_true,if_true,m52 hF h2 (λp hp=>(h3 p hp).2),m53 (F:=F) (show x.Locs.length≤1000 by omega)]
  rw[bN (by simp; omega)]
  rfl) (by unfold GX; simp)]
 rw[n3 (l:=c.Exps) (by omega) (λi x hx hm hi'=>by
  have h1:=h.el x hm
  unfold GY
  rw[iK (by omega)]
  simp only[aX,hx,Option.bind_some,Int.ofNat_lt,hi',decide_true,if_true,m53 (F:=F) (show x.Locs.length≤1000 by omega)]
  rw[bN (by simp; omega)]
  rfl) (by unfold GY; simp)]
 simp only[aG,m54 hF h.ch h.cl,Option.bind_some]
 rw[bN (by simp; omega)]
 rfl
open Go.Vm
def M23 (m:Nat) (p0:aA) (p1:Int):Option ((List aE)):=
 (Q4 m p0).bind λy0=>if (y0 !=0)=true then (some []) else (VM m p0 (λx0 x1=>M63 m x0 x1 p1)).bind λy1=>some y1
theorem W23 {w:Nat} {p0:aA} {p1:Int} {o:(List aE)} (h:aF) (m:M23 w p0 p1=some o):
 aM Tryz.prog 23 [.agg (aC p0),nZ p1] h (λr h'=>r= .sl none 37 (List.map aI o)∧h'=h):=by
 refine fK 11 [.tmp 4] Tryz.func23 rfl rfl rfl rfl ?_
 unfold M23 at m
 refine v (gX rfl rfl λk2 K3=>gX rfl rfl λk5 K6=>v (vl 1 (.agg (aC p0)) cZ rfl rfl rfl (vk W31 MW m rfl rfl λ_ m=>v ?_)))
 apply vi m <;> intro c0 m
 refine v (v ?_)
 cases m
 exact vr λu=>dW.of1 (.inl rfl) (gN _ _ (.sc (.slice _ _ _)) rfl) (aU (List.nil_sublist _) u).1 (a9 _) ⟨rfl,rfl⟩
 refine v (v (vl 1 (.agg (aC p0)) cZ rfl rfl rfl ?_))
 obtain⟨_,Y0,m⟩:=aD m
 refine vn (λu=>bV (W50 _ aFR (λ_ _ o h0 hs ho=>W63 _ (hs _ _ (aW 0 u rfl)) ho) Y0) rfl VO rfl) (v ?_)
 obtain rfl:=eP m
 exact eF rfl
theorem aGS:aP Tryz.prog 23=true:=by kernel_rfl
def yJ (m:Nat) (p0:List Int) (q0:List aQ) (q1:Int):Option (Lp ((List aQ)×Int) (aA)):=
 if (decide (q1 < (p0.length:Int)))=true then ((ix p0 q1).bind λx0=>(app q0 ([({ Pool:=x0,Epoch:=0,State:=1,Files:=0}:aQ)]:List aQ)).bind λz0=>some (.go (z0,IntKind.wrap .i64 (q1+1)))) else some (.brk (q0,q1))
def M33 (m:Nat) (p0:List Int):Option (aA):=
 after (aS (λs=>yJ m p0 s.1 s.2) m ([],0)) λ⟨r0,r1⟩=>some ({ Seq:=0,Snaps:= [],Chunks:= [],Exps:= [],Vols:=r0}:aA)
theorem W33 {w:Nat} {p0:List Int} {o:aA} (h:aF) (m:M33 w p0=some o):
 aM Tryz.prog 33 [.sl none 1 (List.map fL p0)] h (λr h'=>r= .agg (aC o)∧h'=h):=by
 refine fK 22 [.cell 2 30] Tryz.func33 rfl rfl rfl rfl ?_
 unfold M33 at m
 refine v (ve λu=>bG (i7) u sK rfl rfl λk2 K3=>qk K3 rfl (v (ve λu=>bG (i7) u sK rfl rfl λk6 K7=>qk K7 rfl (v (qE (ZB (.tok 49 4 (([]:List aQ).length*4)) 1 ([nZ 0,sZ,sZ,sZ,ow none 4 (List.map dG [])]) rfl (.k4 (.cons (gQ (c:=dG) _ 4) .nil))) (nW m (σ:=(List aQ)×Int) (τ:=Option bT) (λg s=> [(g,.tok 49 4 ((s.1:List aQ).length*4)),(some k6,.obj 30 ([nZ 0,sZ,sZ,sZ,ow g 4 (List.map dG s.1)])),(some k2,.obj 30 (i7))]) (λg s=>(g=none→s.1= [])) (λg s=>.c 0 (.sl none 1 (List.map fL p0)) (.c 2 (.ptr k2 0) (.c 3 (.ptr k6 0) (.c 4 (nZ s.2) .nil)))) none (λ_=>rfl) (lx (.k4 .nil)) ?_ ?_))))))
 rintro tg0 ⟨q0,q1⟩ x t0 m
 replace m:yJ w p0 q0 q1=some x:=m
 unfold yJ at m
 refine v (dH L4 rfl (v ?_))
 apply vi m <;> intro c0 m
 refine v (v (v (vz [(10,some k6,.obj 30 ([nZ 0,sZ,sZ,sZ,ow tg0 4 (List.map dG q0)]))] mixed (λu=>⟨λ_=>aO 1 u rfl,trivial⟩) λu=>zF 0 rfl iW rfl (zL 1 0 (ow tg0 4 (List.map dG q0)) rfl iH rfl rfl rfl (zC 2 rfl (fA (.sl _ _ _) rfl) (zI 3 rfl rfl ?_))))))
 obtain⟨x0,X0,m⟩:=aD m
 refine zC 4 rfl (lP X0 ZF rfl rfl) (zC 5 rfl (lW (nZ x0) cB rfl rfl) (zC 6 rfl (eI (dG ({ Pool:=x0,Epoch:=0,State:=1,Files:=0}:aQ)) aER rfl) (zC 7 rfl (eA (List.map dG ([({ Pool:=x0,Epoch:=0,State:=1,Files:=0}:aQ)]:List aQ)) L7 rfl rfl rfl rfl) ?_)))
 obtain⟨z0,Z0,m⟩:=aD m
 refine zE 8 rfl (fG (c:=dG) 0 Z0 L7 rfl rfl rfl t0 u rfl λtg1 t1 K0=>⟨⟨λ_=>aO 1 K0 rfl,trivial⟩, ?_⟩)
 refine zF 9 rfl iW rfl (zE 10 rfl (aL 1 ([nZ 0,sZ,sZ,sZ,ow tg1 4 (List.map dG z0)]) K0 rfl rfl (jF rfl) (pK _ _ _) UY rfl rfl λK1=>⟨⟨λe=>absurd e (by decide),trivial⟩, ?_⟩))
 exact zX (qk (f:=YZ 20 _ _ _ _ _ _ _ _ _ _ _) K1 rfl (v (eH m tg1 t1 (lx (.k4 .nil)))))
 exact v (lN m tg0 t0 (lx (.k4 .nil)))
 rintro tg2 ⟨r0,r1⟩ t2 m
 refine v (vl 1 (.agg ([nZ 0,sZ,sZ,sZ,ow tg2 4 (List.map dG r0)])) cZ rfl rfl rfl (ve λu=>aL 2 ([nZ 0,sZ,sZ,sZ,ow tg2 4 (List.map dG r0)]) u rfl rfl rfl (by repeat (first | exact rfl | refine cG (jG _ _ _) ?_ | refine cG (cC _ _ _) ?_ | refine cG (gG _ _ _ _) ?_ | refine cG rfl ?_)) m8 rfl rfl λK2=>qk K2 rfl ?_))
 refine v ?_
 cases m
 exact vr λu=>dW.of1 (.inl rfl) (sE (.agg ([nZ 0,sZ,sZ,sZ,ow tg2 4 (List.map dG r0)])) cZ rfl (aW 2 u rfl) rfl) (aU (List.nil_sublist _) u).1 (bD.agg (.cons (bD.refl _ _) (.cons (a9 _) (.cons (a9 _) (.cons (a9 _) (.cons ((dU _ 0 t2 u rfl)) .nil)))))) ⟨rfl,rfl⟩
theorem aGT:aP Tryz.prog 33=true:=by kernel_rfl
open Go.Vm
def yK (m:Nat) (p0:aA) (p1:bH) (q0:Int) (q1:Int) (q2:Int):Option (Lp (Int) (Lp (Int) (Lp (Int) (Bool)))):=
 (ix p0.Snaps q0).bind λx0=>(ix x0.Man.Parts q1).bind λx1=>if (decide (q2 < (x1.Ids.length:Int)))=true then ((ix p0.Snaps q0).bind λx2=>(ix x2.Man.Parts q1).bind λx3=>(ix x3.Ids q2).bind λx4=>if (decide (x4=p1))=true then (some (.ret (.ret (.ret true)))) else some (.go (IntKind.wrap .i64 (q2+1)))) else some (.brk q2)
def yL (m:Nat) (p0:aA) (p1:bH) (q0:Int) (q1:Int):Option (Lp (Int) (Lp (Int) (Bool))):=
 (ix p0.Snaps q0).bind λx0=>if (decide (q1 < (x0.Man.Parts.length:Int)))=true then (after (aS (λs=>yK m p0 p1 q0 q1 s) m 0) λr0=>some (.go (IntKind.wrap .i64 (q1+1)))) else some (.brk q1)
def yM (m:Nat) (p0:aA) (p1:bH) (q0:Int):Option (Lp (Int) (Bool)):=
 if (decide (q0 < (p0.Snaps.length:Int)))=true then (after (aS (λs=>yL m p0 p1 q0 s) m 0) λr0=>some (.go (IntKind.wrap .i64 (q0+1)))) else some (.brk q0)
def V3 (m:Nat) (p0:aA) (p1:bH):Option (Bool):=
 after (aS (λs=>yM m p0 p1 s) m 0) λr0=>some false
theorem W38 {u:Nat} {p0:aA} {p1:bH} {o:Bool} (h:aF) (m:V3 u p0 p1=some o):
 aM Tryz.prog 38 [.agg (aC p0),.agg (bC p1)] h (λr h'=>r= .sc (.bool o)∧h'=h):=by
 refine fK 59 [.tmp 4] Tryz.func38 rfl rfl rfl rfl ?_
 unfold V3 at m
 refine v (gX rfl rfl λk2 K3=>gX rfl rfl λk5 K6=>v (jP m (σ:=Int) (λs=> [(some k5,.obj 36 (bC p1)),(some k2,.obj 30 (aC p0))]) (λs=>.c 2 (.ptr k2 0) (.c 3 (.ptr k5 0) (.c 5 (nZ s) .nil))) (lx (.k3 .nil)) ?_ ?_))
 rintro _ q0 x m
 replace m:yM u p0 p1 q0=some x:=m
 unfold yM at m
 refine v (vl 1 _ fI rfl rfl rfl (dH kZ rfl (v ?_)))
 apply vi m <;> intro c0 m
 refine v (v (v (jP m (σ:=Int) (λs=> [(some k5,.obj 36 (bC p1)),(some k2,.obj 30 (aC p0))]) (λs=>.c 2 (.ptr k2 0) (.c 3 (.ptr k5 0) (.c 5 (nZ q0) (.c 6 (nZ s) .nil)))) (lx (.k4 .nil)) ?_ ?_)))
 rintro _ q1 x m
 replace m:yL u p0 p1 q0 q1=some x:=m
 unfold yL at m
 refine v (vl 1 _ fI rfl rfl rfl (vx m jL rfl rfl λ_ _ m=>dH zQ rfl (v ?_)))
 apply vi m <;> intro c1 m
 refine v (v (v (jP m (σ:=Int) (λs=> [(some k5,.obj 36 (bC p1)),(some k2,.obj 30 (aC p0))]) (λs=>.c 2 (.ptr k2 0) (.c 3 (.ptr k5 0) (.c 5 (nZ q0) (.c 6 (nZ q1) (.c 7 (nZ s) .nil))))) (lx (.k5 .nil)) ?_ ?_)))
 rintro _ q2 x m
 replace m:yK u p0 p1 q0 q1 q2=some x:=m
 unfold yK at m
 refine v (vl 1 _ fI rfl rfl rfl (vx m jL rfl rfl λ_ _ m=>vx m sM rfl rfl λ_ _ m=>dH uY rfl (v ?_)))
 apply vi m <;> intro c2 m
 refine v (v (v (vq (by kernel_rfl) (vl 1 _ fI rfl rfl rfl (vx m jL rfl rfl λ_ _ m=>vx m sM rfl rfl λ_ _ m=>vx m zT rfl rfl λx0 _ m=>va (.agg (bC x0)) eY rfl rfl (vl 0 (.agg (bC p1)) eY rfl rfl rfl (bU (AO EA TD u5 D7 rfl rfl) (v ?_))))))))
 apply vi m <;> intro c3 m
 refine v (v (fZ m λm=>fZ m λm=>fZ m λm=> ?_))
 obtain rfl:=eP m
 exact eF rfl
 exact v (v (kY m))
 exact v (XJ m)
 rintro _ r0 m
 exact v (fY m)
 exact v (wE m)
 rintro _ r1 m
 exact v (gD m)
 exact v (Fq m)
 rintro _ r2 m
 refine v (v ?_)
 obtain rfl:=eP m
 exact eF rfl
theorem V4:aP Tryz.prog 38=true:=by kernel_rfl
def CG (m:Nat) (p0:aA) (p1:List aR) (p2:Int) (q0:Bool) (q1:Bool) (q2:Int):Option (Lp (Bool×Bool×Int) (Bool×Bool)):=
 if (decide (q2 < (p1.length:Int)))=true then ((ix p1 q2).bind λx0=>after (if (x0.Vol==p2)=true then (some (.brk (true,q1))) else (ix p1 q2).bind λx1=>(ix p0.Vols x1.Vol).bind λx2=>(ix p0.Vols p2).bind λx3=>after (if (x2.Pool==x3.Pool)=true then (some (.brk true)) else some (.brk q1):Option (Lp (Bool) (Lp (Bool×Bool) (Lp (Bool×Bool×Int) (Bool×Bool))))) λj0=>some (.brk (q0,j0)):Option (Lp (Bool×Bool) (Lp (Bool×Bool×Int) (Bool×Bool)))) λ⟨j1,j2⟩=>some (.go (j1,j2,IntKind.wrap .i64 (q2+1)))) else some (.brk (q0,q1,q2))
def ND (m:Nat) (p0:aA) (p1:List aR) (p2:Int):Option (Bool×Bool):=
 after (aS (λs=>CG m p0 p1 p2 s.1 s.2.1 s.2.2) m (false,false,0)) λ⟨r0,r1,r2⟩=>some (r0,r1)
theorem V5 {u:Nat} {p0:aA} {p1:List aR} {p2:Int} {o:Bool×Bool} (h:aF) (m:ND u p0 p1 p2=some o):
 aM Tryz.prog 112 [.agg (aC p0),.sl none 4 (List.map aN p1),nZ p2] h (λr h'=>r= .tup [.sc (.bool o.1),.sc (.bool o.2)]∧h'=h):=by
 refine fK 41 [.tmp 6,.tmp 7] Tryz.func112 rfl rfl rfl rfl ?_
 unfold ND at m
 refine v (gX rfl rfl λk2 K3=>v (jP m (σ:=Bool×Bool×Int) (λs=> [(some k2,.obj 30 (aC p0))]) (λs=>.c 1 (.sl none 4 (List.map aN p1)) (.c 2 (nZ p2) (.c 3 (.ptr k2 0) (.c 6 (.sc (.bool s.1)) (.c 7 (.sc (.bool s.2.1)) (.c 8 (nZ s.2.2) .nil)))))) (lx (.k6 .nil)) ?_ ?_))
 rintro _ ⟨q0,q1,q2⟩ x m
 replace m:CG u p0 p1 p2 q0 q1 q2=some x:=m
 unfold CG at m
 refine v (dH kD rfl (v ?_))
 apply vi m <;> intro c0 m
 refine v (v (v (vx m i9 rfl rfl λ_ _ m=>fN m (σ:=Bool×Bool) (λs=> [(some k2,.obj 30 (aC p0))]) (λs=>.c 1 (.sl none 4 (List.map aN p1)) (.c 2 (nZ p2) (.c 3 (.ptr k2 0) (.c 6 (.sc (.bool s.1)) (.c 7 (.sc (.bool s.2)) (.c 8 (nZ q2) .nil)))))) (λx m=> ?_) ?_)))
 refine v ?_
 apply vi m <;> intro c1 m
 exact v (m5 m)
 refine v (vq (by kernel_rfl) (vl 0 _ iH rfl rfl rfl (vx m i9 rfl rfl λ_ _ m=>vx m lZ rfl rfl λ_ _ m=>vl 0 _ iH rfl rfl rfl (vx m lZ rfl rfl λ_ _ m=>fN m (σ:=Bool) (λs=> [(some k2,.obj 30 (aC p0))]) (λs=>.c 1 (.sl none 4 (List.map aN p1)) (.c 2 (nZ p2) (.c 3 (.ptr k2 0) (.c 6 (.sc (.bool q0)) (.c 7 (.sc (.bool s)) (.c 8 (nZ q2) .nil)))))) (λx m=> ?_) ?_))))
 refine v ?_
 apply vi m <;> intro c2 m
 exact v (m5 m)
 exact v (m5 m)
 rintro _ j0 m
 exact m5 m
 rintro _ ⟨j1,j2⟩ m
 exact v (m5 m)
 exact v (bq6 m)
 rintro _ ⟨r0,r1,r2⟩ m
 refine v (v ?_)
 cases m
 exact vr2 rfl rfl
theorem NE:aP Tryz.prog 112=true:=by kernel_rfl
def GZ (m:Nat) (p0:aA) (p1:Int) (p2:Bool) (q0:List aE) (q1:Int):Option (Lp ((List aE)×Int) ((List aE))):=
 if (decide (q1 < (p0.Chunks.length:Int)))=true then ((ix p0.Chunks q1).bind λx0=>(ND m p0 x0.Locs p1).bind λy0=>after (if y0.1=true then (if (!p2)=true then (some (.brk true)) else if (!y0.2)=true then ((ix p0.Chunks q1).bind λx1=>(V3 m p0 x1.Id).bind λy1=>some (.brk y1)) else some (.brk false)) else some (.brk false):Option (Lp (Bool) (Lp ((List aE)×Int) ((List aE))))) λj0=>after (if j0=true then ((ix p0.Chunks q1).bind λx2=>(app q0 ([({ Kind:=1,Id:=x2.Id,Seq:=0,Of:=0,Off:=0,Len:=0}:aE)]:List aE)).bind λz0=>some (.brk z0)) else some (.brk q0):Option (Lp ((List aE)) (Lp ((List aE)×Int) ((List aE))))) λj1=>some (.go (j1,IntKind.wrap .i64 (q1+1)))) else some (.brk (q0,q1))
def G0 (m:Nat) (p0:aA) (p1:Int) (p2:Bool) (q0:List aE) (q1:Int):Option (Lp ((List aE)×Int) ((List aE))):=
 if (decide (q1 < (p0.Snaps.length:Int)))=true then ((ix p0.Snaps q1).bind λx0=>(ND m p0 x0.Locs p1).bind λy0=>after (if y0.1=true then (if (!p2)=true then (some (.brk true)) else some (.brk (!y0.2))) else some (.brk false):Option (Lp (Bool) (Lp ((List aE)×Int) ((List aE))))) λj0=>after (if j0=true then ((ix p0.Snaps q1).bind λx1=>(app q0 ([({ Kind:=2,Id:=gW,Seq:=x1.Seq,Of:=0,Off:=0,Len:=0}:aE)]:List aE)).bind λz0=>some (.brk z0)) else some (.brk q0):Option (Lp ((List aE)) (Lp ((List aE)×Int) ((List aE))))) λj1=>some (.go (j1,IntKind.wrap .i64 (q1+1)))) else some (.brk (q0,q1))
def G1 (m:Nat) (p0:aA) (p1:Int) (p2:Bool) (q0:List aE) (q1:Int):Option (Lp ((List aE)×Int) ((List aE))):=
 if (decide (q1 < (p0.Exps.length:Int)))=true then ((ix p0.Exps q1).bind λx0=>(ND m p0 x0.Locs p1).bind λy0=>after (if y0.1=true then (if (!p2)=true then (some (.brk true)) else some (.brk (!y0.2))) else some (.brk false):Option (Lp (Bool) (Lp ((List aE)×Int) ((List aE))))) λj0=>after (if j0=true then ((ix p0.Exps q1).bind λx1=>(ix p0.Exps q1).bind λx2=>(app q0 ([({ Kind:=3,Id:=gW,Seq:=x1.Seq,Of:=x2.Of,Off:=0,Len:=0}:aE)]:List aE)).bind λz0=>some (.brk z0)) else some (.brk q0):Option (Lp ((List aE)) (Lp ((List aE)×Int) ((List aE))))) λj1=>some (.go (j1,IntKind.wrap .i64 (q1+1)))) else some (.brk (q0,q1))
def M69 (m:Nat) (p0:aA) (p1:Int) (p2:Bool):Option ((List aE)):=
 after (if (decide (p1 < 0))=true then (some (.brk true)) else some (.brk (decide ((p0.Vols.length:Int)≤p1))):Option (Lp (Bool) ((List aE)))) λj9=>if j9=true then (some []) else after (aS (λs=>GZ m p0 p1 p2 s.1 s.2) m ([],0)) λ⟨r0,r1⟩=>after (aS (λs=>G0 m p0 p1 p2 s.1 s.2) m (r0,0)) λ⟨r2,r3⟩=>after (aS (λs=>G1 m p0 p1 p2 s.1 s.2) m (r2,0)) λ⟨r4,r5⟩=>some r4
theorem W69 {w:Nat} {p0:aA} {p1:Int} {p2:Bool} {o:(List aE)} (h:aF) (m:M69 w p0 p1 p2=some o):
 aM Tryz.prog 69 [.agg (aC p0),nZ p1,.sc (.bool p2)] h (λr h'=>r= .sl none 37 (List.map aI o)∧h'=h):=by
 refine fK 157 [.tmp 6] Tryz.func69 rfl rfl rfl rfl ?_
 unfold M69 at m
 refine v (gX rfl rfl λk2 K3=>v (vs (vs (fN m (σ:=Bool) (λs=> [(some k2,.obj 30 (aC p0))]) (λs=>.c 1 (nZ p1) (.c 2 (.sc (.bool p2)) (.c 3 (.ptr k2 0) (.c 7 (sZ) (.c 25 (.sc (.bool s)) .nil))))) (λx m=> ?_) ?_))))
 refine v ?_
 apply vi m <;> intro b0 m
 rw[b0]
 exact kY m
 rw[b0]
 exact vl 0 _ iH rfl rfl rfl (dH qK rfl (kY m))
 rintro _ j9 m
 refine v ?_
 apply vi m <;> intro c0 m
 refine v (v ?_)
 cases m
 exact vr λu=>dW.of1 (.inl rfl) (gN _ _ (.sc (.slice _ _ _)) rfl) (aU (List.nil_sublist _) u).1 (a9 _) ⟨rfl,rfl⟩
 refine v (v (qE (AS (.tok 38 37 (([]:List aE).length*37)) 7 (ow none 37 (List.map aI [])) (gQ _ _)) (nW m (σ:=(List aE)×Int) (τ:=Option bT) (λg s=> [(g,.tok 38 37 ((s.1:List aE).length*37)),(some k2,.obj 30 (aC p0))]) (λg s=>(g=none→s.1= [])) (λg s=>.c 1 (nZ p1) (.c 2 (.sc (.bool p2)) (.c 3 (.ptr k2 0) (.c 7 (ow g 37 (List.map aI s.1)) (.c 8 (nZ s.2) .nil))))) none (λ_=>rfl) (lx (.k5 .nil)) ?_ ?_)))
 rintro tg0 ⟨q0,q1⟩ x t0 m
 replace m:GZ w p0 p1 p2 q0 q1=some x:=m
 unfold GZ at m
 refine v (vl 1 _ fD rfl rfl rfl (dH lI rfl (v ?_)))
 apply vi m <;> intro c1 m
 refine v (v (v (vq (by kernel_rfl) (vl 1 (.agg (aC p0)) cZ rfl rfl rfl (vl 1 _ fD rfl rfl rfl (vx m h9 rfl rfl λ_ _ m=>vk V5 NE m rfl rfl λ_ m=>vs (fN m (σ:=Bool) (λs=> [(tg0,.tok 38 37 ((q0:List aE).length*37)),(some k2,.obj 30 (aC p0))]) (λs=>.c 1 (nZ p1) (.c 2 (.sc (.bool p2)) (.c 3 (.ptr k2 0) (.c 7 (ow tg0 37 (List.map aI q0)) (.c 8 (nZ q1) (.c 63 (.sc (.bool s)) .nil)))))) (λx m=> ?_) ?_)))))))
 refine v (vq (by kernel_rfl) ?_)
 apply vi m <;> intro b1 m
 rw[b1]
 apply vi m <;> intro b2 m
 rw[b2]
 exact m5 m
 rw[b2]
 apply vi m <;> intro b3 m
 rw[b3]
 exact vl 1 (.agg (aC p0)) cZ rfl rfl rfl (vl 1 _ fD rfl rfl rfl (vx m h9 rfl rfl λx0 _ m=>va (.agg (bC x0.Id)) eY rfl rfl (vk W38 V4 m rfl rfl λ_ m=>m5 m)))
 rw[b3]
 exact m5 m
 rw[b1]
 exact m5 m
 rintro _ j0 m
 refine oG m (σ:=(List aE)) (τ:=Option bT) (λg s=> [(g,.tok 38 37 ((s:List aE).length*37)),(some k2,.obj 30 (aC p0))]) (λg s=>(g=none→s= [])) (λg s=>.c 1 (nZ p1) (.c 2 (.sc (.bool p2)) (.c 3 (.ptr k2 0) (.c 7 (ow g 37 (List.map aI s)) (.c 8 (nZ q1) .nil))))) (λx m=> ?_) ?_
 refine v ?_
 apply vi m <;> intro c2 m
 refine v (vl 1 _ fD rfl rfl rfl (vx m h9 rfl rfl λx1 _ m=>va (.agg (bC x1.Id)) eY rfl rfl (bU (eI (aI ({ Kind:=1,Id:=x1.Id,Seq:=0,Of:=0,Off:=0,Len:=0}:aE)) sL rfl) (bU (eA (List.map aI ([({ Kind:=1,Id:=x1.Id,Seq:=0,Of:=0,Off:=0,Len:=0}:aE)]:List aE)) lA rfl rfl rfl rfl) ?_))))
 obtain⟨z0,Z0,m⟩:=aD m
 exact ve λu=>fG (c:=aI) 0 Z0 lA rfl rfl rfl t0 u rfl λtg1 t1 K0=>qk K0 rfl (eH m tg1 t1 (lx (.k5 .nil)))
 exact v (eH m tg0 t0 (lx (.k5 .nil)))
 rintro tg2 j1 t2 m
 exact v (eH m tg2 t2 (lx (.k5 .nil)))
 exact v (lN m tg0 t0 (lx (.k5 .nil)))
 rintro tg3 ⟨r0,r1⟩ t3 m
 refine v (nW m (σ:=(List aE)×Int) (τ:=Option bT) (λg s=> [(g,.tok 38 37 ((s.1:List aE).length*37)),(some k2,.obj 30 (aC p0))]) (λg s=>(g=none→s.1= [])) (λg s=>.c 1 (nZ p1) (.c 2 (.sc (.bool p2)) (.c 3 (.ptr k2 0) (.c 7 (ow g 37 (List.map aI s.1)) (.c 11 (nZ s.2) .nil))))) tg3 t3 (lx (.k5 .nil)) ?_ ?_)
 rintro tg4 ⟨q2,q3⟩ x t4 m
 replace m:G0 w p0 p1 p2 q2 q3=some x:=m
 unfold G0 at m
 refine v (vl 1 _ fI rfl rfl rfl (dH kZ rfl (v ?_)))
 apply vi m <;> intro c3 m
 refine v (v (v (vq (by kernel_rfl) (vl 1 (.agg (aC p0)) cZ rfl rfl rfl (vl 1 _ fI rfl rfl rfl (vx m jL rfl rfl λ_ _ m=>vk V5 NE m rfl rfl λ_ m=>vs (fN m (σ:=Bool) (λs=> [(tg4,.tok 38 37 ((q2:List aE).length*37)),(some k2,.obj 30 (aC p0))]) (λs=>.c 1 (nZ p1) (.c 2 (.sc (.bool p2)) (.c 3 (.ptr k2 0) (.c 7 (ow tg4 37 (List.map aI q2)) (.c 11 (nZ q3) (.c 101 (.sc (.bool s)) .nil)))))) (λx m=> ?_) ?_)))))))
 refine v ?_
 apply vi m <;> intro b4 m
 rw[b4]
 apply vi m <;> intro b5 m
 rw[b5]
 exact m5 m
 rw[b5]
 exact m5 m
 rw[b4]
 exact m5 m
 rintro _ j2 m
 refine oG m (σ:=(List aE)) (τ:=Option bT) (λg s=> [(g,.tok 38 37 ((s:List aE).length*37)),(some k2,.obj 30 (aC p0))]) (λg s=>(g=none→s= [])) (λg s=>.c 1 (nZ p1) (.c 2 (.sc (.bool p2)) (.c 3 (.ptr k2 0) (.c 7 (ow g 37 (List.map aI s)) (.c 11 (nZ q3) .nil))))) (λx m=> ?_) ?_
 refine v ?_
 apply vi m <;> intro c4 m
 refine v (vl 1 _ fI rfl rfl rfl (vx m jL rfl rfl λx2 _ m=>bU (eI (aI ({ Kind:=2,Id:=gW,Seq:=x2.Seq,Of:=0,Off:=0,Len:=0}:aE)) sL rfl) (bU (eA (List.map aI ([({ Kind:=2,Id:=gW,Seq:=x2.Seq,Of:=0,Off:=0,Len:=0}:aE)]:List aE)) lA rfl rfl rfl rfl) ?_)))
 obtain⟨z1,Z1,m⟩:=aD m
 exact ve λu=>fG (c:=aI) 0 Z1 lA rfl rfl rfl t4 u rfl λtg5 t5 K1=>qk K1 rfl (eH m tg5 t5 (lx (.k5 .nil)))
 exact v (eH m tg4 t4 (lx (.k5 .nil)))
 rintro tg6 j3 t6 m
 exact v (eH m tg6 t6 (lx (.k5 .nil)))
 exact v (lN m tg4 t4 (lx (.k5 .nil)))
 rintro tg7 ⟨r2,r3⟩ t7 m
 refine v (nW m (σ:=(List aE)×Int) (τ:=Option bT) (λg s=> [(g,.tok 38 37 ((s.1:List aE).length*37)),(some k2,.obj 30 (aC p0))]) (λg s=>(g=none→s.1= [])) (λg s=>.c 1 (nZ p1) (.c 2 (.sc (.bool p2)) (.c 3 (.ptr k2 0) (.c 7 (ow g 37 (List.map aI s.1)) (.c 14 (nZ s.2) .nil))))) tg7 t7 (lx (.k5 .nil)) ?_ ?_)
 rintro tg8 ⟨q4,q5⟩ x t8 m
 replace m:G1 w p0 p1 p2 q4 q5=some x:=m
 unfold G1 at m
 refine v (vl 1 _ iG rfl rfl rfl (dH pN rfl (v ?_)))
 apply vi m <;> intro c5 m
 refine v (v (v (vq (by kernel_rfl) (vl 1 (.agg (aC p0)) cZ rfl rfl rfl (vl 1 _ iG rfl rfl rfl (vx m iR rfl rfl λ_ _ m=>vk V5 NE m rfl rfl λ_ m=>vs (fN m (σ:=Bool) (λs=> [(tg8,.tok 38 37 ((q4:List aE).length*37)),(some k2,.obj 30 (aC p0))]) (λs=>.c 1 (nZ p1) (.c 2 (.sc (.bool p2)) (.c 3 (.ptr k2 0) (.c 7 (ow tg8 37 (List.map aI q4)) (.c 14 (nZ q5) (.c 139 (.sc (.bool s)) .nil)))))) (λx m=> ?_) ?_)))))))
 refine v ?_
 apply vi m <;> intro b6 m
 rw[b6]
 apply vi m <;> intro b7 m
 rw[b7]
 exact m5 m
 rw[b7]
 exact m5 m
 rw[b6]
 exact m5 m
 rintro _ j4 m
 refine oG m (σ:=(List aE)) (τ:=Option bT) (λg s=> [(g,.tok 38 37 ((s:List aE).length*37)),(some k2,.obj 30 (aC p0))]) (λg s=>(g=none→s= [])) (λg s=>.c 1 (nZ p1) (.c 2 (.sc (.bool p2)) (.c 3 (.ptr k2 0) (.c 7 (ow g 37 (List.map aI s)) (.c 14 (nZ q5) .nil))))) (λx m=> ?_) ?_
 refine v ?_
 apply vi m <;> intro c6 m
 refine v (vz [(1000000,some k2,.obj 30 (aC p0))] mixed (λu=>⟨λ_=>aO 1 u rfl,trivial⟩) λu=>zC 0 rfl (fA (ow _ _ _) rfl) (zF 1 rfl eU rfl (zL 2 0 (.sl none 3 (List.map cH p0.Exps)) rfl iG rfl rfl rfl (zI 3 rfl rfl ?_))))
 obtain⟨x3,X0,m⟩:=aD m
 refine zC 4 rfl (lP X0 iR rfl rfl) (zC 5 rfl (m6 xV rfl rfl) (zC 6 rfl (lW (nZ x3.Seq) cB rfl rfl) (zF 7 rfl eU rfl (zL 8 0 (.sl none 3 (List.map cH p0.Exps)) rfl iG rfl rfl rfl (zI 9 rfl rfl ?_)))))
 obtain⟨x4,X1,m⟩:=aD m
 refine zC 10 rfl (lP X1 iR rfl rfl) (zC 11 rfl (m6 GQ rfl rfl) (zC 12 rfl (lW (nZ x4.Of) cB rfl rfl) (zC 13 rfl (eI (aI ({ Kind:=3,Id:=gW,Seq:=x3.Seq,Of:=x4.Of,Off:=0,Len:=0}:aE)) sL rfl) (zC 14 rfl (eA (List.map aI ([({ Kind:=3,Id:=gW,Seq:=x3.Seq,Of:=x4.Of,Off:=0,Len:=0}:aE)]:List aE)) lA rfl rfl rfl rfl) ?_))))
 obtain⟨z2,Z2,m⟩:=aD m
 refine zE 15 rfl (fG (c:=aI) 0 Z2 lA rfl rfl rfl t8 u rfl λtg9 t9 K2=>⟨⟨λ_=>aO 1 K2 rfl,trivial⟩, ?_⟩)
 exact zC 16 rfl (hH (ow _ _ _) rfl) (zX (qk (f:=.c 7 _ (QU 155 _ _ _ _ _ _ _ _ _ _ _ _ _ _ _ _ _)) K2 rfl (eH m tg9 t9 (lx (.k5 .nil)))))
 exact v (eH m tg8 t8 (lx (.k5 .nil)))
 rintro tg10 j5 t10 m
 exact v (eH m tg10 t10 (lx (.k5 .nil)))
 exact v (lN m tg8 t8 (lx (.k5 .nil)))
 rintro tg11 ⟨r4,r5⟩ t11 m
 refine v (v ?_)
 obtain rfl:=eP m
 exact vr λu=>dW.of1 (.inl rfl) (gN _ _ (ow _ _ _) rfl) (aU (List.nil_sublist _) u).1 ((dU _ 0 t11 u rfl)) ⟨rfl,rfl⟩
theorem aA4:aP Tryz.prog 69=true:=by kernel_rfl
def M25 (m:Nat) (p0:aA) (p1:Int):Option ((List aE)):=
 (M69 m p0 p1 false).bind λy6=>some y6
theorem W25 {u:Nat} {p0:aA} {p1:Int} {o:(List aE)} (h:aF) (m:M25 u p0 p1=some o):
 aM Tryz.prog 25 [.agg (aC p0),nZ p1] h (λr h'=>r= .sl none 37 (List.map aI o)∧h'=h):=by
 refine fK 8 [.tmp 4] Tryz.func25 rfl rfl rfl rfl ?_
 unfold M25 at m
 refine v (gX rfl rfl λk2 K3=>v (vl 0 (.agg (aC p0)) cZ rfl rfl rfl (vk W69 aA4 m rfl rfl λ_ m=>v ?_)))
 obtain rfl:=eP m
 exact eF rfl
theorem aGW:aP Tryz.prog 25=true:=by kernel_rfl
open Go.Vm
def onV (v:Int) (l:List aR):Bool:=l.any λy=>y.Vol==v
def P2 (x:aB):aE:= { Kind:=1,Id:=x.Id,Seq:=0,Of:=0,Off:=0,Len:=0}
def P3 (x:aH):aE:= { Kind:=2,Id:=gW,Seq:=x.Seq,Of:=0,Off:=0,Len:=0}
def RE (x:aT):aE:= { Kind:=3,Id:=gW,Seq:=x.Seq,Of:=x.Of,Off:=0,Len:=0}
def onL (c:aA) (v:Int):List aE:=(c.Chunks.filter λx=>onV v x.Locs).map P2++(c.Snaps.filter λx=>onV v x.Locs).map P3++(c.Exps.filter λx=>onV v x.Locs).map RE
theorem jN {α β ρ:Type} {l:List α} {F:Nat} (acc0:List β) (q:α→Bool) (it:α→β) {body:List β×Int→Option (Lp (List β×Int) ρ)} (hF:l.length < F)
    (hb:∀(i:Nat) (x:α),l[i]? =some x→x∈l→i < l.length→∀acc:List β,acc.length≤acc0.length+i→body (acc,(i:Int))=some (.go (if q x then acc++ [it x] else acc,((i+1:Nat):Int))))
    (he:∀acc,body (acc,(l.length:Int))=some (.brk (acc,(l.length:Int)))):aS body F (acc0,0)=some (.brk (acc0++(l.filter q).map it,(l.length:Int))):=by
  have:=jY (body:=body) (s0:=(acc0,(0:Int))) (n:=l.length) (F:=F) (λi:Nat=>(acc0++((l.take i).filter q).map it,(i:Int))) hF (by simp) (λi hi=>by
    have hlen:((l.take i).filter q).length≤i:=Nat.le_trans (List.length_filter_le _ _) (by rw[List.length_take]; omega)
    rw[hb i l[i] (List.getElem?_eq_getElem hi) (List.getElem_mem hi) hi _ (by rw[List.length_append,List.length_map]; omega)]
    rw[List.take_succ_eq_append_getElem hi,List.filter_append,List.map_append]
    cases hq:q l[i] <;> simp[List.filter,hq]) (he _)
  simpa using this
def aLG (c:aA) (v:Int):Nat:=((onL c v).filter λx=>x.Kind !=1 || jH c x.Id).length
theorem RF {c:aA} {l:List aR} (h:iA c l=true):∀x∈l,0≤x.Vol∧x.Vol.toNat < c.Vols.length:=by
 intro x hx
 obtain⟨i,hi,rfl⟩:=List.getElem_of_mem hx
 unfold iA at h
 simp only[Bool.and_eq_true,Bool.not_eq_true',List.any_eq_false,List.mem_range] at h
 have this:EI c l i=true:=by simpa using h.2 i hi
 unfold EI at this
 rw[List.getElem?_eq_getElem hi] at this
 simp only[Bool.and_eq_true,fF,decide_eq_true_eq] at this
 obtain⟨⟨⟨⟨⟨k1,k2⟩, -⟩, -⟩, -⟩, -⟩:=this
 omega
theorem J1 {c:aA} (hg:gA c=true):(∀x∈c.Chunks,iA c x.Locs=true)∧(∀x∈c.Snaps,iA c x.Locs=true)∧(∀x∈c.Exps,iA c x.Locs=true):=by
 unfold gA vG CF z5 at hg
 simp only[Bool.and_eq_true,Bool.not_eq_true',List.any_eq_false,List.mem_range] at hg
 obtain⟨⟨⟨⟨-, -⟩,h1, -⟩,h2, -⟩,h3, -⟩:=hg
 refine⟨λx hx=> ?_,λx hx=> ?_,λx hx=> ?_⟩
 ·obtain⟨i,hi,rfl⟩:=List.getElem_of_mem hx
  have this:H6 c i=true:=by simpa using h1 i hi
  unfold H6 at this
  rw[List.getElem?_eq_getElem hi] at this
  simp only[Bool.and_eq_true] at this
  exact this.1.2
 ·obtain⟨i,hi,rfl⟩:=List.getElem_of_mem hx
  have this:DJ c i=true∧FU c i=true:=by simpa using h2 i hi
  replace this:=this.1
  unfold DJ at this
  rw[List.getElem?_eq_getElem hi] at this
  simp only[Bool.and_eq_true] at this
  exact this.2
 ·obtain⟨i,hi,rfl⟩:=List.getElem_of_mem hx
  have this:zG c i=true∧JZ c i=true:=by simpa using h3 i hi
  replace this:=this.1
  unfold zG at this
  rw[List.getElem?_eq_getElem hi] at this
  simp only[Bool.and_eq_true] at this
  exact this.2
theorem m65 {F:Nat} {c:aA} {d:bH} (hF:1000≤F) (h:Sm c):V3 F c d=some (jH c d):=by
 have hsn:=h.sn
 unfold V3
 rw[pU (l:=c.Snaps) (F:=F) (λs=>s.Man.Parts.any λp=>p.Ids.any λx=>decide (d=x)) true (by omega) (λi s hs hm hi=>by
  obtain⟨-,k2,k3⟩:=h.man s hm
  unfold yM
  rw[iK (by omega),pU (l:=s.Man.Parts) (F:=F) (λp=>p.Ids.any λx=>decide (d=x)) (Lp.ret true) (by omega) (λj p hp hm' hj=>by
   have k4:=(k3 p hm').2
   unfold yL
   rw[iK (by omega),pU (l:=p.Ids) (F:=F) (λx=>decide (d=x)) (Lp.ret (Lp.ret true)) (by omega) (λk x hx _ hk=>by
    unfold yK
    rw[iK (by omega)]
    simp only[aX,hs,hp,hx,Option.bind_some,Int.ofNat_lt,hk,decide_true,if_true,decide_eq_true_eq,eq_comm (a:=x)]
    split <;> rfl) (by unfold yK; simp[aX,hs,hp])]
   simp only[aX,hs,Option.bind_some,Int.ofNat_lt,hj,decide_true,if_true]
   cases p.Ids.any λx=>decide (d=x) <;> rfl) (by unfold yL; simp[aX,hs])]
  simp only[Int.ofNat_lt,hi,decide_true,if_true]
  cases s.Man.Parts.any λp=>p.Ids.any λx=>decide (d=x) <;> rfl) (by unfold yM; simp)]
 unfold jH
 cases c.Snaps.any λs=>s.Man.Parts.any λp=>p.Ids.any λx=>decide (d=x) <;> rfl
open Go.Vm
def UD (c:aA) (p need:Int) (r:List Int) (nt st:Int) (i:Nat):Bool:=match c.Vols[i]?,r[i]? with
 | some x,some z=>x.Pool==p && (i:Int) !=nt && x.State==st && decide (need≤z)
 | _,_=>false
open Go.Vm
def vJ {α:Type} (l:List α) (q:α→Bool):Int:=match (List.range l.length).find? λi=>(l[i]?).any q with
 | none=> -1
 | some i=>(i:Int)
theorem n4 {α:Type} {l:List α} (q:α→Bool) {F:Nat} {body:Int→Option (Lp Int Int)} (hF:l.length < F)
    (hb:∀(i:Nat) (x:α),l[i]? =some x→x∈l→i < l.length→body (i:Int)=some (if q x then .ret (i:Int) else .go ((i+1:Nat):Int))) (he:body (l.length:Int)=some (.brk (l.length:Int))):
    (after (aS body F 0) λ_=>some (-1))=some (vJ l q):=by
  rw[eV (s0:=(0:Int)) (n:=l.length) (F:=F) (λi:Nat=>(i:Int)) (λi=>(l[i]?).any q) (λi=>(i:Int)) hF rfl (λi hi _=>by
    rw[hb i l[i] (List.getElem?_eq_getElem hi) (List.getElem_mem hi) hi,List.getElem?_eq_getElem hi]; rfl) (λ_=>he)]
  unfold LF vJ
  cases (List.range l.length).find? λi=>(l[i]?).any q <;> rfl
theorem aGY {F:Nat} {c:aA} {nm:ByteArray} (hF:1000≤F) (hl:c.Snaps.length < 1000):yC F c nm=some (vJ c.Snaps λs=>s.Man.Name.toList==nm.toList):=by
 unfold yC
 refine n4 _ (by omega) (λi x hx hm hi=> ?_) (by unfold oL; simp)
 unfold oL
 rw[iK (by omega)]
 simp only[aX,hx,Option.bind_some,Int.ofNat_lt,hi,decide_true,if_true]
 cases x.Man.Name.toList==nm.toList <;> simp
def inP (c:aA) (p:Int) (x:aR):Bool:=fF x.Vol 0 ((c.Vols.length:Int) - 1) && (c.Vols[x.Vol.toNat]?).any λv=>v.Pool==p
theorem m95 {F:Nat} {c:aA} {p:Int} {x:aR} (hv:c.Vols.length < 1000):XN F x c p=some (inP c p x):=by
 unfold XN inP
 rw[wr (by omega) (by omega),TS]
 simp only[Option.bind_some]
 cases h:fF x.Vol 0 ((c.Vols.length:Int) - 1)
 ·rfl
 ·have h':0≤x.Vol∧x.Vol≤(c.Vols.length:Int) - 1:=by simpa [fF] using h
  have hi:x.Vol.toNat < c.Vols.length:=by omega
  simp only[if_true,oJ _ h'.1,List.getElem?_eq_getElem hi,Option.bind_some,aG,Option.any_some,Bool.true_and]
theorem m46 {F:Nat} {c:aA} {l:List aR} {p:Int} (hF:1000≤F) (hv:c.Vols.length < 1000) (hl:l.length≤300):TQ F c l p=some (l.any (inP c p)):=by
 unfold TQ
 rw[m94 (F:=F) (f:=λx0=>XN F x0 c p) (inP c p) (by omega) (by omega) (λx _=>m95 hv)]
 rfl
def nA (l:List Int):aA:= { Seq:=0,Snaps:= [],Chunks:= [],Exps:= [],Vols:=l.map λp=> { Pool:=p,Epoch:=0,State:=1,Files:=0}}
theorem m32 {F:Nat} {l:List Int} (hF:1000≤F) (hl:l.length≤100):M33 F l=some (nA l):=by
  unfold M33
  rw[jY (s0:=(([]:List aQ),(0:Int))) (n:=l.length) (F:=F) (λi:Nat=>((l.take i).map λp=>({ Pool:=p,Epoch:=0,State:=1,Files:=0}:aQ),(i:Int))) (by omega) (by simp) (λi hi=>by
      unfold yJ
      have hx:l[i]? =some l[i]:=List.getElem?_eq_getElem hi
      rw[iK (by omega)]
      simp only[aX,hx,Option.bind_some,Int.ofNat_lt,hi,decide_true,if_true]
      rw[bN (by simp; omega),List.take_succ_eq_append_getElem hi,List.map_append]; rfl) (by unfold yJ; simp)]
  simp[nA,after]
def EO (p:Int):Bool:=fF p 0 1
theorem RG {l:List Int} (hl:l.length≤8) (hg:gL gI l):Sm (nA l) where
 g:=by
  refine⟨by simp[nA,gI],λ_ h=>by simp[nA] at h,λ_ h=>by simp[nA] at h,λ_ h=>by simp[nA] at h,λx hx=> ?_⟩
  obtain⟨p,hp,rfl⟩:=List.mem_map.1 hx
  exact⟨hg p hp,by simp[gI],by simp[gI],by simp[gI]⟩
 sn:=by simp[nA]
 ch:=by simp[nA]
 ex:=by simp[nA]
 vo:=by simp[nA]; omega
 sl:=by simp[nA]
 man:=by simp[nA]
 cl:=by simp[nA]
 el:=by simp[nA]
theorem J2 {l:List Int} (hl:fF l.length 1 8=true) (hp:l.all EO=true):gA (nA l)=true:=by
 have h1:(nA l).Vols.all l8=true:=by
  rw[List.all_eq_true]
  intro x hx
  obtain⟨p,hq,rfl⟩:=List.mem_map.1 hx
  have:=List.all_eq_true.1 hp p hq
  simp only[EO,fF,Bool.and_eq_true,decide_eq_true_eq] at this
  simp[l8,fF,this.1,this.2]
 have h2:(nA l).Vols.length=l.length:=by simp[nA]
 unfold gA
 rw[h1,h2,hl]
 simp[nA,vG,CF,z5,fF]
theorem V6 {c:aA} (hg:gA c=true) {i:Nat} {s:aH} (hs:c.Snaps[i]? =some s):DJ c i=true∧M8 c s.Man=true:=by
 unfold gA CF at hg
 simp only[Bool.and_eq_true,Bool.not_eq_true',List.any_eq_false,List.mem_range] at hg
 obtain⟨⟨⟨⟨-, -⟩, -, -⟩,h2, -⟩, -, -⟩:=hg
 have h:=h2 i (List.getElem?_eq_some_iff.1 hs).1
 have h:DJ c i=true∧FU c i=true:=by simpa using h
 refine⟨h.1, ?_⟩
 have:=h.2
 unfold FU at this
 rw[hs] at this
 exact this
theorem V7 {c:aA} (hg:gA c=true) {i:Nat} {x:aB} (hs:c.Chunks[i]? =some x):H6 c i=true:=by
 unfold gA vG at hg
 simp only[Bool.and_eq_true,Bool.not_eq_true',List.any_eq_false,List.mem_range] at hg
 obtain⟨⟨⟨⟨-, -⟩,h1, -⟩, -, -⟩, -, -⟩:=hg
 have h:=h1 i (List.getElem?_eq_some_iff.1 hs).1
 simpa using h
theorem J3 {c:aA} (hg:gA c=true):c.Vols.all l8=true:=by
 unfold gA at hg
 simp only[Bool.and_eq_true] at hg
 exact hg.1.1.1.2.1
theorem XO {c:aA} (hg:gA c=true) {l:List aR} (hl:iA c l=true) (hne:l≠ []):l.any (inP c 0)=true∨l.any (inP c 1)=true:=by
 cases l with
 | nil=>exact absurd rfl hne
 | cons x l=>
  obtain⟨h1,h2⟩:=RF hl x (by simp)
  have hv:c.Vols[x.Vol.toNat]? =some c.Vols[x.Vol.toNat]:=List.getElem?_eq_getElem h2
  have hb:=List.all_eq_true.1 (J3 hg) _ (List.getElem_mem h2)
  unfold l8 fF at hb
  simp only[Bool.and_eq_true,decide_eq_true_eq] at hb
  have hr:fF x.Vol 0 ((c.Vols.length:Int) - 1)=true:=by
   simp only[fF,Bool.and_eq_true,decide_eq_true_eq]; omega
  have:c.Vols[x.Vol.toNat].Pool=0∨c.Vols[x.Vol.toNat].Pool=1:=by omega
  rcases this with e | e
  ·left; simp only[List.any_cons,inP,hr,hv,Option.any_some,e]; simp
  ·right; simp only[List.any_cons,inP,hr,hv,Option.any_some,e]; simp
open Go.Vm
structure Rng (c:aA):Prop where
 seq:0≤c.Seq∧c.Seq≤1073741824
 sn:c.Snaps.length≤8
 ch:c.Chunks.length≤200
 ex:c.Exps.length≤200
 vo:c.Vols.length≤8
 s:∀s∈c.Snaps,0≤s.Seq∧s.Seq < c.Seq∧vH s.Man=true∧iA c s.Locs=true
 k:∀x∈c.Chunks,x.Data.length≤64∧iA c x.Locs=true
 e:∀x∈c.Exps,0≤x.Seq∧x.Seq < c.Seq∧0≤x.Of∧x.Of < c.Seq∧iA c x.Locs=true
 v:∀x∈c.Vols,0≤x.Pool∧x.Pool≤1∧0≤x.Epoch∧x.Epoch≤1048576∧1≤x.State∧x.State≤3∧0≤x.Files∧x.Files≤65535
theorem rng {c:aA} (hg:gA c=true):Rng c:=by
 obtain⟨q1,q2,q3⟩:=J1 hg
 have hg0:=hg
 unfold gA at hg0
 simp only[Bool.and_eq_true,fF,decide_eq_true_eq] at hg0
 obtain⟨⟨⟨⟨g1,g2,g3⟩,g4,g5⟩,g6,g7⟩,g8,g9⟩:=hg0
 refine⟨g1,g7,g5,g9,by omega,λs hs=> ?_,λx hx=>⟨?_,q1 x hx⟩,λx hx=> ?_,λx hx=> ?_⟩
 ·obtain⟨i,hi,rfl⟩:=List.getElem_of_mem hs
  have:=(V6 hg (List.getElem?_eq_getElem hi)).1
  unfold DJ at this
  rw[List.getElem?_eq_getElem hi] at this
  simp only[Bool.and_eq_true,fF,decide_eq_true_eq] at this
  obtain⟨⟨⟨⟨h1,h2⟩,h3⟩,h4⟩,h5⟩:=this
  exact⟨h1.1,by omega,h4,h5⟩
 ·obtain⟨i,hi,rfl⟩:=List.getElem_of_mem hx
  have:=V7 hg (List.getElem?_eq_getElem hi)
  unfold H6 at this
  rw[List.getElem?_eq_getElem hi] at this
  simp only[Bool.and_eq_true] at this
  have:=this.2
  split at this
  ·simp only[fF,Bool.and_eq_true,decide_eq_true_eq] at this; omega
  ·simp only[Bool.and_eq_true,Bool.not_eq_true',decide_eq_false_iff_not] at this; omega
 ·obtain⟨i,hi,rfl⟩:=List.getElem_of_mem hx
  unfold z5 at g8
  simp only[Bool.not_eq_true',List.any_eq_false,List.mem_range] at g8
  have:=g8 i hi
  have this:zG c i=true∧JZ c i=true:=by simpa using this
  have:=this.1
  unfold zG at this
  rw[List.getElem?_eq_getElem hi] at this
  simp only[Bool.and_eq_true,fF,decide_eq_true_eq] at this
  obtain⟨⟨⟨⟨h1,h2⟩,h3⟩,h4⟩,h5⟩:=this
  exact⟨h1.1,by omega,h3.1,by omega,h5⟩
 ·have hb:=List.all_eq_true.1 g2 x hx
  unfold l8 fF at hb
  simp only[Bool.and_eq_true,Bool.or_eq_true,decide_eq_true_eq,beq_iff_eq] at hb
  omega
theorem i1:((1:Nat):Int)=1:=rfl
theorem i2:((2:Nat):Int)=2:=rfl
theorem i4:((4:Nat):Int)=4:=rfl
open Go.Vm
theorem NF {α:Type} {R:α→α→Prop} (tr:∀a b c,R a b→R b c→R a c):∀ {l:List α},(∀(i:Nat) (x y:α),l[i]? =some y→l[i+1]? =some x→R y x)→l.Pairwise R
 | [],_=>.nil
 | [a],_=>List.pairwise_singleton _ _
 | a::b::t,h=>by
  have ih:(b::t).Pairwise R:=NF tr λi x y h1 h2=>h (i+1) x y (by simpa using h1) (by simpa using h2)
  have ab:R a b:=h 0 b a rfl rfl
  refine List.pairwise_cons.2 ⟨λz hz=> ?_,ih⟩
  rcases List.mem_cons.1 hz with rfl | hz
  ·exact ab
  ·exact tr _ _ _ ab ((List.pairwise_cons.1 ih).1 z hz)
theorem V8 {α:Type} {R:α→α→Prop} {l:List α} (h:l.Pairwise R) {i:Nat} {x y:α} (hy:l[i]? =some y) (hx:l[i+1]? =some x):R y x:=by
 obtain⟨h1,e1⟩:=List.getElem?_eq_some_iff.1 hy
 obtain⟨h2,e2⟩:=List.getElem?_eq_some_iff.1 hx
 have:=List.pairwise_iff_getElem.1 h i (i+1) h1 h2 (by omega)
 rwa [e1,e2] at this
theorem pV {α:Type} {q:α→α→Bool} (tr:∀a b c,q b a=true→q c b=true→q c a=true) (l:List α):
    (∀(i:Nat) (x:α),l[i]? =some x→(i==0 || ((l[i - 1]?).all (q x)))=true)↔l.Pairwise λy x=>q x y=true:=by
  constructor
  · intro h
    refine NF (λa b c h1 h2=>tr a b c h1 h2) λi x y hy hx=> ?_
    have:=h (i+1) x hx
    simpa [hy] using this
  · intro h i x hx
    cases i with
    | zero=>rfl
    | succ i=>
      obtain⟨h1,e1⟩:=List.getElem?_eq_some_iff.1 hx
      have hy:l[i]? =some l[i]:=List.getElem?_eq_getElem (by omega)
      have:=V8 h hy hx
      simp[hy,this]
theorem wO (a b:aR):jM a b=true↔b.Vol < a.Vol∨(a.Vol=b.Vol∧(b.File < a.File∨(a.File=b.File∧b.Off < a.Off))):=by
 unfold jM
 by_cases e1:a.Vol=b.Vol <;> by_cases f1:a.File=b.File <;> simp[e1,f1]
theorem yN (a b c:aR) (h1:jM b a=true) (h2:jM c b=true):jM c a=true:=by
 rw[wO] at*
 omega
def tH (vs:List aQ) (x:aR):Bool:=fF x.Vol 0 ((vs.length:Int) - 1) && (match vs[x.Vol.toNat]? with | none=>false | some v=>v.State==2 && fF x.File 1 v.Files) && fF x.Off 0 16777215 && fF x.Len 13 8013
structure Lk (vs:List aQ) (l:List aR):Prop where
 n:l.length≤200
 a:∀x∈l,tH vs x=true
 o:l.Pairwise λy x=>jM x y=true
theorem mT {α:Type} {l:List α} {P:α→Prop}:(∀x∈l,P x)↔∀(i:Nat) (x:α),l[i]? =some x→P x:=by
 constructor
 ·exact λh i x hx=>h x (List.mem_of_getElem? hx)
 ·intro h x hx
  obtain⟨i,hi,rfl⟩:=List.getElem_of_mem hx
  exact h i _ (List.getElem?_eq_getElem hi)
theorem oN {α:Type} {l:List α} {q:Nat→Bool} {P:Nat→α→Prop} (h:∀(i:Nat) (x:α),l[i]? =some x→(q i=true↔P i x)):(!(List.range l.length).any λi=> !q i)=true↔∀(i:Nat) (x:α),l[i]? =some x→P i x:=by
 simp only[Bool.not_eq_true',List.any_eq_false,List.mem_range,Bool.not_eq_true,Bool.not_eq_false']
 constructor
 ·intro k i x hx
  exact(h i x hx).1 (by simpa using k i (List.getElem?_eq_some_iff.1 hx).1)
 ·intro k i hi
  have:=(h i _ (List.getElem?_eq_getElem hi)).2 (k i _ (List.getElem?_eq_getElem hi))
  simpa using this
theorem n5 {c:aA} {l:List aR}:iA c l=true↔Lk c.Vols l:=by
 unfold iA
 rw[Bool.and_eq_true,oN (P:=λi x=>tH c.Vols x=true∧(i==0 || ((l[i - 1]?).all (jM x)))=true) (λi x hx=>by
  unfold EI tH
  rw[hx]
  cases l[i - 1]? <;> simp only[Bool.and_eq_true,Option.all_none,Option.all_some] <;> exact Iff.rfl)]
 constructor
 ·rintro⟨h1,h2⟩
  exact⟨of_decide_eq_true h1,mT.2 λi x hx=>(h2 i x hx).1,(pV yN l).1 λi x hx=>(h2 i x hx).2⟩
 ·intro h
  exact⟨decide_eq_true h.n,λi x hx=>⟨h.a x (List.mem_of_getElem? hx),(pV yN l).2 h.o i x hx⟩⟩
structure Gd (c:aA):Prop where
 q:fF c.Seq 0 1073741824=true
 v:∀v∈c.Vols,l8 v=true
 vn:fF c.Vols.length 1 8=true
 cn:c.Chunks.length≤200
 co:c.Chunks.Pairwise λy x=>ky y.Id < ky x.Id
 cl:∀x∈c.Chunks,Lk c.Vols x.Locs
 cs:∀x∈c.Chunks,if x.Staged=true then fF x.Data.length 1 64=true else x.Data= []∧x.Locs≠ []
 sn:c.Snaps.length≤8
 so:c.Snaps.Pairwise λy x=>y.Seq < x.Seq
 sq:∀s∈c.Snaps,fF s.Seq 0 (c.Seq - 1)=true
 sm:c.Snaps.Pairwise λy x=>(x.Man.Name==y.Man.Name)=false
 sb:∀s∈c.Snaps,vH s.Man=true
 sl:∀s∈c.Snaps,Lk c.Vols s.Locs
 sp:∀s∈c.Snaps,M8 c s.Man=true
 en:c.Exps.length≤200
 eo:c.Exps.Pairwise λy x=>y.Seq < x.Seq
 eq:∀x∈c.Exps,fF x.Seq 0 (c.Seq - 1)=true∧fF x.Of 0 (x.Seq - 1)=true
 el:∀x∈c.Exps,Lk c.Vols x.Locs
 ee:∀x∈c.Exps,x.Locs≠ []
 ex:∀x∈c.Exps,∀s∈c.Snaps,s.Seq≠x.Of
theorem H8 {β:Type} {f:β→β→Bool} (l:List β):(∀(i:Nat) (x:β),l[i]? =some x→(!((l.take i).any λy=>f x y))=true)↔l.Pairwise λy x=>f x y=false:=by
 rw[List.pairwise_iff_getElem]
 constructor
 ·intro h i j hi hj hij
  have:=h j _ (List.getElem?_eq_getElem hj)
  simp only[Bool.not_eq_true',List.any_eq_false,Bool.not_eq_true] at this
  exact this l[i] (List.mem_of_getElem? (i:=i) (by rw[List.getElem?_take_of_lt hij]; exact List.getElem?_eq_getElem hi))
 ·intro h j x hx
  obtain⟨hj,rfl⟩:=List.getElem?_eq_some_iff.1 hx
  simp only[Bool.not_eq_true',List.any_eq_false,Bool.not_eq_true]
  intro y hy
  obtain⟨i,hi,rfl⟩:=List.getElem_of_mem hy
  simp only[List.length_take] at hi
  rw[List.getElem_take]
  exact h i j (by omega) hj (by omega)
theorem kN {c:aA}:gA c=true↔Gd c:=by
  have trS:∀a b d:aH,decide (a.Seq < b.Seq)=true→decide (b.Seq < d.Seq)=true→decide (a.Seq < d.Seq)=true:=λa b d h1 h2=>decide_eq_true (by have:=of_decide_eq_true h1; have:=of_decide_eq_true h2; omega)
  have trE:∀a b d:aT,decide (a.Seq < b.Seq)=true→decide (b.Seq < d.Seq)=true→decide (a.Seq < d.Seq)=true:=λa b d h1 h2=>decide_eq_true (by have:=of_decide_eq_true h1; have:=of_decide_eq_true h2; omega)
  have trC:∀a b d:aB,decide (ky a.Id < ky b.Id)=true→decide (ky b.Id < ky d.Id)=true→decide (ky a.Id < ky d.Id)=true:=λa b d h1 h2=>decide_eq_true (by have:=of_decide_eq_true h1; have:=of_decide_eq_true h2; omega)
  unfold gA vG CF z5
  simp only[Bool.and_eq_true]
  rw[oN (l:=c.Chunks) (P:=λi x=>((i==0 || ((c.Chunks[i - 1]?).all λy=>decide (ky y.Id < ky x.Id)))=true∧iA c x.Locs=true)∧(if x.Staged then fF x.Data.length 1 64 else (!decide (0 < x.Data.length) && !(x.Locs.length==0)))=true) (λi x hx=>by
      unfold H6; rw[hx]; cases c.Chunks[i - 1]? <;> simp only[Bool.and_eq_true,Option.all_none,Option.all_some] <;> exact Iff.rfl),
    oN (l:=c.Snaps) (P:=λi s=>((((fF s.Seq 0 (c.Seq - 1)=true∧(i==0 || ((c.Snaps[i - 1]?).all λy=>decide (y.Seq < s.Seq)))=true)∧(!((c.Snaps.take i).any λy=>s.Man.Name==y.Man.Name))=true)∧vH s.Man=true)∧iA c s.Locs=true)∧M8 c s.Man=true) (λi x hx=>by
      unfold DJ FU; rw[hx]; cases c.Snaps[i - 1]? <;> simp only[Bool.and_eq_true,Option.all_none,Option.all_some] <;> exact Iff.rfl),
    oN (l:=c.Exps) (P:=λi x=>((((fF x.Seq 0 (c.Seq - 1)=true∧(i==0 || ((c.Exps[i - 1]?).all λy=>decide (y.Seq < x.Seq)))=true)∧fF x.Of 0 (x.Seq - 1)=true)∧(!(x.Locs.length==0))=true)∧iA c x.Locs=true)∧(!c.Snaps.any λs=>s.Seq==x.Of)=true) (λi x hx=>by
      unfold zG JZ; rw[hx]; cases c.Exps[i - 1]? <;> simp only[Bool.and_eq_true,Option.all_none,Option.all_some] <;> exact Iff.rfl)]
  constructor
  · rintro⟨⟨⟨⟨h1,h2,h3⟩,hc,h4⟩,hs,h5⟩,he,h6⟩
    refine⟨h1,List.all_eq_true.1 h2,h3,of_decide_eq_true h4, ?_,mT.2 λi x hx=>n5.1 (hc i x hx).1.2,mT.2 λi x hx=> ?_,of_decide_eq_true h5, ?_,mT.2 λi x hx=>(hs i x hx).1.1.1.1.1,(H8 (f:=λs y:aH=>s.Man.Name==y.Man.Name) c.Snaps).1 λi x hx=>(hs i x hx).1.1.1.2,mT.2 λi x hx=>(hs i x hx).1.1.2,mT.2 λi x hx=>n5.1 (hs i x hx).1.2,mT.2 λi x hx=>(hs i x hx).2,of_decide_eq_true h6, ?_,mT.2 λi x hx=>⟨(he i x hx).1.1.1.1.1,(he i x hx).1.1.1.2⟩,mT.2 λi x hx=>n5.1 (he i x hx).1.2,mT.2 λi x hx=> ?_,mT.2 λi x hx=> ?_⟩
    · exact((pV (q:=λx y:aB=>decide (ky y.Id < ky x.Id)) trC c.Chunks).1 λi x hx=>(hc i x hx).1.1).imp λh=>of_decide_eq_true h
    · have:=(hc i x hx).2
      cases hst:x.Staged <;> rw[hst] at this
      · simp only[Bool.false_eq_true,if_false,Bool.and_eq_true] at this ⊢
        obtain⟨t1,t2⟩:=this
        refine⟨?_, ?_⟩
        · cases hd:x.Data with
          | nil=>rfl
          | cons a b=>rw[hd] at t1; simp at t1
        · intro e; rw[e] at t2; simp at t2
      · simpa using this
    · exact((pV (q:=λx y:aH=>decide (y.Seq < x.Seq)) trS c.Snaps).1 λi x hx=>(hs i x hx).1.1.1.1.2).imp λh=>of_decide_eq_true h
    · exact((pV (q:=λx y:aT=>decide (y.Seq < x.Seq)) trE c.Exps).1 λi x hx=>(he i x hx).1.1.1.1.2).imp λh=>of_decide_eq_true h
    · intro e
      have:=(he i x hx).1.1.2
      rw[e] at this
      simp at this
    · have:=(he i x hx).2
      simp only[Bool.not_eq_true',List.any_eq_false,beq_iff_eq] at this
      exact this
  · intro h
    refine⟨⟨⟨⟨h.q,List.all_eq_true.2 h.v,h.vn⟩,λi x hx=> ?_,decide_eq_true h.cn⟩,λi x hx=> ?_,decide_eq_true h.sn⟩,λi x hx=> ?_,decide_eq_true h.en⟩
    · have hm:=List.mem_of_getElem? hx
      refine⟨⟨(pV (q:=λx y:aB=>decide (ky y.Id < ky x.Id)) trC c.Chunks).2 (h.co.imp λh=>decide_eq_true h) i x hx,n5.2 (h.cl x hm)⟩, ?_⟩
      have:=h.cs x hm
      cases hst:x.Staged <;> rw[hst] at this
      · simp only[Bool.false_eq_true,if_false] at this ⊢
        obtain⟨t1,t2⟩:=this
        rw[t1]
        simp[t2]
      · simpa using this
    · have hm:=List.mem_of_getElem? hx
      exact⟨⟨⟨⟨⟨h.sq x hm,(pV (q:=λx y:aH=>decide (y.Seq < x.Seq)) trS c.Snaps).2 (h.so.imp λh=>decide_eq_true h) i x hx⟩,(H8 (f:=λs y:aH=>s.Man.Name==y.Man.Name) c.Snaps).2 h.sm i x hx⟩,h.sb x hm⟩,n5.2 (h.sl x hm)⟩,h.sp x hm⟩
    · have hm:=List.mem_of_getElem? hx
      refine⟨⟨⟨⟨⟨(h.eq x hm).1,(pV (q:=λx y:aT=>decide (y.Seq < x.Seq)) trE c.Exps).2 (h.eo.imp λh=>decide_eq_true h) i x hx⟩,(h.eq x hm).2⟩,by simp[h.ee x hm]⟩,n5.2 (h.el x hm)⟩, ?_⟩
      simp only[Bool.not_eq_true',List.any_eq_false,beq_iff_eq]
      exact h.ex x hm
open Go.Vm
def CH (m:Nat) (p0:List aR):Option (List aR):=app [] p0
theorem RH {w:Nat} {p0:List aR} {o:List aR} (h:aF) (m:CH w p0=some o):
 aM Tryz.prog 67 [.sl none 4 (List.map aN p0)] h (λr h'=>∃g:dD,bK g 4 o.length∧bP h [(g.t,.obj 81 (fl aN o g.sp))]∧r=aZ g∧h'=hp h [(g.t,.obj 81 (fl aN o g.sp))]):=by
 refine iT 8 [.tmp 2] Tryz.func67 rfl rfl rfl rfl ?_
 unfold CH at m
 refine fV λK1 H1=>dQ (qC (hH (.sc (.slice _ _ _)) rfl) (eS (H1 _ _ (fV λK1 H1=>fV λK2 H2=>dQ (vE rfl (kK (jK rfl (by rw[i9]; rfl) (by rw[bF]; exact rfl) (.inl ⟨_,_,_,rfl,λb hb=> ?_⟩))))))))
 refine eS (H2 _ _ (mM rfl (λhc=> ?_) (λhc=> ?_)))
 have h0:p0= []:=by
   cases p0 with
   | nil=>rfl
   | cons x l=>have:=hb (by simp); rw[this] at hc; cases hc
 subst h0
 obtain⟨rfl, -⟩:=jE m
 exact fV λK1 H1=>dQ (qC (hH (.sc (.slice _ _ _)) rfl) (eS (H1 _ _ (gZ (dW.one (.inl rfl) (iE.refl _) (fP _) ⟨g0,bK.g0 _,bP.none (bP.nil _),rfl,rfl⟩)))))
 exact lE (H1 _ _ (fV λK1 H1=>dQ (kK (qF (c:=aN) (bP.nil _) pA λu=>vE rfl (kK (f8 (c:=aN) 0 m pA rfl EE rfl fC rfl rfl (bK.g0 _) u rfl λg ok u=>qC (hH (aw _ _ _) rfl) (eS (H1 _ _ (gZ (dW.one (.inl rfl) (iE.refl _) (bD.refl _ _) ⟨g,ok,u,rfl,rfl⟩))))))))))
theorem RI:aP Tryz.prog 67=true:=by kernel_rfl
def yO (m:Nat) (p0:List aR) (p1:aR→Option Bool) (q0:Int):Option (Lp (Int) (Int)):=
 if (decide (q0 < (p0.length:Int)))=true then ((ix p0 q0).bind λx0=>(p1 x0).bind λy0=>if y0=true then (some (.ret q0)) else some (.go (IntKind.wrap .i64 (q0+1)))) else some (.brk q0)
def NG (m:Nat) (p0:List aR) (p1:aR→Option Bool):Option (Int):=
 after (aS (λs=>yO m p0 p1 s) m 0) λr0=>some (-1)
theorem aA5 {w:Nat} {p0:List aR} {p1:aR→Option Bool} {o:Int} (h:aF) {g_p0:dD} (ok_p0:bK g_p0 4 p0.length) (K0:bP h [(eC g_p0 p0)]) {p1F:Nat} {p1C:List AV} (p1B:aP Tryz.prog p1F=true) (p1H:∀x0 o h0,iE h h0→p1 x0=some o→aM Tryz.prog p1F ([.agg (aN x0)]++p1C) h0 (λr h'=>r= .sc (.bool o)∧h'=h0)) (m:NG w p0 p1=some o):
 aM Tryz.prog 108 [aZ g_p0,.fn (.func p1F) p1C] (hp h [(eC g_p0 p0)]) (λr h'=>r=nZ o∧h'=hp h [(eC g_p0 p0)]):=by
 refine FQ K0 19 [.tmp 4] Tryz.func108 rfl rfl rfl rfl ?_
 unfold NG at m
 refine vs (v0 (vs (vs (v0 (bU (fB kD ok_p0 rfl) (jP m (σ:=Int) (λs=> [(eC g_p0 p0)]) (λs=>.c 0 (aZ g_p0) (.c 1 (.fn (.func p1F) p1C) (.c 7 (nZ (p0.length:Int)) (.c 8 (nZ s) .nil)))) (lx (.k4 .nil)) ?_ ?_))))))
 rintro _ q0 x m
 replace m:yO w p0 p1 q0=some x:=m
 unfold yO at m
 refine vs (v0 (vs (v0 ?_)))
 apply vi m <;> intro c0 m
 refine v0 (vs (v0 (vs (v0 (vs (v0 ?_))))))
 obtain⟨x1,X0,m⟩:=aD m
 refine bU (dF X0 i9 ok_p0 rfl rfl) (vn (λu=>eJ (fo:=0) (.agg (aN x1)) X0 fC ok_p0 m9 rfl (aO 0 u rfl) (λ_=>rfl)) ?_)
 obtain⟨_,Y0,m⟩:=aD m
 refine vn (λu=>bV (p1H _ _ _ (aU (List.nil_sublist _) u).1 Y0) rfl p1B rfl) (v0 ?_)
 apply vi m <;> intro c1 m
 refine vs (v0 (v0 (fZ m λm=> ?_)))
 obtain rfl:=eP m
 exact vr λu=>dW.of1 (.inl rfl) (gN _ _ (.sc (.int _ _)) rfl) (bQ u [0] rfl).2 (bD.refl _ _) ⟨rfl,rfl⟩
 exact v0 (v0 (fY m))
 exact v0 (wE m)
 rintro _ r0 m
 refine vs (v0 (v0 ?_))
 cases m
 exact vr λu=>dW.of1 (.inl rfl) (gN _ _ (.sc (.int _ _)) rfl) (bQ u [0] rfl).2 (bD.refl _ _) ⟨rfl,rfl⟩
def CI (m:Nat) (p1:aR→Option Bool) (q0:List aR) (q1:Int) (q2:Int):Option (Lp ((List aR)×Int×Int) ((List aR))):=
 if (decide (q2 < (q0.length:Int)))=true then ((ix q0 q2).bind λx0=>(p1 x0).bind λy0=>after (if (!y0)=true then ((ix q0 q1).bind λ_=>some (.brk (q0.set q1.toNat (x0),IntKind.wrap .i64 (q1+1)))) else some (.brk (q0,q1)):Option (Lp ((List aR)×Int) (Lp ((List aR)×Int×Int) ((List aR))))) λ⟨j0,j1⟩=>some (.go (j0,j1,IntKind.wrap .i64 (q2+1)))) else some (.brk (q0,q1,q2))
def V9 (m:Nat) (p0:List aR) (p1:aR→Option Bool):Option ((List aR)):=
 (NG m p0 p1).bind λy3=>if (y3==(-1))=true then (some p0) else after (aS (λs=>CI m p1 s.1 s.2.1 s.2.2) m (p0,y3,IntKind.wrap .i64 (y3+1))) λ⟨r0,r1,r2⟩=>grd (decide (0≤r1) && decide (r1 < (r0.length:Int))) <| grd (decide (0≤r1) && decide (r1≤(r0.length:Int))) <| some (r0.take r1.toNat)
theorem aGZ {w:Nat} {p0:List aR} {p1:aR→Option Bool} {o:(List aR)} (h:aF) {g_p0:dD} (ok_p0:bK g_p0 4 p0.length) (K0:bP h [(eC g_p0 p0)]) {p1F:Nat} {p1C:List AV} (p1B:aP Tryz.prog p1F=true) (p1H:∀x0 o h0,iE h h0→p1 x0=some o→aM Tryz.prog p1F ([.agg (aN x0)]++p1C) h0 (λr h'=>r= .sc (.bool o)∧h'=h0)) (m:V9 w p0 p1=some o):
 aM Tryz.prog 66 [aZ g_p0,.fn (.func p1F) p1C] (hp h [(eC g_p0 p0)]) (λr h'=>∃g:dD,bK g 4 o.length∧bP h [(g.t,.obj 81 (fl aN o g.sp))]∧r=aZ g∧h'=hp h [(g.t,.obj 81 (fl aN o g.sp))]):=by
 refine FQ K0 42 [.tmp 4] Tryz.func66 rfl rfl rfl rfl ?_
 unfold V9 at m
 refine vs (v0 (vs (v0 ?_)))
 obtain⟨_,Y4,m⟩:=aD m
 refine ve λu=>fJ ((bM u [0] rfl rfl).1.trans (dO h [(eC g_p0 p0)] []).symm) (dR (aA5 (hp h []) ok_p0 (dJ [(eC g_p0 p0)] [] (bM u [0] rfl rfl).2).2 p1B (λx0 o h0 hs ho=>p1H x0 o h0 ((aU (List.nil_sublist _) (dJ [(eC g_p0 p0)] [] (bM u [0] rfl rfl).2).1).1.trans hs) ho) Y4) rfl TP rfl ?_)
 rintro x h' ⟨rfl,rfl⟩
 refine qk u ((dO h [(eC g_p0 p0)] []).trans (bM u [0] rfl rfl).1.symm) (vs (vs (v0 (v0 ?_))))
 apply vi m <;> intro c7 m
 refine vs (v0 (v0 ?_))
 obtain rfl:=eP m
 exact vr λu=>dW.one (.inl rfl) (aU (h0:=h) (L':= [(eC g_p0 p0)]) (.refl _) u).1 (bD.refl _ _) ⟨g_p0,ok_p0,(aU (h0:=h) (L':= [(eC g_p0 p0)]) (.refl _) u).2,rfl,rfl⟩
 refine v0 (vs (vs (v0 (nW m (σ:=(List aR)×Int×Int) (τ:=dD) (λg s=> [(eC g s.1)]) (λg s=>bK g 4 (s.1:List aR).length) (λg s=>.c 0 (aZ g) (.c 1 (.fn (.func p1F) p1C) (.c 5 (nZ s.2.1) (.c 6 (nZ s.2.2) .nil)))) g_p0 ok_p0 (lx (.k4 .nil)) ?_ ?_))))
 rintro ag0 ⟨q0,q1,q2⟩ x O0 m
 replace m:CI w p1 q0 q1 q2=some x:=m
 unfold CI at m
 refine vs (vs (v0 (bU (fB kD O0 rfl) (v0 ?_))))
 apply vi m <;> intro c0 m
 refine v0 (vs (v0 (vs (v0 ?_))))
 obtain⟨x1,X0,m⟩:=aD m
 refine bU (dF X0 i9 O0 rfl rfl) (vn (λu=>eJ (fo:=0) (.agg (aN x1)) X0 fC O0 m9 rfl (aO 0 u rfl) (λ_=>rfl)) (ve λu=>bG (I9) u EE rfl rfl λk86 K1=>qk K1 rfl (ve λu=>aL 0 (aN x1) u rfl rfl rfl rfl MI rfl rfl λK2=>qk K2 rfl (vs (v0 (vl 0 (.agg (aN x1)) m9 rfl rfl rfl ?_))))))
 obtain⟨_,Y0,m⟩:=aD m
 refine vn (λu=>bV (p1H _ _ _ (aU (List.nil_sublist _) u).1 Y0) rfl p1B rfl) (oG m (σ:=(List aR)×Int) (τ:=dD) (λg s=> [(some k86,.obj 81 (aN x1)),(eC g s.1)]) (λg s=>bK g 4 (s.1:List aR).length) (λg s=>.c 0 (aZ g) (.c 1 (.fn (.func p1F) p1C) (.c 5 (nZ s.2) (.c 6 (nZ q2) .nil)))) (λx m=> ?_) ?_)
 refine v0 ?_
 apply vi m <;> intro c1 m
 refine vs (v0 (vl 0 (.agg (aN x1)) m9 rfl rfl rfl ?_))
 obtain⟨_,X1,m⟩:=aD m
 exact bU (dF X1 i9 O0 rfl rfl) (ve λu=>cX (fo:=0) (x1:aR) 1 u X1 fC O0 rfl rfl rfl rfl (cS.refl _ _) MI rfl rfl λK3=>qk K3 rfl (v0 (eH m ag0 (bK.set O0) (lx (.k4 .nil)))))
 exact v0 (eH m ag0 O0 (lx (.k4 .nil)))
 rintro ag1 ⟨j0,j1⟩ O1 m
 exact v0 (eH m ag1 O1 (mE [1] rfl rfl (.k4 .nil)))
 exact v0 (lN m ag0 O0 (lx (.k4 .nil)))
 rintro ag2 ⟨r0,r1,r2⟩ t0 m
 refine vs (v0 ?_)
 obtain⟨Z0,m⟩:=pJ m
 refine bU (LZ Z0 i9 t0 rfl rfl) (ve λu=>TB 0 u Z0 fC t0 u42 EE rfl rfl rfl rfl λsp0 O2 K4=>qk K4 rfl (vs (v0 ?_)))
 obtain⟨Z1,m⟩:=pJ m
 refine bU (L2 Z1 t0 i9 rfl rfl) (v0 ?_)
 cases m
 exact vr λu=>dW.one (.inl rfl) (aU (h0:=h) (L':= [((⟨ag2.t,r1.toNat,ag2.cap,sp0⟩:dD).t,.obj 81 (fl aN (r0.take r1.toNat:List aR) (⟨ag2.t,r1.toNat,ag2.cap,sp0⟩:dD).sp))]) (.refl _) u).1 (bD.refl _ _) ⟨(⟨ag2.t,r1.toNat,ag2.cap,sp0⟩:dD),O2,(aU (h0:=h) (L':= [((⟨ag2.t,r1.toNat,ag2.cap,sp0⟩:dD).t,.obj 81 (fl aN (r0.take r1.toNat:List aR) (⟨ag2.t,r1.toNat,ag2.cap,sp0⟩:dD).sp))]) (.refl _) u).2,rfl,rfl⟩
theorem aG0:aP Tryz.prog 66=true:=by kernel_rfl
def M65 (m:Nat) (p0:List aR) (p1:Bool) (c0:Int) (c1:aA) (c2:Int):Option (Bool):=
 (CH m p0).bind λy3=>(V9 m y3 (λx0=>M68 m x0 c0)).bind λy9=>after (if p1=true then ((M64 m p0 c0).bind λy0=>if y0=true then ((TQ m c1 y9 c2).bind λy1=>some (.brk (!y1))) else some (.brk false)) else some (.brk false):Option (Lp (Bool) (Bool))) λj0=>some j0
theorem W65 {w:Nat} {p0:List aR} {p1:Bool} {c0:Int} {c1:aA} {c2:Int} {o:Bool} (h:aF) {c0K:bT} (c0H:h c0K=some (.obj 3 (fL c0))) {c1K:bT} (c1H:h c1K=some (.obj 30 (aC c1))) {c2K:bT} (c2H:h c2K=some (.obj 3 (fL c2))) (m:M65 w p0 p1 c0 c1 c2=some o):
 aM Tryz.prog 65 [.sl none 4 (List.map aN p0),.sc (.bool p1),.ptr c0K 0,.ptr c1K 0,.ptr c2K 0] h (λr h'=>r= .sc (.bool o)∧h'=h):=by
 refine fK 26 [.tmp 7] Tryz.func65 rfl rfl rfl rfl ?_
 unfold M65 at m
 refine vs (v0 (vs (v0 ?_)))
 obtain⟨y3,Y4,m⟩:=aD m
 refine ve λu=>dR (RH _ Y4) rfl RI rfl ?_
 rintro x h' ⟨ag5,O6,K7,rfl,rfl⟩
 refine qk (bP.co u K7) (kM _ _ _) ?_
 obtain⟨y9,Y0,m⟩:=aD m
 refine ve λu=>fJ ((bM u [0] rfl rfl).1.trans (dO h [(eC ag5 y3)] []).symm) (dR (aGZ (hp h []) O6 (dJ [(eC ag5 y3)] [] (bM u [0] rfl rfl).2).2 aF1 (λ_ o h0 hs ho=>W68 _ (hs _ _ (gM (dJ [(eC ag5 y3)] [] (bM u [0] rfl rfl).2).1 c0H)) ho) Y0) rfl aG0 rfl ?_)
 rintro x h' ⟨ag0,O0,K0,rfl,rfl⟩
 have K1:=bM (L':= [(eC ag0 y9)]) (dZ (dJ [(eC ag5 y3)] [] (bM u [0] rfl rfl).2).1 K0) [0] rfl rfl
 refine qk K1.2 ((dO h [(eC ag0 y9)] []).trans K1.1) (vs (fN m (σ:=Bool) (λs=> [(eC ag0 y9)]) (λs=>.c 7 (.sc (.bool s)) .nil) (λx m=> ?_) ?_))
 refine v0 ?_
 apply vi m <;> intro b0 m
 rw[b0]
 refine vn (λu=>gK (nZ c0) cB rfl (gM u c0H) rfl) (vk W64 aAR m rfl rfl λ_ m=> ?_)
 apply vi m <;> intro b1 m
 rw[b1]
 refine vn (λu=>gK (.agg (aC c1)) cZ rfl (gM u c1H) rfl) (vn (λu=>gK (nZ c2) cB rfl (gM u c2H) rfl) ?_)
 obtain⟨_,Y1,m⟩:=aD m
 exact vn (λu=>bV (fH (.cons (Br.refl _ _) (.cons (Br.aw 0 fC O0 u rfl) (.cons (Br.refl _ _) .nil))) rfl (W21 _ Y1)) rfl RA rfl) (nX m)
 rw[b1]
 exact nX m
 rw[b0]
 exact nX m
 rintro _ j0 m
 refine v0 ?_
 obtain rfl:=eP m
 exact vr λu=>dW.of1 (.inl rfl) (gN _ _ (.sc (.bool _)) rfl) (aU (List.nil_sublist _) u).1 (bD.refl _ _) ⟨rfl,rfl⟩
theorem aG2:aP Tryz.prog 65=true:=by kernel_rfl
open Go.Vm
def M24 (m:Nat) (p0:aA) (p1:Int):Option ((List aE)):=
 after (if (decide (p1 < 0))=true then (some (.brk true)) else if (decide ((p0.Vols.length:Int)≤p1))=true then (some (.brk true)) else (Q4 m p0).bind λy0=>some (.brk (y0 !=0)):Option (Lp (Bool) ((List aE)))) λj0=>if j0=true then (some []) else (ix p0.Vols p1).bind λx2=>(VM m p0 (λx0 x1=>M65 m x0 x1 p1 p0 x2.Pool)).bind λy1=>some y1
theorem W24 {w:Nat} {p0:aA} {p1:Int} {o:(List aE)} (h:aF) (m:M24 w p0 p1=some o):
 aM Tryz.prog 24 [.agg (aC p0),nZ p1] h (λr h'=>r= .sl none 37 (List.map aI o)∧h'=h):=by
 refine fK 29 [.tmp 4] Tryz.func24 rfl rfl rfl rfl ?_
 unfold M24 at m
 refine v (gX rfl rfl λk2 K3=>gX rfl rfl λk5 K6=>vs (vs (fN m (σ:=Bool) (λs=> [(some k5,.obj 3 (fL p1)),(some k2,.obj 30 (aC p0))]) (λs=>.c 2 (.ptr k2 0) (.c 3 (.ptr k5 0) (.c 19 (.sc (.bool s)) .nil))) (λx m=> ?_) ?_)))
 refine v (vl 0 _ cB rfl rfl rfl ?_)
 apply vi m <;> intro b0 m
 rw[b0]
 exact gD m
 rw[b0]
 refine vl 0 _ cB rfl rfl rfl (vl 1 _ iH rfl rfl rfl (dH qK rfl ?_))
 apply vi m <;> intro b1 m
 rw[b1]
 exact gD m
 rw[b1]
 exact vl 1 (.agg (aC p0)) cZ rfl rfl rfl (vk W31 MW m rfl rfl λ_ m=>gD m)
 rintro _ j0 m
 refine v ?_
 apply vi m <;> intro c0 m
 refine v (v ?_)
 cases m
 exact vr λu=>dW.of1 (.inl rfl) (gN _ _ (.sc (.slice _ _ _)) rfl) (aU (List.nil_sublist _) u).1 (a9 _) ⟨rfl,rfl⟩
 refine v (v (vl 1 _ iH rfl rfl rfl (vl 0 _ cB rfl rfl rfl (vx m lZ rfl rfl λx0 _ m=>ve λu=>bG (fL 0) u zr3 rfl rfl λk25 K0=>qk K0 rfl (ve λu=>aL 0 (fL x0.Pool) u rfl rfl rfl rfl AT rfl rfl λK1=>qk K1 rfl (v (vl 2 (.agg (aC p0)) cZ rfl rfl rfl ?_)))))))
 obtain⟨_,Y0,m⟩:=aD m
 refine vn (λu=>bV (W50 _ aG2 (λ_ _ o h0 hs ho=>W65 _ (hs _ _ (aW 1 u rfl)) (hs _ _ (aW 2 u rfl)) (hs _ _ (aW 0 u rfl)) ho) Y0) rfl VO rfl) (v ?_)
 obtain rfl:=eP m
 exact eF rfl
theorem aG4:aP Tryz.prog 24=true:=by kernel_rfl
open Go.Vm
theorem lD {α:Type} {l:List α} {q:α→Bool} (h:l.any q=true):∃(i:Nat) (x:α),vJ l q=(i:Int)∧l[i]? =some x∧q x=true∧∀y∈l.take i,q y=false:=by
 unfold vJ
 cases e:(List.range l.length).find? λi=>(l[i]?).any q with
 | none=>
  exfalso
  obtain⟨x,hx,hq⟩:=List.any_eq_true.1 h
  obtain⟨i,hi,rfl⟩:=List.getElem_of_mem hx
  have:=List.find?_eq_none.1 e i (List.mem_range.2 hi)
  simp[hi,hq] at this
 | some i=>
  obtain⟨h1,h2,h3⟩:=List.find?_range_eq_some.1 e
  cases e2:l[i]? with
  | none=>rw[e2] at h1; cases h1
  | some x=>
   refine⟨i,x,rfl,e2,by rw[e2] at h1; simpa using h1,λy hy=> ?_⟩
   obtain⟨j,hj,rfl⟩:=List.getElem_of_mem hy
   rw[List.length_take] at hj
   have h4:=h3 j (by omega)
   have:l[j]? =some l[j]:=List.getElem?_eq_getElem (by omega)
   rw[this] at h4
   rw[List.getElem_take]
   simpa using h4
theorem mG {α:Type} {l:List α} {q:α→Bool} (h:l.any q=false):vJ l q= -1:=by
 unfold vJ
 have:(List.range l.length).find? (λi=>(l[i]?).any q)=none:=by
  rw[List.find?_eq_none]
  intro i hi
  have hi:=List.mem_range.1 hi
  rw[List.getElem?_eq_getElem hi]
  have:=List.any_eq_false.1 h l[i] (List.getElem_mem hi)
  simpa using this
 rw[this]
theorem NH {α ρ:Type} {l:List α} {q:α→Bool} {F:Nat} {body:List α×Int×Int→Option (Lp (List α×Int×Int) ρ)} {i0:Nat} {x0:α} (hF:l.length < F) (h0:l[i0]? =some x0) (hq:q x0=true) (hn:∀y∈l.take i0,q y=false)
    (hb:∀(cur:List α) (w r:Nat) (x:α),cur.length=l.length→w < r→r < l.length→cur[r]? =some x→x∈l→body (cur,(w:Int),(r:Int))=some (.go (if q x then (cur,(w:Int),((r+1:Nat):Int)) else (cur.set w x,((w+1:Nat):Int),((r+1:Nat):Int)))))
    (he:∀(cur:List α) (w:Nat),cur.length=l.length→body (cur,(w:Int),(l.length:Int))=some (.brk (cur,(w:Int),(l.length:Int)))):
    ∃(cur:List α) (w:Nat),aS body F (l,(i0:Int),((i0+1:Nat):Int))=some (.brk (cur,(w:Int),(l.length:Int)))∧w < l.length∧cur.length=l.length∧cur.take w=l.filter λx=> !q x:=by
  have hi0:=(List.getElem?_eq_some_iff.1 h0).1
  have hx0:=(List.getElem?_eq_some_iff.1 h0).2
  obtain⟨s,⟨cur,w,e1,e2,e3,e4,e5⟩,h3⟩:=mS (body:=body) (I:=λk s=>∃(cur:List α) (w:Nat),s=(cur,(w:Int),(k:Int))∧w < k∧cur.length=l.length∧cur.take w=((l.take k).filter λx=> !q x)∧cur.drop k=l.drop k) (n:=l.length) (λk s hk hI=>by
    obtain⟨cur,w,rfl,i2,i3,i4,i5⟩:=hI
    have hx:cur[k]? =l[k]? :=by
      have:=congrArg (λz=>z[0]?) i5
      simpa [List.getElem?_drop] using this
    have hlk:l[k]? =some l[k]:=List.getElem?_eq_getElem hk
    rw[hlk] at hx
    have htk:=List.take_succ_eq_append_getElem hk
    have hmem:=List.getElem_mem hk
    generalize l[k]=x at hx htk hmem
    have hd:cur.drop (k+1)=l.drop (k+1):=by
      have:=congrArg (List.drop 1) i5
      simpa [List.drop_drop,Nat.add_comm] using this
    refine⟨_,hb cur w k x i3 i2 hk hx hmem, ?_⟩
    cases hqx:q x
    · refine⟨cur.set w x,w+1,by simp,by omega,by simpa using i3, ?_, ?_⟩
      · rw[htk,List.filter_append,← i4]
        have hw:w < (cur.set w x).length:=by rw[List.length_set]; omega
        rw[List.take_succ_eq_append_getElem hw,List.getElem_set_self,List.take_set_of_le (Nat.le_refl _)]
        simp[List.filter,hqx]
      · rw[List.drop_set_of_lt (by omega)]
        exact hd
    · refine⟨cur,w,by simp,by omega,i3, ?_,hd⟩
      rw[htk,List.filter_append,← i4]
      simp[List.filter,hqx]) (λs hI=>by
    obtain⟨cur,w,rfl,i2,i3, -⟩:=hI
    exact he cur w i3) F (i0+1) (l,(i0:Int),((i0+1:Nat):Int)) hi0 (by omega) ⟨l,i0,rfl,by omega,rfl,by
      rw[List.take_succ_eq_append_getElem hi0,List.filter_append,hx0]
      have:(l.take i0).filter (λx=> !q x)=l.take i0:=List.filter_eq_self.2 λy hy=>by simp[hn y hy]
      rw[this]
      simp[List.filter,hq],rfl⟩
  subst e1
  refine⟨cur,w,h3,by omega,e3, ?_⟩
  rw[e4,List.take_length]
def oO (c:aA) (g:List aR→Bool→Bool):List aE:=(c.Chunks.filter λx=>g x.Locs (jH c x.Id)).map P2++(c.Snaps.filter λx=>g x.Locs true).map P3++(c.Exps.filter λx=>g x.Locs true).map RE
theorem aG5 {F:Nat} {c:aA} {f:List aR→Bool→Option Bool} (g:List aR→Bool→Bool) (hF:1000≤F) (h:Sm c) (hf:∀l b,l.length≤300→f l b=some (g l b)):VM F c f=some (oO c g):=by
 have hsn:=h.sn
 have hch:=h.ch
 have hex:=h.ex
 unfold VM
 rw[jN (l:=c.Chunks) [] (λx=>g x.Locs (jH c x.Id)) P2 (by omega) (λi x hx hm hi acc ha=>by
  unfold yD
  rw[iK (by omega)]
  simp only[aX,hx,Option.bind_some,Int.ofNat_lt,hi,decide_true,if_true,m44 hF h,hf _ _ (h.cl x hm).1]
  simp only[List.length_nil] at ha
  rw[bN (by simp; omega)]
  cases g x.Locs (jH c x.Id) <;> rfl) (λacc=>by unfold yD; simp)]
 simp only[aG,List.nil_append]
 have l1:((c.Chunks.filter λx=>g x.Locs (jH c x.Id)).map P2).length≤400:=by rw[List.length_map]; exact Nat.le_trans (List.length_filter_le _ _) hch
 rw[jN (l:=c.Snaps) _ (λx=>g x.Locs true) P3 (by omega) (λi x hx hm hi acc ha=>by
  unfold yE
  rw[iK (by omega)]
  simp only[aX,hx,Option.bind_some,Int.ofNat_lt,hi,decide_true,if_true,hf _ _ (h.sl x hm)]
  rw[bN (by simp; omega)]
  cases g x.Locs true <;> rfl) (λacc=>by unfold yE; simp)]
 simp only[aG]
 have l2:((c.Snaps.filter λx=>g x.Locs true).map P3).length≤12:=by rw[List.length_map]; exact Nat.le_trans (List.length_filter_le _ _) hsn
 rw[jN (l:=c.Exps) _ (λx=>g x.Locs true) RE (by omega) (λi x hx hm hi acc ha=>by
  unfold yF
  rw[iK (by omega)]
  simp only[aX,hx,Option.bind_some,Int.ofNat_lt,hi,decide_true,if_true,hf _ _ (h.el x hm)]
  rw[List.length_append] at ha
  rw[bN (by simp; omega)]
  cases g x.Locs true <;> rfl) (λacc=>by unfold yF; simp)]
 rfl
end Go.Proofs.YtbbifdfldpfphaaGreat
namespace Go.Vm
abbrev OG:=Option dD
def oT (og:OG):Option bT:=og.bind (·.t)
def oS (og:OG):List AV:=og.elim [] (·.sp)
def awO {β:Type} (ci:β→List AV) (szi:Nat) (og:OG) (l:List β):AV:=match og with
 | some g=>aw g.t g.n g.cap
 | none=>.sl none szi (l.map ci)
structure dI where
 a:dD
 gs:List OG
def gx (gs:List OG) (i:Nat):OG:=(gs[i]?).getD none
def zg {α:Type} (xs:List α) (gs:List OG):List (α×OG):=xs.zip gs
def nl {α β:Type} (l:α→List β) (ys:List (α×OG)):List (List β×OG):=ys.map λy=>(l y.1,y.2)
def lG {β:Type} (ty:TypeId) (ci:β→List AV) (zs:List (List β×OG)):HL:=zs.map λz=>(oT z.2,.obj ty (fl ci z.1 (oS z.2)))
structure tI {α β:Type} (l:α→List β) (sz szi:Nat) (g:dI) (xs:List α):Prop where
 a:bK g.a sz xs.length
 len:g.gs.length=xs.length
 el:∀z∈nl l (zg xs g.gs),∀g',z.2=some g'→bK g' szi z.1.length
section
variable {α β:Type} {l:α→List β} {sz szi:Nat}
theorem vK {xs:List α} {gs:List OG} (h:gs.length=xs.length):(zg xs gs).length=xs.length:=by simp[zg,List.length_zip,h]
theorem tI.z {g:dI} {xs:List α} (ok:tI l sz szi g xs):bK g.a sz (zg xs g.gs).length:=by rw[vK ok.len]; exact ok.a
theorem G2 {xs:List α} {gs:List OG} (h:gs.length=xs.length) {k:Nat} {x:α} (hx:xs[k]? =some x):(zg xs gs)[k]? =some (x,gx gs k):=by
 obtain⟨hk,rfl⟩:=List.getElem?_eq_some_iff.1 hx
 have hk':k < gs.length:=by omega
 simp[zg,gx,List.getElem?_zip_eq_some,hk,hk']
theorem aA6 {xs:List α} {gs:List OG} (h:gs.length=xs.length) {i:Int} {x:α} (hx:ix xs i=some x):ix (zg xs gs) i=some (x,gx gs i.toNat):=by
 obtain⟨h1,h2,h3⟩:=fQ hx
 unfold ix
 rw[if_pos h1]
 exact G2 h h3
theorem NI {xs:List α} {gs:List OG} (k:Nat) (x:α) (og:OG):(zg xs gs).set k (x,og)=zg (xs.set k x) (gs.set k og):=by
 unfold zg
 induction xs generalizing gs k with
 | nil=>simp
 | cons y ys ih=>cases gs with
  | nil=>simp
  | cons g gs=>cases k with
   | zero=>simp
   | succ k=>simp[ih]
theorem RJ {gs:List OG} (k:Nat) (h:k < gs.length):gs.set k (gx gs k)=gs:=by
 apply List.ext_getElem?
 intro i
 rw[List.getElem?_set]
 split
 ·rename_i e; subst e; simp[gx,h]
 ·rfl
theorem tI.ix {g:dI} {xs:List α} (ok:tI l sz szi g xs) {i:Int} {x:α} (hx:ix xs i=some x):Vm.ix (zg xs g.gs) i=some (x,gx g.gs i.toNat):=aA6 ok.len hx
theorem tI.set {g:dI} {xs:List α} {i:Int} {x x':α} (ok:tI l sz szi g xs) (hx:Vm.ix xs i=some x) (e:l x'=l x):
    tI l sz szi g (xs.set i.toNat x')∧(zg xs g.gs).set i.toNat (x',gx g.gs i.toNat)=zg (xs.set i.toNat x') g.gs∧nl l (zg (xs.set i.toNat x') g.gs)=nl l (zg xs g.gs):=by
  obtain⟨h1,h2,h3⟩:=fQ hx
  have hk:i.toNat < xs.length:=(List.getElem?_eq_some_iff.1 h3).1
  have e1:(zg xs g.gs).set i.toNat (x',gx g.gs i.toNat)=zg (xs.set i.toNat x') g.gs:=by rw[NI,RJ _ (by have:=ok.len; omega)]
  have e2:nl l (zg (xs.set i.toNat x') g.gs)=nl l (zg xs g.gs):=by
    rw[← e1]
    unfold nl
    rw[List.map_set]
    apply List.ext_getElem?
    intro j
    rw[List.getElem?_set]
    split
    · rename_i q; subst q
      have h5:=G2 ok.len h3
      rw[List.getElem?_map,h5]
      simp[e,vK ok.len,hk]
    · rfl
  exact⟨⟨by rw[List.length_set]; exact ok.a,by rw[List.length_set]; exact ok.len,by rw[e2]; exact ok.el⟩,e1,e2⟩
theorem tI.setL {g:dI} {xs:List α} {i:Int} {x x':α} (ok:tI l sz szi g xs) (hx:Vm.ix xs i=some x) (g':dD) (hg:bK g' szi (l x').length):
    tI l sz szi ⟨g.a,g.gs.set i.toNat (some g')⟩ (xs.set i.toNat x')∧(zg xs g.gs).set i.toNat (x',some g')=zg (xs.set i.toNat x') (g.gs.set i.toNat (some g'))∧
      nl l (zg (xs.set i.toNat x') (g.gs.set i.toNat (some g')))=(nl l (zg xs g.gs)).set i.toNat (l x',some g'):=by
  obtain⟨h1,h2,h3⟩:=fQ hx
  have e1:(zg xs g.gs).set i.toNat (x',some g')=zg (xs.set i.toNat x') (g.gs.set i.toNat (some g')):=NI _ _ _
  have e2:nl l (zg (xs.set i.toNat x') (g.gs.set i.toNat (some g')))=(nl l (zg xs g.gs)).set i.toNat (l x',some g'):=by
    rw[← e1]; unfold nl; rw[List.map_set]
  refine⟨⟨by rw[List.length_set]; exact ok.a,by simp[ok.len], ?_⟩,e1,e2⟩
  show ∀z∈nl l (zg (xs.set i.toNat x') (g.gs.set i.toNat (some g'))),_
  rw[e2]
  intro z hz g2 hg2
  rcases List.mem_or_eq_of_mem_set hz with hz | rfl
  · exact ok.el z hz g2 hg2
  · cases hg2; exact hg
theorem tI.nlat {g:dI} {xs:List α} {i:Int} {x:α} (ok:tI l sz szi g xs) (hx:Vm.ix xs i=some x):(nl l (zg xs g.gs))[i.toNat]? =some (l x,gx g.gs i.toNat):=by
 obtain⟨h1,h2,h3⟩:=fQ hx
 unfold nl
 rw[List.getElem?_map,G2 ok.len h3]
 rfl
theorem tI.plain {a:dD} {xs:List α} (ok:bK a sz xs.length):tI l sz szi ⟨a,List.replicate xs.length none⟩ xs:=⟨ok,by simp,λz hz g' e=>by
 unfold nl zg at hz
 obtain⟨y,hy,rfl⟩:=List.mem_map.1 hz
 have:=(List.of_mem_zip hy).2
 rw[List.mem_replicate] at this
 simp only at e
 rw[this.2] at e
 cases e⟩
variable {ty:TypeId} {ci:β→List AV} {h0:aF}
theorem yP {γ:Type}:∀ {zs:List γ} {j:Nat} {z:γ},zs[j]? =some z→zs.Perm (z::zs.eraseIdx j)
 | [],_,_,h=>by simp at h
 | y::ys,0,z,h=>by
  simp only[List.getElem?_cons_zero,Option.some.injEq] at h
  subst h
  exact .refl _
 | y::ys,j+1,z,h=>by
  have:=yP (zs:=ys) (j:=j) (z:=z) (by simpa using h)
  simp only[List.eraseIdx_cons_succ]
  exact(this.cons y).trans (.swap z y _)
theorem H9 {zs:List (List β×OG)} {j:Nat} {z:List β×OG} (hz:zs[j]? =some z):(lG ty ci zs).Perm ((oT z.2,.obj ty (fl ci z.1 (oS z.2)))::lG ty ci (zs.eraseIdx j)):=by
 exact(yP hz).map _
theorem RK {zs:List (List β×OG)} {j:Nat} (z:List β×OG) (hj:j < zs.length):(lG ty ci (zs.set j z)).Perm ((oT z.2,.obj ty (fl ci z.1 (oS z.2)))::lG ty ci (zs.eraseIdx j)):=by
 have:=H9 (ty:=ty) (ci:=ci) (zs:=zs.set j z) (j:=j) (z:=z) (by simp[hj])
 rwa [List.eraseIdx_set_eq] at this
theorem vL {k:bT} {e:iY}:∀ {L:HL},bP h0 L→(some k,e)∈L→hp h0 L k=some e
 | [],_,h=>by cases h
 | (t,e')::r,ok,h=>by
  rcases List.mem_cons.1 h with h | h
  ·cases h; simp only[hp,cV]
  ·have ih:=vL (L:=r) ok.1 h
   cases t with
   | none=>exact ih
   | some k'=>
    have hne:k≠k':=λq=>by
     have:=ok.2 k' rfl
     rw[← q,ih] at this
     cases this
    simp only[hp]
    rw[cF _ _ hne,ih]
theorem G3 {k:bT} {e:iY}:∀ {L:HL},bP h0 L→(some k,e)∈L→h0 k=none
 | [],_,h=>by cases h
 | (t,e')::r,ok,h=>by
  rcases List.mem_cons.1 h with h | h
  ·cases h
   have:=ok.2 k rfl
   exact mO (aU (List.nil_sublist r) ok.1).1 this
  ·exact G3 ok.1 h
theorem G4 {k:bT}:∀ {L:HL},h0 k=none→(∀e,(some k,e) ∉ L)→hp h0 L k=none
 | [],h,_=>h
 | (t,e')::r,h,hn=>by
  have ih:=G4 (L:=r) h λe q=>hn e (List.mem_cons_of_mem _ q)
  cases t with
  | none=>exact ih
  | some k'=>
   have hne:k≠k':=λq=>hn e' (by rw[q]; exact List.mem_cons_self)
   simp only[hp]
   rw[cF _ _ hne,ih]
theorem CJ {k:bT} {e e':iY}:∀ {A F:HL},bP h0 (A++F)→(some k,e)∈F→(some k,e') ∉ A
 | [],_,_,_=>nofun
 | (t,e2)::A,F,ok,h=>λq=>by
  rcases List.mem_cons.1 q with q | q
  ·cases q
   have:=ok.2 k rfl
   rw[vL ok.1 (List.mem_append_right _ h)] at this
   cases this
  ·exact CJ ok.1 h q
theorem uK.append {H:aF} {xs ys:List AV} (h:uK H xs ys) {us vs:List AV} (h2:uK H us vs):uK H (xs++us) (ys++vs):=by
 induction h with
 | nil=>exact h2
 | cons a _ ih=>exact .cons a ih
theorem uK.flat {γ:Type} {H:aF} {c c':γ→List AV}:∀ {ys:List γ},(∀y∈ys,uK H (c y) (c' y))→uK H (ys.map c).flatten (ys.map c').flatten
 | [],_=>.nil
 | y::ys,h=>by
  simp only[List.map_cons,List.flatten_cons]
  exact(h y List.mem_cons_self).append (uK.flat λz hz=>h z (List.mem_cons_of_mem _ hz))
theorem Br.vwN {γ:Type} {c c':γ→List AV} {ys:List γ} {H:aF} {k:bT} {ty:TypeId} {sp:List AV} {sz cap:Nat} (hc:∀y,(c' y).length=sz) (hk:H k=some (.obj ty (fl c ys sp))) (hb:∀y∈ys,uK H (c y) (c' y)):Br H (.vw k ys.length cap) (.sl none sz (ys.map c')):=by
 intro E w v r hv
 simp only[VR] at hv ⊢
 obtain⟨g,hg,rfl,h1,h2⟩:=hv
 obtain⟨g',cur,e1,e2,e3,e4⟩:=r.obj _ _ _ hk
 rw[hg] at e1; cases e1
 refine⟨_,cap,by rw[List.length_map],by rw[List.length_map]; exact h1,h2, ?_, ?_,nofun⟩
 ·refine .inr ⟨g,0,rfl,jC.2 ?_⟩
  have htake:cI E w (ys.map c).flatten (cur.toList.take ((ys.map c).flatten.length)):=by
   have:=fO ((ys.map c).flatten.length) e3
   rwa [fl,List.take_left' rfl] at this
  refine eQ ((uK.flat hb).spec r htake) (λu hu=>e4 u (List.mem_of_mem_take hu)) ?_
  intro j u hj
  rw[List.getElem?_take] at hj
  split at hj
  ·have hcell:w.cell? ⟨g,0+j,none⟩=some u:=by
    simp only[World.cell?,e2,Nat.zero_add]
    simpa using hj
   exact⟨hcell,.inl (.inr ⟨⟨k,.inl ⟨_,rfl,hk,hg⟩⟩,u,hcell⟩)⟩
  ·cases hj
 ·intro x hx
  obtain⟨y,_,rfl⟩:=List.mem_map.1 hx
  exact hc y
theorem yQ {γ:Type} {xs:List α} {gs:List OG} (h:gs.length=xs.length) (c:α→γ):(zg xs gs).map (λy=>c y.1)=xs.map c:=by
 unfold zg
 have:(xs.zip gs).map Prod.fst=xs:=List.map_fst_zip (by omega)
 conv=>rhs; rw[← this,List.map_map]
 rfl
theorem Br.awO {H:aF} {og:OG} {xs:List β} (hc:∀y,(ci y).length=szi) (ok:∀g,og=some g→bK g szi xs.length) (hk:∀k,oT og=some k→H k=some (.obj ty (fl ci xs (oS og)))):Br H (Vm.awO ci szi og xs) (.sl none szi (xs.map ci)):=by
 cases og with
 | none=>exact Br.refl _ _
 | some g=>
  have ok:=ok g rfl
  show Br H (Vm.aw g.t g.n g.cap) _
  rw[ok.eqn]
  cases ht:g.t with
  | none=>
   have h0:xs= []:=List.length_eq_zero_iff.1 (ok.nil ht)
   subst h0
   exact Br.ale (uW _ szi)
  | some k=>exact Br.vw hc (hk k ht)
theorem Br.awN {cN:α×OG→List AV} {c:α→List AV} {L:HL} {tyo:TypeId} {g:dI} {xs:List α} (i:Nat) (hc:∀y,(c y).length=sz) (hci:∀y,(ci y).length=szi) (hb:∀(H:aF) (y:α×OG),Br H (Vm.awO ci szi y.2 (l y.1)) (.sl none szi ((l y.1).map ci))→uK H (cN y) (c y.1))
    (ok:tI l sz szi g xs) (hk:bP h0 L) (hi:L[i]? =some (g.a.t,.obj tyo (fl cN (zg xs g.gs) g.a.sp))) (hm:∀e∈lG ty ci (nl l (zg xs g.gs)),e∈L):Br (hp h0 L) (Vm.aw g.a.t g.a.n g.a.cap) (.sl none sz (xs.map c)):=by
  rw[ok.a.eqn]
  cases ht:g.a.t with
  | none=>
    have h0:xs= []:=List.length_eq_zero_iff.1 (ok.a.nil ht)
    subst h0
    exact Br.ale (uW _ sz)
  | some k=>
    rw[ht] at hi
    have:=Br.vwN (c':=λy:α×OG=>c y.1) (sz:=sz) (cap:=g.a.cap) (λy=>hc y.1) (aW i hk hi) λy hy=>hb _ y (Br.awO (ty:=ty) hci (ok.el (l y.1,y.2) (List.mem_map.2 ⟨y,hy,rfl⟩)) λk' hk'=>by
      refine vL hk (hm _ ?_)
      rw[← hk']
      exact List.mem_map.2 ⟨(l y.1,y.2),List.mem_map.2 ⟨y,hy,rfl⟩,rfl⟩)
    rwa [vK ok.len,yQ ok.len] at this
theorem pG.append {H H':aF} {xs ys:List AV} (h:pG H H' xs ys) {us vs:List AV} (h2:pG H H' us vs):pG H H' (xs++us) (ys++vs):=by
 induction h with
 | nil=>exact h2
 | cons a _ ih=>exact .cons a ih
theorem pG.flat {γ:Type} {H H':aF} {c c':γ→List AV}:∀ {ys:List γ},(∀y∈ys,pG H H' (c y) (c' y))→pG H H' (ys.map c).flatten (ys.map c').flatten
 | [],_=>.nil
 | y::ys,h=>by
  simp only[List.map_cons,List.flatten_cons]
  exact(h y List.mem_cons_self).append (pG.flat λz hz=>h z (List.mem_cons_of_mem _ hz))
theorem Fz.vwN {γ:Type} {c c':γ→List AV} {ys:List γ} {H H':aF} {k:bT} {ty:TypeId} {sp:List AV} {sz cap:Nat} (hc:∀y,(c' y).length=sz) (hk:H k=some (.obj ty (fl c ys sp))) (hn:H' k=none) (hb:∀y∈ys,pG H H' (c y) (c' y)):Fz H H' (.vw k ys.length cap) (.sl none sz (ys.map c')):=by
 intro E w v r hv
 simp only[VR] at hv ⊢
 obtain⟨g,hg,rfl,h1,h2⟩:=hv
 obtain⟨g',cur,e1,e2,e3,e4⟩:=r.obj _ _ _ hk
 rw[hg] at e1; cases e1
 refine⟨_,cap,by rw[List.length_map],by rw[List.length_map]; exact h1,h2, ?_, ?_,nofun⟩
 ·refine .inr ⟨g,0,rfl,jC.2 ?_⟩
  have htake:cI E w (ys.map c).flatten (cur.toList.take ((ys.map c).flatten.length)):=by
   have:=fO ((ys.map c).flatten.length) e3
   rwa [fl,List.take_left' rfl] at this
  refine eQ ((pG.flat hb).spec r htake) (λu hu=>e4 u (List.mem_of_mem_take hu)) ?_
  intro j u hj
  rw[List.getElem?_take] at hj
  split at hj
  ·have hcell:w.cell? ⟨g,0+j,none⟩=some u:=by
    simp only[World.cell?,e2,Nat.zero_add]
    simpa using hj
   exact⟨hcell,.inl (.inr ⟨⟨k,.inl ⟨_,rfl,hk,hg⟩,hn⟩,u,hcell⟩)⟩
  ·cases hj
 ·intro x hx
  obtain⟨y,_,rfl⟩:=List.mem_map.1 hx
  exact hc y
theorem Fz.awO {H H':aF} (hs:iE H' H) {og:OG} {xs:List β} (hc:∀y,(ci y).length=szi) (ok:∀g,og=some g→bK g szi xs.length) (hk:∀k,oT og=some k→H k=some (.obj ty (fl ci xs (oS og)))∧H' k=none):Fz H H' (Vm.awO ci szi og xs) (.sl none szi (xs.map ci)):=by
 cases og with
 | none=>exact Fz.refl _ _ _
 | some g=>
  have ok:=ok g rfl
  show Fz H H' (Vm.aw g.t g.n g.cap) _
  rw[ok.eqn]
  cases ht:g.t with
  | none=>
   have h0:xs= []:=List.length_eq_zero_iff.1 (ok.nil ht)
   subst h0
   exact Fz.ale hs (uW _ szi)
  | some k=>exact Fz.vw hc (hk k ht).1 (hk k ht).2
theorem Fz.awN {cN:α×OG→List AV} {c:α→List AV} {A A' F:HL} {tyo:TypeId} {g:dI} {xs:List α} (i:Nat) (hc:∀y,(c y).length=sz) (hci:∀y,(ci y).length=szi) (hb:∀(H H':aF) (y:α×OG),Fz H H' (Vm.awO ci szi y.2 (l y.1)) (.sl none szi ((l y.1).map ci))→pG H H' (cN y) (c y.1))
    (ok:tI l sz szi g xs) (hk:bP h0 (A++F)) (hi:A[i]? =some (g.a.t,.obj tyo (fl cN (zg xs g.gs) g.a.sp))) (hm:∀e∈lG ty ci (nl l (zg xs g.gs)),e∈F) (hs:A'.Sublist (A.eraseIdx i)):Fz (hp h0 (A++F)) (hp h0 A') (Vm.aw g.a.t g.a.n g.a.cap) (.sl none sz (xs.map c)):=by
  have hA:A'.Sublist (A++F):=(hs.trans (List.eraseIdx_sublist A i)).trans (List.sublist_append_left A F)
  have hsub:=(aU hA hk).1
  rw[ok.a.eqn]
  cases ht:g.a.t with
  | none=>
    have h0:xs= []:=List.length_eq_zero_iff.1 (ok.a.nil ht)
    subst h0
    exact Fz.ale hsub (uW _ sz)
  | some k=>
    rw[ht] at hi
    have hil:i < A.length:=(List.getElem?_eq_some_iff.1 hi).1
    have hi2:(A++F)[i]? =some (some k,.obj tyo (fl cN (zg xs g.gs) g.a.sp)):=by rw[List.getElem?_append_left hil]; exact hi
    have hs2:A'.Sublist ((A++F).eraseIdx i):=by
      rw[List.eraseIdx_append_of_lt_length hil]
      exact hs.trans (List.sublist_append_left _ F)
    have:=Fz.vwN (c':=λy:α×OG=>c y.1) (sz:=sz) (cap:=g.a.cap) (H':=hp h0 A') (λy=>hc y.1) (aW i hk hi2) (mO (aU hs2 (aU (List.eraseIdx_sublist _ i) hk).2).1 (nU i hk hi2)) λy hy=>hb _ _ y (Fz.awO (ty:=ty) hsub hci (ok.el (l y.1,y.2) (List.mem_map.2 ⟨y,hy,rfl⟩)) λk' hk'=>by
      have hmF:(some k',iY.obj ty (fl ci (l y.1) (oS y.2)))∈F:=hm _ (by rw[← hk']; exact List.mem_map.2 ⟨(l y.1,y.2),List.mem_map.2 ⟨y,hy,rfl⟩,rfl⟩)
      refine⟨vL hk (List.mem_append_right _ hmF),G4 (G3 hk (List.mem_append_right _ hmF)) λe q=> ?_⟩
      exact CJ hk hmF ((hs.trans (List.eraseIdx_sublist A i)).subset q))
    rwa [vK ok.len,yQ ok.len] at this
end
def iB:List HL→HL
 | []=> []
 | [x]=>x
 | x::y::r=>x++iB (y::r)
theorem fU:∀b:List HL,iB b=b.flatten
 | []=>rfl
 | [x]=>by simp[iB]
 | x::y::r=>by rw[iB,fU (y::r)]; rfl
theorem qH {bl bl':List HL} (p:bl.Perm bl'):(iB bl).Perm (iB bl'):=by rw[fU,fU]; exact p.flatten
theorem oP {bl:List HL} {b:Nat} {F:HL} (h:bl[b]? =some F):(iB bl).Perm (F++(bl.eraseIdx b).flatten):=by
 rw[fU]
 exact(yP h).flatten
theorem pW {bl:List HL} {b:Nat} {F:HL} (F':HL) (h:bl[b]? =some F):(iB (bl.set b F')).Perm (F'++(bl.eraseIdx b).flatten):=by
 have hb:b < bl.length:=(List.getElem?_eq_some_iff.1 h).1
 have:=oP (bl:=bl.set b F') (b:=b) (F:=F') (by simp[hb])
 rwa [List.eraseIdx_set_eq] at this
section
variable {h0:aF} {L L' R:HL}
theorem A3 (hk:bP h0 L) (bl:List HL) (hL:iB bl=L) (σ:List Nat) (hL':iB (pick σ bl)=L') (ho:σ.isPerm (List.range bl.length)=true):hp h0 L=hp h0 L'∧bP h0 L':=by
 subst hL hL'
 exact gY (qH (mD ho)) hk
theorem tJ (hk:bP h0 L) (bl:List HL) (hL:iB bl=L) (σ:List Nat) (hL':iB (pick σ bl)=L') (ho:(σ++sJ σ bl.length).isPerm (List.range bl.length)=true):bP h0 L'∧iE (hp h0 L') (hp h0 L):=by
 subst hL hL'
 have p:=qH (mD ho)
 have e2:pick (σ++sJ σ bl.length) bl=pick σ bl++pick (sJ σ bl.length) bl:=List.filterMap_append
 rw[e2,fU (_++_),List.flatten_append,← fU (pick σ bl)] at p
 obtain⟨e,k⟩:=gY p hk
 have:=aU (List.sublist_append_left (iB (pick σ bl)) (pick (sJ σ bl.length) bl).flatten) k
 exact⟨this.2,by rw[e]; exact this.1⟩
theorem lxB {n:Nat} {f g:FR} (bl:List HL) (hL:iB bl=L) (σ:List Nat) (hL':iB (pick σ bl)=L') (ho:(σ++sJ σ bl.length).isPerm (List.range bl.length)=true) (hf:FT (hp h0 L') n f.k g.k):LX h0 n f L g L':=λhk=>
 let ⟨h1,h2⟩:=tJ hk bl hL σ hL' ho; ⟨h1,f0.fm h2 hf⟩
variable {β:Type} {ty:TypeId} {ci:β→List AV}
theorem CK (hk:bP h0 L) (bl:List HL) (hL:iB bl=L) (b:Nat) {zs:List (List β×OG)} {j:Nat} {z:List β×OG} (hb:bl[b]? =some (lG ty ci zs)) (hz:zs[j]? =some z) (hR:iB (bl.set b (lG ty ci (zs.eraseIdx j)))=R):
    hp h0 L=hp h0 ((oT z.2,.obj ty (fl ci z.1 (oS z.2)))::R)∧bP h0 ((oT z.2,.obj ty (fl ci z.1 (oS z.2)))::R):=by
  subst hL hR
  refine gY ?_ hk
  refine(oP hb).trans (((H9 hz).append_right _).trans ?_)
  exact((pW (lG ty ci (zs.eraseIdx j)) hb).symm.cons _)
theorem vM (bl:List HL) (hR:iB bl=R) (b:Nat) {zs:List (List β×OG)} {j:Nat} (z:List β×OG) (hj:j < zs.length) (hb:bl[b]? =some (lG ty ci (zs.eraseIdx j))) (hk:bP h0 ((oT z.2,.obj ty (fl ci z.1 (oS z.2)))::R)) (hL':iB (bl.set b (lG ty ci (zs.set j z)))=L'):
    hp h0 ((oT z.2,.obj ty (fl ci z.1 (oS z.2)))::R)=hp h0 L'∧bP h0 L':=by
  subst hR hL'
  refine gY ?_ hk
  refine((oP hb).cons _).trans ?_
  refine(((RK z hj).symm.append_right _).trans ?_)
  exact(pW _ hb).symm
theorem EP (a b:List HL):iB (a++b)=iB a++iB b:=by rw[fU,fU,fU,List.flatten_append]
theorem NJ {γ:Type} (σ τ:List Nat) (l:List γ):pick (σ++τ) l=pick σ l++pick τ l:=List.filterMap_append
theorem EQ {A:HL} (hk:bP h0 L) (bl:List HL) (hL:iB bl=L) (σ τ:List Nat) (hA:iB (pick σ bl)=A) (hR:iB (pick τ bl)=R) (ho:(σ++τ).isPerm (List.range bl.length)=true):hp h0 L=hp (hp h0 R) A∧bP h0 R∧bP (hp h0 R) A:=by
 subst hL hA hR
 obtain⟨e,k⟩:=gY (qH (mD ho)) hk
 rw[NJ,EP] at e k
 obtain⟨k1,k2⟩:=dJ _ _ k
 exact⟨e.trans (dO h0 _ _).symm,k1,k2⟩
theorem ER {A:HL} (hR:bP h0 R) (hA:bP (hp h0 R) A) (ba br:List HL) (hA':iB ba=A) (hR':iB br=R) (σ:List Nat) (hL':iB (pick σ (ba++br))=L') (ho:σ.isPerm (List.range (ba++br).length)=true):hp (hp h0 R) A=hp h0 L'∧bP h0 L':=by
 subst hA' hR' hL'
 have k:=dZ hR hA
 rw[dO]
 rw[← EP] at k ⊢
 exact gY (qH (mD ho)) k
end
structure nG {α β:Type} (l:α→List β) (sz szi:Nat) (g:dI) (xs:List α):Prop where
 k:tI l sz szi g xs
 own:∀og∈g.gs,og≠none
section
variable {α β:Type} {l:α→List β} {sz szi:Nat} {g:dI} {xs:List α} {i:Int} {x x':α}
theorem nG.gx (ok:nG l sz szi g xs) (hx:Vm.ix xs i=some x):∃gv,Vm.gx g.gs i.toNat=some gv∧bK gv szi (l x).length∧(nl l (zg xs g.gs))[i.toNat]? =some (l x,some gv):=by
 have h1:=ok.k.nlat hx
 obtain⟨_,_,h3⟩:=fQ hx
 have hk:i.toNat < xs.length:=(List.getElem?_eq_some_iff.1 h3).1
 have hk':i.toNat < g.gs.length:=by have:=ok.k.len; omega
 cases hg:Vm.gx g.gs i.toNat with
 | none=>
  have:g.gs[i.toNat]=none:=by unfold Vm.gx at hg; rw[List.getElem?_eq_getElem hk'] at hg; exact hg
  exact absurd this (ok.own _ (List.getElem_mem hk'))
 | some gv=>
  rw[hg] at h1
  exact⟨gv,rfl,ok.k.el _ (List.mem_of_getElem? h1) gv rfl,h1⟩
theorem nG.set (ok:nG l sz szi g xs) (hx:Vm.ix xs i=some x) (e:l x'=l x):nG l sz szi g (xs.set i.toNat x'):=⟨(ok.k.set hx e).1,ok.own⟩
theorem nG.setL (ok:nG l sz szi g xs) (hx:Vm.ix xs i=some x) (g':dD) (hg:bK g' szi (l x').length):nG l sz szi ⟨g.a,g.gs.set i.toNat (some g')⟩ (xs.set i.toNat x'):=
 ⟨(ok.k.setL hx g' hg).1,λog h=>by rcases List.mem_or_eq_of_mem_set h with h | rfl; exact ok.own og h; exact nofun⟩
end
theorem mH {γ:Type} {l:List γ} {j:Nat} {z:γ} (h:l[j]? =some z):j < l.length:=(List.getElem?_eq_some_iff.1 h).1
theorem eqN {h0:aF} {L L':HL} (hk:bP h0 L) (e:L=L'):hp h0 L=hp h0 L'∧bP h0 L':=by subst e; exact⟨rfl,hk⟩
theorem tI.br {α β:Type} {l:α→List β} {sz szi:Nat} {ty:TypeId} {ci:β→List AV} {h0:aF} {L:HL} {g:dI} {xs:List α} {i:Int} {x:α} (ok:tI l sz szi g xs) (hx:Vm.ix xs i=some x) (hci:∀y,(ci y).length=szi) (hk:bP h0 L)
    (hm:∀e∈lG ty ci (nl l (zg xs g.gs)),e∈L):Br (hp h0 L) (awO ci szi (Vm.gx g.gs i.toNat) (l x)) (.sl none szi ((l x).map ci)):=by
  have hn:=List.mem_of_getElem? (ok.nlat hx)
  refine Br.awO (ty:=ty) hci (ok.el _ hn) λk hk'=>vL hk (hm _ ?_)
  rw[← hk']
  exact List.mem_map.2 ⟨_,hn,rfl⟩
theorem RL {xs r:List AV} {m:Nat} (h:xs.length=m):DH true m ((xs++r).drop 0)=some (.agg xs):=by
 subst h
 simp[DH]
theorem gG {β:Type} (ci:β→List AV) (szi:Nat) (og:OG) (l:List β):gJ (awO ci szi og l)=true:=by
 cases og with
 | none=>rfl
 | some g=>exact cC _ _ _
theorem WA {α β:Type} (f:α→β) (xs:List α) (i:Int):ix (xs.map f) i=(ix xs i).map f:=by
 unfold ix
 split
 ·rw[List.getElem?_map]
 ·rfl
theorem WB {α ρ:Type} {xs:List α} {gs:List OG} (hl:gs.length=xs.length) {F:List α→Option ρ} {G:Option ρ} (e:F ((zg xs gs).map Prod.fst)=G) {o:ρ} (h:F xs=some o):G=some o:=by
 rw[← e,show (zg xs gs).map Prod.fst=xs from by simpa using yQ hl (λx=>x)]
 exact h
theorem WC {F L:HL} (bl:List HL) (hL:iB bl=L) (b:Nat) (hb:bl[b]? =some F):∀e∈F,e∈L:=λe he=>by
 subst hL
 rw[fU]
 exact List.mem_flatten.2 ⟨F,List.mem_of_getElem? hb,he⟩
section
variable {α β:Type} {l:α→List β} {sz szi:Nat} {ty:TypeId} {ci:β→List AV} {h0:aF} {L L':HL}
theorem KT {n:Nat} {f:FR} {cN:α×OG→List AV} {c:α→List AV} {tyo:TypeId} {g:dI} {xs:List α} (bl:List HL) (hL:iB bl=L) (i b:Nat) (hci:∀y,(ci y).length=szi)
    (hb:∀(H H':aF) (y:α×OG),Fz H H' (awO ci szi y.2 (l y.1)) (.sl none szi ((l y.1).map ci))→pG H H' (cN y) (c y.1))
    (ok:tI l sz szi g xs) (hi:bl[i]? =some [(g.a.t,.obj tyo (fl cN (zg xs g.gs) g.a.sp))]) (hbf:bl[b]? =some (lG ty ci (nl l (zg xs g.gs)))) (hib:i < b)
    (hL':iB ((bl.eraseIdx b).set i [(g.a.t,.obj tyo (fl c xs g.a.sp))])=L') (hk:bP h0 L):bP h0 L'∧f0 (fm n f.k) (hp h0 L') (fm n f.k) (hp h0 L):=by
  subst hL hL'
  -- the array's block and the family's block, ahead of the rest
  have hi':(bl.eraseIdx b)[i]? =some [(g.a.t,.obj tyo (fl cN (zg xs g.gs) g.a.sp))]:=by
    rw[List.getElem?_eraseIdx]; simp[hib,hi]
  generalize hR:((bl.eraseIdx b).eraseIdx i).flatten=R
  have p1:(iB bl).Perm (lG ty ci (nl l (zg xs g.gs))++((g.a.t,.obj tyo (fl cN (zg xs g.gs) g.a.sp))::R)):=by
    refine(oP hbf).trans (List.Perm.append_left _ ?_)
    have:=oP hi'
    rw[fU,hR] at this
    exact this
  have p2:(iB ((bl.eraseIdx b).set i [(g.a.t,.obj tyo (fl c xs g.a.sp))])).Perm ((g.a.t,.obj tyo (fl c xs g.a.sp))::R):=by
    have:=pW [(g.a.t,iY.obj tyo (fl c xs g.a.sp))] hi'
    rw[hR] at this
    exact this
  obtain⟨e1,k1⟩:=gY p1 hk
  have k2:bP h0 ((g.a.t,.obj tyo (fl cN (zg xs g.gs) g.a.sp))::R):=(dJ _ _ k1).1
  have k3:bP h0 ((g.a.t,.obj tyo (fl c xs g.a.sp))::R):=⟨k2.1,k2.2⟩
  obtain⟨e2,k4⟩:=gY p2.symm k3
  refine⟨k4, ?_⟩
  rw[e1,← e2]
  have hs:iE (hp h0 ((g.a.t,.obj tyo (fl cN (zg xs g.gs) g.a.sp))::R)) (hp h0 (lG ty ci (nl l (zg xs g.gs))++((g.a.t,.obj tyo (fl cN (zg xs g.gs) g.a.sp))::R))):=(aU (List.sublist_append_right _ _) k1).1
  intro E w vs r v
  have r1:=sH r hs
  have kk:dC E w (FO E _ (hp h0 ((g.a.t,.obj tyo (fl cN (zg xs g.gs) g.a.sp))::R)) w) w:=hU r
  cases ht:g.a.t with
  | none=>rw[ht] at r1 kk; exact⟨_,kk,r1,bW kk _ _ v⟩
  | some k=>
    rw[ht] at r1 kk k2 k1 hs r
    have hg1:hp h0 ((some k,iY.obj tyo (fl cN (zg xs g.gs) g.a.sp))::R) k=some (.obj tyo (fl cN (zg xs g.gs) g.a.sp)):=aW 0 k2 rfl
    obtain⟨gg,cur,f1,f2,f3,f4⟩:=r.obj k tyo _ (hs _ _ hg1)
    have hfz:pG (hp h0 (lG ty ci (nl l (zg xs g.gs))++((some k,.obj tyo (fl cN (zg xs g.gs) g.a.sp))::R))) (hp h0 ((some k,.obj tyo (fl cN (zg xs g.gs) g.a.sp))::R)) (fl cN (zg xs g.gs) g.a.sp) (fl c xs g.a.sp):=by
      unfold fl
      refine pG.append ?_ (pG.refl _ _ _)
      rw[← yQ ok.len c]
      refine pG.flat λy hy=>hb _ _ y (Fz.awO (ty:=ty) hs hci (ok.el (l y.1,y.2) (List.mem_map.2 ⟨y,hy,rfl⟩)) λk' hk'=> ?_)
      have hm:(some k',iY.obj ty (fl ci (l y.1) (oS y.2)))∈lG ty ci (nl l (zg xs g.gs)):=by rw[← hk']; exact List.mem_map.2 ⟨(l y.1,y.2),List.mem_map.2 ⟨y,hy,rfl⟩,rfl⟩
      refine⟨vL k1 (List.mem_append_left _ hm),G4 (G3 k1 (List.mem_append_left _ hm)) λe q=> ?_⟩
      have p3:=List.perm_append_comm (l₁:=lG ty ci (nl l (zg xs g.gs))) (l₂:=(some k,iY.obj tyo (fl cN (zg xs g.gs) g.a.sp))::R)
      exact CJ (gY p3 k1).2 hm q
    obtain⟨q1,q2⟩:=r1.set_obj hg1 (show (FO E _ (hp h0 ((some k,.obj tyo (fl cN (zg xs g.gs) g.a.sp))::R)) w).ob k=some gg from f1) (w':=w) f2 (λ_ _=>rfl) (Nat.le_refl _) rfl rfl rfl (hfz.spec r f3) f4
    have e3:upd (hp h0 ((some k,iY.obj tyo (fl cN (zg xs g.gs) g.a.sp))::R)) k (some (.obj tyo (fl c xs g.a.sp)))=hp h0 ((some k,.obj tyo (fl c xs g.a.sp))::R):=by
      funext z
      simp only[hp,upd]
      split <;> rfl
    rw[e3] at q2
    exact⟨_,kk.trans q1,q2,bW (kk.trans q1) _ _ v⟩
end
theorem J4 {P:Program} {h:aF} {n:Nat} {rs:List ResultVar} {Q:AV→aF→Prop} {e:Exit} {f g:FR} {L L':HL} (le:bP h L→bP h L'∧f0 (fm n g.k) (hp h L') (fm n f.k) (hp h L)) (k:RV P rs Q h n e g L'):RV P rs Q h n e f L:=
 ⟨λhk=>let ⟨h1,h2⟩:=le hk; let ⟨fr,hh,l2,q⟩:=k.r h1; ⟨fr,hh,h2.trans l2,q⟩⟩
structure CL {α β:Type} (l:α→List β) (sz szi:Nat) (g:dI) (xs:List α) (m N:Nat):Prop where
 k:tI l sz szi g xs
 len:xs.length=N
 pre:∀j,j < m→j < xs.length→gx g.gs j≠none
 post:∀j,m≤j→gx g.gs j=none
section
variable {α β:Type} {l:α→List β} {sz szi:Nat} {g:dI} {xs:List α} {q:Int} {x x':α} {ty:TypeId} {ci:β→List AV} {h0:aF} {L L':HL}
theorem WD (n j:Nat):gx (List.replicate n none) j=none:=by
 unfold gx
 rw[List.getElem?_replicate]
 split <;> rfl
theorem CL.zero {a:dD} (ok:bK a sz xs.length):CL l sz szi ⟨a,List.replicate xs.length none⟩ xs 0 xs.length:=⟨tI.plain ok,rfl,λj h=>absurd h (Nat.not_lt_zero _),λj _=>WD _ _⟩
theorem NK {gs:List OG} {i j:Nat} {og:OG}:gx (gs.set i og) j=if i=j∧j < gs.length then og else gx gs j:=by
 unfold gx
 rw[List.getElem?_set]
 by_cases e:i=j
 ·subst e
  by_cases h:i < gs.length
  ·simp[h]
  ·simp[h]
 ·simp[e]
theorem CL.step {N:Nat} (ok:CL l sz szi g xs q.toNat N) (hx:Vm.ix xs q=some x) (g':dD) (hg:bK g' szi (l x').length):CL l sz szi ⟨g.a,g.gs.set q.toNat (some g')⟩ (xs.set q.toNat x') (IntKind.wrap .i64 (q+1)).toNat N:=by
 obtain⟨h1,h2,h3⟩:=fQ hx
 have hm:=ok.k.a.mx
 have hl:=ok.k.a.le
 have hw:(IntKind.wrap .i64 (q+1)).toNat=q.toNat+1:=by
  rw[IntKind.wrap_i64]; simp only[maxLen] at hm; omega
 have hk:q.toNat < g.gs.length:=by have:=ok.k.len; omega
 rw[hw]
 refine⟨(ok.k.setL hx g' hg).1,by rw[List.length_set]; exact ok.len,λj hj hj2=> ?_,λj hj=> ?_⟩
 ·simp only[NK]
  rw[List.length_set] at hj2
  split
  ·exact nofun
  ·rename_i q1
   exact ok.pre j (by have:=ok.k.len; by_cases e:q.toNat=j <;> omega) hj2
 ·simp only[NK]
  rw[if_neg (by omega)]
  exact ok.post j (by omega)
theorem CL.set {N:Nat} (ok:CL l sz szi g xs q.toNat N) (hx:Vm.ix xs q=some x) (e:l x'=l x):CL l sz szi g (xs.set q.toNat x') q.toNat N:=⟨(ok.k.set hx e).1,by rw[List.length_set]; exact ok.len,λj hj hj2=>ok.pre j hj (by rwa [List.length_set] at hj2),ok.post⟩
theorem CL.all {N:Nat} (ok:CL l sz szi g xs q.toNat N) (hq:decide (q < (N:Int))=false):nG l sz szi g xs:=by
 have hq:=of_decide_eq_false hq
 have hN:=ok.len
 refine⟨ok.k,λog ho=> ?_⟩
 obtain⟨j,hj,rfl⟩:=List.getElem_of_mem ho
 have hl:=ok.k.len
 have:=ok.pre j (by omega) (by omega)
 unfold gx at this
 rwa [List.getElem?_eq_getElem hj] at this
theorem toN {n:Nat} {f:FR} {cN:α×OG→List AV} {c:α→List AV} {tyo:TypeId} {a:dD} (hc:∀x,cN (x,none)=c x) (bl:List HL) (hL:iB bl=L) (i:Nat) (hi:bl[i]? =some [(a.t,.obj tyo (fl c xs a.sp))])
    (hL':iB (bl.set i [(a.t,.obj tyo (fl cN (zg xs (List.replicate xs.length none)) a.sp))]++ [lG ty ci (nl l (zg xs (List.replicate xs.length none)))])=L') (hk:bP h0 L):bP h0 L'∧f0 (fm n f.k) (hp h0 L') (fm n f.k) (hp h0 L):=by
  have e1:fl cN (zg xs (List.replicate xs.length none)) a.sp=fl c xs a.sp:=by
    unfold fl
    have:(zg xs (List.replicate xs.length none)).map cN=xs.map c:=by
      have h1:(zg xs (List.replicate xs.length none)).map cN=(zg xs (List.replicate xs.length none)).map (λy=>c y.1):=by
        refine List.map_congr_left λy hy=> ?_
        have h2:=(List.of_mem_zip hy).2
        rw[List.mem_replicate] at h2
        obtain⟨y1,y2⟩:=y
        simp only at h2
        rw[h2.2,hc]
      rw[h1,yQ (by simp)]
    rw[this]
  have e2:bl.set i [(a.t,iY.obj tyo (fl c xs a.sp))]=bl:=by
    obtain⟨hi',he⟩:=List.getElem?_eq_some_iff.1 hi
    rw[← he]
    exact List.set_getElem_self hi'
  rw[e1,e2] at hL'
  subst hL hL'
  have key:∀zs:List (List β×OG),(∀z∈zs,z.2=none)→∀ {L:HL},bP h0 L→bP h0 (lG ty ci zs++L)∧hp h0 (lG ty ci zs++L)=hp h0 L:=by
    intro zs
    induction zs with
    | nil=>intro _ L hk; exact⟨hk,rfl⟩
    | cons z zs ih=>
      intro hz L hk
      obtain⟨k1,k2⟩:=ih (λz hz'=>hz z (List.mem_cons_of_mem _ hz')) hk
      have h1:oT z.2=none:=by rw[hz z List.mem_cons_self]; rfl
      show bP h0 ((oT z.2,_)::(lG ty ci zs++L))∧hp h0 ((oT z.2,_)::(lG ty ci zs++L))=_
      rw[h1]
      exact⟨⟨k1,nofun⟩,k2⟩
  have hz:∀z∈nl l (zg xs (List.replicate xs.length none)),z.2=none:=by
    intro z hz
    obtain⟨y,hy,rfl⟩:=List.mem_map.1 hz
    have h2:=(List.of_mem_zip hy).2
    rw[List.mem_replicate] at h2
    exact h2.2
  obtain⟨k1,k2⟩:=key _ hz hk
  have p:(lG ty ci (nl l (zg xs (List.replicate xs.length none)))++iB bl).Perm (iB (bl++ [lG ty ci (nl l (zg xs (List.replicate xs.length none)))])):=by
    rw[fU,fU,List.flatten_append]
    simp only[List.flatten_cons,List.flatten_nil,List.append_nil]
    exact List.perm_append_comm
  obtain⟨k3,k4⟩:=gY p k1
  exact⟨k4,f0.eqh (k2.symm.trans k3)⟩
theorem NL {n:Nat} {f:FR} (bl:List HL) (hL:iB bl=L) (b:Nat) {zs:List (List β×OG)} (j:Nat) (hb:bl[b]? =some (lG ty ci zs)) (hL':iB (bl.set b (lG ty ci (zs.eraseIdx j)))=L') (hk:bP h0 L):bP h0 L'∧f0 (fm n f.k) (hp h0 L') (fm n f.k) (hp h0 L):=by
 subst hL hL'
 obtain⟨e1,k1⟩:=gY (oP hb) hk
 have hs:(lG ty ci (zs.eraseIdx j)++(bl.eraseIdx b).flatten).Sublist (lG ty ci zs++(bl.eraseIdx b).flatten):=((List.eraseIdx_sublist zs j).map _).append_right _
 obtain⟨s1,k2⟩:=aU hs k1
 obtain⟨e2,k3⟩:=gY (pW (lG ty ci (zs.eraseIdx j)) hb).symm k2
 refine⟨k3,f0.of ?_ (cS.refl _ _)⟩
 rw[e1,← e2]
 exact s1
end
theorem WE {P:Program} {h:aF} {n:Nat} {τ σ ρ:Type} {id:Nat} {c:Code} {kn:FR→HL→Prop} {ke:Exit→FR→HL→Prop} {f:FR} {L:HL} {step:σ→Option (Lp σ ρ)} {fuel:Nat} {s0:σ} {k:σ→Option ρ} {o:ρ} (hm:after (aS step fuel s0) k=some o)
    (Lg:τ→σ→HL) (J JB:τ→σ→Prop) (sl:τ→σ→FR) (g0:τ) (i0:J g0 s0) (h0:LX h n f L (sl g0 s0) (Lg g0 s0))
    (round:∀g s x,J g s→step s=some x→VC P h n c (GN h n J sl Lg .go x) (GE h n JB sl Lg (some id) ke o x) (sl g s) (Lg g s))
    (next:∀g s,JB g s→k s=some o→kn (sl g s) (Lg g s)):VC P h n (.block id (.loop c)) kn ke f L:=by
  refine⟨λhkL=>w8 ?_⟩
  obtain⟨out,hout,hk⟩:∃out,aS step fuel s0=some out∧((∃s,out= .brk s∧k s=some o)∨∃r,out= .ret r∧r=o):=by
    cases e:aS step fuel s0 with
    | none=>rw[e] at hm; cases hm
    | some out=>
      rw[e] at hm
      cases out with
      | go s=>cases hm
      | brk s=>exact⟨_,rfl,.inl ⟨s,rfl,hm⟩⟩
      | ret r=>exact⟨_,rfl,.inr ⟨r,rfl,Option.some.inj hm⟩⟩
  obtain⟨hk1,le1⟩:=h0 hkL
  refine HO (λm fr' h'=>∃s,aS step m s=some out∧∃g,J g s∧bP h (Lg g s)∧f0 (fm n (sl g s).k) (hp h (Lg g s)) fr' h') fuel ⟨s0,hout,g0,i0,hk1,le1⟩ ?_
  rintro m fr' h' ⟨s,hs,g,hj,hk2,hle⟩
  cases m with
  | zero=>cases hs
  | succ m=>
    simp only[aS] at hs
    cases e:step s with
    | none=>rw[e] at hs; cases hs
    | some x=>
      rw[e] at hs
      refine hle.aw (((round g s x hj e).r hk2).mono ?_)
      rintro ex fr'' h'' ⟨f1,L1,hk3,le3,q⟩
      have fin:∀ {ex:Exit},GE h n JB sl Lg (some id) ke o x ex f1 L1→ex≠ .normal→(∃s',x= .brk s'∧ex= .exit id∧∃g',JB g' s'∧LX h n f1 L1 (sl g' s') (Lg g' s'))∨(ke ex f1 L1∧ex≠ .exit id):=by
        intro ex q hne
        cases q with
        | b i' hi he q=>
          cases hi
          obtain⟨s',g',e1,j',le4⟩:=q.g
          exact .inl ⟨s',e1,he,g',j',le4⟩
        | r y hx h1 h2 k2=>
          subst hx; cases hs
          rcases hk with⟨s2,e2,_⟩ | ⟨r',e2,e3⟩
          · cases e2
          · cases e2; exact .inr ⟨k2 e3,h2 id rfl⟩
      cases ex with
      | normal=>
        obtain⟨s',g',rfl,j',le4⟩:=q.g
        obtain⟨hk5,le5⟩:=le4.le hk3 le3
        exact⟨m,Nat.lt_succ_self m,s',hs,g',j',hk5,le5⟩
      | exit i=>
        rcases fin q nofun with⟨s',rfl,he,g',j',le4⟩ | ⟨hke,hne⟩
        · cases he
          obtain⟨hk5,le5⟩:=le4.le hk3 le3
          cases hs
          simp only[Seq,HN,if_true]
          rcases hk with⟨s2,e2,hk⟩ | ⟨r,e2,_⟩
          · cases e2; exact⟨_,_,hk5,le5,next _ _ j' hk⟩
          · cases e2
        · have:i≠id:=λe=>hne (by rw[e])
          simp only[Seq,HN,this,if_false]
          exact⟨_,_,hk3,le3,hke⟩
      | goto l=>
        rcases fin q nofun with⟨_,_,he,_⟩ | ⟨hke,_⟩
        · cases he
        · exact⟨_,_,hk3,le3,hke⟩
      | ret=>
        rcases fin q nofun with⟨_,_,he,_⟩ | ⟨hke,_⟩
        · cases he
        · exact⟨_,_,hk3,le3,hke⟩
      | panic c=>
        rcases fin q nofun with⟨_,_,he,_⟩ | ⟨hke,_⟩
        · cases he
        · exact⟨_,_,hk3,le3,hke⟩
      | outgrown=>
        rcases fin q nofun with⟨_,_,he,_⟩ | ⟨hke,_⟩
        · cases he
        · exact⟨_,_,hk3,le3,hke⟩
end Go.Vm
