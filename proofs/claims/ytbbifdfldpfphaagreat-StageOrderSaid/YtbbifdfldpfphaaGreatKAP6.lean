import Derived.Test.YtbbifdfldpfphaaGreatKAP5
import Derived.Test.YtbbifdfldpfphaaGreatKAP3
import Derived.Test.YtbbifdfldpfphaaGreatKAP4
set_option linter.unusedSimpArgs false
set_option linter.unusedVariables false
set_option maxHeartbeats 4000000
set_option maxRecDepth 100000
open ByteArray(empty)
open Int(toNat_natCast)
open Go.IntKind(wrap wrap_i64)
open List(append_assoc drop_left flatten_cons flatten_nil length_append length_drop length_singleton length_take map map_cons map_nil nil_sublist take take_append_drop take_left)
open Go.Proofs.Tryz(func103 prog)
namespace Go.Proofs.YtbbifdfldpfphaaGreat
open Go.Vm
def lT {α:Type} (m:Nat) (p0:List α) (p1:α->Option Bool) (q0:Int):Option (Lp (Int) (Int)):=
 if decide (q0 < (p0.length:Int)) then ((ix p0 q0).bind λx0=>(p1 x0).bind λy0=>if y0 then Rk q0 else Gk (wrap .i64 (q0+1))) else Bk q0
def p8 {α:Type} (m:Nat) (p0:List α) (p1:α->Option Bool):Option (Int):=
 after (aR (λs=>lT m p0 p1 s) m 0) λr0=>some (-1)
theorem aBV {α:Type} {c:α->List AV} (cz:∀y,(c y).length=4) {w:Nat} {p0:List α} {p1:α->Option Bool} {o:Int} (h:aF) {g_p0:dE} (ok_p0:bK g_p0 4 p0.length) (K0:bP h [(g_p0.t,.obj 60 (fl c (p0:List α) g_p0.sp))]) {p1F:Nat} {p1C:List AV} (p1B:aP prog p1F=true) (p1H:∀x0 o h0,iJ h h0->p1 x0=some o->aM prog p1F ([.agg (c x0)]++p1C) h0 (λr h'=>r= .sc (.bool o)/\h'=h0)) (m:p8 w p0 p1=some o):
 aM prog 103 [aZ g_p0,.fn (.func p1F) p1C] (hp h [(g_p0.t,.obj 60 (fl c (p0:List α) g_p0.sp))]) (λr h'=>r=nZ o/\h'=hp h [(g_p0.t,.obj 60 (fl c (p0:List α) g_p0.sp))]):=by
 refine F1 K0 19 [.tmp 4] func103 rfl rfl rfl rfl ?_
 unfold p8 at m
 refine vs (v0 (vs (vs (v0 (bU (fK lA ok_p0 rfl) ?_)))))
 refine jS m (σ:=Int) (λs=>[(g_p0.t,.obj 60 (fl c (p0:List α) g_p0.sp))]) (λs=>.c 0 (aZ g_p0) (.c 1 (.fn (.func p1F) p1C) (.c 7 (nZ (p0.length:Int)) (.c 8 (nZ s) .nil)))) (lx (.k4 .nil)) ?_ ?_
 rintro _ q0 x m
 replace m:lT w p0 p1 q0=some x:=m
 unfold lT at m
 refine vs (v0 (vs (v0 ?_)))
 apply vi m<;>intro c0 m
 refine v0 (vs (v0 (vs (v0 (vs (v0 ?_))))))
 obtain⟨x1,X0,m⟩:=aD m
 refine bU (dG X0 iW ok_p0 rfl rfl) (vn (λu=>eK (fo:=0) (.agg (c x1)) X0 cz ok_p0 sR rfl (aO 0 u rfl) (λ_=>R4 (cz _))) ?_)
 obtain⟨_,Y0,m⟩:=aD m
 refine vn (λu=>bV (p1H _ _ _ (aU (nil_sublist _) u).1 Y0) rfl p1B rfl) (v0 ?_)
 apply vi m<;>intro c1 m
 refine vs (v0 (v0 ?_))
 refine fY m λm=> ?_
 obtain rfl:=eR m
 exact vr λu=>dW.of1 (.inl rfl) (gQ _ _ (.sc (.int _ _)) rfl) (bQ u [0] rfl).2 (bD.refl _ _) ⟨rfl,rfl⟩
 refine v0 (v0 ?_)
 exact fZ m
 refine v0 ?_
 exact vB m
 rintro _ r0 m
 refine vs (v0 (v0 ?_))
 cases m
 exact vr λu=>dW.of1 (.inl rfl) (gQ _ _ (.sc (.int _ _)) rfl) (bQ u [0] rfl).2 (bD.refl _ _) ⟨rfl,rfl⟩
theorem KJ {m:Nat} {α β:Type} (f:α->β) (xs:List α) (p:β->Option Bool):p8 m (xs.map f) p=p8 m xs (λx=>p (f x)):=by
 have h1:lT m (xs.map f) p=lT m xs (λx=>p (f x)):=by
   funext s; unfold lT; rw[List.length_map,WM]; cases ix xs s<;>rfl
 unfold p8
 simp only[h1]
theorem N8 {m:Nat} {α:Type} {xs:List α} {gs:List OG} (hl:gs.length=xs.length) {p:α->Option Bool} {o:Int} (h:p8 m xs p=some o):p8 m (zg xs gs) (λx=>p x.1)=some o:=WN (F:=λl=>p8 m l p) hl (KJ Prod.fst (zg xs gs) p) h
def N9 (m:Nat) (p0:aH) (c0:aE):Option (Bool):=
 some (p0.Seq==c0.Seq)
theorem aBW:aP prog 177=true:=by kernel_rfl
theorem aBX {w:Nat} {p0:aH} {c0:aE} {o:Bool} (h:aF) {og0:OG} {c0K:bT} (c0H:h c0K=some (.obj 38 (aI c0))) (m:N9 w p0 c0=some o):
 aM prog 177 [.agg (mG (p0,og0)),.ptr c0K 0] h (λr h'=>r= .sc (.bool o)/\h'=h):=by
 refine fQ 9 [.tmp 3] Tryz.func177 rfl rfl rfl rfl ?_
 unfold N9 at m
 refine v ?_
 refine ve λu=>TK u rfl (by repeat (first | exact rfl | refine cG (gK _ _ _ _) ?_ | refine cG rfl ?_)) λk2 K3=>qk K3 rfl ?_
 refine v (vl 0 _ cB rfl rfl rfl (vn (λu=>gO (nZ c0.Seq) cB rfl (gP u c0H) rfl) (v ?_)))
 cases m
 exact eH rfl
def CV (m:Nat) (p0:aT) (p1:Int):Option (Int):=
 some (wrap .i64 (p0.Seq - p1))
theorem aHN {u:Nat} {p0:aT} {p1:Int} {o:Int} (h:aF) (m:CV u p0 p1=some o):
 aM prog 179 [.agg (cH p0),nZ p1] h (λr h'=>r=nZ o/\h'=h):=by
 refine fQ 9 [.tmp 4] Tryz.func179 rfl rfl rfl rfl ?_
 unfold CV at m
 refine v ?_
 refine gZ rfl rfl λk2 K3=> ?_
 refine v (vl 0 _ cB rfl rfl rfl (v ?_))
 cases m
 exact eH rfl
theorem aBY:aP prog 179=true:=by kernel_rfl
def tV (m:Nat) (p0:List aT) (p1:Int) (p2:aT->Int->Option Int) (q0:Int) (q1:Int):Option (Lp (Int×Int) (Int×Bool)):=
 if decide (q0 < q1) then ((ix p0 (wrap .i64 ((wrap .u64 (wrap .i64 (q0+q1))).fdiv (2 ^ (min (1:Int).toNat (IntKind.bits .u64)))))).bind λx0=>(p2 x0 p1).bind λy0=>after (if decide (y0 < 0) then (Bk (wrap .i64 ((wrap .i64 ((wrap .u64 (wrap .i64 (q0+q1))).fdiv (2 ^ (min (1:Int).toNat (IntKind.bits .u64)))))+1),q1)) else Bk (q0,wrap .i64 ((wrap .u64 (wrap .i64 (q0+q1))).fdiv (2 ^ (min (1:Int).toNat (IntKind.bits .u64))))):Option (Lp (Int×Int) (Lp (Int×Int) (Int×Bool)))) λ⟨j0,j1⟩=>Gk (j0,j1)) else Bk (q0,q1)
def OA (m:Nat) (p0:List aT) (p1:Int) (p2:aT->Int->Option Int):Option (Int×Bool):=
 after (aR (λs=>tV m p0 p1 p2 s.1 s.2) m (0,(p0.length:Int))) λ⟨r0,r1⟩=>after (if decide (r0 < (p0.length:Int)) then ((ix p0 r0).bind λx0=>(p2 x0 p1).bind λy0=>Bk (r0,(y0==0))) else Bk (r0,false):Option (Lp (Int×Bool) (Int×Bool))) λ⟨j0,j1⟩=>some (j0,j1)
theorem aHO {w:Nat} {p0:List aT} {p1:Int} {p2:aT->Int->Option Int} {o:Int×Bool} (h:aF) {p2F:Nat} {p2C:List AV} (p2B:aP prog p2F=true) (p2H:∀x0 x1 o h0,iJ h h0->p2 x0 x1=some o->aM prog p2F ([.agg (cH x0),nZ x1]++p2C) h0 (λr h'=>r=nZ o/\h'=h0)) (m:OA w p0 p1 p2=some o):
 aM prog 178 [.sl none 3 (map cH p0),nZ p1,.fn (.func p2F) p2C] h (λr h'=>r= .tup [nZ o.1,.sc (.bool o.2)]/\h'=h):=by
 refine fQ 49 [.tmp 6,.tmp 7] Tryz.func178 rfl rfl rfl rfl ?_
 unfold OA at m
 refine v (v (cU pT rfl (v (vs ?_))))
 refine jS m (σ:=Int×Int) (λs=>[]) (λs=>.c 0 (.sl none 3 (map cH p0)) (.c 1 (nZ p1) (.c 2 (.fn (.func p2F) p2C) (.c 8 (nZ (p0.length:Int)) (.c 9 (nZ s.1) (.c 10 (nZ s.2) .nil)))))) (lx (.k6 .nil)) ?_ ?_
 rintro _ ⟨q0,q1⟩ x m
 replace m:tV w p0 p1 p2 q0 q1=some x:=m
 unfold tV at m
 refine v (v ?_)
 apply vi m<;>intro c0 m
 refine v (v (v (v ?_)))
 refine vx m iX rfl rfl λx2 _ m=> ?_
 refine va (.agg (cH x2)) z9 rfl rfl ?_
 obtain⟨_,Y0,m⟩:=aD m
 refine vn (λu=>bV (p2H _ _ _ _ (aU (nil_sublist _) u).1 Y0) rfl p2B rfl) ?_
 refine fO m (σ:=Int×Int) (λs=>[]) (λs=>.c 0 (.sl none 3 (map cH p0)) (.c 1 (nZ p1) (.c 2 (.fn (.func p2F) p2C) (.c 8 (nZ (p0.length:Int)) (.c 9 (nZ s.1) (.c 10 (nZ s.2) .nil)))))) (λx m=> ?_) ?_
 refine v ?_
 apply vi m<;>intro c1 m
 refine v ?_
 exact mX m
 refine v ?_
 exact mX m
 rintro _ ⟨j0,j1⟩ m
 exact mX m
 refine v ?_
 exact bq6 m
 rintro _ ⟨r0,r1⟩ m
 refine vs ?_
 refine fO m (σ:=Int×Bool) (λs=>[]) (λs=>.c 6 (nZ s.1) (.c 7 (.sc (.bool s.2)) .nil)) (λx m=> ?_) ?_
 refine v ?_
 apply vi m<;>intro b0 m
 rw[b0]
 refine vx m iX rfl rfl λx3 _ m=> ?_
 refine va (.agg (cH x3)) z9 rfl rfl ?_
 obtain⟨_,Y1,m⟩:=aD m
 refine vn (λu=>bV (p2H _ _ _ _ (aU (nil_sublist _) u).1 Y1) rfl p2B rfl) ?_
 exact wQ m
 rw[b0]
 exact wQ m
 rintro _ ⟨j2,j3⟩ m
 refine v ?_
 cases m
 exact vr2 rfl rfl
theorem aBZ:aP prog 178=true:=by kernel_rfl
def p9 (m:Nat) (p0:List aH) (p1:aH->Option Bool) (q0:Int):Option (Lp (Int) (Int)):=
 if decide (q0 < (p0.length:Int)) then ((ix p0 q0).bind λx0=>(p1 x0).bind λy0=>if y0 then Rk q0 else Gk (wrap .i64 (q0+1))) else Bk q0
def E9 (m:Nat) (p0:List aH) (p1:aH->Option Bool):Option (Int):=
 after (aR (λs=>p9 m p0 p1 s) m 0) λr0=>some (-1)
theorem aB0 {w:Nat} {p0:List aH} {p1:aH->Option Bool} {o:Int} (h:aF) {g_p0:dE} (ok_p0:bK g_p0 4 p0.length) (K0:bP h [(dF g_p0 p0)]) {p1F:Nat} {p1C:List AV} (p1B:aP prog p1F=true) (p1H:∀x0 o h0,iJ h h0->p1 x0=some o->aM prog p1F ([.agg (bJ x0)]++p1C) h0 (λr h'=>r= .sc (.bool o)/\h'=h0)) (m:E9 w p0 p1=some o):
 aM prog 103 [aZ g_p0,.fn (.func p1F) p1C] (hp h [(dF g_p0 p0)]) (λr h'=>r=nZ o/\h'=hp h [(dF g_p0 p0)]):=by
 refine F1 K0 19 [.tmp 4] func103 rfl rfl rfl rfl ?_
 unfold E9 at m
 refine vs (v0 (vs (vs (v0 (bU (fK lA ok_p0 rfl) ?_)))))
 refine jS m (σ:=Int) (λs=>[(dF g_p0 p0)]) (λs=>.c 0 (aZ g_p0) (.c 1 (.fn (.func p1F) p1C) (.c 7 (nZ (p0.length:Int)) (.c 8 (nZ s) .nil)))) (lx (.k4 .nil)) ?_ ?_
 rintro _ q0 x m
 replace m:p9 w p0 p1 q0=some x:=m
 unfold p9 at m
 refine vs (v0 (vs (v0 ?_)))
 apply vi m<;>intro c0 m
 refine v0 (vs (v0 (vs (v0 (vs (v0 ?_))))))
 obtain⟨x1,X0,m⟩:=aD m
 refine bU (dG X0 iW ok_p0 rfl rfl) (vn (λu=>eK (fo:=0) (.agg (bJ x1)) X0 eP ok_p0 sR rfl (aO 0 u rfl) (λ_=>rfl)) ?_)
 obtain⟨_,Y0,m⟩:=aD m
 refine vn (λu=>bV (p1H _ _ _ (aU (nil_sublist _) u).1 Y0) rfl p1B rfl) (v0 ?_)
 apply vi m<;>intro c1 m
 refine vs (v0 (v0 ?_))
 refine fY m λm=> ?_
 obtain rfl:=eR m
 exact vr λu=>dW.of1 (.inl rfl) (gQ _ _ (.sc (.int _ _)) rfl) (bQ u [0] rfl).2 (bD.refl _ _) ⟨rfl,rfl⟩
 refine v0 (v0 ?_)
 exact fZ m
 refine v0 ?_
 exact vB m
 rintro _ r0 m
 refine vs (v0 (v0 ?_))
 cases m
 exact vr λu=>dW.of1 (.inl rfl) (gQ _ _ (.sc (.int _ _)) rfl) (bQ u [0] rfl).2 (bD.refl _ _) ⟨rfl,rfl⟩
def tW (m:Nat) (p0:aA) (q0:List aB) (q1:Int):Option (Lp ((List aB)×Int) ((List aB))):=
 if decide (q1 < (p0.Chunks.length:Int)) then ((ix p0.Chunks q1).bind λx0=>(VX m ({ Seq:=p0.Seq,Snaps:=p0.Snaps,Chunks:=p0.Chunks,Exps:=p0.Exps,Vols:=p0.Vols}:aA) x0.Id).bind λy0=>after (if (!y0)then (Bk { { x0 with Staged:=false} with Data:=([]:List Int)}) else Bk x0:Option (Lp (aB) (Lp ((List aB)×Int) ((List aB))))) λj0=>after (if j0.Staged then Bk true else Bk (decide (0 < (j0.Locs.length:Int))):Option (Lp (Bool) (Lp ((List aB)×Int) ((List aB))))) λj1=>after (if j1 then ((app q0 ([j0]:List aB)).bind λz0=>Bk z0) else Bk q0:Option (Lp ((List aB)) (Lp ((List aB)×Int) ((List aB))))) λj2=>Gk (j2,wrap .i64 (q1+1))) else Bk (q0,q1)
def KK (m:Nat) (p0:aA):Option ((List aB)):=
 after (aR (λs=>tW m p0 s.1 s.2) m ([],0)) λ⟨r0,r1⟩=>some r0
theorem aHP {w:Nat} {p0:aA} {o:(List aB)} (h:aF) {p0K:bT} {gS:dE} (ok_Snaps:bK gS 4 p0.Snaps.length) {gC:dE} (oC:bK gC 35 p0.Chunks.length) {gE:dE} (oE:bK gE 3 p0.Exps.length) {gV:dE} (oV:bK gV 4 p0.Vols.length) (K0:bP h [OC p0K p0.Seq gS gC gE gV,cP gS p0.Snaps,cD gC p0.Chunks,eQ gE p0.Exps,a8 gV p0.Vols]) (m:KK w p0=some o):
 aM prog 120 [.ptr p0K 0] (hp h [OC p0K p0.Seq gS gC gE gV,cP gS p0.Snaps,cD gC p0.Chunks,eQ gE p0.Exps,a8 gV p0.Vols]) (λr h'=>∃g_Chunks':dE,bK g_Chunks' 35 (o:List aB).length/\bP h [OC p0K p0.Seq gS g_Chunks' gE gV,cP gS p0.Snaps,cD g_Chunks' o,eQ gE p0.Exps,a8 gV p0.Vols]/\r= .tup []/\h'=hp h [OC p0K p0.Seq gS g_Chunks' gE gV,cP gS p0.Snaps,cD g_Chunks' o,eQ gE p0.Exps,a8 gV p0.Vols]):=by
 refine F1 K0 40 [] Tryz.func120 rfl rfl rfl rfl ?_
 unfold KK at m
 refine vs (v0 (vs (vs (v0 (l4 rfl (dY fF rfl rfl (vl 0 (aZ gC) fE rfl rfl rfl (bU (fK lH oC rfl) (pM (z6 (.obj 44 (fl aK ([]:List aB) g0.sp)) 2 (aZ g0) (fT _)) ?_)))))))))
 refine nU m (σ:=(List aB)×Int) (τ:=dE) (λg s=>[cD g s.1,OC p0K p0.Seq gS gC gE gV,cP gS p0.Snaps,cD gC p0.Chunks,eQ gE p0.Exps,a8 gV p0.Vols]) (λg s=>bK g 35 (s.1:List aB).length) (λg s=>.c 0 (.ptr p0K 0) (.c 2 (aZ g) (.c 8 (aZ gC) (.c 9 (nZ (p0.Chunks.length:Int)) (.c 10 (nZ s.2) .nil))))) g0 (bK.g0 35) (lx (.k5 .nil)) ?_ ?_
 rintro ag0 ⟨q0,q1⟩ x O0 m
 replace m:tW w p0 q0 q1=some x:=m
 unfold tW at m
 refine vs (v0 (vs (v0 ?_)))
 apply vi m<;>intro c0 m
 refine v0 (vs (v0 (vs (v0 ?_))))
 obtain⟨x0,X0,m⟩:=aD m
 refine bU (dG X0 hX oC rfl rfl) (vn (λu=>eK (fo:=0) (.agg (aK x0)) X0 cZ oC pH rfl (aO 3 u rfl) (λ_=>rfl)) ?_)
 refine ve λu=>bG (bC gY++(TE:List AV)) u qP rfl rfl λk174 K1=>qk K1 rfl ?_
 refine ve λu=>aL 0 (aK x0) u rfl rfl rfl rfl EK rfl rfl λK2=>qk K2 rfl ?_
 refine vs (vs (v0 (CL (by kernel_rfl) (l4 rfl (vl 2 (.agg ([nZ p0.Seq,aZ gS,aZ gC,aZ gE,aZ gV])) dC rfl rfl rfl (dY rH rfl rfl (vl 0 (.agg (bC x0.Id)) fA rfl rfl rfl ?_)))))))
 obtain⟨_,Y0,m⟩:=aD m
 refine vn (λu=>bV (fN (.cons (Br.agg (.cons (Br.refl _ _) (.cons (Br.aw 3 eP ok_Snaps u rfl) (.cons (Br.aw 4 cZ oC u rfl) (.cons (Br.aw 5 gH oE u rfl) (.cons (Br.aw 6 eW oV u rfl) .nil)))))) (.cons (Br.refl _ _) .nil)) rfl (W22 _ Y0)) rfl VY rfl) ?_
 refine fO m (σ:=aB) (λs=>[(some k174,.obj 44 (aK s)),cD ag0 q0,OC p0K p0.Seq gS gC gE gV,cP gS p0.Snaps,cD gC p0.Chunks,eQ gE p0.Exps,a8 gV p0.Vols]) (λs=>.c 0 (.ptr p0K 0) (.c 2 (aZ ag0) (.c 4 (.ptr k174 0) (.c 8 (aZ gC) (.c 9 (nZ (p0.Chunks.length:Int)) (.c 10 (nZ q1) .nil)))))) (λx m=> ?_) ?_
 refine v0 ?_
 apply vi m<;>intro c1 m
 refine v0 (dY pV rfl rfl ?_)
 refine ve λu=>aL 0 (aK { x0 with Staged:=false}) u rfl rfl rfl rfl ZY rfl rfl λK3=>qk K3 rfl ?_
 refine dY lY rfl rfl ?_
 refine ve λu=>xQ 0 (aK { { x0 with Staged:=false} with Data:=([]:List Int)}) u rfl rfl rfl rfl (.cons (a9 _) .nil) EJ rfl rfl λK4=>qk K4 rfl ?_
 exact mX m
 refine v0 ?_
 exact mX m
 rintro _ j0 m
 refine vs ?_
 refine fO m (σ:=Bool) (λs=>[(some k174,.obj 44 (aK j0)),cD ag0 q0,OC p0K p0.Seq gS gC gE gV,cP gS p0.Snaps,cD gC p0.Chunks,eQ gE p0.Exps,a8 gV p0.Vols]) (λs=>.c 0 (.ptr p0K 0) (.c 2 (aZ ag0) (.c 4 (.ptr k174 0) (.c 8 (aZ gC) (.c 9 (nZ (p0.Chunks.length:Int)) (.c 10 (nZ q1) (.c 30 (.sc (.bool s)) .nil))))))) (λx m=> ?_) ?_
 refine v0 (dY pV rfl rfl (vl 0 _ GV rfl rfl rfl ?_))
 apply vi m<;>intro b0 m
 rw[b0]
 exact zV m
 rw[b0]
 refine dY jW rfl rfl (vl 0 _ fW rfl rfl rfl (cU kB rfl ?_))
 exact zV m
 rintro _ j1 m
 refine oI m (σ:=(List aB)) (τ:=dE) (λg s=>[(some k174,.obj 44 (aK j0)),cD g s,OC p0K p0.Seq gS gC gE gV,cP gS p0.Snaps,cD gC p0.Chunks,eQ gE p0.Exps,a8 gV p0.Vols]) (λg s=>bK g 35 (s:List aB).length) (λg s=>.c 0 (.ptr p0K 0) (.c 2 (aZ g) (.c 8 (aZ gC) (.c 9 (nZ (p0.Chunks.length:Int)) (.c 10 (nZ q1) .nil))))) (λx m=> ?_) ?_
 refine v0 ?_
 apply vi m<;>intro c2 m
 refine v0 (vl 0 (.agg (aK j0)) pH rfl rfl rfl (bU (dX (map aK ([j0]:List aB)) pE rfl rfl rfl rfl) ?_))
 obtain⟨z0,Z0,m⟩:=aD m
 refine ve λu=>gG (c:=aK) 1 Z0 pE rfl qP rfl cZ rfl rfl O0 u rfl λag1 O1 K5=>qk K5 rfl ?_
 exact eG m ag1 O1 (lx (.k5 .nil))
 refine v0 ?_
 exact eG m ag0 O0 (lx (.k5 .nil))
 rintro ag2 j2 O2 m
 refine v0 ?_
 exact eG m ag2 O2 (mK [1,2,3,4,5,6] rfl rfl (.k5 .nil))
 refine v0 ?_
 exact lR m ag0 O0 (lx (.k5 .nil))
 rintro ag3 ⟨r0,r1⟩ t0 m
 refine v0 (l4 rfl (dY fF rfl rfl ?_))
 refine ve λu=>aL 1 ([nZ p0.Seq,aZ gS,aZ ag3,aZ gE,aZ gV]) u rfl rfl (cM rfl) (cG (cC _ _ _) rfl) EH rfl rfl λK6=>qk K6 rfl ?_
 obtain rfl:=eR m
 exact vr λu=>dW.zero (.inr rfl) (bQ u [1,2,0,4,5] rfl).2 ⟨ag3,t0,(bQ u [1,2,0,4,5] rfl).1,rfl,rfl⟩
theorem aB1:aP prog 120=true:=by kernel_rfl
theorem aHQ {α:Type} {c:α->List AV} (hc:∀y,(c y).length=4) {p0 o:List α} {p1:Int} {x:α} (h:aF) {g:dE} (ok:bK g 4 p0.length) (K0:bP h [(g.t,.obj 81 (fl c p0 g.sp))]) (u:qR p0 p1 x=some o):
 aM prog 187 [aZ g,nZ p1,.sl none 4 (map c [x])] (hp h [(g.t,.obj 81 (fl c p0 g.sp))]) (λr h'=>∃g:dE,bK g 4 o.length/\bP h [(g.t,.obj 81 (fl c o g.sp))]/\r=aZ g/\h'=hp h [(g.t,.obj 81 (fl c o g.sp))]):=by
 obtain⟨i0,i1,i2,ho⟩:=mP u
 have hv1:((([x]:List α).length:Int)==0)=false:=rfl
 refine F1 K0 95 [.tmp 6] Tryz.func187 rfl rfl rfl rfl ?_
 repeat refine vs ?_
 refine v0 ?_
 repeat refine vs ?_
 refine v0 (bU (N5 i0 i1 ok jH rfl rfl) ?_)
 repeat refine vs ?_
 refine v0 (cU kB rfl ?_)
 repeat refine vs ?_
 refine v0 (v0 ?_)
 show VC _ _ _ Code.skip _ _ _ _
 refine v0 ?_
 repeat refine vs ?_
 refine v0 (bU (fK kB ok rfl) ?_)
 repeat refine vs ?_
 refine v0 (v0 ?_)
 by_cases hi:p1=(p0.length:Int)
 refine vt (by simpa using hi) ?_
 repeat refine vs ?_
 refine v0 ?_
 refine ve λw=>gG (c:=c) 0 (IM i2) pG rfl EM rfl hc rfl rfl ok w rfl λg' ok' hk'=>qk hk' rfl ?_
 refine v0 ?_
 have e:o=p0++ [x]:=by subst hi; rw[ho]; simp
 subst e
 exact vr λw=>dW.one (.inl rfl) (iJ.refl _) (bD.refl _ _) ⟨g',ok',w,rfl,rfl⟩
 refine vf (by simpa using hi) (v0 ?_)
 have hlt:p1.toNat < p0.length:=by omega
 obtain⟨gt,gn,cap,sp⟩:=g
 have hne:gt≠none:=λe=>by have:=ok.nil e; omega
 obtain⟨k,rfl⟩:∃k,gt=some k:=by cases gt with
 | none=>exact absurd rfl hne
 | some k=>exact⟨k,rfl⟩
 have hgn:gn=p0.length:=ok.eqn
 subst hgn
 have hle:p0.length<=cap:=ok.le
 have hmx:cap<=maxLen:=ok.mx
 have hlen:p0.length*4+sp.length=cap*4:=ok.len
 have hw:wrap .i64 ((p0.length:Int)+(([x]:List α).length:Int))=((p0.length+1:Nat):Int):=by
   rw[wrap_i64]; simp only[length_singleton]; omega
 have hw2:wrap .i64 (wrap .i64 ((p0.length:Int)+(([x]:List α).length:Int)) - p1)=((p0.length+1 - p1.toNat:Nat):Int):=by
   rw[hw,wrap_i64]; omega
 have hw3:wrap .i64 (p1+(([x]:List α).length:Int))=((p1.toNat+1:Nat):Int):=by
   rw[wrap_i64]; simp only[length_singleton]; omega
 obtain⟨q1,q2,q3,q4⟩:=BB hc (i:=p1.toNat) (by omega:p1.toNat<=p0.length) sp
 generalize hA:((p0.take p1.toNat).map c).flatten=A at q1 q2 q4
 generalize hB:((p0.drop p1.toNat).map c).flatten=B at q1 q3 q4
 repeat refine vs ?_
 refine v0 (bU (N3 u42 rfl) (v0 ?_))
 by_cases hcap:cap < p0.length+1
 refine vt (by rw[hw]; exact decide_eq_true (show (cap:Int) < ((p0.length+1:Nat):Int) by omega)) ?_
 repeat refine vs ?_
 refine v0 (bU (IL (cap:=cap) i0 (by omega) jH rfl rfl) ?_)
 refine ve λw=>N4 (cap:=cap) (cs:=fl c p0 sp) (i:=p1.toNat) (m:=p0.length+1 - p1.toNat) 0 pG u3 EM rfl (by decide) w rfl rfl (congrArg (λz=>AV.sc (.int .i64 z)) hw2) (by omega) (by rw[q1]; simp only[length_append]; omega) (by omega) λq cap' R h1 h2 h3 hk'=>qk hk' rfl ?_
 repeat refine vs ?_
 refine v0 (bU (nJ i0 (by omega) jH rfl rfl) ?_)
 have hn0:p1.toNat+(p0.length+1 - p1.toNat)=p0.length+1:=by omega
 have hn1:p1.toNat+(p0.length+1 - p1.toNat) - p1.toNat=p0.length+1 - p1.toNat:=by omega
 have e1:take (p1.toNat*4) (fl c p0 sp)=A:=by rw[q1,<- q2,take_left]
 have hxl:=hc x
 have hR:4+B.length<=R.length:=by omega
 have hfl:(fl c p0 sp).length=A.length+(B.length+sp.length):=by rw[q1]; simp
 obtain⟨R1,R2,R3,hR0,hR1,hR2⟩:∃R1 R2 R3:List AV,R=R1++(R2++R3)/\R1.length=(c x).length/\R2.length=B.length:=
 ⟨R.take 4,(R.drop 4).take B.length,(R.drop 4).drop B.length,by rw[take_append_drop,take_append_drop],by rw[length_take,hxl]; omega,by rw[length_take,length_drop]; omega⟩
 refine ve λw=>p7 0 pG w rfl rfl (IK.sl (ys:=map c [x]) (by simp) _) (by simp[hxl]; omega) (by rw[e1]; simp only[length_append]; simp[hxl,q2]; omega) (A++(c x++(R2++R3))) (by
 rw[e1,hR0]
 simp only[map_cons,map_nil,flatten_cons,flatten_nil,List.append_nil]
 exact jP q2 hR1) λhk'=>qk hk' rfl ?_
 repeat refine vs ?_
 refine v0 ?_
 have hv4:AV.view q ((wrap .i64 (p1+(([x]:List α).length:Int))).toNat*4) (p1.toNat+(p0.length+1 - p1.toNat) - (wrap .i64 (p1+(([x]:List α).length:Int))).toNat)= .view q ((p1.toNat+1)*4) (p0.length - p1.toNat):=by
   rw[hw3,toNat_natCast,show p1.toNat+(p0.length+1 - p1.toNat) - (p1.toNat+1)=p0.length - p1.toNat from by omega]
 refine vz [] mixed (λw=>trivial) λw=> ?_
 refine zC 0 rfl (fJ (.vw _ _ _) rfl) ?_
 refine zI 1 rfl rfl ?_
 refine zI 2 rfl rfl ?_
 refine zC 3 rfl (mU rfl rfl rfl trivial) ?_
 refine zC 4 rfl (iR (nJ (by rw[hw3]; omega) (by rw[hw3]; omega) jH rfl rfl) (bD.of_eq hv4)) ?_
 refine zC 5 rfl (fJ (.vw _ _ _) rfl) ?_
 refine zI 6 rfl rfl ?_
 refine zC 7 rfl (nJ (m:=p0.length) i0 (by omega) jH rfl rfl) ?_
 have e2:(List.drop (p1.toNat*4) (fl c p0 sp)).take ((p0.length - p1.toNat)*4)=B:=by
   rw[q1,<- q2,drop_left,<- q3,take_left]
 refine zE 8 rfl (p7 0 pG w rfl rfl (cs:=B) (by rw[<- e2]; exact IK.view (aW 1 w rfl)) (n1:=p0.length - p1.toNat) (m:=p0.length - p1.toNat) (by rw[q3,Nat.min_self]) (by simp only[length_append,hxl,q2,hR2]; omega) (fl c (p0.take p1.toNat++x::p0.drop p1.toNat) R3) (by
 rw[q4 x R3,<- append_assoc A,<- append_assoc A]
 exact jP (A:=A++c x) (by rw[length_append,hxl,q2]; omega) hR2) λK1=>⟨trivial, ?_⟩)
 refine zX (qk (f:=fq9 54 _ _ _ _ _ _ _ _ _ _) K1 rfl ?_)
 repeat refine vs ?_
 refine v0 (v0 ?_)
 subst ho
 have hol:(take p1.toNat p0++x::List.drop p1.toNat p0).length=p0.length+1:=by simp; omega
 refine vr λw=>dW.one (.inl rfl) (bQ K1 [0] rfl).2 (bD.of_eq (show AV.vw q _ cap'=aw (some q) (p0.length+1) cap' by rw[hn0]; rfl)) ⟨⟨some q,p0.length+1,cap',R3⟩,⟨hol.symm,nofun,by rw[hol]; show p0.length+1<=cap'; omega,h2,by rw[hol]; show (p0.length+1)*4+R3.length=cap'*4; simp only[hR0,length_append,hR1,hR2,hxl] at h3; omega⟩,(bQ K1 [0] rfl).1,rfl,rfl⟩
 refine vf (by rw[hw]; exact decide_eq_false (show ¬(cap:Int) < ((p0.length+1:Nat):Int) by omega)) (v0 ?_)
 repeat refine vs ?_
 refine v0 ?_
 have hv0:AV.vw k (wrap .i64 ((p0.length:Int)+(([x]:List α).length:Int))).toNat cap= .vw k (p0.length+1) cap:=by rw[hw,toNat_natCast]
 refine bU (iR (IL (cap:=cap) (by rw[hw]; omega) (by rw[hw]; omega) jH rfl rfl) (bD.of_eq hv0)) ?_
 repeat refine vs ?_
 refine v0 ?_
 have hv4:AV.view k ((wrap .i64 (p1+(([x]:List α).length:Int))).toNat*4) (p0.length+1 - (wrap .i64 (p1+(([x]:List α).length:Int))).toNat)= .view k ((p1.toNat+1)*4) (p0.length - p1.toNat):=by
   rw[hw3,toNat_natCast,show p0.length+1 - (p1.toNat+1)=p0.length - p1.toNat from by omega]
 refine bU (iR (nJ (m:=p0.length+1) (by rw[hw3]; omega) (by rw[hw3]; omega) jH rfl rfl) (bD.of_eq hv4)) ?_
 have hfl:(fl c p0 sp).length=p1.toNat*4+((p0.length - p1.toNat)*4+sp.length):=by rw[q1,length_append,length_append,q2,q3]
 refine ve λw=>tQ (sz:=4) (tS:=42) (tR:=4) Tryz.func193 (by kernel_rfl) (by kernel_rfl) (by kernel_rfl) (by kernel_rfl) pG (ys:=map c [x]) (by simp) (by decide) rfl rfl (aW 0 w rfl) (by rw[hfl]; omega) (qk w rfl ?_)
 refine v0 ?_
 repeat refine vs ?_
 refine v0 ?_
 refine vz [] mixed (λw=>trivial) λw=> ?_
 refine zC 0 rfl (fJ (.vw _ _ _) rfl) ?_
 refine zI 1 rfl rfl ?_
 refine zI 2 rfl rfl ?_
 refine zC 3 rfl (mU rfl rfl rfl trivial) ?_
 refine zC 4 rfl (iR (nJ (m:=p0.length+1) (by rw[hw3]; omega) (by rw[hw3]; omega) jH rfl rfl) (bD.of_eq hv4)) ?_
 refine zC 5 rfl (fJ (.vw _ _ _) rfl) ?_
 refine zI 6 rfl rfl ?_
 refine zC 7 rfl (nJ (m:=p0.length+1) i0 (by omega) jH rfl rfl) ?_
 have hxl:=hc x
 have e2:(List.drop (p1.toNat*4) (fl c p0 sp)).take ((p0.length - p1.toNat)*4)=B:=by
   rw[q1,<- q2,drop_left,<- q3,take_left]
 have hsp:4<=sp.length:=by omega
 obtain⟨X0,Y,Z,hXY,hX0,hY⟩:∃X0 Y Z:List AV,B++sp=X0++(Y++Z)/\X0.length=4/\Y.length=B.length:=
 ⟨(B++sp).take 4,((B++sp).drop 4).take B.length,((B++sp).drop 4).drop B.length,by rw[take_append_drop,take_append_drop],by rw[length_take,length_append]; omega,by rw[length_take,length_drop,length_append]; omega⟩
 have hZ:Z.length+4=sp.length:=by
   have:=congrArg List.length hXY
   simp only[length_append] at this
   omega
 refine zE 8 rfl (p7 0 pG w rfl rfl (cs:=B) (by rw[<- e2]; exact IK.view (aW 0 w rfl)) (n1:=p0.length - p1.toNat) (m:=p0.length+1 - p1.toNat) (by rw[q3]; congr 1; omega) (by show (p1.toNat+1)*4+B.length<=(fl c p0 sp).length; rw[hfl]; omega) (A++(X0++(B++Z))) (by
 show eU (fl c p0 sp) ((p1.toNat+1)*4) B=_
 rw[q1,hXY,<- append_assoc A,<- append_assoc A]
 exact jP (A:=A++X0) (by rw[length_append,hX0,q2]; omega) hY) λK1=>⟨trivial, ?_⟩)
 refine zX (qk (f:=fq9 77 _ _ _ _ _ _ _ _ _ _) K1 rfl ?_)
 repeat refine vs ?_
 refine v0 (bU (nJ (m:=p0.length+1) i0 (by omega) jH rfl rfl) ?_)
 refine ve λw=>p7 0 pG w rfl rfl (IK.sl (ys:=map c [x]) (by simp) _) (by simp[hxl]; omega) (by simp only[map_cons,map_nil,flatten_cons,flatten_nil,List.append_nil,length_append,q2,hX0,hxl]; omega) (fl c (p0.take p1.toNat++x::p0.drop p1.toNat) Z) (by
 simp only[map_cons,map_nil,flatten_cons,flatten_nil,List.append_nil]
 rw[q4 x Z]
 exact jP q2 (by rw[hX0,hxl])) λK1=>qk K1 rfl ?_
 repeat refine vs ?_
 refine v0 (v0 ?_)
 subst ho
 have hol:(take p1.toNat p0++x::List.drop p1.toNat p0).length=p0.length+1:=by simp; omega
 refine vr λw=>dW.one (.inl rfl) (bQ w [0] rfl).2 (bD.of_eq (show AV.vw k _ cap=aw (some k) (p0.length+1) cap by rfl)) ⟨⟨some k,p0.length+1,cap,Z⟩,⟨hol.symm,nofun,by rw[hol]; show p0.length+1<=cap; omega,hmx,by rw[hol]; show (p0.length+1)*4+Z.length=cap*4; omega⟩,(bQ w [0] rfl).1,rfl,rfl⟩
theorem aB2:aP prog 187=true:=by kernel_rfl
theorem aHR {α:Type} {c:α->List AV} (hc:∀y,(c y).length=3) {p0 o:List α} {p1:Int} {x:α} (h:aF) {g:dE} (ok:bK g 3 p0.length) (K0:bP h [(g.t,.obj 99 (fl c p0 g.sp))]) (u:qR p0 p1 x=some o):
 aM prog 180 [aZ g,nZ p1,.sl none 3 (map c [x])] (hp h [(g.t,.obj 99 (fl c p0 g.sp))]) (λr h'=>∃g:dE,bK g 3 o.length/\bP h [(g.t,.obj 99 (fl c o g.sp))]/\r=aZ g/\h'=hp h [(g.t,.obj 99 (fl c o g.sp))]):=by
 obtain⟨i0,i1,i2,ho⟩:=mP u
 have hv1:((([x]:List α).length:Int)==0)=false:=rfl
 refine F1 K0 95 [.tmp 6] Tryz.func180 rfl rfl rfl rfl ?_
 repeat refine vs ?_
 refine v0 ?_
 repeat refine vs ?_
 refine v0 (bU (N5 i0 i1 ok iX rfl rfl) ?_)
 repeat refine vs ?_
 refine v0 (cU pT rfl ?_)
 repeat refine vs ?_
 refine v0 (v0 ?_)
 show VC _ _ _ Code.skip _ _ _ _
 refine v0 ?_
 repeat refine vs ?_
 refine v0 (bU (fK pT ok rfl) ?_)
 repeat refine vs ?_
 refine v0 (v0 ?_)
 by_cases hi:p1=(p0.length:Int)
 refine vt (by simpa using hi) ?_
 repeat refine vs ?_
 refine v0 ?_
 refine ve λw=>gG (c:=c) 0 (IM i2) pF rfl sV rfl hc rfl rfl ok w rfl λg' ok' hk'=>qk hk' rfl ?_
 refine v0 ?_
 have e:o=p0++ [x]:=by subst hi; rw[ho]; simp
 subst e
 exact vr λw=>dW.one (.inl rfl) (iJ.refl _) (bD.refl _ _) ⟨g',ok',w,rfl,rfl⟩
 refine vf (by simpa using hi) (v0 ?_)
 have hlt:p1.toNat < p0.length:=by omega
 obtain⟨gt,gn,cap,sp⟩:=g
 have hne:gt≠none:=λe=>by have:=ok.nil e; omega
 obtain⟨k,rfl⟩:∃k,gt=some k:=by cases gt with
 | none=>exact absurd rfl hne
 | some k=>exact⟨k,rfl⟩
 have hgn:gn=p0.length:=ok.eqn
 subst hgn
 have hle:p0.length<=cap:=ok.le
 have hmx:cap<=maxLen:=ok.mx
 have hlen:p0.length*3+sp.length=cap*3:=ok.len
 have hw:wrap .i64 ((p0.length:Int)+(([x]:List α).length:Int))=((p0.length+1:Nat):Int):=by
   rw[wrap_i64]; simp only[length_singleton]; omega
 have hw2:wrap .i64 (wrap .i64 ((p0.length:Int)+(([x]:List α).length:Int)) - p1)=((p0.length+1 - p1.toNat:Nat):Int):=by
   rw[hw,wrap_i64]; omega
 have hw3:wrap .i64 (p1+(([x]:List α).length:Int))=((p1.toNat+1:Nat):Int):=by
   rw[wrap_i64]; simp only[length_singleton]; omega
 obtain⟨q1,q2,q3,q4⟩:=BB hc (i:=p1.toNat) (by omega:p1.toNat<=p0.length) sp
 generalize hA:((p0.take p1.toNat).map c).flatten=A at q1 q2 q4
 generalize hB:((p0.drop p1.toNat).map c).flatten=B at q1 q3 q4
 repeat refine vs ?_
 refine v0 (bU (N3 u27 rfl) (v0 ?_))
 by_cases hcap:cap < p0.length+1
 refine vt (by rw[hw]; exact decide_eq_true (show (cap:Int) < ((p0.length+1:Nat):Int) by omega)) ?_
 repeat refine vs ?_
 refine v0 (bU (IL (cap:=cap) i0 (by omega) iX rfl rfl) ?_)
 refine ve λw=>N4 (cap:=cap) (cs:=fl c p0 sp) (i:=p1.toNat) (m:=p0.length+1 - p1.toNat) 0 pF u3 sV rfl (by decide) w rfl rfl (congrArg (λz=>AV.sc (.int .i64 z)) hw2) (by omega) (by rw[q1]; simp only[length_append]; omega) (by omega) λq cap' R h1 h2 h3 hk'=>qk hk' rfl ?_
 repeat refine vs ?_
 refine v0 (bU (nJ i0 (by omega) iX rfl rfl) ?_)
 have hn0:p1.toNat+(p0.length+1 - p1.toNat)=p0.length+1:=by omega
 have hn1:p1.toNat+(p0.length+1 - p1.toNat) - p1.toNat=p0.length+1 - p1.toNat:=by omega
 have e1:take (p1.toNat*3) (fl c p0 sp)=A:=by rw[q1,<- q2,take_left]
 have hxl:=hc x
 have hR:3+B.length<=R.length:=by omega
 have hfl:(fl c p0 sp).length=A.length+(B.length+sp.length):=by rw[q1]; simp
 obtain⟨R1,R2,R3,hR0,hR1,hR2⟩:∃R1 R2 R3:List AV,R=R1++(R2++R3)/\R1.length=(c x).length/\R2.length=B.length:=
 ⟨R.take 3,(R.drop 3).take B.length,(R.drop 3).drop B.length,by rw[take_append_drop,take_append_drop],by rw[length_take,hxl]; omega,by rw[length_take,length_drop]; omega⟩
 refine ve λw=>p7 0 pF w rfl rfl (IK.sl (ys:=map c [x]) (by simp) _) (by simp[hxl]; omega) (by rw[e1]; simp only[length_append]; simp[hxl,q2]; omega) (A++(c x++(R2++R3))) (by
 rw[e1,hR0]
 simp only[map_cons,map_nil,flatten_cons,flatten_nil,List.append_nil]
 exact jP q2 hR1) λhk'=>qk hk' rfl ?_
 repeat refine vs ?_
 refine v0 ?_
 have hv4:AV.view q ((wrap .i64 (p1+(([x]:List α).length:Int))).toNat*3) (p1.toNat+(p0.length+1 - p1.toNat) - (wrap .i64 (p1+(([x]:List α).length:Int))).toNat)= .view q ((p1.toNat+1)*3) (p0.length - p1.toNat):=by
   rw[hw3,toNat_natCast,show p1.toNat+(p0.length+1 - p1.toNat) - (p1.toNat+1)=p0.length - p1.toNat from by omega]
 refine vz [] mixed (λw=>trivial) λw=> ?_
 refine zC 0 rfl (fJ (.vw _ _ _) rfl) ?_
 refine zI 1 rfl rfl ?_
 refine zI 2 rfl rfl ?_
 refine zC 3 rfl (mU rfl rfl rfl trivial) ?_
 refine zC 4 rfl (iR (nJ (by rw[hw3]; omega) (by rw[hw3]; omega) iX rfl rfl) (bD.of_eq hv4)) ?_
 refine zC 5 rfl (fJ (.vw _ _ _) rfl) ?_
 refine zI 6 rfl rfl ?_
 refine zC 7 rfl (nJ (m:=p0.length) i0 (by omega) iX rfl rfl) ?_
 have e2:(List.drop (p1.toNat*3) (fl c p0 sp)).take ((p0.length - p1.toNat)*3)=B:=by
   rw[q1,<- q2,drop_left,<- q3,take_left]
 refine zE 8 rfl (p7 0 pF w rfl rfl (cs:=B) (by rw[<- e2]; exact IK.view (aW 1 w rfl)) (n1:=p0.length - p1.toNat) (m:=p0.length - p1.toNat) (by rw[q3,Nat.min_self]) (by simp only[length_append,hxl,q2,hR2]; omega) (fl c (p0.take p1.toNat++x::p0.drop p1.toNat) R3) (by
 rw[q4 x R3,<- append_assoc A,<- append_assoc A]
 exact jP (A:=A++c x) (by rw[length_append,hxl,q2]; omega) hR2) λK1=>⟨trivial, ?_⟩)
 refine zX (qk (f:=fq9 54 _ _ _ _ _ _ _ _ _ _) K1 rfl ?_)
 repeat refine vs ?_
 refine v0 (v0 ?_)
 subst ho
 have hol:(take p1.toNat p0++x::List.drop p1.toNat p0).length=p0.length+1:=by simp; omega
 refine vr λw=>dW.one (.inl rfl) (bQ K1 [0] rfl).2 (bD.of_eq (show AV.vw q _ cap'=aw (some q) (p0.length+1) cap' by rw[hn0]; rfl)) ⟨⟨some q,p0.length+1,cap',R3⟩,⟨hol.symm,nofun,by rw[hol]; show p0.length+1<=cap'; omega,h2,by rw[hol]; show (p0.length+1)*3+R3.length=cap'*3; simp only[hR0,length_append,hR1,hR2,hxl] at h3; omega⟩,(bQ K1 [0] rfl).1,rfl,rfl⟩
 refine vf (by rw[hw]; exact decide_eq_false (show ¬(cap:Int) < ((p0.length+1:Nat):Int) by omega)) (v0 ?_)
 repeat refine vs ?_
 refine v0 ?_
 have hv0:AV.vw k (wrap .i64 ((p0.length:Int)+(([x]:List α).length:Int))).toNat cap= .vw k (p0.length+1) cap:=by rw[hw,toNat_natCast]
 refine bU (iR (IL (cap:=cap) (by rw[hw]; omega) (by rw[hw]; omega) iX rfl rfl) (bD.of_eq hv0)) ?_
 repeat refine vs ?_
 refine v0 ?_
 have hv4:AV.view k ((wrap .i64 (p1+(([x]:List α).length:Int))).toNat*3) (p0.length+1 - (wrap .i64 (p1+(([x]:List α).length:Int))).toNat)= .view k ((p1.toNat+1)*3) (p0.length - p1.toNat):=by
   rw[hw3,toNat_natCast,show p0.length+1 - (p1.toNat+1)=p0.length - p1.toNat from by omega]
 refine bU (iR (nJ (m:=p0.length+1) (by rw[hw3]; omega) (by rw[hw3]; omega) iX rfl rfl) (bD.of_eq hv4)) ?_
 have hfl:(fl c p0 sp).length=p1.toNat*3+((p0.length - p1.toNat)*3+sp.length):=by rw[q1,length_append,length_append,q2,q3]
 refine ve λw=>tQ (sz:=3) (tS:=27) (tR:=4) Tryz.func188 (by kernel_rfl) (by kernel_rfl) (by kernel_rfl) (by kernel_rfl) pF (ys:=map c [x]) (by simp) (by decide) rfl rfl (aW 0 w rfl) (by rw[hfl]; omega) (qk w rfl ?_)
 refine v0 ?_
 repeat refine vs ?_
 refine v0 ?_
 refine vz [] mixed (λw=>trivial) λw=> ?_
 refine zC 0 rfl (fJ (.vw _ _ _) rfl) ?_
 refine zI 1 rfl rfl ?_
 refine zI 2 rfl rfl ?_
 refine zC 3 rfl (mU rfl rfl rfl trivial) ?_
 refine zC 4 rfl (iR (nJ (m:=p0.length+1) (by rw[hw3]; omega) (by rw[hw3]; omega) iX rfl rfl) (bD.of_eq hv4)) ?_
 refine zC 5 rfl (fJ (.vw _ _ _) rfl) ?_
 refine zI 6 rfl rfl ?_
 refine zC 7 rfl (nJ (m:=p0.length+1) i0 (by omega) iX rfl rfl) ?_
 have hxl:=hc x
 have e2:(List.drop (p1.toNat*3) (fl c p0 sp)).take ((p0.length - p1.toNat)*3)=B:=by
   rw[q1,<- q2,drop_left,<- q3,take_left]
 have hsp:3<=sp.length:=by omega
 obtain⟨X0,Y,Z,hXY,hX0,hY⟩:∃X0 Y Z:List AV,B++sp=X0++(Y++Z)/\X0.length=3/\Y.length=B.length:=
 ⟨(B++sp).take 3,((B++sp).drop 3).take B.length,((B++sp).drop 3).drop B.length,by rw[take_append_drop,take_append_drop],by rw[length_take,length_append]; omega,by rw[length_take,length_drop,length_append]; omega⟩
 have hZ:Z.length+3=sp.length:=by
   have:=congrArg List.length hXY
   simp only[length_append] at this
   omega
 refine zE 8 rfl (p7 0 pF w rfl rfl (cs:=B) (by rw[<- e2]; exact IK.view (aW 0 w rfl)) (n1:=p0.length - p1.toNat) (m:=p0.length+1 - p1.toNat) (by rw[q3]; congr 1; omega) (by show (p1.toNat+1)*3+B.length<=(fl c p0 sp).length; rw[hfl]; omega) (A++(X0++(B++Z))) (by
 show eU (fl c p0 sp) ((p1.toNat+1)*3) B=_
 rw[q1,hXY,<- append_assoc A,<- append_assoc A]
 exact jP (A:=A++X0) (by rw[length_append,hX0,q2]; omega) hY) λK1=>⟨trivial, ?_⟩)
 refine zX (qk (f:=fq9 77 _ _ _ _ _ _ _ _ _ _) K1 rfl ?_)
 repeat refine vs ?_
 refine v0 (bU (nJ (m:=p0.length+1) i0 (by omega) iX rfl rfl) ?_)
 refine ve λw=>p7 0 pF w rfl rfl (IK.sl (ys:=map c [x]) (by simp) _) (by simp[hxl]; omega) (by simp only[map_cons,map_nil,flatten_cons,flatten_nil,List.append_nil,length_append,q2,hX0,hxl]; omega) (fl c (p0.take p1.toNat++x::p0.drop p1.toNat) Z) (by
 simp only[map_cons,map_nil,flatten_cons,flatten_nil,List.append_nil]
 rw[q4 x Z]
 exact jP q2 (by rw[hX0,hxl])) λK1=>qk K1 rfl ?_
 repeat refine vs ?_
 refine v0 (v0 ?_)
 subst ho
 have hol:(take p1.toNat p0++x::List.drop p1.toNat p0).length=p0.length+1:=by simp; omega
 refine vr λw=>dW.one (.inl rfl) (bQ w [0] rfl).2 (bD.of_eq (show AV.vw k _ cap=aw (some k) (p0.length+1) cap by rfl)) ⟨⟨some k,p0.length+1,cap,Z⟩,⟨hol.symm,nofun,by rw[hol]; show p0.length+1<=cap; omega,hmx,by rw[hol]; show (p0.length+1)*3+Z.length=cap*3; omega⟩,(bQ w [0] rfl).1,rfl,rfl⟩
theorem aB3:aP prog 180=true:=by kernel_rfl
def qA (m:Nat) (p0:List aS) (p1:aS) (q0:Int):Option (Lp (Int) ((List aS))):=
 after (if decide (0 < q0) then ((ix p0 (wrap .i64 (q0 - 1))).bind λx0=>if decide (p1.Vol < x0.Vol) then Bk true else (ix p0 (wrap .i64 (q0 - 1))).bind λx1=>if (x1.Vol==p1.Vol)then ((ix p0 (wrap .i64 (q0 - 1))).bind λx2=>if decide (p1.File < x2.File) then Bk true else (ix p0 (wrap .i64 (q0 - 1))).bind λx3=>if (x3.File==p1.File)then ((ix p0 (wrap .i64 (q0 - 1))).bind λx4=>Bk (decide (p1.Off < x4.Off))) else Bk false) else Bk false) else Bk false:Option (Lp (Bool) (Lp (Int) ((List aS))))) λj0=>if j0 then (Gk (wrap .i64 (q0 - 1))) else Bk q0
def wA (m:Nat) (p0:List aS) (p1:aS):Option ((List aS)):=
 after (aR (λs=>qA m p0 p1 s) m (p0.length:Int)) λr0=>(qR p0 r0 (p1:aS)).bind λy0=>some y0
theorem OB {w:Nat} {p0:List aS} {p1:aS} {o:(List aS)} (h:aF) {g_p0:dE} (ok_p0:bK g_p0 4 p0.length) (K0:bP h [kG g_p0 p0]) (m:wA w p0 p1=some o):
 aM prog 176 [aZ g_p0,.agg (aN p1)] (hp h [kG g_p0 p0]) (λr h'=>∃g:dE,bK g 4 o.length/\bP h [(g.t,.obj 81 (fl aN o g.sp))]/\r=aZ g/\h'=hp h [(g.t,.obj 81 (fl aN o g.sp))]):=by
 refine F1 K0 72 [.tmp 4] Tryz.func176 rfl rfl rfl rfl ?_
 unfold wA at m
 refine vs (v0 (gZ rfl rfl λk2 K3=>vs (v0 (bU (fK kB ok_p0 rfl) (vs (jS m (σ:=Int) (λs=>[(some k2,.obj 81 (aN p1)),kG g_p0 p0]) (λs=>.c 0 (aZ g_p0) (.c 3 (.ptr k2 0) (.c 5 (nZ s) .nil))) (lx (.k3 .nil)) ?_ ?_))))))
 rintro _ q0 x m
 replace m:qA w p0 p1 q0=some x:=m
 unfold qA at m
 refine vs (vs (fO m (σ:=Bool) (λs=>[(some k2,.obj 81 (aN p1)),kG g_p0 p0]) (λs=>.c 0 (aZ g_p0) (.c 3 (.ptr k2 0) (.c 5 (nZ q0) (.c 64 (.sc (.bool s)) .nil)))) (λx m=> ?_) ?_))
 refine v0 (CL (by kernel_rfl) ?_)
 apply vi m<;>intro b0 m
 rw[b0]
 obtain⟨x0,X0,m⟩:=aD m
 refine bU (dG X0 jH ok_p0 rfl rfl) (bU (cX (bK.ne ok_p0 X0) CJ rfl rfl) (vn (λu=>eK (fo:=0) (nZ x0.Vol) X0 fL ok_p0 cB rfl (aO 1 u rfl) (λ_=>rfl)) (dY CJ rfl rfl (vl 0 _ cB rfl rfl rfl ?_))))
 apply vi m<;>intro b1 m
 rw[b1]
 exact fZ m
 rw[b1]
 obtain⟨x1,X1,m⟩:=aD m
 refine bU (dG X1 jH ok_p0 rfl rfl) (bU (cX (bK.ne ok_p0 X1) CJ rfl rfl) (vn (λu=>eK (fo:=0) (nZ x1.Vol) X1 fL ok_p0 cB rfl (aO 1 u rfl) (λ_=>rfl)) (dY CJ rfl rfl (vl 0 _ cB rfl rfl rfl ?_))))
 apply vi m<;>intro b2 m
 rw[b2]
 obtain⟨x2,X2,m⟩:=aD m
 refine bU (dG X2 jH ok_p0 rfl rfl) (bU (cX (bK.ne ok_p0 X2) CK rfl rfl) (vn (λu=>eK (fo:=1) (nZ x2.File) X2 fL ok_p0 cB rfl (aO 1 u rfl) (λ_=>rfl)) (dY CK rfl rfl (vl 0 _ cB rfl rfl rfl ?_))))
 apply vi m<;>intro b3 m
 rw[b3]
 exact fZ m
 rw[b3]
 obtain⟨x3,X3,m⟩:=aD m
 refine bU (dG X3 jH ok_p0 rfl rfl) (bU (cX (bK.ne ok_p0 X3) CK rfl rfl) (vn (λu=>eK (fo:=1) (nZ x3.File) X3 fL ok_p0 cB rfl (aO 1 u rfl) (λ_=>rfl)) (dY CK rfl rfl (vl 0 _ cB rfl rfl rfl ?_))))
 apply vi m<;>intro b4 m
 rw[b4]
 obtain⟨x4,X4,m⟩:=aD m
 exact bU (dG X4 jH ok_p0 rfl rfl) (bU (cX (bK.ne ok_p0 X4) M0 rfl rfl) (vn (λu=>eK (fo:=2) (nZ x4.Off) X4 fL ok_p0 cB rfl (aO 1 u rfl) (λ_=>rfl)) (dY M0 rfl rfl (vl 0 _ cB rfl rfl rfl (fZ m)))))
 rw[b4]
 exact fZ m
 rw[b2]
 exact fZ m
 rw[b0]
 exact fZ m
 rintro _ j0 m
 refine v0 ?_
 apply vi m<;>intro c0 m
 exact v0 (v0 (v0 (hH m)))
 exact v0 (GT m)
 rintro _ r0 m
 refine vs (v0 (vl 0 (.agg (aN p1)) nD rfl rfl rfl (bU (dX (map aN ([p1]:List aS)) pG rfl rfl rfl rfl) ?_)))
 obtain⟨y0,Y0,m⟩:=aD m
 refine ve λu=> ?_
 have ho0:=EX (A:=[kG g_p0 p0]) (R:=[(some k2,.obj 81 (aN p1))]) u [[_],[_]] rfl [1] [0] rfl rfl rfl
 refine fP ho0.1 (dO (aHQ fL _ ok_p0 ho0.2.2 Y0) rfl aB2 rfl ?_)
 rintro x h' ⟨ag0,O0,K1,rfl,rfl⟩
 have K2:=EY (L':=[(some k2,.obj 81 (aN p1)),kG ag0 y0]) ho0.2.1 K1 [[_]] [[_]] rfl rfl [1,0] rfl rfl
 refine qk K2.2 K2.1 (v0 ?_)
 obtain rfl:=eR m
 exact vr λu=>dW.one (.inl rfl) (aU (h0:=h) (L':=[kG ag0 y0]) (.cons _ (.refl _)) u).1 (bD.refl _ _) ⟨ag0,O0,(aU (h0:=h) (L':=[kG ag0 y0]) (.cons _ (.refl _)) u).2,rfl,rfl⟩
theorem OD:aP prog 176=true:=by kernel_rfl
def HE (m:Nat) (p0:aA) (p1:aE) (p2:aS):Option (Int×Int×A5):=
 after (if (p1.Kind==1)then ((yG m p0.Chunks p1.Id).bind λy0=>if (!y0.2)then (Rk (8,p0.Seq,p0.Snaps,p0.Chunks,p0.Exps)) else (ix p0.Chunks y0.1).bind λx2=>(wA m x2.Locs p2).bind λy1=>(ix p0.Chunks y0.1).bind λx3=>Bk (p0.Seq,p0.Snaps,p0.Chunks.set y0.1.toNat ({ x3 with Locs:=y1}),p0.Exps)) else after (if (p1.Kind==2)then ((p8 m p0.Snaps (λx0=>N9 m x0 p1)).bind λy2=>if decide (y2 < 0) then (Rk (.ret (8,p0.Seq,p0.Snaps,p0.Chunks,p0.Exps))) else (ix p0.Snaps y2).bind λx4=>(wA m x4.Locs p2).bind λy3=>(ix p0.Snaps y2).bind λx5=>Bk (p0.Seq,p0.Snaps.set y2.toNat ({ x5 with Locs:=y3}),p0.Exps)) else after (if (p1.Kind==3)then ((OA m p0.Exps p1.Seq (λx0 x1=>CV m x0 x1)).bind λy4=>after (if (!y4.2)then ((qR p0.Exps y4.1 (({ Seq:=p1.Seq,Of:=p1.Of,Locs:=[]}:aT):aT)).bind λy5=>Bk ((max p0.Seq (wrap .i64 (p1.Seq+1))),y5)) else Bk (p0.Seq,p0.Exps):Option (Lp (Int×(List aT)) (Lp (Int×(List aT)) (Lp (Int×(List aH)×(List aT)) (Lp (Int×A5) (Int×Int×A5)))))) λ⟨j0,j1⟩=>(ix j1 y4.1).bind λx6=>(wA m x6.Locs p2).bind λy6=>(ix j1 y4.1).bind λx7=>Bk (j0,j1.set y4.1.toNat ({ x7 with Locs:=y6}))) else Bk (p0.Seq,p0.Exps):Option (Lp (Int×(List aT)) (Lp (Int×(List aH)×(List aT)) (Lp (Int×A5) (Int×Int×A5))))) λ⟨j2,j3⟩=>Bk (j2,p0.Snaps,j3):Option (Lp (Int×(List aH)×(List aT)) (Lp (Int×A5) (Int×Int×A5)))) λ⟨j4,j5,j6⟩=>Bk (j4,j5,p0.Chunks,j6):Option (Lp (Int×A5) (Int×Int×A5))) λ⟨j7,j8,j9,j10⟩=>some (0,j7,j8,j9,j10)
theorem aHS {w:Nat} {p0:aA} {p1:aE} {p2:aS} {o:Int×Int×A5} (h:aF) {p0K:bT} {gS:dI} (ok_Snaps:nI aH.Locs 4 4 gS (p0.Snaps:List aH)) {gC:dI} (oC:nI aB.Locs 35 4 gC (p0.Chunks:List aB)) {gE:dI} (oE:nI aT.Locs 3 4 gE (p0.Exps:List aT)) {gV:dE} (oV:bK gV 4 p0.Vols.length) (K0:bP h ([OC p0K p0.Seq gS.a gC.a gE.a gV,bL gS p0.Snaps,aY gC p0.Chunks,bR gE p0.Exps,a8 gV p0.Vols]++((bO gS p0.Snaps)++((bB gC p0.Chunks)++(bS gE p0.Exps))))) (m:HE w p0 p1 p2=some o):
 aM prog 123 [.ptr p0K 0,.agg (aI p1),.agg (aN p2)] (hp h ([OC p0K p0.Seq gS.a gC.a gE.a gV,bL gS p0.Snaps,aY gC p0.Chunks,bR gE p0.Exps,a8 gV p0.Vols]++((bO gS p0.Snaps)++((bB gC p0.Chunks)++(bS gE p0.Exps))))) (λr h'=>∃g_Snaps':dI,nI aH.Locs 4 4 g_Snaps' (o.2.2.1:List aH)/\∃g_Chunks':dI,nI aB.Locs 35 4 g_Chunks' (o.2.2.2.1:List aB)/\∃g_Exps':dI,nI aT.Locs 3 4 g_Exps' (o.2.2.2.2:List aT)/\bP h ([OC p0K o.2.1 g_Snaps'.a g_Chunks'.a g_Exps'.a gV,bL g_Snaps' o.2.2.1,aY g_Chunks' o.2.2.2.1,bR g_Exps' o.2.2.2.2,a8 gV p0.Vols]++((bO g_Snaps' o.2.2.1)++((bB g_Chunks' o.2.2.2.1)++(bS g_Exps' o.2.2.2.2))))/\r=nZ o.1/\h'=hp h ([OC p0K o.2.1 g_Snaps'.a g_Chunks'.a g_Exps'.a gV,bL g_Snaps' o.2.2.1,aY g_Chunks' o.2.2.2.1,bR g_Exps' o.2.2.2.2,a8 gV p0.Vols]++((bO g_Snaps' o.2.2.1)++((bB g_Chunks' o.2.2.2.1)++(bS g_Exps' o.2.2.2.2))))):=by
 refine F1 K0 129 [.tmp 6] Tryz.func123 rfl rfl rfl rfl ?_
 unfold HE at m
 refine vs (v0 (gZ rfl rfl λk2 K3=>gZ rfl rfl λk5 K6=>vs (vs (v0 (dY mY rfl rfl (vl 1 _ cB rfl rfl rfl (v0 (vs (v0 (oI m (σ:=Int×A5) (τ:=dI×dI×dI) (λg s=>([(some k5,.obj 81 (aN p2)),(some k2,.obj 38 (aI p1)),OC p0K s.1 g.1.a g.2.1.a g.2.2.a gV,bL g.1 s.2.1,aY g.2.1 s.2.2.1,bR g.2.2 s.2.2.2,a8 gV p0.Vols]++((bO g.1 s.2.1)++((bB g.2.1 s.2.2.1)++(bS g.2.2 s.2.2.2))))) (λg s=>nI aH.Locs 4 4 g.1 (s.2.1:List aH)/\nI aB.Locs 35 4 g.2.1 (s.2.2.1:List aB)/\nI aT.Locs 3 4 g.2.2 (s.2.2.2:List aT)) (λg s=>.nil) (λx m=> ?_) ?_))))))))))
 refine v0 ?_
 apply vi m<;>intro c0 m
 refine vs (v0 (CL (by kernel_rfl) (l4 rfl (dY fF rfl rfl (vl 2 (aZ gC.a) fE rfl rfl rfl (dY xU rfl rfl (vl 1 (.agg (bC p1.Id)) fA rfl rfl rfl ?_)))))))
 obtain⟨y0,Y0,m⟩:=aD m
 refine vn (λu=>bV (fN (.cons (Br.awN 4 cZ fL E8 oC.k u rfl (WO [[_],[_],[_],[_],[_],[_],[_],_,_,_] rfl 8 rfl)) (.cons (Br.refl _ _) .nil)) rfl (VU _ Y0)) rfl NE rfl) (vs (vs (v0 (v0 ?_))))
 apply vi m<;>intro c1 m
 refine vs (v0 (v0 (fY m λm=> ?_)))
 cases m
 exact vr λu=>dW.of1 (.inl rfl) (gQ _ _ (.sc (.int _ _)) rfl) (tP (L':=([OC p0K p0.Seq gS.a gC.a gE.a gV,bL gS p0.Snaps,aY gC p0.Chunks,bR gE p0.Exps,a8 gV p0.Vols]++((bO gS p0.Snaps)++((bB gC p0.Chunks)++(bS gE p0.Exps))))) u [[_],[_],[_],[_],[_],[_],[_],_,_,_] rfl [2,3,4,5,6,7,8,9] rfl rfl).2 (bD.refl _ _) ⟨gS,ok_Snaps,gC,oC,gE,oE,(tP (L':=([OC p0K p0.Seq gS.a gC.a gE.a gV,bL gS p0.Snaps,aY gC p0.Chunks,bR gE p0.Exps,a8 gV p0.Vols]++((bO gS p0.Snaps)++((bB gC p0.Chunks)++(bS gE p0.Exps))))) u [[_],[_],[_],[_],[_],[_],[_],_,_,_] rfl [2,3,4,5,6,7,8,9] rfl rfl).1,rfl,rfl⟩
 refine v0 (v0 (vz [(1000000,some p0K,.obj 30 ([nZ p0.Seq,aZ gS.a,aZ gC.a,aZ gE.a,aZ gV])),(17,gC.a.t,.obj 44 (fl kW (zg (p0.Chunks:List aB) gC.gs) gC.a.sp)),(1000000,some k5,.obj 81 (aN p2))] mixed (λu=>⟨λ_=>aO 2 u rfl,λ_=>aO 4 u rfl,λ_=>aO 0 u rfl,trivial⟩) λu=>zP 0 rfl rfl (zN 1 rfl rfl (zF 2 rfl fF rfl (zL 3 0 (aZ gC.a) rfl fE rfl rfl rfl (zI 4 rfl rfl (zP 5 rfl rfl (zN 6 rfl rfl (zF 7 rfl fF rfl (zL 8 0 (aZ gC.a) rfl fE rfl rfl rfl (zI 9 rfl rfl ?_)))))))))))
 obtain⟨x1,X0,m⟩:=aD m
 refine zC 10 rfl (dG (oC.k.ix X0) hX oC.k.z rfl rfl) (zC 11 rfl (cX (bK.ne oC.k.z (oC.k.ix X0)) jW rfl rfl) ?_)
 obtain⟨gv0,hg0,ga0,gn0⟩:=oC.gx X0
 refine z5 12 rfl (λ_ _ hi hB=>iR (eK (fo:=34) (awO aN 4 (gx gC.gs y0.1.toNat) x1.Locs) (oC.k.ix X0) kL oC.k.z fW rfl (fV.get 1 hi rfl (hB 17 (by kernel_rfl))) (λ_=>rfl)) (bD.of_eq (congrArg (λz=>awO aN 4 z x1.Locs) hg0))) (zL 13 2 (.agg (aN p2)) rfl nD rfl rfl rfl ?_)
 obtain⟨y1,Y1,m⟩:=aD m
 refine zE 14 rfl ?_
 have ho0:=CS (R:=([(some k5,.obj 81 (aN p2)),(some k2,.obj 38 (aI p1)),OC p0K p0.Seq gS.a gC.a gE.a gV,bL gS p0.Snaps,aY gC p0.Chunks,bR gE p0.Exps,a8 gV p0.Vols]++((bO gS p0.Snaps)++((lO 81 aN ((nl aB.Locs (zg (p0.Chunks:List aB) gC.gs)).eraseIdx y0.1.toNat))++(bS gE p0.Exps))))) u [[_],[_],[_],[_],[_],[_],[_],_,_,_] rfl 8 rfl gn0 rfl
 have ho1:=dK [(eC gv0 x1.Locs)] _ ho0.2
 refine fP (ho0.1.trans (dP h [(eC gv0 x1.Locs)] _).symm) (dO (OB _ ga0 ho1.2 Y1) rfl OD rfl ?_)
 rintro x h' ⟨ag0,O0,K1,rfl,rfl⟩
 refine qO (dP h [kG ag0 y1] _) (⟨⟨λ_=>aO 3 (eA ho1.1 K1) rfl,λ_=>aO 5 (eA ho1.1 K1) rfl,λ_=>aO 1 (eA ho1.1 K1) rfl,trivial⟩, ?_⟩)
 obtain⟨x2,X1,m⟩:=aD m
 refine zC 15 rfl (dG (oC.k.ix X1) hX oC.k.z rfl rfl) (zC 16 rfl (cX (bK.ne oC.k.z (oC.k.ix X1)) jW rfl rfl) (zE 17 rfl (cY (fo:=34) (x':=(({ x2 with Locs:=y1}:aB),some ag0)) 5 (eA ho1.1 K1) (oC.k.ix X1) kL oC.k.z rfl rfl (cM rfl) (cG (cC _ _ _) rfl) (cS.refl _ _) pU rfl rfl ?_)))
 intro K2
 have O1:=oC.setL (x':=({ x2 with Locs:=y1}:aB)) X1 ag0 O0
 have hr0:=BA (L':=(eC ag0 y1)::(([(some k5,.obj 81 (aN p2)),(some k2,.obj 38 (aI p1)),OC p0K p0.Seq gS.a gC.a gE.a gV,bL gS p0.Snaps,(gC.a.t,.obj 44 (fl kW (((zg (p0.Chunks:List aB) gC.gs)).set y0.1.toNat (({ x2 with Locs:=y1}:aB),some ag0)) gC.a.sp)),bR gE p0.Exps,a8 gV p0.Vols]:HL)++((bO gS p0.Snaps)++((lO 81 aN ((nl aB.Locs (zg (p0.Chunks:List aB) gC.gs)).eraseIdx y0.1.toNat))++(bS gE p0.Exps))))) K2 [[_],[_],[_],[_],[_],[_],[_],[_],_,_,_] rfl [0,1,2,3,4,5,6,7,8,9,10] rfl rfl
 have hj0:=vR (L':=([(some k5,.obj 81 (aN p2)),(some k2,.obj 38 (aI p1)),OC p0K p0.Seq gS.a ((⟨gC.a,gC.gs.set y0.1.toNat (some ag0)⟩:dI).a) gE.a gV,bL gS p0.Snaps,aY (⟨gC.a,gC.gs.set y0.1.toNat (some ag0)⟩:dI) (p0.Chunks.set y0.1.toNat ({ x2 with Locs:=y1})),bR gE p0.Exps,a8 gV p0.Vols]++((bO gS p0.Snaps)++((bB (⟨gC.a,gC.gs.set y0.1.toNat (some ag0)⟩:dI) (p0.Chunks.set y0.1.toNat ({ x2 with Locs:=y1})))++(bS gE p0.Exps))))) [[_],[_],[_],[_],[_],[_],[_],_,_,_] rfl 8 (zs:=nl aB.Locs (zg (p0.Chunks:List aB) gC.gs)) (j:=y0.1.toNat) (aB.Locs ({ x2 with Locs:=y1}:aB),some ag0) (mO (oC.k.nlat X1)) rfl hr0.2 (by rw[<- (oC.k.setL (x':=({ x2 with Locs:=y1}:aB)) X1 ag0 O0).2.2,(oC.k.setL (x':=({ x2 with Locs:=y1}:aB)) X1 ag0 O0).2.1]; rfl)
 refine qO (hr0.1.trans hj0.1) (⟨⟨λ_=>aO 2 hj0.2 rfl,λe=>absurd e (by decide),λ_=>aO 0 hj0.2 rfl,trivial⟩, ?_⟩)
 exact zX (qk (f:=GQ 44 _ _ _ _ _ _ _ _ _ _ _ _ _ _ _ _ _ _) hj0.2 rfl (eG m (gS,(⟨gC.a,gC.gs.set y0.1.toNat (some ag0)⟩:dI),gE) ⟨ok_Snaps,O1,oE⟩ (lx .nil)))
 refine vs (v0 (oI m (σ:=Int×(List aH)×(List aT)) (τ:=dI×dI) (λg s=>([(some k5,.obj 81 (aN p2)),(some k2,.obj 38 (aI p1)),OC p0K s.1 g.1.a gC.a g.2.a gV,bL g.1 s.2.1,aY gC p0.Chunks,bR g.2 s.2.2,a8 gV p0.Vols]++((bO g.1 s.2.1)++((bB gC p0.Chunks)++(bS g.2 s.2.2))))) (λg s=>nI aH.Locs 4 4 g.1 (s.2.1:List aH)/\nI aT.Locs 3 4 g.2 (s.2.2:List aT)) (λg s=>.nil) (λx m=> ?_) ?_))
 refine v0 ?_
 apply vi m<;>intro c2 m
 refine vs (v0 (l4 rfl (dY eM rfl rfl (vl 2 (aZ gS.a) fD rfl rfl rfl ?_))))
 obtain⟨y2,Y2,m⟩:=aD m
 refine ve λu=> ?_
 have ho2:=EX (A:=[bL gS p0.Snaps]) (R:=([(some k5,.obj 81 (aN p2)),(some k2,.obj 38 (aI p1)),OC p0K p0.Seq gS.a gC.a gE.a gV,aY gC p0.Chunks,bR gE p0.Exps,a8 gV p0.Vols]++((bO gS p0.Snaps)++((bB gC p0.Chunks)++(bS gE p0.Exps))))) u [[_],[_],[_],[_],[_],[_],[_],_,_,_] rfl [3] [0,1,2,4,5,6,7,8,9] rfl rfl rfl
 refine fP ho2.1 (dO (aBV m5 _ ok_Snaps.k.z ho2.2.2 aBW (λx0 o h0 hs ho=>aBX (p0:=x0.1) (og0:=x0.2) h0 (hs _ _ (aW 1 ho2.2.1 rfl)) ho) (N8 ok_Snaps.k.len Y2)) rfl ND rfl ?_)
 rintro x h' ⟨rfl,rfl⟩
 refine qk u ho2.1.symm (vs (vs (v0 (v0 ?_))))
 apply vi m<;>intro c3 m
 refine vs (v0 (v0 (fY m λm=>fY m λm=> ?_)))
 cases m
 exact vr λu=>dW.of1 (.inl rfl) (gQ _ _ (.sc (.int _ _)) rfl) (tP (L':=([OC p0K p0.Seq gS.a gC.a gE.a gV,bL gS p0.Snaps,aY gC p0.Chunks,bR gE p0.Exps,a8 gV p0.Vols]++((bO gS p0.Snaps)++((bB gC p0.Chunks)++(bS gE p0.Exps))))) u [[_],[_],[_],[_],[_],[_],[_],_,_,_] rfl [2,3,4,5,6,7,8,9] rfl rfl).2 (bD.refl _ _) ⟨gS,ok_Snaps,gC,oC,gE,oE,(tP (L':=([OC p0K p0.Seq gS.a gC.a gE.a gV,bL gS p0.Snaps,aY gC p0.Chunks,bR gE p0.Exps,a8 gV p0.Vols]++((bO gS p0.Snaps)++((bB gC p0.Chunks)++(bS gE p0.Exps))))) u [[_],[_],[_],[_],[_],[_],[_],_,_,_] rfl [2,3,4,5,6,7,8,9] rfl rfl).1,rfl,rfl⟩
 refine v0 (v0 (vz [(1000000,some p0K,.obj 30 ([nZ p0.Seq,aZ gS.a,aZ gC.a,aZ gE.a,aZ gV])),(17,gS.a.t,.obj 60 (fl mG (zg (p0.Snaps:List aH) gS.gs) gS.a.sp)),(1000000,some k5,.obj 81 (aN p2))] mixed (λu=>⟨λ_=>aO 2 u rfl,λ_=>aO 3 u rfl,λ_=>aO 0 u rfl,trivial⟩) λu=>zP 0 rfl rfl (zN 1 rfl rfl (zF 2 rfl eM rfl (zL 3 0 (aZ gS.a) rfl fD rfl rfl rfl (zI 4 rfl rfl (zP 5 rfl rfl (zN 6 rfl rfl (zF 7 rfl eM rfl (zL 8 0 (aZ gS.a) rfl fD rfl rfl rfl (zI 9 rfl rfl ?_)))))))))))
 obtain⟨x3,X2,m⟩:=aD m
 refine zC 10 rfl (dG (ok_Snaps.k.ix X2) iW ok_Snaps.k.z rfl rfl) (zC 11 rfl (cX (bK.ne ok_Snaps.k.z (ok_Snaps.k.ix X2)) lJ rfl rfl) ?_)
 obtain⟨gv1,hg1,ga1,gn1⟩:=ok_Snaps.gx X2
 refine z5 12 rfl (λ_ _ hi hB=>iR (eK (fo:=3) (awO aN 4 (gx gS.gs y2.toNat) x3.Locs) (ok_Snaps.k.ix X2) m5 ok_Snaps.k.z fW rfl (fV.get 1 hi rfl (hB 17 (by kernel_rfl))) (λ_=>rfl)) (bD.of_eq (congrArg (λz=>awO aN 4 z x3.Locs) hg1))) (zL 13 2 (.agg (aN p2)) rfl nD rfl rfl rfl ?_)
 obtain⟨y3,Y3,m⟩:=aD m
 refine zE 14 rfl ?_
 have ho3:=CS (R:=([(some k5,.obj 81 (aN p2)),(some k2,.obj 38 (aI p1)),OC p0K p0.Seq gS.a gC.a gE.a gV,bL gS p0.Snaps,aY gC p0.Chunks,bR gE p0.Exps,a8 gV p0.Vols]++((lO 81 aN ((nl aH.Locs (zg (p0.Snaps:List aH) gS.gs)).eraseIdx y2.toNat))++((bB gC p0.Chunks)++(bS gE p0.Exps))))) u [[_],[_],[_],[_],[_],[_],[_],_,_,_] rfl 7 rfl gn1 rfl
 have ho4:=dK [(eC gv1 x3.Locs)] _ ho3.2
 refine fP (ho3.1.trans (dP h [(eC gv1 x3.Locs)] _).symm) (dO (OB _ ga1 ho4.2 Y3) rfl OD rfl ?_)
 rintro x h' ⟨ag1,O2,K4,rfl,rfl⟩
 refine qO (dP h [kG ag1 y3] _) (⟨⟨λ_=>aO 3 (eA ho4.1 K4) rfl,λ_=>aO 4 (eA ho4.1 K4) rfl,λ_=>aO 1 (eA ho4.1 K4) rfl,trivial⟩, ?_⟩)
 obtain⟨x4,X3,m⟩:=aD m
 refine zC 15 rfl (dG (ok_Snaps.k.ix X3) iW ok_Snaps.k.z rfl rfl) (zC 16 rfl (cX (bK.ne ok_Snaps.k.z (ok_Snaps.k.ix X3)) lJ rfl rfl) (zE 17 rfl (cY (fo:=3) (x':=(({ x4 with Locs:=y3}:aH),some ag1)) 4 (eA ho4.1 K4) (ok_Snaps.k.ix X3) m5 ok_Snaps.k.z rfl rfl (cM rfl) (cG (cC _ _ _) rfl) (cS.refl _ _) pU rfl rfl ?_)))
 intro K5
 have O3:=ok_Snaps.setL (x':=({ x4 with Locs:=y3}:aH)) X3 ag1 O2
 have hr1:=BA (L':=(eC ag1 y3)::(([(some k5,.obj 81 (aN p2)),(some k2,.obj 38 (aI p1)),OC p0K p0.Seq gS.a gC.a gE.a gV,(gS.a.t,.obj 60 (fl mG (((zg (p0.Snaps:List aH) gS.gs)).set y2.toNat (({ x4 with Locs:=y3}:aH),some ag1)) gS.a.sp)),aY gC p0.Chunks,bR gE p0.Exps,a8 gV p0.Vols]:HL)++((lO 81 aN ((nl aH.Locs (zg (p0.Snaps:List aH) gS.gs)).eraseIdx y2.toNat))++((bB gC p0.Chunks)++(bS gE p0.Exps))))) K5 [[_],[_],[_],[_],[_],[_],[_],[_],_,_,_] rfl [0,1,2,3,4,5,6,7,8,9,10] rfl rfl
 have hj1:=vR (L':=([(some k5,.obj 81 (aN p2)),(some k2,.obj 38 (aI p1)),OC p0K p0.Seq ((⟨gS.a,gS.gs.set y2.toNat (some ag1)⟩:dI).a) gC.a gE.a gV,bL (⟨gS.a,gS.gs.set y2.toNat (some ag1)⟩:dI) (p0.Snaps.set y2.toNat ({ x4 with Locs:=y3})),aY gC p0.Chunks,bR gE p0.Exps,a8 gV p0.Vols]++((bO (⟨gS.a,gS.gs.set y2.toNat (some ag1)⟩:dI) (p0.Snaps.set y2.toNat ({ x4 with Locs:=y3})))++((bB gC p0.Chunks)++(bS gE p0.Exps))))) [[_],[_],[_],[_],[_],[_],[_],_,_,_] rfl 7 (zs:=nl aH.Locs (zg (p0.Snaps:List aH) gS.gs)) (j:=y2.toNat) (aH.Locs ({ x4 with Locs:=y3}:aH),some ag1) (mO (ok_Snaps.k.nlat X3)) rfl hr1.2 (by rw[<- (ok_Snaps.k.setL (x':=({ x4 with Locs:=y3}:aH)) X3 ag1 O2).2.2,(ok_Snaps.k.setL (x':=({ x4 with Locs:=y3}:aH)) X3 ag1 O2).2.1]; rfl)
 refine qO (hr1.1.trans hj1.1) (⟨⟨λ_=>aO 2 hj1.2 rfl,λe=>absurd e (by decide),λ_=>aO 0 hj1.2 rfl,trivial⟩, ?_⟩)
 exact zX (qk (f:=GQ 71 _ _ _ _ _ _ _ _ _ _ _ _ _ _ _ _ _ _) hj1.2 rfl (eG m ((⟨gS.a,gS.gs.set y2.toNat (some ag1)⟩:dI),gE) ⟨O3,oE⟩ (lx .nil)))
 refine vs (v0 (oI m (σ:=Int×(List aT)) (τ:=dI) (λg s=>([(some k5,.obj 81 (aN p2)),(some k2,.obj 38 (aI p1)),OC p0K s.1 gS.a gC.a g.a gV,bL gS p0.Snaps,aY gC p0.Chunks,bR g s.2,a8 gV p0.Vols]++((bO gS p0.Snaps)++((bB gC p0.Chunks)++(bS g s.2))))) (λg s=>nI aT.Locs 3 4 g (s.2:List aT)) (λg s=>.nil) (λx m=> ?_) ?_))
 refine v0 ?_
 apply vi m<;>intro c4 m
 refine vs (v0 (CL (by kernel_rfl) (l4 rfl (dY eY rfl rfl (vl 2 (aZ gE.a) iL rfl rfl rfl (dY lX rfl rfl (vl 1 _ cB rfl rfl rfl ?_)))))))
 obtain⟨y4,Y4,m⟩:=aD m
 refine vn (λu=>bV (fN (.cons (Br.awN 5 gH fL WR oE.k u rfl (WO [[_],[_],[_],[_],[_],[_],[_],_,_,_] rfl 9 rfl)) (.cons (Br.refl _ _) (.cons (Br.refl _ _) .nil))) rfl (aHO _ aBY (λx0 _ o h0 hs ho=>aHN _ ho) Y4)) rfl aBZ rfl) (vs (vs (v0 (oI m (σ:=Int×(List aT)) (τ:=dI) (λg s=>([(some k5,.obj 81 (aN p2)),(some k2,.obj 38 (aI p1)),OC p0K s.1 gS.a gC.a g.a gV,bL gS p0.Snaps,aY gC p0.Chunks,bR g s.2,a8 gV p0.Vols]++((bO gS p0.Snaps)++((bB gC p0.Chunks)++(bS g s.2))))) (λg s=>nI aT.Locs 3 4 g (s.2:List aT)) (λg s=>.c 0 (.ptr p0K 0) (.c 5 (.ptr k5 0) (.c 10 (nZ y4.1) .nil))) (λx m=> ?_) ?_))))
 refine v0 ?_
 apply vi m<;>intro c5 m
 refine vs (v0 (vz [(15,some p0K,.obj 30 ([nZ p0.Seq,aZ gS.a,aZ gC.a,aZ gE.a,aZ gV])),(1000000,some k2,.obj 38 (aI p1))] mixed (λu=>⟨λ_=>aO 2 u rfl,λ_=>aO 1 u rfl,trivial⟩) λu=>zP 0 rfl rfl (zP 1 rfl rfl (zN 2 rfl rfl (zF 3 rfl eY rfl (zL 4 0 (aZ gE.a) rfl iL rfl rfl rfl (zI 5 rfl rfl (zF 6 rfl lX rfl (zL 7 1 (nZ p1.Seq) rfl cB rfl rfl rfl (zF 8 rfl xV rfl (zL 9 1 (nZ p1.Of) rfl cB rfl rfl rfl (zC 10 rfl (iR (y:=.agg (m6 ((({ Seq:=p1.Seq,Of:=p1.Of,Locs:=[]}:aT):aT),some g0))) (eJ ([nZ p1.Seq,nZ p1.Of,sZ]) aAE rfl) (bD.agg (.k2 (.cons (fT _) .nil)))) (zC 11 rfl (dX (map m6 [((({ Seq:=p1.Seq,Of:=p1.Of,Locs:=[]}:aT):aT),some g0)]) pF rfl rfl rfl rfl) ?_)))))))))))))
 obtain⟨y5,Y5,m⟩:=aD m
 refine zE 12 rfl ?_
 have ho5:=EX (A:=[bR gE p0.Exps]) (R:=([(some k5,.obj 81 (aN p2)),(some k2,.obj 38 (aI p1)),OC p0K p0.Seq gS.a gC.a gE.a gV,bL gS p0.Snaps,aY gC p0.Chunks,a8 gV p0.Vols]++((bO gS p0.Snaps)++((bB gC p0.Chunks)++(bS gE p0.Exps))))) u [[_],[_],[_],[_],[_],[_],[_],_,_,_] rfl [5] [0,1,2,3,4,6,7,8,9] rfl rfl rfl
 refine fP ho5.1 (dO (aHR tU _ oE.k.z ho5.2.2 (R5 oE.k.len (some g0) Y5)) rfl aB3 rfl ?_)
 rintro x h' ⟨ag2,O4,K7,rfl,rfl⟩
 have K8:=EY (L':=([(some k5,.obj 81 (aN p2)),(some k2,.obj 38 (aI p1)),(hO p0K p0.Seq gS.a gC.a gE.a gV),bL gS p0.Snaps,aY gC p0.Chunks,bR (⟨ag2,lS gE.gs y4.1.toNat (some g0)⟩:dI) y5,a8 gV p0.Vols]++((bO gS p0.Snaps)++((bB gC p0.Chunks)++(bS gE p0.Exps))))) ho5.2.1 K7 [[_]] [[_],[_],[_],[_],[_],[_],_,_,_] rfl rfl [1,2,3,4,5,0,6,7,8,9] rfl rfl
 have K9:=R6 (L':=([(some k5,.obj 81 (aN p2)),(some k2,.obj 38 (aI p1)),(hO p0K p0.Seq gS.a gC.a gE.a gV),bL gS p0.Snaps,aY gC p0.Chunks,bR (⟨ag2,lS gE.gs y4.1.toNat (some g0)⟩:dI) y5,a8 gV p0.Vols]++((bO gS p0.Snaps)++((bB gC p0.Chunks)++(bS (⟨ag2,lS gE.gs y4.1.toNat (some g0)⟩:dI) y5))))) K8.2 [[_],[_],[_],[_],[_],[_],[_],_,_,_] rfl 9 oE.k.len (og:=some g0) rfl Y5 rfl rfl
 refine qO (K8.1.trans K9.1) (⟨⟨λ_=>aO 2 K9.2 rfl,λ_=>aO 1 K9.2 rfl,trivial⟩, ?_⟩)
 refine zN 13 rfl rfl (zF 14 rfl eY rfl (zE 15 rfl (aL 2 ([nZ p0.Seq,aZ gS.a,aZ gC.a,aw (⟨ag2,lS gE.gs y4.1.toNat (some g0)⟩:dI).a.t (⟨ag2,lS gE.gs y4.1.toNat (some g0)⟩:dI).a.n (⟨ag2,lS gE.gs y4.1.toNat (some g0)⟩:dI).a.cap,aZ gV]) K9.2 rfl rfl (cM rfl) (cG (cC _ _ _) rfl) MN rfl rfl λK10=>⟨⟨λe=>absurd e (by decide),λ_=>aO 1 K10 rfl,trivial⟩, ?_⟩)))
 refine zX (qk (f:=aEY 100 _ _ _ _ _ _ _ _ _ _ _ _ _ _ _ _) K10 rfl (v0 (vz [(11,some p0K,.obj 30 ([nZ p0.Seq,aZ gS.a,aZ gC.a,aw (⟨ag2,lS gE.gs y4.1.toNat (some g0)⟩:dI).a.t (⟨ag2,lS gE.gs y4.1.toNat (some g0)⟩:dI).a.n (⟨ag2,lS gE.gs y4.1.toNat (some g0)⟩:dI).a.cap,aZ gV])),(1000000,some k2,.obj 38 (aI p1))] mixed (λu=>⟨λ_=>aO 2 u rfl,λ_=>aO 1 u rfl,trivial⟩) λu=>zP 0 rfl rfl (zP 1 rfl rfl (zN 2 rfl rfl (zF 3 rfl rG rfl (zL 4 0 (nZ p0.Seq) rfl cB rfl rfl rfl (zF 5 rfl lX rfl (zL 6 1 (nZ p1.Seq) rfl cB rfl rfl rfl (zC 7 rfl (mU rfl rfl rfl trivial) (zC 8 rfl (ZI rfl rfl) (zN 9 rfl rfl (zF 10 rfl rG rfl (zE 11 rfl (aL 2 ([nZ (max p0.Seq (wrap .i64 (p1.Seq+1))),aZ gS.a,aZ gC.a,aw (⟨ag2,lS gE.gs y4.1.toNat (some g0)⟩:dI).a.t (⟨ag2,lS gE.gs y4.1.toNat (some g0)⟩:dI).a.n (⟨ag2,lS gE.gs y4.1.toNat (some g0)⟩:dI).a.cap,aZ gV]) u rfl rfl rfl rfl A2 rfl rfl λK11=>⟨⟨λe=>absurd e (by decide),λ_=>aO 1 K11 rfl,trivial⟩, ?_⟩)))))))))))))))
 exact zX (qk (f:=U5 111 _ _ _ _ _ _ _ _ _ _ _ _) K11 rfl (eG m (⟨ag2,lS gE.gs y4.1.toNat (some g0)⟩:dI) (oE.ins Y5 rfl O4) (lx (.k3 .nil))))
 exact v0 (eG m gE oE (lx (.k3 .nil)))
 rintro ng0 ⟨j0,j1⟩ O5 m
 refine v0 (vz [(1000000,some p0K,.obj 30 ([nZ j0,aZ gS.a,aZ gC.a,aZ ng0.a,aZ gV])),(17,ng0.a.t,.obj 99 (fl m6 (zg (j1:List aT) ng0.gs) ng0.a.sp)),(1000000,some k5,.obj 81 (aN p2))] mixed (λu=>⟨λ_=>aO 2 u rfl,λ_=>aO 5 u rfl,λ_=>aO 0 u rfl,trivial⟩) λu=>zP 0 rfl rfl (zN 1 rfl rfl (zF 2 rfl eY rfl (zL 3 0 (aZ ng0.a) rfl iL rfl rfl rfl (zI 4 rfl rfl (zP 5 rfl rfl (zN 6 rfl rfl (zF 7 rfl eY rfl (zL 8 0 (aZ ng0.a) rfl iL rfl rfl rfl (zI 9 rfl rfl ?_))))))))))
 obtain⟨x5,X4,m⟩:=aD m
 refine zC 10 rfl (dG (O5.k.ix X4) iX O5.k.z rfl rfl) (zC 11 rfl (cX (bK.ne O5.k.z (O5.k.ix X4)) mZ rfl rfl) ?_)
 obtain⟨gv2,hg2,ga2,gn2⟩:=O5.gx X4
 refine z5 12 rfl (λ_ _ hi hB=>iR (eK (fo:=2) (awO aN 4 (gx ng0.gs y4.1.toNat) x5.Locs) (O5.k.ix X4) tU O5.k.z fW rfl (fV.get 1 hi rfl (hB 17 (by kernel_rfl))) (λ_=>rfl)) (bD.of_eq (congrArg (λz=>awO aN 4 z x5.Locs) hg2))) (zL 13 2 (.agg (aN p2)) rfl nD rfl rfl rfl ?_)
 obtain⟨y6,Y6,m⟩:=aD m
 refine zE 14 rfl ?_
 have ho6:=CS (R:=([(some k5,.obj 81 (aN p2)),(some k2,.obj 38 (aI p1)),OC p0K j0 gS.a gC.a ng0.a gV,bL gS p0.Snaps,aY gC p0.Chunks,bR ng0 j1,a8 gV p0.Vols]++((bO gS p0.Snaps)++((bB gC p0.Chunks)++(lO 81 aN ((nl aT.Locs (zg (j1:List aT) ng0.gs)).eraseIdx y4.1.toNat)))))) u [[_],[_],[_],[_],[_],[_],[_],_,_,_] rfl 9 rfl gn2 rfl
 have ho7:=dK [(eC gv2 x5.Locs)] _ ho6.2
 refine fP (ho6.1.trans (dP h [(eC gv2 x5.Locs)] _).symm) (dO (OB _ ga2 ho7.2 Y6) rfl OD rfl ?_)
 rintro x h' ⟨ag3,O6,K12,rfl,rfl⟩
 refine qO (dP h [kG ag3 y6] _) (⟨⟨λ_=>aO 3 (eA ho7.1 K12) rfl,λ_=>aO 6 (eA ho7.1 K12) rfl,λ_=>aO 1 (eA ho7.1 K12) rfl,trivial⟩, ?_⟩)
 obtain⟨x6,X5,m⟩:=aD m
 refine zC 15 rfl (dG (O5.k.ix X5) iX O5.k.z rfl rfl) (zC 16 rfl (cX (bK.ne O5.k.z (O5.k.ix X5)) mZ rfl rfl) (zE 17 rfl (cY (fo:=2) (x':=(({ x6 with Locs:=y6}:aT),some ag3)) 6 (eA ho7.1 K12) (O5.k.ix X5) tU O5.k.z rfl rfl (cM rfl) (cG (cC _ _ _) rfl) (cS.refl _ _) pU rfl rfl ?_)))
 intro K13
 have O7:=O5.setL (x':=({ x6 with Locs:=y6}:aT)) X5 ag3 O6
 have hr2:=BA (L':=(eC ag3 y6)::(([(some k5,.obj 81 (aN p2)),(some k2,.obj 38 (aI p1)),OC p0K j0 gS.a gC.a ng0.a gV,bL gS p0.Snaps,aY gC p0.Chunks,(ng0.a.t,.obj 99 (fl m6 (((zg (j1:List aT) ng0.gs)).set y4.1.toNat (({ x6 with Locs:=y6}:aT),some ag3)) ng0.a.sp)),a8 gV p0.Vols]:HL)++((bO gS p0.Snaps)++((bB gC p0.Chunks)++(lO 81 aN ((nl aT.Locs (zg (j1:List aT) ng0.gs)).eraseIdx y4.1.toNat)))))) K13 [[_],[_],[_],[_],[_],[_],[_],[_],_,_,_] rfl [0,1,2,3,4,5,6,7,8,9,10] rfl rfl
 have hj2:=vR (L':=([(some k5,.obj 81 (aN p2)),(some k2,.obj 38 (aI p1)),OC p0K j0 gS.a gC.a ((⟨ng0.a,ng0.gs.set y4.1.toNat (some ag3)⟩:dI).a) gV,bL gS p0.Snaps,aY gC p0.Chunks,bR (⟨ng0.a,ng0.gs.set y4.1.toNat (some ag3)⟩:dI) (j1.set y4.1.toNat ({ x6 with Locs:=y6})),a8 gV p0.Vols]++((bO gS p0.Snaps)++((bB gC p0.Chunks)++(bS (⟨ng0.a,ng0.gs.set y4.1.toNat (some ag3)⟩:dI) (j1.set y4.1.toNat ({ x6 with Locs:=y6}))))))) [[_],[_],[_],[_],[_],[_],[_],_,_,_] rfl 9 (zs:=nl aT.Locs (zg (j1:List aT) ng0.gs)) (j:=y4.1.toNat) (aT.Locs ({ x6 with Locs:=y6}:aT),some ag3) (mO (O5.k.nlat X5)) rfl hr2.2 (by rw[<- (O5.k.setL (x':=({ x6 with Locs:=y6}:aT)) X5 ag3 O6).2.2,(O5.k.setL (x':=({ x6 with Locs:=y6}:aT)) X5 ag3 O6).2.1]; rfl)
 refine qO (hr2.1.trans hj2.1) (⟨⟨λ_=>aO 2 hj2.2 rfl,λe=>absurd e (by decide),λ_=>aO 0 hj2.2 rfl,trivial⟩, ?_⟩)
 exact zX (qk (f:=GQ 128 _ _ _ _ _ _ _ _ _ _ _ _ _ _ _ _ _ _) hj2.2 rfl (eG m (⟨ng0.a,ng0.gs.set y4.1.toNat (some ag3)⟩:dI) O7 (lx .nil)))
 exact v0 (eG m gE oE (lx .nil))
 rintro ng1 ⟨j2,j3⟩ O8 m
 exact eG m (gS,ng1) ⟨ok_Snaps,O8⟩ (lx .nil)
 rintro⟨ng2,ng3⟩ ⟨j4,j5,j6⟩ ⟨O9,O10⟩ m
 exact eG m (ng2,gC,ng3) ⟨O9,oC,O10⟩ (lx .nil)
 rintro⟨ng4,ng5,ng6⟩ ⟨j7,j8,j9,j10⟩ ⟨O11,O12,O13⟩ m
 refine vs (v0 (v0 ?_))
 cases m
 exact vr λu=>dW.of1 (.inl rfl) (gQ _ _ (.sc (.int _ _)) rfl) (tP (L':=([OC p0K j7 ng4.a ng5.a ng6.a gV,bL ng4 j8,aY ng5 j9,bR ng6 j10,a8 gV p0.Vols]++((bO ng4 j8)++((bB ng5 j9)++(bS ng6 j10))))) u [[_],[_],[_],[_],[_],[_],[_],_,_,_] rfl [2,3,4,5,6,7,8,9] rfl rfl).2 (bD.refl _ _) ⟨ng4,O11,ng5,O12,ng6,O13,(tP (L':=([OC p0K j7 ng4.a ng5.a ng6.a gV,bL ng4 j8,aY ng5 j9,bR ng6 j10,a8 gV p0.Vols]++((bO ng4 j8)++((bB ng5 j9)++(bS ng6 j10))))) u [[_],[_],[_],[_],[_],[_],[_],_,_,_] rfl [2,3,4,5,6,7,8,9] rfl rfl).1,rfl,rfl⟩
theorem aB4:aP prog 123=true:=by kernel_rfl
def KL (m:Nat) (p0:aE):Option (Bool):=
 after (if decide (p0.Kind < 1) then Bk true else Bk (decide (3 < p0.Kind)):Option (Lp (Bool) (Bool))) λj7=>some j7
theorem aHT {u:Nat} {p0:aE} {o:Bool} (h:aF) (m:KL u p0=some o):
 aM prog 122 [.agg (aI p0)] h (λr h'=>r= .sc (.bool o)/\h'=h):=by
 refine fQ 11 [.tmp 2] Tryz.func122 rfl rfl rfl rfl ?_
 unfold KL at m
 refine v (gZ rfl rfl λk2 K3=>vs (fO m (σ:=Bool) (λs=>[(some k2,.obj 38 (aI p0))]) (λs=>.c 2 (.sc (.bool s)) .nil) (λx m=> ?_) ?_))
 refine v (vl 0 _ cB rfl rfl rfl ?_)
 apply vi m<;>intro b8 m
 rw[b8]
 exact n5 m
 rw[b8]
 exact vl 0 _ cB rfl rfl rfl (n5 m)
 rintro _ j7 m
 refine v ?_
 obtain rfl:=eR m
 exact eH rfl
theorem aB5:aP prog 122=true:=by kernel_rfl
def tX (m:Nat) (p0:List aE) (p1:aE->Option Bool) (q0:Int):Option (Lp (Int) (Int)):=
 if decide (q0 < (p0.length:Int)) then ((ix p0 q0).bind λx0=>(p1 x0).bind λy0=>if y0 then Rk q0 else Gk (wrap .i64 (q0+1))) else Bk q0
def OE (m:Nat) (p0:List aE) (p1:aE->Option Bool):Option (Int):=
 after (aR (λs=>tX m p0 p1 s) m 0) λr0=>some (-1)
theorem aHU {w:Nat} {p0:List aE} {p1:aE->Option Bool} {o:Int} (h:aF) {p1F:Nat} {p1C:List AV} (p1B:aP prog p1F=true) (p1H:∀x0 o h0,iJ h h0->p1 x0=some o->aM prog p1F ([.agg (aI x0)]++p1C) h0 (λr h'=>r= .sc (.bool o)/\h'=h0)) (m:OE w p0 p1=some o):
 aM prog 175 [.sl none 37 (map aI p0),.fn (.func p1F) p1C] h (λr h'=>r=nZ o/\h'=h):=by
 refine fQ 19 [.tmp 4] Tryz.func175 rfl rfl rfl rfl ?_
 unfold OE at m
 refine v (v (cU mC rfl (jS m (σ:=Int) (λs=>[]) (λs=>.c 0 (.sl none 37 (map aI p0)) (.c 1 (.fn (.func p1F) p1C) (.c 7 (nZ (p0.length:Int)) (.c 8 (nZ s) .nil)))) (lx (.k4 .nil)) ?_ ?_)))
 rintro _ q0 x m
 replace m:tX w p0 p1 q0=some x:=m
 unfold tX at m
 refine v (v ?_)
 apply vi m<;>intro c0 m
 refine v (v (v (v (vx m nQ rfl rfl λx1 _ m=>va (.agg (aI x1)) CE rfl rfl ?_))))
 obtain⟨_,Y0,m⟩:=aD m
 refine vn (λu=>bV (p1H _ _ _ (aU (nil_sublist _) u).1 Y0) rfl p1B rfl) (v ?_)
 apply vi m<;>intro c1 m
 refine v (v (fY m λm=> ?_))
 obtain rfl:=eR m
 exact eH rfl
 exact v (v (fZ m))
 exact v (vB m)
 rintro _ r0 m
 refine v (v ?_)
 cases m
 exact eH rfl
theorem aB6:aP prog 175=true:=by kernel_rfl
def OF (m:Nat) (p0:List aE) (p1:aE->Option Bool):Option (Bool):=
 (OE m p0 p1).bind λy3=>some (decide (0<=y3))
theorem aHV {w:Nat} {p0:List aE} {p1:aE->Option Bool} {o:Bool} (h:aF) {p1F:Nat} {p1C:List AV} (p1B:aP prog p1F=true) (p1H:∀x0 o h0,iJ h h0->p1 x0=some o->aM prog p1F ([.agg (aI x0)]++p1C) h0 (λr h'=>r= .sc (.bool o)/\h'=h0)) (m:OF w p0 p1=some o):
 aM prog 121 [.sl none 37 (map aI p0),.fn (.func p1F) p1C] h (λr h'=>r= .sc (.bool o)/\h'=h):=by
 refine fQ 9 [.tmp 4] Tryz.func121 rfl rfl rfl rfl ?_
 unfold OF at m
 refine v (v ?_)
 obtain⟨_,Y4,m⟩:=aD m
 refine vn (λu=>bV (aHU _ p1B (λx0 o h0 hs ho=>p1H x0 o h0 ((aU (nil_sublist _) u).1.trans hs) ho) Y4) rfl aB6 rfl) (v ?_)
 cases m
 exact eH rfl
theorem aB7:aP prog 121=true:=by kernel_rfl
def R7 (m:Nat) (p0:aH) (c0:List Int):Option (Bool):=
 some ((c0:List Int).any λz=>p0.Seq==z)
theorem aHW {w:Nat} {p0:aH} {c0:List Int} {o:Bool} (h:aF) {c0K c0M:bT} (c0H:h c0K=some (.obj 161 [.mpv c0M])) (c0G:h c0M=some (.mp (f8 kI (c0:List Int)))) (m:R7 w p0 c0=some o):
 aM prog 125 [.agg (bJ p0),.ptr c0K 0] h (λr h'=>r= .sc (.bool o)/\h'=h):=by
 refine fQ 8 [.tmp 3] Tryz.func125 rfl rfl rfl rfl ?_
 unfold R7 at m
 refine v (gZ rfl rfl λk2 K3=>v (vn (λu=>gO (.mpv c0M) TT rfl (gP u c0H) rfl) (vl 0 _ cB rfl rfl rfl (vn (λu=>GG TU zb4 (xP.int u3) rfl rfl (gP u c0G)) (v ?_)))))
 cases m
 exact eH rfl
theorem aB8:aP prog 125=true:=by kernel_rfl
def oB (m:Nat) (p1:aH->Option Bool) (q0:List aH) (q1:Int) (q2:Int):Option (Lp ((List aH)×Int×Int) ((List aH))):=
 if decide (q2 < (q0.length:Int)) then ((ix q0 q2).bind λx0=>(p1 x0).bind λy0=>after (if (!y0)then ((ix q0 q1).bind λ_=>Bk (q0.set q1.toNat (x0),wrap .i64 (q1+1))) else Bk (q0,q1):Option (Lp ((List aH)×Int) (Lp ((List aH)×Int×Int) ((List aH))))) λ⟨j0,j1⟩=>Gk (j0,j1,wrap .i64 (q2+1))) else Bk (q0,q1,q2)
def FA (m:Nat) (p0:List aH) (p1:aH->Option Bool):Option ((List aH)):=
 (E9 m p0 p1).bind λy3=>if (y3==(-1))then (some p0) else after (aR (λs=>oB m p1 s.1 s.2.1 s.2.2) m (p0,y3,wrap .i64 (y3+1))) λ⟨r0,r1,r2⟩=>grd (decide (0<=r1) && decide (r1 < (r0.length:Int))) <| grd (decide (0<=r1) && decide (r1<=(r0.length:Int))) <| some (r0.take r1.toNat)
theorem aB9 {w:Nat} {p0:List aH} {p1:aH->Option Bool} {o:(List aH)} (h:aF) {g_p0:dE} (ok_p0:bK g_p0 4 p0.length) (K0:bP h [(dF g_p0 p0)]) {p1F:Nat} {p1C:List AV} (p1B:aP prog p1F=true) (p1H:∀x0 o h0,iJ h h0->p1 x0=some o->aM prog p1F ([.agg (bJ x0)]++p1C) h0 (λr h'=>r= .sc (.bool o)/\h'=h0)) (m:FA w p0 p1=some o):
 aM prog 124 [aZ g_p0,.fn (.func p1F) p1C] (hp h [(dF g_p0 p0)]) (λr h'=>∃g:dE,bK g 4 o.length/\bP h [(g.t,.obj 60 (fl bJ o g.sp))]/\r=aZ g/\h'=hp h [(g.t,.obj 60 (fl bJ o g.sp))]):=by
 refine F1 K0 42 [.tmp 4] Tryz.func124 rfl rfl rfl rfl ?_
 unfold FA at m
 refine vs (v0 (vs (v0 ?_)))
 obtain⟨_,Y4,m⟩:=aD m
 refine ve λu=>fP ((bM u [0] rfl rfl).1.trans (dP h [(dF g_p0 p0)] []).symm) (dO (aB0 (hp h []) ok_p0 (dK [(dF g_p0 p0)] [] (bM u [0] rfl rfl).2).2 p1B (λx0 o h0 hs ho=>p1H x0 o h0 ((aU (nil_sublist _) (dK [(dF g_p0 p0)] [] (bM u [0] rfl rfl).2).1).1.trans hs) ho) Y4) rfl ND rfl ?_)
 rintro x h' ⟨rfl,rfl⟩
 refine qk u ((dP h [(dF g_p0 p0)] []).trans (bM u [0] rfl rfl).1.symm) (vs (vs (v0 (v0 ?_))))
 apply vi m<;>intro c7 m
 refine vs (v0 (v0 ?_))
 obtain rfl:=eR m
 exact vr λu=>dW.one (.inl rfl) (aU (h0:=h) (L':=[(dF g_p0 p0)]) (.refl _) u).1 (bD.refl _ _) ⟨g_p0,ok_p0,(aU (h0:=h) (L':=[(dF g_p0 p0)]) (.refl _) u).2,rfl,rfl⟩
 refine v0 (vs (vs (v0 (nU m (σ:=(List aH)×Int×Int) (τ:=dE) (λg s=>[(dF g s.1)]) (λg s=>bK g 4 (s.1:List aH).length) (λg s=>.c 0 (aZ g) (.c 1 (.fn (.func p1F) p1C) (.c 5 (nZ s.2.1) (.c 6 (nZ s.2.2) .nil)))) g_p0 ok_p0 (lx (.k4 .nil)) ?_ ?_))))
 rintro ag0 ⟨q0,q1,q2⟩ x O0 m
 replace m:oB w p1 q0 q1 q2=some x:=m
 unfold oB at m
 refine vs (vs (v0 (bU (fK lA O0 rfl) (v0 ?_))))
 apply vi m<;>intro c0 m
 refine v0 (vs (v0 (vs (v0 ?_))))
 obtain⟨x1,X0,m⟩:=aD m
 refine bU (dG X0 iW O0 rfl rfl) (vn (λu=>eK (fo:=0) (.agg (bJ x1)) X0 eP O0 sR rfl (aO 0 u rfl) (λ_=>rfl)) (ve λu=>bG (XZ) u xZ rfl rfl λk86 K1=>qk K1 rfl (ve λu=>aL 0 (bJ x1) u rfl rfl rfl rfl GZ rfl rfl λK2=>qk K2 rfl (vs (v0 (vl 0 (.agg (bJ x1)) sR rfl rfl rfl ?_))))))
 obtain⟨_,Y0,m⟩:=aD m
 refine vn (λu=>bV (p1H _ _ _ (aU (nil_sublist _) u).1 Y0) rfl p1B rfl) (oI m (σ:=(List aH)×Int) (τ:=dE) (λg s=>[(some k86,.obj 60 (bJ x1)),(dF g s.1)]) (λg s=>bK g 4 (s.1:List aH).length) (λg s=>.c 0 (aZ g) (.c 1 (.fn (.func p1F) p1C) (.c 5 (nZ s.2) (.c 6 (nZ q2) .nil)))) (λx m=> ?_) ?_)
 refine v0 ?_
 apply vi m<;>intro c1 m
 refine vs (v0 (vl 0 (.agg (bJ x1)) sR rfl rfl rfl ?_))
 obtain⟨_,X1,m⟩:=aD m
 exact bU (dG X1 iW O0 rfl rfl) (ve λu=>cY (fo:=0) (x1:aH) 1 u X1 eP O0 rfl rfl rfl rfl (cS.refl _ _) GZ rfl rfl λK3=>qk K3 rfl (v0 (eG m ag0 (bK.set O0) (lx (.k4 .nil)))))
 exact v0 (eG m ag0 O0 (lx (.k4 .nil)))
 rintro ag1 ⟨j0,j1⟩ O1 m
 exact v0 (eG m ag1 O1 (mK [1] rfl rfl (.k4 .nil)))
 exact v0 (lR m ag0 O0 (lx (.k4 .nil)))
 rintro ag2 ⟨r0,r1,r2⟩ t0 m
 refine vs (v0 ?_)
 obtain⟨Z0,m⟩:=pP m
 refine bU (MJ Z0 iW t0 rfl rfl) (ve λu=>TQ 0 u Z0 eP t0 u25 xZ rfl rfl rfl rfl λsp0 O2 K4=>qk K4 rfl (vs (v0 ?_)))
 obtain⟨Z1,m⟩:=pP m
 refine bU (MK Z1 t0 iW rfl rfl) (v0 ?_)
 cases m
 exact vr λu=>dW.one (.inl rfl) (aU (h0:=h) (L':=[((⟨ag2.t,r1.toNat,ag2.cap,sp0⟩:dE).t,.obj 60 (fl bJ (r0.take r1.toNat:List aH) (⟨ag2.t,r1.toNat,ag2.cap,sp0⟩:dE).sp))]) (.refl _) u).1 (bD.refl _ _) ⟨(⟨ag2.t,r1.toNat,ag2.cap,sp0⟩:dE),O2,(aU (h0:=h) (L':=[((⟨ag2.t,r1.toNat,ag2.cap,sp0⟩:dE).t,.obj 60 (fl bJ (r0.take r1.toNat:List aH) (⟨ag2.t,r1.toNat,ag2.cap,sp0⟩:dE).sp))]) (.refl _) u).2,rfl,rfl⟩
theorem aCA:aP prog 124=true:=by kernel_rfl
def oZ (m:Nat) (p0:aA) (p1:aV) (x0:aQ) (q0:List Int) (q1:Int) (q2:List aH) (q3:List aB) (q4:List aT) (q5:Int):Option (Lp ((List Int)×Int×(List aH)×(List aB)×(List aT)×Int) (Int×Int×fM)):=
 if decide (q5 < (p1.Items.length:Int)) then ((ix p1.Items q5).bind λx1=>(HE m ({ Seq:=q1,Snaps:=q2,Chunks:=q3,Exps:=q4,Vols:=(p0.Vols.set p1.Vol.toNat ({ x0 with State:=2})).set p1.Vol.toNat ({ ({ x0 with State:=2}:aQ) with Files:=wrap .i64 ((({ x0 with State:=2}:aQ).Files)+1)})}:aA) x1 ({ Vol:=p1.Vol,File:=({ ({ x0 with State:=2}:aQ) with Files:=wrap .i64 ((({ x0 with State:=2}:aQ).Files)+1)}:aQ).Files,Off:=x1.Off,Len:=x1.Len}:aS)).bind λy0=>if (y0.1 !=0)then (Rk (y0.1,y0.2.1,y0.2.2.1,y0.2.2.2.1,y0.2.2.2.2,(p0.Vols.set p1.Vol.toNat ({ x0 with State:=2})).set p1.Vol.toNat ({ ({ x0 with State:=2}:aQ) with Files:=wrap .i64 ((({ x0 with State:=2}:aQ).Files)+1)}))) else after (if (x1.Kind==3)then (Bk (mB (q0:List Int) x1.Of)) else Bk q0:Option (Lp ((List Int)) (Lp ((List Int)×Int×(List aH)×(List aB)×(List aT)×Int) (Int×Int×fM)))) λj0=>(yG m y0.2.2.2.1 x1.Id).bind λy1=>after (if (x1.Kind==1)then (if y1.2 then (Bk ((({ ({ x0 with State:=2}:aQ) with Files:=wrap .i64 ((({ x0 with State:=2}:aQ).Files)+1)}:aQ).Pool)==0)) else Bk false) else Bk false:Option (Lp (Bool) (Lp ((List Int)×Int×(List aH)×(List aB)×(List aT)×Int) (Int×Int×fM)))) λj1=>after (if j1 then ((ix y0.2.2.2.1 y1.1).bind λx2=>(ix (y0.2.2.2.1.set y1.1.toNat ({ x2 with Staged:=false})) y1.1).bind λx3=>Bk ((y0.2.2.2.1.set y1.1.toNat ({ x2 with Staged:=false})).set y1.1.toNat ({ x3 with Data:=([]:List Int)}))) else Bk y0.2.2.2.1:Option (Lp ((List aB)) (Lp ((List Int)×Int×(List aH)×(List aB)×(List aT)×Int) (Int×Int×fM)))) λj2=>Gk (j0,y0.2.1,y0.2.2.1,j2,y0.2.2.2.2,wrap .i64 (q5+1))) else Bk (q0,q1,q2,q3,q4,q5)
def YL (m:Nat) (p0:aA) (p1:aV):Option (Int×Int×fM):=
 (OF m p1.Items (λx0=>KL m x0)).bind λy6=>after (if decide (p1.Vol < 0) then Bk true else if decide ((p0.Vols.length:Int)<=p1.Vol) then Bk true else (ix p0.Vols p1.Vol).bind λx1=>if (x1.State==3)then Bk true else if decide ((p1.Items.length:Int) < 1) then Bk true else if decide (64 < (p1.Items.length:Int)) then Bk true else Bk (!(!y6)):Option (Lp (Bool) (Int×Int×fM))) λj0=>if j0 then (some (1,p0.Seq,p0.Snaps,p0.Chunks,p0.Exps,p0.Vols)) else (ix p0.Vols p1.Vol).bind λx2=>after (aR (λs=>oZ m p0 p1 x2 s.1 s.2.1 s.2.2.1 s.2.2.2.1 s.2.2.2.2.1 s.2.2.2.2.2) m ([],p0.Seq,p0.Snaps,p0.Chunks,p0.Exps,0)) λ⟨r0,r1,r2,r3,r4,r5⟩=>(FA m r2 (λx0=>R7 m x0 (r0:List Int))).bind λy0=>after (if decide ((y0.length:Int) < (r2.length:Int)) then ((KK m ({ Seq:=r1,Snaps:=y0,Chunks:=r3,Exps:=r4,Vols:=(p0.Vols.set p1.Vol.toNat ({ x2 with State:=2})).set p1.Vol.toNat ({ ({ x2 with State:=2}:aQ) with Files:=wrap .i64 ((({ x2 with State:=2}:aQ).Files)+1)})}:aA)).bind λy1=>Bk y1) else Bk r3:Option (Lp ((List aB)) (Int×Int×fM))) λj1=>some (0,r1,y0,j1,r4,(p0.Vols.set p1.Vol.toNat ({ x2 with State:=2})).set p1.Vol.toNat ({ ({ x2 with State:=2}:aQ) with Files:=wrap .i64 ((({ x2 with State:=2}:aQ).Files)+1)}))
theorem W74 {w:Nat} {p0:aA} {p1:aV} {o:Int×Int×fM} (h:aF) {p0K:bT} {gS:dI} (ok_Snaps:nI aH.Locs 4 4 gS (p0.Snaps:List aH)) {gC:dI} (oC:nI aB.Locs 35 4 gC (p0.Chunks:List aB)) {gE:dI} (oE:nI aT.Locs 3 4 gE (p0.Exps:List aT)) {gV:dE} (oV:bK gV 4 p0.Vols.length) (K0:bP h ([OC p0K p0.Seq gS.a gC.a gE.a gV,bL gS p0.Snaps,aY gC p0.Chunks,bR gE p0.Exps,a8 gV p0.Vols]++((bO gS p0.Snaps)++((bB gC p0.Chunks)++(bS gE p0.Exps))))) (m:YL w p0 p1=some o):
 aM prog 74 [.ptr p0K 0,.agg (aJ p1)] (hp h ([OC p0K p0.Seq gS.a gC.a gE.a gV,bL gS p0.Snaps,aY gC p0.Chunks,bR gE p0.Exps,a8 gV p0.Vols]++((bO gS p0.Snaps)++((bB gC p0.Chunks)++(bS gE p0.Exps))))) (λr h'=>∃g_Snaps':dE,bK g_Snaps' 4 (o.2.2.1:List aH).length/\∃g_Chunks':dE,bK g_Chunks' 35 (o.2.2.2.1:List aB).length/\∃g_Exps':dE,bK g_Exps' 3 (o.2.2.2.2.1:List aT).length/\∃g_Vols':dE,bK g_Vols' 4 (o.2.2.2.2.2:List aQ).length/\bP h [OC p0K o.2.1 g_Snaps' g_Chunks' g_Exps' g_Vols',cP g_Snaps' o.2.2.1,cD g_Chunks' o.2.2.2.1,eQ g_Exps' o.2.2.2.2.1,a8 g_Vols' o.2.2.2.2.2]/\r=nZ o.1/\h'=hp h [OC p0K o.2.1 g_Snaps' g_Chunks' g_Exps' g_Vols',cP g_Snaps' o.2.2.1,cD g_Chunks' o.2.2.2.1,eQ g_Exps' o.2.2.2.2.1,a8 g_Vols' o.2.2.2.2.2]):=by
 refine F1 K0 168 [.tmp 4] Tryz.func74 rfl rfl rfl rfl ?_
 unfold YL at m
 refine vs (v0 (gZ rfl rfl λk2 K3=>vs (v0 (dY gW rfl rfl (vl 0 _ mD rfl rfl rfl ?_)))))
 obtain⟨_,Y7,m⟩:=aD m
 refine bU (bV (aHV _ aB5 (λx0 o h0 hs ho=>aHT _ ho) Y7) rfl aB7 rfl) (vs (vs (fO m (σ:=Bool) (λs=>([(some k2,.obj 62 (aJ p1)),OC p0K p0.Seq gS.a gC.a gE.a gV,bL gS p0.Snaps,aY gC p0.Chunks,bR gE p0.Exps,a8 gV p0.Vols]++((bO gS p0.Snaps)++((bB gC p0.Chunks)++(bS gE p0.Exps))))) (λs=>.c 0 (.ptr p0K 0) (.c 3 (.ptr k2 0) (.c 58 (.sc (.bool s)) .nil))) (λx m=> ?_) ?_)))
 refine v0 (CL (by kernel_rfl) (dY jB rfl rfl (vl 0 _ cB rfl rfl rfl ?_)))
 apply vi m<;>intro b0 m
 rw[b0]
 exact hH m
 rw[b0]
 refine dY jB rfl rfl (vl 0 _ cB rfl rfl rfl (l4 rfl (dY jA rfl rfl (vl 1 (aZ gV) i9 rfl rfl rfl (bU (fK rF oV rfl) ?_)))))
 apply vi m<;>intro b1 m
 rw[b1]
 exact hH m
 rw[b1]
 refine l4 rfl (dY jA rfl rfl (vl 1 (aZ gV) i9 rfl rfl rfl (dY jB rfl rfl (vl 0 _ cB rfl rfl rfl ?_))))
 obtain⟨x1,X0,m⟩:=aD m
 refine bU (dG X0 nA oV rfl rfl) (bU (cX (bK.ne oV X0) rI rfl rfl) (vn (λu=>eK (fo:=2) (nZ x1.State) X0 eW oV cB rfl (aO 5 u rfl) (λ_=>rfl)) ?_))
 apply vi m<;>intro b2 m
 rw[b2]
 exact hH m
 rw[b2]
 refine dY gW rfl rfl (vl 0 _ mD rfl rfl rfl (cU mC rfl ?_))
 apply vi m<;>intro b3 m
 rw[b3]
 exact hH m
 rw[b3]
 refine dY gW rfl rfl (vl 0 _ mD rfl rfl rfl (cU mC rfl ?_))
 apply vi m<;>intro b4 m
 rw[b4]
 exact hH m
 rw[b4]
 exact hH m
 rintro _ j0 m
 refine v0 ?_
 apply vi m<;>intro c0 m
 refine vs (v0 (v0 ?_))
 cases m
 exact KI (LL (L':=([(some k2,.obj 62 (aJ p1)),OC p0K p0.Seq gS.a gC.a gE.a gV,cP gS.a p0.Snaps,aY gC p0.Chunks,bR gE p0.Exps,a8 gV p0.Vols]++((bB gC p0.Chunks)++(bS gE p0.Exps)))) [[_],[_],[_],[_],[_],[_],_,_,_] rfl 2 6 fL wV ok_Snaps.k rfl rfl (by decide) rfl) (KI (LL (L':=([(some k2,.obj 62 (aJ p1)),OC p0K p0.Seq gS.a gC.a gE.a gV,cP gS.a p0.Snaps,cD gC.a p0.Chunks,bR gE p0.Exps,a8 gV p0.Vols]++(bS gE p0.Exps))) [[_],[_],[_],[_],[_],[_],_,_] rfl 3 6 fL tT oC.k rfl rfl (by decide) rfl) (KI (LL (L':=[(some k2,.obj 62 (aJ p1)),OC p0K p0.Seq gS.a gC.a gE.a gV,cP gS.a p0.Snaps,cD gC.a p0.Chunks,eQ gE.a p0.Exps,a8 gV p0.Vols]) [[_],[_],[_],[_],[_],[_],_] rfl 4 6 fL CU oE.k rfl rfl (by decide) rfl) (vr λu=>dW.of1 (.inl rfl) (gQ _ _ (.sc (.int _ _)) rfl) (bQ u [1,2,3,4,5] rfl).2 (bD.refl _ _) ⟨gS.a,ok_Snaps.k.a,gC.a,oC.k.a,gE.a,oE.k.a,gV,oV,(bQ u [1,2,3,4,5] rfl).1,rfl,rfl⟩)))
 refine v0 (vs (v0 (CL (by kernel_rfl) (l4 rfl (dY jA rfl rfl (vl 1 (aZ gV) i9 rfl rfl rfl (dY jB rfl rfl (vl 0 _ cB rfl rfl rfl ?_))))))))
 obtain⟨x2,X1,m⟩:=aD m
 refine bU (dG X1 nA oV rfl rfl) (vs (v0 (bU (i8 (bK.ne oV X1) rfl) (bU (cX (bK.ne oV X1) rI rfl rfl) (ve λu=>cY (fo:=2) ({ x2 with State:=2}:aQ) 5 u X1 eW oV rfl rfl rfl rfl (cS.refl _ _) A2 rfl rfl λK1=>qk K1 rfl (vs (v0 (bU (i8 (bK.ne (bK.set oV) (cR (x':=({ x2 with State:=2}:aQ)) X1)) rfl) (bU (cX (bK.ne (bK.set oV) (cR (x':=({ x2 with State:=2}:aQ)) X1)) rJ rfl rfl) (vn (λu=>eK (fo:=3) (nZ (({ x2 with State:=2}:aQ).Files)) (cR (x':=({ x2 with State:=2}:aQ)) X1) eW (bK.set oV) cB rfl (aO 5 u rfl) (λ_=>rfl)) (bU (i8 (bK.ne (bK.set oV) (cR (x':=({ x2 with State:=2}:aQ)) X1)) rfl) (bU (cX (bK.ne (bK.set oV) (cR (x':=({ x2 with State:=2}:aQ)) X1)) rJ rfl rfl) (ve λu=>cY (fo:=3) ({ ({ x2 with State:=2}:aQ) with Files:=wrap .i64 ((({ x2 with State:=2}:aQ).Files)+1)}:aQ) 5 u (cR (x':=({ x2 with State:=2}:aQ)) X1) eW (bK.set oV) rfl rfl rfl rfl (cS.refl _ _) A2 rfl rfl λK2=>qk K2 rfl (vs (v0 (ve λu=>B6 u λk36 K4=>qk K4 rfl (ve λu=>bG ([.sc (.map none)]) u (show rV prog 161=some [.map none] by kernel_rfl) rfl rfl λk39 K5=>qk K5 rfl (ve λu=>aL 0 ([.mpv k36]) u rfl rfl rfl rfl aAF rfl rfl λK6=>qk K6 rfl ?_))))))))))))))))))
 refine vs (vs (v0 (dY gW rfl rfl (vl 2 _ mD rfl rfl rfl (cU mC rfl (nU m (σ:=(List Int)×Int×(List aH)×(List aB)×(List aT)×Int) (τ:=dI×dI×dI) (λg s=>([(some k39,.obj 161 ([.mpv k36])),(some k36,.mp (f8 kI (s.1:List Int))),(some k2,.obj 62 (aJ p1)),OC p0K s.2.1 g.1.a g.2.1.a g.2.2.a gV,bL g.1 s.2.2.1,aY g.2.1 s.2.2.2.1,bR g.2.2 s.2.2.2.2.1,a8 gV ((p0.Vols.set p1.Vol.toNat ({ x2 with State:=2})).set p1.Vol.toNat ({ ({ x2 with State:=2}:aQ) with Files:=wrap .i64 ((({ x2 with State:=2}:aQ).Files)+1)}))]++((bO g.1 s.2.2.1)++((bB g.2.1 s.2.2.2.1)++(bS g.2.2 s.2.2.2.2.1))))) (λg s=>nI aH.Locs 4 4 g.1 (s.2.2.1:List aH)/\nI aB.Locs 35 4 g.2.1 (s.2.2.2.1:List aB)/\nI aT.Locs 3 4 g.2.2 (s.2.2.2.2.1:List aT)) (λg s=>.c 0 (.ptr p0K 0) (.c 3 (.ptr k2 0) (.c 6 (wL gV.t (p1.Vol.toNat*4+0)) (.c 7 (.ptr k39 0) (.c 78 (.sl none 37 (map aI p1.Items)) (.c 79 (nZ (p1.Items.length:Int)) (.c 80 (nZ s.2.2.2.2.2) .nil))))))) (gS,gC,gE) (⟨ok_Snaps,oC,oE⟩) (lx (.k7 .nil)) ?_ ?_))))))
 rintro⟨ng0,ng1,ng2⟩ ⟨q0,q1,q2,q3,q4,q5⟩ x ⟨O0,O1,O2⟩ m
 replace m:oZ w p0 p1 x2 q0 q1 q2 q3 q4 q5=some x:=m
 unfold oZ at m
 refine vs (v0 (vs (v0 ?_)))
 apply vi m<;>intro c1 m
 refine v0 (vs (v0 (vs (v0 (vx m nQ rfl rfl λx3 _ m=>va (.agg (aI x3)) CE rfl rfl (ve λu=>bG (([nZ 0]:List AV)++bC gY++(JO:List AV)) u GY rfl rfl λk284 K7=>qk K7 rfl (ve λu=>aL 0 (aI x3) u rfl rfl rfl rfl GX rfl rfl λK8=>qk K8 rfl (vs (v0 (vz [(1000000,some k284,.obj 38 (aI x3)),(1000000,some k2,.obj 62 (aJ p1)),(1000000,gV.t,.obj 49 (fl dH ((p0.Vols.set p1.Vol.toNat ({ x2 with State:=2})).set p1.Vol.toNat ({ ({ x2 with State:=2}:aQ) with Files:=wrap .i64 ((({ x2 with State:=2}:aQ).Files)+1)}):List aQ) gV.sp))] mixed (λu=>⟨λ_=>aO 0 u rfl,λ_=>aO 3 u rfl,λ_=>aO 8 u rfl,trivial⟩) λu=>zP 0 rfl rfl (zL 1 0 (.agg (aI x3)) rfl CE rfl rfl rfl (zF 2 rfl jB rfl (zL 3 1 (nZ p1.Vol) rfl cB rfl rfl rfl (zC 4 rfl (fJ (wL _ _) rfl) (zC 5 rfl (i8 (bK.ne (bK.set (bK.set oV)) (cR (x':=({ ({ x2 with State:=2}:aQ) with Files:=wrap .i64 ((({ x2 with State:=2}:aQ).Files)+1)}:aQ)) (cR (x':=({ x2 with State:=2}:aQ)) X1))) rfl) (zC 6 rfl (cX (bK.ne (bK.set (bK.set oV)) (cR (x':=({ ({ x2 with State:=2}:aQ) with Files:=wrap .i64 ((({ x2 with State:=2}:aQ).Files)+1)}:aQ)) (cR (x':=({ x2 with State:=2}:aQ)) X1))) rJ rfl rfl) (z5 7 rfl (λ_ _ hi hB=>eK (fo:=3) (nZ (({ ({ x2 with State:=2}:aQ) with Files:=wrap .i64 ((({ x2 with State:=2}:aQ).Files)+1)}:aQ).Files)) (cR (x':=({ ({ x2 with State:=2}:aQ) with Files:=wrap .i64 ((({ x2 with State:=2}:aQ).Files)+1)}:aQ)) (cR (x':=({ x2 with State:=2}:aQ)) X1)) eW (bK.set (bK.set oV)) cB rfl (fV.get 2 hi rfl (hB 1000000 (by kernel_rfl))) (λ_=>rfl)) ?_)))))))))))))))))
 refine zF 8 rfl MR rfl (zL 9 0 (nZ x3.Off) rfl cB rfl rfl rfl (zF 10 rfl MS rfl (zL 11 0 (nZ x3.Len) rfl cB rfl rfl rfl (zC 12 rfl (eJ (aN ({ Vol:=p1.Vol,File:=({ ({ x2 with State:=2}:aQ) with Files:=wrap .i64 ((({ x2 with State:=2}:aQ).Files)+1)}:aQ).Files,Off:=x3.Off,Len:=x3.Len}:aS)) aAD rfl) ?_))))
 obtain⟨y0,Y0,m⟩:=aD m
 refine zE 13 rfl ?_
 have ho0:=EX (A:=([OC p0K q1 ng0.a ng1.a ng2.a gV,bL ng0 q2,aY ng1 q3,bR ng2 q4,a8 gV ((p0.Vols.set p1.Vol.toNat ({ x2 with State:=2})).set p1.Vol.toNat ({ ({ x2 with State:=2}:aQ) with Files:=wrap .i64 ((({ x2 with State:=2}:aQ).Files)+1)}))]++((bO ng0 q2)++((bB ng1 q3)++(bS ng2 q4))))) (R:=[(some k284,.obj 38 (aI x3)),(some k39,.obj 161 ([.mpv k36])),(some k36,.mp (f8 kI (q0:List Int))),(some k2,.obj 62 (aJ p1))]) u [[_],[_],[_],[_],[_],[_],[_],[_],[_],_,_,_] rfl [4,5,6,7,8,9,10,11] [0,1,2,3] rfl rfl rfl
 refine fP ho0.1 (dO (aHS (p0:=({ Seq:=q1,Snaps:=q2,Chunks:=q3,Exps:=q4,Vols:=(p0.Vols.set p1.Vol.toNat ({ x2 with State:=2})).set p1.Vol.toNat ({ ({ x2 with State:=2}:aQ) with Files:=wrap .i64 ((({ x2 with State:=2}:aQ).Files)+1)})}:aA)) _ (O0) (O1) (O2) ((bK.set (bK.set oV))) ho0.2.2 Y0) rfl aB4 rfl ?_)
 rintro x h' ⟨ng3,O3,ng4,O4,ng5,O5,K9,rfl,rfl⟩
 have K10:=EY (L':=([(some k284,.obj 38 (aI x3)),(some k39,.obj 161 ([.mpv k36])),(some k36,.mp (f8 kI (q0:List Int))),(some k2,.obj 62 (aJ p1)),OC p0K y0.2.1 ng3.a ng4.a ng5.a gV,bL ng3 y0.2.2.1,aY ng4 y0.2.2.2.1,bR ng5 y0.2.2.2.2,a8 gV ((p0.Vols.set p1.Vol.toNat ({ x2 with State:=2})).set p1.Vol.toNat ({ ({ x2 with State:=2}:aQ) with Files:=wrap .i64 ((({ x2 with State:=2}:aQ).Files)+1)}))]++((bO ng3 y0.2.2.1)++((bB ng4 y0.2.2.2.1)++(bS ng5 y0.2.2.2.2))))) ho0.2.1 K9 [[_],[_],[_],[_],[_],_,_,_] [[_],[_],[_],[_]] rfl rfl [8,9,10,11,0,1,2,3,4,5,6,7] rfl rfl
 refine qO K10.1 (⟨⟨λ_=>aO 0 K10.2 rfl,λ_=>aO 3 K10.2 rfl,λ_=>aO 8 K10.2 rfl,trivial⟩, ?_⟩)
 refine zC 14 rfl (iC (.sc (.int _ _)) rfl) (zX (qk (f:=.c 10 _ (U6 97 _ _ _ _ _ _ _ _ _ _ _ _ _ _ _)) K10.2 rfl (vs (vs (v0 (v0 ?_))))))
 apply vi m<;>intro c2 m
 refine vs (v0 (v0 (fY m λm=> ?_)))
 cases m
 refine KI (LL (L':=([(some k284,.obj 38 (aI x3)),(some k39,.obj 161 ([.mpv k36])),(some k36,.mp (f8 kI (q0:List Int))),(some k2,.obj 62 (aJ p1)),OC p0K y0.2.1 ng3.a ng4.a ng5.a gV,cP ng3.a y0.2.2.1,aY ng4 y0.2.2.2.1,bR ng5 y0.2.2.2.2,a8 gV ((p0.Vols.set p1.Vol.toNat ({ x2 with State:=2})).set p1.Vol.toNat ({ ({ x2 with State:=2}:aQ) with Files:=wrap .i64 ((({ x2 with State:=2}:aQ).Files)+1)}))]++((bB ng4 y0.2.2.2.1)++(bS ng5 y0.2.2.2.2)))) [[_],[_],[_],[_],[_],[_],[_],[_],[_],_,_,_] rfl 5 9 fL wV O3.k rfl rfl (by decide) rfl) (KI (LL (L':=([(some k284,.obj 38 (aI x3)),(some k39,.obj 161 ([.mpv k36])),(some k36,.mp (f8 kI (q0:List Int))),(some k2,.obj 62 (aJ p1)),OC p0K y0.2.1 ng3.a ng4.a ng5.a gV,cP ng3.a y0.2.2.1,cD ng4.a y0.2.2.2.1,bR ng5 y0.2.2.2.2,a8 gV ((p0.Vols.set p1.Vol.toNat ({ x2 with State:=2})).set p1.Vol.toNat ({ ({ x2 with State:=2}:aQ) with Files:=wrap .i64 ((({ x2 with State:=2}:aQ).Files)+1)}))]++(bS ng5 y0.2.2.2.2))) [[_],[_],[_],[_],[_],[_],[_],[_],[_],_,_] rfl 6 9 fL tT O4.k rfl rfl (by decide) rfl) (KI (LL (L':=[(some k284,.obj 38 (aI x3)),(some k39,.obj 161 ([.mpv k36])),(some k36,.mp (f8 kI (q0:List Int))),(some k2,.obj 62 (aJ p1)),OC p0K y0.2.1 ng3.a ng4.a ng5.a gV,cP ng3.a y0.2.2.1,cD ng4.a y0.2.2.2.1,eQ ng5.a y0.2.2.2.2,a8 gV ((p0.Vols.set p1.Vol.toNat ({ x2 with State:=2})).set p1.Vol.toNat ({ ({ x2 with State:=2}:aQ) with Files:=wrap .i64 ((({ x2 with State:=2}:aQ).Files)+1)}))]) [[_],[_],[_],[_],[_],[_],[_],[_],[_],_] rfl 7 9 fL CU O5.k rfl rfl (by decide) rfl) ?_))
 exact vr λu=>dW.of1 (.inl rfl) (gQ _ _ (.sc (.int _ _)) rfl) (bQ u [4,5,6,7,8] rfl).2 (bD.refl _ _) ⟨ng3.a,O3.k.a,ng4.a,O4.k.a,ng5.a,O5.k.a,gV,(bK.set (bK.set oV)),(bQ u [4,5,6,7,8] rfl).1,rfl,rfl⟩
 refine v0 (vs (vs (v0 (dY mY rfl rfl (vl 0 _ cB rfl rfl rfl (fO m (σ:=(List Int)) (λs=>([(some k284,.obj 38 (aI x3)),(some k39,.obj 161 ([.mpv k36])),(some k36,.mp (f8 kI (s:List Int))),(some k2,.obj 62 (aJ p1)),OC p0K y0.2.1 ng3.a ng4.a ng5.a gV,bL ng3 y0.2.2.1,aY ng4 y0.2.2.2.1,bR ng5 y0.2.2.2.2,a8 gV ((p0.Vols.set p1.Vol.toNat ({ x2 with State:=2})).set p1.Vol.toNat ({ ({ x2 with State:=2}:aQ) with Files:=wrap .i64 ((({ x2 with State:=2}:aQ).Files)+1)}))]++((bO ng3 y0.2.2.1)++((bB ng4 y0.2.2.2.1)++(bS ng5 y0.2.2.2.2))))) (λs=>.c 0 (.ptr p0K 0) (.c 3 (.ptr k2 0) (.c 6 (wL gV.t (p1.Vol.toNat*4+0)) (.c 7 (.ptr k39 0) (.c 9 (.ptr k284 0) (.c 78 (.sl none 37 (map aI p1.Items)) (.c 79 (nZ (p1.Items.length:Int)) (.c 80 (nZ q5) .nil)))))))) (λx m=> ?_) ?_))))))
 refine v0 ?_
 apply vi m<;>intro c3 m
 exact v0 (vl 1 _ TT rfl rfl rfl (dY xV rfl rfl (vl 0 _ cB rfl rfl rfl (ve λu=>MB 2 u TU (xP.int u3) rfl rfl rfl rfl λK11=>qk K11 rfl (MI m)))))
 exact v0 (MI m)
 rintro _ j1 m
 refine vs (v0 (CL (by kernel_rfl) (l4 rfl (dY fF rfl rfl (vl 4 (aZ ng4.a) fE rfl rfl rfl (dY xU rfl rfl (vl 0 (.agg (bC x3.Id)) fA rfl rfl rfl ?_)))))))
 obtain⟨y1,Y1,m⟩:=aD m
 refine vn (λu=>bV (fN (.cons (Br.awN 6 cZ fL E8 O4.k u rfl (WO [[_],[_],[_],[_],[_],[_],[_],[_],[_],_,_,_] rfl 10 rfl)) (.cons (Br.refl _ _) .nil)) rfl (VU _ Y1)) rfl NE rfl) (vs (fO m (σ:=Bool) (λs=>([(some k284,.obj 38 (aI x3)),(some k39,.obj 161 ([.mpv k36])),(some k36,.mp (f8 kI (j1:List Int))),(some k2,.obj 62 (aJ p1)),OC p0K y0.2.1 ng3.a ng4.a ng5.a gV,bL ng3 y0.2.2.1,aY ng4 y0.2.2.2.1,bR ng5 y0.2.2.2.2,a8 gV ((p0.Vols.set p1.Vol.toNat ({ x2 with State:=2})).set p1.Vol.toNat ({ ({ x2 with State:=2}:aQ) with Files:=wrap .i64 ((({ x2 with State:=2}:aQ).Files)+1)}))]++((bO ng3 y0.2.2.1)++((bB ng4 y0.2.2.2.1)++(bS ng5 y0.2.2.2.2))))) (λs=>.c 0 (.ptr p0K 0) (.c 3 (.ptr k2 0) (.c 6 (wL gV.t (p1.Vol.toNat*4+0)) (.c 7 (.ptr k39 0) (.c 11 (nZ y1.1) (.c 78 (.sl none 37 (map aI p1.Items)) (.c 79 (nZ (p1.Items.length:Int)) (.c 80 (nZ q5) (.c 129 (.sc (.bool s)) .nil))))))))) (λx m=> ?_) ?_))
 refine v0 (dY mY rfl rfl (vl 0 _ cB rfl rfl rfl ?_))
 apply vi m<;>intro b5 m
 rw[b5]
 apply vi m<;>intro b6 m
 rw[b6]
 exact bU (i8 (bK.ne (bK.set (bK.set oV)) (cR (x':=({ ({ x2 with State:=2}:aQ) with Files:=wrap .i64 ((({ x2 with State:=2}:aQ).Files)+1)}:aQ)) (cR (x':=({ x2 with State:=2}:aQ)) X1))) rfl) (bU (cX (bK.ne (bK.set (bK.set oV)) (cR (x':=({ ({ x2 with State:=2}:aQ) with Files:=wrap .i64 ((({ x2 with State:=2}:aQ).Files)+1)}:aQ)) (cR (x':=({ x2 with State:=2}:aQ)) X1))) MU rfl rfl) (vn (λu=>eK (fo:=0) (nZ (({ ({ x2 with State:=2}:aQ) with Files:=wrap .i64 ((({ x2 with State:=2}:aQ).Files)+1)}:aQ).Pool)) (cR (x':=({ ({ x2 with State:=2}:aQ) with Files:=wrap .i64 ((({ x2 with State:=2}:aQ).Files)+1)}:aQ)) (cR (x':=({ x2 with State:=2}:aQ)) X1)) eW (bK.set (bK.set oV)) cB rfl (aO 8 u rfl) (λ_=>rfl)) (gq9 m)))
 rw[b6]
 exact gq9 m
 rw[b5]
 exact gq9 m
 rintro _ j2 m
 refine oI m (σ:=(List aB)) (τ:=dI) (λg s=>([(some k284,.obj 38 (aI x3)),(some k39,.obj 161 ([.mpv k36])),(some k36,.mp (f8 kI (j1:List Int))),(some k2,.obj 62 (aJ p1)),OC p0K y0.2.1 ng3.a g.a ng5.a gV,bL ng3 y0.2.2.1,aY g s,bR ng5 y0.2.2.2.2,a8 gV ((p0.Vols.set p1.Vol.toNat ({ x2 with State:=2})).set p1.Vol.toNat ({ ({ x2 with State:=2}:aQ) with Files:=wrap .i64 ((({ x2 with State:=2}:aQ).Files)+1)}))]++((bO ng3 y0.2.2.1)++((bB g s)++(bS ng5 y0.2.2.2.2))))) (λg s=>nI aB.Locs 35 4 g (s:List aB)) (λg s=>.c 0 (.ptr p0K 0) (.c 3 (.ptr k2 0) (.c 6 (wL gV.t (p1.Vol.toNat*4+0)) (.c 7 (.ptr k39 0) (.c 78 (.sl none 37 (map aI p1.Items)) (.c 79 (nZ (p1.Items.length:Int)) (.c 80 (nZ q5) .nil))))))) (λx m=> ?_) ?_
 refine v0 ?_
 apply vi m<;>intro c4 m
 refine v0 (vz [(1000000,some p0K,.obj 30 ([nZ y0.2.1,aZ ng3.a,aZ ng4.a,aZ ng5.a,aZ gV]))] mixed (λu=>⟨λ_=>aO 4 u rfl,trivial⟩) λu=>zP 0 rfl rfl (zN 1 rfl rfl (zF 2 rfl fF rfl (zL 3 0 (aZ ng4.a) rfl fE rfl rfl rfl (zI 4 rfl rfl (zP 5 rfl rfl (zN 6 rfl rfl (zF 7 rfl fF rfl (zL 8 0 (aZ ng4.a) rfl fE rfl rfl rfl (zI 9 rfl rfl ?_))))))))))
 obtain⟨x4,X2,m⟩:=aD m
 refine zC 10 rfl (dG (O4.k.ix X2) hX O4.k.z rfl rfl) (zC 11 rfl (cX (bK.ne O4.k.z (O4.k.ix X2)) pV rfl rfl) (zE 12 rfl (cY (fo:=32) (x':=(({ x4 with Staged:=false}:aB),(gx ng4.gs y1.1.toNat))) 6 u (O4.k.ix X2) kL O4.k.z rfl rfl rfl rfl (cS.refl _ _) ZY rfl rfl ?_)))
 intro K12
 have hs0:tO aB.Locs 35 4 ng4 (y0.2.2.2.1:List aB):=O4.k
 have hn0:hp h _=hp h ([(some k284,.obj 38 (aI x3)),(some k39,.obj 161 ([.mpv k36])),(some k36,.mp (f8 kI (j1:List Int))),(some k2,.obj 62 (aJ p1)),OC p0K y0.2.1 ng3.a ng4.a ng5.a gV,bL ng3 y0.2.2.1,aY ng4 (y0.2.2.2.1.set y1.1.toNat ({ x4 with Staged:=false})),bR ng5 y0.2.2.2.2,a8 gV ((p0.Vols.set p1.Vol.toNat ({ x2 with State:=2})).set p1.Vol.toNat ({ ({ x2 with State:=2}:aQ) with Files:=wrap .i64 ((({ x2 with State:=2}:aQ).Files)+1)}))]++((bO ng3 y0.2.2.1)++((bB ng4 (y0.2.2.2.1.set y1.1.toNat ({ x4 with Staged:=false})))++(bS ng5 y0.2.2.2.2))))/\bP h ([(some k284,.obj 38 (aI x3)),(some k39,.obj 161 ([.mpv k36])),(some k36,.mp (f8 kI (j1:List Int))),(some k2,.obj 62 (aJ p1)),OC p0K y0.2.1 ng3.a ng4.a ng5.a gV,bL ng3 y0.2.2.1,aY ng4 (y0.2.2.2.1.set y1.1.toNat ({ x4 with Staged:=false})),bR ng5 y0.2.2.2.2,a8 gV ((p0.Vols.set p1.Vol.toNat ({ x2 with State:=2})).set p1.Vol.toNat ({ ({ x2 with State:=2}:aQ) with Files:=wrap .i64 ((({ x2 with State:=2}:aQ).Files)+1)}))]++((bO ng3 y0.2.2.1)++((bB ng4 (y0.2.2.2.1.set y1.1.toNat ({ x4 with Staged:=false})))++(bS ng5 y0.2.2.2.2)))):=eqN (L:=_) K12 (by unfold aY; (try unfold bB); rw[(hs0.set (x':=({ x4 with Staged:=false}:aB)) X2 rfl).2.2,<- (hs0.set (x':=({ x4 with Staged:=false}:aB)) X2 rfl).2.1]; first | done | rfl)
 refine qO hn0.1 (⟨⟨λ_=>aO 4 hn0.2 rfl,trivial⟩, ?_⟩)
 obtain⟨x5,X3,m⟩:=aD m
 refine zC 13 rfl (dG ((O4.set (x':=({ x4 with Staged:=false}:aB)) X2 rfl).k.ix X3) hX ((O4.set (x':=({ x4 with Staged:=false}:aB)) X2 rfl).k.z) rfl rfl) (zC 14 rfl (cX (bK.ne ((O4.set (x':=({ x4 with Staged:=false}:aB)) X2 rfl).k.z) ((O4.set (x':=({ x4 with Staged:=false}:aB)) X2 rfl).k.ix X3)) lY rfl rfl) (zE 15 rfl (cY (fo:=33) (x':=(({ x5 with Data:=([]:List Int)}:aB),(gx ng4.gs y1.1.toNat))) 6 hn0.2 ((O4.set (x':=({ x4 with Staged:=false}:aB)) X2 rfl).k.ix X3) kL ((O4.set (x':=({ x4 with Staged:=false}:aB)) X2 rfl).k.z) rfl rfl rfl rfl (.cons (a9 _) .nil) EJ rfl rfl ?_)))
 intro K13
 have hs1:tO aB.Locs 35 4 ng4 (y0.2.2.2.1.set y1.1.toNat ({ x4 with Staged:=false}):List aB):=(O4.set (x':=({ x4 with Staged:=false}:aB)) X2 rfl).k
 have hn1:hp h _=hp h ([(some k284,.obj 38 (aI x3)),(some k39,.obj 161 ([.mpv k36])),(some k36,.mp (f8 kI (j1:List Int))),(some k2,.obj 62 (aJ p1)),OC p0K y0.2.1 ng3.a ng4.a ng5.a gV,bL ng3 y0.2.2.1,aY ng4 ((y0.2.2.2.1.set y1.1.toNat ({ x4 with Staged:=false})).set y1.1.toNat ({ x5 with Data:=([]:List Int)})),bR ng5 y0.2.2.2.2,a8 gV ((p0.Vols.set p1.Vol.toNat ({ x2 with State:=2})).set p1.Vol.toNat ({ ({ x2 with State:=2}:aQ) with Files:=wrap .i64 ((({ x2 with State:=2}:aQ).Files)+1)}))]++((bO ng3 y0.2.2.1)++((bB ng4 ((y0.2.2.2.1.set y1.1.toNat ({ x4 with Staged:=false})).set y1.1.toNat ({ x5 with Data:=([]:List Int)})))++(bS ng5 y0.2.2.2.2))))/\bP h ([(some k284,.obj 38 (aI x3)),(some k39,.obj 161 ([.mpv k36])),(some k36,.mp (f8 kI (j1:List Int))),(some k2,.obj 62 (aJ p1)),OC p0K y0.2.1 ng3.a ng4.a ng5.a gV,bL ng3 y0.2.2.1,aY ng4 ((y0.2.2.2.1.set y1.1.toNat ({ x4 with Staged:=false})).set y1.1.toNat ({ x5 with Data:=([]:List Int)})),bR ng5 y0.2.2.2.2,a8 gV ((p0.Vols.set p1.Vol.toNat ({ x2 with State:=2})).set p1.Vol.toNat ({ ({ x2 with State:=2}:aQ) with Files:=wrap .i64 ((({ x2 with State:=2}:aQ).Files)+1)}))]++((bO ng3 y0.2.2.1)++((bB ng4 ((y0.2.2.2.1.set y1.1.toNat ({ x4 with Staged:=false})).set y1.1.toNat ({ x5 with Data:=([]:List Int)})))++(bS ng5 y0.2.2.2.2)))):=eqN (L:=_) K13 (by unfold aY; (try unfold bB); rw[(hs1.set (x':=({ x5 with Data:=([]:List Int)}:aB)) X3 rfl).2.2,<- (hs1.set (x':=({ x5 with Data:=([]:List Int)}:aB)) X3 rfl).2.1]; first | done | rfl)
 refine qO hn1.1 (⟨⟨λ_=>aO 4 hn1.2 rfl,trivial⟩, ?_⟩)
 exact zX (qk (f:=U6 143 _ _ _ _ _ _ _ _ _ _ _ _ _ _ _) hn1.2 rfl (eG m ng4 ((O4.set (x':=({ x4 with Staged:=false}:aB)) X2 rfl).set (x':=({ x5 with Data:=([]:List Int)}:aB)) X3 rfl) (lx (.k7 .nil))))
 exact v0 (eG m ng4 O4 (lx (.k7 .nil)))
 rintro ng6 j3 O6 m
 exact v0 (eG m (ng3,ng6,ng5) ⟨O3,O6,O5⟩ (lxB [[_],[_],[_],[_],[_],[_],[_],[_],[_],_,_,_] rfl [1,2,3,4,5,6,7,8,9,10,11] rfl rfl (.k7 .nil)))
 exact v0 (lR m (ng0,ng1,ng2) ⟨O0,O1,O2⟩ (lx (.k7 .nil)))
 rintro⟨ng7,ng8,ng9⟩ ⟨r0,r1,r2,r3,r4,r5⟩ ⟨t0,t1,t2⟩ m
 refine vs (v0 (l4 rfl (dY eM rfl rfl (vl 3 (aZ ng7.a) fD rfl rfl rfl (bU (fK lA t0.k.a rfl) (vs (pM (LL (L':=([(some k39,.obj 161 ([.mpv k36])),(some k36,.mp (f8 kI (r0:List Int))),(some k2,.obj 62 (aJ p1)),OC p0K r1 ng7.a ng8.a ng9.a gV,cP ng7.a r2,aY ng8 r3,bR ng9 r4,a8 gV ((p0.Vols.set p1.Vol.toNat ({ x2 with State:=2})).set p1.Vol.toNat ({ ({ x2 with State:=2}:aQ) with Files:=wrap .i64 ((({ x2 with State:=2}:aQ).Files)+1)}))]++((bB ng8 r3)++(bS ng9 r4)))) [[_],[_],[_],[_],[_],[_],[_],[_],_,_,_] rfl 4 8 fL wV t0.k rfl rfl (by decide) rfl) (pM (LL (L':=([(some k39,.obj 161 ([.mpv k36])),(some k36,.mp (f8 kI (r0:List Int))),(some k2,.obj 62 (aJ p1)),OC p0K r1 ng7.a ng8.a ng9.a gV,cP ng7.a r2,cD ng8.a r3,bR ng9 r4,a8 gV ((p0.Vols.set p1.Vol.toNat ({ x2 with State:=2})).set p1.Vol.toNat ({ ({ x2 with State:=2}:aQ) with Files:=wrap .i64 ((({ x2 with State:=2}:aQ).Files)+1)}))]++(bS ng9 r4))) [[_],[_],[_],[_],[_],[_],[_],[_],_,_] rfl 5 8 fL tT t1.k rfl rfl (by decide) rfl) (pM (LL (L':=[(some k39,.obj 161 ([.mpv k36])),(some k36,.mp (f8 kI (r0:List Int))),(some k2,.obj 62 (aJ p1)),OC p0K r1 ng7.a ng8.a ng9.a gV,cP ng7.a r2,cD ng8.a r3,eQ ng9.a r4,a8 gV ((p0.Vols.set p1.Vol.toNat ({ x2 with State:=2})).set p1.Vol.toNat ({ ({ x2 with State:=2}:aQ) with Files:=wrap .i64 ((({ x2 with State:=2}:aQ).Files)+1)}))]) [[_],[_],[_],[_],[_],[_],[_],[_],_] rfl 6 8 fL CU t2.k rfl rfl (by decide) rfl) (v0 (l4 rfl (dY eM rfl rfl (vl 3 (aZ ng7.a) fD rfl rfl rfl ?_)))))))))))))
 obtain⟨y2,Y2,m⟩:=aD m
 refine ve λu=>fP ((bM u [4,0,1,2,3,5,6,7] rfl rfl).1.trans (dP h [cP ng7.a r2] [(some k39,.obj 161 ([.mpv k36])),(some k36,.mp (f8 kI (r0:List Int))),(some k2,.obj 62 (aJ p1)),OC p0K r1 ng7.a ng8.a ng9.a gV,cD ng8.a r3,eQ ng9.a r4,a8 gV ((p0.Vols.set p1.Vol.toNat ({ x2 with State:=2})).set p1.Vol.toNat ({ ({ x2 with State:=2}:aQ) with Files:=wrap .i64 ((({ x2 with State:=2}:aQ).Files)+1)}))]).symm) (dO (aB9 (hp h [(some k39,.obj 161 ([.mpv k36])),(some k36,.mp (f8 kI (r0:List Int))),(some k2,.obj 62 (aJ p1)),OC p0K r1 ng7.a ng8.a ng9.a gV,cD ng8.a r3,eQ ng9.a r4,a8 gV ((p0.Vols.set p1.Vol.toNat ({ x2 with State:=2})).set p1.Vol.toNat ({ ({ x2 with State:=2}:aQ) with Files:=wrap .i64 ((({ x2 with State:=2}:aQ).Files)+1)}))]) t0.k.a (dK [cP ng7.a r2] [(some k39,.obj 161 ([.mpv k36])),(some k36,.mp (f8 kI (r0:List Int))),(some k2,.obj 62 (aJ p1)),OC p0K r1 ng7.a ng8.a ng9.a gV,cD ng8.a r3,eQ ng9.a r4,a8 gV ((p0.Vols.set p1.Vol.toNat ({ x2 with State:=2})).set p1.Vol.toNat ({ ({ x2 with State:=2}:aQ) with Files:=wrap .i64 ((({ x2 with State:=2}:aQ).Files)+1)}))] (bM u [4,0,1,2,3,5,6,7] rfl rfl).2).2 aB8 (λx0 o h0 hs ho=>aHW _ (hs _ _ (aW 0 (dK [cP ng7.a r2] [(some k39,.obj 161 ([.mpv k36])),(some k36,.mp (f8 kI (r0:List Int))),(some k2,.obj 62 (aJ p1)),OC p0K r1 ng7.a ng8.a ng9.a gV,cD ng8.a r3,eQ ng9.a r4,a8 gV ((p0.Vols.set p1.Vol.toNat ({ x2 with State:=2})).set p1.Vol.toNat ({ ({ x2 with State:=2}:aQ) with Files:=wrap .i64 ((({ x2 with State:=2}:aQ).Files)+1)}))] (bM u [4,0,1,2,3,5,6,7] rfl rfl).2).1 rfl)) (hs _ _ (aW 1 (dK [cP ng7.a r2] [(some k39,.obj 161 ([.mpv k36])),(some k36,.mp (f8 kI (r0:List Int))),(some k2,.obj 62 (aJ p1)),OC p0K r1 ng7.a ng8.a ng9.a gV,cD ng8.a r3,eQ ng9.a r4,a8 gV ((p0.Vols.set p1.Vol.toNat ({ x2 with State:=2})).set p1.Vol.toNat ({ ({ x2 with State:=2}:aQ) with Files:=wrap .i64 ((({ x2 with State:=2}:aQ).Files)+1)}))] (bM u [4,0,1,2,3,5,6,7] rfl rfl).2).1 rfl)) ho) Y2) rfl aCA rfl ?_)
 rintro x h' ⟨ag0,O7,K14,rfl,rfl⟩
 have K15:=bM (L':=[(some k39,.obj 161 ([.mpv k36])),(some k36,.mp (f8 kI (r0:List Int))),(some k2,.obj 62 (aJ p1)),(hO p0K r1 ng7.a ng8.a ng9.a gV),cP ag0 y2,cD ng8.a r3,eQ ng9.a r4,a8 gV ((p0.Vols.set p1.Vol.toNat ({ x2 with State:=2})).set p1.Vol.toNat ({ ({ x2 with State:=2}:aQ) with Files:=wrap .i64 ((({ x2 with State:=2}:aQ).Files)+1)}))]) (eA (dK [cP ng7.a r2] [(some k39,.obj 161 ([.mpv k36])),(some k36,.mp (f8 kI (r0:List Int))),(some k2,.obj 62 (aJ p1)),OC p0K r1 ng7.a ng8.a ng9.a gV,cD ng8.a r3,eQ ng9.a r4,a8 gV ((p0.Vols.set p1.Vol.toNat ({ x2 with State:=2})).set p1.Vol.toNat ({ ({ x2 with State:=2}:aQ) with Files:=wrap .i64 ((({ x2 with State:=2}:aQ).Files)+1)}))] (bM u [4,0,1,2,3,5,6,7] rfl rfl).2).1 K14) [1,2,3,4,0,5,6,7] rfl rfl
 refine qk K15.2 ((dP h [cP ag0 y2] [(some k39,.obj 161 ([.mpv k36])),(some k36,.mp (f8 kI (r0:List Int))),(some k2,.obj 62 (aJ p1)),OC p0K r1 ng7.a ng8.a ng9.a gV,cD ng8.a r3,eQ ng9.a r4,a8 gV ((p0.Vols.set p1.Vol.toNat ({ x2 with State:=2})).set p1.Vol.toNat ({ ({ x2 with State:=2}:aQ) with Files:=wrap .i64 ((({ x2 with State:=2}:aQ).Files)+1)}))]).trans K15.1) (l4 rfl (dY eM rfl rfl (ve λu=>aL 3 ([nZ r1,aZ ag0,aZ ng8.a,aZ ng9.a,aZ gV]) u rfl rfl (cM rfl) (cG (cC _ _ _) rfl) MM rfl rfl λK16=>qk K16 rfl (vs (vs (v0 (l4 rfl (dY eM rfl rfl (vl 3 (aZ ag0) fD rfl rfl rfl (bU (fK lA O7 rfl) (oI m (σ:=(List aB)) (τ:=dE) (λg s=>[(some k39,.obj 161 ([.mpv k36])),(some k36,.mp (f8 kI (r0:List Int))),(some k2,.obj 62 (aJ p1)),OC p0K r1 ag0 g ng9.a gV,cP ag0 y2,cD g s,eQ ng9.a r4,a8 gV ((p0.Vols.set p1.Vol.toNat ({ x2 with State:=2})).set p1.Vol.toNat ({ ({ x2 with State:=2}:aQ) with Files:=wrap .i64 ((({ x2 with State:=2}:aQ).Files)+1)}))]) (λg s=>bK g 35 (s:List aB).length) (λg s=>.nil) (λx m=> ?_) ?_)))))))))))
 refine v0 ?_
 apply vi m<;>intro c5 m
 refine v0 ?_
 obtain⟨y3,Y3,m⟩:=aD m
 refine ve λu=>fP ((bM u [3,4,5,6,7,0,1,2] rfl rfl).1.trans (dP h [OC p0K r1 ag0 ng8.a ng9.a gV,cP ag0 y2,cD ng8.a r3,eQ ng9.a r4,a8 gV ((p0.Vols.set p1.Vol.toNat ({ x2 with State:=2})).set p1.Vol.toNat ({ ({ x2 with State:=2}:aQ) with Files:=wrap .i64 ((({ x2 with State:=2}:aQ).Files)+1)}))] [(some k39,.obj 161 ([.mpv k36])),(some k36,.mp (f8 kI (r0:List Int))),(some k2,.obj 62 (aJ p1))]).symm) (dO (aHP (p0:=({ Seq:=r1,Snaps:=y2,Chunks:=r3,Exps:=r4,Vols:=(p0.Vols.set p1.Vol.toNat ({ x2 with State:=2})).set p1.Vol.toNat ({ ({ x2 with State:=2}:aQ) with Files:=wrap .i64 ((({ x2 with State:=2}:aQ).Files)+1)})}:aA)) (hp h [(some k39,.obj 161 ([.mpv k36])),(some k36,.mp (f8 kI (r0:List Int))),(some k2,.obj 62 (aJ p1))]) O7 t1.k.a t2.k.a (bK.set (bK.set oV)) (dK [OC p0K r1 ag0 ng8.a ng9.a gV,cP ag0 y2,cD ng8.a r3,eQ ng9.a r4,a8 gV ((p0.Vols.set p1.Vol.toNat ({ x2 with State:=2})).set p1.Vol.toNat ({ ({ x2 with State:=2}:aQ) with Files:=wrap .i64 ((({ x2 with State:=2}:aQ).Files)+1)}))] [(some k39,.obj 161 ([.mpv k36])),(some k36,.mp (f8 kI (r0:List Int))),(some k2,.obj 62 (aJ p1))] (bM u [3,4,5,6,7,0,1,2] rfl rfl).2).2 Y3) rfl aB1 rfl ?_)
 rintro x h' ⟨ag1,O8,K17,rfl,rfl⟩
 have K18:=bM (L':=[(some k39,.obj 161 ([.mpv k36])),(some k36,.mp (f8 kI (r0:List Int))),(some k2,.obj 62 (aJ p1)),OC p0K r1 ag0 ag1 ng9.a gV,cP ag0 y2,cD ag1 y3,eQ ng9.a r4,a8 gV ((p0.Vols.set p1.Vol.toNat ({ x2 with State:=2})).set p1.Vol.toNat ({ ({ x2 with State:=2}:aQ) with Files:=wrap .i64 ((({ x2 with State:=2}:aQ).Files)+1)}))]) (eA (dK [OC p0K r1 ag0 ng8.a ng9.a gV,cP ag0 y2,cD ng8.a r3,eQ ng9.a r4,a8 gV ((p0.Vols.set p1.Vol.toNat ({ x2 with State:=2})).set p1.Vol.toNat ({ ({ x2 with State:=2}:aQ) with Files:=wrap .i64 ((({ x2 with State:=2}:aQ).Files)+1)}))] [(some k39,.obj 161 ([.mpv k36])),(some k36,.mp (f8 kI (r0:List Int))),(some k2,.obj 62 (aJ p1))] (bM u [3,4,5,6,7,0,1,2] rfl rfl).2).1 K17) [5,6,7,0,1,2,3,4] rfl rfl
 exact qk K18.2 ((dP h [OC p0K r1 ag0 ag1 ng9.a gV,cP ag0 y2,cD ag1 y3,eQ ng9.a r4,a8 gV ((p0.Vols.set p1.Vol.toNat ({ x2 with State:=2})).set p1.Vol.toNat ({ ({ x2 with State:=2}:aQ) with Files:=wrap .i64 ((({ x2 with State:=2}:aQ).Files)+1)}))] [(some k39,.obj 161 ([.mpv k36])),(some k36,.mp (f8 kI (r0:List Int))),(some k2,.obj 62 (aJ p1))]).trans K18.1) (eG m ag1 O8 (lx .nil))
 exact v0 (eG m ng8.a t1.k.a (lx .nil))
 rintro ag2 j4 O9 m
 refine vs (v0 (v0 ?_))
 cases m
 exact vr λu=>dW.of1 (.inl rfl) (gQ _ _ (.sc (.int _ _)) rfl) (bQ u [3,4,5,6,7] rfl).2 (bD.refl _ _) ⟨ag0,O7,ag2,O9,ng9.a,t2.k.a,gV,(bK.set (bK.set oV)),(bQ u [3,4,5,6,7] rfl).1,rfl,rfl⟩
theorem aHX:aP prog 74=true:=by kernel_rfl
def R8 (m:Nat) (p0:List bH):Option (List bH):=app [] p0
theorem aHY {w:Nat} {p0:List bH} {o:List bH} (h:aF) (m:R8 w p0=some o):
 aM prog 170 [.sl none 32 (map bC p0)] h (λr h'=>∃t,(t=none->o= [])/\bP h [(t,.tok 36 32 (o.length*32))]/\r=ow t 32 (map bC o)/\h'=hp h [(t,.tok 36 32 (o.length*32))]):=by
 refine iZ 8 [.tmp 2] Tryz.func170 rfl rfl rfl rfl ?_
 unfold R8 at m
 refine f0 λK1 H1=>dR (qI (iC (.sc (.slice _ _ _)) rfl) (eV (H1 _ _ (f0 λK1 H1=>f0 λK2 H2=>dR (vE rfl (kR (jT rfl (by rw[yB]; rfl) (by rw[bF]; exact rfl) (.inl ⟨_,_,_,rfl,λb hb=> ?_⟩))))))))
 refine eV (H2 _ _ (mT rfl (λhc=> ?_) (λhc=> ?_)))
 have h0:p0= []:=by
   cases p0 with
   | nil=>rfl
   | cons x l=>have:=hb (by simp); rw[this] at hc; cases hc
 subst h0
 obtain⟨rfl, -⟩:=jM m
 exact f0 λK1 H1=>dR (qI (iC (.sc (.slice _ _ _)) rfl) (eV (H1 _ _ (iB (dW.one (.inl rfl) (iJ.refl _) (gD _ _) ⟨none,λ_=>rfl,bP.none (bP.nil _),rfl,rfl⟩)))))
 exact lM (H1 _ _ (f0 λK1 H1=>dR (kR (GD (c:=bC) (bP.nil _) CI λu=>vE rfl (kR (fC (c:=bC) 0 m CI rfl rfl rfl (λ_=>rfl) u rfl λtg ot u=>qI (iC (ow _ _ _) rfl) (eV (H1 _ _ (iB (dW.one (.inl rfl) (iJ.refl _) (bD.refl _ _) ⟨tg,ot,u,rfl,rfl⟩))))))))))
theorem aCB:aP prog 170=true:=by kernel_rfl
def IP (m:Nat) (p0:List cT):Option (List cT):=app [] p0
theorem aCC {w:Nat} {p0:List cT} {o:List cT} (h:aF) (m:IP w p0=some o):
 aM prog 169 [.sl none 3 (map bX p0)] h (λr h'=>∃g:dE,bK g 3 o.length/\bP h [(g.t,.obj 70 (fl bX o g.sp))]/\r=aZ g/\h'=hp h [(g.t,.obj 70 (fl bX o g.sp))]):=by
 refine iZ 8 [.tmp 2] Tryz.func169 rfl rfl rfl rfl ?_
 unfold IP at m
 refine f0 λK1 H1=>dR (qI (iC (.sc (.slice _ _ _)) rfl) (eV (H1 _ _ (f0 λK1 H1=>f0 λK2 H2=>dR (vE rfl (kR (jT rfl (by rw[qQ]; rfl) (by rw[bF]; exact rfl) (.inl ⟨_,_,_,rfl,λb hb=> ?_⟩))))))))
 refine eV (H2 _ _ (mT rfl (λhc=> ?_) (λhc=> ?_)))
 have h0:p0= []:=by
   cases p0 with
   | nil=>rfl
   | cons x l=>have:=hb (by simp); rw[this] at hc; cases hc
 subst h0
 obtain⟨rfl, -⟩:=jM m
 exact f0 λK1 H1=>dR (qI (iC (.sc (.slice _ _ _)) rfl) (eV (H1 _ _ (iB (dW.one (.inl rfl) (iJ.refl _) (fT _) ⟨g0,bK.g0 _,bP.none (bP.nil _),rfl,rfl⟩)))))
 exact lM (H1 _ _ (f0 λK1 H1=>dR (kR (qK (c:=bX) (bP.nil _) J5 λu=>vE rfl (kR (gG (c:=bX) 0 m J5 rfl J6 rfl wR rfl rfl (bK.g0 _) u rfl λg ok u=>qI (iC (aw _ _ _) rfl) (eV (H1 _ _ (iB (dW.one (.inl rfl) (iJ.refl _) (bD.refl _ _) ⟨g,ok,u,rfl,rfl⟩))))))))))
theorem aCD:aP prog 169=true:=by kernel_rfl
def tY (m:Nat) (y9:(List cT)) (q0:List cT) (q1:Int):Option (Lp ((List cT)×Int) (bE)):=
 if decide (q1 < (y9.length:Int)) then ((ix q0 q1).bind λx0=>(R8 m x0.Ids).bind λy0=>(ix q0 q1).bind λx1=>Gk (q0.set q1.toNat ({ x1 with Ids:=y0}),wrap .i64 (q1+1))) else Bk (q0,q1)
def OH (m:Nat) (p0:bE):Option (bE):=
 (IP m p0.Parts).bind λy9=>after (aR (λs=>tY m y9 s.1 s.2) m (y9,0)) λ⟨r0,r1⟩=>some ({ Name:=p0.Name,Parts:=r0}:bE)
theorem aHZ {w:Nat} {p0:bE} {o:bE} (h:aF) (m:OH w p0=some o):
 aM prog 115 [.agg (bI p0)] h (λr h'=>r= .agg (bI o)/\h'=h):=by
 refine fQ 28 [.cell 2 58] Tryz.func115 rfl rfl rfl rfl ?_
 unfold OH at m
 refine vs (v0 (gZ rfl rfl λk2 K3=>ve λu=>bG ([.sc (.string empty),sZ]) u MW rfl rfl λk5 K6=>qk K6 rfl (vs (v0 (dY xY rfl rfl (vl 1 _ oO rfl rfl rfl ?_))))))
 obtain⟨y9,Y0,m⟩:=aD m
 refine ve λu=>dO (aCC _ Y0) rfl aCD rfl ?_
 rintro x h' ⟨ag0,O0,K0,rfl,rfl⟩
 refine qk (bP.co u K0) (kU _ _ _) (dY xY rfl rfl (ve λu=>aL 2 ([.sc (.string p0.Name),aZ ag0]) u rfl rfl (cM rfl) (cG (cC _ _ _) rfl) VA rfl rfl λK1=>qk K1 rfl (vs (vs (v0 (dY xY rfl rfl (vl 2 (aZ ag0) oO rfl rfl rfl (bU (fK xX O0 rfl) (nU m (σ:=(List cT)×Int) (τ:=dE) (λg s=>[(g.t,.obj 70 (fl bX (s.1:List cT) g.sp)),(some k5,.obj 58 ([.sc (.string empty),sZ])),(some k2,.obj 58 ([.sc (.string p0.Name),aZ g]))]) (λg s=>bK g 3 (s.1:List cT).length) (λg s=>.c 1 (.ptr k2 0) (.c 2 (.ptr k5 0) (.c 10 (nZ (y9.length:Int)) (.c 11 (nZ s.2) .nil)))) ag0 O0 (lx (.k4 .nil)) ?_ ?_)))))))))
 rintro ag1 ⟨q0,q1⟩ x O1 m
 replace m:tY w y9 q0 q1=some x:=m
 unfold tY at m
 refine vs (v0 (vs (v0 ?_)))
 apply vi m<;>intro c0 m
 refine v0 (vs (v0 (vs (v0 (v0 (vz [(1000000,some k2,.obj 58 ([.sc (.string p0.Name),aZ ag1])),(12,ag1.t,.obj 70 (fl bX (q0:List cT) ag1.sp))] mixed (λu=>⟨λ_=>aO 2 u rfl,λ_=>aO 0 u rfl,trivial⟩) λu=>zF 0 rfl xY rfl (zL 1 0 (aZ ag1) rfl oO rfl rfl rfl (zI 2 rfl rfl (zF 3 rfl xY rfl (zL 4 0 (aZ ag1) rfl oO rfl rfl rfl (zI 5 rfl rfl ?_)))))))))))
 obtain⟨x0,X0,m⟩:=aD m
 refine zC 6 rfl (dG X0 qQ O1 rfl rfl) (zC 7 rfl (cX (bK.ne O1 X0) MY rfl rfl) (z5 8 rfl (λ_ _ hi hB=>eK (fo:=2) (.sl none 32 (map bC x0.Ids)) X0 wR O1 yC rfl (fV.get 1 hi rfl (hB 12 (by kernel_rfl))) (λ_=>rfl)) ?_))
 obtain⟨y0,Y1,m⟩:=aD m
 refine zE 9 rfl (dO (aHY _ Y1) rfl aCB rfl ?_)
 rintro x h' ⟨tg0,t0,K2,rfl,rfl⟩
 rw[kU]
 refine⟨⟨λ_=>aO 3 (bP.co u K2) rfl,λ_=>aO 1 (bP.co u K2) rfl,trivial⟩, ?_⟩
 obtain⟨x1,X1,m⟩:=aD m
 refine zC 10 rfl (dG X1 qQ O1 rfl rfl) (zC 11 rfl (cX (bK.ne O1 X1) MY rfl rfl) (zE 12 rfl (GL (s:=23) (.sl none 32 (map bC y0)) (aU (.cons _ (.refl _)) (bP.co u K2)).1 (Fz.ale (aU (.cons _ (.refl _)) (bP.co u K2)).1 (nY _ 0 t0 (bP.co u K2) rfl (.refl _))) (cY (fo:=2) ({ x1 with Ids:=y0}:cT) 0 ((aU (.cons _ (.refl _)) (bP.co u K2)).2) X1 wR O1 rfl rfl rfl rfl (cS.refl _ _) VO rfl rfl λK4=>⟨⟨λ_=>aO 2 K4 rfl,λe=>absurd e (by decide),trivial⟩, ?_⟩))))
 exact zX (qk (f:=MH 25 _ _ _ _ _ _ _ _ _ _ _ _ _) K4 rfl (v0 (eG m ag1 (bK.set O1) (lx (.k4 .nil)))))
 exact v0 (lR m ag1 O1 (lx (.k4 .nil)))
 rintro ag2 ⟨r0,r1⟩ t1 m
 refine vs (v0 (vl 2 (.agg ([.sc (.string p0.Name),aZ ag2])) pW rfl rfl rfl (ve λu=>aL 1 ([.sc (.string p0.Name),aZ ag2]) u rfl rfl rfl (by repeat (first | exact rfl | refine cG (jO _ _ _) ?_ | refine cG (cC _ _ _) ?_ | refine cG (gK _ _ _ _) ?_ | refine cG rfl ?_)) z7 rfl rfl λK5=>qk K5 rfl ?_)))
 refine v0 ?_
 cases m
 refine vrl λu=> ?_
 obtain⟨K7,le0⟩:=gA.fzO (n:=28) (f:=_) 0 0 ([.sc (.string p0.Name),.sl none 3 (map bX r0)]) u rfl (.cons (Fz.refl _ _ _) (.cons (Fz.aw 0 wR t1 u rfl (.refl _)) .nil))
 exact QE.mk le0 (dW.of1 (.inl rfl) (sJ (.agg (bI ({ Name:=p0.Name,Parts:=r0}:bE))) pW rfl (aW 0 K7 rfl) rfl) (aU (nil_sublist _) K7).1 (bD.refl _ _) ⟨rfl,rfl⟩)
theorem aCE:aP prog 115=true:=by kernel_rfl
end Go.Proofs.YtbbifdfldpfphaaGreat
