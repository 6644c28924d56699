import Derived.Test.YtbbifdfldpfphaaGreatK6P3
import Derived.Test.YtbbifdfldpfphaaGreatK6P1
import Derived.Lib.Bytealg
set_option linter.unusedSimpArgs false
set_option linter.unusedVariables false
set_option maxHeartbeats 4000000
set_option maxRecDepth 100000
namespace Go.Proofs.YtbbifdfldpfphaaGreat
open Go.Vm
def TP (m:Nat) (p0:Int):Option (Int):=
 grd (decide (0≤(IntKind.wrap .i64 (8*p0)))) <| some (IntKind.wrap .i64 (1*2 ^ (min ((IntKind.wrap .i64 (8*p0)):Int).toNat (IntKind.bits .i64))))
theorem aC2 {u:Nat} {p0:Int} {o:Int} (h:aE) (m:TP u p0=some o):
 aL Tryz.prog 166 [nZ p0] h (λr h'=>r=nZ o∧h'=h):=by
 refine fT 6 [.tmp 2] Tryz.func166 rfl rfl rfl rfl ?_
 unfold TP at m
 refine v (v (RD m λ_ m=>v ?_))
 cases m
 exact eA rfl
theorem XK:aP Tryz.prog 166=true:=by kernel_rfl
def yE (m:Nat) (p1:Int) (q0:List Int) (q1:Int):Option (Lp ((List Int)×Int) ((List Int)×Int)):=
 if (decide (0≤q1))=true then (grd (decide (0≤(IntKind.wrap .i64 (8*q1)))) <| (app q0 ([IntKind.wrap .u8 (p1.fdiv (2 ^ (min ((IntKind.wrap .i64 (8*q1)):Int).toNat (IntKind.bits .i64))))]:List Int)).bind λz0=>some (.go (z0,IntKind.wrap .i64 (q1 - 1)))) else some (.brk (q0,q1))
def HU (m:Nat) (p0:List Int) (p1:Int) (p2:Int):Option ((List Int)×Int):=
 after (if (decide (p2 < 1))=true then (some (.brk true)) else if (decide (7 < p2))=true then (some (.brk true)) else if (decide (p1 < 0))=true then (some (.brk true)) else (TP m p2).bind λy0=>some (.brk (decide (y0≤p1))):Option (Lp (Bool) ((List Int)×Int))) λj9=>if j9=true then (some (([]:List Int),1)) else (RN m p0).bind λy1=>after (aU (λs=>yE m p1 s.1 s.2) m (y1,IntKind.wrap .i64 (p2 - 1))) λ⟨r0,r1⟩=>some (r0,0)
theorem RO {w:Nat} {p0:List Int} {p1:Int} {p2:Int} {o:(List Int)×Int} (h:aE) (m:HU w p0 p1 p2=some o):
 aL Tryz.prog 101 [.sl none 1 (List.map cW p0),nZ p1,nZ p2] h (λr h'=>∃t:Option bY,(t=none→o.1= [])∧bQ h [(t,.tok 5 1 ((o.1:List Int).length*1))]∧r= .tup [ow t 1 (List.map cW o.1),nZ o.2]∧h'=hp h [(t,.tok 5 1 ((o.1:List Int).length*1))]):=by
 refine fT 43 [.tmp 6,.tmp 7] Tryz.func101 rfl rfl rfl rfl ?_
 unfold HU at m
 refine v (vs (vs (fQ m (σ:=Bool) (λs=> []) (λs=>.c 0 (.sl none 1 (List.map cW p0)) (.c 1 (nZ p1) (.c 2 (nZ p2) (.c 25 (.sc (.bool s)) .nil)))) (λx m=> ?_) ?_)))
 refine v ?_
 apply vi m <;> intro b0 m
 rw[b0]
 exact gJ m
 rw[b0]
 apply vi m <;> intro b1 m
 rw[b1]
 exact gJ m
 rw[b1]
 apply vi m <;> intro b2 m
 rw[b2]
 exact gJ m
 rw[b2]
 exact vk aC2 XK m rfl rfl λ_ m=>gJ m
 rintro _ j9 m
 refine v ?_
 apply vi m <;> intro c0 m
 refine v (v ?_)
 cases m
 exact vr λu=>dZ.of2 (.inl rfl) (f0 _ _ (.sc (.slice _ _ _)) rfl) (f0 _ _ (.sc (.int _ _)) rfl) (iT.refl _) (jD _ _) (bB.refl _ _) ⟨none,λ_=>rfl,bQ.none (bQ.nil _),rfl,rfl⟩
 refine v (v ?_)
 obtain⟨_,Y0,m⟩:=aC m
 refine ve λu=>cR (W96 _ Y0) rfl PR rfl ?_
 rintro x h' ⟨tg0,t0,K0,rfl,rfl⟩
 refine qk (bQ.co u K0) (iO _ _ _) (v (pB m (σ:=(List Int)×Int) (τ:=Option bY) (λg s=> [(g,.tok 5 1 ((s.1:List Int).length*1))]) (λg s=>(g=none→s.1= [])) (λg s=>.c 1 (nZ p1) (.c 8 (ow g 1 (List.map cW s.1)) (.c 9 (nZ s.2) .nil))) tg0 t0 (lx (.k3 .nil)) ?_ ?_))
 rintro tg1 ⟨q0,q1⟩ x t1 m
 replace m:yE w p1 q0 q1=some x:=m
 unfold yE at m
 refine v (v ?_)
 apply vi m <;> intro c1 m
 refine v (v (v (RD m λ_ m=>bV (eD (List.map cW ([IntKind.wrap .u8 (p1.fdiv (2 ^ (min ((IntKind.wrap .i64 (8*q1)):Int).toNat (IntKind.bits .i64))))]:List Int)) jH rfl rfl rfl rfl) ?_)))
 obtain⟨z0,Z0,m⟩:=aC m
 exact ve λu=>e8 (c:=cW) 0 Z0 jH rfl rfl rfl t1 u rfl λtg2 t2 K1=>qk K1 rfl (v (fB m tg2 t2 (lx (.k3 .nil))))
 exact v (mL m tg1 t1 (lx (.k3 .nil)))
 rintro tg3 ⟨r0,r1⟩ t3 m
 refine v (v ?_)
 cases m
 exact vr λu=>dZ.of2 (.inl rfl) (f0 _ _ (ow _ _ _) rfl) (f0 _ _ (.sc (.int _ _)) rfl) (aW (h0:=h) (L':= [(tg3,.tok 5 1 ((r0:List Int).length*1))]) (.refl _) u).1 (bB.refl _ _) (bB.refl _ _) ⟨tg3,t3,(aW (h0:=h) (L':= [(tg3,.tok 5 1 ((r0:List Int).length*1))]) (.refl _) u).2,rfl,rfl⟩
theorem RP:aP Tryz.prog 101=true:=by kernel_rfl
def GL (m:Nat) (x0:dB) (q0:List Int) (q1:Int):Option (Lp ((List Int)×Int) (Lp ((List Int)×Int) ((List Int)×Int))):=
 if (decide (q1 < (x0.Ids.length:Int)))=true then ((ix x0.Ids q1).bind λx1=>(app q0 x1.1).bind λz0=>some (.go (z0,IntKind.wrap .i64 (q1+1)))) else some (.brk (q0,q1))
def GM (m:Nat) (p0:aY) (q0:List Int) (q1:Int):Option (Lp ((List Int)×Int) ((List Int)×Int)):=
 if (decide (q1 < (p0.Parts.length:Int)))=true then ((ix p0.Parts q1).bind λx0=>(app q0 ([IntKind.wrap .u8 (x0.Path.size:Int)]:List Int)).bind λz0=>(app z0 (sK x0.Path)).bind λz1=>(HU m z1 x0.Size 2).bind λy0=>(app y0.1 ([IntKind.wrap .u8 (x0.Ids.length:Int)]:List Int)).bind λz2=>after (aU (λs=>GL m x0 s.1 s.2) m (z2,0)) λ⟨r0,r1⟩=>some (.go (r0,IntKind.wrap .i64 (q1+1)))) else some (.brk (q0,q1))
def M42 (m:Nat) (p0:aY):Option ((List Int)×Int):=
 (EH m p0).bind λy6=>if (y6 !=0)=true then (some ([],y6)) else (app ([IntKind.wrap .u8 (p0.Name.size:Int)]:List Int) (sK p0.Name)).bind λz0=>(app z0 ([IntKind.wrap .u8 (p0.Parts.length:Int)]:List Int)).bind λz1=>after (aU (λs=>GM m p0 s.1 s.2) m (z1,0)) λ⟨r0,r1⟩=>some (r0,0)
theorem W42 {w:Nat} {p0:aY} {o:(List Int)×Int} (h:aE) (m:M42 w p0=some o):
 aL Tryz.prog 42 [.agg (bC p0)] h (λr h'=>r= .tup [.sl none 1 (List.map cW o.1),nZ o.2]∧h'=h):=by
 refine fT 74 [.tmp 2,.tmp 3] Tryz.func42 rfl rfl rfl rfl ?_
 unfold M42 at m
 refine v (hX rfl rfl λk2 K3=>v (vl 0 (.agg (bC p0)) nU rfl rfl rfl (vk PP HS m rfl rfl λ_ m=>v (v ?_))))
 apply vi m <;> intro c0 m
 refine v (v ?_)
 cases m
 exact vr λu=>dZ.of2 (.inl rfl) (f0 _ _ (.sc (.slice _ _ _)) rfl) (f0 _ _ (.sc (.int _ _)) rfl) (aW (List.nil_sublist _) u).1 (aR _) (bB.refl _ _) ⟨rfl,rfl⟩
 refine v (v (vl 0 _ wS rfl rfl rfl (bV (oB PI rfl) (ve λu=>FU (c:=cW) ([IntKind.wrap .u8 (p0.Name.size:Int)]:List Int) u jH rfl rfl rfl rfl λtg0 t0 K0=>qk K0 rfl (vl 1 _ wS rfl rfl rfl ?_)))))
 obtain⟨z0,Z0,m⟩:=aC m
 refine ve λu=>LG (c:=cW) 0 Z0 u9 jH rfl (λ_=>rfl) rfl rfl t0 u rfl λtg1 t1 K1=>qk K1 rfl (v (vl 1 _ nE rfl rfl rfl (cY uY rfl (bV (eD (List.map cW ([IntKind.wrap .u8 (p0.Parts.length:Int)]:List Int)) jH rfl rfl rfl rfl) ?_))))
 obtain⟨z1,Z1,m⟩:=aC m
 refine ve λu=>e8 (c:=cW) 0 Z1 jH rfl rfl rfl t1 u rfl λtg2 t2 K2=>qk K2 rfl (v (vl 1 _ nE rfl rfl rfl (cY uY rfl (pB m (σ:=(List Int)×Int) (τ:=Option bY) (λg s=> [(g,.tok 5 1 ((s.1:List Int).length*1)),(some k2,.obj 58 (bC p0))]) (λg s=>(g=none→s.1= [])) (λg s=>.c 5 (ow g 1 (List.map cW s.1)) (.c 31 (.sl none 3 (List.map bT p0.Parts)) (.c 32 (nZ (p0.Parts.length:Int)) (.c 33 (nZ s.2) .nil)))) tg2 t2 (lx (.k4 .nil)) ?_ ?_))))
 rintro tg3 ⟨q0,q1⟩ x t3 m
 replace m:GM w p0 q0 q1=some x:=m
 unfold GM at m
 refine v (v ?_)
 apply vi m <;> intro c1 m
 refine v (v (v (vx m rJ rfl rfl λx0 _ m=>va (.agg (bT x0)) CI rfl rfl (ve λu=>bG (VI) u GI rfl rfl λk257 K4=>qk K4 rfl (ve λu=>aJ 0 (bT x0) u rfl rfl rfl rfl JG rfl rfl λK5=>qk K5 rfl (v (vz [(1000000,some k257,.obj 70 (bT x0))] mixed (λu=>⟨λ_=>aK 0 u rfl,trivial⟩) λu=>zC 0 rfl (eZ (ow _ _ _) rfl) (zF 1 rfl LU rfl (zL 2 0 (.sc (.string x0.Path)) rfl wS rfl rfl rfl (zC 3 rfl (oB PI rfl) (zC 4 rfl (BM RE ti5 rfl) (zC 5 rfl (eD (List.map cW ([IntKind.wrap .u8 (x0.Path.size:Int)]:List Int)) jH rfl rfl rfl rfl) (zF 7 rfl LU rfl (zL 8 0 (.sc (.string x0.Path)) rfl wS rfl rfl rfl ?_))))))))))))))
 obtain⟨z2,Z2,m⟩:=aC m
 refine zE 6 rfl (e8 (c:=cW) 1 Z2 jH rfl rfl rfl t3 u rfl λtg4 t4 K6=>⟨⟨λ_=>aK 0 K6 rfl,trivial⟩, ?_⟩)
 obtain⟨z3,Z3,m⟩:=aC m
 refine zE 9 rfl (LG (c:=cW) 1 Z3 u9 jH rfl (λ_=>rfl) rfl rfl t4 K6 rfl λtg5 t5 K7=>⟨⟨λ_=>aK 0 K7 rfl,trivial⟩, ?_⟩)
 refine zC 10 rfl (hU (ow _ _ _) rfl) (zX (qk (f:=.c 5 _ (.c 46 _ (.c 43 _ (.c 45 _ (.c 44 _ (fq6 42 _ _ _ _ _ _ _)))))) K7 rfl (v (vl 0 _ cD rfl rfl rfl ?_))))
 obtain⟨_,Y0,m⟩:=aC m
 refine ve λu=>xU (s:=48) (.sl none 1 (List.map cW z3)) (aW (.cons_cons _ (.cons _ (.refl _))) u).1 (Fz.ale (aW (.cons_cons _ (.cons _ (.refl _))) u).1 (mW _ 1 t5 u rfl (.refl _))) (cR (RO _ Y0) rfl RP rfl ?_)
 rintro x h' ⟨tg6,t6,K8,rfl,rfl⟩
 refine qk (bQ.co ((aW (.cons_cons _ (.cons _ (.refl _))) u).2) K8) (iO _ _ _) (v (vl 1 _ u0 rfl rfl rfl (cY rK rfl (bV (eD (List.map cW ([IntKind.wrap .u8 (x0.Ids.length:Int)]:List Int)) jH rfl rfl rfl rfl) ?_))))
 obtain⟨z4,Z4,m⟩:=aC m
 refine ve λu=>e8 (c:=cW) 0 Z4 jH rfl rfl rfl t6 u rfl λtg7 t7 K9=>qk K9 rfl (v (vl 1 _ u0 rfl rfl rfl (cY rK rfl (pB m (σ:=(List Int)×Int) (τ:=Option bY) (λg s=> [(g,.tok 5 1 ((s.1:List Int).length*1)),(some k257,.obj 70 (bT x0)),(some k2,.obj 58 (bC p0))]) (λg s=>(g=none→s.1= [])) (λg s=>.c 5 (ow g 1 (List.map cW s.1)) (.c 31 (.sl none 3 (List.map bT p0.Parts)) (.c 32 (nZ (p0.Parts.length:Int)) (.c 33 (nZ q1) (.c 62 (.sl none 32 (List.map bH x0.Ids)) (.c 63 (nZ (x0.Ids.length:Int)) (.c 64 (nZ s.2) .nil))))))) tg7 t7 (lx (.k7 .nil)) ?_ ?_))))
 rintro tg8 ⟨q2,q3⟩ x t8 m
 replace m:GL w x0 q2 q3=some x:=m
 unfold GL at m
 refine v (v ?_)
 apply vi m <;> intro c2 m
 refine v (v (v (vx m xZ rfl rfl λx1 _ m=>va (.agg (bH x1)) fL rfl rfl (ve λu=>bG (bH jI) u JD rfl rfl λk343 K10=>qk K10 rfl (ve λu=>aJ 0 (bH x1) u rfl rfl rfl rfl JC rfl rfl λK11=>qk K11 rfl (v (bV (D7 sN rfl) ?_)))))))
 obtain⟨z5,Z5,m⟩:=aC m
 exact ve λu=>e8 (c:=cW) 1 Z5 jH rfl rfl rfl t8 u (xR (aX 0 u rfl) rfl rfl) λtg9 t9 K12=>qk K12 rfl (v (fB m tg9 t9 (nD [1,2,3] rfl rfl (.k7 .nil))))
 exact v (mL m tg8 t8 (lx (.k7 .nil)))
 rintro tg10 ⟨r0,r1⟩ t10 m
 exact v (fB m tg10 t10 (nD [0,2] rfl rfl (.k4 .nil)))
 exact v (mL m tg3 t3 (lx (.k4 .nil)))
 rintro tg11 ⟨r2,r3⟩ t11 m
 refine v (v ?_)
 cases m
 exact vr λu=>dZ.of2 (.inl rfl) (f0 _ _ (ow _ _ _) rfl) (f0 _ _ (.sc (.int _ _)) rfl) (aW (List.nil_sublist _) u).1 ((eQ _ 0 t11 u rfl)) (bB.refl _ _) ⟨rfl,rfl⟩
theorem aC4:aP Tryz.prog 42=true:=by kernel_rfl
end Go.Proofs.YtbbifdfldpfphaaGreat
namespace Go.Vm
theorem wr {n:Int} (h: -9223372036854775808≤n) (h2:n < 9223372036854775808):IntKind.wrap .i64 n=n:=by
 have e:IntKind.wrap .i64 n=(if decide (n % 18446744073709551616≥9223372036854775808)=true then n % 18446744073709551616 - 18446744073709551616 else n % 18446744073709551616):=rfl
 rw[e]
 simp only[decide_eq_true_eq]
 split <;> omega
theorem hH {i:Nat} (h:i < 1000000000):IntKind.wrap .i64 ((i:Int)+1)=((i+1:Nat):Int):=by rw[wr (by omega) (by omega)]; rfl
theorem yF {i:Nat} (h:i < 1000000000) (h0:0 < i):IntKind.wrap .i64 ((i:Int) - 1)=((i - 1:Nat):Int):=by rw[wr (by omega) (by omega)]; omega
theorem a8 {α:Type} (l:List α) (i:Nat):ix l (i:Int)=l[i]? :=by simp[ix]
theorem pU {α:Type} (l:List α) {i:Int} (h:0≤i):ix l i=l[i.toNat]? :=by simp[ix,h]
theorem bW {α:Type} {xs ys:List α} (h:xs.length+ys.length≤1000000000):app xs ys=some (xs++ys):=by simp[app,h]
theorem cM {σ ρ:Type} (c:Prop) [Decidable c] (a b:Option (Lp σ ρ)) (k:σ→Option ρ):after (if c then a else b) k=if c then after a k else after b k:=by split <;> rfl
theorem aG {σ ρ:Type} (s:σ) (k:σ→Option ρ):after (some (.brk s)) k=k s:=rfl
theorem cF {σ ρ:Type} (r:ρ) (k:σ→Option ρ):after (some (.ret r)) k=some r:=rfl
theorem dE {α β:Type} (c:Prop) [Decidable c] (a b:Option α) (k:α→Option β):(if c then a else b).bind k=if c then a.bind k else b.bind k:=by split <;> rfl
def LF {S ρ:Type} (emb:Nat→S) (p:Nat→Bool) (rv:Nat→ρ) (n:Nat):Lp S ρ:=match (List.range n).find? p with
 | none=>.brk (emb n)
 | some i=>.ret (rv i)
theorem EJ {S ρ:Type} {body:S→Option (Lp S ρ)} (emb:Nat→S) (p:Nat→Bool) (rv:Nat→ρ):∀(m k F:Nat),m < F→
    (∀i,k≤i→i < k+m→(∀j,j < i→k≤j→p j=false)→body (emb i)=some (if p i then .ret (rv i) else .go (emb (i+1))))→((∀j,k≤j→j < k+m→p j=false)→body (emb (k+m))=some (.brk (emb (k+m))))→
    aU body F (emb k)=some (match (List.range' k m).find? p with | none=>.brk (emb (k+m)) | some i=>.ret (rv i))
  | 0,k,F+1,_,_,he=>by
    have:=he (λj h1 h2=>by omega)
    simp only[Nat.add_zero] at this
    simp[aU,this]
  | m+1,k,F+1,hF,hb,he=>by
    have h0:=hb k (Nat.le_refl _) (by omega) (λj h1 h2=>by omega)
    rw[List.range'_succ,List.find?_cons]
    cases hp:p k with
    | true=>simp[aU,h0,hp]
    | false=>
      have:=EJ (body:=body) emb p rv m (k+1) F (by omega) (λi h1 h2 h3=>hb i (by omega) (by omega) (λj h4 h5=>by
        by_cases e:j=k
        · subst e; exact hp
        · exact h3 j h4 (by omega))) (λh=>by
        rw[show k+1+m=k+(m+1) from by omega]
        exact he λj h4 h5=>by
          by_cases e:j=k
          · subst e; exact hp
          · exact h j (by omega) (by omega))
      simp only[aU,h0,hp]
      rw[if_neg (by simp)]
      simp only[this,show k+1+m=k+(m+1) from by omega]
theorem eW {S ρ:Type} {body:S→Option (Lp S ρ)} {n F:Nat} {s0:S} (emb:Nat→S) (p:Nat→Bool) (rv:Nat→ρ) (hF:n < F) (h0:s0=emb 0)
    (hb:∀i,i < n→(∀j,j < i→p j=false)→body (emb i)=some (if p i then .ret (rv i) else .go (emb (i+1)))) (he:(∀j,j < n→p j=false)→body (emb n)=some (.brk (emb n))):
    aU body F s0=some (LF emb p rv n):=by
  subst h0
  have:=EJ (body:=body) emb p rv n 0 F hF (λi _ h2 h3=>hb i (by omega) λj hj=>h3 j hj (Nat.zero_le _)) (λh=>by simpa using he λj hj=>h j (Nat.zero_le _) (by omega))
  rw[this,LF,List.range_eq_range']
  simp
theorem iA {S ρ:Type} {emb:Nat→S} {p:Nat→Bool} {r:ρ} {n:Nat}:LF emb p (λ_=>r) n=if (List.range n).any p then .ret r else .brk (emb n):=by
 unfold LF
 split
 ·rename_i h
  rw[if_neg]
  simp only[List.any_eq_true,not_exists,not_and]
  exact λx hx=>List.find?_eq_none.1 h x hx
 ·rename_i i h
  rw[if_pos]
  exact List.any_eq_true.2 ⟨i,List.mem_of_find?_eq_some h,List.find?_some h⟩
end Go.Vm
namespace Go.Proofs.YtbbifdfldpfphaaGreat
open Go.Vm
def HV (m:Nat) (p0:Int) (p1:Int) (p2:Int):Option (Bool):=
 after (if (decide (p1≤p0))=true then (some (.brk (decide (p0≤p2)))) else some (.brk false):Option (Lp (Bool) (Bool))) λj4=>some j4
theorem OI {u:Nat} {p0:Int} {p1:Int} {p2:Int} {o:Bool} (h:aE) (m:HV u p0 p1 p2=some o):
 aL Tryz.prog 97 [nZ p0,nZ p1,nZ p2] h (λr h'=>r= .sc (.bool o)∧h'=h):=by
 refine fT 15 [.tmp 6] Tryz.func97 rfl rfl rfl rfl ?_
 unfold HV at m
 refine v (vs (fQ m (σ:=Bool) (λs=> []) (λs=>.c 6 (.sc (.bool s)) .nil) (λx m=> ?_) ?_))
 refine v ?_
 apply vi m <;> intro b5 m
 rw[b5]
 exact iZ m
 rw[b5]
 exact iZ m
 rintro _ j4 m
 refine v ?_
 obtain rfl:=eU m
 exact eA rfl
theorem zW:aP Tryz.prog 97=true:=by kernel_rfl
def wT (m:Nat) (p0:bL) (p1:bL) (q0:Int):Option (Lp (Int) (Bool)):=
 if (decide (q0 < 32))=true then ((ix p0.1 q0).bind λx0=>(ix p1.1 q0).bind λx1=>if (x0 !=x1)=true then ((ix p0.1 q0).bind λx2=>(ix p1.1 q0).bind λx3=>some (.ret (decide (x2 < x3)))) else some (.go (IntKind.wrap .i64 (q0+1)))) else some (.brk q0)
def MC (m:Nat) (p0:bL) (p1:bL):Option (Bool):=
 after (aU (λs=>wT m p0 p1 s) m 0) λr0=>some false
theorem XL {w:Nat} {p0:bL} {p1:bL} {o:Bool} (h:aE) (m:MC w p0 p1=some o):
 aL Tryz.prog 147 [.agg (bH p0),.agg (bH p1)] h (λr h'=>r= .sc (.bool o)∧h'=h):=by
 refine fT 24 [.tmp 4] Tryz.func147 rfl rfl rfl rfl ?_
 unfold MC at m
 refine v (hX rfl rfl λk2 K3=>hX rfl rfl λk5 K6=>v (kD m (σ:=Int) (λs=> [(some k5,.obj 36 (bH p1)),(some k2,.obj 36 (bH p0))]) (λs=>.c 2 (.ptr k2 0) (.c 3 (.ptr k5 0) (.c 5 (nZ s) .nil))) (lx (.k3 .nil)) ?_ ?_))
 rintro _ q0 x m
 replace m:wT w p0 p1 q0=some x:=m
 unfold wT at m
 refine v (v ?_)
 apply vi m <;> intro c0 m
 refine v (v (v (vq (by kernel_rfl) ?_)))
 obtain⟨_,X0,m⟩:=aC m
 refine bV (mA X0 sN rfl rfl) (vn (λu=>nK 0 X0 EF rfl (aX 1 u rfl) rfl) ?_)
 obtain⟨_,X1,m⟩:=aC m
 refine bV (mA X1 sN rfl rfl) (vn (λu=>nK 0 X1 EF rfl (aX 0 u rfl) rfl) (v ?_))
 apply vi m <;> intro c1 m
 refine v (vq (by kernel_rfl) ?_)
 obtain⟨_,X2,m⟩:=aC m
 refine bV (mA X2 sN rfl rfl) (vn (λu=>nK 0 X2 EF rfl (aX 1 u rfl) rfl) ?_)
 obtain⟨_,X3,m⟩:=aC m
 refine bV (mA X3 sN rfl rfl) (vn (λu=>nK 0 X3 EF rfl (aX 0 u rfl) rfl) (v (gM m λm=> ?_)))
 cases m
 exact eA rfl
 exact v (v (gY m))
 exact v (EC m)
 rintro _ r0 m
 refine v (v ?_)
 obtain rfl:=eU m
 exact eA rfl
theorem RQ:aP Tryz.prog 147=true:=by kernel_rfl
def sW (m:Nat) (p0:aA) (p1:List bE) (q0:Int):Option (Lp (Int) (Bool)):=
 if (decide (q0 < (p1.length:Int)))=true then ((ix p1 q0).bind λx0=>after (if (decide (x0.Vol < 0))=true then (some (.brk true)) else if (decide ((p0.Vols.length:Int)≤x0.Vol))=true then (some (.brk true)) else (ix p0.Vols x0.Vol).bind λx1=>if (x1.State !=2)=true then (some (.brk true)) else (ix p0.Vols x0.Vol).bind λx2=>(HV m x0.File 1 x2.Files).bind λy0=>if (!y0)=true then (some (.brk true)) else (HV m x0.Off 0 16777215).bind λy1=>if (!y1)=true then (some (.brk true)) else (HV m x0.Len 13 8013).bind λy2=>some (.brk (!y2)):Option (Lp (Bool) (Lp (Int) (Bool)))) λj0=>if j0=true then (some (.ret false)) else after (if (decide (0 < q0))=true then ((ix p1 (IntKind.wrap .i64 (q0 - 1))).bind λx3=>after (if (decide (x3.Vol < x0.Vol))=true then (some (.brk (!true))) else if (x3.Vol==x0.Vol)=true then (if (decide (x3.File < x0.File))=true then (some (.brk (!true))) else if (x3.File==x0.File)=true then (some (.brk (!(decide (x3.Off < x0.Off))))) else some (.brk (!false))) else some (.brk (!false)):Option (Lp (Bool) (Lp (Unit) (Lp (Int) (Bool))))) λj1=>if j1=true then (some (.ret (.ret false))) else some (.brk ())) else some (.brk ()):Option (Lp (Unit) (Lp (Int) (Bool)))) λ_=>some (.go (IntKind.wrap .i64 (q0+1)))) else some (.brk q0)
def zY (m:Nat) (p0:aA) (p1:List bE):Option (Bool):=
 if (decide (200 < (p1.length:Int)))=true then (some false) else after (aU (λs=>sW m p0 p1 s) m 0) λr0=>some true
theorem JL {w:Nat} {p0:aA} {p1:List bE} {o:Bool} (h:aE) (m:zY w p0 p1=some o):
 aL Tryz.prog 148 [.agg (aF p0),.sl none 4 (List.map aQ p1)] h (λr h'=>r= .sc (.bool o)∧h'=h):=by
 refine fT 108 [.tmp 4] Tryz.func148 rfl rfl rfl rfl ?_
 unfold zY at m
 refine v (hX rfl rfl λk2 K3=>v (cY jO rfl (v ?_)))
 apply vi m <;> intro c7 m
 refine v (v ?_)
 obtain rfl:=eU m
 exact eA rfl
 refine v (v (kD m (σ:=Int) (λs=> [(some k2,.obj 30 (aF p0))]) (λs=>.c 1 (.sl none 4 (List.map aQ p1)) (.c 2 (.ptr k2 0) (.c 5 (nZ s) .nil))) (lx (.k3 .nil)) ?_ ?_))
 rintro _ q0 x m
 replace m:sW w p0 p1 q0=some x:=m
 unfold sW at m
 refine v (cY jO rfl (v ?_))
 apply vi m <;> intro c0 m
 refine v (v (v (vx m lA rfl rfl λx0 _ m=>va (.agg (aQ x0)) oM rfl rfl (ve λu=>bG (Q5) u JH rfl rfl λk202 K0=>qk K0 rfl (ve λu=>aJ 0 (aQ x0) u rfl rfl rfl rfl TJ rfl rfl λK1=>qk K1 rfl (vs (vs (fQ m (σ:=Bool) (λs=> [(some k202,.obj 81 (aQ x0)),(some k2,.obj 30 (aF p0))]) (λs=>.c 1 (.sl none 4 (List.map aQ p1)) (.c 2 (.ptr k2 0) (.c 5 (nZ q0) (.c 6 (.ptr k202 0) (.c 66 (.sc (.bool s)) .nil))))) (λx m=> ?_) ?_))))))))
 refine v (vq (by kernel_rfl) (vl 0 _ cD rfl rfl rfl ?_))
 apply vi m <;> intro b0 m
 rw[b0]
 exact mC m
 rw[b0]
 refine vl 0 _ cD rfl rfl rfl (vl 1 _ kJ rfl rfl rfl (cY xX rfl ?_))
 apply vi m <;> intro b1 m
 rw[b1]
 exact mC m
 rw[b1]
 refine vl 1 _ kJ rfl rfl rfl (vl 0 _ cD rfl rfl rfl (vx m pD rfl rfl λ_ _ m=> ?_))
 apply vi m <;> intro b2 m
 rw[b2]
 exact mC m
 rw[b2]
 refine vl 0 _ cD rfl rfl rfl (vl 1 _ kJ rfl rfl rfl (vl 0 _ cD rfl rfl rfl (vx m pD rfl rfl λ_ _ m=>vk OI zW m rfl rfl λ_ m=> ?_)))
 apply vi m <;> intro b3 m
 rw[b3]
 exact mC m
 rw[b3]
 refine vl 0 _ cD rfl rfl rfl (vk OI zW m rfl rfl λ_ m=> ?_)
 apply vi m <;> intro b4 m
 rw[b4]
 exact mC m
 rw[b4]
 exact vl 0 _ cD rfl rfl rfl (vk OI zW m rfl rfl λ_ m=>mC m)
 rintro _ j0 m
 refine v ?_
 apply vi m <;> intro c1 m
 refine v (v (gM m λm=> ?_))
 obtain rfl:=eU m
 exact eA rfl
 refine v (v (fQ m (σ:=Unit) (λs=> [(some k202,.obj 81 (aQ x0)),(some k2,.obj 30 (aF p0))]) (λs=>.c 1 (.sl none 4 (List.map aQ p1)) (.c 2 (.ptr k2 0) (.c 5 (nZ q0) .nil))) (λx m=> ?_) ?_))
 refine v ?_
 apply vi m <;> intro c2 m
 refine v (vx m lA rfl rfl λx1 _ m=>va (.agg (aQ x1)) oM rfl rfl (ve λu=>bG (Q5) u JH rfl rfl λk268 K2=>qk K2 rfl (ve λu=>aJ 0 (aQ x1) u rfl rfl rfl rfl TJ rfl rfl λK4=>qk K4 rfl (vs (fQ m (σ:=Bool) (λs=> [(some k268,.obj 81 (aQ x1)),(some k202,.obj 81 (aQ x0)),(some k2,.obj 30 (aF p0))]) (λs=>.c 1 (.sl none 4 (List.map aQ p1)) (.c 2 (.ptr k2 0) (.c 5 (nZ q0) (.c 107 (.sc (.bool s)) .nil)))) (λx m=> ?_) ?_)))))
 refine v (vl 0 _ cD rfl rfl rfl (vl 1 _ cD rfl rfl rfl ?_))
 apply vi m <;> intro b5 m
 rw[b5]
 exact gJ m
 rw[b5]
 refine vl 0 _ cD rfl rfl rfl (vl 1 _ cD rfl rfl rfl ?_)
 apply vi m <;> intro b6 m
 rw[b6]
 refine vl 0 _ cD rfl rfl rfl (vl 1 _ cD rfl rfl rfl ?_)
 apply vi m <;> intro b7 m
 rw[b7]
 exact gJ m
 rw[b7]
 refine vl 0 _ cD rfl rfl rfl (vl 1 _ cD rfl rfl rfl ?_)
 apply vi m <;> intro b8 m
 rw[b8]
 exact vl 0 _ cD rfl rfl rfl (vl 1 _ cD rfl rfl rfl (gJ m))
 rw[b8]
 exact gJ m
 rw[b6]
 exact gJ m
 rintro _ j1 m
 refine v ?_
 apply vi m <;> intro c3 m
 refine v (v (gM m λm=>gM m λm=> ?_))
 obtain rfl:=eU m
 exact eA rfl
 exact v (B7 m (nD [1,2] rfl rfl (.k3 .nil)))
 exact v (gY m)
 rintro _ _ m
 exact v (B7 m (nD [1] rfl rfl (.k3 .nil)))
 exact v (EC m)
 rintro _ r0 m
 refine v (v ?_)
 obtain rfl:=eU m
 exact eA rfl
theorem AZ:aP Tryz.prog 148=true:=by kernel_rfl
def sX (m:Nat) (p0:ByteArray) (q0:Int):Option (Lp (Int) (Bool)):=
 if (decide (q0 < (p0.size:Int)))=true then (after ((OV p0 q0).bind λx0=>if (decide (x0 < 33))=true then (some (.brk true)) else (OV p0 q0).bind λx1=>some (.brk (decide (126 < x1))):Option (Lp (Bool) (Lp (Int) (Bool)))) λj0=>if j0=true then (some (.ret false)) else some (.go (IntKind.wrap .i64 (q0+1)))) else some (.brk q0)
def CN (m:Nat) (p0:ByteArray):Option (Bool):=
 after (aU (λs=>sX m p0 s) m 0) λr0=>after (if (decide (1≤(p0.size:Int)))=true then (some (.brk (decide ((p0.size:Int)≤20)))) else some (.brk false):Option (Lp (Bool) (Bool))) λj0=>some j0
theorem MD {u:Nat} {p0:ByteArray} {o:Bool} (h:aE) (m:CN u p0=some o):
 aL Tryz.prog 140 [.sc (.string p0)] h (λr h'=>r= .sc (.bool o)∧h'=h):=by
 refine fT 28 [.tmp 2] Tryz.func140 rfl rfl rfl rfl ?_
 unfold CN at m
 refine v (v (kD m (σ:=Int) (λs=> []) (λs=>.c 0 (.sc (.string p0)) (.c 3 (nZ s) .nil)) (lx (.k2 .nil)) ?_ ?_))
 rintro _ q0 x m
 replace m:sX u p0 q0=some x:=m
 unfold sX at m
 refine v (bV (oB PI rfl) (v ?_))
 apply vi m <;> intro c0 m
 refine v (v (vs (fQ m (σ:=Bool) (λs=> []) (λs=>.c 0 (.sc (.string p0)) (.c 3 (nZ q0) (.c 19 (.sc (.bool s)) .nil))) (λx m=> ?_) ?_)))
 refine v ?_
 obtain⟨_,X0,m⟩:=aC m
 refine bV (HN X0 u9 rfl rfl) ?_
 apply vi m <;> intro b0 m
 rw[b0]
 exact gY m
 rw[b0]
 obtain⟨_,X1,m⟩:=aC m
 exact bV (HN X1 u9 rfl rfl) (gY m)
 rintro _ j0 m
 refine v ?_
 apply vi m <;> intro c1 m
 refine v (v (gM m λm=> ?_))
 obtain rfl:=eU m
 exact eA rfl
 exact v (v (rF m))
 exact v (OH m)
 rintro _ r0 m
 refine vs (fQ m (σ:=Bool) (λs=> []) (λs=>.c 2 (.sc (.bool s)) .nil) (λx m=> ?_) ?_)
 refine v (bV (oB PI rfl) ?_)
 apply vi m <;> intro b1 m
 rw[b1]
 exact bV (oB PI rfl) (iZ m)
 rw[b1]
 exact iZ m
 rintro _ j1 m
 refine v ?_
 obtain rfl:=eU m
 exact eA rfl
theorem EK:aP Tryz.prog 140=true:=by kernel_rfl
def yG (m:Nat) (p0:aY) (q0:Int):Option (Lp (Int) (Bool)):=
 if (decide (q0 < (p0.Parts.length:Int)))=true then ((ix p0.Parts q0).bind λx0=>after ((CN m x0.Path).bind λy0=>if (!y0)=true then (some (.brk true)) else if (decide (0 < q0))=true then ((ix p0.Parts (IntKind.wrap .i64 (q0 - 1))).bind λx1=>if (Op.bytesLess x0.Path.toList x1.Path.toList || x0.Path.toList==x1.Path.toList)=true then (some (.brk true)) else if (decide (x0.Size < 0))=true then (some (.brk true)) else if (decide (200 < x0.Size))=true then (some (.brk true)) else if (decide (25 < (x0.Ids.length:Int)))=true then (some (.brk true)) else some (.brk (((x0.Ids.length:Int)==0) !=(x0.Size==0)))) else if (decide (x0.Size < 0))=true then (some (.brk true)) else if (decide (200 < x0.Size))=true then (some (.brk true)) else if (decide (25 < (x0.Ids.length:Int)))=true then (some (.brk true)) else some (.brk (((x0.Ids.length:Int)==0) !=(x0.Size==0))):Option (Lp (Bool) (Lp (Int) (Bool)))) λj0=>if j0=true then (some (.ret false)) else some (.go (IntKind.wrap .i64 (q0+1)))) else some (.brk q0)
def VS (m:Nat) (p0:aY):Option (Bool):=
 after ((CN m p0.Name).bind λy0=>if (!y0)=true then (some (.brk true)) else some (.brk (decide (6 < (p0.Parts.length:Int)))):Option (Lp (Bool) (Bool))) λj0=>if j0=true then (some false) else after (aU (λs=>yG m p0 s) m 0) λr0=>some true
theorem W98 {w:Nat} {p0:aY} {o:Bool} (h:aE) (m:VS w p0=some o):
 aL Tryz.prog 98 [.agg (bC p0)] h (λr h'=>r= .sc (.bool o)∧h'=h):=by
 refine fT 73 [.tmp 2] Tryz.func98 rfl rfl rfl rfl ?_
 unfold VS at m
 refine v (hX rfl rfl λk2 K3=>vs (vs (fQ m (σ:=Bool) (λs=> [(some k2,.obj 58 (bC p0))]) (λs=>.c 1 (.ptr k2 0) (.c 14 (.sc (.bool s)) .nil)) (λx m=> ?_) ?_)))
 refine v (vl 0 _ wS rfl rfl rfl (vk MD EK m rfl rfl λ_ m=> ?_))
 apply vi m <;> intro b0 m
 rw[b0]
 exact rF m
 rw[b0]
 exact vl 0 _ nE rfl rfl rfl (cY uY rfl (rF m))
 rintro _ j0 m
 refine v ?_
 apply vi m <;> intro c0 m
 refine v (v ?_)
 obtain rfl:=eU m
 exact eA rfl
 refine v (v (kD m (σ:=Int) (λs=> [(some k2,.obj 58 (bC p0))]) (λs=>.c 1 (.ptr k2 0) (.c 3 (nZ s) .nil)) (lx (.k2 .nil)) ?_ ?_))
 rintro _ q0 x m
 replace m:yG w p0 q0=some x:=m
 unfold yG at m
 refine v (vl 0 _ nE rfl rfl rfl (cY uY rfl (v ?_)))
 apply vi m <;> intro c1 m
 refine v (v (v (vl 0 _ nE rfl rfl rfl (vx m rJ rfl rfl λx0 _ m=>va (.agg (bT x0)) CI rfl rfl (ve λu=>bG (VI) u GI rfl rfl λk112 K0=>qk K0 rfl (ve λu=>aJ 0 (bT x0) u rfl rfl rfl rfl JG rfl rfl λK1=>qk K1 rfl (vs (fQ m (σ:=Bool) (λs=> [(some k112,.obj 70 (bT x0)),(some k2,.obj 58 (bC p0))]) (λs=>.c 1 (.ptr k2 0) (.c 3 (nZ q0) (.c 72 (.sc (.bool s)) .nil))) (λx m=> ?_) ?_))))))))
 refine v (vq (by kernel_rfl) (vl 0 _ wS rfl rfl rfl (vk MD EK m rfl rfl λ_ m=> ?_)))
 apply vi m <;> intro b1 m
 rw[b1]
 exact gY m
 rw[b1]
 apply vi m <;> intro b2 m
 rw[b2]
 refine vl 0 _ wS rfl rfl rfl (vl 1 _ nE rfl rfl rfl (vx m rJ rfl rfl λ_ _ m=>bV (BL rfl rfl rfl trivial) ?_))
 apply vi m <;> intro b3 m
 rw[b3]
 exact gY m
 rw[b3]
 refine vl 0 _ cD rfl rfl rfl ?_
 apply vi m <;> intro b4 m
 rw[b4]
 exact gY m
 rw[b4]
 refine vl 0 _ cD rfl rfl rfl ?_
 apply vi m <;> intro b5 m
 rw[b5]
 exact gY m
 rw[b5]
 refine vl 0 _ u0 rfl rfl rfl (cY rK rfl ?_)
 apply vi m <;> intro b6 m
 rw[b6]
 exact gY m
 rw[b6]
 exact vl 0 _ u0 rfl rfl rfl (cY rK rfl (vl 0 _ cD rfl rfl rfl (bV (OU u4 rfl rfl rfl) (gY m))))
 rw[b2]
 refine vl 0 _ cD rfl rfl rfl ?_
 apply vi m <;> intro b7 m
 rw[b7]
 exact gY m
 rw[b7]
 refine vl 0 _ cD rfl rfl rfl ?_
 apply vi m <;> intro b8 m
 rw[b8]
 exact gY m
 rw[b8]
 refine vl 0 _ u0 rfl rfl rfl (cY rK rfl ?_)
 apply vi m <;> intro b9 m
 rw[b9]
 exact gY m
 rw[b9]
 exact vl 0 _ u0 rfl rfl rfl (cY rK rfl (vl 0 _ cD rfl rfl rfl (bV (OU u4 rfl rfl rfl) (gY m))))
 rintro _ j1 m
 refine v ?_
 apply vi m <;> intro c2 m
 refine v (v (gM m λm=> ?_))
 obtain rfl:=eU m
 exact eA rfl
 exact v (v (B7 m (nD [1] rfl rfl (.k2 .nil))))
 exact v (OH m)
 rintro _ r0 m
 refine v (v ?_)
 obtain rfl:=eU m
 exact eA rfl
theorem XM:aP Tryz.prog 98=true:=by kernel_rfl
def wU (m:Nat) (p0:bL) (p1:bL) (q0:Int):Option (Lp (Int) (Bool)):=
 if (decide (q0 < 32))=true then ((ix p0.1 q0).bind λx0=>(ix p1.1 q0).bind λx1=>if (x0 !=x1)=true then ((ix p0.1 q0).bind λx2=>(ix p1.1 q0).bind λx3=>some (.ret (decide (x2 < x3)))) else some (.go (IntKind.wrap .i64 (q0+1)))) else some (.brk q0)
def PT (m:Nat) (p0:bL) (p1:bL):Option (Bool):=
 after (aU (λs=>wU m p0 p1 s) m 0) λr0=>some false
theorem aC5 {w:Nat} {p0:bL} {p1:bL} {o:Bool} (h:aE) (m:PT w p0 p1=some o):
 aL Tryz.prog 167 [.agg (bH p0),.agg (bH p1)] h (λr h'=>r= .sc (.bool o)∧h'=h):=by
 refine fT 24 [.tmp 4] Tryz.func167 rfl rfl rfl rfl ?_
 unfold PT at m
 refine v (hX rfl rfl λk2 K3=>hX rfl rfl λk5 K6=>v (kD m (σ:=Int) (λs=> [(some k5,.obj 36 (bH p1)),(some k2,.obj 36 (bH p0))]) (λs=>.c 2 (.ptr k2 0) (.c 3 (.ptr k5 0) (.c 5 (nZ s) .nil))) (lx (.k3 .nil)) ?_ ?_))
 rintro _ q0 x m
 replace m:wU w p0 p1 q0=some x:=m
 unfold wU at m
 refine v (v ?_)
 apply vi m <;> intro c0 m
 refine v (v (v (vq (by kernel_rfl) ?_)))
 obtain⟨_,X0,m⟩:=aC m
 refine bV (mA X0 sN rfl rfl) (vn (λu=>nK 0 X0 EF rfl (aX 1 u rfl) rfl) ?_)
 obtain⟨_,X1,m⟩:=aC m
 refine bV (mA X1 sN rfl rfl) (vn (λu=>nK 0 X1 EF rfl (aX 0 u rfl) rfl) (v ?_))
 apply vi m <;> intro c1 m
 refine v (vq (by kernel_rfl) ?_)
 obtain⟨_,X2,m⟩:=aC m
 refine bV (mA X2 sN rfl rfl) (vn (λu=>nK 0 X2 EF rfl (aX 1 u rfl) rfl) ?_)
 obtain⟨_,X3,m⟩:=aC m
 refine bV (mA X3 sN rfl rfl) (vn (λu=>nK 0 X3 EF rfl (aX 0 u rfl) rfl) (v (gM m λm=> ?_)))
 cases m
 exact eA rfl
 exact v (v (gY m))
 exact v (EC m)
 rintro _ r0 m
 refine v (v ?_)
 obtain rfl:=eU m
 exact eA rfl
theorem XN:aP Tryz.prog 167=true:=by kernel_rfl
def sY (m:Nat) (p0:List bL) (p1:bL) (q0:Int):Option (Lp (Int) ((List bL)×Int×Bool)):=
 after (if (decide (q0 < (p0.length:Int)))=true then ((ix p0 q0).bind λx0=>(PT m x0 p1).bind λy0=>some (.brk y0)) else some (.brk false):Option (Lp (Bool) (Lp (Int) ((List bL)×Int×Bool)))) λj0=>if j0=true then (some (.go (IntKind.wrap .i64 (q0+1)))) else some (.brk q0)
def EL (m:Nat) (p0:List bL) (p1:bL):Option ((List bL)×Int×Bool):=
 after (aU (λs=>sY m p0 p1 s) m 0) λr0=>after (if (decide (r0 < (p0.length:Int)))=true then ((ix p0 r0).bind λx0=>some (.brk (decide (x0=p1)))) else some (.brk false):Option (Lp (Bool) ((List bL)×Int×Bool))) λj0=>if j0=true then (some (p0,r0,false)) else (slc p0 0 r0).bind λx1=>(app ([]:List bL) x1).bind λz0=>(app z0 ([p1]:List bL)).bind λz1=>(slc p0 r0 (p0).length).bind λx2=>(app z1 x2).bind λz2=>some (z2,r0,true)
theorem XO {w:Nat} {p0:List bL} {p1:bL} {o:(List bL)×Int×Bool} (h:aE) (m:EL w p0 p1=some o):
 aL Tryz.prog 106 [.sl none 32 (List.map bH p0),.agg (bH p1)] h (λr h'=>r= .tup [.sl none 32 (List.map bH o.1),nZ o.2.1,.sc (.bool o.2.2)]∧h'=h):=by
 refine fT 51 [.tmp 4,.tmp 5,.tmp 6] Tryz.func106 rfl rfl rfl rfl ?_
 unfold EL at m
 refine v (hX rfl rfl λk2 K3=>v (vs (kD m (σ:=Int) (λs=> [(some k2,.obj 36 (bH p1))]) (λs=>.c 0 (.sl none 32 (List.map bH p0)) (.c 3 (.ptr k2 0) (.c 7 (nZ s) .nil))) (lx (.k3 .nil)) ?_ ?_)))
 rintro _ q0 x m
 replace m:sY w p0 p1 q0=some x:=m
 unfold sY at m
 refine vs (vs (fQ m (σ:=Bool) (λs=> [(some k2,.obj 36 (bH p1))]) (λs=>.c 0 (.sl none 32 (List.map bH p0)) (.c 3 (.ptr k2 0) (.c 7 (nZ q0) (.c 20 (.sc (.bool s)) .nil)))) (λx m=> ?_) ?_))
 refine v (vq (by kernel_rfl) (cY rK rfl ?_))
 apply vi m <;> intro b0 m
 rw[b0]
 exact vx m xZ rfl rfl λx0 _ m=>va (.agg (bH x0)) fL rfl rfl (vl 0 (.agg (bH p1)) fL rfl rfl rfl (vk aC5 XN m rfl rfl λ_ m=>gJ m))
 rw[b0]
 exact gJ m
 rintro _ j0 m
 refine v ?_
 apply vi m <;> intro c0 m
 exact v (v (v (gY m)))
 exact v (EC m)
 rintro _ r0 m
 refine vs (vs (fQ m (σ:=Bool) (λs=> [(some k2,.obj 36 (bH p1))]) (λs=>.c 0 (.sl none 32 (List.map bH p0)) (.c 3 (.ptr k2 0) (.c 7 (nZ r0) (.c 34 (.sc (.bool s)) .nil)))) (λx m=> ?_) ?_))
 refine v (vq (by kernel_rfl) (cY rK rfl ?_))
 apply vi m <;> intro b1 m
 rw[b1]
 exact vx m xZ rfl rfl λx1 _ m=>va (.agg (bH x1)) fL rfl rfl (vl 0 (.agg (bH p1)) fL rfl rfl rfl (bV (vU EG RF u5 EF rfl rfl) (gJ m)))
 rw[b1]
 exact gJ m
 rintro _ j1 m
 refine v ?_
 apply vi m <;> intro c1 m
 refine v (v ?_)
 cases m
 exact vr λu=>dZ.of3 (.inl rfl) (f0 _ _ (.sl _ _ _) rfl) (f0 _ _ (.sc (.int _ _)) rfl) (f0 _ _ (.sc (.bool _)) rfl) (aW (List.nil_sublist _) u).1 (bB.refl _ _) (bB.refl _ _) (bB.refl _ _) ⟨rfl,rfl⟩
 refine v (v (v (vz [(1000000,some k2,.obj 36 (bH p1))] mixed (λu=>⟨λ_=>aK 0 u rfl,trivial⟩) λu=>zC 0 rfl (eZ (.sc (.slice _ _ _)) rfl) (zC 1 rfl (eZ (.sl _ _ _) rfl) (zI 2 rfl rfl ?_)))))
 obtain⟨_,X0,m⟩:=aC m
 refine zC 3 rfl (pP X0 xZ rfl rfl rfl rfl) (zL 5 0 (.agg (bH p1)) rfl fL rfl rfl rfl (zC 6 rfl (eD (List.map bH ([p1]:List bL)) CH rfl rfl rfl rfl) ?_))
 obtain⟨z0,Z0,m⟩:=aC m
 refine zE 4 rfl (oF (c:=bH) Z0 CH rfl rfl u nofun rfl λtg0 t0 K0=>⟨⟨λ_=>aK 1 K0 rfl,trivial⟩, ?_⟩)
 obtain⟨z1,Z1,m⟩:=aC m
 refine zE 7 rfl (e8 (c:=bH) 0 Z1 CH rfl rfl rfl t0 K0 rfl λtg1 t1 K1=>⟨⟨λ_=>aK 1 K1 rfl,trivial⟩, ?_⟩)
 refine zC 8 rfl (hU (ow _ _ _) rfl) (zX (qk (f:=.c 8 _ (.c 44 _ (.c 41 _ (.c 43 _ (.c 42 _ (PF 40 _ _ _ _ _)))))) K1 rfl (v ?_)))
 obtain⟨_,X1,m⟩:=aC m
 refine bV (pP X1 xZ rfl rfl rfl rfl) ?_
 obtain⟨z2,Z2,m⟩:=aC m
 refine ve λu=>e8 (c:=bH) 0 Z2 CH rfl rfl rfl t1 u rfl λtg2 t2 K2=>qk K2 rfl (v ?_)
 cases m
 exact vr λu=>dZ.of3 (.inl rfl) (f0 _ _ (ow _ _ _) rfl) (f0 _ _ (.sc (.int _ _)) rfl) (f0 _ _ (.sc (.bool _)) rfl) (aW (List.nil_sublist _) u).1 ((eQ _ 0 t2 u rfl)) (bB.refl _ _) (bB.refl _ _) ⟨rfl,rfl⟩
theorem RR:aP Tryz.prog 106=true:=by kernel_rfl
def vF (m:Nat) (p0:aY) (q0:Int) (q1:List bL) (q2:Int):Option (Lp ((List bL)×Int) (Lp ((List bL)×Int) ((List bL)))):=
 (ix p0.Parts q0).bind λx0=>if (decide (q2 < (x0.Ids.length:Int)))=true then ((ix p0.Parts q0).bind λx1=>(ix x1.Ids q2).bind λx2=>(EL m q1 x2).bind λy0=>some (.go (y0.1,IntKind.wrap .i64 (q2+1)))) else some (.brk (q1,q2))
def vG (m:Nat) (p0:aY) (q0:List bL) (q1:Int):Option (Lp ((List bL)×Int) ((List bL))):=
 if (decide (q1 < (p0.Parts.length:Int)))=true then (after (aU (λs=>vF m p0 q1 s.1 s.2) m (q0,0)) λ⟨r0,r1⟩=>some (.go (r0,IntKind.wrap .i64 (q1+1)))) else some (.brk (q0,q1))
def XP (m:Nat) (p0:aY):Option ((List bL)):=
 after (aU (λs=>vG m p0 s.1 s.2) m ([],0)) λ⟨r0,r1⟩=>some r0
theorem W49 {u:Nat} {p0:aY} {o:(List bL)} (h:aE) (m:XP u p0=some o):
 aL Tryz.prog 49 [.agg (bC p0)] h (λr h'=>r= .sl none 32 (List.map bH o)∧h'=h):=by
 refine fT 40 [.tmp 2] Tryz.func49 rfl rfl rfl rfl ?_
 unfold XP at m
 refine v (hX rfl rfl λk2 K3=>v (v (kD m (σ:=(List bL)×Int) (λs=> [(some k2,.obj 58 (bC p0))]) (λs=>.c 1 (.ptr k2 0) (.c 3 (.sl none 32 (List.map bH s.1)) (.c 4 (nZ s.2) .nil))) (lx (.cons (bB.refl _ _) (.cons (aR _) (.cons (bB.refl _ _) .nil)))) ?_ ?_)))
 rintro _ ⟨q0,q1⟩ x m
 replace m:vG u p0 q0 q1=some x:=m
 unfold vG at m
 refine v (vl 0 _ nE rfl rfl rfl (cY uY rfl (v ?_)))
 apply vi m <;> intro c0 m
 refine v (v (v (kD m (σ:=(List bL)×Int) (λs=> [(some k2,.obj 58 (bC p0))]) (λs=>.c 1 (.ptr k2 0) (.c 3 (.sl none 32 (List.map bH s.1)) (.c 4 (nZ q1) (.c 5 (nZ s.2) .nil)))) (lx (.k4 .nil)) ?_ ?_)))
 rintro _ ⟨q2,q3⟩ x m
 replace m:vF u p0 q1 q2 q3=some x:=m
 unfold vF at m
 refine v (vl 0 _ nE rfl rfl rfl (vx m rJ rfl rfl λ_ _ m=>cY rK rfl (v ?_)))
 apply vi m <;> intro c1 m
 exact v (v (v (vl 0 _ nE rfl rfl rfl (vx m rJ rfl rfl λ_ _ m=>vx m xZ rfl rfl λx0 _ m=>va (.agg (bH x0)) fL rfl rfl (vk XO RR m rfl rfl λ_ m=>v (gJ m))))))
 exact v (zK m)
 rintro _ ⟨r0,r1⟩ m
 exact v (gY m)
 exact v (EC m)
 rintro _ ⟨r2,r3⟩ m
 refine v (v ?_)
 obtain rfl:=eU m
 exact eA rfl
theorem aC6:aP Tryz.prog 49=true:=by kernel_rfl
def oP (m:Nat) (p0:aA) (p1:bL) (q0:Int):Option (Lp (Int) (Int)):=
 if (decide (q0 < (p0.Chunks.length:Int)))=true then ((ix p0.Chunks q0).bind λx0=>if (decide (x0.Id=p1))=true then (some (.ret q0)) else some (.go (IntKind.wrap .i64 (q0+1)))) else some (.brk q0)
def KB (m:Nat) (p0:aA) (p1:bL):Option (Int):=
 after (aU (λs=>oP m p0 p1 s) m 0) λr0=>some (-1)
theorem W88 {u:Nat} {p0:aA} {p1:bL} {o:Int} (h:aE) (m:KB u p0 p1=some o):
 aL Tryz.prog 88 [.agg (aF p0),.agg (bH p1)] h (λr h'=>r=nZ o∧h'=h):=by
 refine fT 22 [.tmp 4] Tryz.func88 rfl rfl rfl rfl ?_
 unfold KB at m
 refine v (hX rfl rfl λk2 K3=>hX rfl rfl λk5 K6=>v (kD m (σ:=Int) (λs=> [(some k5,.obj 36 (bH p1)),(some k2,.obj 30 (aF p0))]) (λs=>.c 2 (.ptr k2 0) (.c 3 (.ptr k5 0) (.c 5 (nZ s) .nil))) (lx (.k3 .nil)) ?_ ?_))
 rintro _ q0 x m
 replace m:oP u p0 p1 q0=some x:=m
 unfold oP at m
 refine v (vl 1 _ eO rfl rfl rfl (cY jG rfl (v ?_)))
 apply vi m <;> intro c0 m
 refine v (v (v (vq (by kernel_rfl) (vl 1 _ eO rfl rfl rfl (vx m fH rfl rfl λx0 _ m=>va (.agg (bH x0.Id)) fL rfl rfl (vl 0 (.agg (bH p1)) fL rfl rfl rfl (bV (vU EG RF u5 EF rfl rfl) (v ?_))))))))
 apply vi m <;> intro c1 m
 refine v (v (gM m λm=> ?_))
 obtain rfl:=eU m
 exact eA rfl
 exact v (v (gY m))
 exact v (EC m)
 rintro _ r0 m
 refine v (v ?_)
 cases m
 exact eA rfl
theorem PU:aP Tryz.prog 88=true:=by kernel_rfl
def oQ (m:Nat) (p0:aA) (p1:ByteArray) (q0:Int):Option (Lp (Int) (Int)):=
 if (decide (q0 < (p0.Snaps.length:Int)))=true then ((ix p0.Snaps q0).bind λx0=>if (x0.Man.Name.toList==p1.toList)=true then (some (.ret q0)) else some (.go (IntKind.wrap .i64 (q0+1)))) else some (.brk q0)
def yH (m:Nat) (p0:aA) (p1:ByteArray):Option (Int):=
 after (aU (λs=>oQ m p0 p1 s) m 0) λr0=>some (-1)
theorem TQ {u:Nat} {p0:aA} {p1:ByteArray} {o:Int} (h:aE) (m:yH u p0 p1=some o):
 aL Tryz.prog 149 [.agg (aF p0),.sc (.string p1)] h (λr h'=>r=nZ o∧h'=h):=by
 refine fT 23 [.tmp 4] Tryz.func149 rfl rfl rfl rfl ?_
 unfold yH at m
 refine v (hX rfl rfl λk2 K3=>v (kD m (σ:=Int) (λs=> [(some k2,.obj 30 (aF p0))]) (λs=>.c 1 (.sc (.string p1)) (.c 2 (.ptr k2 0) (.c 5 (nZ s) .nil))) (lx (.k3 .nil)) ?_ ?_))
 rintro _ q0 x m
 replace m:oQ u p0 p1 q0=some x:=m
 unfold oQ at m
 refine v (vl 0 _ eV rfl rfl rfl (cY iQ rfl (v ?_)))
 apply vi m <;> intro c0 m
 refine v (v (v (vl 0 _ eV rfl rfl rfl (vx m iX rfl rfl λ_ _ m=>bV (BL rfl rfl rfl trivial) (v ?_)))))
 apply vi m <;> intro c1 m
 refine v (v (gM m λm=> ?_))
 obtain rfl:=eU m
 exact eA rfl
 exact v (v (gY m))
 exact v (EC m)
 rintro _ r0 m
 refine v (v ?_)
 cases m
 exact eA rfl
theorem ME:aP Tryz.prog 149=true:=by kernel_rfl
def rL (m:Nat) (p0:aA) (q0:Int):Option (Lp (Int) (Bool)):=
 if (decide (q0 < (p0.Vols.length:Int)))=true then ((ix p0.Vols q0).bind λx0=>after ((HV m x0.Pool 0 1).bind λy0=>if (!y0)=true then (some (.brk true)) else (HV m x0.Epoch 0 1048576).bind λy1=>some (.brk (!y1)):Option (Lp (Bool) (Lp (Int) (Bool)))) λj0=>if j0=true then (some (.ret false)) else after (if (x0.State==1)=true then (some (.brk (x0.State==1))) else some (.brk (x0.State==3)):Option (Lp (Bool) (Lp (Int) (Bool)))) λj1=>after (if j1=true then (if (x0.Files !=0)=true then (some (.ret (.ret false))) else some (.brk ())) else if (x0.State==2)=true then ((HV m x0.Files 1 65535).bind λy2=>if (!y2)=true then (some (.ret (.ret false))) else some (.brk ())) else some (.ret (.ret false)):Option (Lp (Unit) (Lp (Int) (Bool)))) λ_=>some (.go (IntKind.wrap .i64 (q0+1)))) else some (.brk q0)
def rM (m:Nat) (p0:aA) (q0:Int):Option (Lp (Int) (Bool)):=
 if (decide (q0 < (p0.Chunks.length:Int)))=true then ((ix p0.Chunks q0).bind λx0=>after (if (decide (0 < q0))=true then ((ix p0.Chunks (IntKind.wrap .i64 (q0 - 1))).bind λx1=>(MC m x1.Id x0.Id).bind λy0=>if (!y0)=true then (some (.brk true)) else (zY m p0 x0.Locs).bind λy1=>if (!y1)=true then (some (.brk true)) else if x0.Staged=true then ((HV m (x0.Data.length:Int) 1 64).bind λy2=>if (!y2)=true then (some (.brk true)) else if (!x0.Staged)=true then (if (decide (0 < (x0.Data.length:Int)))=true then (some (.brk true)) else some (.brk ((x0.Locs.length:Int)==0))) else some (.brk false)) else if (!x0.Staged)=true then (if (decide (0 < (x0.Data.length:Int)))=true then (some (.brk true)) else some (.brk ((x0.Locs.length:Int)==0))) else some (.brk false)) else (zY m p0 x0.Locs).bind λy3=>if (!y3)=true then (some (.brk true)) else if x0.Staged=true then ((HV m (x0.Data.length:Int) 1 64).bind λy4=>if (!y4)=true then (some (.brk true)) else if (!x0.Staged)=true then (if (decide (0 < (x0.Data.length:Int)))=true then (some (.brk true)) else some (.brk ((x0.Locs.length:Int)==0))) else some (.brk false)) else if (!x0.Staged)=true then (if (decide (0 < (x0.Data.length:Int)))=true then (some (.brk true)) else some (.brk ((x0.Locs.length:Int)==0))) else some (.brk false):Option (Lp (Bool) (Lp (Int) (Bool)))) λj0=>if j0=true then (some (.ret false)) else some (.go (IntKind.wrap .i64 (q0+1)))) else some (.brk q0)
def vH (m:Nat) (p0:aA) (y0:(List bL)) (q0:Int):Option (Lp (Int) (Lp (Int) (Bool))):=
 if (decide (q0 < (y0.length:Int)))=true then ((ix y0 q0).bind λx0=>(KB m p0 x0).bind λy1=>if (decide (y1 < 0))=true then (some (.ret (.ret false))) else some (.go (IntKind.wrap .i64 (q0+1)))) else some (.brk q0)
def vI (m:Nat) (p0:aA) (x0:aH) (q0:Int):Option (Lp (Int) (Lp (Int) (Bool))):=
 if (decide (q0 < (p0.Exps.length:Int)))=true then ((ix p0.Exps q0).bind λx1=>if (x1.Of==x0.Seq)=true then (some (.ret (.ret false))) else some (.go (IntKind.wrap .i64 (q0+1)))) else some (.brk q0)
def rN (m:Nat) (p0:aA) (q0:Int):Option (Lp (Int) (Bool)):=
 if (decide (q0 < (p0.Snaps.length:Int)))=true then ((ix p0.Snaps q0).bind λx0=>after (if (decide (x0.Seq < 0))=true then (some (.brk true)) else if (decide (p0.Seq≤x0.Seq))=true then (some (.brk true)) else if (decide (0 < q0))=true then ((ix p0.Snaps (IntKind.wrap .i64 (q0 - 1))).bind λx1=>if (decide (x0.Seq≤x1.Seq))=true then (some (.brk true)) else (VS m x0.Man).bind λy0=>if (!y0)=true then (some (.brk true)) else (zY m p0 x0.Locs).bind λy1=>if (!y1)=true then (some (.brk true)) else (yH m p0 x0.Man.Name).bind λy2=>some (.brk (y2 !=q0))) else (VS m x0.Man).bind λy3=>if (!y3)=true then (some (.brk true)) else (zY m p0 x0.Locs).bind λy4=>if (!y4)=true then (some (.brk true)) else (yH m p0 x0.Man.Name).bind λy5=>some (.brk (y5 !=q0)):Option (Lp (Bool) (Lp (Int) (Bool)))) λj0=>if j0=true then (some (.ret false)) else (XP m x0.Man).bind λy6=>after (aU (λs=>vH m p0 y6 s) m 0) λr0=>after (aU (λs=>vI m p0 x0 s) m 0) λr1=>some (.go (IntKind.wrap .i64 (q0+1)))) else some (.brk q0)
def oR (m:Nat) (p0:aA) (q0:Int):Option (Lp (Int) (Bool)):=
 if (decide (q0 < (p0.Exps.length:Int)))=true then ((ix p0.Exps q0).bind λx0=>after (if (decide (x0.Seq < 0))=true then (some (.brk true)) else if (decide (p0.Seq≤x0.Seq))=true then (some (.brk true)) else if (decide (0 < q0))=true then ((ix p0.Exps (IntKind.wrap .i64 (q0 - 1))).bind λx1=>if (decide (x0.Seq≤x1.Seq))=true then (some (.brk true)) else if (decide (x0.Of < 0))=true then (some (.brk true)) else if (decide (x0.Seq≤x0.Of))=true then (some (.brk true)) else (zY m p0 x0.Locs).bind λy0=>if (!y0)=true then (some (.brk true)) else some (.brk ((x0.Locs.length:Int)==0))) else if (decide (x0.Of < 0))=true then (some (.brk true)) else if (decide (x0.Seq≤x0.Of))=true then (some (.brk true)) else (zY m p0 x0.Locs).bind λy1=>if (!y1)=true then (some (.brk true)) else some (.brk ((x0.Locs.length:Int)==0)):Option (Lp (Bool) (Lp (Int) (Bool)))) λj0=>if j0=true then (some (.ret false)) else some (.go (IntKind.wrap .i64 (q0+1)))) else some (.brk q0)
def TR (m:Nat) (p0:aA):Option (Bool):=
 after ((HV m p0.Seq 0 1073741824).bind λy0=>if (!y0)=true then (some (.brk true)) else if (decide (8 < (p0.Snaps.length:Int)))=true then (some (.brk true)) else if (decide (200 < (p0.Chunks.length:Int)))=true then (some (.brk true)) else if (decide (200 < (p0.Exps.length:Int)))=true then (some (.brk true)) else (HV m (p0.Vols.length:Int) 1 8).bind λy1=>some (.brk (!y1)):Option (Lp (Bool) (Bool))) λj0=>if j0=true then (some false) else after (aU (λs=>rL m p0 s) m 0) λr0=>after (aU (λs=>rM m p0 s) m 0) λr1=>after (aU (λs=>rN m p0 s) m 0) λr2=>after (aU (λs=>oR m p0 s) m 0) λr3=>some true
theorem W89 {w:Nat} {p0:aA} {o:Bool} (h:aE) (m:TR w p0=some o):
 aL Tryz.prog 89 [.agg (aF p0)] h (λr h'=>r= .sc (.bool o)∧h'=h):=by
 refine fT 296 [.tmp 2] Tryz.func89 rfl rfl rfl rfl ?_
 unfold TR at m
 refine v (hX rfl rfl λk2 K3=>vs (vs (fQ m (σ:=Bool) (λs=> [(some k2,.obj 30 (aF p0))]) (λs=>.c 1 (.ptr k2 0) (.c 42 (.sc (.bool s)) .nil)) (λx m=> ?_) ?_)))
 refine v (vl 0 _ cD rfl rfl rfl (vk OI zW m rfl rfl λ_ m=> ?_))
 apply vi m <;> intro b0 m
 rw[b0]
 exact rF m
 rw[b0]
 refine vl 0 _ eV rfl rfl rfl (cY iQ rfl ?_)
 apply vi m <;> intro b1 m
 rw[b1]
 exact rF m
 rw[b1]
 refine vl 0 _ eO rfl rfl rfl (cY jG rfl ?_)
 apply vi m <;> intro b2 m
 rw[b2]
 exact rF m
 rw[b2]
 refine vl 0 _ jN rfl rfl rfl (cY qN rfl ?_)
 apply vi m <;> intro b3 m
 rw[b3]
 exact rF m
 rw[b3]
 exact vl 0 _ kJ rfl rfl rfl (cY xX rfl (vk OI zW m rfl rfl λ_ m=>rF m))
 rintro _ j0 m
 refine v ?_
 apply vi m <;> intro c0 m
 refine v (v ?_)
 obtain rfl:=eU m
 exact eA rfl
 refine v (v (kD m (σ:=Int) (λs=> [(some k2,.obj 30 (aF p0))]) (λs=>.c 1 (.ptr k2 0) (.c 3 (nZ s) .nil)) (lx (.k2 .nil)) ?_ ?_))
 rintro _ q0 x m
 replace m:rL w p0 q0=some x:=m
 unfold rL at m
 refine v (vl 0 _ kJ rfl rfl rfl (cY xX rfl (v ?_)))
 apply vi m <;> intro c1 m
 refine v (v (v (vl 0 _ kJ rfl rfl rfl (vx m pD rfl rfl λx0 _ m=>va (.agg (cS x0)) WU rfl rfl (ve λu=>bG (Q5) u PM rfl rfl λk156 K0=>qk K0 rfl (ve λu=>aJ 0 (cS x0) u rfl rfl rfl rfl WV rfl rfl λK1=>qk K1 rfl (vs (vs (fQ m (σ:=Bool) (λs=> [(some k156,.obj 49 (cS x0)),(some k2,.obj 30 (aF p0))]) (λs=>.c 1 (.ptr k2 0) (.c 3 (nZ q0) (.c 4 (.ptr k156 0) (.c 64 (.sc (.bool s)) .nil)))) (λx m=> ?_) ?_)))))))))
 refine v (vl 0 _ cD rfl rfl rfl (vk OI zW m rfl rfl λ_ m=> ?_))
 apply vi m <;> intro b4 m
 rw[b4]
 exact gJ m
 rw[b4]
 exact vl 0 _ cD rfl rfl rfl (vk OI zW m rfl rfl λ_ m=>gJ m)
 rintro _ j1 m
 refine v ?_
 apply vi m <;> intro c2 m
 refine v (v (gM m λm=> ?_))
 obtain rfl:=eU m
 exact eA rfl
 refine v (v (vl 0 _ cD rfl rfl rfl (v (v (fQ m (σ:=Bool) (λs=> [(some k156,.obj 49 (cS x0)),(some k2,.obj 30 (aF p0))]) (λs=>.c 1 (.ptr k2 0) (.c 3 (nZ q0) (.c 4 (.ptr k156 0) (.c 66 (nZ x0.State) (.c 67 (.sc (.bool s)) .nil))))) (λx m=> ?_) ?_)))))
 refine v ?_
 apply vi m <;> intro c3 m
 exact v (mC m)
 exact v (mC m)
 rintro _ j2 m
 refine fQ m (σ:=Unit) (λs=> [(some k156,.obj 49 (cS x0)),(some k2,.obj 30 (aF p0))]) (λs=>.c 1 (.ptr k2 0) (.c 3 (nZ q0) .nil)) (λx m=> ?_) ?_
 refine v ?_
 apply vi m <;> intro c4 m
 refine v (vl 0 _ cD rfl rfl rfl (v ?_))
 apply vi m <;> intro c5 m
 refine v (v (gM m λm=>gM m λm=> ?_))
 obtain rfl:=eU m
 exact eA rfl
 exact v (rF m)
 refine v (v ?_)
 apply vi m <;> intro c6 m
 refine v (vl 0 _ cD rfl rfl rfl (vk OI zW m rfl rfl λ_ m=>v ?_))
 apply vi m <;> intro c7 m
 refine v (v (gM m λm=>gM m λm=> ?_))
 obtain rfl:=eU m
 exact eA rfl
 exact v (rF m)
 refine v (v (gM m λm=>gM m λm=> ?_))
 obtain rfl:=eU m
 exact eA rfl
 rintro _ _ m
 exact v (B7 m (nD [1] rfl rfl (.k2 .nil)))
 exact v (OH m)
 rintro _ r0 m
 refine v (kD m (σ:=Int) (λs=> [(some k2,.obj 30 (aF p0))]) (λs=>.c 1 (.ptr k2 0) (.c 5 (nZ s) .nil)) (lx (.k2 .nil)) ?_ ?_)
 rintro _ q1 x m
 replace m:rM w p0 q1=some x:=m
 unfold rM at m
 refine v (vl 0 _ eO rfl rfl rfl (cY jG rfl (v ?_)))
 apply vi m <;> intro c8 m
 refine v (v (v (vl 0 _ eO rfl rfl rfl (vx m fH rfl rfl λx1 _ m=>va (.agg (aI x1)) nT rfl rfl (ve λu=>bG (bH jI++(OB:List AV)) u oK rfl rfl λk364 K2=>qk K2 rfl (ve λu=>aJ 0 (aI x1) u rfl rfl rfl rfl CF rfl rfl λK4=>qk K4 rfl (vs (fQ m (σ:=Bool) (λs=> [(some k364,.obj 44 (aI x1)),(some k2,.obj 30 (aF p0))]) (λs=>.c 1 (.ptr k2 0) (.c 5 (nZ q1) (.c 140 (.sc (.bool s)) .nil))) (λx m=> ?_) ?_))))))))
 refine v (vq (by kernel_rfl) ?_)
 apply vi m <;> intro b5 m
 rw[b5]
 refine vl 1 _ eO rfl rfl rfl (vx m fH rfl rfl λx2 _ m=>va (.agg (bH x2.Id)) fL rfl rfl (vl 0 (.agg (bH x1.Id)) fL rfl rfl rfl (vk XL RQ m rfl rfl λ_ m=> ?_)))
 apply vi m <;> intro b6 m
 rw[b6]
 exact gY m
 rw[b6]
 refine vl 1 (.agg (aF p0)) eP rfl rfl rfl (vl 0 _ fM rfl rfl rfl (vk JL AZ m rfl rfl λ_ m=> ?_))
 apply vi m <;> intro b7 m
 rw[b7]
 exact gY m
 rw[b7]
 refine vl 0 _ DO rfl rfl rfl ?_
 apply vi m <;> intro b8 m
 rw[b8]
 refine vl 0 _ lL rfl rfl rfl (cY kR rfl (vk OI zW m rfl rfl λ_ m=> ?_))
 apply vi m <;> intro b9 m
 rw[b9]
 exact gY m
 rw[b9]
 refine vl 0 _ DO rfl rfl rfl ?_
 apply vi m <;> intro b10 m
 rw[b10]
 refine vl 0 _ lL rfl rfl rfl (cY kR rfl ?_)
 apply vi m <;> intro b11 m
 rw[b11]
 exact gY m
 rw[b11]
 exact vl 0 _ fM rfl rfl rfl (cY jO rfl (gY m))
 rw[b10]
 exact gY m
 rw[b8]
 refine vl 0 _ DO rfl rfl rfl ?_
 apply vi m <;> intro b12 m
 rw[b12]
 refine vl 0 _ lL rfl rfl rfl (cY kR rfl ?_)
 apply vi m <;> intro b13 m
 rw[b13]
 exact gY m
 rw[b13]
 exact vl 0 _ fM rfl rfl rfl (cY jO rfl (gY m))
 rw[b12]
 exact gY m
 rw[b5]
 refine vl 1 (.agg (aF p0)) eP rfl rfl rfl (vl 0 _ fM rfl rfl rfl (vk JL AZ m rfl rfl λ_ m=> ?_))
 apply vi m <;> intro b14 m
 rw[b14]
 exact gY m
 rw[b14]
 refine vl 0 _ DO rfl rfl rfl ?_
 apply vi m <;> intro b15 m
 rw[b15]
 refine vl 0 _ lL rfl rfl rfl (cY kR rfl (vk OI zW m rfl rfl λ_ m=> ?_))
 apply vi m <;> intro b16 m
 rw[b16]
 exact gY m
 rw[b16]
 refine vl 0 _ DO rfl rfl rfl ?_
 apply vi m <;> intro b17 m
 rw[b17]
 refine vl 0 _ lL rfl rfl rfl (cY kR rfl ?_)
 apply vi m <;> intro b22 m
 rw[b22]
 exact gY m
 rw[b22]
 exact vl 0 _ fM rfl rfl rfl (cY jO rfl (gY m))
 rw[b17]
 exact gY m
 rw[b15]
 refine vl 0 _ DO rfl rfl rfl ?_
 apply vi m <;> intro b23 m
 rw[b23]
 refine vl 0 _ lL rfl rfl rfl (cY kR rfl ?_)
 apply vi m <;> intro b24 m
 rw[b24]
 exact gY m
 rw[b24]
 exact vl 0 _ fM rfl rfl rfl (cY jO rfl (gY m))
 rw[b23]
 exact gY m
 rintro _ j3 m
 refine v ?_
 apply vi m <;> intro c9 m
 refine v (v (gM m λm=> ?_))
 obtain rfl:=eU m
 exact eA rfl
 exact v (v (B7 m (nD [1] rfl rfl (.k2 .nil))))
 exact v (OH m)
 rintro _ r1 m
 refine v (kD m (σ:=Int) (λs=> [(some k2,.obj 30 (aF p0))]) (λs=>.c 1 (.ptr k2 0) (.c 7 (nZ s) .nil)) (lx (.k2 .nil)) ?_ ?_)
 rintro _ q2 x m
 replace m:rN w p0 q2=some x:=m
 unfold rN at m
 refine v (vl 0 _ eV rfl rfl rfl (cY iQ rfl (v ?_)))
 apply vi m <;> intro c10 m
 refine v (v (v (vl 0 _ eV rfl rfl rfl (vx m iX rfl rfl λx3 _ m=>va (.agg (bK x3)) sO rfl rfl (ve λu=>bG (VJ) u sP rfl rfl λk707 K5=>qk K5 rfl (ve λu=>aJ 0 (bK x3) u rfl rfl rfl rfl GH rfl rfl λK6=>qk K6 rfl (vs (vs (fQ m (σ:=Bool) (λs=> [(some k707,.obj 60 (bK x3)),(some k2,.obj 30 (aF p0))]) (λs=>.c 1 (.ptr k2 0) (.c 7 (nZ q2) (.c 8 (.ptr k707 0) (.c 200 (.sc (.bool s)) .nil)))) (λx m=> ?_) ?_)))))))))
 refine v (vq (by kernel_rfl) (vl 0 _ cD rfl rfl rfl ?_))
 apply vi m <;> intro b25 m
 rw[b25]
 exact gJ m
 rw[b25]
 refine vl 0 _ cD rfl rfl rfl (vl 1 _ cD rfl rfl rfl ?_)
 apply vi m <;> intro b26 m
 rw[b26]
 exact gJ m
 rw[b26]
 apply vi m <;> intro b27 m
 rw[b27]
 refine vl 0 _ cD rfl rfl rfl (vl 1 _ eV rfl rfl rfl (vx m iX rfl rfl λ_ _ m=> ?_))
 apply vi m <;> intro b28 m
 rw[b28]
 exact gJ m
 rw[b28]
 refine vl 0 (.agg (bC x3.Man)) nU rfl rfl rfl (vk W98 XM m rfl rfl λ_ m=> ?_)
 apply vi m <;> intro b29 m
 rw[b29]
 exact gJ m
 rw[b29]
 refine vl 1 (.agg (aF p0)) eP rfl rfl rfl (vl 0 _ fM rfl rfl rfl (vk JL AZ m rfl rfl λ_ m=> ?_))
 apply vi m <;> intro b30 m
 rw[b30]
 exact gJ m
 rw[b30]
 exact vl 1 (.agg (aF p0)) eP rfl rfl rfl (vl 0 _ wS rfl rfl rfl (vk TQ ME m rfl rfl λ_ m=>gJ m))
 rw[b27]
 refine vl 0 (.agg (bC x3.Man)) nU rfl rfl rfl (vk W98 XM m rfl rfl λ_ m=> ?_)
 apply vi m <;> intro b31 m
 rw[b31]
 exact gJ m
 rw[b31]
 refine vl 1 (.agg (aF p0)) eP rfl rfl rfl (vl 0 _ fM rfl rfl rfl (vk JL AZ m rfl rfl λ_ m=> ?_))
 apply vi m <;> intro b32 m
 rw[b32]
 exact gJ m
 rw[b32]
 exact vl 1 (.agg (aF p0)) eP rfl rfl rfl (vl 0 _ wS rfl rfl rfl (vk TQ ME m rfl rfl λ_ m=>gJ m))
 rintro _ j4 m
 refine v ?_
 apply vi m <;> intro c11 m
 refine v (v (gM m λm=> ?_))
 obtain rfl:=eU m
 exact eA rfl
 refine v (v (vl 0 (.agg (bC x3.Man)) nU rfl rfl rfl (vk W49 aC6 m rfl rfl λy0 m=>v (kD m (σ:=Int) (λs=> [(some k707,.obj 60 (bK x3)),(some k2,.obj 30 (aF p0))]) (λs=>.c 1 (.ptr k2 0) (.c 7 (nZ q2) (.c 8 (.ptr k707 0) (.c 9 (.sl none 32 (List.map bH y0)) (.c 10 (nZ s) .nil))))) (lx (.k5 .nil)) ?_ ?_))))
 rintro _ q3 x m
 replace m:vH w p0 y0 q3=some x:=m
 unfold vH at m
 refine v (cY rK rfl (v ?_))
 apply vi m <;> intro c12 m
 refine v (v (v (vq (by kernel_rfl) (vl 1 (.agg (aF p0)) eP rfl rfl rfl (vx m xZ rfl rfl λx4 _ m=>va (.agg (bH x4)) fL rfl rfl (vk W88 PU m rfl rfl λ_ m=>v ?_))))))
 apply vi m <;> intro c13 m
 refine v (v (gM m λm=>gM m λm=> ?_))
 obtain rfl:=eU m
 exact eA rfl
 exact v (v (mC m))
 exact v (WS m)
 rintro _ r2 m
 refine v (kD m (σ:=Int) (λs=> [(some k707,.obj 60 (bK x3)),(some k2,.obj 30 (aF p0))]) (λs=>.c 1 (.ptr k2 0) (.c 7 (nZ q2) (.c 8 (.ptr k707 0) (.c 11 (nZ s) .nil)))) (lx (.k4 .nil)) ?_ ?_)
 rintro _ q4 x m
 replace m:vI w p0 x3 q4=some x:=m
 unfold vI at m
 refine v (vl 1 _ jN rfl rfl rfl (cY qN rfl (v ?_)))
 apply vi m <;> intro c14 m
 refine v (v (v (vq (by kernel_rfl) (vl 1 _ jN rfl rfl rfl (vx m jY rfl rfl λ_ _ m=>vl 0 _ cD rfl rfl rfl (v ?_))))))
 apply vi m <;> intro c15 m
 refine v (v (gM m λm=>gM m λm=> ?_))
 obtain rfl:=eU m
 exact eA rfl
 exact v (v (gJ m))
 exact v (zK m)
 rintro _ r3 m
 exact v (B7 m (nD [1] rfl rfl (.k2 .nil)))
 exact v (OH m)
 rintro _ r4 m
 refine v (kD m (σ:=Int) (λs=> [(some k2,.obj 30 (aF p0))]) (λs=>.c 1 (.ptr k2 0) (.c 12 (nZ s) .nil)) (lx (.k2 .nil)) ?_ ?_)
 rintro _ q5 x m
 replace m:oR w p0 q5=some x:=m
 unfold oR at m
 refine v (vl 0 _ jN rfl rfl rfl (cY qN rfl (v ?_)))
 apply vi m <;> intro c16 m
 refine v (v (v (vl 0 _ jN rfl rfl rfl (vx m jY rfl rfl λx5 _ m=>va (.agg (cV x5)) CL rfl rfl (ve λu=>bG ([nZ 0,nZ 0,sZ]) u u6 rfl rfl λk941 K7=>qk K7 rfl (ve λu=>aJ 0 (cV x5) u rfl rfl rfl rfl L2 rfl rfl λK8=>qk K8 rfl (vs (fQ m (σ:=Bool) (λs=> [(some k941,.obj 99 (cV x5)),(some k2,.obj 30 (aF p0))]) (λs=>.c 1 (.ptr k2 0) (.c 12 (nZ q5) (.c 295 (.sc (.bool s)) .nil))) (λx m=> ?_) ?_))))))))
 refine v (vq (by kernel_rfl) (vl 0 _ cD rfl rfl rfl ?_))
 apply vi m <;> intro b33 m
 rw[b33]
 exact gY m
 rw[b33]
 refine vl 0 _ cD rfl rfl rfl (vl 1 _ cD rfl rfl rfl ?_)
 apply vi m <;> intro b34 m
 rw[b34]
 exact gY m
 rw[b34]
 apply vi m <;> intro b35 m
 rw[b35]
 refine vl 0 _ cD rfl rfl rfl (vl 1 _ jN rfl rfl rfl (vx m jY rfl rfl λ_ _ m=> ?_))
 apply vi m <;> intro b36 m
 rw[b36]
 exact gY m
 rw[b36]
 refine vl 0 _ cD rfl rfl rfl ?_
 apply vi m <;> intro b37 m
 rw[b37]
 exact gY m
 rw[b37]
 refine vl 0 _ cD rfl rfl rfl (vl 0 _ cD rfl rfl rfl ?_)
 apply vi m <;> intro b38 m
 rw[b38]
 exact gY m
 rw[b38]
 refine vl 1 (.agg (aF p0)) eP rfl rfl rfl (vl 0 _ fM rfl rfl rfl (vk JL AZ m rfl rfl λ_ m=> ?_))
 apply vi m <;> intro b39 m
 rw[b39]
 exact gY m
 rw[b39]
 exact vl 0 _ fM rfl rfl rfl (cY jO rfl (gY m))
 rw[b35]
 refine vl 0 _ cD rfl rfl rfl ?_
 apply vi m <;> intro b40 m
 rw[b40]
 exact gY m
 rw[b40]
 refine vl 0 _ cD rfl rfl rfl (vl 0 _ cD rfl rfl rfl ?_)
 apply vi m <;> intro b41 m
 rw[b41]
 exact gY m
 rw[b41]
 refine vl 1 (.agg (aF p0)) eP rfl rfl rfl (vl 0 _ fM rfl rfl rfl (vk JL AZ m rfl rfl λ_ m=> ?_))
 apply vi m <;> intro b42 m
 rw[b42]
 exact gY m
 rw[b42]
 exact vl 0 _ fM rfl rfl rfl (cY jO rfl (gY m))
 rintro _ j5 m
 refine v ?_
 apply vi m <;> intro c17 m
 refine v (v (gM m λm=> ?_))
 obtain rfl:=eU m
 exact eA rfl
 exact v (v (B7 m (nD [1] rfl rfl (.k2 .nil))))
 exact v (OH m)
 rintro _ r5 m
 refine v (v ?_)
 obtain rfl:=eU m
 exact eA rfl
theorem XQ:aP Tryz.prog 89=true:=by kernel_rfl
open Go.Vm
def s9 (m:Nat) (p0:List dB) (p1:dB→Option Bool) (q0:Int):Option (Lp (Int) (Int)):=
 if (decide (q0 < (p0.length:Int)))=true then ((ix p0 q0).bind λx0=>(p1 x0).bind λy0=>if y0=true then (some (.ret q0)) else some (.go (IntKind.wrap .i64 (q0+1)))) else some (.brk q0)
def PW (m:Nat) (p0:List dB) (p1:dB→Option Bool):Option (Int):=
 after (aU (λs=>s9 m p0 p1 s) m 0) λr0=>some (-1)
theorem aC7 {w:Nat} {p0:List dB} {p1:dB→Option Bool} {o:Int} (h:aE) {p1F:Nat} {p1C:List AV} (p1B:aP Tryz.prog p1F=true) (p1H:∀x0 o h0,iT h h0→p1 x0=some o→aL Tryz.prog p1F ([.agg (bT x0)]++p1C) h0 (λr h'=>r= .sc (.bool o)∧h'=h0)) (m:PW w p0 p1=some o):
 aL Tryz.prog 109 [.sl none 3 (List.map bT p0),.fn (.func p1F) p1C] h (λr h'=>r=nZ o∧h'=h):=by
 refine fT 19 [.tmp 4] Tryz.func109 rfl rfl rfl rfl ?_
 unfold PW at m
 refine v (v (cY uY rfl (kD m (σ:=Int) (λs=> []) (λs=>.c 0 (.sl none 3 (List.map bT p0)) (.c 1 (.fn (.func p1F) p1C) (.c 7 (nZ (p0.length:Int)) (.c 8 (nZ s) .nil)))) (lx (.k4 .nil)) ?_ ?_)))
 rintro _ q0 x m
 replace m:s9 w p0 p1 q0=some x:=m
 unfold s9 at m
 refine v (v ?_)
 apply vi m <;> intro c0 m
 refine v (v (v (v (vx m rJ rfl rfl λx1 _ m=>va (.agg (bT x1)) CI rfl rfl ?_))))
 obtain⟨_,Y0,m⟩:=aC m
 refine vn (λu=>cB (p1H _ _ _ (aW (List.nil_sublist _) u).1 Y0) rfl p1B rfl) (v ?_)
 apply vi m <;> intro c1 m
 refine v (v (gM m λm=> ?_))
 obtain rfl:=eU m
 exact eA rfl
 exact v (v (gJ m))
 exact v (zK m)
 rintro _ r0 m
 refine v (v ?_)
 cases m
 exact eA rfl
theorem XR:aP Tryz.prog 109=true:=by kernel_rfl
def XS (m:Nat) (p0:List dB) (p1:dB→Option Bool):Option (Bool):=
 (PW m p0 p1).bind λy3=>some (decide (0≤y3))
theorem W60 {w:Nat} {p0:List dB} {p1:dB→Option Bool} {o:Bool} (h:aE) {p1F:Nat} {p1C:List AV} (p1B:aP Tryz.prog p1F=true) (p1H:∀x0 o h0,iT h h0→p1 x0=some o→aL Tryz.prog p1F ([.agg (bT x0)]++p1C) h0 (λr h'=>r= .sc (.bool o)∧h'=h0)) (m:XS w p0 p1=some o):
 aL Tryz.prog 60 [.sl none 3 (List.map bT p0),.fn (.func p1F) p1C] h (λr h'=>r= .sc (.bool o)∧h'=h):=by
 refine fT 9 [.tmp 4] Tryz.func60 rfl rfl rfl rfl ?_
 unfold XS at m
 refine v (v ?_)
 obtain⟨_,Y4,m⟩:=aC m
 refine vn (λu=>cB (aC7 _ p1B (λx0 o h0 hs ho=>p1H x0 o h0 ((aW (List.nil_sublist _) u).1.trans hs) ho) Y4) rfl XR rfl) (v ?_)
 cases m
 exact eA rfl
theorem aC8:aP Tryz.prog 60=true:=by kernel_rfl
def tA (m:Nat) (p0:List bL) (p1:bL) (q0:Int):Option (Lp (Int) (Int)):=
 if (decide (q0 < (p0.length:Int)))=true then ((ix p0 q0).bind λx0=>if (decide (p1=x0))=true then (some (.ret q0)) else some (.go (IntKind.wrap .i64 (q0+1)))) else some (.brk q0)
def PX (m:Nat) (p0:List bL) (p1:bL):Option (Int):=
 after (aU (λs=>tA m p0 p1 s) m 0) λr0=>some (-1)
theorem aC9 {u:Nat} {p0:List bL} {p1:bL} {o:Int} (h:aE) (m:PX u p0 p1=some o):
 aL Tryz.prog 110 [.sl none 32 (List.map bH p0),.agg (bH p1)] h (λr h'=>r=nZ o∧h'=h):=by
 refine fT 19 [.tmp 4] Tryz.func110 rfl rfl rfl rfl ?_
 unfold PX at m
 refine v (hX rfl rfl λk2 K3=>v (cY rK rfl (kD m (σ:=Int) (λs=> [(some k2,.obj 36 (bH p1))]) (λs=>.c 0 (.sl none 32 (List.map bH p0)) (.c 3 (.ptr k2 0) (.c 7 (nZ (p0.length:Int)) (.c 8 (nZ s) .nil)))) (lx (.k4 .nil)) ?_ ?_)))
 rintro _ q0 x m
 replace m:tA u p0 p1 q0=some x:=m
 unfold tA at m
 refine v (v ?_)
 apply vi m <;> intro c0 m
 refine v (v (v (v (vq (by kernel_rfl) (vl 0 (.agg (bH p1)) fL rfl rfl rfl (vx m xZ rfl rfl λx0 _ m=>va (.agg (bH x0)) fL rfl rfl (bV (vU EG RF u5 EF rfl rfl) (v ?_))))))))
 apply vi m <;> intro c1 m
 refine v (v (gM m λm=> ?_))
 obtain rfl:=eU m
 exact eA rfl
 exact v (v (gJ m))
 exact v (zK m)
 rintro _ r0 m
 refine v (v ?_)
 cases m
 exact eA rfl
theorem XT:aP Tryz.prog 110=true:=by kernel_rfl
def XU (m:Nat) (p0:List bL) (p1:bL):Option (Bool):=
 (PX m p0 p1).bind λy6=>some (decide (0≤y6))
theorem W62 {u:Nat} {p0:List bL} {p1:bL} {o:Bool} (h:aE) (m:XU u p0 p1=some o):
 aL Tryz.prog 62 [.sl none 32 (List.map bH p0),.agg (bH p1)] h (λr h'=>r= .sc (.bool o)∧h'=h):=by
 refine fT 9 [.tmp 4] Tryz.func62 rfl rfl rfl rfl ?_
 unfold XU at m
 refine v (hX rfl rfl λk2 K3=>v (vl 0 (.agg (bH p1)) fL rfl rfl rfl (vk aC9 XT m rfl rfl λ_ m=>v ?_)))
 cases m
 exact eA rfl
theorem aDA:aP Tryz.prog 62=true:=by kernel_rfl
def M61 (m:Nat) (p0:dB) (c0:bL):Option (Bool):=
 (XU m p0.Ids c0).bind λy6=>some y6
theorem W61 {w:Nat} {p0:dB} {c0:bL} {o:Bool} (h:aE) {c0K:bY} (c0H:h c0K=some (.obj 36 (bH c0))) (m:M61 w p0 c0=some o):
 aL Tryz.prog 61 [.agg (bT p0),.ptr c0K 0] h (λr h'=>r= .sc (.bool o)∧h'=h):=by
 refine fT 8 [.tmp 3] Tryz.func61 rfl rfl rfl rfl ?_
 unfold M61 at m
 refine v (hX rfl rfl λk2 K3=>v (vl 0 _ u0 rfl rfl rfl (vn (λu=>pN (.agg (bH c0)) fL rfl (l8 u c0H) rfl) (vk W62 aDA m rfl rfl λ_ m=>v ?_))))
 obtain rfl:=eU m
 exact eA rfl
theorem aDB:aP Tryz.prog 61=true:=by kernel_rfl
def M59 (m:Nat) (p0:aH) (c0:bL):Option (Bool):=
 (XS m p0.Man.Parts (λx0=>M61 m x0 c0)).bind λy6=>some y6
theorem W59 {w:Nat} {p0:aH} {c0:bL} {o:Bool} (h:aE) {c0K:bY} (c0H:h c0K=some (.obj 36 (bH c0))) (m:M59 w p0 c0=some o):
 aL Tryz.prog 59 [.agg (bK p0),.ptr c0K 0] h (λr h'=>r= .sc (.bool o)∧h'=h):=by
 refine fT 9 [.tmp 3] Tryz.func59 rfl rfl rfl rfl ?_
 unfold M59 at m
 refine v (hX rfl rfl λk2 K3=>v (vl 0 _ nE rfl rfl rfl ?_))
 obtain⟨_,Y7,m⟩:=aC m
 refine vn (λu=>cB (W60 _ aDB (λ_ o h0 hs ho=>W61 _ (hs _ _ (l8 u c0H)) ho) Y7) rfl aC8 rfl) (v ?_)
 obtain rfl:=eU m
 exact eA rfl
theorem aDC:aP Tryz.prog 59=true:=by kernel_rfl
def XV (m:Nat) (p0:aA) (p1:bL):Option (Bool):=
 (TO m p0.Snaps (λx0=>M59 m x0 p1)).bind λy9=>some y9
theorem W22 {w:Nat} {p0:aA} {p1:bL} {o:Bool} (h:aE) (m:XV w p0 p1=some o):
 aL Tryz.prog 22 [.agg (aF p0),.agg (bH p1)] h (λr h'=>r= .sc (.bool o)∧h'=h):=by
 refine fT 9 [.tmp 4] Tryz.func22 rfl rfl rfl rfl ?_
 unfold XV at m
 refine v (hX rfl rfl λk2 K3=>hX rfl rfl λk5 K6=>v (vl 1 _ eV rfl rfl rfl ?_))
 obtain⟨_,Y0,m⟩:=aC m
 refine vn (λu=>cB (W58 _ aDC (λ_ o h0 hs ho=>W59 _ (hs _ _ (aX 0 u rfl)) ho) Y0) rfl XB rfl) (v ?_)
 obtain rfl:=eU m
 exact eA rfl
theorem aDD:aP Tryz.prog 22=true:=by kernel_rfl
def PY (m:Nat) (p0:aH) (c0:ByteArray):Option (Bool):=
 some (p0.Man.Name.toList==c0.toList)
theorem aDE {w:Nat} {p0:aH} {c0:ByteArray} {o:Bool} (h:aE) {c0K:bY} (c0H:h c0K=some (.obj 9 (LL c0))) (m:PY w p0 c0=some o):
 aL Tryz.prog 104 [.agg (bK p0),.ptr c0K 0] h (λr h'=>r= .sc (.bool o)∧h'=h):=by
 refine fT 9 [.tmp 3] Tryz.func104 rfl rfl rfl rfl ?_
 unfold PY at m
 refine v (hX rfl rfl λk2 K3=>v (vl 0 _ wS rfl rfl rfl (vn (λu=>pN (.sc (.string c0)) wS rfl (l8 u c0H) rfl) (bV (BL rfl rfl rfl trivial) (v ?_)))))
 cases m
 exact eA rfl
theorem XW:aP Tryz.prog 104=true:=by kernel_rfl
def VT (m:Nat) (p0:aA) (p1:ByteArray):Option (Int):=
 (GK m p0.Snaps (λx0=>PY m x0 p1)).bind λy9=>some y9
theorem W46 {w:Nat} {p0:aA} {p1:ByteArray} {o:Int} (h:aE) (m:VT w p0 p1=some o):
 aL Tryz.prog 46 [.agg (aF p0),.sc (.string p1)] h (λr h'=>r=nZ o∧h'=h):=by
 refine fT 9 [.tmp 4] Tryz.func46 rfl rfl rfl rfl ?_
 unfold VT at m
 refine v (hX rfl rfl λk2 K3=>hX rfl rfl λk5 K6=>v (vl 1 _ eV rfl rfl rfl ?_))
 obtain⟨_,Y0,m⟩:=aC m
 refine vn (λu=>cB (XA _ XW (λ_ o h0 hs ho=>aDE _ (hs _ _ (aX 0 u rfl)) ho) Y0) rfl EI rfl) (v ?_)
 obtain rfl:=eU m
 exact eA rfl
theorem XX:aP Tryz.prog 46=true:=by kernel_rfl
def yI (m:Nat) (p0:List aB) (p1:aB→Option Bool) (q0:Int):Option (Lp (Int) (Int)):=
 if (decide (q0 < (p0.length:Int)))=true then ((ix p0 q0).bind λx0=>(p1 x0).bind λy0=>if y0=true then (some (.ret q0)) else some (.go (IntKind.wrap .i64 (q0+1)))) else some (.brk q0)
def XY (m:Nat) (p0:List aB) (p1:aB→Option Bool):Option (Int):=
 after (aU (λs=>yI m p0 p1 s) m 0) λr0=>some (-1)
theorem W53 {w:Nat} {p0:List aB} {p1:aB→Option Bool} {o:Int} (h:aE) {p1F:Nat} {p1C:List AV} (p1B:aP Tryz.prog p1F=true) (p1H:∀x0 o h0,iT h h0→p1 x0=some o→aL Tryz.prog p1F ([.agg (aI x0)]++p1C) h0 (λr h'=>r= .sc (.bool o)∧h'=h0)) (m:XY w p0 p1=some o):
 aL Tryz.prog 53 [.sl none 35 (List.map aI p0),.fn (.func p1F) p1C] h (λr h'=>r=nZ o∧h'=h):=by
 refine fT 19 [.tmp 4] Tryz.func53 rfl rfl rfl rfl ?_
 unfold XY at m
 refine v (v (cY jG rfl (kD m (σ:=Int) (λs=> []) (λs=>.c 0 (.sl none 35 (List.map aI p0)) (.c 1 (.fn (.func p1F) p1C) (.c 7 (nZ (p0.length:Int)) (.c 8 (nZ s) .nil)))) (lx (.k4 .nil)) ?_ ?_)))
 rintro _ q0 x m
 replace m:yI w p0 p1 q0=some x:=m
 unfold yI at m
 refine v (v ?_)
 apply vi m <;> intro c0 m
 refine v (v (v (v (vx m fH rfl rfl λx1 _ m=>va (.agg (aI x1)) nT rfl rfl ?_))))
 obtain⟨_,Y0,m⟩:=aC m
 refine vn (λu=>cB (p1H _ _ _ (aW (List.nil_sublist _) u).1 Y0) rfl p1B rfl) (v ?_)
 apply vi m <;> intro c1 m
 refine v (v (gM m λm=> ?_))
 obtain rfl:=eU m
 exact eA rfl
 exact v (v (gJ m))
 exact v (zK m)
 rintro _ r0 m
 refine v (v ?_)
 cases m
 exact eA rfl
theorem aDF:aP Tryz.prog 53=true:=by kernel_rfl
open Go.Vm Go.ChangeShapes Go.WideShapes
section
variable {H:Type} {enc:TypeId×Value→H} {W:World}
theorem ce3:Tryz.prog.cellsOf 3=1:=by kernel_rfl
theorem rd3:Rd enc Tryz.prog W 3 iU gI:=SR u3
theorem aDG:Rd enc Tryz.prog W 22 PG (gL gI):=Rd.slice rd3 u22 ce3 (λ_=>rfl) (by decide)
theorem XZ:Tryz.prog.cellsOf 67=5:=by kernel_rfl
theorem aDH:Tryz.prog.cellsOf 64=1:=by kernel_rfl
theorem YA:Tryz.prog.cellsOf 95=2:=by kernel_rfl
theorem ce9:Tryz.prog.cellsOf 9=1:=by kernel_rfl
theorem rd9:Rd enc Tryz.prog W 9 LL gT:=SS u9
theorem aDI:Tryz.prog.cellsOf 41=1:=by kernel_rfl
theorem ce5:Tryz.prog.cellsOf 5=1:=by kernel_rfl
theorem rd5:Rd enc Tryz.prog W 5 cW gB:=WG u5
theorem aDJ:Rd enc Tryz.prog W 41 gU (gL gB):=Rd.slice rd5 u41 ce5 (λ_=>rfl) (by decide)
def GO (x:dM):Prop:=gT x.Path∧(gL gB) x.Data
theorem aDK:PA Tryz.prog 95=some 2:=by kernel_rfl
theorem aDL:Rd enc Tryz.prog W 95 eM GO:=by
 intro fuel cs x h
 obtain⟨hl,hf⟩:=Rd.flds aDK YA h
 obtain⟨a0,g0,v0,w0⟩:=hf 0 0 1 TK ce9 rd9
 obtain⟨a1,g1,v1,w1⟩:=hf 1 1 1 TL aDI aDJ
 obtain⟨v,w⟩:=(FV.cons v0 w0 (FV.cons v1 w1 (FV.nil hl) rfl) rfl)
 exact⟨⟨a0,a1⟩,⟨g0,g1⟩,by simpa [eM,LL,gU] using v,by simpa using w⟩
theorem aDM:Rd enc Tryz.prog W 64 ED (gL GO):=Rd.slice aDL u64 YA (λx=>by simp[eM,bH]) (by decide)
theorem aDN:Tryz.prog.cellsOf 65=1:=by kernel_rfl
theorem ce4:Tryz.prog.cellsOf 4=1:=by kernel_rfl
theorem rd4:Rd enc Tryz.prog W 4 F8 gT:=OZ u4
theorem aDO:Rd enc Tryz.prog W 65 EE (gL gT):=Rd.slice rd4 u65 ce4 (λ_=>rfl) (by decide)
def HW (x:nX):Prop:=gI x.Do∧gI x.N∧gI x.Vol∧(gL GO) x.Tree∧(gL gT) x.Pick
theorem aDP:PA Tryz.prog 67=some 5:=by kernel_rfl
theorem aDQ:Rd enc Tryz.prog W 67 fU HW:=by
 intro fuel cs x h
 obtain⟨hl,hf⟩:=Rd.flds aDP XZ h
 obtain⟨a0,g0,v0,w0⟩:=hf 0 0 1 TB ce3 rd3
 obtain⟨a1,g1,v1,w1⟩:=hf 1 1 1 TD ce3 rd3
 obtain⟨a2,g2,v2,w2⟩:=hf 2 2 1 TE ce3 rd3
 obtain⟨a3,g3,v3,w3⟩:=hf 3 3 1 TF aDH aDM
 obtain⟨a4,g4,v4,w4⟩:=hf 4 4 1 TG aDN aDO
 obtain⟨v,w⟩:=(FV.cons v0 w0 (FV.cons v1 w1 (FV.cons v2 w2 (FV.cons v3 w3 (FV.cons v4 w4 (FV.nil hl) rfl) rfl) rfl) rfl) rfl)
 exact⟨⟨a0,a1,a2,a3,a4⟩,⟨g0,g1,g2,g3,g4⟩,by simpa [fU,iU,iU,iU,ED,EE] using v,by simpa using w⟩
theorem aDR:Rd enc Tryz.prog W 23 PH (gL HW):=Rd.slice aDQ u23 XZ (λx=>by simp[fU,bH]) (by decide)
def GP (x:dB):Prop:=gT x.Path∧gI x.Size∧(gL (λx:bL=>gL gB x.1)) x.Ids
def rO (x:aY):Prop:=gT x.Name∧(gL GP) x.Parts
def pV (x:bE):Prop:=gI x.Vol∧gI x.File∧gI x.Off∧gI x.Len
def TS (x:aH):Prop:=gI x.Seq∧rO x.Man∧(gL pV) x.Locs
def HX (x:aB):Prop:=(λx:bL=>gL gB x.1) x.Id∧gT x.Staged∧(gL gB) x.Data∧(gL pV) x.Locs
def YB (x:aS):Prop:=gI x.Seq∧gI x.Of∧(gL pV) x.Locs
def RS (x:aM):Prop:=gI x.Pool∧gI x.Epoch∧gI x.State∧gI x.Files
def A0 (x:aA):Prop:=gI x.Seq∧(gL TS) x.Snaps∧(gL HX) x.Chunks∧(gL YB) x.Exps∧(gL RS) x.Vols
theorem rr3:Tryz.prog.readableRec 3=true∧3 < Tryz.prog.types.size:=⟨by kernel_rfl,of_decide_eq_true (by kernel_rfl)⟩
theorem aDS:Tryz.prog.readableRec 22=true∧22 < Tryz.prog.types.size:=⟨by kernel_rfl,of_decide_eq_true (by kernel_rfl)⟩
theorem aDT:Tryz.prog.readableRec 23=true∧23 < Tryz.prog.types.size:=⟨by kernel_rfl,of_decide_eq_true (by kernel_rfl)⟩
theorem aDU:ownKnob Tryz.prog.godebug=none:=by kernel_rfl
theorem MF:laidOutB Tryz.prog=true:=by kernel_rfl
end
open Go.Vm
def eY (a b c:Int):Bool:=decide (b≤a) && decide (a≤c)
theorem TT (F:Nat) (a b c:Int):yB F a b c=some (eY a b c):=by
 unfold yB eY
 by_cases h:b≤a <;> simp[after,h]
theorem YC (F:Nat) (a b c:Int):HV F a b c=some (eY a b c):=by
 unfold HV eY
 by_cases h:b≤a <;> simp[after,h]
def jK (a b:bE):Bool:=if a.Vol !=b.Vol then decide (b.Vol < a.Vol) else if a.File !=b.File then decide (b.File < a.File) else decide (b.Off < a.Off)
theorem aDV (F:Nat) (a b:bE):L9 F a b=some (jK a b):=by
 unfold L9 jK
 split
 ·rfl
 ·split <;> rfl
def EM (c:aA) (l:List bE) (i:Nat):Bool:=match l[i]? with
  | none=>true
  | some x=>eY x.Vol 0 ((c.Vols.length:Int) - 1) && (match c.Vols[x.Vol.toNat]? with | none=>false | some v=>v.State==2 && eY x.File 1 v.Files) && eY x.Off 0 16777215 && eY x.Len 13 8013 &&
      (i==0 || (match l[i - 1]? with | none=>true | some y=>jK x y))
def gW (c:aA) (l:List bE):Bool:=decide (l.length≤200) && !(List.range l.length).any λi=> !EM c l i
theorem TU {F:Nat} {c:aA} {l:List bE} (hF:1000≤F) (hv:c.Vols.length < 1000):zU F c l=some (gW c l):=by
 unfold zU gW
 by_cases hl:200 < (l.length:Int)
 ·rw[if_pos (by simpa using hl)]; simp; omega
 ·rw[if_neg (by simpa using hl)]
  rw[eW (s0:=(0:Int)) (n:=l.length) (F:=F) (λi:Nat=>(i:Int)) (λi=> !EM c l i) (λ_=>false) (by omega) rfl,iA]
  ·have:l.length≤200:=by omega
   simp only[this,decide_true,Bool.true_and]
   split <;> rename_i h <;> simp[after,h]
  ·intro i hi _
   unfold sR EM
   have hx:l[i]? =some l[i]:=List.getElem?_eq_getElem hi
   generalize l[i]=x at hx
   rw[wr (by omega) (by omega),hH (by omega)]
   simp only[a8,hx,TT,aDV,Option.bind_some,cM,aG,cF,dE,Int.ofNat_lt,hi,decide_true,if_true]
   cases h1:eY x.Vol 0 ((c.Vols.length:Int) - 1)
   ·simp[after]
   ·have h2:0≤x.Vol∧x.Vol.toNat < c.Vols.length:=by simp[eY] at h1; omega
    have h3:c.Vols[x.Vol.toNat]? =some c.Vols[x.Vol.toNat]:=List.getElem?_eq_getElem h2.2
    generalize c.Vols[x.Vol.toNat]=v at h3
    simp only[pU _ h2.1,h3,Option.bind_some]
    by_cases h0:i=0
    ·subst h0
     simp[after]
     grind
    ·have h5:l[i - 1]? =some l[i - 1]:=List.getElem?_eq_getElem (by omega)
     generalize l[i - 1]=y at h5
     rw[yF (by omega) (by omega)]
     simp[after,a8,h5,h0,Nat.pos_of_ne_zero h0]
     grind
  ·intro _
   unfold sR
   simp
open Go.Vm Go.Lib
def key:List Int→Int
 | []=>0
 | a::u=>a*256 ^ u.length+key u
theorem GQ:∀ {l:List Int},gL gB l→0≤key l∧key l < 256 ^ l.length
 | [],_=>by simp[key]
 | a::u,h=>by
  have⟨h1,h2⟩:=h a (by simp)
  have⟨h3,h4⟩:=GQ (l:=u) λx hx=>h x (by simp[hx])
  have hp:(0:Int) < 256 ^ u.length:=Int.pow_pos (by decide)
  simp only[key,List.length_cons,Int.pow_succ]
  have:a*256 ^ u.length≤255*256 ^ u.length:=Int.mul_le_mul_of_nonneg_right (by omega) (by omega)
  have:0≤a*256 ^ u.length:=Int.mul_nonneg h1 (by omega)
  omega
theorem qI {a b:Int} {u v:List Int} (hl:u.length=v.length) (ha:gL gB (a::u)) (hb:gL gB (b::v)):
    (a < b→key (a::u) < key (b::v))∧(a=b→(key (a::u) < key (b::v)↔key u < key v)∧(key (a::u)=key (b::v)↔key u=key v)):=by
  have⟨h3,h4⟩:=GQ (l:=u) λx hx=>ha x (by simp[hx])
  have⟨h5,h6⟩:=GQ (l:=v) λx hx=>hb x (by simp[hx])
  simp only[key]
  rw[hl] at h4 ⊢
  generalize (256:Int) ^ v.length=q at h4 h6
  constructor
  · intro h
    have:(a+1)*q≤b*q:=Int.mul_le_mul_of_nonneg_right (by omega) (by omega)
    rw[Int.add_mul] at this
    omega
  · rintro rfl
    omega
theorem HY:∀ {a b:List Int},a.length=b.length→gL gB a→gL gB b→key a=key b→a=b
 | [], [],_,_,_,_=>rfl
 | x::u,y::v,hl,ha,hb,h=>by
  have hl':u.length=v.length:=by simpa using hl
  obtain⟨h1,h2⟩:=qI hl' ha hb
  obtain⟨h3, -⟩:=qI hl'.symm hb ha
  rcases Int.lt_trichotomy x y with q | q | q
  ·have:=h1 q; omega
  ·subst q
   rw[HY hl' (λz hz=>ha z (by simp[hz])) (λz hz=>hb z (by simp[hz])) ((h2 rfl).2.1 h)]
  ·have:=h3 q; omega
theorem A1 (xs:List Int):(bA xs).data.toList=xs.map λz=>z.toNat.toUInt8:=by
 have:∀(xs:List Int) (acc:ByteArray),(xs.foldl (λacc z=>acc.push z.toNat.toUInt8) acc).data.toList=acc.data.toList++xs.map λz=>z.toNat.toUInt8:=by
  intro xs
  induction xs with
  | nil=>simp
  | cons x xs ih=>intro acc; rw[List.foldl_cons,ih]; simp[ByteArray.push]
 rw[bA,this]
 rfl
theorem RT {a b:Int} (ha:gB a) (hb:gB b):a.toNat.toUInt8 < b.toNat.toUInt8↔a < b:=by
 unfold gB at ha hb
 rw[UInt8.lt_iff_toNat_lt]
 simp only[Nat.toUInt8,UInt8.toNat_ofNat']
 omega
theorem EN:∀ {a b:List Int},a.length=b.length→gL gB a→gL gB b→compareBytes (a.map λz=>z.toNat.toUInt8) (b.map λz=>z.toNat.toUInt8)=if key a < key b then -1 else if key b < key a then 1 else 0
 | [], [],_,_,_=>by simp[compareBytes,key]
 | x::u,y::v,hl,ha,hb=>by
  have hl':u.length=v.length:=by simpa using hl
  obtain⟨h1,h2⟩:=qI hl' ha hb
  obtain⟨h3,h4⟩:=qI hl'.symm hb ha
  have hx:=ha x (by simp)
  have hy:=hb y (by simp)
  simp only[List.map_cons,compareBytes,RT hx hy,RT hy hx]
  rcases Int.lt_trichotomy x y with q | q | q
  ·rw[if_pos q,if_pos (h1 q)]
  ·subst q
   rw[if_neg (by omega),if_neg (by omega),EN hl' (λz hz=>ha z (by simp[hz])) (λz hz=>hb z (by simp[hz]))]
   simp only[(h2 rfl).1,(h4 rfl).1]
  ·rw[if_neg (by omega),if_pos q,if_neg (by have:=h3 q; omega),if_pos (h3 q)]
def mM (x:bL):Prop:=gL gB x.1
def ky (x:bL):Int:=key x.1
theorem MG {a b:bL} (ha:mM a) (hb:mM b) (h:ky a=ky b):a=b:=Subtype.ext (HY (by rw[a.2,b.2]) ha hb h)
theorem MH (F:Nat) {a b:bL} (ha:mM a) (hb:mM b):JK F a b=some (if ky a < ky b then -1 else if ky b < ky a then 1 else 0):=by
 unfold JK FX ky
 rw[cmp_eq,A1,A1,EN (by rw[a.2,b.2]) ha hb]
theorem yJ:∀(n:Nat) {a b:List Int},a.length=n→b.length=n→gL gB a→gL gB b→
    (match (List.range n).find? λi=>a.getD i 0 !=b.getD i 0 with | none=>false | some i=>decide (a.getD i 0 < b.getD i 0))=decide (key a < key b)
  | 0, [], [],_,_,_,_=>by simp[key]
  | n+1,x::u,y::v,h1,h2,ha,hb=>by
    have hl':u.length=v.length:=by simp at h1 h2; omega
    obtain⟨k1,k2⟩:=qI hl' ha hb
    obtain⟨k3,k4⟩:=qI hl'.symm hb ha
    have ih:=yJ n (a:=u) (b:=v) (by simpa using h1) (by simpa using h2) (λz hz=>ha z (by simp[hz])) (λz hz=>hb z (by simp[hz]))
    rw[find_range_succ]
    simp only[List.getD_cons_zero,List.getD_cons_succ]
    by_cases q:x=y
    · subst q
      simp only[bne_self_eq_false,Bool.false_eq_true,if_false,(k2 rfl).1]
      rw[← ih]
      cases (List.range n).find? λi=>u.getD i 0 !=v.getD i 0 with
      | none=>rfl
      | some i=>simp only[Option.map_some,List.getD_cons_succ]
    · have hne:(x !=y)=true:=by simpa using q
      simp only[hne,if_true,List.getD_cons_zero]
      rcases Int.lt_trichotomy x y with w | w | w
      · have:=k1 w; simp[w,this]
      · exact absurd w q
      · have:=k3 w
        simp; constructor <;> intro <;> omega
theorem vW {F:Nat} {a b:bL} (body:Int→Option (Lp Int Bool)) (hF:1000≤F) (ha:mM a) (hb:mM b)
    (h:∀i:Nat,body i=if decide ((i:Int) < 32)=true then ((ix a.1 i).bind λx48=>(ix b.1 i).bind λx50=>if (x48 !=x50)=true then ((ix a.1 i).bind λx54=>(ix b.1 i).bind λx56=>some (.ret (decide (x54 < x56)))) else some (.go (IntKind.wrap .i64 (i+1)))) else some (.brk (i:Int))):
    (after (aU body F 0) λ_=>some false)=some (decide (ky a < ky b)):=by
  rw[eW (s0:=(0:Int)) (n:=32) (F:=F) (λi:Nat=>(i:Int)) (λi=>a.1.getD i 0 !=b.1.getD i 0) (λi=>decide (a.1.getD i 0 < b.1.getD i 0)) (by omega) rfl]
  · have:=yJ 32 a.2 b.2 ha hb
    unfold ky
    rw[← this]
    unfold LF
    cases (List.range 32).find? λi=>a.1.getD i 0 !=b.1.getD i 0 <;> rfl
  · intro i hi _
    rw[h,hH (by omega)]
    have h1:a.1[i]? =some a.1[i]:=List.getElem?_eq_getElem (by rw[a.2]; exact hi)
    have h2:b.1[i]? =some b.1[i]:=List.getElem?_eq_getElem (by rw[b.2]; exact hi)
    have h3:(i:Int) < 32:=by omega
    simp[a8,h1,h2,h3,List.getD]
    split <;> rfl
  · intro _
    rw[h]; simp
theorem m60 {F:Nat} {a b:bL} (hF:1000≤F) (ha:mM a) (hb:mM b):MC F a b=some (decide (ky a < ky b)):=vW (wT F a b) hF ha hb λ_=>rfl
theorem YD {F:Nat} {a b:bL} (hF:1000≤F) (ha:mM a) (hb:mM b):PT F a b=some (decide (ky a < ky b)):=vW (wU F a b) hF ha hb λ_=>rfl
open Go.Vm
structure Sm (c:aA):Prop where
 g:A0 c
 sn:c.Snaps.length≤12
 ch:c.Chunks.length≤400
 ex:c.Exps.length≤300
 vo:c.Vols.length≤20
 sl:∀s∈c.Snaps,s.Locs.length≤300
 cl:∀x∈c.Chunks,x.Locs.length≤300∧x.Data.length≤300
 el:∀x∈c.Exps,x.Locs.length≤300
 man:∀s∈c.Snaps,s.Man.Name.size≤100∧s.Man.Parts.length≤10∧∀p∈s.Man.Parts,p.Path.size≤100∧p.Ids.length≤40
theorem iJ {α:Type} (l:List α) (q:α→Bool):((List.range l.length).any λi=>(l[i]?).any q)=l.any q:=by
 rw[Bool.eq_iff_iff]
 simp only[List.any_eq_true,List.mem_range]
 constructor
 ·rintro⟨i,hi,h⟩
  rw[List.getElem?_eq_getElem hi] at h
  exact⟨l[i],List.getElem_mem hi,by simpa using h⟩
 ·rintro⟨x,hx,h⟩
  obtain⟨i,hi,rfl⟩:=List.getElem_of_mem hx
  exact⟨i,hi,by rw[List.getElem?_eq_getElem hi]; simpa using h⟩
def mD (v:aM):Bool:=eY v.Pool 0 1 && eY v.Epoch 0 1048576 && ((v.State==2 && eY v.Files 1 65535) || ((v.State==1 || v.State==3) && v.Files==0))
theorem tB {α:Type} (l:List α) (q:α→Bool):(l.any λx=> !q x)= !l.all q:=by simp[List.any_eq_not_all_not]
theorem m69 {F:Nat} {l:List aM} (hF:1000≤F) (hl:l.length≤20):W5 F l=some (l.all mD && eY l.length 1 8):=by
 unfold W5
 rw[eW (s0:=(0:Int)) (n:=l.length) (F:=F) (λi:Nat=>(i:Int)) (λi=>(l[i]?).any λv=> !mD v) (λ_=>false) (by omega) rfl,iA,iJ,tB]
 ·cases h:l.all mD <;> simp[after,TT]
 ·intro i hi _
  unfold yC mD
  have hx:l[i]? =some l[i]:=List.getElem?_eq_getElem hi
  generalize l[i]=x at hx
  rw[hH (by omega)]
  simp only[a8,hx,TT,Option.bind_some,cM,aG,cF,dE,Int.ofNat_lt,hi,decide_true,if_true,Option.any_some]
  by_cases h2:x.State=2
  ·simp[h2]; grind
  ·by_cases h1:x.State=1
   ·simp[h1]; grind
   ·by_cases h3:x.State=3
    ·simp[h3]; grind
    ·simp[h1,h2,h3]
 ·intro _
  unfold yC
  simp
theorem m61 {F:Nat} {c:aA} {l:List bE} (hF:1000≤F) (hv:c.Vols.length < 1000):zY F c l=some (gW c l):=by
 unfold zY gW
 by_cases hl:200 < (l.length:Int)
 ·rw[if_pos (by simpa using hl)]; simp; omega
 ·rw[if_neg (by simpa using hl)]
  rw[eW (s0:=(0:Int)) (n:=l.length) (F:=F) (λi:Nat=>(i:Int)) (λi=> !EM c l i) (λ_=>false) (by omega) rfl,iA]
  ·have:l.length≤200:=by omega
   simp only[this,decide_true,Bool.true_and]
   split <;> rename_i h <;> simp[after,h]
  ·intro i hi _
   unfold sW EM
   have hx:l[i]? =some l[i]:=List.getElem?_eq_getElem hi
   generalize l[i]=x at hx
   rw[hH (by omega)]
   simp only[a8,hx,YC,Option.bind_some,cM,aG,cF,dE,Int.ofNat_lt,hi,decide_true,if_true]
   by_cases h1:x.Vol < 0
   ·simp[h1,eY]
    try omega
   ·by_cases h2:(c.Vols.length:Int)≤x.Vol
    ·simp[h1,h2,eY]; omega
    ·have h2':0≤x.Vol∧x.Vol.toNat < c.Vols.length:=by omega
     have h3:c.Vols[x.Vol.toNat]? =some c.Vols[x.Vol.toNat]:=List.getElem?_eq_getElem h2'.2
     generalize c.Vols[x.Vol.toNat]=v at h3
     have h4:eY x.Vol 0 ((c.Vols.length:Int) - 1)=true:=by simp[eY]; omega
     simp only[pU _ h2'.1,h3,Option.bind_some,h1,h2,h4,Bool.true_and,decide_false]
     by_cases h0:i=0
     ·subst h0
      simp[after]
      grind
     ·have h5:l[i - 1]? =some l[i - 1]:=List.getElem?_eq_getElem (by omega)
      generalize l[i - 1]=y at h5
      rw[yF (by omega) (by omega)]
      simp[after,a8,h5,h0,Nat.pos_of_ne_zero h0,jK]
      grind
  ·intro _
   unfold sW
   simp
def HZ (c:aA) (i:Nat):Bool:=match c.Chunks[i]? with
 | none=>true
 | some x=>(i==0 || (match c.Chunks[i - 1]? with | none=>true | some y=>decide (ky y.Id < ky x.Id))) && gW c x.Locs && (if x.Staged then eY x.Data.length 1 64 else (!decide (0 < x.Data.length) && !(x.Locs.length==0)))
theorem gch {c:aA} (h:Sm c) {i:Nat} {x:aB} (hx:c.Chunks[i]? =some x):mM x.Id:=by
 have:=h.g.2.2.1 x (List.mem_of_getElem? hx)
 exact this.1
theorem MI {F:Nat} {c:aA} (hF:1000≤F) (h:Sm c) {i:Nat} (hi:i < c.Chunks.length):vA F c i=some (if !HZ c i then .ret false else .go ((i+1:Nat):Int)):=by
 have hc:=h.ch
 have hv:=h.vo
 unfold vA HZ
 have hx:c.Chunks[i]? =some c.Chunks[i]:=List.getElem?_eq_getElem hi
 generalize c.Chunks[i]=x at hx
 have gx:=gch h hx
 rw[hH (by omega)]
 simp only[a8,hx,TT,TU hF (show c.Vols.length < 1000 by omega),Option.bind_some,cM,aG,cF,dE,Int.ofNat_lt,hi,decide_true,if_true]
 generalize x.Locs.length=nl
 generalize x.Data.length=nd
 by_cases h0:i=0
 ·subst h0
  cases hs:x.Staged <;> simp[cM,aG,cF,dE] <;> grind
 ·have h5:c.Chunks[i - 1]? =some c.Chunks[i - 1]:=List.getElem?_eq_getElem (by omega)
  generalize c.Chunks[i - 1]=y at h5
  have gy:=gch h h5
  rw[yF (by omega) (by omega)]
  by_cases hk:ky y.Id < ky x.Id
  ·have e:¬(0≤if ky y.Id < ky x.Id then (-1:Int) else if ky x.Id < ky y.Id then 1 else 0):=by rw[if_pos hk]; omega
   cases hs:x.Staged <;> simp[cM,aG,cF,dE,a8,h5,h0,Nat.pos_of_ne_zero h0,MH F gy gx,e,hk] <;> grind
  ·have e:(0≤if ky y.Id < ky x.Id then (-1:Int) else if ky x.Id < ky y.Id then 1 else 0):=by rw[if_neg hk]; split <;> omega
   simp[cM,aG,cF,dE,a8,h5,h0,Nat.pos_of_ne_zero h0,MH F gy gx,e,hk]
   try (intro hh; exfalso; split at hh <;> omega)
def vJ (c:aA):Bool:= !(List.range c.Chunks.length).any λi=> !HZ c i
theorem m70 {F:Nat} {c:aA} (hF:1000≤F) (h:Sm c):XG F c=some (vJ c && decide (c.Chunks.length≤200)):=by
 have hc:=h.ch
 unfold XG vJ
 rw[eW (s0:=(0:Int)) (n:=c.Chunks.length) (F:=F) (λi:Nat=>(i:Int)) (λi=> !HZ c i) (λ_=>false) (by omega) rfl,iA]
 ·cases (List.range c.Chunks.length).any λi=> !HZ c i <;> simp[after]; omega
 ·exact λi hi _=>MI hF h hi
 ·intro _; unfold vA; simp
theorem TV {F:Nat} {c:aA} (hF:1000≤F) (h:Sm c) {i:Nat} (hi:i < c.Chunks.length):rM F c i=some (if !HZ c i then .ret false else .go ((i+1:Nat):Int)):=by
 have hc:=h.ch
 have hv:=h.vo
 unfold rM HZ
 have hx:c.Chunks[i]? =some c.Chunks[i]:=List.getElem?_eq_getElem hi
 generalize c.Chunks[i]=x at hx
 have gx:=gch h hx
 rw[hH (by omega)]
 simp only[a8,hx,YC,m61 hF (show c.Vols.length < 1000 by omega),Option.bind_some,cM,aG,cF,dE,Int.ofNat_lt,hi,decide_true,if_true]
 generalize x.Locs.length=nl
 generalize x.Data.length=nd
 by_cases h0:i=0
 ·subst h0
  cases hs:x.Staged <;> simp[cM,aG,cF,dE] <;> grind
 ·have h5:c.Chunks[i - 1]? =some c.Chunks[i - 1]:=List.getElem?_eq_getElem (by omega)
  generalize c.Chunks[i - 1]=y at h5
  have gy:=gch h h5
  rw[yF (by omega) (by omega)]
  by_cases hk:ky y.Id < ky x.Id
  ·cases hs:x.Staged <;> simp[cM,aG,cF,dE,a8,h5,h0,Nat.pos_of_ne_zero h0,m60 hF gy gx,hk] <;> grind
  ·simp[cM,aG,cF,dE,a8,h5,h0,Nat.pos_of_ne_zero h0,m60 hF gy gx,hk]
theorem TW {F:Nat} {c:aA} (hF:1000≤F) (h:Sm c) {i:Nat} (hi:i < c.Vols.length):rL F c i=some (if (c.Vols[i]?).any λv=> !mD v then .ret false else .go ((i+1:Nat):Int)):=by
 have hv:=h.vo
 unfold rL mD
 have hx:c.Vols[i]? =some c.Vols[i]:=List.getElem?_eq_getElem hi
 generalize c.Vols[i]=x at hx
 rw[hH (by omega)]
 simp only[a8,hx,YC,Option.bind_some,cM,aG,cF,dE,Int.ofNat_lt,hi,decide_true,if_true,Option.any_some]
 by_cases h2:x.State=2
 ·simp[h2]; grind
 ·by_cases h1:x.State=1
  ·simp[h1]; grind
  ·by_cases h3:x.State=3
   ·simp[h3]; grind
   ·simp[h1,h2,h3]
open Go.Vm
theorem EO {s:ByteArray} {i:Nat} (h:i < s.size):∃z:Int,OV s (i:Int)=some z:=by
 unfold OV
 rw[if_pos (Int.natCast_nonneg i),Int.toNat_natCast]
 have:s[i]? =some s[i]:=getElem?_pos s i h
 rw[this]
 exact⟨_,rfl⟩
def TX (s:ByteArray) (i:Nat):Bool:=(OV s (i:Int)).any λz=>decide (z < 33) || decide (126 < z)
def qU (s:ByteArray):Bool:=eY s.size 1 20 && !(List.range s.size).any (TX s)
theorem YE {F:Nat} {s:ByteArray} (hF:1000≤F):JJ F s=some (qU s):=by
 unfold JJ qU eY
 by_cases h1:(s.size:Int) < 1
 ·have h2:¬(1:Int)≤s.size:=by omega
  simp[after,h1,h2]
 ·by_cases h2:20 < (s.size:Int)
  ·have h3:¬(s.size:Int)≤20:=by omega
   simp[after,h1,h2,h3]
  ·rw[eW (s0:=(0:Int)) (n:=s.size) (F:=F) (λi:Nat=>(i:Int)) (TX s) (λ_=>false) (by omega) rfl,iA]
   ·have h3:(s.size:Int)≤20:=by omega
    have h4:(1:Int)≤s.size:=by omega
    simp only[h1,h2,h3,h4]
    cases h:(List.range s.size).any (TX s) <;> simp[after]
   ·intro i hi _
    unfold sS TX
    obtain⟨z,hz⟩:=EO hi
    rw[hH (by omega)]
    simp only[hz,Option.bind_some,cM,aG,cF,dE,Int.ofNat_lt,hi,decide_true,if_true,Option.any_some]
    grind
   ·intro _
    unfold sS
    simp
theorem MJ {F:Nat} {s:ByteArray} (hF:1000≤F) (hs:s.size≤100):CN F s=some (qU s):=by
 unfold CN qU eY
 rw[eW (s0:=(0:Int)) (n:=s.size) (F:=F) (λi:Nat=>(i:Int)) (TX s) (λ_=>false) (by omega) rfl,iA]
 ·cases h:(List.range s.size).any (TX s)
  ·simp only[cM,aG,cF]
   by_cases h1:(1:Int)≤s.size <;> simp[aG,h1]
  ·simp[after]
 ·intro i hi _
  unfold sX TX
  obtain⟨z,hz⟩:=EO hi
  rw[hH (by omega)]
  simp only[hz,Option.bind_some,cM,aG,cF,dE,Int.ofNat_lt,hi,decide_true,if_true,Option.any_some]
  grind
 ·intro _
  unfold sX
  simp
def MK (x y:dB):Bool:=Op.bytesLess x.Path.toList y.Path.toList || x.Path.toList==y.Path.toList
def EP (x:dB):Bool:=qU x.Path && decide (0≤x.Size) && decide (x.Size≤200) && decide (x.Ids.length≤25) && ((x.Ids.length==0)==(x.Size==0))
def TY (m:aY) (i:Nat):Bool:=match m.Parts[i]? with
 | none=>true
 | some x=>EP x && (i==0 || (match m.Parts[i - 1]? with | none=>true | some y=> !MK x y))
def rP (m:aY):Bool:=qU m.Name && decide (m.Parts.length≤6) && !(List.range m.Parts.length).any λi=> !TY m i
theorem LB (n:Nat):((n:Int)==0)=(n==0):=by
 rw[Bool.eq_iff_iff]; simp
theorem aDY {F:Nat} {x:dB} (hF:1000≤F):MA F x=some (EP x):=by
 unfold MA EP
 simp only[YE hF,Option.bind_some,cM,aG,LB]
 generalize qU x.Path=a
 generalize x.Ids.length=n
 by_cases h1:(n:Int)≤25
 ·have h2:n≤25:=by omega
  simp only[h1,h2]
  grind
 ·have h2:¬n≤25:=by omega
  simp only[h1,h2]
  grind
theorem m73 {F:Nat} {m:aY} (hF:1000≤F):EH F m=some (if rP m then 0 else 1):=by
 unfold EH rP
 simp only[YE hF,Option.bind_some,cM,aG,dE]
 cases hn:qU m.Name
 ·simp
 ·by_cases hl:6 < (m.Parts.length:Int)
  ·have:¬m.Parts.length≤6:=by omega
   simp[hl,this]
  ·have h6:m.Parts.length≤6:=by omega
   rw[eW (s0:=(0:Int)) (n:=m.Parts.length) (F:=F) (λi:Nat=>(i:Int)) (λi=> !TY m i) (λ_=>1) (by omega) rfl,iA]
   ·simp only[hl,h6]
    cases (List.range m.Parts.length).any λi=> !TY m i <;> simp[after]
   ·intro i hi _
    unfold sU TY
    have hx:m.Parts[i]? =some m.Parts[i]:=List.getElem?_eq_getElem hi
    generalize m.Parts[i]=x at hx
    rw[hH (by omega)]
    simp only[a8,hx,aDY hF,Option.bind_some,cM,aG,cF,dE,Int.ofNat_lt,hi,decide_true,if_true]
    by_cases h0:i=0
    ·subst h0
     simp
     split <;> rfl
    ·have h5:m.Parts[i - 1]? =some m.Parts[i - 1]:=List.getElem?_eq_getElem (by omega)
     generalize m.Parts[i - 1]=y at h5
     rw[yF (by omega) (by omega)]
     simp only[a8,h5,Option.bind_some,aG]
     rw[show (Op.bytesLess x.Path.toList y.Path.toList || x.Path.toList==y.Path.toList)=MK x y from rfl]
     have h7:(0:Int) < i:=by omega
     simp only[h7,decide_true,if_true,h0]
     cases EP x <;> cases MK x y <;> simp[h0]
   ·intro _; unfold sU; simp
theorem m62 {F:Nat} {m:aY} (hF:1000≤F) (hm:m.Name.size≤100) (hp:∀p∈m.Parts,p.Path.size≤100):VS F m=some (rP m):=by
 unfold VS rP
 simp only[MJ hF hm,Option.bind_some,cM,aG,dE]
 cases hn:qU m.Name
 ·simp
 ·by_cases hl:6 < (m.Parts.length:Int)
  ·have:¬m.Parts.length≤6:=by omega
   simp[hl,this]
  ·have h6:m.Parts.length≤6:=by omega
   rw[eW (s0:=(0:Int)) (n:=m.Parts.length) (F:=F) (λi:Nat=>(i:Int)) (λi=> !TY m i) (λ_=>false) (by omega) rfl,iA]
   ·simp only[hl,h6]
    cases (List.range m.Parts.length).any λi=> !TY m i <;> simp[after]
   ·intro i hi _
    unfold yG TY EP
    have hx:m.Parts[i]? =some m.Parts[i]:=List.getElem?_eq_getElem hi
    have hpx:=hp _ (List.mem_of_getElem? hx)
    generalize m.Parts[i]=x at hx hpx
    rw[hH (by omega)]
    simp only[a8,hx,MJ hF hpx,Option.bind_some,cM,aG,cF,dE,Int.ofNat_lt,hi,decide_true,if_true,LB]
    generalize qU x.Path=a
    generalize x.Ids.length=n
    have hn:(25 < (n:Int))=(25 < n):=by simp; omega
    simp only[hn]
    by_cases h0:i=0
    ·subst h0
     simp
     grind
    ·have h5:m.Parts[i - 1]? =some m.Parts[i - 1]:=List.getElem?_eq_getElem (by omega)
     generalize m.Parts[i - 1]=y at h5
     rw[yF (by omega) (by omega)]
     simp only[a8,h5,Option.bind_some,aG]
     rw[show (Op.bytesLess x.Path.toList y.Path.toList || x.Path.toList==y.Path.toList)=MK x y from rfl]
     have h7:(0:Int) < i:=by omega
     have h8:(i==0)=false:=by simpa using h0
     simp only[h7,decide_true,if_true,h8,Bool.false_or]
     generalize MK x y=o
     generalize ((n==0):Bool)=e0
     generalize (x.Size==0:Bool)=e1
     have e2:decide (x.Size < 0)= !decide (0≤x.Size):=by rw[← decide_not]; congr 1; simp
     have e3:decide (200 < x.Size)= !decide (x.Size≤200):=by rw[← decide_not]; congr 1; simp
     have e4:decide (25 < n)= !decide (n≤25):=by rw[← decide_not]; congr 1; simp
     rw[e2,e3,e4]
     generalize decide (0≤x.Size)=f2
     generalize decide (x.Size≤200)=f3
     generalize decide (n≤25)=f4
     cases a <;> cases o <;> cases f2 <;> cases f3 <;> cases f4 <;> cases e0 <;> cases e1 <;> rfl
   ·intro _; unfold yG; simp
open Go.Vm
theorem tC {α:Type} {l:List α} (q:α→Bool) {F:Nat} {body:Int→Option (Lp Int Int)} (hF:l.length < F)
    (hb:∀i:Nat,i < l.length→body (i:Int)=some (if (l[i]?).any q then .ret (i:Int) else .go ((i+1:Nat):Int))) (he:body (l.length:Int)=some (.brk (l.length:Int))):
    (after (aU body F 0) λ_=>some (-1)).bind (λy=>some (decide (0≤y)))=some (l.any q):=by
  rw[eW (s0:=(0:Int)) (n:=l.length) (F:=F) (λi:Nat=>(i:Int)) (λi=>(l[i]?).any q) (λi=>(i:Int)) hF rfl (λi hi _=>hb i hi) (λ_=>he),← iJ]
  unfold LF
  cases h:(List.range l.length).find? λi=>(l[i]?).any q with
  | none=>
    have:(List.range l.length).any (λi=>(l[i]?).any q)=false:=by
      rw[List.any_eq_false]
      exact λx hx=>by simpa using List.find?_eq_none.1 h x hx
    simp[after,this]
  | some i=>
    have:(List.range l.length).any (λi=>(l[i]?).any q)=true:=List.any_eq_true.2 ⟨i,List.mem_of_find?_eq_some h,List.find?_some (p:=λi=>(l[i]?).any q) h⟩
    simp[after,this]
theorem m89 {F:Nat} {l:List aH} {f:aH→Option Bool} (q:aH→Bool) (hF:l.length < F) (hl:l.length < 1000) (hf:∀x∈l,f x=some (q x)):TO F l f=some (l.any q):=by
 unfold TO GK
 refine tC q hF (λi hi=> ?_) (by unfold oO; simp)
 unfold oO
 have hx:l[i]? =some l[i]:=List.getElem?_eq_getElem hi
 rw[hH (by omega)]
 simp only[a8,hx,hf _ (List.getElem_mem hi),Option.bind_some,Int.ofNat_lt,hi,decide_true,if_true,Option.any_some]
 split <;> rfl
theorem m91 {F:Nat} {l:List dB} {f:dB→Option Bool} (q:dB→Bool) (hF:l.length < F) (hl:l.length < 1000) (hf:∀x∈l,f x=some (q x)):XS F l f=some (l.any q):=by
 unfold XS PW
 refine tC q hF (λi hi=> ?_) (by unfold s9; simp)
 unfold s9
 have hx:l[i]? =some l[i]:=List.getElem?_eq_getElem hi
 rw[hH (by omega)]
 simp only[a8,hx,hf _ (List.getElem_mem hi),Option.bind_some,Int.ofNat_lt,hi,decide_true,if_true,Option.any_some]
 split <;> rfl
theorem m93 {F:Nat} {l:List bL} {d:bL} (hF:l.length < F) (hl:l.length < 1000):XU F l d=some (l.any λx=>decide (d=x)):=by
 unfold XU PX
 refine tC (λx=>decide (d=x)) hF (λi hi=> ?_) (by unfold tA; simp)
 unfold tA
 have hx:l[i]? =some l[i]:=List.getElem?_eq_getElem hi
 rw[hH (by omega)]
 simp only[a8,hx,Option.bind_some,Int.ofNat_lt,hi,decide_true,if_true,Option.any_some]
 split <;> rfl
def kU (c:aA) (d:bL):Bool:=c.Snaps.any λs=>s.Man.Parts.any λp=>p.Ids.any λx=>decide (d=x)
theorem m44 {F:Nat} {c:aA} {d:bL} (hF:1000≤F) (h:Sm c):XV F c d=some (kU c d):=by
 have hs:=h.sn
 unfold XV kU
 rw[m89 (λs=>s.Man.Parts.any λp=>p.Ids.any λx=>decide (d=x)) (by omega) (by omega)]
 ·rfl
 ·intro s hs'
  obtain⟨h1,h2,h3⟩:=h.man s hs'
  unfold M59
  rw[m91 (λp=>p.Ids.any λx=>decide (d=x)) (by omega) (by omega)]
  ·rfl
  ·intro p hp
   unfold M61
   rw[m93 (by have:=(h3 p hp).2; omega) (by have:=(h3 p hp).2; omega)]
   rfl
def zJ (c:aA) (i:Nat):Bool:=match c.Exps[i]? with
 | none=>true
 | some x=>eY x.Seq 0 (c.Seq - 1) && (i==0 || (match c.Exps[i - 1]? with | none=>true | some y=>decide (y.Seq < x.Seq))) && eY x.Of 0 (x.Seq - 1) && !(x.Locs.length==0) && gW c x.Locs
def JM (c:aA) (i:Nat):Bool:=match c.Exps[i]? with
 | none=>true
 | some x=> !c.Snaps.any λs=>s.Seq==x.Of
theorem gex {c:aA} (h:Sm c) {i:Nat} {x:aS} (hx:c.Exps[i]? =some x):gI x.Seq∧gI x.Of:=by
 have:=h.g.2.2.2.1 x (List.mem_of_getElem? hx)
 exact⟨this.1,this.2.1⟩
theorem TZ {F:Nat} {c:aA} (hF:1000≤F) (h:Sm c) (hq:eY c.Seq 0 1073741824=true) {i:Nat} (hi:i < c.Exps.length):
    u7 F c i=some (if !(zJ c i && JM c i) then .ret false else .go ((i+1:Nat):Int)):=by
  have hc:=h.ex
  have hv:=h.vo
  have hsn:=h.sn
  unfold u7 zJ JM
  have hx:c.Exps[i]? =some c.Exps[i]:=List.getElem?_eq_getElem hi
  generalize c.Exps[i]=x at hx
  have gx:=gex h hx
  have hq':0≤c.Seq∧c.Seq≤1073741824:=by simpa [eY] using hq
  rw[hH (by omega),wr (n:=c.Seq - 1) (by omega) (by omega)]
  have hm:TO F c.Snaps (λx0=>PQ F x0 x)=some (c.Snaps.any λs=>s.Seq==x.Of):=m89 (λs=>s.Seq==x.Of) (by omega) (by omega) (λs _=>rfl)
  simp only[a8,hx,hm,TT,TU hF (show c.Vols.length < 1000 by omega),Option.bind_some,cM,aG,cF,dE,Int.ofNat_lt,hi,decide_true,if_true,LB]
  generalize (x.Locs.length==0)=nl
  generalize gW c x.Locs=lb
  generalize (c.Snaps.any λs=>s.Seq==x.Of)=an
  cases h1:eY x.Seq 0 (c.Seq - 1)
  · simp
  · have h1':0≤x.Seq∧x.Seq≤c.Seq - 1:=by simpa [eY] using h1
    rw[wr (n:=x.Seq - 1) (by omega) (by omega)]
    generalize eY x.Of 0 (x.Seq - 1)=ob
    by_cases h0:i=0
    · subst h0
      cases nl <;> cases lb <;> cases an <;> cases ob <;> simp
    · have h5:c.Exps[i - 1]? =some c.Exps[i - 1]:=List.getElem?_eq_getElem (by omega)
      generalize c.Exps[i - 1]=y at h5
      rw[yF (by omega) (by omega)]
      have h7:(0:Int) < i:=by omega
      have h8:(i==0)=false:=by simpa using h0
      have e4:decide (x.Seq≤y.Seq)= !decide (y.Seq < x.Seq):=by rw[← decide_not]; congr 1; simp
      simp only[a8,h5,h7,h8,e4,Option.bind_some,decide_true,if_true,Bool.false_or]
      generalize decide (y.Seq < x.Seq)=od
      cases nl <;> cases lb <;> cases an <;> cases ob <;> cases od <;> simp[cM,aG]
def zZ (c:aA):Bool:= !(List.range c.Exps.length).any λi=> !(zJ c i && JM c i)
theorem m72 {F:Nat} {c:aA} (hF:1000≤F) (h:Sm c) (hq:eY c.Seq 0 1073741824=true):XD F c=some (zZ c && decide (c.Exps.length≤200)):=by
 have hc:=h.ex
 unfold XD zZ
 rw[eW (s0:=(0:Int)) (n:=c.Exps.length) (F:=F) (λi:Nat=>(i:Int)) (λi=> !(zJ c i && JM c i)) (λ_=>false) (by omega) rfl,iA]
 ·cases (List.range c.Exps.length).any λi=> !(zJ c i && JM c i) <;> simp[after]; omega
 ·exact λi hi _=>TZ hF h hq hi
 ·intro _; unfold u7; simp
theorem PZ {F:Nat} {c:aA} (hF:1000≤F) (h:Sm c) {i:Nat} (hi:i < c.Exps.length):
    oR F c i=some (if !zJ c i then .ret false else .go ((i+1:Nat):Int)):=by
  have hc:=h.ex
  have hv:=h.vo
  unfold oR zJ eY
  have hx:c.Exps[i]? =some c.Exps[i]:=List.getElem?_eq_getElem hi
  generalize c.Exps[i]=x at hx
  rw[hH (by omega)]
  simp only[a8,hx,YC,m61 hF (show c.Vols.length < 1000 by omega),Option.bind_some,cM,aG,cF,dE,Int.ofNat_lt,hi,decide_true,if_true,LB]
  generalize (x.Locs.length==0)=nl
  generalize gW c x.Locs=lb
  have e1:decide (x.Seq < 0)= !decide (0≤x.Seq):=by rw[← decide_not]; congr 1; simp
  have e2:decide (c.Seq≤x.Seq)= !decide (x.Seq≤c.Seq - 1):=by rw[← decide_not]; congr 1; simp; omega
  have e3:decide (x.Of < 0)= !decide (0≤x.Of):=by rw[← decide_not]; congr 1; simp
  have e5:decide (x.Seq≤x.Of)= !decide (x.Of≤x.Seq - 1):=by rw[← decide_not]; congr 1; simp; omega
  rw[e1,e2,e3,e5]
  generalize decide (0≤x.Seq)=d1
  generalize decide (x.Seq≤c.Seq - 1)=d2
  generalize decide (0≤x.Of)=d3
  generalize decide (x.Of≤x.Seq - 1)=d5
  by_cases h0:i=0
  · subst h0
    cases nl <;> cases lb <;> cases d1 <;> cases d2 <;> cases d3 <;> cases d5 <;> simp
  · have h5:c.Exps[i - 1]? =some c.Exps[i - 1]:=List.getElem?_eq_getElem (by omega)
    generalize c.Exps[i - 1]=y at h5
    rw[yF (by omega) (by omega)]
    have h7:(0:Int) < i:=by omega
    have h8:(i==0)=false:=by simpa using h0
    have e4:decide (x.Seq≤y.Seq)= !decide (y.Seq < x.Seq):=by rw[← decide_not]; congr 1; simp
    simp only[a8,h5,h7,h8,e4,Option.bind_some,decide_true,if_true,Bool.false_or]
    generalize decide (y.Seq < x.Seq)=od
    cases nl <;> cases lb <;> cases d1 <;> cases d2 <;> cases d3 <;> cases d5 <;> cases od <;> simp[cM,aG]
open Go.Vm
theorem YF {a b:Nat} (h:a+b < 1000000000):IntKind.wrap .i64 ((IntKind.wrap .u64 (IntKind.wrap .i64 ((a:Int)+b))).fdiv (2 ^ (min (1:Int).toNat (IntKind.bits .u64))))=(((a+b) / 2:Nat):Int):=by
 have e1:IntKind.wrap .i64 ((a:Int)+b)=((a+b:Nat):Int):=by rw[wr (by omega) (by omega)]; omega
 have e2:∀n:Nat,n < 1000000000→IntKind.wrap .u64 (n:Int)=n:=by
  intro n hn
  have e:IntKind.wrap .u64 (n:Int)=(n:Int) % 18446744073709551616:=rfl
  rw[e]; omega
 rw[e1,e2 _ h]
 have e3:(2:Int) ^ (min (1:Int).toNat (IntKind.bits .u64))=2:=by decide
 rw[e3,Int.fdiv_eq_ediv_of_nonneg _ (by omega),wr (by omega) (by omega)]
 omega
def rZ (l:List aB):Prop:=(∀x∈l,mM x.Id)∧∀(i j:Nat) (x y:aB),l[i]? =some x→l[j]? =some y→i < j→ky x.Id < ky y.Id
theorem T0 {c:aA} (h:Sm c) (hc:vJ c=true):rZ c.Chunks:=by
 refine⟨λx hx=>(h.g.2.2.1 x hx).1, ?_⟩
 have hs:∀i x y,c.Chunks[i]? =some x→c.Chunks[i+1]? =some y→ky x.Id < ky y.Id:=by
  intro i x y hx hy
  have hi:i+1 < c.Chunks.length:=(List.getElem?_eq_some_iff.1 hy).1
  unfold vJ at hc
  simp only[Bool.not_eq_true',List.any_eq_false,List.mem_range] at hc
  have:=hc (i+1) hi
  unfold HZ at this
  rw[hy,show i+1 - 1=i from rfl,hx] at this
  simp at this
  exact this.1
 intro i j x y hx hy hij
 obtain⟨k,rfl⟩:∃k,j=i+1+k:=⟨j - i - 1,by omega⟩
 clear hij
 induction k generalizing y with
 | zero=>exact hs i x y hx hy
 | succ k ih=>
  have hk:i+1+k < c.Chunks.length:=by have:=(List.getElem?_eq_some_iff.1 hy).1; omega
  exact Int.lt_trans (ih _ (List.getElem?_eq_getElem hk)) (hs (i+1+k) _ _ (List.getElem?_eq_getElem hk) hy)
theorem bis {F:Nat} {l:List aB} {d:bL} (hr:rZ l) (hd:mM d) (hl:l.length < 1000):∀(G lo hi:Nat),lo≤hi→hi≤l.length→hi - lo < G→
    (∀j x,l[j]? =some x→j < lo→ky x.Id < ky d)→(∀j x,l[j]? =some x→hi≤j→ky d≤ky x.Id)→
    ∃p:Nat,p≤l.length∧aU (λs=>sV F l d (λx0 x1=>zV F x0 x1) s.1 s.2) G ((lo:Int),(hi:Int))=some (.brk ((p:Int),(p:Int)))∧
      (∀j x,l[j]? =some x→j < p→ky x.Id < ky d)∧(∀j x,l[j]? =some x→p≤j→ky d≤ky x.Id)
  | 0,_,_,_,_,h,_,_=>by omega
  | G+1,lo,hi,h1,h2,h3,h4,h5=>by
    unfold aU sV
    by_cases hlt:lo < hi
    · have hm:(lo+hi) / 2 < l.length:=by omega
      have hx:l[(lo+hi) / 2]? =some l[(lo+hi) / 2]:=List.getElem?_eq_getElem hm
      generalize l[(lo+hi) / 2]=x at hx
      have gx:=hr.1 x (List.mem_of_getElem? hx)
      have e:zV F x d=some (if ky x.Id < ky d then -1 else if ky d < ky x.Id then 1 else 0):=by unfold zV; rw[MH F gx hd]; rfl
      simp only[Int.ofNat_lt,hlt,decide_true,if_true,YF (show lo+hi < 1000000000 by omega),a8,hx,Option.bind_some,e]
      by_cases hk:ky x.Id < ky d
      · simp only[hk,if_true,show decide ((-1:Int) < 0)=true from rfl,aG]
        rw[hH (by omega)]
        exact bis hr hd hl G ((lo+hi) / 2+1) hi (by omega) h2 (by omega) (λj y hy hj=>by
          rcases Nat.lt_or_ge j ((lo+hi) / 2) with q | q
          · exact Int.lt_trans (hr.2 _ _ _ _ hy hx q) hk
          · obtain rfl:j=(lo+hi) / 2:=by omega
            rw[hx] at hy; cases hy; exact hk) h5
      · have e2:decide ((if ky x.Id < ky d then (-1:Int) else if ky d < ky x.Id then 1 else 0) < 0)=false:=by rw[if_neg hk]; split <;> rfl
        simp only[e2,Bool.false_eq_true,if_false,aG]
        exact bis hr hd hl G lo ((lo+hi) / 2) (by omega) (by omega) (by omega) h4 (λj y hy hj=>by
          rcases Nat.lt_or_ge ((lo+hi) / 2) j with q | q
          · have:=hr.2 _ _ _ _ hx hy q; omega
          · obtain rfl:j=(lo+hi) / 2:=by omega
            rw[hx] at hy; cases hy; omega)
    · obtain rfl:lo=hi:=by omega
      refine⟨lo,h2, ?_,h4,h5⟩
      simp
def kK (l:List aB) (d:bL):Bool:=l.any λx=>decide (x.Id=d)
theorem YG {F:Nat} {l:List aB} {d:bL} (hF:1000≤F) (hr:rZ l) (hd:mM d) (hl:l.length < 1000):∃p:Int,wN F l d=some (p,kK l d):=by
 unfold wN MB
 obtain⟨p,hp,e,h1,h2⟩:=bis (F:=F) hr hd hl F 0 l.length (by omega) (Nat.le_refl _) (by omega) (λj x _ hj=>by omega) (λj x hx hj=>by have:=(List.getElem?_eq_some_iff.1 hx).1; omega)
 rw[show ((0:Int),(l.length:Int))=(((0:Nat):Int),(l.length:Int)) from rfl,e]
 simp only[aG]
 refine⟨p, ?_⟩
 by_cases hlt:p < l.length
 ·have hx:l[p]? =some l[p]:=List.getElem?_eq_getElem hlt
  have hmem:=List.getElem_mem hlt
  generalize l[p]=x at hx hmem
  have gx:=hr.1 x hmem
  have e:zV F x d=some (if ky x.Id < ky d then -1 else if ky d < ky x.Id then 1 else 0):=by unfold zV; rw[MH F gx hd]; rfl
  simp only[Int.ofNat_lt,hlt,decide_true,if_true,a8,hx,Option.bind_some,e,aG]
  have hge:=h2 p x hx (Nat.le_refl _)
  have:kK l d=((if ky x.Id < ky d then (-1:Int) else if ky d < ky x.Id then 1 else 0)==0):=by
   rw[if_neg (by omega)]
   unfold kK
   by_cases hk:ky d < ky x.Id
   ·rw[if_pos hk]
    rw[List.any_eq_false.2]
    ·rfl
    intro y hy
    obtain⟨j,hj,rfl⟩:=List.getElem_of_mem hy
    have hy':l[j]? =some l[j]:=List.getElem?_eq_getElem hj
    simp only[decide_eq_true_eq]
    intro he
    rcases Nat.lt_or_ge j p with q | q
    ·have:=h1 j _ hy' q
     rw[he] at this; omega
    ·rcases Nat.lt_or_ge p j with q2 | q2
     ·have:=hr.2 _ _ _ _ hx hy' q2
      rw[he] at this; omega
     ·obtain rfl:j=p:=by omega
      rw[hy'] at hx; cases hx
      rw[he] at hk; omega
   ·rw[if_neg hk]
    refine List.any_eq_true.2 ⟨x,hmem, ?_⟩
    simp only[decide_eq_true_eq]
    exact MG gx hd (by omega)
  rw[this]
 ·have hn:¬((p:Int) < (l.length:Int)):=by omega
  simp only[hn,decide_false,Bool.false_eq_true,if_false,aG,Option.bind_some]
  have:kK l d=false:=by
   unfold kK
   refine List.any_eq_false.2 λy hy=> ?_
   obtain⟨j,hj,rfl⟩:=List.getElem_of_mem hy
   have:=h1 j _ (List.getElem?_eq_getElem hj) (by omega)
   simp only[decide_eq_true_eq]
   intro he
   rw[he] at this; omega
  rw[this]
theorem H3 {ρ:Type} {body:Int→Option (Lp Int ρ)} {c:Nat→Bool} {n:Nat} (hb:∀i:Nat,i≤n→body (i:Int)=some (if c i then .go ((i+1:Nat):Int) else .brk (i:Int))) (hn:c n=false):∀(G k:Nat),k≤n→n - k < G→
    ∃p:Nat,p≤n∧c p=false∧aU body G (k:Int)=some (.brk (p:Int))
  | 0,_,_,h=>by omega
  | G+1,k,hk,h=>by
    unfold aU
    rw[hb k hk]
    cases hc:c k
    · exact⟨k,hk,hc,by simp⟩
    · have:k≠n:=by rintro rfl; rw[hn] at hc; cases hc
      obtain⟨p,h1,h2,h3⟩:=H3 hb hn G (k+1) (by omega) (by omega)
      exact⟨p,h1,h2,by simpa using h3⟩
theorem pW {S ρ:Type} {body:S→Option (Lp S ρ)} {I:Nat→S→Prop} {n:Nat} (hb:∀i s,i < n→I i s→∃s',body s=some (.go s')∧I (i+1) s') (he:∀s,I n s→body s=some (.brk s)):∀(G k:Nat) (s:S),k≤n→n - k < G→I k s→
    ∃s',I n s'∧aU body G s=some (.brk s')
  | 0,_,_,_,h,_=>by omega
  | G+1,k,s,hk,h,hi=>by
    unfold aU
    by_cases e:k=n
    · subst e
      rw[he s hi]
      exact⟨s,hi,rfl⟩
    · obtain⟨s',h1,h2⟩:=hb k s (by omega) hi
      rw[h1]
      exact pW hb he G (k+1) s' (by omega) (by omega) h2
theorem aDZ {F:Nat} {l:List bL} {d:bL} (hF:1000≤F) (hl:l.length < 600) (gl:∀x∈l,mM x) (hd:mM d):
    ∃r,EL F l d=some r∧(∀x,x∈r.1↔x∈l∨x=d)∧r.1.length≤l.length+1:=by
  unfold EL
  obtain⟨p,h1,h2,h3⟩:=H3 (body:=sY F l d) (n:=l.length) (c:=λi=>(l[i]?).any λx=>decide (ky x < ky d)) (λi hi=>by
    unfold sY
    rw[hH (by omega)]
    by_cases hlt:i < l.length
    · have hx:l[i]? =some l[i]:=List.getElem?_eq_getElem hlt
      simp only[Int.ofNat_lt,hlt,decide_true,if_true,a8,hx,Option.bind_some,YD hF (gl _ (List.getElem_mem hlt)) hd,aG,Option.any_some]
      split <;> rfl
    · have hx:l[i]? =none:=List.getElem?_eq_none (by omega)
      simp[Int.ofNat_lt,hlt,hx,aG]) (by simp) F 0 (by omega) (by omega)
  rw[show (0:Int)=((0:Nat):Int) from rfl,h3]
  simp only[aG]
  have hins:(slc l 0 (p:Int)).bind (λx84=>(app ([]:List bL) x84).bind λz86=>(app z86 ([d]:List bL)).bind λz92=>(slc l (p:Int) (l).length).bind λx98=>(app z92 x98).bind λz100=>some (z100,(p:Int),true))
      =some (l.take p++ [d]++l.drop p,(p:Int),true):=by
    unfold slc
    rw[if_pos (by omega),if_pos (by omega)]
    simp only[Option.bind_some,Int.toNat_natCast]
    rw[bW (by simp; omega)]
    simp only[Option.bind_some,List.nil_append]
    rw[bW (by simp; omega)]
    simp only[Option.bind_some]
    rw[bW (by simp; omega)]
    simp
  have hmem:∀x,x∈l.take p++ [d]++l.drop p↔x∈l∨x=d:=by
    intro x
    simp only[List.mem_append,List.mem_singleton]
    rw[show (x∈l∨x=d)↔((x∈l.take p∨x∈l.drop p)∨x=d) from by rw[← List.mem_append,List.take_append_drop]]
    constructor
    · rintro((h | h) | h) <;> simp[h]
    · rintro((h | h) | h) <;> simp[h]
  by_cases hlt:p < l.length
  · have hx:l[p]? =some l[p]:=List.getElem?_eq_getElem hlt
    simp only[Int.ofNat_lt,hlt,decide_true,if_true,a8,hx,Option.bind_some,aG]
    by_cases he:l[p]=d
    · refine⟨(l,(p:Int),false),by simp[he],λx=> ?_,by simp⟩
      constructor
      · exact .inl
      · rintro(h | rfl)
        · exact h
        · rw[← he]; exact List.getElem_mem hlt
    · rw[if_neg (by simpa using he)]
      exact⟨_,hins,hmem,by simp; omega⟩
  · have hn:¬((p:Int) < (l.length:Int)):=by omega
    simp only[hn,decide_false,Bool.false_eq_true,if_false,aG]
    exact⟨_,hins,hmem,by simp; omega⟩
open Go.Vm
theorem yK {a b:ByteArray} (h:a.toList=b.toList):a=b:=Go.WideShapes.bytes_inj (by rwa [Go.Lib.toList_data,Go.Lib.toList_data] at h)
theorem gsn {c:aA} (h:Sm c) {s:aH} (hs:s∈c.Snaps):gI s.Seq∧∀p∈s.Man.Parts,∀d∈p.Ids,mM d:=by
 have:=h.g.2.1 s hs
 exact⟨this.1,λp hp d hd=>(this.2.1.2 p hp).2.2 d hd⟩
theorem m63 {F:Nat} {m:aY} (hF:1000≤F) (hp:m.Parts.length≤10) (hi:∀p∈m.Parts,p.Ids.length≤40) (hg:∀p∈m.Parts,∀d∈p.Ids,mM d):
    ∃ids,XP F m=some ids∧(∀x,x∈ids↔∃p∈m.Parts,x∈p.Ids)∧ids.length≤400:=by
  unfold XP
  let I:Nat→List bL×Int→Prop:=λi s=>s.2=(i:Int)∧s.1.length≤40*i∧∀x,x∈s.1↔∃p∈m.Parts.take i,x∈p.Ids
  obtain⟨s,⟨h1,h2,h3⟩,h4⟩:=pW (body:=λs:List bL×Int=>vG F m s.1 s.2) (I:=I) (n:=m.Parts.length) (λi s hi' hI=>by
      obtain⟨l,q⟩:=s
      obtain⟨rfl,hl,hm⟩:=hI
      simp only at hl hm
      have hx:m.Parts[i]? =some m.Parts[i]:=List.getElem?_eq_getElem hi'
      have hmem:=List.getElem_mem hi'
      have htk:m.Parts.take (i+1)=m.Parts.take i++ [m.Parts[i]]:=by simp
      generalize m.Parts[i]=p at hx hmem htk
      have hpi:=hi p hmem
      have hgp:=hg p hmem
      have hgl:∀x∈l,mM x:=λx hx=>by
        obtain⟨p',hp',hx'⟩:=(hm x).1 hx
        exact hg p' (List.mem_of_mem_take hp') x hx'
      let J:Nat→List bL×Int→Prop:=λk s=>s.2=(k:Int)∧s.1.length≤40*i+k∧∀x,x∈s.1↔(x∈l∨x∈p.Ids.take k)
      obtain⟨t,⟨j1,j2,j3⟩,j4⟩:=pW (ρ:=Lp (List bL×Int) (List bL)) (body:=λs:List bL×Int=>vF F m (i:Int) s.1 s.2) (I:=J) (n:=p.Ids.length) (λk s hk hJ=>by
          obtain⟨u,q⟩:=s
          obtain⟨rfl,hu,hv⟩:=hJ
          simp only at hu hv
          have hd:p.Ids[k]? =some p.Ids[k]:=List.getElem?_eq_getElem hk
          have hdm:=List.getElem_mem hk
          have hdk:p.Ids.take (k+1)=p.Ids.take k++ [p.Ids[k]]:=by simp
          generalize p.Ids[k]=d at hd hdm hdk
          obtain⟨r,r1,r2,r3⟩:=aDZ (F:=F) (l:=u) (d:=d) hF (by omega) (λx hx=>by
            rcases(hv x).1 hx with q | q
            · exact hgl x q
            · exact hgp x (List.mem_of_mem_take q)) (hgp d hdm)
          refine⟨(r.1,((k+1:Nat):Int)), ?_,rfl,by simp only; omega,λx=> ?_⟩
          · unfold vF
            rw[hH (by omega)]
            simp only[a8,hx,Option.bind_some,Int.ofNat_lt,hk,decide_true,if_true,hd,r1]
          · simp only[r2,hv,hdk,List.mem_append,List.mem_singleton,or_assoc]) (λs hs=>by
          obtain⟨u,q⟩:=s
          obtain⟨rfl, -, -⟩:=hs
          unfold vF
          simp[a8,hx]) F 0 (l,0) (by omega) (by omega) ⟨rfl,by simp only; omega,by simp⟩
      refine⟨(t.1,((i+1:Nat):Int)), ?_,rfl,by simp only; omega,λx=> ?_⟩
      · unfold vG
        rw[hH (by omega)]
        simp only[Int.ofNat_lt,hi',decide_true,if_true,j4,aG]
      · simp only[j3,hm,htk,List.take_length,List.mem_append,List.mem_singleton]
        constructor
        · rintro(⟨p',hp',hx'⟩ | hx')
          · exact⟨p',.inl hp',hx'⟩
          · exact⟨p,.inr rfl,hx'⟩
        · rintro⟨p',hp' | rfl,hx'⟩
          · exact .inl ⟨p',hp',hx'⟩
          · exact .inr hx') (λs hs=>by
      obtain⟨u,q⟩:=s
      obtain⟨rfl, -, -⟩:=hs
      unfold vG
      simp) F 0 ([],0) (by omega) (by omega) ⟨rfl,by simp,by simp⟩
  rw[h4]
  exact⟨s.1,by simp only[aG],by simpa using h3,by omega⟩
theorem m64 {F:Nat} {c:aA} {d:bL} (hF:1000≤F) (hl:c.Chunks.length < 1000):∃n:Int,KB F c d=some n∧(decide (n < 0))= !kK c.Chunks d:=by
 have:=tC (l:=c.Chunks) (λx=>decide (x.Id=d)) (F:=F) (body:=oP F c d) (by omega) (λi hi=>by
  unfold oP
  have hx:c.Chunks[i]? =some c.Chunks[i]:=List.getElem?_eq_getElem hi
  rw[hH (by omega)]
  simp only[a8,hx,Option.bind_some,Int.ofNat_lt,hi,decide_true,if_true,Option.any_some]
  split <;> rfl) (by unfold oP; simp)
 rw[show (after (aU (oP F c d) F 0) λ_=>some (-1))=KB F c d from rfl] at this
 obtain⟨n,h1,h2⟩:=Option.bind_eq_some_iff.1 this
 refine⟨n,h1, ?_⟩
 have h3:=Option.some.inj h2
 unfold kK
 rw[← h3,← decide_not]
 congr 1
 simp
theorem m50 {F:Nat} {c:aA} {i:Nat} {s:aH} (hF:1000≤F) (hl:c.Snaps.length < 1000) (hs:c.Snaps[i]? =some s):
    ∃n:Int,yH F c s.Man.Name=some n∧(n !=(i:Int))=(c.Snaps.take i).any λy=>s.Man.Name==y.Man.Name:=by
  have hi:i < c.Snaps.length:=(List.getElem?_eq_some_iff.1 hs).1
  have hsi:c.Snaps[i]=s:=by have:=List.getElem?_eq_getElem hi; rw[hs] at this; exact(Option.some.inj this).symm
  unfold yH
  rw[eW (s0:=(0:Int)) (n:=c.Snaps.length) (F:=F) (λi:Nat=>(i:Int)) (λi=>(c.Snaps[i]?).any λy=>y.Man.Name.toList==s.Man.Name.toList) (λi=>(i:Int)) (by omega) rfl]
  · unfold LF
    have hp:((c.Snaps[i]?).any λy=>y.Man.Name.toList==s.Man.Name.toList)=true:=by rw[hs]; simp
    cases h:(List.range c.Snaps.length).find? λi=>(c.Snaps[i]?).any λy=>y.Man.Name.toList==s.Man.Name.toList with
    | none=>
      have:=List.find?_eq_none.1 h i (List.mem_range.2 hi)
      exact absurd hp this
    | some k=>
      refine⟨(k:Int),rfl, ?_⟩
      obtain⟨hk1,hk2,hk3⟩:=List.find?_range_eq_some.1 h
      rw[Bool.eq_iff_iff]
      simp only[bne_iff_ne,ne_eq,List.any_eq_true]
      have hkl:k < c.Snaps.length:=List.mem_range.1 hk2
      rw[List.getElem?_eq_getElem hkl] at hk1
      simp only[Option.any_some,beq_iff_eq] at hk1
      constructor
      · intro hne
        have hki:k < i:=by
          rcases Nat.lt_or_ge k i with q | q
          · exact q
          · have:=hk3 i (by omega)
            rw[hp] at this; cases this
        refine⟨c.Snaps[k], ?_, ?_⟩
        · rw[List.mem_take_iff_getElem]
          exact⟨k,by omega,rfl⟩
        · exact(iI _ _).2 (yK hk1.symm)
      · rintro⟨y,hy,he⟩ hc
        rw[List.mem_take_iff_getElem] at hy
        obtain⟨j,hj,rfl⟩:=hy
        have:=hk3 j (by omega)
        rw[List.getElem?_eq_getElem (by omega)] at this
        rw[(iI _ _).1 he] at this
        simp at this
  · intro j hj _
    unfold oQ
    have hx:c.Snaps[j]? =some c.Snaps[j]:=List.getElem?_eq_getElem hj
    rw[hH (by omega)]
    simp only[a8,hx,Option.bind_some,Int.ofNat_lt,hj,decide_true,if_true,Option.any_some]
    split <;> rfl
  · intro _; unfold oQ; simp
def KC (c:aA) (m:aY):Bool:=m.Parts.all λp=>p.Ids.all λd=>kK c.Chunks d
def DP (c:aA) (i:Nat):Bool:=match c.Snaps[i]? with
 | none=>true
 | some s=>eY s.Seq 0 (c.Seq - 1) && (i==0 || (match c.Snaps[i - 1]? with | none=>true | some y=>decide (y.Seq < s.Seq))) && !((c.Snaps.take i).any λy=>s.Man.Name==y.Man.Name) && rP s.Man && gW c s.Locs
def FH (c:aA) (i:Nat):Bool:=match c.Snaps[i]? with
 | none=>true
 | some s=>KC c s.Man
def RU (c:aA) (i:Nat):Bool:=match c.Snaps[i]? with
 | none=>true
 | some s=> !c.Exps.any λx=>x.Of==s.Seq
def RW (c:aA) (i:Nat):List ByteArray:=(c.Snaps.take i).foldl (λl s=>mB l s.Man.Name) []
theorem P0 (c:aA) (x:ByteArray):∀i,((RW c i).any λz=>x==z)=(c.Snaps.take i).any λy=>x==y.Man.Name:=by
 have:∀(l:List aH) (acc:List ByteArray),((l.foldl (λl s=>mB l s.Man.Name) acc).any λz=>x==z)=((acc.any λz=>x==z) || l.any λy=>x==y.Man.Name):=by
  intro l
  induction l with
  | nil=>simp
  | cons s l ih=>
   intro acc
   rw[List.foldl_cons,ih,List.any_cons,← Bool.or_assoc]
   congr 1
   unfold mB
   split
   ·rename_i h
    rw[Bool.eq_iff_iff]
    simp only[Bool.or_eq_true,List.any_eq_true] at h ⊢
    constructor
    ·exact .inl
    ·rintro(q | q)
     ·exact q
     ·obtain⟨y,hy,he⟩:=h
      rw[(iI _ _).1 q,(iI _ _).1 he]
      exact⟨y,hy,(iI _ _).2 rfl⟩
   ·simp
 intro i
 rw[RW,this]
 simp
open Go.Vm
theorem T1 {F:Nat} {c:aA} {s:aH} (hF:1000≤F) (h:Sm c) (hr:rZ c.Chunks) (hs:s∈c.Snaps):
    aU (λq=>vB F c s q) F 0=some (if !KC c s.Man then .ret (.ret false) else .brk (s.Man.Parts.length:Int)):=by
  obtain⟨-,h2,h3⟩:=h.man s hs
  have hg:=(gsn h hs).2
  have hc:=h.ch
  rw[eW (s0:=(0:Int)) (n:=s.Man.Parts.length) (F:=F) (λi:Nat=>(i:Int)) (λi=>(s.Man.Parts[i]?).any λp=> !p.Ids.all λd=>kK c.Chunks d) (λ_=>.ret false) (by omega) rfl,iA,iJ,tB]
  · rfl
  · intro i hi _
    unfold vB
    have hx:s.Man.Parts[i]? =some s.Man.Parts[i]:=List.getElem?_eq_getElem hi
    have hm:=List.getElem_mem hi
    generalize s.Man.Parts[i]=p at hx hm
    have h4:=(h3 p hm).2
    rw[hH (by omega)]
    simp only[a8,hx,Option.bind_some,Int.ofNat_lt,hi,decide_true,if_true,Option.any_some]
    rw[eW (s0:=(0:Int)) (n:=p.Ids.length) (F:=F) (λi:Nat=>(i:Int)) (λi=>(p.Ids[i]?).any λd=> !kK c.Chunks d) (λ_=>.ret (.ret false)) (by omega) rfl,iA,iJ,tB]
    · cases p.Ids.all λd=>kK c.Chunks d <;> simp[after]
    · intro k hk _
      unfold yD
      have hd:p.Ids[k]? =some p.Ids[k]:=List.getElem?_eq_getElem hk
      have hdm:=List.getElem_mem hk
      generalize p.Ids[k]=d at hd hdm
      obtain⟨z,hz⟩:=YG (F:=F) (l:=c.Chunks) (d:=d) hF hr (hg p hm d hdm) (by omega)
      rw[hH (by omega)]
      simp only[a8,hd,Option.bind_some,Int.ofNat_lt,hk,decide_true,if_true,Option.any_some,hz]
      split <;> rfl
    · intro _; unfold yD; simp
  · intro _; unfold vB; simp
theorem ML {c:aA} {i:Nat} {s:aH} (hx:c.Snaps[i]? =some s):RW c (i+1)=mB (RW c i) s.Man.Name:=by
 unfold RW
 have hi:=(List.getElem?_eq_some_iff.1 hx)
 obtain⟨hi,rfl⟩:=hi
 rw[List.take_succ_eq_append_getElem hi,List.foldl_append]
 rfl
theorem T2 {F:Nat} {c:aA} (hF:1000≤F) (h:Sm c) (hr:rZ c.Chunks) (hq:eY c.Seq 0 1073741824=true) {i:Nat} (hi:i < c.Snaps.length):
    vD F c (RW c i) i=some (if !(DP c i && FH c i) then .ret false else .go (RW c (i+1),((i+1:Nat):Int))):=by
  have hv:=h.vo
  have hsn:=h.sn
  have hq':0≤c.Seq∧c.Seq≤1073741824:=by simpa [eY] using hq
  unfold vD DP FH
  have hx:c.Snaps[i]? =some c.Snaps[i]:=List.getElem?_eq_getElem hi
  have hm:=List.getElem_mem hi
  generalize c.Snaps[i]=x at hx hm
  rw[hH (by omega),wr (n:=c.Seq - 1) (by omega) (by omega),ML hx]
  simp only[a8,hx,TT,m73 hF,TU hF (show c.Vols.length < 1000 by omega),Option.bind_some,cM,aG,cF,dE,Int.ofNat_lt,hi,decide_true,if_true,P0,T1 hF h hr hm]
  generalize ((c.Snaps.take i).any λy=>x.Man.Name==y.Man.Name)=nb
  generalize gW c x.Locs=lb
  generalize KC c x.Man=pb
  have e1:((if rP x.Man=true then (0:Int) else 1) !=0)= !rP x.Man:=by cases rP x.Man <;> rfl
  rw[e1]
  generalize rP x.Man=mb
  generalize eY x.Seq 0 (c.Seq - 1)=ib
  by_cases h0:i=0
  · subst h0
    cases nb <;> cases lb <;> cases pb <;> cases mb <;> cases ib <;> simp[aG,cF]
  · have h5:c.Snaps[i - 1]? =some c.Snaps[i - 1]:=List.getElem?_eq_getElem (by omega)
    generalize c.Snaps[i - 1]=y at h5
    rw[yF (by omega) (by omega)]
    have h7:(0:Int) < i:=by omega
    have h8:(i==0)=false:=by simpa using h0
    have e4:decide (x.Seq≤y.Seq)= !decide (y.Seq < x.Seq):=by rw[← decide_not]; congr 1; simp
    simp only[a8,h5,h7,h8,e4,Option.bind_some,decide_true,if_true,Bool.false_or]
    generalize decide (y.Seq < x.Seq)=od
    cases nb <;> cases lb <;> cases pb <;> cases mb <;> cases ib <;> cases od <;> simp[aG,cF]
def CO (c:aA):Bool:= !(List.range c.Snaps.length).any λi=> !(DP c i && FH c i)
theorem m71 {F:Nat} {c:aA} (hF:1000≤F) (h:Sm c) (hr:rZ c.Chunks) (hq:eY c.Seq 0 1073741824=true):XI F c=some (CO c && decide (c.Snaps.length≤8)):=by
 have hc:=h.sn
 unfold XI CO
 rw[eW (s0:=(([]:List ByteArray),(0:Int))) (n:=c.Snaps.length) (F:=F) (λi:Nat=>(RW c i,(i:Int))) (λi=> !(DP c i && FH c i)) (λ_=>false) (by omega) rfl,iA]
 ·cases (List.range c.Snaps.length).any λi=> !(DP c i && FH c i) <;> simp[after]; omega
 ·exact λi hi _=>T2 hF h hr hq hi
 ·intro _; unfold vD; simp
theorem T3 {F:Nat} {c:aA} (hF:1000≤F) (h:Sm c) {i:Nat} (hi:i < c.Snaps.length):
    rN F c i=some (if !(DP c i && FH c i && RU c i) then .ret false else .go ((i+1:Nat):Int)):=by
  have hv:=h.vo
  have hsn:=h.sn
  have hch:=h.ch
  have hex:=h.ex
  unfold rN DP FH RU eY
  have hx:c.Snaps[i]? =some c.Snaps[i]:=List.getElem?_eq_getElem hi
  have hm:=List.getElem_mem hi
  generalize c.Snaps[i]=x at hx hm
  obtain⟨k1,k2,k3⟩:=h.man x hm
  obtain⟨ids,i1,i2,i3⟩:=m63 (F:=F) (m:=x.Man) hF k2 (λp hp=>(k3 p hp).2) (gsn h hm).2
  obtain⟨n,n1,n2⟩:=m50 (F:=F) hF (by omega) hx
  rw[hH (by omega)]
  have l7:aU (λs=>vH F c ids s) F 0=some (if !KC c x.Man then .ret (.ret false) else .brk (ids.length:Int)):=by
    rw[eW (s0:=(0:Int)) (n:=ids.length) (F:=F) (λi:Nat=>(i:Int)) (λi=>(ids[i]?).any λd=> !kK c.Chunks d) (λ_=>.ret false) (by omega) rfl,iA,iJ,tB]
    · have:KC c x.Man=ids.all λd=>kK c.Chunks d:=by
        rw[Bool.eq_iff_iff]
        simp only[KC,List.all_eq_true]
        constructor
        · intro q d hd
          obtain⟨p,hp,hd'⟩:=(i2 d).1 hd
          exact q p hp d hd'
        · intro q p hp d hd
          exact q d ((i2 d).2 ⟨p,hp,hd⟩)
      rw[this]
    · intro k hk _
      unfold vH
      have hd:ids[k]? =some ids[k]:=List.getElem?_eq_getElem hk
      generalize ids[k]=d at hd
      obtain⟨z,hz,hz2⟩:=m64 (F:=F) (c:=c) (d:=d) hF (by omega)
      rw[hH (by omega)]
      simp only[a8,hd,Option.bind_some,Int.ofNat_lt,hk,decide_true,if_true,Option.any_some,hz,hz2]
      split <;> rfl
    · intro _; unfold vH; simp
  have l9:aU (λs=>vI F c x s) F 0=some (if c.Exps.any λy=>y.Of==x.Seq then .ret (.ret false) else .brk (c.Exps.length:Int)):=by
    rw[eW (s0:=(0:Int)) (n:=c.Exps.length) (F:=F) (λi:Nat=>(i:Int)) (λi=>(c.Exps[i]?).any λy=>y.Of==x.Seq) (λ_=>.ret false) (by omega) rfl,iA,iJ]
    · intro k hk _
      unfold vI
      have hd:c.Exps[k]? =some c.Exps[k]:=List.getElem?_eq_getElem hk
      rw[hH (by omega)]
      simp only[a8,hd,Option.bind_some,Int.ofNat_lt,hk,decide_true,if_true,Option.any_some]
      split <;> rfl
    · intro _; unfold vI; simp
  simp only[a8,hx,m62 hF k1 (λp hp=>(k3 p hp).1),m61 hF (show c.Vols.length < 1000 by omega),n1,n2,i1,l7,l9,Option.bind_some,cM,aG,cF,dE,Int.ofNat_lt,hi,decide_true,if_true]
  generalize ((c.Snaps.take i).any λy=>x.Man.Name==y.Man.Name)=nb
  generalize gW c x.Locs=lb
  generalize KC c x.Man=pb
  generalize (c.Exps.any λy=>y.Of==x.Seq)=xb
  generalize rP x.Man=mb
  have e1:decide (x.Seq < 0)= !decide (0≤x.Seq):=by rw[← decide_not]; congr 1; simp
  have e2:decide (c.Seq≤x.Seq)= !decide (x.Seq≤c.Seq - 1):=by rw[← decide_not]; congr 1; simp; omega
  rw[e1,e2]
  generalize decide (0≤x.Seq)=d1
  generalize decide (x.Seq≤c.Seq - 1)=d2
  by_cases h0:i=0
  · subst h0
    cases nb <;> cases lb <;> cases pb <;> cases mb <;> cases d1 <;> cases d2 <;> cases xb <;> simp[aG,cF]
  · have h5:c.Snaps[i - 1]? =some c.Snaps[i - 1]:=List.getElem?_eq_getElem (by omega)
    generalize c.Snaps[i - 1]=y at h5
    rw[yF (by omega) (by omega)]
    have h7:(0:Int) < i:=by omega
    have h8:(i==0)=false:=by simpa using h0
    have e4:decide (x.Seq≤y.Seq)= !decide (y.Seq < x.Seq):=by rw[← decide_not]; congr 1; simp
    simp only[a8,h5,h7,h8,e4,Option.bind_some,decide_true,if_true,Bool.false_or]
    generalize decide (y.Seq < x.Seq)=od
    cases nb <;> cases lb <;> cases pb <;> cases mb <;> cases d1 <;> cases d2 <;> cases xb <;> cases od <;> simp[aG,cF]
def gG (c:aA):Bool:=eY c.Seq 0 1073741824 && (c.Vols.all mD && eY c.Vols.length 1 8) && (vJ c && decide (c.Chunks.length≤200)) && (CO c && decide (c.Snaps.length≤8)) && (zZ c && decide (c.Exps.length≤200))
theorem m33 {F:Nat} {c:aA} (hF:1000≤F) (h:Sm c):VQ F c=some (if gG c then 0 else 1):=by
 have hv:=h.vo
 unfold VQ gG
 simp only[TT,m69 hF hv,m70 hF h,Option.bind_some,cM,aG,dE]
 cases hq:eY c.Seq 0 1073741824
 ·simp
 ·cases hv':(c.Vols.all mD && eY c.Vols.length 1 8)
  ·simp
  ·cases hc:vJ c
   ·simp
   ·have hr:=T0 h hc
    simp only[m71 hF h hr hq,m72 hF h hq,Option.bind_some,dE,cM,aG]
    generalize decide (c.Chunks.length≤200)=a
    generalize (CO c && decide (c.Snaps.length≤8))=b
    generalize (zZ c && decide (c.Exps.length≤200))=d
    cases a <;> cases b <;> cases d <;> simp
theorem tD {n:Nat} (p q:Nat→Bool):((List.range n).any λi=> !(p i && q i))=(((List.range n).any λi=> !p i) || (List.range n).any λi=> !q i):=by
 rw[Bool.eq_iff_iff]
 simp only[Bool.or_eq_true,List.any_eq_true,Bool.not_eq_true',Bool.and_eq_false_iff]
 constructor
 ·rintro⟨i,hi,q | q⟩
  ·exact .inl ⟨i,hi,q⟩
  ·exact .inr ⟨i,hi,q⟩
 ·rintro(⟨i,hi,q⟩ | ⟨i,hi,q⟩)
  ·exact⟨i,hi,.inl q⟩
  ·exact⟨i,hi,.inr q⟩
theorem YH (c:aA):((List.range c.Snaps.length).any λi=> !RU c i)=(List.range c.Exps.length).any λi=> !JM c i:=by
 have h1:((List.range c.Snaps.length).any λi=> !RU c i)=c.Snaps.any λs=>c.Exps.any λx=>x.Of==s.Seq:=by
  refine Eq.trans ?_ (iJ c.Snaps _)
  congr 1
  funext i
  unfold RU
  cases c.Snaps[i]? <;> simp
 have h2:((List.range c.Exps.length).any λi=> !JM c i)=c.Exps.any λx=>c.Snaps.any λs=>s.Seq==x.Of:=by
  refine Eq.trans ?_ (iJ c.Exps _)
  congr 1
  funext i
  unfold JM
  cases c.Exps[i]? <;> simp
 rw[h1,h2,Bool.eq_iff_iff]
 simp only[List.any_eq_true,beq_iff_eq]
 constructor
 ·rintro⟨s,hs,x,hx,e⟩; exact⟨x,hx,s,hs,e.symm⟩
 ·rintro⟨x,hx,s,hs,e⟩; exact⟨s,hs,x,hx,e.symm⟩
theorem m19 {F:Nat} {c:aA} (hF:1000≤F) (h:Sm c):TR F c=some (gG c):=by
 have hv:=h.vo
 have hsn:=h.sn
 have hch:=h.ch
 have hex:=h.ex
 have l0:aU (λs=>rL F c s) F 0=some (if !c.Vols.all mD then .ret false else .brk (c.Vols.length:Int)):=by
  rw[eW (s0:=(0:Int)) (n:=c.Vols.length) (F:=F) (λi:Nat=>(i:Int)) (λi=>(c.Vols[i]?).any λv=> !mD v) (λ_=>false) (by omega) rfl,iA,iJ,tB]
  ·exact λi hi _=>TW hF h hi
  ·intro _; unfold rL; simp
 have l3:aU (λs=>rM F c s) F 0=some (if !vJ c then .ret false else .brk (c.Chunks.length:Int)):=by
  rw[eW (s0:=(0:Int)) (n:=c.Chunks.length) (F:=F) (λi:Nat=>(i:Int)) (λi=> !HZ c i) (λ_=>false) (by omega) rfl,iA]
  ·unfold vJ; rw[Bool.not_not]
  ·exact λi hi _=>TV hF h hi
  ·intro _; unfold rM; simp
 have l5:aU (λs=>rN F c s) F 0=some (if (List.range c.Snaps.length).any λi=> !(DP c i && FH c i && RU c i) then .ret false else .brk (c.Snaps.length:Int)):=by
  rw[eW (s0:=(0:Int)) (n:=c.Snaps.length) (F:=F) (λi:Nat=>(i:Int)) (λi=> !(DP c i && FH c i && RU c i)) (λ_=>false) (by omega) rfl,iA]
  ·exact λi hi _=>T3 hF h hi
  ·intro _; unfold rN; simp
 have l11:aU (λs=>oR F c s) F 0=some (if (List.range c.Exps.length).any λi=> !zJ c i then .ret false else .brk (c.Exps.length:Int)):=by
  rw[eW (s0:=(0:Int)) (n:=c.Exps.length) (F:=F) (λi:Nat=>(i:Int)) (λi=> !zJ c i) (λ_=>false) (by omega) rfl,iA]
  ·exact λi hi _=>PZ hF h hi
  ·intro _; unfold oR; simp
 have hs:CO c= !(List.range c.Snaps.length).any λi=> !(DP c i && FH c i):=rfl
 have he:zZ c= !(((List.range c.Exps.length).any λi=> !zJ c i) || (List.range c.Exps.length).any λi=> !JM c i):=by unfold zZ; rw[tD]
 unfold TR gG
 rw[tD (λi=>DP c i && FH c i) (RU c),YH] at l5
 simp only[YC,l0,l3,l5,l11,hs,he,Option.bind_some,cM,aG,dE]
 generalize ((List.range c.Snaps.length).any λi=> !(DP c i && FH c i))=a1
 generalize ((List.range c.Exps.length).any λi=> !zJ c i)=a2
 generalize ((List.range c.Exps.length).any λi=> !JM c i)=a3
 generalize c.Vols.all mD=a4
 generalize vJ c=a5
 generalize eY c.Seq 0 1073741824=a6
 generalize eY c.Vols.length 1 8=a7
 have f1:decide (8 < (c.Snaps.length:Int))= !decide (c.Snaps.length≤8):=by rw[← decide_not]; congr 1; simp; omega
 have f2:decide (200 < (c.Chunks.length:Int))= !decide (c.Chunks.length≤200):=by rw[← decide_not]; congr 1; simp; omega
 have f3:decide (200 < (c.Exps.length:Int))= !decide (c.Exps.length≤200):=by rw[← decide_not]; congr 1; simp; omega
 rw[f1,f2,f3]
 generalize decide (c.Snaps.length≤8)=b1
 generalize decide (c.Chunks.length≤200)=b2
 generalize decide (c.Exps.length≤200)=b3
 cases a6 <;> cases b1 <;> cases b2 <;> cases b3 <;> cases a7 <;> cases a4 <;> cases a5 <;> cases a1 <;> cases a2 <;> cases a3 <;> rfl
open Go.Vm
def wO (m:Nat) (p0:List bE):Option ((List bE)):=
 (app ([]:List bE) p0).bind λz4=>some z4
theorem MM {w:Nat} {p0:List bE} {o:(List bE)} (h:aE) (m:wO w p0=some o):
 aL Tryz.prog 151 [.sl none 4 (List.map aQ p0)] h (λr h'=>r= .sl none 4 (List.map aQ o)∧h'=h):=by
 refine fT 7 [.tmp 2] Tryz.func151 rfl rfl rfl rfl ?_
 unfold wO at m
 refine v (v (v ?_))
 obtain⟨z4,Z5,m⟩:=aC m
 refine ve λu=>oF (c:=aQ) Z5 pF rfl rfl u nofun rfl λtg6 t7 K8=>qk K8 rfl (v ?_)
 obtain rfl:=eU m
 exact vr λu=>dZ.of1 (.inl rfl) (f0 _ _ (ow _ _ _) rfl) (aW (List.nil_sublist _) u).1 ((eQ _ 0 t7 u rfl)) ⟨rfl,rfl⟩
theorem EQ:aP Tryz.prog 151=true:=by kernel_rfl
def vK (m:Nat) (p0:List Int):Option ((List Int)):=
 (app ([]:List Int) p0).bind λz4=>some z4
theorem MN {w:Nat} {p0:List Int} {o:(List Int)} (h:aE) (m:vK w p0=some o):
 aL Tryz.prog 141 [.sl none 1 (List.map cW p0)] h (λr h'=>r= .sl none 1 (List.map cW o)∧h'=h):=by
 refine fT 7 [.tmp 2] Tryz.func141 rfl rfl rfl rfl ?_
 unfold vK at m
 refine v (v (v ?_))
 obtain⟨z4,Z5,m⟩:=aC m
 refine ve λu=>oF (c:=cW) Z5 jH rfl rfl u nofun rfl λtg6 t7 K8=>qk K8 rfl (v ?_)
 obtain rfl:=eU m
 exact vr λu=>dZ.of1 (.inl rfl) (f0 _ _ (ow _ _ _) rfl) (aW (List.nil_sublist _) u).1 ((eQ _ 0 t7 u rfl)) ⟨rfl,rfl⟩
theorem ER:aP Tryz.prog 141=true:=by kernel_rfl
def tE (m:Nat) (p0:aY) (q0:List dB) (q1:Int):Option (Lp ((List dB)×Int) (aY)):=
 if (decide (q1 < (p0.Parts.length:Int)))=true then ((ix p0.Parts q1).bind λx0=>(app ([]:List bL) x0.Ids).bind λz0=>(app q0 ([({ Path:=x0.Path,Size:=x0.Size,Ids:=z0}:dB)]:List dB)).bind λz1=>some (.go (z1,IntKind.wrap .i64 (q1+1)))) else some (.brk (q0,q1))
def GR (m:Nat) (p0:aY):Option (aY):=
 after (aU (λs=>tE m p0 s.1 s.2) m ([],0)) λ⟨r0,r1⟩=>some ({ Name:=p0.Name,Parts:=r0}:aY)
theorem YI {w:Nat} {p0:aY} {o:aY} (h:aE) (m:GR w p0=some o):
 aL Tryz.prog 150 [.agg (bC p0)] h (λr h'=>r= .agg (bC o)∧h'=h):=by
 refine fT 31 [.cell 2 58] Tryz.func150 rfl rfl rfl rfl ?_
 unfold GR at m
 refine v (hX rfl rfl λk2 K3=>ve λu=>bG ([.sc (.string ByteArray.empty),sZ]) u LS rfl rfl λk5 K6=>qk K6 rfl (v (v (rE (FG (.tok 70 3 (([]:List dB).length*3)) 3 (ow none 3 (List.map bT [])) (jD _ _)) (pB m (σ:=(List dB)×Int) (τ:=Option bY) (λg s=> [(g,.tok 70 3 ((s.1:List dB).length*3)),(some k5,.obj 58 ([.sc (.string ByteArray.empty),sZ])),(some k2,.obj 58 (bC p0))]) (λg s=>(g=none→s.1= [])) (λg s=>.c 1 (.ptr k2 0) (.c 2 (.ptr k5 0) (.c 3 (ow g 3 (List.map bT s.1)) (.c 4 (nZ s.2) .nil)))) none (λ_=>rfl) (lx (.k4 .nil)) ?_ ?_)))))
 rintro tg0 ⟨q0,q1⟩ x t0 m
 replace m:tE w p0 q0 q1=some x:=m
 unfold tE at m
 refine v (vl 2 _ nE rfl rfl rfl (cY uY rfl (v ?_)))
 apply vi m <;> intro c0 m
 refine v (v (v (vl 2 _ nE rfl rfl rfl (vx m rJ rfl rfl λx0 _ m=>va (.agg (bT x0)) CI rfl rfl (ve λu=>bG (VI) u GI rfl rfl λk103 K0=>qk K0 rfl (ve λu=>aJ 0 (bT x0) u rfl rfl rfl rfl JG rfl rfl λK1=>qk K1 rfl (v (v (vl 0 _ u0 rfl rfl rfl ?_)))))))))
 obtain⟨z0,Z0,m⟩:=aC m
 refine ve λu=>oF (c:=bH) Z0 CH rfl rfl u nofun rfl λtg1 t1 K2=>qk K2 rfl (ve λu=>aJ 1 ([.sc (.string x0.Path),nZ x0.Size,ow tg1 32 (List.map bH z0)]) u rfl rfl (jE rfl) (pO _ _ _) TH rfl rfl λK4=>qk K4 rfl (v (vl 1 (.agg ([.sc (.string x0.Path),nZ x0.Size,ow tg1 32 (List.map bH z0)])) CI rfl rfl rfl (ve λu=>CA (t:=25) (.agg (bT ({ Path:=x0.Path,Size:=x0.Size,Ids:=z0}:dB))) (aW (.cons _ (.refl _)) u).1 (bB.agg (.k2 (.cons (mW _ 0 t1 u rfl (.refl _)) .nil))) (a_v (eD (List.map bT ([({ Path:=x0.Path,Size:=x0.Size,Ids:=z0}:dB)]:List dB)) JE rfl rfl rfl rfl) (qk ((aW (.cons _ (.refl _)) u).2) rfl ?_))))))
 obtain⟨z1,Z1,m⟩:=aC m
 exact ve λu=>e8 (c:=bT) 1 Z1 JE rfl rfl rfl t0 u rfl λtg2 t2 K5=>qk K5 rfl (v (fB m tg2 t2 (nD [1,2,3] rfl rfl (.k4 .nil))))
 exact v (mL m tg0 t0 (lx (.k4 .nil)))
 rintro tg3 ⟨r0,r1⟩ t3 m
 refine v (ve λu=>aJ 2 ([.sc (.string p0.Name),ow tg3 3 (List.map bT r0)]) u rfl rfl (jE rfl) (pO _ _ _) S9 rfl rfl λK7=>qk K7 rfl (v (vl 2 (.agg ([.sc (.string p0.Name),ow tg3 3 (List.map bT r0)])) nU rfl rfl rfl (ve λu=>aJ 1 ([.sc (.string p0.Name),ow tg3 3 (List.map bT r0)]) u rfl rfl rfl (by repeat (first | exact rfl | refine cE (iE _ _ _) ?_ | refine cE (bZ _ _ _) ?_ | refine cE (fV _ _ _ _) ?_ | refine cE rfl ?_)) zS rfl rfl λK8=>qk K8 rfl ?_))))
 refine v ?_
 cases m
 exact vr λu=>dZ.of1 (.inl rfl) (qT (.agg ([.sc (.string p0.Name),ow tg3 3 (List.map bT r0)])) nU rfl (aX 1 u rfl) rfl) (aW (List.nil_sublist _) u).1 (bB.agg (.cons (bB.refl _ _) (.cons ((eQ _ 0 t3 u rfl)) .nil))) ⟨rfl,rfl⟩
theorem RX:aP Tryz.prog 150=true:=by kernel_rfl
def tF (m:Nat) (p0:List aB) (q0:List aB) (q1:Int):Option (Lp ((List aB)×Int) ((List aB))):=
 if (decide (q1 < (p0.length:Int)))=true then ((ix p0 q1).bind λx0=>(vK m x0.Data).bind λy0=>(wO m x0.Locs).bind λy1=>(app q0 ([{ { x0 with Data:=y0} with Locs:=y1}]:List aB)).bind λz0=>some (.go (z0,IntKind.wrap .i64 (q1+1)))) else some (.brk (q0,q1))
def JN (m:Nat) (p0:List aB):Option ((List aB)):=
 after (aU (λs=>tF m p0 s.1 s.2) m ([],0)) λ⟨r0,r1⟩=>some r0
theorem aD2 {w:Nat} {p0:List aB} {o:(List aB)} (h:aE) (m:JN w p0=some o):
 aL Tryz.prog 152 [.sl none 35 (List.map aI p0)] h (λr h'=>r= .sl none 35 (List.map aI o)∧h'=h):=by
 refine fT 29 [.tmp 2] Tryz.func152 rfl rfl rfl rfl ?_
 unfold JN at m
 refine v (v (v (rE (FG (.tok 44 35 (([]:List aB).length*35)) 3 (ow none 35 (List.map aI [])) (jD _ _)) (pB m (σ:=(List aB)×Int) (τ:=Option bY) (λg s=> [(g,.tok 44 35 ((s.1:List aB).length*35))]) (λg s=>(g=none→s.1= [])) (λg s=>.c 0 (.sl none 35 (List.map aI p0)) (.c 3 (ow g 35 (List.map aI s.1)) (.c 4 (nZ s.2) .nil))) none (λ_=>rfl) (lx (.k3 .nil)) ?_ ?_))))
 rintro tg0 ⟨q0,q1⟩ x t0 m
 replace m:tF w p0 q0 q1=some x:=m
 unfold tF at m
 refine v (cY jG rfl (v ?_))
 apply vi m <;> intro c0 m
 refine v (v (v (vx m fH rfl rfl λx0 _ m=>va (.agg (aI x0)) nT rfl rfl (ve λu=>bG (bH jI++(OB:List AV)) u oK rfl rfl λk109 K0=>qk K0 rfl (ve λu=>aJ 0 (aI x0) u rfl rfl rfl rfl CF rfl rfl λK1=>qk K1 rfl (v (vz [(7,some k109,.obj 44 (aI x0))] mixed (λu=>⟨λ_=>aK 0 u rfl,trivial⟩) λu=>zF 0 rfl jP rfl (zL 1 0 (.sl none 1 (List.map cW x0.Data)) rfl lL rfl rfl rfl ?_))))))))
 obtain⟨y0,Y0,m⟩:=aC m
 refine zC 2 rfl (cB (MN _ Y0) rfl ER rfl) (zF 3 rfl jQ rfl (zL 4 0 (.sl none 4 (List.map aQ x0.Locs)) rfl fM rfl rfl rfl ?_))
 obtain⟨y1,Y1,m⟩:=aC m
 refine zC 5 rfl (cB (MM _ Y1) rfl EQ rfl) (zF 6 rfl jP rfl (zE 7 rfl (aJ 0 (aI { x0 with Data:=y0}) u rfl rfl rfl rfl CE rfl rfl λK2=>⟨⟨λe=>absurd e (by decide),trivial⟩, ?_⟩)))
 refine zF 8 rfl jQ rfl (zE 9 rfl (aJ 0 (aI { { x0 with Data:=y0} with Locs:=y1}) K2 rfl rfl rfl rfl pT rfl rfl λK3=>⟨⟨λe=>absurd e (by decide),trivial⟩, ?_⟩))
 refine zX (qk (f:=VM 23 _ _ _ _ _ _ _ _ _) K3 rfl (v (vl 0 (.agg (aI { { x0 with Data:=y0} with Locs:=y1})) nT rfl rfl rfl (bV (eD (List.map aI ([{ { x0 with Data:=y0} with Locs:=y1}]:List aB)) lK rfl rfl rfl rfl) ?_))))
 obtain⟨z0,Z0,m⟩:=aC m
 exact ve λu=>e8 (c:=aI) 1 Z0 lK rfl rfl rfl t0 u rfl λtg1 t1 K4=>qk K4 rfl (v (fB m tg1 t1 (nD [1] rfl rfl (.k3 .nil))))
 exact v (mL m tg0 t0 (lx (.k3 .nil)))
 rintro tg2 ⟨r0,r1⟩ t2 m
 refine v (v ?_)
 obtain rfl:=eU m
 exact vr λu=>dZ.of1 (.inl rfl) (f0 _ _ (ow _ _ _) rfl) (aW (List.nil_sublist _) u).1 ((eQ _ 0 t2 u rfl)) ⟨rfl,rfl⟩
theorem MO:aP Tryz.prog 152=true:=by kernel_rfl
def GS (m:Nat) (p0:aA) (q0:List aH) (q1:Int):Option (Lp ((List aH)×Int) (aA)):=
 if (decide (q1 < (p0.Snaps.length:Int)))=true then ((ix p0.Snaps q1).bind λx0=>(GR m x0.Man).bind λy0=>(wO m x0.Locs).bind λy1=>(app q0 ([{ { x0 with Man:=y0} with Locs:=y1}]:List aH)).bind λz0=>some (.go (z0,IntKind.wrap .i64 (q1+1)))) else some (.brk (q0,q1))
def GT (m:Nat) (p0:aA) (q0:List aS) (q1:Int):Option (Lp ((List aS)×Int) (aA)):=
 if (decide (q1 < (p0.Exps.length:Int)))=true then ((ix p0.Exps q1).bind λx0=>(wO m x0.Locs).bind λy0=>(app q0 ([{ x0 with Locs:=y0}]:List aS)).bind λz0=>some (.go (z0,IntKind.wrap .i64 (q1+1)))) else some (.brk (q0,q1))
def M90 (m:Nat) (p0:aA):Option (aA):=
 after (aU (λs=>GS m p0 s.1 s.2) m ([],0)) λ⟨r0,r1⟩=>after (aU (λs=>GT m p0 s.1 s.2) m ([],0)) λ⟨r2,r3⟩=>(JN m p0.Chunks).bind λy0=>(app ([]:List aM) p0.Vols).bind λz0=>some ({ Seq:=p0.Seq,Snaps:=r0,Chunks:=y0,Exps:=r2,Vols:=z0}:aA)
theorem aD3:aP Tryz.prog 90=true:=by kernel_rfl
end Go.Proofs.YtbbifdfldpfphaaGreat
