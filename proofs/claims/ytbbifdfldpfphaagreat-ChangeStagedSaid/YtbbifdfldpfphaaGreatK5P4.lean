import Derived.Test.YtbbifdfldpfphaaGreatK5P3
import Derived.Test.YtbbifdfldpfphaaGreatK5P1
import Derived.Lib.Bytealg
set_option linter.unusedSimpArgs false
set_option linter.unusedVariables false
set_option maxHeartbeats 4000000
set_option maxRecDepth 100000
namespace Go.Proofs.YtbbifdfldpfphaaGreat
open Go.Vm
def TW (m:Nat) (p0:Int):Option (Int):=
 grd (decide (0≤(IntKind.wrap .i64 (8*p0)))) <| some (IntKind.wrap .i64 (1*2 ^ (min ((IntKind.wrap .i64 (8*p0)):Int).toNat (IntKind.bits .i64))))
theorem aDO {u:Nat} {p0:Int} {o:Int} (h:aE) (m:TW u p0=some o):
 aL Tryz.prog 166 [nZ p0] h (λr h'=>r=nZ o∧h'=h):=by
 refine f8 6 [.tmp 2] Tryz.func166 rfl rfl rfl rfl ?_
 unfold TW at m
 refine v (v (PP m λ_ m=>v ?_))
 cases m
 exact eD rfl
theorem XS:aO Tryz.prog 166=true:=by kernel_rfl
def yJ (m:Nat) (p1:Int) (q0:List Int) (q1:Int):Option (Lp ((List Int)×Int) ((List Int)×Int)):=
 if (decide (0≤q1))=true then (grd (decide (0≤(IntKind.wrap .i64 (8*q1)))) <| (app q0 ([IntKind.wrap .u8 (p1.fdiv (2 ^ (min ((IntKind.wrap .i64 (8*q1)):Int).toNat (IntKind.bits .i64))))]:List Int)).bind λz0=>some (.go (z0,IntKind.wrap .i64 (q1 - 1)))) else some (.brk (q0,q1))
def IB (m:Nat) (p0:List Int) (p1:Int) (p2:Int):Option ((List Int)×Int):=
 after (if (decide (p2 < 1))=true then (some (.brk true)) else if (decide (7 < p2))=true then (some (.brk true)) else if (decide (p1 < 0))=true then (some (.brk true)) else (TW m p2).bind λy0=>some (.brk (decide (y0≤p1))):Option (Lp (Bool) ((List Int)×Int))) λj9=>if j9=true then (some (([]:List Int),1)) else (TV m p0).bind λy1=>after (aU (λs=>yJ m p1 s.1 s.2) m (y1,IntKind.wrap .i64 (p2 - 1))) λ⟨r0,r1⟩=>some (r0,0)
theorem RS {w:Nat} {p0:List Int} {p1:Int} {p2:Int} {o:(List Int)×Int} (h:aE) (m:IB w p0 p1 p2=some o):
 aL Tryz.prog 101 [.sl none 1 (List.map dF p0),nZ p1,nZ p2] h (λr h'=>∃t:Option cB,(t=none→o.1= [])∧bT h [(t,.tok 5 1 ((o.1:List Int).length*1))]∧r= .tup [ow t 1 (List.map dF o.1),nZ o.2]∧h'=hp h [(t,.tok 5 1 ((o.1:List Int).length*1))]):=by
 refine f8 43 [.tmp 6,.tmp 7] Tryz.func101 rfl rfl rfl rfl ?_
 unfold IB at m
 refine v (vs (vs (fN m (σ:=Bool) (λs=> []) (λs=>.c 0 (.sl none 1 (List.map dF p0)) (.c 1 (nZ p1) (.c 2 (nZ p2) (.c 25 (.sc (.bool s)) .nil)))) (λx m=> ?_) ?_)))
 refine v ?_
 apply vi m <;> intro b0 m
 rw[b0]
 exact iE m
 rw[b0]
 apply vi m <;> intro b1 m
 rw[b1]
 exact iE m
 rw[b1]
 apply vi m <;> intro b2 m
 rw[b2]
 exact iE m
 rw[b2]
 exact vk aDO XS m rfl rfl λ_ m=>iE m
 rintro _ j9 m
 refine v ?_
 apply vi m <;> intro c0 m
 refine v (v ?_)
 cases m
 exact vr λu=>dW.of2 (.inl rfl) (fT _ _ (.sc (.slice _ _ _)) rfl) (fT _ _ (.sc (.int _ _)) rfl) (iD.refl _) (jD _ _) (bF.refl _ _) ⟨none,λ_=>rfl,bT.none (bT.nil _),rfl,rfl⟩
 refine v (v ?_)
 obtain⟨_,Y0,m⟩:=aC m
 refine ve λu=>cK (W96 _ Y0) rfl P1 rfl ?_
 rintro x h' ⟨tg0,t0,K0,rfl,rfl⟩
 refine qk (bT.co u K0) (iS _ _ _) (v (nR m (σ:=(List Int)×Int) (τ:=Option cB) (λg s=> [(g,.tok 5 1 ((s.1:List Int).length*1))]) (λg s=>(g=none→s.1= [])) (λg s=>.c 1 (nZ p1) (.c 8 (ow g 1 (List.map dF s.1)) (.c 9 (nZ s.2) .nil))) tg0 t0 (lx (.k3 .nil)) ?_ ?_))
 rintro tg1 ⟨q0,q1⟩ x t1 m
 replace m:yJ w p1 q0 q1=some x:=m
 unfold yJ at m
 refine v (v ?_)
 apply vi m <;> intro c1 m
 refine v (v (v (PP m λ_ m=>bU (eK (List.map dF ([IntKind.wrap .u8 (p1.fdiv (2 ^ (min ((IntKind.wrap .i64 (8*q1)):Int).toNat (IntKind.bits .i64))))]:List Int)) jH rfl rfl rfl rfl) ?_)))
 obtain⟨z0,Z0,m⟩:=aC m
 exact ve λu=>fF (c:=dF) 0 Z0 jH rfl rfl rfl t1 u rfl λtg2 t2 K1=>qk K1 rfl (v (eW m tg2 t2 (lx (.k3 .nil))))
 exact v (lM m tg1 t1 (lx (.k3 .nil)))
 rintro tg3 ⟨r0,r1⟩ t3 m
 refine v (v ?_)
 cases m
 exact vr λu=>dW.of2 (.inl rfl) (fT _ _ (ow _ _ _) rfl) (fT _ _ (.sc (.int _ _)) rfl) (aT (h0:=h) (L':= [(tg3,.tok 5 1 ((r0:List Int).length*1))]) (.refl _) u).1 (bF.refl _ _) (bF.refl _ _) ⟨tg3,t3,(aT (h0:=h) (L':= [(tg3,.tok 5 1 ((r0:List Int).length*1))]) (.refl _) u).2,rfl,rfl⟩
theorem RT:aO Tryz.prog 101=true:=by kernel_rfl
def GS (m:Nat) (x0:dJ) (q0:List Int) (q1:Int):Option (Lp ((List Int)×Int) (Lp ((List Int)×Int) ((List Int)×Int))):=
 if (decide (q1 < (x0.Ids.length:Int)))=true then ((ix x0.Ids q1).bind λx1=>(app q0 x1.1).bind λz0=>some (.go (z0,IntKind.wrap .i64 (q1+1)))) else some (.brk (q0,q1))
def GT (m:Nat) (p0:bG) (q0:List Int) (q1:Int):Option (Lp ((List Int)×Int) ((List Int)×Int)):=
 if (decide (q1 < (p0.Parts.length:Int)))=true then ((ix p0.Parts q1).bind λx0=>(app q0 ([IntKind.wrap .u8 (x0.Path.size:Int)]:List Int)).bind λz0=>(app z0 (sH x0.Path)).bind λz1=>(IB m z1 x0.Size 2).bind λy0=>(app y0.1 ([IntKind.wrap .u8 (x0.Ids.length:Int)]:List Int)).bind λz2=>after (aU (λs=>GS m x0 s.1 s.2) m (z2,0)) λ⟨r0,r1⟩=>some (.go (r0,IntKind.wrap .i64 (q1+1)))) else some (.brk (q0,q1))
def M42 (m:Nat) (p0:bG):Option ((List Int)×Int):=
 (EK m p0).bind λy6=>if (y6 !=0)=true then (some ([],y6)) else (app ([IntKind.wrap .u8 (p0.Name.size:Int)]:List Int) (sH p0.Name)).bind λz0=>(app z0 ([IntKind.wrap .u8 (p0.Parts.length:Int)]:List Int)).bind λz1=>after (aU (λs=>GT m p0 s.1 s.2) m (z1,0)) λ⟨r0,r1⟩=>some (r0,0)
theorem W42 {w:Nat} {p0:bG} {o:(List Int)×Int} (h:aE) (m:M42 w p0=some o):
 aL Tryz.prog 42 [.agg (bK p0)] h (λr h'=>r= .tup [.sl none 1 (List.map dF o.1),nZ o.2]∧h'=h):=by
 refine f8 74 [.tmp 2,.tmp 3] Tryz.func42 rfl rfl rfl rfl ?_
 unfold M42 at m
 refine v (gY rfl rfl λk2 K3=>v (vl 0 (.agg (bK p0)) nU rfl rfl rfl (vk PZ H9 m rfl rfl λ_ m=>v (v ?_))))
 apply vi m <;> intro c0 m
 refine v (v ?_)
 cases m
 exact vr λu=>dW.of2 (.inl rfl) (fT _ _ (.sc (.slice _ _ _)) rfl) (fT _ _ (.sc (.int _ _)) rfl) (aT (List.nil_sublist _) u).1 (aX _) (bF.refl _ _) ⟨rfl,rfl⟩
 refine v (v (vl 0 _ zU rfl rfl rfl (bU (oL PS rfl) (ve λu=>F0 (c:=dF) ([IntKind.wrap .u8 (p0.Name.size:Int)]:List Int) u jH rfl rfl rfl rfl λtg0 t0 K0=>qk K0 rfl (vl 1 _ zU rfl rfl rfl ?_)))))
 obtain⟨z0,Z0,m⟩:=aC m
 refine ve λu=>LO (c:=dF) 0 Z0 u9 jH rfl (λ_=>rfl) rfl rfl t0 u rfl λtg1 t1 K1=>qk K1 rfl (v (vl 1 _ nF rfl rfl rfl (dE uX rfl (bU (eK (List.map dF ([IntKind.wrap .u8 (p0.Parts.length:Int)]:List Int)) jH rfl rfl rfl rfl) ?_))))
 obtain⟨z1,Z1,m⟩:=aC m
 refine ve λu=>fF (c:=dF) 0 Z1 jH rfl rfl rfl t1 u rfl λtg2 t2 K2=>qk K2 rfl (v (vl 1 _ nF rfl rfl rfl (dE uX rfl (nR m (σ:=(List Int)×Int) (τ:=Option cB) (λg s=> [(g,.tok 5 1 ((s.1:List Int).length*1)),(some k2,.obj 58 (bK p0))]) (λg s=>(g=none→s.1= [])) (λg s=>.c 5 (ow g 1 (List.map dF s.1)) (.c 31 (.sl none 3 (List.map bX p0.Parts)) (.c 32 (nZ (p0.Parts.length:Int)) (.c 33 (nZ s.2) .nil)))) tg2 t2 (lx (.k4 .nil)) ?_ ?_))))
 rintro tg3 ⟨q0,q1⟩ x t3 m
 replace m:GT w p0 q0 q1=some x:=m
 unfold GT at m
 refine v (v ?_)
 apply vi m <;> intro c1 m
 refine v (v (v (vx m rJ rfl rfl λx0 _ m=>va (.agg (bX x0)) CN rfl rfl (ve λu=>bJ (VY) u GP rfl rfl λk257 K4=>qk K4 rfl (ve λu=>aK 0 (bX x0) u rfl rfl rfl rfl JU rfl rfl λK5=>qk K5 rfl (v (vz [(1000000,some k257,.obj 70 (bX x0))] mixed (λu=>⟨λ_=>aJ 0 u rfl,trivial⟩) λu=>zC 0 rfl (eY (ow _ _ _) rfl) (zF 1 rfl LY rfl (zL 2 0 (.sc (.string x0.Path)) rfl zU rfl rfl rfl (zC 3 rfl (oL PS rfl) (zC 4 rfl (JK W1 ti5 rfl) (zC 5 rfl (eK (List.map dF ([IntKind.wrap .u8 (x0.Path.size:Int)]:List Int)) jH rfl rfl rfl rfl) (zF 7 rfl LY rfl (zL 8 0 (.sc (.string x0.Path)) rfl zU rfl rfl rfl ?_))))))))))))))
 obtain⟨z2,Z2,m⟩:=aC m
 refine zE 6 rfl (fF (c:=dF) 1 Z2 jH rfl rfl rfl t3 u rfl λtg4 t4 K6=>⟨⟨λ_=>aJ 0 K6 rfl,trivial⟩, ?_⟩)
 obtain⟨z3,Z3,m⟩:=aC m
 refine zE 9 rfl (LO (c:=dF) 1 Z3 u9 jH rfl (λ_=>rfl) rfl rfl t4 K6 rfl λtg5 t5 K7=>⟨⟨λ_=>aJ 0 K7 rfl,trivial⟩, ?_⟩)
 refine zC 10 rfl (iC (ow _ _ _) rfl) (zX (qk (f:=.c 5 _ (.c 46 _ (.c 43 _ (.c 45 _ (.c 44 _ (fq6 42 _ _ _ _ _ _ _)))))) K7 rfl (v (vl 0 _ cF rfl rfl rfl ?_))))
 obtain⟨_,Y0,m⟩:=aC m
 refine ve λu=>xY (s:=48) (.sl none 1 (List.map dF z3)) (aT (.cons_cons _ (.cons _ (.refl _))) u).1 (Fz.ale (aT (.cons_cons _ (.cons _ (.refl _))) u).1 (mZ _ 1 t5 u rfl (.refl _))) (cK (RS _ Y0) rfl RT rfl ?_)
 rintro x h' ⟨tg6,t6,K8,rfl,rfl⟩
 refine qk (bT.co ((aT (.cons_cons _ (.cons _ (.refl _))) u).2) K8) (iS _ _ _) (v (vl 1 _ u6 rfl rfl rfl (dE rK rfl (bU (eK (List.map dF ([IntKind.wrap .u8 (x0.Ids.length:Int)]:List Int)) jH rfl rfl rfl rfl) ?_))))
 obtain⟨z4,Z4,m⟩:=aC m
 refine ve λu=>fF (c:=dF) 0 Z4 jH rfl rfl rfl t6 u rfl λtg7 t7 K9=>qk K9 rfl (v (vl 1 _ u6 rfl rfl rfl (dE rK rfl (nR m (σ:=(List Int)×Int) (τ:=Option cB) (λg s=> [(g,.tok 5 1 ((s.1:List Int).length*1)),(some k257,.obj 70 (bX x0)),(some k2,.obj 58 (bK p0))]) (λg s=>(g=none→s.1= [])) (λg s=>.c 5 (ow g 1 (List.map dF s.1)) (.c 31 (.sl none 3 (List.map bX p0.Parts)) (.c 32 (nZ (p0.Parts.length:Int)) (.c 33 (nZ q1) (.c 62 (.sl none 32 (List.map bL x0.Ids)) (.c 63 (nZ (x0.Ids.length:Int)) (.c 64 (nZ s.2) .nil))))))) tg7 t7 (lx (.k7 .nil)) ?_ ?_))))
 rintro tg8 ⟨q2,q3⟩ x t8 m
 replace m:GS w x0 q2 q3=some x:=m
 unfold GS at m
 refine v (v ?_)
 apply vi m <;> intro c2 m
 refine v (v (v (vx m yE rfl rfl λx1 _ m=>va (.agg (bL x1)) fW rfl rfl (ve λu=>bJ (bL jW) u JR rfl rfl λk343 K10=>qk K10 rfl (ve λu=>aK 0 (bL x1) u rfl rfl rfl rfl JQ rfl rfl λK11=>qk K11 rfl (v (bU (D9 sL rfl) ?_)))))))
 obtain⟨z5,Z5,m⟩:=aC m
 exact ve λu=>fF (c:=dF) 1 Z5 jH rfl rfl rfl t8 u (xV (bB 0 u rfl) rfl rfl) λtg9 t9 K12=>qk K12 rfl (v (eW m tg9 t9 (lW [1,2,3] rfl rfl (.k7 .nil))))
 exact v (lM m tg8 t8 (lx (.k7 .nil)))
 rintro tg10 ⟨r0,r1⟩ t10 m
 exact v (eW m tg10 t10 (lW [0,2] rfl rfl (.k4 .nil)))
 exact v (lM m tg3 t3 (lx (.k4 .nil)))
 rintro tg11 ⟨r2,r3⟩ t11 m
 refine v (v ?_)
 cases m
 exact vr λu=>dW.of2 (.inl rfl) (fT _ _ (ow _ _ _) rfl) (fT _ _ (.sc (.int _ _)) rfl) (aT (List.nil_sublist _) u).1 ((eZ _ 0 t11 u rfl)) (bF.refl _ _) ⟨rfl,rfl⟩
theorem aDQ:aO Tryz.prog 42=true:=by kernel_rfl
end Go.Proofs.YtbbifdfldpfphaaGreat
namespace Go.Vm
theorem wr {n:Int} (h: -9223372036854775808≤n) (h2:n < 9223372036854775808):IntKind.wrap .i64 n=n:=by
 have e:IntKind.wrap .i64 n=(if decide (n % 18446744073709551616≥9223372036854775808)=true then n % 18446744073709551616 - 18446744073709551616 else n % 18446744073709551616):=rfl
 rw[e]
 simp only[decide_eq_true_eq]
 split <;> omega
theorem iW {i:Nat} (h:i < 1000000000):IntKind.wrap .i64 ((i:Int)+1)=((i+1:Nat):Int):=by rw[wr (by omega) (by omega)]; rfl
theorem yK {i:Nat} (h:i < 1000000000) (h0:0 < i):IntKind.wrap .i64 ((i:Int) - 1)=((i - 1:Nat):Int):=by rw[wr (by omega) (by omega)]; omega
theorem bH {α:Type} (l:List α) (i:Nat):ix l (i:Int)=l[i]? :=by simp[ix]
theorem pZ {α:Type} (l:List α) {i:Int} (h:0≤i):ix l i=l[i.toNat]? :=by simp[ix,h]
theorem cC {α:Type} {xs ys:List α} (h:xs.length+ys.length≤1000000000):app xs ys=some (xs++ys):=by simp[app,h]
theorem cX {σ ρ:Type} (c:Prop) [Decidable c] (a b:Option (Lp σ ρ)) (k:σ→Option ρ):after (if c then a else b) k=if c then after a k else after b k:=by split <;> rfl
theorem aG {σ ρ:Type} (s:σ) (k:σ→Option ρ):after (some (.brk s)) k=k s:=rfl
theorem cL {σ ρ:Type} (r:ρ) (k:σ→Option ρ):after (some (.ret r)) k=some r:=rfl
theorem dL {α β:Type} (c:Prop) [Decidable c] (a b:Option α) (k:α→Option β):(if c then a else b).bind k=if c then a.bind k else b.bind k:=by split <;> rfl
def LF {S ρ:Type} (emb:Nat→S) (p:Nat→Bool) (rv:Nat→ρ) (n:Nat):Lp S ρ:=match (List.range n).find? p with
 | none=>.brk (emb n)
 | some i=>.ret (rv i)
theorem EM {S ρ:Type} {body:S→Option (Lp S ρ)} (emb:Nat→S) (p:Nat→Bool) (rv:Nat→ρ):∀(m k F:Nat),m < F→
    (∀i,k≤i→i < k+m→(∀j,j < i→k≤j→p j=false)→body (emb i)=some (if p i then .ret (rv i) else .go (emb (i+1))))→((∀j,k≤j→j < k+m→p j=false)→body (emb (k+m))=some (.brk (emb (k+m))))→
    aU body F (emb k)=some (match (List.range' k m).find? p with | none=>.brk (emb (k+m)) | some i=>.ret (rv i))
  | 0,k,F+1,_,_,he=>by
    have:=he (λj h1 h2=>by omega)
    simp only[Nat.add_zero] at this
    simp[aU,this]
  | m+1,k,F+1,hF,hb,he=>by
    have h0:=hb k (Nat.le_refl _) (by omega) (λj h1 h2=>by omega)
    rw[List.range'_succ,List.find?_cons]
    cases hp:p k with
    | true=>simp[aU,h0,hp]
    | false=>
      have:=EM (body:=body) emb p rv m (k+1) F (by omega) (λi h1 h2 h3=>hb i (by omega) (by omega) (λj h4 h5=>by
        by_cases e:j=k
        · subst e; exact hp
        · exact h3 j h4 (by omega))) (λh=>by
        rw[show k+1+m=k+(m+1) from by omega]
        exact he λj h4 h5=>by
          by_cases e:j=k
          · subst e; exact hp
          · exact h j (by omega) (by omega))
      simp only[aU,h0,hp]
      rw[if_neg (by simp)]
      simp only[this,show k+1+m=k+(m+1) from by omega]
theorem fD {S ρ:Type} {body:S→Option (Lp S ρ)} {n F:Nat} {s0:S} (emb:Nat→S) (p:Nat→Bool) (rv:Nat→ρ) (hF:n < F) (h0:s0=emb 0)
    (hb:∀i,i < n→(∀j,j < i→p j=false)→body (emb i)=some (if p i then .ret (rv i) else .go (emb (i+1)))) (he:(∀j,j < n→p j=false)→body (emb n)=some (.brk (emb n))):
    aU body F s0=some (LF emb p rv n):=by
  subst h0
  have:=EM (body:=body) emb p rv n 0 F hF (λi _ h2 h3=>hb i (by omega) λj hj=>h3 j hj (Nat.zero_le _)) (λh=>by simpa using he λj hj=>h j (Nat.zero_le _) (by omega))
  rw[this,LF,List.range_eq_range']
  simp
theorem iH {S ρ:Type} {emb:Nat→S} {p:Nat→Bool} {r:ρ} {n:Nat}:LF emb p (λ_=>r) n=if (List.range n).any p then .ret r else .brk (emb n):=by
 unfold LF
 split
 ·rename_i h
  rw[if_neg]
  simp only[List.any_eq_true,not_exists,not_and]
  exact λx hx=>List.find?_eq_none.1 h x hx
 ·rename_i i h
  rw[if_pos]
  exact List.any_eq_true.2 ⟨i,List.mem_of_find?_eq_some h,List.find?_some h⟩
end Go.Vm
namespace Go.Proofs.YtbbifdfldpfphaaGreat
open Go.Vm
def IC (m:Nat) (p0:Int) (p1:Int) (p2:Int):Option (Bool):=
 after (if (decide (p1≤p0))=true then (some (.brk (decide (p0≤p2)))) else some (.brk false):Option (Lp (Bool) (Bool))) λj4=>some j4
theorem OP {u:Nat} {p0:Int} {p1:Int} {p2:Int} {o:Bool} (h:aE) (m:IC u p0 p1 p2=some o):
 aL Tryz.prog 97 [nZ p0,nZ p1,nZ p2] h (λr h'=>r= .sc (.bool o)∧h'=h):=by
 refine f8 15 [.tmp 6] Tryz.func97 rfl rfl rfl rfl ?_
 unfold IC at m
 refine v (vs (fN m (σ:=Bool) (λs=> []) (λs=>.c 6 (.sc (.bool s)) .nil) (λx m=> ?_) ?_))
 refine v ?_
 apply vi m <;> intro b5 m
 rw[b5]
 exact iX m
 rw[b5]
 exact iX m
 rintro _ j4 m
 refine v ?_
 obtain rfl:=eT m
 exact eD rfl
theorem AB:aO Tryz.prog 97=true:=by kernel_rfl
def wZ (m:Nat) (p0:bO) (p1:bO) (q0:Int):Option (Lp (Int) (Bool)):=
 if (decide (q0 < 32))=true then ((ix p0.1 q0).bind λx0=>(ix p1.1 q0).bind λx1=>if (x0 !=x1)=true then ((ix p0.1 q0).bind λx2=>(ix p1.1 q0).bind λx3=>some (.ret (decide (x2 < x3)))) else some (.go (IntKind.wrap .i64 (q0+1)))) else some (.brk q0)
def MG (m:Nat) (p0:bO) (p1:bO):Option (Bool):=
 after (aU (λs=>wZ m p0 p1 s) m 0) λr0=>some false
theorem XT {w:Nat} {p0:bO} {p1:bO} {o:Bool} (h:aE) (m:MG w p0 p1=some o):
 aL Tryz.prog 147 [.agg (bL p0),.agg (bL p1)] h (λr h'=>r= .sc (.bool o)∧h'=h):=by
 refine f8 24 [.tmp 4] Tryz.func147 rfl rfl rfl rfl ?_
 unfold MG at m
 refine v (gY rfl rfl λk2 K3=>gY rfl rfl λk5 K6=>v (jY m (σ:=Int) (λs=> [(some k5,.obj 36 (bL p1)),(some k2,.obj 36 (bL p0))]) (λs=>.c 2 (.ptr k2 0) (.c 3 (.ptr k5 0) (.c 5 (nZ s) .nil))) (lx (.k3 .nil)) ?_ ?_))
 rintro _ q0 x m
 replace m:wZ w p0 p1 q0=some x:=m
 unfold wZ at m
 refine v (v ?_)
 apply vi m <;> intro c0 m
 refine v (v (v (vq (by kernel_rfl) ?_)))
 obtain⟨_,X0,m⟩:=aC m
 refine bU (mJ X0 sL rfl rfl) (vn (λu=>nJ 0 X0 EH rfl (bB 1 u rfl) rfl) ?_)
 obtain⟨_,X1,m⟩:=aC m
 refine bU (mJ X1 sL rfl rfl) (vn (λu=>nJ 0 X1 EH rfl (bB 0 u rfl) rfl) (v ?_))
 apply vi m <;> intro c1 m
 refine v (vq (by kernel_rfl) ?_)
 obtain⟨_,X2,m⟩:=aC m
 refine bU (mJ X2 sL rfl rfl) (vn (λu=>nJ 0 X2 EH rfl (bB 1 u rfl) rfl) ?_)
 obtain⟨_,X3,m⟩:=aC m
 refine bU (mJ X3 sL rfl rfl) (vn (λu=>nJ 0 X3 EH rfl (bB 0 u rfl) rfl) (v (gM m λm=> ?_)))
 cases m
 exact eD rfl
 exact v (v (gU m))
 exact v (EE m)
 rintro _ r0 m
 refine v (v ?_)
 obtain rfl:=eT m
 exact eD rfl
theorem RU:aO Tryz.prog 147=true:=by kernel_rfl
def sS (m:Nat) (p0:aA) (p1:List a8) (q0:Int):Option (Lp (Int) (Bool)):=
 if (decide (q0 < (p1.length:Int)))=true then ((ix p1 q0).bind λx0=>after (if (decide (x0.Vol < 0))=true then (some (.brk true)) else if (decide ((p0.Vols.length:Int)≤x0.Vol))=true then (some (.brk true)) else (ix p0.Vols x0.Vol).bind λx1=>if (x1.State !=2)=true then (some (.brk true)) else (ix p0.Vols x0.Vol).bind λx2=>(IC m x0.File 1 x2.Files).bind λy0=>if (!y0)=true then (some (.brk true)) else (IC m x0.Off 0 16777215).bind λy1=>if (!y1)=true then (some (.brk true)) else (IC m x0.Len 13 8013).bind λy2=>some (.brk (!y2)):Option (Lp (Bool) (Lp (Int) (Bool)))) λj0=>if j0=true then (some (.ret false)) else after (if (decide (0 < q0))=true then ((ix p1 (IntKind.wrap .i64 (q0 - 1))).bind λx3=>after (if (decide (x3.Vol < x0.Vol))=true then (some (.brk (!true))) else if (x3.Vol==x0.Vol)=true then (if (decide (x3.File < x0.File))=true then (some (.brk (!true))) else if (x3.File==x0.File)=true then (some (.brk (!(decide (x3.Off < x0.Off))))) else some (.brk (!false))) else some (.brk (!false)):Option (Lp (Bool) (Lp (Unit) (Lp (Int) (Bool))))) λj1=>if j1=true then (some (.ret (.ret false))) else some (.brk ())) else some (.brk ()):Option (Lp (Unit) (Lp (Int) (Bool)))) λ_=>some (.go (IntKind.wrap .i64 (q0+1)))) else some (.brk q0)
def AC (m:Nat) (p0:aA) (p1:List a8):Option (Bool):=
 if (decide (200 < (p1.length:Int)))=true then (some false) else after (aU (λs=>sS m p0 p1 s) m 0) λr0=>some true
theorem JZ {w:Nat} {p0:aA} {p1:List a8} {o:Bool} (h:aE) (m:AC w p0 p1=some o):
 aL Tryz.prog 148 [.agg (aF p0),.sl none 4 (List.map aN p1)] h (λr h'=>r= .sc (.bool o)∧h'=h):=by
 refine f8 108 [.tmp 4] Tryz.func148 rfl rfl rfl rfl ?_
 unfold AC at m
 refine v (gY rfl rfl λk2 K3=>v (dE gO rfl (v ?_)))
 apply vi m <;> intro c7 m
 refine v (v ?_)
 obtain rfl:=eT m
 exact eD rfl
 refine v (v (jY m (σ:=Int) (λs=> [(some k2,.obj 30 (aF p0))]) (λs=>.c 1 (.sl none 4 (List.map aN p1)) (.c 2 (.ptr k2 0) (.c 5 (nZ s) .nil))) (lx (.k3 .nil)) ?_ ?_))
 rintro _ q0 x m
 replace m:sS w p0 p1 q0=some x:=m
 unfold sS at m
 refine v (dE gO rfl (v ?_))
 apply vi m <;> intro c0 m
 refine v (v (v (vx m jR rfl rfl λx0 _ m=>va (.agg (aN x0)) l8 rfl rfl (ve λu=>bJ (OQ) u EJ rfl rfl λk202 K0=>qk K0 rfl (ve λu=>aK 0 (aN x0) u rfl rfl rfl rfl L2 rfl rfl λK1=>qk K1 rfl (vs (vs (fN m (σ:=Bool) (λs=> [(some k202,.obj 81 (aN x0)),(some k2,.obj 30 (aF p0))]) (λs=>.c 1 (.sl none 4 (List.map aN p1)) (.c 2 (.ptr k2 0) (.c 5 (nZ q0) (.c 6 (.ptr k202 0) (.c 66 (.sc (.bool s)) .nil))))) (λx m=> ?_) ?_))))))))
 refine v (vq (by kernel_rfl) (vl 0 _ cF rfl rfl rfl ?_))
 apply vi m <;> intro b0 m
 rw[b0]
 exact lX m
 rw[b0]
 refine vl 0 _ cF rfl rfl rfl (vl 1 _ gH rfl rfl rfl (dE sK rfl ?_))
 apply vi m <;> intro b1 m
 rw[b1]
 exact lX m
 rw[b1]
 refine vl 1 _ gH rfl rfl rfl (vl 0 _ cF rfl rfl rfl (vx m jN rfl rfl λ_ _ m=> ?_))
 apply vi m <;> intro b2 m
 rw[b2]
 exact lX m
 rw[b2]
 refine vl 0 _ cF rfl rfl rfl (vl 1 _ gH rfl rfl rfl (vl 0 _ cF rfl rfl rfl (vx m jN rfl rfl λ_ _ m=>vk OP AB m rfl rfl λ_ m=> ?_)))
 apply vi m <;> intro b3 m
 rw[b3]
 exact lX m
 rw[b3]
 refine vl 0 _ cF rfl rfl rfl (vk OP AB m rfl rfl λ_ m=> ?_)
 apply vi m <;> intro b4 m
 rw[b4]
 exact lX m
 rw[b4]
 exact vl 0 _ cF rfl rfl rfl (vk OP AB m rfl rfl λ_ m=>lX m)
 rintro _ j0 m
 refine v ?_
 apply vi m <;> intro c1 m
 refine v (v (gM m λm=> ?_))
 obtain rfl:=eT m
 exact eD rfl
 refine v (v (fN m (σ:=Unit) (λs=> [(some k202,.obj 81 (aN x0)),(some k2,.obj 30 (aF p0))]) (λs=>.c 1 (.sl none 4 (List.map aN p1)) (.c 2 (.ptr k2 0) (.c 5 (nZ q0) .nil))) (λx m=> ?_) ?_))
 refine v ?_
 apply vi m <;> intro c2 m
 refine v (vx m jR rfl rfl λx1 _ m=>va (.agg (aN x1)) l8 rfl rfl (ve λu=>bJ (OQ) u EJ rfl rfl λk268 K2=>qk K2 rfl (ve λu=>aK 0 (aN x1) u rfl rfl rfl rfl L2 rfl rfl λK4=>qk K4 rfl (vs (fN m (σ:=Bool) (λs=> [(some k268,.obj 81 (aN x1)),(some k202,.obj 81 (aN x0)),(some k2,.obj 30 (aF p0))]) (λs=>.c 1 (.sl none 4 (List.map aN p1)) (.c 2 (.ptr k2 0) (.c 5 (nZ q0) (.c 107 (.sc (.bool s)) .nil)))) (λx m=> ?_) ?_)))))
 refine v (vl 0 _ cF rfl rfl rfl (vl 1 _ cF rfl rfl rfl ?_))
 apply vi m <;> intro b5 m
 rw[b5]
 exact iE m
 rw[b5]
 refine vl 0 _ cF rfl rfl rfl (vl 1 _ cF rfl rfl rfl ?_)
 apply vi m <;> intro b6 m
 rw[b6]
 refine vl 0 _ cF rfl rfl rfl (vl 1 _ cF rfl rfl rfl ?_)
 apply vi m <;> intro b7 m
 rw[b7]
 exact iE m
 rw[b7]
 refine vl 0 _ cF rfl rfl rfl (vl 1 _ cF rfl rfl rfl ?_)
 apply vi m <;> intro b8 m
 rw[b8]
 exact vl 0 _ cF rfl rfl rfl (vl 1 _ cF rfl rfl rfl (iE m))
 rw[b8]
 exact iE m
 rw[b6]
 exact iE m
 rintro _ j1 m
 refine v ?_
 apply vi m <;> intro c3 m
 refine v (v (gM m λm=>gM m λm=> ?_))
 obtain rfl:=eT m
 exact eD rfl
 exact v (yB m (lW [1,2] rfl rfl (.k3 .nil)))
 exact v (gU m)
 rintro _ _ m
 exact v (yB m (lW [1] rfl rfl (.k3 .nil)))
 exact v (EE m)
 rintro _ r0 m
 refine v (v ?_)
 obtain rfl:=eT m
 exact eD rfl
theorem A9:aO Tryz.prog 148=true:=by kernel_rfl
def sU (m:Nat) (p0:ByteArray) (q0:Int):Option (Lp (Int) (Bool)):=
 if (decide (q0 < (p0.size:Int)))=true then (after ((PC p0 q0).bind λx0=>if (decide (x0 < 33))=true then (some (.brk true)) else (PC p0 q0).bind λx1=>some (.brk (decide (126 < x1))):Option (Lp (Bool) (Lp (Int) (Bool)))) λj0=>if j0=true then (some (.ret false)) else some (.go (IntKind.wrap .i64 (q0+1)))) else some (.brk q0)
def CR (m:Nat) (p0:ByteArray):Option (Bool):=
 after (aU (λs=>sU m p0 s) m 0) λr0=>after (if (decide (1≤(p0.size:Int)))=true then (some (.brk (decide ((p0.size:Int)≤20)))) else some (.brk false):Option (Lp (Bool) (Bool))) λj0=>some j0
theorem MH {u:Nat} {p0:ByteArray} {o:Bool} (h:aE) (m:CR u p0=some o):
 aL Tryz.prog 140 [.sc (.string p0)] h (λr h'=>r= .sc (.bool o)∧h'=h):=by
 refine f8 28 [.tmp 2] Tryz.func140 rfl rfl rfl rfl ?_
 unfold CR at m
 refine v (v (jY m (σ:=Int) (λs=> []) (λs=>.c 0 (.sc (.string p0)) (.c 3 (nZ s) .nil)) (lx (.k2 .nil)) ?_ ?_))
 rintro _ q0 x m
 replace m:sU u p0 q0=some x:=m
 unfold sU at m
 refine v (bU (oL PS rfl) (v ?_))
 apply vi m <;> intro c0 m
 refine v (v (vs (fN m (σ:=Bool) (λs=> []) (λs=>.c 0 (.sc (.string p0)) (.c 3 (nZ q0) (.c 19 (.sc (.bool s)) .nil))) (λx m=> ?_) ?_)))
 refine v ?_
 obtain⟨_,X0,m⟩:=aC m
 refine bU (H4 X0 u9 rfl rfl) ?_
 apply vi m <;> intro b0 m
 rw[b0]
 exact gU m
 rw[b0]
 obtain⟨_,X1,m⟩:=aC m
 exact bU (H4 X1 u9 rfl rfl) (gU m)
 rintro _ j0 m
 refine v ?_
 apply vi m <;> intro c1 m
 refine v (v (gM m λm=> ?_))
 obtain rfl:=eT m
 exact eD rfl
 exact v (v (rH m))
 exact v (OO m)
 rintro _ r0 m
 refine vs (fN m (σ:=Bool) (λs=> []) (λs=>.c 2 (.sc (.bool s)) .nil) (λx m=> ?_) ?_)
 refine v (bU (oL PS rfl) ?_)
 apply vi m <;> intro b1 m
 rw[b1]
 exact bU (oL PS rfl) (iX m)
 rw[b1]
 exact iX m
 rintro _ j1 m
 refine v ?_
 obtain rfl:=eT m
 exact eD rfl
theorem EN:aO Tryz.prog 140=true:=by kernel_rfl
def yL (m:Nat) (p0:bG) (q0:Int):Option (Lp (Int) (Bool)):=
 if (decide (q0 < (p0.Parts.length:Int)))=true then ((ix p0.Parts q0).bind λx0=>after ((CR m x0.Path).bind λy0=>if (!y0)=true then (some (.brk true)) else if (decide (0 < q0))=true then ((ix p0.Parts (IntKind.wrap .i64 (q0 - 1))).bind λx1=>if (Op.bytesLess x0.Path.toList x1.Path.toList || x0.Path.toList==x1.Path.toList)=true then (some (.brk true)) else if (decide (x0.Size < 0))=true then (some (.brk true)) else if (decide (200 < x0.Size))=true then (some (.brk true)) else if (decide (25 < (x0.Ids.length:Int)))=true then (some (.brk true)) else some (.brk (((x0.Ids.length:Int)==0) !=(x0.Size==0)))) else if (decide (x0.Size < 0))=true then (some (.brk true)) else if (decide (200 < x0.Size))=true then (some (.brk true)) else if (decide (25 < (x0.Ids.length:Int)))=true then (some (.brk true)) else some (.brk (((x0.Ids.length:Int)==0) !=(x0.Size==0))):Option (Lp (Bool) (Lp (Int) (Bool)))) λj0=>if j0=true then (some (.ret false)) else some (.go (IntKind.wrap .i64 (q0+1)))) else some (.brk q0)
def V5 (m:Nat) (p0:bG):Option (Bool):=
 after ((CR m p0.Name).bind λy0=>if (!y0)=true then (some (.brk true)) else some (.brk (decide (6 < (p0.Parts.length:Int)))):Option (Lp (Bool) (Bool))) λj0=>if j0=true then (some false) else after (aU (λs=>yL m p0 s) m 0) λr0=>some true
theorem W98 {w:Nat} {p0:bG} {o:Bool} (h:aE) (m:V5 w p0=some o):
 aL Tryz.prog 98 [.agg (bK p0)] h (λr h'=>r= .sc (.bool o)∧h'=h):=by
 refine f8 73 [.tmp 2] Tryz.func98 rfl rfl rfl rfl ?_
 unfold V5 at m
 refine v (gY rfl rfl λk2 K3=>vs (vs (fN m (σ:=Bool) (λs=> [(some k2,.obj 58 (bK p0))]) (λs=>.c 1 (.ptr k2 0) (.c 14 (.sc (.bool s)) .nil)) (λx m=> ?_) ?_)))
 refine v (vl 0 _ zU rfl rfl rfl (vk MH EN m rfl rfl λ_ m=> ?_))
 apply vi m <;> intro b0 m
 rw[b0]
 exact rH m
 rw[b0]
 exact vl 0 _ nF rfl rfl rfl (dE uX rfl (rH m))
 rintro _ j0 m
 refine v ?_
 apply vi m <;> intro c0 m
 refine v (v ?_)
 obtain rfl:=eT m
 exact eD rfl
 refine v (v (jY m (σ:=Int) (λs=> [(some k2,.obj 58 (bK p0))]) (λs=>.c 1 (.ptr k2 0) (.c 3 (nZ s) .nil)) (lx (.k2 .nil)) ?_ ?_))
 rintro _ q0 x m
 replace m:yL w p0 q0=some x:=m
 unfold yL at m
 refine v (vl 0 _ nF rfl rfl rfl (dE uX rfl (v ?_)))
 apply vi m <;> intro c1 m
 refine v (v (v (vl 0 _ nF rfl rfl rfl (vx m rJ rfl rfl λx0 _ m=>va (.agg (bX x0)) CN rfl rfl (ve λu=>bJ (VY) u GP rfl rfl λk112 K0=>qk K0 rfl (ve λu=>aK 0 (bX x0) u rfl rfl rfl rfl JU rfl rfl λK1=>qk K1 rfl (vs (fN m (σ:=Bool) (λs=> [(some k112,.obj 70 (bX x0)),(some k2,.obj 58 (bK p0))]) (λs=>.c 1 (.ptr k2 0) (.c 3 (nZ q0) (.c 72 (.sc (.bool s)) .nil))) (λx m=> ?_) ?_))))))))
 refine v (vq (by kernel_rfl) (vl 0 _ zU rfl rfl rfl (vk MH EN m rfl rfl λ_ m=> ?_)))
 apply vi m <;> intro b1 m
 rw[b1]
 exact gU m
 rw[b1]
 apply vi m <;> intro b2 m
 rw[b2]
 refine vl 0 _ zU rfl rfl rfl (vl 1 _ nF rfl rfl rfl (vx m rJ rfl rfl λ_ _ m=>bU (BT rfl rfl rfl trivial) ?_))
 apply vi m <;> intro b3 m
 rw[b3]
 exact gU m
 rw[b3]
 refine vl 0 _ cF rfl rfl rfl ?_
 apply vi m <;> intro b4 m
 rw[b4]
 exact gU m
 rw[b4]
 refine vl 0 _ cF rfl rfl rfl ?_
 apply vi m <;> intro b5 m
 rw[b5]
 exact gU m
 rw[b5]
 refine vl 0 _ u6 rfl rfl rfl (dE rK rfl ?_)
 apply vi m <;> intro b6 m
 rw[b6]
 exact gU m
 rw[b6]
 exact vl 0 _ u6 rfl rfl rfl (dE rK rfl (vl 0 _ cF rfl rfl rfl (bU (JJ u4 rfl rfl rfl) (gU m))))
 rw[b2]
 refine vl 0 _ cF rfl rfl rfl ?_
 apply vi m <;> intro b7 m
 rw[b7]
 exact gU m
 rw[b7]
 refine vl 0 _ cF rfl rfl rfl ?_
 apply vi m <;> intro b8 m
 rw[b8]
 exact gU m
 rw[b8]
 refine vl 0 _ u6 rfl rfl rfl (dE rK rfl ?_)
 apply vi m <;> intro b9 m
 rw[b9]
 exact gU m
 rw[b9]
 exact vl 0 _ u6 rfl rfl rfl (dE rK rfl (vl 0 _ cF rfl rfl rfl (bU (JJ u4 rfl rfl rfl) (gU m))))
 rintro _ j1 m
 refine v ?_
 apply vi m <;> intro c2 m
 refine v (v (gM m λm=> ?_))
 obtain rfl:=eT m
 exact eD rfl
 exact v (v (yB m (lW [1] rfl rfl (.k2 .nil))))
 exact v (OO m)
 rintro _ r0 m
 refine v (v ?_)
 obtain rfl:=eT m
 exact eD rfl
theorem XU:aO Tryz.prog 98=true:=by kernel_rfl
def w5 (m:Nat) (p0:bO) (p1:bO) (q0:Int):Option (Lp (Int) (Bool)):=
 if (decide (q0 < 32))=true then ((ix p0.1 q0).bind λx0=>(ix p1.1 q0).bind λx1=>if (x0 !=x1)=true then ((ix p0.1 q0).bind λx2=>(ix p1.1 q0).bind λx3=>some (.ret (decide (x2 < x3)))) else some (.go (IntKind.wrap .i64 (q0+1)))) else some (.brk q0)
def P3 (m:Nat) (p0:bO) (p1:bO):Option (Bool):=
 after (aU (λs=>w5 m p0 p1 s) m 0) λr0=>some false
theorem aDR {w:Nat} {p0:bO} {p1:bO} {o:Bool} (h:aE) (m:P3 w p0 p1=some o):
 aL Tryz.prog 167 [.agg (bL p0),.agg (bL p1)] h (λr h'=>r= .sc (.bool o)∧h'=h):=by
 refine f8 24 [.tmp 4] Tryz.func167 rfl rfl rfl rfl ?_
 unfold P3 at m
 refine v (gY rfl rfl λk2 K3=>gY rfl rfl λk5 K6=>v (jY m (σ:=Int) (λs=> [(some k5,.obj 36 (bL p1)),(some k2,.obj 36 (bL p0))]) (λs=>.c 2 (.ptr k2 0) (.c 3 (.ptr k5 0) (.c 5 (nZ s) .nil))) (lx (.k3 .nil)) ?_ ?_))
 rintro _ q0 x m
 replace m:w5 w p0 p1 q0=some x:=m
 unfold w5 at m
 refine v (v ?_)
 apply vi m <;> intro c0 m
 refine v (v (v (vq (by kernel_rfl) ?_)))
 obtain⟨_,X0,m⟩:=aC m
 refine bU (mJ X0 sL rfl rfl) (vn (λu=>nJ 0 X0 EH rfl (bB 1 u rfl) rfl) ?_)
 obtain⟨_,X1,m⟩:=aC m
 refine bU (mJ X1 sL rfl rfl) (vn (λu=>nJ 0 X1 EH rfl (bB 0 u rfl) rfl) (v ?_))
 apply vi m <;> intro c1 m
 refine v (vq (by kernel_rfl) ?_)
 obtain⟨_,X2,m⟩:=aC m
 refine bU (mJ X2 sL rfl rfl) (vn (λu=>nJ 0 X2 EH rfl (bB 1 u rfl) rfl) ?_)
 obtain⟨_,X3,m⟩:=aC m
 refine bU (mJ X3 sL rfl rfl) (vn (λu=>nJ 0 X3 EH rfl (bB 0 u rfl) rfl) (v (gM m λm=> ?_)))
 cases m
 exact eD rfl
 exact v (v (gU m))
 exact v (EE m)
 rintro _ r0 m
 refine v (v ?_)
 obtain rfl:=eT m
 exact eD rfl
theorem XV:aO Tryz.prog 167=true:=by kernel_rfl
def sV (m:Nat) (p0:List bO) (p1:bO) (q0:Int):Option (Lp (Int) ((List bO)×Int×Bool)):=
 after (if (decide (q0 < (p0.length:Int)))=true then ((ix p0 q0).bind λx0=>(P3 m x0 p1).bind λy0=>some (.brk y0)) else some (.brk false):Option (Lp (Bool) (Lp (Int) ((List bO)×Int×Bool)))) λj0=>if j0=true then (some (.go (IntKind.wrap .i64 (q0+1)))) else some (.brk q0)
def EO (m:Nat) (p0:List bO) (p1:bO):Option ((List bO)×Int×Bool):=
 after (aU (λs=>sV m p0 p1 s) m 0) λr0=>after (if (decide (r0 < (p0.length:Int)))=true then ((ix p0 r0).bind λx0=>some (.brk (decide (x0=p1)))) else some (.brk false):Option (Lp (Bool) ((List bO)×Int×Bool))) λj0=>if j0=true then (some (p0,r0,false)) else (slc p0 0 r0).bind λx1=>(app ([]:List bO) x1).bind λz0=>(app z0 ([p1]:List bO)).bind λz1=>(slc p0 r0 (p0).length).bind λx2=>(app z1 x2).bind λz2=>some (z2,r0,true)
theorem XW {w:Nat} {p0:List bO} {p1:bO} {o:(List bO)×Int×Bool} (h:aE) (m:EO w p0 p1=some o):
 aL Tryz.prog 106 [.sl none 32 (List.map bL p0),.agg (bL p1)] h (λr h'=>r= .tup [.sl none 32 (List.map bL o.1),nZ o.2.1,.sc (.bool o.2.2)]∧h'=h):=by
 refine f8 51 [.tmp 4,.tmp 5,.tmp 6] Tryz.func106 rfl rfl rfl rfl ?_
 unfold EO at m
 refine v (gY rfl rfl λk2 K3=>v (vs (jY m (σ:=Int) (λs=> [(some k2,.obj 36 (bL p1))]) (λs=>.c 0 (.sl none 32 (List.map bL p0)) (.c 3 (.ptr k2 0) (.c 7 (nZ s) .nil))) (lx (.k3 .nil)) ?_ ?_)))
 rintro _ q0 x m
 replace m:sV w p0 p1 q0=some x:=m
 unfold sV at m
 refine vs (vs (fN m (σ:=Bool) (λs=> [(some k2,.obj 36 (bL p1))]) (λs=>.c 0 (.sl none 32 (List.map bL p0)) (.c 3 (.ptr k2 0) (.c 7 (nZ q0) (.c 20 (.sc (.bool s)) .nil)))) (λx m=> ?_) ?_))
 refine v (vq (by kernel_rfl) (dE rK rfl ?_))
 apply vi m <;> intro b0 m
 rw[b0]
 exact vx m yE rfl rfl λx0 _ m=>va (.agg (bL x0)) fW rfl rfl (vl 0 (.agg (bL p1)) fW rfl rfl rfl (vk aDR XV m rfl rfl λ_ m=>iE m))
 rw[b0]
 exact iE m
 rintro _ j0 m
 refine v ?_
 apply vi m <;> intro c0 m
 exact v (v (v (gU m)))
 exact v (EE m)
 rintro _ r0 m
 refine vs (vs (fN m (σ:=Bool) (λs=> [(some k2,.obj 36 (bL p1))]) (λs=>.c 0 (.sl none 32 (List.map bL p0)) (.c 3 (.ptr k2 0) (.c 7 (nZ r0) (.c 34 (.sc (.bool s)) .nil)))) (λx m=> ?_) ?_))
 refine v (vq (by kernel_rfl) (dE rK rfl ?_))
 apply vi m <;> intro b1 m
 rw[b1]
 exact vx m yE rfl rfl λx1 _ m=>va (.agg (bL x1)) fW rfl rfl (vl 0 (.agg (bL p1)) fW rfl rfl rfl (bU (vX EI RK u5 EH rfl rfl) (iE m)))
 rw[b1]
 exact iE m
 rintro _ j1 m
 refine v ?_
 apply vi m <;> intro c1 m
 refine v (v ?_)
 cases m
 exact vr λu=>dW.of3 (.inl rfl) (fT _ _ (.sl _ _ _) rfl) (fT _ _ (.sc (.int _ _)) rfl) (fT _ _ (.sc (.bool _)) rfl) (aT (List.nil_sublist _) u).1 (bF.refl _ _) (bF.refl _ _) (bF.refl _ _) ⟨rfl,rfl⟩
 refine v (v (v (vz [(1000000,some k2,.obj 36 (bL p1))] mixed (λu=>⟨λ_=>aJ 0 u rfl,trivial⟩) λu=>zC 0 rfl (eY (.sc (.slice _ _ _)) rfl) (zC 1 rfl (eY (.sl _ _ _) rfl) (zI 2 rfl rfl ?_)))))
 obtain⟨_,X0,m⟩:=aC m
 refine zC 3 rfl (pS X0 yE rfl rfl rfl rfl) (zL 5 0 (.agg (bL p1)) rfl fW rfl rfl rfl (zC 6 rfl (eK (List.map bL ([p1]:List bO)) CM rfl rfl rfl rfl) ?_))
 obtain⟨z0,Z0,m⟩:=aC m
 refine zE 4 rfl (oN (c:=bL) Z0 CM rfl rfl u nofun rfl λtg0 t0 K0=>⟨⟨λ_=>aJ 1 K0 rfl,trivial⟩, ?_⟩)
 obtain⟨z1,Z1,m⟩:=aC m
 refine zE 7 rfl (fF (c:=bL) 0 Z1 CM rfl rfl rfl t0 K0 rfl λtg1 t1 K1=>⟨⟨λ_=>aJ 1 K1 rfl,trivial⟩, ?_⟩)
 refine zC 8 rfl (iC (ow _ _ _) rfl) (zX (qk (f:=.c 8 _ (.c 44 _ (.c 41 _ (.c 43 _ (.c 42 _ (PN 40 _ _ _ _ _)))))) K1 rfl (v ?_)))
 obtain⟨_,X1,m⟩:=aC m
 refine bU (pS X1 yE rfl rfl rfl rfl) ?_
 obtain⟨z2,Z2,m⟩:=aC m
 refine ve λu=>fF (c:=bL) 0 Z2 CM rfl rfl rfl t1 u rfl λtg2 t2 K2=>qk K2 rfl (v ?_)
 cases m
 exact vr λu=>dW.of3 (.inl rfl) (fT _ _ (ow _ _ _) rfl) (fT _ _ (.sc (.int _ _)) rfl) (fT _ _ (.sc (.bool _)) rfl) (aT (List.nil_sublist _) u).1 ((eZ _ 0 t2 u rfl)) (bF.refl _ _) (bF.refl _ _) ⟨rfl,rfl⟩
theorem RW:aO Tryz.prog 106=true:=by kernel_rfl
def vG (m:Nat) (p0:bG) (q0:Int) (q1:List bO) (q2:Int):Option (Lp ((List bO)×Int) (Lp ((List bO)×Int) ((List bO)))):=
 (ix p0.Parts q0).bind λx0=>if (decide (q2 < (x0.Ids.length:Int)))=true then ((ix p0.Parts q0).bind λx1=>(ix x1.Ids q2).bind λx2=>(EO m q1 x2).bind λy0=>some (.go (y0.1,IntKind.wrap .i64 (q2+1)))) else some (.brk (q1,q2))
def vH (m:Nat) (p0:bG) (q0:List bO) (q1:Int):Option (Lp ((List bO)×Int) ((List bO))):=
 if (decide (q1 < (p0.Parts.length:Int)))=true then (after (aU (λs=>vG m p0 q1 s.1 s.2) m (q0,0)) λ⟨r0,r1⟩=>some (.go (r0,IntKind.wrap .i64 (q1+1)))) else some (.brk (q0,q1))
def XX (m:Nat) (p0:bG):Option ((List bO)):=
 after (aU (λs=>vH m p0 s.1 s.2) m ([],0)) λ⟨r0,r1⟩=>some r0
theorem W49 {u:Nat} {p0:bG} {o:(List bO)} (h:aE) (m:XX u p0=some o):
 aL Tryz.prog 49 [.agg (bK p0)] h (λr h'=>r= .sl none 32 (List.map bL o)∧h'=h):=by
 refine f8 40 [.tmp 2] Tryz.func49 rfl rfl rfl rfl ?_
 unfold XX at m
 refine v (gY rfl rfl λk2 K3=>v (v (jY m (σ:=(List bO)×Int) (λs=> [(some k2,.obj 58 (bK p0))]) (λs=>.c 1 (.ptr k2 0) (.c 3 (.sl none 32 (List.map bL s.1)) (.c 4 (nZ s.2) .nil))) (lx (.cons (bF.refl _ _) (.cons (aX _) (.cons (bF.refl _ _) .nil)))) ?_ ?_)))
 rintro _ ⟨q0,q1⟩ x m
 replace m:vH u p0 q0 q1=some x:=m
 unfold vH at m
 refine v (vl 0 _ nF rfl rfl rfl (dE uX rfl (v ?_)))
 apply vi m <;> intro c0 m
 refine v (v (v (jY m (σ:=(List bO)×Int) (λs=> [(some k2,.obj 58 (bK p0))]) (λs=>.c 1 (.ptr k2 0) (.c 3 (.sl none 32 (List.map bL s.1)) (.c 4 (nZ q1) (.c 5 (nZ s.2) .nil)))) (lx (.k4 .nil)) ?_ ?_)))
 rintro _ ⟨q2,q3⟩ x m
 replace m:vG u p0 q1 q2 q3=some x:=m
 unfold vG at m
 refine v (vl 0 _ nF rfl rfl rfl (vx m rJ rfl rfl λ_ _ m=>dE rK rfl (v ?_)))
 apply vi m <;> intro c1 m
 exact v (v (v (vl 0 _ nF rfl rfl rfl (vx m rJ rfl rfl λ_ _ m=>vx m yE rfl rfl λx0 _ m=>va (.agg (bL x0)) fW rfl rfl (vk XW RW m rfl rfl λ_ m=>v (iE m))))))
 exact v (wW m)
 rintro _ ⟨r0,r1⟩ m
 exact v (gU m)
 exact v (EE m)
 rintro _ ⟨r2,r3⟩ m
 refine v (v ?_)
 obtain rfl:=eT m
 exact eD rfl
theorem aDS:aO Tryz.prog 49=true:=by kernel_rfl
def oU (m:Nat) (p0:aA) (p1:bO) (q0:Int):Option (Lp (Int) (Int)):=
 if (decide (q0 < (p0.Chunks.length:Int)))=true then ((ix p0.Chunks q0).bind λx0=>if (decide (x0.Id=p1))=true then (some (.ret q0)) else some (.go (IntKind.wrap .i64 (q0+1)))) else some (.brk q0)
def KL (m:Nat) (p0:aA) (p1:bO):Option (Int):=
 after (aU (λs=>oU m p0 p1 s) m 0) λr0=>some (-1)
theorem W88 {u:Nat} {p0:aA} {p1:bO} {o:Int} (h:aE) (m:KL u p0 p1=some o):
 aL Tryz.prog 88 [.agg (aF p0),.agg (bL p1)] h (λr h'=>r=nZ o∧h'=h):=by
 refine f8 22 [.tmp 4] Tryz.func88 rfl rfl rfl rfl ?_
 unfold KL at m
 refine v (gY rfl rfl λk2 K3=>gY rfl rfl λk5 K6=>v (jY m (σ:=Int) (λs=> [(some k5,.obj 36 (bL p1)),(some k2,.obj 30 (aF p0))]) (λs=>.c 2 (.ptr k2 0) (.c 3 (.ptr k5 0) (.c 5 (nZ s) .nil))) (lx (.k3 .nil)) ?_ ?_))
 rintro _ q0 x m
 replace m:oU u p0 p1 q0=some x:=m
 unfold oU at m
 refine v (vl 1 _ eJ rfl rfl rfl (dE iG rfl (v ?_)))
 apply vi m <;> intro c0 m
 refine v (v (v (vq (by kernel_rfl) (vl 1 _ eJ rfl rfl rfl (vx m fH rfl rfl λx0 _ m=>va (.agg (bL x0.Id)) fW rfl rfl (vl 0 (.agg (bL p1)) fW rfl rfl rfl (bU (vX EI RK u5 EH rfl rfl) (v ?_))))))))
 apply vi m <;> intro c1 m
 refine v (v (gM m λm=> ?_))
 obtain rfl:=eT m
 exact eD rfl
 exact v (v (gU m))
 exact v (EE m)
 rintro _ r0 m
 refine v (v ?_)
 cases m
 exact eD rfl
theorem P4:aO Tryz.prog 88=true:=by kernel_rfl
def oW (m:Nat) (p0:aA) (p1:ByteArray) (q0:Int):Option (Lp (Int) (Int)):=
 if (decide (q0 < (p0.Snaps.length:Int)))=true then ((ix p0.Snaps q0).bind λx0=>if (x0.Man.Name.toList==p1.toList)=true then (some (.ret q0)) else some (.go (IntKind.wrap .i64 (q0+1)))) else some (.brk q0)
def yM (m:Nat) (p0:aA) (p1:ByteArray):Option (Int):=
 after (aU (λs=>oW m p0 p1 s) m 0) λr0=>some (-1)
theorem TX {u:Nat} {p0:aA} {p1:ByteArray} {o:Int} (h:aE) (m:yM u p0 p1=some o):
 aL Tryz.prog 149 [.agg (aF p0),.sc (.string p1)] h (λr h'=>r=nZ o∧h'=h):=by
 refine f8 23 [.tmp 4] Tryz.func149 rfl rfl rfl rfl ?_
 unfold yM at m
 refine v (gY rfl rfl λk2 K3=>v (jY m (σ:=Int) (λs=> [(some k2,.obj 30 (aF p0))]) (λs=>.c 1 (.sc (.string p1)) (.c 2 (.ptr k2 0) (.c 5 (nZ s) .nil))) (lx (.k3 .nil)) ?_ ?_))
 rintro _ q0 x m
 replace m:oW u p0 p1 q0=some x:=m
 unfold oW at m
 refine v (vl 0 _ fM rfl rfl rfl (dE jZ rfl (v ?_)))
 apply vi m <;> intro c0 m
 refine v (v (v (vl 0 _ fM rfl rfl rfl (vx m iU rfl rfl λ_ _ m=>bU (BT rfl rfl rfl trivial) (v ?_)))))
 apply vi m <;> intro c1 m
 refine v (v (gM m λm=> ?_))
 obtain rfl:=eT m
 exact eD rfl
 exact v (v (gU m))
 exact v (EE m)
 rintro _ r0 m
 refine v (v ?_)
 cases m
 exact eD rfl
theorem MI:aO Tryz.prog 149=true:=by kernel_rfl
def rM (m:Nat) (p0:aA) (q0:Int):Option (Lp (Int) (Bool)):=
 if (decide (q0 < (p0.Vols.length:Int)))=true then ((ix p0.Vols q0).bind λx0=>after ((IC m x0.Pool 0 1).bind λy0=>if (!y0)=true then (some (.brk true)) else (IC m x0.Epoch 0 1048576).bind λy1=>some (.brk (!y1)):Option (Lp (Bool) (Lp (Int) (Bool)))) λj0=>if j0=true then (some (.ret false)) else after (if (x0.State==1)=true then (some (.brk (x0.State==1))) else some (.brk (x0.State==3)):Option (Lp (Bool) (Lp (Int) (Bool)))) λj1=>after (if j1=true then (if (x0.Files !=0)=true then (some (.ret (.ret false))) else some (.brk ())) else if (x0.State==2)=true then ((IC m x0.Files 1 65535).bind λy2=>if (!y2)=true then (some (.ret (.ret false))) else some (.brk ())) else some (.ret (.ret false)):Option (Lp (Unit) (Lp (Int) (Bool)))) λ_=>some (.go (IntKind.wrap .i64 (q0+1)))) else some (.brk q0)
def rN (m:Nat) (p0:aA) (q0:Int):Option (Lp (Int) (Bool)):=
 if (decide (q0 < (p0.Chunks.length:Int)))=true then ((ix p0.Chunks q0).bind λx0=>after (if (decide (0 < q0))=true then ((ix p0.Chunks (IntKind.wrap .i64 (q0 - 1))).bind λx1=>(MG m x1.Id x0.Id).bind λy0=>if (!y0)=true then (some (.brk true)) else (AC m p0 x0.Locs).bind λy1=>if (!y1)=true then (some (.brk true)) else if x0.Staged=true then ((IC m (x0.Data.length:Int) 1 64).bind λy2=>if (!y2)=true then (some (.brk true)) else if (!x0.Staged)=true then (if (decide (0 < (x0.Data.length:Int)))=true then (some (.brk true)) else some (.brk ((x0.Locs.length:Int)==0))) else some (.brk false)) else if (!x0.Staged)=true then (if (decide (0 < (x0.Data.length:Int)))=true then (some (.brk true)) else some (.brk ((x0.Locs.length:Int)==0))) else some (.brk false)) else (AC m p0 x0.Locs).bind λy3=>if (!y3)=true then (some (.brk true)) else if x0.Staged=true then ((IC m (x0.Data.length:Int) 1 64).bind λy4=>if (!y4)=true then (some (.brk true)) else if (!x0.Staged)=true then (if (decide (0 < (x0.Data.length:Int)))=true then (some (.brk true)) else some (.brk ((x0.Locs.length:Int)==0))) else some (.brk false)) else if (!x0.Staged)=true then (if (decide (0 < (x0.Data.length:Int)))=true then (some (.brk true)) else some (.brk ((x0.Locs.length:Int)==0))) else some (.brk false):Option (Lp (Bool) (Lp (Int) (Bool)))) λj0=>if j0=true then (some (.ret false)) else some (.go (IntKind.wrap .i64 (q0+1)))) else some (.brk q0)
def vI (m:Nat) (p0:aA) (y0:(List bO)) (q0:Int):Option (Lp (Int) (Lp (Int) (Bool))):=
 if (decide (q0 < (y0.length:Int)))=true then ((ix y0 q0).bind λx0=>(KL m p0 x0).bind λy1=>if (decide (y1 < 0))=true then (some (.ret (.ret false))) else some (.go (IntKind.wrap .i64 (q0+1)))) else some (.brk q0)
def vJ (m:Nat) (p0:aA) (x0:aH) (q0:Int):Option (Lp (Int) (Lp (Int) (Bool))):=
 if (decide (q0 < (p0.Exps.length:Int)))=true then ((ix p0.Exps q0).bind λx1=>if (x1.Of==x0.Seq)=true then (some (.ret (.ret false))) else some (.go (IntKind.wrap .i64 (q0+1)))) else some (.brk q0)
def rO (m:Nat) (p0:aA) (q0:Int):Option (Lp (Int) (Bool)):=
 if (decide (q0 < (p0.Snaps.length:Int)))=true then ((ix p0.Snaps q0).bind λx0=>after (if (decide (x0.Seq < 0))=true then (some (.brk true)) else if (decide (p0.Seq≤x0.Seq))=true then (some (.brk true)) else if (decide (0 < q0))=true then ((ix p0.Snaps (IntKind.wrap .i64 (q0 - 1))).bind λx1=>if (decide (x0.Seq≤x1.Seq))=true then (some (.brk true)) else (V5 m x0.Man).bind λy0=>if (!y0)=true then (some (.brk true)) else (AC m p0 x0.Locs).bind λy1=>if (!y1)=true then (some (.brk true)) else (yM m p0 x0.Man.Name).bind λy2=>some (.brk (y2 !=q0))) else (V5 m x0.Man).bind λy3=>if (!y3)=true then (some (.brk true)) else (AC m p0 x0.Locs).bind λy4=>if (!y4)=true then (some (.brk true)) else (yM m p0 x0.Man.Name).bind λy5=>some (.brk (y5 !=q0)):Option (Lp (Bool) (Lp (Int) (Bool)))) λj0=>if j0=true then (some (.ret false)) else (XX m x0.Man).bind λy6=>after (aU (λs=>vI m p0 y6 s) m 0) λr0=>after (aU (λs=>vJ m p0 x0 s) m 0) λr1=>some (.go (IntKind.wrap .i64 (q0+1)))) else some (.brk q0)
def oX (m:Nat) (p0:aA) (q0:Int):Option (Lp (Int) (Bool)):=
 if (decide (q0 < (p0.Exps.length:Int)))=true then ((ix p0.Exps q0).bind λx0=>after (if (decide (x0.Seq < 0))=true then (some (.brk true)) else if (decide (p0.Seq≤x0.Seq))=true then (some (.brk true)) else if (decide (0 < q0))=true then ((ix p0.Exps (IntKind.wrap .i64 (q0 - 1))).bind λx1=>if (decide (x0.Seq≤x1.Seq))=true then (some (.brk true)) else if (decide (x0.Of < 0))=true then (some (.brk true)) else if (decide (x0.Seq≤x0.Of))=true then (some (.brk true)) else (AC m p0 x0.Locs).bind λy0=>if (!y0)=true then (some (.brk true)) else some (.brk ((x0.Locs.length:Int)==0))) else if (decide (x0.Of < 0))=true then (some (.brk true)) else if (decide (x0.Seq≤x0.Of))=true then (some (.brk true)) else (AC m p0 x0.Locs).bind λy1=>if (!y1)=true then (some (.brk true)) else some (.brk ((x0.Locs.length:Int)==0)):Option (Lp (Bool) (Lp (Int) (Bool)))) λj0=>if j0=true then (some (.ret false)) else some (.go (IntKind.wrap .i64 (q0+1)))) else some (.brk q0)
def TY (m:Nat) (p0:aA):Option (Bool):=
 after ((IC m p0.Seq 0 1073741824).bind λy0=>if (!y0)=true then (some (.brk true)) else if (decide (8 < (p0.Snaps.length:Int)))=true then (some (.brk true)) else if (decide (200 < (p0.Chunks.length:Int)))=true then (some (.brk true)) else if (decide (200 < (p0.Exps.length:Int)))=true then (some (.brk true)) else (IC m (p0.Vols.length:Int) 1 8).bind λy1=>some (.brk (!y1)):Option (Lp (Bool) (Bool))) λj0=>if j0=true then (some false) else after (aU (λs=>rM m p0 s) m 0) λr0=>after (aU (λs=>rN m p0 s) m 0) λr1=>after (aU (λs=>rO m p0 s) m 0) λr2=>after (aU (λs=>oX m p0 s) m 0) λr3=>some true
theorem W89 {w:Nat} {p0:aA} {o:Bool} (h:aE) (m:TY w p0=some o):
 aL Tryz.prog 89 [.agg (aF p0)] h (λr h'=>r= .sc (.bool o)∧h'=h):=by
 refine f8 296 [.tmp 2] Tryz.func89 rfl rfl rfl rfl ?_
 unfold TY at m
 refine v (gY rfl rfl λk2 K3=>vs (vs (fN m (σ:=Bool) (λs=> [(some k2,.obj 30 (aF p0))]) (λs=>.c 1 (.ptr k2 0) (.c 42 (.sc (.bool s)) .nil)) (λx m=> ?_) ?_)))
 refine v (vl 0 _ cF rfl rfl rfl (vk OP AB m rfl rfl λ_ m=> ?_))
 apply vi m <;> intro b0 m
 rw[b0]
 exact rH m
 rw[b0]
 refine vl 0 _ fM rfl rfl rfl (dE jZ rfl ?_)
 apply vi m <;> intro b1 m
 rw[b1]
 exact rH m
 rw[b1]
 refine vl 0 _ eJ rfl rfl rfl (dE iG rfl ?_)
 apply vi m <;> intro b2 m
 rw[b2]
 exact rH m
 rw[b2]
 refine vl 0 _ jG rfl rfl rfl (dE pW rfl ?_)
 apply vi m <;> intro b3 m
 rw[b3]
 exact rH m
 rw[b3]
 exact vl 0 _ gH rfl rfl rfl (dE sK rfl (vk OP AB m rfl rfl λ_ m=>rH m))
 rintro _ j0 m
 refine v ?_
 apply vi m <;> intro c0 m
 refine v (v ?_)
 obtain rfl:=eT m
 exact eD rfl
 refine v (v (jY m (σ:=Int) (λs=> [(some k2,.obj 30 (aF p0))]) (λs=>.c 1 (.ptr k2 0) (.c 3 (nZ s) .nil)) (lx (.k2 .nil)) ?_ ?_))
 rintro _ q0 x m
 replace m:rM w p0 q0=some x:=m
 unfold rM at m
 refine v (vl 0 _ gH rfl rfl rfl (dE sK rfl (v ?_)))
 apply vi m <;> intro c1 m
 refine v (v (v (vl 0 _ gH rfl rfl rfl (vx m jN rfl rfl λx0 _ m=>va (.agg (dC x0)) W3 rfl rfl (ve λu=>bJ (OQ) u PW rfl rfl λk156 K0=>qk K0 rfl (ve λu=>aK 0 (dC x0) u rfl rfl rfl rfl W4 rfl rfl λK1=>qk K1 rfl (vs (vs (fN m (σ:=Bool) (λs=> [(some k156,.obj 49 (dC x0)),(some k2,.obj 30 (aF p0))]) (λs=>.c 1 (.ptr k2 0) (.c 3 (nZ q0) (.c 4 (.ptr k156 0) (.c 64 (.sc (.bool s)) .nil)))) (λx m=> ?_) ?_)))))))))
 refine v (vl 0 _ cF rfl rfl rfl (vk OP AB m rfl rfl λ_ m=> ?_))
 apply vi m <;> intro b4 m
 rw[b4]
 exact iE m
 rw[b4]
 exact vl 0 _ cF rfl rfl rfl (vk OP AB m rfl rfl λ_ m=>iE m)
 rintro _ j1 m
 refine v ?_
 apply vi m <;> intro c2 m
 refine v (v (gM m λm=> ?_))
 obtain rfl:=eT m
 exact eD rfl
 refine v (v (vl 0 _ cF rfl rfl rfl (v (v (fN m (σ:=Bool) (λs=> [(some k156,.obj 49 (dC x0)),(some k2,.obj 30 (aF p0))]) (λs=>.c 1 (.ptr k2 0) (.c 3 (nZ q0) (.c 4 (.ptr k156 0) (.c 66 (nZ x0.State) (.c 67 (.sc (.bool s)) .nil))))) (λx m=> ?_) ?_)))))
 refine v ?_
 apply vi m <;> intro c3 m
 exact v (lX m)
 exact v (lX m)
 rintro _ j2 m
 refine fN m (σ:=Unit) (λs=> [(some k156,.obj 49 (dC x0)),(some k2,.obj 30 (aF p0))]) (λs=>.c 1 (.ptr k2 0) (.c 3 (nZ q0) .nil)) (λx m=> ?_) ?_
 refine v ?_
 apply vi m <;> intro c4 m
 refine v (vl 0 _ cF rfl rfl rfl (v ?_))
 apply vi m <;> intro c5 m
 refine v (v (gM m λm=>gM m λm=> ?_))
 obtain rfl:=eT m
 exact eD rfl
 exact v (rH m)
 refine v (v ?_)
 apply vi m <;> intro c6 m
 refine v (vl 0 _ cF rfl rfl rfl (vk OP AB m rfl rfl λ_ m=>v ?_))
 apply vi m <;> intro c7 m
 refine v (v (gM m λm=>gM m λm=> ?_))
 obtain rfl:=eT m
 exact eD rfl
 exact v (rH m)
 refine v (v (gM m λm=>gM m λm=> ?_))
 obtain rfl:=eT m
 exact eD rfl
 rintro _ _ m
 exact v (yB m (lW [1] rfl rfl (.k2 .nil)))
 exact v (OO m)
 rintro _ r0 m
 refine v (jY m (σ:=Int) (λs=> [(some k2,.obj 30 (aF p0))]) (λs=>.c 1 (.ptr k2 0) (.c 5 (nZ s) .nil)) (lx (.k2 .nil)) ?_ ?_)
 rintro _ q1 x m
 replace m:rN w p0 q1=some x:=m
 unfold rN at m
 refine v (vl 0 _ eJ rfl rfl rfl (dE iG rfl (v ?_)))
 apply vi m <;> intro c8 m
 refine v (v (v (vl 0 _ eJ rfl rfl rfl (vx m fH rfl rfl λx1 _ m=>va (.agg (aI x1)) kQ rfl rfl (ve λu=>bJ (bL jW++(FN:List AV)) u l6 rfl rfl λk364 K2=>qk K2 rfl (ve λu=>aK 0 (aI x1) u rfl rfl rfl rfl rI rfl rfl λK4=>qk K4 rfl (vs (fN m (σ:=Bool) (λs=> [(some k364,.obj 44 (aI x1)),(some k2,.obj 30 (aF p0))]) (λs=>.c 1 (.ptr k2 0) (.c 5 (nZ q1) (.c 140 (.sc (.bool s)) .nil))) (λx m=> ?_) ?_))))))))
 refine v (vq (by kernel_rfl) ?_)
 apply vi m <;> intro b5 m
 rw[b5]
 refine vl 1 _ eJ rfl rfl rfl (vx m fH rfl rfl λx2 _ m=>va (.agg (bL x2.Id)) fW rfl rfl (vl 0 (.agg (bL x1.Id)) fW rfl rfl rfl (vk XT RU m rfl rfl λ_ m=> ?_)))
 apply vi m <;> intro b6 m
 rw[b6]
 exact gU m
 rw[b6]
 refine vl 1 (.agg (aF p0)) fC rfl rfl rfl (vl 0 _ eL rfl rfl rfl (vk JZ A9 m rfl rfl λ_ m=> ?_))
 apply vi m <;> intro b7 m
 rw[b7]
 exact gU m
 rw[b7]
 refine vl 0 _ yC rfl rfl rfl ?_
 apply vi m <;> intro b8 m
 rw[b8]
 refine vl 0 _ kA rfl rfl rfl (dE kK rfl (vk OP AB m rfl rfl λ_ m=> ?_))
 apply vi m <;> intro b9 m
 rw[b9]
 exact gU m
 rw[b9]
 refine vl 0 _ yC rfl rfl rfl ?_
 apply vi m <;> intro b10 m
 rw[b10]
 refine vl 0 _ kA rfl rfl rfl (dE kK rfl ?_)
 apply vi m <;> intro b11 m
 rw[b11]
 exact gU m
 rw[b11]
 exact vl 0 _ eL rfl rfl rfl (dE gO rfl (gU m))
 rw[b10]
 exact gU m
 rw[b8]
 refine vl 0 _ yC rfl rfl rfl ?_
 apply vi m <;> intro b12 m
 rw[b12]
 refine vl 0 _ kA rfl rfl rfl (dE kK rfl ?_)
 apply vi m <;> intro b13 m
 rw[b13]
 exact gU m
 rw[b13]
 exact vl 0 _ eL rfl rfl rfl (dE gO rfl (gU m))
 rw[b12]
 exact gU m
 rw[b5]
 refine vl 1 (.agg (aF p0)) fC rfl rfl rfl (vl 0 _ eL rfl rfl rfl (vk JZ A9 m rfl rfl λ_ m=> ?_))
 apply vi m <;> intro b14 m
 rw[b14]
 exact gU m
 rw[b14]
 refine vl 0 _ yC rfl rfl rfl ?_
 apply vi m <;> intro b15 m
 rw[b15]
 refine vl 0 _ kA rfl rfl rfl (dE kK rfl (vk OP AB m rfl rfl λ_ m=> ?_))
 apply vi m <;> intro b16 m
 rw[b16]
 exact gU m
 rw[b16]
 refine vl 0 _ yC rfl rfl rfl ?_
 apply vi m <;> intro b17 m
 rw[b17]
 refine vl 0 _ kA rfl rfl rfl (dE kK rfl ?_)
 apply vi m <;> intro b22 m
 rw[b22]
 exact gU m
 rw[b22]
 exact vl 0 _ eL rfl rfl rfl (dE gO rfl (gU m))
 rw[b17]
 exact gU m
 rw[b15]
 refine vl 0 _ yC rfl rfl rfl ?_
 apply vi m <;> intro b23 m
 rw[b23]
 refine vl 0 _ kA rfl rfl rfl (dE kK rfl ?_)
 apply vi m <;> intro b24 m
 rw[b24]
 exact gU m
 rw[b24]
 exact vl 0 _ eL rfl rfl rfl (dE gO rfl (gU m))
 rw[b23]
 exact gU m
 rintro _ j3 m
 refine v ?_
 apply vi m <;> intro c9 m
 refine v (v (gM m λm=> ?_))
 obtain rfl:=eT m
 exact eD rfl
 exact v (v (yB m (lW [1] rfl rfl (.k2 .nil))))
 exact v (OO m)
 rintro _ r1 m
 refine v (jY m (σ:=Int) (λs=> [(some k2,.obj 30 (aF p0))]) (λs=>.c 1 (.ptr k2 0) (.c 7 (nZ s) .nil)) (lx (.k2 .nil)) ?_ ?_)
 rintro _ q2 x m
 replace m:rO w p0 q2=some x:=m
 unfold rO at m
 refine v (vl 0 _ fM rfl rfl rfl (dE jZ rfl (v ?_)))
 apply vi m <;> intro c10 m
 refine v (v (v (vl 0 _ fM rfl rfl rfl (vx m iU rfl rfl λx3 _ m=>va (.agg (bS x3)) uY rfl rfl (ve λu=>bJ (WB) u u0 rfl rfl λk707 K5=>qk K5 rfl (ve λu=>aK 0 (bS x3) u rfl rfl rfl rfl JT rfl rfl λK6=>qk K6 rfl (vs (vs (fN m (σ:=Bool) (λs=> [(some k707,.obj 60 (bS x3)),(some k2,.obj 30 (aF p0))]) (λs=>.c 1 (.ptr k2 0) (.c 7 (nZ q2) (.c 8 (.ptr k707 0) (.c 200 (.sc (.bool s)) .nil)))) (λx m=> ?_) ?_)))))))))
 refine v (vq (by kernel_rfl) (vl 0 _ cF rfl rfl rfl ?_))
 apply vi m <;> intro b25 m
 rw[b25]
 exact iE m
 rw[b25]
 refine vl 0 _ cF rfl rfl rfl (vl 1 _ cF rfl rfl rfl ?_)
 apply vi m <;> intro b26 m
 rw[b26]
 exact iE m
 rw[b26]
 apply vi m <;> intro b27 m
 rw[b27]
 refine vl 0 _ cF rfl rfl rfl (vl 1 _ fM rfl rfl rfl (vx m iU rfl rfl λ_ _ m=> ?_))
 apply vi m <;> intro b28 m
 rw[b28]
 exact iE m
 rw[b28]
 refine vl 0 (.agg (bK x3.Man)) nU rfl rfl rfl (vk W98 XU m rfl rfl λ_ m=> ?_)
 apply vi m <;> intro b29 m
 rw[b29]
 exact iE m
 rw[b29]
 refine vl 1 (.agg (aF p0)) fC rfl rfl rfl (vl 0 _ eL rfl rfl rfl (vk JZ A9 m rfl rfl λ_ m=> ?_))
 apply vi m <;> intro b30 m
 rw[b30]
 exact iE m
 rw[b30]
 exact vl 1 (.agg (aF p0)) fC rfl rfl rfl (vl 0 _ zU rfl rfl rfl (vk TX MI m rfl rfl λ_ m=>iE m))
 rw[b27]
 refine vl 0 (.agg (bK x3.Man)) nU rfl rfl rfl (vk W98 XU m rfl rfl λ_ m=> ?_)
 apply vi m <;> intro b31 m
 rw[b31]
 exact iE m
 rw[b31]
 refine vl 1 (.agg (aF p0)) fC rfl rfl rfl (vl 0 _ eL rfl rfl rfl (vk JZ A9 m rfl rfl λ_ m=> ?_))
 apply vi m <;> intro b32 m
 rw[b32]
 exact iE m
 rw[b32]
 exact vl 1 (.agg (aF p0)) fC rfl rfl rfl (vl 0 _ zU rfl rfl rfl (vk TX MI m rfl rfl λ_ m=>iE m))
 rintro _ j4 m
 refine v ?_
 apply vi m <;> intro c11 m
 refine v (v (gM m λm=> ?_))
 obtain rfl:=eT m
 exact eD rfl
 refine v (v (vl 0 (.agg (bK x3.Man)) nU rfl rfl rfl (vk W49 aDS m rfl rfl λy0 m=>v (jY m (σ:=Int) (λs=> [(some k707,.obj 60 (bS x3)),(some k2,.obj 30 (aF p0))]) (λs=>.c 1 (.ptr k2 0) (.c 7 (nZ q2) (.c 8 (.ptr k707 0) (.c 9 (.sl none 32 (List.map bL y0)) (.c 10 (nZ s) .nil))))) (lx (.k5 .nil)) ?_ ?_))))
 rintro _ q3 x m
 replace m:vI w p0 y0 q3=some x:=m
 unfold vI at m
 refine v (dE rK rfl (v ?_))
 apply vi m <;> intro c12 m
 refine v (v (v (vq (by kernel_rfl) (vl 1 (.agg (aF p0)) fC rfl rfl rfl (vx m yE rfl rfl λx4 _ m=>va (.agg (bL x4)) fW rfl rfl (vk W88 P4 m rfl rfl λ_ m=>v ?_))))))
 apply vi m <;> intro c13 m
 refine v (v (gM m λm=>gM m λm=> ?_))
 obtain rfl:=eT m
 exact eD rfl
 exact v (v (lX m))
 exact v (V2 m)
 rintro _ r2 m
 refine v (jY m (σ:=Int) (λs=> [(some k707,.obj 60 (bS x3)),(some k2,.obj 30 (aF p0))]) (λs=>.c 1 (.ptr k2 0) (.c 7 (nZ q2) (.c 8 (.ptr k707 0) (.c 11 (nZ s) .nil)))) (lx (.k4 .nil)) ?_ ?_)
 rintro _ q4 x m
 replace m:vJ w p0 x3 q4=some x:=m
 unfold vJ at m
 refine v (vl 1 _ jG rfl rfl rfl (dE pW rfl (v ?_)))
 apply vi m <;> intro c14 m
 refine v (v (v (vq (by kernel_rfl) (vl 1 _ jG rfl rfl rfl (vx m iM rfl rfl λ_ _ m=>vl 0 _ cF rfl rfl rfl (v ?_))))))
 apply vi m <;> intro c15 m
 refine v (v (gM m λm=>gM m λm=> ?_))
 obtain rfl:=eT m
 exact eD rfl
 exact v (v (iE m))
 exact v (wW m)
 rintro _ r3 m
 exact v (yB m (lW [1] rfl rfl (.k2 .nil)))
 exact v (OO m)
 rintro _ r4 m
 refine v (jY m (σ:=Int) (λs=> [(some k2,.obj 30 (aF p0))]) (λs=>.c 1 (.ptr k2 0) (.c 12 (nZ s) .nil)) (lx (.k2 .nil)) ?_ ?_)
 rintro _ q5 x m
 replace m:oX w p0 q5=some x:=m
 unfold oX at m
 refine v (vl 0 _ jG rfl rfl rfl (dE pW rfl (v ?_)))
 apply vi m <;> intro c16 m
 refine v (v (v (vl 0 _ jG rfl rfl rfl (vx m iM rfl rfl λx5 _ m=>va (.agg (cP x5)) u7 rfl rfl (ve λu=>bJ ([nZ 0,nZ 0,sZ]) u rL rfl rfl λk941 K7=>qk K7 rfl (ve λu=>aK 0 (cP x5) u rfl rfl rfl rfl GQ rfl rfl λK8=>qk K8 rfl (vs (fN m (σ:=Bool) (λs=> [(some k941,.obj 99 (cP x5)),(some k2,.obj 30 (aF p0))]) (λs=>.c 1 (.ptr k2 0) (.c 12 (nZ q5) (.c 295 (.sc (.bool s)) .nil))) (λx m=> ?_) ?_))))))))
 refine v (vq (by kernel_rfl) (vl 0 _ cF rfl rfl rfl ?_))
 apply vi m <;> intro b33 m
 rw[b33]
 exact gU m
 rw[b33]
 refine vl 0 _ cF rfl rfl rfl (vl 1 _ cF rfl rfl rfl ?_)
 apply vi m <;> intro b34 m
 rw[b34]
 exact gU m
 rw[b34]
 apply vi m <;> intro b35 m
 rw[b35]
 refine vl 0 _ cF rfl rfl rfl (vl 1 _ jG rfl rfl rfl (vx m iM rfl rfl λ_ _ m=> ?_))
 apply vi m <;> intro b36 m
 rw[b36]
 exact gU m
 rw[b36]
 refine vl 0 _ cF rfl rfl rfl ?_
 apply vi m <;> intro b37 m
 rw[b37]
 exact gU m
 rw[b37]
 refine vl 0 _ cF rfl rfl rfl (vl 0 _ cF rfl rfl rfl ?_)
 apply vi m <;> intro b38 m
 rw[b38]
 exact gU m
 rw[b38]
 refine vl 1 (.agg (aF p0)) fC rfl rfl rfl (vl 0 _ eL rfl rfl rfl (vk JZ A9 m rfl rfl λ_ m=> ?_))
 apply vi m <;> intro b39 m
 rw[b39]
 exact gU m
 rw[b39]
 exact vl 0 _ eL rfl rfl rfl (dE gO rfl (gU m))
 rw[b35]
 refine vl 0 _ cF rfl rfl rfl ?_
 apply vi m <;> intro b40 m
 rw[b40]
 exact gU m
 rw[b40]
 refine vl 0 _ cF rfl rfl rfl (vl 0 _ cF rfl rfl rfl ?_)
 apply vi m <;> intro b41 m
 rw[b41]
 exact gU m
 rw[b41]
 refine vl 1 (.agg (aF p0)) fC rfl rfl rfl (vl 0 _ eL rfl rfl rfl (vk JZ A9 m rfl rfl λ_ m=> ?_))
 apply vi m <;> intro b42 m
 rw[b42]
 exact gU m
 rw[b42]
 exact vl 0 _ eL rfl rfl rfl (dE gO rfl (gU m))
 rintro _ j5 m
 refine v ?_
 apply vi m <;> intro c17 m
 refine v (v (gM m λm=> ?_))
 obtain rfl:=eT m
 exact eD rfl
 exact v (v (yB m (lW [1] rfl rfl (.k2 .nil))))
 exact v (OO m)
 rintro _ r5 m
 refine v (v ?_)
 obtain rfl:=eT m
 exact eD rfl
theorem XY:aO Tryz.prog 89=true:=by kernel_rfl
open Go.Vm
def sW (m:Nat) (p0:List dJ) (p1:dJ→Option Bool) (q0:Int):Option (Lp (Int) (Int)):=
 if (decide (q0 < (p0.length:Int)))=true then ((ix p0 q0).bind λx0=>(p1 x0).bind λy0=>if y0=true then (some (.ret q0)) else some (.go (IntKind.wrap .i64 (q0+1)))) else some (.brk q0)
def P5 (m:Nat) (p0:List dJ) (p1:dJ→Option Bool):Option (Int):=
 after (aU (λs=>sW m p0 p1 s) m 0) λr0=>some (-1)
theorem aDT {w:Nat} {p0:List dJ} {p1:dJ→Option Bool} {o:Int} (h:aE) {p1F:Nat} {p1C:List AV} (p1B:aO Tryz.prog p1F=true) (p1H:∀x0 o h0,iD h h0→p1 x0=some o→aL Tryz.prog p1F ([.agg (bX x0)]++p1C) h0 (λr h'=>r= .sc (.bool o)∧h'=h0)) (m:P5 w p0 p1=some o):
 aL Tryz.prog 109 [.sl none 3 (List.map bX p0),.fn (.func p1F) p1C] h (λr h'=>r=nZ o∧h'=h):=by
 refine f8 19 [.tmp 4] Tryz.func109 rfl rfl rfl rfl ?_
 unfold P5 at m
 refine v (v (dE uX rfl (jY m (σ:=Int) (λs=> []) (λs=>.c 0 (.sl none 3 (List.map bX p0)) (.c 1 (.fn (.func p1F) p1C) (.c 7 (nZ (p0.length:Int)) (.c 8 (nZ s) .nil)))) (lx (.k4 .nil)) ?_ ?_)))
 rintro _ q0 x m
 replace m:sW w p0 p1 q0=some x:=m
 unfold sW at m
 refine v (v ?_)
 apply vi m <;> intro c0 m
 refine v (v (v (v (vx m rJ rfl rfl λx1 _ m=>va (.agg (bX x1)) CN rfl rfl ?_))))
 obtain⟨_,Y0,m⟩:=aC m
 refine vn (λu=>bY (p1H _ _ _ (aT (List.nil_sublist _) u).1 Y0) rfl p1B rfl) (v ?_)
 apply vi m <;> intro c1 m
 refine v (v (gM m λm=> ?_))
 obtain rfl:=eT m
 exact eD rfl
 exact v (v (iE m))
 exact v (wW m)
 rintro _ r0 m
 refine v (v ?_)
 cases m
 exact eD rfl
theorem XZ:aO Tryz.prog 109=true:=by kernel_rfl
def YA (m:Nat) (p0:List dJ) (p1:dJ→Option Bool):Option (Bool):=
 (P5 m p0 p1).bind λy3=>some (decide (0≤y3))
theorem W60 {w:Nat} {p0:List dJ} {p1:dJ→Option Bool} {o:Bool} (h:aE) {p1F:Nat} {p1C:List AV} (p1B:aO Tryz.prog p1F=true) (p1H:∀x0 o h0,iD h h0→p1 x0=some o→aL Tryz.prog p1F ([.agg (bX x0)]++p1C) h0 (λr h'=>r= .sc (.bool o)∧h'=h0)) (m:YA w p0 p1=some o):
 aL Tryz.prog 60 [.sl none 3 (List.map bX p0),.fn (.func p1F) p1C] h (λr h'=>r= .sc (.bool o)∧h'=h):=by
 refine f8 9 [.tmp 4] Tryz.func60 rfl rfl rfl rfl ?_
 unfold YA at m
 refine v (v ?_)
 obtain⟨_,Y4,m⟩:=aC m
 refine vn (λu=>bY (aDT _ p1B (λx0 o h0 hs ho=>p1H x0 o h0 ((aT (List.nil_sublist _) u).1.trans hs) ho) Y4) rfl XZ rfl) (v ?_)
 cases m
 exact eD rfl
theorem aDU:aO Tryz.prog 60=true:=by kernel_rfl
def sX (m:Nat) (p0:List bO) (p1:bO) (q0:Int):Option (Lp (Int) (Int)):=
 if (decide (q0 < (p0.length:Int)))=true then ((ix p0 q0).bind λx0=>if (decide (p1=x0))=true then (some (.ret q0)) else some (.go (IntKind.wrap .i64 (q0+1)))) else some (.brk q0)
def P6 (m:Nat) (p0:List bO) (p1:bO):Option (Int):=
 after (aU (λs=>sX m p0 p1 s) m 0) λr0=>some (-1)
theorem aDV {u:Nat} {p0:List bO} {p1:bO} {o:Int} (h:aE) (m:P6 u p0 p1=some o):
 aL Tryz.prog 110 [.sl none 32 (List.map bL p0),.agg (bL p1)] h (λr h'=>r=nZ o∧h'=h):=by
 refine f8 19 [.tmp 4] Tryz.func110 rfl rfl rfl rfl ?_
 unfold P6 at m
 refine v (gY rfl rfl λk2 K3=>v (dE rK rfl (jY m (σ:=Int) (λs=> [(some k2,.obj 36 (bL p1))]) (λs=>.c 0 (.sl none 32 (List.map bL p0)) (.c 3 (.ptr k2 0) (.c 7 (nZ (p0.length:Int)) (.c 8 (nZ s) .nil)))) (lx (.k4 .nil)) ?_ ?_)))
 rintro _ q0 x m
 replace m:sX u p0 p1 q0=some x:=m
 unfold sX at m
 refine v (v ?_)
 apply vi m <;> intro c0 m
 refine v (v (v (v (vq (by kernel_rfl) (vl 0 (.agg (bL p1)) fW rfl rfl rfl (vx m yE rfl rfl λx0 _ m=>va (.agg (bL x0)) fW rfl rfl (bU (vX EI RK u5 EH rfl rfl) (v ?_))))))))
 apply vi m <;> intro c1 m
 refine v (v (gM m λm=> ?_))
 obtain rfl:=eT m
 exact eD rfl
 exact v (v (iE m))
 exact v (wW m)
 rintro _ r0 m
 refine v (v ?_)
 cases m
 exact eD rfl
theorem YB:aO Tryz.prog 110=true:=by kernel_rfl
def YC (m:Nat) (p0:List bO) (p1:bO):Option (Bool):=
 (P6 m p0 p1).bind λy6=>some (decide (0≤y6))
theorem W62 {u:Nat} {p0:List bO} {p1:bO} {o:Bool} (h:aE) (m:YC u p0 p1=some o):
 aL Tryz.prog 62 [.sl none 32 (List.map bL p0),.agg (bL p1)] h (λr h'=>r= .sc (.bool o)∧h'=h):=by
 refine f8 9 [.tmp 4] Tryz.func62 rfl rfl rfl rfl ?_
 unfold YC at m
 refine v (gY rfl rfl λk2 K3=>v (vl 0 (.agg (bL p1)) fW rfl rfl rfl (vk aDV YB m rfl rfl λ_ m=>v ?_)))
 cases m
 exact eD rfl
theorem aDW:aO Tryz.prog 62=true:=by kernel_rfl
def M61 (m:Nat) (p0:dJ) (c0:bO):Option (Bool):=
 (YC m p0.Ids c0).bind λy6=>some y6
theorem W61 {w:Nat} {p0:dJ} {c0:bO} {o:Bool} (h:aE) {c0K:cB} (c0H:h c0K=some (.obj 36 (bL c0))) (m:M61 w p0 c0=some o):
 aL Tryz.prog 61 [.agg (bX p0),.ptr c0K 0] h (λr h'=>r= .sc (.bool o)∧h'=h):=by
 refine f8 8 [.tmp 3] Tryz.func61 rfl rfl rfl rfl ?_
 unfold M61 at m
 refine v (gY rfl rfl λk2 K3=>v (vl 0 _ u6 rfl rfl rfl (vn (λu=>pE (.agg (bL c0)) fW rfl (kP u c0H) rfl) (vk W62 aDW m rfl rfl λ_ m=>v ?_))))
 obtain rfl:=eT m
 exact eD rfl
theorem aDX:aO Tryz.prog 61=true:=by kernel_rfl
def M59 (m:Nat) (p0:aH) (c0:bO):Option (Bool):=
 (YA m p0.Man.Parts (λx0=>M61 m x0 c0)).bind λy6=>some y6
theorem W59 {w:Nat} {p0:aH} {c0:bO} {o:Bool} (h:aE) {c0K:cB} (c0H:h c0K=some (.obj 36 (bL c0))) (m:M59 w p0 c0=some o):
 aL Tryz.prog 59 [.agg (bS p0),.ptr c0K 0] h (λr h'=>r= .sc (.bool o)∧h'=h):=by
 refine f8 9 [.tmp 3] Tryz.func59 rfl rfl rfl rfl ?_
 unfold M59 at m
 refine v (gY rfl rfl λk2 K3=>v (vl 0 _ nF rfl rfl rfl ?_))
 obtain⟨_,Y7,m⟩:=aC m
 refine vn (λu=>bY (W60 _ aDX (λ_ o h0 hs ho=>W61 _ (hs _ _ (kP u c0H)) ho) Y7) rfl aDU rfl) (v ?_)
 obtain rfl:=eT m
 exact eD rfl
theorem aDY:aO Tryz.prog 59=true:=by kernel_rfl
def YD (m:Nat) (p0:aA) (p1:bO):Option (Bool):=
 (TU m p0.Snaps (λx0=>M59 m x0 p1)).bind λy9=>some y9
theorem W22 {w:Nat} {p0:aA} {p1:bO} {o:Bool} (h:aE) (m:YD w p0 p1=some o):
 aL Tryz.prog 22 [.agg (aF p0),.agg (bL p1)] h (λr h'=>r= .sc (.bool o)∧h'=h):=by
 refine f8 9 [.tmp 4] Tryz.func22 rfl rfl rfl rfl ?_
 unfold YD at m
 refine v (gY rfl rfl λk2 K3=>gY rfl rfl λk5 K6=>v (vl 1 _ fM rfl rfl rfl ?_))
 obtain⟨_,Y0,m⟩:=aC m
 refine vn (λu=>bY (W58 _ aDY (λ_ o h0 hs ho=>W59 _ (hs _ _ (bB 0 u rfl)) ho) Y0) rfl XJ rfl) (v ?_)
 obtain rfl:=eT m
 exact eD rfl
theorem aDZ:aO Tryz.prog 22=true:=by kernel_rfl
theorem YE:aO Tryz.prog 108=true:=by kernel_rfl
def TZ (m:Nat) (p0:aH) (c0:ByteArray):Option (Bool):=
 some (p0.Man.Name.toList==c0.toList)
theorem aD0 {w:Nat} {p0:aH} {c0:ByteArray} {o:Bool} (h:aE) {c0K:cB} (c0H:h c0K=some (.obj 9 (LR c0))) (m:TZ w p0 c0=some o):
 aL Tryz.prog 104 [.agg (bS p0),.ptr c0K 0] h (λr h'=>r= .sc (.bool o)∧h'=h):=by
 refine f8 9 [.tmp 3] Tryz.func104 rfl rfl rfl rfl ?_
 unfold TZ at m
 refine v (gY rfl rfl λk2 K3=>v (vl 0 _ zU rfl rfl rfl (vn (λu=>pE (.sc (.string c0)) zU rfl (kP u c0H) rfl) (bU (BT rfl rfl rfl trivial) (v ?_)))))
 cases m
 exact eD rfl
theorem YF:aO Tryz.prog 104=true:=by kernel_rfl
def M46 (m:Nat) (p0:aA) (p1:ByteArray):Option (Int):=
 (MF m p0.Snaps (λx0=>TZ m x0 p1)).bind λy9=>some y9
theorem W46 {w:Nat} {p0:aA} {p1:ByteArray} {o:Int} (h:aE) (m:M46 w p0 p1=some o):
 aL Tryz.prog 46 [.agg (aF p0),.sc (.string p1)] h (λr h'=>r=nZ o∧h'=h):=by
 refine f8 9 [.tmp 4] Tryz.func46 rfl rfl rfl rfl ?_
 unfold M46 at m
 refine v (gY rfl rfl λk2 K3=>gY rfl rfl λk5 K6=>v (vl 1 _ fM rfl rfl rfl ?_))
 obtain⟨_,Y0,m⟩:=aC m
 refine vn (λu=>bY (XI _ YF (λ_ o h0 hs ho=>aD0 _ (hs _ _ (bB 0 u rfl)) ho) Y0) rfl EL rfl) (v ?_)
 obtain rfl:=eT m
 exact eD rfl
theorem aD2:aO Tryz.prog 46=true:=by kernel_rfl
def GU (m:Nat) (p0:List aB) (p1:aB→Option Bool) (q0:Int):Option (Lp (Int) (Int)):=
 if (decide (q0 < (p0.length:Int)))=true then ((ix p0 q0).bind λx0=>(p1 x0).bind λy0=>if y0=true then (some (.ret q0)) else some (.go (IntKind.wrap .i64 (q0+1)))) else some (.brk q0)
def M53 (m:Nat) (p0:List aB) (p1:aB→Option Bool):Option (Int):=
 after (aU (λs=>GU m p0 p1 s) m 0) λr0=>some (-1)
theorem W53 {w:Nat} {p0:List aB} {p1:aB→Option Bool} {o:Int} (h:aE) {p1F:Nat} {p1C:List AV} (p1B:aO Tryz.prog p1F=true) (p1H:∀x0 o h0,iD h h0→p1 x0=some o→aL Tryz.prog p1F ([.agg (aI x0)]++p1C) h0 (λr h'=>r= .sc (.bool o)∧h'=h0)) (m:M53 w p0 p1=some o):
 aL Tryz.prog 53 [.sl none 35 (List.map aI p0),.fn (.func p1F) p1C] h (λr h'=>r=nZ o∧h'=h):=by
 refine f8 19 [.tmp 4] Tryz.func53 rfl rfl rfl rfl ?_
 unfold M53 at m
 refine v (v (dE iG rfl (jY m (σ:=Int) (λs=> []) (λs=>.c 0 (.sl none 35 (List.map aI p0)) (.c 1 (.fn (.func p1F) p1C) (.c 7 (nZ (p0.length:Int)) (.c 8 (nZ s) .nil)))) (lx (.k4 .nil)) ?_ ?_)))
 rintro _ q0 x m
 replace m:GU w p0 p1 q0=some x:=m
 unfold GU at m
 refine v (v ?_)
 apply vi m <;> intro c0 m
 refine v (v (v (v (vx m fH rfl rfl λx1 _ m=>va (.agg (aI x1)) kQ rfl rfl ?_))))
 obtain⟨_,Y0,m⟩:=aC m
 refine vn (λu=>bY (p1H _ _ _ (aT (List.nil_sublist _) u).1 Y0) rfl p1B rfl) (v ?_)
 apply vi m <;> intro c1 m
 refine v (v (gM m λm=> ?_))
 obtain rfl:=eT m
 exact eD rfl
 exact v (v (iE m))
 exact v (wW m)
 rintro _ r0 m
 refine v (v ?_)
 cases m
 exact eD rfl
theorem YG:aO Tryz.prog 53=true:=by kernel_rfl
open Go.Vm Go.ChangeShapes Go.WideShapes
section
variable {H:Type} {enc:TypeId×Value→H} {W:World}
theorem ce3:Tryz.prog.cellsOf 3=1:=by kernel_rfl
theorem rd3:Rd enc Tryz.prog W 3 iY gI:=SW u3
theorem aD4:Rd enc Tryz.prog W 22 PQ (gL gI):=Rd.slice rd3 u22 ce3 (λ_=>rfl) (by decide)
theorem YH:Tryz.prog.cellsOf 67=5:=by kernel_rfl
theorem aD5:Tryz.prog.cellsOf 64=1:=by kernel_rfl
theorem YI:Tryz.prog.cellsOf 95=2:=by kernel_rfl
theorem ce9:Tryz.prog.cellsOf 9=1:=by kernel_rfl
theorem rd9:Rd enc Tryz.prog W 9 LR gT:=SX u9
theorem aD6:Tryz.prog.cellsOf 41=1:=by kernel_rfl
theorem ce5:Tryz.prog.cellsOf 5=1:=by kernel_rfl
theorem rd5:Rd enc Tryz.prog W 5 dF gB:=WR u5
theorem aD7:Rd enc Tryz.prog W 41 hX (gL gB):=Rd.slice rd5 u41 ce5 (λ_=>rfl) (by decide)
def GV (x:dS):Prop:=gT x.Path∧(gL gB) x.Data
theorem aD8:PH Tryz.prog 95=some 2:=by kernel_rfl
theorem aD9:Rd enc Tryz.prog W 95 eV GV:=by
 intro fuel cs x h
 obtain⟨hl,hf⟩:=Rd.flds aD8 YI h
 obtain⟨a0,g0,v0,w0⟩:=hf 0 0 1 TQ ce9 rd9
 obtain⟨a1,g1,v1,w1⟩:=hf 1 1 1 TR aD6 aD7
 obtain⟨v,w⟩:=(F1.cons v0 w0 (F1.cons v1 w1 (F1.nil hl) rfl) rfl)
 exact⟨⟨a0,a1⟩,⟨g0,g1⟩,by simpa [eV,LR,hX] using v,by simpa using w⟩
theorem aEA:Rd enc Tryz.prog W 64 EF (gL GV):=Rd.slice aD9 u64 YI (λx=>by simp[eV,bL]) (by decide)
theorem aEB:Tryz.prog.cellsOf 65=1:=by kernel_rfl
theorem ce4:Tryz.prog.cellsOf 4=1:=by kernel_rfl
theorem rd4:Rd enc Tryz.prog W 4 GH gT:=PG u4
theorem aEC:Rd enc Tryz.prog W 65 EG (gL gT):=Rd.slice rd4 u65 ce4 (λ_=>rfl) (by decide)
def ID (x:n4):Prop:=gI x.Do∧gI x.N∧gI x.Vol∧(gL GV) x.Tree∧(gL gT) x.Pick
theorem aED:PH Tryz.prog 67=some 5:=by kernel_rfl
theorem aEE:Rd enc Tryz.prog W 67 gG ID:=by
 intro fuel cs x h
 obtain⟨hl,hf⟩:=Rd.flds aED YH h
 obtain⟨a0,g0,v0,w0⟩:=hf 0 0 1 TJ ce3 rd3
 obtain⟨a1,g1,v1,w1⟩:=hf 1 1 1 TL ce3 rd3
 obtain⟨a2,g2,v2,w2⟩:=hf 2 2 1 TM ce3 rd3
 obtain⟨a3,g3,v3,w3⟩:=hf 3 3 1 TN aD5 aEA
 obtain⟨a4,g4,v4,w4⟩:=hf 4 4 1 TO aEB aEC
 obtain⟨v,w⟩:=(F1.cons v0 w0 (F1.cons v1 w1 (F1.cons v2 w2 (F1.cons v3 w3 (F1.cons v4 w4 (F1.nil hl) rfl) rfl) rfl) rfl) rfl)
 exact⟨⟨a0,a1,a2,a3,a4⟩,⟨g0,g1,g2,g3,g4⟩,by simpa [gG,iY,iY,iY,EF,EG] using v,by simpa using w⟩
theorem aEF:Rd enc Tryz.prog W 23 PR (gL ID):=Rd.slice aEE u23 YH (λx=>by simp[gG,bL]) (by decide)
def GW (x:dJ):Prop:=gT x.Path∧gI x.Size∧(gL (λx:bO=>gL gB x.1)) x.Ids
def yN (x:bG):Prop:=gT x.Name∧(gL GW) x.Parts
def p4 (x:a8):Prop:=gI x.Vol∧gI x.File∧gI x.Off∧gI x.Len
def T0 (x:aH):Prop:=gI x.Seq∧yN x.Man∧(gL p4) x.Locs
def IE (x:aB):Prop:=(λx:bO=>gL gB x.1) x.Id∧gT x.Staged∧(gL gB) x.Data∧(gL p4) x.Locs
def YJ (x:aQ):Prop:=gI x.Seq∧gI x.Of∧(gL p4) x.Locs
def RX (x:aP):Prop:=gI x.Pool∧gI x.Epoch∧gI x.State∧gI x.Files
def BA (x:aA):Prop:=gI x.Seq∧(gL T0) x.Snaps∧(gL IE) x.Chunks∧(gL YJ) x.Exps∧(gL RX) x.Vols
theorem rr3:Tryz.prog.readableRec 3=true∧3 < Tryz.prog.types.size:=⟨by kernel_rfl,of_decide_eq_true (by kernel_rfl)⟩
theorem aEG:Tryz.prog.readableRec 22=true∧22 < Tryz.prog.types.size:=⟨by kernel_rfl,of_decide_eq_true (by kernel_rfl)⟩
theorem aEH:Tryz.prog.readableRec 23=true∧23 < Tryz.prog.types.size:=⟨by kernel_rfl,of_decide_eq_true (by kernel_rfl)⟩
theorem aEI:ownKnob Tryz.prog.godebug=none:=by kernel_rfl
theorem MJ:laidOutB Tryz.prog=true:=by kernel_rfl
end
open Go.Vm
def fR (a b c:Int):Bool:=decide (b≤a) && decide (a≤c)
theorem T1 (F:Nat) (a b c:Int):yG F a b c=some (fR a b c):=by
 unfold yG fR
 by_cases h:b≤a <;> simp[after,h]
theorem YK (F:Nat) (a b c:Int):IC F a b c=some (fR a b c):=by
 unfold IC fR
 by_cases h:b≤a <;> simp[after,h]
def jO (a b:a8):Bool:=if a.Vol !=b.Vol then decide (b.Vol < a.Vol) else if a.File !=b.File then decide (b.File < a.File) else decide (b.Off < a.Off)
theorem aEJ (F:Nat) (a b:a8):MC F a b=some (jO a b):=by
 unfold MC jO
 split
 ·rfl
 ·split <;> rfl
def EP (c:aA) (l:List a8) (i:Nat):Bool:=match l[i]? with
  | none=>true
  | some x=>fR x.Vol 0 ((c.Vols.length:Int) - 1) && (match c.Vols[x.Vol.toNat]? with | none=>false | some v=>v.State==2 && fR x.File 1 v.Files) && fR x.Off 0 16777215 && fR x.Len 13 8013 &&
      (i==0 || (match l[i - 1]? with | none=>true | some y=>jO x y))
def h9 (c:aA) (l:List a8):Bool:=decide (l.length≤200) && !(List.range l.length).any λi=> !EP c l i
theorem T2 {F:Nat} {c:aA} {l:List a8} (hF:1000≤F) (hv:c.Vols.length < 1000):z9 F c l=some (h9 c l):=by
 unfold z9 h9
 by_cases hl:200 < (l.length:Int)
 ·rw[if_pos (by simpa using hl)]; simp; omega
 ·rw[if_neg (by simpa using hl)]
  rw[fD (s0:=(0:Int)) (n:=l.length) (F:=F) (λi:Nat=>(i:Int)) (λi=> !EP c l i) (λ_=>false) (by omega) rfl,iH]
  ·have:l.length≤200:=by omega
   simp only[this,decide_true,Bool.true_and]
   split <;> rename_i h <;> simp[after,h]
  ·intro i hi _
   unfold sN EP
   have hx:l[i]? =some l[i]:=List.getElem?_eq_getElem hi
   generalize l[i]=x at hx
   rw[wr (by omega) (by omega),iW (by omega)]
   simp only[bH,hx,T1,aEJ,Option.bind_some,cX,aG,cL,dL,Int.ofNat_lt,hi,decide_true,if_true]
   cases h1:fR x.Vol 0 ((c.Vols.length:Int) - 1)
   ·simp[after]
   ·have h2:0≤x.Vol∧x.Vol.toNat < c.Vols.length:=by simp[fR] at h1; omega
    have h3:c.Vols[x.Vol.toNat]? =some c.Vols[x.Vol.toNat]:=List.getElem?_eq_getElem h2.2
    generalize c.Vols[x.Vol.toNat]=v at h3
    simp only[pZ _ h2.1,h3,Option.bind_some]
    by_cases h0:i=0
    ·subst h0
     simp[after]
     grind
    ·have h5:l[i - 1]? =some l[i - 1]:=List.getElem?_eq_getElem (by omega)
     generalize l[i - 1]=y at h5
     rw[yK (by omega) (by omega)]
     simp[after,bH,h5,h0,Nat.pos_of_ne_zero h0]
     grind
  ·intro _
   unfold sN
   simp
open Go.Vm Go.Lib
def key:List Int→Int
 | []=>0
 | a::u=>a*256 ^ u.length+key u
theorem GX:∀ {l:List Int},gL gB l→0≤key l∧key l < 256 ^ l.length
 | [],_=>by simp[key]
 | a::u,h=>by
  have⟨h1,h2⟩:=h a (by simp)
  have⟨h3,h4⟩:=GX (l:=u) λx hx=>h x (by simp[hx])
  have hp:(0:Int) < 256 ^ u.length:=Int.pow_pos (by decide)
  simp only[key,List.length_cons,Int.pow_succ]
  have:a*256 ^ u.length≤255*256 ^ u.length:=Int.mul_le_mul_of_nonneg_right (by omega) (by omega)
  have:0≤a*256 ^ u.length:=Int.mul_nonneg h1 (by omega)
  omega
theorem qM {a b:Int} {u v:List Int} (hl:u.length=v.length) (ha:gL gB (a::u)) (hb:gL gB (b::v)):
    (a < b→key (a::u) < key (b::v))∧(a=b→(key (a::u) < key (b::v)↔key u < key v)∧(key (a::u)=key (b::v)↔key u=key v)):=by
  have⟨h3,h4⟩:=GX (l:=u) λx hx=>ha x (by simp[hx])
  have⟨h5,h6⟩:=GX (l:=v) λx hx=>hb x (by simp[hx])
  simp only[key]
  rw[hl] at h4 ⊢
  generalize (256:Int) ^ v.length=q at h4 h6
  constructor
  · intro h
    have:(a+1)*q≤b*q:=Int.mul_le_mul_of_nonneg_right (by omega) (by omega)
    rw[Int.add_mul] at this
    omega
  · rintro rfl
    omega
theorem IF:∀ {a b:List Int},a.length=b.length→gL gB a→gL gB b→key a=key b→a=b
 | [], [],_,_,_,_=>rfl
 | x::u,y::v,hl,ha,hb,h=>by
  have hl':u.length=v.length:=by simpa using hl
  obtain⟨h1,h2⟩:=qM hl' ha hb
  obtain⟨h3, -⟩:=qM hl'.symm hb ha
  rcases Int.lt_trichotomy x y with q | q | q
  ·have:=h1 q; omega
  ·subst q
   rw[IF hl' (λz hz=>ha z (by simp[hz])) (λz hz=>hb z (by simp[hz])) ((h2 rfl).2.1 h)]
  ·have:=h3 q; omega
theorem BB (xs:List Int):(bA xs).data.toList=xs.map λz=>z.toNat.toUInt8:=by
 have:∀(xs:List Int) (acc:ByteArray),(xs.foldl (λacc z=>acc.push z.toNat.toUInt8) acc).data.toList=acc.data.toList++xs.map λz=>z.toNat.toUInt8:=by
  intro xs
  induction xs with
  | nil=>simp
  | cons x xs ih=>intro acc; rw[List.foldl_cons,ih]; simp[ByteArray.push]
 rw[bA,this]
 rfl
theorem RY {a b:Int} (ha:gB a) (hb:gB b):a.toNat.toUInt8 < b.toNat.toUInt8↔a < b:=by
 unfold gB at ha hb
 rw[UInt8.lt_iff_toNat_lt]
 simp only[Nat.toUInt8,UInt8.toNat_ofNat']
 omega
theorem EQ:∀ {a b:List Int},a.length=b.length→gL gB a→gL gB b→compareBytes (a.map λz=>z.toNat.toUInt8) (b.map λz=>z.toNat.toUInt8)=if key a < key b then -1 else if key b < key a then 1 else 0
 | [], [],_,_,_=>by simp[compareBytes,key]
 | x::u,y::v,hl,ha,hb=>by
  have hl':u.length=v.length:=by simpa using hl
  obtain⟨h1,h2⟩:=qM hl' ha hb
  obtain⟨h3,h4⟩:=qM hl'.symm hb ha
  have hx:=ha x (by simp)
  have hy:=hb y (by simp)
  simp only[List.map_cons,compareBytes,RY hx hy,RY hy hx]
  rcases Int.lt_trichotomy x y with q | q | q
  ·rw[if_pos q,if_pos (h1 q)]
  ·subst q
   rw[if_neg (by omega),if_neg (by omega),EQ hl' (λz hz=>ha z (by simp[hz])) (λz hz=>hb z (by simp[hz]))]
   simp only[(h2 rfl).1,(h4 rfl).1]
  ·rw[if_neg (by omega),if_pos q,if_neg (by have:=h3 q; omega),if_pos (h3 q)]
def m7 (x:bO):Prop:=gL gB x.1
def ky (x:bO):Int:=key x.1
theorem MK {a b:bO} (ha:m7 a) (hb:m7 b) (h:ky a=ky b):a=b:=Subtype.ext (IF (by rw[a.2,b.2]) ha hb h)
theorem ML (F:Nat) {a b:bO} (ha:m7 a) (hb:m7 b):JY F a b=some (if ky a < ky b then -1 else if ky b < ky a then 1 else 0):=by
 unfold JY F3 ky
 rw[cmp_eq,BB,BB,EQ (by rw[a.2,b.2]) ha hb]
theorem yO:∀(n:Nat) {a b:List Int},a.length=n→b.length=n→gL gB a→gL gB b→
    (match (List.range n).find? λi=>a.getD i 0 !=b.getD i 0 with | none=>false | some i=>decide (a.getD i 0 < b.getD i 0))=decide (key a < key b)
  | 0, [], [],_,_,_,_=>by simp[key]
  | n+1,x::u,y::v,h1,h2,ha,hb=>by
    have hl':u.length=v.length:=by simp at h1 h2; omega
    obtain⟨k1,k2⟩:=qM hl' ha hb
    obtain⟨k3,k4⟩:=qM hl'.symm hb ha
    have ih:=yO n (a:=u) (b:=v) (by simpa using h1) (by simpa using h2) (λz hz=>ha z (by simp[hz])) (λz hz=>hb z (by simp[hz]))
    rw[find_range_succ]
    simp only[List.getD_cons_zero,List.getD_cons_succ]
    by_cases q:x=y
    · subst q
      simp only[bne_self_eq_false,Bool.false_eq_true,if_false,(k2 rfl).1]
      rw[← ih]
      cases (List.range n).find? λi=>u.getD i 0 !=v.getD i 0 with
      | none=>rfl
      | some i=>simp only[Option.map_some,List.getD_cons_succ]
    · have hne:(x !=y)=true:=by simpa using q
      simp only[hne,if_true,List.getD_cons_zero]
      rcases Int.lt_trichotomy x y with w | w | w
      · have:=k1 w; simp[w,this]
      · exact absurd w q
      · have:=k3 w
        simp; constructor <;> intro <;> omega
theorem vZ {F:Nat} {a b:bO} (body:Int→Option (Lp Int Bool)) (hF:1000≤F) (ha:m7 a) (hb:m7 b)
    (h:∀i:Nat,body i=if decide ((i:Int) < 32)=true then ((ix a.1 i).bind λx48=>(ix b.1 i).bind λx50=>if (x48 !=x50)=true then ((ix a.1 i).bind λx54=>(ix b.1 i).bind λx56=>some (.ret (decide (x54 < x56)))) else some (.go (IntKind.wrap .i64 (i+1)))) else some (.brk (i:Int))):
    (after (aU body F 0) λ_=>some false)=some (decide (ky a < ky b)):=by
  rw[fD (s0:=(0:Int)) (n:=32) (F:=F) (λi:Nat=>(i:Int)) (λi=>a.1.getD i 0 !=b.1.getD i 0) (λi=>decide (a.1.getD i 0 < b.1.getD i 0)) (by omega) rfl]
  · have:=yO 32 a.2 b.2 ha hb
    unfold ky
    rw[← this]
    unfold LF
    cases (List.range 32).find? λi=>a.1.getD i 0 !=b.1.getD i 0 <;> rfl
  · intro i hi _
    rw[h,iW (by omega)]
    have h1:a.1[i]? =some a.1[i]:=List.getElem?_eq_getElem (by rw[a.2]; exact hi)
    have h2:b.1[i]? =some b.1[i]:=List.getElem?_eq_getElem (by rw[b.2]; exact hi)
    have h3:(i:Int) < 32:=by omega
    simp[bH,h1,h2,h3,List.getD]
    split <;> rfl
  · intro _
    rw[h]; simp
theorem m60 {F:Nat} {a b:bO} (hF:1000≤F) (ha:m7 a) (hb:m7 b):MG F a b=some (decide (ky a < ky b)):=vZ (wZ F a b) hF ha hb λ_=>rfl
theorem YL {F:Nat} {a b:bO} (hF:1000≤F) (ha:m7 a) (hb:m7 b):P3 F a b=some (decide (ky a < ky b)):=vZ (w5 F a b) hF ha hb λ_=>rfl
open Go.Vm
structure Sm (c:aA):Prop where
 g:BA c
 sn:c.Snaps.length≤12
 ch:c.Chunks.length≤400
 ex:c.Exps.length≤300
 vo:c.Vols.length≤20
 sl:∀s∈c.Snaps,s.Locs.length≤300
 cl:∀x∈c.Chunks,x.Locs.length≤300∧x.Data.length≤300
 el:∀x∈c.Exps,x.Locs.length≤300
 man:∀s∈c.Snaps,s.Man.Name.size≤100∧s.Man.Parts.length≤10∧∀p∈s.Man.Parts,p.Path.size≤100∧p.Ids.length≤40
theorem iO {α:Type} (l:List α) (q:α→Bool):((List.range l.length).any λi=>(l[i]?).any q)=l.any q:=by
 rw[Bool.eq_iff_iff]
 simp only[List.any_eq_true,List.mem_range]
 constructor
 ·rintro⟨i,hi,h⟩
  rw[List.getElem?_eq_getElem hi] at h
  exact⟨l[i],List.getElem_mem hi,by simpa using h⟩
 ·rintro⟨x,hx,h⟩
  obtain⟨i,hi,rfl⟩:=List.getElem_of_mem hx
  exact⟨i,hi,by rw[List.getElem?_eq_getElem hi]; simpa using h⟩
def mA (v:aP):Bool:=fR v.Pool 0 1 && fR v.Epoch 0 1048576 && ((v.State==2 && fR v.Files 1 65535) || ((v.State==1 || v.State==3) && v.Files==0))
theorem sY {α:Type} (l:List α) (q:α→Bool):(l.any λx=> !q x)= !l.all q:=by simp[List.any_eq_not_all_not]
theorem m69 {F:Nat} {l:List aP} (hF:1000≤F) (hl:l.length≤20):XD F l=some (l.all mA && fR l.length 1 8):=by
 unfold XD
 rw[fD (s0:=(0:Int)) (n:=l.length) (F:=F) (λi:Nat=>(i:Int)) (λi=>(l[i]?).any λv=> !mA v) (λ_=>false) (by omega) rfl,iH,iO,sY]
 ·cases h:l.all mA <;> simp[after,T1]
 ·intro i hi _
  unfold yH mA
  have hx:l[i]? =some l[i]:=List.getElem?_eq_getElem hi
  generalize l[i]=x at hx
  rw[iW (by omega)]
  simp only[bH,hx,T1,Option.bind_some,cX,aG,cL,dL,Int.ofNat_lt,hi,decide_true,if_true,Option.any_some]
  by_cases h2:x.State=2
  ·simp[h2]; grind
  ·by_cases h1:x.State=1
   ·simp[h1]; grind
   ·by_cases h3:x.State=3
    ·simp[h3]; grind
    ·simp[h1,h2,h3]
 ·intro _
  unfold yH
  simp
theorem m61 {F:Nat} {c:aA} {l:List a8} (hF:1000≤F) (hv:c.Vols.length < 1000):AC F c l=some (h9 c l):=by
 unfold AC h9
 by_cases hl:200 < (l.length:Int)
 ·rw[if_pos (by simpa using hl)]; simp; omega
 ·rw[if_neg (by simpa using hl)]
  rw[fD (s0:=(0:Int)) (n:=l.length) (F:=F) (λi:Nat=>(i:Int)) (λi=> !EP c l i) (λ_=>false) (by omega) rfl,iH]
  ·have:l.length≤200:=by omega
   simp only[this,decide_true,Bool.true_and]
   split <;> rename_i h <;> simp[after,h]
  ·intro i hi _
   unfold sS EP
   have hx:l[i]? =some l[i]:=List.getElem?_eq_getElem hi
   generalize l[i]=x at hx
   rw[iW (by omega)]
   simp only[bH,hx,YK,Option.bind_some,cX,aG,cL,dL,Int.ofNat_lt,hi,decide_true,if_true]
   by_cases h1:x.Vol < 0
   ·simp[h1,fR]
    try omega
   ·by_cases h2:(c.Vols.length:Int)≤x.Vol
    ·simp[h1,h2,fR]; omega
    ·have h2':0≤x.Vol∧x.Vol.toNat < c.Vols.length:=by omega
     have h3:c.Vols[x.Vol.toNat]? =some c.Vols[x.Vol.toNat]:=List.getElem?_eq_getElem h2'.2
     generalize c.Vols[x.Vol.toNat]=v at h3
     have h4:fR x.Vol 0 ((c.Vols.length:Int) - 1)=true:=by simp[fR]; omega
     simp only[pZ _ h2'.1,h3,Option.bind_some,h1,h2,h4,Bool.true_and,decide_false]
     by_cases h0:i=0
     ·subst h0
      simp[after]
      grind
     ·have h5:l[i - 1]? =some l[i - 1]:=List.getElem?_eq_getElem (by omega)
      generalize l[i - 1]=y at h5
      rw[yK (by omega) (by omega)]
      simp[after,bH,h5,h0,Nat.pos_of_ne_zero h0,jO]
      grind
  ·intro _
   unfold sS
   simp
def IG (c:aA) (i:Nat):Bool:=match c.Chunks[i]? with
 | none=>true
 | some x=>(i==0 || (match c.Chunks[i - 1]? with | none=>true | some y=>decide (ky y.Id < ky x.Id))) && h9 c x.Locs && (if x.Staged then fR x.Data.length 1 64 else (!decide (0 < x.Data.length) && !(x.Locs.length==0)))
theorem gch {c:aA} (h:Sm c) {i:Nat} {x:aB} (hx:c.Chunks[i]? =some x):m7 x.Id:=by
 have:=h.g.2.2.1 x (List.mem_of_getElem? hx)
 exact this.1
theorem MM {F:Nat} {c:aA} (hF:1000≤F) (h:Sm c) {i:Nat} (hi:i < c.Chunks.length):vB F c i=some (if !IG c i then .ret false else .go ((i+1:Nat):Int)):=by
 have hc:=h.ch
 have hv:=h.vo
 unfold vB IG
 have hx:c.Chunks[i]? =some c.Chunks[i]:=List.getElem?_eq_getElem hi
 generalize c.Chunks[i]=x at hx
 have gx:=gch h hx
 rw[iW (by omega)]
 simp only[bH,hx,T1,T2 hF (show c.Vols.length < 1000 by omega),Option.bind_some,cX,aG,cL,dL,Int.ofNat_lt,hi,decide_true,if_true]
 generalize x.Locs.length=nl
 generalize x.Data.length=nd
 by_cases h0:i=0
 ·subst h0
  cases hs:x.Staged <;> simp[cX,aG,cL,dL] <;> grind
 ·have h5:c.Chunks[i - 1]? =some c.Chunks[i - 1]:=List.getElem?_eq_getElem (by omega)
  generalize c.Chunks[i - 1]=y at h5
  have gy:=gch h h5
  rw[yK (by omega) (by omega)]
  by_cases hk:ky y.Id < ky x.Id
  ·have e:¬(0≤if ky y.Id < ky x.Id then (-1:Int) else if ky x.Id < ky y.Id then 1 else 0):=by rw[if_pos hk]; omega
   cases hs:x.Staged <;> simp[cX,aG,cL,dL,bH,h5,h0,Nat.pos_of_ne_zero h0,ML F gy gx,e,hk] <;> grind
  ·have e:(0≤if ky y.Id < ky x.Id then (-1:Int) else if ky x.Id < ky y.Id then 1 else 0):=by rw[if_neg hk]; split <;> omega
   simp[cX,aG,cL,dL,bH,h5,h0,Nat.pos_of_ne_zero h0,ML F gy gx,e,hk]
   try (intro hh; exfalso; split at hh <;> omega)
def vK (c:aA):Bool:= !(List.range c.Chunks.length).any λi=> !IG c i
theorem m70 {F:Nat} {c:aA} (hF:1000≤F) (h:Sm c):XO F c=some (vK c && decide (c.Chunks.length≤200)):=by
 have hc:=h.ch
 unfold XO vK
 rw[fD (s0:=(0:Int)) (n:=c.Chunks.length) (F:=F) (λi:Nat=>(i:Int)) (λi=> !IG c i) (λ_=>false) (by omega) rfl,iH]
 ·cases (List.range c.Chunks.length).any λi=> !IG c i <;> simp[after]; omega
 ·exact λi hi _=>MM hF h hi
 ·intro _; unfold vB; simp
theorem T3 {F:Nat} {c:aA} (hF:1000≤F) (h:Sm c) {i:Nat} (hi:i < c.Chunks.length):rN F c i=some (if !IG c i then .ret false else .go ((i+1:Nat):Int)):=by
 have hc:=h.ch
 have hv:=h.vo
 unfold rN IG
 have hx:c.Chunks[i]? =some c.Chunks[i]:=List.getElem?_eq_getElem hi
 generalize c.Chunks[i]=x at hx
 have gx:=gch h hx
 rw[iW (by omega)]
 simp only[bH,hx,YK,m61 hF (show c.Vols.length < 1000 by omega),Option.bind_some,cX,aG,cL,dL,Int.ofNat_lt,hi,decide_true,if_true]
 generalize x.Locs.length=nl
 generalize x.Data.length=nd
 by_cases h0:i=0
 ·subst h0
  cases hs:x.Staged <;> simp[cX,aG,cL,dL] <;> grind
 ·have h5:c.Chunks[i - 1]? =some c.Chunks[i - 1]:=List.getElem?_eq_getElem (by omega)
  generalize c.Chunks[i - 1]=y at h5
  have gy:=gch h h5
  rw[yK (by omega) (by omega)]
  by_cases hk:ky y.Id < ky x.Id
  ·cases hs:x.Staged <;> simp[cX,aG,cL,dL,bH,h5,h0,Nat.pos_of_ne_zero h0,m60 hF gy gx,hk] <;> grind
  ·simp[cX,aG,cL,dL,bH,h5,h0,Nat.pos_of_ne_zero h0,m60 hF gy gx,hk]
theorem T4 {F:Nat} {c:aA} (hF:1000≤F) (h:Sm c) {i:Nat} (hi:i < c.Vols.length):rM F c i=some (if (c.Vols[i]?).any λv=> !mA v then .ret false else .go ((i+1:Nat):Int)):=by
 have hv:=h.vo
 unfold rM mA
 have hx:c.Vols[i]? =some c.Vols[i]:=List.getElem?_eq_getElem hi
 generalize c.Vols[i]=x at hx
 rw[iW (by omega)]
 simp only[bH,hx,YK,Option.bind_some,cX,aG,cL,dL,Int.ofNat_lt,hi,decide_true,if_true,Option.any_some]
 by_cases h2:x.State=2
 ·simp[h2]; grind
 ·by_cases h1:x.State=1
  ·simp[h1]; grind
  ·by_cases h3:x.State=3
   ·simp[h3]; grind
   ·simp[h1,h2,h3]
open Go.Vm
theorem ER {s:ByteArray} {i:Nat} (h:i < s.size):∃z:Int,PC s (i:Int)=some z:=by
 unfold PC
 rw[if_pos (Int.natCast_nonneg i),Int.toNat_natCast]
 have:s[i]? =some s[i]:=getElem?_pos s i h
 rw[this]
 exact⟨_,rfl⟩
def T5 (s:ByteArray) (i:Nat):Bool:=(PC s (i:Int)).any λz=>decide (z < 33) || decide (126 < z)
def qX (s:ByteArray):Bool:=fR s.size 1 20 && !(List.range s.size).any (T5 s)
theorem YM {F:Nat} {s:ByteArray} (hF:1000≤F):JX F s=some (qX s):=by
 unfold JX qX fR
 by_cases h1:(s.size:Int) < 1
 ·have h2:¬(1:Int)≤s.size:=by omega
  simp[after,h1,h2]
 ·by_cases h2:20 < (s.size:Int)
  ·have h3:¬(s.size:Int)≤20:=by omega
   simp[after,h1,h2,h3]
  ·rw[fD (s0:=(0:Int)) (n:=s.size) (F:=F) (λi:Nat=>(i:Int)) (T5 s) (λ_=>false) (by omega) rfl,iH]
   ·have h3:(s.size:Int)≤20:=by omega
    have h4:(1:Int)≤s.size:=by omega
    simp only[h1,h2,h3,h4]
    cases h:(List.range s.size).any (T5 s) <;> simp[after]
   ·intro i hi _
    unfold sO T5
    obtain⟨z,hz⟩:=ER hi
    rw[iW (by omega)]
    simp only[hz,Option.bind_some,cX,aG,cL,dL,Int.ofNat_lt,hi,decide_true,if_true,Option.any_some]
    grind
   ·intro _
    unfold sO
    simp
theorem MN {F:Nat} {s:ByteArray} (hF:1000≤F) (hs:s.size≤100):CR F s=some (qX s):=by
 unfold CR qX fR
 rw[fD (s0:=(0:Int)) (n:=s.size) (F:=F) (λi:Nat=>(i:Int)) (T5 s) (λ_=>false) (by omega) rfl,iH]
 ·cases h:(List.range s.size).any (T5 s)
  ·simp only[cX,aG,cL]
   by_cases h1:(1:Int)≤s.size <;> simp[aG,h1]
  ·simp[after]
 ·intro i hi _
  unfold sU T5
  obtain⟨z,hz⟩:=ER hi
  rw[iW (by omega)]
  simp only[hz,Option.bind_some,cX,aG,cL,dL,Int.ofNat_lt,hi,decide_true,if_true,Option.any_some]
  grind
 ·intro _
  unfold sU
  simp
def MO (x y:dJ):Bool:=Op.bytesLess x.Path.toList y.Path.toList || x.Path.toList==y.Path.toList
def ES (x:dJ):Bool:=qX x.Path && decide (0≤x.Size) && decide (x.Size≤200) && decide (x.Ids.length≤25) && ((x.Ids.length==0)==(x.Size==0))
def T6 (m:bG) (i:Nat):Bool:=match m.Parts[i]? with
 | none=>true
 | some x=>ES x && (i==0 || (match m.Parts[i - 1]? with | none=>true | some y=> !MO x y))
def vL (m:bG):Bool:=qX m.Name && decide (m.Parts.length≤6) && !(List.range m.Parts.length).any λi=> !T6 m i
theorem LK (n:Nat):((n:Int)==0)=(n==0):=by
 rw[Bool.eq_iff_iff]; simp
theorem aEM {F:Nat} {x:dJ} (hF:1000≤F):MD F x=some (ES x):=by
 unfold MD ES
 simp only[YM hF,Option.bind_some,cX,aG,LK]
 generalize qX x.Path=a
 generalize x.Ids.length=n
 by_cases h1:(n:Int)≤25
 ·have h2:n≤25:=by omega
  simp only[h1,h2]
  grind
 ·have h2:¬n≤25:=by omega
  simp only[h1,h2]
  grind
theorem m73 {F:Nat} {m:bG} (hF:1000≤F):EK F m=some (if vL m then 0 else 1):=by
 unfold EK vL
 simp only[YM hF,Option.bind_some,cX,aG,dL]
 cases hn:qX m.Name
 ·simp
 ·by_cases hl:6 < (m.Parts.length:Int)
  ·have:¬m.Parts.length≤6:=by omega
   simp[hl,this]
  ·have h6:m.Parts.length≤6:=by omega
   rw[fD (s0:=(0:Int)) (n:=m.Parts.length) (F:=F) (λi:Nat=>(i:Int)) (λi=> !T6 m i) (λ_=>1) (by omega) rfl,iH]
   ·simp only[hl,h6]
    cases (List.range m.Parts.length).any λi=> !T6 m i <;> simp[after]
   ·intro i hi _
    unfold sP T6
    have hx:m.Parts[i]? =some m.Parts[i]:=List.getElem?_eq_getElem hi
    generalize m.Parts[i]=x at hx
    rw[iW (by omega)]
    simp only[bH,hx,aEM hF,Option.bind_some,cX,aG,cL,dL,Int.ofNat_lt,hi,decide_true,if_true]
    by_cases h0:i=0
    ·subst h0
     simp
     split <;> rfl
    ·have h5:m.Parts[i - 1]? =some m.Parts[i - 1]:=List.getElem?_eq_getElem (by omega)
     generalize m.Parts[i - 1]=y at h5
     rw[yK (by omega) (by omega)]
     simp only[bH,h5,Option.bind_some,aG]
     rw[show (Op.bytesLess x.Path.toList y.Path.toList || x.Path.toList==y.Path.toList)=MO x y from rfl]
     have h7:(0:Int) < i:=by omega
     simp only[h7,decide_true,if_true,h0]
     cases ES x <;> cases MO x y <;> simp[h0]
   ·intro _; unfold sP; simp
theorem m62 {F:Nat} {m:bG} (hF:1000≤F) (hm:m.Name.size≤100) (hp:∀p∈m.Parts,p.Path.size≤100):V5 F m=some (vL m):=by
 unfold V5 vL
 simp only[MN hF hm,Option.bind_some,cX,aG,dL]
 cases hn:qX m.Name
 ·simp
 ·by_cases hl:6 < (m.Parts.length:Int)
  ·have:¬m.Parts.length≤6:=by omega
   simp[hl,this]
  ·have h6:m.Parts.length≤6:=by omega
   rw[fD (s0:=(0:Int)) (n:=m.Parts.length) (F:=F) (λi:Nat=>(i:Int)) (λi=> !T6 m i) (λ_=>false) (by omega) rfl,iH]
   ·simp only[hl,h6]
    cases (List.range m.Parts.length).any λi=> !T6 m i <;> simp[after]
   ·intro i hi _
    unfold yL T6 ES
    have hx:m.Parts[i]? =some m.Parts[i]:=List.getElem?_eq_getElem hi
    have hpx:=hp _ (List.mem_of_getElem? hx)
    generalize m.Parts[i]=x at hx hpx
    rw[iW (by omega)]
    simp only[bH,hx,MN hF hpx,Option.bind_some,cX,aG,cL,dL,Int.ofNat_lt,hi,decide_true,if_true,LK]
    generalize qX x.Path=a
    generalize x.Ids.length=n
    have hn:(25 < (n:Int))=(25 < n):=by simp; omega
    simp only[hn]
    by_cases h0:i=0
    ·subst h0
     simp
     grind
    ·have h5:m.Parts[i - 1]? =some m.Parts[i - 1]:=List.getElem?_eq_getElem (by omega)
     generalize m.Parts[i - 1]=y at h5
     rw[yK (by omega) (by omega)]
     simp only[bH,h5,Option.bind_some,aG]
     rw[show (Op.bytesLess x.Path.toList y.Path.toList || x.Path.toList==y.Path.toList)=MO x y from rfl]
     have h7:(0:Int) < i:=by omega
     have h8:(i==0)=false:=by simpa using h0
     simp only[h7,decide_true,if_true,h8,Bool.false_or]
     generalize MO x y=o
     generalize ((n==0):Bool)=e0
     generalize (x.Size==0:Bool)=e1
     have e2:decide (x.Size < 0)= !decide (0≤x.Size):=by rw[← decide_not]; congr 1; simp
     have e3:decide (200 < x.Size)= !decide (x.Size≤200):=by rw[← decide_not]; congr 1; simp
     have e4:decide (25 < n)= !decide (n≤25):=by rw[← decide_not]; congr 1; simp
     rw[e2,e3,e4]
     generalize decide (0≤x.Size)=f2
     generalize decide (x.Size≤200)=f3
     generalize decide (n≤25)=f4
     cases a <;> cases o <;> cases f2 <;> cases f3 <;> cases f4 <;> cases e0 <;> cases e1 <;> rfl
   ·intro _; unfold yL; simp
open Go.Vm
theorem s9 {α:Type} {l:List α} (q:α→Bool) {F:Nat} {body:Int→Option (Lp Int Int)} (hF:l.length < F)
    (hb:∀i:Nat,i < l.length→body (i:Int)=some (if (l[i]?).any q then .ret (i:Int) else .go ((i+1:Nat):Int))) (he:body (l.length:Int)=some (.brk (l.length:Int))):
    (after (aU body F 0) λ_=>some (-1)).bind (λy=>some (decide (0≤y)))=some (l.any q):=by
  rw[fD (s0:=(0:Int)) (n:=l.length) (F:=F) (λi:Nat=>(i:Int)) (λi=>(l[i]?).any q) (λi=>(i:Int)) hF rfl (λi hi _=>hb i hi) (λ_=>he),← iO]
  unfold LF
  cases h:(List.range l.length).find? λi=>(l[i]?).any q with
  | none=>
    have:(List.range l.length).any (λi=>(l[i]?).any q)=false:=by
      rw[List.any_eq_false]
      exact λx hx=>by simpa using List.find?_eq_none.1 h x hx
    simp[after,this]
  | some i=>
    have:(List.range l.length).any (λi=>(l[i]?).any q)=true:=List.any_eq_true.2 ⟨i,List.mem_of_find?_eq_some h,List.find?_some (p:=λi=>(l[i]?).any q) h⟩
    simp[after,this]
theorem m89 {F:Nat} {l:List aH} {f:aH→Option Bool} (q:aH→Bool) (hF:l.length < F) (hl:l.length < 1000) (hf:∀x∈l,f x=some (q x)):TU F l f=some (l.any q):=by
 unfold TU MF
 refine s9 q hF (λi hi=> ?_) (by unfold sR; simp)
 unfold sR
 have hx:l[i]? =some l[i]:=List.getElem?_eq_getElem hi
 rw[iW (by omega)]
 simp only[bH,hx,hf _ (List.getElem_mem hi),Option.bind_some,Int.ofNat_lt,hi,decide_true,if_true,Option.any_some]
 split <;> rfl
theorem m91 {F:Nat} {l:List dJ} {f:dJ→Option Bool} (q:dJ→Bool) (hF:l.length < F) (hl:l.length < 1000) (hf:∀x∈l,f x=some (q x)):YA F l f=some (l.any q):=by
 unfold YA P5
 refine s9 q hF (λi hi=> ?_) (by unfold sW; simp)
 unfold sW
 have hx:l[i]? =some l[i]:=List.getElem?_eq_getElem hi
 rw[iW (by omega)]
 simp only[bH,hx,hf _ (List.getElem_mem hi),Option.bind_some,Int.ofNat_lt,hi,decide_true,if_true,Option.any_some]
 split <;> rfl
theorem m93 {F:Nat} {l:List bO} {d:bO} (hF:l.length < F) (hl:l.length < 1000):YC F l d=some (l.any λx=>decide (d=x)):=by
 unfold YC P6
 refine s9 (λx=>decide (d=x)) hF (λi hi=> ?_) (by unfold sX; simp)
 unfold sX
 have hx:l[i]? =some l[i]:=List.getElem?_eq_getElem hi
 rw[iW (by omega)]
 simp only[bH,hx,Option.bind_some,Int.ofNat_lt,hi,decide_true,if_true,Option.any_some]
 split <;> rfl
def n6 (c:aA) (d:bO):Bool:=c.Snaps.any λs=>s.Man.Parts.any λp=>p.Ids.any λx=>decide (d=x)
theorem m44 {F:Nat} {c:aA} {d:bO} (hF:1000≤F) (h:Sm c):YD F c d=some (n6 c d):=by
 have hs:=h.sn
 unfold YD n6
 rw[m89 (λs=>s.Man.Parts.any λp=>p.Ids.any λx=>decide (d=x)) (by omega) (by omega)]
 ·rfl
 ·intro s hs'
  obtain⟨h1,h2,h3⟩:=h.man s hs'
  unfold M59
  rw[m91 (λp=>p.Ids.any λx=>decide (d=x)) (by omega) (by omega)]
  ·rfl
  ·intro p hp
   unfold M61
   rw[m93 (by have:=(h3 p hp).2; omega) (by have:=(h3 p hp).2; omega)]
   rfl
def zS (c:aA) (i:Nat):Bool:=match c.Exps[i]? with
 | none=>true
 | some x=>fR x.Seq 0 (c.Seq - 1) && (i==0 || (match c.Exps[i - 1]? with | none=>true | some y=>decide (y.Seq < x.Seq))) && fR x.Of 0 (x.Seq - 1) && !(x.Locs.length==0) && h9 c x.Locs
def J0 (c:aA) (i:Nat):Bool:=match c.Exps[i]? with
 | none=>true
 | some x=> !c.Snaps.any λs=>s.Seq==x.Of
theorem gex {c:aA} (h:Sm c) {i:Nat} {x:aQ} (hx:c.Exps[i]? =some x):gI x.Seq∧gI x.Of:=by
 have:=h.g.2.2.2.1 x (List.mem_of_getElem? hx)
 exact⟨this.1,this.2.1⟩
theorem T7 {F:Nat} {c:aA} (hF:1000≤F) (h:Sm c) (hq:fR c.Seq 0 1073741824=true) {i:Nat} (hi:i < c.Exps.length):
    vA F c i=some (if !(zS c i && J0 c i) then .ret false else .go ((i+1:Nat):Int)):=by
  have hc:=h.ex
  have hv:=h.vo
  have hsn:=h.sn
  unfold vA zS J0
  have hx:c.Exps[i]? =some c.Exps[i]:=List.getElem?_eq_getElem hi
  generalize c.Exps[i]=x at hx
  have gx:=gex h hx
  have hq':0≤c.Seq∧c.Seq≤1073741824:=by simpa [fR] using hq
  rw[iW (by omega),wr (n:=c.Seq - 1) (by omega) (by omega)]
  have hm:TU F c.Snaps (λx0=>P0 F x0 x)=some (c.Snaps.any λs=>s.Seq==x.Of):=m89 (λs=>s.Seq==x.Of) (by omega) (by omega) (λs _=>rfl)
  simp only[bH,hx,hm,T1,T2 hF (show c.Vols.length < 1000 by omega),Option.bind_some,cX,aG,cL,dL,Int.ofNat_lt,hi,decide_true,if_true,LK]
  generalize (x.Locs.length==0)=nl
  generalize h9 c x.Locs=lb
  generalize (c.Snaps.any λs=>s.Seq==x.Of)=an
  cases h1:fR x.Seq 0 (c.Seq - 1)
  · simp
  · have h1':0≤x.Seq∧x.Seq≤c.Seq - 1:=by simpa [fR] using h1
    rw[wr (n:=x.Seq - 1) (by omega) (by omega)]
    generalize fR x.Of 0 (x.Seq - 1)=ob
    by_cases h0:i=0
    · subst h0
      cases nl <;> cases lb <;> cases an <;> cases ob <;> simp
    · have h5:c.Exps[i - 1]? =some c.Exps[i - 1]:=List.getElem?_eq_getElem (by omega)
      generalize c.Exps[i - 1]=y at h5
      rw[yK (by omega) (by omega)]
      have h7:(0:Int) < i:=by omega
      have h8:(i==0)=false:=by simpa using h0
      have e4:decide (x.Seq≤y.Seq)= !decide (y.Seq < x.Seq):=by rw[← decide_not]; congr 1; simp
      simp only[bH,h5,h7,h8,e4,Option.bind_some,decide_true,if_true,Bool.false_or]
      generalize decide (y.Seq < x.Seq)=od
      cases nl <;> cases lb <;> cases an <;> cases ob <;> cases od <;> simp[cX,aG]
def AD (c:aA):Bool:= !(List.range c.Exps.length).any λi=> !(zS c i && J0 c i)
theorem m72 {F:Nat} {c:aA} (hF:1000≤F) (h:Sm c) (hq:fR c.Seq 0 1073741824=true):XL F c=some (AD c && decide (c.Exps.length≤200)):=by
 have hc:=h.ex
 unfold XL AD
 rw[fD (s0:=(0:Int)) (n:=c.Exps.length) (F:=F) (λi:Nat=>(i:Int)) (λi=> !(zS c i && J0 c i)) (λ_=>false) (by omega) rfl,iH]
 ·cases (List.range c.Exps.length).any λi=> !(zS c i && J0 c i) <;> simp[after]; omega
 ·exact λi hi _=>T7 hF h hq hi
 ·intro _; unfold vA; simp
theorem P7 {F:Nat} {c:aA} (hF:1000≤F) (h:Sm c) {i:Nat} (hi:i < c.Exps.length):
    oX F c i=some (if !zS c i then .ret false else .go ((i+1:Nat):Int)):=by
  have hc:=h.ex
  have hv:=h.vo
  unfold oX zS fR
  have hx:c.Exps[i]? =some c.Exps[i]:=List.getElem?_eq_getElem hi
  generalize c.Exps[i]=x at hx
  rw[iW (by omega)]
  simp only[bH,hx,YK,m61 hF (show c.Vols.length < 1000 by omega),Option.bind_some,cX,aG,cL,dL,Int.ofNat_lt,hi,decide_true,if_true,LK]
  generalize (x.Locs.length==0)=nl
  generalize h9 c x.Locs=lb
  have e1:decide (x.Seq < 0)= !decide (0≤x.Seq):=by rw[← decide_not]; congr 1; simp
  have e2:decide (c.Seq≤x.Seq)= !decide (x.Seq≤c.Seq - 1):=by rw[← decide_not]; congr 1; simp; omega
  have e3:decide (x.Of < 0)= !decide (0≤x.Of):=by rw[← decide_not]; congr 1; simp
  have e5:decide (x.Seq≤x.Of)= !decide (x.Of≤x.Seq - 1):=by rw[← decide_not]; congr 1; simp; omega
  rw[e1,e2,e3,e5]
  generalize decide (0≤x.Seq)=d1
  generalize decide (x.Seq≤c.Seq - 1)=d2
  generalize decide (0≤x.Of)=d3
  generalize decide (x.Of≤x.Seq - 1)=d5
  by_cases h0:i=0
  · subst h0
    cases nl <;> cases lb <;> cases d1 <;> cases d2 <;> cases d3 <;> cases d5 <;> simp
  · have h5:c.Exps[i - 1]? =some c.Exps[i - 1]:=List.getElem?_eq_getElem (by omega)
    generalize c.Exps[i - 1]=y at h5
    rw[yK (by omega) (by omega)]
    have h7:(0:Int) < i:=by omega
    have h8:(i==0)=false:=by simpa using h0
    have e4:decide (x.Seq≤y.Seq)= !decide (y.Seq < x.Seq):=by rw[← decide_not]; congr 1; simp
    simp only[bH,h5,h7,h8,e4,Option.bind_some,decide_true,if_true,Bool.false_or]
    generalize decide (y.Seq < x.Seq)=od
    cases nl <;> cases lb <;> cases d1 <;> cases d2 <;> cases d3 <;> cases d5 <;> cases od <;> simp[cX,aG]
open Go.Vm
theorem YN {a b:Nat} (h:a+b < 1000000000):IntKind.wrap .i64 ((IntKind.wrap .u64 (IntKind.wrap .i64 ((a:Int)+b))).fdiv (2 ^ (min (1:Int).toNat (IntKind.bits .u64))))=(((a+b) / 2:Nat):Int):=by
 have e1:IntKind.wrap .i64 ((a:Int)+b)=((a+b:Nat):Int):=by rw[wr (by omega) (by omega)]; omega
 have e2:∀n:Nat,n < 1000000000→IntKind.wrap .u64 (n:Int)=n:=by
  intro n hn
  have e:IntKind.wrap .u64 (n:Int)=(n:Int) % 18446744073709551616:=rfl
  rw[e]; omega
 rw[e1,e2 _ h]
 have e3:(2:Int) ^ (min (1:Int).toNat (IntKind.bits .u64))=2:=by decide
 rw[e3,Int.fdiv_eq_ediv_of_nonneg _ (by omega),wr (by omega) (by omega)]
 omega
def uF (l:List aB):Prop:=(∀x∈l,m7 x.Id)∧∀(i j:Nat) (x y:aB),l[i]? =some x→l[j]? =some y→i < j→ky x.Id < ky y.Id
theorem T8 {c:aA} (h:Sm c) (hc:vK c=true):uF c.Chunks:=by
 refine⟨λx hx=>(h.g.2.2.1 x hx).1, ?_⟩
 have hs:∀i x y,c.Chunks[i]? =some x→c.Chunks[i+1]? =some y→ky x.Id < ky y.Id:=by
  intro i x y hx hy
  have hi:i+1 < c.Chunks.length:=(List.getElem?_eq_some_iff.1 hy).1
  unfold vK at hc
  simp only[Bool.not_eq_true',List.any_eq_false,List.mem_range] at hc
  have:=hc (i+1) hi
  unfold IG at this
  rw[hy,show i+1 - 1=i from rfl,hx] at this
  simp at this
  exact this.1
 intro i j x y hx hy hij
 obtain⟨k,rfl⟩:∃k,j=i+1+k:=⟨j - i - 1,by omega⟩
 clear hij
 induction k generalizing y with
 | zero=>exact hs i x y hx hy
 | succ k ih=>
  have hk:i+1+k < c.Chunks.length:=by have:=(List.getElem?_eq_some_iff.1 hy).1; omega
  exact Int.lt_trans (ih _ (List.getElem?_eq_getElem hk)) (hs (i+1+k) _ _ (List.getElem?_eq_getElem hk) hy)
theorem bis {F:Nat} {l:List aB} {d:bO} (hr:uF l) (hd:m7 d) (hl:l.length < 1000):∀(G lo hi:Nat),lo≤hi→hi≤l.length→hi - lo < G→
    (∀j x,l[j]? =some x→j < lo→ky x.Id < ky d)→(∀j x,l[j]? =some x→hi≤j→ky d≤ky x.Id)→
    ∃p:Nat,p≤l.length∧aU (λs=>sQ F l d (λx0 x1=>AA F x0 x1) s.1 s.2) G ((lo:Int),(hi:Int))=some (.brk ((p:Int),(p:Int)))∧
      (∀j x,l[j]? =some x→j < p→ky x.Id < ky d)∧(∀j x,l[j]? =some x→p≤j→ky d≤ky x.Id)
  | 0,_,_,_,_,h,_,_=>by omega
  | G+1,lo,hi,h1,h2,h3,h4,h5=>by
    unfold aU sQ
    by_cases hlt:lo < hi
    · have hm:(lo+hi) / 2 < l.length:=by omega
      have hx:l[(lo+hi) / 2]? =some l[(lo+hi) / 2]:=List.getElem?_eq_getElem hm
      generalize l[(lo+hi) / 2]=x at hx
      have gx:=hr.1 x (List.mem_of_getElem? hx)
      have e:AA F x d=some (if ky x.Id < ky d then -1 else if ky d < ky x.Id then 1 else 0):=by unfold AA; rw[ML F gx hd]; rfl
      simp only[Int.ofNat_lt,hlt,decide_true,if_true,YN (show lo+hi < 1000000000 by omega),bH,hx,Option.bind_some,e]
      by_cases hk:ky x.Id < ky d
      · simp only[hk,if_true,show decide ((-1:Int) < 0)=true from rfl,aG]
        rw[iW (by omega)]
        exact bis hr hd hl G ((lo+hi) / 2+1) hi (by omega) h2 (by omega) (λj y hy hj=>by
          rcases Nat.lt_or_ge j ((lo+hi) / 2) with q | q
          · exact Int.lt_trans (hr.2 _ _ _ _ hy hx q) hk
          · obtain rfl:j=(lo+hi) / 2:=by omega
            rw[hx] at hy; cases hy; exact hk) h5
      · have e2:decide ((if ky x.Id < ky d then (-1:Int) else if ky d < ky x.Id then 1 else 0) < 0)=false:=by rw[if_neg hk]; split <;> rfl
        simp only[e2,Bool.false_eq_true,if_false,aG]
        exact bis hr hd hl G lo ((lo+hi) / 2) (by omega) (by omega) (by omega) h4 (λj y hy hj=>by
          rcases Nat.lt_or_ge ((lo+hi) / 2) j with q | q
          · have:=hr.2 _ _ _ _ hx hy q; omega
          · obtain rfl:j=(lo+hi) / 2:=by omega
            rw[hx] at hy; cases hy; omega)
    · obtain rfl:lo=hi:=by omega
      refine⟨lo,h2, ?_,h4,h5⟩
      simp
def kR (l:List aB) (d:bO):Bool:=l.any λx=>decide (x.Id=d)
theorem YO {F:Nat} {l:List aB} {d:bO} (hF:1000≤F) (hr:uF l) (hd:m7 d) (hl:l.length < 1000):∃p:Int,wQ F l d=some (p,kR l d):=by
 unfold wQ ME
 obtain⟨p,hp,e,h1,h2⟩:=bis (F:=F) hr hd hl F 0 l.length (by omega) (Nat.le_refl _) (by omega) (λj x _ hj=>by omega) (λj x hx hj=>by have:=(List.getElem?_eq_some_iff.1 hx).1; omega)
 rw[show ((0:Int),(l.length:Int))=(((0:Nat):Int),(l.length:Int)) from rfl,e]
 simp only[aG]
 refine⟨p, ?_⟩
 by_cases hlt:p < l.length
 ·have hx:l[p]? =some l[p]:=List.getElem?_eq_getElem hlt
  have hmem:=List.getElem_mem hlt
  generalize l[p]=x at hx hmem
  have gx:=hr.1 x hmem
  have e:AA F x d=some (if ky x.Id < ky d then -1 else if ky d < ky x.Id then 1 else 0):=by unfold AA; rw[ML F gx hd]; rfl
  simp only[Int.ofNat_lt,hlt,decide_true,if_true,bH,hx,Option.bind_some,e,aG]
  have hge:=h2 p x hx (Nat.le_refl _)
  have:kR l d=((if ky x.Id < ky d then (-1:Int) else if ky d < ky x.Id then 1 else 0)==0):=by
   rw[if_neg (by omega)]
   unfold kR
   by_cases hk:ky d < ky x.Id
   ·rw[if_pos hk]
    rw[List.any_eq_false.2]
    ·rfl
    intro y hy
    obtain⟨j,hj,rfl⟩:=List.getElem_of_mem hy
    have hy':l[j]? =some l[j]:=List.getElem?_eq_getElem hj
    simp only[decide_eq_true_eq]
    intro he
    rcases Nat.lt_or_ge j p with q | q
    ·have:=h1 j _ hy' q
     rw[he] at this; omega
    ·rcases Nat.lt_or_ge p j with q2 | q2
     ·have:=hr.2 _ _ _ _ hx hy' q2
      rw[he] at this; omega
     ·obtain rfl:j=p:=by omega
      rw[hy'] at hx; cases hx
      rw[he] at hk; omega
   ·rw[if_neg hk]
    refine List.any_eq_true.2 ⟨x,hmem, ?_⟩
    simp only[decide_eq_true_eq]
    exact MK gx hd (by omega)
  rw[this]
 ·have hn:¬((p:Int) < (l.length:Int)):=by omega
  simp only[hn,decide_false,Bool.false_eq_true,if_false,aG,Option.bind_some]
  have:kR l d=false:=by
   unfold kR
   refine List.any_eq_false.2 λy hy=> ?_
   obtain⟨j,hj,rfl⟩:=List.getElem_of_mem hy
   have:=h1 j _ (List.getElem?_eq_getElem hj) (by omega)
   simp only[decide_eq_true_eq]
   intro he
   rw[he] at this; omega
  rw[this]
theorem IH {ρ:Type} {body:Int→Option (Lp Int ρ)} {c:Nat→Bool} {n:Nat} (hb:∀i:Nat,i≤n→body (i:Int)=some (if c i then .go ((i+1:Nat):Int) else .brk (i:Int))) (hn:c n=false):∀(G k:Nat),k≤n→n - k < G→
    ∃p:Nat,p≤n∧c p=false∧aU body G (k:Int)=some (.brk (p:Int))
  | 0,_,_,h=>by omega
  | G+1,k,hk,h=>by
    unfold aU
    rw[hb k hk]
    cases hc:c k
    · exact⟨k,hk,hc,by simp⟩
    · have:k≠n:=by rintro rfl; rw[hn] at hc; cases hc
      obtain⟨p,h1,h2,h3⟩:=IH hb hn G (k+1) (by omega) (by omega)
      exact⟨p,h1,h2,by simpa using h3⟩
theorem p5 {S ρ:Type} {body:S→Option (Lp S ρ)} {I:Nat→S→Prop} {n:Nat} (hb:∀i s,i < n→I i s→∃s',body s=some (.go s')∧I (i+1) s') (he:∀s,I n s→body s=some (.brk s)):∀(G k:Nat) (s:S),k≤n→n - k < G→I k s→
    ∃s',I n s'∧aU body G s=some (.brk s')
  | 0,_,_,_,h,_=>by omega
  | G+1,k,s,hk,h,hi=>by
    unfold aU
    by_cases e:k=n
    · subst e
      rw[he s hi]
      exact⟨s,hi,rfl⟩
    · obtain⟨s',h1,h2⟩:=hb k s (by omega) hi
      rw[h1]
      exact p5 hb he G (k+1) s' (by omega) (by omega) h2
theorem aEN {F:Nat} {l:List bO} {d:bO} (hF:1000≤F) (hl:l.length < 600) (gl:∀x∈l,m7 x) (hd:m7 d):
    ∃r,EO F l d=some r∧(∀x,x∈r.1↔x∈l∨x=d)∧r.1.length≤l.length+1:=by
  unfold EO
  obtain⟨p,h1,h2,h3⟩:=IH (body:=sV F l d) (n:=l.length) (c:=λi=>(l[i]?).any λx=>decide (ky x < ky d)) (λi hi=>by
    unfold sV
    rw[iW (by omega)]
    by_cases hlt:i < l.length
    · have hx:l[i]? =some l[i]:=List.getElem?_eq_getElem hlt
      simp only[Int.ofNat_lt,hlt,decide_true,if_true,bH,hx,Option.bind_some,YL hF (gl _ (List.getElem_mem hlt)) hd,aG,Option.any_some]
      split <;> rfl
    · have hx:l[i]? =none:=List.getElem?_eq_none (by omega)
      simp[Int.ofNat_lt,hlt,hx,aG]) (by simp) F 0 (by omega) (by omega)
  rw[show (0:Int)=((0:Nat):Int) from rfl,h3]
  simp only[aG]
  have hins:(slc l 0 (p:Int)).bind (λx84=>(app ([]:List bO) x84).bind λz86=>(app z86 ([d]:List bO)).bind λz92=>(slc l (p:Int) (l).length).bind λx98=>(app z92 x98).bind λz100=>some (z100,(p:Int),true))
      =some (l.take p++ [d]++l.drop p,(p:Int),true):=by
    unfold slc
    rw[if_pos (by omega),if_pos (by omega)]
    simp only[Option.bind_some,Int.toNat_natCast]
    rw[cC (by simp; omega)]
    simp only[Option.bind_some,List.nil_append]
    rw[cC (by simp; omega)]
    simp only[Option.bind_some]
    rw[cC (by simp; omega)]
    simp
  have hmem:∀x,x∈l.take p++ [d]++l.drop p↔x∈l∨x=d:=by
    intro x
    simp only[List.mem_append,List.mem_singleton]
    rw[show (x∈l∨x=d)↔((x∈l.take p∨x∈l.drop p)∨x=d) from by rw[← List.mem_append,List.take_append_drop]]
    constructor
    · rintro((h | h) | h) <;> simp[h]
    · rintro((h | h) | h) <;> simp[h]
  by_cases hlt:p < l.length
  · have hx:l[p]? =some l[p]:=List.getElem?_eq_getElem hlt
    simp only[Int.ofNat_lt,hlt,decide_true,if_true,bH,hx,Option.bind_some,aG]
    by_cases he:l[p]=d
    · refine⟨(l,(p:Int),false),by simp[he],λx=> ?_,by simp⟩
      constructor
      · exact .inl
      · rintro(h | rfl)
        · exact h
        · rw[← he]; exact List.getElem_mem hlt
    · rw[if_neg (by simpa using he)]
      exact⟨_,hins,hmem,by simp; omega⟩
  · have hn:¬((p:Int) < (l.length:Int)):=by omega
    simp only[hn,decide_false,Bool.false_eq_true,if_false,aG]
    exact⟨_,hins,hmem,by simp; omega⟩
open Go.Vm
theorem GY {a b:ByteArray} (h:a.toList=b.toList):a=b:=Go.WideShapes.bytes_inj (by rwa [Go.Lib.toList_data,Go.Lib.toList_data] at h)
theorem gsn {c:aA} (h:Sm c) {s:aH} (hs:s∈c.Snaps):gI s.Seq∧∀p∈s.Man.Parts,∀d∈p.Ids,m7 d:=by
 have:=h.g.2.1 s hs
 exact⟨this.1,λp hp d hd=>(this.2.1.2 p hp).2.2 d hd⟩
theorem m63 {F:Nat} {m:bG} (hF:1000≤F) (hp:m.Parts.length≤10) (hi:∀p∈m.Parts,p.Ids.length≤40) (hg:∀p∈m.Parts,∀d∈p.Ids,m7 d):
    ∃ids,XX F m=some ids∧(∀x,x∈ids↔∃p∈m.Parts,x∈p.Ids)∧ids.length≤400:=by
  unfold XX
  let I:Nat→List bO×Int→Prop:=λi s=>s.2=(i:Int)∧s.1.length≤40*i∧∀x,x∈s.1↔∃p∈m.Parts.take i,x∈p.Ids
  obtain⟨s,⟨h1,h2,h3⟩,h4⟩:=p5 (body:=λs:List bO×Int=>vH F m s.1 s.2) (I:=I) (n:=m.Parts.length) (λi s hi' hI=>by
      obtain⟨l,q⟩:=s
      obtain⟨rfl,hl,hm⟩:=hI
      simp only at hl hm
      have hx:m.Parts[i]? =some m.Parts[i]:=List.getElem?_eq_getElem hi'
      have hmem:=List.getElem_mem hi'
      have htk:m.Parts.take (i+1)=m.Parts.take i++ [m.Parts[i]]:=by simp
      generalize m.Parts[i]=p at hx hmem htk
      have hpi:=hi p hmem
      have hgp:=hg p hmem
      have hgl:∀x∈l,m7 x:=λx hx=>by
        obtain⟨p',hp',hx'⟩:=(hm x).1 hx
        exact hg p' (List.mem_of_mem_take hp') x hx'
      let J:Nat→List bO×Int→Prop:=λk s=>s.2=(k:Int)∧s.1.length≤40*i+k∧∀x,x∈s.1↔(x∈l∨x∈p.Ids.take k)
      obtain⟨t,⟨j1,j2,j3⟩,j4⟩:=p5 (ρ:=Lp (List bO×Int) (List bO)) (body:=λs:List bO×Int=>vG F m (i:Int) s.1 s.2) (I:=J) (n:=p.Ids.length) (λk s hk hJ=>by
          obtain⟨u,q⟩:=s
          obtain⟨rfl,hu,hv⟩:=hJ
          simp only at hu hv
          have hd:p.Ids[k]? =some p.Ids[k]:=List.getElem?_eq_getElem hk
          have hdm:=List.getElem_mem hk
          have hdk:p.Ids.take (k+1)=p.Ids.take k++ [p.Ids[k]]:=by simp
          generalize p.Ids[k]=d at hd hdm hdk
          obtain⟨r,r1,r2,r3⟩:=aEN (F:=F) (l:=u) (d:=d) hF (by omega) (λx hx=>by
            rcases(hv x).1 hx with q | q
            · exact hgl x q
            · exact hgp x (List.mem_of_mem_take q)) (hgp d hdm)
          refine⟨(r.1,((k+1:Nat):Int)), ?_,rfl,by simp only; omega,λx=> ?_⟩
          · unfold vG
            rw[iW (by omega)]
            simp only[bH,hx,Option.bind_some,Int.ofNat_lt,hk,decide_true,if_true,hd,r1]
          · simp only[r2,hv,hdk,List.mem_append,List.mem_singleton,or_assoc]) (λs hs=>by
          obtain⟨u,q⟩:=s
          obtain⟨rfl, -, -⟩:=hs
          unfold vG
          simp[bH,hx]) F 0 (l,0) (by omega) (by omega) ⟨rfl,by simp only; omega,by simp⟩
      refine⟨(t.1,((i+1:Nat):Int)), ?_,rfl,by simp only; omega,λx=> ?_⟩
      · unfold vH
        rw[iW (by omega)]
        simp only[Int.ofNat_lt,hi',decide_true,if_true,j4,aG]
      · simp only[j3,hm,htk,List.take_length,List.mem_append,List.mem_singleton]
        constructor
        · rintro(⟨p',hp',hx'⟩ | hx')
          · exact⟨p',.inl hp',hx'⟩
          · exact⟨p,.inr rfl,hx'⟩
        · rintro⟨p',hp' | rfl,hx'⟩
          · exact .inl ⟨p',hp',hx'⟩
          · exact .inr hx') (λs hs=>by
      obtain⟨u,q⟩:=s
      obtain⟨rfl, -, -⟩:=hs
      unfold vH
      simp) F 0 ([],0) (by omega) (by omega) ⟨rfl,by simp,by simp⟩
  rw[h4]
  exact⟨s.1,by simp only[aG],by simpa using h3,by omega⟩
theorem m64 {F:Nat} {c:aA} {d:bO} (hF:1000≤F) (hl:c.Chunks.length < 1000):∃n:Int,KL F c d=some n∧(decide (n < 0))= !kR c.Chunks d:=by
 have:=s9 (l:=c.Chunks) (λx=>decide (x.Id=d)) (F:=F) (body:=oU F c d) (by omega) (λi hi=>by
  unfold oU
  have hx:c.Chunks[i]? =some c.Chunks[i]:=List.getElem?_eq_getElem hi
  rw[iW (by omega)]
  simp only[bH,hx,Option.bind_some,Int.ofNat_lt,hi,decide_true,if_true,Option.any_some]
  split <;> rfl) (by unfold oU; simp)
 rw[show (after (aU (oU F c d) F 0) λ_=>some (-1))=KL F c d from rfl] at this
 obtain⟨n,h1,h2⟩:=Option.bind_eq_some_iff.1 this
 refine⟨n,h1, ?_⟩
 have h3:=Option.some.inj h2
 unfold kR
 rw[← h3,← decide_not]
 congr 1
 simp
theorem m50 {F:Nat} {c:aA} {i:Nat} {s:aH} (hF:1000≤F) (hl:c.Snaps.length < 1000) (hs:c.Snaps[i]? =some s):
    ∃n:Int,yM F c s.Man.Name=some n∧(n !=(i:Int))=(c.Snaps.take i).any λy=>s.Man.Name==y.Man.Name:=by
  have hi:i < c.Snaps.length:=(List.getElem?_eq_some_iff.1 hs).1
  have hsi:c.Snaps[i]=s:=by have:=List.getElem?_eq_getElem hi; rw[hs] at this; exact(Option.some.inj this).symm
  unfold yM
  rw[fD (s0:=(0:Int)) (n:=c.Snaps.length) (F:=F) (λi:Nat=>(i:Int)) (λi=>(c.Snaps[i]?).any λy=>y.Man.Name.toList==s.Man.Name.toList) (λi=>(i:Int)) (by omega) rfl]
  · unfold LF
    have hp:((c.Snaps[i]?).any λy=>y.Man.Name.toList==s.Man.Name.toList)=true:=by rw[hs]; simp
    cases h:(List.range c.Snaps.length).find? λi=>(c.Snaps[i]?).any λy=>y.Man.Name.toList==s.Man.Name.toList with
    | none=>
      have:=List.find?_eq_none.1 h i (List.mem_range.2 hi)
      exact absurd hp this
    | some k=>
      refine⟨(k:Int),rfl, ?_⟩
      obtain⟨hk1,hk2,hk3⟩:=List.find?_range_eq_some.1 h
      rw[Bool.eq_iff_iff]
      simp only[bne_iff_ne,ne_eq,List.any_eq_true]
      have hkl:k < c.Snaps.length:=List.mem_range.1 hk2
      rw[List.getElem?_eq_getElem hkl] at hk1
      simp only[Option.any_some,beq_iff_eq] at hk1
      constructor
      · intro hne
        have hki:k < i:=by
          rcases Nat.lt_or_ge k i with q | q
          · exact q
          · have:=hk3 i (by omega)
            rw[hp] at this; cases this
        refine⟨c.Snaps[k], ?_, ?_⟩
        · rw[List.mem_take_iff_getElem]
          exact⟨k,by omega,rfl⟩
        · exact(lB _ _).2 (GY hk1.symm)
      · rintro⟨y,hy,he⟩ hc
        rw[List.mem_take_iff_getElem] at hy
        obtain⟨j,hj,rfl⟩:=hy
        have:=hk3 j (by omega)
        rw[List.getElem?_eq_getElem (by omega)] at this
        rw[(lB _ _).1 he] at this
        simp at this
  · intro j hj _
    unfold oW
    have hx:c.Snaps[j]? =some c.Snaps[j]:=List.getElem?_eq_getElem hj
    rw[iW (by omega)]
    simp only[bH,hx,Option.bind_some,Int.ofNat_lt,hj,decide_true,if_true,Option.any_some]
    split <;> rfl
  · intro _; unfold oW; simp
def MP (c:aA) (m:bG):Bool:=m.Parts.all λp=>p.Ids.all λd=>kR c.Chunks d
def DQ (c:aA) (i:Nat):Bool:=match c.Snaps[i]? with
 | none=>true
 | some s=>fR s.Seq 0 (c.Seq - 1) && (i==0 || (match c.Snaps[i - 1]? with | none=>true | some y=>decide (y.Seq < s.Seq))) && !((c.Snaps.take i).any λy=>s.Man.Name==y.Man.Name) && vL s.Man && h9 c s.Locs
def FM (c:aA) (i:Nat):Bool:=match c.Snaps[i]? with
 | none=>true
 | some s=>MP c s.Man
def RZ (c:aA) (i:Nat):Bool:=match c.Snaps[i]? with
 | none=>true
 | some s=> !c.Exps.any λx=>x.Of==s.Seq
def R0 (c:aA) (i:Nat):List ByteArray:=(c.Snaps.take i).foldl (λl s=>mK l s.Man.Name) []
theorem P8 (c:aA) (x:ByteArray):∀i,((R0 c i).any λz=>x==z)=(c.Snaps.take i).any λy=>x==y.Man.Name:=by
 have:∀(l:List aH) (acc:List ByteArray),((l.foldl (λl s=>mK l s.Man.Name) acc).any λz=>x==z)=((acc.any λz=>x==z) || l.any λy=>x==y.Man.Name):=by
  intro l
  induction l with
  | nil=>simp
  | cons s l ih=>
   intro acc
   rw[List.foldl_cons,ih,List.any_cons,← Bool.or_assoc]
   congr 1
   unfold mK
   split
   ·rename_i h
    rw[Bool.eq_iff_iff]
    simp only[Bool.or_eq_true,List.any_eq_true] at h ⊢
    constructor
    ·exact .inl
    ·rintro(q | q)
     ·exact q
     ·obtain⟨y,hy,he⟩:=h
      rw[(lB _ _).1 q,(lB _ _).1 he]
      exact⟨y,hy,(lB _ _).2 rfl⟩
   ·simp
 intro i
 rw[R0,this]
 simp
open Go.Vm
theorem T9 {F:Nat} {c:aA} {s:aH} (hF:1000≤F) (h:Sm c) (hr:uF c.Chunks) (hs:s∈c.Snaps):
    aU (λq=>vD F c s q) F 0=some (if !MP c s.Man then .ret (.ret false) else .brk (s.Man.Parts.length:Int)):=by
  obtain⟨-,h2,h3⟩:=h.man s hs
  have hg:=(gsn h hs).2
  have hc:=h.ch
  rw[fD (s0:=(0:Int)) (n:=s.Man.Parts.length) (F:=F) (λi:Nat=>(i:Int)) (λi=>(s.Man.Parts[i]?).any λp=> !p.Ids.all λd=>kR c.Chunks d) (λ_=>.ret false) (by omega) rfl,iH,iO,sY]
  · rfl
  · intro i hi _
    unfold vD
    have hx:s.Man.Parts[i]? =some s.Man.Parts[i]:=List.getElem?_eq_getElem hi
    have hm:=List.getElem_mem hi
    generalize s.Man.Parts[i]=p at hx hm
    have h4:=(h3 p hm).2
    rw[iW (by omega)]
    simp only[bH,hx,Option.bind_some,Int.ofNat_lt,hi,decide_true,if_true,Option.any_some]
    rw[fD (s0:=(0:Int)) (n:=p.Ids.length) (F:=F) (λi:Nat=>(i:Int)) (λi=>(p.Ids[i]?).any λd=> !kR c.Chunks d) (λ_=>.ret (.ret false)) (by omega) rfl,iH,iO,sY]
    · cases p.Ids.all λd=>kR c.Chunks d <;> simp[after]
    · intro k hk _
      unfold yI
      have hd:p.Ids[k]? =some p.Ids[k]:=List.getElem?_eq_getElem hk
      have hdm:=List.getElem_mem hk
      generalize p.Ids[k]=d at hd hdm
      obtain⟨z,hz⟩:=YO (F:=F) (l:=c.Chunks) (d:=d) hF hr (hg p hm d hdm) (by omega)
      rw[iW (by omega)]
      simp only[bH,hd,Option.bind_some,Int.ofNat_lt,hk,decide_true,if_true,Option.any_some,hz]
      split <;> rfl
    · intro _; unfold yI; simp
  · intro _; unfold vD; simp
theorem MQ {c:aA} {i:Nat} {s:aH} (hx:c.Snaps[i]? =some s):R0 c (i+1)=mK (R0 c i) s.Man.Name:=by
 unfold R0
 have hi:=(List.getElem?_eq_some_iff.1 hx)
 obtain⟨hi,rfl⟩:=hi
 rw[List.take_succ_eq_append_getElem hi,List.foldl_append]
 rfl
theorem UA {F:Nat} {c:aA} (hF:1000≤F) (h:Sm c) (hr:uF c.Chunks) (hq:fR c.Seq 0 1073741824=true) {i:Nat} (hi:i < c.Snaps.length):
    vF F c (R0 c i) i=some (if !(DQ c i && FM c i) then .ret false else .go (R0 c (i+1),((i+1:Nat):Int))):=by
  have hv:=h.vo
  have hsn:=h.sn
  have hq':0≤c.Seq∧c.Seq≤1073741824:=by simpa [fR] using hq
  unfold vF DQ FM
  have hx:c.Snaps[i]? =some c.Snaps[i]:=List.getElem?_eq_getElem hi
  have hm:=List.getElem_mem hi
  generalize c.Snaps[i]=x at hx hm
  rw[iW (by omega),wr (n:=c.Seq - 1) (by omega) (by omega),MQ hx]
  simp only[bH,hx,T1,m73 hF,T2 hF (show c.Vols.length < 1000 by omega),Option.bind_some,cX,aG,cL,dL,Int.ofNat_lt,hi,decide_true,if_true,P8,T9 hF h hr hm]
  generalize ((c.Snaps.take i).any λy=>x.Man.Name==y.Man.Name)=nb
  generalize h9 c x.Locs=lb
  generalize MP c x.Man=pb
  have e1:((if vL x.Man=true then (0:Int) else 1) !=0)= !vL x.Man:=by cases vL x.Man <;> rfl
  rw[e1]
  generalize vL x.Man=mb
  generalize fR x.Seq 0 (c.Seq - 1)=ib
  by_cases h0:i=0
  · subst h0
    cases nb <;> cases lb <;> cases pb <;> cases mb <;> cases ib <;> simp[aG,cL]
  · have h5:c.Snaps[i - 1]? =some c.Snaps[i - 1]:=List.getElem?_eq_getElem (by omega)
    generalize c.Snaps[i - 1]=y at h5
    rw[yK (by omega) (by omega)]
    have h7:(0:Int) < i:=by omega
    have h8:(i==0)=false:=by simpa using h0
    have e4:decide (x.Seq≤y.Seq)= !decide (y.Seq < x.Seq):=by rw[← decide_not]; congr 1; simp
    simp only[bH,h5,h7,h8,e4,Option.bind_some,decide_true,if_true,Bool.false_or]
    generalize decide (y.Seq < x.Seq)=od
    cases nb <;> cases lb <;> cases pb <;> cases mb <;> cases ib <;> cases od <;> simp[aG,cL]
def CS (c:aA):Bool:= !(List.range c.Snaps.length).any λi=> !(DQ c i && FM c i)
theorem m71 {F:Nat} {c:aA} (hF:1000≤F) (h:Sm c) (hr:uF c.Chunks) (hq:fR c.Seq 0 1073741824=true):XQ F c=some (CS c && decide (c.Snaps.length≤8)):=by
 have hc:=h.sn
 unfold XQ CS
 rw[fD (s0:=(([]:List ByteArray),(0:Int))) (n:=c.Snaps.length) (F:=F) (λi:Nat=>(R0 c i,(i:Int))) (λi=> !(DQ c i && FM c i)) (λ_=>false) (by omega) rfl,iH]
 ·cases (List.range c.Snaps.length).any λi=> !(DQ c i && FM c i) <;> simp[after]; omega
 ·exact λi hi _=>UA hF h hr hq hi
 ·intro _; unfold vF; simp
theorem UB {F:Nat} {c:aA} (hF:1000≤F) (h:Sm c) {i:Nat} (hi:i < c.Snaps.length):
    rO F c i=some (if !(DQ c i && FM c i && RZ c i) then .ret false else .go ((i+1:Nat):Int)):=by
  have hv:=h.vo
  have hsn:=h.sn
  have hch:=h.ch
  have hex:=h.ex
  unfold rO DQ FM RZ fR
  have hx:c.Snaps[i]? =some c.Snaps[i]:=List.getElem?_eq_getElem hi
  have hm:=List.getElem_mem hi
  generalize c.Snaps[i]=x at hx hm
  obtain⟨k1,k2,k3⟩:=h.man x hm
  obtain⟨ids,i1,i2,i3⟩:=m63 (F:=F) (m:=x.Man) hF k2 (λp hp=>(k3 p hp).2) (gsn h hm).2
  obtain⟨n,n1,n2⟩:=m50 (F:=F) hF (by omega) hx
  rw[iW (by omega)]
  have l7:aU (λs=>vI F c ids s) F 0=some (if !MP c x.Man then .ret (.ret false) else .brk (ids.length:Int)):=by
    rw[fD (s0:=(0:Int)) (n:=ids.length) (F:=F) (λi:Nat=>(i:Int)) (λi=>(ids[i]?).any λd=> !kR c.Chunks d) (λ_=>.ret false) (by omega) rfl,iH,iO,sY]
    · have:MP c x.Man=ids.all λd=>kR c.Chunks d:=by
        rw[Bool.eq_iff_iff]
        simp only[MP,List.all_eq_true]
        constructor
        · intro q d hd
          obtain⟨p,hp,hd'⟩:=(i2 d).1 hd
          exact q p hp d hd'
        · intro q p hp d hd
          exact q d ((i2 d).2 ⟨p,hp,hd⟩)
      rw[this]
    · intro k hk _
      unfold vI
      have hd:ids[k]? =some ids[k]:=List.getElem?_eq_getElem hk
      generalize ids[k]=d at hd
      obtain⟨z,hz,hz2⟩:=m64 (F:=F) (c:=c) (d:=d) hF (by omega)
      rw[iW (by omega)]
      simp only[bH,hd,Option.bind_some,Int.ofNat_lt,hk,decide_true,if_true,Option.any_some,hz,hz2]
      split <;> rfl
    · intro _; unfold vI; simp
  have l9:aU (λs=>vJ F c x s) F 0=some (if c.Exps.any λy=>y.Of==x.Seq then .ret (.ret false) else .brk (c.Exps.length:Int)):=by
    rw[fD (s0:=(0:Int)) (n:=c.Exps.length) (F:=F) (λi:Nat=>(i:Int)) (λi=>(c.Exps[i]?).any λy=>y.Of==x.Seq) (λ_=>.ret false) (by omega) rfl,iH,iO]
    · intro k hk _
      unfold vJ
      have hd:c.Exps[k]? =some c.Exps[k]:=List.getElem?_eq_getElem hk
      rw[iW (by omega)]
      simp only[bH,hd,Option.bind_some,Int.ofNat_lt,hk,decide_true,if_true,Option.any_some]
      split <;> rfl
    · intro _; unfold vJ; simp
  simp only[bH,hx,m62 hF k1 (λp hp=>(k3 p hp).1),m61 hF (show c.Vols.length < 1000 by omega),n1,n2,i1,l7,l9,Option.bind_some,cX,aG,cL,dL,Int.ofNat_lt,hi,decide_true,if_true]
  generalize ((c.Snaps.take i).any λy=>x.Man.Name==y.Man.Name)=nb
  generalize h9 c x.Locs=lb
  generalize MP c x.Man=pb
  generalize (c.Exps.any λy=>y.Of==x.Seq)=xb
  generalize vL x.Man=mb
  have e1:decide (x.Seq < 0)= !decide (0≤x.Seq):=by rw[← decide_not]; congr 1; simp
  have e2:decide (c.Seq≤x.Seq)= !decide (x.Seq≤c.Seq - 1):=by rw[← decide_not]; congr 1; simp; omega
  rw[e1,e2]
  generalize decide (0≤x.Seq)=d1
  generalize decide (x.Seq≤c.Seq - 1)=d2
  by_cases h0:i=0
  · subst h0
    cases nb <;> cases lb <;> cases pb <;> cases mb <;> cases d1 <;> cases d2 <;> cases xb <;> simp[aG,cL]
  · have h5:c.Snaps[i - 1]? =some c.Snaps[i - 1]:=List.getElem?_eq_getElem (by omega)
    generalize c.Snaps[i - 1]=y at h5
    rw[yK (by omega) (by omega)]
    have h7:(0:Int) < i:=by omega
    have h8:(i==0)=false:=by simpa using h0
    have e4:decide (x.Seq≤y.Seq)= !decide (y.Seq < x.Seq):=by rw[← decide_not]; congr 1; simp
    simp only[bH,h5,h7,h8,e4,Option.bind_some,decide_true,if_true,Bool.false_or]
    generalize decide (y.Seq < x.Seq)=od
    cases nb <;> cases lb <;> cases pb <;> cases mb <;> cases d1 <;> cases d2 <;> cases xb <;> cases od <;> simp[aG,cL]
def iA (c:aA):Bool:=fR c.Seq 0 1073741824 && (c.Vols.all mA && fR c.Vols.length 1 8) && (vK c && decide (c.Chunks.length≤200)) && (CS c && decide (c.Snaps.length≤8)) && (AD c && decide (c.Exps.length≤200))
theorem m33 {F:Nat} {c:aA} (hF:1000≤F) (h:Sm c):V4 F c=some (if iA c then 0 else 1):=by
 have hv:=h.vo
 unfold V4 iA
 simp only[T1,m69 hF hv,m70 hF h,Option.bind_some,cX,aG,dL]
 cases hq:fR c.Seq 0 1073741824
 ·simp
 ·cases hv':(c.Vols.all mA && fR c.Vols.length 1 8)
  ·simp
  ·cases hc:vK c
   ·simp
   ·have hr:=T8 h hc
    simp only[m71 hF h hr hq,m72 hF h hq,Option.bind_some,dL,cX,aG]
    generalize decide (c.Chunks.length≤200)=a
    generalize (CS c && decide (c.Snaps.length≤8))=b
    generalize (AD c && decide (c.Exps.length≤200))=d
    cases a <;> cases b <;> cases d <;> simp
theorem tA {n:Nat} (p q:Nat→Bool):((List.range n).any λi=> !(p i && q i))=(((List.range n).any λi=> !p i) || (List.range n).any λi=> !q i):=by
 rw[Bool.eq_iff_iff]
 simp only[Bool.or_eq_true,List.any_eq_true,Bool.not_eq_true',Bool.and_eq_false_iff]
 constructor
 ·rintro⟨i,hi,q | q⟩
  ·exact .inl ⟨i,hi,q⟩
  ·exact .inr ⟨i,hi,q⟩
 ·rintro(⟨i,hi,q⟩ | ⟨i,hi,q⟩)
  ·exact⟨i,hi,.inl q⟩
  ·exact⟨i,hi,.inr q⟩
theorem YP (c:aA):((List.range c.Snaps.length).any λi=> !RZ c i)=(List.range c.Exps.length).any λi=> !J0 c i:=by
 have h1:((List.range c.Snaps.length).any λi=> !RZ c i)=c.Snaps.any λs=>c.Exps.any λx=>x.Of==s.Seq:=by
  refine Eq.trans ?_ (iO c.Snaps _)
  congr 1
  funext i
  unfold RZ
  cases c.Snaps[i]? <;> simp
 have h2:((List.range c.Exps.length).any λi=> !J0 c i)=c.Exps.any λx=>c.Snaps.any λs=>s.Seq==x.Of:=by
  refine Eq.trans ?_ (iO c.Exps _)
  congr 1
  funext i
  unfold J0
  cases c.Exps[i]? <;> simp
 rw[h1,h2,Bool.eq_iff_iff]
 simp only[List.any_eq_true,beq_iff_eq]
 constructor
 ·rintro⟨s,hs,x,hx,e⟩; exact⟨x,hx,s,hs,e.symm⟩
 ·rintro⟨x,hx,s,hs,e⟩; exact⟨s,hs,x,hx,e.symm⟩
theorem m19 {F:Nat} {c:aA} (hF:1000≤F) (h:Sm c):TY F c=some (iA c):=by
 have hv:=h.vo
 have hsn:=h.sn
 have hch:=h.ch
 have hex:=h.ex
 have l0:aU (λs=>rM F c s) F 0=some (if !c.Vols.all mA then .ret false else .brk (c.Vols.length:Int)):=by
  rw[fD (s0:=(0:Int)) (n:=c.Vols.length) (F:=F) (λi:Nat=>(i:Int)) (λi=>(c.Vols[i]?).any λv=> !mA v) (λ_=>false) (by omega) rfl,iH,iO,sY]
  ·exact λi hi _=>T4 hF h hi
  ·intro _; unfold rM; simp
 have l3:aU (λs=>rN F c s) F 0=some (if !vK c then .ret false else .brk (c.Chunks.length:Int)):=by
  rw[fD (s0:=(0:Int)) (n:=c.Chunks.length) (F:=F) (λi:Nat=>(i:Int)) (λi=> !IG c i) (λ_=>false) (by omega) rfl,iH]
  ·unfold vK; rw[Bool.not_not]
  ·exact λi hi _=>T3 hF h hi
  ·intro _; unfold rN; simp
 have l5:aU (λs=>rO F c s) F 0=some (if (List.range c.Snaps.length).any λi=> !(DQ c i && FM c i && RZ c i) then .ret false else .brk (c.Snaps.length:Int)):=by
  rw[fD (s0:=(0:Int)) (n:=c.Snaps.length) (F:=F) (λi:Nat=>(i:Int)) (λi=> !(DQ c i && FM c i && RZ c i)) (λ_=>false) (by omega) rfl,iH]
  ·exact λi hi _=>UB hF h hi
  ·intro _; unfold rO; simp
 have l11:aU (λs=>oX F c s) F 0=some (if (List.range c.Exps.length).any λi=> !zS c i then .ret false else .brk (c.Exps.length:Int)):=by
  rw[fD (s0:=(0:Int)) (n:=c.Exps.length) (F:=F) (λi:Nat=>(i:Int)) (λi=> !zS c i) (λ_=>false) (by omega) rfl,iH]
  ·exact λi hi _=>P7 hF h hi
  ·intro _; unfold oX; simp
 have hs:CS c= !(List.range c.Snaps.length).any λi=> !(DQ c i && FM c i):=rfl
 have he:AD c= !(((List.range c.Exps.length).any λi=> !zS c i) || (List.range c.Exps.length).any λi=> !J0 c i):=by unfold AD; rw[tA]
 unfold TY iA
 rw[tA (λi=>DQ c i && FM c i) (RZ c),YP] at l5
 simp only[YK,l0,l3,l5,l11,hs,he,Option.bind_some,cX,aG,dL]
 generalize ((List.range c.Snaps.length).any λi=> !(DQ c i && FM c i))=a1
 generalize ((List.range c.Exps.length).any λi=> !zS c i)=a2
 generalize ((List.range c.Exps.length).any λi=> !J0 c i)=a3
 generalize c.Vols.all mA=a4
 generalize vK c=a5
 generalize fR c.Seq 0 1073741824=a6
 generalize fR c.Vols.length 1 8=a7
 have f1:decide (8 < (c.Snaps.length:Int))= !decide (c.Snaps.length≤8):=by rw[← decide_not]; congr 1; simp; omega
 have f2:decide (200 < (c.Chunks.length:Int))= !decide (c.Chunks.length≤200):=by rw[← decide_not]; congr 1; simp; omega
 have f3:decide (200 < (c.Exps.length:Int))= !decide (c.Exps.length≤200):=by rw[← decide_not]; congr 1; simp; omega
 rw[f1,f2,f3]
 generalize decide (c.Snaps.length≤8)=b1
 generalize decide (c.Chunks.length≤200)=b2
 generalize decide (c.Exps.length≤200)=b3
 cases a6 <;> cases b1 <;> cases b2 <;> cases b3 <;> cases a7 <;> cases a4 <;> cases a5 <;> cases a1 <;> cases a2 <;> cases a3 <;> rfl
open Go.Vm
def wR (m:Nat) (p0:List a8):Option ((List a8)):=
 (app ([]:List a8) p0).bind λz4=>some z4
theorem MR {w:Nat} {p0:List a8} {o:(List a8)} (h:aE) (m:wR w p0=some o):
 aL Tryz.prog 151 [.sl none 4 (List.map aN p0)] h (λr h'=>r= .sl none 4 (List.map aN o)∧h'=h):=by
 refine f8 7 [.tmp 2] Tryz.func151 rfl rfl rfl rfl ?_
 unfold wR at m
 refine v (v (v ?_))
 obtain⟨z4,Z5,m⟩:=aC m
 refine ve λu=>oN (c:=aN) Z5 pJ rfl rfl u nofun rfl λtg6 t7 K8=>qk K8 rfl (v ?_)
 obtain rfl:=eT m
 exact vr λu=>dW.of1 (.inl rfl) (fT _ _ (ow _ _ _) rfl) (aT (List.nil_sublist _) u).1 ((eZ _ 0 t7 u rfl)) ⟨rfl,rfl⟩
theorem ET:aO Tryz.prog 151=true:=by kernel_rfl
def vM (m:Nat) (p0:List Int):Option ((List Int)):=
 (app ([]:List Int) p0).bind λz4=>some z4
theorem MS {w:Nat} {p0:List Int} {o:(List Int)} (h:aE) (m:vM w p0=some o):
 aL Tryz.prog 141 [.sl none 1 (List.map dF p0)] h (λr h'=>r= .sl none 1 (List.map dF o)∧h'=h):=by
 refine f8 7 [.tmp 2] Tryz.func141 rfl rfl rfl rfl ?_
 unfold vM at m
 refine v (v (v ?_))
 obtain⟨z4,Z5,m⟩:=aC m
 refine ve λu=>oN (c:=dF) Z5 jH rfl rfl u nofun rfl λtg6 t7 K8=>qk K8 rfl (v ?_)
 obtain rfl:=eT m
 exact vr λu=>dW.of1 (.inl rfl) (fT _ _ (ow _ _ _) rfl) (aT (List.nil_sublist _) u).1 ((eZ _ 0 t7 u rfl)) ⟨rfl,rfl⟩
theorem EU:aO Tryz.prog 141=true:=by kernel_rfl
def tB (m:Nat) (p0:bG) (q0:List dJ) (q1:Int):Option (Lp ((List dJ)×Int) (bG)):=
 if (decide (q1 < (p0.Parts.length:Int)))=true then ((ix p0.Parts q1).bind λx0=>(app ([]:List bO) x0.Ids).bind λz0=>(app q0 ([({ Path:=x0.Path,Size:=x0.Size,Ids:=z0}:dJ)]:List dJ)).bind λz1=>some (.go (z1,IntKind.wrap .i64 (q1+1)))) else some (.brk (q0,q1))
def GZ (m:Nat) (p0:bG):Option (bG):=
 after (aU (λs=>tB m p0 s.1 s.2) m ([],0)) λ⟨r0,r1⟩=>some ({ Name:=p0.Name,Parts:=r0}:bG)
theorem YQ {w:Nat} {p0:bG} {o:bG} (h:aE) (m:GZ w p0=some o):
 aL Tryz.prog 150 [.agg (bK p0)] h (λr h'=>r= .agg (bK o)∧h'=h):=by
 refine f8 31 [.cell 2 58] Tryz.func150 rfl rfl rfl rfl ?_
 unfold GZ at m
 refine v (gY rfl rfl λk2 K3=>ve λu=>bJ ([.sc (.string ByteArray.empty),sZ]) u LV rfl rfl λk5 K6=>qk K6 rfl (v (v (qK (FL (.tok 70 3 (([]:List dJ).length*3)) 3 (ow none 3 (List.map bX [])) (jD _ _)) (nR m (σ:=(List dJ)×Int) (τ:=Option cB) (λg s=> [(g,.tok 70 3 ((s.1:List dJ).length*3)),(some k5,.obj 58 ([.sc (.string ByteArray.empty),sZ])),(some k2,.obj 58 (bK p0))]) (λg s=>(g=none→s.1= [])) (λg s=>.c 1 (.ptr k2 0) (.c 2 (.ptr k5 0) (.c 3 (ow g 3 (List.map bX s.1)) (.c 4 (nZ s.2) .nil)))) none (λ_=>rfl) (lx (.k4 .nil)) ?_ ?_)))))
 rintro tg0 ⟨q0,q1⟩ x t0 m
 replace m:tB w p0 q0 q1=some x:=m
 unfold tB at m
 refine v (vl 2 _ nF rfl rfl rfl (dE uX rfl (v ?_)))
 apply vi m <;> intro c0 m
 refine v (v (v (vl 2 _ nF rfl rfl rfl (vx m rJ rfl rfl λx0 _ m=>va (.agg (bX x0)) CN rfl rfl (ve λu=>bJ (VY) u GP rfl rfl λk103 K0=>qk K0 rfl (ve λu=>aK 0 (bX x0) u rfl rfl rfl rfl JU rfl rfl λK1=>qk K1 rfl (v (v (vl 0 _ u6 rfl rfl rfl ?_)))))))))
 obtain⟨z0,Z0,m⟩:=aC m
 refine ve λu=>oN (c:=bL) Z0 CM rfl rfl u nofun rfl λtg1 t1 K2=>qk K2 rfl (ve λu=>aK 1 ([.sc (.string x0.Path),nZ x0.Size,ow tg1 32 (List.map bL z0)]) u rfl rfl (jE rfl) (pR _ _ _) TP rfl rfl λK4=>qk K4 rfl (v (vl 1 (.agg ([.sc (.string x0.Path),nZ x0.Size,ow tg1 32 (List.map bL z0)])) CN rfl rfl rfl (ve λu=>CE (t:=25) (.agg (bX ({ Path:=x0.Path,Size:=x0.Size,Ids:=z0}:dJ))) (aT (.cons _ (.refl _)) u).1 (bF.agg (.k2 (.cons (mZ _ 0 t1 u rfl (.refl _)) .nil))) (a_v (eK (List.map bX ([({ Path:=x0.Path,Size:=x0.Size,Ids:=z0}:dJ)]:List dJ)) JS rfl rfl rfl rfl) (qk ((aT (.cons _ (.refl _)) u).2) rfl ?_))))))
 obtain⟨z1,Z1,m⟩:=aC m
 exact ve λu=>fF (c:=bX) 1 Z1 JS rfl rfl rfl t0 u rfl λtg2 t2 K5=>qk K5 rfl (v (eW m tg2 t2 (lW [1,2,3] rfl rfl (.k4 .nil))))
 exact v (lM m tg0 t0 (lx (.k4 .nil)))
 rintro tg3 ⟨r0,r1⟩ t3 m
 refine v (ve λu=>aK 2 ([.sc (.string p0.Name),ow tg3 3 (List.map bX r0)]) u rfl rfl (jE rfl) (pR _ _ _) TE rfl rfl λK7=>qk K7 rfl (v (vl 2 (.agg ([.sc (.string p0.Name),ow tg3 3 (List.map bX r0)])) nU rfl rfl rfl (ve λu=>aK 1 ([.sc (.string p0.Name),ow tg3 3 (List.map bX r0)]) u rfl rfl rfl (by repeat (first | exact rfl | refine cD (iL _ _ _) ?_ | refine cD (bW _ _ _) ?_ | refine cD (gJ _ _ _ _) ?_ | refine cD rfl ?_)) zZ rfl rfl λK8=>qk K8 rfl ?_))))
 refine v ?_
 cases m
 exact vr λu=>dW.of1 (.inl rfl) (qW (.agg ([.sc (.string p0.Name),ow tg3 3 (List.map bX r0)])) nU rfl (bB 1 u rfl) rfl) (aT (List.nil_sublist _) u).1 (bF.agg (.cons (bF.refl _ _) (.cons ((eZ _ 0 t3 u rfl)) .nil))) ⟨rfl,rfl⟩
theorem R4:aO Tryz.prog 150=true:=by kernel_rfl
def tC (m:Nat) (p0:List aB) (q0:List aB) (q1:Int):Option (Lp ((List aB)×Int) ((List aB))):=
 if (decide (q1 < (p0.length:Int)))=true then ((ix p0 q1).bind λx0=>(vM m x0.Data).bind λy0=>(wR m x0.Locs).bind λy1=>(app q0 ([{ { x0 with Data:=y0} with Locs:=y1}]:List aB)).bind λz0=>some (.go (z0,IntKind.wrap .i64 (q1+1)))) else some (.brk (q0,q1))
def J1 (m:Nat) (p0:List aB):Option ((List aB)):=
 after (aU (λs=>tC m p0 s.1 s.2) m ([],0)) λ⟨r0,r1⟩=>some r0
theorem aEQ {w:Nat} {p0:List aB} {o:(List aB)} (h:aE) (m:J1 w p0=some o):
 aL Tryz.prog 152 [.sl none 35 (List.map aI p0)] h (λr h'=>r= .sl none 35 (List.map aI o)∧h'=h):=by
 refine f8 29 [.tmp 2] Tryz.func152 rfl rfl rfl rfl ?_
 unfold J1 at m
 refine v (v (v (qK (FL (.tok 44 35 (([]:List aB).length*35)) 3 (ow none 35 (List.map aI [])) (jD _ _)) (nR m (σ:=(List aB)×Int) (τ:=Option cB) (λg s=> [(g,.tok 44 35 ((s.1:List aB).length*35))]) (λg s=>(g=none→s.1= [])) (λg s=>.c 0 (.sl none 35 (List.map aI p0)) (.c 3 (ow g 35 (List.map aI s.1)) (.c 4 (nZ s.2) .nil))) none (λ_=>rfl) (lx (.k3 .nil)) ?_ ?_))))
 rintro tg0 ⟨q0,q1⟩ x t0 m
 replace m:tC w p0 q0 q1=some x:=m
 unfold tC at m
 refine v (dE iG rfl (v ?_))
 apply vi m <;> intro c0 m
 refine v (v (v (vx m fH rfl rfl λx0 _ m=>va (.agg (aI x0)) kQ rfl rfl (ve λu=>bJ (bL jW++(FN:List AV)) u l6 rfl rfl λk109 K0=>qk K0 rfl (ve λu=>aK 0 (aI x0) u rfl rfl rfl rfl rI rfl rfl λK1=>qk K1 rfl (v (vz [(7,some k109,.obj 44 (aI x0))] mixed (λu=>⟨λ_=>aJ 0 u rfl,trivial⟩) λu=>zF 0 rfl jS rfl (zL 1 0 (.sl none 1 (List.map dF x0.Data)) rfl kA rfl rfl rfl ?_))))))))
 obtain⟨y0,Y0,m⟩:=aC m
 refine zC 2 rfl (bY (MS _ Y0) rfl EU rfl) (zF 3 rfl iV rfl (zL 4 0 (.sl none 4 (List.map aN x0.Locs)) rfl eL rfl rfl rfl ?_))
 obtain⟨y1,Y1,m⟩:=aC m
 refine zC 5 rfl (bY (MR _ Y1) rfl ET rfl) (zF 6 rfl jS rfl (zE 7 rfl (aK 0 (aI { x0 with Data:=y0}) u rfl rfl rfl rfl CJ rfl rfl λK2=>⟨⟨λe=>absurd e (by decide),trivial⟩, ?_⟩)))
 refine zF 8 rfl iV rfl (zE 9 rfl (aK 0 (aI { { x0 with Data:=y0} with Locs:=y1}) K2 rfl rfl rfl rfl n5 rfl rfl λK3=>⟨⟨λe=>absurd e (by decide),trivial⟩, ?_⟩))
 refine zX (qk (f:=S4 23 _ _ _ _ _ _ _ _ _) K3 rfl (v (vl 0 (.agg (aI { { x0 with Data:=y0} with Locs:=y1})) kQ rfl rfl rfl (bU (eK (List.map aI ([{ { x0 with Data:=y0} with Locs:=y1}]:List aB)) lR rfl rfl rfl rfl) ?_))))
 obtain⟨z0,Z0,m⟩:=aC m
 exact ve λu=>fF (c:=aI) 1 Z0 lR rfl rfl rfl t0 u rfl λtg1 t1 K4=>qk K4 rfl (v (eW m tg1 t1 (lW [1] rfl rfl (.k3 .nil))))
 exact v (lM m tg0 t0 (lx (.k3 .nil)))
 rintro tg2 ⟨r0,r1⟩ t2 m
 refine v (v ?_)
 obtain rfl:=eT m
 exact vr λu=>dW.of1 (.inl rfl) (fT _ _ (ow _ _ _) rfl) (aT (List.nil_sublist _) u).1 ((eZ _ 0 t2 u rfl)) ⟨rfl,rfl⟩
theorem MT:aO Tryz.prog 152=true:=by kernel_rfl
def G0 (m:Nat) (p0:aA) (q0:List aH) (q1:Int):Option (Lp ((List aH)×Int) (aA)):=
 if (decide (q1 < (p0.Snaps.length:Int)))=true then ((ix p0.Snaps q1).bind λx0=>(GZ m x0.Man).bind λy0=>(wR m x0.Locs).bind λy1=>(app q0 ([{ { x0 with Man:=y0} with Locs:=y1}]:List aH)).bind λz0=>some (.go (z0,IntKind.wrap .i64 (q1+1)))) else some (.brk (q0,q1))
def G1 (m:Nat) (p0:aA) (q0:List aQ) (q1:Int):Option (Lp ((List aQ)×Int) (aA)):=
 if (decide (q1 < (p0.Exps.length:Int)))=true then ((ix p0.Exps q1).bind λx0=>(wR m x0.Locs).bind λy0=>(app q0 ([{ x0 with Locs:=y0}]:List aQ)).bind λz0=>some (.go (z0,IntKind.wrap .i64 (q1+1)))) else some (.brk (q0,q1))
def M90 (m:Nat) (p0:aA):Option (aA):=
 after (aU (λs=>G0 m p0 s.1 s.2) m ([],0)) λ⟨r0,r1⟩=>after (aU (λs=>G1 m p0 s.1 s.2) m ([],0)) λ⟨r2,r3⟩=>(J1 m p0.Chunks).bind λy0=>(app ([]:List aP) p0.Vols).bind λz0=>some ({ Seq:=p0.Seq,Snaps:=r0,Chunks:=y0,Exps:=r2,Vols:=z0}:aA)
theorem aER:aO Tryz.prog 90=true:=by kernel_rfl
end Go.Proofs.YtbbifdfldpfphaaGreat
