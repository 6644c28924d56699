import Derived.Test.YtbbifdfldpfphaaGreatK2P3
import Derived.Test.YtbbifdfldpfphaaGreatK2P1
import Derived.Lib.Bytealg
set_option linter.unusedSimpArgs false
set_option linter.unusedVariables false
set_option maxHeartbeats 4000000
set_option maxRecDepth 100000
namespace Go.Proofs.YtbbifdfldpfphaaGreat
open Go.Vm
def TO (m:Nat) (p0:Int):Option (Int):=
 grd (decide (0≤(IntKind.wrap .i64 (8*p0)))) <| some (IntKind.wrap .i64 (1*2 ^ (min ((IntKind.wrap .i64 (8*p0)):Int).toNat (IntKind.bits .i64))))
theorem aDN {u:Nat} {p0:Int} {o:Int} (h:aF) (m:TO u p0=some o):
 aL Tryz.prog 166 [nZ p0] h (λr h'=>r=nZ o∧h'=h):=by
 refine fN 6 [.tmp 2] Tryz.func166 rfl rfl rfl rfl ?_
 unfold TO at m
 refine v (v (S1 m λ_ m=>v ?_))
 cases m
 exact dQ rfl
theorem XQ:aO Tryz.prog 166=true:=by kernel_rfl
def xL (m:Nat) (p1:Int) (q0:List Int) (q1:Int):Option (Lp ((List Int)×Int) ((List Int)×Int)):=
 if (decide (0≤q1))=true then (grd (decide (0≤(IntKind.wrap .i64 (8*q1)))) <| (app q0 ([IntKind.wrap .u8 (p1.fdiv (2 ^ (min ((IntKind.wrap .i64 (8*q1)):Int).toNat (IntKind.bits .i64))))]:List Int)).bind λz0=>some (.go (z0,IntKind.wrap .i64 (q1 - 1)))) else some (.brk (q0,q1))
def H7 (m:Nat) (p0:List Int) (p1:Int) (p2:Int):Option ((List Int)×Int):=
 after (if (decide (p2 < 1))=true then (some (.brk true)) else if (decide (7 < p2))=true then (some (.brk true)) else if (decide (p1 < 0))=true then (some (.brk true)) else (TO m p2).bind λy0=>some (.brk (decide (y0≤p1))):Option (Lp (Bool) ((List Int)×Int))) λj9=>if j9=true then (some (([]:List Int),1)) else (RJ m p0).bind λy1=>after (aT (λs=>xL m p1 s.1 s.2) m (y1,IntKind.wrap .i64 (p2 - 1))) λ⟨r0,r1⟩=>some (r0,0)
theorem RK {w:Nat} {p0:List Int} {p1:Int} {p2:Int} {o:(List Int)×Int} (h:aF) (m:H7 w p0 p1 p2=some o):
 aL Tryz.prog 101 [.sl none 1 (List.map dD p0),nZ p1,nZ p2] h (λr h'=>∃t:Option cB,(t=none→o.1= [])∧bV h [(t,.tok 5 1 ((o.1:List Int).length*1))]∧r= .tup [ow t 1 (List.map dD o.1),nZ o.2]∧h'=hp h [(t,.tok 5 1 ((o.1:List Int).length*1))]):=by
 refine fN 43 [.tmp 6,.tmp 7] Tryz.func101 rfl rfl rfl rfl ?_
 unfold H7 at m
 refine v (vs (vs (fB m (σ:=Bool) (λs=> []) (λs=>.c 0 (.sl none 1 (List.map dD p0)) (.c 1 (nZ p1) (.c 2 (nZ p2) (.c 25 (.sc (.bool s)) .nil)))) (λx m=> ?_) ?_)))
 refine v ?_
 apply vi m <;> intro b0 m
 rw[b0]
 exact fR m
 rw[b0]
 apply vi m <;> intro b1 m
 rw[b1]
 exact fR m
 rw[b1]
 apply vi m <;> intro b2 m
 rw[b2]
 exact fR m
 rw[b2]
 exact vk aDN XQ m rfl rfl λ_ m=>fR m
 rintro _ j9 m
 refine v ?_
 apply vi m <;> intro c0 m
 refine v (v ?_)
 cases m
 exact vr λu=>dX.of2 (.inl rfl) (fU _ _ (.sc (.slice _ _ _)) rfl) (fU _ _ (.sc (.int _ _)) rfl) (h9.refl _) (jE _ _) (bH.refl _ _) ⟨none,λ_=>rfl,bV.none (bV.nil _),rfl,rfl⟩
 refine v (v ?_)
 obtain⟨_,Y0,m⟩:=aC m
 refine ve λu=>cK (W96 _ Y0) rfl P3 rfl ?_
 rintro x h' ⟨tg0,t0,K0,rfl,rfl⟩
 refine qk (bV.co u K0) (iU _ _ _) (v (nC m (σ:=(List Int)×Int) (τ:=Option cB) (λg s=> [(g,.tok 5 1 ((s.1:List Int).length*1))]) (λg s=>(g=none→s.1= [])) (λg s=>.c 1 (nZ p1) (.c 8 (ow g 1 (List.map dD s.1)) (.c 9 (nZ s.2) .nil))) tg0 t0 (lx (.k3 .nil)) ?_ ?_))
 rintro tg1 ⟨q0,q1⟩ x t1 m
 replace m:xL w p1 q0 q1=some x:=m
 unfold xL at m
 refine v (v ?_)
 apply vi m <;> intro c1 m
 refine v (v (v (S1 m λ_ m=>bU (eO (List.map dD ([IntKind.wrap .u8 (p1.fdiv (2 ^ (min ((IntKind.wrap .i64 (8*q1)):Int).toNat (IntKind.bits .i64))))]:List Int)) jH rfl rfl rfl rfl) ?_)))
 obtain⟨z0,Z0,m⟩:=aC m
 exact ve λu=>fF (c:=dD) 0 Z0 jH rfl rfl rfl t1 u rfl λtg2 t2 K1=>qk K1 rfl (v (eY m tg2 t2 (lx (.k3 .nil))))
 exact v (lA m tg1 t1 (lx (.k3 .nil)))
 rintro tg3 ⟨r0,r1⟩ t3 m
 refine v (v ?_)
 cases m
 exact vr λu=>dX.of2 (.inl rfl) (fU _ _ (ow _ _ _) rfl) (fU _ _ (.sc (.int _ _)) rfl) (aS (h0:=h) (L':= [(tg3,.tok 5 1 ((r0:List Int).length*1))]) (.refl _) u).1 (bH.refl _ _) (bH.refl _ _) ⟨tg3,t3,(aS (h0:=h) (L':= [(tg3,.tok 5 1 ((r0:List Int).length*1))]) (.refl _) u).2,rfl,rfl⟩
theorem RL:aO Tryz.prog 101=true:=by kernel_rfl
def GH (m:Nat) (x0:dH) (q0:List Int) (q1:Int):Option (Lp ((List Int)×Int) (Lp ((List Int)×Int) ((List Int)×Int))):=
 if (decide (q1 < (x0.Ids.length:Int)))=true then ((ix x0.Ids q1).bind λx1=>(app q0 x1.1).bind λz0=>some (.go (z0,IntKind.wrap .i64 (q1+1)))) else some (.brk (q0,q1))
def GI (m:Nat) (p0:bB) (q0:List Int) (q1:Int):Option (Lp ((List Int)×Int) ((List Int)×Int)):=
 if (decide (q1 < (p0.Parts.length:Int)))=true then ((ix p0.Parts q1).bind λx0=>(app q0 ([IntKind.wrap .u8 (x0.Path.size:Int)]:List Int)).bind λz0=>(app z0 (rQ x0.Path)).bind λz1=>(H7 m z1 x0.Size 2).bind λy0=>(app y0.1 ([IntKind.wrap .u8 (x0.Ids.length:Int)]:List Int)).bind λz2=>after (aT (λs=>GH m x0 s.1 s.2) m (z2,0)) λ⟨r0,r1⟩=>some (.go (r0,IntKind.wrap .i64 (q1+1)))) else some (.brk (q0,q1))
def M42 (m:Nat) (p0:bB):Option ((List Int)×Int):=
 (D6 m p0).bind λy6=>if (y6 !=0)=true then (some ([],y6)) else (app ([IntKind.wrap .u8 (p0.Name.size:Int)]:List Int) (rQ p0.Name)).bind λz0=>(app z0 ([IntKind.wrap .u8 (p0.Parts.length:Int)]:List Int)).bind λz1=>after (aT (λs=>GI m p0 s.1 s.2) m (z1,0)) λ⟨r0,r1⟩=>some (r0,0)
theorem W42 {w:Nat} {p0:bB} {o:(List Int)×Int} (h:aF) (m:M42 w p0=some o):
 aL Tryz.prog 42 [.agg (aU p0)] h (λr h'=>r= .tup [.sl none 1 (List.map dD o.1),nZ o.2]∧h'=h):=by
 refine fN 74 [.tmp 2,.tmp 3] Tryz.func42 rfl rfl rfl rfl ?_
 unfold M42 at m
 refine v (gG rfl rfl λk2 K3=>v (vl 0 (.agg (aU p0)) lI rfl rfl rfl (vk P1 H5 m rfl rfl λ_ m=>v (v ?_))))
 apply vi m <;> intro c0 m
 refine v (v ?_)
 cases m
 exact vr λu=>dX.of2 (.inl rfl) (fU _ _ (.sc (.slice _ _ _)) rfl) (fU _ _ (.sc (.int _ _)) rfl) (aS (List.nil_sublist _) u).1 (aX _) (bH.refl _ _) ⟨rfl,rfl⟩
 refine v (v (vl 0 _ tI rfl rfl rfl (bU (nW PT rfl) (ve λu=>FQ (c:=dD) ([IntKind.wrap .u8 (p0.Name.size:Int)]:List Int) u jH rfl rfl rfl rfl λtg0 t0 K0=>qk K0 rfl (vl 1 _ tI rfl rfl rfl ?_)))))
 obtain⟨z0,Z0,m⟩:=aC m
 refine ve λu=>LL (c:=dD) 0 Z0 u9 jH rfl (λ_=>rfl) rfl rfl t0 u rfl λtg1 t1 K1=>qk K1 rfl (v (vl 1 _ kR rfl rfl rfl (cZ p9 rfl (bU (eO (List.map dD ([IntKind.wrap .u8 (p0.Parts.length:Int)]:List Int)) jH rfl rfl rfl rfl) ?_))))
 obtain⟨z1,Z1,m⟩:=aC m
 refine ve λu=>fF (c:=dD) 0 Z1 jH rfl rfl rfl t1 u rfl λtg2 t2 K2=>qk K2 rfl (v (vl 1 _ kR rfl rfl rfl (cZ p9 rfl (nC m (σ:=(List Int)×Int) (τ:=Option cB) (λg s=> [(g,.tok 5 1 ((s.1:List Int).length*1)),(some k2,.obj 58 (aU p0))]) (λg s=>(g=none→s.1= [])) (λg s=>.c 5 (ow g 1 (List.map dD s.1)) (.c 31 (.sl none 3 (List.map bT p0.Parts)) (.c 32 (nZ (p0.Parts.length:Int)) (.c 33 (nZ s.2) .nil)))) tg2 t2 (lx (.k4 .nil)) ?_ ?_))))
 rintro tg3 ⟨q0,q1⟩ x t3 m
 replace m:GI w p0 q0 q1=some x:=m
 unfold GI at m
 refine v (v ?_)
 apply vi m <;> intro c1 m
 refine v (v (v (vx m pG rfl rfl λx0 _ m=>va (.agg (bT x0)) xE rfl rfl (ve λu=>bD (OL) u xF rfl rfl λk257 K4=>qk K4 rfl (ve λu=>aK 0 (bT x0) u rfl rfl rfl rfl zD rfl rfl λK5=>qk K5 rfl (v (vz [(1000000,some k257,.obj 70 (bT x0))] mixed (λu=>⟨λ_=>aI 0 u rfl,trivial⟩) λu=>zC 0 rfl (eW (ow _ _ _) rfl) (zF 1 rfl LS rfl (zL 2 0 (.sc (.string x0.Path)) rfl tI rfl rfl rfl (zC 3 rfl (nW PT rfl) (zC 4 rfl (I7 WZ ti5 rfl) (zC 5 rfl (eO (List.map dD ([IntKind.wrap .u8 (x0.Path.size:Int)]:List Int)) jH rfl rfl rfl rfl) (zF 7 rfl LS rfl (zL 8 0 (.sc (.string x0.Path)) rfl tI rfl rfl rfl ?_))))))))))))))
 obtain⟨z2,Z2,m⟩:=aC m
 refine zE 6 rfl (fF (c:=dD) 1 Z2 jH rfl rfl rfl t3 u rfl λtg4 t4 K6=>⟨⟨λ_=>aI 0 K6 rfl,trivial⟩, ?_⟩)
 obtain⟨z3,Z3,m⟩:=aC m
 refine zE 9 rfl (LL (c:=dD) 1 Z3 u9 jH rfl (λ_=>rfl) rfl rfl t4 K6 rfl λtg5 t5 K7=>⟨⟨λ_=>aI 0 K7 rfl,trivial⟩, ?_⟩)
 refine zC 10 rfl (iB (ow _ _ _) rfl) (zX (qk (f:=.c 5 _ (.c 46 _ (.c 43 _ (.c 45 _ (.c 44 _ (fq6 42 _ _ _ _ _ _ _)))))) K7 rfl (v (vl 0 _ bX rfl rfl rfl ?_))))
 obtain⟨_,Y0,m⟩:=aC m
 refine ve λu=>w9 (s:=48) (.sl none 1 (List.map dD z3)) (aS (.cons_cons _ (.cons _ (.refl _))) u).1 (Fz.ale (aS (.cons_cons _ (.cons _ (.refl _))) u).1 (mP _ 1 t5 u rfl (.refl _))) (cK (RK _ Y0) rfl RL rfl ?_)
 rintro x h' ⟨tg6,t6,K8,rfl,rfl⟩
 refine qk (bV.co ((aS (.cons_cons _ (.cons _ (.refl _))) u).2) K8) (iU _ _ _) (v (vl 1 _ pH rfl rfl rfl (cZ n8 rfl (bU (eO (List.map dD ([IntKind.wrap .u8 (x0.Ids.length:Int)]:List Int)) jH rfl rfl rfl rfl) ?_))))
 obtain⟨z4,Z4,m⟩:=aC m
 refine ve λu=>fF (c:=dD) 0 Z4 jH rfl rfl rfl t6 u rfl λtg7 t7 K9=>qk K9 rfl (v (vl 1 _ pH rfl rfl rfl (cZ n8 rfl (nC m (σ:=(List Int)×Int) (τ:=Option cB) (λg s=> [(g,.tok 5 1 ((s.1:List Int).length*1)),(some k257,.obj 70 (bT x0)),(some k2,.obj 58 (aU p0))]) (λg s=>(g=none→s.1= [])) (λg s=>.c 5 (ow g 1 (List.map dD s.1)) (.c 31 (.sl none 3 (List.map bT p0.Parts)) (.c 32 (nZ (p0.Parts.length:Int)) (.c 33 (nZ q1) (.c 62 (.sl none 32 (List.map bJ x0.Ids)) (.c 63 (nZ (x0.Ids.length:Int)) (.c 64 (nZ s.2) .nil))))))) tg7 t7 (lx (.k7 .nil)) ?_ ?_))))
 rintro tg8 ⟨q2,q3⟩ x t8 m
 replace m:GH w x0 q2 q3=some x:=m
 unfold GH at m
 refine v (v ?_)
 apply vi m <;> intro c2 m
 refine v (v (v (vx m rV rfl rfl λx1 _ m=>va (.agg (bJ x1)) fK rfl rfl (ve λu=>bD (bJ jX) u JI rfl rfl λk343 K10=>qk K10 rfl (ve λu=>aK 0 (bJ x1) u rfl rfl rfl rfl JH rfl rfl λK11=>qk K11 rfl (v (bU (DY rU rfl) ?_)))))))
 obtain⟨z5,Z5,m⟩:=aC m
 exact ve λu=>fF (c:=dD) 1 Z5 jH rfl rfl rfl t8 u (w6 (a9 0 u rfl) rfl rfl) λtg9 t9 K12=>qk K12 rfl (v (eY m tg9 t9 (kP [1,2,3] rfl rfl (.k7 .nil))))
 exact v (lA m tg8 t8 (lx (.k7 .nil)))
 rintro tg10 ⟨r0,r1⟩ t10 m
 exact v (eY m tg10 t10 (kP [0,2] rfl rfl (.k4 .nil)))
 exact v (lA m tg3 t3 (lx (.k4 .nil)))
 rintro tg11 ⟨r2,r3⟩ t11 m
 refine v (v ?_)
 cases m
 exact vr λu=>dX.of2 (.inl rfl) (fU _ _ (ow _ _ _) rfl) (fU _ _ (.sc (.int _ _)) rfl) (aS (List.nil_sublist _) u).1 ((eZ _ 0 t11 u rfl)) (bH.refl _ _) ⟨rfl,rfl⟩
theorem aDP:aO Tryz.prog 42=true:=by kernel_rfl
end Go.Proofs.YtbbifdfldpfphaaGreat
namespace Go.Vm
theorem wr {n:Int} (h: -9223372036854775808≤n) (h2:n < 9223372036854775808):IntKind.wrap .i64 n=n:=by
 have e:IntKind.wrap .i64 n=(if decide (n % 18446744073709551616≥9223372036854775808)=true then n % 18446744073709551616 - 18446744073709551616 else n % 18446744073709551616):=rfl
 rw[e]
 simp only[decide_eq_true_eq]
 split <;> omega
theorem hH {i:Nat} (h:i < 1000000000):IntKind.wrap .i64 ((i:Int)+1)=((i+1:Nat):Int):=by rw[wr (by omega) (by omega)]; rfl
theorem xM {i:Nat} (h:i < 1000000000) (h0:0 < i):IntKind.wrap .i64 ((i:Int) - 1)=((i - 1:Nat):Int):=by rw[wr (by omega) (by omega)]; omega
theorem bO {α:Type} (l:List α) (i:Nat):ix l (i:Int)=l[i]? :=by simp[ix]
theorem uH {α:Type} (l:List α) {i:Int} (h:0≤i):ix l i=l[i.toNat]? :=by simp[ix,h]
theorem dV {α:Type} {xs ys:List α} (h:xs.length+ys.length≤1000000000):app xs ys=some (xs++ys):=by simp[app,h]
theorem cV {σ ρ:Type} (c:Prop) [Decidable c] (a b:Option (Lp σ ρ)) (k:σ→Option ρ):after (if c then a else b) k=if c then after a k else after b k:=by split <;> rfl
theorem aJ {σ ρ:Type} (s:σ) (k:σ→Option ρ):after (some (.brk s)) k=k s:=rfl
theorem dC {σ ρ:Type} (r:ρ) (k:σ→Option ρ):after (some (.ret r)) k=some r:=rfl
theorem dK {α β:Type} (c:Prop) [Decidable c] (a b:Option α) (k:α→Option β):(if c then a else b).bind k=if c then a.bind k else b.bind k:=by split <;> rfl
def LF {S ρ:Type} (emb:Nat→S) (p:Nat→Bool) (rv:Nat→ρ) (n:Nat):Lp S ρ:=match (List.range n).find? p with
 | none=>.brk (emb n)
 | some i=>.ret (rv i)
theorem D8 {S ρ:Type} {body:S→Option (Lp S ρ)} (emb:Nat→S) (p:Nat→Bool) (rv:Nat→ρ):∀(m k F:Nat),m < F→
    (∀i,k≤i→i < k+m→(∀j,j < i→k≤j→p j=false)→body (emb i)=some (if p i then .ret (rv i) else .go (emb (i+1))))→((∀j,k≤j→j < k+m→p j=false)→body (emb (k+m))=some (.brk (emb (k+m))))→
    aT body F (emb k)=some (match (List.range' k m).find? p with | none=>.brk (emb (k+m)) | some i=>.ret (rv i))
  | 0,k,F+1,_,_,he=>by
    have:=he (λj h1 h2=>by omega)
    simp only[Nat.add_zero] at this
    simp[aT,this]
  | m+1,k,F+1,hF,hb,he=>by
    have h0:=hb k (Nat.le_refl _) (by omega) (λj h1 h2=>by omega)
    rw[List.range'_succ,List.find?_cons]
    cases hp:p k with
    | true=>simp[aT,h0,hp]
    | false=>
      have:=D8 (body:=body) emb p rv m (k+1) F (by omega) (λi h1 h2 h3=>hb i (by omega) (by omega) (λj h4 h5=>by
        by_cases e:j=k
        · subst e; exact hp
        · exact h3 j h4 (by omega))) (λh=>by
        rw[show k+1+m=k+(m+1) from by omega]
        exact he λj h4 h5=>by
          by_cases e:j=k
          · subst e; exact hp
          · exact h j (by omega) (by omega))
      simp only[aT,h0,hp]
      rw[if_neg (by simp)]
      simp only[this,show k+1+m=k+(m+1) from by omega]
theorem fD {S ρ:Type} {body:S→Option (Lp S ρ)} {n F:Nat} {s0:S} (emb:Nat→S) (p:Nat→Bool) (rv:Nat→ρ) (hF:n < F) (h0:s0=emb 0)
    (hb:∀i,i < n→(∀j,j < i→p j=false)→body (emb i)=some (if p i then .ret (rv i) else .go (emb (i+1)))) (he:(∀j,j < n→p j=false)→body (emb n)=some (.brk (emb n))):
    aT body F s0=some (LF emb p rv n):=by
  subst h0
  have:=D8 (body:=body) emb p rv n 0 F hF (λi _ h2 h3=>hb i (by omega) λj hj=>h3 j hj (Nat.zero_le _)) (λh=>by simpa using he λj hj=>h j (Nat.zero_le _) (by omega))
  rw[this,LF,List.range_eq_range']
  simp
theorem iD {S ρ:Type} {emb:Nat→S} {p:Nat→Bool} {r:ρ} {n:Nat}:LF emb p (λ_=>r) n=if (List.range n).any p then .ret r else .brk (emb n):=by
 unfold LF
 split
 ·rename_i h
  rw[if_neg]
  simp only[List.any_eq_true,not_exists,not_and]
  exact λx hx=>List.find?_eq_none.1 h x hx
 ·rename_i i h
  rw[if_pos]
  exact List.any_eq_true.2 ⟨i,List.mem_of_find?_eq_some h,List.find?_some h⟩
end Go.Vm
namespace Go.Proofs.YtbbifdfldpfphaaGreat
open Go.Vm
def H8 (m:Nat) (p0:Int) (p1:Int) (p2:Int):Option (Bool):=
 after (if (decide (p1≤p0))=true then (some (.brk (decide (p0≤p2)))) else some (.brk false):Option (Lp (Bool) (Bool))) λj4=>some j4
theorem OR {u:Nat} {p0:Int} {p1:Int} {p2:Int} {o:Bool} (h:aF) (m:H8 u p0 p1 p2=some o):
 aL Tryz.prog 97 [nZ p0,nZ p1,nZ p2] h (λr h'=>r= .sc (.bool o)∧h'=h):=by
 refine fN 15 [.tmp 6] Tryz.func97 rfl rfl rfl rfl ?_
 unfold H8 at m
 refine v (vs (fB m (σ:=Bool) (λs=> []) (λs=>.c 6 (.sc (.bool s)) .nil) (λx m=> ?_) ?_))
 refine v ?_
 apply vi m <;> intro b5 m
 rw[b5]
 exact iN m
 rw[b5]
 exact iN m
 rintro _ j4 m
 refine v ?_
 obtain rfl:=eB m
 exact dQ rfl
theorem zJ:aO Tryz.prog 97=true:=by kernel_rfl
def vV (m:Nat) (p0:bL) (p1:bL) (q0:Int):Option (Lp (Int) (Bool)):=
 if (decide (q0 < 32))=true then ((ix p0.1 q0).bind λx0=>(ix p1.1 q0).bind λx1=>if (x0 !=x1)=true then ((ix p0.1 q0).bind λx2=>(ix p1.1 q0).bind λx3=>some (.ret (decide (x2 < x3)))) else some (.go (IntKind.wrap .i64 (q0+1)))) else some (.brk q0)
def L9 (m:Nat) (p0:bL) (p1:bL):Option (Bool):=
 after (aT (λs=>vV m p0 p1 s) m 0) λr0=>some false
theorem XR {w:Nat} {p0:bL} {p1:bL} {o:Bool} (h:aF) (m:L9 w p0 p1=some o):
 aL Tryz.prog 147 [.agg (bJ p0),.agg (bJ p1)] h (λr h'=>r= .sc (.bool o)∧h'=h):=by
 refine fN 24 [.tmp 4] Tryz.func147 rfl rfl rfl rfl ?_
 unfold L9 at m
 refine v (gG rfl rfl λk2 K3=>gG rfl rfl λk5 K6=>v (iI m (σ:=Int) (λs=> [(some k5,.obj 36 (bJ p1)),(some k2,.obj 36 (bJ p0))]) (λs=>.c 2 (.ptr k2 0) (.c 3 (.ptr k5 0) (.c 5 (nZ s) .nil))) (lx (.k3 .nil)) ?_ ?_))
 rintro _ q0 x m
 replace m:vV w p0 p1 q0=some x:=m
 unfold vV at m
 refine v (v ?_)
 apply vi m <;> intro c0 m
 refine v (v (v (vq (by kernel_rfl) ?_)))
 obtain⟨_,X0,m⟩:=aC m
 refine bU (mA X0 rU rfl rfl) (vn (λu=>m5 0 X0 BX rfl (a9 1 u rfl) rfl) ?_)
 obtain⟨_,X1,m⟩:=aC m
 refine bU (mA X1 rU rfl rfl) (vn (λu=>m5 0 X1 BX rfl (a9 0 u rfl) rfl) (v ?_))
 apply vi m <;> intro c1 m
 refine v (vq (by kernel_rfl) ?_)
 obtain⟨_,X2,m⟩:=aC m
 refine bU (mA X2 rU rfl rfl) (vn (λu=>m5 0 X2 BX rfl (a9 1 u rfl) rfl) ?_)
 obtain⟨_,X3,m⟩:=aC m
 refine bU (mA X3 rU rfl rfl) (vn (λu=>m5 0 X3 BX rfl (a9 0 u rfl) rfl) (v (fO m λm=> ?_)))
 cases m
 exact dQ rfl
 exact v (v (gH m))
 exact v (xC m)
 rintro _ r0 m
 refine v (v ?_)
 obtain rfl:=eB m
 exact dQ rfl
theorem RM:aO Tryz.prog 147=true:=by kernel_rfl
def sB (m:Nat) (p0:aB) (p1:List bI) (q0:Int):Option (Lp (Int) (Bool)):=
 if (decide (q0 < (p1.length:Int)))=true then ((ix p1 q0).bind λx0=>after (if (decide (x0.Vol < 0))=true then (some (.brk true)) else if (decide ((p0.Vols.length:Int)≤x0.Vol))=true then (some (.brk true)) else (ix p0.Vols x0.Vol).bind λx1=>if (x1.State !=2)=true then (some (.brk true)) else (ix p0.Vols x0.Vol).bind λx2=>(H8 m x0.File 1 x2.Files).bind λy0=>if (!y0)=true then (some (.brk true)) else (H8 m x0.Off 0 16777215).bind λy1=>if (!y1)=true then (some (.brk true)) else (H8 m x0.Len 13 8013).bind λy2=>some (.brk (!y2)):Option (Lp (Bool) (Lp (Int) (Bool)))) λj0=>if j0=true then (some (.ret false)) else after (if (decide (0 < q0))=true then ((ix p1 (IntKind.wrap .i64 (q0 - 1))).bind λx3=>after (if (decide (x3.Vol < x0.Vol))=true then (some (.brk (!true))) else if (x3.Vol==x0.Vol)=true then (if (decide (x3.File < x0.File))=true then (some (.brk (!true))) else if (x3.File==x0.File)=true then (some (.brk (!(decide (x3.Off < x0.Off))))) else some (.brk (!false))) else some (.brk (!false)):Option (Lp (Bool) (Lp (Unit) (Lp (Int) (Bool))))) λj1=>if j1=true then (some (.ret (.ret false))) else some (.brk ())) else some (.brk ()):Option (Lp (Unit) (Lp (Int) (Bool)))) λ_=>some (.go (IntKind.wrap .i64 (q0+1)))) else some (.brk q0)
def zK (m:Nat) (p0:aB) (p1:List bI):Option (Bool):=
 if (decide (200 < (p1.length:Int)))=true then (some false) else after (aT (λs=>sB m p0 p1 s) m 0) λr0=>some true
theorem JR {w:Nat} {p0:aB} {p1:List bI} {o:Bool} (h:aF) (m:zK w p0 p1=some o):
 aL Tryz.prog 148 [.agg (aE p0),.sl none 4 (List.map aM p1)] h (λr h'=>r= .sc (.bool o)∧h'=h):=by
 refine fN 108 [.tmp 4] Tryz.func148 rfl rfl rfl rfl ?_
 unfold zK at m
 refine v (gG rfl rfl λk2 K3=>v (cZ iC rfl (v ?_)))
 apply vi m <;> intro c7 m
 refine v (v ?_)
 obtain rfl:=eB m
 exact dQ rfl
 refine v (v (iI m (σ:=Int) (λs=> [(some k2,.obj 30 (aE p0))]) (λs=>.c 1 (.sl none 4 (List.map aM p1)) (.c 2 (.ptr k2 0) (.c 5 (nZ s) .nil))) (lx (.k3 .nil)) ?_ ?_))
 rintro _ q0 x m
 replace m:sB w p0 p1 q0=some x:=m
 unfold sB at m
 refine v (cZ iC rfl (v ?_))
 apply vi m <;> intro c0 m
 refine v (v (v (vx m i8 rfl rfl λx0 _ m=>va (.agg (aM x0)) kL rfl rfl (ve λu=>bD (HP) u B5 rfl rfl λk202 K0=>qk K0 rfl (ve λu=>aK 0 (aM x0) u rfl rfl rfl rfl JN rfl rfl λK1=>qk K1 rfl (vs (vs (fB m (σ:=Bool) (λs=> [(some k202,.obj 81 (aM x0)),(some k2,.obj 30 (aE p0))]) (λs=>.c 1 (.sl none 4 (List.map aM p1)) (.c 2 (.ptr k2 0) (.c 5 (nZ q0) (.c 6 (.ptr k202 0) (.c 66 (.sc (.bool s)) .nil))))) (λx m=> ?_) ?_))))))))
 refine v (vq (by kernel_rfl) (vl 0 _ bX rfl rfl rfl ?_))
 apply vi m <;> intro b0 m
 rw[b0]
 exact mC m
 rw[b0]
 refine vl 0 _ bX rfl rfl rfl (vl 1 _ iK rfl rfl rfl (cZ qP rfl ?_))
 apply vi m <;> intro b1 m
 rw[b1]
 exact mC m
 rw[b1]
 refine vl 1 _ iK rfl rfl rfl (vl 0 _ bX rfl rfl rfl (vx m lG rfl rfl λ_ _ m=> ?_))
 apply vi m <;> intro b2 m
 rw[b2]
 exact mC m
 rw[b2]
 refine vl 0 _ bX rfl rfl rfl (vl 1 _ iK rfl rfl rfl (vl 0 _ bX rfl rfl rfl (vx m lG rfl rfl λ_ _ m=>vk OR zJ m rfl rfl λ_ m=> ?_)))
 apply vi m <;> intro b3 m
 rw[b3]
 exact mC m
 rw[b3]
 refine vl 0 _ bX rfl rfl rfl (vk OR zJ m rfl rfl λ_ m=> ?_)
 apply vi m <;> intro b4 m
 rw[b4]
 exact mC m
 rw[b4]
 exact vl 0 _ bX rfl rfl rfl (vk OR zJ m rfl rfl λ_ m=>mC m)
 rintro _ j0 m
 refine v ?_
 apply vi m <;> intro c1 m
 refine v (v (fO m λm=> ?_))
 obtain rfl:=eB m
 exact dQ rfl
 refine v (v (fB m (σ:=Unit) (λs=> [(some k202,.obj 81 (aM x0)),(some k2,.obj 30 (aE p0))]) (λs=>.c 1 (.sl none 4 (List.map aM p1)) (.c 2 (.ptr k2 0) (.c 5 (nZ q0) .nil))) (λx m=> ?_) ?_))
 refine v ?_
 apply vi m <;> intro c2 m
 refine v (vx m i8 rfl rfl λx1 _ m=>va (.agg (aM x1)) kL rfl rfl (ve λu=>bD (HP) u B5 rfl rfl λk268 K2=>qk K2 rfl (ve λu=>aK 0 (aM x1) u rfl rfl rfl rfl JN rfl rfl λK4=>qk K4 rfl (vs (fB m (σ:=Bool) (λs=> [(some k268,.obj 81 (aM x1)),(some k202,.obj 81 (aM x0)),(some k2,.obj 30 (aE p0))]) (λs=>.c 1 (.sl none 4 (List.map aM p1)) (.c 2 (.ptr k2 0) (.c 5 (nZ q0) (.c 107 (.sc (.bool s)) .nil)))) (λx m=> ?_) ?_)))))
 refine v (vl 0 _ bX rfl rfl rfl (vl 1 _ bX rfl rfl rfl ?_))
 apply vi m <;> intro b5 m
 rw[b5]
 exact fR m
 rw[b5]
 refine vl 0 _ bX rfl rfl rfl (vl 1 _ bX rfl rfl rfl ?_)
 apply vi m <;> intro b6 m
 rw[b6]
 refine vl 0 _ bX rfl rfl rfl (vl 1 _ bX rfl rfl rfl ?_)
 apply vi m <;> intro b7 m
 rw[b7]
 exact fR m
 rw[b7]
 refine vl 0 _ bX rfl rfl rfl (vl 1 _ bX rfl rfl rfl ?_)
 apply vi m <;> intro b8 m
 rw[b8]
 exact vl 0 _ bX rfl rfl rfl (vl 1 _ bX rfl rfl rfl (fR m))
 rw[b8]
 exact fR m
 rw[b6]
 exact fR m
 rintro _ j1 m
 refine v ?_
 apply vi m <;> intro c3 m
 refine v (v (fO m λm=>fO m λm=> ?_))
 obtain rfl:=eB m
 exact dQ rfl
 exact v (uZ m (kP [1,2] rfl rfl (.k3 .nil)))
 exact v (gH m)
 rintro _ _ m
 exact v (uZ m (kP [1] rfl rfl (.k3 .nil)))
 exact v (xC m)
 rintro _ r0 m
 refine v (v ?_)
 obtain rfl:=eB m
 exact dQ rfl
theorem AP:aO Tryz.prog 148=true:=by kernel_rfl
def sC (m:Nat) (p0:ByteArray) (q0:Int):Option (Lp (Int) (Bool)):=
 if (decide (q0 < (p0.size:Int)))=true then (after ((PF p0 q0).bind λx0=>if (decide (x0 < 33))=true then (some (.brk true)) else (PF p0 q0).bind λx1=>some (.brk (decide (126 < x1))):Option (Lp (Bool) (Lp (Int) (Bool)))) λj0=>if j0=true then (some (.ret false)) else some (.go (IntKind.wrap .i64 (q0+1)))) else some (.brk q0)
def B7 (m:Nat) (p0:ByteArray):Option (Bool):=
 after (aT (λs=>sC m p0 s) m 0) λr0=>after (if (decide (1≤(p0.size:Int)))=true then (some (.brk (decide ((p0.size:Int)≤20)))) else some (.brk false):Option (Lp (Bool) (Bool))) λj0=>some j0
theorem MA {u:Nat} {p0:ByteArray} {o:Bool} (h:aF) (m:B7 u p0=some o):
 aL Tryz.prog 140 [.sc (.string p0)] h (λr h'=>r= .sc (.bool o)∧h'=h):=by
 refine fN 28 [.tmp 2] Tryz.func140 rfl rfl rfl rfl ?_
 unfold B7 at m
 refine v (v (iI m (σ:=Int) (λs=> []) (λs=>.c 0 (.sc (.string p0)) (.c 3 (nZ s) .nil)) (lx (.k2 .nil)) ?_ ?_))
 rintro _ q0 x m
 replace m:sC u p0 q0=some x:=m
 unfold sC at m
 refine v (bU (nW PT rfl) (v ?_))
 apply vi m <;> intro c0 m
 refine v (v (vs (fB m (σ:=Bool) (λs=> []) (λs=>.c 0 (.sc (.string p0)) (.c 3 (nZ q0) (.c 19 (.sc (.bool s)) .nil))) (λx m=> ?_) ?_)))
 refine v ?_
 obtain⟨_,X0,m⟩:=aC m
 refine bU (HX X0 u9 rfl rfl) ?_
 apply vi m <;> intro b0 m
 rw[b0]
 exact gH m
 rw[b0]
 obtain⟨_,X1,m⟩:=aC m
 exact bU (HX X1 u9 rfl rfl) (gH m)
 rintro _ j0 m
 refine v ?_
 apply vi m <;> intro c1 m
 refine v (v (fO m λm=> ?_))
 obtain rfl:=eB m
 exact dQ rfl
 exact v (v (qO m))
 exact v (OP m)
 rintro _ r0 m
 refine vs (fB m (σ:=Bool) (λs=> []) (λs=>.c 2 (.sc (.bool s)) .nil) (λx m=> ?_) ?_)
 refine v (bU (nW PT rfl) ?_)
 apply vi m <;> intro b1 m
 rw[b1]
 exact bU (nW PT rfl) (iN m)
 rw[b1]
 exact iN m
 rintro _ j1 m
 refine v ?_
 obtain rfl:=eB m
 exact dQ rfl
theorem D9:aO Tryz.prog 140=true:=by kernel_rfl
def xN (m:Nat) (p0:bB) (q0:Int):Option (Lp (Int) (Bool)):=
 if (decide (q0 < (p0.Parts.length:Int)))=true then ((ix p0.Parts q0).bind λx0=>after ((B7 m x0.Path).bind λy0=>if (!y0)=true then (some (.brk true)) else if (decide (0 < q0))=true then ((ix p0.Parts (IntKind.wrap .i64 (q0 - 1))).bind λx1=>if (Op.bytesLess x0.Path.toList x1.Path.toList || x0.Path.toList==x1.Path.toList)=true then (some (.brk true)) else if (decide (x0.Size < 0))=true then (some (.brk true)) else if (decide (200 < x0.Size))=true then (some (.brk true)) else if (decide (25 < (x0.Ids.length:Int)))=true then (some (.brk true)) else some (.brk (((x0.Ids.length:Int)==0) !=(x0.Size==0)))) else if (decide (x0.Size < 0))=true then (some (.brk true)) else if (decide (200 < x0.Size))=true then (some (.brk true)) else if (decide (25 < (x0.Ids.length:Int)))=true then (some (.brk true)) else some (.brk (((x0.Ids.length:Int)==0) !=(x0.Size==0))):Option (Lp (Bool) (Lp (Int) (Bool)))) λj0=>if j0=true then (some (.ret false)) else some (.go (IntKind.wrap .i64 (q0+1)))) else some (.brk q0)
def VO (m:Nat) (p0:bB):Option (Bool):=
 after ((B7 m p0.Name).bind λy0=>if (!y0)=true then (some (.brk true)) else some (.brk (decide (6 < (p0.Parts.length:Int)))):Option (Lp (Bool) (Bool))) λj0=>if j0=true then (some false) else after (aT (λs=>xN m p0 s) m 0) λr0=>some true
theorem W98 {w:Nat} {p0:bB} {o:Bool} (h:aF) (m:VO w p0=some o):
 aL Tryz.prog 98 [.agg (aU p0)] h (λr h'=>r= .sc (.bool o)∧h'=h):=by
 refine fN 73 [.tmp 2] Tryz.func98 rfl rfl rfl rfl ?_
 unfold VO at m
 refine v (gG rfl rfl λk2 K3=>vs (vs (fB m (σ:=Bool) (λs=> [(some k2,.obj 58 (aU p0))]) (λs=>.c 1 (.ptr k2 0) (.c 14 (.sc (.bool s)) .nil)) (λx m=> ?_) ?_)))
 refine v (vl 0 _ tI rfl rfl rfl (vk MA D9 m rfl rfl λ_ m=> ?_))
 apply vi m <;> intro b0 m
 rw[b0]
 exact qO m
 rw[b0]
 exact vl 0 _ kR rfl rfl rfl (cZ p9 rfl (qO m))
 rintro _ j0 m
 refine v ?_
 apply vi m <;> intro c0 m
 refine v (v ?_)
 obtain rfl:=eB m
 exact dQ rfl
 refine v (v (iI m (σ:=Int) (λs=> [(some k2,.obj 58 (aU p0))]) (λs=>.c 1 (.ptr k2 0) (.c 3 (nZ s) .nil)) (lx (.k2 .nil)) ?_ ?_))
 rintro _ q0 x m
 replace m:xN w p0 q0=some x:=m
 unfold xN at m
 refine v (vl 0 _ kR rfl rfl rfl (cZ p9 rfl (v ?_)))
 apply vi m <;> intro c1 m
 refine v (v (v (vl 0 _ kR rfl rfl rfl (vx m pG rfl rfl λx0 _ m=>va (.agg (bT x0)) xE rfl rfl (ve λu=>bD (OL) u xF rfl rfl λk112 K0=>qk K0 rfl (ve λu=>aK 0 (bT x0) u rfl rfl rfl rfl zD rfl rfl λK1=>qk K1 rfl (vs (fB m (σ:=Bool) (λs=> [(some k112,.obj 70 (bT x0)),(some k2,.obj 58 (aU p0))]) (λs=>.c 1 (.ptr k2 0) (.c 3 (nZ q0) (.c 72 (.sc (.bool s)) .nil))) (λx m=> ?_) ?_))))))))
 refine v (vq (by kernel_rfl) (vl 0 _ tI rfl rfl rfl (vk MA D9 m rfl rfl λ_ m=> ?_)))
 apply vi m <;> intro b1 m
 rw[b1]
 exact gH m
 rw[b1]
 apply vi m <;> intro b2 m
 rw[b2]
 refine vl 0 _ tI rfl rfl rfl (vl 1 _ kR rfl rfl rfl (vx m pG rfl rfl λ_ _ m=>bU (vI rfl rfl rfl trivial) ?_))
 apply vi m <;> intro b3 m
 rw[b3]
 exact gH m
 rw[b3]
 refine vl 0 _ bX rfl rfl rfl ?_
 apply vi m <;> intro b4 m
 rw[b4]
 exact gH m
 rw[b4]
 refine vl 0 _ bX rfl rfl rfl ?_
 apply vi m <;> intro b5 m
 rw[b5]
 exact gH m
 rw[b5]
 refine vl 0 _ pH rfl rfl rfl (cZ n8 rfl ?_)
 apply vi m <;> intro b6 m
 rw[b6]
 exact gH m
 rw[b6]
 exact vl 0 _ pH rfl rfl rfl (cZ n8 rfl (vl 0 _ bX rfl rfl rfl (bU (PE u4 rfl rfl rfl) (gH m))))
 rw[b2]
 refine vl 0 _ bX rfl rfl rfl ?_
 apply vi m <;> intro b7 m
 rw[b7]
 exact gH m
 rw[b7]
 refine vl 0 _ bX rfl rfl rfl ?_
 apply vi m <;> intro b8 m
 rw[b8]
 exact gH m
 rw[b8]
 refine vl 0 _ pH rfl rfl rfl (cZ n8 rfl ?_)
 apply vi m <;> intro b9 m
 rw[b9]
 exact gH m
 rw[b9]
 exact vl 0 _ pH rfl rfl rfl (cZ n8 rfl (vl 0 _ bX rfl rfl rfl (bU (PE u4 rfl rfl rfl) (gH m))))
 rintro _ j1 m
 refine v ?_
 apply vi m <;> intro c2 m
 refine v (v (fO m λm=> ?_))
 obtain rfl:=eB m
 exact dQ rfl
 exact v (v (uZ m (kP [1] rfl rfl (.k2 .nil))))
 exact v (OP m)
 rintro _ r0 m
 refine v (v ?_)
 obtain rfl:=eB m
 exact dQ rfl
theorem XS:aO Tryz.prog 98=true:=by kernel_rfl
def vW (m:Nat) (p0:bL) (p1:bL) (q0:Int):Option (Lp (Int) (Bool)):=
 if (decide (q0 < 32))=true then ((ix p0.1 q0).bind λx0=>(ix p1.1 q0).bind λx1=>if (x0 !=x1)=true then ((ix p0.1 q0).bind λx2=>(ix p1.1 q0).bind λx3=>some (.ret (decide (x2 < x3)))) else some (.go (IntKind.wrap .i64 (q0+1)))) else some (.brk q0)
def P5 (m:Nat) (p0:bL) (p1:bL):Option (Bool):=
 after (aT (λs=>vW m p0 p1 s) m 0) λr0=>some false
theorem aDQ {w:Nat} {p0:bL} {p1:bL} {o:Bool} (h:aF) (m:P5 w p0 p1=some o):
 aL Tryz.prog 167 [.agg (bJ p0),.agg (bJ p1)] h (λr h'=>r= .sc (.bool o)∧h'=h):=by
 refine fN 24 [.tmp 4] Tryz.func167 rfl rfl rfl rfl ?_
 unfold P5 at m
 refine v (gG rfl rfl λk2 K3=>gG rfl rfl λk5 K6=>v (iI m (σ:=Int) (λs=> [(some k5,.obj 36 (bJ p1)),(some k2,.obj 36 (bJ p0))]) (λs=>.c 2 (.ptr k2 0) (.c 3 (.ptr k5 0) (.c 5 (nZ s) .nil))) (lx (.k3 .nil)) ?_ ?_))
 rintro _ q0 x m
 replace m:vW w p0 p1 q0=some x:=m
 unfold vW at m
 refine v (v ?_)
 apply vi m <;> intro c0 m
 refine v (v (v (vq (by kernel_rfl) ?_)))
 obtain⟨_,X0,m⟩:=aC m
 refine bU (mA X0 rU rfl rfl) (vn (λu=>m5 0 X0 BX rfl (a9 1 u rfl) rfl) ?_)
 obtain⟨_,X1,m⟩:=aC m
 refine bU (mA X1 rU rfl rfl) (vn (λu=>m5 0 X1 BX rfl (a9 0 u rfl) rfl) (v ?_))
 apply vi m <;> intro c1 m
 refine v (vq (by kernel_rfl) ?_)
 obtain⟨_,X2,m⟩:=aC m
 refine bU (mA X2 rU rfl rfl) (vn (λu=>m5 0 X2 BX rfl (a9 1 u rfl) rfl) ?_)
 obtain⟨_,X3,m⟩:=aC m
 refine bU (mA X3 rU rfl rfl) (vn (λu=>m5 0 X3 BX rfl (a9 0 u rfl) rfl) (v (fO m λm=> ?_)))
 cases m
 exact dQ rfl
 exact v (v (gH m))
 exact v (xC m)
 rintro _ r0 m
 refine v (v ?_)
 obtain rfl:=eB m
 exact dQ rfl
theorem XT:aO Tryz.prog 167=true:=by kernel_rfl
def sD (m:Nat) (p0:List bL) (p1:bL) (q0:Int):Option (Lp (Int) ((List bL)×Int×Bool)):=
 after (if (decide (q0 < (p0.length:Int)))=true then ((ix p0 q0).bind λx0=>(P5 m x0 p1).bind λy0=>some (.brk y0)) else some (.brk false):Option (Lp (Bool) (Lp (Int) ((List bL)×Int×Bool)))) λj0=>if j0=true then (some (.go (IntKind.wrap .i64 (q0+1)))) else some (.brk q0)
def EA (m:Nat) (p0:List bL) (p1:bL):Option ((List bL)×Int×Bool):=
 after (aT (λs=>sD m p0 p1 s) m 0) λr0=>after (if (decide (r0 < (p0.length:Int)))=true then ((ix p0 r0).bind λx0=>some (.brk (decide (x0=p1)))) else some (.brk false):Option (Lp (Bool) ((List bL)×Int×Bool))) λj0=>if j0=true then (some (p0,r0,false)) else (slc p0 0 r0).bind λx1=>(app ([]:List bL) x1).bind λz0=>(app z0 ([p1]:List bL)).bind λz1=>(slc p0 r0 (p0).length).bind λx2=>(app z1 x2).bind λz2=>some (z2,r0,true)
theorem XU {w:Nat} {p0:List bL} {p1:bL} {o:(List bL)×Int×Bool} (h:aF) (m:EA w p0 p1=some o):
 aL Tryz.prog 106 [.sl none 32 (List.map bJ p0),.agg (bJ p1)] h (λr h'=>r= .tup [.sl none 32 (List.map bJ o.1),nZ o.2.1,.sc (.bool o.2.2)]∧h'=h):=by
 refine fN 51 [.tmp 4,.tmp 5,.tmp 6] Tryz.func106 rfl rfl rfl rfl ?_
 unfold EA at m
 refine v (gG rfl rfl λk2 K3=>v (vs (iI m (σ:=Int) (λs=> [(some k2,.obj 36 (bJ p1))]) (λs=>.c 0 (.sl none 32 (List.map bJ p0)) (.c 3 (.ptr k2 0) (.c 7 (nZ s) .nil))) (lx (.k3 .nil)) ?_ ?_)))
 rintro _ q0 x m
 replace m:sD w p0 p1 q0=some x:=m
 unfold sD at m
 refine vs (vs (fB m (σ:=Bool) (λs=> [(some k2,.obj 36 (bJ p1))]) (λs=>.c 0 (.sl none 32 (List.map bJ p0)) (.c 3 (.ptr k2 0) (.c 7 (nZ q0) (.c 20 (.sc (.bool s)) .nil)))) (λx m=> ?_) ?_))
 refine v (vq (by kernel_rfl) (cZ n8 rfl ?_))
 apply vi m <;> intro b0 m
 rw[b0]
 exact vx m rV rfl rfl λx0 _ m=>va (.agg (bJ x0)) fK rfl rfl (vl 0 (.agg (bJ p1)) fK rfl rfl rfl (vk aDQ XT m rfl rfl λ_ m=>fR m))
 rw[b0]
 exact fR m
 rintro _ j0 m
 refine v ?_
 apply vi m <;> intro c0 m
 exact v (v (v (gH m)))
 exact v (xC m)
 rintro _ r0 m
 refine vs (vs (fB m (σ:=Bool) (λs=> [(some k2,.obj 36 (bJ p1))]) (λs=>.c 0 (.sl none 32 (List.map bJ p0)) (.c 3 (.ptr k2 0) (.c 7 (nZ r0) (.c 34 (.sc (.bool s)) .nil)))) (λx m=> ?_) ?_))
 refine v (vq (by kernel_rfl) (cZ n8 rfl ?_))
 apply vi m <;> intro b1 m
 rw[b1]
 exact vx m rV rfl rfl λx1 _ m=>va (.agg (bJ x1)) fK rfl rfl (vl 0 (.agg (bJ p1)) fK rfl rfl rfl (bU (rM yZ OQ u5 BX rfl rfl) (fR m)))
 rw[b1]
 exact fR m
 rintro _ j1 m
 refine v ?_
 apply vi m <;> intro c1 m
 refine v (v ?_)
 cases m
 exact vr λu=>dX.of3 (.inl rfl) (fU _ _ (.sl _ _ _) rfl) (fU _ _ (.sc (.int _ _)) rfl) (fU _ _ (.sc (.bool _)) rfl) (aS (List.nil_sublist _) u).1 (bH.refl _ _) (bH.refl _ _) (bH.refl _ _) ⟨rfl,rfl⟩
 refine v (v (v (vz [(1000000,some k2,.obj 36 (bJ p1))] mixed (λu=>⟨λ_=>aI 0 u rfl,trivial⟩) λu=>zC 0 rfl (eW (.sc (.slice _ _ _)) rfl) (zC 1 rfl (eW (.sl _ _ _) rfl) (zI 2 rfl rfl ?_)))))
 obtain⟨_,X0,m⟩:=aC m
 refine zC 3 rfl (pA X0 rV rfl rfl rfl rfl) (zL 5 0 (.agg (bJ p1)) rfl fK rfl rfl rfl (zC 6 rfl (eO (List.map bJ ([p1]:List bL)) B2 rfl rfl rfl rfl) ?_))
 obtain⟨z0,Z0,m⟩:=aC m
 refine zE 4 rfl (nX (c:=bJ) Z0 B2 rfl rfl u nofun rfl λtg0 t0 K0=>⟨⟨λ_=>aI 1 K0 rfl,trivial⟩, ?_⟩)
 obtain⟨z1,Z1,m⟩:=aC m
 refine zE 7 rfl (fF (c:=bJ) 0 Z1 B2 rfl rfl rfl t0 K0 rfl λtg1 t1 K1=>⟨⟨λ_=>aI 1 K1 rfl,trivial⟩, ?_⟩)
 refine zC 8 rfl (iB (ow _ _ _) rfl) (zX (qk (f:=.c 8 _ (.c 44 _ (.c 41 _ (.c 43 _ (.c 42 _ (PP 40 _ _ _ _ _)))))) K1 rfl (v ?_)))
 obtain⟨_,X1,m⟩:=aC m
 refine bU (pA X1 rV rfl rfl rfl rfl) ?_
 obtain⟨z2,Z2,m⟩:=aC m
 refine ve λu=>fF (c:=bJ) 0 Z2 B2 rfl rfl rfl t1 u rfl λtg2 t2 K2=>qk K2 rfl (v ?_)
 cases m
 exact vr λu=>dX.of3 (.inl rfl) (fU _ _ (ow _ _ _) rfl) (fU _ _ (.sc (.int _ _)) rfl) (fU _ _ (.sc (.bool _)) rfl) (aS (List.nil_sublist _) u).1 ((eZ _ 0 t2 u rfl)) (bH.refl _ _) (bH.refl _ _) ⟨rfl,rfl⟩
theorem RN:aO Tryz.prog 106=true:=by kernel_rfl
def uI (m:Nat) (p0:bB) (q0:Int) (q1:List bL) (q2:Int):Option (Lp ((List bL)×Int) (Lp ((List bL)×Int) ((List bL)))):=
 (ix p0.Parts q0).bind λx0=>if (decide (q2 < (x0.Ids.length:Int)))=true then ((ix p0.Parts q0).bind λx1=>(ix x1.Ids q2).bind λx2=>(EA m q1 x2).bind λy0=>some (.go (y0.1,IntKind.wrap .i64 (q2+1)))) else some (.brk (q1,q2))
def uJ (m:Nat) (p0:bB) (q0:List bL) (q1:Int):Option (Lp ((List bL)×Int) ((List bL))):=
 if (decide (q1 < (p0.Parts.length:Int)))=true then (after (aT (λs=>uI m p0 q1 s.1 s.2) m (q0,0)) λ⟨r0,r1⟩=>some (.go (r0,IntKind.wrap .i64 (q1+1)))) else some (.brk (q0,q1))
def VP (m:Nat) (p0:bB):Option ((List bL)):=
 after (aT (λs=>uJ m p0 s.1 s.2) m ([],0)) λ⟨r0,r1⟩=>some r0
theorem W49 {u:Nat} {p0:bB} {o:(List bL)} (h:aF) (m:VP u p0=some o):
 aL Tryz.prog 49 [.agg (aU p0)] h (λr h'=>r= .sl none 32 (List.map bJ o)∧h'=h):=by
 refine fN 40 [.tmp 2] Tryz.func49 rfl rfl rfl rfl ?_
 unfold VP at m
 refine v (gG rfl rfl λk2 K3=>v (v (iI m (σ:=(List bL)×Int) (λs=> [(some k2,.obj 58 (aU p0))]) (λs=>.c 1 (.ptr k2 0) (.c 3 (.sl none 32 (List.map bJ s.1)) (.c 4 (nZ s.2) .nil))) (lx (.cons (bH.refl _ _) (.cons (aX _) (.cons (bH.refl _ _) .nil)))) ?_ ?_)))
 rintro _ ⟨q0,q1⟩ x m
 replace m:uJ u p0 q0 q1=some x:=m
 unfold uJ at m
 refine v (vl 0 _ kR rfl rfl rfl (cZ p9 rfl (v ?_)))
 apply vi m <;> intro c0 m
 refine v (v (v (iI m (σ:=(List bL)×Int) (λs=> [(some k2,.obj 58 (aU p0))]) (λs=>.c 1 (.ptr k2 0) (.c 3 (.sl none 32 (List.map bJ s.1)) (.c 4 (nZ q1) (.c 5 (nZ s.2) .nil)))) (lx (.k4 .nil)) ?_ ?_)))
 rintro _ ⟨q2,q3⟩ x m
 replace m:uI u p0 q1 q2 q3=some x:=m
 unfold uI at m
 refine v (vl 0 _ kR rfl rfl rfl (vx m pG rfl rfl λ_ _ m=>cZ n8 rfl (v ?_)))
 apply vi m <;> intro c1 m
 exact v (v (v (vl 0 _ kR rfl rfl rfl (vx m pG rfl rfl λ_ _ m=>vx m rV rfl rfl λx0 _ m=>va (.agg (bJ x0)) fK rfl rfl (vk XU RN m rfl rfl λ_ m=>v (fR m))))))
 exact v (vN m)
 rintro _ ⟨r0,r1⟩ m
 exact v (gH m)
 exact v (xC m)
 rintro _ ⟨r2,r3⟩ m
 refine v (v ?_)
 obtain rfl:=eB m
 exact dQ rfl
theorem XV:aO Tryz.prog 49=true:=by kernel_rfl
def pI (m:Nat) (p0:aB) (p1:bL) (q0:Int):Option (Lp (Int) (Int)):=
 if (decide (q0 < (p0.Chunks.length:Int)))=true then ((ix p0.Chunks q0).bind λx0=>if (decide (x0.Id=p1))=true then (some (.ret q0)) else some (.go (IntKind.wrap .i64 (q0+1)))) else some (.brk q0)
def OS (m:Nat) (p0:aB) (p1:bL):Option (Int):=
 after (aT (λs=>pI m p0 p1 s) m 0) λr0=>some (-1)
theorem W88 {u:Nat} {p0:aB} {p1:bL} {o:Int} (h:aF) (m:OS u p0 p1=some o):
 aL Tryz.prog 88 [.agg (aE p0),.agg (bJ p1)] h (λr h'=>r=nZ o∧h'=h):=by
 refine fN 22 [.tmp 4] Tryz.func88 rfl rfl rfl rfl ?_
 unfold OS at m
 refine v (gG rfl rfl λk2 K3=>gG rfl rfl λk5 K6=>v (iI m (σ:=Int) (λs=> [(some k5,.obj 36 (bJ p1)),(some k2,.obj 30 (aE p0))]) (λs=>.c 2 (.ptr k2 0) (.c 3 (.ptr k5 0) (.c 5 (nZ s) .nil))) (lx (.k3 .nil)) ?_ ?_))
 rintro _ q0 x m
 replace m:pI u p0 p1 q0=some x:=m
 unfold pI at m
 refine v (vl 1 _ eD rfl rfl rfl (cZ hM rfl (v ?_)))
 apply vi m <;> intro c0 m
 refine v (v (v (vq (by kernel_rfl) (vl 1 _ eD rfl rfl rfl (vx m eU rfl rfl λx0 _ m=>va (.agg (bJ x0.Id)) fK rfl rfl (vl 0 (.agg (bJ p1)) fK rfl rfl rfl (bU (rM yZ OQ u5 BX rfl rfl) (v ?_))))))))
 apply vi m <;> intro c1 m
 refine v (v (fO m λm=> ?_))
 obtain rfl:=eB m
 exact dQ rfl
 exact v (v (gH m))
 exact v (xC m)
 rintro _ r0 m
 refine v (v ?_)
 cases m
 exact dQ rfl
theorem P6:aO Tryz.prog 88=true:=by kernel_rfl
def oD (m:Nat) (p0:aB) (p1:ByteArray) (q0:Int):Option (Lp (Int) (Int)):=
 if (decide (q0 < (p0.Snaps.length:Int)))=true then ((ix p0.Snaps q0).bind λx0=>if (x0.Man.Name.toList==p1.toList)=true then (some (.ret q0)) else some (.go (IntKind.wrap .i64 (q0+1)))) else some (.brk q0)
def zM (m:Nat) (p0:aB) (p1:ByteArray):Option (Int):=
 after (aT (λs=>oD m p0 p1 s) m 0) λr0=>some (-1)
theorem TP {u:Nat} {p0:aB} {p1:ByteArray} {o:Int} (h:aF) (m:zM u p0 p1=some o):
 aL Tryz.prog 149 [.agg (aE p0),.sc (.string p1)] h (λr h'=>r=nZ o∧h'=h):=by
 refine fN 23 [.tmp 4] Tryz.func149 rfl rfl rfl rfl ?_
 unfold zM at m
 refine v (gG rfl rfl λk2 K3=>v (iI m (σ:=Int) (λs=> [(some k2,.obj 30 (aE p0))]) (λs=>.c 1 (.sc (.string p1)) (.c 2 (.ptr k2 0) (.c 5 (nZ s) .nil))) (lx (.k3 .nil)) ?_ ?_))
 rintro _ q0 x m
 replace m:oD u p0 p1 q0=some x:=m
 unfold oD at m
 refine v (vl 0 _ eK rfl rfl rfl (cZ iJ rfl (v ?_)))
 apply vi m <;> intro c0 m
 refine v (v (v (vl 0 _ eK rfl rfl rfl (vx m gJ rfl rfl λ_ _ m=>bU (vI rfl rfl rfl trivial) (v ?_)))))
 apply vi m <;> intro c1 m
 refine v (v (fO m λm=> ?_))
 obtain rfl:=eB m
 exact dQ rfl
 exact v (v (gH m))
 exact v (xC m)
 rintro _ r0 m
 refine v (v ?_)
 cases m
 exact dQ rfl
theorem MB:aO Tryz.prog 149=true:=by kernel_rfl
def qT (m:Nat) (p0:aB) (q0:Int):Option (Lp (Int) (Bool)):=
 if (decide (q0 < (p0.Vols.length:Int)))=true then ((ix p0.Vols q0).bind λx0=>after ((H8 m x0.Pool 0 1).bind λy0=>if (!y0)=true then (some (.brk true)) else (H8 m x0.Epoch 0 1048576).bind λy1=>some (.brk (!y1)):Option (Lp (Bool) (Lp (Int) (Bool)))) λj0=>if j0=true then (some (.ret false)) else after (if (x0.State==1)=true then (some (.brk (x0.State==1))) else some (.brk (x0.State==3)):Option (Lp (Bool) (Lp (Int) (Bool)))) λj1=>after (if j1=true then (if (x0.Files !=0)=true then (some (.ret (.ret false))) else some (.brk ())) else if (x0.State==2)=true then ((H8 m x0.Files 1 65535).bind λy2=>if (!y2)=true then (some (.ret (.ret false))) else some (.brk ())) else some (.ret (.ret false)):Option (Lp (Unit) (Lp (Int) (Bool)))) λ_=>some (.go (IntKind.wrap .i64 (q0+1)))) else some (.brk q0)
def qU (m:Nat) (p0:aB) (q0:Int):Option (Lp (Int) (Bool)):=
 if (decide (q0 < (p0.Chunks.length:Int)))=true then ((ix p0.Chunks q0).bind λx0=>after (if (decide (0 < q0))=true then ((ix p0.Chunks (IntKind.wrap .i64 (q0 - 1))).bind λx1=>(L9 m x1.Id x0.Id).bind λy0=>if (!y0)=true then (some (.brk true)) else (zK m p0 x0.Locs).bind λy1=>if (!y1)=true then (some (.brk true)) else if x0.Staged=true then ((H8 m (x0.Data.length:Int) 1 64).bind λy2=>if (!y2)=true then (some (.brk true)) else if (!x0.Staged)=true then (if (decide (0 < (x0.Data.length:Int)))=true then (some (.brk true)) else some (.brk ((x0.Locs.length:Int)==0))) else some (.brk false)) else if (!x0.Staged)=true then (if (decide (0 < (x0.Data.length:Int)))=true then (some (.brk true)) else some (.brk ((x0.Locs.length:Int)==0))) else some (.brk false)) else (zK m p0 x0.Locs).bind λy3=>if (!y3)=true then (some (.brk true)) else if x0.Staged=true then ((H8 m (x0.Data.length:Int) 1 64).bind λy4=>if (!y4)=true then (some (.brk true)) else if (!x0.Staged)=true then (if (decide (0 < (x0.Data.length:Int)))=true then (some (.brk true)) else some (.brk ((x0.Locs.length:Int)==0))) else some (.brk false)) else if (!x0.Staged)=true then (if (decide (0 < (x0.Data.length:Int)))=true then (some (.brk true)) else some (.brk ((x0.Locs.length:Int)==0))) else some (.brk false):Option (Lp (Bool) (Lp (Int) (Bool)))) λj0=>if j0=true then (some (.ret false)) else some (.go (IntKind.wrap .i64 (q0+1)))) else some (.brk q0)
def uK (m:Nat) (p0:aB) (y0:(List bL)) (q0:Int):Option (Lp (Int) (Lp (Int) (Bool))):=
 if (decide (q0 < (y0.length:Int)))=true then ((ix y0 q0).bind λx0=>(OS m p0 x0).bind λy1=>if (decide (y1 < 0))=true then (some (.ret (.ret false))) else some (.go (IntKind.wrap .i64 (q0+1)))) else some (.brk q0)
def uL (m:Nat) (p0:aB) (x0:aG) (q0:Int):Option (Lp (Int) (Lp (Int) (Bool))):=
 if (decide (q0 < (p0.Exps.length:Int)))=true then ((ix p0.Exps q0).bind λx1=>if (x1.Of==x0.Seq)=true then (some (.ret (.ret false))) else some (.go (IntKind.wrap .i64 (q0+1)))) else some (.brk q0)
def qV (m:Nat) (p0:aB) (q0:Int):Option (Lp (Int) (Bool)):=
 if (decide (q0 < (p0.Snaps.length:Int)))=true then ((ix p0.Snaps q0).bind λx0=>after (if (decide (x0.Seq < 0))=true then (some (.brk true)) else if (decide (p0.Seq≤x0.Seq))=true then (some (.brk true)) else if (decide (0 < q0))=true then ((ix p0.Snaps (IntKind.wrap .i64 (q0 - 1))).bind λx1=>if (decide (x0.Seq≤x1.Seq))=true then (some (.brk true)) else (VO m x0.Man).bind λy0=>if (!y0)=true then (some (.brk true)) else (zK m p0 x0.Locs).bind λy1=>if (!y1)=true then (some (.brk true)) else (zM m p0 x0.Man.Name).bind λy2=>some (.brk (y2 !=q0))) else (VO m x0.Man).bind λy3=>if (!y3)=true then (some (.brk true)) else (zK m p0 x0.Locs).bind λy4=>if (!y4)=true then (some (.brk true)) else (zM m p0 x0.Man.Name).bind λy5=>some (.brk (y5 !=q0)):Option (Lp (Bool) (Lp (Int) (Bool)))) λj0=>if j0=true then (some (.ret false)) else (VP m x0.Man).bind λy6=>after (aT (λs=>uK m p0 y6 s) m 0) λr0=>after (aT (λs=>uL m p0 x0 s) m 0) λr1=>some (.go (IntKind.wrap .i64 (q0+1)))) else some (.brk q0)
def oF (m:Nat) (p0:aB) (q0:Int):Option (Lp (Int) (Bool)):=
 if (decide (q0 < (p0.Exps.length:Int)))=true then ((ix p0.Exps q0).bind λx0=>after (if (decide (x0.Seq < 0))=true then (some (.brk true)) else if (decide (p0.Seq≤x0.Seq))=true then (some (.brk true)) else if (decide (0 < q0))=true then ((ix p0.Exps (IntKind.wrap .i64 (q0 - 1))).bind λx1=>if (decide (x0.Seq≤x1.Seq))=true then (some (.brk true)) else if (decide (x0.Of < 0))=true then (some (.brk true)) else if (decide (x0.Seq≤x0.Of))=true then (some (.brk true)) else (zK m p0 x0.Locs).bind λy0=>if (!y0)=true then (some (.brk true)) else some (.brk ((x0.Locs.length:Int)==0))) else if (decide (x0.Of < 0))=true then (some (.brk true)) else if (decide (x0.Seq≤x0.Of))=true then (some (.brk true)) else (zK m p0 x0.Locs).bind λy1=>if (!y1)=true then (some (.brk true)) else some (.brk ((x0.Locs.length:Int)==0)):Option (Lp (Bool) (Lp (Int) (Bool)))) λj0=>if j0=true then (some (.ret false)) else some (.go (IntKind.wrap .i64 (q0+1)))) else some (.brk q0)
def TQ (m:Nat) (p0:aB):Option (Bool):=
 after ((H8 m p0.Seq 0 1073741824).bind λy0=>if (!y0)=true then (some (.brk true)) else if (decide (8 < (p0.Snaps.length:Int)))=true then (some (.brk true)) else if (decide (200 < (p0.Chunks.length:Int)))=true then (some (.brk true)) else if (decide (200 < (p0.Exps.length:Int)))=true then (some (.brk true)) else (H8 m (p0.Vols.length:Int) 1 8).bind λy1=>some (.brk (!y1)):Option (Lp (Bool) (Bool))) λj0=>if j0=true then (some false) else after (aT (λs=>qT m p0 s) m 0) λr0=>after (aT (λs=>qU m p0 s) m 0) λr1=>after (aT (λs=>qV m p0 s) m 0) λr2=>after (aT (λs=>oF m p0 s) m 0) λr3=>some true
theorem W89 {w:Nat} {p0:aB} {o:Bool} (h:aF) (m:TQ w p0=some o):
 aL Tryz.prog 89 [.agg (aE p0)] h (λr h'=>r= .sc (.bool o)∧h'=h):=by
 refine fN 296 [.tmp 2] Tryz.func89 rfl rfl rfl rfl ?_
 unfold TQ at m
 refine v (gG rfl rfl λk2 K3=>vs (vs (fB m (σ:=Bool) (λs=> [(some k2,.obj 30 (aE p0))]) (λs=>.c 1 (.ptr k2 0) (.c 42 (.sc (.bool s)) .nil)) (λx m=> ?_) ?_)))
 refine v (vl 0 _ bX rfl rfl rfl (vk OR zJ m rfl rfl λ_ m=> ?_))
 apply vi m <;> intro b0 m
 rw[b0]
 exact qO m
 rw[b0]
 refine vl 0 _ eK rfl rfl rfl (cZ iJ rfl ?_)
 apply vi m <;> intro b1 m
 rw[b1]
 exact qO m
 rw[b1]
 refine vl 0 _ eD rfl rfl rfl (cZ hM rfl ?_)
 apply vi m <;> intro b2 m
 rw[b2]
 exact qO m
 rw[b2]
 refine vl 0 _ hX rfl rfl rfl (cZ nK rfl ?_)
 apply vi m <;> intro b3 m
 rw[b3]
 exact qO m
 rw[b3]
 exact vl 0 _ iK rfl rfl rfl (cZ qP rfl (vk OR zJ m rfl rfl λ_ m=>qO m))
 rintro _ j0 m
 refine v ?_
 apply vi m <;> intro c0 m
 refine v (v ?_)
 obtain rfl:=eB m
 exact dQ rfl
 refine v (v (iI m (σ:=Int) (λs=> [(some k2,.obj 30 (aE p0))]) (λs=>.c 1 (.ptr k2 0) (.c 3 (nZ s) .nil)) (lx (.k2 .nil)) ?_ ?_))
 rintro _ q0 x m
 replace m:qT w p0 q0=some x:=m
 unfold qT at m
 refine v (vl 0 _ iK rfl rfl rfl (cZ qP rfl (v ?_)))
 apply vi m <;> intro c1 m
 refine v (v (v (vl 0 _ iK rfl rfl rfl (vx m lG rfl rfl λx0 _ m=>va (.agg (cG x0)) PY rfl rfl (ve λu=>bD (HP) u D5 rfl rfl λk156 K0=>qk K0 rfl (ve λu=>aK 0 (cG x0) u rfl rfl rfl rfl JJ rfl rfl λK1=>qk K1 rfl (vs (vs (fB m (σ:=Bool) (λs=> [(some k156,.obj 49 (cG x0)),(some k2,.obj 30 (aE p0))]) (λs=>.c 1 (.ptr k2 0) (.c 3 (nZ q0) (.c 4 (.ptr k156 0) (.c 64 (.sc (.bool s)) .nil)))) (λx m=> ?_) ?_)))))))))
 refine v (vl 0 _ bX rfl rfl rfl (vk OR zJ m rfl rfl λ_ m=> ?_))
 apply vi m <;> intro b4 m
 rw[b4]
 exact fR m
 rw[b4]
 exact vl 0 _ bX rfl rfl rfl (vk OR zJ m rfl rfl λ_ m=>fR m)
 rintro _ j1 m
 refine v ?_
 apply vi m <;> intro c2 m
 refine v (v (fO m λm=> ?_))
 obtain rfl:=eB m
 exact dQ rfl
 refine v (v (vl 0 _ bX rfl rfl rfl (v (v (fB m (σ:=Bool) (λs=> [(some k156,.obj 49 (cG x0)),(some k2,.obj 30 (aE p0))]) (λs=>.c 1 (.ptr k2 0) (.c 3 (nZ q0) (.c 4 (.ptr k156 0) (.c 66 (nZ x0.State) (.c 67 (.sc (.bool s)) .nil))))) (λx m=> ?_) ?_)))))
 refine v ?_
 apply vi m <;> intro c3 m
 exact v (mC m)
 exact v (mC m)
 rintro _ j2 m
 refine fB m (σ:=Unit) (λs=> [(some k156,.obj 49 (cG x0)),(some k2,.obj 30 (aE p0))]) (λs=>.c 1 (.ptr k2 0) (.c 3 (nZ q0) .nil)) (λx m=> ?_) ?_
 refine v ?_
 apply vi m <;> intro c4 m
 refine v (vl 0 _ bX rfl rfl rfl (v ?_))
 apply vi m <;> intro c5 m
 refine v (v (fO m λm=>fO m λm=> ?_))
 obtain rfl:=eB m
 exact dQ rfl
 exact v (qO m)
 refine v (v ?_)
 apply vi m <;> intro c6 m
 refine v (vl 0 _ bX rfl rfl rfl (vk OR zJ m rfl rfl λ_ m=>v ?_))
 apply vi m <;> intro c7 m
 refine v (v (fO m λm=>fO m λm=> ?_))
 obtain rfl:=eB m
 exact dQ rfl
 exact v (qO m)
 refine v (v (fO m λm=>fO m λm=> ?_))
 obtain rfl:=eB m
 exact dQ rfl
 rintro _ _ m
 exact v (uZ m (kP [1] rfl rfl (.k2 .nil)))
 exact v (OP m)
 rintro _ r0 m
 refine v (iI m (σ:=Int) (λs=> [(some k2,.obj 30 (aE p0))]) (λs=>.c 1 (.ptr k2 0) (.c 5 (nZ s) .nil)) (lx (.k2 .nil)) ?_ ?_)
 rintro _ q1 x m
 replace m:qU w p0 q1=some x:=m
 unfold qU at m
 refine v (vl 0 _ eD rfl rfl rfl (cZ hM rfl (v ?_)))
 apply vi m <;> intro c8 m
 refine v (v (v (vl 0 _ eD rfl rfl rfl (vx m eU rfl rfl λx1 _ m=>va (.agg (aH x1)) lS rfl rfl (ve λu=>bD (bJ jX++(KK:List AV)) u nE rfl rfl λk364 K2=>qk K2 rfl (ve λu=>aK 0 (aH x1) u rfl rfl rfl rfl xD rfl rfl λK4=>qk K4 rfl (vs (fB m (σ:=Bool) (λs=> [(some k364,.obj 44 (aH x1)),(some k2,.obj 30 (aE p0))]) (λs=>.c 1 (.ptr k2 0) (.c 5 (nZ q1) (.c 140 (.sc (.bool s)) .nil))) (λx m=> ?_) ?_))))))))
 refine v (vq (by kernel_rfl) ?_)
 apply vi m <;> intro b5 m
 rw[b5]
 refine vl 1 _ eD rfl rfl rfl (vx m eU rfl rfl λx2 _ m=>va (.agg (bJ x2.Id)) fK rfl rfl (vl 0 (.agg (bJ x1.Id)) fK rfl rfl rfl (vk XR RM m rfl rfl λ_ m=> ?_)))
 apply vi m <;> intro b6 m
 rw[b6]
 exact gH m
 rw[b6]
 refine vl 1 (.agg (aE p0)) eV rfl rfl rfl (vl 0 _ e8 rfl rfl rfl (vk JR AP m rfl rfl λ_ m=> ?_))
 apply vi m <;> intro b7 m
 rw[b7]
 exact gH m
 rw[b7]
 refine vl 0 _ BW rfl rfl rfl ?_
 apply vi m <;> intro b8 m
 rw[b8]
 refine vl 0 _ lH rfl rfl rfl (cZ kK rfl (vk OR zJ m rfl rfl λ_ m=> ?_))
 apply vi m <;> intro b9 m
 rw[b9]
 exact gH m
 rw[b9]
 refine vl 0 _ BW rfl rfl rfl ?_
 apply vi m <;> intro b10 m
 rw[b10]
 refine vl 0 _ lH rfl rfl rfl (cZ kK rfl ?_)
 apply vi m <;> intro b11 m
 rw[b11]
 exact gH m
 rw[b11]
 exact vl 0 _ e8 rfl rfl rfl (cZ iC rfl (gH m))
 rw[b10]
 exact gH m
 rw[b8]
 refine vl 0 _ BW rfl rfl rfl ?_
 apply vi m <;> intro b12 m
 rw[b12]
 refine vl 0 _ lH rfl rfl rfl (cZ kK rfl ?_)
 apply vi m <;> intro b13 m
 rw[b13]
 exact gH m
 rw[b13]
 exact vl 0 _ e8 rfl rfl rfl (cZ iC rfl (gH m))
 rw[b12]
 exact gH m
 rw[b5]
 refine vl 1 (.agg (aE p0)) eV rfl rfl rfl (vl 0 _ e8 rfl rfl rfl (vk JR AP m rfl rfl λ_ m=> ?_))
 apply vi m <;> intro b14 m
 rw[b14]
 exact gH m
 rw[b14]
 refine vl 0 _ BW rfl rfl rfl ?_
 apply vi m <;> intro b15 m
 rw[b15]
 refine vl 0 _ lH rfl rfl rfl (cZ kK rfl (vk OR zJ m rfl rfl λ_ m=> ?_))
 apply vi m <;> intro b16 m
 rw[b16]
 exact gH m
 rw[b16]
 refine vl 0 _ BW rfl rfl rfl ?_
 apply vi m <;> intro b17 m
 rw[b17]
 refine vl 0 _ lH rfl rfl rfl (cZ kK rfl ?_)
 apply vi m <;> intro b22 m
 rw[b22]
 exact gH m
 rw[b22]
 exact vl 0 _ e8 rfl rfl rfl (cZ iC rfl (gH m))
 rw[b17]
 exact gH m
 rw[b15]
 refine vl 0 _ BW rfl rfl rfl ?_
 apply vi m <;> intro b23 m
 rw[b23]
 refine vl 0 _ lH rfl rfl rfl (cZ kK rfl ?_)
 apply vi m <;> intro b24 m
 rw[b24]
 exact gH m
 rw[b24]
 exact vl 0 _ e8 rfl rfl rfl (cZ iC rfl (gH m))
 rw[b23]
 exact gH m
 rintro _ j3 m
 refine v ?_
 apply vi m <;> intro c9 m
 refine v (v (fO m λm=> ?_))
 obtain rfl:=eB m
 exact dQ rfl
 exact v (v (uZ m (kP [1] rfl rfl (.k2 .nil))))
 exact v (OP m)
 rintro _ r1 m
 refine v (iI m (σ:=Int) (λs=> [(some k2,.obj 30 (aE p0))]) (λs=>.c 1 (.ptr k2 0) (.c 7 (nZ s) .nil)) (lx (.k2 .nil)) ?_ ?_)
 rintro _ q2 x m
 replace m:qV w p0 q2=some x:=m
 unfold qV at m
 refine v (vl 0 _ eK rfl rfl rfl (cZ iJ rfl (v ?_)))
 apply vi m <;> intro c10 m
 refine v (v (v (vl 0 _ eK rfl rfl rfl (vx m gJ rfl rfl λx3 _ m=>va (.agg (bP x3)) qR rfl rfl (ve λu=>bD (V6) u uB rfl rfl λk707 K5=>qk K5 rfl (ve λu=>aK 0 (bP x3) u rfl rfl rfl rfl JL rfl rfl λK6=>qk K6 rfl (vs (vs (fB m (σ:=Bool) (λs=> [(some k707,.obj 60 (bP x3)),(some k2,.obj 30 (aE p0))]) (λs=>.c 1 (.ptr k2 0) (.c 7 (nZ q2) (.c 8 (.ptr k707 0) (.c 200 (.sc (.bool s)) .nil)))) (λx m=> ?_) ?_)))))))))
 refine v (vq (by kernel_rfl) (vl 0 _ bX rfl rfl rfl ?_))
 apply vi m <;> intro b25 m
 rw[b25]
 exact fR m
 rw[b25]
 refine vl 0 _ bX rfl rfl rfl (vl 1 _ bX rfl rfl rfl ?_)
 apply vi m <;> intro b26 m
 rw[b26]
 exact fR m
 rw[b26]
 apply vi m <;> intro b27 m
 rw[b27]
 refine vl 0 _ bX rfl rfl rfl (vl 1 _ eK rfl rfl rfl (vx m gJ rfl rfl λ_ _ m=> ?_))
 apply vi m <;> intro b28 m
 rw[b28]
 exact fR m
 rw[b28]
 refine vl 0 (.agg (aU x3.Man)) lI rfl rfl rfl (vk W98 XS m rfl rfl λ_ m=> ?_)
 apply vi m <;> intro b29 m
 rw[b29]
 exact fR m
 rw[b29]
 refine vl 1 (.agg (aE p0)) eV rfl rfl rfl (vl 0 _ e8 rfl rfl rfl (vk JR AP m rfl rfl λ_ m=> ?_))
 apply vi m <;> intro b30 m
 rw[b30]
 exact fR m
 rw[b30]
 exact vl 1 (.agg (aE p0)) eV rfl rfl rfl (vl 0 _ tI rfl rfl rfl (vk TP MB m rfl rfl λ_ m=>fR m))
 rw[b27]
 refine vl 0 (.agg (aU x3.Man)) lI rfl rfl rfl (vk W98 XS m rfl rfl λ_ m=> ?_)
 apply vi m <;> intro b31 m
 rw[b31]
 exact fR m
 rw[b31]
 refine vl 1 (.agg (aE p0)) eV rfl rfl rfl (vl 0 _ e8 rfl rfl rfl (vk JR AP m rfl rfl λ_ m=> ?_))
 apply vi m <;> intro b32 m
 rw[b32]
 exact fR m
 rw[b32]
 exact vl 1 (.agg (aE p0)) eV rfl rfl rfl (vl 0 _ tI rfl rfl rfl (vk TP MB m rfl rfl λ_ m=>fR m))
 rintro _ j4 m
 refine v ?_
 apply vi m <;> intro c11 m
 refine v (v (fO m λm=> ?_))
 obtain rfl:=eB m
 exact dQ rfl
 refine v (v (vl 0 (.agg (aU x3.Man)) lI rfl rfl rfl (vk W49 XV m rfl rfl λy0 m=>v (iI m (σ:=Int) (λs=> [(some k707,.obj 60 (bP x3)),(some k2,.obj 30 (aE p0))]) (λs=>.c 1 (.ptr k2 0) (.c 7 (nZ q2) (.c 8 (.ptr k707 0) (.c 9 (.sl none 32 (List.map bJ y0)) (.c 10 (nZ s) .nil))))) (lx (.k5 .nil)) ?_ ?_))))
 rintro _ q3 x m
 replace m:uK w p0 y0 q3=some x:=m
 unfold uK at m
 refine v (cZ n8 rfl (v ?_))
 apply vi m <;> intro c12 m
 refine v (v (v (vq (by kernel_rfl) (vl 1 (.agg (aE p0)) eV rfl rfl rfl (vx m rV rfl rfl λx4 _ m=>va (.agg (bJ x4)) fK rfl rfl (vk W88 P6 m rfl rfl λ_ m=>v ?_))))))
 apply vi m <;> intro c13 m
 refine v (v (fO m λm=>fO m λm=> ?_))
 obtain rfl:=eB m
 exact dQ rfl
 exact v (v (mC m))
 exact v (VK m)
 rintro _ r2 m
 refine v (iI m (σ:=Int) (λs=> [(some k707,.obj 60 (bP x3)),(some k2,.obj 30 (aE p0))]) (λs=>.c 1 (.ptr k2 0) (.c 7 (nZ q2) (.c 8 (.ptr k707 0) (.c 11 (nZ s) .nil)))) (lx (.k4 .nil)) ?_ ?_)
 rintro _ q4 x m
 replace m:uL w p0 x3 q4=some x:=m
 unfold uL at m
 refine v (vl 1 _ hX rfl rfl rfl (cZ nK rfl (v ?_)))
 apply vi m <;> intro c14 m
 refine v (v (v (vq (by kernel_rfl) (vl 1 _ hX rfl rfl rfl (vx m hU rfl rfl λ_ _ m=>vl 0 _ bX rfl rfl rfl (v ?_))))))
 apply vi m <;> intro c15 m
 refine v (v (fO m λm=>fO m λm=> ?_))
 obtain rfl:=eB m
 exact dQ rfl
 exact v (v (fR m))
 exact v (vN m)
 rintro _ r3 m
 exact v (uZ m (kP [1] rfl rfl (.k2 .nil)))
 exact v (OP m)
 rintro _ r4 m
 refine v (iI m (σ:=Int) (λs=> [(some k2,.obj 30 (aE p0))]) (λs=>.c 1 (.ptr k2 0) (.c 12 (nZ s) .nil)) (lx (.k2 .nil)) ?_ ?_)
 rintro _ q5 x m
 replace m:oF w p0 q5=some x:=m
 unfold oF at m
 refine v (vl 0 _ hX rfl rfl rfl (cZ nK rfl (v ?_)))
 apply vi m <;> intro c16 m
 refine v (v (v (vl 0 _ hX rfl rfl rfl (vx m hU rfl rfl λx5 _ m=>va (.agg (cD x5)) qS rfl rfl (ve λu=>bD ([nZ 0,nZ 0,sZ]) u n9 rfl rfl λk941 K7=>qk K7 rfl (ve λu=>aK 0 (cD x5) u rfl rfl rfl rfl xG rfl rfl λK8=>qk K8 rfl (vs (fB m (σ:=Bool) (λs=> [(some k941,.obj 99 (cD x5)),(some k2,.obj 30 (aE p0))]) (λs=>.c 1 (.ptr k2 0) (.c 12 (nZ q5) (.c 295 (.sc (.bool s)) .nil))) (λx m=> ?_) ?_))))))))
 refine v (vq (by kernel_rfl) (vl 0 _ bX rfl rfl rfl ?_))
 apply vi m <;> intro b33 m
 rw[b33]
 exact gH m
 rw[b33]
 refine vl 0 _ bX rfl rfl rfl (vl 1 _ bX rfl rfl rfl ?_)
 apply vi m <;> intro b34 m
 rw[b34]
 exact gH m
 rw[b34]
 apply vi m <;> intro b35 m
 rw[b35]
 refine vl 0 _ bX rfl rfl rfl (vl 1 _ hX rfl rfl rfl (vx m hU rfl rfl λ_ _ m=> ?_))
 apply vi m <;> intro b36 m
 rw[b36]
 exact gH m
 rw[b36]
 refine vl 0 _ bX rfl rfl rfl ?_
 apply vi m <;> intro b37 m
 rw[b37]
 exact gH m
 rw[b37]
 refine vl 0 _ bX rfl rfl rfl (vl 0 _ bX rfl rfl rfl ?_)
 apply vi m <;> intro b38 m
 rw[b38]
 exact gH m
 rw[b38]
 refine vl 1 (.agg (aE p0)) eV rfl rfl rfl (vl 0 _ e8 rfl rfl rfl (vk JR AP m rfl rfl λ_ m=> ?_))
 apply vi m <;> intro b39 m
 rw[b39]
 exact gH m
 rw[b39]
 exact vl 0 _ e8 rfl rfl rfl (cZ iC rfl (gH m))
 rw[b35]
 refine vl 0 _ bX rfl rfl rfl ?_
 apply vi m <;> intro b40 m
 rw[b40]
 exact gH m
 rw[b40]
 refine vl 0 _ bX rfl rfl rfl (vl 0 _ bX rfl rfl rfl ?_)
 apply vi m <;> intro b41 m
 rw[b41]
 exact gH m
 rw[b41]
 refine vl 1 (.agg (aE p0)) eV rfl rfl rfl (vl 0 _ e8 rfl rfl rfl (vk JR AP m rfl rfl λ_ m=> ?_))
 apply vi m <;> intro b42 m
 rw[b42]
 exact gH m
 rw[b42]
 exact vl 0 _ e8 rfl rfl rfl (cZ iC rfl (gH m))
 rintro _ j5 m
 refine v ?_
 apply vi m <;> intro c17 m
 refine v (v (fO m λm=> ?_))
 obtain rfl:=eB m
 exact dQ rfl
 exact v (v (uZ m (kP [1] rfl rfl (.k2 .nil))))
 exact v (OP m)
 rintro _ r5 m
 refine v (v ?_)
 obtain rfl:=eB m
 exact dQ rfl
theorem XW:aO Tryz.prog 89=true:=by kernel_rfl
open Go.Vm
def sE (m:Nat) (p0:List dH) (p1:dH→Option Bool) (q0:Int):Option (Lp (Int) (Int)):=
 if (decide (q0 < (p0.length:Int)))=true then ((ix p0 q0).bind λx0=>(p1 x0).bind λy0=>if y0=true then (some (.ret q0)) else some (.go (IntKind.wrap .i64 (q0+1)))) else some (.brk q0)
def P7 (m:Nat) (p0:List dH) (p1:dH→Option Bool):Option (Int):=
 after (aT (λs=>sE m p0 p1 s) m 0) λr0=>some (-1)
theorem aDR {w:Nat} {p0:List dH} {p1:dH→Option Bool} {o:Int} (h:aF) {p1F:Nat} {p1C:List AV} (p1B:aO Tryz.prog p1F=true) (p1H:∀x0 o h0,h9 h h0→p1 x0=some o→aL Tryz.prog p1F ([.agg (bT x0)]++p1C) h0 (λr h'=>r= .sc (.bool o)∧h'=h0)) (m:P7 w p0 p1=some o):
 aL Tryz.prog 109 [.sl none 3 (List.map bT p0),.fn (.func p1F) p1C] h (λr h'=>r=nZ o∧h'=h):=by
 refine fN 19 [.tmp 4] Tryz.func109 rfl rfl rfl rfl ?_
 unfold P7 at m
 refine v (v (cZ p9 rfl (iI m (σ:=Int) (λs=> []) (λs=>.c 0 (.sl none 3 (List.map bT p0)) (.c 1 (.fn (.func p1F) p1C) (.c 7 (nZ (p0.length:Int)) (.c 8 (nZ s) .nil)))) (lx (.k4 .nil)) ?_ ?_)))
 rintro _ q0 x m
 replace m:sE w p0 p1 q0=some x:=m
 unfold sE at m
 refine v (v ?_)
 apply vi m <;> intro c0 m
 refine v (v (v (v (vx m pG rfl rfl λx1 _ m=>va (.agg (bT x1)) xE rfl rfl ?_))))
 obtain⟨_,Y0,m⟩:=aC m
 refine vn (λu=>bZ (p1H _ _ _ (aS (List.nil_sublist _) u).1 Y0) rfl p1B rfl) (v ?_)
 apply vi m <;> intro c1 m
 refine v (v (fO m λm=> ?_))
 obtain rfl:=eB m
 exact dQ rfl
 exact v (v (fR m))
 exact v (vN m)
 rintro _ r0 m
 refine v (v ?_)
 cases m
 exact dQ rfl
theorem XX:aO Tryz.prog 109=true:=by kernel_rfl
def XY (m:Nat) (p0:List dH) (p1:dH→Option Bool):Option (Bool):=
 (P7 m p0 p1).bind λy3=>some (decide (0≤y3))
theorem W60 {w:Nat} {p0:List dH} {p1:dH→Option Bool} {o:Bool} (h:aF) {p1F:Nat} {p1C:List AV} (p1B:aO Tryz.prog p1F=true) (p1H:∀x0 o h0,h9 h h0→p1 x0=some o→aL Tryz.prog p1F ([.agg (bT x0)]++p1C) h0 (λr h'=>r= .sc (.bool o)∧h'=h0)) (m:XY w p0 p1=some o):
 aL Tryz.prog 60 [.sl none 3 (List.map bT p0),.fn (.func p1F) p1C] h (λr h'=>r= .sc (.bool o)∧h'=h):=by
 refine fN 9 [.tmp 4] Tryz.func60 rfl rfl rfl rfl ?_
 unfold XY at m
 refine v (v ?_)
 obtain⟨_,Y4,m⟩:=aC m
 refine vn (λu=>bZ (aDR _ p1B (λx0 o h0 hs ho=>p1H x0 o h0 ((aS (List.nil_sublist _) u).1.trans hs) ho) Y4) rfl XX rfl) (v ?_)
 cases m
 exact dQ rfl
theorem aDS:aO Tryz.prog 60=true:=by kernel_rfl
def sF (m:Nat) (p0:List bL) (p1:bL) (q0:Int):Option (Lp (Int) (Int)):=
 if (decide (q0 < (p0.length:Int)))=true then ((ix p0 q0).bind λx0=>if (decide (p1=x0))=true then (some (.ret q0)) else some (.go (IntKind.wrap .i64 (q0+1)))) else some (.brk q0)
def P8 (m:Nat) (p0:List bL) (p1:bL):Option (Int):=
 after (aT (λs=>sF m p0 p1 s) m 0) λr0=>some (-1)
theorem aDT {u:Nat} {p0:List bL} {p1:bL} {o:Int} (h:aF) (m:P8 u p0 p1=some o):
 aL Tryz.prog 110 [.sl none 32 (List.map bJ p0),.agg (bJ p1)] h (λr h'=>r=nZ o∧h'=h):=by
 refine fN 19 [.tmp 4] Tryz.func110 rfl rfl rfl rfl ?_
 unfold P8 at m
 refine v (gG rfl rfl λk2 K3=>v (cZ n8 rfl (iI m (σ:=Int) (λs=> [(some k2,.obj 36 (bJ p1))]) (λs=>.c 0 (.sl none 32 (List.map bJ p0)) (.c 3 (.ptr k2 0) (.c 7 (nZ (p0.length:Int)) (.c 8 (nZ s) .nil)))) (lx (.k4 .nil)) ?_ ?_)))
 rintro _ q0 x m
 replace m:sF u p0 p1 q0=some x:=m
 unfold sF at m
 refine v (v ?_)
 apply vi m <;> intro c0 m
 refine v (v (v (v (vq (by kernel_rfl) (vl 0 (.agg (bJ p1)) fK rfl rfl rfl (vx m rV rfl rfl λx0 _ m=>va (.agg (bJ x0)) fK rfl rfl (bU (rM yZ OQ u5 BX rfl rfl) (v ?_))))))))
 apply vi m <;> intro c1 m
 refine v (v (fO m λm=> ?_))
 obtain rfl:=eB m
 exact dQ rfl
 exact v (v (fR m))
 exact v (vN m)
 rintro _ r0 m
 refine v (v ?_)
 cases m
 exact dQ rfl
theorem XZ:aO Tryz.prog 110=true:=by kernel_rfl
def YA (m:Nat) (p0:List bL) (p1:bL):Option (Bool):=
 (P8 m p0 p1).bind λy6=>some (decide (0≤y6))
theorem W62 {u:Nat} {p0:List bL} {p1:bL} {o:Bool} (h:aF) (m:YA u p0 p1=some o):
 aL Tryz.prog 62 [.sl none 32 (List.map bJ p0),.agg (bJ p1)] h (λr h'=>r= .sc (.bool o)∧h'=h):=by
 refine fN 9 [.tmp 4] Tryz.func62 rfl rfl rfl rfl ?_
 unfold YA at m
 refine v (gG rfl rfl λk2 K3=>v (vl 0 (.agg (bJ p1)) fK rfl rfl rfl (vk aDT XZ m rfl rfl λ_ m=>v ?_)))
 cases m
 exact dQ rfl
theorem aDU:aO Tryz.prog 62=true:=by kernel_rfl
def M61 (m:Nat) (p0:dH) (c0:bL):Option (Bool):=
 (YA m p0.Ids c0).bind λy6=>some y6
theorem W61 {w:Nat} {p0:dH} {c0:bL} {o:Bool} (h:aF) {c0K:cB} (c0H:h c0K=some (.obj 36 (bJ c0))) (m:M61 w p0 c0=some o):
 aL Tryz.prog 61 [.agg (bT p0),.ptr c0K 0] h (λr h'=>r= .sc (.bool o)∧h'=h):=by
 refine fN 8 [.tmp 3] Tryz.func61 rfl rfl rfl rfl ?_
 unfold M61 at m
 refine v (gG rfl rfl λk2 K3=>v (vl 0 _ pH rfl rfl rfl (vn (λu=>nG (.agg (bJ c0)) fK rfl (jR u c0H) rfl) (vk W62 aDU m rfl rfl λ_ m=>v ?_))))
 obtain rfl:=eB m
 exact dQ rfl
theorem aDV:aO Tryz.prog 61=true:=by kernel_rfl
def M59 (m:Nat) (p0:aG) (c0:bL):Option (Bool):=
 (XY m p0.Man.Parts (λx0=>M61 m x0 c0)).bind λy6=>some y6
theorem W59 {w:Nat} {p0:aG} {c0:bL} {o:Bool} (h:aF) {c0K:cB} (c0H:h c0K=some (.obj 36 (bJ c0))) (m:M59 w p0 c0=some o):
 aL Tryz.prog 59 [.agg (bP p0),.ptr c0K 0] h (λr h'=>r= .sc (.bool o)∧h'=h):=by
 refine fN 9 [.tmp 3] Tryz.func59 rfl rfl rfl rfl ?_
 unfold M59 at m
 refine v (gG rfl rfl λk2 K3=>v (vl 0 _ kR rfl rfl rfl ?_))
 obtain⟨_,Y7,m⟩:=aC m
 refine vn (λu=>bZ (W60 _ aDV (λ_ o h0 hs ho=>W61 _ (hs _ _ (jR u c0H)) ho) Y7) rfl aDS rfl) (v ?_)
 obtain rfl:=eB m
 exact dQ rfl
theorem aDW:aO Tryz.prog 59=true:=by kernel_rfl
def YB (m:Nat) (p0:aB) (p1:bL):Option (Bool):=
 (TN m p0.Snaps (λx0=>M59 m x0 p1)).bind λy9=>some y9
theorem W22 {w:Nat} {p0:aB} {p1:bL} {o:Bool} (h:aF) (m:YB w p0 p1=some o):
 aL Tryz.prog 22 [.agg (aE p0),.agg (bJ p1)] h (λr h'=>r= .sc (.bool o)∧h'=h):=by
 refine fN 9 [.tmp 4] Tryz.func22 rfl rfl rfl rfl ?_
 unfold YB at m
 refine v (gG rfl rfl λk2 K3=>gG rfl rfl λk5 K6=>v (vl 1 _ eK rfl rfl rfl ?_))
 obtain⟨_,Y0,m⟩:=aC m
 refine vn (λu=>bZ (W58 _ aDW (λ_ o h0 hs ho=>W59 _ (hs _ _ (a9 0 u rfl)) ho) Y0) rfl XH rfl) (v ?_)
 obtain rfl:=eB m
 exact dQ rfl
theorem aDX:aO Tryz.prog 22=true:=by kernel_rfl
theorem YC:aO Tryz.prog 108=true:=by kernel_rfl
def P9 (m:Nat) (p0:aG) (c0:ByteArray):Option (Bool):=
 some (p0.Man.Name.toList==c0.toList)
theorem aDY {w:Nat} {p0:aG} {c0:ByteArray} {o:Bool} (h:aF) {c0K:cB} (c0H:h c0K=some (.obj 9 (LO c0))) (m:P9 w p0 c0=some o):
 aL Tryz.prog 104 [.agg (bP p0),.ptr c0K 0] h (λr h'=>r= .sc (.bool o)∧h'=h):=by
 refine fN 9 [.tmp 3] Tryz.func104 rfl rfl rfl rfl ?_
 unfold P9 at m
 refine v (gG rfl rfl λk2 K3=>v (vl 0 _ tI rfl rfl rfl (vn (λu=>nG (.sc (.string c0)) tI rfl (jR u c0H) rfl) (bU (vI rfl rfl rfl trivial) (v ?_)))))
 cases m
 exact dQ rfl
theorem YD:aO Tryz.prog 104=true:=by kernel_rfl
def VQ (m:Nat) (p0:aB) (p1:ByteArray):Option (Int):=
 (GG m p0.Snaps (λx0=>P9 m x0 p1)).bind λy9=>some y9
theorem W46 {w:Nat} {p0:aB} {p1:ByteArray} {o:Int} (h:aF) (m:VQ w p0 p1=some o):
 aL Tryz.prog 46 [.agg (aE p0),.sc (.string p1)] h (λr h'=>r=nZ o∧h'=h):=by
 refine fN 9 [.tmp 4] Tryz.func46 rfl rfl rfl rfl ?_
 unfold VQ at m
 refine v (gG rfl rfl λk2 K3=>gG rfl rfl λk5 K6=>v (vl 1 _ eK rfl rfl rfl ?_))
 obtain⟨_,Y0,m⟩:=aC m
 refine vn (λu=>bZ (XG _ YD (λ_ o h0 hs ho=>aDY _ (hs _ _ (a9 0 u rfl)) ho) Y0) rfl D7 rfl) (v ?_)
 obtain rfl:=eB m
 exact dQ rfl
theorem YE:aO Tryz.prog 46=true:=by kernel_rfl
def xO (m:Nat) (p0:List aA) (p1:aA→Option Bool) (q0:Int):Option (Lp (Int) (Int)):=
 if (decide (q0 < (p0.length:Int)))=true then ((ix p0 q0).bind λx0=>(p1 x0).bind λy0=>if y0=true then (some (.ret q0)) else some (.go (IntKind.wrap .i64 (q0+1)))) else some (.brk q0)
def VS (m:Nat) (p0:List aA) (p1:aA→Option Bool):Option (Int):=
 after (aT (λs=>xO m p0 p1 s) m 0) λr0=>some (-1)
theorem W53 {w:Nat} {p0:List aA} {p1:aA→Option Bool} {o:Int} (h:aF) {p1F:Nat} {p1C:List AV} (p1B:aO Tryz.prog p1F=true) (p1H:∀x0 o h0,h9 h h0→p1 x0=some o→aL Tryz.prog p1F ([.agg (aH x0)]++p1C) h0 (λr h'=>r= .sc (.bool o)∧h'=h0)) (m:VS w p0 p1=some o):
 aL Tryz.prog 53 [.sl none 35 (List.map aH p0),.fn (.func p1F) p1C] h (λr h'=>r=nZ o∧h'=h):=by
 refine fN 19 [.tmp 4] Tryz.func53 rfl rfl rfl rfl ?_
 unfold VS at m
 refine v (v (cZ hM rfl (iI m (σ:=Int) (λs=> []) (λs=>.c 0 (.sl none 35 (List.map aH p0)) (.c 1 (.fn (.func p1F) p1C) (.c 7 (nZ (p0.length:Int)) (.c 8 (nZ s) .nil)))) (lx (.k4 .nil)) ?_ ?_)))
 rintro _ q0 x m
 replace m:xO w p0 p1 q0=some x:=m
 unfold xO at m
 refine v (v ?_)
 apply vi m <;> intro c0 m
 refine v (v (v (v (vx m eU rfl rfl λx1 _ m=>va (.agg (aH x1)) lS rfl rfl ?_))))
 obtain⟨_,Y0,m⟩:=aC m
 refine vn (λu=>bZ (p1H _ _ _ (aS (List.nil_sublist _) u).1 Y0) rfl p1B rfl) (v ?_)
 apply vi m <;> intro c1 m
 refine v (v (fO m λm=> ?_))
 obtain rfl:=eB m
 exact dQ rfl
 exact v (v (fR m))
 exact v (vN m)
 rintro _ r0 m
 refine v (v ?_)
 cases m
 exact dQ rfl
theorem TR:aO Tryz.prog 53=true:=by kernel_rfl
def M54 (m:Nat) (p0:aA) (c0:bL):Option (Bool):=
 some (decide (p0.Id=c0))
theorem W54 {w:Nat} {p0:aA} {c0:bL} {o:Bool} (h:aF) {c0K:cB} (c0H:h c0K=some (.obj 36 (bJ c0))) (m:M54 w p0 c0=some o):
 aL Tryz.prog 54 [.agg (aH p0),.ptr c0K 0] h (λr h'=>r= .sc (.bool o)∧h'=h):=by
 refine fN 8 [.tmp 3] Tryz.func54 rfl rfl rfl rfl ?_
 unfold M54 at m
 refine v (gG rfl rfl λk2 K3=>v (vl 0 (.agg (bJ p0.Id)) fK rfl rfl rfl (vn (λu=>nG (.agg (bJ c0)) fK rfl (jR u c0H) rfl) (bU (rM yZ OQ u5 BX rfl rfl) (v ?_)))))
 cases m
 exact dQ rfl
theorem aDZ:aO Tryz.prog 54=true:=by kernel_rfl
def VT (m:Nat) (p0:aB) (p1:bL):Option (Int):=
 (VS m p0.Chunks (λx0=>M54 m x0 p1)).bind λy9=>some y9
theorem W20 {w:Nat} {p0:aB} {p1:bL} {o:Int} (h:aF) (m:VT w p0 p1=some o):
 aL Tryz.prog 20 [.agg (aE p0),.agg (bJ p1)] h (λr h'=>r=nZ o∧h'=h):=by
 refine fN 9 [.tmp 4] Tryz.func20 rfl rfl rfl rfl ?_
 unfold VT at m
 refine v (gG rfl rfl λk2 K3=>gG rfl rfl λk5 K6=>v (vl 1 _ eD rfl rfl rfl ?_))
 obtain⟨_,Y0,m⟩:=aC m
 refine vn (λu=>bZ (W53 _ aDZ (λ_ o h0 hs ho=>W54 _ (hs _ _ (a9 0 u rfl)) ho) Y0) rfl TR rfl) (v ?_)
 obtain rfl:=eB m
 exact dQ rfl
theorem YF:aO Tryz.prog 20=true:=by kernel_rfl
open Go.Vm Go.ChangeShapes Go.WideShapes
section
variable {H:Type} {enc:TypeId×Value→H} {W:World}
theorem ce3:Tryz.prog.cellsOf 3=1:=by kernel_rfl
theorem rd3:Rd enc Tryz.prog W 3 iY gI:=SP u3
theorem aD0:Rd enc Tryz.prog W 22 PR (gL gI):=Rd.slice rd3 u22 ce3 (λ_=>rfl) (by decide)
theorem YG:Tryz.prog.cellsOf 67=5:=by kernel_rfl
theorem aD1:Tryz.prog.cellsOf 64=1:=by kernel_rfl
theorem YH:Tryz.prog.cellsOf 95=2:=by kernel_rfl
theorem ce9:Tryz.prog.cellsOf 9=1:=by kernel_rfl
theorem rd9:Rd enc Tryz.prog W 9 LO gT:=SQ u9
theorem aD2:Tryz.prog.cellsOf 41=1:=by kernel_rfl
theorem ce5:Tryz.prog.cellsOf 5=1:=by kernel_rfl
theorem rd5:Rd enc Tryz.prog W 5 dD gB:=WO u5
theorem aD3:Rd enc Tryz.prog W 41 gY (gL gB):=Rd.slice rd5 u41 ce5 (λ_=>rfl) (by decide)
def GJ (x:dS):Prop:=gT x.Path∧(gL gB) x.Data
theorem aD4:JA Tryz.prog 95=some 2:=by kernel_rfl
theorem aD5:Rd enc Tryz.prog W 95 eX GJ:=by
 intro fuel cs x h
 obtain⟨hl,hf⟩:=Rd.flds aD4 YH h
 obtain⟨a0,g0,v0,w0⟩:=hf 0 0 1 TJ ce9 rd9
 obtain⟨a1,g1,v1,w1⟩:=hf 1 1 1 TK aD2 aD3
 obtain⟨v,w⟩:=(Fq.cons v0 w0 (Fq.cons v1 w1 (Fq.nil hl) rfl) rfl)
 exact⟨⟨a0,a1⟩,⟨g0,g1⟩,by simpa [eX,LO,gY] using v,by simpa using w⟩
theorem aD6:Rd enc Tryz.prog W 64 D3 (gL GJ):=Rd.slice aD5 u64 YH (λx=>by simp[eX,bJ]) (by decide)
theorem aD7:Tryz.prog.cellsOf 65=1:=by kernel_rfl
theorem ce4:Tryz.prog.cellsOf 4=1:=by kernel_rfl
theorem rd4:Rd enc Tryz.prog W 4 F7 gT:=PJ u4
theorem aD8:Rd enc Tryz.prog W 65 D4 (gL gT):=Rd.slice rd4 u65 ce4 (λ_=>rfl) (by decide)
def EB (x:lP):Prop:=gI x.Do∧gI x.N∧gI x.Vol∧(gL GJ) x.Tree∧(gL gT) x.Pick
theorem YI:JA Tryz.prog 67=some 5:=by kernel_rfl
theorem YJ:Rd enc Tryz.prog W 67 dO EB:=by
 intro fuel cs x h
 obtain⟨hl,hf⟩:=Rd.flds YI YG h
 obtain⟨a0,g0,v0,w0⟩:=hf 0 0 1 TB ce3 rd3
 obtain⟨a1,g1,v1,w1⟩:=hf 1 1 1 TD ce3 rd3
 obtain⟨a2,g2,v2,w2⟩:=hf 2 2 1 TE ce3 rd3
 obtain⟨a3,g3,v3,w3⟩:=hf 3 3 1 TF aD1 aD6
 obtain⟨a4,g4,v4,w4⟩:=hf 4 4 1 TG aD7 aD8
 obtain⟨v,w⟩:=(Fq.cons v0 w0 (Fq.cons v1 w1 (Fq.cons v2 w2 (Fq.cons v3 w3 (Fq.cons v4 w4 (Fq.nil hl) rfl) rfl) rfl) rfl) rfl)
 exact⟨⟨a0,a1,a2,a3,a4⟩,⟨g0,g1,g2,g3,g4⟩,by simpa [dO,iY,iY,iY,D3,D4] using v,by simpa using w⟩
theorem aD9:Rd enc Tryz.prog W 23 PS (gL EB):=Rd.slice YJ u23 YG (λx=>by simp[dO,bJ]) (by decide)
def GK (x:dH):Prop:=gT x.Path∧gI x.Size∧(gL (λx:bL=>gL gB x.1)) x.Ids
def xP (x:bB):Prop:=gT x.Name∧(gL GK) x.Parts
def m7 (x:bI):Prop:=gI x.Vol∧gI x.File∧gI x.Off∧gI x.Len
def TS (x:aG):Prop:=gI x.Seq∧xP x.Man∧(gL m7) x.Locs
def H9 (x:aA):Prop:=(λx:bL=>gL gB x.1) x.Id∧gT x.Staged∧(gL gB) x.Data∧(gL m7) x.Locs
def YK (x:aQ):Prop:=gI x.Seq∧gI x.Of∧(gL m7) x.Locs
def qE (x:aR):Prop:=gI x.Pool∧gI x.Epoch∧gI x.State∧gI x.Files
def AQ (x:aB):Prop:=gI x.Seq∧(gL TS) x.Snaps∧(gL H9) x.Chunks∧(gL YK) x.Exps∧(gL qE) x.Vols
theorem aEA:Tryz.prog.readableRec 22=true∧22 < Tryz.prog.types.size:=⟨by kernel_rfl,of_decide_eq_true (by kernel_rfl)⟩
theorem aEB:Tryz.prog.readableRec 23=true∧23 < Tryz.prog.types.size:=⟨by kernel_rfl,of_decide_eq_true (by kernel_rfl)⟩
theorem aEC:Tryz.prog.readableRec 67=true∧67 < Tryz.prog.types.size:=⟨by kernel_rfl,of_decide_eq_true (by kernel_rfl)⟩
theorem aED:ownKnob Tryz.prog.godebug=none:=by kernel_rfl
theorem MC:laidOutB Tryz.prog=true:=by kernel_rfl
end
open Go.Vm
def gW (a b c:Int):Bool:=decide (b≤a) && decide (a≤c)
theorem TT (F:Nat) (a b c:Int):xI F a b c=some (gW a b c):=by
 unfold xI gW
 by_cases h:b≤a <;> simp[after,h]
theorem YL (F:Nat) (a b c:Int):H8 F a b c=some (gW a b c):=by
 unfold H8 gW
 by_cases h:b≤a <;> simp[after,h]
def nM (a b:bI):Bool:=if a.Vol !=b.Vol then decide (b.Vol < a.Vol) else if a.File !=b.File then decide (b.File < a.File) else decide (b.Off < a.Off)
theorem aEE (F:Nat) (a b:bI):L6 F a b=some (nM a b):=by
 unfold L6 nM
 split
 ·rfl
 ·split <;> rfl
def JS (c:aB) (l:List bI) (i:Nat):Bool:=match l[i]? with
  | none=>true
  | some x=>gW x.Vol 0 ((c.Vols.length:Int) - 1) && (match c.Vols[x.Vol.toNat]? with | none=>false | some v=>v.State==2 && gW x.File 1 v.Files) && gW x.Off 0 16777215 && gW x.Len 13 8013 &&
      (i==0 || (match l[i - 1]? with | none=>true | some y=>nM x y))
def iZ (c:aB) (l:List bI):Bool:=decide (l.length≤200) && !(List.range l.length).any λi=> !JS c l i
theorem TU {F:Nat} {c:aB} {l:List bI} (hF:1000≤F) (hv:c.Vols.length < 1000):zG F c l=some (iZ c l):=by
 unfold zG iZ
 by_cases hl:200 < (l.length:Int)
 ·rw[if_pos (by simpa using hl)]; simp; omega
 ·rw[if_neg (by simpa using hl)]
  rw[fD (s0:=(0:Int)) (n:=l.length) (F:=F) (λi:Nat=>(i:Int)) (λi=> !JS c l i) (λ_=>false) (by omega) rfl,iD]
  ·have:l.length≤200:=by omega
   simp only[this,decide_true,Bool.true_and]
   split <;> rename_i h <;> simp[after,h]
  ·intro i hi _
   unfold rX JS
   have hx:l[i]? =some l[i]:=List.getElem?_eq_getElem hi
   generalize l[i]=x at hx
   rw[wr (by omega) (by omega),hH (by omega)]
   simp only[bO,hx,TT,aEE,Option.bind_some,cV,aJ,dC,dK,Int.ofNat_lt,hi,decide_true,if_true]
   cases h1:gW x.Vol 0 ((c.Vols.length:Int) - 1)
   ·simp[after]
   ·have h2:0≤x.Vol∧x.Vol.toNat < c.Vols.length:=by simp[gW] at h1; omega
    have h3:c.Vols[x.Vol.toNat]? =some c.Vols[x.Vol.toNat]:=List.getElem?_eq_getElem h2.2
    generalize c.Vols[x.Vol.toNat]=v at h3
    simp only[uH _ h2.1,h3,Option.bind_some]
    by_cases h0:i=0
    ·subst h0
     simp[after]
     grind
    ·have h5:l[i - 1]? =some l[i - 1]:=List.getElem?_eq_getElem (by omega)
     generalize l[i - 1]=y at h5
     rw[xM (by omega) (by omega)]
     simp[after,bO,h5,h0,Nat.pos_of_ne_zero h0]
     grind
  ·intro _
   unfold rX
   simp
open Go.Vm Go.Lib
def key:List Int→Int
 | []=>0
 | a::u=>a*256 ^ u.length+key u
theorem GL:∀ {l:List Int},gL gB l→0≤key l∧key l < 256 ^ l.length
 | [],_=>by simp[key]
 | a::u,h=>by
  have⟨h1,h2⟩:=h a (by simp)
  have⟨h3,h4⟩:=GL (l:=u) λx hx=>h x (by simp[hx])
  have hp:(0:Int) < 256 ^ u.length:=Int.pow_pos (by decide)
  simp only[key,List.length_cons,Int.pow_succ]
  have:a*256 ^ u.length≤255*256 ^ u.length:=Int.mul_le_mul_of_nonneg_right (by omega) (by omega)
  have:0≤a*256 ^ u.length:=Int.mul_nonneg h1 (by omega)
  omega
theorem pW {a b:Int} {u v:List Int} (hl:u.length=v.length) (ha:gL gB (a::u)) (hb:gL gB (b::v)):
    (a < b→key (a::u) < key (b::v))∧(a=b→(key (a::u) < key (b::v)↔key u < key v)∧(key (a::u)=key (b::v)↔key u=key v)):=by
  have⟨h3,h4⟩:=GL (l:=u) λx hx=>ha x (by simp[hx])
  have⟨h5,h6⟩:=GL (l:=v) λx hx=>hb x (by simp[hx])
  simp only[key]
  rw[hl] at h4 ⊢
  generalize (256:Int) ^ v.length=q at h4 h6
  constructor
  · intro h
    have:(a+1)*q≤b*q:=Int.mul_le_mul_of_nonneg_right (by omega) (by omega)
    rw[Int.add_mul] at this
    omega
  · rintro rfl
    omega
theorem IA:∀ {a b:List Int},a.length=b.length→gL gB a→gL gB b→key a=key b→a=b
 | [], [],_,_,_,_=>rfl
 | x::u,y::v,hl,ha,hb,h=>by
  have hl':u.length=v.length:=by simpa using hl
  obtain⟨h1,h2⟩:=pW hl' ha hb
  obtain⟨h3, -⟩:=pW hl'.symm hb ha
  rcases Int.lt_trichotomy x y with q | q | q
  ·have:=h1 q; omega
  ·subst q
   rw[IA hl' (λz hz=>ha z (by simp[hz])) (λz hz=>hb z (by simp[hz])) ((h2 rfl).2.1 h)]
  ·have:=h3 q; omega
theorem AR (xs:List Int):(bA xs).data.toList=xs.map λz=>z.toNat.toUInt8:=by
 have:∀(xs:List Int) (acc:ByteArray),(xs.foldl (λacc z=>acc.push z.toNat.toUInt8) acc).data.toList=acc.data.toList++xs.map λz=>z.toNat.toUInt8:=by
  intro xs
  induction xs with
  | nil=>simp
  | cons x xs ih=>intro acc; rw[List.foldl_cons,ih]; simp[ByteArray.push]
 rw[bA,this]
 rfl
theorem RO {a b:Int} (ha:gB a) (hb:gB b):a.toNat.toUInt8 < b.toNat.toUInt8↔a < b:=by
 unfold gB at ha hb
 rw[UInt8.lt_iff_toNat_lt]
 simp only[Nat.toUInt8,UInt8.toNat_ofNat']
 omega
theorem EC:∀ {a b:List Int},a.length=b.length→gL gB a→gL gB b→compareBytes (a.map λz=>z.toNat.toUInt8) (b.map λz=>z.toNat.toUInt8)=if key a < key b then -1 else if key b < key a then 1 else 0
 | [], [],_,_,_=>by simp[compareBytes,key]
 | x::u,y::v,hl,ha,hb=>by
  have hl':u.length=v.length:=by simpa using hl
  obtain⟨h1,h2⟩:=pW hl' ha hb
  obtain⟨h3,h4⟩:=pW hl'.symm hb ha
  have hx:=ha x (by simp)
  have hy:=hb y (by simp)
  simp only[List.map_cons,compareBytes,RO hx hy,RO hy hx]
  rcases Int.lt_trichotomy x y with q | q | q
  ·rw[if_pos q,if_pos (h1 q)]
  ·subst q
   rw[if_neg (by omega),if_neg (by omega),EC hl' (λz hz=>ha z (by simp[hz])) (λz hz=>hb z (by simp[hz]))]
   simp only[(h2 rfl).1,(h4 rfl).1]
  ·rw[if_neg (by omega),if_pos q,if_neg (by have:=h3 q; omega),if_pos (h3 q)]
def mD (x:bL):Prop:=gL gB x.1
def ky (x:bL):Int:=key x.1
theorem GM {a b:bL} (ha:mD a) (hb:mD b) (h:ky a=ky b):a=b:=Subtype.ext (IA (by rw[a.2,b.2]) ha hb h)
theorem MD (F:Nat) {a b:bL} (ha:mD a) (hb:mD b):JQ F a b=some (if ky a < ky b then -1 else if ky b < ky a then 1 else 0):=by
 unfold JQ FV ky
 rw[cmp_eq,AR,AR,EC (by rw[a.2,b.2]) ha hb]
theorem xQ:∀(n:Nat) {a b:List Int},a.length=n→b.length=n→gL gB a→gL gB b→
    (match (List.range n).find? λi=>a.getD i 0 !=b.getD i 0 with | none=>false | some i=>decide (a.getD i 0 < b.getD i 0))=decide (key a < key b)
  | 0, [], [],_,_,_,_=>by simp[key]
  | n+1,x::u,y::v,h1,h2,ha,hb=>by
    have hl':u.length=v.length:=by simp at h1 h2; omega
    obtain⟨k1,k2⟩:=pW hl' ha hb
    obtain⟨k3,k4⟩:=pW hl'.symm hb ha
    have ih:=xQ n (a:=u) (b:=v) (by simpa using h1) (by simpa using h2) (λz hz=>ha z (by simp[hz])) (λz hz=>hb z (by simp[hz]))
    rw[find_range_succ]
    simp only[List.getD_cons_zero,List.getD_cons_succ]
    by_cases q:x=y
    · subst q
      simp only[bne_self_eq_false,Bool.false_eq_true,if_false,(k2 rfl).1]
      rw[← ih]
      cases (List.range n).find? λi=>u.getD i 0 !=v.getD i 0 with
      | none=>rfl
      | some i=>simp only[Option.map_some,List.getD_cons_succ]
    · have hne:(x !=y)=true:=by simpa using q
      simp only[hne,if_true,List.getD_cons_zero]
      rcases Int.lt_trichotomy x y with w | w | w
      · have:=k1 w; simp[w,this]
      · exact absurd w q
      · have:=k3 w
        simp; constructor <;> intro <;> omega
theorem u0 {F:Nat} {a b:bL} (body:Int→Option (Lp Int Bool)) (hF:1000≤F) (ha:mD a) (hb:mD b)
    (h:∀i:Nat,body i=if decide ((i:Int) < 32)=true then ((ix a.1 i).bind λx48=>(ix b.1 i).bind λx50=>if (x48 !=x50)=true then ((ix a.1 i).bind λx54=>(ix b.1 i).bind λx56=>some (.ret (decide (x54 < x56)))) else some (.go (IntKind.wrap .i64 (i+1)))) else some (.brk (i:Int))):
    (after (aT body F 0) λ_=>some false)=some (decide (ky a < ky b)):=by
  rw[fD (s0:=(0:Int)) (n:=32) (F:=F) (λi:Nat=>(i:Int)) (λi=>a.1.getD i 0 !=b.1.getD i 0) (λi=>decide (a.1.getD i 0 < b.1.getD i 0)) (by omega) rfl]
  · have:=xQ 32 a.2 b.2 ha hb
    unfold ky
    rw[← this]
    unfold LF
    cases (List.range 32).find? λi=>a.1.getD i 0 !=b.1.getD i 0 <;> rfl
  · intro i hi _
    rw[h,hH (by omega)]
    have h1:a.1[i]? =some a.1[i]:=List.getElem?_eq_getElem (by rw[a.2]; exact hi)
    have h2:b.1[i]? =some b.1[i]:=List.getElem?_eq_getElem (by rw[b.2]; exact hi)
    have h3:(i:Int) < 32:=by omega
    simp[bO,h1,h2,h3,List.getD]
    split <;> rfl
  · intro _
    rw[h]; simp
theorem m60 {F:Nat} {a b:bL} (hF:1000≤F) (ha:mD a) (hb:mD b):L9 F a b=some (decide (ky a < ky b)):=u0 (vV F a b) hF ha hb λ_=>rfl
theorem YM {F:Nat} {a b:bL} (hF:1000≤F) (ha:mD a) (hb:mD b):P5 F a b=some (decide (ky a < ky b)):=u0 (vW F a b) hF ha hb λ_=>rfl
open Go.Vm
structure Sm (c:aB):Prop where
 g:AQ c
 sn:c.Snaps.length≤12
 ch:c.Chunks.length≤400
 ex:c.Exps.length≤300
 vo:c.Vols.length≤20
 sl:∀s∈c.Snaps,s.Locs.length≤300
 cl:∀x∈c.Chunks,x.Locs.length≤300∧x.Data.length≤300
 el:∀x∈c.Exps,x.Locs.length≤300
 man:∀s∈c.Snaps,s.Man.Name.size≤100∧s.Man.Parts.length≤10∧∀p∈s.Man.Parts,p.Path.size≤100∧p.Ids.length≤40
theorem iO {α:Type} (l:List α) (q:α→Bool):((List.range l.length).any λi=>(l[i]?).any q)=l.any q:=by
 rw[Bool.eq_iff_iff]
 simp only[List.any_eq_true,List.mem_range]
 constructor
 ·rintro⟨i,hi,h⟩
  rw[List.getElem?_eq_getElem hi] at h
  exact⟨l[i],List.getElem_mem hi,by simpa using h⟩
 ·rintro⟨x,hx,h⟩
  obtain⟨i,hi,rfl⟩:=List.getElem_of_mem hx
  exact⟨i,hi,by rw[List.getElem?_eq_getElem hi]; simpa using h⟩
def oG (v:aR):Bool:=gW v.Pool 0 1 && gW v.Epoch 0 1048576 && ((v.State==2 && gW v.Files 1 65535) || ((v.State==1 || v.State==3) && v.Files==0))
theorem sG {α:Type} (l:List α) (q:α→Bool):(l.any λx=> !q x)= !l.all q:=by simp[List.any_eq_not_all_not]
theorem m69 {F:Nat} {l:List aR} (hF:1000≤F) (hl:l.length≤20):XB F l=some (l.all oG && gW l.length 1 8):=by
 unfold XB
 rw[fD (s0:=(0:Int)) (n:=l.length) (F:=F) (λi:Nat=>(i:Int)) (λi=>(l[i]?).any λv=> !oG v) (λ_=>false) (by omega) rfl,iD,iO,sG]
 ·cases h:l.all oG <;> simp[after,TT]
 ·intro i hi _
  unfold xJ oG
  have hx:l[i]? =some l[i]:=List.getElem?_eq_getElem hi
  generalize l[i]=x at hx
  rw[hH (by omega)]
  simp only[bO,hx,TT,Option.bind_some,cV,aJ,dC,dK,Int.ofNat_lt,hi,decide_true,if_true,Option.any_some]
  by_cases h2:x.State=2
  ·simp[h2]; grind
  ·by_cases h1:x.State=1
   ·simp[h1]; grind
   ·by_cases h3:x.State=3
    ·simp[h3]; grind
    ·simp[h1,h2,h3]
 ·intro _
  unfold xJ
  simp
theorem m61 {F:Nat} {c:aB} {l:List bI} (hF:1000≤F) (hv:c.Vols.length < 1000):zK F c l=some (iZ c l):=by
 unfold zK iZ
 by_cases hl:200 < (l.length:Int)
 ·rw[if_pos (by simpa using hl)]; simp; omega
 ·rw[if_neg (by simpa using hl)]
  rw[fD (s0:=(0:Int)) (n:=l.length) (F:=F) (λi:Nat=>(i:Int)) (λi=> !JS c l i) (λ_=>false) (by omega) rfl,iD]
  ·have:l.length≤200:=by omega
   simp only[this,decide_true,Bool.true_and]
   split <;> rename_i h <;> simp[after,h]
  ·intro i hi _
   unfold sB JS
   have hx:l[i]? =some l[i]:=List.getElem?_eq_getElem hi
   generalize l[i]=x at hx
   rw[hH (by omega)]
   simp only[bO,hx,YL,Option.bind_some,cV,aJ,dC,dK,Int.ofNat_lt,hi,decide_true,if_true]
   by_cases h1:x.Vol < 0
   ·simp[h1,gW]
    try omega
   ·by_cases h2:(c.Vols.length:Int)≤x.Vol
    ·simp[h1,h2,gW]; omega
    ·have h2':0≤x.Vol∧x.Vol.toNat < c.Vols.length:=by omega
     have h3:c.Vols[x.Vol.toNat]? =some c.Vols[x.Vol.toNat]:=List.getElem?_eq_getElem h2'.2
     generalize c.Vols[x.Vol.toNat]=v at h3
     have h4:gW x.Vol 0 ((c.Vols.length:Int) - 1)=true:=by simp[gW]; omega
     simp only[uH _ h2'.1,h3,Option.bind_some,h1,h2,h4,Bool.true_and,decide_false]
     by_cases h0:i=0
     ·subst h0
      simp[after]
      grind
     ·have h5:l[i - 1]? =some l[i - 1]:=List.getElem?_eq_getElem (by omega)
      generalize l[i - 1]=y at h5
      rw[xM (by omega) (by omega)]
      simp[after,bO,h5,h0,Nat.pos_of_ne_zero h0,nM]
      grind
  ·intro _
   unfold sB
   simp
def IB (c:aB) (i:Nat):Bool:=match c.Chunks[i]? with
 | none=>true
 | some x=>(i==0 || (match c.Chunks[i - 1]? with | none=>true | some y=>decide (ky y.Id < ky x.Id))) && iZ c x.Locs && (if x.Staged then gW x.Data.length 1 64 else (!decide (0 < x.Data.length) && !(x.Locs.length==0)))
theorem gch {c:aB} (h:Sm c) {i:Nat} {x:aA} (hx:c.Chunks[i]? =some x):mD x.Id:=by
 have:=h.g.2.2.1 x (List.mem_of_getElem? hx)
 exact this.1
theorem ME {F:Nat} {c:aB} (hF:1000≤F) (h:Sm c) {i:Nat} (hi:i < c.Chunks.length):uE F c i=some (if !IB c i then .ret false else .go ((i+1:Nat):Int)):=by
 have hc:=h.ch
 have hv:=h.vo
 unfold uE IB
 have hx:c.Chunks[i]? =some c.Chunks[i]:=List.getElem?_eq_getElem hi
 generalize c.Chunks[i]=x at hx
 have gx:=gch h hx
 rw[hH (by omega)]
 simp only[bO,hx,TT,TU hF (show c.Vols.length < 1000 by omega),Option.bind_some,cV,aJ,dC,dK,Int.ofNat_lt,hi,decide_true,if_true]
 generalize x.Locs.length=nl
 generalize x.Data.length=nd
 by_cases h0:i=0
 ·subst h0
  cases hs:x.Staged <;> simp[cV,aJ,dC,dK] <;> grind
 ·have h5:c.Chunks[i - 1]? =some c.Chunks[i - 1]:=List.getElem?_eq_getElem (by omega)
  generalize c.Chunks[i - 1]=y at h5
  have gy:=gch h h5
  rw[xM (by omega) (by omega)]
  by_cases hk:ky y.Id < ky x.Id
  ·have e:¬(0≤if ky y.Id < ky x.Id then (-1:Int) else if ky x.Id < ky y.Id then 1 else 0):=by rw[if_pos hk]; omega
   cases hs:x.Staged <;> simp[cV,aJ,dC,dK,bO,h5,h0,Nat.pos_of_ne_zero h0,MD F gy gx,e,hk] <;> grind
  ·have e:(0≤if ky y.Id < ky x.Id then (-1:Int) else if ky x.Id < ky y.Id then 1 else 0):=by rw[if_neg hk]; split <;> omega
   simp[cV,aJ,dC,dK,bO,h5,h0,Nat.pos_of_ne_zero h0,MD F gy gx,e,hk]
   try (intro hh; exfalso; split at hh <;> omega)
def uM (c:aB):Bool:= !(List.range c.Chunks.length).any λi=> !IB c i
theorem m70 {F:Nat} {c:aB} (hF:1000≤F) (h:Sm c):XM F c=some (uM c && decide (c.Chunks.length≤200)):=by
 have hc:=h.ch
 unfold XM uM
 rw[fD (s0:=(0:Int)) (n:=c.Chunks.length) (F:=F) (λi:Nat=>(i:Int)) (λi=> !IB c i) (λ_=>false) (by omega) rfl,iD]
 ·cases (List.range c.Chunks.length).any λi=> !IB c i <;> simp[after]; omega
 ·exact λi hi _=>ME hF h hi
 ·intro _; unfold uE; simp
theorem TV {F:Nat} {c:aB} (hF:1000≤F) (h:Sm c) {i:Nat} (hi:i < c.Chunks.length):qU F c i=some (if !IB c i then .ret false else .go ((i+1:Nat):Int)):=by
 have hc:=h.ch
 have hv:=h.vo
 unfold qU IB
 have hx:c.Chunks[i]? =some c.Chunks[i]:=List.getElem?_eq_getElem hi
 generalize c.Chunks[i]=x at hx
 have gx:=gch h hx
 rw[hH (by omega)]
 simp only[bO,hx,YL,m61 hF (show c.Vols.length < 1000 by omega),Option.bind_some,cV,aJ,dC,dK,Int.ofNat_lt,hi,decide_true,if_true]
 generalize x.Locs.length=nl
 generalize x.Data.length=nd
 by_cases h0:i=0
 ·subst h0
  cases hs:x.Staged <;> simp[cV,aJ,dC,dK] <;> grind
 ·have h5:c.Chunks[i - 1]? =some c.Chunks[i - 1]:=List.getElem?_eq_getElem (by omega)
  generalize c.Chunks[i - 1]=y at h5
  have gy:=gch h h5
  rw[xM (by omega) (by omega)]
  by_cases hk:ky y.Id < ky x.Id
  ·cases hs:x.Staged <;> simp[cV,aJ,dC,dK,bO,h5,h0,Nat.pos_of_ne_zero h0,m60 hF gy gx,hk] <;> grind
  ·simp[cV,aJ,dC,dK,bO,h5,h0,Nat.pos_of_ne_zero h0,m60 hF gy gx,hk]
theorem TW {F:Nat} {c:aB} (hF:1000≤F) (h:Sm c) {i:Nat} (hi:i < c.Vols.length):qT F c i=some (if (c.Vols[i]?).any λv=> !oG v then .ret false else .go ((i+1:Nat):Int)):=by
 have hv:=h.vo
 unfold qT oG
 have hx:c.Vols[i]? =some c.Vols[i]:=List.getElem?_eq_getElem hi
 generalize c.Vols[i]=x at hx
 rw[hH (by omega)]
 simp only[bO,hx,YL,Option.bind_some,cV,aJ,dC,dK,Int.ofNat_lt,hi,decide_true,if_true,Option.any_some]
 by_cases h2:x.State=2
 ·simp[h2]; grind
 ·by_cases h1:x.State=1
  ·simp[h1]; grind
  ·by_cases h3:x.State=3
   ·simp[h3]; grind
   ·simp[h1,h2,h3]
open Go.Vm
theorem ED {s:ByteArray} {i:Nat} (h:i < s.size):∃z:Int,PF s (i:Int)=some z:=by
 unfold PF
 rw[if_pos (Int.natCast_nonneg i),Int.toNat_natCast]
 have:s[i]? =some s[i]:=getElem?_pos s i h
 rw[this]
 exact⟨_,rfl⟩
def TX (s:ByteArray) (i:Nat):Bool:=(PF s (i:Int)).any λz=>decide (z < 33) || decide (126 < z)
def qF (s:ByteArray):Bool:=gW s.size 1 20 && !(List.range s.size).any (TX s)
theorem YN {F:Nat} {s:ByteArray} (hF:1000≤F):JP F s=some (qF s):=by
 unfold JP qF gW
 by_cases h1:(s.size:Int) < 1
 ·have h2:¬(1:Int)≤s.size:=by omega
  simp[after,h1,h2]
 ·by_cases h2:20 < (s.size:Int)
  ·have h3:¬(s.size:Int)≤20:=by omega
   simp[after,h1,h2,h3]
  ·rw[fD (s0:=(0:Int)) (n:=s.size) (F:=F) (λi:Nat=>(i:Int)) (TX s) (λ_=>false) (by omega) rfl,iD]
   ·have h3:(s.size:Int)≤20:=by omega
    have h4:(1:Int)≤s.size:=by omega
    simp only[h1,h2,h3,h4]
    cases h:(List.range s.size).any (TX s) <;> simp[after]
   ·intro i hi _
    unfold rY TX
    obtain⟨z,hz⟩:=ED hi
    rw[hH (by omega)]
    simp only[hz,Option.bind_some,cV,aJ,dC,dK,Int.ofNat_lt,hi,decide_true,if_true,Option.any_some]
    grind
   ·intro _
    unfold rY
    simp
theorem MF {F:Nat} {s:ByteArray} (hF:1000≤F) (hs:s.size≤100):B7 F s=some (qF s):=by
 unfold B7 qF gW
 rw[fD (s0:=(0:Int)) (n:=s.size) (F:=F) (λi:Nat=>(i:Int)) (TX s) (λ_=>false) (by omega) rfl,iD]
 ·cases h:(List.range s.size).any (TX s)
  ·simp only[cV,aJ,dC]
   by_cases h1:(1:Int)≤s.size <;> simp[aJ,h1]
  ·simp[after]
 ·intro i hi _
  unfold sC TX
  obtain⟨z,hz⟩:=ED hi
  rw[hH (by omega)]
  simp only[hz,Option.bind_some,cV,aJ,dC,dK,Int.ofNat_lt,hi,decide_true,if_true,Option.any_some]
  grind
 ·intro _
  unfold sC
  simp
def MG (x y:dH):Bool:=Op.bytesLess x.Path.toList y.Path.toList || x.Path.toList==y.Path.toList
def EE (x:dH):Bool:=qF x.Path && decide (0≤x.Size) && decide (x.Size≤200) && decide (x.Ids.length≤25) && ((x.Ids.length==0)==(x.Size==0))
def TY (m:bB) (i:Nat):Bool:=match m.Parts[i]? with
 | none=>true
 | some x=>EE x && (i==0 || (match m.Parts[i - 1]? with | none=>true | some y=> !MG x y))
def uN (m:bB):Bool:=qF m.Name && decide (m.Parts.length≤6) && !(List.range m.Parts.length).any λi=> !TY m i
theorem LH (n:Nat):((n:Int)==0)=(n==0):=by
 rw[Bool.eq_iff_iff]; simp
theorem aEH {F:Nat} {x:dH} (hF:1000≤F):L7 F x=some (EE x):=by
 unfold L7 EE
 simp only[YN hF,Option.bind_some,cV,aJ,LH]
 generalize qF x.Path=a
 generalize x.Ids.length=n
 by_cases h1:(n:Int)≤25
 ·have h2:n≤25:=by omega
  simp only[h1,h2]
  grind
 ·have h2:¬n≤25:=by omega
  simp only[h1,h2]
  grind
theorem m73 {F:Nat} {m:bB} (hF:1000≤F):D6 F m=some (if uN m then 0 else 1):=by
 unfold D6 uN
 simp only[YN hF,Option.bind_some,cV,aJ,dK]
 cases hn:qF m.Name
 ·simp
 ·by_cases hl:6 < (m.Parts.length:Int)
  ·have:¬m.Parts.length≤6:=by omega
   simp[hl,this]
  ·have h6:m.Parts.length≤6:=by omega
   rw[fD (s0:=(0:Int)) (n:=m.Parts.length) (F:=F) (λi:Nat=>(i:Int)) (λi=> !TY m i) (λ_=>1) (by omega) rfl,iD]
   ·simp only[hl,h6]
    cases (List.range m.Parts.length).any λi=> !TY m i <;> simp[after]
   ·intro i hi _
    unfold rZ TY
    have hx:m.Parts[i]? =some m.Parts[i]:=List.getElem?_eq_getElem hi
    generalize m.Parts[i]=x at hx
    rw[hH (by omega)]
    simp only[bO,hx,aEH hF,Option.bind_some,cV,aJ,dC,dK,Int.ofNat_lt,hi,decide_true,if_true]
    by_cases h0:i=0
    ·subst h0
     simp
     split <;> rfl
    ·have h5:m.Parts[i - 1]? =some m.Parts[i - 1]:=List.getElem?_eq_getElem (by omega)
     generalize m.Parts[i - 1]=y at h5
     rw[xM (by omega) (by omega)]
     simp only[bO,h5,Option.bind_some,aJ]
     rw[show (Op.bytesLess x.Path.toList y.Path.toList || x.Path.toList==y.Path.toList)=MG x y from rfl]
     have h7:(0:Int) < i:=by omega
     simp only[h7,decide_true,if_true,h0]
     cases EE x <;> cases MG x y <;> simp[h0]
   ·intro _; unfold rZ; simp
theorem m62 {F:Nat} {m:bB} (hF:1000≤F) (hm:m.Name.size≤100) (hp:∀p∈m.Parts,p.Path.size≤100):VO F m=some (uN m):=by
 unfold VO uN
 simp only[MF hF hm,Option.bind_some,cV,aJ,dK]
 cases hn:qF m.Name
 ·simp
 ·by_cases hl:6 < (m.Parts.length:Int)
  ·have:¬m.Parts.length≤6:=by omega
   simp[hl,this]
  ·have h6:m.Parts.length≤6:=by omega
   rw[fD (s0:=(0:Int)) (n:=m.Parts.length) (F:=F) (λi:Nat=>(i:Int)) (λi=> !TY m i) (λ_=>false) (by omega) rfl,iD]
   ·simp only[hl,h6]
    cases (List.range m.Parts.length).any λi=> !TY m i <;> simp[after]
   ·intro i hi _
    unfold xN TY EE
    have hx:m.Parts[i]? =some m.Parts[i]:=List.getElem?_eq_getElem hi
    have hpx:=hp _ (List.mem_of_getElem? hx)
    generalize m.Parts[i]=x at hx hpx
    rw[hH (by omega)]
    simp only[bO,hx,MF hF hpx,Option.bind_some,cV,aJ,dC,dK,Int.ofNat_lt,hi,decide_true,if_true,LH]
    generalize qF x.Path=a
    generalize x.Ids.length=n
    have hn:(25 < (n:Int))=(25 < n):=by simp; omega
    simp only[hn]
    by_cases h0:i=0
    ·subst h0
     simp
     grind
    ·have h5:m.Parts[i - 1]? =some m.Parts[i - 1]:=List.getElem?_eq_getElem (by omega)
     generalize m.Parts[i - 1]=y at h5
     rw[xM (by omega) (by omega)]
     simp only[bO,h5,Option.bind_some,aJ]
     rw[show (Op.bytesLess x.Path.toList y.Path.toList || x.Path.toList==y.Path.toList)=MG x y from rfl]
     have h7:(0:Int) < i:=by omega
     have h8:(i==0)=false:=by simpa using h0
     simp only[h7,decide_true,if_true,h8,Bool.false_or]
     generalize MG x y=o
     generalize ((n==0):Bool)=e0
     generalize (x.Size==0:Bool)=e1
     have e2:decide (x.Size < 0)= !decide (0≤x.Size):=by rw[← decide_not]; congr 1; simp
     have e3:decide (200 < x.Size)= !decide (x.Size≤200):=by rw[← decide_not]; congr 1; simp
     have e4:decide (25 < n)= !decide (n≤25):=by rw[← decide_not]; congr 1; simp
     rw[e2,e3,e4]
     generalize decide (0≤x.Size)=f2
     generalize decide (x.Size≤200)=f3
     generalize decide (n≤25)=f4
     cases a <;> cases o <;> cases f2 <;> cases f3 <;> cases f4 <;> cases e0 <;> cases e1 <;> rfl
   ·intro _; unfold xN; simp
open Go.Vm
theorem sH {α:Type} {l:List α} (q:α→Bool) {F:Nat} {body:Int→Option (Lp Int Int)} (hF:l.length < F)
    (hb:∀i:Nat,i < l.length→body (i:Int)=some (if (l[i]?).any q then .ret (i:Int) else .go ((i+1:Nat):Int))) (he:body (l.length:Int)=some (.brk (l.length:Int))):
    (after (aT body F 0) λ_=>some (-1)).bind (λy=>some (decide (0≤y)))=some (l.any q):=by
  rw[fD (s0:=(0:Int)) (n:=l.length) (F:=F) (λi:Nat=>(i:Int)) (λi=>(l[i]?).any q) (λi=>(i:Int)) hF rfl (λi hi _=>hb i hi) (λ_=>he),← iO]
  unfold LF
  cases h:(List.range l.length).find? λi=>(l[i]?).any q with
  | none=>
    have:(List.range l.length).any (λi=>(l[i]?).any q)=false:=by
      rw[List.any_eq_false]
      exact λx hx=>by simpa using List.find?_eq_none.1 h x hx
    simp[after,this]
  | some i=>
    have:(List.range l.length).any (λi=>(l[i]?).any q)=true:=List.any_eq_true.2 ⟨i,List.mem_of_find?_eq_some h,List.find?_some (p:=λi=>(l[i]?).any q) h⟩
    simp[after,this]
theorem m89 {F:Nat} {l:List aG} {f:aG→Option Bool} (q:aG→Bool) (hF:l.length < F) (hl:l.length < 1000) (hf:∀x∈l,f x=some (q x)):TN F l f=some (l.any q):=by
 unfold TN GG
 refine sH q hF (λi hi=> ?_) (by unfold oB; simp)
 unfold oB
 have hx:l[i]? =some l[i]:=List.getElem?_eq_getElem hi
 rw[hH (by omega)]
 simp only[bO,hx,hf _ (List.getElem_mem hi),Option.bind_some,Int.ofNat_lt,hi,decide_true,if_true,Option.any_some]
 split <;> rfl
theorem m91 {F:Nat} {l:List dH} {f:dH→Option Bool} (q:dH→Bool) (hF:l.length < F) (hl:l.length < 1000) (hf:∀x∈l,f x=some (q x)):XY F l f=some (l.any q):=by
 unfold XY P7
 refine sH q hF (λi hi=> ?_) (by unfold sE; simp)
 unfold sE
 have hx:l[i]? =some l[i]:=List.getElem?_eq_getElem hi
 rw[hH (by omega)]
 simp only[bO,hx,hf _ (List.getElem_mem hi),Option.bind_some,Int.ofNat_lt,hi,decide_true,if_true,Option.any_some]
 split <;> rfl
theorem m93 {F:Nat} {l:List bL} {d:bL} (hF:l.length < F) (hl:l.length < 1000):YA F l d=some (l.any λx=>decide (d=x)):=by
 unfold YA P8
 refine sH (λx=>decide (d=x)) hF (λi hi=> ?_) (by unfold sF; simp)
 unfold sF
 have hx:l[i]? =some l[i]:=List.getElem?_eq_getElem hi
 rw[hH (by omega)]
 simp only[bO,hx,Option.bind_some,Int.ofNat_lt,hi,decide_true,if_true,Option.any_some]
 split <;> rfl
def sI (c:aB) (d:bL):Bool:=c.Snaps.any λs=>s.Man.Parts.any λp=>p.Ids.any λx=>decide (d=x)
theorem m44 {F:Nat} {c:aB} {d:bL} (hF:1000≤F) (h:Sm c):YB F c d=some (sI c d):=by
 have hs:=h.sn
 unfold YB sI
 rw[m89 (λs=>s.Man.Parts.any λp=>p.Ids.any λx=>decide (d=x)) (by omega) (by omega)]
 ·rfl
 ·intro s hs'
  obtain⟨h1,h2,h3⟩:=h.man s hs'
  unfold M59
  rw[m91 (λp=>p.Ids.any λx=>decide (d=x)) (by omega) (by omega)]
  ·rfl
  ·intro p hp
   unfold M61
   rw[m93 (by have:=(h3 p hp).2; omega) (by have:=(h3 p hp).2; omega)]
   rfl
def yS (c:aB) (i:Nat):Bool:=match c.Exps[i]? with
 | none=>true
 | some x=>gW x.Seq 0 (c.Seq - 1) && (i==0 || (match c.Exps[i - 1]? with | none=>true | some y=>decide (y.Seq < x.Seq))) && gW x.Of 0 (x.Seq - 1) && !(x.Locs.length==0) && iZ c x.Locs
def JT (c:aB) (i:Nat):Bool:=match c.Exps[i]? with
 | none=>true
 | some x=> !c.Snaps.any λs=>s.Seq==x.Of
theorem gex {c:aB} (h:Sm c) {i:Nat} {x:aQ} (hx:c.Exps[i]? =some x):gI x.Seq∧gI x.Of:=by
 have:=h.g.2.2.2.1 x (List.mem_of_getElem? hx)
 exact⟨this.1,this.2.1⟩
theorem TZ {F:Nat} {c:aB} (hF:1000≤F) (h:Sm c) (hq:gW c.Seq 0 1073741824=true) {i:Nat} (hi:i < c.Exps.length):
    uD F c i=some (if !(yS c i && JT c i) then .ret false else .go ((i+1:Nat):Int)):=by
  have hc:=h.ex
  have hv:=h.vo
  have hsn:=h.sn
  unfold uD yS JT
  have hx:c.Exps[i]? =some c.Exps[i]:=List.getElem?_eq_getElem hi
  generalize c.Exps[i]=x at hx
  have gx:=gex h hx
  have hq':0≤c.Seq∧c.Seq≤1073741824:=by simpa [gW] using hq
  rw[hH (by omega),wr (n:=c.Seq - 1) (by omega) (by omega)]
  have hm:TN F c.Snaps (λx0=>P2 F x0 x)=some (c.Snaps.any λs=>s.Seq==x.Of):=m89 (λs=>s.Seq==x.Of) (by omega) (by omega) (λs _=>rfl)
  simp only[bO,hx,hm,TT,TU hF (show c.Vols.length < 1000 by omega),Option.bind_some,cV,aJ,dC,dK,Int.ofNat_lt,hi,decide_true,if_true,LH]
  generalize (x.Locs.length==0)=nl
  generalize iZ c x.Locs=lb
  generalize (c.Snaps.any λs=>s.Seq==x.Of)=an
  cases h1:gW x.Seq 0 (c.Seq - 1)
  · simp
  · have h1':0≤x.Seq∧x.Seq≤c.Seq - 1:=by simpa [gW] using h1
    rw[wr (n:=x.Seq - 1) (by omega) (by omega)]
    generalize gW x.Of 0 (x.Seq - 1)=ob
    by_cases h0:i=0
    · subst h0
      cases nl <;> cases lb <;> cases an <;> cases ob <;> simp
    · have h5:c.Exps[i - 1]? =some c.Exps[i - 1]:=List.getElem?_eq_getElem (by omega)
      generalize c.Exps[i - 1]=y at h5
      rw[xM (by omega) (by omega)]
      have h7:(0:Int) < i:=by omega
      have h8:(i==0)=false:=by simpa using h0
      have e4:decide (x.Seq≤y.Seq)= !decide (y.Seq < x.Seq):=by rw[← decide_not]; congr 1; simp
      simp only[bO,h5,h7,h8,e4,Option.bind_some,decide_true,if_true,Bool.false_or]
      generalize decide (y.Seq < x.Seq)=od
      cases nl <;> cases lb <;> cases an <;> cases ob <;> cases od <;> simp[cV,aJ]
def zO (c:aB):Bool:= !(List.range c.Exps.length).any λi=> !(yS c i && JT c i)
theorem m72 {F:Nat} {c:aB} (hF:1000≤F) (h:Sm c) (hq:gW c.Seq 0 1073741824=true):XJ F c=some (zO c && decide (c.Exps.length≤200)):=by
 have hc:=h.ex
 unfold XJ zO
 rw[fD (s0:=(0:Int)) (n:=c.Exps.length) (F:=F) (λi:Nat=>(i:Int)) (λi=> !(yS c i && JT c i)) (λ_=>false) (by omega) rfl,iD]
 ·cases (List.range c.Exps.length).any λi=> !(yS c i && JT c i) <;> simp[after]; omega
 ·exact λi hi _=>TZ hF h hq hi
 ·intro _; unfold uD; simp
theorem QA {F:Nat} {c:aB} (hF:1000≤F) (h:Sm c) {i:Nat} (hi:i < c.Exps.length):
    oF F c i=some (if !yS c i then .ret false else .go ((i+1:Nat):Int)):=by
  have hc:=h.ex
  have hv:=h.vo
  unfold oF yS gW
  have hx:c.Exps[i]? =some c.Exps[i]:=List.getElem?_eq_getElem hi
  generalize c.Exps[i]=x at hx
  rw[hH (by omega)]
  simp only[bO,hx,YL,m61 hF (show c.Vols.length < 1000 by omega),Option.bind_some,cV,aJ,dC,dK,Int.ofNat_lt,hi,decide_true,if_true,LH]
  generalize (x.Locs.length==0)=nl
  generalize iZ c x.Locs=lb
  have e1:decide (x.Seq < 0)= !decide (0≤x.Seq):=by rw[← decide_not]; congr 1; simp
  have e2:decide (c.Seq≤x.Seq)= !decide (x.Seq≤c.Seq - 1):=by rw[← decide_not]; congr 1; simp; omega
  have e3:decide (x.Of < 0)= !decide (0≤x.Of):=by rw[← decide_not]; congr 1; simp
  have e5:decide (x.Seq≤x.Of)= !decide (x.Of≤x.Seq - 1):=by rw[← decide_not]; congr 1; simp; omega
  rw[e1,e2,e3,e5]
  generalize decide (0≤x.Seq)=d1
  generalize decide (x.Seq≤c.Seq - 1)=d2
  generalize decide (0≤x.Of)=d3
  generalize decide (x.Of≤x.Seq - 1)=d5
  by_cases h0:i=0
  · subst h0
    cases nl <;> cases lb <;> cases d1 <;> cases d2 <;> cases d3 <;> cases d5 <;> simp
  · have h5:c.Exps[i - 1]? =some c.Exps[i - 1]:=List.getElem?_eq_getElem (by omega)
    generalize c.Exps[i - 1]=y at h5
    rw[xM (by omega) (by omega)]
    have h7:(0:Int) < i:=by omega
    have h8:(i==0)=false:=by simpa using h0
    have e4:decide (x.Seq≤y.Seq)= !decide (y.Seq < x.Seq):=by rw[← decide_not]; congr 1; simp
    simp only[bO,h5,h7,h8,e4,Option.bind_some,decide_true,if_true,Bool.false_or]
    generalize decide (y.Seq < x.Seq)=od
    cases nl <;> cases lb <;> cases d1 <;> cases d2 <;> cases d3 <;> cases d5 <;> cases od <;> simp[cV,aJ]
open Go.Vm
theorem YO {a b:Nat} (h:a+b < 1000000000):IntKind.wrap .i64 ((IntKind.wrap .u64 (IntKind.wrap .i64 ((a:Int)+b))).fdiv (2 ^ (min (1:Int).toNat (IntKind.bits .u64))))=(((a+b) / 2:Nat):Int):=by
 have e1:IntKind.wrap .i64 ((a:Int)+b)=((a+b:Nat):Int):=by rw[wr (by omega) (by omega)]; omega
 have e2:∀n:Nat,n < 1000000000→IntKind.wrap .u64 (n:Int)=n:=by
  intro n hn
  have e:IntKind.wrap .u64 (n:Int)=(n:Int) % 18446744073709551616:=rfl
  rw[e]; omega
 rw[e1,e2 _ h]
 have e3:(2:Int) ^ (min (1:Int).toNat (IntKind.bits .u64))=2:=by decide
 rw[e3,Int.fdiv_eq_ediv_of_nonneg _ (by omega),wr (by omega) (by omega)]
 omega
def uO (l:List aA):Prop:=(∀x∈l,mD x.Id)∧∀(i j:Nat) (x y:aA),l[i]? =some x→l[j]? =some y→i < j→ky x.Id < ky y.Id
theorem T0 {c:aB} (h:Sm c) (hc:uM c=true):uO c.Chunks:=by
 refine⟨λx hx=>(h.g.2.2.1 x hx).1, ?_⟩
 have hs:∀i x y,c.Chunks[i]? =some x→c.Chunks[i+1]? =some y→ky x.Id < ky y.Id:=by
  intro i x y hx hy
  have hi:i+1 < c.Chunks.length:=(List.getElem?_eq_some_iff.1 hy).1
  unfold uM at hc
  simp only[Bool.not_eq_true',List.any_eq_false,List.mem_range] at hc
  have:=hc (i+1) hi
  unfold IB at this
  rw[hy,show i+1 - 1=i from rfl,hx] at this
  simp at this
  exact this.1
 intro i j x y hx hy hij
 obtain⟨k,rfl⟩:∃k,j=i+1+k:=⟨j - i - 1,by omega⟩
 clear hij
 induction k generalizing y with
 | zero=>exact hs i x y hx hy
 | succ k ih=>
  have hk:i+1+k < c.Chunks.length:=by have:=(List.getElem?_eq_some_iff.1 hy).1; omega
  exact Int.lt_trans (ih _ (List.getElem?_eq_getElem hk)) (hs (i+1+k) _ _ (List.getElem?_eq_getElem hk) hy)
theorem bis {F:Nat} {l:List aA} {d:bL} (hr:uO l) (hd:mD d) (hl:l.length < 1000):∀(G lo hi:Nat),lo≤hi→hi≤l.length→hi - lo < G→
    (∀j x,l[j]? =some x→j < lo→ky x.Id < ky d)→(∀j x,l[j]? =some x→hi≤j→ky d≤ky x.Id)→
    ∃p:Nat,p≤l.length∧aT (λs=>sA F l d (λx0 x1=>zH F x0 x1) s.1 s.2) G ((lo:Int),(hi:Int))=some (.brk ((p:Int),(p:Int)))∧
      (∀j x,l[j]? =some x→j < p→ky x.Id < ky d)∧(∀j x,l[j]? =some x→p≤j→ky d≤ky x.Id)
  | 0,_,_,_,_,h,_,_=>by omega
  | G+1,lo,hi,h1,h2,h3,h4,h5=>by
    unfold aT sA
    by_cases hlt:lo < hi
    · have hm:(lo+hi) / 2 < l.length:=by omega
      have hx:l[(lo+hi) / 2]? =some l[(lo+hi) / 2]:=List.getElem?_eq_getElem hm
      generalize l[(lo+hi) / 2]=x at hx
      have gx:=hr.1 x (List.mem_of_getElem? hx)
      have e:zH F x d=some (if ky x.Id < ky d then -1 else if ky d < ky x.Id then 1 else 0):=by unfold zH; rw[MD F gx hd]; rfl
      simp only[Int.ofNat_lt,hlt,decide_true,if_true,YO (show lo+hi < 1000000000 by omega),bO,hx,Option.bind_some,e]
      by_cases hk:ky x.Id < ky d
      · simp only[hk,if_true,show decide ((-1:Int) < 0)=true from rfl,aJ]
        rw[hH (by omega)]
        exact bis hr hd hl G ((lo+hi) / 2+1) hi (by omega) h2 (by omega) (λj y hy hj=>by
          rcases Nat.lt_or_ge j ((lo+hi) / 2) with q | q
          · exact Int.lt_trans (hr.2 _ _ _ _ hy hx q) hk
          · obtain rfl:j=(lo+hi) / 2:=by omega
            rw[hx] at hy; cases hy; exact hk) h5
      · have e2:decide ((if ky x.Id < ky d then (-1:Int) else if ky d < ky x.Id then 1 else 0) < 0)=false:=by rw[if_neg hk]; split <;> rfl
        simp only[e2,Bool.false_eq_true,if_false,aJ]
        exact bis hr hd hl G lo ((lo+hi) / 2) (by omega) (by omega) (by omega) h4 (λj y hy hj=>by
          rcases Nat.lt_or_ge ((lo+hi) / 2) j with q | q
          · have:=hr.2 _ _ _ _ hx hy q; omega
          · obtain rfl:j=(lo+hi) / 2:=by omega
            rw[hx] at hy; cases hy; omega)
    · obtain rfl:lo=hi:=by omega
      refine⟨lo,h2, ?_,h4,h5⟩
      simp
def kM (l:List aA) (d:bL):Bool:=l.any λx=>decide (x.Id=d)
theorem YP {F:Nat} {l:List aA} {d:bL} (hF:1000≤F) (hr:uO l) (hd:mD d) (hl:l.length < 1000):∃p:Int,vP F l d=some (p,kM l d):=by
 unfold vP L8
 obtain⟨p,hp,e,h1,h2⟩:=bis (F:=F) hr hd hl F 0 l.length (by omega) (Nat.le_refl _) (by omega) (λj x _ hj=>by omega) (λj x hx hj=>by have:=(List.getElem?_eq_some_iff.1 hx).1; omega)
 rw[show ((0:Int),(l.length:Int))=(((0:Nat):Int),(l.length:Int)) from rfl,e]
 simp only[aJ]
 refine⟨p, ?_⟩
 by_cases hlt:p < l.length
 ·have hx:l[p]? =some l[p]:=List.getElem?_eq_getElem hlt
  have hmem:=List.getElem_mem hlt
  generalize l[p]=x at hx hmem
  have gx:=hr.1 x hmem
  have e:zH F x d=some (if ky x.Id < ky d then -1 else if ky d < ky x.Id then 1 else 0):=by unfold zH; rw[MD F gx hd]; rfl
  simp only[Int.ofNat_lt,hlt,decide_true,if_true,bO,hx,Option.bind_some,e,aJ]
  have hge:=h2 p x hx (Nat.le_refl _)
  have:kM l d=((if ky x.Id < ky d then (-1:Int) else if ky d < ky x.Id then 1 else 0)==0):=by
   rw[if_neg (by omega)]
   unfold kM
   by_cases hk:ky d < ky x.Id
   ·rw[if_pos hk]
    rw[List.any_eq_false.2]
    ·rfl
    intro y hy
    obtain⟨j,hj,rfl⟩:=List.getElem_of_mem hy
    have hy':l[j]? =some l[j]:=List.getElem?_eq_getElem hj
    simp only[decide_eq_true_eq]
    intro he
    rcases Nat.lt_or_ge j p with q | q
    ·have:=h1 j _ hy' q
     rw[he] at this; omega
    ·rcases Nat.lt_or_ge p j with q2 | q2
     ·have:=hr.2 _ _ _ _ hx hy' q2
      rw[he] at this; omega
     ·obtain rfl:j=p:=by omega
      rw[hy'] at hx; cases hx
      rw[he] at hk; omega
   ·rw[if_neg hk]
    refine List.any_eq_true.2 ⟨x,hmem, ?_⟩
    simp only[decide_eq_true_eq]
    exact GM gx hd (by omega)
  rw[this]
 ·have hn:¬((p:Int) < (l.length:Int)):=by omega
  simp only[hn,decide_false,Bool.false_eq_true,if_false,aJ,Option.bind_some]
  have:kM l d=false:=by
   unfold kM
   refine List.any_eq_false.2 λy hy=> ?_
   obtain⟨j,hj,rfl⟩:=List.getElem_of_mem hy
   have:=h1 j _ (List.getElem?_eq_getElem hj) (by omega)
   simp only[decide_eq_true_eq]
   intro he
   rw[he] at this; omega
  rw[this]
theorem IC {ρ:Type} {body:Int→Option (Lp Int ρ)} {c:Nat→Bool} {n:Nat} (hb:∀i:Nat,i≤n→body (i:Int)=some (if c i then .go ((i+1:Nat):Int) else .brk (i:Int))) (hn:c n=false):∀(G k:Nat),k≤n→n - k < G→
    ∃p:Nat,p≤n∧c p=false∧aT body G (k:Int)=some (.brk (p:Int))
  | 0,_,_,h=>by omega
  | G+1,k,hk,h=>by
    unfold aT
    rw[hb k hk]
    cases hc:c k
    · exact⟨k,hk,hc,by simp⟩
    · have:k≠n:=by rintro rfl; rw[hn] at hc; cases hc
      obtain⟨p,h1,h2,h3⟩:=IC hb hn G (k+1) (by omega) (by omega)
      exact⟨p,h1,h2,by simpa using h3⟩
theorem pJ {S ρ:Type} {body:S→Option (Lp S ρ)} {I:Nat→S→Prop} {n:Nat} (hb:∀i s,i < n→I i s→∃s',body s=some (.go s')∧I (i+1) s') (he:∀s,I n s→body s=some (.brk s)):∀(G k:Nat) (s:S),k≤n→n - k < G→I k s→
    ∃s',I n s'∧aT body G s=some (.brk s')
  | 0,_,_,_,h,_=>by omega
  | G+1,k,s,hk,h,hi=>by
    unfold aT
    by_cases e:k=n
    · subst e
      rw[he s hi]
      exact⟨s,hi,rfl⟩
    · obtain⟨s',h1,h2⟩:=hb k s (by omega) hi
      rw[h1]
      exact pJ hb he G (k+1) s' (by omega) (by omega) h2
theorem aEI {F:Nat} {l:List bL} {d:bL} (hF:1000≤F) (hl:l.length < 600) (gl:∀x∈l,mD x) (hd:mD d):
    ∃r,EA F l d=some r∧(∀x,x∈r.1↔x∈l∨x=d)∧r.1.length≤l.length+1:=by
  unfold EA
  obtain⟨p,h1,h2,h3⟩:=IC (body:=sD F l d) (n:=l.length) (c:=λi=>(l[i]?).any λx=>decide (ky x < ky d)) (λi hi=>by
    unfold sD
    rw[hH (by omega)]
    by_cases hlt:i < l.length
    · have hx:l[i]? =some l[i]:=List.getElem?_eq_getElem hlt
      simp only[Int.ofNat_lt,hlt,decide_true,if_true,bO,hx,Option.bind_some,YM hF (gl _ (List.getElem_mem hlt)) hd,aJ,Option.any_some]
      split <;> rfl
    · have hx:l[i]? =none:=List.getElem?_eq_none (by omega)
      simp[Int.ofNat_lt,hlt,hx,aJ]) (by simp) F 0 (by omega) (by omega)
  rw[show (0:Int)=((0:Nat):Int) from rfl,h3]
  simp only[aJ]
  have hins:(slc l 0 (p:Int)).bind (λx84=>(app ([]:List bL) x84).bind λz86=>(app z86 ([d]:List bL)).bind λz92=>(slc l (p:Int) (l).length).bind λx98=>(app z92 x98).bind λz100=>some (z100,(p:Int),true))
      =some (l.take p++ [d]++l.drop p,(p:Int),true):=by
    unfold slc
    rw[if_pos (by omega),if_pos (by omega)]
    simp only[Option.bind_some,Int.toNat_natCast]
    rw[dV (by simp; omega)]
    simp only[Option.bind_some,List.nil_append]
    rw[dV (by simp; omega)]
    simp only[Option.bind_some]
    rw[dV (by simp; omega)]
    simp
  have hmem:∀x,x∈l.take p++ [d]++l.drop p↔x∈l∨x=d:=by
    intro x
    simp only[List.mem_append,List.mem_singleton]
    rw[show (x∈l∨x=d)↔((x∈l.take p∨x∈l.drop p)∨x=d) from by rw[← List.mem_append,List.take_append_drop]]
    constructor
    · rintro((h | h) | h) <;> simp[h]
    · rintro((h | h) | h) <;> simp[h]
  by_cases hlt:p < l.length
  · have hx:l[p]? =some l[p]:=List.getElem?_eq_getElem hlt
    simp only[Int.ofNat_lt,hlt,decide_true,if_true,bO,hx,Option.bind_some,aJ]
    by_cases he:l[p]=d
    · refine⟨(l,(p:Int),false),by simp[he],λx=> ?_,by simp⟩
      constructor
      · exact .inl
      · rintro(h | rfl)
        · exact h
        · rw[← he]; exact List.getElem_mem hlt
    · rw[if_neg (by simpa using he)]
      exact⟨_,hins,hmem,by simp; omega⟩
  · have hn:¬((p:Int) < (l.length:Int)):=by omega
    simp only[hn,decide_false,Bool.false_eq_true,if_false,aJ]
    exact⟨_,hins,hmem,by simp; omega⟩
open Go.Vm
theorem qW {a b:ByteArray} (h:a.toList=b.toList):a=b:=Go.WideShapes.bytes_inj (by rwa [Go.Lib.toList_data,Go.Lib.toList_data] at h)
theorem gsn {c:aB} (h:Sm c) {s:aG} (hs:s∈c.Snaps):gI s.Seq∧∀p∈s.Man.Parts,∀d∈p.Ids,mD d:=by
 have:=h.g.2.1 s hs
 exact⟨this.1,λp hp d hd=>(this.2.1.2 p hp).2.2 d hd⟩
theorem m63 {F:Nat} {m:bB} (hF:1000≤F) (hp:m.Parts.length≤10) (hi:∀p∈m.Parts,p.Ids.length≤40) (hg:∀p∈m.Parts,∀d∈p.Ids,mD d):
    ∃ids,VP F m=some ids∧(∀x,x∈ids↔∃p∈m.Parts,x∈p.Ids)∧ids.length≤400:=by
  unfold VP
  let I:Nat→List bL×Int→Prop:=λi s=>s.2=(i:Int)∧s.1.length≤40*i∧∀x,x∈s.1↔∃p∈m.Parts.take i,x∈p.Ids
  obtain⟨s,⟨h1,h2,h3⟩,h4⟩:=pJ (body:=λs:List bL×Int=>uJ F m s.1 s.2) (I:=I) (n:=m.Parts.length) (λi s hi' hI=>by
      obtain⟨l,q⟩:=s
      obtain⟨rfl,hl,hm⟩:=hI
      simp only at hl hm
      have hx:m.Parts[i]? =some m.Parts[i]:=List.getElem?_eq_getElem hi'
      have hmem:=List.getElem_mem hi'
      have htk:m.Parts.take (i+1)=m.Parts.take i++ [m.Parts[i]]:=by simp
      generalize m.Parts[i]=p at hx hmem htk
      have hpi:=hi p hmem
      have hgp:=hg p hmem
      have hgl:∀x∈l,mD x:=λx hx=>by
        obtain⟨p',hp',hx'⟩:=(hm x).1 hx
        exact hg p' (List.mem_of_mem_take hp') x hx'
      let J:Nat→List bL×Int→Prop:=λk s=>s.2=(k:Int)∧s.1.length≤40*i+k∧∀x,x∈s.1↔(x∈l∨x∈p.Ids.take k)
      obtain⟨t,⟨j1,j2,j3⟩,j4⟩:=pJ (ρ:=Lp (List bL×Int) (List bL)) (body:=λs:List bL×Int=>uI F m (i:Int) s.1 s.2) (I:=J) (n:=p.Ids.length) (λk s hk hJ=>by
          obtain⟨u,q⟩:=s
          obtain⟨rfl,hu,hv⟩:=hJ
          simp only at hu hv
          have hd:p.Ids[k]? =some p.Ids[k]:=List.getElem?_eq_getElem hk
          have hdm:=List.getElem_mem hk
          have hdk:p.Ids.take (k+1)=p.Ids.take k++ [p.Ids[k]]:=by simp
          generalize p.Ids[k]=d at hd hdm hdk
          obtain⟨r,r1,r2,r3⟩:=aEI (F:=F) (l:=u) (d:=d) hF (by omega) (λx hx=>by
            rcases(hv x).1 hx with q | q
            · exact hgl x q
            · exact hgp x (List.mem_of_mem_take q)) (hgp d hdm)
          refine⟨(r.1,((k+1:Nat):Int)), ?_,rfl,by simp only; omega,λx=> ?_⟩
          · unfold uI
            rw[hH (by omega)]
            simp only[bO,hx,Option.bind_some,Int.ofNat_lt,hk,decide_true,if_true,hd,r1]
          · simp only[r2,hv,hdk,List.mem_append,List.mem_singleton,or_assoc]) (λs hs=>by
          obtain⟨u,q⟩:=s
          obtain⟨rfl, -, -⟩:=hs
          unfold uI
          simp[bO,hx]) F 0 (l,0) (by omega) (by omega) ⟨rfl,by simp only; omega,by simp⟩
      refine⟨(t.1,((i+1:Nat):Int)), ?_,rfl,by simp only; omega,λx=> ?_⟩
      · unfold uJ
        rw[hH (by omega)]
        simp only[Int.ofNat_lt,hi',decide_true,if_true,j4,aJ]
      · simp only[j3,hm,htk,List.take_length,List.mem_append,List.mem_singleton]
        constructor
        · rintro(⟨p',hp',hx'⟩ | hx')
          · exact⟨p',.inl hp',hx'⟩
          · exact⟨p,.inr rfl,hx'⟩
        · rintro⟨p',hp' | rfl,hx'⟩
          · exact .inl ⟨p',hp',hx'⟩
          · exact .inr hx') (λs hs=>by
      obtain⟨u,q⟩:=s
      obtain⟨rfl, -, -⟩:=hs
      unfold uJ
      simp) F 0 ([],0) (by omega) (by omega) ⟨rfl,by simp,by simp⟩
  rw[h4]
  exact⟨s.1,by simp only[aJ],by simpa using h3,by omega⟩
theorem m64 {F:Nat} {c:aB} {d:bL} (hF:1000≤F) (hl:c.Chunks.length < 1000):∃n:Int,OS F c d=some n∧(decide (n < 0))= !kM c.Chunks d:=by
 have:=sH (l:=c.Chunks) (λx=>decide (x.Id=d)) (F:=F) (body:=pI F c d) (by omega) (λi hi=>by
  unfold pI
  have hx:c.Chunks[i]? =some c.Chunks[i]:=List.getElem?_eq_getElem hi
  rw[hH (by omega)]
  simp only[bO,hx,Option.bind_some,Int.ofNat_lt,hi,decide_true,if_true,Option.any_some]
  split <;> rfl) (by unfold pI; simp)
 rw[show (after (aT (pI F c d) F 0) λ_=>some (-1))=OS F c d from rfl] at this
 obtain⟨n,h1,h2⟩:=Option.bind_eq_some_iff.1 this
 refine⟨n,h1, ?_⟩
 have h3:=Option.some.inj h2
 unfold kM
 rw[← h3,← decide_not]
 congr 1
 simp
theorem m50 {F:Nat} {c:aB} {i:Nat} {s:aG} (hF:1000≤F) (hl:c.Snaps.length < 1000) (hs:c.Snaps[i]? =some s):
    ∃n:Int,zM F c s.Man.Name=some n∧(n !=(i:Int))=(c.Snaps.take i).any λy=>s.Man.Name==y.Man.Name:=by
  have hi:i < c.Snaps.length:=(List.getElem?_eq_some_iff.1 hs).1
  have hsi:c.Snaps[i]=s:=by have:=List.getElem?_eq_getElem hi; rw[hs] at this; exact(Option.some.inj this).symm
  unfold zM
  rw[fD (s0:=(0:Int)) (n:=c.Snaps.length) (F:=F) (λi:Nat=>(i:Int)) (λi=>(c.Snaps[i]?).any λy=>y.Man.Name.toList==s.Man.Name.toList) (λi=>(i:Int)) (by omega) rfl]
  · unfold LF
    have hp:((c.Snaps[i]?).any λy=>y.Man.Name.toList==s.Man.Name.toList)=true:=by rw[hs]; simp
    cases h:(List.range c.Snaps.length).find? λi=>(c.Snaps[i]?).any λy=>y.Man.Name.toList==s.Man.Name.toList with
    | none=>
      have:=List.find?_eq_none.1 h i (List.mem_range.2 hi)
      exact absurd hp this
    | some k=>
      refine⟨(k:Int),rfl, ?_⟩
      obtain⟨hk1,hk2,hk3⟩:=List.find?_range_eq_some.1 h
      rw[Bool.eq_iff_iff]
      simp only[bne_iff_ne,ne_eq,List.any_eq_true]
      have hkl:k < c.Snaps.length:=List.mem_range.1 hk2
      rw[List.getElem?_eq_getElem hkl] at hk1
      simp only[Option.any_some,beq_iff_eq] at hk1
      constructor
      · intro hne
        have hki:k < i:=by
          rcases Nat.lt_or_ge k i with q | q
          · exact q
          · have:=hk3 i (by omega)
            rw[hp] at this; cases this
        refine⟨c.Snaps[k], ?_, ?_⟩
        · rw[List.mem_take_iff_getElem]
          exact⟨k,by omega,rfl⟩
        · exact(jK _ _).2 (qW hk1.symm)
      · rintro⟨y,hy,he⟩ hc
        rw[List.mem_take_iff_getElem] at hy
        obtain⟨j,hj,rfl⟩:=hy
        have:=hk3 j (by omega)
        rw[List.getElem?_eq_getElem (by omega)] at this
        rw[(jK _ _).1 he] at this
        simp at this
  · intro j hj _
    unfold oD
    have hx:c.Snaps[j]? =some c.Snaps[j]:=List.getElem?_eq_getElem hj
    rw[hH (by omega)]
    simp only[bO,hx,Option.bind_some,Int.ofNat_lt,hj,decide_true,if_true,Option.any_some]
    split <;> rfl
  · intro _; unfold oD; simp
def OT (c:aB) (m:bB):Bool:=m.Parts.all λp=>p.Ids.all λd=>kM c.Chunks d
def DF (c:aB) (i:Nat):Bool:=match c.Snaps[i]? with
 | none=>true
 | some s=>gW s.Seq 0 (c.Seq - 1) && (i==0 || (match c.Snaps[i - 1]? with | none=>true | some y=>decide (y.Seq < s.Seq))) && !((c.Snaps.take i).any λy=>s.Man.Name==y.Man.Name) && uN s.Man && iZ c s.Locs
def FF (c:aB) (i:Nat):Bool:=match c.Snaps[i]? with
 | none=>true
 | some s=>OT c s.Man
def RP (c:aB) (i:Nat):Bool:=match c.Snaps[i]? with
 | none=>true
 | some s=> !c.Exps.any λx=>x.Of==s.Seq
def RQ (c:aB) (i:Nat):List ByteArray:=(c.Snaps.take i).foldl (λl s=>mB l s.Man.Name) []
theorem QB (c:aB) (x:ByteArray):∀i,((RQ c i).any λz=>x==z)=(c.Snaps.take i).any λy=>x==y.Man.Name:=by
 have:∀(l:List aG) (acc:List ByteArray),((l.foldl (λl s=>mB l s.Man.Name) acc).any λz=>x==z)=((acc.any λz=>x==z) || l.any λy=>x==y.Man.Name):=by
  intro l
  induction l with
  | nil=>simp
  | cons s l ih=>
   intro acc
   rw[List.foldl_cons,ih,List.any_cons,← Bool.or_assoc]
   congr 1
   unfold mB
   split
   ·rename_i h
    rw[Bool.eq_iff_iff]
    simp only[Bool.or_eq_true,List.any_eq_true] at h ⊢
    constructor
    ·exact .inl
    ·rintro(q | q)
     ·exact q
     ·obtain⟨y,hy,he⟩:=h
      rw[(jK _ _).1 q,(jK _ _).1 he]
      exact⟨y,hy,(jK _ _).2 rfl⟩
   ·simp
 intro i
 rw[RQ,this]
 simp
open Go.Vm
theorem T1 {F:Nat} {c:aB} {s:aG} (hF:1000≤F) (h:Sm c) (hr:uO c.Chunks) (hs:s∈c.Snaps):
    aT (λq=>uF F c s q) F 0=some (if !OT c s.Man then .ret (.ret false) else .brk (s.Man.Parts.length:Int)):=by
  obtain⟨-,h2,h3⟩:=h.man s hs
  have hg:=(gsn h hs).2
  have hc:=h.ch
  rw[fD (s0:=(0:Int)) (n:=s.Man.Parts.length) (F:=F) (λi:Nat=>(i:Int)) (λi=>(s.Man.Parts[i]?).any λp=> !p.Ids.all λd=>kM c.Chunks d) (λ_=>.ret false) (by omega) rfl,iD,iO,sG]
  · rfl
  · intro i hi _
    unfold uF
    have hx:s.Man.Parts[i]? =some s.Man.Parts[i]:=List.getElem?_eq_getElem hi
    have hm:=List.getElem_mem hi
    generalize s.Man.Parts[i]=p at hx hm
    have h4:=(h3 p hm).2
    rw[hH (by omega)]
    simp only[bO,hx,Option.bind_some,Int.ofNat_lt,hi,decide_true,if_true,Option.any_some]
    rw[fD (s0:=(0:Int)) (n:=p.Ids.length) (F:=F) (λi:Nat=>(i:Int)) (λi=>(p.Ids[i]?).any λd=> !kM c.Chunks d) (λ_=>.ret (.ret false)) (by omega) rfl,iD,iO,sG]
    · cases p.Ids.all λd=>kM c.Chunks d <;> simp[after]
    · intro k hk _
      unfold xK
      have hd:p.Ids[k]? =some p.Ids[k]:=List.getElem?_eq_getElem hk
      have hdm:=List.getElem_mem hk
      generalize p.Ids[k]=d at hd hdm
      obtain⟨z,hz⟩:=YP (F:=F) (l:=c.Chunks) (d:=d) hF hr (hg p hm d hdm) (by omega)
      rw[hH (by omega)]
      simp only[bO,hd,Option.bind_some,Int.ofNat_lt,hk,decide_true,if_true,Option.any_some,hz]
      split <;> rfl
    · intro _; unfold xK; simp
  · intro _; unfold uF; simp
theorem MH {c:aB} {i:Nat} {s:aG} (hx:c.Snaps[i]? =some s):RQ c (i+1)=mB (RQ c i) s.Man.Name:=by
 unfold RQ
 have hi:=(List.getElem?_eq_some_iff.1 hx)
 obtain⟨hi,rfl⟩:=hi
 rw[List.take_succ_eq_append_getElem hi,List.foldl_append]
 rfl
theorem T2 {F:Nat} {c:aB} (hF:1000≤F) (h:Sm c) (hr:uO c.Chunks) (hq:gW c.Seq 0 1073741824=true) {i:Nat} (hi:i < c.Snaps.length):
    uG F c (RQ c i) i=some (if !(DF c i && FF c i) then .ret false else .go (RQ c (i+1),((i+1:Nat):Int))):=by
  have hv:=h.vo
  have hsn:=h.sn
  have hq':0≤c.Seq∧c.Seq≤1073741824:=by simpa [gW] using hq
  unfold uG DF FF
  have hx:c.Snaps[i]? =some c.Snaps[i]:=List.getElem?_eq_getElem hi
  have hm:=List.getElem_mem hi
  generalize c.Snaps[i]=x at hx hm
  rw[hH (by omega),wr (n:=c.Seq - 1) (by omega) (by omega),MH hx]
  simp only[bO,hx,TT,m73 hF,TU hF (show c.Vols.length < 1000 by omega),Option.bind_some,cV,aJ,dC,dK,Int.ofNat_lt,hi,decide_true,if_true,QB,T1 hF h hr hm]
  generalize ((c.Snaps.take i).any λy=>x.Man.Name==y.Man.Name)=nb
  generalize iZ c x.Locs=lb
  generalize OT c x.Man=pb
  have e1:((if uN x.Man=true then (0:Int) else 1) !=0)= !uN x.Man:=by cases uN x.Man <;> rfl
  rw[e1]
  generalize uN x.Man=mb
  generalize gW x.Seq 0 (c.Seq - 1)=ib
  by_cases h0:i=0
  · subst h0
    cases nb <;> cases lb <;> cases pb <;> cases mb <;> cases ib <;> simp[aJ,dC]
  · have h5:c.Snaps[i - 1]? =some c.Snaps[i - 1]:=List.getElem?_eq_getElem (by omega)
    generalize c.Snaps[i - 1]=y at h5
    rw[xM (by omega) (by omega)]
    have h7:(0:Int) < i:=by omega
    have h8:(i==0)=false:=by simpa using h0
    have e4:decide (x.Seq≤y.Seq)= !decide (y.Seq < x.Seq):=by rw[← decide_not]; congr 1; simp
    simp only[bO,h5,h7,h8,e4,Option.bind_some,decide_true,if_true,Bool.false_or]
    generalize decide (y.Seq < x.Seq)=od
    cases nb <;> cases lb <;> cases pb <;> cases mb <;> cases ib <;> cases od <;> simp[aJ,dC]
def B8 (c:aB):Bool:= !(List.range c.Snaps.length).any λi=> !(DF c i && FF c i)
theorem m71 {F:Nat} {c:aB} (hF:1000≤F) (h:Sm c) (hr:uO c.Chunks) (hq:gW c.Seq 0 1073741824=true):XO F c=some (B8 c && decide (c.Snaps.length≤8)):=by
 have hc:=h.sn
 unfold XO B8
 rw[fD (s0:=(([]:List ByteArray),(0:Int))) (n:=c.Snaps.length) (F:=F) (λi:Nat=>(RQ c i,(i:Int))) (λi=> !(DF c i && FF c i)) (λ_=>false) (by omega) rfl,iD]
 ·cases (List.range c.Snaps.length).any λi=> !(DF c i && FF c i) <;> simp[after]; omega
 ·exact λi hi _=>T2 hF h hr hq hi
 ·intro _; unfold uG; simp
theorem T3 {F:Nat} {c:aB} (hF:1000≤F) (h:Sm c) {i:Nat} (hi:i < c.Snaps.length):
    qV F c i=some (if !(DF c i && FF c i && RP c i) then .ret false else .go ((i+1:Nat):Int)):=by
  have hv:=h.vo
  have hsn:=h.sn
  have hch:=h.ch
  have hex:=h.ex
  unfold qV DF FF RP gW
  have hx:c.Snaps[i]? =some c.Snaps[i]:=List.getElem?_eq_getElem hi
  have hm:=List.getElem_mem hi
  generalize c.Snaps[i]=x at hx hm
  obtain⟨k1,k2,k3⟩:=h.man x hm
  obtain⟨ids,i1,i2,i3⟩:=m63 (F:=F) (m:=x.Man) hF k2 (λp hp=>(k3 p hp).2) (gsn h hm).2
  obtain⟨n,n1,n2⟩:=m50 (F:=F) hF (by omega) hx
  rw[hH (by omega)]
  have l7:aT (λs=>uK F c ids s) F 0=some (if !OT c x.Man then .ret (.ret false) else .brk (ids.length:Int)):=by
    rw[fD (s0:=(0:Int)) (n:=ids.length) (F:=F) (λi:Nat=>(i:Int)) (λi=>(ids[i]?).any λd=> !kM c.Chunks d) (λ_=>.ret false) (by omega) rfl,iD,iO,sG]
    · have:OT c x.Man=ids.all λd=>kM c.Chunks d:=by
        rw[Bool.eq_iff_iff]
        simp only[OT,List.all_eq_true]
        constructor
        · intro q d hd
          obtain⟨p,hp,hd'⟩:=(i2 d).1 hd
          exact q p hp d hd'
        · intro q p hp d hd
          exact q d ((i2 d).2 ⟨p,hp,hd⟩)
      rw[this]
    · intro k hk _
      unfold uK
      have hd:ids[k]? =some ids[k]:=List.getElem?_eq_getElem hk
      generalize ids[k]=d at hd
      obtain⟨z,hz,hz2⟩:=m64 (F:=F) (c:=c) (d:=d) hF (by omega)
      rw[hH (by omega)]
      simp only[bO,hd,Option.bind_some,Int.ofNat_lt,hk,decide_true,if_true,Option.any_some,hz,hz2]
      split <;> rfl
    · intro _; unfold uK; simp
  have l9:aT (λs=>uL F c x s) F 0=some (if c.Exps.any λy=>y.Of==x.Seq then .ret (.ret false) else .brk (c.Exps.length:Int)):=by
    rw[fD (s0:=(0:Int)) (n:=c.Exps.length) (F:=F) (λi:Nat=>(i:Int)) (λi=>(c.Exps[i]?).any λy=>y.Of==x.Seq) (λ_=>.ret false) (by omega) rfl,iD,iO]
    · intro k hk _
      unfold uL
      have hd:c.Exps[k]? =some c.Exps[k]:=List.getElem?_eq_getElem hk
      rw[hH (by omega)]
      simp only[bO,hd,Option.bind_some,Int.ofNat_lt,hk,decide_true,if_true,Option.any_some]
      split <;> rfl
    · intro _; unfold uL; simp
  simp only[bO,hx,m62 hF k1 (λp hp=>(k3 p hp).1),m61 hF (show c.Vols.length < 1000 by omega),n1,n2,i1,l7,l9,Option.bind_some,cV,aJ,dC,dK,Int.ofNat_lt,hi,decide_true,if_true]
  generalize ((c.Snaps.take i).any λy=>x.Man.Name==y.Man.Name)=nb
  generalize iZ c x.Locs=lb
  generalize OT c x.Man=pb
  generalize (c.Exps.any λy=>y.Of==x.Seq)=xb
  generalize uN x.Man=mb
  have e1:decide (x.Seq < 0)= !decide (0≤x.Seq):=by rw[← decide_not]; congr 1; simp
  have e2:decide (c.Seq≤x.Seq)= !decide (x.Seq≤c.Seq - 1):=by rw[← decide_not]; congr 1; simp; omega
  rw[e1,e2]
  generalize decide (0≤x.Seq)=d1
  generalize decide (x.Seq≤c.Seq - 1)=d2
  by_cases h0:i=0
  · subst h0
    cases nb <;> cases lb <;> cases pb <;> cases mb <;> cases d1 <;> cases d2 <;> cases xb <;> simp[aJ,dC]
  · have h5:c.Snaps[i - 1]? =some c.Snaps[i - 1]:=List.getElem?_eq_getElem (by omega)
    generalize c.Snaps[i - 1]=y at h5
    rw[xM (by omega) (by omega)]
    have h7:(0:Int) < i:=by omega
    have h8:(i==0)=false:=by simpa using h0
    have e4:decide (x.Seq≤y.Seq)= !decide (y.Seq < x.Seq):=by rw[← decide_not]; congr 1; simp
    simp only[bO,h5,h7,h8,e4,Option.bind_some,decide_true,if_true,Bool.false_or]
    generalize decide (y.Seq < x.Seq)=od
    cases nb <;> cases lb <;> cases pb <;> cases mb <;> cases d1 <;> cases d2 <;> cases xb <;> cases od <;> simp[aJ,dC]
def iX (c:aB):Bool:=gW c.Seq 0 1073741824 && (c.Vols.all oG && gW c.Vols.length 1 8) && (uM c && decide (c.Chunks.length≤200)) && (B8 c && decide (c.Snaps.length≤8)) && (zO c && decide (c.Exps.length≤200))
theorem m33 {F:Nat} {c:aB} (hF:1000≤F) (h:Sm c):VM F c=some (if iX c then 0 else 1):=by
 have hv:=h.vo
 unfold VM iX
 simp only[TT,m69 hF hv,m70 hF h,Option.bind_some,cV,aJ,dK]
 cases hq:gW c.Seq 0 1073741824
 ·simp
 ·cases hv':(c.Vols.all oG && gW c.Vols.length 1 8)
  ·simp
  ·cases hc:uM c
   ·simp
   ·have hr:=T0 h hc
    simp only[m71 hF h hr hq,m72 hF h hq,Option.bind_some,dK,cV,aJ]
    generalize decide (c.Chunks.length≤200)=a
    generalize (B8 c && decide (c.Snaps.length≤8))=b
    generalize (zO c && decide (c.Exps.length≤200))=d
    cases a <;> cases b <;> cases d <;> simp
theorem sJ {n:Nat} (p q:Nat→Bool):((List.range n).any λi=> !(p i && q i))=(((List.range n).any λi=> !p i) || (List.range n).any λi=> !q i):=by
 rw[Bool.eq_iff_iff]
 simp only[Bool.or_eq_true,List.any_eq_true,Bool.not_eq_true',Bool.and_eq_false_iff]
 constructor
 ·rintro⟨i,hi,q | q⟩
  ·exact .inl ⟨i,hi,q⟩
  ·exact .inr ⟨i,hi,q⟩
 ·rintro(⟨i,hi,q⟩ | ⟨i,hi,q⟩)
  ·exact⟨i,hi,.inl q⟩
  ·exact⟨i,hi,.inr q⟩
theorem YQ (c:aB):((List.range c.Snaps.length).any λi=> !RP c i)=(List.range c.Exps.length).any λi=> !JT c i:=by
 have h1:((List.range c.Snaps.length).any λi=> !RP c i)=c.Snaps.any λs=>c.Exps.any λx=>x.Of==s.Seq:=by
  refine Eq.trans ?_ (iO c.Snaps _)
  congr 1
  funext i
  unfold RP
  cases c.Snaps[i]? <;> simp
 have h2:((List.range c.Exps.length).any λi=> !JT c i)=c.Exps.any λx=>c.Snaps.any λs=>s.Seq==x.Of:=by
  refine Eq.trans ?_ (iO c.Exps _)
  congr 1
  funext i
  unfold JT
  cases c.Exps[i]? <;> simp
 rw[h1,h2,Bool.eq_iff_iff]
 simp only[List.any_eq_true,beq_iff_eq]
 constructor
 ·rintro⟨s,hs,x,hx,e⟩; exact⟨x,hx,s,hs,e.symm⟩
 ·rintro⟨x,hx,s,hs,e⟩; exact⟨s,hs,x,hx,e.symm⟩
theorem m19 {F:Nat} {c:aB} (hF:1000≤F) (h:Sm c):TQ F c=some (iX c):=by
 have hv:=h.vo
 have hsn:=h.sn
 have hch:=h.ch
 have hex:=h.ex
 have l0:aT (λs=>qT F c s) F 0=some (if !c.Vols.all oG then .ret false else .brk (c.Vols.length:Int)):=by
  rw[fD (s0:=(0:Int)) (n:=c.Vols.length) (F:=F) (λi:Nat=>(i:Int)) (λi=>(c.Vols[i]?).any λv=> !oG v) (λ_=>false) (by omega) rfl,iD,iO,sG]
  ·exact λi hi _=>TW hF h hi
  ·intro _; unfold qT; simp
 have l3:aT (λs=>qU F c s) F 0=some (if !uM c then .ret false else .brk (c.Chunks.length:Int)):=by
  rw[fD (s0:=(0:Int)) (n:=c.Chunks.length) (F:=F) (λi:Nat=>(i:Int)) (λi=> !IB c i) (λ_=>false) (by omega) rfl,iD]
  ·unfold uM; rw[Bool.not_not]
  ·exact λi hi _=>TV hF h hi
  ·intro _; unfold qU; simp
 have l5:aT (λs=>qV F c s) F 0=some (if (List.range c.Snaps.length).any λi=> !(DF c i && FF c i && RP c i) then .ret false else .brk (c.Snaps.length:Int)):=by
  rw[fD (s0:=(0:Int)) (n:=c.Snaps.length) (F:=F) (λi:Nat=>(i:Int)) (λi=> !(DF c i && FF c i && RP c i)) (λ_=>false) (by omega) rfl,iD]
  ·exact λi hi _=>T3 hF h hi
  ·intro _; unfold qV; simp
 have l11:aT (λs=>oF F c s) F 0=some (if (List.range c.Exps.length).any λi=> !yS c i then .ret false else .brk (c.Exps.length:Int)):=by
  rw[fD (s0:=(0:Int)) (n:=c.Exps.length) (F:=F) (λi:Nat=>(i:Int)) (λi=> !yS c i) (λ_=>false) (by omega) rfl,iD]
  ·exact λi hi _=>QA hF h hi
  ·intro _; unfold oF; simp
 have hs:B8 c= !(List.range c.Snaps.length).any λi=> !(DF c i && FF c i):=rfl
 have he:zO c= !(((List.range c.Exps.length).any λi=> !yS c i) || (List.range c.Exps.length).any λi=> !JT c i):=by unfold zO; rw[sJ]
 unfold TQ iX
 rw[sJ (λi=>DF c i && FF c i) (RP c),YQ] at l5
 simp only[YL,l0,l3,l5,l11,hs,he,Option.bind_some,cV,aJ,dK]
 generalize ((List.range c.Snaps.length).any λi=> !(DF c i && FF c i))=a1
 generalize ((List.range c.Exps.length).any λi=> !yS c i)=a2
 generalize ((List.range c.Exps.length).any λi=> !JT c i)=a3
 generalize c.Vols.all oG=a4
 generalize uM c=a5
 generalize gW c.Seq 0 1073741824=a6
 generalize gW c.Vols.length 1 8=a7
 have f1:decide (8 < (c.Snaps.length:Int))= !decide (c.Snaps.length≤8):=by rw[← decide_not]; congr 1; simp; omega
 have f2:decide (200 < (c.Chunks.length:Int))= !decide (c.Chunks.length≤200):=by rw[← decide_not]; congr 1; simp; omega
 have f3:decide (200 < (c.Exps.length:Int))= !decide (c.Exps.length≤200):=by rw[← decide_not]; congr 1; simp; omega
 rw[f1,f2,f3]
 generalize decide (c.Snaps.length≤8)=b1
 generalize decide (c.Chunks.length≤200)=b2
 generalize decide (c.Exps.length≤200)=b3
 cases a6 <;> cases b1 <;> cases b2 <;> cases b3 <;> cases a7 <;> cases a4 <;> cases a5 <;> cases a1 <;> cases a2 <;> cases a3 <;> rfl
open Go.Vm
def xR (m:Nat) (p0:List bI):Option ((List bI)):=
 (app ([]:List bI) p0).bind λz4=>some z4
theorem MI {w:Nat} {p0:List bI} {o:(List bI)} (h:aF) (m:xR w p0=some o):
 aL Tryz.prog 151 [.sl none 4 (List.map aM p0)] h (λr h'=>r= .sl none 4 (List.map aM o)∧h'=h):=by
 refine fN 7 [.tmp 2] Tryz.func151 rfl rfl rfl rfl ?_
 unfold xR at m
 refine v (v (v ?_))
 obtain⟨z4,Z5,m⟩:=aC m
 refine ve λu=>nX (c:=aM) Z5 o1 rfl rfl u nofun rfl λtg6 t7 K8=>qk K8 rfl (v ?_)
 obtain rfl:=eB m
 exact vr λu=>dX.of1 (.inl rfl) (fU _ _ (ow _ _ _) rfl) (aS (List.nil_sublist _) u).1 ((eZ _ 0 t7 u rfl)) ⟨rfl,rfl⟩
theorem EF:aO Tryz.prog 151=true:=by kernel_rfl
def zQ (m:Nat) (p0:List Int):Option ((List Int)):=
 (app ([]:List Int) p0).bind λz4=>some z4
theorem MJ {w:Nat} {p0:List Int} {o:(List Int)} (h:aF) (m:zQ w p0=some o):
 aL Tryz.prog 141 [.sl none 1 (List.map dD p0)] h (λr h'=>r= .sl none 1 (List.map dD o)∧h'=h):=by
 refine fN 7 [.tmp 2] Tryz.func141 rfl rfl rfl rfl ?_
 unfold zQ at m
 refine v (v (v ?_))
 obtain⟨z4,Z5,m⟩:=aC m
 refine ve λu=>nX (c:=dD) Z5 jH rfl rfl u nofun rfl λtg6 t7 K8=>qk K8 rfl (v ?_)
 obtain rfl:=eB m
 exact vr λu=>dX.of1 (.inl rfl) (fU _ _ (ow _ _ _) rfl) (aS (List.nil_sublist _) u).1 ((eZ _ 0 t7 u rfl)) ⟨rfl,rfl⟩
theorem EG:aO Tryz.prog 141=true:=by kernel_rfl
def sK (m:Nat) (p0:bB) (q0:List dH) (q1:Int):Option (Lp ((List dH)×Int) (bB)):=
 if (decide (q1 < (p0.Parts.length:Int)))=true then ((ix p0.Parts q1).bind λx0=>(app ([]:List bL) x0.Ids).bind λz0=>(app q0 ([({ Path:=x0.Path,Size:=x0.Size,Ids:=z0}:dH)]:List dH)).bind λz1=>some (.go (z1,IntKind.wrap .i64 (q1+1)))) else some (.brk (q0,q1))
def GO (m:Nat) (p0:bB):Option (bB):=
 after (aT (λs=>sK m p0 s.1 s.2) m ([],0)) λ⟨r0,r1⟩=>some ({ Name:=p0.Name,Parts:=r0}:bB)
theorem YR {w:Nat} {p0:bB} {o:bB} (h:aF) (m:GO w p0=some o):
 aL Tryz.prog 150 [.agg (aU p0)] h (λr h'=>r= .agg (aU o)∧h'=h):=by
 refine fN 31 [.cell 2 58] Tryz.func150 rfl rfl rfl rfl ?_
 unfold GO at m
 refine v (gG rfl rfl λk2 K3=>ve λu=>bD ([.sc (.string ByteArray.empty),sZ]) u LR rfl rfl λk5 K6=>qk K6 rfl (v (v (pU (FE (.tok 70 3 (([]:List dH).length*3)) 3 (ow none 3 (List.map bT [])) (jE _ _)) (nC m (σ:=(List dH)×Int) (τ:=Option cB) (λg s=> [(g,.tok 70 3 ((s.1:List dH).length*3)),(some k5,.obj 58 ([.sc (.string ByteArray.empty),sZ])),(some k2,.obj 58 (aU p0))]) (λg s=>(g=none→s.1= [])) (λg s=>.c 1 (.ptr k2 0) (.c 2 (.ptr k5 0) (.c 3 (ow g 3 (List.map bT s.1)) (.c 4 (nZ s.2) .nil)))) none (λ_=>rfl) (lx (.k4 .nil)) ?_ ?_)))))
 rintro tg0 ⟨q0,q1⟩ x t0 m
 replace m:sK w p0 q0 q1=some x:=m
 unfold sK at m
 refine v (vl 2 _ kR rfl rfl rfl (cZ p9 rfl (v ?_)))
 apply vi m <;> intro c0 m
 refine v (v (v (vl 2 _ kR rfl rfl rfl (vx m pG rfl rfl λx0 _ m=>va (.agg (bT x0)) xE rfl rfl (ve λu=>bD (OL) u xF rfl rfl λk103 K0=>qk K0 rfl (ve λu=>aK 0 (bT x0) u rfl rfl rfl rfl zD rfl rfl λK1=>qk K1 rfl (v (v (vl 0 _ pH rfl rfl rfl ?_)))))))))
 obtain⟨z0,Z0,m⟩:=aC m
 refine ve λu=>nX (c:=bJ) Z0 B2 rfl rfl u nofun rfl λtg1 t1 K2=>qk K2 rfl (ve λu=>aK 1 ([.sc (.string x0.Path),nZ x0.Size,ow tg1 32 (List.map bJ z0)]) u rfl rfl (jF rfl) (o9 _ _ _) TH rfl rfl λK4=>qk K4 rfl (v (vl 1 (.agg ([.sc (.string x0.Path),nZ x0.Size,ow tg1 32 (List.map bJ z0)])) xE rfl rfl rfl (ve λu=>BT (t:=25) (.agg (bT ({ Path:=x0.Path,Size:=x0.Size,Ids:=z0}:dH))) (aS (.cons _ (.refl _)) u).1 (bH.agg (.k2 (.cons (mP _ 0 t1 u rfl (.refl _)) .nil))) (a_v (eO (List.map bT ([({ Path:=x0.Path,Size:=x0.Size,Ids:=z0}:dH)]:List dH)) JK rfl rfl rfl rfl) (qk ((aS (.cons _ (.refl _)) u).2) rfl ?_))))))
 obtain⟨z1,Z1,m⟩:=aC m
 exact ve λu=>fF (c:=bT) 1 Z1 JK rfl rfl rfl t0 u rfl λtg2 t2 K5=>qk K5 rfl (v (eY m tg2 t2 (kP [1,2,3] rfl rfl (.k4 .nil))))
 exact v (lA m tg0 t0 (lx (.k4 .nil)))
 rintro tg3 ⟨r0,r1⟩ t3 m
 refine v (ve λu=>aK 2 ([.sc (.string p0.Name),ow tg3 3 (List.map bT r0)]) u rfl rfl (jF rfl) (o9 _ _ _) S6 rfl rfl λK7=>qk K7 rfl (v (vl 2 (.agg ([.sc (.string p0.Name),ow tg3 3 (List.map bT r0)])) lI rfl rfl rfl (ve λu=>aK 1 ([.sc (.string p0.Name),ow tg3 3 (List.map bT r0)]) u rfl rfl rfl (by repeat (first | exact rfl | refine cE (iH _ _ _) ?_ | refine cE (bY _ _ _) ?_ | refine cE (f9 _ _ _ _) ?_ | refine cE rfl ?_)) zA rfl rfl λK8=>qk K8 rfl ?_))))
 refine v ?_
 cases m
 exact vr λu=>dX.of1 (.inl rfl) (qD (.agg ([.sc (.string p0.Name),ow tg3 3 (List.map bT r0)])) lI rfl (a9 1 u rfl) rfl) (aS (List.nil_sublist _) u).1 (bH.agg (.cons (bH.refl _ _) (.cons ((eZ _ 0 t3 u rfl)) .nil))) ⟨rfl,rfl⟩
theorem RR:aO Tryz.prog 150=true:=by kernel_rfl
def sL (m:Nat) (p0:List aA) (q0:List aA) (q1:Int):Option (Lp ((List aA)×Int) ((List aA))):=
 if (decide (q1 < (p0.length:Int)))=true then ((ix p0 q1).bind λx0=>(zQ m x0.Data).bind λy0=>(xR m x0.Locs).bind λy1=>(app q0 ([{ { x0 with Data:=y0} with Locs:=y1}]:List aA)).bind λz0=>some (.go (z0,IntKind.wrap .i64 (q1+1)))) else some (.brk (q0,q1))
def GP (m:Nat) (p0:List aA):Option ((List aA)):=
 after (aT (λs=>sL m p0 s.1 s.2) m ([],0)) λ⟨r0,r1⟩=>some r0
theorem aEL {w:Nat} {p0:List aA} {o:(List aA)} (h:aF) (m:GP w p0=some o):
 aL Tryz.prog 152 [.sl none 35 (List.map aH p0)] h (λr h'=>r= .sl none 35 (List.map aH o)∧h'=h):=by
 refine fN 29 [.tmp 2] Tryz.func152 rfl rfl rfl rfl ?_
 unfold GP at m
 refine v (v (v (pU (FE (.tok 44 35 (([]:List aA).length*35)) 3 (ow none 35 (List.map aH [])) (jE _ _)) (nC m (σ:=(List aA)×Int) (τ:=Option cB) (λg s=> [(g,.tok 44 35 ((s.1:List aA).length*35))]) (λg s=>(g=none→s.1= [])) (λg s=>.c 0 (.sl none 35 (List.map aH p0)) (.c 3 (ow g 35 (List.map aH s.1)) (.c 4 (nZ s.2) .nil))) none (λ_=>rfl) (lx (.k3 .nil)) ?_ ?_))))
 rintro tg0 ⟨q0,q1⟩ x t0 m
 replace m:sL w p0 q0 q1=some x:=m
 unfold sL at m
 refine v (cZ hM rfl (v ?_))
 apply vi m <;> intro c0 m
 refine v (v (v (vx m eU rfl rfl λx0 _ m=>va (.agg (aH x0)) lS rfl rfl (ve λu=>bD (bJ jX++(KK:List AV)) u nE rfl rfl λk109 K0=>qk K0 rfl (ve λu=>aK 0 (aH x0) u rfl rfl rfl rfl xD rfl rfl λK1=>qk K1 rfl (v (vz [(7,some k109,.obj 44 (aH x0))] mixed (λu=>⟨λ_=>aI 0 u rfl,trivial⟩) λu=>zF 0 rfl jO rfl (zL 1 0 (.sl none 1 (List.map dD x0.Data)) rfl lH rfl rfl rfl ?_))))))))
 obtain⟨y0,Y0,m⟩:=aC m
 refine zC 2 rfl (bZ (MJ _ Y0) rfl EG rfl) (zF 3 rfl iW rfl (zL 4 0 (.sl none 4 (List.map aM x0.Locs)) rfl e8 rfl rfl rfl ?_))
 obtain⟨y1,Y1,m⟩:=aC m
 refine zC 5 rfl (bZ (MI _ Y1) rfl EF rfl) (zF 6 rfl jO rfl (zE 7 rfl (aK 0 (aH { x0 with Data:=y0}) u rfl rfl rfl rfl BY rfl rfl λK2=>⟨⟨λe=>absurd e (by decide),trivial⟩, ?_⟩)))
 refine zF 8 rfl iW rfl (zE 9 rfl (aK 0 (aH { { x0 with Data:=y0} with Locs:=y1}) K2 rfl rfl rfl rfl nL rfl rfl λK3=>⟨⟨λe=>absurd e (by decide),trivial⟩, ?_⟩))
 refine zX (qk (f:=PQ 23 _ _ _ _ _ _ _ _ _) K3 rfl (v (vl 0 (.agg (aH { { x0 with Data:=y0} with Locs:=y1})) lS rfl rfl rfl (bU (eO (List.map aH ([{ { x0 with Data:=y0} with Locs:=y1}]:List aA)) lF rfl rfl rfl rfl) ?_))))
 obtain⟨z0,Z0,m⟩:=aC m
 exact ve λu=>fF (c:=aH) 1 Z0 lF rfl rfl rfl t0 u rfl λtg1 t1 K4=>qk K4 rfl (v (eY m tg1 t1 (kP [1] rfl rfl (.k3 .nil))))
 exact v (lA m tg0 t0 (lx (.k3 .nil)))
 rintro tg2 ⟨r0,r1⟩ t2 m
 refine v (v ?_)
 obtain rfl:=eB m
 exact vr λu=>dX.of1 (.inl rfl) (fU _ _ (ow _ _ _) rfl) (aS (List.nil_sublist _) u).1 ((eZ _ 0 t2 u rfl)) ⟨rfl,rfl⟩
theorem MK:aO Tryz.prog 152=true:=by kernel_rfl
def GQ (m:Nat) (p0:aB) (q0:List aG) (q1:Int):Option (Lp ((List aG)×Int) (aB)):=
 if (decide (q1 < (p0.Snaps.length:Int)))=true then ((ix p0.Snaps q1).bind λx0=>(GO m x0.Man).bind λy0=>(xR m x0.Locs).bind λy1=>(app q0 ([{ { x0 with Man:=y0} with Locs:=y1}]:List aG)).bind λz0=>some (.go (z0,IntKind.wrap .i64 (q1+1)))) else some (.brk (q0,q1))
def GR (m:Nat) (p0:aB) (q0:List aQ) (q1:Int):Option (Lp ((List aQ)×Int) (aB)):=
 if (decide (q1 < (p0.Exps.length:Int)))=true then ((ix p0.Exps q1).bind λx0=>(xR m x0.Locs).bind λy0=>(app q0 ([{ x0 with Locs:=y0}]:List aQ)).bind λz0=>some (.go (z0,IntKind.wrap .i64 (q1+1)))) else some (.brk (q0,q1))
def M90 (m:Nat) (p0:aB):Option (aB):=
 after (aT (λs=>GQ m p0 s.1 s.2) m ([],0)) λ⟨r0,r1⟩=>after (aT (λs=>GR m p0 s.1 s.2) m ([],0)) λ⟨r2,r3⟩=>(GP m p0.Chunks).bind λy0=>(app ([]:List aR) p0.Vols).bind λz0=>some ({ Seq:=p0.Seq,Snaps:=r0,Chunks:=y0,Exps:=r2,Vols:=z0}:aB)
theorem aEM:aO Tryz.prog 90=true:=by kernel_rfl
end Go.Proofs.YtbbifdfldpfphaaGreat
