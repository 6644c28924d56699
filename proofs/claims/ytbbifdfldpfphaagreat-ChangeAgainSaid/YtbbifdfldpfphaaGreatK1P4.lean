import Derived.Test.YtbbifdfldpfphaaGreatK1P3
import Derived.Test.YtbbifdfldpfphaaGreatK1P1
import Derived.Lib.Bytealg
set_option linter.unusedSimpArgs false
set_option linter.unusedVariables false
set_option maxHeartbeats 4000000
set_option maxRecDepth 100000
namespace Go.Proofs.YtbbifdfldpfphaaGreat
open Go.Vm
def SK (m:Nat) (p0:Int):Option (Int):=
 grd (decide (0≤(IntKind.wrap .i64 (8*p0)))) <| some (IntKind.wrap .i64 (1*2 ^ (min ((IntKind.wrap .i64 (8*p0)):Int).toNat (IntKind.bits .i64))))
theorem aBX {u:Nat} {p0:Int} {o:Int} (h:aE) (m:SK u p0=some o):
 aL Tryz.prog 166 [nZ p0] h (λr h'=>r=nZ o∧h'=h):=by
 refine fY 6 [.tmp 2] Tryz.func166 rfl rfl rfl rfl ?_
 unfold SK at m
 refine v (v (RT m λ_ m=>v ?_))
 cases m
 exact eK rfl
theorem V9:aO Tryz.prog 166=true:=by kernel_rfl
def wU (m:Nat) (p1:Int) (q0:List Int) (q1:Int):Option (Lp ((List Int)×Int) ((List Int)×Int)):=
 if (decide (0≤q1))=true then (grd (decide (0≤(IntKind.wrap .i64 (8*q1)))) <| (app q0 ([IntKind.wrap .u8 (p1.fdiv (2 ^ (min ((IntKind.wrap .i64 (8*q1)):Int).toNat (IntKind.bits .i64))))]:List Int)).bind λz0=>some (.go (z0,IntKind.wrap .i64 (q1 - 1)))) else some (.brk (q0,q1))
def G7 (m:Nat) (p0:List Int) (p1:Int) (p2:Int):Option ((List Int)×Int):=
 after (if (decide (p2 < 1))=true then (some (.brk true)) else if (decide (7 < p2))=true then (some (.brk true)) else if (decide (p1 < 0))=true then (some (.brk true)) else (SK m p2).bind λy0=>some (.brk (decide (y0≤p1))):Option (Lp (Bool) ((List Int)×Int))) λj9=>if j9=true then (some (([]:List Int),1)) else (QF m p0).bind λy1=>after (aW (λs=>wU m p1 s.1 s.2) m (y1,IntKind.wrap .i64 (p2 - 1))) λ⟨r0,r1⟩=>some (r0,0)
theorem QG {w:Nat} {p0:List Int} {p1:Int} {p2:Int} {o:(List Int)×Int} (h:aE) (m:G7 w p0 p1 p2=some o):
 aL Tryz.prog 101 [.sl none 1 (List.map dG p0),nZ p1,nZ p2] h (λr h'=>∃t:Option cB,(t=none→o.1= [])∧bT h [(t,.tok 5 1 ((o.1:List Int).length*1))]∧r= .tup [ow t 1 (List.map dG o.1),nZ o.2]∧h'=hp h [(t,.tok 5 1 ((o.1:List Int).length*1))]):=by
 refine fY 43 [.tmp 6,.tmp 7] Tryz.func101 rfl rfl rfl rfl ?_
 unfold G7 at m
 refine v (vs (vs (fR m (σ:=Bool) (λs=> []) (λs=>.c 0 (.sl none 1 (List.map dG p0)) (.c 1 (nZ p1) (.c 2 (nZ p2) (.c 25 (.sc (.bool s)) .nil)))) (λx m=> ?_) ?_)))
 refine v ?_
 apply vi m <;> intro b0 m
 rw[b0]
 exact hD m
 rw[b0]
 apply vi m <;> intro b1 m
 rw[b1]
 exact hD m
 rw[b1]
 apply vi m <;> intro b2 m
 rw[b2]
 exact hD m
 rw[b2]
 exact vk aBX V9 m rfl rfl λ_ m=>hD m
 rintro _ j9 m
 refine v ?_
 apply vi m <;> intro c0 m
 refine v (v ?_)
 cases m
 exact vr λu=>dV.of2 (.inl rfl) (fP _ _ (.sc (.slice _ _ _)) rfl) (fP _ _ (.sc (.int _ _)) rfl) (hH.refl _) (iZ _ _) (bE.refl _ _) ⟨none,λ_=>rfl,bT.none (bT.nil _),rfl,rfl⟩
 refine v (v ?_)
 obtain⟨_,Y0,m⟩:=aC m
 refine ve λu=>cI (W96 _ Y0) rfl OS rfl ?_
 rintro x h' ⟨tg0,t0,K0,rfl,rfl⟩
 refine qk (bT.co u K0) (iL _ _ _) (v (m5 m (σ:=(List Int)×Int) (τ:=Option cB) (λg s=> [(g,.tok 5 1 ((s.1:List Int).length*1))]) (λg s=>(g=none→s.1= [])) (λg s=>.c 1 (nZ p1) (.c 8 (ow g 1 (List.map dG s.1)) (.c 9 (nZ s.2) .nil))) tg0 t0 (lx (.k3 .nil)) ?_ ?_))
 rintro tg1 ⟨q0,q1⟩ x t1 m
 replace m:wU w p1 q0 q1=some x:=m
 unfold wU at m
 refine v (v ?_)
 apply vi m <;> intro c1 m
 refine v (v (v (RT m λ_ m=>bU (eI (List.map dG ([IntKind.wrap .u8 (p1.fdiv (2 ^ (min ((IntKind.wrap .i64 (8*q1)):Int).toNat (IntKind.bits .i64))))]:List Int)) i9 rfl rfl rfl rfl) ?_)))
 obtain⟨z0,Z0,m⟩:=aC m
 exact ve λu=>fB (c:=dG) 0 Z0 i9 rfl rfl rfl t1 u rfl λtg2 t2 K1=>qk K1 rfl (v (eR m tg2 t2 (lx (.k3 .nil))))
 exact v (kT m tg1 t1 (lx (.k3 .nil)))
 rintro tg3 ⟨r0,r1⟩ t3 m
 refine v (v ?_)
 cases m
 exact vr λu=>dV.of2 (.inl rfl) (fP _ _ (ow _ _ _) rfl) (fP _ _ (.sc (.int _ _)) rfl) (aR (h0:=h) (L':= [(tg3,.tok 5 1 ((r0:List Int).length*1))]) (.refl _) u).1 (bE.refl _ _) (bE.refl _ _) ⟨tg3,t3,(aR (h0:=h) (L':= [(tg3,.tok 5 1 ((r0:List Int).length*1))]) (.refl _) u).2,rfl,rfl⟩
theorem QH:aO Tryz.prog 101=true:=by kernel_rfl
def Fq (m:Nat) (x0:dH) (q0:List Int) (q1:Int):Option (Lp ((List Int)×Int) (Lp ((List Int)×Int) ((List Int)×Int))):=
 if (decide (q1 < (x0.Ids.length:Int)))=true then ((ix x0.Ids q1).bind λx1=>(app q0 x1.1).bind λz0=>some (.go (z0,IntKind.wrap .i64 (q1+1)))) else some (.brk (q0,q1))
def FU (m:Nat) (p0:bF) (q0:List Int) (q1:Int):Option (Lp ((List Int)×Int) ((List Int)×Int)):=
 if (decide (q1 < (p0.Parts.length:Int)))=true then ((ix p0.Parts q1).bind λx0=>(app q0 ([IntKind.wrap .u8 (x0.Path.size:Int)]:List Int)).bind λz0=>(app z0 (qZ x0.Path)).bind λz1=>(G7 m z1 x0.Size 2).bind λy0=>(app y0.1 ([IntKind.wrap .u8 (x0.Ids.length:Int)]:List Int)).bind λz2=>after (aW (λs=>Fq m x0 s.1 s.2) m (z2,0)) λ⟨r0,r1⟩=>some (.go (r0,IntKind.wrap .i64 (q1+1)))) else some (.brk (q0,q1))
def M42 (m:Nat) (p0:bF):Option ((List Int)×Int):=
 (DJ m p0).bind λy6=>if (y6 !=0)=true then (some ([],y6)) else (app ([IntKind.wrap .u8 (p0.Name.size:Int)]:List Int) (qZ p0.Name)).bind λz0=>(app z0 ([IntKind.wrap .u8 (p0.Parts.length:Int)]:List Int)).bind λz1=>after (aW (λs=>FU m p0 s.1 s.2) m (z1,0)) λ⟨r0,r1⟩=>some (r0,0)
theorem W42 {w:Nat} {p0:bF} {o:(List Int)×Int} (h:aE) (m:M42 w p0=some o):
 aL Tryz.prog 42 [.agg (bH p0)] h (λr h'=>r= .tup [.sl none 1 (List.map dG o.1),nZ o.2]∧h'=h):=by
 refine fY 74 [.tmp 2,.tmp 3] Tryz.func42 rfl rfl rfl rfl ?_
 unfold M42 at m
 refine v (gZ rfl rfl λk2 K3=>v (vl 0 (.agg (bH p0)) m8 rfl rfl rfl (vk OQ G5 m rfl rfl λ_ m=>v (v ?_))))
 apply vi m <;> intro c0 m
 refine v (v ?_)
 cases m
 exact vr λu=>dV.of2 (.inl rfl) (fP _ _ (.sc (.slice _ _ _)) rfl) (fP _ _ (.sc (.int _ _)) rfl) (aR (List.nil_sublist _) u).1 (aV _) (bE.refl _ _) ⟨rfl,rfl⟩
 refine v (v (vl 0 _ xX rfl rfl rfl (bU (nR OI rfl) (ve λu=>E2 (c:=dG) ([IntKind.wrap .u8 (p0.Name.size:Int)]:List Int) u i9 rfl rfl rfl rfl λtg0 t0 K0=>qk K0 rfl (vl 1 _ xX rfl rfl rfl ?_)))))
 obtain⟨z0,Z0,m⟩:=aC m
 refine ve λu=>J9 (c:=dG) 0 Z0 u9 i9 rfl (λ_=>rfl) rfl rfl t0 u rfl λtg1 t1 K1=>qk K1 rfl (v (vl 1 _ mQ rfl rfl rfl (dL tG rfl (bU (eI (List.map dG ([IntKind.wrap .u8 (p0.Parts.length:Int)]:List Int)) i9 rfl rfl rfl rfl) ?_))))
 obtain⟨z1,Z1,m⟩:=aC m
 refine ve λu=>fB (c:=dG) 0 Z1 i9 rfl rfl rfl t1 u rfl λtg2 t2 K2=>qk K2 rfl (v (vl 1 _ mQ rfl rfl rfl (dL tG rfl (m5 m (σ:=(List Int)×Int) (τ:=Option cB) (λg s=> [(g,.tok 5 1 ((s.1:List Int).length*1)),(some k2,.obj 58 (bH p0))]) (λg s=>(g=none→s.1= [])) (λg s=>.c 5 (ow g 1 (List.map dG s.1)) (.c 31 (.sl none 3 (List.map bX p0.Parts)) (.c 32 (nZ (p0.Parts.length:Int)) (.c 33 (nZ s.2) .nil)))) tg2 t2 (lx (.k4 .nil)) ?_ ?_))))
 rintro tg3 ⟨q0,q1⟩ x t3 m
 replace m:FU w p0 q0 q1=some x:=m
 unfold FU at m
 refine v (v ?_)
 apply vi m <;> intro c1 m
 refine v (v (v (vx m qC rfl rfl λx0 _ m=>va (.agg (bX x0)) BF rfl rfl (ve λu=>bI (T1) u FN rfl rfl λk257 K4=>qk K4 rfl (ve λu=>aJ 0 (bX x0) u rfl rfl rfl rfl IP rfl rfl λK5=>qk K5 rfl (v (vz [(1000000,some k257,.obj 70 (bX x0))] mixed (λu=>⟨λ_=>aI 0 u rfl,trivial⟩) λu=>zC 0 rfl (eT (ow _ _ _) rfl) (zF 1 rfl KI rfl (zL 2 0 (.sc (.string x0.Path)) rfl xX rfl rfl rfl (zC 3 rfl (nR OI rfl) (zC 4 rfl (IB VE ti5 rfl) (zC 5 rfl (eI (List.map dG ([IntKind.wrap .u8 (x0.Path.size:Int)]:List Int)) i9 rfl rfl rfl rfl) (zF 7 rfl KI rfl (zL 8 0 (.sc (.string x0.Path)) rfl xX rfl rfl rfl ?_))))))))))))))
 obtain⟨z2,Z2,m⟩:=aC m
 refine zE 6 rfl (fB (c:=dG) 1 Z2 i9 rfl rfl rfl t3 u rfl λtg4 t4 K6=>⟨⟨λ_=>aI 0 K6 rfl,trivial⟩, ?_⟩)
 obtain⟨z3,Z3,m⟩:=aC m
 refine zE 9 rfl (J9 (c:=dG) 1 Z3 u9 i9 rfl (λ_=>rfl) rfl rfl t4 K6 rfl λtg5 t5 K7=>⟨⟨λ_=>aI 0 K7 rfl,trivial⟩, ?_⟩)
 refine zC 10 rfl (hU (ow _ _ _) rfl) (zX (qk (f:=.c 5 _ (.c 46 _ (.c 43 _ (.c 45 _ (.c 44 _ (fq6 42 _ _ _ _ _ _ _)))))) K7 rfl (v (vl 0 _ cE rfl rfl rfl ?_))))
 obtain⟨_,Y0,m⟩:=aC m
 refine ve λu=>wK (s:=48) (.sl none 1 (List.map dG z3)) (aR (.cons_cons _ (.cons _ (.refl _))) u).1 (Fz.ale (aR (.cons_cons _ (.cons _ (.refl _))) u).1 (mF _ 1 t5 u rfl (.refl _))) (cI (QG _ Y0) rfl QH rfl ?_)
 rintro x h' ⟨tg6,t6,K8,rfl,rfl⟩
 refine qk (bT.co ((aR (.cons_cons _ (.cons _ (.refl _))) u).2) K8) (iL _ _ _) (v (vl 1 _ tL rfl rfl rfl (dL qD rfl (bU (eI (List.map dG ([IntKind.wrap .u8 (x0.Ids.length:Int)]:List Int)) i9 rfl rfl rfl rfl) ?_))))
 obtain⟨z4,Z4,m⟩:=aC m
 refine ve λu=>fB (c:=dG) 0 Z4 i9 rfl rfl rfl t6 u rfl λtg7 t7 K9=>qk K9 rfl (v (vl 1 _ tL rfl rfl rfl (dL qD rfl (m5 m (σ:=(List Int)×Int) (τ:=Option cB) (λg s=> [(g,.tok 5 1 ((s.1:List Int).length*1)),(some k257,.obj 70 (bX x0)),(some k2,.obj 58 (bH p0))]) (λg s=>(g=none→s.1= [])) (λg s=>.c 5 (ow g 1 (List.map dG s.1)) (.c 31 (.sl none 3 (List.map bX p0.Parts)) (.c 32 (nZ (p0.Parts.length:Int)) (.c 33 (nZ q1) (.c 62 (.sl none 32 (List.map bM x0.Ids)) (.c 63 (nZ (x0.Ids.length:Int)) (.c 64 (nZ s.2) .nil))))))) tg7 t7 (lx (.k7 .nil)) ?_ ?_))))
 rintro tg8 ⟨q2,q3⟩ x t8 m
 replace m:Fq w x0 q2 q3=some x:=m
 unfold Fq at m
 refine v (v ?_)
 apply vi m <;> intro c2 m
 refine v (v (v (vx m wP rfl rfl λx1 _ m=>va (.agg (bM x1)) fZ rfl rfl (ve λu=>bI (bM jR) u IK rfl rfl λk343 K10=>qk K10 rfl (ve λu=>aJ 0 (bM x1) u rfl rfl rfl rfl IJ rfl rfl λK11=>qk K11 rfl (v (bU (DA rC rfl) ?_)))))))
 obtain⟨z5,Z5,m⟩:=aC m
 exact ve λu=>fB (c:=dG) 1 Z5 i9 rfl rfl rfl t8 u (wG (a8 0 u rfl) rfl rfl) λtg9 t9 K12=>qk K12 rfl (v (eR m tg9 t9 (l4 [1,2,3] rfl rfl (.k7 .nil))))
 exact v (kT m tg8 t8 (lx (.k7 .nil)))
 rintro tg10 ⟨r0,r1⟩ t10 m
 exact v (eR m tg10 t10 (l4 [0,2] rfl rfl (.k4 .nil)))
 exact v (kT m tg3 t3 (lx (.k4 .nil)))
 rintro tg11 ⟨r2,r3⟩ t11 m
 refine v (v ?_)
 cases m
 exact vr λu=>dV.of2 (.inl rfl) (fP _ _ (ow _ _ _) rfl) (fP _ _ (.sc (.int _ _)) rfl) (aR (List.nil_sublist _) u).1 ((eS _ 0 t11 u rfl)) (bE.refl _ _) ⟨rfl,rfl⟩
theorem aBZ:aO Tryz.prog 42=true:=by kernel_rfl
end Go.Proofs.YtbbifdfldpfphaaGreat
namespace Go.Vm
theorem wr {n:Int} (h: -9223372036854775808≤n) (h2:n < 9223372036854775808):IntKind.wrap .i64 n=n:=by
 have e:IntKind.wrap .i64 n=(if decide (n % 18446744073709551616≥9223372036854775808)=true then n % 18446744073709551616 - 18446744073709551616 else n % 18446744073709551616):=rfl
 rw[e]
 simp only[decide_eq_true_eq]
 split <;> omega
theorem jA {i:Nat} (h:i < 1000000000):IntKind.wrap .i64 ((i:Int)+1)=((i+1:Nat):Int):=by rw[wr (by omega) (by omega)]; rfl
theorem wV {i:Nat} (h:i < 1000000000) (h0:0 < i):IntKind.wrap .i64 ((i:Int) - 1)=((i - 1:Nat):Int):=by rw[wr (by omega) (by omega)]; omega
theorem bS {α:Type} (l:List α) (i:Nat):ix l (i:Int)=l[i]? :=by simp[ix]
theorem qF {α:Type} (l:List α) {i:Int} (h:0≤i):ix l i=l[i.toNat]? :=by simp[ix,h]
theorem dS {α:Type} {xs ys:List α} (h:xs.length+ys.length≤1000000000):app xs ys=some (xs++ys):=by simp[app,h]
theorem cU {σ ρ:Type} (c:Prop) [Decidable c] (a b:Option (Lp σ ρ)) (k:σ→Option ρ):after (if c then a else b) k=if c then after a k else after b k:=by split <;> rfl
theorem aK {σ ρ:Type} (s:σ) (k:σ→Option ρ):after (some (.brk s)) k=k s:=rfl
theorem dC {σ ρ:Type} (r:ρ) (k:σ→Option ρ):after (some (.ret r)) k=some r:=rfl
theorem dJ {α β:Type} (c:Prop) [Decidable c] (a b:Option α) (k:α→Option β):(if c then a else b).bind k=if c then a.bind k else b.bind k:=by split <;> rfl
def LF {S ρ:Type} (emb:Nat→S) (p:Nat→Bool) (rv:Nat→ρ) (n:Nat):Lp S ρ:=match (List.range n).find? p with
 | none=>.brk (emb n)
 | some i=>.ret (rv i)
theorem DL {S ρ:Type} {body:S→Option (Lp S ρ)} (emb:Nat→S) (p:Nat→Bool) (rv:Nat→ρ):∀(m k F:Nat),m < F→
    (∀i,k≤i→i < k+m→(∀j,j < i→k≤j→p j=false)→body (emb i)=some (if p i then .ret (rv i) else .go (emb (i+1))))→((∀j,k≤j→j < k+m→p j=false)→body (emb (k+m))=some (.brk (emb (k+m))))→
    aW body F (emb k)=some (match (List.range' k m).find? p with | none=>.brk (emb (k+m)) | some i=>.ret (rv i))
  | 0,k,F+1,_,_,he=>by
    have:=he (λj h1 h2=>by omega)
    simp only[Nat.add_zero] at this
    simp[aW,this]
  | m+1,k,F+1,hF,hb,he=>by
    have h0:=hb k (Nat.le_refl _) (by omega) (λj h1 h2=>by omega)
    rw[List.range'_succ,List.find?_cons]
    cases hp:p k with
    | true=>simp[aW,h0,hp]
    | false=>
      have:=DL (body:=body) emb p rv m (k+1) F (by omega) (λi h1 h2 h3=>hb i (by omega) (by omega) (λj h4 h5=>by
        by_cases e:j=k
        · subst e; exact hp
        · exact h3 j h4 (by omega))) (λh=>by
        rw[show k+1+m=k+(m+1) from by omega]
        exact he λj h4 h5=>by
          by_cases e:j=k
          · subst e; exact hp
          · exact h j (by omega) (by omega))
      simp only[aW,h0,hp]
      rw[if_neg (by simp)]
      simp only[this,show k+1+m=k+(m+1) from by omega]
theorem e8 {S ρ:Type} {body:S→Option (Lp S ρ)} {n F:Nat} {s0:S} (emb:Nat→S) (p:Nat→Bool) (rv:Nat→ρ) (hF:n < F) (h0:s0=emb 0)
    (hb:∀i,i < n→(∀j,j < i→p j=false)→body (emb i)=some (if p i then .ret (rv i) else .go (emb (i+1)))) (he:(∀j,j < n→p j=false)→body (emb n)=some (.brk (emb n))):
    aW body F s0=some (LF emb p rv n):=by
  subst h0
  have:=DL (body:=body) emb p rv n 0 F hF (λi _ h2 h3=>hb i (by omega) λj hj=>h3 j hj (Nat.zero_le _)) (λh=>by simpa using he λj hj=>h j (Nat.zero_le _) (by omega))
  rw[this,LF,List.range_eq_range']
  simp
theorem hX {S ρ:Type} {emb:Nat→S} {p:Nat→Bool} {r:ρ} {n:Nat}:LF emb p (λ_=>r) n=if (List.range n).any p then .ret r else .brk (emb n):=by
 unfold LF
 split
 ·rename_i h
  rw[if_neg]
  simp only[List.any_eq_true,not_exists,not_and]
  exact λx hx=>List.find?_eq_none.1 h x hx
 ·rename_i i h
  rw[if_pos]
  exact List.any_eq_true.2 ⟨i,List.mem_of_find?_eq_some h,List.find?_some h⟩
end Go.Vm
namespace Go.Proofs.YtbbifdfldpfphaaGreat
open Go.Vm
def G8 (m:Nat) (p0:Int) (p1:Int) (p2:Int):Option (Bool):=
 after (if (decide (p1≤p0))=true then (some (.brk (decide (p0≤p2)))) else some (.brk false):Option (Lp (Bool) (Bool))) λj4=>some j4
theorem NO {u:Nat} {p0:Int} {p1:Int} {p2:Int} {o:Bool} (h:aE) (m:G8 u p0 p1 p2=some o):
 aL Tryz.prog 97 [nZ p0,nZ p1,nZ p2] h (λr h'=>r= .sc (.bool o)∧h'=h):=by
 refine fY 15 [.tmp 6] Tryz.func97 rfl rfl rfl rfl ?_
 unfold G8 at m
 refine v (vs (fR m (σ:=Bool) (λs=> []) (λs=>.c 6 (.sc (.bool s)) .nil) (λx m=> ?_) ?_))
 refine v ?_
 apply vi m <;> intro b5 m
 rw[b5]
 exact iD m
 rw[b5]
 exact iD m
 rintro _ j4 m
 refine v ?_
 obtain rfl:=eY m
 exact eK rfl
theorem yF:aO Tryz.prog 97=true:=by kernel_rfl
def vA (m:Nat) (p0:bP) (p1:bP) (q0:Int):Option (Lp (Int) (Bool)):=
 if (decide (q0 < 32))=true then ((ix p0.1 q0).bind λx0=>(ix p1.1 q0).bind λx1=>if (x0 !=x1)=true then ((ix p0.1 q0).bind λx2=>(ix p1.1 q0).bind λx3=>some (.ret (decide (x2 < x3)))) else some (.go (IntKind.wrap .i64 (q0+1)))) else some (.brk q0)
def KY (m:Nat) (p0:bP) (p1:bP):Option (Bool):=
 after (aW (λs=>vA m p0 p1 s) m 0) λr0=>some false
theorem WA {w:Nat} {p0:bP} {p1:bP} {o:Bool} (h:aE) (m:KY w p0 p1=some o):
 aL Tryz.prog 147 [.agg (bM p0),.agg (bM p1)] h (λr h'=>r= .sc (.bool o)∧h'=h):=by
 refine fY 24 [.tmp 4] Tryz.func147 rfl rfl rfl rfl ?_
 unfold KY at m
 refine v (gZ rfl rfl λk2 K3=>gZ rfl rfl λk5 K6=>v (jT m (σ:=Int) (λs=> [(some k5,.obj 36 (bM p1)),(some k2,.obj 36 (bM p0))]) (λs=>.c 2 (.ptr k2 0) (.c 3 (.ptr k5 0) (.c 5 (nZ s) .nil))) (lx (.k3 .nil)) ?_ ?_))
 rintro _ q0 x m
 replace m:vA w p0 p1 q0=some x:=m
 unfold vA at m
 refine v (v ?_)
 apply vi m <;> intro c0 m
 refine v (v (v (vq (by kernel_rfl) ?_)))
 obtain⟨_,X0,m⟩:=aC m
 refine bU (lT X0 rC rfl rfl) (vn (λu=>mU 0 X0 EO rfl (a8 1 u rfl) rfl) ?_)
 obtain⟨_,X1,m⟩:=aC m
 refine bU (lT X1 rC rfl rfl) (vn (λu=>mU 0 X1 EO rfl (a8 0 u rfl) rfl) (v ?_))
 apply vi m <;> intro c1 m
 refine v (vq (by kernel_rfl) ?_)
 obtain⟨_,X2,m⟩:=aC m
 refine bU (lT X2 rC rfl rfl) (vn (λu=>mU 0 X2 EO rfl (a8 1 u rfl) rfl) ?_)
 obtain⟨_,X3,m⟩:=aC m
 refine bU (lT X3 rC rfl rfl) (vn (λu=>mU 0 X3 EO rfl (a8 0 u rfl) rfl) (v (gO m λm=> ?_)))
 cases m
 exact eK rfl
 exact v (v (gW m))
 exact v (G4 m)
 rintro _ r0 m
 refine v (v ?_)
 obtain rfl:=eY m
 exact eK rfl
theorem QI:aO Tryz.prog 147=true:=by kernel_rfl
def rI (m:Nat) (p0:aB) (p1:List bK) (q0:Int):Option (Lp (Int) (Bool)):=
 if (decide (q0 < (p1.length:Int)))=true then ((ix p1 q0).bind λx0=>after (if (decide (x0.Vol < 0))=true then (some (.brk true)) else if (decide ((p0.Vols.length:Int)≤x0.Vol))=true then (some (.brk true)) else (ix p0.Vols x0.Vol).bind λx1=>if (x1.State !=2)=true then (some (.brk true)) else (ix p0.Vols x0.Vol).bind λx2=>(G8 m x0.File 1 x2.Files).bind λy0=>if (!y0)=true then (some (.brk true)) else (G8 m x0.Off 0 16777215).bind λy1=>if (!y1)=true then (some (.brk true)) else (G8 m x0.Len 13 8013).bind λy2=>some (.brk (!y2)):Option (Lp (Bool) (Lp (Int) (Bool)))) λj0=>if j0=true then (some (.ret false)) else after (if (decide (0 < q0))=true then ((ix p1 (IntKind.wrap .i64 (q0 - 1))).bind λx3=>after (if (decide (x3.Vol < x0.Vol))=true then (some (.brk (!true))) else if (x3.Vol==x0.Vol)=true then (if (decide (x3.File < x0.File))=true then (some (.brk (!true))) else if (x3.File==x0.File)=true then (some (.brk (!(decide (x3.Off < x0.Off))))) else some (.brk (!false))) else some (.brk (!false)):Option (Lp (Bool) (Lp (Unit) (Lp (Int) (Bool))))) λj1=>if j1=true then (some (.ret (.ret false))) else some (.brk ())) else some (.brk ()):Option (Lp (Unit) (Lp (Int) (Bool)))) λ_=>some (.go (IntKind.wrap .i64 (q0+1)))) else some (.brk q0)
def yG (m:Nat) (p0:aB) (p1:List bK):Option (Bool):=
 if (decide (200 < (p1.length:Int)))=true then (some false) else after (aW (λs=>rI m p0 p1 s) m 0) λr0=>some true
theorem IT {w:Nat} {p0:aB} {p1:List bK} {o:Bool} (h:aE) (m:yG w p0 p1=some o):
 aL Tryz.prog 148 [.agg (aF p0),.sl none 4 (List.map aQ p1)] h (λr h'=>r= .sc (.bool o)∧h'=h):=by
 refine fY 108 [.tmp 4] Tryz.func148 rfl rfl rfl rfl ?_
 unfold yG at m
 refine v (gZ rfl rfl λk2 K3=>v (dL jJ rfl (v ?_)))
 apply vi m <;> intro c7 m
 refine v (v ?_)
 obtain rfl:=eY m
 exact eK rfl
 refine v (v (jT m (σ:=Int) (λs=> [(some k2,.obj 30 (aF p0))]) (λs=>.c 1 (.sl none 4 (List.map aQ p1)) (.c 2 (.ptr k2 0) (.c 5 (nZ s) .nil))) (lx (.k3 .nil)) ?_ ?_))
 rintro _ q0 x m
 replace m:rI w p0 p1 q0=some x:=m
 unfold rI at m
 refine v (dL jJ rfl (v ?_))
 apply vi m <;> intro c0 m
 refine v (v (v (vx m jV rfl rfl λx0 _ m=>va (.agg (aQ x0)) m9 rfl rfl (ve λu=>bI (NT) u DI rfl rfl λk202 K0=>qk K0 rfl (ve λu=>aJ 0 (aQ x0) u rfl rfl rfl rfl KK rfl rfl λK1=>qk K1 rfl (vs (vs (fR m (σ:=Bool) (λs=> [(some k202,.obj 81 (aQ x0)),(some k2,.obj 30 (aF p0))]) (λs=>.c 1 (.sl none 4 (List.map aQ p1)) (.c 2 (.ptr k2 0) (.c 5 (nZ q0) (.c 6 (.ptr k202 0) (.c 66 (.sc (.bool s)) .nil))))) (λx m=> ?_) ?_))))))))
 refine v (vq (by kernel_rfl) (vl 0 _ cE rfl rfl rfl ?_))
 apply vi m <;> intro b0 m
 rw[b0]
 exact mO m
 rw[b0]
 refine vl 0 _ cE rfl rfl rfl (vl 1 _ gH rfl rfl rfl (dL o6 rfl ?_))
 apply vi m <;> intro b1 m
 rw[b1]
 exact mO m
 rw[b1]
 refine vl 1 _ gH rfl rfl rfl (vl 0 _ cE rfl rfl rfl (vx m kZ rfl rfl λ_ _ m=> ?_))
 apply vi m <;> intro b2 m
 rw[b2]
 exact mO m
 rw[b2]
 refine vl 0 _ cE rfl rfl rfl (vl 1 _ gH rfl rfl rfl (vl 0 _ cE rfl rfl rfl (vx m kZ rfl rfl λ_ _ m=>vk NO yF m rfl rfl λ_ m=> ?_)))
 apply vi m <;> intro b3 m
 rw[b3]
 exact mO m
 rw[b3]
 refine vl 0 _ cE rfl rfl rfl (vk NO yF m rfl rfl λ_ m=> ?_)
 apply vi m <;> intro b4 m
 rw[b4]
 exact mO m
 rw[b4]
 exact vl 0 _ cE rfl rfl rfl (vk NO yF m rfl rfl λ_ m=>mO m)
 rintro _ j0 m
 refine v ?_
 apply vi m <;> intro c1 m
 refine v (v (gO m λm=> ?_))
 obtain rfl:=eY m
 exact eK rfl
 refine v (v (fR m (σ:=Unit) (λs=> [(some k202,.obj 81 (aQ x0)),(some k2,.obj 30 (aF p0))]) (λs=>.c 1 (.sl none 4 (List.map aQ p1)) (.c 2 (.ptr k2 0) (.c 5 (nZ q0) .nil))) (λx m=> ?_) ?_))
 refine v ?_
 apply vi m <;> intro c2 m
 refine v (vx m jV rfl rfl λx1 _ m=>va (.agg (aQ x1)) m9 rfl rfl (ve λu=>bI (NT) u DI rfl rfl λk268 K2=>qk K2 rfl (ve λu=>aJ 0 (aQ x1) u rfl rfl rfl rfl KK rfl rfl λK4=>qk K4 rfl (vs (fR m (σ:=Bool) (λs=> [(some k268,.obj 81 (aQ x1)),(some k202,.obj 81 (aQ x0)),(some k2,.obj 30 (aF p0))]) (λs=>.c 1 (.sl none 4 (List.map aQ p1)) (.c 2 (.ptr k2 0) (.c 5 (nZ q0) (.c 107 (.sc (.bool s)) .nil)))) (λx m=> ?_) ?_)))))
 refine v (vl 0 _ cE rfl rfl rfl (vl 1 _ cE rfl rfl rfl ?_))
 apply vi m <;> intro b5 m
 rw[b5]
 exact hD m
 rw[b5]
 refine vl 0 _ cE rfl rfl rfl (vl 1 _ cE rfl rfl rfl ?_)
 apply vi m <;> intro b6 m
 rw[b6]
 refine vl 0 _ cE rfl rfl rfl (vl 1 _ cE rfl rfl rfl ?_)
 apply vi m <;> intro b7 m
 rw[b7]
 exact hD m
 rw[b7]
 refine vl 0 _ cE rfl rfl rfl (vl 1 _ cE rfl rfl rfl ?_)
 apply vi m <;> intro b8 m
 rw[b8]
 exact vl 0 _ cE rfl rfl rfl (vl 1 _ cE rfl rfl rfl (hD m))
 rw[b8]
 exact hD m
 rw[b6]
 exact hD m
 rintro _ j1 m
 refine v ?_
 apply vi m <;> intro c3 m
 refine v (v (gO m λm=>gO m λm=> ?_))
 obtain rfl:=eY m
 exact eK rfl
 exact v (A3 m (l4 [1,2] rfl rfl (.k3 .nil)))
 exact v (gW m)
 rintro _ _ m
 exact v (A3 m (l4 [1] rfl rfl (.k3 .nil)))
 exact v (G4 m)
 rintro _ r0 m
 refine v (v ?_)
 obtain rfl:=eY m
 exact eK rfl
theorem zQ:aO Tryz.prog 148=true:=by kernel_rfl
def rJ (m:Nat) (p0:ByteArray) (q0:Int):Option (Lp (Int) (Bool)):=
 if (decide (q0 < (p0.size:Int)))=true then (after ((N4 p0 q0).bind λx0=>if (decide (x0 < 33))=true then (some (.brk true)) else (N4 p0 q0).bind λx1=>some (.brk (decide (126 < x1))):Option (Lp (Bool) (Lp (Int) (Bool)))) λj0=>if j0=true then (some (.ret false)) else some (.go (IntKind.wrap .i64 (q0+1)))) else some (.brk q0)
def BJ (m:Nat) (p0:ByteArray):Option (Bool):=
 after (aW (λs=>rJ m p0 s) m 0) λr0=>after (if (decide (1≤(p0.size:Int)))=true then (some (.brk (decide ((p0.size:Int)≤20)))) else some (.brk false):Option (Lp (Bool) (Bool))) λj0=>some j0
theorem KZ {u:Nat} {p0:ByteArray} {o:Bool} (h:aE) (m:BJ u p0=some o):
 aL Tryz.prog 140 [.sc (.string p0)] h (λr h'=>r= .sc (.bool o)∧h'=h):=by
 refine fY 28 [.tmp 2] Tryz.func140 rfl rfl rfl rfl ?_
 unfold BJ at m
 refine v (v (jT m (σ:=Int) (λs=> []) (λs=>.c 0 (.sc (.string p0)) (.c 3 (nZ s) .nil)) (lx (.k2 .nil)) ?_ ?_))
 rintro _ q0 x m
 replace m:rJ u p0 q0=some x:=m
 unfold rJ at m
 refine v (bU (nR OI rfl) (v ?_))
 apply vi m <;> intro c0 m
 refine v (v (vs (fR m (σ:=Bool) (λs=> []) (λs=>.c 0 (.sc (.string p0)) (.c 3 (nZ q0) (.c 19 (.sc (.bool s)) .nil))) (λx m=> ?_) ?_)))
 refine v ?_
 obtain⟨_,X0,m⟩:=aC m
 refine bU (GZ X0 u9 rfl rfl) ?_
 apply vi m <;> intro b0 m
 rw[b0]
 exact gW m
 rw[b0]
 obtain⟨_,X1,m⟩:=aC m
 exact bU (GZ X1 u9 rfl rfl) (gW m)
 rintro _ j0 m
 refine v ?_
 apply vi m <;> intro c1 m
 refine v (v (gO m λm=> ?_))
 obtain rfl:=eY m
 exact eK rfl
 exact v (v (qA m))
 exact v (NN m)
 rintro _ r0 m
 refine vs (fR m (σ:=Bool) (λs=> []) (λs=>.c 2 (.sc (.bool s)) .nil) (λx m=> ?_) ?_)
 refine v (bU (nR OI rfl) ?_)
 apply vi m <;> intro b1 m
 rw[b1]
 exact bU (nR OI rfl) (iD m)
 rw[b1]
 exact iD m
 rintro _ j1 m
 refine v ?_
 obtain rfl:=eY m
 exact eK rfl
theorem DM:aO Tryz.prog 140=true:=by kernel_rfl
def wW (m:Nat) (p0:bF) (q0:Int):Option (Lp (Int) (Bool)):=
 if (decide (q0 < (p0.Parts.length:Int)))=true then ((ix p0.Parts q0).bind λx0=>after ((BJ m x0.Path).bind λy0=>if (!y0)=true then (some (.brk true)) else if (decide (0 < q0))=true then ((ix p0.Parts (IntKind.wrap .i64 (q0 - 1))).bind λx1=>if (Op.bytesLess x0.Path.toList x1.Path.toList || x0.Path.toList==x1.Path.toList)=true then (some (.brk true)) else if (decide (x0.Size < 0))=true then (some (.brk true)) else if (decide (200 < x0.Size))=true then (some (.brk true)) else if (decide (25 < (x0.Ids.length:Int)))=true then (some (.brk true)) else some (.brk (((x0.Ids.length:Int)==0) !=(x0.Size==0)))) else if (decide (x0.Size < 0))=true then (some (.brk true)) else if (decide (200 < x0.Size))=true then (some (.brk true)) else if (decide (25 < (x0.Ids.length:Int)))=true then (some (.brk true)) else some (.brk (((x0.Ids.length:Int)==0) !=(x0.Size==0))):Option (Lp (Bool) (Lp (Int) (Bool)))) λj0=>if j0=true then (some (.ret false)) else some (.go (IntKind.wrap .i64 (q0+1)))) else some (.brk q0)
def T7 (m:Nat) (p0:bF):Option (Bool):=
 after ((BJ m p0.Name).bind λy0=>if (!y0)=true then (some (.brk true)) else some (.brk (decide (6 < (p0.Parts.length:Int)))):Option (Lp (Bool) (Bool))) λj0=>if j0=true then (some false) else after (aW (λs=>wW m p0 s) m 0) λr0=>some true
theorem W98 {w:Nat} {p0:bF} {o:Bool} (h:aE) (m:T7 w p0=some o):
 aL Tryz.prog 98 [.agg (bH p0)] h (λr h'=>r= .sc (.bool o)∧h'=h):=by
 refine fY 73 [.tmp 2] Tryz.func98 rfl rfl rfl rfl ?_
 unfold T7 at m
 refine v (gZ rfl rfl λk2 K3=>vs (vs (fR m (σ:=Bool) (λs=> [(some k2,.obj 58 (bH p0))]) (λs=>.c 1 (.ptr k2 0) (.c 14 (.sc (.bool s)) .nil)) (λx m=> ?_) ?_)))
 refine v (vl 0 _ xX rfl rfl rfl (vk KZ DM m rfl rfl λ_ m=> ?_))
 apply vi m <;> intro b0 m
 rw[b0]
 exact qA m
 rw[b0]
 exact vl 0 _ mQ rfl rfl rfl (dL tG rfl (qA m))
 rintro _ j0 m
 refine v ?_
 apply vi m <;> intro c0 m
 refine v (v ?_)
 obtain rfl:=eY m
 exact eK rfl
 refine v (v (jT m (σ:=Int) (λs=> [(some k2,.obj 58 (bH p0))]) (λs=>.c 1 (.ptr k2 0) (.c 3 (nZ s) .nil)) (lx (.k2 .nil)) ?_ ?_))
 rintro _ q0 x m
 replace m:wW w p0 q0=some x:=m
 unfold wW at m
 refine v (vl 0 _ mQ rfl rfl rfl (dL tG rfl (v ?_)))
 apply vi m <;> intro c1 m
 refine v (v (v (vl 0 _ mQ rfl rfl rfl (vx m qC rfl rfl λx0 _ m=>va (.agg (bX x0)) BF rfl rfl (ve λu=>bI (T1) u FN rfl rfl λk112 K0=>qk K0 rfl (ve λu=>aJ 0 (bX x0) u rfl rfl rfl rfl IP rfl rfl λK1=>qk K1 rfl (vs (fR m (σ:=Bool) (λs=> [(some k112,.obj 70 (bX x0)),(some k2,.obj 58 (bH p0))]) (λs=>.c 1 (.ptr k2 0) (.c 3 (nZ q0) (.c 72 (.sc (.bool s)) .nil))) (λx m=> ?_) ?_))))))))
 refine v (vq (by kernel_rfl) (vl 0 _ xX rfl rfl rfl (vk KZ DM m rfl rfl λ_ m=> ?_)))
 apply vi m <;> intro b1 m
 rw[b1]
 exact gW m
 rw[b1]
 apply vi m <;> intro b2 m
 rw[b2]
 refine vl 0 _ xX rfl rfl rfl (vl 1 _ mQ rfl rfl rfl (vx m qC rfl rfl λ_ _ m=>bU (AH rfl rfl rfl trivial) ?_))
 apply vi m <;> intro b3 m
 rw[b3]
 exact gW m
 rw[b3]
 refine vl 0 _ cE rfl rfl rfl ?_
 apply vi m <;> intro b4 m
 rw[b4]
 exact gW m
 rw[b4]
 refine vl 0 _ cE rfl rfl rfl ?_
 apply vi m <;> intro b5 m
 rw[b5]
 exact gW m
 rw[b5]
 refine vl 0 _ tL rfl rfl rfl (dL qD rfl ?_)
 apply vi m <;> intro b6 m
 rw[b6]
 exact gW m
 rw[b6]
 exact vl 0 _ tL rfl rfl rfl (dL qD rfl (vl 0 _ cE rfl rfl rfl (bU (RC u4 rfl rfl rfl) (gW m))))
 rw[b2]
 refine vl 0 _ cE rfl rfl rfl ?_
 apply vi m <;> intro b7 m
 rw[b7]
 exact gW m
 rw[b7]
 refine vl 0 _ cE rfl rfl rfl ?_
 apply vi m <;> intro b8 m
 rw[b8]
 exact gW m
 rw[b8]
 refine vl 0 _ tL rfl rfl rfl (dL qD rfl ?_)
 apply vi m <;> intro b9 m
 rw[b9]
 exact gW m
 rw[b9]
 exact vl 0 _ tL rfl rfl rfl (dL qD rfl (vl 0 _ cE rfl rfl rfl (bU (RC u4 rfl rfl rfl) (gW m))))
 rintro _ j1 m
 refine v ?_
 apply vi m <;> intro c2 m
 refine v (v (gO m λm=> ?_))
 obtain rfl:=eY m
 exact eK rfl
 exact v (v (A3 m (l4 [1] rfl rfl (.k2 .nil))))
 exact v (NN m)
 rintro _ r0 m
 refine v (v ?_)
 obtain rfl:=eY m
 exact eK rfl
theorem WB:aO Tryz.prog 98=true:=by kernel_rfl
def vB (m:Nat) (p0:bP) (p1:bP) (q0:Int):Option (Lp (Int) (Bool)):=
 if (decide (q0 < 32))=true then ((ix p0.1 q0).bind λx0=>(ix p1.1 q0).bind λx1=>if (x0 !=x1)=true then ((ix p0.1 q0).bind λx2=>(ix p1.1 q0).bind λx3=>some (.ret (decide (x2 < x3)))) else some (.go (IntKind.wrap .i64 (q0+1)))) else some (.brk q0)
def OU (m:Nat) (p0:bP) (p1:bP):Option (Bool):=
 after (aW (λs=>vB m p0 p1 s) m 0) λr0=>some false
theorem aB0 {w:Nat} {p0:bP} {p1:bP} {o:Bool} (h:aE) (m:OU w p0 p1=some o):
 aL Tryz.prog 167 [.agg (bM p0),.agg (bM p1)] h (λr h'=>r= .sc (.bool o)∧h'=h):=by
 refine fY 24 [.tmp 4] Tryz.func167 rfl rfl rfl rfl ?_
 unfold OU at m
 refine v (gZ rfl rfl λk2 K3=>gZ rfl rfl λk5 K6=>v (jT m (σ:=Int) (λs=> [(some k5,.obj 36 (bM p1)),(some k2,.obj 36 (bM p0))]) (λs=>.c 2 (.ptr k2 0) (.c 3 (.ptr k5 0) (.c 5 (nZ s) .nil))) (lx (.k3 .nil)) ?_ ?_))
 rintro _ q0 x m
 replace m:vB w p0 p1 q0=some x:=m
 unfold vB at m
 refine v (v ?_)
 apply vi m <;> intro c0 m
 refine v (v (v (vq (by kernel_rfl) ?_)))
 obtain⟨_,X0,m⟩:=aC m
 refine bU (lT X0 rC rfl rfl) (vn (λu=>mU 0 X0 EO rfl (a8 1 u rfl) rfl) ?_)
 obtain⟨_,X1,m⟩:=aC m
 refine bU (lT X1 rC rfl rfl) (vn (λu=>mU 0 X1 EO rfl (a8 0 u rfl) rfl) (v ?_))
 apply vi m <;> intro c1 m
 refine v (vq (by kernel_rfl) ?_)
 obtain⟨_,X2,m⟩:=aC m
 refine bU (lT X2 rC rfl rfl) (vn (λu=>mU 0 X2 EO rfl (a8 1 u rfl) rfl) ?_)
 obtain⟨_,X3,m⟩:=aC m
 refine bU (lT X3 rC rfl rfl) (vn (λu=>mU 0 X3 EO rfl (a8 0 u rfl) rfl) (v (gO m λm=> ?_)))
 cases m
 exact eK rfl
 exact v (v (gW m))
 exact v (G4 m)
 rintro _ r0 m
 refine v (v ?_)
 obtain rfl:=eY m
 exact eK rfl
theorem WC:aO Tryz.prog 167=true:=by kernel_rfl
def rK (m:Nat) (p0:List bP) (p1:bP) (q0:Int):Option (Lp (Int) ((List bP)×Int×Bool)):=
 after (if (decide (q0 < (p0.length:Int)))=true then ((ix p0 q0).bind λx0=>(OU m x0 p1).bind λy0=>some (.brk y0)) else some (.brk false):Option (Lp (Bool) (Lp (Int) ((List bP)×Int×Bool)))) λj0=>if j0=true then (some (.go (IntKind.wrap .i64 (q0+1)))) else some (.brk q0)
def DN (m:Nat) (p0:List bP) (p1:bP):Option ((List bP)×Int×Bool):=
 after (aW (λs=>rK m p0 p1 s) m 0) λr0=>after (if (decide (r0 < (p0.length:Int)))=true then ((ix p0 r0).bind λx0=>some (.brk (decide (x0=p1)))) else some (.brk false):Option (Lp (Bool) ((List bP)×Int×Bool))) λj0=>if j0=true then (some (p0,r0,false)) else (slc p0 0 r0).bind λx1=>(app ([]:List bP) x1).bind λz0=>(app z0 ([p1]:List bP)).bind λz1=>(slc p0 r0 (p0).length).bind λx2=>(app z1 x2).bind λz2=>some (z2,r0,true)
theorem WD {w:Nat} {p0:List bP} {p1:bP} {o:(List bP)×Int×Bool} (h:aE) (m:DN w p0 p1=some o):
 aL Tryz.prog 106 [.sl none 32 (List.map bM p0),.agg (bM p1)] h (λr h'=>r= .tup [.sl none 32 (List.map bM o.1),nZ o.2.1,.sc (.bool o.2.2)]∧h'=h):=by
 refine fY 51 [.tmp 4,.tmp 5,.tmp 6] Tryz.func106 rfl rfl rfl rfl ?_
 unfold DN at m
 refine v (gZ rfl rfl λk2 K3=>v (vs (jT m (σ:=Int) (λs=> [(some k2,.obj 36 (bM p1))]) (λs=>.c 0 (.sl none 32 (List.map bM p0)) (.c 3 (.ptr k2 0) (.c 7 (nZ s) .nil))) (lx (.k3 .nil)) ?_ ?_)))
 rintro _ q0 x m
 replace m:rK w p0 p1 q0=some x:=m
 unfold rK at m
 refine vs (vs (fR m (σ:=Bool) (λs=> [(some k2,.obj 36 (bM p1))]) (λs=>.c 0 (.sl none 32 (List.map bM p0)) (.c 3 (.ptr k2 0) (.c 7 (nZ q0) (.c 20 (.sc (.bool s)) .nil)))) (λx m=> ?_) ?_))
 refine v (vq (by kernel_rfl) (dL qD rfl ?_))
 apply vi m <;> intro b0 m
 rw[b0]
 exact vx m wP rfl rfl λx0 _ m=>va (.agg (bM x0)) fZ rfl rfl (vl 0 (.agg (bM p1)) fZ rfl rfl rfl (vk aB0 WC m rfl rfl λ_ m=>hD m))
 rw[b0]
 exact hD m
 rintro _ j0 m
 refine v ?_
 apply vi m <;> intro c0 m
 exact v (v (v (gW m)))
 exact v (G4 m)
 rintro _ r0 m
 refine vs (vs (fR m (σ:=Bool) (λs=> [(some k2,.obj 36 (bM p1))]) (λs=>.c 0 (.sl none 32 (List.map bM p0)) (.c 3 (.ptr k2 0) (.c 7 (nZ r0) (.c 34 (.sc (.bool s)) .nil)))) (λx m=> ?_) ?_))
 refine v (vq (by kernel_rfl) (dL qD rfl ?_))
 apply vi m <;> intro b1 m
 rw[b1]
 exact vx m wP rfl rfl λx1 _ m=>va (.agg (bM x1)) fZ rfl rfl (vl 0 (.agg (bM p1)) fZ rfl rfl rfl (bU (wD FJ RX u5 EO rfl rfl) (hD m)))
 rw[b1]
 exact hD m
 rintro _ j1 m
 refine v ?_
 apply vi m <;> intro c1 m
 refine v (v ?_)
 cases m
 exact vr λu=>dV.of3 (.inl rfl) (fP _ _ (.sl _ _ _) rfl) (fP _ _ (.sc (.int _ _)) rfl) (fP _ _ (.sc (.bool _)) rfl) (aR (List.nil_sublist _) u).1 (bE.refl _ _) (bE.refl _ _) (bE.refl _ _) ⟨rfl,rfl⟩
 refine v (v (v (vz [(1000000,some k2,.obj 36 (bM p1))] mixed (λu=>⟨λ_=>aI 0 u rfl,trivial⟩) λu=>zC 0 rfl (eT (.sc (.slice _ _ _)) rfl) (zC 1 rfl (eT (.sl _ _ _) rfl) (zI 2 rfl rfl ?_)))))
 obtain⟨_,X0,m⟩:=aC m
 refine zC 3 rfl (o0 X0 wP rfl rfl rfl rfl) (zL 5 0 (.agg (bM p1)) rfl fZ rfl rfl rfl (zC 6 rfl (eI (List.map bM ([p1]:List bP)) BE rfl rfl rfl rfl) ?_))
 obtain⟨z0,Z0,m⟩:=aC m
 refine zE 4 rfl (nS (c:=bM) Z0 BE rfl rfl u nofun rfl λtg0 t0 K0=>⟨⟨λ_=>aI 1 K0 rfl,trivial⟩, ?_⟩)
 obtain⟨z1,Z1,m⟩:=aC m
 refine zE 7 rfl (fB (c:=bM) 0 Z1 BE rfl rfl rfl t0 K0 rfl λtg1 t1 K1=>⟨⟨λ_=>aI 1 K1 rfl,trivial⟩, ?_⟩)
 refine zC 8 rfl (hU (ow _ _ _) rfl) (zX (qk (f:=.c 8 _ (.c 44 _ (.c 41 _ (.c 43 _ (.c 42 _ (OE 40 _ _ _ _ _)))))) K1 rfl (v ?_)))
 obtain⟨_,X1,m⟩:=aC m
 refine bU (o0 X1 wP rfl rfl rfl rfl) ?_
 obtain⟨z2,Z2,m⟩:=aC m
 refine ve λu=>fB (c:=bM) 0 Z2 BE rfl rfl rfl t1 u rfl λtg2 t2 K2=>qk K2 rfl (v ?_)
 cases m
 exact vr λu=>dV.of3 (.inl rfl) (fP _ _ (ow _ _ _) rfl) (fP _ _ (.sc (.int _ _)) rfl) (fP _ _ (.sc (.bool _)) rfl) (aR (List.nil_sublist _) u).1 ((eS _ 0 t2 u rfl)) (bE.refl _ _) (bE.refl _ _) ⟨rfl,rfl⟩
theorem QJ:aO Tryz.prog 106=true:=by kernel_rfl
def tT (m:Nat) (p0:bF) (q0:Int) (q1:List bP) (q2:Int):Option (Lp ((List bP)×Int) (Lp ((List bP)×Int) ((List bP)))):=
 (ix p0.Parts q0).bind λx0=>if (decide (q2 < (x0.Ids.length:Int)))=true then ((ix p0.Parts q0).bind λx1=>(ix x1.Ids q2).bind λx2=>(DN m q1 x2).bind λy0=>some (.go (y0.1,IntKind.wrap .i64 (q2+1)))) else some (.brk (q1,q2))
def tU (m:Nat) (p0:bF) (q0:List bP) (q1:Int):Option (Lp ((List bP)×Int) ((List bP))):=
 if (decide (q1 < (p0.Parts.length:Int)))=true then (after (aW (λs=>tT m p0 q1 s.1 s.2) m (q0,0)) λ⟨r0,r1⟩=>some (.go (r0,IntKind.wrap .i64 (q1+1)))) else some (.brk (q0,q1))
def WE (m:Nat) (p0:bF):Option ((List bP)):=
 after (aW (λs=>tU m p0 s.1 s.2) m ([],0)) λ⟨r0,r1⟩=>some r0
theorem W49 {u:Nat} {p0:bF} {o:(List bP)} (h:aE) (m:WE u p0=some o):
 aL Tryz.prog 49 [.agg (bH p0)] h (λr h'=>r= .sl none 32 (List.map bM o)∧h'=h):=by
 refine fY 40 [.tmp 2] Tryz.func49 rfl rfl rfl rfl ?_
 unfold WE at m
 refine v (gZ rfl rfl λk2 K3=>v (v (jT m (σ:=(List bP)×Int) (λs=> [(some k2,.obj 58 (bH p0))]) (λs=>.c 1 (.ptr k2 0) (.c 3 (.sl none 32 (List.map bM s.1)) (.c 4 (nZ s.2) .nil))) (lx (.cons (bE.refl _ _) (.cons (aV _) (.cons (bE.refl _ _) .nil)))) ?_ ?_)))
 rintro _ ⟨q0,q1⟩ x m
 replace m:tU u p0 q0 q1=some x:=m
 unfold tU at m
 refine v (vl 0 _ mQ rfl rfl rfl (dL tG rfl (v ?_)))
 apply vi m <;> intro c0 m
 refine v (v (v (jT m (σ:=(List bP)×Int) (λs=> [(some k2,.obj 58 (bH p0))]) (λs=>.c 1 (.ptr k2 0) (.c 3 (.sl none 32 (List.map bM s.1)) (.c 4 (nZ q1) (.c 5 (nZ s.2) .nil)))) (lx (.k4 .nil)) ?_ ?_)))
 rintro _ ⟨q2,q3⟩ x m
 replace m:tT u p0 q1 q2 q3=some x:=m
 unfold tT at m
 refine v (vl 0 _ mQ rfl rfl rfl (vx m qC rfl rfl λ_ _ m=>dL qD rfl (v ?_)))
 apply vi m <;> intro c1 m
 exact v (v (v (vl 0 _ mQ rfl rfl rfl (vx m qC rfl rfl λ_ _ m=>vx m wP rfl rfl λx0 _ m=>va (.agg (bM x0)) fZ rfl rfl (vk WD QJ m rfl rfl λ_ m=>v (hD m))))))
 exact v (u0 m)
 rintro _ ⟨r0,r1⟩ m
 exact v (gW m)
 exact v (G4 m)
 rintro _ ⟨r2,r3⟩ m
 refine v (v ?_)
 obtain rfl:=eY m
 exact eK rfl
theorem aB1:aO Tryz.prog 49=true:=by kernel_rfl
def o8 (m:Nat) (p0:aB) (p1:bP) (q0:Int):Option (Lp (Int) (Int)):=
 if (decide (q0 < (p0.Chunks.length:Int)))=true then ((ix p0.Chunks q0).bind λx0=>if (decide (x0.Id=p1))=true then (some (.ret q0)) else some (.go (IntKind.wrap .i64 (q0+1)))) else some (.brk q0)
def NP (m:Nat) (p0:aB) (p1:bP):Option (Int):=
 after (aW (λs=>o8 m p0 p1 s) m 0) λr0=>some (-1)
theorem W88 {u:Nat} {p0:aB} {p1:bP} {o:Int} (h:aE) (m:NP u p0 p1=some o):
 aL Tryz.prog 88 [.agg (aF p0),.agg (bM p1)] h (λr h'=>r=nZ o∧h'=h):=by
 refine fY 22 [.tmp 4] Tryz.func88 rfl rfl rfl rfl ?_
 unfold NP at m
 refine v (gZ rfl rfl λk2 K3=>gZ rfl rfl λk5 K6=>v (jT m (σ:=Int) (λs=> [(some k5,.obj 36 (bM p1)),(some k2,.obj 30 (aF p0))]) (λs=>.c 2 (.ptr k2 0) (.c 3 (.ptr k5 0) (.c 5 (nZ s) .nil))) (lx (.k3 .nil)) ?_ ?_))
 rintro _ q0 x m
 replace m:o8 u p0 p1 q0=some x:=m
 unfold o8 at m
 refine v (vl 1 _ eU rfl rfl rfl (dL jE rfl (v ?_)))
 apply vi m <;> intro c0 m
 refine v (v (v (vq (by kernel_rfl) (vl 1 _ eU rfl rfl rfl (vx m fI rfl rfl λx0 _ m=>va (.agg (bM x0.Id)) fZ rfl rfl (vl 0 (.agg (bM p1)) fZ rfl rfl rfl (bU (wD FJ RX u5 EO rfl rfl) (v ?_))))))))
 apply vi m <;> intro c1 m
 refine v (v (gO m λm=> ?_))
 obtain rfl:=eY m
 exact eK rfl
 exact v (v (gW m))
 exact v (G4 m)
 rintro _ r0 m
 refine v (v ?_)
 cases m
 exact eK rfl
theorem OV:aO Tryz.prog 88=true:=by kernel_rfl
def n3 (m:Nat) (p0:aB) (p1:ByteArray) (q0:Int):Option (Lp (Int) (Int)):=
 if (decide (q0 < (p0.Snaps.length:Int)))=true then ((ix p0.Snaps q0).bind λx0=>if (x0.Man.Name.toList==p1.toList)=true then (some (.ret q0)) else some (.go (IntKind.wrap .i64 (q0+1)))) else some (.brk q0)
def yH (m:Nat) (p0:aB) (p1:ByteArray):Option (Int):=
 after (aW (λs=>n3 m p0 p1 s) m 0) λr0=>some (-1)
theorem SL {u:Nat} {p0:aB} {p1:ByteArray} {o:Int} (h:aE) (m:yH u p0 p1=some o):
 aL Tryz.prog 149 [.agg (aF p0),.sc (.string p1)] h (λr h'=>r=nZ o∧h'=h):=by
 refine fY 23 [.tmp 4] Tryz.func149 rfl rfl rfl rfl ?_
 unfold yH at m
 refine v (gZ rfl rfl λk2 K3=>v (jT m (σ:=Int) (λs=> [(some k2,.obj 30 (aF p0))]) (λs=>.c 1 (.sc (.string p1)) (.c 2 (.ptr k2 0) (.c 5 (nZ s) .nil))) (lx (.k3 .nil)) ?_ ?_))
 rintro _ q0 x m
 replace m:n3 u p0 p1 q0=some x:=m
 unfold n3 at m
 refine v (vl 0 _ fM rfl rfl rfl (dL jU rfl (v ?_)))
 apply vi m <;> intro c0 m
 refine v (v (v (vl 0 _ fM rfl rfl rfl (vx m iN rfl rfl λ_ _ m=>bU (AH rfl rfl rfl trivial) (v ?_)))))
 apply vi m <;> intro c1 m
 refine v (v (gO m λm=> ?_))
 obtain rfl:=eY m
 exact eK rfl
 exact v (v (gW m))
 exact v (G4 m)
 rintro _ r0 m
 refine v (v ?_)
 cases m
 exact eK rfl
theorem LA:aO Tryz.prog 149=true:=by kernel_rfl
def qG (m:Nat) (p0:aB) (q0:Int):Option (Lp (Int) (Bool)):=
 if (decide (q0 < (p0.Vols.length:Int)))=true then ((ix p0.Vols q0).bind λx0=>after ((G8 m x0.Pool 0 1).bind λy0=>if (!y0)=true then (some (.brk true)) else (G8 m x0.Epoch 0 1048576).bind λy1=>some (.brk (!y1)):Option (Lp (Bool) (Lp (Int) (Bool)))) λj0=>if j0=true then (some (.ret false)) else after (if (x0.State==1)=true then (some (.brk (x0.State==1))) else some (.brk (x0.State==3)):Option (Lp (Bool) (Lp (Int) (Bool)))) λj1=>after (if j1=true then (if (x0.Files !=0)=true then (some (.ret (.ret false))) else some (.brk ())) else if (x0.State==2)=true then ((G8 m x0.Files 1 65535).bind λy2=>if (!y2)=true then (some (.ret (.ret false))) else some (.brk ())) else some (.ret (.ret false)):Option (Lp (Unit) (Lp (Int) (Bool)))) λ_=>some (.go (IntKind.wrap .i64 (q0+1)))) else some (.brk q0)
def qH (m:Nat) (p0:aB) (q0:Int):Option (Lp (Int) (Bool)):=
 if (decide (q0 < (p0.Chunks.length:Int)))=true then ((ix p0.Chunks q0).bind λx0=>after (if (decide (0 < q0))=true then ((ix p0.Chunks (IntKind.wrap .i64 (q0 - 1))).bind λx1=>(KY m x1.Id x0.Id).bind λy0=>if (!y0)=true then (some (.brk true)) else (yG m p0 x0.Locs).bind λy1=>if (!y1)=true then (some (.brk true)) else if x0.Staged=true then ((G8 m (x0.Data.length:Int) 1 64).bind λy2=>if (!y2)=true then (some (.brk true)) else if (!x0.Staged)=true then (if (decide (0 < (x0.Data.length:Int)))=true then (some (.brk true)) else some (.brk ((x0.Locs.length:Int)==0))) else some (.brk false)) else if (!x0.Staged)=true then (if (decide (0 < (x0.Data.length:Int)))=true then (some (.brk true)) else some (.brk ((x0.Locs.length:Int)==0))) else some (.brk false)) else (yG m p0 x0.Locs).bind λy3=>if (!y3)=true then (some (.brk true)) else if x0.Staged=true then ((G8 m (x0.Data.length:Int) 1 64).bind λy4=>if (!y4)=true then (some (.brk true)) else if (!x0.Staged)=true then (if (decide (0 < (x0.Data.length:Int)))=true then (some (.brk true)) else some (.brk ((x0.Locs.length:Int)==0))) else some (.brk false)) else if (!x0.Staged)=true then (if (decide (0 < (x0.Data.length:Int)))=true then (some (.brk true)) else some (.brk ((x0.Locs.length:Int)==0))) else some (.brk false):Option (Lp (Bool) (Lp (Int) (Bool)))) λj0=>if j0=true then (some (.ret false)) else some (.go (IntKind.wrap .i64 (q0+1)))) else some (.brk q0)
def tV (m:Nat) (p0:aB) (y0:(List bP)) (q0:Int):Option (Lp (Int) (Lp (Int) (Bool))):=
 if (decide (q0 < (y0.length:Int)))=true then ((ix y0 q0).bind λx0=>(NP m p0 x0).bind λy1=>if (decide (y1 < 0))=true then (some (.ret (.ret false))) else some (.go (IntKind.wrap .i64 (q0+1)))) else some (.brk q0)
def tW (m:Nat) (p0:aB) (x0:aG) (q0:Int):Option (Lp (Int) (Lp (Int) (Bool))):=
 if (decide (q0 < (p0.Exps.length:Int)))=true then ((ix p0.Exps q0).bind λx1=>if (x1.Of==x0.Seq)=true then (some (.ret (.ret false))) else some (.go (IntKind.wrap .i64 (q0+1)))) else some (.brk q0)
def qI (m:Nat) (p0:aB) (q0:Int):Option (Lp (Int) (Bool)):=
 if (decide (q0 < (p0.Snaps.length:Int)))=true then ((ix p0.Snaps q0).bind λx0=>after (if (decide (x0.Seq < 0))=true then (some (.brk true)) else if (decide (p0.Seq≤x0.Seq))=true then (some (.brk true)) else if (decide (0 < q0))=true then ((ix p0.Snaps (IntKind.wrap .i64 (q0 - 1))).bind λx1=>if (decide (x0.Seq≤x1.Seq))=true then (some (.brk true)) else (T7 m x0.Man).bind λy0=>if (!y0)=true then (some (.brk true)) else (yG m p0 x0.Locs).bind λy1=>if (!y1)=true then (some (.brk true)) else (yH m p0 x0.Man.Name).bind λy2=>some (.brk (y2 !=q0))) else (T7 m x0.Man).bind λy3=>if (!y3)=true then (some (.brk true)) else (yG m p0 x0.Locs).bind λy4=>if (!y4)=true then (some (.brk true)) else (yH m p0 x0.Man.Name).bind λy5=>some (.brk (y5 !=q0)):Option (Lp (Bool) (Lp (Int) (Bool)))) λj0=>if j0=true then (some (.ret false)) else (WE m x0.Man).bind λy6=>after (aW (λs=>tV m p0 y6 s) m 0) λr0=>after (aW (λs=>tW m p0 x0 s) m 0) λr1=>some (.go (IntKind.wrap .i64 (q0+1)))) else some (.brk q0)
def n4 (m:Nat) (p0:aB) (q0:Int):Option (Lp (Int) (Bool)):=
 if (decide (q0 < (p0.Exps.length:Int)))=true then ((ix p0.Exps q0).bind λx0=>after (if (decide (x0.Seq < 0))=true then (some (.brk true)) else if (decide (p0.Seq≤x0.Seq))=true then (some (.brk true)) else if (decide (0 < q0))=true then ((ix p0.Exps (IntKind.wrap .i64 (q0 - 1))).bind λx1=>if (decide (x0.Seq≤x1.Seq))=true then (some (.brk true)) else if (decide (x0.Of < 0))=true then (some (.brk true)) else if (decide (x0.Seq≤x0.Of))=true then (some (.brk true)) else (yG m p0 x0.Locs).bind λy0=>if (!y0)=true then (some (.brk true)) else some (.brk ((x0.Locs.length:Int)==0))) else if (decide (x0.Of < 0))=true then (some (.brk true)) else if (decide (x0.Seq≤x0.Of))=true then (some (.brk true)) else (yG m p0 x0.Locs).bind λy1=>if (!y1)=true then (some (.brk true)) else some (.brk ((x0.Locs.length:Int)==0)):Option (Lp (Bool) (Lp (Int) (Bool)))) λj0=>if j0=true then (some (.ret false)) else some (.go (IntKind.wrap .i64 (q0+1)))) else some (.brk q0)
def SM (m:Nat) (p0:aB):Option (Bool):=
 after ((G8 m p0.Seq 0 1073741824).bind λy0=>if (!y0)=true then (some (.brk true)) else if (decide (8 < (p0.Snaps.length:Int)))=true then (some (.brk true)) else if (decide (200 < (p0.Chunks.length:Int)))=true then (some (.brk true)) else if (decide (200 < (p0.Exps.length:Int)))=true then (some (.brk true)) else (G8 m (p0.Vols.length:Int) 1 8).bind λy1=>some (.brk (!y1)):Option (Lp (Bool) (Bool))) λj0=>if j0=true then (some false) else after (aW (λs=>qG m p0 s) m 0) λr0=>after (aW (λs=>qH m p0 s) m 0) λr1=>after (aW (λs=>qI m p0 s) m 0) λr2=>after (aW (λs=>n4 m p0 s) m 0) λr3=>some true
theorem W89 {w:Nat} {p0:aB} {o:Bool} (h:aE) (m:SM w p0=some o):
 aL Tryz.prog 89 [.agg (aF p0)] h (λr h'=>r= .sc (.bool o)∧h'=h):=by
 refine fY 296 [.tmp 2] Tryz.func89 rfl rfl rfl rfl ?_
 unfold SM at m
 refine v (gZ rfl rfl λk2 K3=>vs (vs (fR m (σ:=Bool) (λs=> [(some k2,.obj 30 (aF p0))]) (λs=>.c 1 (.ptr k2 0) (.c 42 (.sc (.bool s)) .nil)) (λx m=> ?_) ?_)))
 refine v (vl 0 _ cE rfl rfl rfl (vk NO yF m rfl rfl λ_ m=> ?_))
 apply vi m <;> intro b0 m
 rw[b0]
 exact qA m
 rw[b0]
 refine vl 0 _ fM rfl rfl rfl (dL jU rfl ?_)
 apply vi m <;> intro b1 m
 rw[b1]
 exact qA m
 rw[b1]
 refine vl 0 _ eU rfl rfl rfl (dL jE rfl ?_)
 apply vi m <;> intro b2 m
 rw[b2]
 exact qA m
 rw[b2]
 refine vl 0 _ i8 rfl rfl rfl (dL o5 rfl ?_)
 apply vi m <;> intro b3 m
 rw[b3]
 exact qA m
 rw[b3]
 exact vl 0 _ gH rfl rfl rfl (dL o6 rfl (vk NO yF m rfl rfl λ_ m=>qA m))
 rintro _ j0 m
 refine v ?_
 apply vi m <;> intro c0 m
 refine v (v ?_)
 obtain rfl:=eY m
 exact eK rfl
 refine v (v (jT m (σ:=Int) (λs=> [(some k2,.obj 30 (aF p0))]) (λs=>.c 1 (.ptr k2 0) (.c 3 (nZ s) .nil)) (lx (.k2 .nil)) ?_ ?_))
 rintro _ q0 x m
 replace m:qG w p0 q0=some x:=m
 unfold qG at m
 refine v (vl 0 _ gH rfl rfl rfl (dL o6 rfl (v ?_)))
 apply vi m <;> intro c1 m
 refine v (v (v (vl 0 _ gH rfl rfl rfl (vx m kZ rfl rfl λx0 _ m=>va (.agg (cZ x0)) VH rfl rfl (ve λu=>bI (NT) u ON rfl rfl λk156 K0=>qk K0 rfl (ve λu=>aJ 0 (cZ x0) u rfl rfl rfl rfl VI rfl rfl λK1=>qk K1 rfl (vs (vs (fR m (σ:=Bool) (λs=> [(some k156,.obj 49 (cZ x0)),(some k2,.obj 30 (aF p0))]) (λs=>.c 1 (.ptr k2 0) (.c 3 (nZ q0) (.c 4 (.ptr k156 0) (.c 64 (.sc (.bool s)) .nil)))) (λx m=> ?_) ?_)))))))))
 refine v (vl 0 _ cE rfl rfl rfl (vk NO yF m rfl rfl λ_ m=> ?_))
 apply vi m <;> intro b4 m
 rw[b4]
 exact hD m
 rw[b4]
 exact vl 0 _ cE rfl rfl rfl (vk NO yF m rfl rfl λ_ m=>hD m)
 rintro _ j1 m
 refine v ?_
 apply vi m <;> intro c2 m
 refine v (v (gO m λm=> ?_))
 obtain rfl:=eY m
 exact eK rfl
 refine v (v (vl 0 _ cE rfl rfl rfl (v (v (fR m (σ:=Bool) (λs=> [(some k156,.obj 49 (cZ x0)),(some k2,.obj 30 (aF p0))]) (λs=>.c 1 (.ptr k2 0) (.c 3 (nZ q0) (.c 4 (.ptr k156 0) (.c 66 (nZ x0.State) (.c 67 (.sc (.bool s)) .nil))))) (λx m=> ?_) ?_)))))
 refine v ?_
 apply vi m <;> intro c3 m
 exact v (mO m)
 exact v (mO m)
 rintro _ j2 m
 refine fR m (σ:=Unit) (λs=> [(some k156,.obj 49 (cZ x0)),(some k2,.obj 30 (aF p0))]) (λs=>.c 1 (.ptr k2 0) (.c 3 (nZ q0) .nil)) (λx m=> ?_) ?_
 refine v ?_
 apply vi m <;> intro c4 m
 refine v (vl 0 _ cE rfl rfl rfl (v ?_))
 apply vi m <;> intro c5 m
 refine v (v (gO m λm=>gO m λm=> ?_))
 obtain rfl:=eY m
 exact eK rfl
 exact v (qA m)
 refine v (v ?_)
 apply vi m <;> intro c6 m
 refine v (vl 0 _ cE rfl rfl rfl (vk NO yF m rfl rfl λ_ m=>v ?_))
 apply vi m <;> intro c7 m
 refine v (v (gO m λm=>gO m λm=> ?_))
 obtain rfl:=eY m
 exact eK rfl
 exact v (qA m)
 refine v (v (gO m λm=>gO m λm=> ?_))
 obtain rfl:=eY m
 exact eK rfl
 rintro _ _ m
 exact v (A3 m (l4 [1] rfl rfl (.k2 .nil)))
 exact v (NN m)
 rintro _ r0 m
 refine v (jT m (σ:=Int) (λs=> [(some k2,.obj 30 (aF p0))]) (λs=>.c 1 (.ptr k2 0) (.c 5 (nZ s) .nil)) (lx (.k2 .nil)) ?_ ?_)
 rintro _ q1 x m
 replace m:qH w p0 q1=some x:=m
 unfold qH at m
 refine v (vl 0 _ eU rfl rfl rfl (dL jE rfl (v ?_)))
 apply vi m <;> intro c8 m
 refine v (v (v (vl 0 _ eU rfl rfl rfl (vx m fI rfl rfl λx1 _ m=>va (.agg (aH x1)) mH rfl rfl (ve λu=>bI (bM jR++(JK:List AV)) u m7 rfl rfl λk364 K2=>qk K2 rfl (ve λu=>aJ 0 (aH x1) u rfl rfl rfl rfl wN rfl rfl λK4=>qk K4 rfl (vs (fR m (σ:=Bool) (λs=> [(some k364,.obj 44 (aH x1)),(some k2,.obj 30 (aF p0))]) (λs=>.c 1 (.ptr k2 0) (.c 5 (nZ q1) (.c 140 (.sc (.bool s)) .nil))) (λx m=> ?_) ?_))))))))
 refine v (vq (by kernel_rfl) ?_)
 apply vi m <;> intro b5 m
 rw[b5]
 refine vl 1 _ eU rfl rfl rfl (vx m fI rfl rfl λx2 _ m=>va (.agg (bM x2.Id)) fZ rfl rfl (vl 0 (.agg (bM x1.Id)) fZ rfl rfl rfl (vk WA QI m rfl rfl λ_ m=> ?_)))
 apply vi m <;> intro b6 m
 rw[b6]
 exact gW m
 rw[b6]
 refine vl 1 (.agg (aF p0)) eV rfl rfl rfl (vl 0 _ fJ rfl rfl rfl (vk IT zQ m rfl rfl λ_ m=> ?_))
 apply vi m <;> intro b7 m
 rw[b7]
 exact gW m
 rw[b7]
 refine vl 0 _ DH rfl rfl rfl ?_
 apply vi m <;> intro b8 m
 rw[b8]
 refine vl 0 _ lV rfl rfl rfl (dL lK rfl (vk NO yF m rfl rfl λ_ m=> ?_))
 apply vi m <;> intro b9 m
 rw[b9]
 exact gW m
 rw[b9]
 refine vl 0 _ DH rfl rfl rfl ?_
 apply vi m <;> intro b10 m
 rw[b10]
 refine vl 0 _ lV rfl rfl rfl (dL lK rfl ?_)
 apply vi m <;> intro b11 m
 rw[b11]
 exact gW m
 rw[b11]
 exact vl 0 _ fJ rfl rfl rfl (dL jJ rfl (gW m))
 rw[b10]
 exact gW m
 rw[b8]
 refine vl 0 _ DH rfl rfl rfl ?_
 apply vi m <;> intro b12 m
 rw[b12]
 refine vl 0 _ lV rfl rfl rfl (dL lK rfl ?_)
 apply vi m <;> intro b13 m
 rw[b13]
 exact gW m
 rw[b13]
 exact vl 0 _ fJ rfl rfl rfl (dL jJ rfl (gW m))
 rw[b12]
 exact gW m
 rw[b5]
 refine vl 1 (.agg (aF p0)) eV rfl rfl rfl (vl 0 _ fJ rfl rfl rfl (vk IT zQ m rfl rfl λ_ m=> ?_))
 apply vi m <;> intro b14 m
 rw[b14]
 exact gW m
 rw[b14]
 refine vl 0 _ DH rfl rfl rfl ?_
 apply vi m <;> intro b15 m
 rw[b15]
 refine vl 0 _ lV rfl rfl rfl (dL lK rfl (vk NO yF m rfl rfl λ_ m=> ?_))
 apply vi m <;> intro b16 m
 rw[b16]
 exact gW m
 rw[b16]
 refine vl 0 _ DH rfl rfl rfl ?_
 apply vi m <;> intro b17 m
 rw[b17]
 refine vl 0 _ lV rfl rfl rfl (dL lK rfl ?_)
 apply vi m <;> intro b22 m
 rw[b22]
 exact gW m
 rw[b22]
 exact vl 0 _ fJ rfl rfl rfl (dL jJ rfl (gW m))
 rw[b17]
 exact gW m
 rw[b15]
 refine vl 0 _ DH rfl rfl rfl ?_
 apply vi m <;> intro b23 m
 rw[b23]
 refine vl 0 _ lV rfl rfl rfl (dL lK rfl ?_)
 apply vi m <;> intro b24 m
 rw[b24]
 exact gW m
 rw[b24]
 exact vl 0 _ fJ rfl rfl rfl (dL jJ rfl (gW m))
 rw[b23]
 exact gW m
 rintro _ j3 m
 refine v ?_
 apply vi m <;> intro c9 m
 refine v (v (gO m λm=> ?_))
 obtain rfl:=eY m
 exact eK rfl
 exact v (v (A3 m (l4 [1] rfl rfl (.k2 .nil))))
 exact v (NN m)
 rintro _ r1 m
 refine v (jT m (σ:=Int) (λs=> [(some k2,.obj 30 (aF p0))]) (λs=>.c 1 (.ptr k2 0) (.c 7 (nZ s) .nil)) (lx (.k2 .nil)) ?_ ?_)
 rintro _ q2 x m
 replace m:qI w p0 q2=some x:=m
 unfold qI at m
 refine v (vl 0 _ fM rfl rfl rfl (dL jU rfl (v ?_)))
 apply vi m <;> intro c10 m
 refine v (v (v (vl 0 _ fM rfl rfl rfl (vx m iN rfl rfl λx3 _ m=>va (.agg (bR x3)) tH rfl rfl (ve λu=>bI (UJ) u tJ rfl rfl λk707 K5=>qk K5 rfl (ve λu=>aJ 0 (bR x3) u rfl rfl rfl rfl IM rfl rfl λK6=>qk K6 rfl (vs (vs (fR m (σ:=Bool) (λs=> [(some k707,.obj 60 (bR x3)),(some k2,.obj 30 (aF p0))]) (λs=>.c 1 (.ptr k2 0) (.c 7 (nZ q2) (.c 8 (.ptr k707 0) (.c 200 (.sc (.bool s)) .nil)))) (λx m=> ?_) ?_)))))))))
 refine v (vq (by kernel_rfl) (vl 0 _ cE rfl rfl rfl ?_))
 apply vi m <;> intro b25 m
 rw[b25]
 exact hD m
 rw[b25]
 refine vl 0 _ cE rfl rfl rfl (vl 1 _ cE rfl rfl rfl ?_)
 apply vi m <;> intro b26 m
 rw[b26]
 exact hD m
 rw[b26]
 apply vi m <;> intro b27 m
 rw[b27]
 refine vl 0 _ cE rfl rfl rfl (vl 1 _ fM rfl rfl rfl (vx m iN rfl rfl λ_ _ m=> ?_))
 apply vi m <;> intro b28 m
 rw[b28]
 exact hD m
 rw[b28]
 refine vl 0 (.agg (bH x3.Man)) m8 rfl rfl rfl (vk W98 WB m rfl rfl λ_ m=> ?_)
 apply vi m <;> intro b29 m
 rw[b29]
 exact hD m
 rw[b29]
 refine vl 1 (.agg (aF p0)) eV rfl rfl rfl (vl 0 _ fJ rfl rfl rfl (vk IT zQ m rfl rfl λ_ m=> ?_))
 apply vi m <;> intro b30 m
 rw[b30]
 exact hD m
 rw[b30]
 exact vl 1 (.agg (aF p0)) eV rfl rfl rfl (vl 0 _ xX rfl rfl rfl (vk SL LA m rfl rfl λ_ m=>hD m))
 rw[b27]
 refine vl 0 (.agg (bH x3.Man)) m8 rfl rfl rfl (vk W98 WB m rfl rfl λ_ m=> ?_)
 apply vi m <;> intro b31 m
 rw[b31]
 exact hD m
 rw[b31]
 refine vl 1 (.agg (aF p0)) eV rfl rfl rfl (vl 0 _ fJ rfl rfl rfl (vk IT zQ m rfl rfl λ_ m=> ?_))
 apply vi m <;> intro b32 m
 rw[b32]
 exact hD m
 rw[b32]
 exact vl 1 (.agg (aF p0)) eV rfl rfl rfl (vl 0 _ xX rfl rfl rfl (vk SL LA m rfl rfl λ_ m=>hD m))
 rintro _ j4 m
 refine v ?_
 apply vi m <;> intro c11 m
 refine v (v (gO m λm=> ?_))
 obtain rfl:=eY m
 exact eK rfl
 refine v (v (vl 0 (.agg (bH x3.Man)) m8 rfl rfl rfl (vk W49 aB1 m rfl rfl λy0 m=>v (jT m (σ:=Int) (λs=> [(some k707,.obj 60 (bR x3)),(some k2,.obj 30 (aF p0))]) (λs=>.c 1 (.ptr k2 0) (.c 7 (nZ q2) (.c 8 (.ptr k707 0) (.c 9 (.sl none 32 (List.map bM y0)) (.c 10 (nZ s) .nil))))) (lx (.k5 .nil)) ?_ ?_))))
 rintro _ q3 x m
 replace m:tV w p0 y0 q3=some x:=m
 unfold tV at m
 refine v (dL qD rfl (v ?_))
 apply vi m <;> intro c12 m
 refine v (v (v (vq (by kernel_rfl) (vl 1 (.agg (aF p0)) eV rfl rfl rfl (vx m wP rfl rfl λx4 _ m=>va (.agg (bM x4)) fZ rfl rfl (vk W88 OV m rfl rfl λ_ m=>v ?_))))))
 apply vi m <;> intro c13 m
 refine v (v (gO m λm=>gO m λm=> ?_))
 obtain rfl:=eY m
 exact eK rfl
 exact v (v (mO m))
 exact v (VB m)
 rintro _ r2 m
 refine v (jT m (σ:=Int) (λs=> [(some k707,.obj 60 (bR x3)),(some k2,.obj 30 (aF p0))]) (λs=>.c 1 (.ptr k2 0) (.c 7 (nZ q2) (.c 8 (.ptr k707 0) (.c 11 (nZ s) .nil)))) (lx (.k4 .nil)) ?_ ?_)
 rintro _ q4 x m
 replace m:tW w p0 x3 q4=some x:=m
 unfold tW at m
 refine v (vl 1 _ i8 rfl rfl rfl (dL o5 rfl (v ?_)))
 apply vi m <;> intro c14 m
 refine v (v (v (vq (by kernel_rfl) (vl 1 _ i8 rfl rfl rfl (vx m iE rfl rfl λ_ _ m=>vl 0 _ cE rfl rfl rfl (v ?_))))))
 apply vi m <;> intro c15 m
 refine v (v (gO m λm=>gO m λm=> ?_))
 obtain rfl:=eY m
 exact eK rfl
 exact v (v (hD m))
 exact v (u0 m)
 rintro _ r3 m
 exact v (A3 m (l4 [1] rfl rfl (.k2 .nil)))
 exact v (NN m)
 rintro _ r4 m
 refine v (jT m (σ:=Int) (λs=> [(some k2,.obj 30 (aF p0))]) (λs=>.c 1 (.ptr k2 0) (.c 12 (nZ s) .nil)) (lx (.k2 .nil)) ?_ ?_)
 rintro _ q5 x m
 replace m:n4 w p0 q5=some x:=m
 unfold n4 at m
 refine v (vl 0 _ i8 rfl rfl rfl (dL o5 rfl (v ?_)))
 apply vi m <;> intro c16 m
 refine v (v (v (vl 0 _ i8 rfl rfl rfl (vx m iE rfl rfl λx5 _ m=>va (.agg (cL x5)) tM rfl rfl (ve λu=>bI ([nZ 0,nZ 0,sZ]) u qE rfl rfl λk941 K7=>qk K7 rfl (ve λu=>aJ 0 (cL x5) u rfl rfl rfl rfl FO rfl rfl λK8=>qk K8 rfl (vs (fR m (σ:=Bool) (λs=> [(some k941,.obj 99 (cL x5)),(some k2,.obj 30 (aF p0))]) (λs=>.c 1 (.ptr k2 0) (.c 12 (nZ q5) (.c 295 (.sc (.bool s)) .nil))) (λx m=> ?_) ?_))))))))
 refine v (vq (by kernel_rfl) (vl 0 _ cE rfl rfl rfl ?_))
 apply vi m <;> intro b33 m
 rw[b33]
 exact gW m
 rw[b33]
 refine vl 0 _ cE rfl rfl rfl (vl 1 _ cE rfl rfl rfl ?_)
 apply vi m <;> intro b34 m
 rw[b34]
 exact gW m
 rw[b34]
 apply vi m <;> intro b35 m
 rw[b35]
 refine vl 0 _ cE rfl rfl rfl (vl 1 _ i8 rfl rfl rfl (vx m iE rfl rfl λ_ _ m=> ?_))
 apply vi m <;> intro b36 m
 rw[b36]
 exact gW m
 rw[b36]
 refine vl 0 _ cE rfl rfl rfl ?_
 apply vi m <;> intro b37 m
 rw[b37]
 exact gW m
 rw[b37]
 refine vl 0 _ cE rfl rfl rfl (vl 0 _ cE rfl rfl rfl ?_)
 apply vi m <;> intro b38 m
 rw[b38]
 exact gW m
 rw[b38]
 refine vl 1 (.agg (aF p0)) eV rfl rfl rfl (vl 0 _ fJ rfl rfl rfl (vk IT zQ m rfl rfl λ_ m=> ?_))
 apply vi m <;> intro b39 m
 rw[b39]
 exact gW m
 rw[b39]
 exact vl 0 _ fJ rfl rfl rfl (dL jJ rfl (gW m))
 rw[b35]
 refine vl 0 _ cE rfl rfl rfl ?_
 apply vi m <;> intro b40 m
 rw[b40]
 exact gW m
 rw[b40]
 refine vl 0 _ cE rfl rfl rfl (vl 0 _ cE rfl rfl rfl ?_)
 apply vi m <;> intro b41 m
 rw[b41]
 exact gW m
 rw[b41]
 refine vl 1 (.agg (aF p0)) eV rfl rfl rfl (vl 0 _ fJ rfl rfl rfl (vk IT zQ m rfl rfl λ_ m=> ?_))
 apply vi m <;> intro b42 m
 rw[b42]
 exact gW m
 rw[b42]
 exact vl 0 _ fJ rfl rfl rfl (dL jJ rfl (gW m))
 rintro _ j5 m
 refine v ?_
 apply vi m <;> intro c17 m
 refine v (v (gO m λm=> ?_))
 obtain rfl:=eY m
 exact eK rfl
 exact v (v (A3 m (l4 [1] rfl rfl (.k2 .nil))))
 exact v (NN m)
 rintro _ r5 m
 refine v (v ?_)
 obtain rfl:=eY m
 exact eK rfl
theorem WF:aO Tryz.prog 89=true:=by kernel_rfl
open Go.Vm
def rL (m:Nat) (p0:List dH) (p1:dH→Option Bool) (q0:Int):Option (Lp (Int) (Int)):=
 if (decide (q0 < (p0.length:Int)))=true then ((ix p0 q0).bind λx0=>(p1 x0).bind λy0=>if y0=true then (some (.ret q0)) else some (.go (IntKind.wrap .i64 (q0+1)))) else some (.brk q0)
def OW (m:Nat) (p0:List dH) (p1:dH→Option Bool):Option (Int):=
 after (aW (λs=>rL m p0 p1 s) m 0) λr0=>some (-1)
theorem aB2 {w:Nat} {p0:List dH} {p1:dH→Option Bool} {o:Int} (h:aE) {p1F:Nat} {p1C:List AV} (p1B:aO Tryz.prog p1F=true) (p1H:∀x0 o h0,hH h h0→p1 x0=some o→aL Tryz.prog p1F ([.agg (bX x0)]++p1C) h0 (λr h'=>r= .sc (.bool o)∧h'=h0)) (m:OW w p0 p1=some o):
 aL Tryz.prog 109 [.sl none 3 (List.map bX p0),.fn (.func p1F) p1C] h (λr h'=>r=nZ o∧h'=h):=by
 refine fY 19 [.tmp 4] Tryz.func109 rfl rfl rfl rfl ?_
 unfold OW at m
 refine v (v (dL tG rfl (jT m (σ:=Int) (λs=> []) (λs=>.c 0 (.sl none 3 (List.map bX p0)) (.c 1 (.fn (.func p1F) p1C) (.c 7 (nZ (p0.length:Int)) (.c 8 (nZ s) .nil)))) (lx (.k4 .nil)) ?_ ?_)))
 rintro _ q0 x m
 replace m:rL w p0 p1 q0=some x:=m
 unfold rL at m
 refine v (v ?_)
 apply vi m <;> intro c0 m
 refine v (v (v (v (vx m qC rfl rfl λx1 _ m=>va (.agg (bX x1)) BF rfl rfl ?_))))
 obtain⟨_,Y0,m⟩:=aC m
 refine vn (λu=>bY (p1H _ _ _ (aR (List.nil_sublist _) u).1 Y0) rfl p1B rfl) (v ?_)
 apply vi m <;> intro c1 m
 refine v (v (gO m λm=> ?_))
 obtain rfl:=eY m
 exact eK rfl
 exact v (v (hD m))
 exact v (u0 m)
 rintro _ r0 m
 refine v (v ?_)
 cases m
 exact eK rfl
theorem WG:aO Tryz.prog 109=true:=by kernel_rfl
def WH (m:Nat) (p0:List dH) (p1:dH→Option Bool):Option (Bool):=
 (OW m p0 p1).bind λy3=>some (decide (0≤y3))
theorem W60 {w:Nat} {p0:List dH} {p1:dH→Option Bool} {o:Bool} (h:aE) {p1F:Nat} {p1C:List AV} (p1B:aO Tryz.prog p1F=true) (p1H:∀x0 o h0,hH h h0→p1 x0=some o→aL Tryz.prog p1F ([.agg (bX x0)]++p1C) h0 (λr h'=>r= .sc (.bool o)∧h'=h0)) (m:WH w p0 p1=some o):
 aL Tryz.prog 60 [.sl none 3 (List.map bX p0),.fn (.func p1F) p1C] h (λr h'=>r= .sc (.bool o)∧h'=h):=by
 refine fY 9 [.tmp 4] Tryz.func60 rfl rfl rfl rfl ?_
 unfold WH at m
 refine v (v ?_)
 obtain⟨_,Y4,m⟩:=aC m
 refine vn (λu=>bY (aB2 _ p1B (λx0 o h0 hs ho=>p1H x0 o h0 ((aR (List.nil_sublist _) u).1.trans hs) ho) Y4) rfl WG rfl) (v ?_)
 cases m
 exact eK rfl
theorem aB3:aO Tryz.prog 60=true:=by kernel_rfl
def rM (m:Nat) (p0:List bP) (p1:bP) (q0:Int):Option (Lp (Int) (Int)):=
 if (decide (q0 < (p0.length:Int)))=true then ((ix p0 q0).bind λx0=>if (decide (p1=x0))=true then (some (.ret q0)) else some (.go (IntKind.wrap .i64 (q0+1)))) else some (.brk q0)
def OX (m:Nat) (p0:List bP) (p1:bP):Option (Int):=
 after (aW (λs=>rM m p0 p1 s) m 0) λr0=>some (-1)
theorem aB4 {u:Nat} {p0:List bP} {p1:bP} {o:Int} (h:aE) (m:OX u p0 p1=some o):
 aL Tryz.prog 110 [.sl none 32 (List.map bM p0),.agg (bM p1)] h (λr h'=>r=nZ o∧h'=h):=by
 refine fY 19 [.tmp 4] Tryz.func110 rfl rfl rfl rfl ?_
 unfold OX at m
 refine v (gZ rfl rfl λk2 K3=>v (dL qD rfl (jT m (σ:=Int) (λs=> [(some k2,.obj 36 (bM p1))]) (λs=>.c 0 (.sl none 32 (List.map bM p0)) (.c 3 (.ptr k2 0) (.c 7 (nZ (p0.length:Int)) (.c 8 (nZ s) .nil)))) (lx (.k4 .nil)) ?_ ?_)))
 rintro _ q0 x m
 replace m:rM u p0 p1 q0=some x:=m
 unfold rM at m
 refine v (v ?_)
 apply vi m <;> intro c0 m
 refine v (v (v (v (vq (by kernel_rfl) (vl 0 (.agg (bM p1)) fZ rfl rfl rfl (vx m wP rfl rfl λx0 _ m=>va (.agg (bM x0)) fZ rfl rfl (bU (wD FJ RX u5 EO rfl rfl) (v ?_))))))))
 apply vi m <;> intro c1 m
 refine v (v (gO m λm=> ?_))
 obtain rfl:=eY m
 exact eK rfl
 exact v (v (hD m))
 exact v (u0 m)
 rintro _ r0 m
 refine v (v ?_)
 cases m
 exact eK rfl
theorem WI:aO Tryz.prog 110=true:=by kernel_rfl
def WJ (m:Nat) (p0:List bP) (p1:bP):Option (Bool):=
 (OX m p0 p1).bind λy6=>some (decide (0≤y6))
theorem W62 {u:Nat} {p0:List bP} {p1:bP} {o:Bool} (h:aE) (m:WJ u p0 p1=some o):
 aL Tryz.prog 62 [.sl none 32 (List.map bM p0),.agg (bM p1)] h (λr h'=>r= .sc (.bool o)∧h'=h):=by
 refine fY 9 [.tmp 4] Tryz.func62 rfl rfl rfl rfl ?_
 unfold WJ at m
 refine v (gZ rfl rfl λk2 K3=>v (vl 0 (.agg (bM p1)) fZ rfl rfl rfl (vk aB4 WI m rfl rfl λ_ m=>v ?_)))
 cases m
 exact eK rfl
theorem aB5:aO Tryz.prog 62=true:=by kernel_rfl
def M61 (m:Nat) (p0:dH) (c0:bP):Option (Bool):=
 (WJ m p0.Ids c0).bind λy6=>some y6
theorem W61 {w:Nat} {p0:dH} {c0:bP} {o:Bool} (h:aE) {c0K:cB} (c0H:h c0K=some (.obj 36 (bM c0))) (m:M61 w p0 c0=some o):
 aL Tryz.prog 61 [.agg (bX p0),.ptr c0K 0] h (λr h'=>r= .sc (.bool o)∧h'=h):=by
 refine fY 8 [.tmp 3] Tryz.func61 rfl rfl rfl rfl ?_
 unfold M61 at m
 refine v (gZ rfl rfl λk2 K3=>v (vl 0 _ tL rfl rfl rfl (vn (λu=>oH (.agg (bM c0)) fZ rfl (jZ u c0H) rfl) (vk W62 aB5 m rfl rfl λ_ m=>v ?_))))
 obtain rfl:=eY m
 exact eK rfl
theorem aB6:aO Tryz.prog 61=true:=by kernel_rfl
def M59 (m:Nat) (p0:aG) (c0:bP):Option (Bool):=
 (WH m p0.Man.Parts (λx0=>M61 m x0 c0)).bind λy6=>some y6
theorem W59 {w:Nat} {p0:aG} {c0:bP} {o:Bool} (h:aE) {c0K:cB} (c0H:h c0K=some (.obj 36 (bM c0))) (m:M59 w p0 c0=some o):
 aL Tryz.prog 59 [.agg (bR p0),.ptr c0K 0] h (λr h'=>r= .sc (.bool o)∧h'=h):=by
 refine fY 9 [.tmp 3] Tryz.func59 rfl rfl rfl rfl ?_
 unfold M59 at m
 refine v (gZ rfl rfl λk2 K3=>v (vl 0 _ mQ rfl rfl rfl ?_))
 obtain⟨_,Y7,m⟩:=aC m
 refine vn (λu=>bY (W60 _ aB6 (λ_ o h0 hs ho=>W61 _ (hs _ _ (jZ u c0H)) ho) Y7) rfl aB3 rfl) (v ?_)
 obtain rfl:=eY m
 exact eK rfl
theorem aB7:aO Tryz.prog 59=true:=by kernel_rfl
def WK (m:Nat) (p0:aB) (p1:bP):Option (Bool):=
 (SJ m p0.Snaps (λx0=>M59 m x0 p1)).bind λy9=>some y9
theorem W22 {w:Nat} {p0:aB} {p1:bP} {o:Bool} (h:aE) (m:WK w p0 p1=some o):
 aL Tryz.prog 22 [.agg (aF p0),.agg (bM p1)] h (λr h'=>r= .sc (.bool o)∧h'=h):=by
 refine fY 9 [.tmp 4] Tryz.func22 rfl rfl rfl rfl ?_
 unfold WK at m
 refine v (gZ rfl rfl λk2 K3=>gZ rfl rfl λk5 K6=>v (vl 1 _ fM rfl rfl rfl ?_))
 obtain⟨_,Y0,m⟩:=aC m
 refine vn (λu=>bY (W58 _ aB7 (λ_ o h0 hs ho=>W59 _ (hs _ _ (a8 0 u rfl)) ho) Y0) rfl V0 rfl) (v ?_)
 obtain rfl:=eY m
 exact eK rfl
theorem aB8:aO Tryz.prog 22=true:=by kernel_rfl
theorem WL:aO Tryz.prog 108=true:=by kernel_rfl
def OY (m:Nat) (p0:aG) (c0:ByteArray):Option (Bool):=
 some (p0.Man.Name.toList==c0.toList)
theorem aB9 {w:Nat} {p0:aG} {c0:ByteArray} {o:Bool} (h:aE) {c0K:cB} (c0H:h c0K=some (.obj 9 (KD c0))) (m:OY w p0 c0=some o):
 aL Tryz.prog 104 [.agg (bR p0),.ptr c0K 0] h (λr h'=>r= .sc (.bool o)∧h'=h):=by
 refine fY 9 [.tmp 3] Tryz.func104 rfl rfl rfl rfl ?_
 unfold OY at m
 refine v (gZ rfl rfl λk2 K3=>v (vl 0 _ xX rfl rfl rfl (vn (λu=>oH (.sc (.string c0)) xX rfl (jZ u c0H) rfl) (bU (AH rfl rfl rfl trivial) (v ?_)))))
 cases m
 exact eK rfl
theorem WM:aO Tryz.prog 104=true:=by kernel_rfl
def WN (m:Nat) (p0:aB) (p1:ByteArray):Option (Int):=
 (FQ m p0.Snaps (λx0=>OY m x0 p1)).bind λy9=>some y9
theorem W46 {w:Nat} {p0:aB} {p1:ByteArray} {o:Int} (h:aE) (m:WN w p0 p1=some o):
 aL Tryz.prog 46 [.agg (aF p0),.sc (.string p1)] h (λr h'=>r=nZ o∧h'=h):=by
 refine fY 9 [.tmp 4] Tryz.func46 rfl rfl rfl rfl ?_
 unfold WN at m
 refine v (gZ rfl rfl λk2 K3=>gZ rfl rfl λk5 K6=>v (vl 1 _ fM rfl rfl rfl ?_))
 obtain⟨_,Y0,m⟩:=aC m
 refine vn (λu=>bY (VZ _ WM (λ_ o h0 hs ho=>aB9 _ (hs _ _ (a8 0 u rfl)) ho) Y0) rfl DK rfl) (v ?_)
 obtain rfl:=eY m
 exact eK rfl
theorem aCA:aO Tryz.prog 46=true:=by kernel_rfl
def wX (m:Nat) (p0:List aA) (p1:aA→Option Bool) (q0:Int):Option (Lp (Int) (Int)):=
 if (decide (q0 < (p0.length:Int)))=true then ((ix p0 q0).bind λx0=>(p1 x0).bind λy0=>if y0=true then (some (.ret q0)) else some (.go (IntKind.wrap .i64 (q0+1)))) else some (.brk q0)
def WO (m:Nat) (p0:List aA) (p1:aA→Option Bool):Option (Int):=
 after (aW (λs=>wX m p0 p1 s) m 0) λr0=>some (-1)
theorem W53 {w:Nat} {p0:List aA} {p1:aA→Option Bool} {o:Int} (h:aE) {p1F:Nat} {p1C:List AV} (p1B:aO Tryz.prog p1F=true) (p1H:∀x0 o h0,hH h h0→p1 x0=some o→aL Tryz.prog p1F ([.agg (aH x0)]++p1C) h0 (λr h'=>r= .sc (.bool o)∧h'=h0)) (m:WO w p0 p1=some o):
 aL Tryz.prog 53 [.sl none 35 (List.map aH p0),.fn (.func p1F) p1C] h (λr h'=>r=nZ o∧h'=h):=by
 refine fY 19 [.tmp 4] Tryz.func53 rfl rfl rfl rfl ?_
 unfold WO at m
 refine v (v (dL jE rfl (jT m (σ:=Int) (λs=> []) (λs=>.c 0 (.sl none 35 (List.map aH p0)) (.c 1 (.fn (.func p1F) p1C) (.c 7 (nZ (p0.length:Int)) (.c 8 (nZ s) .nil)))) (lx (.k4 .nil)) ?_ ?_)))
 rintro _ q0 x m
 replace m:wX w p0 p1 q0=some x:=m
 unfold wX at m
 refine v (v ?_)
 apply vi m <;> intro c0 m
 refine v (v (v (v (vx m fI rfl rfl λx1 _ m=>va (.agg (aH x1)) mH rfl rfl ?_))))
 obtain⟨_,Y0,m⟩:=aC m
 refine vn (λu=>bY (p1H _ _ _ (aR (List.nil_sublist _) u).1 Y0) rfl p1B rfl) (v ?_)
 apply vi m <;> intro c1 m
 refine v (v (gO m λm=> ?_))
 obtain rfl:=eY m
 exact eK rfl
 exact v (v (hD m))
 exact v (u0 m)
 rintro _ r0 m
 refine v (v ?_)
 cases m
 exact eK rfl
theorem WP:aO Tryz.prog 53=true:=by kernel_rfl
open Go.Vm Go.ChangeShapes Go.WideShapes
section
variable {H:Type} {enc:TypeId×Value→H} {W:World}
theorem ce3:Tryz.prog.cellsOf 3=1:=by kernel_rfl
theorem rd3:Rd enc Tryz.prog W 3 iQ gI:=RG u3
theorem aCB:Rd enc Tryz.prog W 22 OF (gL gI):=Rd.slice rd3 u22 ce3 (λ_=>rfl) (by decide)
theorem WQ:Tryz.prog.cellsOf 67=5:=by kernel_rfl
theorem aCC:Tryz.prog.cellsOf 64=1:=by kernel_rfl
theorem WR:Tryz.prog.cellsOf 95=2:=by kernel_rfl
theorem ce9:Tryz.prog.cellsOf 9=1:=by kernel_rfl
theorem rd9:Rd enc Tryz.prog W 9 KD gT:=RH u9
theorem aCD:Tryz.prog.cellsOf 41=1:=by kernel_rfl
theorem ce5:Tryz.prog.cellsOf 5=1:=by kernel_rfl
theorem rd5:Rd enc Tryz.prog W 5 dG gB:=U0 u5
theorem aCE:Rd enc Tryz.prog W 41 gX (gL gB):=Rd.slice rd5 u41 ce5 (λ_=>rfl) (by decide)
def FV (x:dQ):Prop:=gT x.Path∧(gL gB) x.Data
theorem aCF:IE Tryz.prog 95=some 2:=by kernel_rfl
theorem aCG:Rd enc Tryz.prog W 95 eQ FV:=by
 intro fuel cs x h
 obtain⟨hl,hf⟩:=Rd.flds aCF WR h
 obtain⟨a0,g0,v0,w0⟩:=hf 0 0 1 SF ce9 rd9
 obtain⟨a1,g1,v1,w1⟩:=hf 1 1 1 SG aCD aCE
 obtain⟨v,w⟩:=(E3.cons v0 w0 (E3.cons v1 w1 (E3.nil hl) rfl) rfl)
 exact⟨⟨a0,a1⟩,⟨g0,g1⟩,by simpa [eQ,KD,gX] using v,by simpa using w⟩
theorem aCH:Rd enc Tryz.prog W 64 DF (gL FV):=Rd.slice aCG u64 WR (λx=>by simp[eQ,bM]) (by decide)
theorem aCI:Tryz.prog.cellsOf 65=1:=by kernel_rfl
theorem ce4:Tryz.prog.cellsOf 4=1:=by kernel_rfl
theorem rd4:Rd enc Tryz.prog W 4 FG gT:=N8 u4
theorem aCJ:Rd enc Tryz.prog W 65 DG (gL gT):=Rd.slice rd4 u65 ce4 (λ_=>rfl) (by decide)
def DO (x:lI):Prop:=gI x.Do∧gI x.N∧gI x.Vol∧(gL FV) x.Tree∧(gL gT) x.Pick
theorem WS:IE Tryz.prog 67=some 5:=by kernel_rfl
theorem WT:Rd enc Tryz.prog W 67 eP DO:=by
 intro fuel cs x h
 obtain⟨hl,hf⟩:=Rd.flds WS WQ h
 obtain⟨a0,g0,v0,w0⟩:=hf 0 0 1 R8 ce3 rd3
 obtain⟨a1,g1,v1,w1⟩:=hf 1 1 1 SA ce3 rd3
 obtain⟨a2,g2,v2,w2⟩:=hf 2 2 1 SB ce3 rd3
 obtain⟨a3,g3,v3,w3⟩:=hf 3 3 1 SC aCC aCH
 obtain⟨a4,g4,v4,w4⟩:=hf 4 4 1 SD aCI aCJ
 obtain⟨v,w⟩:=(E3.cons v0 w0 (E3.cons v1 w1 (E3.cons v2 w2 (E3.cons v3 w3 (E3.cons v4 w4 (E3.nil hl) rfl) rfl) rfl) rfl) rfl)
 exact⟨⟨a0,a1,a2,a3,a4⟩,⟨g0,g1,g2,g3,g4⟩,by simpa [eP,iQ,iQ,iQ,DF,DG] using v,by simpa using w⟩
theorem aCK:Rd enc Tryz.prog W 23 OH (gL DO):=Rd.slice WT u23 WQ (λx=>by simp[eP,bM]) (by decide)
def FW (x:dH):Prop:=gT x.Path∧gI x.Size∧(gL (λx:bP=>gL gB x.1)) x.Ids
def wY (x:bF):Prop:=gT x.Name∧(gL FW) x.Parts
def mW (x:bK):Prop:=gI x.Vol∧gI x.File∧gI x.Off∧gI x.Len
def SN (x:aG):Prop:=gI x.Seq∧wY x.Man∧(gL mW) x.Locs
def G9 (x:aA):Prop:=(λx:bP=>gL gB x.1) x.Id∧gT x.Staged∧(gL gB) x.Data∧(gL mW) x.Locs
def WU (x:aN):Prop:=gI x.Seq∧gI x.Of∧(gL mW) x.Locs
def pV (x:aP):Prop:=gI x.Pool∧gI x.Epoch∧gI x.State∧gI x.Files
def zR (x:aB):Prop:=gI x.Seq∧(gL SN) x.Snaps∧(gL G9) x.Chunks∧(gL WU) x.Exps∧(gL pV) x.Vols
theorem aCL:Tryz.prog.readableRec 22=true∧22 < Tryz.prog.types.size:=⟨by kernel_rfl,of_decide_eq_true (by kernel_rfl)⟩
theorem aCM:Tryz.prog.readableRec 23=true∧23 < Tryz.prog.types.size:=⟨by kernel_rfl,of_decide_eq_true (by kernel_rfl)⟩
theorem aCN:Tryz.prog.readableRec 67=true∧67 < Tryz.prog.types.size:=⟨by kernel_rfl,of_decide_eq_true (by kernel_rfl)⟩
theorem aCO:ownKnob Tryz.prog.godebug=none:=by kernel_rfl
theorem LB:laidOutB Tryz.prog=true:=by kernel_rfl
end
open Go.Vm
def gP (a b c:Int):Bool:=decide (b≤a) && decide (a≤c)
theorem SO (F:Nat) (a b c:Int):wR F a b c=some (gP a b c):=by
 unfold wR gP
 by_cases h:b≤a <;> simp[after,h]
theorem WV (F:Nat) (a b c:Int):G8 F a b c=some (gP a b c):=by
 unfold G8 gP
 by_cases h:b≤a <;> simp[after,h]
def nG (a b:bK):Bool:=if a.Vol !=b.Vol then decide (b.Vol < a.Vol) else if a.File !=b.File then decide (b.File < a.File) else decide (b.Off < a.Off)
theorem aCP (F:Nat) (a b:bK):KU F a b=some (nG a b):=by
 unfold KU nG
 split
 ·rfl
 ·split <;> rfl
def IU (c:aB) (l:List bK) (i:Nat):Bool:=match l[i]? with
  | none=>true
  | some x=>gP x.Vol 0 ((c.Vols.length:Int) - 1) && (match c.Vols[x.Vol.toNat]? with | none=>false | some v=>v.State==2 && gP x.File 1 v.Files) && gP x.Off 0 16777215 && gP x.Len 13 8013 &&
      (i==0 || (match l[i - 1]? with | none=>true | some y=>nG x y))
def iR (c:aB) (l:List bK):Bool:=decide (l.length≤200) && !(List.range l.length).any λi=> !IU c l i
theorem SP {F:Nat} {c:aB} {l:List bK} (hF:1000≤F) (hv:c.Vols.length < 1000):yD F c l=some (iR c l):=by
 unfold yD iR
 by_cases hl:200 < (l.length:Int)
 ·rw[if_pos (by simpa using hl)]; simp; omega
 ·rw[if_neg (by simpa using hl)]
  rw[e8 (s0:=(0:Int)) (n:=l.length) (F:=F) (λi:Nat=>(i:Int)) (λi=> !IU c l i) (λ_=>false) (by omega) rfl,hX]
  ·have:l.length≤200:=by omega
   simp only[this,decide_true,Bool.true_and]
   split <;> rename_i h <;> simp[after,h]
  ·intro i hi _
   unfold rE IU
   have hx:l[i]? =some l[i]:=List.getElem?_eq_getElem hi
   generalize l[i]=x at hx
   rw[wr (by omega) (by omega),jA (by omega)]
   simp only[bS,hx,SO,aCP,Option.bind_some,cU,aK,dC,dJ,Int.ofNat_lt,hi,decide_true,if_true]
   cases h1:gP x.Vol 0 ((c.Vols.length:Int) - 1)
   ·simp[after]
   ·have h2:0≤x.Vol∧x.Vol.toNat < c.Vols.length:=by simp[gP] at h1; omega
    have h3:c.Vols[x.Vol.toNat]? =some c.Vols[x.Vol.toNat]:=List.getElem?_eq_getElem h2.2
    generalize c.Vols[x.Vol.toNat]=v at h3
    simp only[qF _ h2.1,h3,Option.bind_some]
    by_cases h0:i=0
    ·subst h0
     simp[after]
     grind
    ·have h5:l[i - 1]? =some l[i - 1]:=List.getElem?_eq_getElem (by omega)
     generalize l[i - 1]=y at h5
     rw[wV (by omega) (by omega)]
     simp[after,bS,h5,h0,Nat.pos_of_ne_zero h0]
     grind
  ·intro _
   unfold rE
   simp
open Go.Vm Go.Lib
def key:List Int→Int
 | []=>0
 | a::u=>a*256 ^ u.length+key u
theorem FX:∀ {l:List Int},gL gB l→0≤key l∧key l < 256 ^ l.length
 | [],_=>by simp[key]
 | a::u,h=>by
  have⟨h1,h2⟩:=h a (by simp)
  have⟨h3,h4⟩:=FX (l:=u) λx hx=>h x (by simp[hx])
  have hp:(0:Int) < 256 ^ u.length:=Int.pow_pos (by decide)
  simp only[key,List.length_cons,Int.pow_succ]
  have:a*256 ^ u.length≤255*256 ^ u.length:=Int.mul_le_mul_of_nonneg_right (by omega) (by omega)
  have:0≤a*256 ^ u.length:=Int.mul_nonneg h1 (by omega)
  omega
theorem pL {a b:Int} {u v:List Int} (hl:u.length=v.length) (ha:gL gB (a::u)) (hb:gL gB (b::v)):
    (a < b→key (a::u) < key (b::v))∧(a=b→(key (a::u) < key (b::v)↔key u < key v)∧(key (a::u)=key (b::v)↔key u=key v)):=by
  have⟨h3,h4⟩:=FX (l:=u) λx hx=>ha x (by simp[hx])
  have⟨h5,h6⟩:=FX (l:=v) λx hx=>hb x (by simp[hx])
  simp only[key]
  rw[hl] at h4 ⊢
  generalize (256:Int) ^ v.length=q at h4 h6
  constructor
  · intro h
    have:(a+1)*q≤b*q:=Int.mul_le_mul_of_nonneg_right (by omega) (by omega)
    rw[Int.add_mul] at this
    omega
  · rintro rfl
    omega
theorem HA:∀ {a b:List Int},a.length=b.length→gL gB a→gL gB b→key a=key b→a=b
 | [], [],_,_,_,_=>rfl
 | x::u,y::v,hl,ha,hb,h=>by
  have hl':u.length=v.length:=by simpa using hl
  obtain⟨h1,h2⟩:=pL hl' ha hb
  obtain⟨h3, -⟩:=pL hl'.symm hb ha
  rcases Int.lt_trichotomy x y with q | q | q
  ·have:=h1 q; omega
  ·subst q
   rw[HA hl' (λz hz=>ha z (by simp[hz])) (λz hz=>hb z (by simp[hz])) ((h2 rfl).2.1 h)]
  ·have:=h3 q; omega
theorem zS (xs:List Int):(bA xs).data.toList=xs.map λz=>z.toNat.toUInt8:=by
 have:∀(xs:List Int) (acc:ByteArray),(xs.foldl (λacc z=>acc.push z.toNat.toUInt8) acc).data.toList=acc.data.toList++xs.map λz=>z.toNat.toUInt8:=by
  intro xs
  induction xs with
  | nil=>simp
  | cons x xs ih=>intro acc; rw[List.foldl_cons,ih]; simp[ByteArray.push]
 rw[bA,this]
 rfl
theorem QL {a b:Int} (ha:gB a) (hb:gB b):a.toNat.toUInt8 < b.toNat.toUInt8↔a < b:=by
 unfold gB at ha hb
 rw[UInt8.lt_iff_toNat_lt]
 simp only[Nat.toUInt8,UInt8.toNat_ofNat']
 omega
theorem DP:∀ {a b:List Int},a.length=b.length→gL gB a→gL gB b→compareBytes (a.map λz=>z.toNat.toUInt8) (b.map λz=>z.toNat.toUInt8)=if key a < key b then -1 else if key b < key a then 1 else 0
 | [], [],_,_,_=>by simp[compareBytes,key]
 | x::u,y::v,hl,ha,hb=>by
  have hl':u.length=v.length:=by simpa using hl
  obtain⟨h1,h2⟩:=pL hl' ha hb
  obtain⟨h3,h4⟩:=pL hl'.symm hb ha
  have hx:=ha x (by simp)
  have hy:=hb y (by simp)
  simp only[List.map_cons,compareBytes,QL hx hy,QL hy hx]
  rcases Int.lt_trichotomy x y with q | q | q
  ·rw[if_pos q,if_pos (h1 q)]
  ·subst q
   rw[if_neg (by omega),if_neg (by omega),DP hl' (λz hz=>ha z (by simp[hz])) (λz hz=>hb z (by simp[hz]))]
   simp only[(h2 rfl).1,(h4 rfl).1]
  ·rw[if_neg (by omega),if_pos q,if_neg (by have:=h3 q; omega),if_pos (h3 q)]
def mK (x:bP):Prop:=gL gB x.1
def ky (x:bP):Int:=key x.1
theorem LC {a b:bP} (ha:mK a) (hb:mK b) (h:ky a=ky b):a=b:=Subtype.ext (HA (by rw[a.2,b.2]) ha hb h)
theorem LD (F:Nat) {a b:bP} (ha:mK a) (hb:mK b):IS F a b=some (if ky a < ky b then -1 else if ky b < ky a then 1 else 0):=by
 unfold IS E5 ky
 rw[cmp_eq,zS,zS,DP (by rw[a.2,b.2]) ha hb]
theorem wZ:∀(n:Nat) {a b:List Int},a.length=n→b.length=n→gL gB a→gL gB b→
    (match (List.range n).find? λi=>a.getD i 0 !=b.getD i 0 with | none=>false | some i=>decide (a.getD i 0 < b.getD i 0))=decide (key a < key b)
  | 0, [], [],_,_,_,_=>by simp[key]
  | n+1,x::u,y::v,h1,h2,ha,hb=>by
    have hl':u.length=v.length:=by simp at h1 h2; omega
    obtain⟨k1,k2⟩:=pL hl' ha hb
    obtain⟨k3,k4⟩:=pL hl'.symm hb ha
    have ih:=wZ n (a:=u) (b:=v) (by simpa using h1) (by simpa using h2) (λz hz=>ha z (by simp[hz])) (λz hz=>hb z (by simp[hz]))
    rw[find_range_succ]
    simp only[List.getD_cons_zero,List.getD_cons_succ]
    by_cases q:x=y
    · subst q
      simp only[bne_self_eq_false,Bool.false_eq_true,if_false,(k2 rfl).1]
      rw[← ih]
      cases (List.range n).find? λi=>u.getD i 0 !=v.getD i 0 with
      | none=>rfl
      | some i=>simp only[Option.map_some,List.getD_cons_succ]
    · have hne:(x !=y)=true:=by simpa using q
      simp only[hne,if_true,List.getD_cons_zero]
      rcases Int.lt_trichotomy x y with w | w | w
      · have:=k1 w; simp[w,this]
      · exact absurd w q
      · have:=k3 w
        simp; constructor <;> intro <;> omega
theorem uG {F:Nat} {a b:bP} (body:Int→Option (Lp Int Bool)) (hF:1000≤F) (ha:mK a) (hb:mK b)
    (h:∀i:Nat,body i=if decide ((i:Int) < 32)=true then ((ix a.1 i).bind λx48=>(ix b.1 i).bind λx50=>if (x48 !=x50)=true then ((ix a.1 i).bind λx54=>(ix b.1 i).bind λx56=>some (.ret (decide (x54 < x56)))) else some (.go (IntKind.wrap .i64 (i+1)))) else some (.brk (i:Int))):
    (after (aW body F 0) λ_=>some false)=some (decide (ky a < ky b)):=by
  rw[e8 (s0:=(0:Int)) (n:=32) (F:=F) (λi:Nat=>(i:Int)) (λi=>a.1.getD i 0 !=b.1.getD i 0) (λi=>decide (a.1.getD i 0 < b.1.getD i 0)) (by omega) rfl]
  · have:=wZ 32 a.2 b.2 ha hb
    unfold ky
    rw[← this]
    unfold LF
    cases (List.range 32).find? λi=>a.1.getD i 0 !=b.1.getD i 0 <;> rfl
  · intro i hi _
    rw[h,jA (by omega)]
    have h1:a.1[i]? =some a.1[i]:=List.getElem?_eq_getElem (by rw[a.2]; exact hi)
    have h2:b.1[i]? =some b.1[i]:=List.getElem?_eq_getElem (by rw[b.2]; exact hi)
    have h3:(i:Int) < 32:=by omega
    simp[bS,h1,h2,h3,List.getD]
    split <;> rfl
  · intro _
    rw[h]; simp
theorem m60 {F:Nat} {a b:bP} (hF:1000≤F) (ha:mK a) (hb:mK b):KY F a b=some (decide (ky a < ky b)):=uG (vA F a b) hF ha hb λ_=>rfl
theorem WW {F:Nat} {a b:bP} (hF:1000≤F) (ha:mK a) (hb:mK b):OU F a b=some (decide (ky a < ky b)):=uG (vB F a b) hF ha hb λ_=>rfl
open Go.Vm
structure Sm (c:aB):Prop where
 g:zR c
 sn:c.Snaps.length≤12
 ch:c.Chunks.length≤400
 ex:c.Exps.length≤300
 vo:c.Vols.length≤20
 sl:∀s∈c.Snaps,s.Locs.length≤300
 cl:∀x∈c.Chunks,x.Locs.length≤300∧x.Data.length≤300
 el:∀x∈c.Exps,x.Locs.length≤300
 man:∀s∈c.Snaps,s.Man.Name.size≤100∧s.Man.Parts.length≤10∧∀p∈s.Man.Parts,p.Path.size≤100∧p.Ids.length≤40
theorem iG {α:Type} (l:List α) (q:α→Bool):((List.range l.length).any λi=>(l[i]?).any q)=l.any q:=by
 rw[Bool.eq_iff_iff]
 simp only[List.any_eq_true,List.mem_range]
 constructor
 ·rintro⟨i,hi,h⟩
  rw[List.getElem?_eq_getElem hi] at h
  exact⟨l[i],List.getElem_mem hi,by simpa using h⟩
 ·rintro⟨x,hx,h⟩
  obtain⟨i,hi,rfl⟩:=List.getElem_of_mem hx
  exact⟨i,hi,by rw[List.getElem?_eq_getElem hi]; simpa using h⟩
def nH (v:aP):Bool:=gP v.Pool 0 1 && gP v.Epoch 0 1048576 && ((v.State==2 && gP v.Files 1 65535) || ((v.State==1 || v.State==3) && v.Files==0))
theorem rN {α:Type} (l:List α) (q:α→Bool):(l.any λx=> !q x)= !l.all q:=by simp[List.any_eq_not_all_not]
theorem m69 {F:Nat} {l:List aP} (hF:1000≤F) (hl:l.length≤20):VU F l=some (l.all nH && gP l.length 1 8):=by
 unfold VU
 rw[e8 (s0:=(0:Int)) (n:=l.length) (F:=F) (λi:Nat=>(i:Int)) (λi=>(l[i]?).any λv=> !nH v) (λ_=>false) (by omega) rfl,hX,iG,rN]
 ·cases h:l.all nH <;> simp[after,SO]
 ·intro i hi _
  unfold wS nH
  have hx:l[i]? =some l[i]:=List.getElem?_eq_getElem hi
  generalize l[i]=x at hx
  rw[jA (by omega)]
  simp only[bS,hx,SO,Option.bind_some,cU,aK,dC,dJ,Int.ofNat_lt,hi,decide_true,if_true,Option.any_some]
  by_cases h2:x.State=2
  ·simp[h2]; grind
  ·by_cases h1:x.State=1
   ·simp[h1]; grind
   ·by_cases h3:x.State=3
    ·simp[h3]; grind
    ·simp[h1,h2,h3]
 ·intro _
  unfold wS
  simp
theorem m61 {F:Nat} {c:aB} {l:List bK} (hF:1000≤F) (hv:c.Vols.length < 1000):yG F c l=some (iR c l):=by
 unfold yG iR
 by_cases hl:200 < (l.length:Int)
 ·rw[if_pos (by simpa using hl)]; simp; omega
 ·rw[if_neg (by simpa using hl)]
  rw[e8 (s0:=(0:Int)) (n:=l.length) (F:=F) (λi:Nat=>(i:Int)) (λi=> !IU c l i) (λ_=>false) (by omega) rfl,hX]
  ·have:l.length≤200:=by omega
   simp only[this,decide_true,Bool.true_and]
   split <;> rename_i h <;> simp[after,h]
  ·intro i hi _
   unfold rI IU
   have hx:l[i]? =some l[i]:=List.getElem?_eq_getElem hi
   generalize l[i]=x at hx
   rw[jA (by omega)]
   simp only[bS,hx,WV,Option.bind_some,cU,aK,dC,dJ,Int.ofNat_lt,hi,decide_true,if_true]
   by_cases h1:x.Vol < 0
   ·simp[h1,gP]
    try omega
   ·by_cases h2:(c.Vols.length:Int)≤x.Vol
    ·simp[h1,h2,gP]; omega
    ·have h2':0≤x.Vol∧x.Vol.toNat < c.Vols.length:=by omega
     have h3:c.Vols[x.Vol.toNat]? =some c.Vols[x.Vol.toNat]:=List.getElem?_eq_getElem h2'.2
     generalize c.Vols[x.Vol.toNat]=v at h3
     have h4:gP x.Vol 0 ((c.Vols.length:Int) - 1)=true:=by simp[gP]; omega
     simp only[qF _ h2'.1,h3,Option.bind_some,h1,h2,h4,Bool.true_and,decide_false]
     by_cases h0:i=0
     ·subst h0
      simp[after]
      grind
     ·have h5:l[i - 1]? =some l[i - 1]:=List.getElem?_eq_getElem (by omega)
      generalize l[i - 1]=y at h5
      rw[wV (by omega) (by omega)]
      simp[after,bS,h5,h0,Nat.pos_of_ne_zero h0,nG]
      grind
  ·intro _
   unfold rI
   simp
def HB (c:aB) (i:Nat):Bool:=match c.Chunks[i]? with
 | none=>true
 | some x=>(i==0 || (match c.Chunks[i - 1]? with | none=>true | some y=>decide (ky y.Id < ky x.Id))) && iR c x.Locs && (if x.Staged then gP x.Data.length 1 64 else (!decide (0 < x.Data.length) && !(x.Locs.length==0)))
theorem gch {c:aB} (h:Sm c) {i:Nat} {x:aA} (hx:c.Chunks[i]? =some x):mK x.Id:=by
 have:=h.g.2.2.1 x (List.mem_of_getElem? hx)
 exact this.1
theorem LE {F:Nat} {c:aB} (hF:1000≤F) (h:Sm c) {i:Nat} (hi:i < c.Chunks.length):tO F c i=some (if !HB c i then .ret false else .go ((i+1:Nat):Int)):=by
 have hc:=h.ch
 have hv:=h.vo
 unfold tO HB
 have hx:c.Chunks[i]? =some c.Chunks[i]:=List.getElem?_eq_getElem hi
 generalize c.Chunks[i]=x at hx
 have gx:=gch h hx
 rw[jA (by omega)]
 simp only[bS,hx,SO,SP hF (show c.Vols.length < 1000 by omega),Option.bind_some,cU,aK,dC,dJ,Int.ofNat_lt,hi,decide_true,if_true]
 generalize x.Locs.length=nl
 generalize x.Data.length=nd
 by_cases h0:i=0
 ·subst h0
  cases hs:x.Staged <;> simp[cU,aK,dC,dJ] <;> grind
 ·have h5:c.Chunks[i - 1]? =some c.Chunks[i - 1]:=List.getElem?_eq_getElem (by omega)
  generalize c.Chunks[i - 1]=y at h5
  have gy:=gch h h5
  rw[wV (by omega) (by omega)]
  by_cases hk:ky y.Id < ky x.Id
  ·have e:¬(0≤if ky y.Id < ky x.Id then (-1:Int) else if ky x.Id < ky y.Id then 1 else 0):=by rw[if_pos hk]; omega
   cases hs:x.Staged <;> simp[cU,aK,dC,dJ,bS,h5,h0,Nat.pos_of_ne_zero h0,LD F gy gx,e,hk] <;> grind
  ·have e:(0≤if ky y.Id < ky x.Id then (-1:Int) else if ky x.Id < ky y.Id then 1 else 0):=by rw[if_neg hk]; split <;> omega
   simp[cU,aK,dC,dJ,bS,h5,h0,Nat.pos_of_ne_zero h0,LD F gy gx,e,hk]
   try (intro hh; exfalso; split at hh <;> omega)
def tX (c:aB):Bool:= !(List.range c.Chunks.length).any λi=> !HB c i
theorem m70 {F:Nat} {c:aB} (hF:1000≤F) (h:Sm c):V5 F c=some (tX c && decide (c.Chunks.length≤200)):=by
 have hc:=h.ch
 unfold V5 tX
 rw[e8 (s0:=(0:Int)) (n:=c.Chunks.length) (F:=F) (λi:Nat=>(i:Int)) (λi=> !HB c i) (λ_=>false) (by omega) rfl,hX]
 ·cases (List.range c.Chunks.length).any λi=> !HB c i <;> simp[after]; omega
 ·exact λi hi _=>LE hF h hi
 ·intro _; unfold tO; simp
theorem SQ {F:Nat} {c:aB} (hF:1000≤F) (h:Sm c) {i:Nat} (hi:i < c.Chunks.length):qH F c i=some (if !HB c i then .ret false else .go ((i+1:Nat):Int)):=by
 have hc:=h.ch
 have hv:=h.vo
 unfold qH HB
 have hx:c.Chunks[i]? =some c.Chunks[i]:=List.getElem?_eq_getElem hi
 generalize c.Chunks[i]=x at hx
 have gx:=gch h hx
 rw[jA (by omega)]
 simp only[bS,hx,WV,m61 hF (show c.Vols.length < 1000 by omega),Option.bind_some,cU,aK,dC,dJ,Int.ofNat_lt,hi,decide_true,if_true]
 generalize x.Locs.length=nl
 generalize x.Data.length=nd
 by_cases h0:i=0
 ·subst h0
  cases hs:x.Staged <;> simp[cU,aK,dC,dJ] <;> grind
 ·have h5:c.Chunks[i - 1]? =some c.Chunks[i - 1]:=List.getElem?_eq_getElem (by omega)
  generalize c.Chunks[i - 1]=y at h5
  have gy:=gch h h5
  rw[wV (by omega) (by omega)]
  by_cases hk:ky y.Id < ky x.Id
  ·cases hs:x.Staged <;> simp[cU,aK,dC,dJ,bS,h5,h0,Nat.pos_of_ne_zero h0,m60 hF gy gx,hk] <;> grind
  ·simp[cU,aK,dC,dJ,bS,h5,h0,Nat.pos_of_ne_zero h0,m60 hF gy gx,hk]
theorem SR {F:Nat} {c:aB} (hF:1000≤F) (h:Sm c) {i:Nat} (hi:i < c.Vols.length):qG F c i=some (if (c.Vols[i]?).any λv=> !nH v then .ret false else .go ((i+1:Nat):Int)):=by
 have hv:=h.vo
 unfold qG nH
 have hx:c.Vols[i]? =some c.Vols[i]:=List.getElem?_eq_getElem hi
 generalize c.Vols[i]=x at hx
 rw[jA (by omega)]
 simp only[bS,hx,WV,Option.bind_some,cU,aK,dC,dJ,Int.ofNat_lt,hi,decide_true,if_true,Option.any_some]
 by_cases h2:x.State=2
 ·simp[h2]; grind
 ·by_cases h1:x.State=1
  ·simp[h1]; grind
  ·by_cases h3:x.State=3
   ·simp[h3]; grind
   ·simp[h1,h2,h3]
open Go.Vm
theorem DQ {s:ByteArray} {i:Nat} (h:i < s.size):∃z:Int,N4 s (i:Int)=some z:=by
 unfold N4
 rw[if_pos (Int.natCast_nonneg i),Int.toNat_natCast]
 have:s[i]? =some s[i]:=getElem?_pos s i h
 rw[this]
 exact⟨_,rfl⟩
def SS (s:ByteArray) (i:Nat):Bool:=(N4 s (i:Int)).any λz=>decide (z < 33) || decide (126 < z)
def pW (s:ByteArray):Bool:=gP s.size 1 20 && !(List.range s.size).any (SS s)
theorem WX {F:Nat} {s:ByteArray} (hF:1000≤F):IR F s=some (pW s):=by
 unfold IR pW gP
 by_cases h1:(s.size:Int) < 1
 ·have h2:¬(1:Int)≤s.size:=by omega
  simp[after,h1,h2]
 ·by_cases h2:20 < (s.size:Int)
  ·have h3:¬(s.size:Int)≤20:=by omega
   simp[after,h1,h2,h3]
  ·rw[e8 (s0:=(0:Int)) (n:=s.size) (F:=F) (λi:Nat=>(i:Int)) (SS s) (λ_=>false) (by omega) rfl,hX]
   ·have h3:(s.size:Int)≤20:=by omega
    have h4:(1:Int)≤s.size:=by omega
    simp only[h1,h2,h3,h4]
    cases h:(List.range s.size).any (SS s) <;> simp[after]
   ·intro i hi _
    unfold rF SS
    obtain⟨z,hz⟩:=DQ hi
    rw[jA (by omega)]
    simp only[hz,Option.bind_some,cU,aK,dC,dJ,Int.ofNat_lt,hi,decide_true,if_true,Option.any_some]
    grind
   ·intro _
    unfold rF
    simp
theorem LG {F:Nat} {s:ByteArray} (hF:1000≤F) (hs:s.size≤100):BJ F s=some (pW s):=by
 unfold BJ pW gP
 rw[e8 (s0:=(0:Int)) (n:=s.size) (F:=F) (λi:Nat=>(i:Int)) (SS s) (λ_=>false) (by omega) rfl,hX]
 ·cases h:(List.range s.size).any (SS s)
  ·simp only[cU,aK,dC]
   by_cases h1:(1:Int)≤s.size <;> simp[aK,h1]
  ·simp[after]
 ·intro i hi _
  unfold rJ SS
  obtain⟨z,hz⟩:=DQ hi
  rw[jA (by omega)]
  simp only[hz,Option.bind_some,cU,aK,dC,dJ,Int.ofNat_lt,hi,decide_true,if_true,Option.any_some]
  grind
 ·intro _
  unfold rJ
  simp
def LH (x y:dH):Bool:=Op.bytesLess x.Path.toList y.Path.toList || x.Path.toList==y.Path.toList
def DR (x:dH):Bool:=pW x.Path && decide (0≤x.Size) && decide (x.Size≤200) && decide (x.Ids.length≤25) && ((x.Ids.length==0)==(x.Size==0))
def ST (m:bF) (i:Nat):Bool:=match m.Parts[i]? with
 | none=>true
 | some x=>DR x && (i==0 || (match m.Parts[i - 1]? with | none=>true | some y=> !LH x y))
def tY (m:bF):Bool:=pW m.Name && decide (m.Parts.length≤6) && !(List.range m.Parts.length).any λi=> !ST m i
theorem J5 (n:Nat):((n:Int)==0)=(n==0):=by
 rw[Bool.eq_iff_iff]; simp
theorem aCS {F:Nat} {x:dH} (hF:1000≤F):KW F x=some (DR x):=by
 unfold KW DR
 simp only[WX hF,Option.bind_some,cU,aK,J5]
 generalize pW x.Path=a
 generalize x.Ids.length=n
 by_cases h1:(n:Int)≤25
 ·have h2:n≤25:=by omega
  simp only[h1,h2]
  grind
 ·have h2:¬n≤25:=by omega
  simp only[h1,h2]
  grind
theorem m73 {F:Nat} {m:bF} (hF:1000≤F):DJ F m=some (if tY m then 0 else 1):=by
 unfold DJ tY
 simp only[WX hF,Option.bind_some,cU,aK,dJ]
 cases hn:pW m.Name
 ·simp
 ·by_cases hl:6 < (m.Parts.length:Int)
  ·have:¬m.Parts.length≤6:=by omega
   simp[hl,this]
  ·have h6:m.Parts.length≤6:=by omega
   rw[e8 (s0:=(0:Int)) (n:=m.Parts.length) (F:=F) (λi:Nat=>(i:Int)) (λi=> !ST m i) (λ_=>1) (by omega) rfl,hX]
   ·simp only[hl,h6]
    cases (List.range m.Parts.length).any λi=> !ST m i <;> simp[after]
   ·intro i hi _
    unfold rG ST
    have hx:m.Parts[i]? =some m.Parts[i]:=List.getElem?_eq_getElem hi
    generalize m.Parts[i]=x at hx
    rw[jA (by omega)]
    simp only[bS,hx,aCS hF,Option.bind_some,cU,aK,dC,dJ,Int.ofNat_lt,hi,decide_true,if_true]
    by_cases h0:i=0
    ·subst h0
     simp
     split <;> rfl
    ·have h5:m.Parts[i - 1]? =some m.Parts[i - 1]:=List.getElem?_eq_getElem (by omega)
     generalize m.Parts[i - 1]=y at h5
     rw[wV (by omega) (by omega)]
     simp only[bS,h5,Option.bind_some,aK]
     rw[show (Op.bytesLess x.Path.toList y.Path.toList || x.Path.toList==y.Path.toList)=LH x y from rfl]
     have h7:(0:Int) < i:=by omega
     simp only[h7,decide_true,if_true,h0]
     cases DR x <;> cases LH x y <;> simp[h0]
   ·intro _; unfold rG; simp
theorem m62 {F:Nat} {m:bF} (hF:1000≤F) (hm:m.Name.size≤100) (hp:∀p∈m.Parts,p.Path.size≤100):T7 F m=some (tY m):=by
 unfold T7 tY
 simp only[LG hF hm,Option.bind_some,cU,aK,dJ]
 cases hn:pW m.Name
 ·simp
 ·by_cases hl:6 < (m.Parts.length:Int)
  ·have:¬m.Parts.length≤6:=by omega
   simp[hl,this]
  ·have h6:m.Parts.length≤6:=by omega
   rw[e8 (s0:=(0:Int)) (n:=m.Parts.length) (F:=F) (λi:Nat=>(i:Int)) (λi=> !ST m i) (λ_=>false) (by omega) rfl,hX]
   ·simp only[hl,h6]
    cases (List.range m.Parts.length).any λi=> !ST m i <;> simp[after]
   ·intro i hi _
    unfold wW ST DR
    have hx:m.Parts[i]? =some m.Parts[i]:=List.getElem?_eq_getElem hi
    have hpx:=hp _ (List.mem_of_getElem? hx)
    generalize m.Parts[i]=x at hx hpx
    rw[jA (by omega)]
    simp only[bS,hx,LG hF hpx,Option.bind_some,cU,aK,dC,dJ,Int.ofNat_lt,hi,decide_true,if_true,J5]
    generalize pW x.Path=a
    generalize x.Ids.length=n
    have hn:(25 < (n:Int))=(25 < n):=by simp; omega
    simp only[hn]
    by_cases h0:i=0
    ·subst h0
     simp
     grind
    ·have h5:m.Parts[i - 1]? =some m.Parts[i - 1]:=List.getElem?_eq_getElem (by omega)
     generalize m.Parts[i - 1]=y at h5
     rw[wV (by omega) (by omega)]
     simp only[bS,h5,Option.bind_some,aK]
     rw[show (Op.bytesLess x.Path.toList y.Path.toList || x.Path.toList==y.Path.toList)=LH x y from rfl]
     have h7:(0:Int) < i:=by omega
     have h8:(i==0)=false:=by simpa using h0
     simp only[h7,decide_true,if_true,h8,Bool.false_or]
     generalize LH x y=o
     generalize ((n==0):Bool)=e0
     generalize (x.Size==0:Bool)=e1
     have e2:decide (x.Size < 0)= !decide (0≤x.Size):=by rw[← decide_not]; congr 1; simp
     have e3:decide (200 < x.Size)= !decide (x.Size≤200):=by rw[← decide_not]; congr 1; simp
     have e4:decide (25 < n)= !decide (n≤25):=by rw[← decide_not]; congr 1; simp
     rw[e2,e3,e4]
     generalize decide (0≤x.Size)=f2
     generalize decide (x.Size≤200)=f3
     generalize decide (n≤25)=f4
     cases a <;> cases o <;> cases f2 <;> cases f3 <;> cases f4 <;> cases e0 <;> cases e1 <;> rfl
   ·intro _; unfold wW; simp
open Go.Vm
theorem rO {α:Type} {l:List α} (q:α→Bool) {F:Nat} {body:Int→Option (Lp Int Int)} (hF:l.length < F)
    (hb:∀i:Nat,i < l.length→body (i:Int)=some (if (l[i]?).any q then .ret (i:Int) else .go ((i+1:Nat):Int))) (he:body (l.length:Int)=some (.brk (l.length:Int))):
    (after (aW body F 0) λ_=>some (-1)).bind (λy=>some (decide (0≤y)))=some (l.any q):=by
  rw[e8 (s0:=(0:Int)) (n:=l.length) (F:=F) (λi:Nat=>(i:Int)) (λi=>(l[i]?).any q) (λi=>(i:Int)) hF rfl (λi hi _=>hb i hi) (λ_=>he),← iG]
  unfold LF
  cases h:(List.range l.length).find? λi=>(l[i]?).any q with
  | none=>
    have:(List.range l.length).any (λi=>(l[i]?).any q)=false:=by
      rw[List.any_eq_false]
      exact λx hx=>by simpa using List.find?_eq_none.1 h x hx
    simp[after,this]
  | some i=>
    have:(List.range l.length).any (λi=>(l[i]?).any q)=true:=List.any_eq_true.2 ⟨i,List.mem_of_find?_eq_some h,List.find?_some (p:=λi=>(l[i]?).any q) h⟩
    simp[after,this]
theorem m89 {F:Nat} {l:List aG} {f:aG→Option Bool} (q:aG→Bool) (hF:l.length < F) (hl:l.length < 1000) (hf:∀x∈l,f x=some (q x)):SJ F l f=some (l.any q):=by
 unfold SJ FQ
 refine rO q hF (λi hi=> ?_) (by unfold nY; simp)
 unfold nY
 have hx:l[i]? =some l[i]:=List.getElem?_eq_getElem hi
 rw[jA (by omega)]
 simp only[bS,hx,hf _ (List.getElem_mem hi),Option.bind_some,Int.ofNat_lt,hi,decide_true,if_true,Option.any_some]
 split <;> rfl
theorem m91 {F:Nat} {l:List dH} {f:dH→Option Bool} (q:dH→Bool) (hF:l.length < F) (hl:l.length < 1000) (hf:∀x∈l,f x=some (q x)):WH F l f=some (l.any q):=by
 unfold WH OW
 refine rO q hF (λi hi=> ?_) (by unfold rL; simp)
 unfold rL
 have hx:l[i]? =some l[i]:=List.getElem?_eq_getElem hi
 rw[jA (by omega)]
 simp only[bS,hx,hf _ (List.getElem_mem hi),Option.bind_some,Int.ofNat_lt,hi,decide_true,if_true,Option.any_some]
 split <;> rfl
theorem m93 {F:Nat} {l:List bP} {d:bP} (hF:l.length < F) (hl:l.length < 1000):WJ F l d=some (l.any λx=>decide (d=x)):=by
 unfold WJ OX
 refine rO (λx=>decide (d=x)) hF (λi hi=> ?_) (by unfold rM; simp)
 unfold rM
 have hx:l[i]? =some l[i]:=List.getElem?_eq_getElem hi
 rw[jA (by omega)]
 simp only[bS,hx,Option.bind_some,Int.ofNat_lt,hi,decide_true,if_true,Option.any_some]
 split <;> rfl
def rP (c:aB) (d:bP):Bool:=c.Snaps.any λs=>s.Man.Parts.any λp=>p.Ids.any λx=>decide (d=x)
theorem m44 {F:Nat} {c:aB} {d:bP} (hF:1000≤F) (h:Sm c):WK F c d=some (rP c d):=by
 have hs:=h.sn
 unfold WK rP
 rw[m89 (λs=>s.Man.Parts.any λp=>p.Ids.any λx=>decide (d=x)) (by omega) (by omega)]
 ·rfl
 ·intro s hs'
  obtain⟨h1,h2,h3⟩:=h.man s hs'
  unfold M59
  rw[m91 (λp=>p.Ids.any λx=>decide (d=x)) (by omega) (by omega)]
  ·rfl
  ·intro p hp
   unfold M61
   rw[m93 (by have:=(h3 p hp).2; omega) (by have:=(h3 p hp).2; omega)]
   rfl
def xV (c:aB) (i:Nat):Bool:=match c.Exps[i]? with
 | none=>true
 | some x=>gP x.Seq 0 (c.Seq - 1) && (i==0 || (match c.Exps[i - 1]? with | none=>true | some y=>decide (y.Seq < x.Seq))) && gP x.Of 0 (x.Seq - 1) && !(x.Locs.length==0) && iR c x.Locs
def IV (c:aB) (i:Nat):Bool:=match c.Exps[i]? with
 | none=>true
 | some x=> !c.Snaps.any λs=>s.Seq==x.Of
theorem gex {c:aB} (h:Sm c) {i:Nat} {x:aN} (hx:c.Exps[i]? =some x):gI x.Seq∧gI x.Of:=by
 have:=h.g.2.2.2.1 x (List.mem_of_getElem? hx)
 exact⟨this.1,this.2.1⟩
theorem SU {F:Nat} {c:aB} (hF:1000≤F) (h:Sm c) (hq:gP c.Seq 0 1073741824=true) {i:Nat} (hi:i < c.Exps.length):
    tN F c i=some (if !(xV c i && IV c i) then .ret false else .go ((i+1:Nat):Int)):=by
  have hc:=h.ex
  have hv:=h.vo
  have hsn:=h.sn
  unfold tN xV IV
  have hx:c.Exps[i]? =some c.Exps[i]:=List.getElem?_eq_getElem hi
  generalize c.Exps[i]=x at hx
  have gx:=gex h hx
  have hq':0≤c.Seq∧c.Seq≤1073741824:=by simpa [gP] using hq
  rw[jA (by omega),wr (n:=c.Seq - 1) (by omega) (by omega)]
  have hm:SJ F c.Snaps (λx0=>OR F x0 x)=some (c.Snaps.any λs=>s.Seq==x.Of):=m89 (λs=>s.Seq==x.Of) (by omega) (by omega) (λs _=>rfl)
  simp only[bS,hx,hm,SO,SP hF (show c.Vols.length < 1000 by omega),Option.bind_some,cU,aK,dC,dJ,Int.ofNat_lt,hi,decide_true,if_true,J5]
  generalize (x.Locs.length==0)=nl
  generalize iR c x.Locs=lb
  generalize (c.Snaps.any λs=>s.Seq==x.Of)=an
  cases h1:gP x.Seq 0 (c.Seq - 1)
  · simp
  · have h1':0≤x.Seq∧x.Seq≤c.Seq - 1:=by simpa [gP] using h1
    rw[wr (n:=x.Seq - 1) (by omega) (by omega)]
    generalize gP x.Of 0 (x.Seq - 1)=ob
    by_cases h0:i=0
    · subst h0
      cases nl <;> cases lb <;> cases an <;> cases ob <;> simp
    · have h5:c.Exps[i - 1]? =some c.Exps[i - 1]:=List.getElem?_eq_getElem (by omega)
      generalize c.Exps[i - 1]=y at h5
      rw[wV (by omega) (by omega)]
      have h7:(0:Int) < i:=by omega
      have h8:(i==0)=false:=by simpa using h0
      have e4:decide (x.Seq≤y.Seq)= !decide (y.Seq < x.Seq):=by rw[← decide_not]; congr 1; simp
      simp only[bS,h5,h7,h8,e4,Option.bind_some,decide_true,if_true,Bool.false_or]
      generalize decide (y.Seq < x.Seq)=od
      cases nl <;> cases lb <;> cases an <;> cases ob <;> cases od <;> simp[cU,aK]
def yI (c:aB):Bool:= !(List.range c.Exps.length).any λi=> !(xV c i && IV c i)
theorem m72 {F:Nat} {c:aB} (hF:1000≤F) (h:Sm c) (hq:gP c.Seq 0 1073741824=true):V2 F c=some (yI c && decide (c.Exps.length≤200)):=by
 have hc:=h.ex
 unfold V2 yI
 rw[e8 (s0:=(0:Int)) (n:=c.Exps.length) (F:=F) (λi:Nat=>(i:Int)) (λi=> !(xV c i && IV c i)) (λ_=>false) (by omega) rfl,hX]
 ·cases (List.range c.Exps.length).any λi=> !(xV c i && IV c i) <;> simp[after]; omega
 ·exact λi hi _=>SU hF h hq hi
 ·intro _; unfold tN; simp
theorem OZ {F:Nat} {c:aB} (hF:1000≤F) (h:Sm c) {i:Nat} (hi:i < c.Exps.length):
    n4 F c i=some (if !xV c i then .ret false else .go ((i+1:Nat):Int)):=by
  have hc:=h.ex
  have hv:=h.vo
  unfold n4 xV gP
  have hx:c.Exps[i]? =some c.Exps[i]:=List.getElem?_eq_getElem hi
  generalize c.Exps[i]=x at hx
  rw[jA (by omega)]
  simp only[bS,hx,WV,m61 hF (show c.Vols.length < 1000 by omega),Option.bind_some,cU,aK,dC,dJ,Int.ofNat_lt,hi,decide_true,if_true,J5]
  generalize (x.Locs.length==0)=nl
  generalize iR c x.Locs=lb
  have e1:decide (x.Seq < 0)= !decide (0≤x.Seq):=by rw[← decide_not]; congr 1; simp
  have e2:decide (c.Seq≤x.Seq)= !decide (x.Seq≤c.Seq - 1):=by rw[← decide_not]; congr 1; simp; omega
  have e3:decide (x.Of < 0)= !decide (0≤x.Of):=by rw[← decide_not]; congr 1; simp
  have e5:decide (x.Seq≤x.Of)= !decide (x.Of≤x.Seq - 1):=by rw[← decide_not]; congr 1; simp; omega
  rw[e1,e2,e3,e5]
  generalize decide (0≤x.Seq)=d1
  generalize decide (x.Seq≤c.Seq - 1)=d2
  generalize decide (0≤x.Of)=d3
  generalize decide (x.Of≤x.Seq - 1)=d5
  by_cases h0:i=0
  · subst h0
    cases nl <;> cases lb <;> cases d1 <;> cases d2 <;> cases d3 <;> cases d5 <;> simp
  · have h5:c.Exps[i - 1]? =some c.Exps[i - 1]:=List.getElem?_eq_getElem (by omega)
    generalize c.Exps[i - 1]=y at h5
    rw[wV (by omega) (by omega)]
    have h7:(0:Int) < i:=by omega
    have h8:(i==0)=false:=by simpa using h0
    have e4:decide (x.Seq≤y.Seq)= !decide (y.Seq < x.Seq):=by rw[← decide_not]; congr 1; simp
    simp only[bS,h5,h7,h8,e4,Option.bind_some,decide_true,if_true,Bool.false_or]
    generalize decide (y.Seq < x.Seq)=od
    cases nl <;> cases lb <;> cases d1 <;> cases d2 <;> cases d3 <;> cases d5 <;> cases od <;> simp[cU,aK]
open Go.Vm
theorem WY {a b:Nat} (h:a+b < 1000000000):IntKind.wrap .i64 ((IntKind.wrap .u64 (IntKind.wrap .i64 ((a:Int)+b))).fdiv (2 ^ (min (1:Int).toNat (IntKind.bits .u64))))=(((a+b) / 2:Nat):Int):=by
 have e1:IntKind.wrap .i64 ((a:Int)+b)=((a+b:Nat):Int):=by rw[wr (by omega) (by omega)]; omega
 have e2:∀n:Nat,n < 1000000000→IntKind.wrap .u64 (n:Int)=n:=by
  intro n hn
  have e:IntKind.wrap .u64 (n:Int)=(n:Int) % 18446744073709551616:=rfl
  rw[e]; omega
 rw[e1,e2 _ h]
 have e3:(2:Int) ^ (min (1:Int).toNat (IntKind.bits .u64))=2:=by decide
 rw[e3,Int.fdiv_eq_ediv_of_nonneg _ (by omega),wr (by omega) (by omega)]
 omega
def vD (l:List aA):Prop:=(∀x∈l,mK x.Id)∧∀(i j:Nat) (x y:aA),l[i]? =some x→l[j]? =some y→i < j→ky x.Id < ky y.Id
theorem SV {c:aB} (h:Sm c) (hc:tX c=true):vD c.Chunks:=by
 refine⟨λx hx=>(h.g.2.2.1 x hx).1, ?_⟩
 have hs:∀i x y,c.Chunks[i]? =some x→c.Chunks[i+1]? =some y→ky x.Id < ky y.Id:=by
  intro i x y hx hy
  have hi:i+1 < c.Chunks.length:=(List.getElem?_eq_some_iff.1 hy).1
  unfold tX at hc
  simp only[Bool.not_eq_true',List.any_eq_false,List.mem_range] at hc
  have:=hc (i+1) hi
  unfold HB at this
  rw[hy,show i+1 - 1=i from rfl,hx] at this
  simp at this
  exact this.1
 intro i j x y hx hy hij
 obtain⟨k,rfl⟩:∃k,j=i+1+k:=⟨j - i - 1,by omega⟩
 clear hij
 induction k generalizing y with
 | zero=>exact hs i x y hx hy
 | succ k ih=>
  have hk:i+1+k < c.Chunks.length:=by have:=(List.getElem?_eq_some_iff.1 hy).1; omega
  exact Int.lt_trans (ih _ (List.getElem?_eq_getElem hk)) (hs (i+1+k) _ _ (List.getElem?_eq_getElem hk) hy)
theorem bis {F:Nat} {l:List aA} {d:bP} (hr:vD l) (hd:mK d) (hl:l.length < 1000):∀(G lo hi:Nat),lo≤hi→hi≤l.length→hi - lo < G→
    (∀j x,l[j]? =some x→j < lo→ky x.Id < ky d)→(∀j x,l[j]? =some x→hi≤j→ky d≤ky x.Id)→
    ∃p:Nat,p≤l.length∧aW (λs=>rH F l d (λx0 x1=>yE F x0 x1) s.1 s.2) G ((lo:Int),(hi:Int))=some (.brk ((p:Int),(p:Int)))∧
      (∀j x,l[j]? =some x→j < p→ky x.Id < ky d)∧(∀j x,l[j]? =some x→p≤j→ky d≤ky x.Id)
  | 0,_,_,_,_,h,_,_=>by omega
  | G+1,lo,hi,h1,h2,h3,h4,h5=>by
    unfold aW rH
    by_cases hlt:lo < hi
    · have hm:(lo+hi) / 2 < l.length:=by omega
      have hx:l[(lo+hi) / 2]? =some l[(lo+hi) / 2]:=List.getElem?_eq_getElem hm
      generalize l[(lo+hi) / 2]=x at hx
      have gx:=hr.1 x (List.mem_of_getElem? hx)
      have e:yE F x d=some (if ky x.Id < ky d then -1 else if ky d < ky x.Id then 1 else 0):=by unfold yE; rw[LD F gx hd]; rfl
      simp only[Int.ofNat_lt,hlt,decide_true,if_true,WY (show lo+hi < 1000000000 by omega),bS,hx,Option.bind_some,e]
      by_cases hk:ky x.Id < ky d
      · simp only[hk,if_true,show decide ((-1:Int) < 0)=true from rfl,aK]
        rw[jA (by omega)]
        exact bis hr hd hl G ((lo+hi) / 2+1) hi (by omega) h2 (by omega) (λj y hy hj=>by
          rcases Nat.lt_or_ge j ((lo+hi) / 2) with q | q
          · exact Int.lt_trans (hr.2 _ _ _ _ hy hx q) hk
          · obtain rfl:j=(lo+hi) / 2:=by omega
            rw[hx] at hy; cases hy; exact hk) h5
      · have e2:decide ((if ky x.Id < ky d then (-1:Int) else if ky d < ky x.Id then 1 else 0) < 0)=false:=by rw[if_neg hk]; split <;> rfl
        simp only[e2,Bool.false_eq_true,if_false,aK]
        exact bis hr hd hl G lo ((lo+hi) / 2) (by omega) (by omega) (by omega) h4 (λj y hy hj=>by
          rcases Nat.lt_or_ge ((lo+hi) / 2) j with q | q
          · have:=hr.2 _ _ _ _ hx hy q; omega
          · obtain rfl:j=(lo+hi) / 2:=by omega
            rw[hx] at hy; cases hy; omega)
    · obtain rfl:lo=hi:=by omega
      refine⟨lo,h2, ?_,h4,h5⟩
      simp
def kG (l:List aA) (d:bP):Bool:=l.any λx=>decide (x.Id=d)
theorem WZ {F:Nat} {l:List aA} {d:bP} (hF:1000≤F) (hr:vD l) (hd:mK d) (hl:l.length < 1000):∃p:Int,uW F l d=some (p,kG l d):=by
 unfold uW KX
 obtain⟨p,hp,e,h1,h2⟩:=bis (F:=F) hr hd hl F 0 l.length (by omega) (Nat.le_refl _) (by omega) (λj x _ hj=>by omega) (λj x hx hj=>by have:=(List.getElem?_eq_some_iff.1 hx).1; omega)
 rw[show ((0:Int),(l.length:Int))=(((0:Nat):Int),(l.length:Int)) from rfl,e]
 simp only[aK]
 refine⟨p, ?_⟩
 by_cases hlt:p < l.length
 ·have hx:l[p]? =some l[p]:=List.getElem?_eq_getElem hlt
  have hmem:=List.getElem_mem hlt
  generalize l[p]=x at hx hmem
  have gx:=hr.1 x hmem
  have e:yE F x d=some (if ky x.Id < ky d then -1 else if ky d < ky x.Id then 1 else 0):=by unfold yE; rw[LD F gx hd]; rfl
  simp only[Int.ofNat_lt,hlt,decide_true,if_true,bS,hx,Option.bind_some,e,aK]
  have hge:=h2 p x hx (Nat.le_refl _)
  have:kG l d=((if ky x.Id < ky d then (-1:Int) else if ky d < ky x.Id then 1 else 0)==0):=by
   rw[if_neg (by omega)]
   unfold kG
   by_cases hk:ky d < ky x.Id
   ·rw[if_pos hk]
    rw[List.any_eq_false.2]
    ·rfl
    intro y hy
    obtain⟨j,hj,rfl⟩:=List.getElem_of_mem hy
    have hy':l[j]? =some l[j]:=List.getElem?_eq_getElem hj
    simp only[decide_eq_true_eq]
    intro he
    rcases Nat.lt_or_ge j p with q | q
    ·have:=h1 j _ hy' q
     rw[he] at this; omega
    ·rcases Nat.lt_or_ge p j with q2 | q2
     ·have:=hr.2 _ _ _ _ hx hy' q2
      rw[he] at this; omega
     ·obtain rfl:j=p:=by omega
      rw[hy'] at hx; cases hx
      rw[he] at hk; omega
   ·rw[if_neg hk]
    refine List.any_eq_true.2 ⟨x,hmem, ?_⟩
    simp only[decide_eq_true_eq]
    exact LC gx hd (by omega)
  rw[this]
 ·have hn:¬((p:Int) < (l.length:Int)):=by omega
  simp only[hn,decide_false,Bool.false_eq_true,if_false,aK,Option.bind_some]
  have:kG l d=false:=by
   unfold kG
   refine List.any_eq_false.2 λy hy=> ?_
   obtain⟨j,hj,rfl⟩:=List.getElem_of_mem hy
   have:=h1 j _ (List.getElem?_eq_getElem hj) (by omega)
   simp only[decide_eq_true_eq]
   intro he
   rw[he] at this; omega
  rw[this]
theorem HC {ρ:Type} {body:Int→Option (Lp Int ρ)} {c:Nat→Bool} {n:Nat} (hb:∀i:Nat,i≤n→body (i:Int)=some (if c i then .go ((i+1:Nat):Int) else .brk (i:Int))) (hn:c n=false):∀(G k:Nat),k≤n→n - k < G→
    ∃p:Nat,p≤n∧c p=false∧aW body G (k:Int)=some (.brk (p:Int))
  | 0,_,_,h=>by omega
  | G+1,k,hk,h=>by
    unfold aW
    rw[hb k hk]
    cases hc:c k
    · exact⟨k,hk,hc,by simp⟩
    · have:k≠n:=by rintro rfl; rw[hn] at hc; cases hc
      obtain⟨p,h1,h2,h3⟩:=HC hb hn G (k+1) (by omega) (by omega)
      exact⟨p,h1,h2,by simpa using h3⟩
theorem o9 {S ρ:Type} {body:S→Option (Lp S ρ)} {I:Nat→S→Prop} {n:Nat} (hb:∀i s,i < n→I i s→∃s',body s=some (.go s')∧I (i+1) s') (he:∀s,I n s→body s=some (.brk s)):∀(G k:Nat) (s:S),k≤n→n - k < G→I k s→
    ∃s',I n s'∧aW body G s=some (.brk s')
  | 0,_,_,_,h,_=>by omega
  | G+1,k,s,hk,h,hi=>by
    unfold aW
    by_cases e:k=n
    · subst e
      rw[he s hi]
      exact⟨s,hi,rfl⟩
    · obtain⟨s',h1,h2⟩:=hb k s (by omega) hi
      rw[h1]
      exact o9 hb he G (k+1) s' (by omega) (by omega) h2
theorem aCT {F:Nat} {l:List bP} {d:bP} (hF:1000≤F) (hl:l.length < 600) (gl:∀x∈l,mK x) (hd:mK d):
    ∃r,DN F l d=some r∧(∀x,x∈r.1↔x∈l∨x=d)∧r.1.length≤l.length+1:=by
  unfold DN
  obtain⟨p,h1,h2,h3⟩:=HC (body:=rK F l d) (n:=l.length) (c:=λi=>(l[i]?).any λx=>decide (ky x < ky d)) (λi hi=>by
    unfold rK
    rw[jA (by omega)]
    by_cases hlt:i < l.length
    · have hx:l[i]? =some l[i]:=List.getElem?_eq_getElem hlt
      simp only[Int.ofNat_lt,hlt,decide_true,if_true,bS,hx,Option.bind_some,WW hF (gl _ (List.getElem_mem hlt)) hd,aK,Option.any_some]
      split <;> rfl
    · have hx:l[i]? =none:=List.getElem?_eq_none (by omega)
      simp[Int.ofNat_lt,hlt,hx,aK]) (by simp) F 0 (by omega) (by omega)
  rw[show (0:Int)=((0:Nat):Int) from rfl,h3]
  simp only[aK]
  have hins:(slc l 0 (p:Int)).bind (λx84=>(app ([]:List bP) x84).bind λz86=>(app z86 ([d]:List bP)).bind λz92=>(slc l (p:Int) (l).length).bind λx98=>(app z92 x98).bind λz100=>some (z100,(p:Int),true))
      =some (l.take p++ [d]++l.drop p,(p:Int),true):=by
    unfold slc
    rw[if_pos (by omega),if_pos (by omega)]
    simp only[Option.bind_some,Int.toNat_natCast]
    rw[dS (by simp; omega)]
    simp only[Option.bind_some,List.nil_append]
    rw[dS (by simp; omega)]
    simp only[Option.bind_some]
    rw[dS (by simp; omega)]
    simp
  have hmem:∀x,x∈l.take p++ [d]++l.drop p↔x∈l∨x=d:=by
    intro x
    simp only[List.mem_append,List.mem_singleton]
    rw[show (x∈l∨x=d)↔((x∈l.take p∨x∈l.drop p)∨x=d) from by rw[← List.mem_append,List.take_append_drop]]
    constructor
    · rintro((h | h) | h) <;> simp[h]
    · rintro((h | h) | h) <;> simp[h]
  by_cases hlt:p < l.length
  · have hx:l[p]? =some l[p]:=List.getElem?_eq_getElem hlt
    simp only[Int.ofNat_lt,hlt,decide_true,if_true,bS,hx,Option.bind_some,aK]
    by_cases he:l[p]=d
    · refine⟨(l,(p:Int),false),by simp[he],λx=> ?_,by simp⟩
      constructor
      · exact .inl
      · rintro(h | rfl)
        · exact h
        · rw[← he]; exact List.getElem_mem hlt
    · rw[if_neg (by simpa using he)]
      exact⟨_,hins,hmem,by simp; omega⟩
  · have hn:¬((p:Int) < (l.length:Int)):=by omega
    simp only[hn,decide_false,Bool.false_eq_true,if_false,aK]
    exact⟨_,hins,hmem,by simp; omega⟩
open Go.Vm
theorem FY {a b:ByteArray} (h:a.toList=b.toList):a=b:=Go.WideShapes.bytes_inj (by rwa [Go.Lib.toList_data,Go.Lib.toList_data] at h)
theorem gsn {c:aB} (h:Sm c) {s:aG} (hs:s∈c.Snaps):gI s.Seq∧∀p∈s.Man.Parts,∀d∈p.Ids,mK d:=by
 have:=h.g.2.1 s hs
 exact⟨this.1,λp hp d hd=>(this.2.1.2 p hp).2.2 d hd⟩
theorem m63 {F:Nat} {m:bF} (hF:1000≤F) (hp:m.Parts.length≤10) (hi:∀p∈m.Parts,p.Ids.length≤40) (hg:∀p∈m.Parts,∀d∈p.Ids,mK d):
    ∃ids,WE F m=some ids∧(∀x,x∈ids↔∃p∈m.Parts,x∈p.Ids)∧ids.length≤400:=by
  unfold WE
  let I:Nat→List bP×Int→Prop:=λi s=>s.2=(i:Int)∧s.1.length≤40*i∧∀x,x∈s.1↔∃p∈m.Parts.take i,x∈p.Ids
  obtain⟨s,⟨h1,h2,h3⟩,h4⟩:=o9 (body:=λs:List bP×Int=>tU F m s.1 s.2) (I:=I) (n:=m.Parts.length) (λi s hi' hI=>by
      obtain⟨l,q⟩:=s
      obtain⟨rfl,hl,hm⟩:=hI
      simp only at hl hm
      have hx:m.Parts[i]? =some m.Parts[i]:=List.getElem?_eq_getElem hi'
      have hmem:=List.getElem_mem hi'
      have htk:m.Parts.take (i+1)=m.Parts.take i++ [m.Parts[i]]:=by simp
      generalize m.Parts[i]=p at hx hmem htk
      have hpi:=hi p hmem
      have hgp:=hg p hmem
      have hgl:∀x∈l,mK x:=λx hx=>by
        obtain⟨p',hp',hx'⟩:=(hm x).1 hx
        exact hg p' (List.mem_of_mem_take hp') x hx'
      let J:Nat→List bP×Int→Prop:=λk s=>s.2=(k:Int)∧s.1.length≤40*i+k∧∀x,x∈s.1↔(x∈l∨x∈p.Ids.take k)
      obtain⟨t,⟨j1,j2,j3⟩,j4⟩:=o9 (ρ:=Lp (List bP×Int) (List bP)) (body:=λs:List bP×Int=>tT F m (i:Int) s.1 s.2) (I:=J) (n:=p.Ids.length) (λk s hk hJ=>by
          obtain⟨u,q⟩:=s
          obtain⟨rfl,hu,hv⟩:=hJ
          simp only at hu hv
          have hd:p.Ids[k]? =some p.Ids[k]:=List.getElem?_eq_getElem hk
          have hdm:=List.getElem_mem hk
          have hdk:p.Ids.take (k+1)=p.Ids.take k++ [p.Ids[k]]:=by simp
          generalize p.Ids[k]=d at hd hdm hdk
          obtain⟨r,r1,r2,r3⟩:=aCT (F:=F) (l:=u) (d:=d) hF (by omega) (λx hx=>by
            rcases(hv x).1 hx with q | q
            · exact hgl x q
            · exact hgp x (List.mem_of_mem_take q)) (hgp d hdm)
          refine⟨(r.1,((k+1:Nat):Int)), ?_,rfl,by simp only; omega,λx=> ?_⟩
          · unfold tT
            rw[jA (by omega)]
            simp only[bS,hx,Option.bind_some,Int.ofNat_lt,hk,decide_true,if_true,hd,r1]
          · simp only[r2,hv,hdk,List.mem_append,List.mem_singleton,or_assoc]) (λs hs=>by
          obtain⟨u,q⟩:=s
          obtain⟨rfl, -, -⟩:=hs
          unfold tT
          simp[bS,hx]) F 0 (l,0) (by omega) (by omega) ⟨rfl,by simp only; omega,by simp⟩
      refine⟨(t.1,((i+1:Nat):Int)), ?_,rfl,by simp only; omega,λx=> ?_⟩
      · unfold tU
        rw[jA (by omega)]
        simp only[Int.ofNat_lt,hi',decide_true,if_true,j4,aK]
      · simp only[j3,hm,htk,List.take_length,List.mem_append,List.mem_singleton]
        constructor
        · rintro(⟨p',hp',hx'⟩ | hx')
          · exact⟨p',.inl hp',hx'⟩
          · exact⟨p,.inr rfl,hx'⟩
        · rintro⟨p',hp' | rfl,hx'⟩
          · exact .inl ⟨p',hp',hx'⟩
          · exact .inr hx') (λs hs=>by
      obtain⟨u,q⟩:=s
      obtain⟨rfl, -, -⟩:=hs
      unfold tU
      simp) F 0 ([],0) (by omega) (by omega) ⟨rfl,by simp,by simp⟩
  rw[h4]
  exact⟨s.1,by simp only[aK],by simpa using h3,by omega⟩
theorem m64 {F:Nat} {c:aB} {d:bP} (hF:1000≤F) (hl:c.Chunks.length < 1000):∃n:Int,NP F c d=some n∧(decide (n < 0))= !kG c.Chunks d:=by
 have:=rO (l:=c.Chunks) (λx=>decide (x.Id=d)) (F:=F) (body:=o8 F c d) (by omega) (λi hi=>by
  unfold o8
  have hx:c.Chunks[i]? =some c.Chunks[i]:=List.getElem?_eq_getElem hi
  rw[jA (by omega)]
  simp only[bS,hx,Option.bind_some,Int.ofNat_lt,hi,decide_true,if_true,Option.any_some]
  split <;> rfl) (by unfold o8; simp)
 rw[show (after (aW (o8 F c d) F 0) λ_=>some (-1))=NP F c d from rfl] at this
 obtain⟨n,h1,h2⟩:=Option.bind_eq_some_iff.1 this
 refine⟨n,h1, ?_⟩
 have h3:=Option.some.inj h2
 unfold kG
 rw[← h3,← decide_not]
 congr 1
 simp
theorem m50 {F:Nat} {c:aB} {i:Nat} {s:aG} (hF:1000≤F) (hl:c.Snaps.length < 1000) (hs:c.Snaps[i]? =some s):
    ∃n:Int,yH F c s.Man.Name=some n∧(n !=(i:Int))=(c.Snaps.take i).any λy=>s.Man.Name==y.Man.Name:=by
  have hi:i < c.Snaps.length:=(List.getElem?_eq_some_iff.1 hs).1
  have hsi:c.Snaps[i]=s:=by have:=List.getElem?_eq_getElem hi; rw[hs] at this; exact(Option.some.inj this).symm
  unfold yH
  rw[e8 (s0:=(0:Int)) (n:=c.Snaps.length) (F:=F) (λi:Nat=>(i:Int)) (λi=>(c.Snaps[i]?).any λy=>y.Man.Name.toList==s.Man.Name.toList) (λi=>(i:Int)) (by omega) rfl]
  · unfold LF
    have hp:((c.Snaps[i]?).any λy=>y.Man.Name.toList==s.Man.Name.toList)=true:=by rw[hs]; simp
    cases h:(List.range c.Snaps.length).find? λi=>(c.Snaps[i]?).any λy=>y.Man.Name.toList==s.Man.Name.toList with
    | none=>
      have:=List.find?_eq_none.1 h i (List.mem_range.2 hi)
      exact absurd hp this
    | some k=>
      refine⟨(k:Int),rfl, ?_⟩
      obtain⟨hk1,hk2,hk3⟩:=List.find?_range_eq_some.1 h
      rw[Bool.eq_iff_iff]
      simp only[bne_iff_ne,ne_eq,List.any_eq_true]
      have hkl:k < c.Snaps.length:=List.mem_range.1 hk2
      rw[List.getElem?_eq_getElem hkl] at hk1
      simp only[Option.any_some,beq_iff_eq] at hk1
      constructor
      · intro hne
        have hki:k < i:=by
          rcases Nat.lt_or_ge k i with q | q
          · exact q
          · have:=hk3 i (by omega)
            rw[hp] at this; cases this
        refine⟨c.Snaps[k], ?_, ?_⟩
        · rw[List.mem_take_iff_getElem]
          exact⟨k,by omega,rfl⟩
        · exact(kJ _ _).2 (FY hk1.symm)
      · rintro⟨y,hy,he⟩ hc
        rw[List.mem_take_iff_getElem] at hy
        obtain⟨j,hj,rfl⟩:=hy
        have:=hk3 j (by omega)
        rw[List.getElem?_eq_getElem (by omega)] at this
        rw[(kJ _ _).1 he] at this
        simp at this
  · intro j hj _
    unfold n3
    have hx:c.Snaps[j]? =some c.Snaps[j]:=List.getElem?_eq_getElem hj
    rw[jA (by omega)]
    simp only[bS,hx,Option.bind_some,Int.ofNat_lt,hj,decide_true,if_true,Option.any_some]
    split <;> rfl
  · intro _; unfold n3; simp
def NQ (c:aB) (m:bF):Bool:=m.Parts.all λp=>p.Ids.all λd=>kG c.Chunks d
def CQ (c:aB) (i:Nat):Bool:=match c.Snaps[i]? with
 | none=>true
 | some s=>gP s.Seq 0 (c.Seq - 1) && (i==0 || (match c.Snaps[i - 1]? with | none=>true | some y=>decide (y.Seq < s.Seq))) && !((c.Snaps.take i).any λy=>s.Man.Name==y.Man.Name) && tY s.Man && iR c s.Locs
def EP (c:aB) (i:Nat):Bool:=match c.Snaps[i]? with
 | none=>true
 | some s=>NQ c s.Man
def QM (c:aB) (i:Nat):Bool:=match c.Snaps[i]? with
 | none=>true
 | some s=> !c.Exps.any λx=>x.Of==s.Seq
def QN (c:aB) (i:Nat):List ByteArray:=(c.Snaps.take i).foldl (λl s=>lU l s.Man.Name) []
theorem PA (c:aB) (x:ByteArray):∀i,((QN c i).any λz=>x==z)=(c.Snaps.take i).any λy=>x==y.Man.Name:=by
 have:∀(l:List aG) (acc:List ByteArray),((l.foldl (λl s=>lU l s.Man.Name) acc).any λz=>x==z)=((acc.any λz=>x==z) || l.any λy=>x==y.Man.Name):=by
  intro l
  induction l with
  | nil=>simp
  | cons s l ih=>
   intro acc
   rw[List.foldl_cons,ih,List.any_cons,← Bool.or_assoc]
   congr 1
   unfold lU
   split
   ·rename_i h
    rw[Bool.eq_iff_iff]
    simp only[Bool.or_eq_true,List.any_eq_true] at h ⊢
    constructor
    ·exact .inl
    ·rintro(q | q)
     ·exact q
     ·obtain⟨y,hy,he⟩:=h
      rw[(kJ _ _).1 q,(kJ _ _).1 he]
      exact⟨y,hy,(kJ _ _).2 rfl⟩
   ·simp
 intro i
 rw[QN,this]
 simp
open Go.Vm
theorem SW {F:Nat} {c:aB} {s:aG} (hF:1000≤F) (h:Sm c) (hr:vD c.Chunks) (hs:s∈c.Snaps):
    aW (λq=>tP F c s q) F 0=some (if !NQ c s.Man then .ret (.ret false) else .brk (s.Man.Parts.length:Int)):=by
  obtain⟨-,h2,h3⟩:=h.man s hs
  have hg:=(gsn h hs).2
  have hc:=h.ch
  rw[e8 (s0:=(0:Int)) (n:=s.Man.Parts.length) (F:=F) (λi:Nat=>(i:Int)) (λi=>(s.Man.Parts[i]?).any λp=> !p.Ids.all λd=>kG c.Chunks d) (λ_=>.ret false) (by omega) rfl,hX,iG,rN]
  · rfl
  · intro i hi _
    unfold tP
    have hx:s.Man.Parts[i]? =some s.Man.Parts[i]:=List.getElem?_eq_getElem hi
    have hm:=List.getElem_mem hi
    generalize s.Man.Parts[i]=p at hx hm
    have h4:=(h3 p hm).2
    rw[jA (by omega)]
    simp only[bS,hx,Option.bind_some,Int.ofNat_lt,hi,decide_true,if_true,Option.any_some]
    rw[e8 (s0:=(0:Int)) (n:=p.Ids.length) (F:=F) (λi:Nat=>(i:Int)) (λi=>(p.Ids[i]?).any λd=> !kG c.Chunks d) (λ_=>.ret (.ret false)) (by omega) rfl,hX,iG,rN]
    · cases p.Ids.all λd=>kG c.Chunks d <;> simp[after]
    · intro k hk _
      unfold wT
      have hd:p.Ids[k]? =some p.Ids[k]:=List.getElem?_eq_getElem hk
      have hdm:=List.getElem_mem hk
      generalize p.Ids[k]=d at hd hdm
      obtain⟨z,hz⟩:=WZ (F:=F) (l:=c.Chunks) (d:=d) hF hr (hg p hm d hdm) (by omega)
      rw[jA (by omega)]
      simp only[bS,hd,Option.bind_some,Int.ofNat_lt,hk,decide_true,if_true,Option.any_some,hz]
      split <;> rfl
    · intro _; unfold wT; simp
  · intro _; unfold tP; simp
theorem LI {c:aB} {i:Nat} {s:aG} (hx:c.Snaps[i]? =some s):QN c (i+1)=lU (QN c i) s.Man.Name:=by
 unfold QN
 have hi:=(List.getElem?_eq_some_iff.1 hx)
 obtain⟨hi,rfl⟩:=hi
 rw[List.take_succ_eq_append_getElem hi,List.foldl_append]
 rfl
theorem SX {F:Nat} {c:aB} (hF:1000≤F) (h:Sm c) (hr:vD c.Chunks) (hq:gP c.Seq 0 1073741824=true) {i:Nat} (hi:i < c.Snaps.length):
    tQ F c (QN c i) i=some (if !(CQ c i && EP c i) then .ret false else .go (QN c (i+1),((i+1:Nat):Int))):=by
  have hv:=h.vo
  have hsn:=h.sn
  have hq':0≤c.Seq∧c.Seq≤1073741824:=by simpa [gP] using hq
  unfold tQ CQ EP
  have hx:c.Snaps[i]? =some c.Snaps[i]:=List.getElem?_eq_getElem hi
  have hm:=List.getElem_mem hi
  generalize c.Snaps[i]=x at hx hm
  rw[jA (by omega),wr (n:=c.Seq - 1) (by omega) (by omega),LI hx]
  simp only[bS,hx,SO,m73 hF,SP hF (show c.Vols.length < 1000 by omega),Option.bind_some,cU,aK,dC,dJ,Int.ofNat_lt,hi,decide_true,if_true,PA,SW hF h hr hm]
  generalize ((c.Snaps.take i).any λy=>x.Man.Name==y.Man.Name)=nb
  generalize iR c x.Locs=lb
  generalize NQ c x.Man=pb
  have e1:((if tY x.Man=true then (0:Int) else 1) !=0)= !tY x.Man:=by cases tY x.Man <;> rfl
  rw[e1]
  generalize tY x.Man=mb
  generalize gP x.Seq 0 (c.Seq - 1)=ib
  by_cases h0:i=0
  · subst h0
    cases nb <;> cases lb <;> cases pb <;> cases mb <;> cases ib <;> simp[aK,dC]
  · have h5:c.Snaps[i - 1]? =some c.Snaps[i - 1]:=List.getElem?_eq_getElem (by omega)
    generalize c.Snaps[i - 1]=y at h5
    rw[wV (by omega) (by omega)]
    have h7:(0:Int) < i:=by omega
    have h8:(i==0)=false:=by simpa using h0
    have e4:decide (x.Seq≤y.Seq)= !decide (y.Seq < x.Seq):=by rw[← decide_not]; congr 1; simp
    simp only[bS,h5,h7,h8,e4,Option.bind_some,decide_true,if_true,Bool.false_or]
    generalize decide (y.Seq < x.Seq)=od
    cases nb <;> cases lb <;> cases pb <;> cases mb <;> cases ib <;> cases od <;> simp[aK,dC]
def BK (c:aB):Bool:= !(List.range c.Snaps.length).any λi=> !(CQ c i && EP c i)
theorem m71 {F:Nat} {c:aB} (hF:1000≤F) (h:Sm c) (hr:vD c.Chunks) (hq:gP c.Seq 0 1073741824=true):V7 F c=some (BK c && decide (c.Snaps.length≤8)):=by
 have hc:=h.sn
 unfold V7 BK
 rw[e8 (s0:=(([]:List ByteArray),(0:Int))) (n:=c.Snaps.length) (F:=F) (λi:Nat=>(QN c i,(i:Int))) (λi=> !(CQ c i && EP c i)) (λ_=>false) (by omega) rfl,hX]
 ·cases (List.range c.Snaps.length).any λi=> !(CQ c i && EP c i) <;> simp[after]; omega
 ·exact λi hi _=>SX hF h hr hq hi
 ·intro _; unfold tQ; simp
theorem SY {F:Nat} {c:aB} (hF:1000≤F) (h:Sm c) {i:Nat} (hi:i < c.Snaps.length):
    qI F c i=some (if !(CQ c i && EP c i && QM c i) then .ret false else .go ((i+1:Nat):Int)):=by
  have hv:=h.vo
  have hsn:=h.sn
  have hch:=h.ch
  have hex:=h.ex
  unfold qI CQ EP QM gP
  have hx:c.Snaps[i]? =some c.Snaps[i]:=List.getElem?_eq_getElem hi
  have hm:=List.getElem_mem hi
  generalize c.Snaps[i]=x at hx hm
  obtain⟨k1,k2,k3⟩:=h.man x hm
  obtain⟨ids,i1,i2,i3⟩:=m63 (F:=F) (m:=x.Man) hF k2 (λp hp=>(k3 p hp).2) (gsn h hm).2
  obtain⟨n,n1,n2⟩:=m50 (F:=F) hF (by omega) hx
  rw[jA (by omega)]
  have l7:aW (λs=>tV F c ids s) F 0=some (if !NQ c x.Man then .ret (.ret false) else .brk (ids.length:Int)):=by
    rw[e8 (s0:=(0:Int)) (n:=ids.length) (F:=F) (λi:Nat=>(i:Int)) (λi=>(ids[i]?).any λd=> !kG c.Chunks d) (λ_=>.ret false) (by omega) rfl,hX,iG,rN]
    · have:NQ c x.Man=ids.all λd=>kG c.Chunks d:=by
        rw[Bool.eq_iff_iff]
        simp only[NQ,List.all_eq_true]
        constructor
        · intro q d hd
          obtain⟨p,hp,hd'⟩:=(i2 d).1 hd
          exact q p hp d hd'
        · intro q p hp d hd
          exact q d ((i2 d).2 ⟨p,hp,hd⟩)
      rw[this]
    · intro k hk _
      unfold tV
      have hd:ids[k]? =some ids[k]:=List.getElem?_eq_getElem hk
      generalize ids[k]=d at hd
      obtain⟨z,hz,hz2⟩:=m64 (F:=F) (c:=c) (d:=d) hF (by omega)
      rw[jA (by omega)]
      simp only[bS,hd,Option.bind_some,Int.ofNat_lt,hk,decide_true,if_true,Option.any_some,hz,hz2]
      split <;> rfl
    · intro _; unfold tV; simp
  have l9:aW (λs=>tW F c x s) F 0=some (if c.Exps.any λy=>y.Of==x.Seq then .ret (.ret false) else .brk (c.Exps.length:Int)):=by
    rw[e8 (s0:=(0:Int)) (n:=c.Exps.length) (F:=F) (λi:Nat=>(i:Int)) (λi=>(c.Exps[i]?).any λy=>y.Of==x.Seq) (λ_=>.ret false) (by omega) rfl,hX,iG]
    · intro k hk _
      unfold tW
      have hd:c.Exps[k]? =some c.Exps[k]:=List.getElem?_eq_getElem hk
      rw[jA (by omega)]
      simp only[bS,hd,Option.bind_some,Int.ofNat_lt,hk,decide_true,if_true,Option.any_some]
      split <;> rfl
    · intro _; unfold tW; simp
  simp only[bS,hx,m62 hF k1 (λp hp=>(k3 p hp).1),m61 hF (show c.Vols.length < 1000 by omega),n1,n2,i1,l7,l9,Option.bind_some,cU,aK,dC,dJ,Int.ofNat_lt,hi,decide_true,if_true]
  generalize ((c.Snaps.take i).any λy=>x.Man.Name==y.Man.Name)=nb
  generalize iR c x.Locs=lb
  generalize NQ c x.Man=pb
  generalize (c.Exps.any λy=>y.Of==x.Seq)=xb
  generalize tY x.Man=mb
  have e1:decide (x.Seq < 0)= !decide (0≤x.Seq):=by rw[← decide_not]; congr 1; simp
  have e2:decide (c.Seq≤x.Seq)= !decide (x.Seq≤c.Seq - 1):=by rw[← decide_not]; congr 1; simp; omega
  rw[e1,e2]
  generalize decide (0≤x.Seq)=d1
  generalize decide (x.Seq≤c.Seq - 1)=d2
  by_cases h0:i=0
  · subst h0
    cases nb <;> cases lb <;> cases pb <;> cases mb <;> cases d1 <;> cases d2 <;> cases xb <;> simp[aK,dC]
  · have h5:c.Snaps[i - 1]? =some c.Snaps[i - 1]:=List.getElem?_eq_getElem (by omega)
    generalize c.Snaps[i - 1]=y at h5
    rw[wV (by omega) (by omega)]
    have h7:(0:Int) < i:=by omega
    have h8:(i==0)=false:=by simpa using h0
    have e4:decide (x.Seq≤y.Seq)= !decide (y.Seq < x.Seq):=by rw[← decide_not]; congr 1; simp
    simp only[bS,h5,h7,h8,e4,Option.bind_some,decide_true,if_true,Bool.false_or]
    generalize decide (y.Seq < x.Seq)=od
    cases nb <;> cases lb <;> cases pb <;> cases mb <;> cases d1 <;> cases d2 <;> cases xb <;> cases od <;> simp[aK,dC]
def iP (c:aB):Bool:=gP c.Seq 0 1073741824 && (c.Vols.all nH && gP c.Vols.length 1 8) && (tX c && decide (c.Chunks.length≤200)) && (BK c && decide (c.Snaps.length≤8)) && (yI c && decide (c.Exps.length≤200))
theorem m33 {F:Nat} {c:aB} (hF:1000≤F) (h:Sm c):T6 F c=some (if iP c then 0 else 1):=by
 have hv:=h.vo
 unfold T6 iP
 simp only[SO,m69 hF hv,m70 hF h,Option.bind_some,cU,aK,dJ]
 cases hq:gP c.Seq 0 1073741824
 ·simp
 ·cases hv':(c.Vols.all nH && gP c.Vols.length 1 8)
  ·simp
  ·cases hc:tX c
   ·simp
   ·have hr:=SV h hc
    simp only[m71 hF h hr hq,m72 hF h hq,Option.bind_some,dJ,cU,aK]
    generalize decide (c.Chunks.length≤200)=a
    generalize (BK c && decide (c.Snaps.length≤8))=b
    generalize (yI c && decide (c.Exps.length≤200))=d
    cases a <;> cases b <;> cases d <;> simp
theorem rQ {n:Nat} (p q:Nat→Bool):((List.range n).any λi=> !(p i && q i))=(((List.range n).any λi=> !p i) || (List.range n).any λi=> !q i):=by
 rw[Bool.eq_iff_iff]
 simp only[Bool.or_eq_true,List.any_eq_true,Bool.not_eq_true',Bool.and_eq_false_iff]
 constructor
 ·rintro⟨i,hi,q | q⟩
  ·exact .inl ⟨i,hi,q⟩
  ·exact .inr ⟨i,hi,q⟩
 ·rintro(⟨i,hi,q⟩ | ⟨i,hi,q⟩)
  ·exact⟨i,hi,.inl q⟩
  ·exact⟨i,hi,.inr q⟩
theorem W0 (c:aB):((List.range c.Snaps.length).any λi=> !QM c i)=(List.range c.Exps.length).any λi=> !IV c i:=by
 have h1:((List.range c.Snaps.length).any λi=> !QM c i)=c.Snaps.any λs=>c.Exps.any λx=>x.Of==s.Seq:=by
  refine Eq.trans ?_ (iG c.Snaps _)
  congr 1
  funext i
  unfold QM
  cases c.Snaps[i]? <;> simp
 have h2:((List.range c.Exps.length).any λi=> !IV c i)=c.Exps.any λx=>c.Snaps.any λs=>s.Seq==x.Of:=by
  refine Eq.trans ?_ (iG c.Exps _)
  congr 1
  funext i
  unfold IV
  cases c.Exps[i]? <;> simp
 rw[h1,h2,Bool.eq_iff_iff]
 simp only[List.any_eq_true,beq_iff_eq]
 constructor
 ·rintro⟨s,hs,x,hx,e⟩; exact⟨x,hx,s,hs,e.symm⟩
 ·rintro⟨x,hx,s,hs,e⟩; exact⟨s,hs,x,hx,e.symm⟩
theorem m19 {F:Nat} {c:aB} (hF:1000≤F) (h:Sm c):SM F c=some (iP c):=by
 have hv:=h.vo
 have hsn:=h.sn
 have hch:=h.ch
 have hex:=h.ex
 have l0:aW (λs=>qG F c s) F 0=some (if !c.Vols.all nH then .ret false else .brk (c.Vols.length:Int)):=by
  rw[e8 (s0:=(0:Int)) (n:=c.Vols.length) (F:=F) (λi:Nat=>(i:Int)) (λi=>(c.Vols[i]?).any λv=> !nH v) (λ_=>false) (by omega) rfl,hX,iG,rN]
  ·exact λi hi _=>SR hF h hi
  ·intro _; unfold qG; simp
 have l3:aW (λs=>qH F c s) F 0=some (if !tX c then .ret false else .brk (c.Chunks.length:Int)):=by
  rw[e8 (s0:=(0:Int)) (n:=c.Chunks.length) (F:=F) (λi:Nat=>(i:Int)) (λi=> !HB c i) (λ_=>false) (by omega) rfl,hX]
  ·unfold tX; rw[Bool.not_not]
  ·exact λi hi _=>SQ hF h hi
  ·intro _; unfold qH; simp
 have l5:aW (λs=>qI F c s) F 0=some (if (List.range c.Snaps.length).any λi=> !(CQ c i && EP c i && QM c i) then .ret false else .brk (c.Snaps.length:Int)):=by
  rw[e8 (s0:=(0:Int)) (n:=c.Snaps.length) (F:=F) (λi:Nat=>(i:Int)) (λi=> !(CQ c i && EP c i && QM c i)) (λ_=>false) (by omega) rfl,hX]
  ·exact λi hi _=>SY hF h hi
  ·intro _; unfold qI; simp
 have l11:aW (λs=>n4 F c s) F 0=some (if (List.range c.Exps.length).any λi=> !xV c i then .ret false else .brk (c.Exps.length:Int)):=by
  rw[e8 (s0:=(0:Int)) (n:=c.Exps.length) (F:=F) (λi:Nat=>(i:Int)) (λi=> !xV c i) (λ_=>false) (by omega) rfl,hX]
  ·exact λi hi _=>OZ hF h hi
  ·intro _; unfold n4; simp
 have hs:BK c= !(List.range c.Snaps.length).any λi=> !(CQ c i && EP c i):=rfl
 have he:yI c= !(((List.range c.Exps.length).any λi=> !xV c i) || (List.range c.Exps.length).any λi=> !IV c i):=by unfold yI; rw[rQ]
 unfold SM iP
 rw[rQ (λi=>CQ c i && EP c i) (QM c),W0] at l5
 simp only[WV,l0,l3,l5,l11,hs,he,Option.bind_some,cU,aK,dJ]
 generalize ((List.range c.Snaps.length).any λi=> !(CQ c i && EP c i))=a1
 generalize ((List.range c.Exps.length).any λi=> !xV c i)=a2
 generalize ((List.range c.Exps.length).any λi=> !IV c i)=a3
 generalize c.Vols.all nH=a4
 generalize tX c=a5
 generalize gP c.Seq 0 1073741824=a6
 generalize gP c.Vols.length 1 8=a7
 have f1:decide (8 < (c.Snaps.length:Int))= !decide (c.Snaps.length≤8):=by rw[← decide_not]; congr 1; simp; omega
 have f2:decide (200 < (c.Chunks.length:Int))= !decide (c.Chunks.length≤200):=by rw[← decide_not]; congr 1; simp; omega
 have f3:decide (200 < (c.Exps.length:Int))= !decide (c.Exps.length≤200):=by rw[← decide_not]; congr 1; simp; omega
 rw[f1,f2,f3]
 generalize decide (c.Snaps.length≤8)=b1
 generalize decide (c.Chunks.length≤200)=b2
 generalize decide (c.Exps.length≤200)=b3
 cases a6 <;> cases b1 <;> cases b2 <;> cases b3 <;> cases a7 <;> cases a4 <;> cases a5 <;> cases a1 <;> cases a2 <;> cases a3 <;> rfl
open Go.Vm
def w5 (m:Nat) (p0:List bK):Option ((List bK)):=
 (app ([]:List bK) p0).bind λz4=>some z4
theorem LJ {w:Nat} {p0:List bK} {o:(List bK)} (h:aE) (m:w5 w p0=some o):
 aL Tryz.prog 151 [.sl none 4 (List.map aQ p0)] h (λr h'=>r= .sl none 4 (List.map aQ o)∧h'=h):=by
 refine fY 7 [.tmp 2] Tryz.func151 rfl rfl rfl rfl ?_
 unfold w5 at m
 refine v (v (v ?_))
 obtain⟨z4,Z5,m⟩:=aC m
 refine ve λu=>nS (c:=aQ) Z5 oO rfl rfl u nofun rfl λtg6 t7 K8=>qk K8 rfl (v ?_)
 obtain rfl:=eY m
 exact vr λu=>dV.of1 (.inl rfl) (fP _ _ (ow _ _ _) rfl) (aR (List.nil_sublist _) u).1 ((eS _ 0 t7 u rfl)) ⟨rfl,rfl⟩
theorem DS:aO Tryz.prog 151=true:=by kernel_rfl
def yJ (m:Nat) (p0:List Int):Option ((List Int)):=
 (app ([]:List Int) p0).bind λz4=>some z4
theorem LK {w:Nat} {p0:List Int} {o:(List Int)} (h:aE) (m:yJ w p0=some o):
 aL Tryz.prog 141 [.sl none 1 (List.map dG p0)] h (λr h'=>r= .sl none 1 (List.map dG o)∧h'=h):=by
 refine fY 7 [.tmp 2] Tryz.func141 rfl rfl rfl rfl ?_
 unfold yJ at m
 refine v (v (v ?_))
 obtain⟨z4,Z5,m⟩:=aC m
 refine ve λu=>nS (c:=dG) Z5 i9 rfl rfl u nofun rfl λtg6 t7 K8=>qk K8 rfl (v ?_)
 obtain rfl:=eY m
 exact vr λu=>dV.of1 (.inl rfl) (fP _ _ (ow _ _ _) rfl) (aR (List.nil_sublist _) u).1 ((eS _ 0 t7 u rfl)) ⟨rfl,rfl⟩
theorem DT:aO Tryz.prog 141=true:=by kernel_rfl
def rR (m:Nat) (p0:bF) (q0:List dH) (q1:Int):Option (Lp ((List dH)×Int) (bF)):=
 if (decide (q1 < (p0.Parts.length:Int)))=true then ((ix p0.Parts q1).bind λx0=>(app ([]:List bP) x0.Ids).bind λz0=>(app q0 ([({ Path:=x0.Path,Size:=x0.Size,Ids:=z0}:dH)]:List dH)).bind λz1=>some (.go (z1,IntKind.wrap .i64 (q1+1)))) else some (.brk (q0,q1))
def FZ (m:Nat) (p0:bF):Option (bF):=
 after (aW (λs=>rR m p0 s.1 s.2) m ([],0)) λ⟨r0,r1⟩=>some ({ Name:=p0.Name,Parts:=r0}:bF)
theorem W1 {w:Nat} {p0:bF} {o:bF} (h:aE) (m:FZ w p0=some o):
 aL Tryz.prog 150 [.agg (bH p0)] h (λr h'=>r= .agg (bH o)∧h'=h):=by
 refine fY 31 [.cell 2 58] Tryz.func150 rfl rfl rfl rfl ?_
 unfold FZ at m
 refine v (gZ rfl rfl λk2 K3=>ve λu=>bI ([.sc (.string ByteArray.empty),sZ]) u KH rfl rfl λk5 K6=>qk K6 rfl (v (v (pJ (EN (.tok 70 3 (([]:List dH).length*3)) 3 (ow none 3 (List.map bX [])) (iZ _ _)) (m5 m (σ:=(List dH)×Int) (τ:=Option cB) (λg s=> [(g,.tok 70 3 ((s.1:List dH).length*3)),(some k5,.obj 58 ([.sc (.string ByteArray.empty),sZ])),(some k2,.obj 58 (bH p0))]) (λg s=>(g=none→s.1= [])) (λg s=>.c 1 (.ptr k2 0) (.c 2 (.ptr k5 0) (.c 3 (ow g 3 (List.map bX s.1)) (.c 4 (nZ s.2) .nil)))) none (λ_=>rfl) (lx (.k4 .nil)) ?_ ?_)))))
 rintro tg0 ⟨q0,q1⟩ x t0 m
 replace m:rR w p0 q0 q1=some x:=m
 unfold rR at m
 refine v (vl 2 _ mQ rfl rfl rfl (dL tG rfl (v ?_)))
 apply vi m <;> intro c0 m
 refine v (v (v (vl 2 _ mQ rfl rfl rfl (vx m qC rfl rfl λx0 _ m=>va (.agg (bX x0)) BF rfl rfl (ve λu=>bI (T1) u FN rfl rfl λk103 K0=>qk K0 rfl (ve λu=>aJ 0 (bX x0) u rfl rfl rfl rfl IP rfl rfl λK1=>qk K1 rfl (v (v (vl 0 _ tL rfl rfl rfl ?_)))))))))
 obtain⟨z0,Z0,m⟩:=aC m
 refine ve λu=>nS (c:=bM) Z0 BE rfl rfl u nofun rfl λtg1 t1 K2=>qk K2 rfl (ve λu=>aJ 1 ([.sc (.string x0.Path),nZ x0.Size,ow tg1 32 (List.map bM z0)]) u rfl rfl (i6 rfl) (oZ _ _ _) SE rfl rfl λK4=>qk K4 rfl (v (vl 1 (.agg ([.sc (.string x0.Path),nZ x0.Size,ow tg1 32 (List.map bM z0)])) BF rfl rfl rfl (ve λu=>A5 (t:=25) (.agg (bX ({ Path:=x0.Path,Size:=x0.Size,Ids:=z0}:dH))) (aR (.cons _ (.refl _)) u).1 (bE.agg (.k2 (.cons (mF _ 0 t1 u rfl (.refl _)) .nil))) (a_v (eI (List.map bX ([({ Path:=x0.Path,Size:=x0.Size,Ids:=z0}:dH)]:List dH)) IL rfl rfl rfl rfl) (qk ((aR (.cons _ (.refl _)) u).2) rfl ?_))))))
 obtain⟨z1,Z1,m⟩:=aC m
 exact ve λu=>fB (c:=bX) 1 Z1 IL rfl rfl rfl t0 u rfl λtg2 t2 K5=>qk K5 rfl (v (eR m tg2 t2 (l4 [1,2,3] rfl rfl (.k4 .nil))))
 exact v (kT m tg0 t0 (lx (.k4 .nil)))
 rintro tg3 ⟨r0,r1⟩ t3 m
 refine v (ve λu=>aJ 2 ([.sc (.string p0.Name),ow tg3 3 (List.map bX r0)]) u rfl rfl (i6 rfl) (oZ _ _ _) R0 rfl rfl λK7=>qk K7 rfl (v (vl 2 (.agg ([.sc (.string p0.Name),ow tg3 3 (List.map bX r0)])) m8 rfl rfl rfl (ve λu=>aJ 1 ([.sc (.string p0.Name),ow tg3 3 (List.map bX r0)]) u rfl rfl rfl (by repeat (first | exact rfl | refine cC (iC _ _ _) ?_ | refine cC (bW _ _ _) ?_ | refine cC (f0 _ _ _ _) ?_ | refine cC rfl ?_)) yB rfl rfl λK8=>qk K8 rfl ?_))))
 refine v ?_
 cases m
 exact vr λu=>dV.of1 (.inl rfl) (pU (.agg ([.sc (.string p0.Name),ow tg3 3 (List.map bX r0)])) m8 rfl (a8 1 u rfl) rfl) (aR (List.nil_sublist _) u).1 (bE.agg (.cons (bE.refl _ _) (.cons ((eS _ 0 t3 u rfl)) .nil))) ⟨rfl,rfl⟩
theorem QO:aO Tryz.prog 150=true:=by kernel_rfl
def rS (m:Nat) (p0:List aA) (q0:List aA) (q1:Int):Option (Lp ((List aA)×Int) ((List aA))):=
 if (decide (q1 < (p0.length:Int)))=true then ((ix p0 q1).bind λx0=>(yJ m x0.Data).bind λy0=>(w5 m x0.Locs).bind λy1=>(app q0 ([{ { x0 with Data:=y0} with Locs:=y1}]:List aA)).bind λz0=>some (.go (z0,IntKind.wrap .i64 (q1+1)))) else some (.brk (q0,q1))
def F0 (m:Nat) (p0:List aA):Option ((List aA)):=
 after (aW (λs=>rS m p0 s.1 s.2) m ([],0)) λ⟨r0,r1⟩=>some r0
theorem aCV {w:Nat} {p0:List aA} {o:(List aA)} (h:aE) (m:F0 w p0=some o):
 aL Tryz.prog 152 [.sl none 35 (List.map aH p0)] h (λr h'=>r= .sl none 35 (List.map aH o)∧h'=h):=by
 refine fY 29 [.tmp 2] Tryz.func152 rfl rfl rfl rfl ?_
 unfold F0 at m
 refine v (v (v (pJ (EN (.tok 44 35 (([]:List aA).length*35)) 3 (ow none 35 (List.map aH [])) (iZ _ _)) (m5 m (σ:=(List aA)×Int) (τ:=Option cB) (λg s=> [(g,.tok 44 35 ((s.1:List aA).length*35))]) (λg s=>(g=none→s.1= [])) (λg s=>.c 0 (.sl none 35 (List.map aH p0)) (.c 3 (ow g 35 (List.map aH s.1)) (.c 4 (nZ s.2) .nil))) none (λ_=>rfl) (lx (.k3 .nil)) ?_ ?_))))
 rintro tg0 ⟨q0,q1⟩ x t0 m
 replace m:rS w p0 q0 q1=some x:=m
 unfold rS at m
 refine v (dL jE rfl (v ?_))
 apply vi m <;> intro c0 m
 refine v (v (v (vx m fI rfl rfl λx0 _ m=>va (.agg (aH x0)) mH rfl rfl (ve λu=>bI (bM jR++(JK:List AV)) u m7 rfl rfl λk109 K0=>qk K0 rfl (ve λu=>aJ 0 (aH x0) u rfl rfl rfl rfl wN rfl rfl λK1=>qk K1 rfl (v (vz [(7,some k109,.obj 44 (aH x0))] mixed (λu=>⟨λ_=>aI 0 u rfl,trivial⟩) λu=>zF 0 rfl jK rfl (zL 1 0 (.sl none 1 (List.map dG x0.Data)) rfl lV rfl rfl rfl ?_))))))))
 obtain⟨y0,Y0,m⟩:=aC m
 refine zC 2 rfl (bY (LK _ Y0) rfl DT rfl) (zF 3 rfl iO rfl (zL 4 0 (.sl none 4 (List.map aQ x0.Locs)) rfl fJ rfl rfl rfl ?_))
 obtain⟨y1,Y1,m⟩:=aC m
 refine zC 5 rfl (bY (LJ _ Y1) rfl DS rfl) (zF 6 rfl jK rfl (zE 7 rfl (aJ 0 (aH { x0 with Data:=y0}) u rfl rfl rfl rfl BA rfl rfl λK2=>⟨⟨λe=>absurd e (by decide),trivial⟩, ?_⟩)))
 refine zF 8 rfl iO rfl (zE 9 rfl (aJ 0 (aH { { x0 with Data:=y0} with Locs:=y1}) K2 rfl rfl rfl rfl nE rfl rfl λK3=>⟨⟨λe=>absurd e (by decide),trivial⟩, ?_⟩))
 refine zX (qk (f:=RO 23 _ _ _ _ _ _ _ _ _) K3 rfl (v (vl 0 (.agg (aH { { x0 with Data:=y0} with Locs:=y1})) mH rfl rfl rfl (bU (eI (List.map aH ([{ { x0 with Data:=y0} with Locs:=y1}]:List aA)) kY rfl rfl rfl rfl) ?_))))
 obtain⟨z0,Z0,m⟩:=aC m
 exact ve λu=>fB (c:=aH) 1 Z0 kY rfl rfl rfl t0 u rfl λtg1 t1 K4=>qk K4 rfl (v (eR m tg1 t1 (l4 [1] rfl rfl (.k3 .nil))))
 exact v (kT m tg0 t0 (lx (.k3 .nil)))
 rintro tg2 ⟨r0,r1⟩ t2 m
 refine v (v ?_)
 obtain rfl:=eY m
 exact vr λu=>dV.of1 (.inl rfl) (fP _ _ (ow _ _ _) rfl) (aR (List.nil_sublist _) u).1 ((eS _ 0 t2 u rfl)) ⟨rfl,rfl⟩
theorem LL:aO Tryz.prog 152=true:=by kernel_rfl
def F1 (m:Nat) (p0:aB) (q0:List aG) (q1:Int):Option (Lp ((List aG)×Int) (aB)):=
 if (decide (q1 < (p0.Snaps.length:Int)))=true then ((ix p0.Snaps q1).bind λx0=>(FZ m x0.Man).bind λy0=>(w5 m x0.Locs).bind λy1=>(app q0 ([{ { x0 with Man:=y0} with Locs:=y1}]:List aG)).bind λz0=>some (.go (z0,IntKind.wrap .i64 (q1+1)))) else some (.brk (q0,q1))
def F2 (m:Nat) (p0:aB) (q0:List aN) (q1:Int):Option (Lp ((List aN)×Int) (aB)):=
 if (decide (q1 < (p0.Exps.length:Int)))=true then ((ix p0.Exps q1).bind λx0=>(w5 m x0.Locs).bind λy0=>(app q0 ([{ x0 with Locs:=y0}]:List aN)).bind λz0=>some (.go (z0,IntKind.wrap .i64 (q1+1)))) else some (.brk (q0,q1))
def M90 (m:Nat) (p0:aB):Option (aB):=
 after (aW (λs=>F1 m p0 s.1 s.2) m ([],0)) λ⟨r0,r1⟩=>after (aW (λs=>F2 m p0 s.1 s.2) m ([],0)) λ⟨r2,r3⟩=>(F0 m p0.Chunks).bind λy0=>(app ([]:List aP) p0.Vols).bind λz0=>some ({ Seq:=p0.Seq,Snaps:=r0,Chunks:=y0,Exps:=r2,Vols:=z0}:aB)
theorem aCW:aO Tryz.prog 90=true:=by kernel_rfl
end Go.Proofs.YtbbifdfldpfphaaGreat
