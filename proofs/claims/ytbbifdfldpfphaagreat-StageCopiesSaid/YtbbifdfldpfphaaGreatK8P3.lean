import Derived.Test.YtbbifdfldpfphaaGreatK8P2
import Derived.Test.YtbbifdfldpfphaaGreatProg
set_option linter.unusedSimpArgs false
set_option linter.unusedVariables false
set_option maxHeartbeats 4000000
set_option maxRecDepth 100000
namespace Go.Vm
section
variable {P:Program} {h:aF} {n:Nat}
def LX (h:aF) (n:Nat) (f:FR) (L:HL) (g:FR) (L':HL):Prop:=bP h L→bP h L'∧f0 (fm n g.k) (hp h L') (fm n f.k) (hp h L)
theorem lx {f g:FR} {L:HL} (hf:FT (hp h L) n f.k g.k):LX h n f L g L:=λhk=>⟨hk,f0.s hf⟩
theorem mE {f g:FR} {L L':HL} (σ:List Nat) (hL:pick σ L=L') (ho:(σ++sJ σ L.length).isPerm (List.range L.length)=true) (hf:FT (hp h L') n f.k g.k):LX h n f L g L':=λhk=>by
 subst hL
 obtain⟨h1,h2⟩:=bQ hk σ ho
 exact⟨h1,f0.fm h2 hf⟩
structure GN {τ σ ρ:Type} (h:aF) (n:Nat) (J:τ→σ→Prop) (sl:τ→σ→FR) (Lg:τ→σ→HL) (w:σ→Lp σ ρ) (x:Lp σ ρ) (f:FR) (L:HL):Prop where
 g:∃s g,x=w s∧J g s∧LX h n f L (sl g s) (Lg g s)
inductive GE {τ σ ρ:Type} (h:aF) (n:Nat) (J:τ→σ→Prop) (sl:τ→σ→FR) (Lg:τ→σ→HL) (id:Option Nat) (ke:Exit→FR→HL→Prop) (o:ρ) (x:Lp σ ρ) (e:Exit) (f:FR) (L:HL):Prop
 | b (i:Nat) (hi:id=some i) (he:e= .exit i) (q:GN h n J sl Lg .brk x f L)
 | r (y:ρ) (hx:x= .ret y) (h1:e≠ .normal) (h2:∀i,id=some i→e≠ .exit i) (k:y=o→ke e f L)
theorem eH {τ σ ρ:Type} {J:τ→σ→Prop} {sl:τ→σ→FR} {Lg:τ→σ→HL} {w:σ→Lp σ ρ} {x:Lp σ ρ} {f:FR} {L:HL} {s:σ} (hm:some (w s)=some x) (g:τ) (j:J g s) (le:LX h n f L (sl g s) (Lg g s)):GN h n J sl Lg w x f L:=
 ⟨s,g,(Option.some.inj hm).symm,j,le⟩
theorem lN {τ σ ρ:Type} {J:τ→σ→Prop} {sl:τ→σ→FR} {Lg:τ→σ→HL} {i:Nat} {ke:Exit→FR→HL→Prop} {o:ρ} {x:Lp σ ρ} {f:FR} {L:HL} {s:σ} (hm:some (.brk s)=some x) (g:τ) (j:J g s) (le:LX h n f L (sl g s) (Lg g s)):GE h n J sl Lg (some i) ke o x (.exit i) f L:=
 .b i rfl rfl (eH hm g j le)
theorem zH {σ ρ:Type} {sl:Unit→σ→FR} {Lg:Unit→σ→HL} {w:σ→Lp σ ρ} {x:Lp σ ρ} {f:FR} {L:HL} {s:σ} (hm:some (w s)=some x) (le:LX h n f L (sl () s) (Lg () s)):GN h n (λ_ _=>True) sl Lg w x f L:=eH hm () trivial le
theorem vbZ {σ ρ:Type} {sl:Unit→σ→FR} {Lg:Unit→σ→HL} {i:Nat} {ke:Exit→FR→HL→Prop} {o:ρ} {x:Lp σ ρ} {f:FR} {L:HL} {s:σ} (hm:some (.brk s)=some x) (le:LX h n f L (sl () s) (Lg () s)):GE h n (λ_ _=>True) sl Lg (some i) ke o x (.exit i) f L:=lN hm () trivial le
theorem fZ {τ σ ρ:Type} {J:τ→σ→Prop} {sl:τ→σ→FR} {Lg:τ→σ→HL} {id:Option Nat} {ke:Exit→FR→HL→Prop} {o y:ρ} {x:Lp σ ρ} {f:FR} {L:HL} (hm:some (.ret y)=some x) (k:some y=some o→ke .ret f L):GE h n J sl Lg id ke o x .ret f L:=
 .r y (Option.some.inj hm).symm nofun (λ_ _=>nofun) λe=>k (by rw[e])
theorem vxt {τ σ ρ:Type} {J:τ→σ→Prop} {sl:τ→σ→FR} {Lg:τ→σ→HL} {id:Option Nat} {i:Nat} {ke:Exit→FR→HL→Prop} {o y:ρ} {x:Lp σ ρ} {f:FR} {L:HL} (hm:some (.ret y)=some x) (hi:(match id with | some j=>Nat.beq i j | none=>false)=false) (k:some y=some o→ke (.exit i) f L):GE h n J sl Lg id ke o x (.exit i) f L:=
 .r y (Option.some.inj hm).symm nofun (λj hj e=>by subst hj; cases e; simp only[Nat.beq_refl] at hi; cases hi) λe=>k (by rw[e])
theorem LX.le {f g:FR} {L L':HL} {fr:Fr} {hh:aF} (le:LX h n f L g L') (hk:bP h L) (l0:f0 (fm n f.k) (hp h L) fr hh):bP h L'∧f0 (fm n g.k) (hp h L') fr hh:=
 let ⟨h1,h2⟩:=le hk; ⟨h1,l0.trans h2⟩
theorem nW {τ σ ρ:Type} {id:Nat} {c:Code} {kn:FR→HL→Prop} {ke:Exit→FR→HL→Prop} {f:FR} {L:HL} {step:σ→Option (Lp σ ρ)} {fuel:Nat} {s0:σ} {k:σ→Option ρ} {o:ρ} (hm:after (aS step fuel s0) k=some o)
    (Lg:τ→σ→HL) (J:τ→σ→Prop) (sl:τ→σ→FR) (g0:τ) (i0:J g0 s0) (h0:LX h n f L (sl g0 s0) (Lg g0 s0))
    (round:∀g s x,J g s→step s=some x→VC P h n c (GN h n J sl Lg .go x) (GE h n J sl Lg (some id) ke o x) (sl g s) (Lg g s))
    (next:∀g s,J g s→k s=some o→kn (sl g s) (Lg g s)):VC P h n (.block id (.loop c)) kn ke f L:=by
  refine⟨λhkL=>w8 ?_⟩
  obtain⟨out,hout,hk⟩:∃out,aS step fuel s0=some out∧((∃s,out= .brk s∧k s=some o)∨∃r,out= .ret r∧r=o):=by
    cases e:aS step fuel s0 with
    | none=>rw[e] at hm; cases hm
    | some out=>
      rw[e] at hm
      cases out with
      | go s=>cases hm
      | brk s=>exact⟨_,rfl,.inl ⟨s,rfl,hm⟩⟩
      | ret r=>exact⟨_,rfl,.inr ⟨r,rfl,Option.some.inj hm⟩⟩
  obtain⟨hk1,le1⟩:=h0 hkL
  refine HO (λm fr' h'=>∃s,aS step m s=some out∧∃g,J g s∧bP h (Lg g s)∧f0 (fm n (sl g s).k) (hp h (Lg g s)) fr' h') fuel ⟨s0,hout,g0,i0,hk1,le1⟩ ?_
  rintro m fr' h' ⟨s,hs,g,hj,hk2,hle⟩
  cases m with
  | zero=>cases hs
  | succ m=>
    simp only[aS] at hs
    cases e:step s with
    | none=>rw[e] at hs; cases hs
    | some x=>
      rw[e] at hs
      refine hle.aw (((round g s x hj e).r hk2).mono ?_)
      rintro ex fr'' h'' ⟨f1,L1,hk3,le3,q⟩
      cases ex with
      | normal=>
        obtain⟨s',g',rfl,j',le4⟩:=q.g
        obtain⟨hk5,le5⟩:=le4.le hk3 le3
        exact⟨m,Nat.lt_succ_self m,s',hs,g',j',hk5,le5⟩
      | exit i=>
        cases q with
        | b i' hi he q=>
          cases hi; cases he
          obtain⟨s',g',rfl,j',le4⟩:=q.g
          obtain⟨hk5,le5⟩:=le4.le hk3 le3
          cases hs
          simp only[Seq,HN,if_true]
          rcases hk with⟨s2,e2,hk⟩ | ⟨r,e2,_⟩
          · cases e2; exact⟨_,_,hk5,le5,next _ _ j' hk⟩
          · cases e2
        | r y hx h1 h2 k2=>
          subst hx
          have:i≠id:=λe=>h2 id rfl (by rw[e])
          cases hs
          simp only[Seq,HN,this,if_false]
          rcases hk with⟨s2,e2,_⟩ | ⟨r',e2,e3⟩
          · cases e2
          · cases e2; exact⟨_,_,hk3,le3,k2 e3⟩
      | goto l=>
        cases q with
        | b i' hi he q=>cases he
        | r y hx h1 h2 k2=>
          subst hx; cases hs
          rcases hk with⟨s2,e2,_⟩ | ⟨r',e2,e3⟩
          · cases e2
          · cases e2; exact⟨_,_,hk3,le3,k2 e3⟩
      | ret=>
        cases q with
        | b i' hi he q=>cases he
        | r y hx h1 h2 k2=>
          subst hx; cases hs
          rcases hk with⟨s2,e2,_⟩ | ⟨r',e2,e3⟩
          · cases e2
          · cases e2; exact⟨_,_,hk3,le3,k2 e3⟩
      | panic c=>
        cases q with
        | b i' hi he q=>cases he
        | r y hx h1 h2 k2=>
          subst hx; cases hs
          rcases hk with⟨s2,e2,_⟩ | ⟨r',e2,e3⟩
          · cases e2
          · cases e2; exact⟨_,_,hk3,le3,k2 e3⟩
      | outgrown=>
        cases q with
        | b i' hi he q=>cases he
        | r y hx h1 h2 k2=>
          subst hx; cases hs
          rcases hk with⟨s2,e2,_⟩ | ⟨r',e2,e3⟩
          · cases e2
          · cases e2; exact⟨_,_,hk3,le3,k2 e3⟩
theorem oG {τ σ ρ:Type} {c:Code} {kn:FR→HL→Prop} {ke:Exit→FR→HL→Prop} {f:FR} {L:HL} {m:Option (Lp σ ρ)} {k:σ→Option ρ} {o:ρ} (hm:after m k=some o)
    (Lg:τ→σ→HL) (J:τ→σ→Prop) (sl:τ→σ→FR)
    (hc:∀x,m=some x→VC P h n c (GN h n J sl Lg .brk x) (GE h n J sl Lg none ke o x) f L)
    (next:∀g s,J g s→k s=some o→kn (sl g s) (Lg g s)):VC P h n c kn ke f L:=by
  refine⟨λhkL=> ?_⟩
  cases e:m with
  | none=>rw[e] at hm; cases hm
  | some x=>
    rw[e] at hm
    refine((hc x e).r hkL).mono ?_
    have fin:∀ {ex:Exit} {f1:FR} {L1:HL},GE h n J sl Lg none ke o x ex f1 L1→ex≠ .normal∧ke ex f1 L1:=by
      intro ex f1 L1 q
      cases q with
      | b i hi he q=>cases hi
      | r y hx h1 h2 k2=>subst hx; exact⟨h1,k2 (Option.some.inj hm)⟩
    rintro ex fr'' h'' ⟨f1,L1,hk3,le3,q⟩
    cases ex with
    | normal=>
      obtain⟨s',g',rfl,j',le4⟩:=q.g
      obtain⟨hk5,le5⟩:=le4.le hk3 le3
      exact⟨_,_,hk5,le5,next _ _ j' hm⟩
    | exit i=>exact⟨_,_,hk3,le3,(fin q).2⟩
    | goto l=>exact⟨_,_,hk3,le3,(fin q).2⟩
    | ret=>exact⟨_,_,hk3,le3,(fin q).2⟩
    | panic c=>exact⟨_,_,hk3,le3,(fin q).2⟩
    | outgrown=>exact⟨_,_,hk3,le3,(fin q).2⟩
theorem aEG {τ σ ρ:Type} {id:Nat} {c:Code} {kn:FR→HL→Prop} {ke:Exit→FR→HL→Prop} {f:FR} {L:HL} {step:σ→Option (Lp σ ρ)} {fuel:Nat} {s0:σ} {k:σ→Option ρ} {o:ρ} (hm:after (aS step fuel s0) k=some o)
    (Lg:τ→σ→HL) (sl:τ→σ→FR) (g0:τ) (h0:LX h n f L (sl g0 s0) (Lg g0 s0))
    (round:∀g s x,step s=some x→VC P h n c (GN h n (λ_ _=>True) sl Lg .go x) (GE h n (λ_ _=>True) sl Lg (some id) ke o x) (sl g s) (Lg g s))
    (next:∀g s,k s=some o→kn (sl g s) (Lg g s)):VC P h n (.block id (.loop c)) kn ke f L:=
  nW hm Lg (λ_ _=>True) sl g0 trivial h0 (λg s x _=>round g s x) (λg s _=>next g s)
theorem aEH {τ σ ρ:Type} {c:Code} {kn:FR→HL→Prop} {ke:Exit→FR→HL→Prop} {f:FR} {L:HL} {m:Option (Lp σ ρ)} {k:σ→Option ρ} {o:ρ} (hm:after m k=some o)
    (Lg:τ→σ→HL) (sl:τ→σ→FR)
    (hc:∀x,m=some x→VC P h n c (GN h n (λ_ _=>True) sl Lg .brk x) (GE h n (λ_ _=>True) sl Lg none ke o x) f L)
    (next:∀g s,k s=some o→kn (sl g s) (Lg g s)):VC P h n c kn ke f L:=
  oG hm Lg (λ_ _=>True) sl hc (λg s _=>next g s)
theorem AS {f:FR} {L:HL} (e:iY) (t:Nat) (v:AV) (hv:bD (hp h L) (lk n f.k t) v) (hk:bP h L):bP h ((none,e)::L)∧f0 (fm n (FR.c t v f).k) (hp h ((none,e)::L)) (fm n f.k) (hp h L):=⟨bP.none hk,f0.put (iE.refl _) hv⟩
theorem ZB {f:FR} {L:HL} {k:bT} {ty:TypeId} {cs:List AV} (e:iY) (i:Nat) (cs':List AV) (hi:((none,e)::L)[i]? =some (some k,.obj ty cs)) (hl:cS (hp h L) cs cs') (hk:bP h L):
    bP h (((none,e)::L).set i (some k,.obj ty cs'))∧f0 (fm n f.k) (hp h (((none,e)::L).set i (some k,.obj ty cs'))) (fm n f.k) (hp h L):=f0.obj (L:=(none,e)::L) i cs' (bP.none hk) hi hl
def B4:Nat→List AV→FR
 | _, []=>.nil
 | i,x::xs=>.c i x (B4 (i+1) xs)
theorem GH:∀(i:Nat) (xs:List AV),(B4 i xs).k=BN i xs
 | _, []=>rfl
 | i,x::xs=>by simp only[B4,BN,FR.k,GH (i+1) xs]
structure RV (P:Program) (rs:List ResultVar) (Q:AV→aF→Prop) (h:aF) (n:Nat) (e:Exit) (f:FR) (L:HL):Prop where
 r:bP h L→P0 (dW P rs Q) e (fm n f.k) (hp h L)
theorem FQ {f:FuncId} {fn:Func} {c:Code} {args:List AV} {Q:AV→aF→Prop} {L:HL} (hk:bP h L) (n:Nat) (rs:List ResultVar) (hf:P.funcs[f]? =some fn) (hb:fn.body=some c) (hn:fn.ntmps=n) (hr:fn.results.toList=rs) (hle:Nat.ble args.length n=true)
    (hc:VC P h n c (RV P rs Q h n .normal) (RV P rs Q h n) (B4 0 args) L):aM P f args (hp h L) Q:=by
  have hc:=hc.r hk
  rw[GH] at hc
  refine AM n rs hf hb hn hr hle (YT (hc.mono ?_))
  rintro e fr hh ⟨f',L',hk,le,q⟩
  have fin:RV P rs Q h n e f' L'→P0 (dW P rs Q) e fr hh:=λq=>let ⟨fr2,h2,le2,q2⟩:=q.r hk; ⟨fr2,h2,le.trans le2,q2⟩
  cases e with
  | normal=>exact fin q
  | exit i=>exact fin q
  | goto l=>exact fin q
  | ret=>exact fin q
  | panic c=>exact fin q
  | outgrown=>exact fin q
theorem fK {f:FuncId} {fn:Func} {c:Code} {args:List AV} {Q:AV→aF→Prop} (n:Nat) (rs:List ResultVar) (hf:P.funcs[f]? =some fn) (hb:fn.body=some c) (hn:fn.ntmps=n) (hr:fn.results.toList=rs) (hle:Nat.ble args.length n=true)
    (hc:VC P h n c (RV P rs Q h n .normal) (RV P rs Q h n) (B4 0 args) []):aM P f args h Q:=FQ (L:= []) trivial n rs hf hb hn hr hle hc
theorem vr {rs:List ResultVar} {Q:AV→aF→Prop} {e:Exit} {f:FR} {L:HL} (k:bP h L→dW P rs Q e (fm n f.k) (hp h L)):RV P rs Q h n e f L:=⟨λhk=>P0.mk f0.rfl' (k hk)⟩
theorem vrl {rs:List ResultVar} {Q:AV→aF→Prop} {e:Exit} {f:FR} {L:HL} (k:bP h L→P0 (dW P rs Q) e (fm n f.k) (hp h L)):RV P rs Q h n e f L:=⟨k⟩
theorem GI {L:HL} (hk:bP h L):iE h (hp h L):=(aU (List.nil_sublist _) hk).1
theorem eF {t:Nat} {y:AV} {f:FR} {L:HL} {e:Exit} (hx:lk n f.k t=y) (he:e= .ret∨e= .normal:=by first | exact .inl rfl | exact .inr rfl):RV P [.tmp t] (λr h'=>r=y∧h'=h) h n e f L:=
 vr λhk=>dW.of1 he (gN _ _ y hx) (GI hk) (bD.refl _ _) ⟨rfl,rfl⟩
theorem vr2 {t u:Nat} {y z:AV} {f:FR} {L:HL} {e:Exit} (hx:lk n f.k t=y) (hz:lk n f.k u=z) (he:e= .ret∨e= .normal:=by first | exact .inl rfl | exact .inr rfl):RV P [.tmp t,.tmp u] (λr h'=>r= .tup [y,z]∧h'=h) h n e f L:=
 vr λhk=>dW.of2 he (gN _ _ y hx) (gN _ _ z hz) (GI hk) (bD.refl _ _) (bD.refl _ _) ⟨rfl,rfl⟩
theorem AG.mono {ops:Array Oper} {fs:List (Nat×Option bT×iY)} {K K':Fr→aF→Prop} (hk:∀fr h,K fr h→K' fr h):∀ {m:Nat} {S:Array Bool} {fr:Fr} {h:aF},AG P ops fs K m S fr h→AG P ops fs K' m S fr h
  | 0,_,_,_,⟨h1,h2⟩=>⟨h1,hk _ _ h2⟩
  | m + 1, S, fr, h, ⟨h1, h2⟩ => ⟨fun e => hk _ _ (h1 e), fun i hi o ho => by
      rcases h2 i hi o ho with⟨x,a,b⟩ | ⟨a,b⟩
      · exact .inl ⟨x,a,AG.mono hk b⟩
      · exact .inr ⟨a,b.mono λx h' q=>⟨q.1,AG.mono hk q.2⟩⟩⟩
variable {q:Bool} {K:FR→HL→Prop} {f:FR} {L:HL} {dst:Option Tmp} {ty:TypeId} {pos:String} {dK:Array Edge} {ρ:Type} {r:ρ}
theorem qk {K:FR→HL→Prop} {f:FR} {L:HL} {hh:aF} (hk:bP h L) (e:hh=hp h L) (k:K f L):QK h n K (fm n f.k) hh:=by subst e; exact QK.of hk k
theorem vn {op:Op} {x:AV} (ho:bP h L→eB P ⟨dst,op,ty,pos,dK,none⟩ x (fm n f.k) (hp h L)) (k:K (f.put dst x) L):VN q P h n ⟨dst,op,ty,pos,dK,none⟩ K f L:=
 ⟨λ_ hk=>⟨x,ho hk,k⟩,λ_ hk=>(ho hk).mono λx' h' e=>by obtain⟨rfl,rfl⟩:=e; exact QK.of hk k⟩
theorem ve {o:Oper} (ho:bP h L→i8 P o (λx h'=>QK h n K (fm n (f.put o.dst x).k) h') (fm n f.k) (hp h L)):VN false P h n o K f L:=⟨nofun,λ_=>ho⟩
theorem ZC {K:AV→aF→Prop} {o:Oper} {x:AV} {fr:Fr} {hh:aF} (ho:eB P o x fr hh) (k:K x hh):i8 P o K fr hh:=ho.mono λx' h' e=>by obtain⟨rfl,rfl⟩:=e; exact k
theorem HX {K:AV→aF→Prop} {o:Oper} {h1 h2:aF} {t:Nat} (v:AV) (hs:iE h2 h1) (hv:bD h2 (lk n f.k t) v) (ho:i8 P o K (fm n (kp f.k t v)) h2):i8 P o K (fm n f.k) h1:=by
 intro E w a r hva Nx Qx hn
 obtain⟨E',k,r'⟩:=r.drop hs
 refine ho E' w a r' (λy hy=> ?_) Nx Qx λx u w' E'' h' k'=>hn x u w' E'' h' (k.trans k')
 have h1:=kG k _ _ (hva y hy)
 rw[bF] at h1 ⊢
 cases y with
 | tmp s=>
  simp only[dB] at h1 ⊢
  by_cases e:t=s
  ·subst e
   have h3:=hv E' w _ r' h1
   rw[kR]
   split
   ·rw[lF]; exact h3
   ·simp only[VR]
  ·rw[kR] at h1 ⊢
   rw[pI _ _ e]; exact h1
 | const v=>exact h1
 | global g=>exact h1
 | func g=>exact h1
theorem vz {id:Nat} {l:List Oper} {kn:FR→HL→Prop} (fs:List (Nat×Option bT×iY)) (hm:P.follows .mixedOrders=true) (hI:bP h L→fS fs (Array.replicate l.length false) (hp h L))
    (hl:bP h L→rQ P l.toArray fs (QK h n kn) l.length (Array.replicate l.length false) (fm n f.k) (hp h L)):VD P h n id l.toArray kn f L:=
  ⟨λhk=>QM (Q:=λe fr hh=>e= .normal∧QK h n kn fr hh) fs hm (hI hk) λhi=>(AG.mono λ_ _ q=>⟨rfl,q⟩) (hl hk hi)⟩
theorem vi {b:Bool} {X Y:Prop} {x y:Option ρ} (hm:(if b=true then x else y)=some r) (ht:b=true→x=some r→X) (hf:b=false→y=some r→Y):KP b X Y:=by
 cases b
 ·exact hf rfl (by simpa using hm)
 ·exact ht rfl (by simpa using hm)
theorem vt {b:Bool} {X Y:Prop} (hb:b=true) (k:X):KP b X Y:=by subst hb; exact k
theorem vf {b:Bool} {X Y:Prop} (hb:b=false) (k:Y):KP b X Y:=by subst hb; exact k
theorem ZD {b:Bool} {X Y:Prop} {k:Option ρ} (hm:grd b k=some r) (hx:b=true→k=some r→X):KP b X Y:=let ⟨h1,h2⟩:=pJ hm; vt h1 (hx h1 h2)
theorem vx {α:Type} {c:α→List AV} {xs:List α} {i:Int} {kk:α→Option ρ} {a b:Operand} {t:TypeId} {tag:Option bT} {sz:Nat} {m:IntKind} (hm:(ix xs i).bind kk=some r) (he:nL P t=some sz) (ha:dB n f.k a= .sl tag sz (xs.map c)) (hb:dB n f.k b= .sc (.int m i))
    (k:∀x,ix xs i=some x→kk x=some r→K (f.put dst (.rp tag (c x))) L):VN q P h n ⟨dst,.indexAddr t a b,ty,pos,dK,none⟩ K f L:=
  let ⟨x,h1,h2⟩:=aD hm; vn (λ_=>lP h1 he ha hb) (k x h1 h2)
theorem vl {a:Operand} {t:TypeId} {p:bT} {off:Nat} {oty:TypeId} {cs:List AV} {ag:Bool} {m:Nat} (i:Nat) (x:AV) (ht:lT P t=some (ag,m)) (ha:dB n f.k a= .ptr p off) (hi:L[i]? =some (some p,.obj oty cs)) (hx:DH ag m (cs.drop off)=some x) (k:K (f.put dst x) L):
    VN q P h n ⟨dst,.load t a,ty,pos,dK,none⟩ K f L:=vn (λhk=>gK x ht ha (aW i hk hi) hx) k
theorem va {a:Operand} {t:TypeId} {tag:Option bT} {cs:List AV} {ag:Bool} {m:Nat} (x:AV) (ht:lT P t=some (ag,m)) (ha:dB n f.k a= .rp tag cs) (hx:DH ag m cs=some x) (k:K (f.put dst x) L):
    VN q P h n ⟨dst,.load t a,ty,pos,dK,none⟩ K f L:=vn (λ_=>lW x ht ha hx) k
theorem dH {α:Type} {e:α→List AV} {xs:List α} {a:Operand} {t:TypeId} {tag:Option bT} {sz:Nat} (ht:vU P t=some true) (ha:dB n f.k a= .sl tag sz (xs.map e)) (k:K (f.put dst (.sc (.int .i64 xs.length))) L):
    VN q P h n ⟨dst,.call { callee:=.builtin .len,args:= #[a],argTypes:= #[t]},ty,pos,dK,none⟩ K f L:=vn (λ_=>xH ht ha) k
theorem vk {α:Type} {m:Option α} {kk:α→Option ρ} {e:α→AV} {fid:FuncId} {g:Operand} {args:Array Operand} {ts:Array TypeId} {caps az:List AV} (hc:∀ {y:α} (h:aF),m=some y→aM P fid az h (λr h'=>r=e y∧h'=h)) (hb:aP P fid=true) (hm:m.bind kk=some r)
    (hg:dB n f.k g= .fn (.func fid) caps) (ha:args.toList.map (dB n f.k)++caps=az) (k:∀y,kk y=some r→K (f.put dst (e y)) L):
    VN q P h n ⟨dst,.call { callee:=.value g,args:=args,argTypes:=ts},ty,pos,dK,none⟩ K f L:=
  let ⟨_,h1,h2⟩:=aD hm; vn (λ_=>bV (hc _ h1) hg hb ha) (k _ h2)
theorem val {t:TypeId} {zs:List Value} (cs:List AV) (hz:rP P t=some zs) (ho:zs.all (·.oneCell')=true) (hcs:zs.map AV.sc=cs) (k:∀q:bT,K (f.put dst (.ptr q 0)) ((some q,.obj t cs)::L)):VN false P h n ⟨dst,.alloc t,ty,pos,dK,none⟩ K f L:=
 ve λhk=>bG cs hk hz ho hcs λq hk'=>qk hk' rfl (k q)
end
section
variable {P:Program} {h:aF} {n:Nat}
theorem bU {q:Bool} {K:FR→HL→Prop} {f:FR} {L:HL} {dst:Option Tmp} {ty:TypeId} {pos:String} {dK:Array Edge} {op:Op} {x:AV} (ho:eB P ⟨dst,op,ty,pos,dK,none⟩ x (fm n f.k) (hp h L)) (k:K (f.put dst x) L):VN q P h n ⟨dst,op,ty,pos,dK,none⟩ K f L:=vn (λ_=>ho) k
theorem dX {q:Bool} {K:FR→HL→Prop} {f:FR} {L:HL} {dst:Option Tmp} {ty:TypeId} {pos:String} {dK:Array Edge} {a:Operand} {t:TypeId} {g:Nat} {p:bT} {off o s:Nat} (hf:lM P t g=some (o,s)) (hs:Nat.beq s 0=false) (ha:dB n f.k a= .ptr p off) (k:K (f.put dst (.ptr p (off+o))) L):VN q P h n ⟨dst,.fieldAddr t a g,ty,pos,dK,none⟩ K f L:=vn (λ_=>LL hf hs ha) k
theorem lU {q:Bool} {K:FR→HL→Prop} {f:FR} {L:HL} {dst:Option Tmp} {ty:TypeId} {pos:String} {dK:Array Edge} {a:Operand} {p:bT} {off:Nat} (ha:dB n f.k a= .ptr p off) (k:K (f.put dst (.ptr p off)) L):VN q P h n ⟨dst,.nilCheck a,ty,pos,dK,none⟩ K f L:=vn (λ_=>LN ha) k
theorem gX {K:FR→HL→Prop} {f:FR} {L:HL} {dst:Option Tmp} {ty:TypeId} {pos:String} {dK:Array Edge} {t:TypeId} {x:Operand} {cs:List AV} (hc:cellsOf (dB n f.k x)=some cs) (ho:cs.all gJ=true) (k:∀q:bT,bP h ((some q,.obj t cs)::L)→K (f.put dst (.ptr q 0)) ((some q,.obj t cs)::L)):VN false P h n ⟨dst,.box t x,ty,pos,dK,none⟩ K f L:=ve λhk=>S4 hk hc ho λq hq=>qk hq rfl (k q hq)
theorem fN {σ ρ:Type} {c:Code} {kn:FR→HL→Prop} {ke:Exit→FR→HL→Prop} {f:FR} {L:HL} {m:Option (Lp σ ρ)} {k:σ→Option ρ} {o:ρ} (hm:after m k=some o) (Lg:σ→HL) (sl:σ→FR)
 (hc:∀x,m=some x→VC P h n c (GN h n (λ_ _=>True) (λ_:Unit=>sl) (λ_=>Lg) .brk x) (GE h n (λ_ _=>True) (λ_:Unit=>sl) (λ_=>Lg) none ke o x) f L) (next:∀(g:Unit) s,k s=some o→kn (sl s) (Lg s)):VC P h n c kn ke f L:=aEH hm (λ_:Unit=>Lg) (λ_=>sl) hc next
theorem jP {σ ρ:Type} {id:Nat} {c:Code} {kn:FR→HL→Prop} {ke:Exit→FR→HL→Prop} {f:FR} {L:HL} {step:σ→Option (Lp σ ρ)} {fuel:Nat} {s0:σ} {k:σ→Option ρ} {o:ρ} (hm:after (aS step fuel s0) k=some o) (Lg:σ→HL) (sl:σ→FR) (h0:LX h n f L (sl s0) (Lg s0))
 (round:∀(g:Unit) s x,step s=some x→VC P h n c (GN h n (λ_ _=>True) (λ_:Unit=>sl) (λ_=>Lg) .go x) (GE h n (λ_ _=>True) (λ_:Unit=>sl) (λ_=>Lg) (some id) ke o x) (sl s) (Lg s)) (next:∀(g:Unit) s,k s=some o→kn (sl s) (Lg s)):VC P h n (.block id (.loop c)) kn ke f L:=aEG hm (λ_:Unit=>Lg) (λ_=>sl) () h0 round next
end
section
variable {P:Program} {h:aF} {n:Nat} {σ ρ:Type} {sl:Unit→σ→FR} {Lg:Unit→σ→HL} {w:σ→Lp σ ρ} {x:Lp σ ρ} {f:FR} {s:σ} {i:Nat} {ke:Exit→FR→HL→Prop} {o:ρ}
theorem gq0 (hm:some (w s)=some x) (hf:FT (hp h (Lg () s)) n f.k (sl () s).k:=by exact .nil):GN h n (λ_ _=>True) sl Lg w x f (Lg () s):=eH hm () trivial (lx hf)
theorem nX (hm:some (w s)=some x) (hf:FT (hp h (Lg () s)) n f.k (sl () s).k:=by exact .cons (bD.refl _ _) .nil):GN h n (λ_ _=>True) sl Lg w x f (Lg () s):=eH hm () trivial (lx hf)
theorem wK (hm:some (w s)=some x) (hf:FT (hp h (Lg () s)) n f.k (sl () s).k:=by exact .k2 .nil):GN h n (λ_ _=>True) sl Lg w x f (Lg () s):=eH hm () trivial (lx hf)
theorem KR (hm:some (.brk s)=some x) (hf:FT (hp h (Lg () s)) n f.k (sl () s).k:=by exact .k2 .nil):GE h n (λ_ _=>True) sl Lg (some i) ke o x (.exit i) f (Lg () s):=lN hm () trivial (lx hf)
theorem gD (hm:some (w s)=some x) (hf:FT (hp h (Lg () s)) n f.k (sl () s).k:=by exact .k3 .nil):GN h n (λ_ _=>True) sl Lg w x f (Lg () s):=eH hm () trivial (lx hf)
theorem Fq (hm:some (.brk s)=some x) (hf:FT (hp h (Lg () s)) n f.k (sl () s).k:=by exact .k3 .nil):GE h n (λ_ _=>True) sl Lg (some i) ke o x (.exit i) f (Lg () s):=lN hm () trivial (lx hf)
theorem fY (hm:some (w s)=some x) (hf:FT (hp h (Lg () s)) n f.k (sl () s).k:=by exact .k4 .nil):GN h n (λ_ _=>True) sl Lg w x f (Lg () s):=eH hm () trivial (lx hf)
theorem wE (hm:some (.brk s)=some x) (hf:FT (hp h (Lg () s)) n f.k (sl () s).k:=by exact .k4 .nil):GE h n (λ_ _=>True) sl Lg (some i) ke o x (.exit i) f (Lg () s):=lN hm () trivial (lx hf)
theorem kY (hm:some (w s)=some x) (hf:FT (hp h (Lg () s)) n f.k (sl () s).k:=by exact .k5 .nil):GN h n (λ_ _=>True) sl Lg w x f (Lg () s):=eH hm () trivial (lx hf)
theorem XJ (hm:some (.brk s)=some x) (hf:FT (hp h (Lg () s)) n f.k (sl () s).k:=by exact .k5 .nil):GE h n (λ_ _=>True) sl Lg (some i) ke o x (.exit i) f (Lg () s):=lN hm () trivial (lx hf)
theorem m5 (hm:some (w s)=some x) (hf:FT (hp h (Lg () s)) n f.k (sl () s).k:=by exact .k6 .nil):GN h n (λ_ _=>True) sl Lg w x f (Lg () s):=eH hm () trivial (lx hf)
theorem bq6 (hm:some (.brk s)=some x) (hf:FT (hp h (Lg () s)) n f.k (sl () s).k:=by exact .k6 .nil):GE h n (λ_ _=>True) sl Lg (some i) ke o x (.exit i) f (Lg () s):=lN hm () trivial (lx hf)
theorem B5 (hm:some (w s)=some x) (hf:FT (hp h (Lg () s)) n f.k (sl () s).k:=by exact .k7 .nil):GN h n (λ_ _=>True) sl Lg w x f (Lg () s):=eH hm () trivial (lx hf)
theorem bq7 (hm:some (.brk s)=some x) (hf:FT (hp h (Lg () s)) n f.k (sl () s).k:=by exact .k7 .nil):GE h n (λ_ _=>True) sl Lg (some i) ke o x (.exit i) f (Lg () s):=lN hm () trivial (lx hf)
theorem LY (hm:some (w s)=some x) (hf:FT (hp h (Lg () s)) n f.k (sl () s).k:=by exact .k8 .nil):GN h n (λ_ _=>True) sl Lg w x f (Lg () s):=eH hm () trivial (lx hf)
theorem bq8 (hm:some (.brk s)=some x) (hf:FT (hp h (Lg () s)) n f.k (sl () s).k:=by exact .k8 .nil):GE h n (λ_ _=>True) sl Lg (some i) ke o x (.exit i) f (Lg () s):=lN hm () trivial (lx hf)
theorem gq9 (hm:some (w s)=some x) (hf:FT (hp h (Lg () s)) n f.k (sl () s).k:=by exact .k9 .nil):GN h n (λ_ _=>True) sl Lg w x f (Lg () s):=eH hm () trivial (lx hf)
theorem aEM (hm:some (.brk s)=some x) (hf:FT (hp h (Lg () s)) n f.k (sl () s).k:=by exact .k11 .nil):GE h n (λ_ _=>True) sl Lg (some i) ke o x (.exit i) f (Lg () s):=lN hm () trivial (lx hf)
end
def avt (t:Option bT) (off n:Nat):AV:=match t with
 | none=>.any
 | some k=>.view k off n
section ops
variable {P:Program} {h h0:aF} {L:HL} {n:Nat} {kvs:KV} {ty:TypeId} {pos:String} {dK:Array Edge}
theorem LZ {dst:Option Tmp} {s:Nat} {lo:Operand} {t:TypeId} {g:dD} {m sz:Nat} {q:IntKind} {i:Int} (hi:(decide (0≤i) && decide (i < (m:Int)))=true) (ht:nL P t=some sz) (ok:bK g sz m) (ha:lk n kvs s=aw g.t g.n g.cap) (hb:dB n kvs lo= .sc (.int q i)):
    eB P ⟨dst,.slice t (.tmp s) (some lo) none none,ty,pos,dK,none⟩ (avt g.t (i.toNat*sz) (m - i.toNat)) (fm n kvs) h:=by
  simp only[Bool.and_eq_true,decide_eq_true_eq] at hi
  rw[ok.eqn] at ha
  cases ht':g.t with
  | none=>have:=ok.nil ht'; omega
  | some k=>
    rw[ht'] at ha
    have hT:DM P t=true:=by simp[DM,ht]
    refine sF (s:=s) (.view k 0 m) (by rw[ha]; exact BZ _ _ _ _) (jT (c:=0≤i∧i < (m:Int)∧(m:Int)≤m) ?_ ⟨hi.1,hi.2,by omega⟩)
    have e:dB n (kp kvs s (.view k 0 m)) (.tmp s)= .view k 0 m:=D0 ha (by simp[aw])
    have e2:dB n (kp kvs s (.view k 0 m)) lo= .sc (.int q i):=F8 ha (by simp[aw]) hb
    simp only[pv,bF,e,Option.map_some,e2,Option.map_none,BH,ht,Option.bind_some,oA,kT,hT,if_true,avt,Nat.zero_add,Int.toNat_natCast]
theorem L2 {dst:Option Tmp} {s:Nat} {hi:Operand} {t:TypeId} {g:dD} {m sz:Nat} {q:IntKind} {i:Int} (hi':(decide (0≤i) && decide (i≤(m:Int)))=true) (ok:bK g sz m) (ht:nL P t=some sz) (ha:dB n kvs (.tmp s)=aw g.t g.n g.cap) (hb:dB n kvs hi= .sc (.int q i)):
    eB P ⟨dst,.slice t (.tmp s) none (some hi) none,ty,pos,dK,none⟩ (aw g.t i.toNat g.cap) (fm n kvs) h:=by
  have hn:g.t=none→g.n=0:=λe=>ok.eqn.trans (ok.nil e)
  have hc:g.n≤g.cap:=by rw[ok.eqn]; exact ok.le
  rw[← ok.eqn] at hi'
  obtain⟨tg,n0,cap,sp⟩:=g
  simp only at hn hc ha hi' ⊢
  simp only[Bool.and_eq_true,decide_eq_true_eq] at hi'
  obtain⟨e,hu,he⟩:=gH ht
  cases tg with
  | none=>
    have:=hn rfl
    have hi0:i=0:=by omega
    subst hi0
    have hT:DM P t=true:=by simp[DM,ht]
    have ha:dB n kvs (.tmp s)= .e0:=ha
    refine jT (c:=(0:Int)=0∧(0:Int)=0) ?_ ⟨rfl,rfl⟩
    simp only[pv,bF,ha,Option.map_some,hb,Option.map_none,BH,ht,Option.bind_some,oA,kT,hT,if_true]
    rfl
  | some k=>
    have ha:dB n kvs (.tmp s)= .vw k n0 cap:=ha
    refine dY (x:=.vw k i.toNat cap) (λE w ac r hv=> ?_) ⟨rfl,rfl⟩
    have va:=hv (.tmp s) (by simp[Op.operands])
    have vb:=hv hi (by simp[Op.operands])
    rw[bF,ha] at va; rw[bF,hb] at vb
    simp only[VR] at va vb
    obtain⟨g,hg,e1,e2,e3⟩:=va
    have hbd:=gP (P:=P) (w:=w) (sl:=true) (len:=n0) (cap:=cap) (l:=0) (h:=i) (lo:=none) (hi:=some (.sc (.int q i))) (lv:=none) (hv:=some (.int q i)) rfl rfl (E:=E) nofun (λ_=>rfl)
      (λx hx=>by cases hx; exact⟨_,rfl,by simp only[VR]⟩) nofun (by omega) hi'.1 (by omega)
    refine⟨.slice (some ⟨g,0,none⟩) i.toNat cap, ?_,by simp only[VR]; exact⟨g,hg,rfl,by omega,e3⟩⟩
    by_cases hz:cap=0
    · subst hz
      have hi0:i.toNat=0:=by omega
      simp[execOp,e1,vb,Instr.sliceAt,Instr.slice,run_underlying hu,hbd,cO he,hi0]
    · have:¬cap=(0:Int).toNat:=by simpa using hz
      simp[execOp,e1,vb,Instr.sliceAt,Instr.slice,run_underlying hu,hbd,cO he,hz,Addr.add]
theorem TB {K:AV→aF→Prop} {α:Type} {c:α→List AV} {xs:List α} {dst:Option Tmp} {t e:TypeId} {x:Operand} {g:dD} {sz:Nat} {zs:List Value} {i:Int} (p:Nat) (hk:bP h0 L) (hi:(decide (0≤i) && decide (i < (xs.length:Int)))=true) (hc:∀y,(c y).length=sz) (ok:bK g sz xs.length)
    (hu:P.underlying t=some (.slice e)) (hz:rP P e=some zs) (hzl:zs.length=sz) (hzo:zs.all (·.oneCell')=true) (ha:dB n kvs x=avt g.t (i.toNat*sz) (xs.length - i.toNat)) (hL:L[p]? =some (g.t,.obj e (fl c xs g.sp)))
    (k:∀sp:List AV,bK ⟨g.t,i.toNat,g.cap,sp⟩ sz (xs.take i.toNat).length→bP h0 (L.set p (g.t,.obj e (fl c (xs.take i.toNat) sp)))→K (.tup []) (hp h0 (L.set p (g.t,.obj e (fl c (xs.take i.toNat) sp))))):
    i8 P ⟨dst,.call { callee:=.builtin .clear,args:= #[x],argTypes:= #[t]},ty,pos,dK,none⟩ K (fm n kvs) (hp h0 L):=by
  simp only[Bool.and_eq_true,decide_eq_true_eq] at hi
  obtain⟨i1,i2⟩:=hi
  have hil:i.toNat < xs.length:=by omega
  cases ht':g.t with
  | none=>have:=ok.nil ht'; omega
  | some q=>
    rw[ht'] at ha hL k
    have hq:=aW p hk hL
    have hfl:(fl c xs g.sp).length=xs.length*sz+g.sp.length:=LR hc xs g.sp
    have hm:(xs.length - i.toNat)*sz+i.toNat*sz=xs.length*sz:=by rw[← Nat.add_mul]; congr 1; omega
    have htk:(xs.take i.toNat).length=i.toNat:=by rw[List.length_take]; omega
    have key:=k (List.replicate ((xs.length - i.toNat)*sz) .any++g.sp) ⟨htk.symm,nofun,by rw[htk]; exact Nat.le_trans (Nat.le_of_lt hil) ok.le,ok.mx,by
      rw[htk,List.length_append,List.length_replicate]
      have:=ok.len
      simp only
      omega⟩
    obtain⟨h1,h2,_⟩:=kL (e':=.obj e (fl c (xs.take i.toNat) (List.replicate ((xs.length - i.toNat)*sz) .any++g.sp))) p hk hL (.inl rfl)
    have key:=key h2
    rw[← h1] at key
    intro E w a r hv Nx Qx hn
    have vx:=hv x (by simp[Op.operands,Call.operands])
    rw[bF,ha] at vx
    simp only[avt,VR] at vx
    obtain⟨gg,cap,hg,ex,hc1,hc2⟩:=vx
    obtain⟨g',cur,f1,f2,f3,f4⟩:=r.obj q e _ hq
    rw[hg] at f1; cases f1
    have hcl:xs.length*sz+g.sp.length=cur.size:=by rw[← hfl]; simpa using cJ f3
    unfold rP at hz
    cases hinf:P.info? e with
    | none=>rw[hinf] at hz; simp at hz
    | some ii=>
    cases hzz:ii.zero with
    | none=>rw[hinf] at hz; simp[hzz] at hz
    | some z=>
    rw[hinf] at hz
    simp only[Option.bind_some,hzz,Option.map_some,Option.some.injEq] at hz
    subst hz
    have hzs:z.cells.size=sz:=by simpa using hzl
    have hzc:∀v∈(Builtin.zeroCells z.cells (xs.length - i.toNat)).toList,v.oneCell'=true:=jU (List.all_eq_true.1 hzo)
    have hzn:(Builtin.zeroCells z.cells (xs.length - i.toNat)).toList.length=(xs.length - i.toNat)*sz:=by rw[Array.length_toList,size_zeroCells,hzs]
    have hst:=run_storeCells_at P gg (i.toNat*sz) e (Builtin.zeroCells z.cells (xs.length - i.toNat)).toList 0 cur w f2 (by rw[hzn]; omega) hzc
    rw[hzn] at hst
    simp only[Nat.add_zero] at hst
    have hspl:fl c (xs.take i.toNat) (List.replicate ((xs.length - i.toNat)*sz) .any++g.sp)=(fl c xs g.sp).take (i.toNat*sz)++List.replicate ((xs.length - i.toNat)*sz) .any++(fl c xs g.sp).drop (i.toNat*sz+(xs.length - i.toNat)*sz):=by
      have e1:(xs.map c).flatten=((xs.take i.toNat).map c).flatten++((xs.drop i.toNat).map c).flatten:=by
        rw[← List.flatten_append,← List.map_append,List.take_append_drop]
      have l1:((xs.take i.toNat).map c).flatten.length=i.toNat*sz:=by rw[mP hc,htk]
      have l2:(xs.map c).flatten.length=xs.length*sz:=mP hc xs
      unfold fl
      rw[show i.toNat*sz+(xs.length - i.toNat)*sz=(xs.map c).flatten.length from by rw[l2]; omega,List.drop_left]
      rw[e1,← l1]
      simp only[List.append_assoc,List.take_left']
    have hv':cI E w (fl c (xs.take i.toNat) (List.replicate ((xs.length - i.toNat)*sz) .any++g.sp)) (cur.toList.take (i.toNat*sz)++(Builtin.zeroCells z.cells (xs.length - i.toNat)).toList++cur.toList.drop (i.toNat*sz+(xs.length - i.toNat)*sz)):=by
      rw[hspl]
      exact cL (cL (fO _ f3) (rU _ hzn)) (jB _ f3)
    have h1':∀v∈cur.toList.take (i.toNat*sz)++(Builtin.zeroCells z.cells (xs.length - i.toNat)).toList++cur.toList.drop (i.toNat*sz+(xs.length - i.toNat)*sz),v.oneCell'=true:=by
      intro v hv
      rcases List.mem_append.1 hv with hv | hv
      · rcases List.mem_append.1 hv with hv | hv
        · exact f4 v (List.mem_of_mem_take hv)
        · exact hzc v hv
      · exact f4 v (List.mem_of_mem_drop hv)
    obtain⟨k1,k2⟩:=r.set_obj (cur:=(cur.toList.take (i.toNat*sz)++(Builtin.zeroCells z.cells (xs.length - i.toNat)).toList++cur.toList.drop (i.toNat*sz+(xs.length - i.toNat)*sz)).toArray) hq hg
      (w':=w.setRow gg (cur.toList.take (i.toNat*sz)++(Builtin.zeroCells z.cells (xs.length - i.toNat)).toList++cur.toList.drop (i.toNat*sz+(xs.length - i.toNat)*sz)).toArray)
      (setRow_heap w gg cur _ e _ f2) (λg' hg'=>setRow_other w gg g' _ hg') (by simp) rfl rfl rfl hv' h1'
    unfold Oper.wp
    have hpos:¬xs.length - i.toNat=0:=by omega
    have hzv:(zeroValue e).run P w= .ok z w:=by simp[zeroValue,typeInfo,hinf,hzz]
    have hrun:(Builtin.clear_ #[t] ty #[.slice (some ⟨gg,i.toNat*sz,none⟩) (xs.length - i.toNat) cap]).run P w= .ok (.tuple #[]) (w.setRow gg (cur.toList.take (i.toNat*sz)++(Builtin.zeroCells z.cells (xs.length - i.toNat)).toList++cur.toList.drop (i.toNat*sz+(xs.length - i.toNat)*sz)).toArray):=by
      simp[Builtin.clear_,run_underlying hu,hzv,hst,hpos]
    have hex:(execOp a.eval ⟨dst,.call { callee:=.builtin .clear,args:= #[x],argTypes:= #[t]},ty,pos,dK,none⟩).run P w= .ok (.value (.tuple #[])) (w.setRow gg (cur.toList.take (i.toNat*sz)++(Builtin.zeroCells z.cells (xs.length - i.toNat)).toList++cur.toList.drop (i.toNat*sz+(xs.length - i.toNat)*sz)).toArray):=by
      simp only[execOp,resolve,invoke,builtin,List.map_toArray,List.map_cons,List.map_nil,ex,Sem.run_bind,Sem.run_pure,Result.andThen_ok,hrun]
    rw[hex]
    exact hn (.tup []) (.tuple #[]) _ E _ k1 k2 (by simp only[VR]; exact⟨#[],rfl,by simp[cI]⟩) key
theorem qF {K:AV→aF→Prop} {α:Type} {c:α→List AV} {dst:Option Tmp} {t e:TypeId} {sz b:Nat} (hk:bP h0 L) (ht:lO P t e sz b)
    (k:bP h0 ((none,.obj e (fl c ([]:List α) g0.sp))::L)→K (aw g0.t g0.n g0.cap) (hp h0 ((none,.obj e (fl c ([]:List α) g0.sp))::L))):
    i8 P ⟨dst,.buildSlice t 0 #[],ty,pos,dK,none⟩ K (fm n kvs) (hp h0 L):=
  DV rfl ht (k ⟨hk,nofun⟩)
end ops
end Go.Vm
namespace Go.Proofs.YtbbifdfldpfphaaGreat
open Go.Vm
abbrev fL (x:Int):List AV:= [.sc (.int .i64 x)]
abbrev GJ (x:Bool):List AV:= [.sc (.bool x)]
abbrev fX (x:Int):List AV:= [.sc (.int .u8 x)]
abbrev TC (x:ByteArray):List AV:= [.sc (.string x)]
abbrev QV (x:List Int):List AV:= [.sl none 1 (List.map fL x)]
abbrev hX (x:List Int):List AV:= [.sl none 1 (List.map fX x)]
structure dM where
 Path:ByteArray
 Data:List Int
 deriving DecidableEq
def eK (x:dM):List AV:= [.sc (.string x.Path),.sl none 1 (List.map fX x.Data)]
abbrev D5 (x:List dM):List AV:= [.sl none 2 (List.map eK x)]
abbrev D6 (x:List Bool):List AV:= [.sl none 1 (List.map GJ x)]
structure m7 where
 Do:Int
 N:Int
 Vol:Int
 Tree:List dM
 Pick:List Bool
 deriving DecidableEq
def fM (x:m7):List AV:= [.sc (.int .i64 x.Do),.sc (.int .i64 x.N),.sc (.int .i64 x.Vol),.sl none 2 (List.map eK x.Tree),.sl none 1 (List.map GJ x.Pick)]
abbrev QW (x:List m7):List AV:= [.sl none 5 (List.map fM x)]
structure cT where
 Path:ByteArray
 Size:Int
 Ids:List bH
 deriving DecidableEq
def bX (x:cT):List AV:= [.sc (.string x.Path),.sc (.int .i64 x.Size),.sl none 32 (List.map bC x.Ids)]
theorem wL:∀y,(bX y).length=3:=λy=>by first | rfl | simp[bX,bC,bH.len]
structure bE where
 Name:ByteArray
 Parts:List cT
 deriving DecidableEq
def bI (x:bE):List AV:= [.sc (.string x.Name),.sl none 3 (List.map bX x.Parts)]
structure aR where
 Vol:Int
 File:Int
 Off:Int
 Len:Int
 deriving DecidableEq
def aN (x:aR):List AV:= [.sc (.int .i64 x.Vol),.sc (.int .i64 x.File),.sc (.int .i64 x.Off),.sc (.int .i64 x.Len)]
theorem fC:∀y,(aN y).length=4:=λy=>by first | rfl | simp[aN,bC,bH.len]
structure aH where
 Seq:Int
 Man:bE
 Locs:List aR
 deriving DecidableEq
def bJ (x:aH):List AV:= [.sc (.int .i64 x.Seq),.sc (.string x.Man.Name),.sl none 3 (List.map bX x.Man.Parts),.sl none 4 (List.map aN x.Locs)]
theorem eM:∀y,(bJ y).length=4:=λy=>by first | rfl | simp[bJ,bC,bH.len]
structure aB where
 Id:bH
 Staged:Bool
 Data:List Int
 Locs:List aR
 deriving DecidableEq
def aK (x:aB):List AV:=bC x.Id++ [.sc (.bool x.Staged),.sl none 1 (List.map fX x.Data),.sl none 4 (List.map aN x.Locs)]
theorem cY:∀y,(aK y).length=35:=λy=>by first | rfl | simp[aK,bC,bH.len]
structure aT where
 Seq:Int
 Of:Int
 Locs:List aR
 deriving DecidableEq
def cH (x:aT):List AV:= [.sc (.int .i64 x.Seq),.sc (.int .i64 x.Of),.sl none 4 (List.map aN x.Locs)]
theorem f9:∀y,(cH y).length=3:=λy=>by first | rfl | simp[cH,bC,bH.len]
structure aQ where
 Pool:Int
 Epoch:Int
 State:Int
 Files:Int
 deriving DecidableEq
def dG (x:aQ):List AV:= [.sc (.int .i64 x.Pool),.sc (.int .i64 x.Epoch),.sc (.int .i64 x.State),.sc (.int .i64 x.Files)]
theorem eT:∀y,(dG y).length=4:=λy=>by first | rfl | simp[dG,bC,bH.len]
structure aA where
 Seq:Int
 Snaps:List aH
 Chunks:List aB
 Exps:List aT
 Vols:List aQ
 deriving DecidableEq
def aC (x:aA):List AV:= [.sc (.int .i64 x.Seq),.sl none 4 (List.map bJ x.Snaps),.sl none 35 (List.map aK x.Chunks),.sl none 3 (List.map cH x.Exps),.sl none 4 (List.map dG x.Vols)]
def bY:aA:= { Seq:=0,Snaps:= [],Chunks:= [],Exps:= [],Vols:= []}
structure aE where
 Kind:Int
 Id:bH
 Seq:Int
 Of:Int
 Off:Int
 Len:Int
 deriving DecidableEq
def aI (x:aE):List AV:= [.sc (.int .i64 x.Kind)]++bC x.Id++ [.sc (.int .i64 x.Seq),.sc (.int .i64 x.Of),.sc (.int .i64 x.Off),.sc (.int .i64 x.Len)]
abbrev iQ (x:List aE):List AV:= [.sl none 37 (List.map aI x)]
structure aV where
 Kind:Int
 Snap:aH
 Chunks:List aB
 Seq:Int
 Vol:Int
 Items:List aE
 deriving DecidableEq
def aJ (x:aV):List AV:= [.sc (.int .i64 x.Kind),.sc (.int .i64 x.Snap.Seq),.sc (.string x.Snap.Man.Name),.sl none 3 (List.map bX x.Snap.Man.Parts),.sl none 4 (List.map aN x.Snap.Locs),.sl none 35 (List.map aK x.Chunks),.sc (.int .i64 x.Seq),.sc (.int .i64 x.Vol),.sl none 37 (List.map aI x.Items)]
abbrev cQ (x:Ar 64):List AV:=cA .u32 64 x
abbrev dV (x:Ar 8):List AV:=cA .u32 8 x
theorem u2:Tryz.prog.underlying 2=some (.int .i64):=by kernel_rfl
theorem cB:lT Tryz.prog 3=some (false,1):=by kernel_rfl
theorem AT:m0 Tryz.prog 3=some 1:=by kernel_rfl
theorem ti3:v9 Tryz.prog 3=some .i64:=by kernel_rfl
theorem u3:Tryz.prog.underlying 3=some (.int .i64):=by kernel_rfl
theorem zr3:rP Tryz.prog 3=some [.int .i64 0]:=by kernel_rfl
theorem GK:lT Tryz.prog 4=some (false,1):=by kernel_rfl
theorem ZE:m0 Tryz.prog 4=some 1:=by kernel_rfl
theorem u4:Tryz.prog.underlying 4=some .bool:=by kernel_rfl
theorem zb4:(Tryz.prog.info? 4).bind (·.zero)=some (.bool false):=by kernel_rfl
theorem D7:lT Tryz.prog 5=some (false,1):=by kernel_rfl
theorem sz5:m0 Tryz.prog 5=some 1:=by kernel_rfl
theorem ti5:v9 Tryz.prog 5=some .u8:=by kernel_rfl
theorem u5:Tryz.prog.underlying 5=some (.int .u8):=by kernel_rfl
theorem UV:vU Tryz.prog 9=some false:=by kernel_rfl
theorem HY:lT Tryz.prog 9=some (false,1):=by kernel_rfl
theorem u9:Tryz.prog.underlying 9=some .string:=by kernel_rfl
theorem L4:vU Tryz.prog 22=some true:=by kernel_rfl
theorem ZF:nL Tryz.prog 22=some 1:=by kernel_rfl
theorem UW:lO Tryz.prog 22 3 1 8:=lO.of (by kernel_rfl) (by kernel_rfl) (by decide)
theorem u22:Tryz.prog.underlying 22=some (.slice 3):=by kernel_rfl
theorem UX:vU Tryz.prog 23=some true:=by kernel_rfl
theorem JQ:nL Tryz.prog 23=some 5:=by kernel_rfl
theorem u23:Tryz.prog.underlying 23=some (.slice 67):=by kernel_rfl
theorem kZ:vU Tryz.prog 25=some true:=by kernel_rfl
theorem jL:nL Tryz.prog 25=some 4:=by kernel_rfl
theorem D8:lO Tryz.prog 25 60 4 72:=lO.of (by kernel_rfl) (by kernel_rfl) (by decide)
theorem fI:lT Tryz.prog 25=some (false,1):=by kernel_rfl
theorem L5:m0 Tryz.prog 25=some 1:=by kernel_rfl
theorem u25:Tryz.prog.underlying 25=some (.slice 60):=by kernel_rfl
theorem lI:vU Tryz.prog 26=some true:=by kernel_rfl
theorem h9:nL Tryz.prog 26=some 35:=by kernel_rfl
theorem o8:lO Tryz.prog 26 44 35 88:=lO.of (by kernel_rfl) (by kernel_rfl) (by decide)
theorem fD:lT Tryz.prog 26=some (false,1):=by kernel_rfl
theorem D9:m0 Tryz.prog 26=some 1:=by kernel_rfl
theorem pN:vU Tryz.prog 27=some true:=by kernel_rfl
theorem iR:nL Tryz.prog 27=some 3:=by kernel_rfl
theorem o9:lO Tryz.prog 27 99 3 40:=lO.of (by kernel_rfl) (by kernel_rfl) (by decide)
theorem iG:lT Tryz.prog 27=some (false,1):=by kernel_rfl
theorem L6:m0 Tryz.prog 27=some 1:=by kernel_rfl
theorem u27:Tryz.prog.underlying 27=some (.slice 99):=by kernel_rfl
theorem qK:vU Tryz.prog 28=some true:=by kernel_rfl
theorem lZ:nL Tryz.prog 28=some 4:=by kernel_rfl
theorem L7:lO Tryz.prog 28 49 4 32:=lO.of (by kernel_rfl) (by kernel_rfl) (by decide)
theorem iH:lT Tryz.prog 28=some (false,1):=by kernel_rfl
theorem UY:m0 Tryz.prog 28=some 1:=by kernel_rfl
theorem cZ:lT Tryz.prog 30=some (true,5):=by kernel_rfl
theorem m8:m0 Tryz.prog 30=some 5:=by kernel_rfl
theorem rB:lM Tryz.prog 30 0=some (0,1):=by kernel_rfl
theorem eL:lM Tryz.prog 30 1=some (1,1):=by kernel_rfl
theorem eW:lM Tryz.prog 30 2=some (2,1):=by kernel_rfl
theorem eU:lM Tryz.prog 30 3=some (3,1):=by kernel_rfl
theorem iW:lM Tryz.prog 30 4=some (4,1):=by kernel_rfl
theorem GL:uV Tryz.prog 30=some ([.int .i64 0,.slice none 0 0,.slice none 0 0,.slice none 0 0,.slice none 0 0], [(0,1),(1,1),(2,1),(3,1),(4,1)]):=by kernel_rfl
theorem sK:rP Tryz.prog 30=some [.int .i64 0,.slice none 0 0,.slice none 0 0,.slice none 0 0,.slice none 0 0]:=by kernel_rfl
theorem l4:vU Tryz.prog 33=some true:=by kernel_rfl
theorem nO:nL Tryz.prog 33=some 37:=by kernel_rfl
theorem lA:lO Tryz.prog 33 38 37 72:=lO.of (by kernel_rfl) (by kernel_rfl) (by decide)
theorem l6:lT Tryz.prog 33=some (false,1):=by kernel_rfl
theorem aEP:m0 Tryz.prog 33=some 1:=by kernel_rfl
theorem xN:HQ Tryz.prog 36=some (32,1):=by kernel_rfl
theorem eY:lT Tryz.prog 36=some (true,32):=by kernel_rfl
theorem L8:m0 Tryz.prog 36=some 32:=by kernel_rfl
theorem TD:Tryz.prog.underlying 36=some (.array 32 5):=by kernel_rfl
theorem EA:Tryz.prog.eqGuardType Tryz.prog.depth 36=false:=by kernel_rfl
theorem L9:rP Tryz.prog 36=some [.int .u8 0,.int .u8 0,.int .u8 0,.int .u8 0,.int .u8 0,.int .u8 0,.int .u8 0,.int .u8 0,.int .u8 0,.int .u8 0,.int .u8 0,.int .u8 0,.int .u8 0,.int .u8 0,.int .u8 0,.int .u8 0,.int .u8 0,.int .u8 0,.int .u8 0,.int .u8 0,.int .u8 0,.int .u8 0,.int .u8 0,.int .u8 0,.int .u8 0,.int .u8 0,.int .u8 0,.int .u8 0,.int .u8 0,.int .u8 0,.int .u8 0,.int .u8 0]:=by kernel_rfl
theorem B6:lT Tryz.prog 38=some (true,37):=by kernel_rfl
theorem GM:m0 Tryz.prog 38=some 37:=by kernel_rfl
theorem mQ:lM Tryz.prog 38 0=some (0,1):=by kernel_rfl
theorem xO:lM Tryz.prog 38 1=some (1,32):=by kernel_rfl
theorem lR:lM Tryz.prog 38 2=some (33,1):=by kernel_rfl
theorem xP:lM Tryz.prog 38 3=some (34,1):=by kernel_rfl
theorem MA:lM Tryz.prog 38 4=some (35,1):=by kernel_rfl
theorem MB:lM Tryz.prog 38 5=some (36,1):=by kernel_rfl
theorem sL:uV Tryz.prog 38=some ([.int .i64 0,.int .u8 0,.int .u8 0,.int .u8 0,.int .u8 0,.int .u8 0,.int .u8 0,.int .u8 0,.int .u8 0,.int .u8 0,.int .u8 0,.int .u8 0,.int .u8 0,.int .u8 0,.int .u8 0,.int .u8 0,.int .u8 0,.int .u8 0,.int .u8 0,.int .u8 0,.int .u8 0,.int .u8 0,.int .u8 0,.int .u8 0,.int .u8 0,.int .u8 0,.int .u8 0,.int .u8 0,.int .u8 0,.int .u8 0,.int .u8 0,.int .u8 0,.int .u8 0,.int .i64 0,.int .i64 0,.int .i64 0,.int .i64 0], [(0,1),(1,32),(33,1),(34,1),(35,1),(36,1)]):=by kernel_rfl
theorem GO:rP Tryz.prog 38=some [.int .i64 0,.int .u8 0,.int .u8 0,.int .u8 0,.int .u8 0,.int .u8 0,.int .u8 0,.int .u8 0,.int .u8 0,.int .u8 0,.int .u8 0,.int .u8 0,.int .u8 0,.int .u8 0,.int .u8 0,.int .u8 0,.int .u8 0,.int .u8 0,.int .u8 0,.int .u8 0,.int .u8 0,.int .u8 0,.int .u8 0,.int .u8 0,.int .u8 0,.int .u8 0,.int .u8 0,.int .u8 0,.int .u8 0,.int .u8 0,.int .u8 0,.int .u8 0,.int .u8 0,.int .i64 0,.int .i64 0,.int .i64 0,.int .i64 0]:=by kernel_rfl
theorem nP:vU Tryz.prog 41=some true:=by kernel_rfl
theorem MC:nL Tryz.prog 41=some 1:=by kernel_rfl
theorem xQ:lO Tryz.prog 41 5 1 1:=lO.of (by kernel_rfl) (by kernel_rfl) (by decide)
theorem nY:lT Tryz.prog 41=some (false,1):=by kernel_rfl
theorem EB:m0 Tryz.prog 41=some 1:=by kernel_rfl
theorem u41:Tryz.prog.underlying 41=some (.slice 5):=by kernel_rfl
theorem kD:vU Tryz.prog 42=some true:=by kernel_rfl
theorem i9:nL Tryz.prog 42=some 4:=by kernel_rfl
theorem pA:lO Tryz.prog 42 81 4 32:=lO.of (by kernel_rfl) (by kernel_rfl) (by decide)
theorem fT:lT Tryz.prog 42=some (false,1):=by kernel_rfl
theorem pO:m0 Tryz.prog 42=some 1:=by kernel_rfl
theorem u42:Tryz.prog.underlying 42=some (.slice 81):=by kernel_rfl
theorem pB:lT Tryz.prog 44=some (true,35):=by kernel_rfl
theorem EC:m0 Tryz.prog 44=some 35:=by kernel_rfl
theorem rC:lM Tryz.prog 44 0=some (0,32):=by kernel_rfl
theorem pP:lM Tryz.prog 44 1=some (32,1):=by kernel_rfl
theorem lS:lM Tryz.prog 44 2=some (33,1):=by kernel_rfl
theorem jQ:lM Tryz.prog 44 3=some (34,1):=by kernel_rfl
theorem aEQ:uV Tryz.prog 44=some ([.int .u8 0,.int .u8 0,.int .u8 0,.int .u8 0,.int .u8 0,.int .u8 0,.int .u8 0,.int .u8 0,.int .u8 0,.int .u8 0,.int .u8 0,.int .u8 0,.int .u8 0,.int .u8 0,.int .u8 0,.int .u8 0,.int .u8 0,.int .u8 0,.int .u8 0,.int .u8 0,.int .u8 0,.int .u8 0,.int .u8 0,.int .u8 0,.int .u8 0,.int .u8 0,.int .u8 0,.int .u8 0,.int .u8 0,.int .u8 0,.int .u8 0,.int .u8 0,.bool false,.slice none 0 0,.slice none 0 0], [(0,32),(32,1),(33,1),(34,1)]):=by kernel_rfl
theorem qL:rP Tryz.prog 44=some [.int .u8 0,.int .u8 0,.int .u8 0,.int .u8 0,.int .u8 0,.int .u8 0,.int .u8 0,.int .u8 0,.int .u8 0,.int .u8 0,.int .u8 0,.int .u8 0,.int .u8 0,.int .u8 0,.int .u8 0,.int .u8 0,.int .u8 0,.int .u8 0,.int .u8 0,.int .u8 0,.int .u8 0,.int .u8 0,.int .u8 0,.int .u8 0,.int .u8 0,.int .u8 0,.int .u8 0,.int .u8 0,.int .u8 0,.int .u8 0,.int .u8 0,.int .u8 0,.bool false,.slice none 0 0,.slice none 0 0]:=by kernel_rfl
theorem ZG:lT Tryz.prog 49=some (true,4):=by kernel_rfl
theorem ZH:m0 Tryz.prog 49=some 4:=by kernel_rfl
theorem MD:lM Tryz.prog 49 0=some (0,1):=by kernel_rfl
theorem ME:lM Tryz.prog 49 1=some (1,1):=by kernel_rfl
theorem rD:lM Tryz.prog 49 2=some (2,1):=by kernel_rfl
theorem rE:lM Tryz.prog 49 3=some (3,1):=by kernel_rfl
theorem aER:uV Tryz.prog 49=some ([.int .i64 0,.int .i64 0,.int .i64 0,.int .i64 0], [(0,1),(1,1),(2,1),(3,1)]):=by kernel_rfl
theorem QX:rP Tryz.prog 49=some [.int .i64 0,.int .i64 0,.int .i64 0,.int .i64 0]:=by kernel_rfl
theorem ZI:vU Tryz.prog 50=some true:=by kernel_rfl
theorem QY:nL Tryz.prog 50=some 1:=by kernel_rfl
theorem ZJ:lO Tryz.prog 50 33 1 24:=lO.of (by kernel_rfl) (by kernel_rfl) (by decide)
theorem ZK:lT Tryz.prog 50=some (false,1):=by kernel_rfl
theorem aES:m0 Tryz.prog 50=some 1:=by kernel_rfl
theorem aET:rP Tryz.prog 50=some [.slice none 0 0]:=by kernel_rfl
theorem zQ:vU Tryz.prog 56=some true:=by kernel_rfl
theorem sM:nL Tryz.prog 56=some 3:=by kernel_rfl
theorem JR:lO Tryz.prog 56 70 3 48:=lO.of (by kernel_rfl) (by kernel_rfl) (by decide)
theorem oH:lT Tryz.prog 56=some (false,1):=by kernel_rfl
theorem UZ:m0 Tryz.prog 56=some 1:=by kernel_rfl
theorem pQ:lT Tryz.prog 58=some (true,2):=by kernel_rfl
theorem zR:m0 Tryz.prog 58=some 2:=by kernel_rfl
theorem U0:lM Tryz.prog 58 0=some (0,1):=by kernel_rfl
theorem xR:lM Tryz.prog 58 1=some (1,1):=by kernel_rfl
theorem U1:uV Tryz.prog 58=some ([.string ByteArray.empty,.slice none 0 0], [(0,1),(1,1)]):=by kernel_rfl
theorem MF:rP Tryz.prog 58=some [.string ByteArray.empty,.slice none 0 0]:=by kernel_rfl
theorem sN:lT Tryz.prog 60=some (true,4):=by kernel_rfl
theorem GP:m0 Tryz.prog 60=some 4:=by kernel_rfl
theorem B7:lM Tryz.prog 60 0=some (0,1):=by kernel_rfl
theorem rF:lM Tryz.prog 60 1=some (1,2):=by kernel_rfl
theorem lB:lM Tryz.prog 60 2=some (3,1):=by kernel_rfl
theorem aEU:uV Tryz.prog 60=some ([.int .i64 0,.string ByteArray.empty,.slice none 0 0,.slice none 0 0], [(0,1),(1,2),(3,1)]):=by kernel_rfl
theorem xS:rP Tryz.prog 60=some [.int .i64 0,.string ByteArray.empty,.slice none 0 0,.slice none 0 0]:=by kernel_rfl
theorem sO:lT Tryz.prog 62=some (true,9):=by kernel_rfl
theorem xT:m0 Tryz.prog 62=some 9:=by kernel_rfl
theorem B8:lM Tryz.prog 62 0=some (0,1):=by kernel_rfl
theorem pR:lM Tryz.prog 62 1=some (1,4):=by kernel_rfl
theorem oI:lM Tryz.prog 62 2=some (5,1):=by kernel_rfl
theorem U2:lM Tryz.prog 62 3=some (6,1):=by kernel_rfl
theorem iX:lM Tryz.prog 62 4=some (7,1):=by kernel_rfl
theorem gR:lM Tryz.prog 62 5=some (8,1):=by kernel_rfl
theorem B9:uV Tryz.prog 62=some ([.int .i64 0,.int .i64 0,.string ByteArray.empty,.slice none 0 0,.slice none 0 0,.slice none 0 0,.int .i64 0,.int .i64 0,.slice none 0 0], [(0,1),(1,4),(5,1),(6,1),(7,1),(8,1)]):=by kernel_rfl
theorem QZ:rP Tryz.prog 62=some [.int .i64 0,.int .i64 0,.string ByteArray.empty,.slice none 0 0,.slice none 0 0,.slice none 0 0,.int .i64 0,.int .i64 0,.slice none 0 0]:=by kernel_rfl
theorem U3:v9 Tryz.prog 63=some .u64:=by kernel_rfl
theorem zS:vU Tryz.prog 64=some true:=by kernel_rfl
theorem pC:nL Tryz.prog 64=some 2:=by kernel_rfl
theorem Q0:lO Tryz.prog 64 95 2 40:=lO.of (by kernel_rfl) (by kernel_rfl) (by decide)
theorem aEV:lT Tryz.prog 64=some (false,1):=by kernel_rfl
theorem u64:Tryz.prog.underlying 64=some (.slice 95):=by kernel_rfl
theorem ZL:vU Tryz.prog 65=some true:=by kernel_rfl
theorem aEW:nL Tryz.prog 65=some 1:=by kernel_rfl
theorem ZM:lT Tryz.prog 65=some (false,1):=by kernel_rfl
theorem u65:Tryz.prog.underlying 65=some (.slice 4):=by kernel_rfl
theorem aEX:lT Tryz.prog 67=some (true,5):=by kernel_rfl
theorem U4:wA Tryz.prog 67 0=some (0,3):=by kernel_rfl
theorem U5:lM Tryz.prog 67 1=some (1,1):=by kernel_rfl
theorem U6:wA Tryz.prog 67 1=some (1,3):=by kernel_rfl
theorem U7:wA Tryz.prog 67 2=some (2,3):=by kernel_rfl
theorem U8:wA Tryz.prog 67 3=some (3,64):=by kernel_rfl
theorem U9:wA Tryz.prog 67 4=some (4,65):=by kernel_rfl
theorem uY:vU Tryz.prog 68=some true:=by kernel_rfl
theorem zT:nL Tryz.prog 68=some 32:=by kernel_rfl
theorem CA:lO Tryz.prog 68 36 32 32:=lO.of (by kernel_rfl) (by kernel_rfl) (by decide)
theorem xU:lT Tryz.prog 68=some (false,1):=by kernel_rfl
theorem VA:m0 Tryz.prog 68=some 1:=by kernel_rfl
theorem ED:lT Tryz.prog 70=some (true,3):=by kernel_rfl
theorem MG:m0 Tryz.prog 70=some 3:=by kernel_rfl
theorem MH:lM Tryz.prog 70 2=some (2,1):=by kernel_rfl
theorem aEY:uV Tryz.prog 70=some ([.string ByteArray.empty,.int .i64 0,.slice none 0 0], [(0,1),(1,1),(2,1)]):=by kernel_rfl
theorem JS:rP Tryz.prog 70=some [.string ByteArray.empty,.int .i64 0,.slice none 0 0]:=by kernel_rfl
theorem m9:lT Tryz.prog 81=some (true,4):=by kernel_rfl
theorem MI:m0 Tryz.prog 81=some 4:=by kernel_rfl
theorem CB:lM Tryz.prog 81 0=some (0,1):=by kernel_rfl
theorem CC:lM Tryz.prog 81 1=some (1,1):=by kernel_rfl
theorem MJ:lM Tryz.prog 81 2=some (2,1):=by kernel_rfl
theorem ZN:uV Tryz.prog 81=some ([.int .i64 0,.int .i64 0,.int .i64 0,.int .i64 0], [(0,1),(1,1),(2,1),(3,1)]):=by kernel_rfl
theorem EE:rP Tryz.prog 81=some [.int .i64 0,.int .i64 0,.int .i64 0,.int .i64 0]:=by kernel_rfl
theorem MK:lM Tryz.prog 95 0=some (0,1):=by kernel_rfl
theorem VB:wA Tryz.prog 95 0=some (0,9):=by kernel_rfl
theorem ML:lM Tryz.prog 95 1=some (1,1):=by kernel_rfl
theorem VE:wA Tryz.prog 95 1=some (1,41):=by kernel_rfl
theorem aEZ:uV Tryz.prog 95=some ([.string ByteArray.empty,.slice none 0 0], [(0,1),(1,1)]):=by kernel_rfl
theorem zU:lT Tryz.prog 99=some (true,3):=by kernel_rfl
theorem JT:m0 Tryz.prog 99=some 3:=by kernel_rfl
theorem xV:lM Tryz.prog 99 0=some (0,1):=by kernel_rfl
theorem GQ:lM Tryz.prog 99 1=some (1,1):=by kernel_rfl
theorem mR:lM Tryz.prog 99 2=some (2,1):=by kernel_rfl
theorem ZO:uV Tryz.prog 99=some ([.int .i64 0,.int .i64 0,.slice none 0 0], [(0,1),(1,1),(2,1)]):=by kernel_rfl
theorem sP:rP Tryz.prog 99=some [.int .i64 0,.int .i64 0,.slice none 0 0]:=by kernel_rfl
theorem xW:Tryz.prog.underlying 118=some (.map 3 117):=by kernel_rfl
theorem TE:vU Tryz.prog 129=some true:=by kernel_rfl
theorem AU:nL Tryz.prog 129=some 1:=by kernel_rfl
theorem AX:lO Tryz.prog 129 41 1 24:=lO.of (by kernel_rfl) (by kernel_rfl) (by decide)
theorem TF:lT Tryz.prog 161=some (false,1):=by kernel_rfl
theorem ZP:m0 Tryz.prog 161=some 1:=by kernel_rfl
theorem TG:Tryz.prog.underlying 161=some (.map 3 4):=by kernel_rfl
theorem MM:Tryz.prog.underlying 175=some (.map 9 4):=by kernel_rfl
theorem iJ:lT Tryz.prog 180=some (false,1):=by kernel_rfl
theorem MN:m0 Tryz.prog 180=some 1:=by kernel_rfl
theorem ZQ:v9 Tryz.prog 180=some .u32:=by kernel_rfl
theorem sQ:HQ Tryz.prog 181=some (64,1):=by kernel_rfl
theorem ZR:lT Tryz.prog 181=some (true,64):=by kernel_rfl
theorem TH:m0 Tryz.prog 181=some 64:=by kernel_rfl
theorem VF:D1 Tryz.prog 181=some ([.int .u32 0,.int .u32 0,.int .u32 0,.int .u32 0,.int .u32 0,.int .u32 0,.int .u32 0,.int .u32 0,.int .u32 0,.int .u32 0,.int .u32 0,.int .u32 0,.int .u32 0,.int .u32 0,.int .u32 0,.int .u32 0,.int .u32 0,.int .u32 0,.int .u32 0,.int .u32 0,.int .u32 0,.int .u32 0,.int .u32 0,.int .u32 0,.int .u32 0,.int .u32 0,.int .u32 0,.int .u32 0,.int .u32 0,.int .u32 0,.int .u32 0,.int .u32 0,.int .u32 0,.int .u32 0,.int .u32 0,.int .u32 0,.int .u32 0,.int .u32 0,.int .u32 0,.int .u32 0,.int .u32 0,.int .u32 0,.int .u32 0,.int .u32 0,.int .u32 0,.int .u32 0,.int .u32 0,.int .u32 0,.int .u32 0,.int .u32 0,.int .u32 0,.int .u32 0,.int .u32 0,.int .u32 0,.int .u32 0,.int .u32 0,.int .u32 0,.int .u32 0,.int .u32 0,.int .u32 0,.int .u32 0,.int .u32 0,.int .u32 0,.int .u32 0], [(0,1),(1,1),(2,1),(3,1),(4,1),(5,1),(6,1),(7,1),(8,1),(9,1),(10,1),(11,1),(12,1),(13,1),(14,1),(15,1),(16,1),(17,1),(18,1),(19,1),(20,1),(21,1),(22,1),(23,1),(24,1),(25,1),(26,1),(27,1),(28,1),(29,1),(30,1),(31,1),(32,1),(33,1),(34,1),(35,1),(36,1),(37,1),(38,1),(39,1),(40,1),(41,1),(42,1),(43,1),(44,1),(45,1),(46,1),(47,1),(48,1),(49,1),(50,1),(51,1),(52,1),(53,1),(54,1),(55,1),(56,1),(57,1),(58,1),(59,1),(60,1),(61,1),(62,1),(63,1)]):=by kernel_rfl
theorem MO:rP Tryz.prog 181=some [.int .u32 0,.int .u32 0,.int .u32 0,.int .u32 0,.int .u32 0,.int .u32 0,.int .u32 0,.int .u32 0,.int .u32 0,.int .u32 0,.int .u32 0,.int .u32 0,.int .u32 0,.int .u32 0,.int .u32 0,.int .u32 0,.int .u32 0,.int .u32 0,.int .u32 0,.int .u32 0,.int .u32 0,.int .u32 0,.int .u32 0,.int .u32 0,.int .u32 0,.int .u32 0,.int .u32 0,.int .u32 0,.int .u32 0,.int .u32 0,.int .u32 0,.int .u32 0,.int .u32 0,.int .u32 0,.int .u32 0,.int .u32 0,.int .u32 0,.int .u32 0,.int .u32 0,.int .u32 0,.int .u32 0,.int .u32 0,.int .u32 0,.int .u32 0,.int .u32 0,.int .u32 0,.int .u32 0,.int .u32 0,.int .u32 0,.int .u32 0,.int .u32 0,.int .u32 0,.int .u32 0,.int .u32 0,.int .u32 0,.int .u32 0,.int .u32 0,.int .u32 0,.int .u32 0,.int .u32 0,.int .u32 0,.int .u32 0,.int .u32 0,.int .u32 0]:=by kernel_rfl
theorem kB:HQ Tryz.prog 183=some (8,1):=by kernel_rfl
theorem ZS:lT Tryz.prog 183=some (true,8):=by kernel_rfl
theorem MP:m0 Tryz.prog 183=some 8:=by kernel_rfl
theorem MQ:D1 Tryz.prog 183=some ([.int .u32 0,.int .u32 0,.int .u32 0,.int .u32 0,.int .u32 0,.int .u32 0,.int .u32 0,.int .u32 0], [(0,1),(1,1),(2,1),(3,1),(4,1),(5,1),(6,1),(7,1)]):=by kernel_rfl
theorem TJ:rP Tryz.prog 183=some [.int .u32 0,.int .u32 0,.int .u32 0,.int .u32 0,.int .u32 0,.int .u32 0,.int .u32 0,.int .u32 0]:=by kernel_rfl
theorem mixed:Tryz.prog.follows .mixedOrders=true:=by kernel_rfl
def tb:Tr TI:=.node 114 dN (.node 60 ⟨some (true,4),none, [0,1,3]⟩ (.node 33 dN (.node 18 ⟨some (true,1),none, [0]⟩ (.node 9 dN (.node 4 dN (.node 2 ⟨some (false,1),some .i64, []⟩ (.node 1 dN .nil .nil) (.node 3 ⟨some (false,1),some .i64, []⟩ .nil .nil)) (.node 7 ⟨some (true,4),none, [0,1,2,3]⟩ (.node 5 ⟨some (false,1),some .u8, []⟩ .nil .nil) .nil)) (.node 15 dN (.node 13 ⟨some (true,2),none, [0,1]⟩ (.node 12 ⟨some (false,1),some .u64, []⟩ .nil .nil) .nil) (.node 17 dN (.node 16 dN .nil .nil) .nil))) (.node 27 dN (.node 24 dN (.node 22 dN (.node 21 ⟨some (false,1),some .i32, []⟩ .nil .nil) (.node 23 dN .nil .nil)) (.node 26 dN (.node 25 dN .nil .nil) .nil)) (.node 30 ⟨some (true,5),none, [0,1,2,3,4]⟩ (.node 29 ⟨some (true,5),none, [0,1,2,3,4]⟩ (.node 28 dN .nil .nil) .nil) (.node 32 dN (.node 31 dN .nil .nil) .nil)))) (.node 46 dN (.node 40 dN (.node 37 ⟨some (true,37),none, [0,1,33,34,35,36]⟩ (.node 35 dN (.node 34 dN .nil .nil) (.node 36 ⟨some (true,32),none, []⟩ .nil .nil)) (.node 39 dN (.node 38 ⟨some (true,37),none, [0,1,33,34,35,36]⟩ .nil .nil) .nil)) (.node 43 ⟨some (true,35),none, [0,32,33,34]⟩ (.node 42 dN (.node 41 dN .nil .nil) .nil) (.node 45 dN (.node 44 ⟨some (true,35),none, [0,32,33,34]⟩ .nil .nil) .nil))) (.node 54 dN (.node 50 dN (.node 48 ⟨some (true,4),none, [0,1,2,3]⟩ (.node 47 dN .nil .nil) (.node 49 ⟨some (true,4),none, [0,1,2,3]⟩ .nil .nil)) (.node 52 ⟨some (false,1),some .i64, []⟩ (.node 51 dN .nil .nil) .nil)) (.node 57 ⟨some (true,2),none, [0,1]⟩ (.node 56 dN (.node 55 dN .nil .nil) .nil) (.node 59 ⟨some (true,4),none, [0,1,3]⟩ (.node 58 ⟨some (true,2),none, [0,1]⟩ .nil .nil) .nil))))) (.node 88 dN (.node 73 dN (.node 67 ⟨some (true,5),none, [0,1,2,3,4]⟩ (.node 64 dN (.node 62 ⟨some (true,9),none, [0,1,5,6,7,8]⟩ (.node 61 ⟨some (true,9),none, [0,1,5,6,7,8]⟩ .nil .nil) (.node 63 ⟨some (false,1),some .u64, []⟩ .nil .nil)) (.node 66 ⟨some (true,5),none, [0,1,2,3,4]⟩ (.node 65 dN .nil .nil) .nil)) (.node 70 ⟨some (true,3),none, [0,1,2]⟩ (.node 69 ⟨some (true,3),none, [0,1,2]⟩ (.node 68 dN .nil .nil) .nil) (.node 72 dN (.node 71 dN .nil .nil) .nil))) (.node 81 ⟨some (true,4),none, [0,1,2,3]⟩ (.node 78 dN (.node 75 dN (.node 74 dN .nil .nil) (.node 76 dN .nil .nil)) (.node 80 ⟨some (true,4),none, [0,1,2,3]⟩ (.node 79 dN .nil .nil) .nil)) (.node 85 dN (.node 84 dN (.node 82 dN .nil .nil) .nil) (.node 87 dN (.node 86 dN .nil .nil) .nil)))) (.node 101 dN (.node 95 ⟨some (true,2),none, [0,1]⟩ (.node 92 dN (.node 90 dN (.node 89 dN .nil .nil) (.node 91 dN .nil .nil)) (.node 94 ⟨some (true,2),none, [0,1]⟩ (.node 93 dN .nil .nil) .nil)) (.node 98 ⟨some (true,3),none, [0,1,2]⟩ (.node 97 dN (.node 96 dN .nil .nil) .nil) (.node 100 dN (.node 99 ⟨some (true,3),none, [0,1,2]⟩ .nil .nil) .nil))) (.node 108 dN (.node 105 dN (.node 103 dN (.node 102 dN .nil .nil) (.node 104 dN .nil .nil)) (.node 107 dN (.node 106 dN .nil .nil) .nil)) (.node 111 dN (.node 110 dN (.node 109 dN .nil .nil) .nil) (.node 113 dN (.node 112 dN .nil .nil) .nil)))))) (.node 172 dN (.node 144 dN (.node 129 dN (.node 122 dN (.node 118 dN (.node 116 dN (.node 115 dN .nil .nil) (.node 117 dN .nil .nil)) (.node 121 dN (.node 120 dN .nil .nil) .nil)) (.node 125 dN (.node 124 dN (.node 123 dN .nil .nil) .nil) (.node 128 dN (.node 126 dN .nil .nil) .nil))) (.node 137 dN (.node 134 dN (.node 132 dN (.node 131 dN .nil .nil) (.node 133 dN .nil .nil)) (.node 136 dN (.node 135 dN .nil .nil) .nil)) (.node 140 dN (.node 139 dN (.node 138 dN .nil .nil) .nil) (.node 142 dN (.node 141 dN .nil .nil) .nil)))) (.node 159 dN (.node 152 dN (.node 149 dN (.node 146 dN (.node 145 dN .nil .nil) (.node 147 dN .nil .nil)) (.node 151 dN (.node 150 dN .nil .nil) .nil)) (.node 156 dN (.node 155 dN (.node 154 dN .nil .nil) .nil) (.node 158 dN (.node 157 dN .nil .nil) .nil))) (.node 166 dN (.node 163 dN (.node 161 dN (.node 160 dN .nil .nil) (.node 162 dN .nil .nil)) (.node 165 dN (.node 164 dN .nil .nil) .nil)) (.node 169 dN (.node 168 dN (.node 167 dN .nil .nil) .nil) (.node 171 dN (.node 170 dN .nil .nil) .nil))))) (.node 198 dN (.node 185 dN (.node 179 dN (.node 176 dN (.node 174 dN (.node 173 dN .nil .nil) (.node 175 dN .nil .nil)) (.node 178 dN (.node 177 dN .nil .nil) .nil)) (.node 182 dN (.node 181 ⟨some (true,64),none, []⟩ (.node 180 ⟨some (false,1),some .u32, []⟩ .nil .nil) .nil) (.node 184 dN (.node 183 ⟨some (true,8),none, []⟩ .nil .nil) .nil))) (.node 192 dN (.node 189 dN (.node 187 dN (.node 186 dN .nil .nil) (.node 188 dN .nil .nil)) (.node 191 dN (.node 190 dN .nil .nil) .nil)) (.node 195 dN (.node 194 dN (.node 193 dN .nil .nil) .nil) (.node 197 dN (.node 196 dN .nil .nil) .nil)))) (.node 211 dN (.node 205 dN (.node 202 dN (.node 200 dN (.node 199 dN .nil .nil) (.node 201 dN .nil .nil)) (.node 204 dN (.node 203 dN .nil .nil) .nil)) (.node 208 dN (.node 207 ⟨some (false,1),some .u64, []⟩ (.node 206 dN .nil .nil) .nil) (.node 210 dN (.node 209 dN .nil .nil) .nil))) (.node 218 ⟨some (true,0),none, []⟩ (.node 214 dN (.node 213 dN (.node 212 dN .nil .nil) .nil) (.node 216 ⟨some (true,4),none, [0,1,2,3]⟩ (.node 215 dN .nil .nil) .nil)) (.node 224 dN (.node 221 dN (.node 219 ⟨some (true,0),none, []⟩ .nil .nil) .nil) (.node 228 ⟨some (true,11),none, [0,1,2,3,4,5,6,7,8,9,10]⟩ (.node 225 dN .nil .nil) .nil))))))
theorem XK:D3 Tryz.prog tb:=by unfold D3; kernel_rfl
section
variable {h:aF} {n:Nat} {c:Code} {kn:FR→HL→Prop} {ke:Exit→FR→HL→Prop} {f:FR} {L:HL} {id:Nat} {l:List Oper}
theorem v (k:vc tb false Tryz.prog h n c kn ke f L):VC Tryz.prog h n c kn ke f L:=vcS XK c k
theorem v0 (k:vc tb true Tryz.prog h n c kn ke f L):VC Tryz.prog h n c kn ke f L:=vcS XK c k
theorem vq (h2:DW 0 (l.map (wC l.toArray))=true) (k:vo true tb false Tryz.prog h n l kn l f L):VD Tryz.prog h n id l.toArray kn f L:=vqT XK mixed h2 k
theorem CD (h2:DW 0 (l.map (wC l.toArray))=true) (k:vo true tb true Tryz.prog h n l kn l f L):VD Tryz.prog h n id l.toArray kn f L:=vqT XK mixed h2 k
end
abbrev AY:=(List aH)×(List aB)×(List aT)
abbrev fE:=(List aH)×(List aB)×(List aT)×(List aQ)
abbrev dE (g:dD) (e:List aH):Option bT×iY:=(g.t,.obj 60 (fl bJ e g.sp))
abbrev dA (g:dD) (e:List aB):Option bT×iY:=(g.t,.obj 44 (fl aK e g.sp))
abbrev jR (g:dD) (e:List aT):Option bT×iY:=(g.t,.obj 99 (fl cH e g.sp))
abbrev lC (g:dD) (e:List aQ):Option bT×iY:=(g.t,.obj 49 (fl dG e g.sp))
abbrev eC (g:dD) (e:List aR):Option bT×iY:=(g.t,.obj 81 (fl aN e g.sp))
abbrev hO (k:bT) (q:Int) (a b c d:dD):Option bT×iY:=(some k,.obj 30 [nZ q,aZ a,aZ b,aZ c,aZ d])
abbrev hL (k:bT) (q:Int) (a b c d:dD) (s:List aH) (t:List aB) (u:List aT) (v:List aQ):HL:= [hO k q a b c d,dE a s,dA b t,jR c u,lC d v]
abbrev hC (k:bT) (x:aA) (a b c d:dD):HL:=hL k x.Seq a b c d x.Snaps x.Chunks x.Exps x.Vols
open Go.Vm
def zJ (m:Nat) (p0:Int) (p1:Int) (p2:Int):Option (Bool):=
 after (if (decide (p1≤p0))=true then (some (.brk (decide (p0≤p2)))) else some (.brk false):Option (Lp (Bool) (Bool))) λj4=>some j4
theorem DI {u:Nat} {p0:Int} {p1:Int} {p2:Int} {o:Bool} (h:aF) (m:zJ u p0 p1 p2=some o):
 aM Tryz.prog 57 [nZ p0,nZ p1,nZ p2] h (λr h'=>r= .sc (.bool o)∧h'=h):=by
 refine fK 15 [.tmp 6] Tryz.func57 rfl rfl rfl rfl ?_
 unfold zJ at m
 refine v (vs (fN m (σ:=Bool) (λs=> []) (λs=>.c 6 (.sc (.bool s)) .nil) (λx m=> ?_) ?_))
 refine v ?_
 apply vi m <;> intro b5 m
 rw[b5]
 exact nX m
 rw[b5]
 exact nX m
 rintro _ j4 m
 refine v ?_
 obtain rfl:=eP m
 exact eF rfl
theorem pD:aP Tryz.prog 57=true:=by kernel_rfl
def xX (m:Nat) (p0:List aQ) (q0:Int):Option (Lp (Int) (Bool)):=
 if (decide (q0 < (p0.length:Int)))=true then ((ix p0 q0).bind λx0=>after (if (x0.State==2)=true then ((zJ m x0.Files 1 65535).bind λy0=>some (.brk y0)) else some (.brk false):Option (Lp (Bool) (Lp (Int) (Bool)))) λj0=>after (if (x0.State==1)=true then (some (.brk (x0.Files==0))) else if (x0.State==3)=true then (some (.brk (x0.Files==0))) else some (.brk false):Option (Lp (Bool) (Lp (Int) (Bool)))) λj1=>after ((zJ m x0.Pool 0 1).bind λy1=>if (!y1)=true then (some (.brk true)) else (zJ m x0.Epoch 0 1048576).bind λy2=>if (!y2)=true then (some (.brk true)) else if (!j0)=true then (some (.brk (!j1))) else some (.brk false):Option (Lp (Bool) (Lp (Int) (Bool)))) λj2=>if j2=true then (some (.ret false)) else some (.go (IntKind.wrap .i64 (q0+1)))) else some (.brk q0)
def ZT (m:Nat) (p0:List aQ):Option (Bool):=
 after (aS (λs=>xX m p0 s) m 0) λr0=>(zJ m (p0.length:Int) 1 8).bind λy0=>some y0
theorem W78 {w:Nat} {p0:List aQ} {o:Bool} (h:aF) (m:ZT w p0=some o):
 aM Tryz.prog 78 [.sl none 4 (List.map dG p0)] h (λr h'=>r= .sc (.bool o)∧h'=h):=by
 refine fK 56 [.tmp 2] Tryz.func78 rfl rfl rfl rfl ?_
 unfold ZT at m
 refine v (v (dH qK rfl (jP m (σ:=Int) (λs=> []) (λs=>.c 0 (.sl none 4 (List.map dG p0)) (.c 7 (.sl none 4 (List.map dG p0)) (.c 8 (nZ (p0.length:Int)) (.c 9 (nZ s) .nil)))) (lx (.k4 .nil)) ?_ ?_)))
 rintro _ q0 x m
 replace m:xX w p0 q0=some x:=m
 unfold xX at m
 refine v (v ?_)
 apply vi m <;> intro c0 m
 refine v (v (v (vx m lZ rfl rfl λx0 _ m=>va (.agg (dG x0)) ZG rfl rfl (ve λu=>bG (I9) u QX rfl rfl λk105 K0=>qk K0 rfl (ve λu=>aL 0 (dG x0) u rfl rfl rfl rfl ZH rfl rfl λK1=>qk K1 rfl (vs (fN m (σ:=Bool) (λs=> [(some k105,.obj 49 (dG x0))]) (λs=>.c 0 (.sl none 4 (List.map dG p0)) (.c 4 (.ptr k105 0) (.c 5 (.sc (.bool s)) (.c 7 (.sl none 4 (List.map dG p0)) (.c 8 (nZ (p0.length:Int)) (.c 9 (nZ q0) .nil)))))) (λx m=> ?_) ?_)))))))
 refine v (vl 0 _ cB rfl rfl rfl ?_)
 apply vi m <;> intro b0 m
 rw[b0]
 exact vl 0 _ cB rfl rfl rfl (vk DI pD m rfl rfl λ_ m=>m5 m)
 rw[b0]
 exact m5 m
 rintro _ j0 m
 refine vs (fN m (σ:=Bool) (λs=> [(some k105,.obj 49 (dG x0))]) (λs=>.c 0 (.sl none 4 (List.map dG p0)) (.c 4 (.ptr k105 0) (.c 5 (.sc (.bool j0)) (.c 6 (.sc (.bool s)) (.c 7 (.sl none 4 (List.map dG p0)) (.c 8 (nZ (p0.length:Int)) (.c 9 (nZ q0) .nil))))))) (λx m=> ?_) ?_)
 refine v (vl 0 _ cB rfl rfl rfl ?_)
 apply vi m <;> intro b1 m
 rw[b1]
 exact vl 0 _ cB rfl rfl rfl (B5 m)
 rw[b1]
 refine vl 0 _ cB rfl rfl rfl ?_
 apply vi m <;> intro b2 m
 rw[b2]
 exact vl 0 _ cB rfl rfl rfl (B5 m)
 rw[b2]
 exact B5 m
 rintro _ j1 m
 refine vs (fN m (σ:=Bool) (λs=> [(some k105,.obj 49 (dG x0))]) (λs=>.c 0 (.sl none 4 (List.map dG p0)) (.c 7 (.sl none 4 (List.map dG p0)) (.c 8 (nZ (p0.length:Int)) (.c 9 (nZ q0) (.c 51 (.sc (.bool s)) .nil))))) (λx m=> ?_) ?_)
 refine v (vl 0 _ cB rfl rfl rfl (vk DI pD m rfl rfl λ_ m=> ?_))
 apply vi m <;> intro b3 m
 rw[b3]
 exact kY m
 rw[b3]
 refine vl 0 _ cB rfl rfl rfl (vk DI pD m rfl rfl λ_ m=> ?_)
 apply vi m <;> intro b4 m
 rw[b4]
 exact kY m
 rw[b4]
 apply vi m <;> intro b5 m
 rw[b5]
 exact kY m
 rw[b5]
 exact kY m
 rintro _ j2 m
 refine v ?_
 apply vi m <;> intro c1 m
 refine v (v (fZ m λm=> ?_))
 obtain rfl:=eP m
 exact eF rfl
 exact v (v (zH m (mE [] rfl rfl (.k4 .nil))))
 exact v (wE m)
 rintro _ r0 m
 refine v (dH qK rfl (vk DI pD m rfl rfl λ_ m=>v ?_))
 obtain rfl:=eP m
 exact eF rfl
theorem aE0:aP Tryz.prog 78=true:=by kernel_rfl
def MR (m:Nat) (p0:aR) (p1:aR):Option (Bool):=
 if (p0.Vol !=p1.Vol)=true then (some (decide (p1.Vol < p0.Vol))) else if (p0.File !=p1.File)=true then (some (decide (p1.File < p0.File))) else some (decide (p1.Off < p0.Off))
theorem aE1 {u:Nat} {p0:aR} {p1:aR} {o:Bool} (h:aF) (m:MR u p0 p1=some o):
 aM Tryz.prog 183 [.agg (aN p0),.agg (aN p1)] h (λr h'=>r= .sc (.bool o)∧h'=h):=by
 refine fK 32 [.tmp 4] Tryz.func183 rfl rfl rfl rfl ?_
 unfold MR at m
 refine v (gX rfl rfl λk2 K3=>gX rfl rfl λk5 K6=>v (v (vl 1 _ cB rfl rfl rfl (vl 0 _ cB rfl rfl rfl (v ?_)))))
 apply vi m <;> intro c0 m
 refine v (vl 1 _ cB rfl rfl rfl (vl 0 _ cB rfl rfl rfl (v ?_)))
 cases m
 exact eF rfl
 refine v (vl 1 _ cB rfl rfl rfl (vl 0 _ cB rfl rfl rfl (v ?_)))
 apply vi m <;> intro c1 m
 refine v (vl 1 _ cB rfl rfl rfl (vl 0 _ cB rfl rfl rfl (v ?_)))
 cases m
 exact eF rfl
 refine v (v (vl 1 _ cB rfl rfl rfl (vl 0 _ cB rfl rfl rfl (v ?_))))
 cases m
 exact eF rfl
theorem ZU:aP Tryz.prog 183=true:=by kernel_rfl
def sR (m:Nat) (p0:aA) (p1:List aR) (q0:Int):Option (Lp (Int) (Bool)):=
 if (decide (q0 < (p1.length:Int)))=true then ((ix p1 q0).bind λx0=>after ((zJ m x0.Vol 0 (IntKind.wrap .i64 ((p0.Vols.length:Int) - 1))).bind λy0=>if (!y0)=true then (some (.brk true)) else (ix p0.Vols x0.Vol).bind λx1=>if (x1.State !=2)=true then (some (.brk true)) else (ix p0.Vols x0.Vol).bind λx2=>(zJ m x0.File 1 x2.Files).bind λy1=>if (!y1)=true then (some (.brk true)) else (zJ m x0.Off 0 16777215).bind λy2=>if (!y2)=true then (some (.brk true)) else (zJ m x0.Len 13 8013).bind λy3=>if (!y3)=true then (some (.brk true)) else if (decide (0 < q0))=true then ((ix p1 (IntKind.wrap .i64 (q0 - 1))).bind λx3=>(MR m x0 x3).bind λy4=>some (.brk (!y4))) else some (.brk false):Option (Lp (Bool) (Lp (Int) (Bool)))) λj0=>if j0=true then (some (.ret false)) else some (.go (IntKind.wrap .i64 (q0+1)))) else some (.brk q0)
def zV (m:Nat) (p0:aA) (p1:List aR):Option (Bool):=
 if (decide (200 < (p1.length:Int)))=true then (some false) else after (aS (λs=>sR m p0 p1 s) m 0) λr0=>some true
theorem JU {w:Nat} {p0:aA} {p1:List aR} {o:Bool} (h:aF) (m:zV w p0 p1=some o):
 aM Tryz.prog 137 [.agg (aC p0),.sl none 4 (List.map aN p1)] h (λr h'=>r= .sc (.bool o)∧h'=h):=by
 refine fK 75 [.tmp 4] Tryz.func137 rfl rfl rfl rfl ?_
 unfold zV at m
 refine v (gX rfl rfl λk2 K3=>v (dH kD rfl (v ?_)))
 apply vi m <;> intro c7 m
 refine v (v ?_)
 obtain rfl:=eP m
 exact eF rfl
 refine v (v (dH kD rfl (jP m (σ:=Int) (λs=> [(some k2,.obj 30 (aC p0))]) (λs=>.c 1 (.sl none 4 (List.map aN p1)) (.c 2 (.ptr k2 0) (.c 10 (.sl none 4 (List.map aN p1)) (.c 11 (nZ (p1.length:Int)) (.c 12 (nZ s) .nil))))) (lx (.k5 .nil)) ?_ ?_)))
 rintro _ q0 x m
 replace m:sR w p0 p1 q0=some x:=m
 unfold sR at m
 refine v (v ?_)
 apply vi m <;> intro c0 m
 refine v (v (v (vx m i9 rfl rfl λx0 _ m=>va (.agg (aN x0)) m9 rfl rfl (ve λu=>bG (I9) u EE rfl rfl λk140 K0=>qk K0 rfl (ve λu=>aL 0 (aN x0) u rfl rfl rfl rfl MI rfl rfl λK1=>qk K1 rfl (vs (fN m (σ:=Bool) (λs=> [(some k140,.obj 81 (aN x0)),(some k2,.obj 30 (aC p0))]) (λs=>.c 1 (.sl none 4 (List.map aN p1)) (.c 2 (.ptr k2 0) (.c 10 (.sl none 4 (List.map aN p1)) (.c 11 (nZ (p1.length:Int)) (.c 12 (nZ q0) (.c 73 (.sc (.bool s)) .nil)))))) (λx m=> ?_) ?_)))))))
 refine v (vq (by kernel_rfl) (vl 0 _ cB rfl rfl rfl (vl 1 _ iH rfl rfl rfl (dH qK rfl (vk DI pD m rfl rfl λ_ m=> ?_)))))
 apply vi m <;> intro b0 m
 rw[b0]
 exact m5 m
 rw[b0]
 refine vl 1 _ iH rfl rfl rfl (vl 0 _ cB rfl rfl rfl (vx m lZ rfl rfl λ_ _ m=> ?_))
 apply vi m <;> intro b1 m
 rw[b1]
 exact m5 m
 rw[b1]
 refine vl 0 _ cB rfl rfl rfl (vl 1 _ iH rfl rfl rfl (vl 0 _ cB rfl rfl rfl (vx m lZ rfl rfl λ_ _ m=>vk DI pD m rfl rfl λ_ m=> ?_)))
 apply vi m <;> intro b2 m
 rw[b2]
 exact m5 m
 rw[b2]
 refine vl 0 _ cB rfl rfl rfl (vk DI pD m rfl rfl λ_ m=> ?_)
 apply vi m <;> intro b3 m
 rw[b3]
 exact m5 m
 rw[b3]
 refine vl 0 _ cB rfl rfl rfl (vk DI pD m rfl rfl λ_ m=> ?_)
 apply vi m <;> intro b4 m
 rw[b4]
 exact m5 m
 rw[b4]
 apply vi m <;> intro b5 m
 rw[b5]
 exact vl 0 (.agg (aN x0)) m9 rfl rfl rfl (vx m i9 rfl rfl λx1 _ m=>va (.agg (aN x1)) m9 rfl rfl (vk aE1 ZU m rfl rfl λ_ m=>m5 m))
 rw[b5]
 exact m5 m
 rintro _ j0 m
 refine v ?_
 apply vi m <;> intro c1 m
 refine v (v (fZ m λm=> ?_))
 obtain rfl:=eP m
 exact eF rfl
 exact v (v (zH m (mE [1] rfl rfl (.k5 .nil))))
 exact v (XJ m)
 rintro _ r0 m
 refine v (v ?_)
 obtain rfl:=eP m
 exact eF rfl
theorem AZ:aP Tryz.prog 137=true:=by kernel_rfl
def sS (m:Nat) (p0:ByteArray) (q0:Int):Option (Lp (Int) (Bool)):=
 if (decide (q0 < (p0.size:Int)))=true then (after ((QI p0 q0).bind λx0=>if (decide (x0 < 33))=true then (some (.brk true)) else (QI p0 q0).bind λx1=>some (.brk (decide (126 < x1))):Option (Lp (Bool) (Lp (Int) (Bool)))) λj0=>if j0=true then (some (.ret false)) else some (.go (IntKind.wrap .i64 (q0+1)))) else some (.brk q0)
def JV (m:Nat) (p0:ByteArray):Option (Bool):=
 after (if (decide ((p0.size:Int) < 1))=true then (some (.brk true)) else some (.brk (decide (20 < (p0.size:Int)))):Option (Lp (Bool) (Bool))) λj5=>if j5=true then (some false) else after (aS (λs=>sS m p0 s) m 0) λr0=>some true
theorem ZV {u:Nat} {p0:ByteArray} {o:Bool} (h:aF) (m:JV u p0=some o):
 aM Tryz.prog 164 [.sc (.string p0)] h (λr h'=>r= .sc (.bool o)∧h'=h):=by
 refine fK 28 [.tmp 2] Tryz.func164 rfl rfl rfl rfl ?_
 unfold JV at m
 refine v (vs (vs (fN m (σ:=Bool) (λs=> []) (λs=>.c 0 (.sc (.string p0)) (.c 11 (.sc (.bool s)) .nil)) (λx m=> ?_) ?_)))
 refine v (bU (qZ UV rfl) ?_)
 apply vi m <;> intro b6 m
 rw[b6]
 exact wK m
 rw[b6]
 exact bU (qZ UV rfl) (wK m)
 rintro _ j5 m
 refine v ?_
 apply vi m <;> intro c8 m
 refine v (v ?_)
 obtain rfl:=eP m
 exact eF rfl
 refine v (v (bU (qZ UV rfl) (jP m (σ:=Int) (λs=> []) (λs=>.c 0 (.sc (.string p0)) (.c 13 (nZ (p0.size:Int)) (.c 14 (nZ s) .nil))) (lx (.k3 .nil)) ?_ ?_)))
 rintro _ q0 x m
 replace m:sS u p0 q0=some x:=m
 unfold sS at m
 refine v (v ?_)
 apply vi m <;> intro c0 m
 refine v (v (v (vs (fN m (σ:=Bool) (λs=> []) (λs=>.c 0 (.sc (.string p0)) (.c 13 (nZ (p0.size:Int)) (.c 14 (nZ q0) (.c 26 (.sc (.bool s)) .nil)))) (λx m=> ?_) ?_))))
 refine v ?_
 obtain⟨_,X0,m⟩:=aD m
 refine bU (HT X0 u9 rfl rfl) ?_
 apply vi m <;> intro b0 m
 rw[b0]
 exact fY m
 rw[b0]
 obtain⟨_,X1,m⟩:=aD m
 exact bU (HT X1 u9 rfl rfl) (fY m)
 rintro _ j0 m
 refine v ?_
 apply vi m <;> intro c1 m
 refine v (v (fZ m λm=> ?_))
 obtain rfl:=eP m
 exact eF rfl
 exact v (v (gD m))
 exact v (Fq m)
 rintro _ r0 m
 refine v (v ?_)
 obtain rfl:=eP m
 exact eF rfl
theorem TK:aP Tryz.prog 164=true:=by kernel_rfl
def MS (m:Nat) (p0:cT):Option (Bool):=
 after ((JV m p0.Path).bind λy0=>if y0=true then (if (decide (0≤p0.Size))=true then (if (decide (p0.Size≤200))=true then (if (decide ((p0.Ids.length:Int)≤25))=true then (some (.brk (((p0.Ids.length:Int)==0)==(p0.Size==0)))) else some (.brk false)) else some (.brk false)) else some (.brk false)) else some (.brk false):Option (Lp (Bool) (Bool))) λj0=>some j0
theorem aE2 {u:Nat} {p0:cT} {o:Bool} (h:aF) (m:MS u p0=some o):
 aM Tryz.prog 165 [.agg (bX p0)] h (λr h'=>r= .sc (.bool o)∧h'=h):=by
 refine fK 32 [.tmp 2] Tryz.func165 rfl rfl rfl rfl ?_
 unfold MS at m
 refine v (gX rfl rfl λk2 K3=>vs (fN m (σ:=Bool) (λs=> [(some k2,.obj 70 (bX p0))]) (λs=>.c 2 (.sc (.bool s)) .nil) (λx m=> ?_) ?_))
 refine v (vl 0 _ HY rfl rfl rfl (vk ZV TK m rfl rfl λ_ m=> ?_))
 apply vi m <;> intro b0 m
 rw[b0]
 refine vl 0 _ cB rfl rfl rfl ?_
 apply vi m <;> intro b1 m
 rw[b1]
 refine vl 0 _ cB rfl rfl rfl ?_
 apply vi m <;> intro b2 m
 rw[b2]
 refine vl 0 _ xU rfl rfl rfl (dH uY rfl ?_)
 apply vi m <;> intro b3 m
 rw[b3]
 exact vl 0 _ xU rfl rfl rfl (dH uY rfl (vl 0 _ cB rfl rfl rfl (bU (UG u4 rfl rfl rfl) (nX m))))
 rw[b3]
 exact nX m
 rw[b2]
 exact nX m
 rw[b1]
 exact nX m
 rw[b0]
 exact nX m
 rintro _ j0 m
 refine v ?_
 obtain rfl:=eP m
 exact eF rfl
theorem ZW:aP Tryz.prog 165=true:=by kernel_rfl
def sU (m:Nat) (p0:bE) (q0:Int):Option (Lp (Int) (Int)):=
 if (decide (q0 < (p0.Parts.length:Int)))=true then ((ix p0.Parts q0).bind λx0=>after ((MS m x0).bind λy0=>if (!y0)=true then (some (.brk true)) else if (decide (0 < q0))=true then ((ix p0.Parts (IntKind.wrap .i64 (q0 - 1))).bind λx1=>some (.brk (Op.bytesLess x0.Path.toList x1.Path.toList || x0.Path.toList==x1.Path.toList))) else some (.brk false):Option (Lp (Bool) (Lp (Int) (Int)))) λj0=>if j0=true then (some (.ret 1)) else some (.go (IntKind.wrap .i64 (q0+1)))) else some (.brk q0)
def JW (m:Nat) (p0:bE):Option (Int):=
 after ((JV m p0.Name).bind λy0=>if (!y0)=true then (some (.brk true)) else some (.brk (decide (6 < (p0.Parts.length:Int)))):Option (Lp (Bool) (Int))) λj0=>if j0=true then (some 1) else after (aS (λs=>sU m p0 s) m 0) λr0=>some 0
theorem ZX {w:Nat} {p0:bE} {o:Int} (h:aF) (m:JW w p0=some o):
 aM Tryz.prog 100 [.agg (bI p0)] h (λr h'=>r=nZ o∧h'=h):=by
 refine fK 43 [.tmp 2] Tryz.func100 rfl rfl rfl rfl ?_
 unfold JW at m
 refine v (gX rfl rfl λk2 K3=>vs (vs (fN m (σ:=Bool) (λs=> [(some k2,.obj 58 (bI p0))]) (λs=>.c 1 (.ptr k2 0) (.c 14 (.sc (.bool s)) .nil)) (λx m=> ?_) ?_)))
 refine v (vl 0 _ HY rfl rfl rfl (vk ZV TK m rfl rfl λ_ m=> ?_))
 apply vi m <;> intro b0 m
 rw[b0]
 exact wK m
 rw[b0]
 exact vl 0 _ oH rfl rfl rfl (dH zQ rfl (wK m))
 rintro _ j0 m
 refine v ?_
 apply vi m <;> intro c0 m
 refine v (v ?_)
 obtain rfl:=eP m
 exact eF rfl
 refine v (v (vl 0 _ oH rfl rfl rfl (dH zQ rfl (jP m (σ:=Int) (λs=> [(some k2,.obj 58 (bI p0))]) (λs=>.c 1 (.ptr k2 0) (.c 16 (.sl none 3 (List.map bX p0.Parts)) (.c 17 (nZ (p0.Parts.length:Int)) (.c 18 (nZ s) .nil)))) (lx (.k4 .nil)) ?_ ?_))))
 rintro _ q0 x m
 replace m:sU w p0 q0=some x:=m
 unfold sU at m
 refine v (v ?_)
 apply vi m <;> intro c1 m
 refine v (v (v (vx m sM rfl rfl λx0 _ m=>va (.agg (bX x0)) ED rfl rfl (ve λu=>bG (XZ) u JS rfl rfl λk84 K0=>qk K0 rfl (ve λu=>aL 0 (bX x0) u rfl rfl rfl rfl MG rfl rfl λK1=>qk K1 rfl (vs (fN m (σ:=Bool) (λs=> [(some k84,.obj 70 (bX x0)),(some k2,.obj 58 (bI p0))]) (λs=>.c 1 (.ptr k2 0) (.c 16 (.sl none 3 (List.map bX p0.Parts)) (.c 17 (nZ (p0.Parts.length:Int)) (.c 18 (nZ q0) (.c 41 (.sc (.bool s)) .nil))))) (λx m=> ?_) ?_)))))))
 refine v (vq (by kernel_rfl) (vl 0 (.agg (bX x0)) ED rfl rfl rfl (vk aE2 ZW m rfl rfl λ_ m=> ?_)))
 apply vi m <;> intro b1 m
 rw[b1]
 exact kY m
 rw[b1]
 apply vi m <;> intro b2 m
 rw[b2]
 exact vl 0 _ HY rfl rfl rfl (vl 1 _ oH rfl rfl rfl (vx m sM rfl rfl λ_ _ m=>bU (F3 rfl rfl rfl trivial) (kY m)))
 rw[b2]
 exact kY m
 rintro _ j1 m
 refine v ?_
 apply vi m <;> intro c2 m
 refine v (v (fZ m λm=> ?_))
 obtain rfl:=eP m
 exact eF rfl
 exact v (v (zH m (mE [1] rfl rfl (.k4 .nil))))
 exact v (wE m)
 rintro _ r0 m
 refine v (v ?_)
 obtain rfl:=eP m
 exact eF rfl
theorem TL:aP Tryz.prog 100=true:=by kernel_rfl
def sV (m:Nat) (p0:List aB) (p1:bH) (p2:aB→bH→Option Int) (q0:Int) (q1:Int):Option (Lp (Int×Int) (Int×Bool)):=
 if (decide (q0 < q1))=true then ((ix p0 (IntKind.wrap .i64 ((IntKind.wrap .u64 (IntKind.wrap .i64 (q0+q1))).fdiv (2 ^ (min (1:Int).toNat (IntKind.bits .u64)))))).bind λx0=>(p2 x0 p1).bind λy0=>after (if (decide (y0 < 0))=true then (some (.brk (IntKind.wrap .i64 ((IntKind.wrap .i64 ((IntKind.wrap .u64 (IntKind.wrap .i64 (q0+q1))).fdiv (2 ^ (min (1:Int).toNat (IntKind.bits .u64)))))+1),q1))) else some (.brk (q0,IntKind.wrap .i64 ((IntKind.wrap .u64 (IntKind.wrap .i64 (q0+q1))).fdiv (2 ^ (min (1:Int).toNat (IntKind.bits .u64)))))):Option (Lp (Int×Int) (Lp (Int×Int) (Int×Bool)))) λ⟨j0,j1⟩=>some (.go (j0,j1))) else some (.brk (q0,q1))
def MT (m:Nat) (p0:List aB) (p1:bH) (p2:aB→bH→Option Int):Option (Int×Bool):=
 after (aS (λs=>sV m p0 p1 p2 s.1 s.2) m (0,(p0.length:Int))) λ⟨r0,r1⟩=>after (if (decide (r0 < (p0.length:Int)))=true then ((ix p0 r0).bind λx0=>(p2 x0 p1).bind λy0=>some (.brk (r0,(y0==0)))) else some (.brk (r0,false)):Option (Lp (Int×Bool) (Int×Bool))) λ⟨j0,j1⟩=>some (j0,j1)
theorem aE3 {w:Nat} {p0:List aB} {p1:bH} {p2:aB→bH→Option Int} {o:Int×Bool} (h:aF) {p2F:Nat} {p2C:List AV} (p2B:aP Tryz.prog p2F=true) (p2H:∀x0 x1 o h0,iE h h0→p2 x0 x1=some o→aM Tryz.prog p2F ([.agg (aK x0),.agg (bC x1)]++p2C) h0 (λr h'=>r=nZ o∧h'=h0)) (m:MT w p0 p1 p2=some o):
 aM Tryz.prog 171 [.sl none 35 (List.map aK p0),.agg (bC p1),.fn (.func p2F) p2C] h (λr h'=>r= .tup [nZ o.1,.sc (.bool o.2)]∧h'=h):=by
 refine fK 49 [.tmp 6,.tmp 7] Tryz.func171 rfl rfl rfl rfl ?_
 unfold MT at m
 refine v (gX rfl rfl λk2 K3=>v (dH lI rfl (v (vs (jP m (σ:=Int×Int) (λs=> [(some k2,.obj 36 (bC p1))]) (λs=>.c 0 (.sl none 35 (List.map aK p0)) (.c 2 (.fn (.func p2F) p2C) (.c 4 (.ptr k2 0) (.c 8 (nZ (p0.length:Int)) (.c 9 (nZ s.1) (.c 10 (nZ s.2) .nil)))))) (lx (.k6 .nil)) ?_ ?_)))))
 rintro _ ⟨q0,q1⟩ x m
 replace m:sV w p0 p1 p2 q0 q1=some x:=m
 unfold sV at m
 refine v (v ?_)
 apply vi m <;> intro c0 m
 refine v (v (v (v (vq (by kernel_rfl) (vx m h9 rfl rfl λx2 _ m=>va (.agg (aK x2)) pB rfl rfl (vl 0 (.agg (bC p1)) eY rfl rfl rfl ?_))))))
 obtain⟨_,Y0,m⟩:=aD m
 refine vn (λu=>bV (p2H _ _ _ _ (aU (List.nil_sublist _) u).1 Y0) rfl p2B rfl) (fN m (σ:=Int×Int) (λs=> [(some k2,.obj 36 (bC p1))]) (λs=>.c 0 (.sl none 35 (List.map aK p0)) (.c 2 (.fn (.func p2F) p2C) (.c 4 (.ptr k2 0) (.c 8 (nZ (p0.length:Int)) (.c 9 (nZ s.1) (.c 10 (nZ s.2) .nil)))))) (λx m=> ?_) ?_)
 refine v ?_
 apply vi m <;> intro c1 m
 exact v (m5 m)
 exact v (m5 m)
 rintro _ ⟨j0,j1⟩ m
 exact m5 m
 exact v (bq6 m)
 rintro _ ⟨r0,r1⟩ m
 refine vs (fN m (σ:=Int×Bool) (λs=> [(some k2,.obj 36 (bC p1))]) (λs=>.c 6 (nZ s.1) (.c 7 (.sc (.bool s.2)) .nil)) (λx m=> ?_) ?_)
 refine v (vq (by kernel_rfl) ?_)
 apply vi m <;> intro b0 m
 rw[b0]
 refine vx m h9 rfl rfl λx3 _ m=>va (.agg (aK x3)) pB rfl rfl (vl 0 (.agg (bC p1)) eY rfl rfl rfl ?_)
 obtain⟨_,Y1,m⟩:=aD m
 exact vn (λu=>bV (p2H _ _ _ _ (aU (List.nil_sublist _) u).1 Y1) rfl p2B rfl) (wK m)
 rw[b0]
 exact wK m
 rintro _ ⟨j2,j3⟩ m
 refine v ?_
 cases m
 exact vr2 rfl rfl
theorem ZY:aP Tryz.prog 171=true:=by kernel_rfl
def sW (m:Nat) (p0:List aH) (p1:aH→Option Bool) (q0:Int):Option (Lp (Int) (Int)):=
 if (decide (q0 < (p0.length:Int)))=true then ((ix p0 q0).bind λx0=>(p1 x0).bind λy0=>if y0=true then (some (.ret q0)) else some (.go (IntKind.wrap .i64 (q0+1)))) else some (.brk q0)
def Q2 (m:Nat) (p0:List aH) (p1:aH→Option Bool):Option (Int):=
 after (aS (λs=>sW m p0 p1 s) m 0) λr0=>some (-1)
theorem aE4 {w:Nat} {p0:List aH} {p1:aH→Option Bool} {o:Int} (h:aF) {p1F:Nat} {p1C:List AV} (p1B:aP Tryz.prog p1F=true) (p1H:∀x0 o h0,iE h h0→p1 x0=some o→aM Tryz.prog p1F ([.agg (bJ x0)]++p1C) h0 (λr h'=>r= .sc (.bool o)∧h'=h0)) (m:Q2 w p0 p1=some o):
 aM Tryz.prog 103 [.sl none 4 (List.map bJ p0),.fn (.func p1F) p1C] h (λr h'=>r=nZ o∧h'=h):=by
 refine fK 19 [.tmp 4] Tryz.func103 rfl rfl rfl rfl ?_
 unfold Q2 at m
 refine v (v (dH kZ rfl (jP m (σ:=Int) (λs=> []) (λs=>.c 0 (.sl none 4 (List.map bJ p0)) (.c 1 (.fn (.func p1F) p1C) (.c 7 (nZ (p0.length:Int)) (.c 8 (nZ s) .nil)))) (lx (.k4 .nil)) ?_ ?_)))
 rintro _ q0 x m
 replace m:sW w p0 p1 q0=some x:=m
 unfold sW at m
 refine v (v ?_)
 apply vi m <;> intro c0 m
 refine v (v (v (v (vx m jL rfl rfl λx1 _ m=>va (.agg (bJ x1)) sN rfl rfl ?_))))
 obtain⟨_,Y0,m⟩:=aD m
 refine vn (λu=>bV (p1H _ _ _ (aU (List.nil_sublist _) u).1 Y0) rfl p1B rfl) (v ?_)
 apply vi m <;> intro c1 m
 refine v (v (fZ m λm=> ?_))
 obtain rfl:=eP m
 exact eF rfl
 exact v (v (fY m))
 exact v (wE m)
 rintro _ r0 m
 refine v (v ?_)
 cases m
 exact eF rfl
theorem MU:aP Tryz.prog 103=true:=by kernel_rfl
def VG (m:Nat) (p0:List aH) (p1:aH→Option Bool):Option (Bool):=
 (Q2 m p0 p1).bind λy3=>some (decide (0≤y3))
theorem W58 {w:Nat} {p0:List aH} {p1:aH→Option Bool} {o:Bool} (h:aF) {p1F:Nat} {p1C:List AV} (p1B:aP Tryz.prog p1F=true) (p1H:∀x0 o h0,iE h h0→p1 x0=some o→aM Tryz.prog p1F ([.agg (bJ x0)]++p1C) h0 (λr h'=>r= .sc (.bool o)∧h'=h0)) (m:VG w p0 p1=some o):
 aM Tryz.prog 58 [.sl none 4 (List.map bJ p0),.fn (.func p1F) p1C] h (λr h'=>r= .sc (.bool o)∧h'=h):=by
 refine fK 9 [.tmp 4] Tryz.func58 rfl rfl rfl rfl ?_
 unfold VG at m
 refine v (v ?_)
 obtain⟨_,Y4,m⟩:=aD m
 refine vn (λu=>bV (aE4 _ p1B (λx0 o h0 hs ho=>p1H x0 o h0 ((aU (List.nil_sublist _) u).1.trans hs) ho) Y4) rfl MU rfl) (v ?_)
 cases m
 exact eF rfl
theorem ZZ:aP Tryz.prog 58=true:=by kernel_rfl
def Q3 (m:Nat) (p0:aH) (c0:aT):Option (Bool):=
 some (p0.Seq==c0.Of)
theorem aE5 {w:Nat} {p0:aH} {c0:aT} {o:Bool} (h:aF) {c0K:bT} (c0H:h c0K=some (.obj 99 (cH c0))) (m:Q3 w p0 c0=some o):
 aM Tryz.prog 138 [.agg (bJ p0),.ptr c0K 0] h (λr h'=>r= .sc (.bool o)∧h'=h):=by
 refine fK 9 [.tmp 3] Tryz.func138 rfl rfl rfl rfl ?_
 unfold Q3 at m
 refine v (gX rfl rfl λk2 K3=>v (vl 0 _ cB rfl rfl rfl (vn (λu=>gK (nZ c0.Of) cB rfl (gM u c0H) rfl) (v ?_))))
 cases m
 exact eF rfl
theorem Z6:aP Tryz.prog 138=true:=by kernel_rfl
def uZ (m:Nat) (p0:aA) (q0:Int):Option (Lp (Int) (Bool)):=
 if (decide (q0 < (p0.Exps.length:Int)))=true then ((ix p0.Exps q0).bind λx1=>after ((zJ m x1.Seq 0 (IntKind.wrap .i64 (p0.Seq - 1))).bind λy0=>if (!y0)=true then (some (.brk true)) else if (decide (0 < q0))=true then ((ix p0.Exps (IntKind.wrap .i64 (q0 - 1))).bind λx2=>if (decide (x1.Seq≤x2.Seq))=true then (some (.brk true)) else (zJ m x1.Of 0 (IntKind.wrap .i64 (x1.Seq - 1))).bind λy1=>if (!y1)=true then (some (.brk true)) else if ((x1.Locs.length:Int)==0)=true then (some (.brk true)) else (zV m p0 x1.Locs).bind λy2=>some (.brk (!y2))) else (zJ m x1.Of 0 (IntKind.wrap .i64 (x1.Seq - 1))).bind λy3=>if (!y3)=true then (some (.brk true)) else if ((x1.Locs.length:Int)==0)=true then (some (.brk true)) else (zV m p0 x1.Locs).bind λy4=>some (.brk (!y4)):Option (Lp (Bool) (Lp (Int) (Bool)))) λj0=>if j0=true then (some (.ret false)) else (VG m p0.Snaps (λx0=>Q3 m x0 x1)).bind λy5=>if y5=true then (some (.ret false)) else some (.go (IntKind.wrap .i64 (q0+1)))) else some (.brk q0)
def Z7 (m:Nat) (p0:aA):Option (Bool):=
 after (aS (λs=>uZ m p0 s) m 0) λr0=>some (decide ((p0.Exps.length:Int)≤200))
theorem W81 {w:Nat} {p0:aA} {o:Bool} (h:aF) (m:Z7 w p0=some o):
 aM Tryz.prog 81 [.agg (aC p0)] h (λr h'=>r= .sc (.bool o)∧h'=h):=by
 refine fK 67 [.tmp 2] Tryz.func81 rfl rfl rfl rfl ?_
 unfold Z7 at m
 refine v (gX rfl rfl λk2 K3=>v (vl 0 _ iG rfl rfl rfl (dH pN rfl (jP m (σ:=Int) (λs=> [(some k2,.obj 30 (aC p0))]) (λs=>.c 1 (.ptr k2 0) (.c 6 (.sl none 3 (List.map cH p0.Exps)) (.c 7 (nZ (p0.Exps.length:Int)) (.c 8 (nZ s) .nil)))) (lx (.k4 .nil)) ?_ ?_))))
 rintro _ q0 x m
 replace m:uZ w p0 q0=some x:=m
 unfold uZ at m
 refine v (v ?_)
 apply vi m <;> intro c0 m
 refine v (v (v (vx m iR rfl rfl λx0 _ m=>va (.agg (cH x0)) zU rfl rfl (ve λu=>bG ([nZ 0,nZ 0,sZ]) u sP rfl rfl λk136 K0=>qk K0 rfl (ve λu=>aL 0 (cH x0) u rfl rfl rfl rfl JT rfl rfl λK1=>qk K1 rfl (vs (vs (fN m (σ:=Bool) (λs=> [(some k136,.obj 99 (cH x0)),(some k2,.obj 30 (aC p0))]) (λs=>.c 1 (.ptr k2 0) (.c 4 (.ptr k136 0) (.c 6 (.sl none 3 (List.map cH p0.Exps)) (.c 7 (nZ (p0.Exps.length:Int)) (.c 8 (nZ q0) (.c 57 (.sc (.bool s)) .nil)))))) (λx m=> ?_) ?_))))))))
 refine v (vq (by kernel_rfl) (vl 0 _ cB rfl rfl rfl (vl 1 _ cB rfl rfl rfl (vk DI pD m rfl rfl λ_ m=> ?_))))
 apply vi m <;> intro b0 m
 rw[b0]
 exact m5 m
 rw[b0]
 apply vi m <;> intro b1 m
 rw[b1]
 refine vl 1 _ iG rfl rfl rfl (vx m iR rfl rfl λ_ _ m=>vl 0 _ cB rfl rfl rfl ?_)
 apply vi m <;> intro b2 m
 rw[b2]
 exact m5 m
 rw[b2]
 refine vl 0 _ cB rfl rfl rfl (vl 0 _ cB rfl rfl rfl (vk DI pD m rfl rfl λ_ m=> ?_))
 apply vi m <;> intro b3 m
 rw[b3]
 exact m5 m
 rw[b3]
 refine vl 0 _ fT rfl rfl rfl (dH kD rfl ?_)
 apply vi m <;> intro b4 m
 rw[b4]
 exact m5 m
 rw[b4]
 exact vl 1 (.agg (aC p0)) cZ rfl rfl rfl (vl 0 _ fT rfl rfl rfl (vk JU AZ m rfl rfl λ_ m=>m5 m))
 rw[b1]
 refine vl 0 _ cB rfl rfl rfl (vl 0 _ cB rfl rfl rfl (vk DI pD m rfl rfl λ_ m=> ?_))
 apply vi m <;> intro b5 m
 rw[b5]
 exact m5 m
 rw[b5]
 refine vl 0 _ fT rfl rfl rfl (dH kD rfl ?_)
 apply vi m <;> intro b6 m
 rw[b6]
 exact m5 m
 rw[b6]
 exact vl 1 (.agg (aC p0)) cZ rfl rfl rfl (vl 0 _ fT rfl rfl rfl (vk JU AZ m rfl rfl λ_ m=>m5 m))
 rintro _ j0 m
 refine v ?_
 apply vi m <;> intro c1 m
 refine v (v (fZ m λm=> ?_))
 obtain rfl:=eP m
 exact eF rfl
 refine v (v (vl 1 _ fI rfl rfl rfl ?_))
 obtain⟨_,Y0,m⟩:=aD m
 refine vn (λu=>bV (W58 _ Z6 (λ_ o h0 hs ho=>aE5 _ (hs _ _ (aW 0 u rfl)) ho) Y0) rfl ZZ rfl) (v ?_)
 apply vi m <;> intro c2 m
 refine v (v (fZ m λm=> ?_))
 obtain rfl:=eP m
 exact eF rfl
 exact v (v (zH m (mE [1] rfl rfl (.k4 .nil))))
 exact v (wE m)
 rintro _ r0 m
 refine v (vl 0 _ iG rfl rfl rfl (dH pN rfl (v ?_)))
 cases m
 exact eF rfl
theorem aE6:aP Tryz.prog 81=true:=by kernel_rfl
open Go.Vm
theorem aE7:YR Tryz.prog 190:=⟨Tryz.f190,Tryz.func190,by kernel_rfl,by kernel_rfl,rfl,rfl⟩
theorem aE8 {a b:AV} {xs ys:List Int} (h:aF) (h1:PZ Tryz.prog h a xs) (h2:PZ Tryz.prog h b ys):aM Tryz.prog 182 [a,b] h (λr h'=>r=nZ (F7 xs ys)∧h'=h):=by
 exact iT 8 [.tmp 4] Tryz.func182 rfl rfl rfl rfl (fV λK1 H1=>dQ (vC rfl (eS (H1 _ _ (fV λK1 H1=>dQ (qC (fA a rfl) (qC (fA b rfl) (qC (YS aE7 rfl rfl h1 h2) (vC rfl (eS (H1 _ _ (gZ (dW.one (.inl rfl) (iE.refl _) (bD.refl _ _) ⟨rfl,rfl⟩)))))))))))))
theorem Z8:aP Tryz.prog 182=true:=by kernel_rfl
def JX (m:Nat) (p0:bH) (p1:bH):Option (Int):=
 some (F7 p0.1 p1.1)
theorem Z9 {w:Nat} {p0:bH} {p1:bH} {o:Int} (h:aF) (m:JX w p0 p1=some o):
 aM Tryz.prog 136 [.agg (bC p0),.agg (bC p1)] h (λr h'=>r=nZ o∧h'=h):=by
 refine fK 8 [.tmp 4] Tryz.func136 rfl rfl rfl rfl ?_
 unfold JX at m
 refine v (gX rfl rfl λk2 K3=>gX rfl rfl λk5 K6=>v (vq (by kernel_rfl) (bU (S7 xN rfl) (bU (S7 xN rfl) (vn (λu=>bV (aE8 _ (PZ.view (aW 1 u rfl) rfl) (PZ.view (aW 0 u rfl) rfl)) rfl Z8 rfl) (v ?_))))))
 cases m
 exact eF rfl
theorem TM:aP Tryz.prog 136=true:=by kernel_rfl
def M96 (m:Nat) (p0:List Int):Option (List Int):=app [] p0
theorem W96 {w:Nat} {p0:List Int} {o:List Int} (h:aF) (m:M96 w p0=some o):
 aM Tryz.prog 96 [.sl none 1 (List.map fX p0)] h (λr h'=>∃t,(t=none→o= [])∧bP h [(t,.tok 5 1 (o.length*1))]∧r=ow t 1 (List.map fX o)∧h'=hp h [(t,.tok 5 1 (o.length*1))]):=by
 refine iT 8 [.tmp 2] Tryz.func96 rfl rfl rfl rfl ?_
 unfold M96 at m
 refine fV λK1 H1=>dQ (qC (hH (.sc (.slice _ _ _)) rfl) (eS (H1 _ _ (fV λK1 H1=>fV λK2 H2=>dQ (vE rfl (kK (jK rfl (by rw[MC]; rfl) (by rw[bF]; exact rfl) (.inl ⟨_,_,_,rfl,λb hb=> ?_⟩))))))))
 refine eS (H2 _ _ (mM rfl (λhc=> ?_) (λhc=> ?_)))
 have h0:p0= []:=by
   cases p0 with
   | nil=>rfl
   | cons x l=>have:=hb (by simp); rw[this] at hc; cases hc
 subst h0
 obtain⟨rfl, -⟩:=jE m
 exact fV λK1 H1=>dQ (qC (hH (.sc (.slice _ _ _)) rfl) (eS (H1 _ _ (gZ (dW.one (.inl rfl) (iE.refl _) (gQ _ _) ⟨none,λ_=>rfl,bP.none (bP.nil _),rfl,rfl⟩)))))
 exact lE (H1 _ _ (fV λK1 H1=>dQ (kK (F4 (c:=fX) (bP.nil _) xQ λu=>vE rfl (kK (fG (c:=fX) 0 m xQ rfl rfl rfl (λ_=>rfl) u rfl λtg ot u=>qC (hH (ow _ _ _) rfl) (eS (H1 _ _ (gZ (dW.one (.inl rfl) (iE.refl _) (bD.refl _ _) ⟨tg,ot,u,rfl,rfl⟩))))))))))
theorem aE9:aP Tryz.prog 96=true:=by kernel_rfl
def M71 (m:Nat) (p0:List aE):Option (List aE):=app [] p0
theorem W71 {w:Nat} {p0:List aE} {o:List aE} (h:aF) (m:M71 w p0=some o):
 aM Tryz.prog 71 [.sl none 37 (List.map aI p0)] h (λr h'=>∃t,(t=none→o= [])∧bP h [(t,.tok 38 37 (o.length*37))]∧r=ow t 37 (List.map aI o)∧h'=hp h [(t,.tok 38 37 (o.length*37))]):=by
 refine iT 8 [.tmp 2] Tryz.func71 rfl rfl rfl rfl ?_
 unfold M71 at m
 refine fV λK1 H1=>dQ (qC (hH (.sc (.slice _ _ _)) rfl) (eS (H1 _ _ (fV λK1 H1=>fV λK2 H2=>dQ (vE rfl (kK (jK rfl (by rw[nO]; rfl) (by rw[bF]; exact rfl) (.inl ⟨_,_,_,rfl,λb hb=> ?_⟩))))))))
 refine eS (H2 _ _ (mM rfl (λhc=> ?_) (λhc=> ?_)))
 have h0:p0= []:=by
   cases p0 with
   | nil=>rfl
   | cons x l=>have:=hb (by simp); rw[this] at hc; cases hc
 subst h0
 obtain⟨rfl, -⟩:=jE m
 exact fV λK1 H1=>dQ (qC (hH (.sc (.slice _ _ _)) rfl) (eS (H1 _ _ (gZ (dW.one (.inl rfl) (iE.refl _) (gQ _ _) ⟨none,λ_=>rfl,bP.none (bP.nil _),rfl,rfl⟩)))))
 exact lE (H1 _ _ (fV λK1 H1=>dQ (kK (F4 (c:=aI) (bP.nil _) lA λu=>vE rfl (kK (fG (c:=aI) 0 m lA rfl rfl rfl (λ_=>rfl) u rfl λtg ot u=>qC (hH (ow _ _ _) rfl) (eS (H1 _ _ (gZ (dW.one (.inl rfl) (iE.refl _) (bD.refl _ _) ⟨tg,ot,u,rfl,rfl⟩))))))))))
theorem aFA:aP Tryz.prog 71=true:=by kernel_rfl
def u0 (m:Nat) (p0:aA) (q0:Int):Option (Lp (Int) (Bool)):=
 if (decide (q0 < (p0.Chunks.length:Int)))=true then ((ix p0.Chunks q0).bind λx0=>after (if (decide (0 < q0))=true then ((ix p0.Chunks (IntKind.wrap .i64 (q0 - 1))).bind λx1=>(JX m x1.Id x0.Id).bind λy0=>if (decide (0≤y0))=true then (some (.brk true)) else (zV m p0 x0.Locs).bind λy1=>if (!y1)=true then (some (.brk true)) else if (!x0.Staged)=true then (if (decide (0 < (x0.Data.length:Int)))=true then (some (.brk true)) else if ((x0.Locs.length:Int)==0)=true then (some (.brk true)) else if x0.Staged=true then ((zJ m (x0.Data.length:Int) 1 64).bind λy2=>some (.brk (!y2))) else some (.brk false)) else if x0.Staged=true then ((zJ m (x0.Data.length:Int) 1 64).bind λy3=>some (.brk (!y3))) else some (.brk false)) else (zV m p0 x0.Locs).bind λy4=>if (!y4)=true then (some (.brk true)) else if (!x0.Staged)=true then (if (decide (0 < (x0.Data.length:Int)))=true then (some (.brk true)) else if ((x0.Locs.length:Int)==0)=true then (some (.brk true)) else if x0.Staged=true then ((zJ m (x0.Data.length:Int) 1 64).bind λy5=>some (.brk (!y5))) else some (.brk false)) else if x0.Staged=true then ((zJ m (x0.Data.length:Int) 1 64).bind λy6=>some (.brk (!y6))) else some (.brk false):Option (Lp (Bool) (Lp (Int) (Bool)))) λj0=>if j0=true then (some (.ret false)) else some (.go (IntKind.wrap .i64 (q0+1)))) else some (.brk q0)
def M79 (m:Nat) (p0:aA):Option (Bool):=
 after (aS (λs=>u0 m p0 s) m 0) λr0=>some (decide ((p0.Chunks.length:Int)≤200))
theorem W79 {w:Nat} {p0:aA} {o:Bool} (h:aF) (m:M79 w p0=some o):
 aM Tryz.prog 79 [.agg (aC p0)] h (λr h'=>r= .sc (.bool o)∧h'=h):=by
 refine fK 68 [.tmp 2] Tryz.func79 rfl rfl rfl rfl ?_
 unfold M79 at m
 refine v (gX rfl rfl λk2 K3=>v (vl 0 _ fD rfl rfl rfl (dH lI rfl (jP m (σ:=Int) (λs=> [(some k2,.obj 30 (aC p0))]) (λs=>.c 1 (.ptr k2 0) (.c 6 (.sl none 35 (List.map aK p0.Chunks)) (.c 7 (nZ (p0.Chunks.length:Int)) (.c 8 (nZ s) .nil)))) (lx (.k4 .nil)) ?_ ?_))))
 rintro _ q0 x m
 replace m:u0 w p0 q0=some x:=m
 unfold u0 at m
 refine v (v ?_)
 apply vi m <;> intro c0 m
 refine v (v (v (vx m h9 rfl rfl λx0 _ m=>va (.agg (aK x0)) pB rfl rfl (ve λu=>bG (bC gW++(SZ:List AV)) u qL rfl rfl λk168 K0=>qk K0 rfl (ve λu=>aL 0 (aK x0) u rfl rfl rfl rfl EC rfl rfl λK1=>qk K1 rfl (vs (fN m (σ:=Bool) (λs=> [(some k168,.obj 44 (aK x0)),(some k2,.obj 30 (aC p0))]) (λs=>.c 1 (.ptr k2 0) (.c 6 (.sl none 35 (List.map aK p0.Chunks)) (.c 7 (nZ (p0.Chunks.length:Int)) (.c 8 (nZ q0) (.c 62 (.sc (.bool s)) .nil))))) (λx m=> ?_) ?_)))))))
 refine v (vq (by kernel_rfl) ?_)
 apply vi m <;> intro b0 m
 rw[b0]
 refine vl 1 _ fD rfl rfl rfl (vx m h9 rfl rfl λx1 _ m=>va (.agg (bC x1.Id)) eY rfl rfl (vl 0 (.agg (bC x0.Id)) eY rfl rfl rfl (vk Z9 TM m rfl rfl λ_ m=> ?_)))
 apply vi m <;> intro b1 m
 rw[b1]
 exact kY m
 rw[b1]
 refine vl 1 (.agg (aC p0)) cZ rfl rfl rfl (vl 0 _ fT rfl rfl rfl (vk JU AZ m rfl rfl λ_ m=> ?_))
 apply vi m <;> intro b2 m
 rw[b2]
 exact kY m
 rw[b2]
 refine vl 0 _ GK rfl rfl rfl ?_
 apply vi m <;> intro b3 m
 rw[b3]
 refine vl 0 _ nY rfl rfl rfl (dH nP rfl ?_)
 apply vi m <;> intro b4 m
 rw[b4]
 exact kY m
 rw[b4]
 refine vl 0 _ fT rfl rfl rfl (dH kD rfl ?_)
 apply vi m <;> intro b5 m
 rw[b5]
 exact kY m
 rw[b5]
 refine vl 0 _ GK rfl rfl rfl ?_
 apply vi m <;> intro b6 m
 rw[b6]
 exact vl 0 _ nY rfl rfl rfl (dH nP rfl (vk DI pD m rfl rfl λ_ m=>kY m))
 rw[b6]
 exact kY m
 rw[b3]
 refine vl 0 _ GK rfl rfl rfl ?_
 apply vi m <;> intro b7 m
 rw[b7]
 exact vl 0 _ nY rfl rfl rfl (dH nP rfl (vk DI pD m rfl rfl λ_ m=>kY m))
 rw[b7]
 exact kY m
 rw[b0]
 refine vl 1 (.agg (aC p0)) cZ rfl rfl rfl (vl 0 _ fT rfl rfl rfl (vk JU AZ m rfl rfl λ_ m=> ?_))
 apply vi m <;> intro b8 m
 rw[b8]
 exact kY m
 rw[b8]
 refine vl 0 _ GK rfl rfl rfl ?_
 apply vi m <;> intro b9 m
 rw[b9]
 refine vl 0 _ nY rfl rfl rfl (dH nP rfl ?_)
 apply vi m <;> intro b10 m
 rw[b10]
 exact kY m
 rw[b10]
 refine vl 0 _ fT rfl rfl rfl (dH kD rfl ?_)
 apply vi m <;> intro b11 m
 rw[b11]
 exact kY m
 rw[b11]
 refine vl 0 _ GK rfl rfl rfl ?_
 apply vi m <;> intro b12 m
 rw[b12]
 exact vl 0 _ nY rfl rfl rfl (dH nP rfl (vk DI pD m rfl rfl λ_ m=>kY m))
 rw[b12]
 exact kY m
 rw[b9]
 refine vl 0 _ GK rfl rfl rfl ?_
 apply vi m <;> intro b13 m
 rw[b13]
 exact vl 0 _ nY rfl rfl rfl (dH nP rfl (vk DI pD m rfl rfl λ_ m=>kY m))
 rw[b13]
 exact kY m
 rintro _ j0 m
 refine v ?_
 apply vi m <;> intro c1 m
 refine v (v (fZ m λm=> ?_))
 obtain rfl:=eP m
 exact eF rfl
 exact v (v (zH m (mE [1] rfl rfl (.k4 .nil))))
 exact v (wE m)
 rintro _ r0 m
 refine v (vl 0 _ fD rfl rfl rfl (dH lI rfl (v ?_)))
 cases m
 exact eF rfl
theorem aFB:aP Tryz.prog 79=true:=by kernel_rfl
def zW (m:Nat) (p0:aB) (p1:bH):Option (Int):=
 (JX m p0.Id p1).bind λy9=>some y9
theorem aFC {u:Nat} {p0:aB} {p1:bH} {o:Int} (h:aF) (m:zW u p0 p1=some o):
 aM Tryz.prog 172 [.agg (aK p0),.agg (bC p1)] h (λr h'=>r=nZ o∧h'=h):=by
 refine fK 9 [.tmp 4] Tryz.func172 rfl rfl rfl rfl ?_
 unfold zW at m
 refine v (gX rfl rfl λk2 K3=>gX rfl rfl λk5 K6=>v (vl 1 (.agg (bC p0.Id)) eY rfl rfl rfl (vl 0 (.agg (bC p1)) eY rfl rfl rfl (vk Z9 TM m rfl rfl λ_ m=>v ?_))))
 obtain rfl:=eP m
 exact eF rfl
theorem aAC:aP Tryz.prog 172=true:=by kernel_rfl
def xY (m:Nat) (p0:List aB) (p1:bH):Option (Int×Bool):=
 (MT m p0 p1 (λx0 x1=>zW m x0 x1)).bind λy6=>some (y6.1,y6.2)
theorem VH {u:Nat} {p0:List aB} {p1:bH} {o:Int×Bool} (h:aF) (m:xY u p0 p1=some o):
 aM Tryz.prog 116 [.sl none 35 (List.map aK p0),.agg (bC p1)] h (λr h'=>r= .tup [nZ o.1,.sc (.bool o.2)]∧h'=h):=by
 refine fK 11 [.tmp 4,.tmp 5] Tryz.func116 rfl rfl rfl rfl ?_
 unfold xY at m
 refine v (gX rfl rfl λk2 K3=>v (vl 0 (.agg (bC p1)) eY rfl rfl rfl ?_))
 obtain⟨_,Y7,m⟩:=aD m
 refine bU (bV (aE3 _ aAC (λ_ _ o h0 hs ho=>aFC _ ho) Y7) rfl ZY rfl) (v ?_)
 cases m
 exact vr2 rfl rfl
theorem MV:aP Tryz.prog 116=true:=by kernel_rfl
def xZ (m:Nat) (p0:aA) (x0:cT) (q0:Int):Option (Lp (Int) (Lp (Int) (Lp ((List ByteArray)×Int) (Bool)))):=
 if (decide (q0 < (x0.Ids.length:Int)))=true then ((ix x0.Ids q0).bind λx1=>(xY m p0.Chunks x1).bind λy0=>if (!y0.2)=true then (some (.ret (.ret (.ret false)))) else some (.go (IntKind.wrap .i64 (q0+1)))) else some (.brk q0)
def u6 (m:Nat) (p0:aA) (x0:aH) (q0:Int):Option (Lp (Int) (Lp ((List ByteArray)×Int) (Bool))):=
 if (decide (q0 < (x0.Man.Parts.length:Int)))=true then ((ix x0.Man.Parts q0).bind λx1=>after (aS (λs=>xZ m p0 x1 s) m 0) λr0=>some (.go (IntKind.wrap .i64 (q0+1)))) else some (.brk q0)
def u7 (m:Nat) (p0:aA) (q0:List ByteArray) (q1:Int):Option (Lp ((List ByteArray)×Int) (Bool)):=
 if (decide (q1 < (p0.Snaps.length:Int)))=true then ((ix p0.Snaps q1).bind λx0=>after ((zJ m x0.Seq 0 (IntKind.wrap .i64 (p0.Seq - 1))).bind λy0=>if (!y0)=true then (some (.brk true)) else if (decide (0 < q1))=true then ((ix p0.Snaps (IntKind.wrap .i64 (q1 - 1))).bind λx1=>if (decide (x0.Seq≤x1.Seq))=true then (some (.brk true)) else if ((q0:List ByteArray).any λz=>x0.Man.Name==z)=true then (some (.brk true)) else (JW m x0.Man).bind λy1=>if (y1 !=0)=true then (some (.brk true)) else (zV m p0 x0.Locs).bind λy2=>some (.brk (!y2))) else if ((q0:List ByteArray).any λz=>x0.Man.Name==z)=true then (some (.brk true)) else (JW m x0.Man).bind λy3=>if (y3 !=0)=true then (some (.brk true)) else (zV m p0 x0.Locs).bind λy4=>some (.brk (!y4)):Option (Lp (Bool) (Lp ((List ByteArray)×Int) (Bool)))) λj0=>if j0=true then (some (.ret false)) else after (aS (λs=>u6 m p0 x0 s) m 0) λr0=>some (.go (lY (q0:List ByteArray) x0.Man.Name,IntKind.wrap .i64 (q1+1)))) else some (.brk (q0,q1))
def M80 (m:Nat) (p0:aA):Option (Bool):=
 after (aS (λs=>u7 m p0 s.1 s.2) m ([],0)) λ⟨r0,r1⟩=>some (decide ((p0.Snaps.length:Int)≤8))
theorem W80 {w:Nat} {p0:aA} {o:Bool} (h:aF) (m:M80 w p0=some o):
 aM Tryz.prog 80 [.agg (aC p0)] h (λr h'=>r= .sc (.bool o)∧h'=h):=by
 refine fK 99 [.tmp 2] Tryz.func80 rfl rfl rfl rfl ?_
 unfold M80 at m
 refine v (gX rfl rfl λk2 K3=>v (ve λu=>BY u λk6 K7=>qk K7 rfl (v (vl 1 _ fI rfl rfl rfl (dH kZ rfl (jP m (σ:=(List ByteArray)×Int) (λs=> [(some k6,.mp (fW kS (s.1:List ByteArray))),(some k2,.obj 30 (aC p0))]) (λs=>.c 1 (.ptr k2 0) (.c 3 (.mpv k6) (.c 14 (.sl none 4 (List.map bJ p0.Snaps)) (.c 15 (nZ (p0.Snaps.length:Int)) (.c 16 (nZ s.2) .nil))))) (lx (.k5 .nil)) ?_ ?_))))))
 rintro _ ⟨q0,q1⟩ x m
 replace m:u7 w p0 q0 q1=some x:=m
 unfold u7 at m
 refine v (v ?_)
 apply vi m <;> intro c0 m
 refine v (v (v (vx m jL rfl rfl λx0 _ m=>va (.agg (bJ x0)) sN rfl rfl (ve λu=>bG (XF) u xS rfl rfl λk540 K0=>qk K0 rfl (ve λu=>aL 0 (bJ x0) u rfl rfl rfl rfl GP rfl rfl λK1=>qk K1 rfl (vs (vs (fN m (σ:=Bool) (λs=> [(some k540,.obj 60 (bJ x0)),(some k6,.mp (fW kS (q0:List ByteArray))),(some k2,.obj 30 (aC p0))]) (λs=>.c 1 (.ptr k2 0) (.c 3 (.mpv k6) (.c 5 (.ptr k540 0) (.c 14 (.sl none 4 (List.map bJ p0.Snaps)) (.c 15 (nZ (p0.Snaps.length:Int)) (.c 16 (nZ q1) (.c 63 (.sc (.bool s)) .nil))))))) (λx m=> ?_) ?_))))))))
 refine v (vq (by kernel_rfl) (vl 0 _ cB rfl rfl rfl (vl 2 _ cB rfl rfl rfl (vk DI pD m rfl rfl λ_ m=> ?_))))
 apply vi m <;> intro b0 m
 rw[b0]
 exact B5 m
 rw[b0]
 apply vi m <;> intro b1 m
 rw[b1]
 refine vl 2 _ fI rfl rfl rfl (vx m jL rfl rfl λ_ _ m=>vl 0 _ cB rfl rfl rfl ?_)
 apply vi m <;> intro b2 m
 rw[b2]
 exact B5 m
 rw[b2]
 refine vl 0 _ HY rfl rfl rfl (vn (λu=>F6 MM zb4 (xJ.str u9) rfl rfl (aW 1 u rfl)) ?_)
 apply vi m <;> intro b3 m
 rw[b3]
 exact B5 m
 rw[b3]
 refine vl 0 (.agg (bI x0.Man)) pQ rfl rfl rfl (vk ZX TL m rfl rfl λ_ m=> ?_)
 apply vi m <;> intro b4 m
 rw[b4]
 exact B5 m
 rw[b4]
 exact vl 2 (.agg (aC p0)) cZ rfl rfl rfl (vl 0 _ fT rfl rfl rfl (vk JU AZ m rfl rfl λ_ m=>B5 m))
 rw[b1]
 refine vl 0 _ HY rfl rfl rfl (vn (λu=>F6 MM zb4 (xJ.str u9) rfl rfl (aW 1 u rfl)) ?_)
 apply vi m <;> intro b5 m
 rw[b5]
 exact B5 m
 rw[b5]
 refine vl 0 (.agg (bI x0.Man)) pQ rfl rfl rfl (vk ZX TL m rfl rfl λ_ m=> ?_)
 apply vi m <;> intro b6 m
 rw[b6]
 exact B5 m
 rw[b6]
 exact vl 2 (.agg (aC p0)) cZ rfl rfl rfl (vl 0 _ fT rfl rfl rfl (vk JU AZ m rfl rfl λ_ m=>B5 m))
 rintro _ j0 m
 refine v ?_
 apply vi m <;> intro c1 m
 refine v (v (fZ m λm=> ?_))
 obtain rfl:=eP m
 exact eF rfl
 refine v (v (vl 0 _ HY rfl rfl rfl (ve λu=>LQ 1 u MM (xJ.str u9) rfl rfl rfl rfl λK2=>qk K2 rfl (v (vl 0 _ oH rfl rfl rfl (dH zQ rfl (jP m (σ:=Int) (λs=> [(some k540,.obj 60 (bJ x0)),(some k6,.mp (fW kS (lY (q0:List ByteArray) x0.Man.Name:List ByteArray))),(some k2,.obj 30 (aC p0))]) (λs=>.c 1 (.ptr k2 0) (.c 3 (.mpv k6) (.c 14 (.sl none 4 (List.map bJ p0.Snaps)) (.c 15 (nZ (p0.Snaps.length:Int)) (.c 16 (nZ q1) (.c 70 (.sl none 3 (List.map bX x0.Man.Parts)) (.c 71 (nZ (x0.Man.Parts.length:Int)) (.c 72 (nZ s) .nil)))))))) (lx (.k8 .nil)) ?_ ?_)))))))
 rintro _ q2 x m
 replace m:u6 w p0 x0 q2=some x:=m
 unfold u6 at m
 refine v (v ?_)
 apply vi m <;> intro c2 m
 refine v (v (v (vx m sM rfl rfl λx1 _ m=>va (.agg (bX x1)) ED rfl rfl (ve λu=>bG (XZ) u JS rfl rfl λk732 K4=>qk K4 rfl (ve λu=>aL 0 (bX x1) u rfl rfl rfl rfl MG rfl rfl λK5=>qk K5 rfl (v (vl 0 _ xU rfl rfl rfl (dH uY rfl (jP m (σ:=Int) (λs=> [(some k732,.obj 70 (bX x1)),(some k540,.obj 60 (bJ x0)),(some k6,.mp (fW kS (lY (q0:List ByteArray) x0.Man.Name:List ByteArray))),(some k2,.obj 30 (aC p0))]) (λs=>.c 1 (.ptr k2 0) (.c 3 (.mpv k6) (.c 14 (.sl none 4 (List.map bJ p0.Snaps)) (.c 15 (nZ (p0.Snaps.length:Int)) (.c 16 (nZ q1) (.c 70 (.sl none 3 (List.map bX x0.Man.Parts)) (.c 71 (nZ (x0.Man.Parts.length:Int)) (.c 72 (nZ q2) (.c 77 (.sl none 32 (List.map bC x1.Ids)) (.c 78 (nZ (x1.Ids.length:Int)) (.c 79 (nZ s) .nil))))))))))) (lx (.k11 .nil)) ?_ ?_)))))))))
 rintro _ q3 x m
 replace m:xZ w p0 x1 q3=some x:=m
 unfold xZ at m
 refine v (v ?_)
 apply vi m <;> intro c3 m
 refine v (v (v (vx m zT rfl rfl λx2 _ m=>va (.agg (bC x2)) eY rfl rfl (ve λu=>bG (bC gW) u L9 rfl rfl λk780 K6=>qk K6 rfl (ve λu=>aL 0 (bC x2) u rfl rfl rfl rfl L8 rfl rfl λK8=>qk K8 rfl (v (vl 4 _ fD rfl rfl rfl (vl 0 (.agg (bC x2)) eY rfl rfl rfl (vk VH MV m rfl rfl λ_ m=>v (v ?_))))))))))
 apply vi m <;> intro c4 m
 refine v (v (fZ m λm=>fZ m λm=>fZ m λm=> ?_))
 obtain rfl:=eP m
 exact eF rfl
 exact v (v (zH m (mE [1,2,3,4] rfl rfl (.k11 .nil))))
 exact v (aEM m)
 rintro _ r0 m
 exact v (zH m (mE [1,2,3] rfl rfl (.k8 .nil)))
 exact v (bq8 m)
 rintro _ r1 m
 exact v (zH m (mE [1,2] rfl rfl (.k5 .nil)))
 exact v (XJ m)
 rintro _ ⟨r2,r3⟩ m
 refine v (vl 1 _ fI rfl rfl rfl (dH kZ rfl (v ?_)))
 cases m
 exact eF rfl
theorem aFD:aP Tryz.prog 80=true:=by kernel_rfl
def Q4 (m:Nat) (p0:aA):Option (Int):=
 after ((zJ m p0.Seq 0 1073741824).bind λy0=>if y0=true then ((ZT m p0.Vols).bind λy1=>if y1=true then ((M79 m p0).bind λy2=>if y2=true then ((M80 m p0).bind λy3=>if y3=true then ((Z7 m p0).bind λy4=>some (.brk y4)) else some (.brk false)) else some (.brk false)) else some (.brk false)) else some (.brk false):Option (Lp (Bool) (Int))) λj0=>if j0=true then (some 0) else some 1
theorem W31 {u:Nat} {p0:aA} {o:Int} (h:aF) (m:Q4 u p0=some o):
 aM Tryz.prog 31 [.agg (aC p0)] h (λr h'=>r=nZ o∧h'=h):=by
 refine fK 23 [.tmp 2] Tryz.func31 rfl rfl rfl rfl ?_
 unfold Q4 at m
 refine v (gX rfl rfl λk2 K3=>vs (vs (fN m (σ:=Bool) (λs=> [(some k2,.obj 30 (aC p0))]) (λs=>.c 22 (.sc (.bool s)) .nil) (λx m=> ?_) ?_)))
 refine v (vl 0 _ cB rfl rfl rfl (vk DI pD m rfl rfl λ_ m=> ?_))
 apply vi m <;> intro b0 m
 rw[b0]
 refine vl 0 _ iH rfl rfl rfl (vk W78 aE0 m rfl rfl λ_ m=> ?_)
 apply vi m <;> intro b1 m
 rw[b1]
 refine vl 0 (.agg (aC p0)) cZ rfl rfl rfl (vk W79 aFB m rfl rfl λ_ m=> ?_)
 apply vi m <;> intro b2 m
 rw[b2]
 refine vl 0 (.agg (aC p0)) cZ rfl rfl rfl (vk W80 aFD m rfl rfl λ_ m=> ?_)
 apply vi m <;> intro b3 m
 rw[b3]
 exact vl 0 (.agg (aC p0)) cZ rfl rfl rfl (vk W81 aE6 m rfl rfl λ_ m=>nX m)
 rw[b3]
 exact nX m
 rw[b2]
 exact nX m
 rw[b1]
 exact nX m
 rw[b0]
 exact nX m
 rintro _ j0 m
 refine v ?_
 apply vi m <;> intro c0 m
 refine v (v ?_)
 obtain rfl:=eP m
 exact eF rfl
 refine v (v (v ?_))
 obtain rfl:=eP m
 exact eF rfl
theorem MW:aP Tryz.prog 31=true:=by kernel_rfl
end Go.Proofs.YtbbifdfldpfphaaGreat
namespace Go.Vm
theorem wr {n:Int} (h: -9223372036854775808≤n) (h2:n < 9223372036854775808):IntKind.wrap .i64 n=n:=by
 have e:IntKind.wrap .i64 n=(if decide (n % 18446744073709551616≥9223372036854775808)=true then n % 18446744073709551616 - 18446744073709551616 else n % 18446744073709551616):=rfl
 rw[e]
 simp only[decide_eq_true_eq]
 split <;> omega
theorem iK {i:Nat} (h:i < 1000000000):IntKind.wrap .i64 ((i:Int)+1)=((i+1:Nat):Int):=by rw[wr (by omega) (by omega)]; rfl
theorem yA {i:Nat} (h:i < 1000000000) (h0:0 < i):IntKind.wrap .i64 ((i:Int) - 1)=((i - 1:Nat):Int):=by rw[wr (by omega) (by omega)]; omega
theorem aX {α:Type} (l:List α) (i:Nat):ix l (i:Int)=l[i]? :=by simp[ix]
theorem oJ {α:Type} (l:List α) {i:Int} (h:0≤i):ix l i=l[i.toNat]? :=by simp[ix,h]
theorem bN {α:Type} {xs ys:List α} (h:xs.length+ys.length≤1000000000):app xs ys=some (xs++ys):=by simp[app,h]
theorem cK {σ ρ:Type} (c:Prop) [Decidable c] (a b:Option (Lp σ ρ)) (k:σ→Option ρ):after (if c then a else b) k=if c then after a k else after b k:=by split <;> rfl
theorem aG {σ ρ:Type} (s:σ) (k:σ→Option ρ):after (some (.brk s)) k=k s:=rfl
theorem cE {σ ρ:Type} (r:ρ) (k:σ→Option ρ):after (some (.ret r)) k=some r:=rfl
theorem cU {α β:Type} (c:Prop) [Decidable c] (a b:Option α) (k:α→Option β):(if c then a else b).bind k=if c then a.bind k else b.bind k:=by split <;> rfl
def LF {S ρ:Type} (emb:Nat→S) (p:Nat→Bool) (rv:Nat→ρ) (n:Nat):Lp S ρ:=match (List.range n).find? p with
 | none=>.brk (emb n)
 | some i=>.ret (rv i)
theorem EF {S ρ:Type} {body:S→Option (Lp S ρ)} (emb:Nat→S) (p:Nat→Bool) (rv:Nat→ρ):∀(m k F:Nat),m < F→
    (∀i,k≤i→i < k+m→(∀j,j < i→k≤j→p j=false)→body (emb i)=some (if p i then .ret (rv i) else .go (emb (i+1))))→((∀j,k≤j→j < k+m→p j=false)→body (emb (k+m))=some (.brk (emb (k+m))))→
    aS body F (emb k)=some (match (List.range' k m).find? p with | none=>.brk (emb (k+m)) | some i=>.ret (rv i))
  | 0,k,F+1,_,_,he=>by
    have:=he (λj h1 h2=>by omega)
    simp only[Nat.add_zero] at this
    simp[aS,this]
  | m+1,k,F+1,hF,hb,he=>by
    have h0:=hb k (Nat.le_refl _) (by omega) (λj h1 h2=>by omega)
    rw[List.range'_succ,List.find?_cons]
    cases hp:p k with
    | true=>simp[aS,h0,hp]
    | false=>
      have:=EF (body:=body) emb p rv m (k+1) F (by omega) (λi h1 h2 h3=>hb i (by omega) (by omega) (λj h4 h5=>by
        by_cases e:j=k
        · subst e; exact hp
        · exact h3 j h4 (by omega))) (λh=>by
        rw[show k+1+m=k+(m+1) from by omega]
        exact he λj h4 h5=>by
          by_cases e:j=k
          · subst e; exact hp
          · exact h j (by omega) (by omega))
      simp only[aS,h0,hp]
      rw[if_neg (by simp)]
      simp only[this,show k+1+m=k+(m+1) from by omega]
theorem eV {S ρ:Type} {body:S→Option (Lp S ρ)} {n F:Nat} {s0:S} (emb:Nat→S) (p:Nat→Bool) (rv:Nat→ρ) (hF:n < F) (h0:s0=emb 0)
    (hb:∀i,i < n→(∀j,j < i→p j=false)→body (emb i)=some (if p i then .ret (rv i) else .go (emb (i+1)))) (he:(∀j,j < n→p j=false)→body (emb n)=some (.brk (emb n))):
    aS body F s0=some (LF emb p rv n):=by
  subst h0
  have:=EF (body:=body) emb p rv n 0 F hF (λi _ h2 h3=>hb i (by omega) λj hj=>h3 j hj (Nat.zero_le _)) (λh=>by simpa using he λj hj=>h j (Nat.zero_le _) (by omega))
  rw[this,LF,List.range_eq_range']
  simp
theorem iO {S ρ:Type} {emb:Nat→S} {p:Nat→Bool} {r:ρ} {n:Nat}:LF emb p (λ_=>r) n=if (List.range n).any p then .ret r else .brk (emb n):=by
 unfold LF
 split
 ·rename_i h
  rw[if_neg]
  simp only[List.any_eq_true,not_exists,not_and]
  exact λx hx=>List.find?_eq_none.1 h x hx
 ·rename_i i h
  rw[if_pos]
  exact List.any_eq_true.2 ⟨i,List.mem_of_find?_eq_some h,List.find?_some h⟩
end Go.Vm
