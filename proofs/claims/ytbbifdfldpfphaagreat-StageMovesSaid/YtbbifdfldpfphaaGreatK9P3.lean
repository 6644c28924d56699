import Derived.Test.YtbbifdfldpfphaaGreatK9P2
import Derived.Test.YtbbifdfldpfphaaGreatProg
set_option linter.unusedSimpArgs false
set_option linter.unusedVariables false
set_option maxHeartbeats 4000000
set_option maxRecDepth 100000
open Bool(and_eq_true)
open Go.Builtin(clear_ zeroCells)
open ByteArray(empty)
open Go.Instr(sliceAt)
open Go.IntKind(wrap)
open List(map nil_sublist range)
open Nat(beq ble)
open Go.Oper(wp)
open Option(bind_some map_none map_some)
open Go.Proofs.Tryz(prog)
namespace Go.Vm
section
variable {P:Program} {h:aF} {n:Nat}
def LX (h:aF) (n:Nat) (f:FR) (L:HL) (g:FR) (L':HL):Prop:=bT h L->bT h L'/\gP (fm n g.k) (hp h L') (fm n f.k) (hp h L)
theorem lx {f g:FR} {L:HL} (hf:FT (hp h L) n f.k g.k):LX h n f L g L:=λhk=>⟨hk,gP.s hf⟩
theorem mG {f g:FR} {L L':HL} (σ:List Nat) (hL:pick σ L=L') (ho:(σ++sY σ L.length).isPerm (range L.length)=true) (hf:FT (hp h L') n f.k g.k):LX h n f L g L':=λhk=>by
 subst hL
 obtain⟨h1,h2⟩:=bR hk σ ho
 exact⟨h1,gP.fm h2 hf⟩
structure GN {τ σ ρ:Type} (h:aF) (n:Nat) (J:τ->σ->Prop) (sl:τ->σ->FR) (Lg:τ->σ->HL) (w:σ->Lp σ ρ) (x:Lp σ ρ) (f:FR) (L:HL):Prop where
 g:∃s g,x=w s/\J g s/\LX h n f L (sl g s) (Lg g s)
inductive GE {τ σ ρ:Type} (h:aF) (n:Nat) (J:τ->σ->Prop) (sl:τ->σ->FR) (Lg:τ->σ->HL) (id:Option Nat) (ke:Exit->FR->HL->Prop) (o:ρ) (x:Lp σ ρ) (e:Exit) (f:FR) (L:HL):Prop
 | b (i:Nat) (hi:id=some i) (he:e= .exit i) (q:GN h n J sl Lg .brk x f L)
 | r (y:ρ) (hx:x= .ret y) (h1:e≠ .normal) (h2:∀i,id=some i->e≠ .exit i) (k:y=o->ke e f L)
theorem eF {τ σ ρ:Type} {J:τ->σ->Prop} {sl:τ->σ->FR} {Lg:τ->σ->HL} {w:σ->Lp σ ρ} {x:Lp σ ρ} {f:FR} {L:HL} {s:σ} (hm:some (w s)=some x) (g:τ) (j:J g s) (le:LX h n f L (sl g s) (Lg g s)):GN h n J sl Lg w x f L:=
 ⟨s,g,(Option.some.inj hm).symm,j,le⟩
theorem lF {τ σ ρ:Type} {J:τ->σ->Prop} {sl:τ->σ->FR} {Lg:τ->σ->HL} {i:Nat} {ke:Exit->FR->HL->Prop} {o:ρ} {x:Lp σ ρ} {f:FR} {L:HL} {s:σ} (hm:some (.brk s)=some x) (g:τ) (j:J g s) (le:LX h n f L (sl g s) (Lg g s)):GE h n J sl Lg (some i) ke o x (.exit i) f L:=
 .b i rfl rfl (eF hm g j le)
theorem z8 {σ ρ:Type} {sl:Unit->σ->FR} {Lg:Unit->σ->HL} {w:σ->Lp σ ρ} {x:Lp σ ρ} {f:FR} {L:HL} {s:σ} (hm:some (w s)=some x) (le:LX h n f L (sl () s) (Lg () s)):GN h n (λ_ _=>True) sl Lg w x f L:=eF hm () trivial le
theorem vbZ {σ ρ:Type} {sl:Unit->σ->FR} {Lg:Unit->σ->HL} {i:Nat} {ke:Exit->FR->HL->Prop} {o:ρ} {x:Lp σ ρ} {f:FR} {L:HL} {s:σ} (hm:some (.brk s)=some x) (le:LX h n f L (sl () s) (Lg () s)):GE h n (λ_ _=>True) sl Lg (some i) ke o x (.exit i) f L:=lF hm () trivial le
theorem gM {τ σ ρ:Type} {J:τ->σ->Prop} {sl:τ->σ->FR} {Lg:τ->σ->HL} {id:Option Nat} {ke:Exit->FR->HL->Prop} {o y:ρ} {x:Lp σ ρ} {f:FR} {L:HL} (hm:some (.ret y)=some x) (k:some y=some o->ke .ret f L):GE h n J sl Lg id ke o x .ret f L:=
 .r y (Option.some.inj hm).symm nofun (λ_ _=>nofun) λe=>k (by rw[e])
theorem vxt {τ σ ρ:Type} {J:τ->σ->Prop} {sl:τ->σ->FR} {Lg:τ->σ->HL} {id:Option Nat} {i:Nat} {ke:Exit->FR->HL->Prop} {o y:ρ} {x:Lp σ ρ} {f:FR} {L:HL} (hm:some (.ret y)=some x) (hi:(match id with | some j=>beq i j | none=>false)=false) (k:some y=some o->ke (.exit i) f L):GE h n J sl Lg id ke o x (.exit i) f L:=
 .r y (Option.some.inj hm).symm nofun (λj hj e=>by subst hj; cases e; simp only[Nat.beq_refl] at hi; cases hi) λe=>k (by rw[e])
theorem LX.le {f g:FR} {L L':HL} {fr:Fr} {hh:aF} (le:LX h n f L g L') (hk:bT h L) (l0:gP (fm n f.k) (hp h L) fr hh):bT h L'/\gP (fm n g.k) (hp h L') fr hh:=
 let ⟨h1,h2⟩:=le hk; ⟨h1,l0.trans h2⟩
theorem nE {τ σ ρ:Type} {id:Nat} {c:Code} {kn:FR->HL->Prop} {ke:Exit->FR->HL->Prop} {f:FR} {L:HL} {step:σ->Option (Lp σ ρ)} {fuel:Nat} {s0:σ} {k:σ->Option ρ} {o:ρ} (hm:after (aT step fuel s0) k=some o)
    (Lg:τ->σ->HL) (J:τ->σ->Prop) (sl:τ->σ->FR) (g0:τ) (i0:J g0 s0) (h0:LX h n f L (sl g0 s0) (Lg g0 s0))
    (round:∀g s x,J g s->step s=some x->VC P h n c (GN h n J sl Lg .go x) (GE h n J sl Lg (some id) ke o x) (sl g s) (Lg g s))
    (next:∀g s,J g s->k s=some o->kn (sl g s) (Lg g s)):VC P h n (.block id (.loop c)) kn ke f L:=by
  refine⟨λhkL=>xP ?_⟩
  obtain⟨out,hout,hk⟩:∃out,aT step fuel s0=some out/\((∃s,out= .brk s/\k s=some o)\/∃r,out= .ret r/\r=o):=by
    cases e:aT step fuel s0 with
    | none=>rw[e] at hm; cases hm
    | some out=>
      rw[e] at hm
      cases out with
      | go s=>cases hm
      | brk s=>exact⟨_,rfl,.inl ⟨s,rfl,hm⟩⟩
      | ret r=>exact⟨_,rfl,.inr ⟨r,rfl,Option.some.inj hm⟩⟩
  obtain⟨hk1,le1⟩:=h0 hkL
  refine IH (λm fr' h'=>∃s,aT step m s=some out/\∃g,J g s/\bT h (Lg g s)/\gP (fm n (sl g s).k) (hp h (Lg g s)) fr' h') fuel ⟨s0,hout,g0,i0,hk1,le1⟩ ?_
  rintro m fr' h' ⟨s,hs,g,hj,hk2,hle⟩
  cases m with
  | zero=>cases hs
  | succ m=>
    simp only[aT] at hs
    cases e:step s with
    | none=>rw[e] at hs; cases hs
    | some x=>
      rw[e] at hs
      refine hle.aw (((round g s x hj e).r hk2).mono ?_)
      rintro ex fr'' h'' ⟨f1,L1,hk3,le3,q⟩
      cases ex with
      | normal=>
        obtain⟨s',g',rfl,j',le4⟩:=q.g
        obtain⟨hk5,le5⟩:=le4.le hk3 le3
        exact⟨m,Nat.lt_succ_self m,s',hs,g',j',hk5,le5⟩
      | exit i=>
        cases q with
        | b i' hi he q=>
          cases hi; cases he
          obtain⟨s',g',rfl,j',le4⟩:=q.g
          obtain⟨hk5,le5⟩:=le4.le hk3 le3
          cases hs
          simp only[Seq,IG,if_true]
          rcases hk with⟨s2,e2,hk⟩ | ⟨r,e2,_⟩
          . cases e2; exact⟨_,_,hk5,le5,next _ _ j' hk⟩
          . cases e2
        | r y hx h1 h2 k2=>
          subst hx
          have:i≠id:=λe=>h2 id rfl (by rw[e])
          cases hs
          simp only[Seq,IG,this,if_false]
          rcases hk with⟨s2,e2,_⟩ | ⟨r',e2,e3⟩
          . cases e2
          . cases e2; exact⟨_,_,hk3,le3,k2 e3⟩
      | goto l=>
        cases q with
        | b i' hi he q=>cases he
        | r y hx h1 h2 k2=>
          subst hx; cases hs
          rcases hk with⟨s2,e2,_⟩ | ⟨r',e2,e3⟩
          . cases e2
          . cases e2; exact⟨_,_,hk3,le3,k2 e3⟩
      | ret=>
        cases q with
        | b i' hi he q=>cases he
        | r y hx h1 h2 k2=>
          subst hx; cases hs
          rcases hk with⟨s2,e2,_⟩ | ⟨r',e2,e3⟩
          . cases e2
          . cases e2; exact⟨_,_,hk3,le3,k2 e3⟩
      | panic c=>
        cases q with
        | b i' hi he q=>cases he
        | r y hx h1 h2 k2=>
          subst hx; cases hs
          rcases hk with⟨s2,e2,_⟩ | ⟨r',e2,e3⟩
          . cases e2
          . cases e2; exact⟨_,_,hk3,le3,k2 e3⟩
      | outgrown=>
        cases q with
        | b i' hi he q=>cases he
        | r y hx h1 h2 k2=>
          subst hx; cases hs
          rcases hk with⟨s2,e2,_⟩ | ⟨r',e2,e3⟩
          . cases e2
          . cases e2; exact⟨_,_,hk3,le3,k2 e3⟩
theorem oA {τ σ ρ:Type} {c:Code} {kn:FR->HL->Prop} {ke:Exit->FR->HL->Prop} {f:FR} {L:HL} {m:Option (Lp σ ρ)} {k:σ->Option ρ} {o:ρ} (hm:after m k=some o)
    (Lg:τ->σ->HL) (J:τ->σ->Prop) (sl:τ->σ->FR)
    (hc:∀x,m=some x->VC P h n c (GN h n J sl Lg .brk x) (GE h n J sl Lg none ke o x) f L)
    (next:∀g s,J g s->k s=some o->kn (sl g s) (Lg g s)):VC P h n c kn ke f L:=by
  refine⟨λhkL=> ?_⟩
  cases e:m with
  | none=>rw[e] at hm; cases hm
  | some x=>
    rw[e] at hm
    refine((hc x e).r hkL).mono ?_
    have fin:∀ {ex:Exit} {f1:FR} {L1:HL},GE h n J sl Lg none ke o x ex f1 L1->ex≠ .normal/\ke ex f1 L1:=by
      intro ex f1 L1 q
      cases q with
      | b i hi he q=>cases hi
      | r y hx h1 h2 k2=>subst hx; exact⟨h1,k2 (Option.some.inj hm)⟩
    rintro ex fr'' h'' ⟨f1,L1,hk3,le3,q⟩
    cases ex with
    | normal=>
      obtain⟨s',g',rfl,j',le4⟩:=q.g
      obtain⟨hk5,le5⟩:=le4.le hk3 le3
      exact⟨_,_,hk5,le5,next _ _ j' hm⟩
    | exit i=>exact⟨_,_,hk3,le3,(fin q).2⟩
    | goto l=>exact⟨_,_,hk3,le3,(fin q).2⟩
    | ret=>exact⟨_,_,hk3,le3,(fin q).2⟩
    | panic c=>exact⟨_,_,hk3,le3,(fin q).2⟩
    | outgrown=>exact⟨_,_,hk3,le3,(fin q).2⟩
theorem aFS {τ σ ρ:Type} {id:Nat} {c:Code} {kn:FR->HL->Prop} {ke:Exit->FR->HL->Prop} {f:FR} {L:HL} {step:σ->Option (Lp σ ρ)} {fuel:Nat} {s0:σ} {k:σ->Option ρ} {o:ρ} (hm:after (aT step fuel s0) k=some o)
    (Lg:τ->σ->HL) (sl:τ->σ->FR) (g0:τ) (h0:LX h n f L (sl g0 s0) (Lg g0 s0))
    (round:∀g s x,step s=some x->VC P h n c (GN h n (λ_ _=>True) sl Lg .go x) (GE h n (λ_ _=>True) sl Lg (some id) ke o x) (sl g s) (Lg g s))
    (next:∀g s,k s=some o->kn (sl g s) (Lg g s)):VC P h n (.block id (.loop c)) kn ke f L:=
  nE hm Lg (λ_ _=>True) sl g0 trivial h0 (λg s x _=>round g s x) (λg s _=>next g s)
theorem aFT {τ σ ρ:Type} {c:Code} {kn:FR->HL->Prop} {ke:Exit->FR->HL->Prop} {f:FR} {L:HL} {m:Option (Lp σ ρ)} {k:σ->Option ρ} {o:ρ} (hm:after m k=some o)
    (Lg:τ->σ->HL) (sl:τ->σ->FR)
    (hc:∀x,m=some x->VC P h n c (GN h n (λ_ _=>True) sl Lg .brk x) (GE h n (λ_ _=>True) sl Lg none ke o x) f L)
    (next:∀g s,k s=some o->kn (sl g s) (Lg g s)):VC P h n c kn ke f L:=
  oA hm Lg (λ_ _=>True) sl hc (λg s _=>next g s)
theorem BI {f:FR} {L:HL} (e:jC) (t:Nat) (v:AV) (hv:bD (hp h L) (lk n f.k t) v) (hk:bT h L):bT h ((none,e)::L)/\gP (fm n (FR.c t v f).k) (hp h ((none,e)::L)) (fm n f.k) (hp h L):=⟨bT.none hk,gP.put (iG.refl _) hv⟩
theorem leo {f:FR} {L:HL} {k:bX} {ty:TypeId} {cs:List AV} (e:jC) (i:Nat) (cs':List AV) (hi:((none,e)::L)[i]? =some (some k,.obj ty cs)) (hl:cW (hp h L) cs cs') (hk:bT h L):
    bT h (((none,e)::L).set i (some k,.obj ty cs'))/\gP (fm n f.k) (hp h (((none,e)::L).set i (some k,.obj ty cs'))) (fm n f.k) (hp h L):=gP.obj (L:=(none,e)::L) i cs' (bT.none hk) hi hl
def CQ:Nat->List AV->FR
 | _,[]=>.nil
 | i,x::xs=>.c i x (CQ (i+1) xs)
theorem G5:∀(i:Nat) (xs:List AV),(CQ i xs).k=B9 i xs
 | _,[]=>rfl
 | i,x::xs=>by simp only[CQ,B9,FR.k,G5 (i+1) xs]
structure RV (P:Program) (rs:List ResultVar) (Q:AV->aF->Prop) (h:aF) (n:Nat) (e:Exit) (f:FR) (L:HL):Prop where
 r:bT h L->QX (dW P rs Q) e (fm n f.k) (hp h L)
theorem z9 {f:FuncId} {fn:Func} {c:Code} {args:List AV} {Q:AV->aF->Prop} {L:HL} (hk:bT h L) (n:Nat) (rs:List ResultVar) (hf:P.funcs[f]? =some fn) (hb:fn.body=some c) (hn:fn.ntmps=n) (hr:fn.results.toList=rs) (hle:ble args.length n=true)
    (hc:VC P h n c (RV P rs Q h n .normal) (RV P rs Q h n) (CQ 0 args) L):aM P f args (hp h L) Q:=by
  have hc:=hc.r hk
  rw[G5] at hc
  refine BB n rs hf hb hn hr hle (aAB (hc.mono ?_))
  rintro e fr hh ⟨f',L',hk,le,q⟩
  have fin:RV P rs Q h n e f' L'->QX (dW P rs Q) e fr hh:=λq=>let ⟨fr2,h2,le2,q2⟩:=q.r hk; ⟨fr2,h2,le.trans le2,q2⟩
  cases e with
  | normal=>exact fin q
  | exit i=>exact fin q
  | goto l=>exact fin q
  | ret=>exact fin q
  | panic c=>exact fin q
  | outgrown=>exact fin q
theorem fM {f:FuncId} {fn:Func} {c:Code} {args:List AV} {Q:AV->aF->Prop} (n:Nat) (rs:List ResultVar) (hf:P.funcs[f]? =some fn) (hb:fn.body=some c) (hn:fn.ntmps=n) (hr:fn.results.toList=rs) (hle:ble args.length n=true)
    (hc:VC P h n c (RV P rs Q h n .normal) (RV P rs Q h n) (CQ 0 args) []):aM P f args h Q:=z9 (L:=[]) trivial n rs hf hb hn hr hle hc
theorem vr {rs:List ResultVar} {Q:AV->aF->Prop} {e:Exit} {f:FR} {L:HL} (k:bT h L->dW P rs Q e (fm n f.k) (hp h L)):RV P rs Q h n e f L:=⟨λhk=>QX.mk gP.rfl' (k hk)⟩
theorem vrl {rs:List ResultVar} {Q:AV->aF->Prop} {e:Exit} {f:FR} {L:HL} (k:bT h L->QX (dW P rs Q) e (fm n f.k) (hp h L)):RV P rs Q h n e f L:=⟨k⟩
theorem G6 {L:HL} (hk:bT h L):iG h (hp h L):=(aU (nil_sublist _) hk).1
theorem eI {t:Nat} {y:AV} {f:FR} {L:HL} {e:Exit} (hx:lk n f.k t=y) (he:e= .ret\/e= .normal:=by first | exact .inl rfl | exact .inr rfl):RV P [.tmp t] (λr h'=>r=y/\h'=h) h n e f L:=
 vr λhk=>dW.of1 he (gK _ _ y hx) (G6 hk) (bD.refl _ _) ⟨rfl,rfl⟩
theorem vr2 {t u:Nat} {y z:AV} {f:FR} {L:HL} {e:Exit} (hx:lk n f.k t=y) (hz:lk n f.k u=z) (he:e= .ret\/e= .normal:=by first | exact .inl rfl | exact .inr rfl):RV P [.tmp t,.tmp u] (λr h'=>r= .tup [y,z]/\h'=h) h n e f L:=
 vr λhk=>dW.of2 he (gK _ _ y hx) (gK _ _ z hz) (G6 hk) (bD.refl _ _) (bD.refl _ _) ⟨rfl,rfl⟩
theorem AG.mono {ops:Array Oper} {fs:List (Nat×Option bX×jC)} {K K':Fr->aF->Prop} (hk:∀fr h,K fr h->K' fr h):∀ {m:Nat} {S:Array Bool} {fr:Fr} {h:aF},AG P ops fs K m S fr h->AG P ops fs K' m S fr h
  | 0,_,_,_,⟨h1,h2⟩=>⟨h1,hk _ _ h2⟩
  | m + 1, S, fr, h, ⟨h1, h2⟩ => ⟨fun e => hk _ _ (h1 e), fun i hi o ho => by
      rcases h2 i hi o ho with⟨x,a,b⟩ | ⟨a,b⟩
      . exact .inl ⟨x,a,AG.mono hk b⟩
      . exact .inr ⟨a,b.mono λx h' q=>⟨q.1,AG.mono hk q.2⟩⟩⟩
variable {q:Bool} {K:FR->HL->Prop} {f:FR} {L:HL} {dst:Option Tmp} {ty:TypeId} {pos:String} {dP:Array Edge} {ρ:Type} {r:ρ}
theorem qk {K:FR->HL->Prop} {f:FR} {L:HL} {hh:aF} (hk:bT h L) (e:hh=hp h L) (k:K f L):QK h n K (fm n f.k) hh:=by subst e; exact QK.of hk k
theorem vn {op:Op} {x:AV} (ho:bT h L->eK P ⟨dst,op,ty,pos,dP,none⟩ x (fm n f.k) (hp h L)) (k:K (f.put dst x) L):VN q P h n ⟨dst,op,ty,pos,dP,none⟩ K f L:=
 ⟨λ_ hk=>⟨x,ho hk,k⟩,λ_ hk=>(ho hk).mono λx' h' e=>by obtain⟨rfl,rfl⟩:=e; exact QK.of hk k⟩
theorem ve {o:Oper} (ho:bT h L->jF P o (λx h'=>QK h n K (fm n (f.put o.dst x).k) h') (fm n f.k) (hp h L)):VN false P h n o K f L:=⟨nofun,λ_=>ho⟩
theorem a_v {K:AV->aF->Prop} {o:Oper} {x:AV} {fr:Fr} {hh:aF} (ho:eK P o x fr hh) (k:K x hh):jF P o K fr hh:=ho.mono λx' h' e=>by obtain⟨rfl,rfl⟩:=e; exact k
theorem IR {K:AV->aF->Prop} {o:Oper} {h1 h2:aF} {t:Nat} (v:AV) (hs:iG h2 h1) (hv:bD h2 (lk n f.k t) v) (ho:jF P o K (fm n (kp f.k t v)) h2):jF P o K (fm n f.k) h1:=by
 intro E w a r hva Nx Qx hn
 obtain⟨E',k,r'⟩:=r.drop hs
 refine ho E' w a r' (λy hy=> ?_) Nx Qx λx u w' E'' h' k'=>hn x u w' E'' h' (k.trans k')
 have h1:=kQ k _ _ (hva y hy)
 rw[bI] at h1 ⊢
 cases y with
 | tmp s=>
  simp only[dK] at h1 ⊢
  by_cases e:t=s
  ·subst e
   have h3:=hv E' w _ r' h1
   rw[lG]
   split
   ·rw[lR]; exact h3
   ·simp only[VR]
  ·rw[lG] at h1 ⊢
   rw[pV _ _ e]; exact h1
 | const v=>exact h1
 | global g=>exact h1
 | func g=>exact h1
theorem vz {id:Nat} {l:List Oper} {kn:FR->HL->Prop} (fs:List (Nat×Option bX×jC)) (hm:P.follows .mixedOrders=true) (hI:bT h L->fS fs (Array.replicate l.length false) (hp h L))
    (hl:bT h L->sE P l.toArray fs (QK h n kn) l.length (Array.replicate l.length false) (fm n f.k) (hp h L)):VD P h n id l.toArray kn f L:=
  ⟨λhk=>RJ (Q:=λe fr hh=>e= .normal/\QK h n kn fr hh) fs hm (hI hk) λhi=>(AG.mono λ_ _ q=>⟨rfl,q⟩) (hl hk hi)⟩
theorem vi {b:Bool} {X Y:Prop} {x y:Option ρ} (hm:(if b then x else y)=some r) (ht:b=true->x=some r->X) (hf:b=false->y=some r->Y):LW b X Y:=by
 cases b
 ·exact hf rfl (by simpa using hm)
 ·exact ht rfl (by simpa using hm)
theorem vt {b:Bool} {X Y:Prop} (hb:b=true) (k:X):LW b X Y:=by subst hb; exact k
theorem vf {b:Bool} {X Y:Prop} (hb:b=false) (k:Y):LW b X Y:=by subst hb; exact k
theorem YQ {b:Bool} {X Y:Prop} {k:Option ρ} (hm:grd b k=some r) (hx:b=true->k=some r->X):LW b X Y:=let ⟨h1,h2⟩:=l6 hm; vt h1 (hx h1 h2)
theorem vx {α:Type} {c:α->List AV} {xs:List α} {i:Int} {kk:α->Option ρ} {a b:Operand} {t:TypeId} {tag:Option bX} {sz:Nat} {m:IntKind} (hm:(ix xs i).bind kk=some r) (he:nW P t=some sz) (ha:dK n f.k a= .sl tag sz (xs.map c)) (hb:dK n f.k b= .sc (.int m i))
    (k:∀x,ix xs i=some x->kk x=some r->K (f.put dst (.rp tag (c x))) L):VN q P h n ⟨dst,.indexAddr t a b,ty,pos,dP,none⟩ K f L:=
  let ⟨x,h1,h2⟩:=aC hm; vn (λ_=>l4 h1 he ha hb) (k x h1 h2)
theorem vl {a:Operand} {t:TypeId} {p:bX} {off:Nat} {oty:TypeId} {cs:List AV} {ag:Bool} {m:Nat} (i:Nat) (x:AV) (ht:mF P t=some (ag,m)) (ha:dK n f.k a= .ptr p off) (hi:L[i]? =some (some p,.obj oty cs)) (hx:D1 ag m (cs.drop off)=some x) (k:K (f.put dst x) L):
    VN q P h n ⟨dst,.load t a,ty,pos,dP,none⟩ K f L:=vn (λhk=>gO x ht ha (a9 i hk hi) hx) k
theorem va {a:Operand} {t:TypeId} {tag:Option bX} {cs:List AV} {ag:Bool} {m:Nat} (x:AV) (ht:mF P t=some (ag,m)) (ha:dK n f.k a= .rp tag cs) (hx:D1 ag m cs=some x) (k:K (f.put dst x) L):
    VN q P h n ⟨dst,.load t a,ty,pos,dP,none⟩ K f L:=vn (λ_=>mJ x ht ha hx) k
theorem dI {α:Type} {e:α->List AV} {xs:List α} {a:Operand} {t:TypeId} {tag:Option bX} {sz:Nat} (ht:wJ P t=some true) (ha:dK n f.k a= .sl tag sz (xs.map e)) (k:K (f.put dst (.sc (.int .i64 xs.length))) L):
    VN q P h n ⟨dst,.call { callee:=.builtin .len,args:= #[a],argTypes:= #[t]},ty,pos,dP,none⟩ K f L:=vn (λ_=>xY ht ha) k
theorem vk {α:Type} {m:Option α} {kk:α->Option ρ} {e:α->AV} {fid:FuncId} {g:Operand} {args:Array Operand} {ts:Array TypeId} {caps az:List AV} (hc:∀ {y:α} (h:aF),m=some y->aM P fid az h (λr h'=>r=e y/\h'=h)) (hb:aP P fid=true) (hm:m.bind kk=some r)
    (hg:dK n f.k g= .fn (.func fid) caps) (ha:args.toList.map (dK n f.k)++caps=az) (k:∀y,kk y=some r->K (f.put dst (e y)) L):
    VN q P h n ⟨dst,.call { callee:=.value g,args:=args,argTypes:=ts},ty,pos,dP,none⟩ K f L:=
  let ⟨_,h1,h2⟩:=aC hm; vn (λ_=>bW (hc _ h1) hg hb ha) (k _ h2)
theorem val {t:TypeId} {zs:List Value} (cs:List AV) (hz:sD P t=some zs) (ho:zs.all (·.oneCell')=true) (hcs:zs.map AV.sc=cs) (k:∀q:bX,K (f.put dst (.ptr q 0)) ((some q,.obj t cs)::L)):VN false P h n ⟨dst,.alloc t,ty,pos,dP,none⟩ K f L:=
 ve λhk=>bE cs hk hz ho hcs λq hk'=>qk hk' rfl (k q)
end
section
variable {P:Program} {h:aF} {n:Nat}
theorem bV {q:Bool} {K:FR->HL->Prop} {f:FR} {L:HL} {dst:Option Tmp} {ty:TypeId} {pos:String} {dP:Array Edge} {op:Op} {x:AV} (ho:eK P ⟨dst,op,ty,pos,dP,none⟩ x (fm n f.k) (hp h L)) (k:K (f.put dst x) L):VN q P h n ⟨dst,op,ty,pos,dP,none⟩ K f L:=vn (λ_=>ho) k
theorem dY {q:Bool} {K:FR->HL->Prop} {f:FR} {L:HL} {dst:Option Tmp} {ty:TypeId} {pos:String} {dP:Array Edge} {a:Operand} {t:TypeId} {g:Nat} {p:bX} {off o s:Nat} (hf:lY P t g=some (o,s)) (hs:beq s 0=false) (ha:dK n f.k a= .ptr p off) (k:K (f.put dst (.ptr p (off+o))) L):VN q P h n ⟨dst,.fieldAddr t a g,ty,pos,dP,none⟩ K f L:=vn (λ_=>ML hf hs ha) k
theorem kX {q:Bool} {K:FR->HL->Prop} {f:FR} {L:HL} {dst:Option Tmp} {ty:TypeId} {pos:String} {dP:Array Edge} {a:Operand} {p:bX} {off:Nat} (ha:dK n f.k a= .ptr p off) (k:K (f.put dst (.ptr p off)) L):VN q P h n ⟨dst,.nilCheck a,ty,pos,dP,none⟩ K f L:=vn (λ_=>MN ha) k
theorem gX {K:FR->HL->Prop} {f:FR} {L:HL} {dst:Option Tmp} {ty:TypeId} {pos:String} {dP:Array Edge} {t:TypeId} {x:Operand} {cs:List AV} (hc:cellsOf (dK n f.k x)=some cs) (ho:cs.all hU=true) (k:∀q:bX,bT h ((some q,.obj t cs)::L)->K (f.put dst (.ptr q 0)) ((some q,.obj t cs)::L)):VN false P h n ⟨dst,.box t x,ty,pos,dP,none⟩ K f L:=ve λhk=>T0 hk hc ho λq hq=>qk hq rfl (k q hq)
theorem fP {σ ρ:Type} {c:Code} {kn:FR->HL->Prop} {ke:Exit->FR->HL->Prop} {f:FR} {L:HL} {m:Option (Lp σ ρ)} {k:σ->Option ρ} {o:ρ} (hm:after m k=some o) (Lg:σ->HL) (sl:σ->FR)
 (hc:∀x,m=some x->VC P h n c (GN h n (λ_ _=>True) (λ_:Unit=>sl) (λ_=>Lg) .brk x) (GE h n (λ_ _=>True) (λ_:Unit=>sl) (λ_=>Lg) none ke o x) f L) (next:∀(g:Unit) s,k s=some o->kn (sl s) (Lg s)):VC P h n c kn ke f L:=aFT hm (λ_:Unit=>Lg) (λ_=>sl) hc next
theorem jT {σ ρ:Type} {id:Nat} {c:Code} {kn:FR->HL->Prop} {ke:Exit->FR->HL->Prop} {f:FR} {L:HL} {step:σ->Option (Lp σ ρ)} {fuel:Nat} {s0:σ} {k:σ->Option ρ} {o:ρ} (hm:after (aT step fuel s0) k=some o) (Lg:σ->HL) (sl:σ->FR) (h0:LX h n f L (sl s0) (Lg s0))
 (round:∀(g:Unit) s x,step s=some x->VC P h n c (GN h n (λ_ _=>True) (λ_:Unit=>sl) (λ_=>Lg) .go x) (GE h n (λ_ _=>True) (λ_:Unit=>sl) (λ_=>Lg) (some id) ke o x) (sl s) (Lg s)) (next:∀(g:Unit) s,k s=some o->kn (sl s) (Lg s)):VC P h n (.block id (.loop c)) kn ke f L:=aFS hm (λ_:Unit=>Lg) (λ_=>sl) () h0 round next
end
section
variable {P:Program} {h:aF} {n:Nat} {σ ρ:Type} {sl:Unit->σ->FR} {Lg:Unit->σ->HL} {w:σ->Lp σ ρ} {x:Lp σ ρ} {f:FR} {s:σ} {i:Nat} {ke:Exit->FR->HL->Prop} {o:ρ}
theorem gq0 (hm:some (w s)=some x) (hf:FT (hp h (Lg () s)) n f.k (sl () s).k:=by exact .nil):GN h n (λ_ _=>True) sl Lg w x f (Lg () s):=eF hm () trivial (lx hf)
theorem nI (hm:some (w s)=some x) (hf:FT (hp h (Lg () s)) n f.k (sl () s).k:=by exact .cons (bD.refl _ _) .nil):GN h n (λ_ _=>True) sl Lg w x f (Lg () s):=eF hm () trivial (lx hf)
theorem w7 (hm:some (w s)=some x) (hf:FT (hp h (Lg () s)) n f.k (sl () s).k:=by exact .k2 .nil):GN h n (λ_ _=>True) sl Lg w x f (Lg () s):=eF hm () trivial (lx hf)
theorem LY (hm:some (.brk s)=some x) (hf:FT (hp h (Lg () s)) n f.k (sl () s).k:=by exact .k2 .nil):GE h n (λ_ _=>True) sl Lg (some i) ke o x (.exit i) f (Lg () s):=lF hm () trivial (lx hf)
theorem hX (hm:some (w s)=some x) (hf:FT (hp h (Lg () s)) n f.k (sl () s).k:=by exact .k3 .nil):GN h n (λ_ _=>True) sl Lg w x f (Lg () s):=eF hm () trivial (lx hf)
theorem G7 (hm:some (.brk s)=some x) (hf:FT (hp h (Lg () s)) n f.k (sl () s).k:=by exact .k3 .nil):GE h n (λ_ _=>True) sl Lg (some i) ke o x (.exit i) f (Lg () s):=lF hm () trivial (lx hf)
theorem fV (hm:some (w s)=some x) (hf:FT (hp h (Lg () s)) n f.k (sl () s).k:=by exact .k4 .nil):GN h n (λ_ _=>True) sl Lg w x f (Lg () s):=eF hm () trivial (lx hf)
theorem u0 (hm:some (.brk s)=some x) (hf:FT (hp h (Lg () s)) n f.k (sl () s).k:=by exact .k4 .nil):GE h n (λ_ _=>True) sl Lg (some i) ke o x (.exit i) f (Lg () s):=lF hm () trivial (lx hf)
theorem lE (hm:some (w s)=some x) (hf:FT (hp h (Lg () s)) n f.k (sl () s).k:=by exact .k5 .nil):GN h n (λ_ _=>True) sl Lg w x f (Lg () s):=eF hm () trivial (lx hf)
theorem YR (hm:some (.brk s)=some x) (hf:FT (hp h (Lg () s)) n f.k (sl () s).k:=by exact .k5 .nil):GE h n (λ_ _=>True) sl Lg (some i) ke o x (.exit i) f (Lg () s):=lF hm () trivial (lx hf)
theorem nF (hm:some (w s)=some x) (hf:FT (hp h (Lg () s)) n f.k (sl () s).k:=by exact .k6 .nil):GN h n (λ_ _=>True) sl Lg w x f (Lg () s):=eF hm () trivial (lx hf)
theorem bq6 (hm:some (.brk s)=some x) (hf:FT (hp h (Lg () s)) n f.k (sl () s).k:=by exact .k6 .nil):GE h n (λ_ _=>True) sl Lg (some i) ke o x (.exit i) f (Lg () s):=lF hm () trivial (lx hf)
theorem CR (hm:some (w s)=some x) (hf:FT (hp h (Lg () s)) n f.k (sl () s).k:=by exact .k7 .nil):GN h n (λ_ _=>True) sl Lg w x f (Lg () s):=eF hm () trivial (lx hf)
theorem bq7 (hm:some (.brk s)=some x) (hf:FT (hp h (Lg () s)) n f.k (sl () s).k:=by exact .k7 .nil):GE h n (λ_ _=>True) sl Lg (some i) ke o x (.exit i) f (Lg () s):=lF hm () trivial (lx hf)
theorem MY (hm:some (w s)=some x) (hf:FT (hp h (Lg () s)) n f.k (sl () s).k:=by exact .k8 .nil):GN h n (λ_ _=>True) sl Lg w x f (Lg () s):=eF hm () trivial (lx hf)
theorem bq8 (hm:some (.brk s)=some x) (hf:FT (hp h (Lg () s)) n f.k (sl () s).k:=by exact .k8 .nil):GE h n (λ_ _=>True) sl Lg (some i) ke o x (.exit i) f (Lg () s):=lF hm () trivial (lx hf)
theorem gq9 (hm:some (w s)=some x) (hf:FT (hp h (Lg () s)) n f.k (sl () s).k:=by exact .k9 .nil):GN h n (λ_ _=>True) sl Lg w x f (Lg () s):=eF hm () trivial (lx hf)
theorem aFY (hm:some (.brk s)=some x) (hf:FT (hp h (Lg () s)) n f.k (sl () s).k:=by exact .k11 .nil):GE h n (λ_ _=>True) sl Lg (some i) ke o x (.exit i) f (Lg () s):=lF hm () trivial (lx hf)
end
def avt (t:Option bX) (off n:Nat):AV:=match t with
 | none=>.any
 | some k=>.view k off n
section ops
variable {P:Program} {h h0:aF} {L:HL} {n:Nat} {kvs:KV} {ty:TypeId} {pos:String} {dP:Array Edge}
theorem CS {dst:Option Tmp} {s:Nat} {lo:Operand} {t:TypeId} {g:cY} {m sz:Nat} {q:IntKind} {i:Int} (hi:(decide (0<=i) && decide (i < (m:Int)))=true) (ht:nW P t=some sz) (ok:bJ g sz m) (ha:lk n kvs s=aw g.t g.n g.cap) (hb:dK n kvs lo= .sc (.int q i)):
    eK P ⟨dst,.slice t (.tmp s) (some lo) none none,ty,pos,dP,none⟩ (avt g.t (i.toNat*sz) (m - i.toNat)) (fm n kvs) h:=by
  simp only[and_eq_true,decide_eq_true_eq] at hi
  rw[ok.eqn] at ha
  cases ht':g.t with
  | none=>have:=ok.nil ht'; omega
  | some k=>
    rw[ht'] at ha
    have hT:D7 P t=true:=by simp[D7,ht]
    refine sU (s:=s) (.view k 0 m) (by rw[ha]; exact CL _ _ _ _) (kA (c:=0<=i/\i < (m:Int)/\(m:Int)<=m) ?_ ⟨hi.1,hi.2,by omega⟩)
    have e:dK n (kp kvs s (.view k 0 m)) (.tmp s)= .view k 0 m:=EL ha (by simp[aw])
    have e2:dK n (kp kvs s (.view k 0 m)) lo= .sc (.int q i):=GY ha (by simp[aw]) hb
    simp only[pv,bI,e,map_some,e2,map_none,B3,ht,bind_some,oO,lH,hT,if_true,avt,Nat.zero_add,Int.toNat_natCast]
theorem CT {dst:Option Tmp} {s:Nat} {hi:Operand} {t:TypeId} {g:cY} {m sz:Nat} {q:IntKind} {i:Int} (hi':(decide (0<=i) && decide (i<=(m:Int)))=true) (ok:bJ g sz m) (ht:nW P t=some sz) (ha:dK n kvs (.tmp s)=aw g.t g.n g.cap) (hb:dK n kvs hi= .sc (.int q i)):
    eK P ⟨dst,.slice t (.tmp s) none (some hi) none,ty,pos,dP,none⟩ (aw g.t i.toNat g.cap) (fm n kvs) h:=by
  have hn:g.t=none->g.n=0:=λe=>ok.eqn.trans (ok.nil e)
  have hc:g.n<=g.cap:=by rw[ok.eqn]; exact ok.le
  rw[<- ok.eqn] at hi'
  obtain⟨tg,n0,cap,sp⟩:=g
  simp only at hn hc ha hi' ⊢
  simp only[and_eq_true,decide_eq_true_eq] at hi'
  obtain⟨e,hu,he⟩:=hH ht
  cases tg with
  | none=>
    have:=hn rfl
    have hi0:i=0:=by omega
    subst hi0
    have hT:D7 P t=true:=by simp[D7,ht]
    have ha:dK n kvs (.tmp s)= .e0:=ha
    refine kA (c:=(0:Int)=0/\(0:Int)=0) ?_ ⟨rfl,rfl⟩
    simp only[pv,bI,ha,map_some,hb,map_none,B3,ht,bind_some,oO,lH,hT,if_true]
    rfl
  | some k=>
    have ha:dK n kvs (.tmp s)= .vw k n0 cap:=ha
    refine eE (x:=.vw k i.toNat cap) (λE w ac r hv=> ?_) ⟨rfl,rfl⟩
    have va:=hv (.tmp s) (by simp[Op.operands])
    have vb:=hv hi (by simp[Op.operands])
    rw[bI,ha] at va; rw[bI,hb] at vb
    simp only[VR] at va vb
    obtain⟨g,hg,e1,e2,e3⟩:=va
    have hbd:=iA (P:=P) (w:=w) (sl:=true) (len:=n0) (cap:=cap) (l:=0) (h:=i) (lo:=none) (hi:=some (.sc (.int q i))) (lv:=none) (hv:=some (.int q i)) rfl rfl (E:=E) nofun (λ_=>rfl)
      (λx hx=>by cases hx; exact⟨_,rfl,by simp only[VR]⟩) nofun (by omega) hi'.1 (by omega)
    refine⟨.slice (some ⟨g,0,none⟩) i.toNat cap, ?_,by simp only[VR]; exact⟨g,hg,rfl,by omega,e3⟩⟩
    by_cases hz:cap=0
    . subst hz
      have hi0:i.toNat=0:=by omega
      simp[execOp,e1,vb,sliceAt,Instr.slice,run_underlying hu,hbd,cU he,hi0]
    . have:¬cap=(0:Int).toNat:=by simpa using hz
      simp[execOp,e1,vb,sliceAt,Instr.slice,run_underlying hu,hbd,cU he,hz,Addr.add]
theorem IS {K:AV->aF->Prop} {α:Type} {c:α->List AV} {xs:List α} {dst:Option Tmp} {t e:TypeId} {x:Operand} {g:cY} {sz:Nat} {zs:List Value} {i:Int} (p:Nat) (hk:bT h0 L) (hi:(decide (0<=i) && decide (i < (xs.length:Int)))=true) (hc:∀y,(c y).length=sz) (ok:bJ g sz xs.length)
    (hu:P.underlying t=some (.slice e)) (hz:sD P e=some zs) (hzl:zs.length=sz) (hzo:zs.all (·.oneCell')=true) (ha:dK n kvs x=avt g.t (i.toNat*sz) (xs.length - i.toNat)) (hL:L[p]? =some (g.t,.obj e (fl c xs g.sp)))
    (k:∀sp:List AV,bJ ⟨g.t,i.toNat,g.cap,sp⟩ sz (xs.take i.toNat).length->bT h0 (L.set p (g.t,.obj e (fl c (xs.take i.toNat) sp)))->K (.tup []) (hp h0 (L.set p (g.t,.obj e (fl c (xs.take i.toNat) sp))))):
    jF P ⟨dst,.call { callee:=.builtin .clear,args:= #[x],argTypes:= #[t]},ty,pos,dP,none⟩ K (fm n kvs) (hp h0 L):=by
  simp only[and_eq_true,decide_eq_true_eq] at hi
  obtain⟨i1,i2⟩:=hi
  have hil:i.toNat < xs.length:=by omega
  cases ht':g.t with
  | none=>have:=ok.nil ht'; omega
  | some q=>
    rw[ht'] at ha hL k
    have hq:=a9 p hk hL
    have hfl:(fl c xs g.sp).length=xs.length*sz+g.sp.length:=MR hc xs g.sp
    have hm:(xs.length - i.toNat)*sz+i.toNat*sz=xs.length*sz:=by rw[<- Nat.add_mul]; congr 1; omega
    have htk:(xs.take i.toNat).length=i.toNat:=by rw[List.length_take]; omega
    have key:=k (List.replicate ((xs.length - i.toNat)*sz) .any++g.sp) ⟨htk.symm,nofun,by rw[htk]; exact Nat.le_trans (Nat.le_of_lt hil) ok.le,ok.mx,by
      rw[htk,List.length_append,List.length_replicate]
      have:=ok.len
      simp only
      omega⟩
    obtain⟨h1,h2,_⟩:=kV (e':=.obj e (fl c (xs.take i.toNat) (List.replicate ((xs.length - i.toNat)*sz) .any++g.sp))) p hk hL (.inl rfl)
    have key:=key h2
    rw[<- h1] at key
    intro E w a r hv Nx Qx hn
    have vx:=hv x (by simp[Op.operands,Call.operands])
    rw[bI,ha] at vx
    simp only[avt,VR] at vx
    obtain⟨gg,cap,hg,ex,hc1,hc2⟩:=vx
    obtain⟨g',cur,f1,f2,f3,f4⟩:=r.obj q e _ hq
    rw[hg] at f1; cases f1
    have hcl:xs.length*sz+g.sp.length=cur.size:=by rw[<- hfl]; simpa using cR f3
    unfold sD at hz
    cases hinf:P.info? e with
    | none=>rw[hinf] at hz; simp at hz
    | some ii=>
    cases hzz:ii.zero with
    | none=>rw[hinf] at hz; simp[hzz] at hz
    | some z=>
    rw[hinf] at hz
    simp only[bind_some,hzz,map_some,Option.some.injEq] at hz
    subst hz
    have hzs:z.cells.size=sz:=by simpa using hzl
    have hzc:∀v∈(zeroCells z.cells (xs.length - i.toNat)).toList,v.oneCell'=true:=kB (List.all_eq_true.1 hzo)
    have hzn:(zeroCells z.cells (xs.length - i.toNat)).toList.length=(xs.length - i.toNat)*sz:=by rw[Array.length_toList,size_zeroCells,hzs]
    have hst:=run_storeCells_at P gg (i.toNat*sz) e (zeroCells z.cells (xs.length - i.toNat)).toList 0 cur w f2 (by rw[hzn]; omega) hzc
    rw[hzn] at hst
    simp only[Nat.add_zero] at hst
    have hspl:fl c (xs.take i.toNat) (List.replicate ((xs.length - i.toNat)*sz) .any++g.sp)=(fl c xs g.sp).take (i.toNat*sz)++List.replicate ((xs.length - i.toNat)*sz) .any++(fl c xs g.sp).drop (i.toNat*sz+(xs.length - i.toNat)*sz):=by
      have e1:(xs.map c).flatten=((xs.take i.toNat).map c).flatten++((xs.drop i.toNat).map c).flatten:=by
        rw[<- List.flatten_append,<- List.map_append,List.take_append_drop]
      have l1:((xs.take i.toNat).map c).flatten.length=i.toNat*sz:=by rw[mY hc,htk]
      have l2:(xs.map c).flatten.length=xs.length*sz:=mY hc xs
      unfold fl
      rw[show i.toNat*sz+(xs.length - i.toNat)*sz=(xs.map c).flatten.length from by rw[l2]; omega,List.drop_left]
      rw[e1,<- l1]
      simp only[List.append_assoc,List.take_left']
    have hv':cP E w (fl c (xs.take i.toNat) (List.replicate ((xs.length - i.toNat)*sz) .any++g.sp)) (cur.toList.take (i.toNat*sz)++(zeroCells z.cells (xs.length - i.toNat)).toList++cur.toList.drop (i.toNat*sz+(xs.length - i.toNat)*sz)):=by
      rw[hspl]
      exact cT (cT (fT _ f3) (sI _ hzn)) (jJ _ f3)
    have h1':∀v∈cur.toList.take (i.toNat*sz)++(zeroCells z.cells (xs.length - i.toNat)).toList++cur.toList.drop (i.toNat*sz+(xs.length - i.toNat)*sz),v.oneCell'=true:=by
      intro v hv
      rcases List.mem_append.1 hv with hv | hv
      . rcases List.mem_append.1 hv with hv | hv
        . exact f4 v (List.mem_of_mem_take hv)
        . exact hzc v hv
      . exact f4 v (List.mem_of_mem_drop hv)
    obtain⟨k1,k2⟩:=r.set_obj (cur:=(cur.toList.take (i.toNat*sz)++(zeroCells z.cells (xs.length - i.toNat)).toList++cur.toList.drop (i.toNat*sz+(xs.length - i.toNat)*sz)).toArray) hq hg
      (w':=w.setRow gg (cur.toList.take (i.toNat*sz)++(zeroCells z.cells (xs.length - i.toNat)).toList++cur.toList.drop (i.toNat*sz+(xs.length - i.toNat)*sz)).toArray)
      (setRow_heap w gg cur _ e _ f2) (λg' hg'=>setRow_other w gg g' _ hg') (by simp) rfl rfl rfl hv' h1'
    unfold wp
    have hpos:¬xs.length - i.toNat=0:=by omega
    have hzv:(zeroValue e).run P w= .ok z w:=by simp[zeroValue,typeInfo,hinf,hzz]
    have hrun:(clear_ #[t] ty #[.slice (some ⟨gg,i.toNat*sz,none⟩) (xs.length - i.toNat) cap]).run P w= .ok (.tuple #[]) (w.setRow gg (cur.toList.take (i.toNat*sz)++(zeroCells z.cells (xs.length - i.toNat)).toList++cur.toList.drop (i.toNat*sz+(xs.length - i.toNat)*sz)).toArray):=by
      simp[clear_,run_underlying hu,hzv,hst,hpos]
    have hex:(execOp a.eval ⟨dst,.call { callee:=.builtin .clear,args:= #[x],argTypes:= #[t]},ty,pos,dP,none⟩).run P w= .ok (.value (.tuple #[])) (w.setRow gg (cur.toList.take (i.toNat*sz)++(zeroCells z.cells (xs.length - i.toNat)).toList++cur.toList.drop (i.toNat*sz+(xs.length - i.toNat)*sz)).toArray):=by
      simp only[execOp,resolve,invoke,builtin,List.map_toArray,List.map_cons,List.map_nil,ex,Sem.run_bind,Sem.run_pure,Result.andThen_ok,hrun]
    rw[hex]
    exact hn (.tup []) (.tuple #[]) _ E _ k1 k2 (by simp only[VR]; exact⟨#[],rfl,by simp[cP]⟩) key
theorem qP {K:AV->aF->Prop} {α:Type} {c:α->List AV} {dst:Option Tmp} {t e:TypeId} {sz b:Nat} (hk:bT h0 L) (ht:lZ P t e sz b)
    (k:bT h0 ((none,.obj e (fl c ([]:List α) g0.sp))::L)->K (aw g0.t g0.n g0.cap) (hp h0 ((none,.obj e (fl c ([]:List α) g0.sp))::L))):
    jF P ⟨dst,.buildSlice t 0 #[],ty,pos,dP,none⟩ K (fm n kvs) (hp h0 L):=
  EG rfl ht (k ⟨hk,nofun⟩)
end ops
end Go.Vm
namespace Go.Proofs.YtbbifdfldpfphaaGreat
open Go.Vm
abbrev fQ (x:Int):List AV:=[.sc (.int .i64 x)]
abbrev G8 (x:Bool):List AV:=[.sc (.bool x)]
abbrev gG (x:Int):List AV:=[.sc (.int .u8 x)]
abbrev T7 (x:ByteArray):List AV:=[.sc (.string x)]
abbrev RQ (x:List Int):List AV:=[.sl none 1 (map fQ x)]
abbrev iL (x:List Int):List AV:=[.sl none 1 (map gG x)]
structure dR where
 Path:ByteArray
 Data:List Int
 deriving DecidableEq
def eU (x:dR):List AV:=[.sc (.string x.Path),.sl none 1 (map gG x.Data)]
abbrev EQ (x:List dR):List AV:=[.sl none 2 (map eU x)]
abbrev ER (x:List Bool):List AV:=[.sl none 1 (map G8 x)]
structure nJ where
 Do:Int
 N:Int
 Vol:Int
 Tree:List dR
 Pick:List Bool
 deriving DecidableEq
def fR (x:nJ):List AV:=[.sc (.int .i64 x.Do),.sc (.int .i64 x.N),.sc (.int .i64 x.Vol),.sl none 2 (map eU x.Tree),.sl none 1 (map G8 x.Pick)]
abbrev RR (x:List nJ):List AV:=[.sl none 5 (map fR x)]
structure dF where
 Path:ByteArray
 Size:Int
 Ids:List bK
 deriving DecidableEq
def cC (x:dF):List AV:=[.sc (.string x.Path),.sc (.int .i64 x.Size),.sl none 32 (map bF x.Ids)]
theorem w8:∀y,(cC y).length=3:=λy=>by first | rfl | simp[cC,bF,bK.len]
structure bG where
 Name:ByteArray
 Parts:List dF
 deriving DecidableEq
def bP (x:bG):List AV:=[.sc (.string x.Name),.sl none 3 (map cC x.Parts)]
structure aS where
 Vol:Int
 File:Int
 Off:Int
 Len:Int
 deriving DecidableEq
def aO (x:aS):List AV:=[.sc (.int .i64 x.Vol),.sc (.int .i64 x.File),.sc (.int .i64 x.Off),.sc (.int .i64 x.Len)]
theorem eL:∀y,(aO y).length=4:=λy=>by first | rfl | simp[aO,bF,bK.len]
structure aI where
 Seq:Int
 Man:bG
 Locs:List aS
 deriving DecidableEq
def bQ (x:aI):List AV:=[.sc (.int .i64 x.Seq),.sc (.string x.Man.Name),.sl none 3 (map cC x.Man.Parts),.sl none 4 (map aO x.Locs)]
theorem eV:∀y,(bQ y).length=4:=λy=>by first | rfl | simp[bQ,bF,bK.len]
structure aB where
 Id:bK
 Staged:Bool
 Data:List Int
 Locs:List aS
 deriving DecidableEq
def aK (x:aB):List AV:=bF x.Id++ [.sc (.bool x.Staged),.sl none 1 (map gG x.Data),.sl none 4 (map aO x.Locs)]
theorem cX:∀y,(aK y).length=35:=λy=>by first | rfl | simp[aK,bF,bK.len]
structure aQ where
 Seq:Int
 Of:Int
 Locs:List aS
 deriving DecidableEq
def cE (x:aQ):List AV:=[.sc (.int .i64 x.Seq),.sc (.int .i64 x.Of),.sl none 4 (map aO x.Locs)]
theorem fN:∀y,(cE y).length=3:=λy=>by first | rfl | simp[cE,bF,bK.len]
structure aR where
 Pool:Int
 Epoch:Int
 State:Int
 Files:Int
 deriving DecidableEq
def dN (x:aR):List AV:=[.sc (.int .i64 x.Pool),.sc (.int .i64 x.Epoch),.sc (.int .i64 x.State),.sc (.int .i64 x.Files)]
theorem eR:∀y,(dN y).length=4:=λy=>by first | rfl | simp[dN,bF,bK.len]
structure aA where
 Seq:Int
 Snaps:List aI
 Chunks:List aB
 Exps:List aQ
 Vols:List aR
 deriving DecidableEq
def aD (x:aA):List AV:=[.sc (.int .i64 x.Seq),.sl none 4 (map bQ x.Snaps),.sl none 35 (map aK x.Chunks),.sl none 3 (map cE x.Exps),.sl none 4 (map dN x.Vols)]
def bY:aA:={ Seq:=0,Snaps:=[],Chunks:=[],Exps:=[],Vols:=[]}
structure aE where
 Kind:Int
 Id:bK
 Seq:Int
 Of:Int
 Off:Int
 Len:Int
 deriving DecidableEq
def aJ (x:aE):List AV:=[.sc (.int .i64 x.Kind)]++bF x.Id++ [.sc (.int .i64 x.Seq),.sc (.int .i64 x.Of),.sc (.int .i64 x.Off),.sc (.int .i64 x.Len)]
abbrev iX (x:List aE):List AV:=[.sl none 37 (map aJ x)]
structure aW where
 Kind:Int
 Snap:aI
 Chunks:List aB
 Seq:Int
 Vol:Int
 Items:List aE
 deriving DecidableEq
def aH (x:aW):List AV:=[.sc (.int .i64 x.Kind),.sc (.int .i64 x.Snap.Seq),.sc (.string x.Snap.Man.Name),.sl none 3 (map cC x.Snap.Man.Parts),.sl none 4 (map aO x.Snap.Locs),.sl none 35 (map aK x.Chunks),.sc (.int .i64 x.Seq),.sc (.int .i64 x.Vol),.sl none 37 (map aJ x.Items)]
abbrev dA (x:Ar 64):List AV:=cA .u32 64 x
abbrev eD (x:Ar 8):List AV:=cA .u32 8 x
theorem u2:prog.underlying 2=some (.int .i64):=by kernel_rfl
theorem cG:mF prog 3=some (false,1):=by kernel_rfl
theorem AA:nD prog 3=some 1:=by kernel_rfl
theorem ti3:wS prog 3=some .i64:=by kernel_rfl
theorem u3:prog.underlying 3=some (.int .i64):=by kernel_rfl
theorem zr3:sD prog 3=some [.int .i64 0]:=by kernel_rfl
theorem GH:mF prog 4=some (false,1):=by kernel_rfl
theorem sz4:nD prog 4=some 1:=by kernel_rfl
theorem u4:prog.underlying 4=some .bool:=by kernel_rfl
theorem zb4:(prog.info? 4).bind (·.zero)=some (.bool false):=by kernel_rfl
theorem ES:mF prog 5=some (false,1):=by kernel_rfl
theorem sz5:nD prog 5=some 1:=by kernel_rfl
theorem ti5:wS prog 5=some .u8:=by kernel_rfl
theorem u5:prog.underlying 5=some (.int .u8):=by kernel_rfl
theorem VS:wJ prog 9=some false:=by kernel_rfl
theorem IT:mF prog 9=some (false,1):=by kernel_rfl
theorem u9:prog.underlying 9=some .string:=by kernel_rfl
theorem MZ:wJ prog 22=some true:=by kernel_rfl
theorem aAM:nW prog 22=some 1:=by kernel_rfl
theorem VT:lZ prog 22 3 1 8:=lZ.of (by kernel_rfl) (by kernel_rfl) (by decide)
theorem u22:prog.underlying 22=some (.slice 3):=by kernel_rfl
theorem VU:wJ prog 23=some true:=by kernel_rfl
theorem KG:nW prog 23=some 5:=by kernel_rfl
theorem u23:prog.underlying 23=some (.slice 67):=by kernel_rfl
theorem kN:wJ prog 25=some true:=by kernel_rfl
theorem jG:nW prog 25=some 4:=by kernel_rfl
theorem ET:lZ prog 25 60 4 72:=lZ.of (by kernel_rfl) (by kernel_rfl) (by decide)
theorem fE:mF prog 25=some (false,1):=by kernel_rfl
theorem M0:nD prog 25=some 1:=by kernel_rfl
theorem u25:prog.underlying 25=some (.slice 60):=by kernel_rfl
theorem kY:wJ prog 26=some true:=by kernel_rfl
theorem fZ:nW prog 26=some 35:=by kernel_rfl
theorem pK:lZ prog 26 44 35 88:=lZ.of (by kernel_rfl) (by kernel_rfl) (by decide)
theorem fA:mF prog 26=some (false,1):=by kernel_rfl
theorem CU:nD prog 26=some 1:=by kernel_rfl
theorem u26:prog.underlying 26=some (.slice 44):=by kernel_rfl
theorem nK:wJ prog 27=some true:=by kernel_rfl
theorem gU:nW prog 27=some 3:=by kernel_rfl
theorem pL:lZ prog 27 99 3 40:=lZ.of (by kernel_rfl) (by kernel_rfl) (by decide)
theorem gN:mF prog 27=some (false,1):=by kernel_rfl
theorem KH:nD prog 27=some 1:=by kernel_rfl
theorem u27:prog.underlying 27=some (.slice 99):=by kernel_rfl
theorem pM:wJ prog 28=some true:=by kernel_rfl
theorem kZ:nW prog 28=some 4:=by kernel_rfl
theorem M1:lZ prog 28 49 4 32:=lZ.of (by kernel_rfl) (by kernel_rfl) (by decide)
theorem gH:mF prog 28=some (false,1):=by kernel_rfl
theorem VV:nD prog 28=some 1:=by kernel_rfl
theorem dG:mF prog 30=some (true,5):=by kernel_rfl
theorem mZ:nD prog 30=some 5:=by kernel_rfl
theorem rN:lY prog 30 0=some (0,1):=by kernel_rfl
theorem eG:lY prog 30 1=some (1,1):=by kernel_rfl
theorem eM:lY prog 30 2=some (2,1):=by kernel_rfl
theorem eH:lY prog 30 3=some (3,1):=by kernel_rfl
theorem gW:lY prog 30 4=some (4,1):=by kernel_rfl
theorem G9:vL prog 30=some ([.int .i64 0,.slice none 0 0,.slice none 0 0,.slice none 0 0,.slice none 0 0],[(0,1),(1,1),(2,1),(3,1),(4,1)]):=by kernel_rfl
theorem rO:sD prog 30=some [.int .i64 0,.slice none 0 0,.slice none 0 0,.slice none 0 0,.slice none 0 0]:=by kernel_rfl
theorem mA:wJ prog 33=some true:=by kernel_rfl
theorem n3:nW prog 33=some 37:=by kernel_rfl
theorem lM:lZ prog 33 38 37 72:=lZ.of (by kernel_rfl) (by kernel_rfl) (by decide)
theorem mM:mF prog 33=some (false,1):=by kernel_rfl
theorem aF1:nD prog 33=some 1:=by kernel_rfl
theorem yE:IJ prog 36=some (32,1):=by kernel_rfl
theorem fF:mF prog 36=some (true,32):=by kernel_rfl
theorem M2:nD prog 36=some 32:=by kernel_rfl
theorem T8:prog.underlying 36=some (.array 32 5):=by kernel_rfl
theorem EU:prog.eqGuardType prog.depth 36=false:=by kernel_rfl
theorem M4:sD prog 36=some (List.replicate 32 (.int .u8 0)):=by kernel_rfl
theorem CV:mF prog 38=some (true,37):=by kernel_rfl
theorem HA:nD prog 38=some 37:=by kernel_rfl
theorem m0:lY prog 38 0=some (0,1):=by kernel_rfl
theorem yF:lY prog 38 1=some (1,32):=by kernel_rfl
theorem mB:lY prog 38 2=some (33,1):=by kernel_rfl
theorem yG:lY prog 38 3=some (34,1):=by kernel_rfl
theorem M5:lY prog 38 4=some (35,1):=by kernel_rfl
theorem M7:lY prog 38 5=some (36,1):=by kernel_rfl
theorem s9:vL prog 38=some ((.int .i64 0::(List.replicate 32 (.int .u8 0)++[.int .i64 0,.int .i64 0,.int .i64 0,.int .i64 0])),[(0,1),(1,32),(33,1),(34,1),(35,1),(36,1)]):=by kernel_rfl
theorem HB:sD prog 38=some (.int .i64 0::(List.replicate 32 (.int .u8 0)++[.int .i64 0,.int .i64 0,.int .i64 0,.int .i64 0])):=by kernel_rfl
theorem n4:wJ prog 41=some true:=by kernel_rfl
theorem M8:nW prog 41=some 1:=by kernel_rfl
theorem yH:lZ prog 41 5 1 1:=lZ.of (by kernel_rfl) (by kernel_rfl) (by decide)
theorem oB:mF prog 41=some (false,1):=by kernel_rfl
theorem EV:nD prog 41=some 1:=by kernel_rfl
theorem u41:prog.underlying 41=some (.slice 5):=by kernel_rfl
theorem kC:wJ prog 42=some true:=by kernel_rfl
theorem jH:nW prog 42=some 4:=by kernel_rfl
theorem pN:lZ prog 42 81 4 32:=lZ.of (by kernel_rfl) (by kernel_rfl) (by decide)
theorem fO:mF prog 42=some (false,1):=by kernel_rfl
theorem oD:nD prog 42=some 1:=by kernel_rfl
theorem u42:prog.underlying 42=some (.slice 81):=by kernel_rfl
theorem nL:mF prog 44=some (true,35):=by kernel_rfl
theorem AF:nD prog 44=some 35:=by kernel_rfl
theorem rP:lY prog 44 0=some (0,32):=by kernel_rfl
theorem pZ:lY prog 44 1=some (32,1):=by kernel_rfl
theorem mC:lY prog 44 2=some (33,1):=by kernel_rfl
theorem jA:lY prog 44 3=some (34,1):=by kernel_rfl
theorem aF2:vL prog 44=some ((List.replicate 32 (.int .u8 0)++[.bool false,.slice none 0 0,.slice none 0 0]),[(0,32),(32,1),(33,1),(34,1)]):=by kernel_rfl
theorem pO:sD prog 44=some (List.replicate 32 (.int .u8 0)++[.bool false,.slice none 0 0,.slice none 0 0]):=by kernel_rfl
theorem aAN:mF prog 49=some (true,4):=by kernel_rfl
theorem aAO:nD prog 49=some 4:=by kernel_rfl
theorem M9:lY prog 49 0=some (0,1):=by kernel_rfl
theorem NA:lY prog 49 1=some (1,1):=by kernel_rfl
theorem oU:lY prog 49 2=some (2,1):=by kernel_rfl
theorem p4:lY prog 49 3=some (3,1):=by kernel_rfl
theorem aF3:vL prog 49=some ([.int .i64 0,.int .i64 0,.int .i64 0,.int .i64 0],[(0,1),(1,1),(2,1),(3,1)]):=by kernel_rfl
theorem RS:sD prog 49=some [.int .i64 0,.int .i64 0,.int .i64 0,.int .i64 0]:=by kernel_rfl
theorem aAP:wJ prog 50=some true:=by kernel_rfl
theorem RT:nW prog 50=some 1:=by kernel_rfl
theorem aAQ:lZ prog 50 33 1 24:=lZ.of (by kernel_rfl) (by kernel_rfl) (by decide)
theorem aAR:mF prog 50=some (false,1):=by kernel_rfl
theorem aF4:nD prog 50=some 1:=by kernel_rfl
theorem aF5:sD prog 50=some [.slice none 0 0]:=by kernel_rfl
theorem AH:wJ prog 56=some true:=by kernel_rfl
theorem tA:nW prog 56=some 3:=by kernel_rfl
theorem KI:lZ prog 56 70 3 48:=lZ.of (by kernel_rfl) (by kernel_rfl) (by decide)
theorem oW:mF prog 56=some (false,1):=by kernel_rfl
theorem VW:nD prog 56=some 1:=by kernel_rfl
theorem p5:mF prog 58=some (true,2):=by kernel_rfl
theorem AI:nD prog 58=some 2:=by kernel_rfl
theorem VX:lY prog 58 0=some (0,1):=by kernel_rfl
theorem yI:lY prog 58 1=some (1,1):=by kernel_rfl
theorem VY:vL prog 58=some ([.string empty,.slice none 0 0],[(0,1),(1,1)]):=by kernel_rfl
theorem NB:sD prog 58=some [.string empty,.slice none 0 0]:=by kernel_rfl
theorem tB:mF prog 60=some (true,4):=by kernel_rfl
theorem HC:nD prog 60=some 4:=by kernel_rfl
theorem CW:lY prog 60 0=some (0,1):=by kernel_rfl
theorem rQ:lY prog 60 1=some (1,2):=by kernel_rfl
theorem kJ:lY prog 60 2=some (3,1):=by kernel_rfl
theorem aF6:vL prog 60=some ([.int .i64 0,.string empty,.slice none 0 0,.slice none 0 0],[(0,1),(1,2),(3,1)]):=by kernel_rfl
theorem yJ:sD prog 60=some [.int .i64 0,.string empty,.slice none 0 0,.slice none 0 0]:=by kernel_rfl
theorem tC:mF prog 62=some (true,9):=by kernel_rfl
theorem yK:nD prog 62=some 9:=by kernel_rfl
theorem CX:lY prog 62 0=some (0,1):=by kernel_rfl
theorem p6:lY prog 62 1=some (1,4):=by kernel_rfl
theorem oX:lY prog 62 2=some (5,1):=by kernel_rfl
theorem VZ:lY prog 62 3=some (6,1):=by kernel_rfl
theorem gJ:lY prog 62 4=some (7,1):=by kernel_rfl
theorem iE:lY prog 62 5=some (8,1):=by kernel_rfl
theorem AJ:vL prog 62=some ([.int .i64 0,.int .i64 0,.string empty,.slice none 0 0,.slice none 0 0,.slice none 0 0,.int .i64 0,.int .i64 0,.slice none 0 0],[(0,1),(1,4),(5,1),(6,1),(7,1),(8,1)]):=by kernel_rfl
theorem RU:sD prog 62=some [.int .i64 0,.int .i64 0,.string empty,.slice none 0 0,.slice none 0 0,.slice none 0 0,.int .i64 0,.int .i64 0,.slice none 0 0]:=by kernel_rfl
theorem V0:wS prog 63=some .u64:=by kernel_rfl
theorem AK:wJ prog 64=some true:=by kernel_rfl
theorem pP:nW prog 64=some 2:=by kernel_rfl
theorem RW:lZ prog 64 95 2 40:=lZ.of (by kernel_rfl) (by kernel_rfl) (by decide)
theorem aF7:mF prog 64=some (false,1):=by kernel_rfl
theorem u64:prog.underlying 64=some (.slice 95):=by kernel_rfl
theorem aAS:wJ prog 65=some true:=by kernel_rfl
theorem aF8:nW prog 65=some 1:=by kernel_rfl
theorem aAT:mF prog 65=some (false,1):=by kernel_rfl
theorem u65:prog.underlying 65=some (.slice 4):=by kernel_rfl
theorem aF9:mF prog 67=some (true,5):=by kernel_rfl
theorem V1:wT prog 67 0=some (0,3):=by kernel_rfl
theorem V2:lY prog 67 1=some (1,1):=by kernel_rfl
theorem V3:wT prog 67 1=some (1,3):=by kernel_rfl
theorem V4:wT prog 67 2=some (2,3):=by kernel_rfl
theorem V5:wT prog 67 3=some (3,64):=by kernel_rfl
theorem V6:wT prog 67 4=some (4,65):=by kernel_rfl
theorem vO:wJ prog 68=some true:=by kernel_rfl
theorem AL:nW prog 68=some 32:=by kernel_rfl
theorem CY:lZ prog 68 36 32 32:=lZ.of (by kernel_rfl) (by kernel_rfl) (by decide)
theorem yL:mF prog 68=some (false,1):=by kernel_rfl
theorem V7:nD prog 68=some 1:=by kernel_rfl
theorem EW:mF prog 70=some (true,3):=by kernel_rfl
theorem NC:nD prog 70=some 3:=by kernel_rfl
theorem ND:lY prog 70 2=some (2,1):=by kernel_rfl
theorem aGA:vL prog 70=some ([.string empty,.int .i64 0,.slice none 0 0],[(0,1),(1,1),(2,1)]):=by kernel_rfl
theorem KJ:sD prog 70=some [.string empty,.int .i64 0,.slice none 0 0]:=by kernel_rfl
theorem nM:mF prog 81=some (true,4):=by kernel_rfl
theorem NE:nD prog 81=some 4:=by kernel_rfl
theorem CZ:lY prog 81 0=some (0,1):=by kernel_rfl
theorem C0:lY prog 81 1=some (1,1):=by kernel_rfl
theorem NF:lY prog 81 2=some (2,1):=by kernel_rfl
theorem aAU:vL prog 81=some ([.int .i64 0,.int .i64 0,.int .i64 0,.int .i64 0],[(0,1),(1,1),(2,1),(3,1)]):=by kernel_rfl
theorem EX:sD prog 81=some [.int .i64 0,.int .i64 0,.int .i64 0,.int .i64 0]:=by kernel_rfl
theorem NG:lY prog 95 0=some (0,1):=by kernel_rfl
theorem V8:wT prog 95 0=some (0,9):=by kernel_rfl
theorem NH:lY prog 95 1=some (1,1):=by kernel_rfl
theorem V9:wT prog 95 1=some (1,41):=by kernel_rfl
theorem aGB:vL prog 95=some ([.string empty,.slice none 0 0],[(0,1),(1,1)]):=by kernel_rfl
theorem tD:mF prog 99=some (true,3):=by kernel_rfl
theorem EY:nD prog 99=some 3:=by kernel_rfl
theorem yM:lY prog 99 0=some (0,1):=by kernel_rfl
theorem HD:lY prog 99 1=some (1,1):=by kernel_rfl
theorem lN:lY prog 99 2=some (2,1):=by kernel_rfl
theorem aAV:vL prog 99=some ([.int .i64 0,.int .i64 0,.slice none 0 0],[(0,1),(1,1),(2,1)]):=by kernel_rfl
theorem qW:sD prog 99=some [.int .i64 0,.int .i64 0,.slice none 0 0]:=by kernel_rfl
theorem yN:prog.underlying 118=some (.map 3 117):=by kernel_rfl
theorem T9:wJ prog 129=some true:=by kernel_rfl
theorem BJ:nW prog 129=some 1:=by kernel_rfl
theorem BK:lZ prog 129 41 1 24:=lZ.of (by kernel_rfl) (by kernel_rfl) (by decide)
theorem UA:mF prog 161=some (false,1):=by kernel_rfl
theorem aAW:nD prog 161=some 1:=by kernel_rfl
theorem UB:prog.underlying 161=some (.map 3 4):=by kernel_rfl
theorem NI:prog.underlying 175=some (.map 9 4):=by kernel_rfl
theorem iR:mF prog 180=some (false,1):=by kernel_rfl
theorem NJ:nD prog 180=some 1:=by kernel_rfl
theorem aAX:wS prog 180=some .u32:=by kernel_rfl
theorem tE:IJ prog 181=some (64,1):=by kernel_rfl
theorem aAY:mF prog 181=some (true,64):=by kernel_rfl
theorem UC:nD prog 181=some 64:=by kernel_rfl
theorem WA:EM prog 181=some ((List.replicate 64 (.int .u32 0)), (range 64).map λi=>(i,1)):=by kernel_rfl
theorem NK:sD prog 181=some (List.replicate 64 (.int .u32 0)):=by kernel_rfl
theorem kL:IJ prog 183=some (8,1):=by kernel_rfl
theorem aAZ:mF prog 183=some (true,8):=by kernel_rfl
theorem NL:nD prog 183=some 8:=by kernel_rfl
theorem NM:EM prog 183=some ([.int .u32 0,.int .u32 0,.int .u32 0,.int .u32 0,.int .u32 0,.int .u32 0,.int .u32 0,.int .u32 0],[(0,1),(1,1),(2,1),(3,1),(4,1),(5,1),(6,1),(7,1)]):=by kernel_rfl
theorem UD:sD prog 183=some [.int .u32 0,.int .u32 0,.int .u32 0,.int .u32 0,.int .u32 0,.int .u32 0,.int .u32 0,.int .u32 0]:=by kernel_rfl
theorem mixed:prog.follows .mixedOrders=true:=by kernel_rfl
def tb:Tr TI:=.node 114 dS (.node 60 ⟨some (true,4),none,[0,1,3]⟩ (.node 33 dS (.node 18 ⟨some (true,1),none,[0]⟩ (.node 9 dS (.node 4 dS (.node 2 ⟨some (false,1),some .i64,[]⟩ (.node 1 dS .nil .nil) (.node 3 ⟨some (false,1),some .i64,[]⟩ .nil .nil)) (.node 7 ⟨some (true,4),none,[0,1,2,3]⟩ (.node 5 ⟨some (false,1),some .u8,[]⟩ .nil .nil) .nil)) (.node 15 dS (.node 13 ⟨some (true,2),none,[0,1]⟩ (.node 12 ⟨some (false,1),some .u64,[]⟩ .nil .nil) .nil) (.node 17 dS (.node 16 dS .nil .nil) .nil))) (.node 27 dS (.node 24 dS (.node 22 dS (.node 21 ⟨some (false,1),some .i32,[]⟩ .nil .nil) (.node 23 dS .nil .nil)) (.node 26 dS (.node 25 dS .nil .nil) .nil)) (.node 30 ⟨some (true,5),none,[0,1,2,3,4]⟩ (.node 29 ⟨some (true,5),none,[0,1,2,3,4]⟩ (.node 28 dS .nil .nil) .nil) (.node 32 dS (.node 31 dS .nil .nil) .nil)))) (.node 46 dS (.node 40 dS (.node 37 ⟨some (true,37),none,[0,1,33,34,35,36]⟩ (.node 35 dS (.node 34 dS .nil .nil) (.node 36 ⟨some (true,32),none,[]⟩ .nil .nil)) (.node 39 dS (.node 38 ⟨some (true,37),none,[0,1,33,34,35,36]⟩ .nil .nil) .nil)) (.node 43 ⟨some (true,35),none,[0,32,33,34]⟩ (.node 42 dS (.node 41 dS .nil .nil) .nil) (.node 45 dS (.node 44 ⟨some (true,35),none,[0,32,33,34]⟩ .nil .nil) .nil))) (.node 54 dS (.node 50 dS (.node 48 ⟨some (true,4),none,[0,1,2,3]⟩ (.node 47 dS .nil .nil) (.node 49 ⟨some (true,4),none,[0,1,2,3]⟩ .nil .nil)) (.node 52 ⟨some (false,1),some .i64,[]⟩ (.node 51 dS .nil .nil) .nil)) (.node 57 ⟨some (true,2),none,[0,1]⟩ (.node 56 dS (.node 55 dS .nil .nil) .nil) (.node 59 ⟨some (true,4),none,[0,1,3]⟩ (.node 58 ⟨some (true,2),none,[0,1]⟩ .nil .nil) .nil))))) (.node 88 dS (.node 73 dS (.node 67 ⟨some (true,5),none,[0,1,2,3,4]⟩ (.node 64 dS (.node 62 ⟨some (true,9),none,[0,1,5,6,7,8]⟩ (.node 61 ⟨some (true,9),none,[0,1,5,6,7,8]⟩ .nil .nil) (.node 63 ⟨some (false,1),some .u64,[]⟩ .nil .nil)) (.node 66 ⟨some (true,5),none,[0,1,2,3,4]⟩ (.node 65 dS .nil .nil) .nil)) (.node 70 ⟨some (true,3),none,[0,1,2]⟩ (.node 69 ⟨some (true,3),none,[0,1,2]⟩ (.node 68 dS .nil .nil) .nil) (.node 72 dS (.node 71 dS .nil .nil) .nil))) (.node 81 ⟨some (true,4),none,[0,1,2,3]⟩ (.node 78 dS (.node 75 dS (.node 74 dS .nil .nil) (.node 76 dS .nil .nil)) (.node 80 ⟨some (true,4),none,[0,1,2,3]⟩ (.node 79 dS .nil .nil) .nil)) (.node 85 dS (.node 84 dS (.node 82 dS .nil .nil) .nil) (.node 87 dS (.node 86 dS .nil .nil) .nil)))) (.node 101 dS (.node 95 ⟨some (true,2),none,[0,1]⟩ (.node 92 dS (.node 90 dS (.node 89 dS .nil .nil) (.node 91 dS .nil .nil)) (.node 94 ⟨some (true,2),none,[0,1]⟩ (.node 93 dS .nil .nil) .nil)) (.node 98 ⟨some (true,3),none,[0,1,2]⟩ (.node 97 dS (.node 96 dS .nil .nil) .nil) (.node 100 dS (.node 99 ⟨some (true,3),none,[0,1,2]⟩ .nil .nil) .nil))) (.node 108 dS (.node 105 dS (.node 103 dS (.node 102 dS .nil .nil) (.node 104 dS .nil .nil)) (.node 107 dS (.node 106 dS .nil .nil) .nil)) (.node 111 dS (.node 110 dS (.node 109 dS .nil .nil) .nil) (.node 113 dS (.node 112 dS .nil .nil) .nil)))))) (.node 172 dS (.node 144 dS (.node 129 dS (.node 122 dS (.node 118 dS (.node 116 dS (.node 115 dS .nil .nil) (.node 117 dS .nil .nil)) (.node 121 dS (.node 120 dS .nil .nil) .nil)) (.node 125 dS (.node 124 dS (.node 123 dS .nil .nil) .nil) (.node 128 dS (.node 126 dS .nil .nil) .nil))) (.node 137 dS (.node 134 dS (.node 132 dS (.node 131 dS .nil .nil) (.node 133 dS .nil .nil)) (.node 136 dS (.node 135 dS .nil .nil) .nil)) (.node 140 dS (.node 139 dS (.node 138 dS .nil .nil) .nil) (.node 142 dS (.node 141 dS .nil .nil) .nil)))) (.node 159 dS (.node 152 dS (.node 149 dS (.node 146 dS (.node 145 dS .nil .nil) (.node 147 dS .nil .nil)) (.node 151 dS (.node 150 dS .nil .nil) .nil)) (.node 156 dS (.node 155 dS (.node 154 dS .nil .nil) .nil) (.node 158 dS (.node 157 dS .nil .nil) .nil))) (.node 166 dS (.node 163 dS (.node 161 dS (.node 160 dS .nil .nil) (.node 162 dS .nil .nil)) (.node 165 dS (.node 164 dS .nil .nil) .nil)) (.node 169 dS (.node 168 dS (.node 167 dS .nil .nil) .nil) (.node 171 dS (.node 170 dS .nil .nil) .nil))))) (.node 198 dS (.node 185 dS (.node 179 dS (.node 176 dS (.node 174 dS (.node 173 dS .nil .nil) (.node 175 dS .nil .nil)) (.node 178 dS (.node 177 dS .nil .nil) .nil)) (.node 182 dS (.node 181 ⟨some (true,64),none,[]⟩ (.node 180 ⟨some (false,1),some .u32,[]⟩ .nil .nil) .nil) (.node 184 dS (.node 183 ⟨some (true,8),none,[]⟩ .nil .nil) .nil))) (.node 192 dS (.node 189 dS (.node 187 dS (.node 186 dS .nil .nil) (.node 188 dS .nil .nil)) (.node 191 dS (.node 190 dS .nil .nil) .nil)) (.node 195 dS (.node 194 dS (.node 193 dS .nil .nil) .nil) (.node 197 dS (.node 196 dS .nil .nil) .nil)))) (.node 211 dS (.node 205 dS (.node 202 dS (.node 200 dS (.node 199 dS .nil .nil) (.node 201 dS .nil .nil)) (.node 204 dS (.node 203 dS .nil .nil) .nil)) (.node 208 dS (.node 207 ⟨some (false,1),some .u64,[]⟩ (.node 206 dS .nil .nil) .nil) (.node 210 dS (.node 209 dS .nil .nil) .nil))) (.node 218 ⟨some (true,0),none,[]⟩ (.node 214 dS (.node 213 dS (.node 212 dS .nil .nil) .nil) (.node 216 ⟨some (true,4),none,[0,1,2,3]⟩ (.node 215 dS .nil .nil) .nil)) (.node 224 dS (.node 221 dS (.node 219 ⟨some (true,0),none,[]⟩ .nil .nil) .nil) (.node 228 ⟨some (true,11),none,[0,1,2,3,4,5,6,7,8,9,10]⟩ (.node 225 dS .nil .nil) .nil))))))
theorem YS:EO prog tb:=by unfold EO; kernel_rfl
section
variable {h:aF} {n:Nat} {c:Code} {kn:FR->HL->Prop} {ke:Exit->FR->HL->Prop} {f:FR} {L:HL} {id:Nat} {l:List Oper}
theorem v (k:vc tb false prog h n c kn ke f L):VC prog h n c kn ke f L:=vcS YS c k
theorem v0 (k:vc tb true prog h n c kn ke f L):VC prog h n c kn ke f L:=vcS YS c k
theorem vq (h2:EH 0 (l.map (wV l.toArray))=true) (k:vo true tb false prog h n l kn l f L):VD prog h n id l.toArray kn f L:=vqT YS mixed h2 k
theorem BL (h2:EH 0 (l.map (wV l.toArray))=true) (k:vo true tb true prog h n l kn l f L):VD prog h n id l.toArray kn f L:=vqT YS mixed h2 k
end
abbrev BM:=(List aI)×(List aB)×(List aQ)
abbrev fD:=(List aI)×(List aB)×(List aQ)×(List aR)
abbrev dM (g:cY) (e:List aI):Option bX×jC:=(g.t,.obj 60 (fl bQ e g.sp))
abbrev cD (g:cY) (e:List aB):Option bX×jC:=(g.t,.obj 44 (fl aK e g.sp))
abbrev eW (g:cY) (e:List aQ):Option bX×jC:=(g.t,.obj 99 (fl cE e g.sp))
abbrev lO (g:cY) (e:List aR):Option bX×jC:=(g.t,.obj 49 (fl dN e g.sp))
abbrev dO (g:cY) (e:List aS):Option bX×jC:=(g.t,.obj 81 (fl aO e g.sp))
abbrev hO (k:bX) (q:Int) (a b c d:cY):Option bX×jC:=(some k,.obj 30 [nZ q,aZ a,aZ b,aZ c,aZ d])
abbrev hL (k:bX) (q:Int) (a b c d:cY) (s:List aI) (t:List aB) (u:List aQ) (v:List aR):HL:=[hO k q a b c d,dM a s,cD b t,eW c u,lO d v]
abbrev hC (k:bX) (x:aA) (a b c d:cY):HL:=hL k x.Seq a b c d x.Snaps x.Chunks x.Exps x.Vols
def AB (m:Nat) (p0:Int) (p1:Int) (p2:Int):Option (Bool):=
 after (if decide (p1<=p0) then (Bk (decide (p0<=p2))) else Bk false:Option (Lp (Bool) (Bool))) λj4=>some j4
theorem D2 {u:Nat} {p0:Int} {p1:Int} {p2:Int} {o:Bool} (h:aF) (m:AB u p0 p1 p2=some o):
 aM prog 57 [nZ p0,nZ p1,nZ p2] h (λr h'=>r= .sc (.bool o)/\h'=h):=by
 refine fM 15 [.tmp 6] Tryz.func57 rfl rfl rfl rfl ?_
 unfold AB at m
 refine v (vs (fP m (σ:=Bool) (λs=>[]) (λs=>.c 6 (.sc (.bool s)) .nil) (λx m=> ?_) ?_))
 refine v ?_
 apply vi m<;>intro b5 m
 rw[b5]
 exact nI m
 rw[b5]
 exact nI m
 rintro _ j4 m
 refine v ?_
 obtain rfl:=eT m
 exact eI rfl
theorem pQ:aP prog 57=true:=by kernel_rfl
def yO (m:Nat) (p0:List aR) (q0:Int):Option (Lp (Int) (Bool)):=
 if decide (q0 < (p0.length:Int)) then ((ix p0 q0).bind λx0=>after (if (x0.State==2)then ((AB m x0.Files 1 65535).bind λy0=>Bk y0) else Bk false:Option (Lp (Bool) (Lp (Int) (Bool)))) λj0=>after (if (x0.State==1)then (Bk (x0.Files==0)) else if (x0.State==3)then (Bk (x0.Files==0)) else Bk false:Option (Lp (Bool) (Lp (Int) (Bool)))) λj1=>after ((AB m x0.Pool 0 1).bind λy1=>if (!y1)then Bk true else (AB m x0.Epoch 0 1048576).bind λy2=>if (!y2)then Bk true else if (!j0)then (Bk (!j1)) else Bk false:Option (Lp (Bool) (Lp (Int) (Bool)))) λj2=>if j2 then Rk false else Gk (wrap .i64 (q0+1))) else Bk q0
def M78 (m:Nat) (p0:List aR):Option (Bool):=
 after (aT (λs=>yO m p0 s) m 0) λr0=>(AB m (p0.length:Int) 1 8).bind λy0=>some y0
theorem W78 {w:Nat} {p0:List aR} {o:Bool} (h:aF) (m:M78 w p0=some o):
 aM prog 78 [.sl none 4 (map dN p0)] h (λr h'=>r= .sc (.bool o)/\h'=h):=by
 refine fM 56 [.tmp 2] Tryz.func78 rfl rfl rfl rfl ?_
 unfold M78 at m
 refine v (v (dI pM rfl (jT m (σ:=Int) (λs=>[]) (λs=>.c 0 (.sl none 4 (map dN p0)) (.c 7 (.sl none 4 (map dN p0)) (.c 8 (nZ (p0.length:Int)) (.c 9 (nZ s) .nil)))) (lx (.k4 .nil)) ?_ ?_)))
 rintro _ q0 x m
 replace m:yO w p0 q0=some x:=m
 unfold yO at m
 refine v (v ?_)
 apply vi m<;>intro c0 m
 refine v (v (v (vx m kZ rfl rfl λx0 _ m=>va (.agg (dN x0)) aAN rfl rfl (ve λu=>bE (J1) u RS rfl rfl λk105 K0=>qk K0 rfl (ve λu=>aL 0 (dN x0) u rfl rfl rfl rfl aAO rfl rfl λK1=>qk K1 rfl (vs (fP m (σ:=Bool) (λs=>[(some k105,.obj 49 (dN x0))]) (λs=>.c 0 (.sl none 4 (map dN p0)) (.c 4 (.ptr k105 0) (.c 5 (.sc (.bool s)) (.c 7 (.sl none 4 (map dN p0)) (.c 8 (nZ (p0.length:Int)) (.c 9 (nZ q0) .nil)))))) (λx m=> ?_) ?_)))))))
 refine v (vl 0 _ cG rfl rfl rfl ?_)
 apply vi m<;>intro b0 m
 rw[b0]
 exact vl 0 _ cG rfl rfl rfl (vk D2 pQ m rfl rfl λ_ m=>nF m)
 rw[b0]
 exact nF m
 rintro _ j0 m
 refine vs (fP m (σ:=Bool) (λs=>[(some k105,.obj 49 (dN x0))]) (λs=>.c 0 (.sl none 4 (map dN p0)) (.c 4 (.ptr k105 0) (.c 5 (.sc (.bool j0)) (.c 6 (.sc (.bool s)) (.c 7 (.sl none 4 (map dN p0)) (.c 8 (nZ (p0.length:Int)) (.c 9 (nZ q0) .nil))))))) (λx m=> ?_) ?_)
 refine v (vl 0 _ cG rfl rfl rfl ?_)
 apply vi m<;>intro b1 m
 rw[b1]
 exact vl 0 _ cG rfl rfl rfl (CR m)
 rw[b1]
 refine vl 0 _ cG rfl rfl rfl ?_
 apply vi m<;>intro b2 m
 rw[b2]
 exact vl 0 _ cG rfl rfl rfl (CR m)
 rw[b2]
 exact CR m
 rintro _ j1 m
 refine vs (fP m (σ:=Bool) (λs=>[(some k105,.obj 49 (dN x0))]) (λs=>.c 0 (.sl none 4 (map dN p0)) (.c 7 (.sl none 4 (map dN p0)) (.c 8 (nZ (p0.length:Int)) (.c 9 (nZ q0) (.c 51 (.sc (.bool s)) .nil))))) (λx m=> ?_) ?_)
 refine v (vl 0 _ cG rfl rfl rfl (vk D2 pQ m rfl rfl λ_ m=> ?_))
 apply vi m<;>intro b3 m
 rw[b3]
 exact lE m
 rw[b3]
 refine vl 0 _ cG rfl rfl rfl (vk D2 pQ m rfl rfl λ_ m=> ?_)
 apply vi m<;>intro b4 m
 rw[b4]
 exact lE m
 rw[b4]
 apply vi m<;>intro b5 m
 rw[b5]
 exact lE m
 rw[b5]
 exact lE m
 rintro _ j2 m
 refine v ?_
 apply vi m<;>intro c1 m
 refine v (v (gM m λm=> ?_))
 obtain rfl:=eT m
 exact eI rfl
 exact v (v (z8 m (mG [] rfl rfl (.k4 .nil))))
 exact v (u0 m)
 rintro _ r0 m
 refine v (dI pM rfl (vk D2 pQ m rfl rfl λ_ m=>v ?_))
 obtain rfl:=eT m
 exact eI rfl
theorem aGC:aP prog 78=true:=by kernel_rfl
def NN (m:Nat) (p0:aS) (p1:aS):Option (Bool):=
 if (p0.Vol !=p1.Vol)then (some (decide (p1.Vol < p0.Vol))) else if (p0.File !=p1.File)then (some (decide (p1.File < p0.File))) else some (decide (p1.Off < p0.Off))
theorem aGD {u:Nat} {p0:aS} {p1:aS} {o:Bool} (h:aF) (m:NN u p0 p1=some o):
 aM prog 183 [.agg (aO p0),.agg (aO p1)] h (λr h'=>r= .sc (.bool o)/\h'=h):=by
 refine fM 32 [.tmp 4] Tryz.func183 rfl rfl rfl rfl ?_
 unfold NN at m
 refine v (gX rfl rfl λk2 K3=>gX rfl rfl λk5 K6=>v (v (vl 1 _ cG rfl rfl rfl (vl 0 _ cG rfl rfl rfl (v ?_)))))
 apply vi m<;>intro c0 m
 refine v (vl 1 _ cG rfl rfl rfl (vl 0 _ cG rfl rfl rfl (v ?_)))
 cases m
 exact eI rfl
 refine v (vl 1 _ cG rfl rfl rfl (vl 0 _ cG rfl rfl rfl (v ?_)))
 apply vi m<;>intro c1 m
 refine v (vl 1 _ cG rfl rfl rfl (vl 0 _ cG rfl rfl rfl (v ?_)))
 cases m
 exact eI rfl
 refine v (v (vl 1 _ cG rfl rfl rfl (vl 0 _ cG rfl rfl rfl (v ?_))))
 cases m
 exact eI rfl
theorem aA1:aP prog 183=true:=by kernel_rfl
def tF (m:Nat) (p0:aA) (p1:List aS) (q0:Int):Option (Lp (Int) (Bool)):=
 if decide (q0 < (p1.length:Int)) then ((ix p1 q0).bind λx0=>after ((AB m x0.Vol 0 (wrap .i64 ((p0.Vols.length:Int) - 1))).bind λy0=>if (!y0)then Bk true else (ix p0.Vols x0.Vol).bind λx1=>if (x1.State !=2)then Bk true else (ix p0.Vols x0.Vol).bind λx2=>(AB m x0.File 1 x2.Files).bind λy1=>if (!y1)then Bk true else (AB m x0.Off 0 16777215).bind λy2=>if (!y2)then Bk true else (AB m x0.Len 13 8013).bind λy3=>if (!y3)then Bk true else if decide (0 < q0) then ((ix p1 (wrap .i64 (q0 - 1))).bind λx3=>(NN m x0 x3).bind λy4=>Bk (!y4)) else Bk false:Option (Lp (Bool) (Lp (Int) (Bool)))) λj0=>if j0 then Rk false else Gk (wrap .i64 (q0+1))) else Bk q0
def AM (m:Nat) (p0:aA) (p1:List aS):Option (Bool):=
 if decide (200 < (p1.length:Int)) then (some false) else after (aT (λs=>tF m p0 p1 s) m 0) λr0=>some true
theorem KK {w:Nat} {p0:aA} {p1:List aS} {o:Bool} (h:aF) (m:AM w p0 p1=some o):
 aM prog 137 [.agg (aD p0),.sl none 4 (map aO p1)] h (λr h'=>r= .sc (.bool o)/\h'=h):=by
 refine fM 75 [.tmp 4] Tryz.func137 rfl rfl rfl rfl ?_
 unfold AM at m
 refine v (gX rfl rfl λk2 K3=>v (dI kC rfl (v ?_)))
 apply vi m<;>intro c7 m
 refine v (v ?_)
 obtain rfl:=eT m
 exact eI rfl
 refine v (v (dI kC rfl (jT m (σ:=Int) (λs=>[(some k2,.obj 30 (aD p0))]) (λs=>.c 1 (.sl none 4 (map aO p1)) (.c 2 (.ptr k2 0) (.c 10 (.sl none 4 (map aO p1)) (.c 11 (nZ (p1.length:Int)) (.c 12 (nZ s) .nil))))) (lx (.k5 .nil)) ?_ ?_)))
 rintro _ q0 x m
 replace m:tF w p0 p1 q0=some x:=m
 unfold tF at m
 refine v (v ?_)
 apply vi m<;>intro c0 m
 refine v (v (v (vx m jH rfl rfl λx0 _ m=>va (.agg (aO x0)) nM rfl rfl (ve λu=>bE (J1) u EX rfl rfl λk140 K0=>qk K0 rfl (ve λu=>aL 0 (aO x0) u rfl rfl rfl rfl NE rfl rfl λK1=>qk K1 rfl (vs (fP m (σ:=Bool) (λs=>[(some k140,.obj 81 (aO x0)),(some k2,.obj 30 (aD p0))]) (λs=>.c 1 (.sl none 4 (map aO p1)) (.c 2 (.ptr k2 0) (.c 10 (.sl none 4 (map aO p1)) (.c 11 (nZ (p1.length:Int)) (.c 12 (nZ q0) (.c 73 (.sc (.bool s)) .nil)))))) (λx m=> ?_) ?_)))))))
 refine v (vq (by kernel_rfl) (vl 0 _ cG rfl rfl rfl (vl 1 _ gH rfl rfl rfl (dI pM rfl (vk D2 pQ m rfl rfl λ_ m=> ?_)))))
 apply vi m<;>intro b0 m
 rw[b0]
 exact nF m
 rw[b0]
 refine vl 1 _ gH rfl rfl rfl (vl 0 _ cG rfl rfl rfl (vx m kZ rfl rfl λ_ _ m=> ?_))
 apply vi m<;>intro b1 m
 rw[b1]
 exact nF m
 rw[b1]
 refine vl 0 _ cG rfl rfl rfl (vl 1 _ gH rfl rfl rfl (vl 0 _ cG rfl rfl rfl (vx m kZ rfl rfl λ_ _ m=>vk D2 pQ m rfl rfl λ_ m=> ?_)))
 apply vi m<;>intro b2 m
 rw[b2]
 exact nF m
 rw[b2]
 refine vl 0 _ cG rfl rfl rfl (vk D2 pQ m rfl rfl λ_ m=> ?_)
 apply vi m<;>intro b3 m
 rw[b3]
 exact nF m
 rw[b3]
 refine vl 0 _ cG rfl rfl rfl (vk D2 pQ m rfl rfl λ_ m=> ?_)
 apply vi m<;>intro b4 m
 rw[b4]
 exact nF m
 rw[b4]
 apply vi m<;>intro b5 m
 rw[b5]
 exact vl 0 (.agg (aO x0)) nM rfl rfl rfl (vx m jH rfl rfl λx1 _ m=>va (.agg (aO x1)) nM rfl rfl (vk aGD aA1 m rfl rfl λ_ m=>nF m))
 rw[b5]
 exact nF m
 rintro _ j0 m
 refine v ?_
 apply vi m<;>intro c1 m
 refine v (v (gM m λm=> ?_))
 obtain rfl:=eT m
 exact eI rfl
 exact v (v (z8 m (mG [1] rfl rfl (.k5 .nil))))
 exact v (YR m)
 rintro _ r0 m
 refine v (v ?_)
 obtain rfl:=eT m
 exact eI rfl
theorem BN:aP prog 137=true:=by kernel_rfl
def tG (m:Nat) (p0:ByteArray) (q0:Int):Option (Lp (Int) (Bool)):=
 if decide (q0 < (p0.size:Int)) then (after ((RG p0 q0).bind λx0=>if decide (x0 < 33) then Bk true else (RG p0 q0).bind λx1=>Bk (decide (126 < x1)):Option (Lp (Bool) (Lp (Int) (Bool)))) λj0=>if j0 then Rk false else Gk (wrap .i64 (q0+1))) else Bk q0
def KL (m:Nat) (p0:ByteArray):Option (Bool):=
 after (if decide ((p0.size:Int) < 1) then Bk true else Bk (decide (20 < (p0.size:Int))):Option (Lp (Bool) (Bool))) λj5=>if j5 then (some false) else after (aT (λs=>tG m p0 s) m 0) λr0=>some true
theorem aA2 {u:Nat} {p0:ByteArray} {o:Bool} (h:aF) (m:KL u p0=some o):
 aM prog 164 [.sc (.string p0)] h (λr h'=>r= .sc (.bool o)/\h'=h):=by
 refine fM 28 [.tmp 2] Tryz.func164 rfl rfl rfl rfl ?_
 unfold KL at m
 refine v (vs (vs (fP m (σ:=Bool) (λs=>[]) (λs=>.c 0 (.sc (.string p0)) (.c 11 (.sc (.bool s)) .nil)) (λx m=> ?_) ?_)))
 refine v (bV (rL VS rfl) ?_)
 apply vi m<;>intro b6 m
 rw[b6]
 exact w7 m
 rw[b6]
 exact bV (rL VS rfl) (w7 m)
 rintro _ j5 m
 refine v ?_
 apply vi m<;>intro c8 m
 refine v (v ?_)
 obtain rfl:=eT m
 exact eI rfl
 refine v (v (bV (rL VS rfl) (jT m (σ:=Int) (λs=>[]) (λs=>.c 0 (.sc (.string p0)) (.c 13 (nZ (p0.size:Int)) (.c 14 (nZ s) .nil))) (lx (.k3 .nil)) ?_ ?_)))
 rintro _ q0 x m
 replace m:tG u p0 q0=some x:=m
 unfold tG at m
 refine v (v ?_)
 apply vi m<;>intro c0 m
 refine v (v (v (vs (fP m (σ:=Bool) (λs=>[]) (λs=>.c 0 (.sc (.string p0)) (.c 13 (nZ (p0.size:Int)) (.c 14 (nZ q0) (.c 26 (.sc (.bool s)) .nil)))) (λx m=> ?_) ?_))))
 refine v ?_
 obtain⟨_,X0,m⟩:=aC m
 refine bV (IM X0 u9 rfl rfl) ?_
 apply vi m<;>intro b0 m
 rw[b0]
 exact fV m
 rw[b0]
 obtain⟨_,X1,m⟩:=aC m
 exact bV (IM X1 u9 rfl rfl) (fV m)
 rintro _ j0 m
 refine v ?_
 apply vi m<;>intro c1 m
 refine v (v (gM m λm=> ?_))
 obtain rfl:=eT m
 exact eI rfl
 exact v (v (hX m))
 exact v (G7 m)
 rintro _ r0 m
 refine v (v ?_)
 obtain rfl:=eT m
 exact eI rfl
theorem UE:aP prog 164=true:=by kernel_rfl
def NO (m:Nat) (p0:dF):Option (Bool):=
 after ((KL m p0.Path).bind λy0=>if y0 then (if decide (0<=p0.Size) then (if decide (p0.Size<=200) then (if decide ((p0.Ids.length:Int)<=25) then (Bk (((p0.Ids.length:Int)==0)==(p0.Size==0))) else Bk false) else Bk false) else Bk false) else Bk false:Option (Lp (Bool) (Bool))) λj0=>some j0
theorem aGE {u:Nat} {p0:dF} {o:Bool} (h:aF) (m:NO u p0=some o):
 aM prog 165 [.agg (cC p0)] h (λr h'=>r= .sc (.bool o)/\h'=h):=by
 refine fM 32 [.tmp 2] Tryz.func165 rfl rfl rfl rfl ?_
 unfold NO at m
 refine v (gX rfl rfl λk2 K3=>vs (fP m (σ:=Bool) (λs=>[(some k2,.obj 70 (cC p0))]) (λs=>.c 2 (.sc (.bool s)) .nil) (λx m=> ?_) ?_))
 refine v (vl 0 _ IT rfl rfl rfl (vk aA2 UE m rfl rfl λ_ m=> ?_))
 apply vi m<;>intro b0 m
 rw[b0]
 refine vl 0 _ cG rfl rfl rfl ?_
 apply vi m<;>intro b1 m
 rw[b1]
 refine vl 0 _ cG rfl rfl rfl ?_
 apply vi m<;>intro b2 m
 rw[b2]
 refine vl 0 _ yL rfl rfl rfl (dI vO rfl ?_)
 apply vi m<;>intro b3 m
 rw[b3]
 exact vl 0 _ yL rfl rfl rfl (dI vO rfl (vl 0 _ cG rfl rfl rfl (bV (U9 u4 rfl rfl rfl) (nI m))))
 rw[b3]
 exact nI m
 rw[b2]
 exact nI m
 rw[b1]
 exact nI m
 rw[b0]
 exact nI m
 rintro _ j0 m
 refine v ?_
 obtain rfl:=eT m
 exact eI rfl
theorem aA3:aP prog 165=true:=by kernel_rfl
def tH (m:Nat) (p0:bG) (q0:Int):Option (Lp (Int) (Int)):=
 if decide (q0 < (p0.Parts.length:Int)) then ((ix p0.Parts q0).bind λx0=>after ((NO m x0).bind λy0=>if (!y0)then Bk true else if decide (0 < q0) then ((ix p0.Parts (wrap .i64 (q0 - 1))).bind λx1=>Bk (Op.bytesLess x0.Path.toList x1.Path.toList || x0.Path.toList==x1.Path.toList)) else Bk false:Option (Lp (Bool) (Lp (Int) (Int)))) λj0=>if j0 then Rk 1 else Gk (wrap .i64 (q0+1))) else Bk q0
def KM (m:Nat) (p0:bG):Option (Int):=
 after ((KL m p0.Name).bind λy0=>if (!y0)then Bk true else Bk (decide (6 < (p0.Parts.length:Int))):Option (Lp (Bool) (Int))) λj0=>if j0 then (some 1) else after (aT (λs=>tH m p0 s) m 0) λr0=>some 0
theorem aA4 {w:Nat} {p0:bG} {o:Int} (h:aF) (m:KM w p0=some o):
 aM prog 100 [.agg (bP p0)] h (λr h'=>r=nZ o/\h'=h):=by
 refine fM 43 [.tmp 2] Tryz.func100 rfl rfl rfl rfl ?_
 unfold KM at m
 refine v (gX rfl rfl λk2 K3=>vs (vs (fP m (σ:=Bool) (λs=>[(some k2,.obj 58 (bP p0))]) (λs=>.c 1 (.ptr k2 0) (.c 14 (.sc (.bool s)) .nil)) (λx m=> ?_) ?_)))
 refine v (vl 0 _ IT rfl rfl rfl (vk aA2 UE m rfl rfl λ_ m=> ?_))
 apply vi m<;>intro b0 m
 rw[b0]
 exact w7 m
 rw[b0]
 exact vl 0 _ oW rfl rfl rfl (dI AH rfl (w7 m))
 rintro _ j0 m
 refine v ?_
 apply vi m<;>intro c0 m
 refine v (v ?_)
 obtain rfl:=eT m
 exact eI rfl
 refine v (v (vl 0 _ oW rfl rfl rfl (dI AH rfl (jT m (σ:=Int) (λs=>[(some k2,.obj 58 (bP p0))]) (λs=>.c 1 (.ptr k2 0) (.c 16 (.sl none 3 (map cC p0.Parts)) (.c 17 (nZ (p0.Parts.length:Int)) (.c 18 (nZ s) .nil)))) (lx (.k4 .nil)) ?_ ?_))))
 rintro _ q0 x m
 replace m:tH w p0 q0=some x:=m
 unfold tH at m
 refine v (v ?_)
 apply vi m<;>intro c1 m
 refine v (v (v (vx m tA rfl rfl λx0 _ m=>va (.agg (cC x0)) EW rfl rfl (ve λu=>bE (ZL) u KJ rfl rfl λk84 K0=>qk K0 rfl (ve λu=>aL 0 (cC x0) u rfl rfl rfl rfl NC rfl rfl λK1=>qk K1 rfl (vs (fP m (σ:=Bool) (λs=>[(some k84,.obj 70 (cC x0)),(some k2,.obj 58 (bP p0))]) (λs=>.c 1 (.ptr k2 0) (.c 16 (.sl none 3 (map cC p0.Parts)) (.c 17 (nZ (p0.Parts.length:Int)) (.c 18 (nZ q0) (.c 41 (.sc (.bool s)) .nil))))) (λx m=> ?_) ?_)))))))
 refine v (vq (by kernel_rfl) (vl 0 (.agg (cC x0)) EW rfl rfl rfl (vk aGE aA3 m rfl rfl λ_ m=> ?_)))
 apply vi m<;>intro b1 m
 rw[b1]
 exact lE m
 rw[b1]
 apply vi m<;>intro b2 m
 rw[b2]
 exact vl 0 _ IT rfl rfl rfl (vl 1 _ oW rfl rfl rfl (vx m tA rfl rfl λ_ _ m=>bV (GT rfl rfl rfl trivial) (lE m)))
 rw[b2]
 exact lE m
 rintro _ j1 m
 refine v ?_
 apply vi m<;>intro c2 m
 refine v (v (gM m λm=> ?_))
 obtain rfl:=eT m
 exact eI rfl
 exact v (v (z8 m (mG [1] rfl rfl (.k4 .nil))))
 exact v (u0 m)
 rintro _ r0 m
 refine v (v ?_)
 obtain rfl:=eT m
 exact eI rfl
theorem UF:aP prog 100=true:=by kernel_rfl
def tI (m:Nat) (p0:List aB) (p1:bK) (p2:aB->bK->Option Int) (q0:Int) (q1:Int):Option (Lp (Int×Int) (Int×Bool)):=
 if decide (q0 < q1) then ((ix p0 (wrap .i64 ((wrap .u64 (wrap .i64 (q0+q1))).fdiv (2 ^ (min (1:Int).toNat (IntKind.bits .u64)))))).bind λx0=>(p2 x0 p1).bind λy0=>after (if decide (y0 < 0) then (Bk (wrap .i64 ((wrap .i64 ((wrap .u64 (wrap .i64 (q0+q1))).fdiv (2 ^ (min (1:Int).toNat (IntKind.bits .u64)))))+1),q1)) else Bk (q0,wrap .i64 ((wrap .u64 (wrap .i64 (q0+q1))).fdiv (2 ^ (min (1:Int).toNat (IntKind.bits .u64))))):Option (Lp (Int×Int) (Lp (Int×Int) (Int×Bool)))) λ⟨j0,j1⟩=>Gk (j0,j1)) else Bk (q0,q1)
def NP (m:Nat) (p0:List aB) (p1:bK) (p2:aB->bK->Option Int):Option (Int×Bool):=
 after (aT (λs=>tI m p0 p1 p2 s.1 s.2) m (0,(p0.length:Int))) λ⟨r0,r1⟩=>after (if decide (r0 < (p0.length:Int)) then ((ix p0 r0).bind λx0=>(p2 x0 p1).bind λy0=>Bk (r0,(y0==0))) else Bk (r0,false):Option (Lp (Int×Bool) (Int×Bool))) λ⟨j0,j1⟩=>some (j0,j1)
theorem aGF {w:Nat} {p0:List aB} {p1:bK} {p2:aB->bK->Option Int} {o:Int×Bool} (h:aF) {p2F:Nat} {p2C:List AV} (p2B:aP prog p2F=true) (p2H:∀x0 x1 o h0,iG h h0->p2 x0 x1=some o->aM prog p2F ([.agg (aK x0),.agg (bF x1)]++p2C) h0 (λr h'=>r=nZ o/\h'=h0)) (m:NP w p0 p1 p2=some o):
 aM prog 171 [.sl none 35 (map aK p0),.agg (bF p1),.fn (.func p2F) p2C] h (λr h'=>r= .tup [nZ o.1,.sc (.bool o.2)]/\h'=h):=by
 refine fM 49 [.tmp 6,.tmp 7] Tryz.func171 rfl rfl rfl rfl ?_
 unfold NP at m
 refine v (gX rfl rfl λk2 K3=>v (dI kY rfl (v (vs (jT m (σ:=Int×Int) (λs=>[(some k2,.obj 36 (bF p1))]) (λs=>.c 0 (.sl none 35 (map aK p0)) (.c 2 (.fn (.func p2F) p2C) (.c 4 (.ptr k2 0) (.c 8 (nZ (p0.length:Int)) (.c 9 (nZ s.1) (.c 10 (nZ s.2) .nil)))))) (lx (.k6 .nil)) ?_ ?_)))))
 rintro _ ⟨q0,q1⟩ x m
 replace m:tI w p0 p1 p2 q0 q1=some x:=m
 unfold tI at m
 refine v (v ?_)
 apply vi m<;>intro c0 m
 refine v (v (v (v (vq (by kernel_rfl) (vx m fZ rfl rfl λx2 _ m=>va (.agg (aK x2)) nL rfl rfl (vl 0 (.agg (bF p1)) fF rfl rfl rfl ?_))))))
 obtain⟨_,Y0,m⟩:=aC m
 refine vn (λu=>bW (p2H _ _ _ _ (aU (nil_sublist _) u).1 Y0) rfl p2B rfl) (fP m (σ:=Int×Int) (λs=>[(some k2,.obj 36 (bF p1))]) (λs=>.c 0 (.sl none 35 (map aK p0)) (.c 2 (.fn (.func p2F) p2C) (.c 4 (.ptr k2 0) (.c 8 (nZ (p0.length:Int)) (.c 9 (nZ s.1) (.c 10 (nZ s.2) .nil)))))) (λx m=> ?_) ?_)
 refine v ?_
 apply vi m<;>intro c1 m
 exact v (nF m)
 exact v (nF m)
 rintro _ ⟨j0,j1⟩ m
 exact nF m
 exact v (bq6 m)
 rintro _ ⟨r0,r1⟩ m
 refine vs (fP m (σ:=Int×Bool) (λs=>[(some k2,.obj 36 (bF p1))]) (λs=>.c 6 (nZ s.1) (.c 7 (.sc (.bool s.2)) .nil)) (λx m=> ?_) ?_)
 refine v (vq (by kernel_rfl) ?_)
 apply vi m<;>intro b0 m
 rw[b0]
 refine vx m fZ rfl rfl λx3 _ m=>va (.agg (aK x3)) nL rfl rfl (vl 0 (.agg (bF p1)) fF rfl rfl rfl ?_)
 obtain⟨_,Y1,m⟩:=aC m
 exact vn (λu=>bW (p2H _ _ _ _ (aU (nil_sublist _) u).1 Y1) rfl p2B rfl) (w7 m)
 rw[b0]
 exact w7 m
 rintro _ ⟨j2,j3⟩ m
 refine v ?_
 cases m
 exact vr2 rfl rfl
theorem aA5:aP prog 171=true:=by kernel_rfl
def tJ (m:Nat) (p0:List aI) (p1:aI->Option Bool) (q0:Int):Option (Lp (Int) (Int)):=
 if decide (q0 < (p0.length:Int)) then ((ix p0 q0).bind λx0=>(p1 x0).bind λy0=>if y0 then Rk q0 else Gk (wrap .i64 (q0+1))) else Bk q0
def RX (m:Nat) (p0:List aI) (p1:aI->Option Bool):Option (Int):=
 after (aT (λs=>tJ m p0 p1 s) m 0) λr0=>some (-1)
theorem aGG {w:Nat} {p0:List aI} {p1:aI->Option Bool} {o:Int} (h:aF) {p1F:Nat} {p1C:List AV} (p1B:aP prog p1F=true) (p1H:∀x0 o h0,iG h h0->p1 x0=some o->aM prog p1F ([.agg (bQ x0)]++p1C) h0 (λr h'=>r= .sc (.bool o)/\h'=h0)) (m:RX w p0 p1=some o):
 aM prog 103 [.sl none 4 (map bQ p0),.fn (.func p1F) p1C] h (λr h'=>r=nZ o/\h'=h):=by
 refine fM 19 [.tmp 4] Tryz.func103 rfl rfl rfl rfl ?_
 unfold RX at m
 refine v (v (dI kN rfl (jT m (σ:=Int) (λs=>[]) (λs=>.c 0 (.sl none 4 (map bQ p0)) (.c 1 (.fn (.func p1F) p1C) (.c 7 (nZ (p0.length:Int)) (.c 8 (nZ s) .nil)))) (lx (.k4 .nil)) ?_ ?_)))
 rintro _ q0 x m
 replace m:tJ w p0 p1 q0=some x:=m
 unfold tJ at m
 refine v (v ?_)
 apply vi m<;>intro c0 m
 refine v (v (v (v (vx m jG rfl rfl λx1 _ m=>va (.agg (bQ x1)) tB rfl rfl ?_))))
 obtain⟨_,Y0,m⟩:=aC m
 refine vn (λu=>bW (p1H _ _ _ (aU (nil_sublist _) u).1 Y0) rfl p1B rfl) (v ?_)
 apply vi m<;>intro c1 m
 refine v (v (gM m λm=> ?_))
 obtain rfl:=eT m
 exact eI rfl
 exact v (v (fV m))
 exact v (u0 m)
 rintro _ r0 m
 refine v (v ?_)
 cases m
 exact eI rfl
theorem NQ:aP prog 103=true:=by kernel_rfl
def WB (m:Nat) (p0:List aI) (p1:aI->Option Bool):Option (Bool):=
 (RX m p0 p1).bind λy3=>some (decide (0<=y3))
theorem W58 {w:Nat} {p0:List aI} {p1:aI->Option Bool} {o:Bool} (h:aF) {p1F:Nat} {p1C:List AV} (p1B:aP prog p1F=true) (p1H:∀x0 o h0,iG h h0->p1 x0=some o->aM prog p1F ([.agg (bQ x0)]++p1C) h0 (λr h'=>r= .sc (.bool o)/\h'=h0)) (m:WB w p0 p1=some o):
 aM prog 58 [.sl none 4 (map bQ p0),.fn (.func p1F) p1C] h (λr h'=>r= .sc (.bool o)/\h'=h):=by
 refine fM 9 [.tmp 4] Tryz.func58 rfl rfl rfl rfl ?_
 unfold WB at m
 refine v (v ?_)
 obtain⟨_,Y4,m⟩:=aC m
 refine vn (λu=>bW (aGG _ p1B (λx0 o h0 hs ho=>p1H x0 o h0 ((aU (nil_sublist _) u).1.trans hs) ho) Y4) rfl NQ rfl) (v ?_)
 cases m
 exact eI rfl
theorem aA6:aP prog 58=true:=by kernel_rfl
def RY (m:Nat) (p0:aI) (c0:aQ):Option (Bool):=
 some (p0.Seq==c0.Of)
theorem aGH {w:Nat} {p0:aI} {c0:aQ} {o:Bool} (h:aF) {c0K:bX} (c0H:h c0K=some (.obj 99 (cE c0))) (m:RY w p0 c0=some o):
 aM prog 138 [.agg (bQ p0),.ptr c0K 0] h (λr h'=>r= .sc (.bool o)/\h'=h):=by
 refine fM 9 [.tmp 3] Tryz.func138 rfl rfl rfl rfl ?_
 unfold RY at m
 refine v (gX rfl rfl λk2 K3=>v (vl 0 _ cG rfl rfl rfl (vn (λu=>gO (nZ c0.Of) cG rfl (fX u c0H) rfl) (v ?_))))
 cases m
 exact eI rfl
theorem aA7:aP prog 138=true:=by kernel_rfl
def vP (m:Nat) (p0:aA) (q0:Int):Option (Lp (Int) (Bool)):=
 if decide (q0 < (p0.Exps.length:Int)) then ((ix p0.Exps q0).bind λx1=>after ((AB m x1.Seq 0 (wrap .i64 (p0.Seq - 1))).bind λy0=>if (!y0)then Bk true else if decide (0 < q0) then ((ix p0.Exps (wrap .i64 (q0 - 1))).bind λx2=>if decide (x1.Seq<=x2.Seq) then Bk true else (AB m x1.Of 0 (wrap .i64 (x1.Seq - 1))).bind λy1=>if (!y1)then Bk true else if ((x1.Locs.length:Int)==0)then Bk true else (AM m p0 x1.Locs).bind λy2=>Bk (!y2)) else (AB m x1.Of 0 (wrap .i64 (x1.Seq - 1))).bind λy3=>if (!y3)then Bk true else if ((x1.Locs.length:Int)==0)then Bk true else (AM m p0 x1.Locs).bind λy4=>Bk (!y4):Option (Lp (Bool) (Lp (Int) (Bool)))) λj0=>if j0 then Rk false else (WB m p0.Snaps (λx0=>RY m x0 x1)).bind λy5=>if y5 then Rk false else Gk (wrap .i64 (q0+1))) else Bk q0
def M81 (m:Nat) (p0:aA):Option (Bool):=
 after (aT (λs=>vP m p0 s) m 0) λr0=>some (decide ((p0.Exps.length:Int)<=200))
theorem W81 {w:Nat} {p0:aA} {o:Bool} (h:aF) (m:M81 w p0=some o):
 aM prog 81 [.agg (aD p0)] h (λr h'=>r= .sc (.bool o)/\h'=h):=by
 refine fM 67 [.tmp 2] Tryz.func81 rfl rfl rfl rfl ?_
 unfold M81 at m
 refine v (gX rfl rfl λk2 K3=>v (vl 0 _ gN rfl rfl rfl (dI nK rfl (jT m (σ:=Int) (λs=>[(some k2,.obj 30 (aD p0))]) (λs=>.c 1 (.ptr k2 0) (.c 6 (.sl none 3 (map cE p0.Exps)) (.c 7 (nZ (p0.Exps.length:Int)) (.c 8 (nZ s) .nil)))) (lx (.k4 .nil)) ?_ ?_))))
 rintro _ q0 x m
 replace m:vP w p0 q0=some x:=m
 unfold vP at m
 refine v (v ?_)
 apply vi m<;>intro c0 m
 refine v (v (v (vx m gU rfl rfl λx0 _ m=>va (.agg (cE x0)) tD rfl rfl (ve λu=>bE ([nZ 0,nZ 0,sZ]) u qW rfl rfl λk136 K0=>qk K0 rfl (ve λu=>aL 0 (cE x0) u rfl rfl rfl rfl EY rfl rfl λK1=>qk K1 rfl (vs (vs (fP m (σ:=Bool) (λs=>[(some k136,.obj 99 (cE x0)),(some k2,.obj 30 (aD p0))]) (λs=>.c 1 (.ptr k2 0) (.c 4 (.ptr k136 0) (.c 6 (.sl none 3 (map cE p0.Exps)) (.c 7 (nZ (p0.Exps.length:Int)) (.c 8 (nZ q0) (.c 57 (.sc (.bool s)) .nil)))))) (λx m=> ?_) ?_))))))))
 refine v (vq (by kernel_rfl) (vl 0 _ cG rfl rfl rfl (vl 1 _ cG rfl rfl rfl (vk D2 pQ m rfl rfl λ_ m=> ?_))))
 apply vi m<;>intro b0 m
 rw[b0]
 exact nF m
 rw[b0]
 apply vi m<;>intro b1 m
 rw[b1]
 refine vl 1 _ gN rfl rfl rfl (vx m gU rfl rfl λ_ _ m=>vl 0 _ cG rfl rfl rfl ?_)
 apply vi m<;>intro b2 m
 rw[b2]
 exact nF m
 rw[b2]
 refine vl 0 _ cG rfl rfl rfl (vl 0 _ cG rfl rfl rfl (vk D2 pQ m rfl rfl λ_ m=> ?_))
 apply vi m<;>intro b3 m
 rw[b3]
 exact nF m
 rw[b3]
 refine vl 0 _ fO rfl rfl rfl (dI kC rfl ?_)
 apply vi m<;>intro b4 m
 rw[b4]
 exact nF m
 rw[b4]
 exact vl 1 (.agg (aD p0)) dG rfl rfl rfl (vl 0 _ fO rfl rfl rfl (vk KK BN m rfl rfl λ_ m=>nF m))
 rw[b1]
 refine vl 0 _ cG rfl rfl rfl (vl 0 _ cG rfl rfl rfl (vk D2 pQ m rfl rfl λ_ m=> ?_))
 apply vi m<;>intro b5 m
 rw[b5]
 exact nF m
 rw[b5]
 refine vl 0 _ fO rfl rfl rfl (dI kC rfl ?_)
 apply vi m<;>intro b6 m
 rw[b6]
 exact nF m
 rw[b6]
 exact vl 1 (.agg (aD p0)) dG rfl rfl rfl (vl 0 _ fO rfl rfl rfl (vk KK BN m rfl rfl λ_ m=>nF m))
 rintro _ j0 m
 refine v ?_
 apply vi m<;>intro c1 m
 refine v (v (gM m λm=> ?_))
 obtain rfl:=eT m
 exact eI rfl
 refine v (v (vl 1 _ fE rfl rfl rfl ?_))
 obtain⟨_,Y0,m⟩:=aC m
 refine vn (λu=>bW (W58 _ aA7 (λ_ o h0 hs ho=>aGH _ (hs _ _ (a9 0 u rfl)) ho) Y0) rfl aA6 rfl) (v ?_)
 apply vi m<;>intro c2 m
 refine v (v (gM m λm=> ?_))
 obtain rfl:=eT m
 exact eI rfl
 exact v (v (z8 m (mG [1] rfl rfl (.k4 .nil))))
 exact v (u0 m)
 rintro _ r0 m
 refine v (vl 0 _ gN rfl rfl rfl (dI nK rfl (v ?_)))
 cases m
 exact eI rfl
theorem aGI:aP prog 81=true:=by kernel_rfl
theorem aGJ:Z9 prog 190:=⟨Tryz.f190,Tryz.func190,by kernel_rfl,by kernel_rfl,rfl,rfl⟩
theorem aGK {a b:AV} {xs ys:List Int} (h:aF) (h1:QW prog h a xs) (h2:QW prog h b ys):aM prog 182 [a,b] h (λr h'=>r=nZ (GX xs ys)/\h'=h):=by
 exact iZ 8 [.tmp 4] Tryz.func182 rfl rfl rfl rfl (gA λK1 H1=>dV (vC rfl (e8 (H1 _ _ (gA λK1 H1=>dV (qN (fC a rfl) (qN (fC b rfl) (qN (aAA aGJ rfl rfl h1 h2) (vC rfl (e8 (H1 _ _ (iI (dW.one (.inl rfl) (iG.refl _) (bD.refl _ _) ⟨rfl,rfl⟩)))))))))))))
theorem aA9:aP prog 182=true:=by kernel_rfl
def KN (m:Nat) (p0:bK) (p1:bK):Option (Int):=
 some (GX p0.1 p1.1)
theorem aBA {w:Nat} {p0:bK} {p1:bK} {o:Int} (h:aF) (m:KN w p0 p1=some o):
 aM prog 136 [.agg (bF p0),.agg (bF p1)] h (λr h'=>r=nZ o/\h'=h):=by
 refine fM 8 [.tmp 4] Tryz.func136 rfl rfl rfl rfl ?_
 unfold KN at m
 refine v (gX rfl rfl λk2 K3=>gX rfl rfl λk5 K6=>v (vq (by kernel_rfl) (bV (T3 yE rfl) (bV (T3 yE rfl) (vn (λu=>bW (aGK _ (QW.view (a9 1 u rfl) rfl) (QW.view (a9 0 u rfl) rfl)) rfl aA9 rfl) (v ?_))))))
 cases m
 exact eI rfl
theorem UG:aP prog 136=true:=by kernel_rfl
def M96 (m:Nat) (p0:List Int):Option (List Int):=app [] p0
theorem W96 {w:Nat} {p0:List Int} {o:List Int} (h:aF) (m:M96 w p0=some o):
 aM prog 96 [.sl none 1 (map gG p0)] h (λr h'=>∃t,(t=none->o= [])/\bT h [(t,.tok 5 1 (o.length*1))]/\r=ow t 1 (map gG o)/\h'=hp h [(t,.tok 5 1 (o.length*1))]):=by
 refine iZ 8 [.tmp 2] Tryz.func96 rfl rfl rfl rfl ?_
 unfold M96 at m
 refine gA λK1 H1=>dV (qN (iJ (.sc (.slice _ _ _)) rfl) (e8 (H1 _ _ (gA λK1 H1=>gA λK2 H2=>dV (vE rfl (kU (jU rfl (by rw[M8]; rfl) (by rw[bI]; exact rfl) (.inl ⟨_,_,_,rfl,λb hb=> ?_⟩))))))))
 refine e8 (H2 _ _ (mV rfl (λhc=> ?_) (λhc=> ?_)))
 have h0:p0= []:=by
   cases p0 with
   | nil=>rfl
   | cons x l=>have:=hb (by simp); rw[this] at hc; cases hc
 subst h0
 obtain⟨rfl, -⟩:=jM m
 exact gA λK1 H1=>dV (qN (iJ (.sc (.slice _ _ _)) rfl) (e8 (H1 _ _ (iI (dW.one (.inl rfl) (iG.refl _) (iB _ _) ⟨none,λ_=>rfl,bT.none (bT.nil _),rfl,rfl⟩)))))
 exact lQ (H1 _ _ (gA λK1 H1=>dV (kU (GU (c:=gG) (bT.nil _) yH λu=>vE rfl (kU (fK (c:=gG) 0 m yH rfl rfl rfl (λ_=>rfl) u rfl λtg ot u=>qN (iJ (ow _ _ _) rfl) (e8 (H1 _ _ (iI (dW.one (.inl rfl) (iG.refl _) (bD.refl _ _) ⟨tg,ot,u,rfl,rfl⟩))))))))))
theorem aGL:aP prog 96=true:=by kernel_rfl
def M71 (m:Nat) (p0:List aE):Option (List aE):=app [] p0
theorem W71 {w:Nat} {p0:List aE} {o:List aE} (h:aF) (m:M71 w p0=some o):
 aM prog 71 [.sl none 37 (map aJ p0)] h (λr h'=>∃t,(t=none->o= [])/\bT h [(t,.tok 38 37 (o.length*37))]/\r=ow t 37 (map aJ o)/\h'=hp h [(t,.tok 38 37 (o.length*37))]):=by
 refine iZ 8 [.tmp 2] Tryz.func71 rfl rfl rfl rfl ?_
 unfold M71 at m
 refine gA λK1 H1=>dV (qN (iJ (.sc (.slice _ _ _)) rfl) (e8 (H1 _ _ (gA λK1 H1=>gA λK2 H2=>dV (vE rfl (kU (jU rfl (by rw[n3]; rfl) (by rw[bI]; exact rfl) (.inl ⟨_,_,_,rfl,λb hb=> ?_⟩))))))))
 refine e8 (H2 _ _ (mV rfl (λhc=> ?_) (λhc=> ?_)))
 have h0:p0= []:=by
   cases p0 with
   | nil=>rfl
   | cons x l=>have:=hb (by simp); rw[this] at hc; cases hc
 subst h0
 obtain⟨rfl, -⟩:=jM m
 exact gA λK1 H1=>dV (qN (iJ (.sc (.slice _ _ _)) rfl) (e8 (H1 _ _ (iI (dW.one (.inl rfl) (iG.refl _) (iB _ _) ⟨none,λ_=>rfl,bT.none (bT.nil _),rfl,rfl⟩)))))
 exact lQ (H1 _ _ (gA λK1 H1=>dV (kU (GU (c:=aJ) (bT.nil _) lM λu=>vE rfl (kU (fK (c:=aJ) 0 m lM rfl rfl rfl (λ_=>rfl) u rfl λtg ot u=>qN (iJ (ow _ _ _) rfl) (e8 (H1 _ _ (iI (dW.one (.inl rfl) (iG.refl _) (bD.refl _ _) ⟨tg,ot,u,rfl,rfl⟩))))))))))
theorem aGM:aP prog 71=true:=by kernel_rfl
def vQ (m:Nat) (p0:aA) (q0:Int):Option (Lp (Int) (Bool)):=
 if decide (q0 < (p0.Chunks.length:Int)) then ((ix p0.Chunks q0).bind λx0=>after (if decide (0 < q0) then ((ix p0.Chunks (wrap .i64 (q0 - 1))).bind λx1=>(KN m x1.Id x0.Id).bind λy0=>if decide (0<=y0) then Bk true else (AM m p0 x0.Locs).bind λy1=>if (!y1)then Bk true else if (!x0.Staged)then (if decide (0 < (x0.Data.length:Int)) then Bk true else if ((x0.Locs.length:Int)==0)then Bk true else if x0.Staged then ((AB m (x0.Data.length:Int) 1 64).bind λy2=>Bk (!y2)) else Bk false) else if x0.Staged then ((AB m (x0.Data.length:Int) 1 64).bind λy3=>Bk (!y3)) else Bk false) else (AM m p0 x0.Locs).bind λy4=>if (!y4)then Bk true else if (!x0.Staged)then (if decide (0 < (x0.Data.length:Int)) then Bk true else if ((x0.Locs.length:Int)==0)then Bk true else if x0.Staged then ((AB m (x0.Data.length:Int) 1 64).bind λy5=>Bk (!y5)) else Bk false) else if x0.Staged then ((AB m (x0.Data.length:Int) 1 64).bind λy6=>Bk (!y6)) else Bk false:Option (Lp (Bool) (Lp (Int) (Bool)))) λj0=>if j0 then Rk false else Gk (wrap .i64 (q0+1))) else Bk q0
def M79 (m:Nat) (p0:aA):Option (Bool):=
 after (aT (λs=>vQ m p0 s) m 0) λr0=>some (decide ((p0.Chunks.length:Int)<=200))
theorem W79 {w:Nat} {p0:aA} {o:Bool} (h:aF) (m:M79 w p0=some o):
 aM prog 79 [.agg (aD p0)] h (λr h'=>r= .sc (.bool o)/\h'=h):=by
 refine fM 68 [.tmp 2] Tryz.func79 rfl rfl rfl rfl ?_
 unfold M79 at m
 refine v (gX rfl rfl λk2 K3=>v (vl 0 _ fA rfl rfl rfl (dI kY rfl (jT m (σ:=Int) (λs=>[(some k2,.obj 30 (aD p0))]) (λs=>.c 1 (.ptr k2 0) (.c 6 (.sl none 35 (map aK p0.Chunks)) (.c 7 (nZ (p0.Chunks.length:Int)) (.c 8 (nZ s) .nil)))) (lx (.k4 .nil)) ?_ ?_))))
 rintro _ q0 x m
 replace m:vQ w p0 q0=some x:=m
 unfold vQ at m
 refine v (v ?_)
 apply vi m<;>intro c0 m
 refine v (v (v (vx m fZ rfl rfl λx0 _ m=>va (.agg (aK x0)) nL rfl rfl (ve λu=>bE (bF iC++(Q4:List AV)) u pO rfl rfl λk168 K0=>qk K0 rfl (ve λu=>aL 0 (aK x0) u rfl rfl rfl rfl AF rfl rfl λK1=>qk K1 rfl (vs (fP m (σ:=Bool) (λs=>[(some k168,.obj 44 (aK x0)),(some k2,.obj 30 (aD p0))]) (λs=>.c 1 (.ptr k2 0) (.c 6 (.sl none 35 (map aK p0.Chunks)) (.c 7 (nZ (p0.Chunks.length:Int)) (.c 8 (nZ q0) (.c 62 (.sc (.bool s)) .nil))))) (λx m=> ?_) ?_)))))))
 refine v (vq (by kernel_rfl) ?_)
 apply vi m<;>intro b0 m
 rw[b0]
 refine vl 1 _ fA rfl rfl rfl (vx m fZ rfl rfl λx1 _ m=>va (.agg (bF x1.Id)) fF rfl rfl (vl 0 (.agg (bF x0.Id)) fF rfl rfl rfl (vk aBA UG m rfl rfl λ_ m=> ?_)))
 apply vi m<;>intro b1 m
 rw[b1]
 exact lE m
 rw[b1]
 refine vl 1 (.agg (aD p0)) dG rfl rfl rfl (vl 0 _ fO rfl rfl rfl (vk KK BN m rfl rfl λ_ m=> ?_))
 apply vi m<;>intro b2 m
 rw[b2]
 exact lE m
 rw[b2]
 refine vl 0 _ GH rfl rfl rfl ?_
 apply vi m<;>intro b3 m
 rw[b3]
 refine vl 0 _ oB rfl rfl rfl (dI n4 rfl ?_)
 apply vi m<;>intro b4 m
 rw[b4]
 exact lE m
 rw[b4]
 refine vl 0 _ fO rfl rfl rfl (dI kC rfl ?_)
 apply vi m<;>intro b5 m
 rw[b5]
 exact lE m
 rw[b5]
 refine vl 0 _ GH rfl rfl rfl ?_
 apply vi m<;>intro b6 m
 rw[b6]
 exact vl 0 _ oB rfl rfl rfl (dI n4 rfl (vk D2 pQ m rfl rfl λ_ m=>lE m))
 rw[b6]
 exact lE m
 rw[b3]
 refine vl 0 _ GH rfl rfl rfl ?_
 apply vi m<;>intro b7 m
 rw[b7]
 exact vl 0 _ oB rfl rfl rfl (dI n4 rfl (vk D2 pQ m rfl rfl λ_ m=>lE m))
 rw[b7]
 exact lE m
 rw[b0]
 refine vl 1 (.agg (aD p0)) dG rfl rfl rfl (vl 0 _ fO rfl rfl rfl (vk KK BN m rfl rfl λ_ m=> ?_))
 apply vi m<;>intro b8 m
 rw[b8]
 exact lE m
 rw[b8]
 refine vl 0 _ GH rfl rfl rfl ?_
 apply vi m<;>intro b9 m
 rw[b9]
 refine vl 0 _ oB rfl rfl rfl (dI n4 rfl ?_)
 apply vi m<;>intro b10 m
 rw[b10]
 exact lE m
 rw[b10]
 refine vl 0 _ fO rfl rfl rfl (dI kC rfl ?_)
 apply vi m<;>intro b11 m
 rw[b11]
 exact lE m
 rw[b11]
 refine vl 0 _ GH rfl rfl rfl ?_
 apply vi m<;>intro b12 m
 rw[b12]
 exact vl 0 _ oB rfl rfl rfl (dI n4 rfl (vk D2 pQ m rfl rfl λ_ m=>lE m))
 rw[b12]
 exact lE m
 rw[b9]
 refine vl 0 _ GH rfl rfl rfl ?_
 apply vi m<;>intro b13 m
 rw[b13]
 exact vl 0 _ oB rfl rfl rfl (dI n4 rfl (vk D2 pQ m rfl rfl λ_ m=>lE m))
 rw[b13]
 exact lE m
 rintro _ j0 m
 refine v ?_
 apply vi m<;>intro c1 m
 refine v (v (gM m λm=> ?_))
 obtain rfl:=eT m
 exact eI rfl
 exact v (v (z8 m (mG [1] rfl rfl (.k4 .nil))))
 exact v (u0 m)
 rintro _ r0 m
 refine v (vl 0 _ fA rfl rfl rfl (dI kY rfl (v ?_)))
 cases m
 exact eI rfl
theorem aGN:aP prog 79=true:=by kernel_rfl
def AN (m:Nat) (p0:aB) (p1:bK):Option (Int):=
 (KN m p0.Id p1).bind λy9=>some y9
theorem aGO {u:Nat} {p0:aB} {p1:bK} {o:Int} (h:aF) (m:AN u p0 p1=some o):
 aM prog 172 [.agg (aK p0),.agg (bF p1)] h (λr h'=>r=nZ o/\h'=h):=by
 refine fM 9 [.tmp 4] Tryz.func172 rfl rfl rfl rfl ?_
 unfold AN at m
 refine v (gX rfl rfl λk2 K3=>gX rfl rfl λk5 K6=>v (vl 1 (.agg (bF p0.Id)) fF rfl rfl rfl (vl 0 (.agg (bF p1)) fF rfl rfl rfl (vk aBA UG m rfl rfl λ_ m=>v ?_))))
 obtain rfl:=eT m
 exact eI rfl
theorem aBD:aP prog 172=true:=by kernel_rfl
def yP (m:Nat) (p0:List aB) (p1:bK):Option (Int×Bool):=
 (NP m p0 p1 (λx0 x1=>AN m x0 x1)).bind λy6=>some (y6.1,y6.2)
theorem WC {u:Nat} {p0:List aB} {p1:bK} {o:Int×Bool} (h:aF) (m:yP u p0 p1=some o):
 aM prog 116 [.sl none 35 (map aK p0),.agg (bF p1)] h (λr h'=>r= .tup [nZ o.1,.sc (.bool o.2)]/\h'=h):=by
 refine fM 11 [.tmp 4,.tmp 5] Tryz.func116 rfl rfl rfl rfl ?_
 unfold yP at m
 refine v (gX rfl rfl λk2 K3=>v (vl 0 (.agg (bF p1)) fF rfl rfl rfl ?_))
 obtain⟨_,Y7,m⟩:=aC m
 refine bV (bW (aGF _ aBD (λ_ _ o h0 hs ho=>aGO _ ho) Y7) rfl aA5 rfl) (v ?_)
 cases m
 exact vr2 rfl rfl
theorem NR:aP prog 116=true:=by kernel_rfl
def yQ (m:Nat) (p0:aA) (x0:dF) (q0:Int):Option (Lp (Int) (Lp (Int) (Lp ((List ByteArray)×Int) (Bool)))):=
 if decide (q0 < (x0.Ids.length:Int)) then ((ix x0.Ids q0).bind λx1=>(yP m p0.Chunks x1).bind λy0=>if (!y0.2)then (Rk (.ret (.ret false))) else Gk (wrap .i64 (q0+1))) else Bk q0
def vR (m:Nat) (p0:aA) (x0:aI) (q0:Int):Option (Lp (Int) (Lp ((List ByteArray)×Int) (Bool))):=
 if decide (q0 < (x0.Man.Parts.length:Int)) then ((ix x0.Man.Parts q0).bind λx1=>after (aT (λs=>yQ m p0 x1 s) m 0) λr0=>Gk (wrap .i64 (q0+1))) else Bk q0
def vS (m:Nat) (p0:aA) (q0:List ByteArray) (q1:Int):Option (Lp ((List ByteArray)×Int) (Bool)):=
 if decide (q1 < (p0.Snaps.length:Int)) then ((ix p0.Snaps q1).bind λx0=>after ((AB m x0.Seq 0 (wrap .i64 (p0.Seq - 1))).bind λy0=>if (!y0)then Bk true else if decide (0 < q1) then ((ix p0.Snaps (wrap .i64 (q1 - 1))).bind λx1=>if decide (x0.Seq<=x1.Seq) then Bk true else if ((q0:List ByteArray).any λz=>x0.Man.Name==z)then Bk true else (KM m x0.Man).bind λy1=>if (y1 !=0)then Bk true else (AM m p0 x0.Locs).bind λy2=>Bk (!y2)) else if ((q0:List ByteArray).any λz=>x0.Man.Name==z)then Bk true else (KM m x0.Man).bind λy3=>if (y3 !=0)then Bk true else (AM m p0 x0.Locs).bind λy4=>Bk (!y4):Option (Lp (Bool) (Lp ((List ByteArray)×Int) (Bool)))) λj0=>if j0 then Rk false else after (aT (λs=>vR m p0 x0 s) m 0) λr0=>Gk (mL (q0:List ByteArray) x0.Man.Name,wrap .i64 (q1+1))) else Bk (q0,q1)
def M80 (m:Nat) (p0:aA):Option (Bool):=
 after (aT (λs=>vS m p0 s.1 s.2) m ([],0)) λ⟨r0,r1⟩=>some (decide ((p0.Snaps.length:Int)<=8))
theorem W80 {w:Nat} {p0:aA} {o:Bool} (h:aF) (m:M80 w p0=some o):
 aM prog 80 [.agg (aD p0)] h (λr h'=>r= .sc (.bool o)/\h'=h):=by
 refine fM 99 [.tmp 2] Tryz.func80 rfl rfl rfl rfl ?_
 unfold M80 at m
 refine v (gX rfl rfl λk2 K3=>v (ve λu=>CK u λk6 K7=>qk K7 rfl (v (vl 1 _ fE rfl rfl rfl (dI kN rfl (jT m (σ:=(List ByteArray)×Int) (λs=>[(some k6,.mp (gD kS (s.1:List ByteArray))),(some k2,.obj 30 (aD p0))]) (λs=>.c 1 (.ptr k2 0) (.c 3 (.mpv k6) (.c 14 (.sl none 4 (map bQ p0.Snaps)) (.c 15 (nZ (p0.Snaps.length:Int)) (.c 16 (nZ s.2) .nil))))) (lx (.k5 .nil)) ?_ ?_))))))
 rintro _ ⟨q0,q1⟩ x m
 replace m:vS w p0 q0 q1=some x:=m
 unfold vS at m
 refine v (v ?_)
 apply vi m<;>intro c0 m
 refine v (v (v (vx m jG rfl rfl λx0 _ m=>va (.agg (bQ x0)) tB rfl rfl (ve λu=>bE (YM) u yJ rfl rfl λk540 K0=>qk K0 rfl (ve λu=>aL 0 (bQ x0) u rfl rfl rfl rfl HC rfl rfl λK1=>qk K1 rfl (vs (vs (fP m (σ:=Bool) (λs=>[(some k540,.obj 60 (bQ x0)),(some k6,.mp (gD kS (q0:List ByteArray))),(some k2,.obj 30 (aD p0))]) (λs=>.c 1 (.ptr k2 0) (.c 3 (.mpv k6) (.c 5 (.ptr k540 0) (.c 14 (.sl none 4 (map bQ p0.Snaps)) (.c 15 (nZ (p0.Snaps.length:Int)) (.c 16 (nZ q1) (.c 63 (.sc (.bool s)) .nil))))))) (λx m=> ?_) ?_))))))))
 refine v (vq (by kernel_rfl) (vl 0 _ cG rfl rfl rfl (vl 2 _ cG rfl rfl rfl (vk D2 pQ m rfl rfl λ_ m=> ?_))))
 apply vi m<;>intro b0 m
 rw[b0]
 exact CR m
 rw[b0]
 apply vi m<;>intro b1 m
 rw[b1]
 refine vl 2 _ fE rfl rfl rfl (vx m jG rfl rfl λ_ _ m=>vl 0 _ cG rfl rfl rfl ?_)
 apply vi m<;>intro b2 m
 rw[b2]
 exact CR m
 rw[b2]
 refine vl 0 _ IT rfl rfl rfl (vn (λu=>GW NI zb4 (yA.str u9) rfl rfl (a9 1 u rfl)) ?_)
 apply vi m<;>intro b3 m
 rw[b3]
 exact CR m
 rw[b3]
 refine vl 0 (.agg (bP x0.Man)) p5 rfl rfl rfl (vk aA4 UF m rfl rfl λ_ m=> ?_)
 apply vi m<;>intro b4 m
 rw[b4]
 exact CR m
 rw[b4]
 exact vl 2 (.agg (aD p0)) dG rfl rfl rfl (vl 0 _ fO rfl rfl rfl (vk KK BN m rfl rfl λ_ m=>CR m))
 rw[b1]
 refine vl 0 _ IT rfl rfl rfl (vn (λu=>GW NI zb4 (yA.str u9) rfl rfl (a9 1 u rfl)) ?_)
 apply vi m<;>intro b5 m
 rw[b5]
 exact CR m
 rw[b5]
 refine vl 0 (.agg (bP x0.Man)) p5 rfl rfl rfl (vk aA4 UF m rfl rfl λ_ m=> ?_)
 apply vi m<;>intro b6 m
 rw[b6]
 exact CR m
 rw[b6]
 exact vl 2 (.agg (aD p0)) dG rfl rfl rfl (vl 0 _ fO rfl rfl rfl (vk KK BN m rfl rfl λ_ m=>CR m))
 rintro _ j0 m
 refine v ?_
 apply vi m<;>intro c1 m
 refine v (v (gM m λm=> ?_))
 obtain rfl:=eT m
 exact eI rfl
 refine v (v (vl 0 _ IT rfl rfl rfl (ve λu=>MQ 1 u NI (yA.str u9) rfl rfl rfl rfl λK2=>qk K2 rfl (v (vl 0 _ oW rfl rfl rfl (dI AH rfl (jT m (σ:=Int) (λs=>[(some k540,.obj 60 (bQ x0)),(some k6,.mp (gD kS (mL (q0:List ByteArray) x0.Man.Name:List ByteArray))),(some k2,.obj 30 (aD p0))]) (λs=>.c 1 (.ptr k2 0) (.c 3 (.mpv k6) (.c 14 (.sl none 4 (map bQ p0.Snaps)) (.c 15 (nZ (p0.Snaps.length:Int)) (.c 16 (nZ q1) (.c 70 (.sl none 3 (map cC x0.Man.Parts)) (.c 71 (nZ (x0.Man.Parts.length:Int)) (.c 72 (nZ s) .nil)))))))) (lx (.k8 .nil)) ?_ ?_)))))))
 rintro _ q2 x m
 replace m:vR w p0 x0 q2=some x:=m
 unfold vR at m
 refine v (v ?_)
 apply vi m<;>intro c2 m
 refine v (v (v (vx m tA rfl rfl λx1 _ m=>va (.agg (cC x1)) EW rfl rfl (ve λu=>bE (ZL) u KJ rfl rfl λk732 K4=>qk K4 rfl (ve λu=>aL 0 (cC x1) u rfl rfl rfl rfl NC rfl rfl λK5=>qk K5 rfl (v (vl 0 _ yL rfl rfl rfl (dI vO rfl (jT m (σ:=Int) (λs=>[(some k732,.obj 70 (cC x1)),(some k540,.obj 60 (bQ x0)),(some k6,.mp (gD kS (mL (q0:List ByteArray) x0.Man.Name:List ByteArray))),(some k2,.obj 30 (aD p0))]) (λs=>.c 1 (.ptr k2 0) (.c 3 (.mpv k6) (.c 14 (.sl none 4 (map bQ p0.Snaps)) (.c 15 (nZ (p0.Snaps.length:Int)) (.c 16 (nZ q1) (.c 70 (.sl none 3 (map cC x0.Man.Parts)) (.c 71 (nZ (x0.Man.Parts.length:Int)) (.c 72 (nZ q2) (.c 77 (.sl none 32 (map bF x1.Ids)) (.c 78 (nZ (x1.Ids.length:Int)) (.c 79 (nZ s) .nil))))))))))) (lx (.k11 .nil)) ?_ ?_)))))))))
 rintro _ q3 x m
 replace m:yQ w p0 x1 q3=some x:=m
 unfold yQ at m
 refine v (v ?_)
 apply vi m<;>intro c3 m
 refine v (v (v (vx m AL rfl rfl λx2 _ m=>va (.agg (bF x2)) fF rfl rfl (ve λu=>bE (bF iC) u M4 rfl rfl λk780 K6=>qk K6 rfl (ve λu=>aL 0 (bF x2) u rfl rfl rfl rfl M2 rfl rfl λK8=>qk K8 rfl (v (vl 4 _ fA rfl rfl rfl (vl 0 (.agg (bF x2)) fF rfl rfl rfl (vk WC NR m rfl rfl λ_ m=>v (v ?_))))))))))
 apply vi m<;>intro c4 m
 refine v (v (gM m λm=>gM m λm=>gM m λm=> ?_))
 obtain rfl:=eT m
 exact eI rfl
 exact v (v (z8 m (mG [1,2,3,4] rfl rfl (.k11 .nil))))
 exact v (aFY m)
 rintro _ r0 m
 exact v (z8 m (mG [1,2,3] rfl rfl (.k8 .nil)))
 exact v (bq8 m)
 rintro _ r1 m
 exact v (z8 m (mG [1,2] rfl rfl (.k5 .nil)))
 exact v (YR m)
 rintro _ ⟨r2,r3⟩ m
 refine v (vl 1 _ fE rfl rfl rfl (dI kN rfl (v ?_)))
 cases m
 exact eI rfl
theorem aGP:aP prog 80=true:=by kernel_rfl
def QY (m:Nat) (p0:aA):Option (Int):=
 after ((AB m p0.Seq 0 1073741824).bind λy0=>if y0 then ((M78 m p0.Vols).bind λy1=>if y1 then ((M79 m p0).bind λy2=>if y2 then ((M80 m p0).bind λy3=>if y3 then ((M81 m p0).bind λy4=>Bk y4) else Bk false) else Bk false) else Bk false) else Bk false:Option (Lp (Bool) (Int))) λj0=>if j0 then (some 0) else some 1
theorem YT {u:Nat} {p0:aA} {o:Int} (h:aF) (m:QY u p0=some o):
 aM prog 31 [.agg (aD p0)] h (λr h'=>r=nZ o/\h'=h):=by
 refine fM 23 [.tmp 2] Tryz.func31 rfl rfl rfl rfl ?_
 unfold QY at m
 refine v (gX rfl rfl λk2 K3=>vs (vs (fP m (σ:=Bool) (λs=>[(some k2,.obj 30 (aD p0))]) (λs=>.c 22 (.sc (.bool s)) .nil) (λx m=> ?_) ?_)))
 refine v (vl 0 _ cG rfl rfl rfl (vk D2 pQ m rfl rfl λ_ m=> ?_))
 apply vi m<;>intro b0 m
 rw[b0]
 refine vl 0 _ gH rfl rfl rfl (vk W78 aGC m rfl rfl λ_ m=> ?_)
 apply vi m<;>intro b1 m
 rw[b1]
 refine vl 0 (.agg (aD p0)) dG rfl rfl rfl (vk W79 aGN m rfl rfl λ_ m=> ?_)
 apply vi m<;>intro b2 m
 rw[b2]
 refine vl 0 (.agg (aD p0)) dG rfl rfl rfl (vk W80 aGP m rfl rfl λ_ m=> ?_)
 apply vi m<;>intro b3 m
 rw[b3]
 exact vl 0 (.agg (aD p0)) dG rfl rfl rfl (vk W81 aGI m rfl rfl λ_ m=>nI m)
 rw[b3]
 exact nI m
 rw[b2]
 exact nI m
 rw[b1]
 exact nI m
 rw[b0]
 exact nI m
 rintro _ j0 m
 refine v ?_
 apply vi m<;>intro c0 m
 refine v (v ?_)
 obtain rfl:=eT m
 exact eI rfl
 refine v (v (v ?_))
 obtain rfl:=eT m
 exact eI rfl
theorem KO:aP prog 31=true:=by kernel_rfl
end Go.Proofs.YtbbifdfldpfphaaGreat
namespace Go.Vm
theorem wr {n:Int} (h: -9223372036854775808<=n) (h2:n < 9223372036854775808):wrap .i64 n=n:=by
 have e:wrap .i64 n=(if decide (n % 18446744073709551616>=9223372036854775808)then n % 18446744073709551616 - 18446744073709551616 else n % 18446744073709551616):=rfl
 rw[e]
 simp only[decide_eq_true_eq]
 split<;>omega
theorem f0 {i:Nat} (h:i < 1000000000):wrap .i64 ((i:Int)+1)=((i+1:Nat):Int):=by rw[wr (by omega) (by omega)]; rfl
theorem yR {i:Nat} (h:i < 1000000000) (h0:0 < i):wrap .i64 ((i:Int) - 1)=((i - 1:Nat):Int):=by rw[wr (by omega) (by omega)]; omega
theorem a8 {α:Type} (l:List α) (i:Nat):ix l (i:Int)=l[i]? :=by simp[ix]
theorem m5 {α:Type} (l:List α) {i:Int} (h:0<=i):ix l i=l[i.toNat]? :=by simp[ix,h]
theorem bS {α:Type} {xs ys:List α} (h:xs.length+ys.length<=1000000000):app xs ys=some (xs++ys):=by simp[app,h]
theorem cS {σ ρ:Type} (c:Prop) [Decidable c] (a b:Option (Lp σ ρ)) (k:σ->Option ρ):after (if c then a else b) k=if c then after a k else after b k:=by split<;>rfl
theorem aG {σ ρ:Type} (s:σ) (k:σ->Option ρ):after (some (.brk s)) k=k s:=rfl
theorem cK {σ ρ:Type} (r:ρ) (k:σ->Option ρ):after (some (.ret r)) k=some r:=rfl
theorem dH {α β:Type} (c:Prop) [Decidable c] (a b:Option α) (k:α->Option β):(if c then a else b).bind k=if c then a.bind k else b.bind k:=by split<;>rfl
def LF {S ρ:Type} (emb:Nat->S) (p:Nat->Bool) (rv:Nat->ρ) (n:Nat):Lp S ρ:=match (range n).find? p with
 | none=>.brk (emb n)
 | some i=>.ret (rv i)
theorem EZ {S ρ:Type} {body:S->Option (Lp S ρ)} (emb:Nat->S) (p:Nat->Bool) (rv:Nat->ρ):∀(m k F:Nat),m < F->
    (∀i,k<=i->i < k+m->(∀j,j < i->k<=j->p j=false)->body (emb i)=some (if p i then .ret (rv i) else .go (emb (i+1))))->((∀j,k<=j->j < k+m->p j=false)->body (emb (k+m))=some (.brk (emb (k+m))))->
    aT body F (emb k)=some (match (List.range' k m).find? p with | none=>.brk (emb (k+m)) | some i=>.ret (rv i))
  | 0,k,F+1,_,_,he=>by
    have:=he (λj h1 h2=>by omega)
    simp only[Nat.add_zero] at this
    simp[aT,this]
  | m+1,k,F+1,hF,hb,he=>by
    have h0:=hb k (Nat.le_refl _) (by omega) (λj h1 h2=>by omega)
    rw[List.range'_succ,List.find?_cons]
    cases hp:p k with
    | true=>simp[aT,h0,hp]
    | false=>
      have:=EZ (body:=body) emb p rv m (k+1) F (by omega) (λi h1 h2 h3=>hb i (by omega) (by omega) (λj h4 h5=>by
        by_cases e:j=k
        . subst e; exact hp
        . exact h3 j h4 (by omega))) (λh=>by
        rw[show k+1+m=k+(m+1) from by omega]
        exact he λj h4 h5=>by
          by_cases e:j=k
          . subst e; exact hp
          . exact h j (by omega) (by omega))
      simp only[aT,h0,hp]
      rw[if_neg (by simp)]
      simp only[this,show k+1+m=k+(m+1) from by omega]
theorem fB {S ρ:Type} {body:S->Option (Lp S ρ)} {n F:Nat} {s0:S} (emb:Nat->S) (p:Nat->Bool) (rv:Nat->ρ) (hF:n < F) (h0:s0=emb 0)
    (hb:∀i,i < n->(∀j,j < i->p j=false)->body (emb i)=some (if p i then .ret (rv i) else .go (emb (i+1)))) (he:(∀j,j < n->p j=false)->body (emb n)=some (.brk (emb n))):
    aT body F s0=some (LF emb p rv n):=by
  subst h0
  have:=EZ (body:=body) emb p rv n 0 F hF (λi _ h2 h3=>hb i (by omega) λj hj=>h3 j hj (Nat.zero_le _)) (λh=>by simpa using he λj hj=>h j (Nat.zero_le _) (by omega))
  rw[this,LF,List.range_eq_range']
  simp
theorem iV {S ρ:Type} {emb:Nat->S} {p:Nat->Bool} {r:ρ} {n:Nat}:LF emb p (λ_=>r) n=if (range n).any p then .ret r else .brk (emb n):=by
 unfold LF
 split
 ·rename_i h
  rw[if_neg]
  simp only[List.any_eq_true,not_exists,not_and]
  exact λx hx=>List.find?_eq_none.1 h x hx
 ·rename_i i h
  rw[if_pos]
  exact List.any_eq_true.2 ⟨i,List.mem_of_find?_eq_some h,List.find?_some h⟩
end Go.Vm
