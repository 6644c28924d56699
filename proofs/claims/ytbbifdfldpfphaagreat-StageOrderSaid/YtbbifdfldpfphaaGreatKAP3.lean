import Derived.Test.YtbbifdfldpfphaaGreatKAP2
import Derived.Test.YtbbifdfldpfphaaGreatProg
set_option linter.unusedSimpArgs false
set_option linter.unusedVariables false
set_option maxHeartbeats 4000000
set_option maxRecDepth 100000
open Bool(and_eq_true)
open Go.Builtin(clear_ zeroCells)
open ByteArray(empty)
open Go.Instr(sliceAt)
open Go.IntKind(wrap)
open List(map nil_sublist range)
open Nat(beq ble)
open Go.Oper(wp)
open Option(bind_some map_none map_some)
open Go.Proofs.Tryz(prog)
namespace Go.Vm
section
variable {P:Program} {h:aF} {n:Nat}
def LX (h:aF) (n:Nat) (f:FR) (L:HL) (g:FR) (L':HL):Prop:=bP h L->bP h L'/\gA (fm n g.k) (hp h L') (fm n f.k) (hp h L)
theorem lx {f g:FR} {L:HL} (hf:FT (hp h L) n f.k g.k):LX h n f L g L:=λhk=>⟨hk,gA.s hf⟩
theorem mK {f g:FR} {L L':HL} (σ:List Nat) (hL:pick σ L=L') (ho:(σ++sO σ L.length).isPerm (range L.length)=true) (hf:FT (hp h L') n f.k g.k):LX h n f L g L':=λhk=>by
 subst hL
 obtain⟨h1,h2⟩:=bQ hk σ ho
 exact⟨h1,gA.fm h2 hf⟩
structure GN {τ σ ρ:Type} (h:aF) (n:Nat) (J:τ->σ->Prop) (sl:τ->σ->FR) (Lg:τ->σ->HL) (w:σ->Lp σ ρ) (x:Lp σ ρ) (f:FR) (L:HL):Prop where
 g:∃s g,x=w s/\J g s/\LX h n f L (sl g s) (Lg g s)
inductive GE {τ σ ρ:Type} (h:aF) (n:Nat) (J:τ->σ->Prop) (sl:τ->σ->FR) (Lg:τ->σ->HL) (id:Option Nat) (ke:Exit->FR->HL->Prop) (o:ρ) (x:Lp σ ρ) (e:Exit) (f:FR) (L:HL):Prop
 | b (i:Nat) (hi:id=some i) (he:e= .exit i) (q:GN h n J sl Lg .brk x f L)
 | r (y:ρ) (hx:x= .ret y) (h1:e≠ .normal) (h2:∀i,id=some i->e≠ .exit i) (k:y=o->ke e f L)
theorem eG {τ σ ρ:Type} {J:τ->σ->Prop} {sl:τ->σ->FR} {Lg:τ->σ->HL} {w:σ->Lp σ ρ} {x:Lp σ ρ} {f:FR} {L:HL} {s:σ} (hm:some (w s)=some x) (g:τ) (j:J g s) (le:LX h n f L (sl g s) (Lg g s)):GN h n J sl Lg w x f L:=
 ⟨s,g,(Option.some.inj hm).symm,j,le⟩
theorem lR {τ σ ρ:Type} {J:τ->σ->Prop} {sl:τ->σ->FR} {Lg:τ->σ->HL} {i:Nat} {ke:Exit->FR->HL->Prop} {o:ρ} {x:Lp σ ρ} {f:FR} {L:HL} {s:σ} (hm:some (.brk s)=some x) (g:τ) (j:J g s) (le:LX h n f L (sl g s) (Lg g s)):GE h n J sl Lg (some i) ke o x (.exit i) f L:=
 .b i rfl rfl (eG hm g j le)
theorem zU {σ ρ:Type} {sl:Unit->σ->FR} {Lg:Unit->σ->HL} {w:σ->Lp σ ρ} {x:Lp σ ρ} {f:FR} {L:HL} {s:σ} (hm:some (w s)=some x) (le:LX h n f L (sl () s) (Lg () s)):GN h n (λ_ _=>True) sl Lg w x f L:=eG hm () trivial le
theorem vbZ {σ ρ:Type} {sl:Unit->σ->FR} {Lg:Unit->σ->HL} {i:Nat} {ke:Exit->FR->HL->Prop} {o:ρ} {x:Lp σ ρ} {f:FR} {L:HL} {s:σ} (hm:some (.brk s)=some x) (le:LX h n f L (sl () s) (Lg () s)):GE h n (λ_ _=>True) sl Lg (some i) ke o x (.exit i) f L:=lR hm () trivial le
theorem fY {τ σ ρ:Type} {J:τ->σ->Prop} {sl:τ->σ->FR} {Lg:τ->σ->HL} {id:Option Nat} {ke:Exit->FR->HL->Prop} {o y:ρ} {x:Lp σ ρ} {f:FR} {L:HL} (hm:some (.ret y)=some x) (k:some y=some o->ke .ret f L):GE h n J sl Lg id ke o x .ret f L:=
 .r y (Option.some.inj hm).symm nofun (λ_ _=>nofun) λe=>k (by rw[e])
theorem vxt {τ σ ρ:Type} {J:τ->σ->Prop} {sl:τ->σ->FR} {Lg:τ->σ->HL} {id:Option Nat} {i:Nat} {ke:Exit->FR->HL->Prop} {o y:ρ} {x:Lp σ ρ} {f:FR} {L:HL} (hm:some (.ret y)=some x) (hi:(match id with | some j=>beq i j | none=>false)=false) (k:some y=some o->ke (.exit i) f L):GE h n J sl Lg id ke o x (.exit i) f L:=
 .r y (Option.some.inj hm).symm nofun (λj hj e=>by subst hj; cases e; simp only[Nat.beq_refl] at hi; cases hi) λe=>k (by rw[e])
theorem LX.le {f g:FR} {L L':HL} {fr:Fr} {hh:aF} (le:LX h n f L g L') (hk:bP h L) (l0:gA (fm n f.k) (hp h L) fr hh):bP h L'/\gA (fm n g.k) (hp h L') fr hh:=
 let ⟨h1,h2⟩:=le hk; ⟨h1,l0.trans h2⟩
theorem nU {τ σ ρ:Type} {id:Nat} {c:Code} {kn:FR->HL->Prop} {ke:Exit->FR->HL->Prop} {f:FR} {L:HL} {step:σ->Option (Lp σ ρ)} {fuel:Nat} {s0:σ} {k:σ->Option ρ} {o:ρ} (hm:after (aR step fuel s0) k=some o)
    (Lg:τ->σ->HL) (J:τ->σ->Prop) (sl:τ->σ->FR) (g0:τ) (i0:J g0 s0) (h0:LX h n f L (sl g0 s0) (Lg g0 s0))
    (round:∀g s x,J g s->step s=some x->VC P h n c (GN h n J sl Lg .go x) (GE h n J sl Lg (some id) ke o x) (sl g s) (Lg g s))
    (next:∀g s,J g s->k s=some o->kn (sl g s) (Lg g s)):VC P h n (.block id (.loop c)) kn ke f L:=by
  refine⟨λhkL=>xE ?_⟩
  obtain⟨out,hout,hk⟩:∃out,aR step fuel s0=some out/\((∃s,out= .brk s/\k s=some o)\/∃r,out= .ret r/\r=o):=by
    cases e:aR step fuel s0 with
    | none=>rw[e] at hm; cases hm
    | some out=>
      rw[e] at hm
      cases out with
      | go s=>cases hm
      | brk s=>exact⟨_,rfl,.inl ⟨s,rfl,hm⟩⟩
      | ret r=>exact⟨_,rfl,.inr ⟨r,rfl,Option.some.inj hm⟩⟩
  obtain⟨hk1,le1⟩:=h0 hkL
  refine H3 (λm fr' h'=>∃s,aR step m s=some out/\∃g,J g s/\bP h (Lg g s)/\gA (fm n (sl g s).k) (hp h (Lg g s)) fr' h') fuel ⟨s0,hout,g0,i0,hk1,le1⟩ ?_
  rintro m fr' h' ⟨s,hs,g,hj,hk2,hle⟩
  cases m with
  | zero=>cases hs
  | succ m=>
    simp only[aR] at hs
    cases e:step s with
    | none=>rw[e] at hs; cases hs
    | some x=>
      rw[e] at hs
      refine hle.aw (((round g s x hj e).r hk2).mono ?_)
      rintro ex fr'' h'' ⟨f1,L1,hk3,le3,q⟩
      cases ex with
      | normal=>
        obtain⟨s',g',rfl,j',le4⟩:=q.g
        obtain⟨hk5,le5⟩:=le4.le hk3 le3
        exact⟨m,Nat.lt_succ_self m,s',hs,g',j',hk5,le5⟩
      | exit i=>
        cases q with
        | b i' hi he q=>
          cases hi; cases he
          obtain⟨s',g',rfl,j',le4⟩:=q.g
          obtain⟨hk5,le5⟩:=le4.le hk3 le3
          cases hs
          simp only[Seq,HZ,if_true]
          rcases hk with⟨s2,e2,hk⟩ | ⟨r,e2,_⟩
          . cases e2; exact⟨_,_,hk5,le5,next _ _ j' hk⟩
          . cases e2
        | r y hx h1 h2 k2=>
          subst hx
          have:i≠id:=λe=>h2 id rfl (by rw[e])
          cases hs
          simp only[Seq,HZ,this,if_false]
          rcases hk with⟨s2,e2,_⟩ | ⟨r',e2,e3⟩
          . cases e2
          . cases e2; exact⟨_,_,hk3,le3,k2 e3⟩
      | goto l=>
        cases q with
        | b i' hi he q=>cases he
        | r y hx h1 h2 k2=>
          subst hx; cases hs
          rcases hk with⟨s2,e2,_⟩ | ⟨r',e2,e3⟩
          . cases e2
          . cases e2; exact⟨_,_,hk3,le3,k2 e3⟩
      | ret=>
        cases q with
        | b i' hi he q=>cases he
        | r y hx h1 h2 k2=>
          subst hx; cases hs
          rcases hk with⟨s2,e2,_⟩ | ⟨r',e2,e3⟩
          . cases e2
          . cases e2; exact⟨_,_,hk3,le3,k2 e3⟩
      | panic c=>
        cases q with
        | b i' hi he q=>cases he
        | r y hx h1 h2 k2=>
          subst hx; cases hs
          rcases hk with⟨s2,e2,_⟩ | ⟨r',e2,e3⟩
          . cases e2
          . cases e2; exact⟨_,_,hk3,le3,k2 e3⟩
      | outgrown=>
        cases q with
        | b i' hi he q=>cases he
        | r y hx h1 h2 k2=>
          subst hx; cases hs
          rcases hk with⟨s2,e2,_⟩ | ⟨r',e2,e3⟩
          . cases e2
          . cases e2; exact⟨_,_,hk3,le3,k2 e3⟩
theorem oI {τ σ ρ:Type} {c:Code} {kn:FR->HL->Prop} {ke:Exit->FR->HL->Prop} {f:FR} {L:HL} {m:Option (Lp σ ρ)} {k:σ->Option ρ} {o:ρ} (hm:after m k=some o)
    (Lg:τ->σ->HL) (J:τ->σ->Prop) (sl:τ->σ->FR)
    (hc:∀x,m=some x->VC P h n c (GN h n J sl Lg .brk x) (GE h n J sl Lg none ke o x) f L)
    (next:∀g s,J g s->k s=some o->kn (sl g s) (Lg g s)):VC P h n c kn ke f L:=by
  refine⟨λhkL=> ?_⟩
  cases e:m with
  | none=>rw[e] at hm; cases hm
  | some x=>
    rw[e] at hm
    refine((hc x e).r hkL).mono ?_
    have fin:∀ {ex:Exit} {f1:FR} {L1:HL},GE h n J sl Lg none ke o x ex f1 L1->ex≠ .normal/\ke ex f1 L1:=by
      intro ex f1 L1 q
      cases q with
      | b i hi he q=>cases hi
      | r y hx h1 h2 k2=>subst hx; exact⟨h1,k2 (Option.some.inj hm)⟩
    rintro ex fr'' h'' ⟨f1,L1,hk3,le3,q⟩
    cases ex with
    | normal=>
      obtain⟨s',g',rfl,j',le4⟩:=q.g
      obtain⟨hk5,le5⟩:=le4.le hk3 le3
      exact⟨_,_,hk5,le5,next _ _ j' hm⟩
    | exit i=>exact⟨_,_,hk3,le3,(fin q).2⟩
    | goto l=>exact⟨_,_,hk3,le3,(fin q).2⟩
    | ret=>exact⟨_,_,hk3,le3,(fin q).2⟩
    | panic c=>exact⟨_,_,hk3,le3,(fin q).2⟩
    | outgrown=>exact⟨_,_,hk3,le3,(fin q).2⟩
theorem aE3 {τ σ ρ:Type} {id:Nat} {c:Code} {kn:FR->HL->Prop} {ke:Exit->FR->HL->Prop} {f:FR} {L:HL} {step:σ->Option (Lp σ ρ)} {fuel:Nat} {s0:σ} {k:σ->Option ρ} {o:ρ} (hm:after (aR step fuel s0) k=some o)
    (Lg:τ->σ->HL) (sl:τ->σ->FR) (g0:τ) (h0:LX h n f L (sl g0 s0) (Lg g0 s0))
    (round:∀g s x,step s=some x->VC P h n c (GN h n (λ_ _=>True) sl Lg .go x) (GE h n (λ_ _=>True) sl Lg (some id) ke o x) (sl g s) (Lg g s))
    (next:∀g s,k s=some o->kn (sl g s) (Lg g s)):VC P h n (.block id (.loop c)) kn ke f L:=
  nU hm Lg (λ_ _=>True) sl g0 trivial h0 (λg s x _=>round g s x) (λg s _=>next g s)
theorem aE4 {τ σ ρ:Type} {c:Code} {kn:FR->HL->Prop} {ke:Exit->FR->HL->Prop} {f:FR} {L:HL} {m:Option (Lp σ ρ)} {k:σ->Option ρ} {o:ρ} (hm:after m k=some o)
    (Lg:τ->σ->HL) (sl:τ->σ->FR)
    (hc:∀x,m=some x->VC P h n c (GN h n (λ_ _=>True) sl Lg .brk x) (GE h n (λ_ _=>True) sl Lg none ke o x) f L)
    (next:∀g s,k s=some o->kn (sl g s) (Lg g s)):VC P h n c kn ke f L:=
  oI hm Lg (λ_ _=>True) sl hc (λg s _=>next g s)
theorem z6 {f:FR} {L:HL} (e:jC) (t:Nat) (v:AV) (hv:bD (hp h L) (lk n f.k t) v) (hk:bP h L):bP h ((none,e)::L)/\gA (fm n (FR.c t v f).k) (hp h ((none,e)::L)) (fm n f.k) (hp h L):=⟨bP.none hk,gA.put (iJ.refl _) hv⟩
theorem ZV {f:FR} {L:HL} {k:bT} {ty:TypeId} {cs:List AV} (e:jC) (i:Nat) (cs':List AV) (hi:((none,e)::L)[i]? =some (some k,.obj ty cs)) (hl:cS (hp h L) cs cs') (hk:bP h L):
    bP h (((none,e)::L).set i (some k,.obj ty cs'))/\gA (fm n f.k) (hp h (((none,e)::L).set i (some k,.obj ty cs'))) (fm n f.k) (hp h L):=gA.obj (L:=(none,e)::L) i cs' (bP.none hk) hi hl
def CC:Nat->List AV->FR
 | _,[]=>.nil
 | i,x::xs=>.c i x (CC (i+1) xs)
theorem GR:∀(i:Nat) (xs:List AV),(CC i xs).k=BV i xs
 | _,[]=>rfl
 | i,x::xs=>by simp only[CC,BV,FR.k,GR (i+1) xs]
structure RV (P:Program) (rs:List ResultVar) (Q:AV->aF->Prop) (h:aF) (n:Nat) (e:Exit) (f:FR) (L:HL):Prop where
 r:bP h L->QE (dW P rs Q) e (fm n f.k) (hp h L)
theorem F1 {f:FuncId} {fn:Func} {c:Code} {args:List AV} {Q:AV->aF->Prop} {L:HL} (hk:bP h L) (n:Nat) (rs:List ResultVar) (hf:P.funcs[f]? =some fn) (hb:fn.body=some c) (hn:fn.ntmps=n) (hr:fn.results.toList=rs) (hle:ble args.length n=true)
    (hc:VC P h n c (RV P rs Q h n .normal) (RV P rs Q h n) (CC 0 args) L):aM P f args (hp h L) Q:=by
  have hc:=hc.r hk
  rw[GR] at hc
  refine AU n rs hf hb hn hr hle (ZO (hc.mono ?_))
  rintro e fr hh ⟨f',L',hk,le,q⟩
  have fin:RV P rs Q h n e f' L'->QE (dW P rs Q) e fr hh:=λq=>let ⟨fr2,h2,le2,q2⟩:=q.r hk; ⟨fr2,h2,le.trans le2,q2⟩
  cases e with
  | normal=>exact fin q
  | exit i=>exact fin q
  | goto l=>exact fin q
  | ret=>exact fin q
  | panic c=>exact fin q
  | outgrown=>exact fin q
theorem fQ {f:FuncId} {fn:Func} {c:Code} {args:List AV} {Q:AV->aF->Prop} (n:Nat) (rs:List ResultVar) (hf:P.funcs[f]? =some fn) (hb:fn.body=some c) (hn:fn.ntmps=n) (hr:fn.results.toList=rs) (hle:ble args.length n=true)
    (hc:VC P h n c (RV P rs Q h n .normal) (RV P rs Q h n) (CC 0 args) []):aM P f args h Q:=F1 (L:=[]) trivial n rs hf hb hn hr hle hc
theorem vr {rs:List ResultVar} {Q:AV->aF->Prop} {e:Exit} {f:FR} {L:HL} (k:bP h L->dW P rs Q e (fm n f.k) (hp h L)):RV P rs Q h n e f L:=⟨λhk=>QE.mk gA.rfl' (k hk)⟩
theorem vrl {rs:List ResultVar} {Q:AV->aF->Prop} {e:Exit} {f:FR} {L:HL} (k:bP h L->QE (dW P rs Q) e (fm n f.k) (hp h L)):RV P rs Q h n e f L:=⟨k⟩
theorem GS {L:HL} (hk:bP h L):iJ h (hp h L):=(aU (nil_sublist _) hk).1
theorem eH {t:Nat} {y:AV} {f:FR} {L:HL} {e:Exit} (hx:lk n f.k t=y) (he:e= .ret\/e= .normal:=by first | exact .inl rfl | exact .inr rfl):RV P [.tmp t] (λr h'=>r=y/\h'=h) h n e f L:=
 vr λhk=>dW.of1 he (gQ _ _ y hx) (GS hk) (bD.refl _ _) ⟨rfl,rfl⟩
theorem vr2 {t u:Nat} {y z:AV} {f:FR} {L:HL} {e:Exit} (hx:lk n f.k t=y) (hz:lk n f.k u=z) (he:e= .ret\/e= .normal:=by first | exact .inl rfl | exact .inr rfl):RV P [.tmp t,.tmp u] (λr h'=>r= .tup [y,z]/\h'=h) h n e f L:=
 vr λhk=>dW.of2 he (gQ _ _ y hx) (gQ _ _ z hz) (GS hk) (bD.refl _ _) (bD.refl _ _) ⟨rfl,rfl⟩
theorem AG.mono {ops:Array Oper} {fs:List (Nat×Option bT×jC)} {K K':Fr->aF->Prop} (hk:∀fr h,K fr h->K' fr h):∀ {m:Nat} {S:Array Bool} {fr:Fr} {h:aF},AG P ops fs K m S fr h->AG P ops fs K' m S fr h
  | 0,_,_,_,⟨h1,h2⟩=>⟨h1,hk _ _ h2⟩
  | m + 1, S, fr, h, ⟨h1, h2⟩ => ⟨fun e => hk _ _ (h1 e), fun i hi o ho => by
      rcases h2 i hi o ho with⟨x,a,b⟩ | ⟨a,b⟩
      . exact .inl ⟨x,a,AG.mono hk b⟩
      . exact .inr ⟨a,b.mono λx h' q=>⟨q.1,AG.mono hk q.2⟩⟩⟩
variable {q:Bool} {K:FR->HL->Prop} {f:FR} {L:HL} {dst:Option Tmp} {ty:TypeId} {pos:String} {dL:Array Edge} {ρ:Type} {r:ρ}
theorem qk {K:FR->HL->Prop} {f:FR} {L:HL} {hh:aF} (hk:bP h L) (e:hh=hp h L) (k:K f L):QK h n K (fm n f.k) hh:=by subst e; exact QK.of hk k
theorem vn {op:Op} {x:AV} (ho:bP h L->eB P ⟨dst,op,ty,pos,dL,none⟩ x (fm n f.k) (hp h L)) (k:K (f.put dst x) L):VN q P h n ⟨dst,op,ty,pos,dL,none⟩ K f L:=
 ⟨λ_ hk=>⟨x,ho hk,k⟩,λ_ hk=>(ho hk).mono λx' h' e=>by obtain⟨rfl,rfl⟩:=e; exact QK.of hk k⟩
theorem ve {o:Oper} (ho:bP h L->jG P o (λx h'=>QK h n K (fm n (f.put o.dst x).k) h') (fm n f.k) (hp h L)):VN false P h n o K f L:=⟨nofun,λ_=>ho⟩
theorem ZW {K:AV->aF->Prop} {o:Oper} {x:AV} {fr:Fr} {hh:aF} (ho:eB P o x fr hh) (k:K x hh):jG P o K fr hh:=ho.mono λx' h' e=>by obtain⟨rfl,rfl⟩:=e; exact k
theorem CD {K:AV->aF->Prop} {o:Oper} {h1 h2:aF} {t:Nat} (v:AV) (hs:iJ h2 h1) (hv:bD h2 (lk n f.k t) v) (ho:jG P o K (fm n (kp f.k t v)) h2):jG P o K (fm n f.k) h1:=by
 intro E w a r hva Nx Qx hn
 obtain⟨E',k,r'⟩:=r.drop hs
 refine ho E' w a r' (λy hy=> ?_) Nx Qx λx u w' E'' h' k'=>hn x u w' E'' h' (k.trans k')
 have h1:=kO k _ _ (hva y hy)
 rw[bF] at h1 ⊢
 cases y with
 | tmp s=>
  simp only[dB] at h1 ⊢
  by_cases e:t=s
  ·subst e
   have h3:=hv E' w _ r' h1
   rw[lB]
   split
   ·rw[lN]; exact h3
   ·simp only[VR]
  ·rw[lB] at h1 ⊢
   rw[pO _ _ e]; exact h1
 | const v=>exact h1
 | global g=>exact h1
 | func g=>exact h1
theorem vz {id:Nat} {l:List Oper} {kn:FR->HL->Prop} (fs:List (Nat×Option bT×jC)) (hm:P.follows .mixedOrders=true) (hI:bP h L->fV fs (Array.replicate l.length false) (hp h L))
    (hl:bP h L->rW P l.toArray fs (QK h n kn) l.length (Array.replicate l.length false) (fm n f.k) (hp h L)):VD P h n id l.toArray kn f L:=
  ⟨λhk=>Q0 (Q:=λe fr hh=>e= .normal/\QK h n kn fr hh) fs hm (hI hk) λhi=>(AG.mono λ_ _ q=>⟨rfl,q⟩) (hl hk hi)⟩
theorem vi {b:Bool} {X Y:Prop} {x y:Option ρ} (hm:(if b then x else y)=some r) (ht:b=true->x=some r->X) (hf:b=false->y=some r->Y):LG b X Y:=by
 cases b
 ·exact hf rfl (by simpa using hm)
 ·exact ht rfl (by simpa using hm)
theorem vt {b:Bool} {X Y:Prop} (hb:b=true) (k:X):LG b X Y:=by subst hb; exact k
theorem vf {b:Bool} {X Y:Prop} (hb:b=false) (k:Y):LG b X Y:=by subst hb; exact k
theorem YD {b:Bool} {X Y:Prop} {k:Option ρ} (hm:grd b k=some r) (hx:b=true->k=some r->X):LG b X Y:=let ⟨h1,h2⟩:=pP hm; vt h1 (hx h1 h2)
theorem vx {α:Type} {c:α->List AV} {xs:List α} {i:Int} {kk:α->Option ρ} {a b:Operand} {t:TypeId} {tag:Option bT} {sz:Nat} {m:IntKind} (hm:(ix xs i).bind kk=some r) (he:nN P t=some sz) (ha:dB n f.k a= .sl tag sz (xs.map c)) (hb:dB n f.k b= .sc (.int m i))
    (k:∀x,ix xs i=some x->kk x=some r->K (f.put dst (.rp tag (c x))) L):VN q P h n ⟨dst,.indexAddr t a b,ty,pos,dL,none⟩ K f L:=
  let ⟨x,h1,h2⟩:=aD hm; vn (λ_=>lV h1 he ha hb) (k x h1 h2)
theorem vl {a:Operand} {t:TypeId} {p:bT} {off:Nat} {oty:TypeId} {cs:List AV} {ag:Bool} {m:Nat} (i:Nat) (x:AV) (ht:lZ P t=some (ag,m)) (ha:dB n f.k a= .ptr p off) (hi:L[i]? =some (some p,.obj oty cs)) (hx:DO ag m (cs.drop off)=some x) (k:K (f.put dst x) L):
    VN q P h n ⟨dst,.load t a,ty,pos,dL,none⟩ K f L:=vn (λhk=>gO x ht ha (aW i hk hi) hx) k
theorem va {a:Operand} {t:TypeId} {tag:Option bT} {cs:List AV} {ag:Bool} {m:Nat} (x:AV) (ht:lZ P t=some (ag,m)) (ha:dB n f.k a= .rp tag cs) (hx:DO ag m cs=some x) (k:K (f.put dst x) L):
    VN q P h n ⟨dst,.load t a,ty,pos,dL,none⟩ K f L:=vn (λ_=>l8 x ht ha hx) k
theorem cU {α:Type} {e:α->List AV} {xs:List α} {a:Operand} {t:TypeId} {tag:Option bT} {sz:Nat} (ht:vY P t=some true) (ha:dB n f.k a= .sl tag sz (xs.map e)) (k:K (f.put dst (.sc (.int .i64 xs.length))) L):
    VN q P h n ⟨dst,.call { callee:=.builtin .len,args:= #[a],argTypes:= #[t]},ty,pos,dL,none⟩ K f L:=vn (λ_=>xN ht ha) k
theorem vk {α:Type} {m:Option α} {kk:α->Option ρ} {e:α->AV} {fid:FuncId} {g:Operand} {args:Array Operand} {ts:Array TypeId} {caps az:List AV} (hc:∀ {y:α} (h:aF),m=some y->aM P fid az h (λr h'=>r=e y/\h'=h)) (hb:aP P fid=true) (hm:m.bind kk=some r)
    (hg:dB n f.k g= .fn (.func fid) caps) (ha:args.toList.map (dB n f.k)++caps=az) (k:∀y,kk y=some r->K (f.put dst (e y)) L):
    VN q P h n ⟨dst,.call { callee:=.value g,args:=args,argTypes:=ts},ty,pos,dL,none⟩ K f L:=
  let ⟨_,h1,h2⟩:=aD hm; vn (λ_=>bV (hc _ h1) hg hb ha) (k _ h2)
theorem val {t:TypeId} {zs:List Value} (cs:List AV) (hz:rV P t=some zs) (ho:zs.all (·.oneCell')=true) (hcs:zs.map AV.sc=cs) (k:∀q:bT,K (f.put dst (.ptr q 0)) ((some q,.obj t cs)::L)):VN false P h n ⟨dst,.alloc t,ty,pos,dL,none⟩ K f L:=
 ve λhk=>bG cs hk hz ho hcs λq hk'=>qk hk' rfl (k q)
end
section
variable {P:Program} {h:aF} {n:Nat}
theorem bU {q:Bool} {K:FR->HL->Prop} {f:FR} {L:HL} {dst:Option Tmp} {ty:TypeId} {pos:String} {dL:Array Edge} {op:Op} {x:AV} (ho:eB P ⟨dst,op,ty,pos,dL,none⟩ x (fm n f.k) (hp h L)) (k:K (f.put dst x) L):VN q P h n ⟨dst,op,ty,pos,dL,none⟩ K f L:=vn (λ_=>ho) k
theorem dY {q:Bool} {K:FR->HL->Prop} {f:FR} {L:HL} {dst:Option Tmp} {ty:TypeId} {pos:String} {dL:Array Edge} {a:Operand} {t:TypeId} {g:Nat} {p:bT} {off o s:Nat} (hf:lU P t g=some (o,s)) (hs:beq s 0=false) (ha:dB n f.k a= .ptr p off) (k:K (f.put dst (.ptr p (off+o))) L):VN q P h n ⟨dst,.fieldAddr t a g,ty,pos,dL,none⟩ K f L:=vn (λ_=>L5 hf hs ha) k
theorem l4 {q:Bool} {K:FR->HL->Prop} {f:FR} {L:HL} {dst:Option Tmp} {ty:TypeId} {pos:String} {dL:Array Edge} {a:Operand} {p:bT} {off:Nat} (ha:dB n f.k a= .ptr p off) (k:K (f.put dst (.ptr p off)) L):VN q P h n ⟨dst,.nilCheck a,ty,pos,dL,none⟩ K f L:=vn (λ_=>L8 ha) k
theorem gZ {K:FR->HL->Prop} {f:FR} {L:HL} {dst:Option Tmp} {ty:TypeId} {pos:String} {dL:Array Edge} {t:TypeId} {x:Operand} {cs:List AV} (hc:cellsOf (dB n f.k x)=some cs) (ho:cs.all gN=true) (k:∀q:bT,bP h ((some q,.obj t cs)::L)->K (f.put dst (.ptr q 0)) ((some q,.obj t cs)::L)):VN false P h n ⟨dst,.box t x,ty,pos,dL,none⟩ K f L:=ve λhk=>TK hk hc ho λq hq=>qk hq rfl (k q hq)
theorem fO {σ ρ:Type} {c:Code} {kn:FR->HL->Prop} {ke:Exit->FR->HL->Prop} {f:FR} {L:HL} {m:Option (Lp σ ρ)} {k:σ->Option ρ} {o:ρ} (hm:after m k=some o) (Lg:σ->HL) (sl:σ->FR)
 (hc:∀x,m=some x->VC P h n c (GN h n (λ_ _=>True) (λ_:Unit=>sl) (λ_=>Lg) .brk x) (GE h n (λ_ _=>True) (λ_:Unit=>sl) (λ_=>Lg) none ke o x) f L) (next:∀(g:Unit) s,k s=some o->kn (sl s) (Lg s)):VC P h n c kn ke f L:=aE4 hm (λ_:Unit=>Lg) (λ_=>sl) hc next
theorem jS {σ ρ:Type} {id:Nat} {c:Code} {kn:FR->HL->Prop} {ke:Exit->FR->HL->Prop} {f:FR} {L:HL} {step:σ->Option (Lp σ ρ)} {fuel:Nat} {s0:σ} {k:σ->Option ρ} {o:ρ} (hm:after (aR step fuel s0) k=some o) (Lg:σ->HL) (sl:σ->FR) (h0:LX h n f L (sl s0) (Lg s0))
 (round:∀(g:Unit) s x,step s=some x->VC P h n c (GN h n (λ_ _=>True) (λ_:Unit=>sl) (λ_=>Lg) .go x) (GE h n (λ_ _=>True) (λ_:Unit=>sl) (λ_=>Lg) (some id) ke o x) (sl s) (Lg s)) (next:∀(g:Unit) s,k s=some o->kn (sl s) (Lg s)):VC P h n (.block id (.loop c)) kn ke f L:=aE3 hm (λ_:Unit=>Lg) (λ_=>sl) () h0 round next
end
section
variable {P:Program} {h:aF} {n:Nat} {σ ρ:Type} {sl:Unit->σ->FR} {Lg:Unit->σ->HL} {w:σ->Lp σ ρ} {x:Lp σ ρ} {f:FR} {s:σ} {i:Nat} {ke:Exit->FR->HL->Prop} {o:ρ}
theorem gq0 (hm:some (w s)=some x) (hf:FT (hp h (Lg () s)) n f.k (sl () s).k:=by exact .nil):GN h n (λ_ _=>True) sl Lg w x f (Lg () s):=eG hm () trivial (lx hf)
theorem n5 (hm:some (w s)=some x) (hf:FT (hp h (Lg () s)) n f.k (sl () s).k:=by exact .cons (bD.refl _ _) .nil):GN h n (λ_ _=>True) sl Lg w x f (Lg () s):=eG hm () trivial (lx hf)
theorem wQ (hm:some (w s)=some x) (hf:FT (hp h (Lg () s)) n f.k (sl () s).k:=by exact .k2 .nil):GN h n (λ_ _=>True) sl Lg w x f (Lg () s):=eG hm () trivial (lx hf)
theorem LH (hm:some (.brk s)=some x) (hf:FT (hp h (Lg () s)) n f.k (sl () s).k:=by exact .k2 .nil):GE h n (λ_ _=>True) sl Lg (some i) ke o x (.exit i) f (Lg () s):=lR hm () trivial (lx hf)
theorem hH (hm:some (w s)=some x) (hf:FT (hp h (Lg () s)) n f.k (sl () s).k:=by exact .k3 .nil):GN h n (λ_ _=>True) sl Lg w x f (Lg () s):=eG hm () trivial (lx hf)
theorem GT (hm:some (.brk s)=some x) (hf:FT (hp h (Lg () s)) n f.k (sl () s).k:=by exact .k3 .nil):GE h n (λ_ _=>True) sl Lg (some i) ke o x (.exit i) f (Lg () s):=lR hm () trivial (lx hf)
theorem fZ (hm:some (w s)=some x) (hf:FT (hp h (Lg () s)) n f.k (sl () s).k:=by exact .k4 .nil):GN h n (λ_ _=>True) sl Lg w x f (Lg () s):=eG hm () trivial (lx hf)
theorem vB (hm:some (.brk s)=some x) (hf:FT (hp h (Lg () s)) n f.k (sl () s).k:=by exact .k4 .nil):GE h n (λ_ _=>True) sl Lg (some i) ke o x (.exit i) f (Lg () s):=lR hm () trivial (lx hf)
theorem kN (hm:some (w s)=some x) (hf:FT (hp h (Lg () s)) n f.k (sl () s).k:=by exact .k5 .nil):GN h n (λ_ _=>True) sl Lg w x f (Lg () s):=eG hm () trivial (lx hf)
theorem YE (hm:some (.brk s)=some x) (hf:FT (hp h (Lg () s)) n f.k (sl () s).k:=by exact .k5 .nil):GE h n (λ_ _=>True) sl Lg (some i) ke o x (.exit i) f (Lg () s):=lR hm () trivial (lx hf)
theorem mX (hm:some (w s)=some x) (hf:FT (hp h (Lg () s)) n f.k (sl () s).k:=by exact .k6 .nil):GN h n (λ_ _=>True) sl Lg w x f (Lg () s):=eG hm () trivial (lx hf)
theorem bq6 (hm:some (.brk s)=some x) (hf:FT (hp h (Lg () s)) n f.k (sl () s).k:=by exact .k6 .nil):GE h n (λ_ _=>True) sl Lg (some i) ke o x (.exit i) f (Lg () s):=lR hm () trivial (lx hf)
theorem zV (hm:some (w s)=some x) (hf:FT (hp h (Lg () s)) n f.k (sl () s).k:=by exact .k7 .nil):GN h n (λ_ _=>True) sl Lg w x f (Lg () s):=eG hm () trivial (lx hf)
theorem bq7 (hm:some (.brk s)=some x) (hf:FT (hp h (Lg () s)) n f.k (sl () s).k:=by exact .k7 .nil):GE h n (λ_ _=>True) sl Lg (some i) ke o x (.exit i) f (Lg () s):=lR hm () trivial (lx hf)
theorem MI (hm:some (w s)=some x) (hf:FT (hp h (Lg () s)) n f.k (sl () s).k:=by exact .k8 .nil):GN h n (λ_ _=>True) sl Lg w x f (Lg () s):=eG hm () trivial (lx hf)
theorem bq8 (hm:some (.brk s)=some x) (hf:FT (hp h (Lg () s)) n f.k (sl () s).k:=by exact .k8 .nil):GE h n (λ_ _=>True) sl Lg (some i) ke o x (.exit i) f (Lg () s):=lR hm () trivial (lx hf)
theorem gq9 (hm:some (w s)=some x) (hf:FT (hp h (Lg () s)) n f.k (sl () s).k:=by exact .k9 .nil):GN h n (λ_ _=>True) sl Lg w x f (Lg () s):=eG hm () trivial (lx hf)
theorem aE8 (hm:some (.brk s)=some x) (hf:FT (hp h (Lg () s)) n f.k (sl () s).k:=by exact .k11 .nil):GE h n (λ_ _=>True) sl Lg (some i) ke o x (.exit i) f (Lg () s):=lR hm () trivial (lx hf)
end
def avt (t:Option bT) (off n:Nat):AV:=match t with
 | none=>.any
 | some k=>.view k off n
section ops
variable {P:Program} {h h0:aF} {L:HL} {n:Nat} {kvs:KV} {ty:TypeId} {pos:String} {dL:Array Edge}
theorem MJ {dst:Option Tmp} {s:Nat} {lo:Operand} {t:TypeId} {g:dE} {m sz:Nat} {q:IntKind} {i:Int} (hi:(decide (0<=i) && decide (i < (m:Int)))=true) (ht:nN P t=some sz) (ok:bK g sz m) (ha:lk n kvs s=aw g.t g.n g.cap) (hb:dB n kvs lo= .sc (.int q i)):
    eB P ⟨dst,.slice t (.tmp s) (some lo) none none,ty,pos,dL,none⟩ (avt g.t (i.toNat*sz) (m - i.toNat)) (fm n kvs) h:=by
  simp only[and_eq_true,decide_eq_true_eq] at hi
  rw[ok.eqn] at ha
  cases ht':g.t with
  | none=>have:=ok.nil ht'; omega
  | some k=>
    rw[ht'] at ha
    have hT:DT P t=true:=by simp[DT,ht]
    refine sK (s:=s) (.view k 0 m) (by rw[ha]; exact B7 _ _ _ _) (jZ (c:=0<=i/\i < (m:Int)/\(m:Int)<=m) ?_ ⟨hi.1,hi.2,by omega⟩)
    have e:dB n (kp kvs s (.view k 0 m)) (.tmp s)= .view k 0 m:=D7 ha (by simp[aw])
    have e2:dB n (kp kvs s (.view k 0 m)) lo= .sc (.int q i):=GI ha (by simp[aw]) hb
    simp only[pv,bF,e,map_some,e2,map_none,BP,ht,bind_some,oK,lC,hT,if_true,avt,Nat.zero_add,Int.toNat_natCast]
theorem MK {dst:Option Tmp} {s:Nat} {hi:Operand} {t:TypeId} {g:dE} {m sz:Nat} {q:IntKind} {i:Int} (hi':(decide (0<=i) && decide (i<=(m:Int)))=true) (ok:bK g sz m) (ht:nN P t=some sz) (ha:dB n kvs (.tmp s)=aw g.t g.n g.cap) (hb:dB n kvs hi= .sc (.int q i)):
    eB P ⟨dst,.slice t (.tmp s) none (some hi) none,ty,pos,dL,none⟩ (aw g.t i.toNat g.cap) (fm n kvs) h:=by
  have hn:g.t=none->g.n=0:=λe=>ok.eqn.trans (ok.nil e)
  have hc:g.n<=g.cap:=by rw[ok.eqn]; exact ok.le
  rw[<- ok.eqn] at hi'
  obtain⟨tg,n0,cap,sp⟩:=g
  simp only at hn hc ha hi' ⊢
  simp only[and_eq_true,decide_eq_true_eq] at hi'
  obtain⟨e,hu,he⟩:=gM ht
  cases tg with
  | none=>
    have:=hn rfl
    have hi0:i=0:=by omega
    subst hi0
    have hT:DT P t=true:=by simp[DT,ht]
    have ha:dB n kvs (.tmp s)= .e0:=ha
    refine jZ (c:=(0:Int)=0/\(0:Int)=0) ?_ ⟨rfl,rfl⟩
    simp only[pv,bF,ha,map_some,hb,map_none,BP,ht,bind_some,oK,lC,hT,if_true]
    rfl
  | some k=>
    have ha:dB n kvs (.tmp s)= .vw k n0 cap:=ha
    refine dZ (x:=.vw k i.toNat cap) (λE w ac r hv=> ?_) ⟨rfl,rfl⟩
    have va:=hv (.tmp s) (by simp[Op.operands])
    have vb:=hv hi (by simp[Op.operands])
    rw[bF,ha] at va; rw[bF,hb] at vb
    simp only[VR] at va vb
    obtain⟨g,hg,e1,e2,e3⟩:=va
    have hbd:=gU (P:=P) (w:=w) (sl:=true) (len:=n0) (cap:=cap) (l:=0) (h:=i) (lo:=none) (hi:=some (.sc (.int q i))) (lv:=none) (hv:=some (.int q i)) rfl rfl (E:=E) nofun (λ_=>rfl)
      (λx hx=>by cases hx; exact⟨_,rfl,by simp only[VR]⟩) nofun (by omega) hi'.1 (by omega)
    refine⟨.slice (some ⟨g,0,none⟩) i.toNat cap, ?_,by simp only[VR]; exact⟨g,hg,rfl,by omega,e3⟩⟩
    by_cases hz:cap=0
    . subst hz
      have hi0:i.toNat=0:=by omega
      simp[execOp,e1,vb,sliceAt,Instr.slice,run_underlying hu,hbd,cO he,hi0]
    . have:¬cap=(0:Int).toNat:=by simpa using hz
      simp[execOp,e1,vb,sliceAt,Instr.slice,run_underlying hu,hbd,cO he,hz,Addr.add]
theorem TQ {K:AV->aF->Prop} {α:Type} {c:α->List AV} {xs:List α} {dst:Option Tmp} {t e:TypeId} {x:Operand} {g:dE} {sz:Nat} {zs:List Value} {i:Int} (p:Nat) (hk:bP h0 L) (hi:(decide (0<=i) && decide (i < (xs.length:Int)))=true) (hc:∀y,(c y).length=sz) (ok:bK g sz xs.length)
    (hu:P.underlying t=some (.slice e)) (hz:rV P e=some zs) (hzl:zs.length=sz) (hzo:zs.all (·.oneCell')=true) (ha:dB n kvs x=avt g.t (i.toNat*sz) (xs.length - i.toNat)) (hL:L[p]? =some (g.t,.obj e (fl c xs g.sp)))
    (k:∀sp:List AV,bK ⟨g.t,i.toNat,g.cap,sp⟩ sz (xs.take i.toNat).length->bP h0 (L.set p (g.t,.obj e (fl c (xs.take i.toNat) sp)))->K (.tup []) (hp h0 (L.set p (g.t,.obj e (fl c (xs.take i.toNat) sp))))):
    jG P ⟨dst,.call { callee:=.builtin .clear,args:= #[x],argTypes:= #[t]},ty,pos,dL,none⟩ K (fm n kvs) (hp h0 L):=by
  simp only[and_eq_true,decide_eq_true_eq] at hi
  obtain⟨i1,i2⟩:=hi
  have hil:i.toNat < xs.length:=by omega
  cases ht':g.t with
  | none=>have:=ok.nil ht'; omega
  | some q=>
    rw[ht'] at ha hL k
    have hq:=aW p hk hL
    have hfl:(fl c xs g.sp).length=xs.length*sz+g.sp.length:=MC hc xs g.sp
    have hm:(xs.length - i.toNat)*sz+i.toNat*sz=xs.length*sz:=by rw[<- Nat.add_mul]; congr 1; omega
    have htk:(xs.take i.toNat).length=i.toNat:=by rw[List.length_take]; omega
    have key:=k (List.replicate ((xs.length - i.toNat)*sz) .any++g.sp) ⟨htk.symm,nofun,by rw[htk]; exact Nat.le_trans (Nat.le_of_lt hil) ok.le,ok.mx,by
      rw[htk,List.length_append,List.length_replicate]
      have:=ok.len
      simp only
      omega⟩
    obtain⟨h1,h2,_⟩:=kT (e':=.obj e (fl c (xs.take i.toNat) (List.replicate ((xs.length - i.toNat)*sz) .any++g.sp))) p hk hL (.inl rfl)
    have key:=key h2
    rw[<- h1] at key
    intro E w a r hv Nx Qx hn
    have vx:=hv x (by simp[Op.operands,Call.operands])
    rw[bF,ha] at vx
    simp only[avt,VR] at vx
    obtain⟨gg,cap,hg,ex,hc1,hc2⟩:=vx
    obtain⟨g',cur,f1,f2,f3,f4⟩:=r.obj q e _ hq
    rw[hg] at f1; cases f1
    have hcl:xs.length*sz+g.sp.length=cur.size:=by rw[<- hfl]; simpa using cJ f3
    unfold rV at hz
    cases hinf:P.info? e with
    | none=>rw[hinf] at hz; simp at hz
    | some ii=>
    cases hzz:ii.zero with
    | none=>rw[hinf] at hz; simp[hzz] at hz
    | some z=>
    rw[hinf] at hz
    simp only[bind_some,hzz,map_some,Option.some.injEq] at hz
    subst hz
    have hzs:z.cells.size=sz:=by simpa using hzl
    have hzc:∀v∈(zeroCells z.cells (xs.length - i.toNat)).toList,v.oneCell'=true:=kA (List.all_eq_true.1 hzo)
    have hzn:(zeroCells z.cells (xs.length - i.toNat)).toList.length=(xs.length - i.toNat)*sz:=by rw[Array.length_toList,size_zeroCells,hzs]
    have hst:=run_storeCells_at P gg (i.toNat*sz) e (zeroCells z.cells (xs.length - i.toNat)).toList 0 cur w f2 (by rw[hzn]; omega) hzc
    rw[hzn] at hst
    simp only[Nat.add_zero] at hst
    have hspl:fl c (xs.take i.toNat) (List.replicate ((xs.length - i.toNat)*sz) .any++g.sp)=(fl c xs g.sp).take (i.toNat*sz)++List.replicate ((xs.length - i.toNat)*sz) .any++(fl c xs g.sp).drop (i.toNat*sz+(xs.length - i.toNat)*sz):=by
      have e1:(xs.map c).flatten=((xs.take i.toNat).map c).flatten++((xs.drop i.toNat).map c).flatten:=by
        rw[<- List.flatten_append,<- List.map_append,List.take_append_drop]
      have l1:((xs.take i.toNat).map c).flatten.length=i.toNat*sz:=by rw[mW hc,htk]
      have l2:(xs.map c).flatten.length=xs.length*sz:=mW hc xs
      unfold fl
      rw[show i.toNat*sz+(xs.length - i.toNat)*sz=(xs.map c).flatten.length from by rw[l2]; omega,List.drop_left]
      rw[e1,<- l1]
      simp only[List.append_assoc,List.take_left']
    have hv':cI E w (fl c (xs.take i.toNat) (List.replicate ((xs.length - i.toNat)*sz) .any++g.sp)) (cur.toList.take (i.toNat*sz)++(zeroCells z.cells (xs.length - i.toNat)).toList++cur.toList.drop (i.toNat*sz+(xs.length - i.toNat)*sz)):=by
      rw[hspl]
      exact cL (cL (fS _ f3) (sA _ hzn)) (jJ _ f3)
    have h1':∀v∈cur.toList.take (i.toNat*sz)++(zeroCells z.cells (xs.length - i.toNat)).toList++cur.toList.drop (i.toNat*sz+(xs.length - i.toNat)*sz),v.oneCell'=true:=by
      intro v hv
      rcases List.mem_append.1 hv with hv | hv
      . rcases List.mem_append.1 hv with hv | hv
        . exact f4 v (List.mem_of_mem_take hv)
        . exact hzc v hv
      . exact f4 v (List.mem_of_mem_drop hv)
    obtain⟨k1,k2⟩:=r.set_obj (cur:=(cur.toList.take (i.toNat*sz)++(zeroCells z.cells (xs.length - i.toNat)).toList++cur.toList.drop (i.toNat*sz+(xs.length - i.toNat)*sz)).toArray) hq hg
      (w':=w.setRow gg (cur.toList.take (i.toNat*sz)++(zeroCells z.cells (xs.length - i.toNat)).toList++cur.toList.drop (i.toNat*sz+(xs.length - i.toNat)*sz)).toArray)
      (setRow_heap w gg cur _ e _ f2) (λg' hg'=>setRow_other w gg g' _ hg') (by simp) rfl rfl rfl hv' h1'
    unfold wp
    have hpos:¬xs.length - i.toNat=0:=by omega
    have hzv:(zeroValue e).run P w= .ok z w:=by simp[zeroValue,typeInfo,hinf,hzz]
    have hrun:(clear_ #[t] ty #[.slice (some ⟨gg,i.toNat*sz,none⟩) (xs.length - i.toNat) cap]).run P w= .ok (.tuple #[]) (w.setRow gg (cur.toList.take (i.toNat*sz)++(zeroCells z.cells (xs.length - i.toNat)).toList++cur.toList.drop (i.toNat*sz+(xs.length - i.toNat)*sz)).toArray):=by
      simp[clear_,run_underlying hu,hzv,hst,hpos]
    have hex:(execOp a.eval ⟨dst,.call { callee:=.builtin .clear,args:= #[x],argTypes:= #[t]},ty,pos,dL,none⟩).run P w= .ok (.value (.tuple #[])) (w.setRow gg (cur.toList.take (i.toNat*sz)++(zeroCells z.cells (xs.length - i.toNat)).toList++cur.toList.drop (i.toNat*sz+(xs.length - i.toNat)*sz)).toArray):=by
      simp only[execOp,resolve,invoke,builtin,List.map_toArray,List.map_cons,List.map_nil,ex,Sem.run_bind,Sem.run_pure,Result.andThen_ok,hrun]
    rw[hex]
    exact hn (.tup []) (.tuple #[]) _ E _ k1 k2 (by simp only[VR]; exact⟨#[],rfl,by simp[cI]⟩) key
theorem qK {K:AV->aF->Prop} {α:Type} {c:α->List AV} {dst:Option Tmp} {t e:TypeId} {sz b:Nat} (hk:bP h0 L) (ht:lQ P t e sz b)
    (k:bP h0 ((none,.obj e (fl c ([]:List α) g0.sp))::L)->K (aw g0.t g0.n g0.cap) (hp h0 ((none,.obj e (fl c ([]:List α) g0.sp))::L))):
    jG P ⟨dst,.buildSlice t 0 #[],ty,pos,dL,none⟩ K (fm n kvs) (hp h0 L):=
  D2 rfl ht (k ⟨hk,nofun⟩)
end ops
end Go.Vm
namespace Go.Proofs.YtbbifdfldpfphaaGreat
open Go.Vm
abbrev eO (x:Int):List AV:=[.sc (.int .i64 x)]
abbrev GU (x:Bool):List AV:=[.sc (.bool x)]
abbrev f9 (x:Int):List AV:=[.sc (.int .u8 x)]
abbrev ZX (x:ByteArray):List AV:=[.sc (.string x)]
abbrev RA (x:List Int):List AV:=[.sl none 1 (map eO x)]
abbrev iF (x:List Int):List AV:=[.sl none 1 (map f9 x)]
structure dJ where
 Path:ByteArray
 Data:List Int
 deriving DecidableEq
def eL (x:dJ):List AV:=[.sc (.string x.Path),.sl none 1 (map f9 x.Data)]
abbrev EC (x:List dJ):List AV:=[.sl none 2 (map eL x)]
abbrev ED (x:List Bool):List AV:=[.sl none 1 (map GU x)]
structure iV where
 Do:Int
 N:Int
 Vol:Int
 Tree:List dJ
 Pick:List Bool
 deriving DecidableEq
def eF (x:iV):List AV:=[.sc (.int .i64 x.Do),.sc (.int .i64 x.N),.sc (.int .i64 x.Vol),.sl none 2 (map eL x.Tree),.sl none 1 (map GU x.Pick)]
abbrev RB (x:List iV):List AV:=[.sl none 5 (map eF x)]
structure cT where
 Path:ByteArray
 Size:Int
 Ids:List bH
 deriving DecidableEq
def bX (x:cT):List AV:=[.sc (.string x.Path),.sc (.int .i64 x.Size),.sl none 32 (map bC x.Ids)]
theorem wR:∀y,(bX y).length=3:=λy=>by first | rfl | simp[bX,bC,bH.len]
structure bE where
 Name:ByteArray
 Parts:List cT
 deriving DecidableEq
def bI (x:bE):List AV:=[.sc (.string x.Name),.sl none 3 (map bX x.Parts)]
structure aS where
 Vol:Int
 File:Int
 Off:Int
 Len:Int
 deriving DecidableEq
def aN (x:aS):List AV:=[.sc (.int .i64 x.Vol),.sc (.int .i64 x.File),.sc (.int .i64 x.Off),.sc (.int .i64 x.Len)]
theorem fL:∀y,(aN y).length=4:=λy=>by first | rfl | simp[aN,bC,bH.len]
structure aH where
 Seq:Int
 Man:bE
 Locs:List aS
 deriving DecidableEq
def bJ (x:aH):List AV:=[.sc (.int .i64 x.Seq),.sc (.string x.Man.Name),.sl none 3 (map bX x.Man.Parts),.sl none 4 (map aN x.Locs)]
theorem eP:∀y,(bJ y).length=4:=λy=>by first | rfl | simp[bJ,bC,bH.len]
structure aB where
 Id:bH
 Staged:Bool
 Data:List Int
 Locs:List aS
 deriving DecidableEq
def aK (x:aB):List AV:=bC x.Id++ [.sc (.bool x.Staged),.sl none 1 (map f9 x.Data),.sl none 4 (map aN x.Locs)]
theorem cZ:∀y,(aK y).length=35:=λy=>by first | rfl | simp[aK,bC,bH.len]
structure aT where
 Seq:Int
 Of:Int
 Locs:List aS
 deriving DecidableEq
def cH (x:aT):List AV:=[.sc (.int .i64 x.Seq),.sc (.int .i64 x.Of),.sl none 4 (map aN x.Locs)]
theorem gH:∀y,(cH y).length=3:=λy=>by first | rfl | simp[cH,bC,bH.len]
structure aQ where
 Pool:Int
 Epoch:Int
 State:Int
 Files:Int
 deriving DecidableEq
def dH (x:aQ):List AV:=[.sc (.int .i64 x.Pool),.sc (.int .i64 x.Epoch),.sc (.int .i64 x.State),.sc (.int .i64 x.Files)]
theorem eW:∀y,(dH y).length=4:=λy=>by first | rfl | simp[dH,bC,bH.len]
structure aA where
 Seq:Int
 Snaps:List aH
 Chunks:List aB
 Exps:List aT
 Vols:List aQ
 deriving DecidableEq
def aC (x:aA):List AV:=[.sc (.int .i64 x.Seq),.sl none 4 (map bJ x.Snaps),.sl none 35 (map aK x.Chunks),.sl none 3 (map cH x.Exps),.sl none 4 (map dH x.Vols)]
def bY:aA:={ Seq:=0,Snaps:=[],Chunks:=[],Exps:=[],Vols:=[]}
structure aE where
 Kind:Int
 Id:bH
 Seq:Int
 Of:Int
 Off:Int
 Len:Int
 deriving DecidableEq
def aI (x:aE):List AV:=[.sc (.int .i64 x.Kind)]++bC x.Id++ [.sc (.int .i64 x.Seq),.sc (.int .i64 x.Of),.sc (.int .i64 x.Off),.sc (.int .i64 x.Len)]
abbrev fG (x:List aE):List AV:=[.sl none 37 (map aI x)]
structure aV where
 Kind:Int
 Snap:aH
 Chunks:List aB
 Seq:Int
 Vol:Int
 Items:List aE
 deriving DecidableEq
def aJ (x:aV):List AV:=[.sc (.int .i64 x.Kind),.sc (.int .i64 x.Snap.Seq),.sc (.string x.Snap.Man.Name),.sl none 3 (map bX x.Snap.Man.Parts),.sl none 4 (map aN x.Snap.Locs),.sl none 35 (map aK x.Chunks),.sc (.int .i64 x.Seq),.sc (.int .i64 x.Vol),.sl none 37 (map aI x.Items)]
abbrev cQ (x:Ar 64):List AV:=cA .u32 64 x
abbrev dV (x:Ar 8):List AV:=cA .u32 8 x
theorem u2:prog.underlying 2=some (.int .i64):=by kernel_rfl
theorem cB:lZ prog 3=some (false,1):=by kernel_rfl
theorem A2:m8 prog 3=some 1:=by kernel_rfl
theorem ti3:wG prog 3=some .i64:=by kernel_rfl
theorem u3:prog.underlying 3=some (.int .i64):=by kernel_rfl
theorem zr3:rV prog 3=some [.int .i64 0]:=by kernel_rfl
theorem GV:lZ prog 4=some (false,1):=by kernel_rfl
theorem ZY:m8 prog 4=some 1:=by kernel_rfl
theorem u4:prog.underlying 4=some .bool:=by kernel_rfl
theorem zb4:(prog.info? 4).bind (·.zero)=some (.bool false):=by kernel_rfl
theorem EE:lZ prog 5=some (false,1):=by kernel_rfl
theorem sz5:m8 prog 5=some 1:=by kernel_rfl
theorem ti5:wG prog 5=some .u8:=by kernel_rfl
theorem u5:prog.underlying 5=some (.int .u8):=by kernel_rfl
theorem U7:vY prog 9=some false:=by kernel_rfl
theorem IC:lZ prog 9=some (false,1):=by kernel_rfl
theorem u9:prog.underlying 9=some .string:=by kernel_rfl
theorem J4:vY prog 22=some true:=by kernel_rfl
theorem U8:nN prog 22=some 1:=by kernel_rfl
theorem ML:lQ prog 22 3 1 8:=lQ.of (by kernel_rfl) (by kernel_rfl) (by decide)
theorem u22:prog.underlying 22=some (.slice 3):=by kernel_rfl
theorem RC:vY prog 23=some true:=by kernel_rfl
theorem EF:nN prog 23=some 5:=by kernel_rfl
theorem ZZ:lQ prog 23 67 5 72:=lQ.of (by kernel_rfl) (by kernel_rfl) (by decide)
theorem u23:prog.underlying 23=some (.slice 67):=by kernel_rfl
theorem lA:vY prog 25=some true:=by kernel_rfl
theorem iW:nN prog 25=some 4:=by kernel_rfl
theorem EG:lQ prog 25 60 4 72:=lQ.of (by kernel_rfl) (by kernel_rfl) (by decide)
theorem fD:lZ prog 25=some (false,1):=by kernel_rfl
theorem MM:m8 prog 25=some 1:=by kernel_rfl
theorem u25:prog.underlying 25=some (.slice 60):=by kernel_rfl
theorem lH:vY prog 26=some true:=by kernel_rfl
theorem hX:nN prog 26=some 35:=by kernel_rfl
theorem pE:lQ prog 26 44 35 88:=lQ.of (by kernel_rfl) (by kernel_rfl) (by decide)
theorem fE:lZ prog 26=some (false,1):=by kernel_rfl
theorem EH:m8 prog 26=some 1:=by kernel_rfl
theorem pT:vY prog 27=some true:=by kernel_rfl
theorem iX:nN prog 27=some 3:=by kernel_rfl
theorem pF:lQ prog 27 99 3 40:=lQ.of (by kernel_rfl) (by kernel_rfl) (by decide)
theorem iL:lZ prog 27=some (false,1):=by kernel_rfl
theorem MN:m8 prog 27=some 1:=by kernel_rfl
theorem u27:prog.underlying 27=some (.slice 99):=by kernel_rfl
theorem rF:vY prog 28=some true:=by kernel_rfl
theorem nA:nN prog 28=some 4:=by kernel_rfl
theorem MO:lQ prog 28 49 4 32:=lQ.of (by kernel_rfl) (by kernel_rfl) (by decide)
theorem i9:lZ prog 28=some (false,1):=by kernel_rfl
theorem U9:m8 prog 28=some 1:=by kernel_rfl
theorem dC:lZ prog 30=some (true,5):=by kernel_rfl
theorem nB:m8 prog 30=some 5:=by kernel_rfl
theorem rG:lU prog 30 0=some (0,1):=by kernel_rfl
theorem eM:lU prog 30 1=some (1,1):=by kernel_rfl
theorem fF:lU prog 30 2=some (2,1):=by kernel_rfl
theorem eY:lU prog 30 3=some (3,1):=by kernel_rfl
theorem jA:lU prog 30 4=some (4,1):=by kernel_rfl
theorem GW:u6 prog 30=some ([.int .i64 0,.slice none 0 0,.slice none 0 0,.slice none 0 0,.slice none 0 0],[(0,1),(1,1),(2,1),(3,1),(4,1)]):=by kernel_rfl
theorem sP:rV prog 30=some [.int .i64 0,.slice none 0 0,.slice none 0 0,.slice none 0 0,.slice none 0 0]:=by kernel_rfl
theorem mC:vY prog 33=some true:=by kernel_rfl
theorem nQ:nN prog 33=some 37:=by kernel_rfl
theorem lI:lQ prog 33 38 37 72:=lQ.of (by kernel_rfl) (by kernel_rfl) (by decide)
theorem mD:lZ prog 33=some (false,1):=by kernel_rfl
theorem aFB:m8 prog 33=some 1:=by kernel_rfl
theorem xT:H5 prog 36=some (32,1):=by kernel_rfl
theorem fA:lZ prog 36=some (true,32):=by kernel_rfl
theorem MP:m8 prog 36=some 32:=by kernel_rfl
theorem TR:prog.underlying 36=some (.array 32 5):=by kernel_rfl
theorem EI:prog.eqGuardType prog.depth 36=false:=by kernel_rfl
theorem MQ:rV prog 36=some (List.replicate 32 (.int .u8 0)):=by kernel_rfl
theorem CE:lZ prog 38=some (true,37):=by kernel_rfl
theorem GX:m8 prog 38=some 37:=by kernel_rfl
theorem mY:lU prog 38 0=some (0,1):=by kernel_rfl
theorem xU:lU prog 38 1=some (1,32):=by kernel_rfl
theorem lX:lU prog 38 2=some (33,1):=by kernel_rfl
theorem xV:lU prog 38 3=some (34,1):=by kernel_rfl
theorem MR:lU prog 38 4=some (35,1):=by kernel_rfl
theorem MS:lU prog 38 5=some (36,1):=by kernel_rfl
theorem sQ:u6 prog 38=some ((.int .i64 0::(List.replicate 32 (.int .u8 0)++[.int .i64 0,.int .i64 0,.int .i64 0,.int .i64 0])),[(0,1),(1,32),(33,1),(34,1),(35,1),(36,1)]):=by kernel_rfl
theorem GY:rV prog 38=some (.int .i64 0::(List.replicate 32 (.int .u8 0)++[.int .i64 0,.int .i64 0,.int .i64 0,.int .i64 0])):=by kernel_rfl
theorem nR:vY prog 41=some true:=by kernel_rfl
theorem MT:nN prog 41=some 1:=by kernel_rfl
theorem xW:lQ prog 41 5 1 1:=lQ.of (by kernel_rfl) (by kernel_rfl) (by decide)
theorem n6:lZ prog 41=some (false,1):=by kernel_rfl
theorem EJ:m8 prog 41=some 1:=by kernel_rfl
theorem u41:prog.underlying 41=some (.slice 5):=by kernel_rfl
theorem kB:vY prog 42=some true:=by kernel_rfl
theorem jH:nN prog 42=some 4:=by kernel_rfl
theorem pG:lQ prog 42 81 4 32:=lQ.of (by kernel_rfl) (by kernel_rfl) (by decide)
theorem fW:lZ prog 42=some (false,1):=by kernel_rfl
theorem pU:m8 prog 42=some 1:=by kernel_rfl
theorem u42:prog.underlying 42=some (.slice 81):=by kernel_rfl
theorem pH:lZ prog 44=some (true,35):=by kernel_rfl
theorem EK:m8 prog 44=some 35:=by kernel_rfl
theorem rH:lU prog 44 0=some (0,32):=by kernel_rfl
theorem pV:lU prog 44 1=some (32,1):=by kernel_rfl
theorem lY:lU prog 44 2=some (33,1):=by kernel_rfl
theorem jW:lU prog 44 3=some (34,1):=by kernel_rfl
theorem aFC:u6 prog 44=some ((List.replicate 32 (.int .u8 0)++[.bool false,.slice none 0 0,.slice none 0 0]),[(0,32),(32,1),(33,1),(34,1)]):=by kernel_rfl
theorem qP:rV prog 44=some (List.replicate 32 (.int .u8 0)++[.bool false,.slice none 0 0,.slice none 0 0]):=by kernel_rfl
theorem Z6:lZ prog 49=some (true,4):=by kernel_rfl
theorem Z7:m8 prog 49=some 4:=by kernel_rfl
theorem MU:lU prog 49 0=some (0,1):=by kernel_rfl
theorem MV:lU prog 49 1=some (1,1):=by kernel_rfl
theorem rI:lU prog 49 2=some (2,1):=by kernel_rfl
theorem rJ:lU prog 49 3=some (3,1):=by kernel_rfl
theorem aFD:u6 prog 49=some ([.int .i64 0,.int .i64 0,.int .i64 0,.int .i64 0],[(0,1),(1,1),(2,1),(3,1)]):=by kernel_rfl
theorem RD:rV prog 49=some [.int .i64 0,.int .i64 0,.int .i64 0,.int .i64 0]:=by kernel_rfl
theorem RE:vY prog 50=some true:=by kernel_rfl
theorem RF:nN prog 50=some 1:=by kernel_rfl
theorem Z8:lQ prog 50 33 1 24:=lQ.of (by kernel_rfl) (by kernel_rfl) (by decide)
theorem Z9:lZ prog 50=some (false,1):=by kernel_rfl
theorem aFE:m8 prog 50=some 1:=by kernel_rfl
theorem aFF:rV prog 50=some [.slice none 0 0]:=by kernel_rfl
theorem xX:vY prog 56=some true:=by kernel_rfl
theorem qQ:nN prog 56=some 3:=by kernel_rfl
theorem J5:lQ prog 56 70 3 48:=lQ.of (by kernel_rfl) (by kernel_rfl) (by decide)
theorem oO:lZ prog 56=some (false,1):=by kernel_rfl
theorem VA:m8 prog 56=some 1:=by kernel_rfl
theorem pW:lZ prog 58=some (true,2):=by kernel_rfl
theorem z7:m8 prog 58=some 2:=by kernel_rfl
theorem VB:lU prog 58 0=some (0,1):=by kernel_rfl
theorem xY:lU prog 58 1=some (1,1):=by kernel_rfl
theorem VE:u6 prog 58=some ([.string empty,.slice none 0 0],[(0,1),(1,1)]):=by kernel_rfl
theorem MW:rV prog 58=some [.string empty,.slice none 0 0]:=by kernel_rfl
theorem sR:lZ prog 60=some (true,4):=by kernel_rfl
theorem GZ:m8 prog 60=some 4:=by kernel_rfl
theorem CF:lU prog 60 0=some (0,1):=by kernel_rfl
theorem rK:lU prog 60 1=some (1,2):=by kernel_rfl
theorem lJ:lU prog 60 2=some (3,1):=by kernel_rfl
theorem aFG:u6 prog 60=some ([.int .i64 0,.string empty,.slice none 0 0,.slice none 0 0],[(0,1),(1,2),(3,1)]):=by kernel_rfl
theorem xZ:rV prog 60=some [.int .i64 0,.string empty,.slice none 0 0,.slice none 0 0]:=by kernel_rfl
theorem sS:lZ prog 62=some (true,9):=by kernel_rfl
theorem yA:m8 prog 62=some 9:=by kernel_rfl
theorem CG:lU prog 62 0=some (0,1):=by kernel_rfl
theorem pX:lU prog 62 1=some (1,4):=by kernel_rfl
theorem oP:lU prog 62 2=some (5,1):=by kernel_rfl
theorem VF:lU prog 62 3=some (6,1):=by kernel_rfl
theorem jB:lU prog 62 4=some (7,1):=by kernel_rfl
theorem gW:lU prog 62 5=some (8,1):=by kernel_rfl
theorem CH:u6 prog 62=some ([.int .i64 0,.int .i64 0,.string empty,.slice none 0 0,.slice none 0 0,.slice none 0 0,.int .i64 0,.int .i64 0,.slice none 0 0],[(0,1),(1,4),(5,1),(6,1),(7,1),(8,1)]):=by kernel_rfl
theorem RG:rV prog 62=some [.int .i64 0,.int .i64 0,.string empty,.slice none 0 0,.slice none 0 0,.slice none 0 0,.int .i64 0,.int .i64 0,.slice none 0 0]:=by kernel_rfl
theorem VG:wG prog 63=some .u64:=by kernel_rfl
theorem z8:vY prog 64=some true:=by kernel_rfl
theorem pI:nN prog 64=some 2:=by kernel_rfl
theorem RH:lQ prog 64 95 2 40:=lQ.of (by kernel_rfl) (by kernel_rfl) (by decide)
theorem aFH:lZ prog 64=some (false,1):=by kernel_rfl
theorem u64:prog.underlying 64=some (.slice 95):=by kernel_rfl
theorem aAA:vY prog 65=some true:=by kernel_rfl
theorem aFI:nN prog 65=some 1:=by kernel_rfl
theorem aAB:lZ prog 65=some (false,1):=by kernel_rfl
theorem u65:prog.underlying 65=some (.slice 4):=by kernel_rfl
theorem aAC:lZ prog 67=some (true,5):=by kernel_rfl
theorem VH:wH prog 67 0=some (0,3):=by kernel_rfl
theorem VI:lU prog 67 1=some (1,1):=by kernel_rfl
theorem VJ:wH prog 67 1=some (1,3):=by kernel_rfl
theorem VK:wH prog 67 2=some (2,3):=by kernel_rfl
theorem VL:wH prog 67 3=some (3,64):=by kernel_rfl
theorem VM:wH prog 67 4=some (4,65):=by kernel_rfl
theorem sU:vY prog 68=some true:=by kernel_rfl
theorem yB:nN prog 68=some 32:=by kernel_rfl
theorem CI:lQ prog 68 36 32 32:=lQ.of (by kernel_rfl) (by kernel_rfl) (by decide)
theorem yC:lZ prog 68=some (false,1):=by kernel_rfl
theorem VO:m8 prog 68=some 1:=by kernel_rfl
theorem EL:lZ prog 70=some (true,3):=by kernel_rfl
theorem MX:m8 prog 70=some 3:=by kernel_rfl
theorem MY:lU prog 70 2=some (2,1):=by kernel_rfl
theorem aFJ:u6 prog 70=some ([.string empty,.int .i64 0,.slice none 0 0],[(0,1),(1,1),(2,1)]):=by kernel_rfl
theorem J6:rV prog 70=some [.string empty,.int .i64 0,.slice none 0 0]:=by kernel_rfl
theorem nD:lZ prog 81=some (true,4):=by kernel_rfl
theorem MZ:m8 prog 81=some 4:=by kernel_rfl
theorem CJ:lU prog 81 0=some (0,1):=by kernel_rfl
theorem CK:lU prog 81 1=some (1,1):=by kernel_rfl
theorem M0:lU prog 81 2=some (2,1):=by kernel_rfl
theorem aAD:u6 prog 81=some ([.int .i64 0,.int .i64 0,.int .i64 0,.int .i64 0],[(0,1),(1,1),(2,1),(3,1)]):=by kernel_rfl
theorem EM:rV prog 81=some [.int .i64 0,.int .i64 0,.int .i64 0,.int .i64 0]:=by kernel_rfl
theorem M1:lU prog 95 0=some (0,1):=by kernel_rfl
theorem VP:wH prog 95 0=some (0,9):=by kernel_rfl
theorem M2:lU prog 95 1=some (1,1):=by kernel_rfl
theorem VQ:wH prog 95 1=some (1,41):=by kernel_rfl
theorem aFK:u6 prog 95=some ([.string empty,.slice none 0 0],[(0,1),(1,1)]):=by kernel_rfl
theorem z9:lZ prog 99=some (true,3):=by kernel_rfl
theorem J7:m8 prog 99=some 3:=by kernel_rfl
theorem yD:lU prog 99 0=some (0,1):=by kernel_rfl
theorem G0:lU prog 99 1=some (1,1):=by kernel_rfl
theorem mZ:lU prog 99 2=some (2,1):=by kernel_rfl
theorem aAE:u6 prog 99=some ([.int .i64 0,.int .i64 0,.slice none 0 0],[(0,1),(1,1),(2,1)]):=by kernel_rfl
theorem sV:rV prog 99=some [.int .i64 0,.int .i64 0,.slice none 0 0]:=by kernel_rfl
theorem yE:prog.underlying 118=some (.map 3 117):=by kernel_rfl
theorem TS:vY prog 129=some true:=by kernel_rfl
theorem A3:nN prog 129=some 1:=by kernel_rfl
theorem A4:lQ prog 129 41 1 24:=lQ.of (by kernel_rfl) (by kernel_rfl) (by decide)
theorem TT:lZ prog 161=some (false,1):=by kernel_rfl
theorem aAF:m8 prog 161=some 1:=by kernel_rfl
theorem TU:prog.underlying 161=some (.map 3 4):=by kernel_rfl
theorem M4:prog.underlying 175=some (.map 9 4):=by kernel_rfl
theorem iN:lZ prog 180=some (false,1):=by kernel_rfl
theorem M6:m8 prog 180=some 1:=by kernel_rfl
theorem aAG:wG prog 180=some .u32:=by kernel_rfl
theorem sW:H5 prog 181=some (64,1):=by kernel_rfl
theorem aAH:lZ prog 181=some (true,64):=by kernel_rfl
theorem TV:m8 prog 181=some 64:=by kernel_rfl
theorem VS:D8 prog 181=some ((List.replicate 64 (.int .u32 0)), (range 64).map λi=>(i,1)):=by kernel_rfl
theorem M7:rV prog 181=some (List.replicate 64 (.int .u32 0)):=by kernel_rfl
theorem kJ:H5 prog 183=some (8,1):=by kernel_rfl
theorem aAI:lZ prog 183=some (true,8):=by kernel_rfl
theorem M8:m8 prog 183=some 8:=by kernel_rfl
theorem M9:D8 prog 183=some ([.int .u32 0,.int .u32 0,.int .u32 0,.int .u32 0,.int .u32 0,.int .u32 0,.int .u32 0,.int .u32 0],[(0,1),(1,1),(2,1),(3,1),(4,1),(5,1),(6,1),(7,1)]):=by kernel_rfl
theorem TW:rV prog 183=some [.int .u32 0,.int .u32 0,.int .u32 0,.int .u32 0,.int .u32 0,.int .u32 0,.int .u32 0,.int .u32 0]:=by kernel_rfl
theorem mixed:prog.follows .mixedOrders=true:=by kernel_rfl
def tb:Tr TI:=.node 114 dN (.node 60 ⟨some (true,4),none,[0,1,3]⟩ (.node 33 dN (.node 18 ⟨some (true,1),none,[0]⟩ (.node 9 dN (.node 4 dN (.node 2 ⟨some (false,1),some .i64,[]⟩ (.node 1 dN .nil .nil) (.node 3 ⟨some (false,1),some .i64,[]⟩ .nil .nil)) (.node 7 ⟨some (true,4),none,[0,1,2,3]⟩ (.node 5 ⟨some (false,1),some .u8,[]⟩ .nil .nil) .nil)) (.node 15 dN (.node 13 ⟨some (true,2),none,[0,1]⟩ (.node 12 ⟨some (false,1),some .u64,[]⟩ .nil .nil) .nil) (.node 17 dN (.node 16 dN .nil .nil) .nil))) (.node 27 dN (.node 24 dN (.node 22 dN (.node 21 ⟨some (false,1),some .i32,[]⟩ .nil .nil) (.node 23 dN .nil .nil)) (.node 26 dN (.node 25 dN .nil .nil) .nil)) (.node 30 ⟨some (true,5),none,[0,1,2,3,4]⟩ (.node 29 ⟨some (true,5),none,[0,1,2,3,4]⟩ (.node 28 dN .nil .nil) .nil) (.node 32 dN (.node 31 dN .nil .nil) .nil)))) (.node 46 dN (.node 40 dN (.node 37 ⟨some (true,37),none,[0,1,33,34,35,36]⟩ (.node 35 dN (.node 34 dN .nil .nil) (.node 36 ⟨some (true,32),none,[]⟩ .nil .nil)) (.node 39 dN (.node 38 ⟨some (true,37),none,[0,1,33,34,35,36]⟩ .nil .nil) .nil)) (.node 43 ⟨some (true,35),none,[0,32,33,34]⟩ (.node 42 dN (.node 41 dN .nil .nil) .nil) (.node 45 dN (.node 44 ⟨some (true,35),none,[0,32,33,34]⟩ .nil .nil) .nil))) (.node 54 dN (.node 50 dN (.node 48 ⟨some (true,4),none,[0,1,2,3]⟩ (.node 47 dN .nil .nil) (.node 49 ⟨some (true,4),none,[0,1,2,3]⟩ .nil .nil)) (.node 52 ⟨some (false,1),some .i64,[]⟩ (.node 51 dN .nil .nil) .nil)) (.node 57 ⟨some (true,2),none,[0,1]⟩ (.node 56 dN (.node 55 dN .nil .nil) .nil) (.node 59 ⟨some (true,4),none,[0,1,3]⟩ (.node 58 ⟨some (true,2),none,[0,1]⟩ .nil .nil) .nil))))) (.node 88 dN (.node 73 dN (.node 67 ⟨some (true,5),none,[0,1,2,3,4]⟩ (.node 64 dN (.node 62 ⟨some (true,9),none,[0,1,5,6,7,8]⟩ (.node 61 ⟨some (true,9),none,[0,1,5,6,7,8]⟩ .nil .nil) (.node 63 ⟨some (false,1),some .u64,[]⟩ .nil .nil)) (.node 66 ⟨some (true,5),none,[0,1,2,3,4]⟩ (.node 65 dN .nil .nil) .nil)) (.node 70 ⟨some (true,3),none,[0,1,2]⟩ (.node 69 ⟨some (true,3),none,[0,1,2]⟩ (.node 68 dN .nil .nil) .nil) (.node 72 dN (.node 71 dN .nil .nil) .nil))) (.node 81 ⟨some (true,4),none,[0,1,2,3]⟩ (.node 78 dN (.node 75 dN (.node 74 dN .nil .nil) (.node 76 dN .nil .nil)) (.node 80 ⟨some (true,4),none,[0,1,2,3]⟩ (.node 79 dN .nil .nil) .nil)) (.node 85 dN (.node 84 dN (.node 82 dN .nil .nil) .nil) (.node 87 dN (.node 86 dN .nil .nil) .nil)))) (.node 101 dN (.node 95 ⟨some (true,2),none,[0,1]⟩ (.node 92 dN (.node 90 dN (.node 89 dN .nil .nil) (.node 91 dN .nil .nil)) (.node 94 ⟨some (true,2),none,[0,1]⟩ (.node 93 dN .nil .nil) .nil)) (.node 98 ⟨some (true,3),none,[0,1,2]⟩ (.node 97 dN (.node 96 dN .nil .nil) .nil) (.node 100 dN (.node 99 ⟨some (true,3),none,[0,1,2]⟩ .nil .nil) .nil))) (.node 108 dN (.node 105 dN (.node 103 dN (.node 102 dN .nil .nil) (.node 104 dN .nil .nil)) (.node 107 dN (.node 106 dN .nil .nil) .nil)) (.node 111 dN (.node 110 dN (.node 109 dN .nil .nil) .nil) (.node 113 dN (.node 112 dN .nil .nil) .nil)))))) (.node 172 dN (.node 144 dN (.node 129 dN (.node 122 dN (.node 118 dN (.node 116 dN (.node 115 dN .nil .nil) (.node 117 dN .nil .nil)) (.node 121 dN (.node 120 dN .nil .nil) .nil)) (.node 125 dN (.node 124 dN (.node 123 dN .nil .nil) .nil) (.node 128 dN (.node 126 dN .nil .nil) .nil))) (.node 137 dN (.node 134 dN (.node 132 dN (.node 131 dN .nil .nil) (.node 133 dN .nil .nil)) (.node 136 dN (.node 135 dN .nil .nil) .nil)) (.node 140 dN (.node 139 dN (.node 138 dN .nil .nil) .nil) (.node 142 dN (.node 141 dN .nil .nil) .nil)))) (.node 159 dN (.node 152 dN (.node 149 dN (.node 146 dN (.node 145 dN .nil .nil) (.node 147 dN .nil .nil)) (.node 151 dN (.node 150 dN .nil .nil) .nil)) (.node 156 dN (.node 155 dN (.node 154 dN .nil .nil) .nil) (.node 158 dN (.node 157 dN .nil .nil) .nil))) (.node 166 dN (.node 163 dN (.node 161 dN (.node 160 dN .nil .nil) (.node 162 dN .nil .nil)) (.node 165 dN (.node 164 dN .nil .nil) .nil)) (.node 169 dN (.node 168 dN (.node 167 dN .nil .nil) .nil) (.node 171 dN (.node 170 dN .nil .nil) .nil))))) (.node 198 dN (.node 185 dN (.node 179 dN (.node 176 dN (.node 174 dN (.node 173 dN .nil .nil) (.node 175 dN .nil .nil)) (.node 178 dN (.node 177 dN .nil .nil) .nil)) (.node 182 dN (.node 181 ⟨some (true,64),none,[]⟩ (.node 180 ⟨some (false,1),some .u32,[]⟩ .nil .nil) .nil) (.node 184 dN (.node 183 ⟨some (true,8),none,[]⟩ .nil .nil) .nil))) (.node 192 dN (.node 189 dN (.node 187 dN (.node 186 dN .nil .nil) (.node 188 dN .nil .nil)) (.node 191 dN (.node 190 dN .nil .nil) .nil)) (.node 195 dN (.node 194 dN (.node 193 dN .nil .nil) .nil) (.node 197 dN (.node 196 dN .nil .nil) .nil)))) (.node 211 dN (.node 205 dN (.node 202 dN (.node 200 dN (.node 199 dN .nil .nil) (.node 201 dN .nil .nil)) (.node 204 dN (.node 203 dN .nil .nil) .nil)) (.node 208 dN (.node 207 ⟨some (false,1),some .u64,[]⟩ (.node 206 dN .nil .nil) .nil) (.node 210 dN (.node 209 dN .nil .nil) .nil))) (.node 218 ⟨some (true,0),none,[]⟩ (.node 214 dN (.node 213 dN (.node 212 dN .nil .nil) .nil) (.node 216 ⟨some (true,4),none,[0,1,2,3]⟩ (.node 215 dN .nil .nil) .nil)) (.node 224 dN (.node 221 dN (.node 219 ⟨some (true,0),none,[]⟩ .nil .nil) .nil) (.node 228 ⟨some (true,11),none,[0,1,2,3,4,5,6,7,8,9,10]⟩ (.node 225 dN .nil .nil) .nil))))))
theorem YF:EA prog tb:=by unfold EA; kernel_rfl
section
variable {h:aF} {n:Nat} {c:Code} {kn:FR->HL->Prop} {ke:Exit->FR->HL->Prop} {f:FR} {L:HL} {id:Nat} {l:List Oper}
theorem v (k:vc tb false prog h n c kn ke f L):VC prog h n c kn ke f L:=vcS YF c k
theorem v0 (k:vc tb true prog h n c kn ke f L):VC prog h n c kn ke f L:=vcS YF c k
theorem vq (h2:D3 0 (l.map (wK l.toArray))=true) (k:vo true tb false prog h n l kn l f L):VD prog h n id l.toArray kn f L:=vqT YF mixed h2 k
theorem CL (h2:D3 0 (l.map (wK l.toArray))=true) (k:vo true tb true prog h n l kn l f L):VD prog h n id l.toArray kn f L:=vqT YF mixed h2 k
end
abbrev A5:=(List aH)×(List aB)×(List aT)
abbrev fM:=(List aH)×(List aB)×(List aT)×(List aQ)
abbrev dF (g:dE) (e:List aH):Option bT×jC:=(g.t,.obj 60 (fl bJ e g.sp))
abbrev dA (g:dE) (e:List aB):Option bT×jC:=(g.t,.obj 44 (fl aK e g.sp))
abbrev jX (g:dE) (e:List aT):Option bT×jC:=(g.t,.obj 99 (fl cH e g.sp))
abbrev lK (g:dE) (e:List aQ):Option bT×jC:=(g.t,.obj 49 (fl dH e g.sp))
abbrev eC (g:dE) (e:List aS):Option bT×jC:=(g.t,.obj 81 (fl aN e g.sp))
abbrev hO (k:bT) (q:Int) (a b c d:dE):Option bT×jC:=(some k,.obj 30 [nZ q,aZ a,aZ b,aZ c,aZ d])
abbrev hL (k:bT) (q:Int) (a b c d:dE) (s:List aH) (t:List aB) (u:List aT) (v:List aQ):HL:=[hO k q a b c d,dF a s,dA b t,jX c u,lK d v]
abbrev hC (k:bT) (x:aA) (a b c d:dE):HL:=hL k x.Seq a b c d x.Snaps x.Chunks x.Exps x.Vols
def zW (m:Nat) (p0:Int) (p1:Int) (p2:Int):Option (Bool):=
 after (if decide (p1<=p0) then (Bk (decide (p0<=p2))) else Bk false:Option (Lp (Bool) (Bool))) λj4=>some j4
theorem DP {u:Nat} {p0:Int} {p1:Int} {p2:Int} {o:Bool} (h:aF) (m:zW u p0 p1 p2=some o):
 aM prog 57 [nZ p0,nZ p1,nZ p2] h (λr h'=>r= .sc (.bool o)/\h'=h):=by
 refine fQ 15 [.tmp 6] Tryz.func57 rfl rfl rfl rfl ?_
 unfold zW at m
 refine v (vs (fO m (σ:=Bool) (λs=>[]) (λs=>.c 6 (.sc (.bool s)) .nil) (λx m=> ?_) ?_))
 refine v ?_
 apply vi m<;>intro b5 m
 rw[b5]
 exact n5 m
 rw[b5]
 exact n5 m
 rintro _ j4 m
 refine v ?_
 obtain rfl:=eR m
 exact eH rfl
theorem pJ:aP prog 57=true:=by kernel_rfl
def yF (m:Nat) (p0:List aQ) (q0:Int):Option (Lp (Int) (Bool)):=
 if decide (q0 < (p0.length:Int)) then ((ix p0 q0).bind λx0=>after (if (x0.State==2)then ((zW m x0.Files 1 65535).bind λy0=>Bk y0) else Bk false:Option (Lp (Bool) (Lp (Int) (Bool)))) λj0=>after (if (x0.State==1)then (Bk (x0.Files==0)) else if (x0.State==3)then (Bk (x0.Files==0)) else Bk false:Option (Lp (Bool) (Lp (Int) (Bool)))) λj1=>after ((zW m x0.Pool 0 1).bind λy1=>if (!y1)then Bk true else (zW m x0.Epoch 0 1048576).bind λy2=>if (!y2)then Bk true else if (!j0)then (Bk (!j1)) else Bk false:Option (Lp (Bool) (Lp (Int) (Bool)))) λj2=>if j2 then Rk false else Gk (wrap .i64 (q0+1))) else Bk q0
def M78 (m:Nat) (p0:List aQ):Option (Bool):=
 after (aR (λs=>yF m p0 s) m 0) λr0=>(zW m (p0.length:Int) 1 8).bind λy0=>some y0
theorem W78 {w:Nat} {p0:List aQ} {o:Bool} (h:aF) (m:M78 w p0=some o):
 aM prog 78 [.sl none 4 (map dH p0)] h (λr h'=>r= .sc (.bool o)/\h'=h):=by
 refine fQ 56 [.tmp 2] Tryz.func78 rfl rfl rfl rfl ?_
 unfold M78 at m
 refine v (v (cU rF rfl (jS m (σ:=Int) (λs=>[]) (λs=>.c 0 (.sl none 4 (map dH p0)) (.c 7 (.sl none 4 (map dH p0)) (.c 8 (nZ (p0.length:Int)) (.c 9 (nZ s) .nil)))) (lx (.k4 .nil)) ?_ ?_)))
 rintro _ q0 x m
 replace m:yF w p0 q0=some x:=m
 unfold yF at m
 refine v (v ?_)
 apply vi m<;>intro c0 m
 refine v (v (v (vx m nA rfl rfl λx0 _ m=>va (.agg (dH x0)) Z6 rfl rfl (ve λu=>bG (JO) u RD rfl rfl λk105 K0=>qk K0 rfl (ve λu=>aL 0 (dH x0) u rfl rfl rfl rfl Z7 rfl rfl λK1=>qk K1 rfl (vs (fO m (σ:=Bool) (λs=>[(some k105,.obj 49 (dH x0))]) (λs=>.c 0 (.sl none 4 (map dH p0)) (.c 4 (.ptr k105 0) (.c 5 (.sc (.bool s)) (.c 7 (.sl none 4 (map dH p0)) (.c 8 (nZ (p0.length:Int)) (.c 9 (nZ q0) .nil)))))) (λx m=> ?_) ?_)))))))
 refine v (vl 0 _ cB rfl rfl rfl ?_)
 apply vi m<;>intro b0 m
 rw[b0]
 exact vl 0 _ cB rfl rfl rfl (vk DP pJ m rfl rfl λ_ m=>mX m)
 rw[b0]
 exact mX m
 rintro _ j0 m
 refine vs (fO m (σ:=Bool) (λs=>[(some k105,.obj 49 (dH x0))]) (λs=>.c 0 (.sl none 4 (map dH p0)) (.c 4 (.ptr k105 0) (.c 5 (.sc (.bool j0)) (.c 6 (.sc (.bool s)) (.c 7 (.sl none 4 (map dH p0)) (.c 8 (nZ (p0.length:Int)) (.c 9 (nZ q0) .nil))))))) (λx m=> ?_) ?_)
 refine v (vl 0 _ cB rfl rfl rfl ?_)
 apply vi m<;>intro b1 m
 rw[b1]
 exact vl 0 _ cB rfl rfl rfl (zV m)
 rw[b1]
 refine vl 0 _ cB rfl rfl rfl ?_
 apply vi m<;>intro b2 m
 rw[b2]
 exact vl 0 _ cB rfl rfl rfl (zV m)
 rw[b2]
 exact zV m
 rintro _ j1 m
 refine vs (fO m (σ:=Bool) (λs=>[(some k105,.obj 49 (dH x0))]) (λs=>.c 0 (.sl none 4 (map dH p0)) (.c 7 (.sl none 4 (map dH p0)) (.c 8 (nZ (p0.length:Int)) (.c 9 (nZ q0) (.c 51 (.sc (.bool s)) .nil))))) (λx m=> ?_) ?_)
 refine v (vl 0 _ cB rfl rfl rfl (vk DP pJ m rfl rfl λ_ m=> ?_))
 apply vi m<;>intro b3 m
 rw[b3]
 exact kN m
 rw[b3]
 refine vl 0 _ cB rfl rfl rfl (vk DP pJ m rfl rfl λ_ m=> ?_)
 apply vi m<;>intro b4 m
 rw[b4]
 exact kN m
 rw[b4]
 apply vi m<;>intro b5 m
 rw[b5]
 exact kN m
 rw[b5]
 exact kN m
 rintro _ j2 m
 refine v ?_
 apply vi m<;>intro c1 m
 refine v (v (fY m λm=> ?_))
 obtain rfl:=eR m
 exact eH rfl
 exact v (v (zU m (mK [] rfl rfl (.k4 .nil))))
 exact v (vB m)
 rintro _ r0 m
 refine v (cU rF rfl (vk DP pJ m rfl rfl λ_ m=>v ?_))
 obtain rfl:=eR m
 exact eH rfl
theorem aFL:aP prog 78=true:=by kernel_rfl
def NA (m:Nat) (p0:aS) (p1:aS):Option (Bool):=
 if (p0.Vol !=p1.Vol)then (some (decide (p1.Vol < p0.Vol))) else if (p0.File !=p1.File)then (some (decide (p1.File < p0.File))) else some (decide (p1.Off < p0.Off))
theorem aFM {u:Nat} {p0:aS} {p1:aS} {o:Bool} (h:aF) (m:NA u p0 p1=some o):
 aM prog 183 [.agg (aN p0),.agg (aN p1)] h (λr h'=>r= .sc (.bool o)/\h'=h):=by
 refine fQ 32 [.tmp 4] Tryz.func183 rfl rfl rfl rfl ?_
 unfold NA at m
 refine v (gZ rfl rfl λk2 K3=>gZ rfl rfl λk5 K6=>v (v (vl 1 _ cB rfl rfl rfl (vl 0 _ cB rfl rfl rfl (v ?_)))))
 apply vi m<;>intro c0 m
 refine v (vl 1 _ cB rfl rfl rfl (vl 0 _ cB rfl rfl rfl (v ?_)))
 cases m
 exact eH rfl
 refine v (vl 1 _ cB rfl rfl rfl (vl 0 _ cB rfl rfl rfl (v ?_)))
 apply vi m<;>intro c1 m
 refine v (vl 1 _ cB rfl rfl rfl (vl 0 _ cB rfl rfl rfl (v ?_)))
 cases m
 exact eH rfl
 refine v (v (vl 1 _ cB rfl rfl rfl (vl 0 _ cB rfl rfl rfl (v ?_))))
 cases m
 exact eH rfl
theorem aAK:aP prog 183=true:=by kernel_rfl
def sX (m:Nat) (p0:aA) (p1:List aS) (q0:Int):Option (Lp (Int) (Bool)):=
 if decide (q0 < (p1.length:Int)) then ((ix p1 q0).bind λx0=>after ((zW m x0.Vol 0 (wrap .i64 ((p0.Vols.length:Int) - 1))).bind λy0=>if (!y0)then Bk true else (ix p0.Vols x0.Vol).bind λx1=>if (x1.State !=2)then Bk true else (ix p0.Vols x0.Vol).bind λx2=>(zW m x0.File 1 x2.Files).bind λy1=>if (!y1)then Bk true else (zW m x0.Off 0 16777215).bind λy2=>if (!y2)then Bk true else (zW m x0.Len 13 8013).bind λy3=>if (!y3)then Bk true else if decide (0 < q0) then ((ix p1 (wrap .i64 (q0 - 1))).bind λx3=>(NA m x0 x3).bind λy4=>Bk (!y4)) else Bk false:Option (Lp (Bool) (Lp (Int) (Bool)))) λj0=>if j0 then Rk false else Gk (wrap .i64 (q0+1))) else Bk q0
def AA (m:Nat) (p0:aA) (p1:List aS):Option (Bool):=
 if decide (200 < (p1.length:Int)) then (some false) else after (aR (λs=>sX m p0 p1 s) m 0) λr0=>some true
theorem J8 {w:Nat} {p0:aA} {p1:List aS} {o:Bool} (h:aF) (m:AA w p0 p1=some o):
 aM prog 137 [.agg (aC p0),.sl none 4 (map aN p1)] h (λr h'=>r= .sc (.bool o)/\h'=h):=by
 refine fQ 75 [.tmp 4] Tryz.func137 rfl rfl rfl rfl ?_
 unfold AA at m
 refine v (gZ rfl rfl λk2 K3=>v (cU kB rfl (v ?_)))
 apply vi m<;>intro c7 m
 refine v (v ?_)
 obtain rfl:=eR m
 exact eH rfl
 refine v (v (cU kB rfl (jS m (σ:=Int) (λs=>[(some k2,.obj 30 (aC p0))]) (λs=>.c 1 (.sl none 4 (map aN p1)) (.c 2 (.ptr k2 0) (.c 10 (.sl none 4 (map aN p1)) (.c 11 (nZ (p1.length:Int)) (.c 12 (nZ s) .nil))))) (lx (.k5 .nil)) ?_ ?_)))
 rintro _ q0 x m
 replace m:sX w p0 p1 q0=some x:=m
 unfold sX at m
 refine v (v ?_)
 apply vi m<;>intro c0 m
 refine v (v (v (vx m jH rfl rfl λx0 _ m=>va (.agg (aN x0)) nD rfl rfl (ve λu=>bG (JO) u EM rfl rfl λk140 K0=>qk K0 rfl (ve λu=>aL 0 (aN x0) u rfl rfl rfl rfl MZ rfl rfl λK1=>qk K1 rfl (vs (fO m (σ:=Bool) (λs=>[(some k140,.obj 81 (aN x0)),(some k2,.obj 30 (aC p0))]) (λs=>.c 1 (.sl none 4 (map aN p1)) (.c 2 (.ptr k2 0) (.c 10 (.sl none 4 (map aN p1)) (.c 11 (nZ (p1.length:Int)) (.c 12 (nZ q0) (.c 73 (.sc (.bool s)) .nil)))))) (λx m=> ?_) ?_)))))))
 refine v (vq (by kernel_rfl) (vl 0 _ cB rfl rfl rfl (vl 1 _ i9 rfl rfl rfl (cU rF rfl (vk DP pJ m rfl rfl λ_ m=> ?_)))))
 apply vi m<;>intro b0 m
 rw[b0]
 exact mX m
 rw[b0]
 refine vl 1 _ i9 rfl rfl rfl (vl 0 _ cB rfl rfl rfl (vx m nA rfl rfl λ_ _ m=> ?_))
 apply vi m<;>intro b1 m
 rw[b1]
 exact mX m
 rw[b1]
 refine vl 0 _ cB rfl rfl rfl (vl 1 _ i9 rfl rfl rfl (vl 0 _ cB rfl rfl rfl (vx m nA rfl rfl λ_ _ m=>vk DP pJ m rfl rfl λ_ m=> ?_)))
 apply vi m<;>intro b2 m
 rw[b2]
 exact mX m
 rw[b2]
 refine vl 0 _ cB rfl rfl rfl (vk DP pJ m rfl rfl λ_ m=> ?_)
 apply vi m<;>intro b3 m
 rw[b3]
 exact mX m
 rw[b3]
 refine vl 0 _ cB rfl rfl rfl (vk DP pJ m rfl rfl λ_ m=> ?_)
 apply vi m<;>intro b4 m
 rw[b4]
 exact mX m
 rw[b4]
 apply vi m<;>intro b5 m
 rw[b5]
 exact vl 0 (.agg (aN x0)) nD rfl rfl rfl (vx m jH rfl rfl λx1 _ m=>va (.agg (aN x1)) nD rfl rfl (vk aFM aAK m rfl rfl λ_ m=>mX m))
 rw[b5]
 exact mX m
 rintro _ j0 m
 refine v ?_
 apply vi m<;>intro c1 m
 refine v (v (fY m λm=> ?_))
 obtain rfl:=eR m
 exact eH rfl
 exact v (v (zU m (mK [1] rfl rfl (.k5 .nil))))
 exact v (YE m)
 rintro _ r0 m
 refine v (v ?_)
 obtain rfl:=eR m
 exact eH rfl
theorem A6:aP prog 137=true:=by kernel_rfl
def sY (m:Nat) (p0:ByteArray) (q0:Int):Option (Lp (Int) (Bool)):=
 if decide (q0 < (p0.size:Int)) then (after ((QX p0 q0).bind λx0=>if decide (x0 < 33) then Bk true else (QX p0 q0).bind λx1=>Bk (decide (126 < x1)):Option (Lp (Bool) (Lp (Int) (Bool)))) λj0=>if j0 then Rk false else Gk (wrap .i64 (q0+1))) else Bk q0
def J9 (m:Nat) (p0:ByteArray):Option (Bool):=
 after (if decide ((p0.size:Int) < 1) then Bk true else Bk (decide (20 < (p0.size:Int))):Option (Lp (Bool) (Bool))) λj5=>if j5 then (some false) else after (aR (λs=>sY m p0 s) m 0) λr0=>some true
theorem aAL {u:Nat} {p0:ByteArray} {o:Bool} (h:aF) (m:J9 u p0=some o):
 aM prog 164 [.sc (.string p0)] h (λr h'=>r= .sc (.bool o)/\h'=h):=by
 refine fQ 28 [.tmp 2] Tryz.func164 rfl rfl rfl rfl ?_
 unfold J9 at m
 refine v (vs (vs (fO m (σ:=Bool) (λs=>[]) (λs=>.c 0 (.sc (.string p0)) (.c 11 (.sc (.bool s)) .nil)) (λx m=> ?_) ?_)))
 refine v (bU (rD U7 rfl) ?_)
 apply vi m<;>intro b6 m
 rw[b6]
 exact wQ m
 rw[b6]
 exact bU (rD U7 rfl) (wQ m)
 rintro _ j5 m
 refine v ?_
 apply vi m<;>intro c8 m
 refine v (v ?_)
 obtain rfl:=eR m
 exact eH rfl
 refine v (v (bU (rD U7 rfl) (jS m (σ:=Int) (λs=>[]) (λs=>.c 0 (.sc (.string p0)) (.c 13 (nZ (p0.size:Int)) (.c 14 (nZ s) .nil))) (lx (.k3 .nil)) ?_ ?_)))
 rintro _ q0 x m
 replace m:sY u p0 q0=some x:=m
 unfold sY at m
 refine v (v ?_)
 apply vi m<;>intro c0 m
 refine v (v (v (vs (fO m (σ:=Bool) (λs=>[]) (λs=>.c 0 (.sc (.string p0)) (.c 13 (nZ (p0.size:Int)) (.c 14 (nZ q0) (.c 26 (.sc (.bool s)) .nil)))) (λx m=> ?_) ?_))))
 refine v ?_
 obtain⟨_,X0,m⟩:=aD m
 refine bU (H8 X0 u9 rfl rfl) ?_
 apply vi m<;>intro b0 m
 rw[b0]
 exact fZ m
 rw[b0]
 obtain⟨_,X1,m⟩:=aD m
 exact bU (H8 X1 u9 rfl rfl) (fZ m)
 rintro _ j0 m
 refine v ?_
 apply vi m<;>intro c1 m
 refine v (v (fY m λm=> ?_))
 obtain rfl:=eR m
 exact eH rfl
 exact v (v (hH m))
 exact v (GT m)
 rintro _ r0 m
 refine v (v ?_)
 obtain rfl:=eR m
 exact eH rfl
theorem TX:aP prog 164=true:=by kernel_rfl
def NB (m:Nat) (p0:cT):Option (Bool):=
 after ((J9 m p0.Path).bind λy0=>if y0 then (if decide (0<=p0.Size) then (if decide (p0.Size<=200) then (if decide ((p0.Ids.length:Int)<=25) then (Bk (((p0.Ids.length:Int)==0)==(p0.Size==0))) else Bk false) else Bk false) else Bk false) else Bk false:Option (Lp (Bool) (Bool))) λj0=>some j0
theorem aFN {u:Nat} {p0:cT} {o:Bool} (h:aF) (m:NB u p0=some o):
 aM prog 165 [.agg (bX p0)] h (λr h'=>r= .sc (.bool o)/\h'=h):=by
 refine fQ 32 [.tmp 2] Tryz.func165 rfl rfl rfl rfl ?_
 unfold NB at m
 refine v (gZ rfl rfl λk2 K3=>vs (fO m (σ:=Bool) (λs=>[(some k2,.obj 70 (bX p0))]) (λs=>.c 2 (.sc (.bool s)) .nil) (λx m=> ?_) ?_))
 refine v (vl 0 _ IC rfl rfl rfl (vk aAL TX m rfl rfl λ_ m=> ?_))
 apply vi m<;>intro b0 m
 rw[b0]
 refine vl 0 _ cB rfl rfl rfl ?_
 apply vi m<;>intro b1 m
 rw[b1]
 refine vl 0 _ cB rfl rfl rfl ?_
 apply vi m<;>intro b2 m
 rw[b2]
 refine vl 0 _ yC rfl rfl rfl (cU sU rfl ?_)
 apply vi m<;>intro b3 m
 rw[b3]
 exact vl 0 _ yC rfl rfl rfl (cU sU rfl (vl 0 _ cB rfl rfl rfl (bU (UU u4 rfl rfl rfl) (n5 m))))
 rw[b3]
 exact n5 m
 rw[b2]
 exact n5 m
 rw[b1]
 exact n5 m
 rw[b0]
 exact n5 m
 rintro _ j0 m
 refine v ?_
 obtain rfl:=eR m
 exact eH rfl
theorem aAM:aP prog 165=true:=by kernel_rfl
def s9 (m:Nat) (p0:bE) (q0:Int):Option (Lp (Int) (Int)):=
 if decide (q0 < (p0.Parts.length:Int)) then ((ix p0.Parts q0).bind λx0=>after ((NB m x0).bind λy0=>if (!y0)then Bk true else if decide (0 < q0) then ((ix p0.Parts (wrap .i64 (q0 - 1))).bind λx1=>Bk (Op.bytesLess x0.Path.toList x1.Path.toList || x0.Path.toList==x1.Path.toList)) else Bk false:Option (Lp (Bool) (Lp (Int) (Int)))) λj0=>if j0 then Rk 1 else Gk (wrap .i64 (q0+1))) else Bk q0
def KA (m:Nat) (p0:bE):Option (Int):=
 after ((J9 m p0.Name).bind λy0=>if (!y0)then Bk true else Bk (decide (6 < (p0.Parts.length:Int))):Option (Lp (Bool) (Int))) λj0=>if j0 then (some 1) else after (aR (λs=>s9 m p0 s) m 0) λr0=>some 0
theorem aAN {w:Nat} {p0:bE} {o:Int} (h:aF) (m:KA w p0=some o):
 aM prog 100 [.agg (bI p0)] h (λr h'=>r=nZ o/\h'=h):=by
 refine fQ 43 [.tmp 2] Tryz.func100 rfl rfl rfl rfl ?_
 unfold KA at m
 refine v (gZ rfl rfl λk2 K3=>vs (vs (fO m (σ:=Bool) (λs=>[(some k2,.obj 58 (bI p0))]) (λs=>.c 1 (.ptr k2 0) (.c 14 (.sc (.bool s)) .nil)) (λx m=> ?_) ?_)))
 refine v (vl 0 _ IC rfl rfl rfl (vk aAL TX m rfl rfl λ_ m=> ?_))
 apply vi m<;>intro b0 m
 rw[b0]
 exact wQ m
 rw[b0]
 exact vl 0 _ oO rfl rfl rfl (cU xX rfl (wQ m))
 rintro _ j0 m
 refine v ?_
 apply vi m<;>intro c0 m
 refine v (v ?_)
 obtain rfl:=eR m
 exact eH rfl
 refine v (v (vl 0 _ oO rfl rfl rfl (cU xX rfl (jS m (σ:=Int) (λs=>[(some k2,.obj 58 (bI p0))]) (λs=>.c 1 (.ptr k2 0) (.c 16 (.sl none 3 (map bX p0.Parts)) (.c 17 (nZ (p0.Parts.length:Int)) (.c 18 (nZ s) .nil)))) (lx (.k4 .nil)) ?_ ?_))))
 rintro _ q0 x m
 replace m:s9 w p0 q0=some x:=m
 unfold s9 at m
 refine v (v ?_)
 apply vi m<;>intro c1 m
 refine v (v (v (vx m qQ rfl rfl λx0 _ m=>va (.agg (bX x0)) EL rfl rfl (ve λu=>bG (YU) u J6 rfl rfl λk84 K0=>qk K0 rfl (ve λu=>aL 0 (bX x0) u rfl rfl rfl rfl MX rfl rfl λK1=>qk K1 rfl (vs (fO m (σ:=Bool) (λs=>[(some k84,.obj 70 (bX x0)),(some k2,.obj 58 (bI p0))]) (λs=>.c 1 (.ptr k2 0) (.c 16 (.sl none 3 (map bX p0.Parts)) (.c 17 (nZ (p0.Parts.length:Int)) (.c 18 (nZ q0) (.c 41 (.sc (.bool s)) .nil))))) (λx m=> ?_) ?_)))))))
 refine v (vq (by kernel_rfl) (vl 0 (.agg (bX x0)) EL rfl rfl rfl (vk aFN aAM m rfl rfl λ_ m=> ?_)))
 apply vi m<;>intro b1 m
 rw[b1]
 exact kN m
 rw[b1]
 apply vi m<;>intro b2 m
 rw[b2]
 exact vl 0 _ IC rfl rfl rfl (vl 1 _ oO rfl rfl rfl (vx m qQ rfl rfl λ_ _ m=>bU (GC rfl rfl rfl trivial) (kN m)))
 rw[b2]
 exact kN m
 rintro _ j1 m
 refine v ?_
 apply vi m<;>intro c2 m
 refine v (v (fY m λm=> ?_))
 obtain rfl:=eR m
 exact eH rfl
 exact v (v (zU m (mK [1] rfl rfl (.k4 .nil))))
 exact v (vB m)
 rintro _ r0 m
 refine v (v ?_)
 obtain rfl:=eR m
 exact eH rfl
theorem TY:aP prog 100=true:=by kernel_rfl
def tA (m:Nat) (p0:List aB) (p1:bH) (p2:aB->bH->Option Int) (q0:Int) (q1:Int):Option (Lp (Int×Int) (Int×Bool)):=
 if decide (q0 < q1) then ((ix p0 (wrap .i64 ((wrap .u64 (wrap .i64 (q0+q1))).fdiv (2 ^ (min (1:Int).toNat (IntKind.bits .u64)))))).bind λx0=>(p2 x0 p1).bind λy0=>after (if decide (y0 < 0) then (Bk (wrap .i64 ((wrap .i64 ((wrap .u64 (wrap .i64 (q0+q1))).fdiv (2 ^ (min (1:Int).toNat (IntKind.bits .u64)))))+1),q1)) else Bk (q0,wrap .i64 ((wrap .u64 (wrap .i64 (q0+q1))).fdiv (2 ^ (min (1:Int).toNat (IntKind.bits .u64))))):Option (Lp (Int×Int) (Lp (Int×Int) (Int×Bool)))) λ⟨j0,j1⟩=>Gk (j0,j1)) else Bk (q0,q1)
def NC (m:Nat) (p0:List aB) (p1:bH) (p2:aB->bH->Option Int):Option (Int×Bool):=
 after (aR (λs=>tA m p0 p1 p2 s.1 s.2) m (0,(p0.length:Int))) λ⟨r0,r1⟩=>after (if decide (r0 < (p0.length:Int)) then ((ix p0 r0).bind λx0=>(p2 x0 p1).bind λy0=>Bk (r0,(y0==0))) else Bk (r0,false):Option (Lp (Int×Bool) (Int×Bool))) λ⟨j0,j1⟩=>some (j0,j1)
theorem aFO {w:Nat} {p0:List aB} {p1:bH} {p2:aB->bH->Option Int} {o:Int×Bool} (h:aF) {p2F:Nat} {p2C:List AV} (p2B:aP prog p2F=true) (p2H:∀x0 x1 o h0,iJ h h0->p2 x0 x1=some o->aM prog p2F ([.agg (aK x0),.agg (bC x1)]++p2C) h0 (λr h'=>r=nZ o/\h'=h0)) (m:NC w p0 p1 p2=some o):
 aM prog 171 [.sl none 35 (map aK p0),.agg (bC p1),.fn (.func p2F) p2C] h (λr h'=>r= .tup [nZ o.1,.sc (.bool o.2)]/\h'=h):=by
 refine fQ 49 [.tmp 6,.tmp 7] Tryz.func171 rfl rfl rfl rfl ?_
 unfold NC at m
 refine v (gZ rfl rfl λk2 K3=>v (cU lH rfl (v (vs (jS m (σ:=Int×Int) (λs=>[(some k2,.obj 36 (bC p1))]) (λs=>.c 0 (.sl none 35 (map aK p0)) (.c 2 (.fn (.func p2F) p2C) (.c 4 (.ptr k2 0) (.c 8 (nZ (p0.length:Int)) (.c 9 (nZ s.1) (.c 10 (nZ s.2) .nil)))))) (lx (.k6 .nil)) ?_ ?_)))))
 rintro _ ⟨q0,q1⟩ x m
 replace m:tA w p0 p1 p2 q0 q1=some x:=m
 unfold tA at m
 refine v (v ?_)
 apply vi m<;>intro c0 m
 refine v (v (v (v (vq (by kernel_rfl) (vx m hX rfl rfl λx2 _ m=>va (.agg (aK x2)) pH rfl rfl (vl 0 (.agg (bC p1)) fA rfl rfl rfl ?_))))))
 obtain⟨_,Y0,m⟩:=aD m
 refine vn (λu=>bV (p2H _ _ _ _ (aU (nil_sublist _) u).1 Y0) rfl p2B rfl) (fO m (σ:=Int×Int) (λs=>[(some k2,.obj 36 (bC p1))]) (λs=>.c 0 (.sl none 35 (map aK p0)) (.c 2 (.fn (.func p2F) p2C) (.c 4 (.ptr k2 0) (.c 8 (nZ (p0.length:Int)) (.c 9 (nZ s.1) (.c 10 (nZ s.2) .nil)))))) (λx m=> ?_) ?_)
 refine v ?_
 apply vi m<;>intro c1 m
 exact v (mX m)
 exact v (mX m)
 rintro _ ⟨j0,j1⟩ m
 exact mX m
 exact v (bq6 m)
 rintro _ ⟨r0,r1⟩ m
 refine vs (fO m (σ:=Int×Bool) (λs=>[(some k2,.obj 36 (bC p1))]) (λs=>.c 6 (nZ s.1) (.c 7 (.sc (.bool s.2)) .nil)) (λx m=> ?_) ?_)
 refine v (vq (by kernel_rfl) ?_)
 apply vi m<;>intro b0 m
 rw[b0]
 refine vx m hX rfl rfl λx3 _ m=>va (.agg (aK x3)) pH rfl rfl (vl 0 (.agg (bC p1)) fA rfl rfl rfl ?_)
 obtain⟨_,Y1,m⟩:=aD m
 exact vn (λu=>bV (p2H _ _ _ _ (aU (nil_sublist _) u).1 Y1) rfl p2B rfl) (wQ m)
 rw[b0]
 exact wQ m
 rintro _ ⟨j2,j3⟩ m
 refine v ?_
 cases m
 exact vr2 rfl rfl
theorem aAO:aP prog 171=true:=by kernel_rfl
def tB (m:Nat) (p0:List aH) (p1:aH->Option Bool) (q0:Int):Option (Lp (Int) (Int)):=
 if decide (q0 < (p0.length:Int)) then ((ix p0 q0).bind λx0=>(p1 x0).bind λy0=>if y0 then Rk q0 else Gk (wrap .i64 (q0+1))) else Bk q0
def RI (m:Nat) (p0:List aH) (p1:aH->Option Bool):Option (Int):=
 after (aR (λs=>tB m p0 p1 s) m 0) λr0=>some (-1)
theorem aFP {w:Nat} {p0:List aH} {p1:aH->Option Bool} {o:Int} (h:aF) {p1F:Nat} {p1C:List AV} (p1B:aP prog p1F=true) (p1H:∀x0 o h0,iJ h h0->p1 x0=some o->aM prog p1F ([.agg (bJ x0)]++p1C) h0 (λr h'=>r= .sc (.bool o)/\h'=h0)) (m:RI w p0 p1=some o):
 aM prog 103 [.sl none 4 (map bJ p0),.fn (.func p1F) p1C] h (λr h'=>r=nZ o/\h'=h):=by
 refine fQ 19 [.tmp 4] Tryz.func103 rfl rfl rfl rfl ?_
 unfold RI at m
 refine v (v (cU lA rfl (jS m (σ:=Int) (λs=>[]) (λs=>.c 0 (.sl none 4 (map bJ p0)) (.c 1 (.fn (.func p1F) p1C) (.c 7 (nZ (p0.length:Int)) (.c 8 (nZ s) .nil)))) (lx (.k4 .nil)) ?_ ?_)))
 rintro _ q0 x m
 replace m:tB w p0 p1 q0=some x:=m
 unfold tB at m
 refine v (v ?_)
 apply vi m<;>intro c0 m
 refine v (v (v (v (vx m iW rfl rfl λx1 _ m=>va (.agg (bJ x1)) sR rfl rfl ?_))))
 obtain⟨_,Y0,m⟩:=aD m
 refine vn (λu=>bV (p1H _ _ _ (aU (nil_sublist _) u).1 Y0) rfl p1B rfl) (v ?_)
 apply vi m<;>intro c1 m
 refine v (v (fY m λm=> ?_))
 obtain rfl:=eR m
 exact eH rfl
 exact v (v (fZ m))
 exact v (vB m)
 rintro _ r0 m
 refine v (v ?_)
 cases m
 exact eH rfl
theorem ND:aP prog 103=true:=by kernel_rfl
def VT (m:Nat) (p0:List aH) (p1:aH->Option Bool):Option (Bool):=
 (RI m p0 p1).bind λy3=>some (decide (0<=y3))
theorem W58 {w:Nat} {p0:List aH} {p1:aH->Option Bool} {o:Bool} (h:aF) {p1F:Nat} {p1C:List AV} (p1B:aP prog p1F=true) (p1H:∀x0 o h0,iJ h h0->p1 x0=some o->aM prog p1F ([.agg (bJ x0)]++p1C) h0 (λr h'=>r= .sc (.bool o)/\h'=h0)) (m:VT w p0 p1=some o):
 aM prog 58 [.sl none 4 (map bJ p0),.fn (.func p1F) p1C] h (λr h'=>r= .sc (.bool o)/\h'=h):=by
 refine fQ 9 [.tmp 4] Tryz.func58 rfl rfl rfl rfl ?_
 unfold VT at m
 refine v (v ?_)
 obtain⟨_,Y4,m⟩:=aD m
 refine vn (λu=>bV (aFP _ p1B (λx0 o h0 hs ho=>p1H x0 o h0 ((aU (nil_sublist _) u).1.trans hs) ho) Y4) rfl ND rfl) (v ?_)
 cases m
 exact eH rfl
theorem aAP:aP prog 58=true:=by kernel_rfl
def RJ (m:Nat) (p0:aH) (c0:aT):Option (Bool):=
 some (p0.Seq==c0.Of)
theorem aFQ {w:Nat} {p0:aH} {c0:aT} {o:Bool} (h:aF) {c0K:bT} (c0H:h c0K=some (.obj 99 (cH c0))) (m:RJ w p0 c0=some o):
 aM prog 138 [.agg (bJ p0),.ptr c0K 0] h (λr h'=>r= .sc (.bool o)/\h'=h):=by
 refine fQ 9 [.tmp 3] Tryz.func138 rfl rfl rfl rfl ?_
 unfold RJ at m
 refine v (gZ rfl rfl λk2 K3=>v (vl 0 _ cB rfl rfl rfl (vn (λu=>gO (nZ c0.Of) cB rfl (gP u c0H) rfl) (v ?_))))
 cases m
 exact eH rfl
theorem aAQ:aP prog 138=true:=by kernel_rfl
def vD (m:Nat) (p0:aA) (q0:Int):Option (Lp (Int) (Bool)):=
 if decide (q0 < (p0.Exps.length:Int)) then ((ix p0.Exps q0).bind λx1=>after ((zW m x1.Seq 0 (wrap .i64 (p0.Seq - 1))).bind λy0=>if (!y0)then Bk true else if decide (0 < q0) then ((ix p0.Exps (wrap .i64 (q0 - 1))).bind λx2=>if decide (x1.Seq<=x2.Seq) then Bk true else (zW m x1.Of 0 (wrap .i64 (x1.Seq - 1))).bind λy1=>if (!y1)then Bk true else if ((x1.Locs.length:Int)==0)then Bk true else (AA m p0 x1.Locs).bind λy2=>Bk (!y2)) else (zW m x1.Of 0 (wrap .i64 (x1.Seq - 1))).bind λy3=>if (!y3)then Bk true else if ((x1.Locs.length:Int)==0)then Bk true else (AA m p0 x1.Locs).bind λy4=>Bk (!y4):Option (Lp (Bool) (Lp (Int) (Bool)))) λj0=>if j0 then Rk false else (VT m p0.Snaps (λx0=>RJ m x0 x1)).bind λy5=>if y5 then Rk false else Gk (wrap .i64 (q0+1))) else Bk q0
def M81 (m:Nat) (p0:aA):Option (Bool):=
 after (aR (λs=>vD m p0 s) m 0) λr0=>some (decide ((p0.Exps.length:Int)<=200))
theorem W81 {w:Nat} {p0:aA} {o:Bool} (h:aF) (m:M81 w p0=some o):
 aM prog 81 [.agg (aC p0)] h (λr h'=>r= .sc (.bool o)/\h'=h):=by
 refine fQ 67 [.tmp 2] Tryz.func81 rfl rfl rfl rfl ?_
 unfold M81 at m
 refine v (gZ rfl rfl λk2 K3=>v (vl 0 _ iL rfl rfl rfl (cU pT rfl (jS m (σ:=Int) (λs=>[(some k2,.obj 30 (aC p0))]) (λs=>.c 1 (.ptr k2 0) (.c 6 (.sl none 3 (map cH p0.Exps)) (.c 7 (nZ (p0.Exps.length:Int)) (.c 8 (nZ s) .nil)))) (lx (.k4 .nil)) ?_ ?_))))
 rintro _ q0 x m
 replace m:vD w p0 q0=some x:=m
 unfold vD at m
 refine v (v ?_)
 apply vi m<;>intro c0 m
 refine v (v (v (vx m iX rfl rfl λx0 _ m=>va (.agg (cH x0)) z9 rfl rfl (ve λu=>bG ([nZ 0,nZ 0,sZ]) u sV rfl rfl λk136 K0=>qk K0 rfl (ve λu=>aL 0 (cH x0) u rfl rfl rfl rfl J7 rfl rfl λK1=>qk K1 rfl (vs (vs (fO m (σ:=Bool) (λs=>[(some k136,.obj 99 (cH x0)),(some k2,.obj 30 (aC p0))]) (λs=>.c 1 (.ptr k2 0) (.c 4 (.ptr k136 0) (.c 6 (.sl none 3 (map cH p0.Exps)) (.c 7 (nZ (p0.Exps.length:Int)) (.c 8 (nZ q0) (.c 57 (.sc (.bool s)) .nil)))))) (λx m=> ?_) ?_))))))))
 refine v (vq (by kernel_rfl) (vl 0 _ cB rfl rfl rfl (vl 1 _ cB rfl rfl rfl (vk DP pJ m rfl rfl λ_ m=> ?_))))
 apply vi m<;>intro b0 m
 rw[b0]
 exact mX m
 rw[b0]
 apply vi m<;>intro b1 m
 rw[b1]
 refine vl 1 _ iL rfl rfl rfl (vx m iX rfl rfl λ_ _ m=>vl 0 _ cB rfl rfl rfl ?_)
 apply vi m<;>intro b2 m
 rw[b2]
 exact mX m
 rw[b2]
 refine vl 0 _ cB rfl rfl rfl (vl 0 _ cB rfl rfl rfl (vk DP pJ m rfl rfl λ_ m=> ?_))
 apply vi m<;>intro b3 m
 rw[b3]
 exact mX m
 rw[b3]
 refine vl 0 _ fW rfl rfl rfl (cU kB rfl ?_)
 apply vi m<;>intro b4 m
 rw[b4]
 exact mX m
 rw[b4]
 exact vl 1 (.agg (aC p0)) dC rfl rfl rfl (vl 0 _ fW rfl rfl rfl (vk J8 A6 m rfl rfl λ_ m=>mX m))
 rw[b1]
 refine vl 0 _ cB rfl rfl rfl (vl 0 _ cB rfl rfl rfl (vk DP pJ m rfl rfl λ_ m=> ?_))
 apply vi m<;>intro b5 m
 rw[b5]
 exact mX m
 rw[b5]
 refine vl 0 _ fW rfl rfl rfl (cU kB rfl ?_)
 apply vi m<;>intro b6 m
 rw[b6]
 exact mX m
 rw[b6]
 exact vl 1 (.agg (aC p0)) dC rfl rfl rfl (vl 0 _ fW rfl rfl rfl (vk J8 A6 m rfl rfl λ_ m=>mX m))
 rintro _ j0 m
 refine v ?_
 apply vi m<;>intro c1 m
 refine v (v (fY m λm=> ?_))
 obtain rfl:=eR m
 exact eH rfl
 refine v (v (vl 1 _ fD rfl rfl rfl ?_))
 obtain⟨_,Y0,m⟩:=aD m
 refine vn (λu=>bV (W58 _ aAQ (λ_ o h0 hs ho=>aFQ _ (hs _ _ (aW 0 u rfl)) ho) Y0) rfl aAP rfl) (v ?_)
 apply vi m<;>intro c2 m
 refine v (v (fY m λm=> ?_))
 obtain rfl:=eR m
 exact eH rfl
 exact v (v (zU m (mK [1] rfl rfl (.k4 .nil))))
 exact v (vB m)
 rintro _ r0 m
 refine v (vl 0 _ iL rfl rfl rfl (cU pT rfl (v ?_)))
 cases m
 exact eH rfl
theorem aFR:aP prog 81=true:=by kernel_rfl
theorem aFS:ZM prog 190:=⟨Tryz.f190,Tryz.func190,by kernel_rfl,by kernel_rfl,rfl,rfl⟩
theorem aFT {a b:AV} {xs ys:List Int} (h:aF) (h1:QD prog h a xs) (h2:QD prog h b ys):aM prog 182 [a,b] h (λr h'=>r=nZ (GH xs ys)/\h'=h):=by
 exact iZ 8 [.tmp 4] Tryz.func182 rfl rfl rfl rfl (f0 λK1 H1=>dR (vC rfl (eV (H1 _ _ (f0 λK1 H1=>dR (qI (fJ a rfl) (qI (fJ b rfl) (qI (ZN aFS rfl rfl h1 h2) (vC rfl (eV (H1 _ _ (iB (dW.one (.inl rfl) (iJ.refl _) (bD.refl _ _) ⟨rfl,rfl⟩)))))))))))))
theorem aAS:aP prog 182=true:=by kernel_rfl
def KB (m:Nat) (p0:bH) (p1:bH):Option (Int):=
 some (GH p0.1 p1.1)
theorem aAT {w:Nat} {p0:bH} {p1:bH} {o:Int} (h:aF) (m:KB w p0 p1=some o):
 aM prog 136 [.agg (bC p0),.agg (bC p1)] h (λr h'=>r=nZ o/\h'=h):=by
 refine fQ 8 [.tmp 4] Tryz.func136 rfl rfl rfl rfl ?_
 unfold KB at m
 refine v (gZ rfl rfl λk2 K3=>gZ rfl rfl λk5 K6=>v (vq (by kernel_rfl) (bU (TN xT rfl) (bU (TN xT rfl) (vn (λu=>bV (aFT _ (QD.view (aW 1 u rfl) rfl) (QD.view (aW 0 u rfl) rfl)) rfl aAS rfl) (v ?_))))))
 cases m
 exact eH rfl
theorem TZ:aP prog 136=true:=by kernel_rfl
def M96 (m:Nat) (p0:List Int):Option (List Int):=app [] p0
theorem W96 {w:Nat} {p0:List Int} {o:List Int} (h:aF) (m:M96 w p0=some o):
 aM prog 96 [.sl none 1 (map f9 p0)] h (λr h'=>∃t,(t=none->o= [])/\bP h [(t,.tok 5 1 (o.length*1))]/\r=ow t 1 (map f9 o)/\h'=hp h [(t,.tok 5 1 (o.length*1))]):=by
 refine iZ 8 [.tmp 2] Tryz.func96 rfl rfl rfl rfl ?_
 unfold M96 at m
 refine f0 λK1 H1=>dR (qI (iC (.sc (.slice _ _ _)) rfl) (eV (H1 _ _ (f0 λK1 H1=>f0 λK2 H2=>dR (vE rfl (kR (jT rfl (by rw[MT]; rfl) (by rw[bF]; exact rfl) (.inl ⟨_,_,_,rfl,λb hb=> ?_⟩))))))))
 refine eV (H2 _ _ (mT rfl (λhc=> ?_) (λhc=> ?_)))
 have h0:p0= []:=by
   cases p0 with
   | nil=>rfl
   | cons x l=>have:=hb (by simp); rw[this] at hc; cases hc
 subst h0
 obtain⟨rfl, -⟩:=jM m
 exact f0 λK1 H1=>dR (qI (iC (.sc (.slice _ _ _)) rfl) (eV (H1 _ _ (iB (dW.one (.inl rfl) (iJ.refl _) (gD _ _) ⟨none,λ_=>rfl,bP.none (bP.nil _),rfl,rfl⟩)))))
 exact lM (H1 _ _ (f0 λK1 H1=>dR (kR (GD (c:=f9) (bP.nil _) xW λu=>vE rfl (kR (fC (c:=f9) 0 m xW rfl rfl rfl (λ_=>rfl) u rfl λtg ot u=>qI (iC (ow _ _ _) rfl) (eV (H1 _ _ (iB (dW.one (.inl rfl) (iJ.refl _) (bD.refl _ _) ⟨tg,ot,u,rfl,rfl⟩))))))))))
theorem aFU:aP prog 96=true:=by kernel_rfl
def M71 (m:Nat) (p0:List aE):Option (List aE):=app [] p0
theorem W71 {w:Nat} {p0:List aE} {o:List aE} (h:aF) (m:M71 w p0=some o):
 aM prog 71 [.sl none 37 (map aI p0)] h (λr h'=>∃t,(t=none->o= [])/\bP h [(t,.tok 38 37 (o.length*37))]/\r=ow t 37 (map aI o)/\h'=hp h [(t,.tok 38 37 (o.length*37))]):=by
 refine iZ 8 [.tmp 2] Tryz.func71 rfl rfl rfl rfl ?_
 unfold M71 at m
 refine f0 λK1 H1=>dR (qI (iC (.sc (.slice _ _ _)) rfl) (eV (H1 _ _ (f0 λK1 H1=>f0 λK2 H2=>dR (vE rfl (kR (jT rfl (by rw[nQ]; rfl) (by rw[bF]; exact rfl) (.inl ⟨_,_,_,rfl,λb hb=> ?_⟩))))))))
 refine eV (H2 _ _ (mT rfl (λhc=> ?_) (λhc=> ?_)))
 have h0:p0= []:=by
   cases p0 with
   | nil=>rfl
   | cons x l=>have:=hb (by simp); rw[this] at hc; cases hc
 subst h0
 obtain⟨rfl, -⟩:=jM m
 exact f0 λK1 H1=>dR (qI (iC (.sc (.slice _ _ _)) rfl) (eV (H1 _ _ (iB (dW.one (.inl rfl) (iJ.refl _) (gD _ _) ⟨none,λ_=>rfl,bP.none (bP.nil _),rfl,rfl⟩)))))
 exact lM (H1 _ _ (f0 λK1 H1=>dR (kR (GD (c:=aI) (bP.nil _) lI λu=>vE rfl (kR (fC (c:=aI) 0 m lI rfl rfl rfl (λ_=>rfl) u rfl λtg ot u=>qI (iC (ow _ _ _) rfl) (eV (H1 _ _ (iB (dW.one (.inl rfl) (iJ.refl _) (bD.refl _ _) ⟨tg,ot,u,rfl,rfl⟩))))))))))
theorem aFV:aP prog 71=true:=by kernel_rfl
def vF (m:Nat) (p0:aA) (q0:Int):Option (Lp (Int) (Bool)):=
 if decide (q0 < (p0.Chunks.length:Int)) then ((ix p0.Chunks q0).bind λx0=>after (if decide (0 < q0) then ((ix p0.Chunks (wrap .i64 (q0 - 1))).bind λx1=>(KB m x1.Id x0.Id).bind λy0=>if decide (0<=y0) then Bk true else (AA m p0 x0.Locs).bind λy1=>if (!y1)then Bk true else if (!x0.Staged)then (if decide (0 < (x0.Data.length:Int)) then Bk true else if ((x0.Locs.length:Int)==0)then Bk true else if x0.Staged then ((zW m (x0.Data.length:Int) 1 64).bind λy2=>Bk (!y2)) else Bk false) else if x0.Staged then ((zW m (x0.Data.length:Int) 1 64).bind λy3=>Bk (!y3)) else Bk false) else (AA m p0 x0.Locs).bind λy4=>if (!y4)then Bk true else if (!x0.Staged)then (if decide (0 < (x0.Data.length:Int)) then Bk true else if ((x0.Locs.length:Int)==0)then Bk true else if x0.Staged then ((zW m (x0.Data.length:Int) 1 64).bind λy5=>Bk (!y5)) else Bk false) else if x0.Staged then ((zW m (x0.Data.length:Int) 1 64).bind λy6=>Bk (!y6)) else Bk false:Option (Lp (Bool) (Lp (Int) (Bool)))) λj0=>if j0 then Rk false else Gk (wrap .i64 (q0+1))) else Bk q0
def M79 (m:Nat) (p0:aA):Option (Bool):=
 after (aR (λs=>vF m p0 s) m 0) λr0=>some (decide ((p0.Chunks.length:Int)<=200))
theorem W79 {w:Nat} {p0:aA} {o:Bool} (h:aF) (m:M79 w p0=some o):
 aM prog 79 [.agg (aC p0)] h (λr h'=>r= .sc (.bool o)/\h'=h):=by
 refine fQ 68 [.tmp 2] Tryz.func79 rfl rfl rfl rfl ?_
 unfold M79 at m
 refine v (gZ rfl rfl λk2 K3=>v (vl 0 _ fE rfl rfl rfl (cU lH rfl (jS m (σ:=Int) (λs=>[(some k2,.obj 30 (aC p0))]) (λs=>.c 1 (.ptr k2 0) (.c 6 (.sl none 35 (map aK p0.Chunks)) (.c 7 (nZ (p0.Chunks.length:Int)) (.c 8 (nZ s) .nil)))) (lx (.k4 .nil)) ?_ ?_))))
 rintro _ q0 x m
 replace m:vF w p0 q0=some x:=m
 unfold vF at m
 refine v (v ?_)
 apply vi m<;>intro c0 m
 refine v (v (v (vx m hX rfl rfl λx0 _ m=>va (.agg (aK x0)) pH rfl rfl (ve λu=>bG (bC gY++(TE:List AV)) u qP rfl rfl λk168 K0=>qk K0 rfl (ve λu=>aL 0 (aK x0) u rfl rfl rfl rfl EK rfl rfl λK1=>qk K1 rfl (vs (fO m (σ:=Bool) (λs=>[(some k168,.obj 44 (aK x0)),(some k2,.obj 30 (aC p0))]) (λs=>.c 1 (.ptr k2 0) (.c 6 (.sl none 35 (map aK p0.Chunks)) (.c 7 (nZ (p0.Chunks.length:Int)) (.c 8 (nZ q0) (.c 62 (.sc (.bool s)) .nil))))) (λx m=> ?_) ?_)))))))
 refine v (vq (by kernel_rfl) ?_)
 apply vi m<;>intro b0 m
 rw[b0]
 refine vl 1 _ fE rfl rfl rfl (vx m hX rfl rfl λx1 _ m=>va (.agg (bC x1.Id)) fA rfl rfl (vl 0 (.agg (bC x0.Id)) fA rfl rfl rfl (vk aAT TZ m rfl rfl λ_ m=> ?_)))
 apply vi m<;>intro b1 m
 rw[b1]
 exact kN m
 rw[b1]
 refine vl 1 (.agg (aC p0)) dC rfl rfl rfl (vl 0 _ fW rfl rfl rfl (vk J8 A6 m rfl rfl λ_ m=> ?_))
 apply vi m<;>intro b2 m
 rw[b2]
 exact kN m
 rw[b2]
 refine vl 0 _ GV rfl rfl rfl ?_
 apply vi m<;>intro b3 m
 rw[b3]
 refine vl 0 _ n6 rfl rfl rfl (cU nR rfl ?_)
 apply vi m<;>intro b4 m
 rw[b4]
 exact kN m
 rw[b4]
 refine vl 0 _ fW rfl rfl rfl (cU kB rfl ?_)
 apply vi m<;>intro b5 m
 rw[b5]
 exact kN m
 rw[b5]
 refine vl 0 _ GV rfl rfl rfl ?_
 apply vi m<;>intro b6 m
 rw[b6]
 exact vl 0 _ n6 rfl rfl rfl (cU nR rfl (vk DP pJ m rfl rfl λ_ m=>kN m))
 rw[b6]
 exact kN m
 rw[b3]
 refine vl 0 _ GV rfl rfl rfl ?_
 apply vi m<;>intro b7 m
 rw[b7]
 exact vl 0 _ n6 rfl rfl rfl (cU nR rfl (vk DP pJ m rfl rfl λ_ m=>kN m))
 rw[b7]
 exact kN m
 rw[b0]
 refine vl 1 (.agg (aC p0)) dC rfl rfl rfl (vl 0 _ fW rfl rfl rfl (vk J8 A6 m rfl rfl λ_ m=> ?_))
 apply vi m<;>intro b8 m
 rw[b8]
 exact kN m
 rw[b8]
 refine vl 0 _ GV rfl rfl rfl ?_
 apply vi m<;>intro b9 m
 rw[b9]
 refine vl 0 _ n6 rfl rfl rfl (cU nR rfl ?_)
 apply vi m<;>intro b10 m
 rw[b10]
 exact kN m
 rw[b10]
 refine vl 0 _ fW rfl rfl rfl (cU kB rfl ?_)
 apply vi m<;>intro b11 m
 rw[b11]
 exact kN m
 rw[b11]
 refine vl 0 _ GV rfl rfl rfl ?_
 apply vi m<;>intro b12 m
 rw[b12]
 exact vl 0 _ n6 rfl rfl rfl (cU nR rfl (vk DP pJ m rfl rfl λ_ m=>kN m))
 rw[b12]
 exact kN m
 rw[b9]
 refine vl 0 _ GV rfl rfl rfl ?_
 apply vi m<;>intro b13 m
 rw[b13]
 exact vl 0 _ n6 rfl rfl rfl (cU nR rfl (vk DP pJ m rfl rfl λ_ m=>kN m))
 rw[b13]
 exact kN m
 rintro _ j0 m
 refine v ?_
 apply vi m<;>intro c1 m
 refine v (v (fY m λm=> ?_))
 obtain rfl:=eR m
 exact eH rfl
 exact v (v (zU m (mK [1] rfl rfl (.k4 .nil))))
 exact v (vB m)
 rintro _ r0 m
 refine v (vl 0 _ fE rfl rfl rfl (cU lH rfl (v ?_)))
 cases m
 exact eH rfl
theorem aFW:aP prog 79=true:=by kernel_rfl
def AB (m:Nat) (p0:aB) (p1:bH):Option (Int):=
 (KB m p0.Id p1).bind λy9=>some y9
theorem aFX {u:Nat} {p0:aB} {p1:bH} {o:Int} (h:aF) (m:AB u p0 p1=some o):
 aM prog 172 [.agg (aK p0),.agg (bC p1)] h (λr h'=>r=nZ o/\h'=h):=by
 refine fQ 9 [.tmp 4] Tryz.func172 rfl rfl rfl rfl ?_
 unfold AB at m
 refine v (gZ rfl rfl λk2 K3=>gZ rfl rfl λk5 K6=>v (vl 1 (.agg (bC p0.Id)) fA rfl rfl rfl (vl 0 (.agg (bC p1)) fA rfl rfl rfl (vk aAT TZ m rfl rfl λ_ m=>v ?_))))
 obtain rfl:=eR m
 exact eH rfl
theorem aAW:aP prog 172=true:=by kernel_rfl
def yG (m:Nat) (p0:List aB) (p1:bH):Option (Int×Bool):=
 (NC m p0 p1 (λx0 x1=>AB m x0 x1)).bind λy6=>some (y6.1,y6.2)
theorem VU {u:Nat} {p0:List aB} {p1:bH} {o:Int×Bool} (h:aF) (m:yG u p0 p1=some o):
 aM prog 116 [.sl none 35 (map aK p0),.agg (bC p1)] h (λr h'=>r= .tup [nZ o.1,.sc (.bool o.2)]/\h'=h):=by
 refine fQ 11 [.tmp 4,.tmp 5] Tryz.func116 rfl rfl rfl rfl ?_
 unfold yG at m
 refine v (gZ rfl rfl λk2 K3=>v (vl 0 (.agg (bC p1)) fA rfl rfl rfl ?_))
 obtain⟨_,Y7,m⟩:=aD m
 refine bU (bV (aFO _ aAW (λ_ _ o h0 hs ho=>aFX _ ho) Y7) rfl aAO rfl) (v ?_)
 cases m
 exact vr2 rfl rfl
theorem NE:aP prog 116=true:=by kernel_rfl
def yH (m:Nat) (p0:aA) (x0:cT) (q0:Int):Option (Lp (Int) (Lp (Int) (Lp ((List ByteArray)×Int) (Bool)))):=
 if decide (q0 < (x0.Ids.length:Int)) then ((ix x0.Ids q0).bind λx1=>(yG m p0.Chunks x1).bind λy0=>if (!y0.2)then (Rk (.ret (.ret false))) else Gk (wrap .i64 (q0+1))) else Bk q0
def vG (m:Nat) (p0:aA) (x0:aH) (q0:Int):Option (Lp (Int) (Lp ((List ByteArray)×Int) (Bool))):=
 if decide (q0 < (x0.Man.Parts.length:Int)) then ((ix x0.Man.Parts q0).bind λx1=>after (aR (λs=>yH m p0 x1 s) m 0) λr0=>Gk (wrap .i64 (q0+1))) else Bk q0
def vH (m:Nat) (p0:aA) (q0:List ByteArray) (q1:Int):Option (Lp ((List ByteArray)×Int) (Bool)):=
 if decide (q1 < (p0.Snaps.length:Int)) then ((ix p0.Snaps q1).bind λx0=>after ((zW m x0.Seq 0 (wrap .i64 (p0.Seq - 1))).bind λy0=>if (!y0)then Bk true else if decide (0 < q1) then ((ix p0.Snaps (wrap .i64 (q1 - 1))).bind λx1=>if decide (x0.Seq<=x1.Seq) then Bk true else if ((q0:List ByteArray).any λz=>x0.Man.Name==z)then Bk true else (KA m x0.Man).bind λy1=>if (y1 !=0)then Bk true else (AA m p0 x0.Locs).bind λy2=>Bk (!y2)) else if ((q0:List ByteArray).any λz=>x0.Man.Name==z)then Bk true else (KA m x0.Man).bind λy3=>if (y3 !=0)then Bk true else (AA m p0 x0.Locs).bind λy4=>Bk (!y4):Option (Lp (Bool) (Lp ((List ByteArray)×Int) (Bool)))) λj0=>if j0 then Rk false else after (aR (λs=>vG m p0 x0 s) m 0) λr0=>Gk (mB (q0:List ByteArray) x0.Man.Name,wrap .i64 (q1+1))) else Bk (q0,q1)
def M80 (m:Nat) (p0:aA):Option (Bool):=
 after (aR (λs=>vH m p0 s.1 s.2) m ([],0)) λ⟨r0,r1⟩=>some (decide ((p0.Snaps.length:Int)<=8))
theorem W80 {w:Nat} {p0:aA} {o:Bool} (h:aF) (m:M80 w p0=some o):
 aM prog 80 [.agg (aC p0)] h (λr h'=>r= .sc (.bool o)/\h'=h):=by
 refine fQ 99 [.tmp 2] Tryz.func80 rfl rfl rfl rfl ?_
 unfold M80 at m
 refine v (gZ rfl rfl λk2 K3=>v (ve λu=>B6 u λk6 K7=>qk K7 rfl (v (vl 1 _ fD rfl rfl rfl (cU lA rfl (jS m (σ:=(List ByteArray)×Int) (λs=>[(some k6,.mp (f8 kS (s.1:List ByteArray))),(some k2,.obj 30 (aC p0))]) (λs=>.c 1 (.ptr k2 0) (.c 3 (.mpv k6) (.c 14 (.sl none 4 (map bJ p0.Snaps)) (.c 15 (nZ (p0.Snaps.length:Int)) (.c 16 (nZ s.2) .nil))))) (lx (.k5 .nil)) ?_ ?_))))))
 rintro _ ⟨q0,q1⟩ x m
 replace m:vH w p0 q0 q1=some x:=m
 unfold vH at m
 refine v (v ?_)
 apply vi m<;>intro c0 m
 refine v (v (v (vx m iW rfl rfl λx0 _ m=>va (.agg (bJ x0)) sR rfl rfl (ve λu=>bG (XZ) u xZ rfl rfl λk540 K0=>qk K0 rfl (ve λu=>aL 0 (bJ x0) u rfl rfl rfl rfl GZ rfl rfl λK1=>qk K1 rfl (vs (vs (fO m (σ:=Bool) (λs=>[(some k540,.obj 60 (bJ x0)),(some k6,.mp (f8 kS (q0:List ByteArray))),(some k2,.obj 30 (aC p0))]) (λs=>.c 1 (.ptr k2 0) (.c 3 (.mpv k6) (.c 5 (.ptr k540 0) (.c 14 (.sl none 4 (map bJ p0.Snaps)) (.c 15 (nZ (p0.Snaps.length:Int)) (.c 16 (nZ q1) (.c 63 (.sc (.bool s)) .nil))))))) (λx m=> ?_) ?_))))))))
 refine v (vq (by kernel_rfl) (vl 0 _ cB rfl rfl rfl (vl 2 _ cB rfl rfl rfl (vk DP pJ m rfl rfl λ_ m=> ?_))))
 apply vi m<;>intro b0 m
 rw[b0]
 exact zV m
 rw[b0]
 apply vi m<;>intro b1 m
 rw[b1]
 refine vl 2 _ fD rfl rfl rfl (vx m iW rfl rfl λ_ _ m=>vl 0 _ cB rfl rfl rfl ?_)
 apply vi m<;>intro b2 m
 rw[b2]
 exact zV m
 rw[b2]
 refine vl 0 _ IC rfl rfl rfl (vn (λu=>GG M4 zb4 (xP.str u9) rfl rfl (aW 1 u rfl)) ?_)
 apply vi m<;>intro b3 m
 rw[b3]
 exact zV m
 rw[b3]
 refine vl 0 (.agg (bI x0.Man)) pW rfl rfl rfl (vk aAN TY m rfl rfl λ_ m=> ?_)
 apply vi m<;>intro b4 m
 rw[b4]
 exact zV m
 rw[b4]
 exact vl 2 (.agg (aC p0)) dC rfl rfl rfl (vl 0 _ fW rfl rfl rfl (vk J8 A6 m rfl rfl λ_ m=>zV m))
 rw[b1]
 refine vl 0 _ IC rfl rfl rfl (vn (λu=>GG M4 zb4 (xP.str u9) rfl rfl (aW 1 u rfl)) ?_)
 apply vi m<;>intro b5 m
 rw[b5]
 exact zV m
 rw[b5]
 refine vl 0 (.agg (bI x0.Man)) pW rfl rfl rfl (vk aAN TY m rfl rfl λ_ m=> ?_)
 apply vi m<;>intro b6 m
 rw[b6]
 exact zV m
 rw[b6]
 exact vl 2 (.agg (aC p0)) dC rfl rfl rfl (vl 0 _ fW rfl rfl rfl (vk J8 A6 m rfl rfl λ_ m=>zV m))
 rintro _ j0 m
 refine v ?_
 apply vi m<;>intro c1 m
 refine v (v (fY m λm=> ?_))
 obtain rfl:=eR m
 exact eH rfl
 refine v (v (vl 0 _ IC rfl rfl rfl (ve λu=>MB 1 u M4 (xP.str u9) rfl rfl rfl rfl λK2=>qk K2 rfl (v (vl 0 _ oO rfl rfl rfl (cU xX rfl (jS m (σ:=Int) (λs=>[(some k540,.obj 60 (bJ x0)),(some k6,.mp (f8 kS (mB (q0:List ByteArray) x0.Man.Name:List ByteArray))),(some k2,.obj 30 (aC p0))]) (λs=>.c 1 (.ptr k2 0) (.c 3 (.mpv k6) (.c 14 (.sl none 4 (map bJ p0.Snaps)) (.c 15 (nZ (p0.Snaps.length:Int)) (.c 16 (nZ q1) (.c 70 (.sl none 3 (map bX x0.Man.Parts)) (.c 71 (nZ (x0.Man.Parts.length:Int)) (.c 72 (nZ s) .nil)))))))) (lx (.k8 .nil)) ?_ ?_)))))))
 rintro _ q2 x m
 replace m:vG w p0 x0 q2=some x:=m
 unfold vG at m
 refine v (v ?_)
 apply vi m<;>intro c2 m
 refine v (v (v (vx m qQ rfl rfl λx1 _ m=>va (.agg (bX x1)) EL rfl rfl (ve λu=>bG (YU) u J6 rfl rfl λk732 K4=>qk K4 rfl (ve λu=>aL 0 (bX x1) u rfl rfl rfl rfl MX rfl rfl λK5=>qk K5 rfl (v (vl 0 _ yC rfl rfl rfl (cU sU rfl (jS m (σ:=Int) (λs=>[(some k732,.obj 70 (bX x1)),(some k540,.obj 60 (bJ x0)),(some k6,.mp (f8 kS (mB (q0:List ByteArray) x0.Man.Name:List ByteArray))),(some k2,.obj 30 (aC p0))]) (λs=>.c 1 (.ptr k2 0) (.c 3 (.mpv k6) (.c 14 (.sl none 4 (map bJ p0.Snaps)) (.c 15 (nZ (p0.Snaps.length:Int)) (.c 16 (nZ q1) (.c 70 (.sl none 3 (map bX x0.Man.Parts)) (.c 71 (nZ (x0.Man.Parts.length:Int)) (.c 72 (nZ q2) (.c 77 (.sl none 32 (map bC x1.Ids)) (.c 78 (nZ (x1.Ids.length:Int)) (.c 79 (nZ s) .nil))))))))))) (lx (.k11 .nil)) ?_ ?_)))))))))
 rintro _ q3 x m
 replace m:yH w p0 x1 q3=some x:=m
 unfold yH at m
 refine v (v ?_)
 apply vi m<;>intro c3 m
 refine v (v (v (vx m yB rfl rfl λx2 _ m=>va (.agg (bC x2)) fA rfl rfl (ve λu=>bG (bC gY) u MQ rfl rfl λk780 K6=>qk K6 rfl (ve λu=>aL 0 (bC x2) u rfl rfl rfl rfl MP rfl rfl λK8=>qk K8 rfl (v (vl 4 _ fE rfl rfl rfl (vl 0 (.agg (bC x2)) fA rfl rfl rfl (vk VU NE m rfl rfl λ_ m=>v (v ?_))))))))))
 apply vi m<;>intro c4 m
 refine v (v (fY m λm=>fY m λm=>fY m λm=> ?_))
 obtain rfl:=eR m
 exact eH rfl
 exact v (v (zU m (mK [1,2,3,4] rfl rfl (.k11 .nil))))
 exact v (aE8 m)
 rintro _ r0 m
 exact v (zU m (mK [1,2,3] rfl rfl (.k8 .nil)))
 exact v (bq8 m)
 rintro _ r1 m
 exact v (zU m (mK [1,2] rfl rfl (.k5 .nil)))
 exact v (YE m)
 rintro _ ⟨r2,r3⟩ m
 refine v (vl 1 _ fD rfl rfl rfl (cU lA rfl (v ?_)))
 cases m
 exact eH rfl
theorem aFY:aP prog 80=true:=by kernel_rfl
def RK (m:Nat) (p0:aA):Option (Int):=
 after ((zW m p0.Seq 0 1073741824).bind λy0=>if y0 then ((M78 m p0.Vols).bind λy1=>if y1 then ((M79 m p0).bind λy2=>if y2 then ((M80 m p0).bind λy3=>if y3 then ((M81 m p0).bind λy4=>Bk y4) else Bk false) else Bk false) else Bk false) else Bk false:Option (Lp (Bool) (Int))) λj0=>if j0 then (some 0) else some 1
theorem W31 {u:Nat} {p0:aA} {o:Int} (h:aF) (m:RK u p0=some o):
 aM prog 31 [.agg (aC p0)] h (λr h'=>r=nZ o/\h'=h):=by
 refine fQ 23 [.tmp 2] Tryz.func31 rfl rfl rfl rfl ?_
 unfold RK at m
 refine v (gZ rfl rfl λk2 K3=>vs (vs (fO m (σ:=Bool) (λs=>[(some k2,.obj 30 (aC p0))]) (λs=>.c 22 (.sc (.bool s)) .nil) (λx m=> ?_) ?_)))
 refine v (vl 0 _ cB rfl rfl rfl (vk DP pJ m rfl rfl λ_ m=> ?_))
 apply vi m<;>intro b0 m
 rw[b0]
 refine vl 0 _ i9 rfl rfl rfl (vk W78 aFL m rfl rfl λ_ m=> ?_)
 apply vi m<;>intro b1 m
 rw[b1]
 refine vl 0 (.agg (aC p0)) dC rfl rfl rfl (vk W79 aFW m rfl rfl λ_ m=> ?_)
 apply vi m<;>intro b2 m
 rw[b2]
 refine vl 0 (.agg (aC p0)) dC rfl rfl rfl (vk W80 aFY m rfl rfl λ_ m=> ?_)
 apply vi m<;>intro b3 m
 rw[b3]
 exact vl 0 (.agg (aC p0)) dC rfl rfl rfl (vk W81 aFR m rfl rfl λ_ m=>n5 m)
 rw[b3]
 exact n5 m
 rw[b2]
 exact n5 m
 rw[b1]
 exact n5 m
 rw[b0]
 exact n5 m
 rintro _ j0 m
 refine v ?_
 apply vi m<;>intro c0 m
 refine v (v ?_)
 obtain rfl:=eR m
 exact eH rfl
 refine v (v (v ?_))
 obtain rfl:=eR m
 exact eH rfl
theorem NF:aP prog 31=true:=by kernel_rfl
end Go.Proofs.YtbbifdfldpfphaaGreat
namespace Go.Vm
theorem wr {n:Int} (h: -9223372036854775808<=n) (h2:n < 9223372036854775808):wrap .i64 n=n:=by
 have e:wrap .i64 n=(if decide (n % 18446744073709551616>=9223372036854775808)then n % 18446744073709551616 - 18446744073709551616 else n % 18446744073709551616):=rfl
 rw[e]
 simp only[decide_eq_true_eq]
 split<;>omega
theorem iG {i:Nat} (h:i < 1000000000):wrap .i64 ((i:Int)+1)=((i+1:Nat):Int):=by rw[wr (by omega) (by omega)]; rfl
theorem yI {i:Nat} (h:i < 1000000000) (h0:0 < i):wrap .i64 ((i:Int) - 1)=((i - 1:Nat):Int):=by rw[wr (by omega) (by omega)]; omega
theorem aX {α:Type} (l:List α) (i:Nat):ix l (i:Int)=l[i]? :=by simp[ix]
theorem oQ {α:Type} (l:List α) {i:Int} (h:0<=i):ix l i=l[i.toNat]? :=by simp[ix,h]
theorem bN {α:Type} {xs ys:List α} (h:xs.length+ys.length<=1000000000):app xs ys=some (xs++ys):=by simp[app,h]
theorem cK {σ ρ:Type} (c:Prop) [Decidable c] (a b:Option (Lp σ ρ)) (k:σ->Option ρ):after (if c then a else b) k=if c then after a k else after b k:=by split<;>rfl
theorem aG {σ ρ:Type} (s:σ) (k:σ->Option ρ):after (some (.brk s)) k=k s:=rfl
theorem cE {σ ρ:Type} (r:ρ) (k:σ->Option ρ):after (some (.ret r)) k=some r:=rfl
theorem cV {α β:Type} (c:Prop) [Decidable c] (a b:Option α) (k:α->Option β):(if c then a else b).bind k=if c then a.bind k else b.bind k:=by split<;>rfl
def LF {S ρ:Type} (emb:Nat->S) (p:Nat->Bool) (rv:Nat->ρ) (n:Nat):Lp S ρ:=match (range n).find? p with
 | none=>.brk (emb n)
 | some i=>.ret (rv i)
theorem EN {S ρ:Type} {body:S->Option (Lp S ρ)} (emb:Nat->S) (p:Nat->Bool) (rv:Nat->ρ):∀(m k F:Nat),m < F->
    (∀i,k<=i->i < k+m->(∀j,j < i->k<=j->p j=false)->body (emb i)=some (if p i then .ret (rv i) else .go (emb (i+1))))->((∀j,k<=j->j < k+m->p j=false)->body (emb (k+m))=some (.brk (emb (k+m))))->
    aR body F (emb k)=some (match (List.range' k m).find? p with | none=>.brk (emb (k+m)) | some i=>.ret (rv i))
  | 0,k,F+1,_,_,he=>by
    have:=he (λj h1 h2=>by omega)
    simp only[Nat.add_zero] at this
    simp[aR,this]
  | m+1,k,F+1,hF,hb,he=>by
    have h0:=hb k (Nat.le_refl _) (by omega) (λj h1 h2=>by omega)
    rw[List.range'_succ,List.find?_cons]
    cases hp:p k with
    | true=>simp[aR,h0,hp]
    | false=>
      have:=EN (body:=body) emb p rv m (k+1) F (by omega) (λi h1 h2 h3=>hb i (by omega) (by omega) (λj h4 h5=>by
        by_cases e:j=k
        . subst e; exact hp
        . exact h3 j h4 (by omega))) (λh=>by
        rw[show k+1+m=k+(m+1) from by omega]
        exact he λj h4 h5=>by
          by_cases e:j=k
          . subst e; exact hp
          . exact h j (by omega) (by omega))
      simp only[aR,h0,hp]
      rw[if_neg (by simp)]
      simp only[this,show k+1+m=k+(m+1) from by omega]
theorem eZ {S ρ:Type} {body:S->Option (Lp S ρ)} {n F:Nat} {s0:S} (emb:Nat->S) (p:Nat->Bool) (rv:Nat->ρ) (hF:n < F) (h0:s0=emb 0)
    (hb:∀i,i < n->(∀j,j < i->p j=false)->body (emb i)=some (if p i then .ret (rv i) else .go (emb (i+1)))) (he:(∀j,j < n->p j=false)->body (emb n)=some (.brk (emb n))):
    aR body F s0=some (LF emb p rv n):=by
  subst h0
  have:=EN (body:=body) emb p rv n 0 F hF (λi _ h2 h3=>hb i (by omega) λj hj=>h3 j hj (Nat.zero_le _)) (λh=>by simpa using he λj hj=>h j (Nat.zero_le _) (by omega))
  rw[this,LF,List.range_eq_range']
  simp
theorem iS {S ρ:Type} {emb:Nat->S} {p:Nat->Bool} {r:ρ} {n:Nat}:LF emb p (λ_=>r) n=if (range n).any p then .ret r else .brk (emb n):=by
 unfold LF
 split
 ·rename_i h
  rw[if_neg]
  simp only[List.any_eq_true,not_exists,not_and]
  exact λx hx=>List.find?_eq_none.1 h x hx
 ·rename_i i h
  rw[if_pos]
  exact List.any_eq_true.2 ⟨i,List.mem_of_find?_eq_some h,List.find?_some h⟩
end Go.Vm
