import Derived.Test.YtbbifdfldpfphaaGreatK7P1
import Derived.Lib.AppendStr
set_option linter.unusedSimpArgs false
set_option linter.unusedVariables false
set_option maxHeartbeats 4000000
set_option maxRecDepth 100000
namespace Go.Vm
def bA (xs:List Int):ByteArray:=xs.foldl (λacc z=>acc.push z.toNat.toUInt8) .empty
def vN (xs ys:List Int):Int:=Extern.BytealgCompare.cmp (bA xs) (bA ys)
theorem gY {P:Program} {w:World} {g:Nat}:∀(xs:List Int) (o:Nat) (acc:ByteArray),(∀(j:Nat) (z:Int),xs[j]? =some z→w.cell? ⟨g,o+j,none⟩=some (.int .u8 z))→
    (Extern.Bytes.loadBytes ⟨g,o,none⟩ xs.length acc).run P w= .ok (xs.foldl (λacc z=>acc.push z.toNat.toUInt8) acc) w
  | [],_,_,_=>rfl
  | z::xs,o,acc,hc=>by
    have h0:=hc 0 z rfl
    simp only[Nat.add_zero] at h0
    have ih:=gY (P:=P) xs (o+1) (acc.push z.toNat.toUInt8) (λj y hj=>by
      have:=hc (j+1) y (by simpa using hj)
      rwa [show o+(j+1)=o+1+j from by omega] at this)
    have hl:(load ⟨g,o,none⟩).run P w= .ok (.int .u8 z) w:=by simp[load,Sem.run,h0]
    simp only[List.length_cons,Extern.Bytes.loadBytes,Sem.run_bind,hl,Result.andThen_ok,List.foldl_cons]
    rw[Addr.add_lit]
    exact ih
def zZ (P:Program) (h:aA) (a:AV) (xs:List Int):Prop:=∀E w v,cT E h w→VR E w a v→(Extern.Bytes.bytesOf v).run P w= .ok (bA xs) w
theorem F2 (xs:List Int):(xs.map λz=> [AV.sc (.int .u8 z)]).flatten=xs.map λz=>AV.sc (.int .u8 z):=by
 induction xs with
 | nil=>rfl
 | cons x xs ih=>simp[ih]
theorem zZ.sl {P:Program} (h:aA) (tag:Option aY) (xs:List Int):zZ P h (.sl tag 1 (xs.map λz=> [AV.sc (.int .u8 z)])) xs:=by
 intro E w v r hv
 cases xs with
 | nil=>
  simp only[VR,List.map_nil] at hv
  obtain⟨a,cap,rfl,_⟩:=hv
  cases a with
  | none=>rfl
  | some a=>rfl
 | cons x xs=>
  obtain⟨g,o,cap,cv,rfl,c1,c2,c3,c4⟩:=g6 hv (by simp)
  rw[F2] at c1
  have hcv:=kM c1
  subst hcv
  have:=gY (P:=P) (w:=w) (g:=g) (x::xs) o .empty (λj z hj=>(c4 j (.int .u8 z) (by rw[List.getElem?_map,hj]; rfl)).1)
  simpa [Extern.Bytes.bytesOf,bA] using this
theorem zZ.view {P:Program} {h:aA} {q:aY} {off:Nat} {ty:TypeId} {cs:List AV} {y:cF} (hq:h q=some (.obj ty cs)) (hc:(cs.drop off).take 32=bH y):zZ P h (.view q off 32) y.1:=by
 intro E w v r hv
 simp only[VR] at hv
 obtain⟨g,cap,hg,rfl,_⟩:=hv
 obtain⟨g',cur,e1,e2,e3,e4⟩:=r.obj q ty cs hq
 rw[hg] at e1; cases e1
 have hl:=dG 32 (eE off e3)
 rw[hc,iX] at hl
 have hcv:=kM hl
 have:=gY (P:=P) (w:=w) (g:=g) y.1 off .empty (λj z hj=>by
  have h1:((cur.toList.drop off).take 32)[j]? =some (.int .u8 z):=by rw[hcv,List.getElem?_map,hj]; rfl
  have hj32:j < 32:=by
   have:=(List.getElem?_eq_some_iff.1 h1).1
   rw[List.length_take] at this; omega
  rw[List.getElem?_take_of_lt hj32,List.getElem?_drop] at h1
  simp only[World.cell?,e2]
  simpa using h1)
 rw[y.2] at this
 simpa [Extern.Bytes.bytesOf,bA] using this
structure F3 (P:Program) (f:FuncId):Prop where
 ex : ∃ fn, P.funcs[f]? = some fn ∧ (fn.name == "runtime.NumGoroutine") = false ∧ fn.body.isNone = true ∧ Extern.findNext fn = none ∧ Extern.find fn = some Extern.BytealgCompare.compare
section ops
variable {P:Program} {h:aA} {n:Nat} {kvs:KV} {ty:TypeId} {pos:String} {bV:Array Edge}
theorem F4 {dst:Option Tmp} {f:FuncId} {x y:Operand} {ts:Array TypeId} {a b:AV} {xs ys:List Int} (hf:F3 P f) (ha:cB n kvs x=a) (hb:cB n kvs y=b) (h1:zZ P h a xs) (h2:zZ P h b ys):
    cW P ⟨dst,.call { callee:=.value (.func f),args:= #[x,y],argTypes:=ts},ty,pos,bV,none⟩ (.sc (.int .i64 (vN xs ys))) (fm n kvs) h:=by
  refine cO (x:=.sc (.int .i64 (vN xs ys))) (λE w ac r hv=> ?_) ⟨rfl,rfl⟩
  have va:=hv x (by simp[Op.operands,Call.operands])
  have vb:=hv y (by simp[Op.operands,Call.operands])
  rw[aO,ha] at va; rw[aO,hb] at vb
  obtain⟨fn,f1,f2,f3,f4,f5⟩:=hf.ex
  refine⟨.int .i64 (vN xs ys), ?_,by simp only[VR]⟩
  have hext:=run_callFunc_extern f1 f2 f3 f4 f5 #[ac.eval x,ac.eval y] w
  have r1:=h1 E w _ r va
  have r2:=h2 E w _ r vb
  have hcmp:(Extern.BytealgCompare.compare #[ac.eval x,ac.eval y]).run P w= .ok (.int .i64 (vN xs ys)) w:=by
    change Sem.run P (do
      let p ← Extern.Bytes.bytesOf (ac.eval x)
      let q ← Extern.Bytes.bytesOf (ac.eval y)
      pure (goInt (Extern.BytealgCompare.cmp p q))) w=_
    simp only[Sem.run_bind,r1,r2,Result.andThen_ok,Sem.run_pure]
    rfl
  rw[hcmp] at hext
  simp only[execOp,resolve,List.map_toArray,List.map_cons,List.map_nil]
  have:(ac.eval (.func f))= .func (.func f) #[] #[]:=rfl
  simp only[this,Deferred.ofValue,Sem.run_bind,Sem.run_pure,Result.andThen_ok,invoke]
  simpa using hext
theorem rK {dst:Option Tmp} {t:TypeId} {a:Operand} {q:aY} {off:Nat} (ht:AC P t=some (32,1)) (ha:cB n kvs a= .ptr q off):cW P ⟨dst,.slice t a none none none,ty,pos,bV,none⟩ (.view q off 32) (fm n kvs) h:=by
 have hT:AH P t=true:=by simp[AH,ht]
 refine g9 (c:=((32:Nat)≤1000000∧(0:Int)≤0∧(0:Int) < 32∧(32:Int)≤(32:Nat))) ?_ ⟨by decide,by decide,by decide,by decide⟩
 simp only[pv,aO,ha,Option.map_none,uB,ht,Option.bind_some,kH,hT,if_true]
 rfl
theorem m9 {q:aY} {off:Nat} {oty:TypeId} {cs:List AV} {y:cF} (hq:h q=some (.obj oty cs)) (hc:(cs.drop off).take 32=bH y) (hl:Nat.ble (off+32*1) cs.length=true):g7 h 1 (.view q off 32)=some (y.1.map λz=> [AV.sc (.int .u8 z)]):=by
 have hl':=Nat.le_of_ble_eq_true hl
 simp only[g7,hq,if_pos hl',Option.some.injEq]
 have gen:∀(m:Nat) (l:List AV),m≤l.length→sJ 1 m l=(l.take m).map λx=> [x]:=by
  intro m
  induction m with
  | zero=>intro l _; simp[sJ]
  | succ m ih=>
   intro l hm
   cases l with
   | nil=>simp at hm
   | cons x l=>simp only[sJ,List.take_succ_cons,List.take_zero,List.map_cons,List.drop_succ_cons,List.drop_zero]; rw[ih l (by simpa using hm)]
 rw[gen 32 _ (by rw[List.length_drop]; omega),hc,iX,List.map_map]
 rfl
end ops
theorem rL (h:aA) {k k':aY} (e e':Option dX) (hn:k≠k'):upd (upd h k e) k' e'=upd (upd h k' e') k e:=by
 funext x
 unfold upd
 by_cases h1:x=k
 ·by_cases h2:x=k'
  ·exact absurd (h1.symm.trans h2) hn
  ·simp[h1,hn]
 ·simp[h1]
theorem AR {h0:aA} {a b:Option aY×dX} {L:HL} (hk:aS h0 (a::b::L)):hp h0 (a::b::L)=hp h0 (b::a::L)∧aS h0 (b::a::L):=by
 obtain⟨ta,ea⟩:=a
 obtain⟨tb,eb⟩:=b
 obtain⟨⟨h1,h2⟩,h3⟩:=hk
 cases ta with
 | none=>cases tb with
  | none=>exact⟨rfl,⟨⟨h1,nofun⟩,nofun⟩⟩
  | some kb=>exact⟨rfl,⟨⟨h1,nofun⟩,h2⟩⟩
 | some ka=>
  have q:=h3 ka rfl
  cases tb with
  | none=>exact⟨rfl,⟨⟨h1,h3⟩,nofun⟩⟩
  | some kb=>
   have hne:ka≠kb:=λe=>by
    subst e
    simp only[hp,bK] at q
    cases q
   have q2:hp h0 L ka=none:=by
    simp only[hp] at q
    rwa [aU _ _ hne] at q
   refine⟨?_,⟨h1,λk e=>by cases e; exact q2⟩,λk e=> ?_⟩
   ·simp only[hp]
    exact rL _ _ _ (Ne.symm hne)
   ·cases e
    simp only[hp]
    rw[aU _ _ (Ne.symm hne)]
    exact h2 _ rfl
theorem aS.cons_eq {h0:aA} {a:Option aY×dX} {L L':HL} (e:hp h0 L=hp h0 L') (hk:aS h0 L') (h2:aS h0 (a::L)):hp h0 (a::L)=hp h0 (a::L')∧aS h0 (a::L'):=by
 obtain⟨t,en⟩:=a
 refine⟨?_,hk, ?_⟩
 ·cases t <;> simp only[hp,e]
 ·intro k q; rw[← e]; exact h2.2 k q
theorem eI {h0:aA} {L L':HL} (p:L.Perm L'):aS h0 L→hp h0 L=hp h0 L'∧aS h0 L':=by
 induction p with
 | nil=>intro hk; exact⟨rfl,hk⟩
 | cons x p ih=>
  intro hk
  obtain⟨e,h2⟩:=ih hk.1
  exact aS.cons_eq e h2 hk
 | swap x y l=>intro hk; exact AR hk
 | trans p q ih1 ih2=>
  intro hk
  obtain⟨e1,k1⟩:=ih1 hk
  obtain⟨e2,k2⟩:=ih2 k1
  exact⟨e1.trans e2,k2⟩
theorem lK (h0:aA):∀(A R:HL),hp (hp h0 R) A=hp h0 (A++R)
 | [],R=>rfl
 | (none,e)::A,R=>lK h0 A R
 | (some k,e)::A,R=>by
  show upd (hp (hp h0 R) A) k (some e)=upd (hp h0 (A++R)) k (some e)
  rw[lK h0 A R]
theorem uH {h0:aA}:∀ {A R:HL},aS h0 R→aS (hp h0 R) A→aS h0 (A++R)
 | [],_,hr,_=>hr
 | (t,e)::A,R,hr,ha=>⟨uH hr ha.1,λk q=>by show hp h0 (A++R) k=none; rw[← lK]; exact ha.2 k q⟩
theorem pQ {h0:aA}:∀(A R:HL),aS h0 (A++R)→aS h0 R∧aS (hp h0 R) A
 | [],_,h=>⟨h,trivial⟩
 | (t,e)::A,R,h=>by
  obtain⟨h1,h2⟩:=h
  obtain⟨h3,h4⟩:=pQ A R h1
  exact⟨h3,h4,λk q=>by rw[lK]; exact h2 k q⟩
theorem aS.co {h0:aA} {L:HL} {x:Option aY×dX} (a:aS h0 L) (b:aS (hp h0 L) [x]):aS h0 (x::L):=⟨a,b.2⟩
theorem eX {P:Program} {o:Oper} {K:AV→aA→Prop} {fr:Fr} {h h':aA} (e:h=h') (ho:eD P o K fr h'):eD P o K fr h:=by subst e; exact ho
theorem eQ.aops {P:Program} {ops:Array Oper} {l:List Oper} {K:Fr→aA→Prop} {fr fr':Fr} {h h':aA} (le:eQ fr' h' fr h) (k:dS P ops l K fr' h'):dS P ops l K fr h:=by
 intro E w a r vv d Q hQ
 obtain⟨E',k',r',v'⟩:=le E w _ r vv
 exact k E' w a r' v' d Q λa' w' p=>hQ _ _ (p.trans k')
def AS (Q:Exit→Fr→aA→Prop):Exit→Fr→aA→Prop:=λe fr h=>∃fr' h',eQ fr' h' fr h∧Q e fr' h'
theorem AS.mk {Q:Exit→Fr→aA→Prop} {e:Exit} {fr fr':Fr} {h h':aA} (le:eQ fr' h' fr h) (q:Q e fr' h'):AS Q e fr h:=⟨_,_,le,q⟩
theorem F5 {P:Program} {c:Code} {Q:Exit→Fr→aA→Prop} {fr:Fr} {h:aA} (hc:AW P c (AS Q) fr h):AW P c Q fr h:=
 λE w a r v d=>wp_mono (hc E w a r v d) λ_ _ w' ⟨_,_,_,k,r',v',d',fr2,h2,le,q⟩=>let ⟨E'',k2,r2,v2⟩:=le _ w' _ r' v'; ⟨E'',fr2,h2,k.trans k2,r2,v2,d',q⟩
theorem eQ.eqh {fr:Fr} {h h':aA} (e:h=h'):eQ fr h' fr h:=by subst e; exact eQ.of (eO.refl h) (bS.refl _ _)
structure eM where
 t:Option aY
 n:Nat
 cap:Nat
 sp:List AV
def aw (t:Option aY) (n cap:Nat):AV:=match t with
 | none=>.e0
 | some k=>.vw k n cap
def sB (t:Option aY) (off:Nat):AV:=match t with
 | none=>.any
 | some k=>.ptr k off
def fl {α:Type} (c:α→List AV) (xs:List α) (sp:List AV):List AV:=(xs.map c).flatten++sp
structure cV (g:eM) (sz n:Nat):Prop where
 eqn:g.n=n
 nil:g.t=none→n=0
 le:n≤g.cap
 mx:g.cap≤maxLen
 len:n*sz+g.sp.length=g.cap*sz
def g0:eM:=⟨none,0,0, []⟩
theorem cV.g0 (sz:Nat):cV g0 sz 0:=⟨rfl,λ_=>rfl,Nat.le_refl _,Nat.zero_le _,by simp[Vm.g0]⟩
section flat
variable {α:Type} {c:α→List AV} {sz:Nat}
theorem iZ (hc:∀y,(c y).length=sz):∀(xs:List α),(xs.map c).flatten.length=xs.length*sz
 | []=>by simp
 | x::xs=>by simp only[List.map_cons,List.flatten_cons,List.length_append,hc,iZ hc xs,List.length_cons,Nat.add_mul,Nat.one_mul]; omega
theorem C1 (hc:∀y,(c y).length=sz) (xs:List α) (sp:List AV):(fl c xs sp).length=xs.length*sz+sp.length:=by
 unfold fl; rw[List.length_append,iZ hc]
theorem uI (hc:∀y,(c y).length=sz) (sp:List AV):∀ {xs:List α} {i:Nat} {x:α},xs[i]? =some x→∃r,(fl c xs sp).drop (i*sz)=c x++r
 | [],_,_,h=>by simp at h
 | y::ys,0,x,h=>by
  simp only[List.getElem?_cons_zero,Option.some.injEq] at h
  subst h
  exact⟨fl c ys sp,by simp[fl]⟩
 | y::ys,i+1,x,h=>by
  obtain⟨r,e⟩:=uI hc sp (xs:=ys) (i:=i) (by simpa using h)
  refine⟨r, ?_⟩
  rw[← e]
  have:fl c (y::ys) sp=c y++fl c ys sp:=by simp[fl]
  rw[this,Nat.add_mul,Nat.one_mul,Nat.add_comm,← List.drop_drop,List.drop_left' (hc y)]
theorem oP (hc:∀y,(c y).length=sz) (sp:List AV) {ys:List AV} {fo:Nat} (hf:fo+ys.length≤sz) {x':α}:∀ {xs:List α} {i:Nat} {x:α},xs[i]? =some x→cJ (c x) fo ys=c x'→cJ (fl c xs sp) (i*sz+fo) ys=fl c (xs.set i x') sp
 | [],_,_,h,_=>by simp at h
 | y::zs,0,x,h,hs=>by
  simp only[List.getElem?_cons_zero,Option.some.injEq] at h
  subst h
  have e1:fl c (y::zs) sp=c y++fl c zs sp:=by simp[fl]
  have e2:fl c ((y::zs).set 0 x') sp=c x'++fl c zs sp:=by simp[fl]
  rw[e1,e2,← hs,Nat.zero_mul,Nat.zero_add]
  unfold cJ
  rw[List.take_append_of_le_length (by rw[hc]; omega),List.drop_append_of_le_length (by rw[hc]; omega)]
  simp
 | y::zs,i+1,x,h,hs=>by
  have ih:=oP hc sp hf (xs:=zs) (i:=i) (by simpa using h) hs
  have e1:fl c (y::zs) sp=c y++fl c zs sp:=by simp[fl]
  have e2:fl c ((y::zs).set (i+1) x') sp=c y++fl c (zs.set i x') sp:=by simp[fl]
  rw[e1,e2,← ih,show (i+1)*sz+fo=(c y).length+(i*sz+fo) from by rw[hc,Nat.add_mul]; omega]
  unfold cJ
  rw[List.take_length_add_append,show (c y).length+(i*sz+fo)+ys.length=(c y).length+(i*sz+fo+ys.length) from by omega,List.drop_length_add_append]
  simp
end flat
section ops
variable {P:Program} {ops:Array Oper} {K:Fr→aA→Prop} {h h0:aA} {L:HL} {n:Nat} {kvs:KV} {l:List Oper} {ty:TypeId} {pos:String} {bV:Array Edge}
theorem AT {o:Oper} {K:AV→aA→Prop} {kvs':KV} (hl:∀y∈o.op.operands,aN h (cB n kvs y) (cB n kvs' y)) (ho:eD P o K (fm n kvs') h):eD P o K (fm n kvs) h:=
 CU (λy hy=>by rw[aO,aO]; exact hl y hy) ho
theorem sP (h:aA) (k:aY) (n cap:Nat):aN h (.vw k n cap) (.view k 0 n):=by
 intro E w v r hv
 simp only[VR] at hv ⊢
 obtain⟨g,hg,rfl,h1,h2⟩:=hv
 exact⟨g,cap,hg,rfl,h1,h2⟩
theorem pR {o:Oper} {K:AV→aA→Prop} {s:Nat} (v:AV) (hv:aN h (lk n kvs s) v) (ho:eD P o K (fm n (kp kvs s v)) h):eD P o K (fm n kvs) h:=by
 refine AT (λy _=> ?_) ho
 cases y with
 | tmp u=>
  simp only[cB,iS] at hv ⊢
  by_cases e:s=u
  ·subst e
   rw[iC]
   split
   ·rename_i q; rw[if_pos q] at hv; exact hv
   ·exact aN.refl _ _
  ·rw[l9 _ _ e]; exact aN.refl _ _
 | const v=>exact aN.refl _ _
 | global g=>exact aN.refl _ _
 | func f=>exact aN.refl _ _
theorem xB {s:Nat} {v x:AV} (hs:lk n kvs s=x) (hx:x≠ .any):lk n (kp kvs s v) s=v:=by
 rw[iS] at hs
 rw[iS,iC]
 split
 ·rfl
 ·rename_i q; rw[if_neg q] at hs; exact absurd hs.symm hx
theorem xC {s:Nat} {v x:AV} {b:Operand} {u:Value} (hs:lk n kvs s=x) (hx:∀u,x≠ .sc u) (hb:cB n kvs b= .sc u):cB n (kp kvs s v) b= .sc u:=by
 cases b with
 | tmp t=>
  simp only[cB] at hb ⊢
  by_cases e:s=t
  ·subst e; rw[hs] at hb; exact absurd hb (hx u)
  ·rw[iS] at hb ⊢; rw[l9 _ _ e]; exact hb
 | const v=>exact hb
 | global g=>exact hb
 | func f=>exact hb
theorem nA {dst:Option Tmp} {s:Nat} {t:TypeId} {g:eM} {m sz:Nat} (ht:oF P t=some true) (ok:cV g sz m) (ha:lk n kvs s=aw g.t g.n g.cap):
    cW P ⟨dst,.call { callee:=.builtin .len,args:= #[.tmp s],argTypes:= #[t]},ty,pos,bV,none⟩ (.sc (.int .i64 m)) (fm n kvs) h:=by
  rw[ok.eqn] at ha
  cases ht':g.t with
  | none=>
    have hm:=ok.nil ht'
    subst hm
    rw[ht'] at ha
    have ha:cB n kvs (.tmp s)= .e0:=ha
    refine g9 (c:=True) ?_ trivial
    simp only[pv,CK,aO,ha,ht,CJ,Option.map_some,Option.bind_some,tt,if_true]
  | some k=>
    rw[ht'] at ha
    refine pR (s:=s) (.view k 0 m) (by rw[ha]; exact sP _ _ _ _) (g9 (c:=True) ?_ trivial)
    have e:cB n (kp kvs s (.view k 0 m)) (.tmp s)= .view k 0 m:=xB ha (by simp[aw])
    simp only[pv,CK,aO,e,ht,CJ,Option.map_some,Option.bind_some,tt,if_true]
theorem mC {α:Type} {xs:List α} {x:α} {dst:Option Tmp} {s:Nat} {b:Operand} {t:TypeId} {g:eM} {sz:Nat} {q:IntKind} {i:Int} (hi:ix xs i=some x) (ht:kA P t=some sz) (ok:cV g sz xs.length) (ha:lk n kvs s=aw g.t g.n g.cap) (hb:cB n kvs b= .sc (.int q i)):
    cW P ⟨dst,.indexAddr t (.tmp s) b,ty,pos,bV,none⟩ (sB g.t (i.toNat*sz)) (fm n kvs) h:=by
  obtain⟨h1,h2,h3⟩:=eH hi
  rw[ok.eqn] at ha
  cases ht':g.t with
  | none=>have:=ok.nil ht'; omega
  | some k=>
    rw[ht'] at ha
    refine pR (s:=s) (.view k 0 xs.length) (by rw[ha]; exact sP _ _ _ _) (g9 (c:=0≤i∧i < xs.length) ?_ ⟨h1,h2⟩)
    have e:cB n (kp kvs s (.view k 0 xs.length)) (.tmp s)= .view k 0 xs.length:=xB ha (by simp[aw])
    have e2:cB n (kp kvs s (.view k 0 xs.length)) b= .sc (.int q i):=xC ha (by simp[aw]) hb
    simp only[pv,aO,e,e2,gM,Option.bind_some,zW,ht,sB,Nat.zero_add]
theorem gR {dst:Option Tmp} {a:Operand} {t:TypeId} {f:Nat} {tg:Option aY} {off:Nat} {o s:Nat} (hne:tg≠none) (hf:iQ P t f=some (o,s)) (hs:Nat.beq s 0=false) (ha:cB n kvs a=sB tg off):
    cW P ⟨dst,.fieldAddr t a f,ty,pos,bV,none⟩ (sB tg (off+o)) (fm n kvs) h:=by
  cases tg with
  | none=>exact absurd rfl hne
  | some k=>exact wW hf hs ha
theorem i3 {dst:Option Tmp} {a:Operand} {tg:Option aY} {off:Nat} (hne:tg≠none) (ha:cB n kvs a=sB tg off):cW P ⟨dst,.nilCheck a,ty,pos,bV,none⟩ (sB tg off) (fm n kvs) h:=by
 cases tg with
 | none=>exact absurd rfl hne
 | some k=>exact w6 ha
theorem cV.ne {α:Type} {g:eM} {sz:Nat} {xs:List α} {i:Int} {x:α} (ok:cV g sz xs.length) (hi:ix xs i=some x):g.t≠none:=λe=>by
 have:=ok.nil e
 have:=eH hi
 omega
theorem oQ {α:Type} {c:α→List AV} {xs:List α} {x:α} {dst:Option Tmp} {a:Operand} {t:TypeId} {g:eM} {sz fo:Nat} {i:Int} {oty:TypeId} {ag:Bool} {m:Nat} (v:AV) (hi:ix xs i=some x) (hc:∀y,(c y).length=sz) (ok:cV g sz xs.length) (ht:h9 P t=some (ag,m))
    (ha:cB n kvs a=sB g.t (i.toNat*sz+fo)) (hA:At h g.t (.obj oty (fl c xs g.sp))) (hx:∀r,uA ag m ((c x++r).drop fo)=some v):
    cW P ⟨dst,.load t a,ty,pos,bV,none⟩ v (fm n kvs) h:=by
  obtain⟨h1,h2,h3⟩:=eH hi
  have hne:=ok.ne hi
  cases ht':g.t with
  | none=>exact absurd ht' hne
  | some k=>
    rw[ht'] at ha hA
    obtain⟨r,e⟩:=uI hc g.sp h3
    refine rE v ht ha hA.s ?_
    rw[← List.drop_drop,e]
    exact hx r
theorem eY {α:Type} {xs:List α} {i:Int} {x x':α} (h:ix xs i=some x):ix (xs.set i.toNat x') i=some x':=by
 obtain⟨h1,h2,h3⟩:=eH h
 unfold ix
 rw[if_pos h1,List.getElem?_set_self (List.getElem?_eq_some_iff.1 h3).1]
theorem cU (t:Option aY) (m c:Nat):dC (aw t m c)=true:=by cases t <;> rfl
theorem dB {x:AV} {t:Option aY} {m c:Nat} (h:x=aw t m c):cellsOf x=some [aw t m c]:=by subst h; cases t <;> rfl
theorem sQ {K:AV→aA→Prop} {o:Oper} {fr:Fr} {t:TypeId} {x y:Operand} (hop:o.op= .store t x y) {k:aY} {off:Nat} (hx:ev fr x= .ptr k off) {ty:TypeId} {cs xs0 xs:List AV} (hk:h k=some (.obj ty cs))
    (hy:cellsOf (ev fr y)=some xs0) (ho:xs0.all dC=true) (hle:bS h xs0 xs) (hs:iL P t=some xs.length) (hl:off+xs.length≤cs.length)
    (hK:K (.sc undef) (upd h k (some (.obj ty (cJ cs off xs))))):eD P o K fr h:=by
  intro E w a r hv Nx Qx hn
  have vx:=hv x (by rw[hop]; simp[Op.operands])
  have vy:=hv y (by rw[hop]; simp[Op.operands])
  rw[hx] at vx
  simp only[VR] at vx
  obtain⟨g,hg,ex⟩:=vx
  obtain⟨c0,c2⟩:=eV hy ho vy
  have c1:=hle.spec r c0
  obtain⟨g',cur,f1,f2,f3,f4⟩:=r.obj k ty cs hk
  rw[hg] at f1; cases f1
  have hlen:cs.length=cur.size:=by simpa using bJ f3
  have hlx:xs.length=(a.eval y).cells.toList.length:=bJ c1
  have hlx':xs.length=(a.eval y).cells.size:=by simpa using hlx
  have hst:=run_storeCells_at P g off ty (a.eval y).cells.toList 0 cur w f2 (by simp only[Array.length_toList]; omega) c2
  have hv':bE E w (cJ cs off xs) (cur.toList.take (off+0)++(a.eval y).cells.toList++cur.toList.drop (off+0+(a.eval y).cells.toList.length)):=by
    simp only[Nat.add_zero,cJ]
    rw[← hlx]
    exact bM (bM (dG _ f3) c1) (eE _ f3)
  have h1':∀v∈cur.toList.take (off+0)++(a.eval y).cells.toList++cur.toList.drop (off+0+(a.eval y).cells.toList.length),v.oneCell'=true:=by
    intro v hv
    rcases List.mem_append.1 hv with hv | hv
    · rcases List.mem_append.1 hv with hv | hv
      · exact f4 v (List.mem_of_mem_take hv)
      · exact c2 v hv
    · exact f4 v (List.mem_of_mem_drop hv)
  obtain⟨k1,k2⟩:=r.set_obj (cur:=(cur.toList.take (off+0)++(a.eval y).cells.toList++cur.toList.drop (off+0+(a.eval y).cells.toList.length)).toArray) hk hg
    (w':=w.setRow g (cur.toList.take (off+0)++(a.eval y).cells.toList++cur.toList.drop (off+0+(a.eval y).cells.toList.length)).toArray)
    (setRow_heap w g cur _ ty _ f2) (λg' hg'=>setRow_other w g g' _ hg') (by simp) rfl rfl rfl hv' h1'
  unfold Oper.wp
  rw[show (execOp a.eval o).run P w= .ok .skip (w.setRow g (cur.toList.take (off+0)++(a.eval y).cells.toList++cur.toList.drop (off+0+(a.eval y).cells.toList.length)).toArray) from by
    simp only[execOp,hop,Instr.storeAt,ex,Instr.sureAddr,storeVar,Sem.run_bind,Sem.run_pure,Result.andThen_ok,bG hs,hlx',ne_eq,not_true_eq_false,if_false,hst]]
  exact hn _ undef _ E _ k1 k2 (by simp only[VR]) hK
theorem xD {K:AV→aA→Prop} {dst:Option Tmp} {t oty:TypeId} {x y:Operand} {q:aY} {off:Nat} {cs xs0 xs:List AV} (i:Nat) (cs':List AV) (hk:aS h0 L) (ha:cB n kvs x= .ptr q off) (hi:L[i]? =some (some q,.obj oty cs))
    (hy:cellsOf (cB n kvs y)=some xs0) (ho:xs0.all dC=true) (hle:bS (hp h0 L) xs0 xs) (hs:iL P t=some xs.length) (hl:Nat.ble (off+xs.length) cs.length=true) (hcs:cJ cs off xs=cs')
    (k:aS h0 (L.set i (some q,.obj oty cs'))→K (.sc undef) (hp h0 (L.set i (some q,.obj oty cs')))):eD P ⟨dst,.store t x y,ty,pos,bV,none⟩ K (fm n kvs) (hp h0 L):=by
  subst hcs
  obtain⟨h1,h2,_⟩:=eK (e':=.obj oty (cJ cs off xs)) i hk hi (.inl rfl)
  refine(sQ rfl (by rw[aO]; exact ha) (bF i hk hi) (by rw[aO]; exact hy) ho hle hs (Nat.le_of_ble_eq_true hl) ?_)
  rw[h1]
  exact k h2
theorem fL {K:AV→aA→Prop} {α:Type} {c:α→List AV} {xs:List α} {x:α} (x':α) {dst:Option Tmp} {t oty:TypeId} {a y:Operand} {g:eM} {sz fo:Nat} {i:Int} {ys:List AV} (p:Nat) (hk:aS h0 L) (hi:ix xs i=some x) (hc:∀y,(c y).length=sz) (ok:cV g sz xs.length)
    (ha:cB n kvs a=sB g.t (i.toNat*sz+fo)) (hL:L[p]? =some (g.t,.obj oty (fl c xs g.sp))) {ys0:List AV} (hy:cellsOf (cB n kvs y)=some ys0) (ho:ys0.all dC=true) (hle:bS (hp h0 L) ys0 ys) (hs:iL P t=some ys.length) (hf:Nat.ble (fo+ys.length) sz=true) (hcs:cJ (c x) fo ys=c x')
    (k:aS h0 (L.set p (g.t,.obj oty (fl c (xs.set i.toNat x') g.sp)))→K (.sc undef) (hp h0 (L.set p (g.t,.obj oty (fl c (xs.set i.toNat x') g.sp))))):eD P ⟨dst,.store t a y,ty,pos,bV,none⟩ K (fm n kvs) (hp h0 L):=by
  obtain⟨h1,h2,h3⟩:=eH hi
  have hne:=ok.ne hi
  have hf':=Nat.le_of_ble_eq_true hf
  cases ht':g.t with
  | none=>exact absurd ht' hne
  | some q=>
    rw[ht'] at ha hL k
    refine xD p (fl c (xs.set i.toNat x') g.sp) hk ha hL hy ho hle hs ?_ (oP hc g.sp hf' h3 hcs) k
    rw[Nat.ble_eq,C1 hc]
    have h4:i.toNat < xs.length:=(List.getElem?_eq_some_iff.1 h3).1
    have:i.toNat*sz+sz≤xs.length*sz:=by
      rw[← Nat.succ_mul]; exact Nat.mul_le_mul_right _ h4
    omega
theorem cV.set {g:eM} {sz:Nat} {α:Type} {xs:List α} {i:Nat} {x:α} (ok:cV g sz xs.length):cV g sz (xs.set i x).length:=by rw[List.length_set]; exact ok
theorem pS (h:aA) (sz:Nat):aN h .e0 (.sl none sz []):=by
 intro E w v r hv
 simp only[VR] at hv ⊢
 obtain⟨a,rfl⟩:=hv
 exact⟨a,0,rfl,Nat.le_refl _,Nat.zero_le _,.inl trivial,by simp,λ_ q=>by cases q⟩
theorem hM (h:aA):aN h (.sc (.slice none 0 0)) (aw g0.t g0.n g0.cap):=by
 intro E w v r hv
 simp only[VR] at hv
 subst hv
 simp only[g0,aw,VR]
 exact⟨none,rfl⟩
end ops
theorem fH {z:Array Value} {n:Nat} (hz:∀u∈z.toList,u.oneCell'=true):∀v∈(Builtin.zeroCells z n).toList,v.oneCell'=true:=by
 intro v hv
 simp only[Builtin.zeroCells,Array.mem_toList_iff,Array.mem_map,Array.mem_range] at hv
 obtain⟨i,hi,rfl⟩:=hv
 have h0:0 < z.size:=Nat.pos_of_ne_zero λe=>by rw[e,Nat.mul_zero] at hi; omega
 have hm:i % z.size < z.size:=Nat.mod_lt _ h0
 rw[getElem!_pos z _ hm]
 exact hz _ (by simp)
section app
variable {P:Program} {E:dE} {h:aA} {w:World}
theorem xE {t ty e:TypeId} {sz b:Nat} (ht:gN P t e sz b) {zs:List Value} (hzr:nW P e=some zs) (hzo:zs.all (·.oneCell')=true) (r:cT E h w) {k:aY} (hk:¬E.used k) {ys:List (List AV)} {y:Value} (hy:q7 E w sz ys y) (hne:ys≠ [])
    (hb:ys.length*b≤140737488355328) (hlen:ys.length≤140737488355328) (a0:Option Addr):
    ∃v' w' E' cap sp,(Builtin.append_ #[t,t] ty #[.slice a0 0 0,y]).run P w= .ok v' w'∧bX E w E' w'∧cT E' (upd h k (some (.obj e (ys.flatten++sp)))) w'∧VR E' w' (.vw k ys.length cap) v'∧
      ys.length≤cap∧cap≤maxLen∧ys.length*sz+sp.length=cap*sz:=by
  obtain⟨i,z,hi,hz,rfl,rfl,hzs,hsp⟩:=ht.inf
  have hzc:∀u∈z.cells.toList,u.oneCell'=true:=by
    have:zs=z.cells.toList:=by
      unfold nW at hzr
      rw[hi] at hzr
      simp only[Option.bind_some,hz,Option.map_some,Option.some.injEq] at hzr
      exact hzr.symm
    subst this
    exact λu hu=>List.all_eq_true.1 hzo u hu
  have hs:∀x∈ys,x.length=i.size:=hy.1
  obtain⟨g,o,cap,cv,rfl,c1,c2,c3,c4⟩:=hy.2.resolve_left λe=>hne e.1
  have hpos:0 < ys.length:=List.length_pos_iff.2 hne
  have hrun:(Builtin.append_ #[t,t] ty #[.slice a0 0 0,.slice (some ⟨g,o,none⟩) ys.length cap]).run P w=
      .ok (.slice (some ⟨w.heap.size,0,none⟩) ys.length (grownCap w ys.length 0 e)) (w.drew.alloc (.cells (cv.toArray++Builtin.zeroCells z.cells (grownCap w ys.length 0 e - ys.length)) e)):=by
    cases a0 with
    | none=>exact run_append_nil (P:=P) w t ty e i z ht.ut hi hz ⟨g,o,none⟩ ys.length cap cv c3 (λj u hj=>by rw[Addr.add_lit]; exact c4 j u hj) hpos (by omega) (by omega)
    | some b0=>
      have:=run_append_grow (P:=P) w t ty e i z ht.ut hi hz b0 0 0 [] (by simp) (by simp) ⟨g,o,none⟩ ys.length cap cv c3 (λj u hj=>by rw[Addr.add_lit]; exact c4 j u hj) (by omega) (by omega) (growslice_fits (by omega) (by rw[Nat.zero_add]; exact hb))
      simpa using this
  have hge:=grownCap_ge w ys.length 0 e
  have hcm:grownCap w ys.length 0 e≤maxLen:=grownCap_le_maxLen w ys.length 0 e (by simp only[maxLen]; omega)
  obtain⟨rd,kd⟩:=r.drewn (w.drawn+1)
  have hvl:bE E w.drew (ys.flatten++List.replicate (Builtin.zeroCells z.cells (grownCap w ys.length 0 e - ys.length)).toList.length AV.any) (cv.toArray++Builtin.zeroCells z.cells (grownCap w ys.length 0 e - ys.length)).toList:=by
    rw[Array.toList_append]
    exact bM (aT kd _ _ c1) (mO _ rfl)
  obtain⟨E',e1,e2,e3⟩:=cT.new_obj (w:=w.drew) rd hk e hvl (by
    intro v hv
    rw[Array.toList_append] at hv
    rcases List.mem_append.1 hv with hv | hv
    · exact c2 v (by simpa using hv)
    · exact fH hzc v hv)
  refine⟨_,_,E',grownCap w ys.length 0 e,_,hrun,kd.trans e2,e3, ?_,hge,hcm, ?_⟩
  · simp only[VR]
    exact⟨_,e1,rfl,hge,hcm⟩
  · have hzl:∀m,(Builtin.zeroCells z.cells m).toList.length=m*i.size:=λm=>by rw[Array.length_toList,size_zeroCells,hzs]
    rw[List.length_replicate,hzl,← Nat.add_mul]
    congr 1; omega
theorem AU {t ty e:TypeId} {sz b:Nat} (ht:gN P t e sz b) {zs:List Value} (hzr:nW P e=some zs) (hzo:zs.all (·.oneCell')=true) (r:cT E h w) (d:Nat) {k:aY} {xs ys:List (List AV)} {sp:List AV} {cap:Nat} (hk:h k=some (.obj e (xs.flatten++sp)))
    (hsx:xs.flatten.length=xs.length*sz) (hcl:xs.length*sz+sp.length=cap*sz) {v:Value} (hv:VR E w (.vw k xs.length cap) v) {y:Value} (hy:q7 E w sz ys y) (hne:ys≠ []) (hb:(xs.length+ys.length)*b≤140737488355328) (hlen:xs.length+ys.length≤140737488355328):
    ∃v' w' E' k2 cap' sp',(k2=k∨(k2≠k∧h k2=none))∧(Builtin.append_ #[t,t] ty #[v,y]).run P w= .ok v' w'∧bX E w E' w'∧cT E' (upd (upd h k none) k2 (some (.obj e ((xs++ys).flatten++sp')))) w'∧VR E' w' (.vw k2 (xs++ys).length cap') v'∧
      (xs++ys).length≤cap'∧cap'≤maxLen∧(xs++ys).length*sz+sp'.length=cap'*sz:=by
  obtain⟨i,z,hi,hz,rfl,rfl,hzs,hsp⟩:=ht.inf
  have hzc:∀u∈z.cells.toList,u.oneCell'=true:=by
    have:zs=z.cells.toList:=by
      unfold nW at hzr
      rw[hi] at hzr
      simp only[Option.bind_some,hz,Option.map_some,Option.some.injEq] at hzr
      exact hzr.symm
    subst this
    exact λu hu=>List.all_eq_true.1 hzo u hu
  have hsy:∀x∈ys,x.length=i.size:=hy.1
  obtain⟨g,o,capy,cy,rfl,c1,c2,c3,c4⟩:=hy.2.resolve_left λe=>hne e.1
  have hpos:0 < ys.length:=List.length_pos_iff.2 hne
  obtain⟨gb,cur,g1,g2,g3,g4⟩:=r.obj _ _ _ hk
  simp only[VR] at hv
  obtain⟨gb',q1,rfl,v1,v2⟩:=hv
  rw[g1] at q1; cases q1
  have hcl':cur.toList.length=cap*i.size:=by rw[← bJ g3,List.length_append,hsx,hcl]
  have hsz:cur.size=cap*i.size:=by simpa using hcl'
  have htake:bE E w xs.flatten (cur.toList.take (xs.length*i.size)):=by
    have:=dG (xs.length*i.size) g3
    rwa [List.take_left' hsx] at this
  have hdrop:∀m,bE E w (sp.drop m) (cur.toList.drop (xs.length*i.size+m)):=by
    intro m
    have:=eE (xs.length*i.size+m) g3
    rwa [← List.drop_drop,List.drop_left' hsx] at this
  have hl2:(xs++ys).length*i.size=xs.length*i.size+ys.length*i.size:=by rw[List.length_append,Nat.add_mul]
  have hle:xs.length*i.size≤cur.size:=by rw[hsz]; exact Nat.mul_le_mul_right _ v1
  have htl:(cur.toList.take (xs.length*i.size)).length=xs.length*i.size:=by
    rw[List.length_take]
    have:cur.toList.length=cur.size:=by simp
    omega
  by_cases hroom:xs.length+ys.length≤cap
  · have hfit:xs.length*i.size+cy.length≤cur.size:=by rw[c3,hsz,← Nat.add_mul]; exact Nat.mul_le_mul_right _ hroom
    have hrun:=run_append_room (P:=P) w t ty e i ht.ut hi gb xs.length cap cur g2 ⟨g,o,none⟩ ys.length capy cy c3 (λj u hj=>by rw[Addr.add_lit]; exact c4 j u hj) c2 hroom hfit
    have hvl:bE E w ((xs++ys).flatten++sp.drop cy.length) (cur.toList.take (xs.length*i.size)++cy++cur.toList.drop (xs.length*i.size+cy.length)).toArray.toList:=by
      rw[List.flatten_append]
      exact bM (bM htake c1) (hdrop _)
    obtain⟨k1,k2⟩:=r.set_obj hk g1 (w':=w.setRow gb (cur.toList.take (xs.length*i.size)++cy++cur.toList.drop (xs.length*i.size+cy.length)).toArray)
      (setRow_heap w gb cur _ e _ g2) (λg' hg'=>setRow_other w gb g' _ hg') (by simp) rfl rfl rfl hvl (by
        intro u hu
        rcases List.mem_append.1 hu with hu | hu
        · rcases List.mem_append.1 hu with hu | hu
          · exact g4 u (List.mem_of_mem_take hu)
          · exact c2 u hu
        · exact g4 u (List.mem_of_mem_drop hu))
    refine⟨_,_,E,k,cap,sp.drop cy.length,.inl rfl,hrun,k1, ?_, ?_, ?_,v2, ?_⟩
    · have e1:upd (upd h k none) k (some (.obj e ((xs++ys).flatten++sp.drop cy.length)))=upd h k (some (.obj e ((xs++ys).flatten++sp.drop cy.length))):=by
        funext x; unfold upd; split <;> rfl
      rw[e1]; exact k2
    · simp only[VR,List.length_append]
      exact⟨gb,g1,rfl,hroom,v2⟩
    · rw[List.length_append]; exact hroom
    · rw[hl2,List.length_drop,c3]
      rw[c3] at hfit
      omega
  · have hold:∀j u,(cur.toList.take (xs.length*i.size))[j]? =some u→w.cell? ((⟨gb,0,none⟩:Addr).add j)=some u:=by
      intro j u hj
      rw[Addr.add_lit,Nat.zero_add]
      simp only[World.cell?,g2]
      rw[List.getElem?_take] at hj
      split at hj
      · simpa using hj
      · cases hj
    have hrun:=run_append_grow (P:=P) w t ty e i z ht.ut hi hz ⟨gb,0,none⟩ xs.length cap (cur.toList.take (xs.length*i.size)) htl hold ⟨g,o,none⟩ ys.length capy cy c3 (λj u hj=>by rw[Addr.add_lit]; exact c4 j u hj) (by omega) (by omega) (growslice_fits (by omega) hb)
    have hge:=grownCap_ge w (xs.length+ys.length) cap e
    have hcm:grownCap w (xs.length+ys.length) cap e≤maxLen:=grownCap_le_maxLen w (xs.length+ys.length) cap e (by simp only[maxLen]; omega)
    generalize hgc:grownCap w (xs.length+ys.length) cap e=gc at hge hcm hrun
    obtain⟨rd,kd⟩:=r.drewn (w.drawn+1)
    have rd':cT E h w.drew:=rd
    obtain⟨E1,kx,rx⟩:=rd'.drop (h':=upd h k none) (λx en hx=>by
      unfold upd at hx
      split at hx
      · cases hx
      · exact hx)
    obtain⟨nn,hE1⟩:=rx.fresh d
    have hEu:¬E.used (d,nn):=λq=>hE1 (kx.used _ (kd.used _ q))
    have hne2:(d,nn)≠k:=λq=>hEu (by rw[q]; exact r.hus _ _ hk)
    have kk:=kd.trans kx
    have hvl:bE E1 w.drew ((xs++ys).flatten++List.replicate (Builtin.zeroCells z.cells (gc - (xs.length+ys.length))).toList.length AV.any) ((cur.toList.take (xs.length*i.size)).toArray++cy.toArray++Builtin.zeroCells z.cells (gc - (xs.length+ys.length))).toList:=by
      rw[Array.toList_append,Array.toList_append,List.flatten_append]
      exact bM (bM (aT kk _ _ htake) (aT kk _ _ c1)) (mO _ rfl)
    obtain⟨E',e1,e2,e3⟩:=cT.new_obj (w:=w.drew) rx hE1 e hvl (by
      intro v hv
      rw[Array.toList_append,Array.toList_append] at hv
      rcases List.mem_append.1 hv with hv | hv
      · rcases List.mem_append.1 hv with hv | hv
        · exact g4 v (List.mem_of_mem_take (by simpa using hv))
        · exact c2 v (by simpa using hv)
      · exact fH hzc v hv)
    refine⟨_,_,E',(d,nn),gc,_,.inr ⟨hne2,r.unused_none hEu⟩,hrun,kk.trans e2,e3, ?_,by rw[List.length_append]; exact hge,hcm, ?_⟩
    · simp only[VR,List.length_append]
      exact⟨_,e1,rfl,hge,hcm⟩
    · have hzl:∀m,(Builtin.zeroCells z.cells m).toList.length=m*i.size:=λm=>by rw[Array.length_toList,size_zeroCells,hzs]
      rw[hl2,List.length_replicate,hzl,← Nat.add_mul,← Nat.add_mul]
      congr 1; omega
end app
theorem nB {h0:aA} {e':dX}:∀ {L:HL} (i:Nat),aS h0 L→i < L.length→hp h0 (L.set i (none,e'))=hp h0 (L.eraseIdx i)∧aS h0 (L.set i (none,e'))
 | [],i,_,h=>by simp at h
 | (t,e)::r,0,ok,_=>⟨rfl,ok.1,nofun⟩
 | (t,e)::r,i+1,ok,h=>by
  obtain⟨h1,h2⟩:=nB (e':=e') (L:=r) i ok.1 (by simpa using h)
  simp only[List.set_cons_succ,List.eraseIdx_cons_succ]
  refine⟨?_,h2, ?_⟩
  ·cases t <;> simp only[hp,h1]
  ·intro k q
   rw[h1]
   exact hD (aW (List.eraseIdx_sublist r i) ok.1).1 (ok.2 k q)
theorem oR {h0:aA} {k:aY} {e:dX}:∀ {L:HL} (i:Nat),aS h0 L→L[i]? =some (some k,e)→hp h0 (L.eraseIdx i)=upd (hp h0 L) k none
 | [],i,_,h=>by simp at h
 | (t,e')::r,0,ok,h=>by
  simp only[List.getElem?_cons_zero,Option.some.injEq,Prod.mk.injEq] at h
  obtain⟨rfl,rfl⟩:=h
  have:=ok.2 k rfl
  funext x
  simp only[List.eraseIdx_zero,List.tail_cons,hp]
  unfold upd
  by_cases hx:x=k
  ·subst hx; simp[this]
  ·simp[hx]
 | (t,e')::r,i+1,ok,h=>by
  have h':r[i]? =some (some k,e):=by simpa using h
  have ih:=oR (L:=r) i ok.1 h'
  simp only[List.eraseIdx_cons_succ]
  cases t with
  | none=>exact ih
  | some k'=>
   have hne:k'≠k:=λq=>by
    have h1:=ok.2 k' rfl
    rw[q,bF i ok.1 h'] at h1
    cases h1
   simp only[hp]
   rw[ih]
   exact rL _ _ _ (Ne.symm hne)
section ops2
variable {P:Program} {ops:Array Oper} {h h0:aA} {L:HL} {n:Nat} {kvs:KV} {l:List Oper} {ty:TypeId} {pos:String} {bV:Array Edge}
theorem i4 {K:AV→aA→Prop} {α:Type} {c:α→List AV} {xs ys zs:List α} {dst:Option Tmp} {s x:Operand} {t e:TypeId} {sz b:Nat} {zv:List Value} {g:eM} (i:Nat) (hm:app xs ys=some zs) (ht:gN P t e sz b) (hb:Nat.ble b 100000=true)
    (hzr:nW P e=some zv) (hzo:zv.all (·.oneCell')=true) (hc:∀y,(c y).length=sz)
    (ha:cB n kvs s=aw g.t g.n g.cap) (hi:L[i]? =some (g.t,.obj e (fl c xs g.sp))) (ok:cV g sz xs.length) (hk:aS h0 L) (hx:g7 (hp h0 L) sz (cB n kvs x)=some (ys.map c))
    (k:∀g':eM,cV g' sz zs.length→aS h0 (L.set i (g'.t,.obj e (fl c zs g'.sp)))→K (aw g'.t g'.n g'.cap) (hp h0 (L.set i (g'.t,.obj e (fl c zs g'.sp))))):
    eD P ⟨dst,.call { callee:=.builtin .append,args:= #[s,x],argTypes:= #[t,t]},ty,pos,bV,none⟩ K (fm n kvs) (hp h0 L):=by
  obtain⟨rfl,hsz⟩:=dV hm
  have hb':=Nat.le_of_ble_eq_true hb
  have hbound:(xs.length+ys.length)*(b+1)≤140737488355328:=by
    have:(xs.length+ys.length)*(b+1)≤1000000000*100001:=Nat.mul_le_mul hsz (by omega)
    omega
  rw[Nat.mul_add,Nat.mul_one] at hbound
  have hil:i < L.length:=(List.getElem?_eq_some_iff.1 hi).1
  have hset:∀a,L[i]? =some a→L.set i a=L:=by
    intro a ha
    apply List.ext_getElem?; intro j; rw[List.getElem?_set]; split
    · rename_i q; first | (subst q; exact ha.symm) | (subst q; rw[if_pos hil]; exact ha.symm)
    · rfl
  intro E w a r hv Nx Qx hn
  have vs:=hv s (by simp[Op.operands,Call.operands])
  have vx:=hv x (by simp[Op.operands,Call.operands])
  rw[aO] at vs vx
  rw[ha,ok.eqn] at vs
  have src:=jT r hx vx
  have hop:(⟨dst,.call { callee:=.builtin .append,args:= #[s,x],argTypes:= #[t,t]},ty,pos,bV,none⟩:Oper).op= .call { callee:=.builtin .append,args:= #[s,x],argTypes:= #[t,t]}:=rfl
  by_cases hy:ys= []
  · subst hy
    have hsv:∃q cap,a.eval s= .slice q xs.length cap∧xs.length≤cap∧(q=none→cap=0):=by
      have hnil:=ok.nil
      cases htg:g.t with
      | none=>
        rw[htg] at vs
        simp only[aw,VR] at vs
        obtain⟨q,e⟩:=vs
        exact⟨q,0,by rw[e,hnil htg],by rw[hnil htg]; exact Nat.le_refl _,λ_=>rfl⟩
      | some kk=>
        rw[htg] at vs
        simp only[aw,VR] at vs
        obtain⟨q,_,e,e2,_⟩:=vs
        exact⟨_,_,e,e2,nofun⟩
    obtain⟨q,cap,es,ec,hq⟩:=hsv
    have src0:∃q c,a.eval x= .slice q 0 c:=by
      rcases src.2 with⟨_,q,c,e⟩ | ⟨g,oo,c,cv,e,_⟩
      · exact⟨q,c,e⟩
      · exact⟨_,c,e⟩
    obtain⟨qx,cx,ex⟩:=src0
    have hv0:(a.eval s= .slice none 0 0∧xs.length=0)∨∃a' cap,a.eval s= .slice (some a') xs.length cap∧xs.length≤cap:=by
      cases q with
      | none => have h0 := hq rfl; subst h0; have h0 : xs.length = 0 := by omega
                exact .inl ⟨by rw[es,h0],h0⟩
      | some b=>exact .inr ⟨b,cap,es,ec⟩
    have hr:=eG (P:=P) (w:=w) (ty:=ty) ht hv0 ex
    unfold Oper.wp
    rw[dL hop hr]
    have hk1:=k g (by simpa using ok) (by rw[List.append_nil,hset _ hi]; exact hk)
    rw[List.append_nil,hset _ hi,ok.eqn] at hk1
    exact hn _ _ _ E _ (bX.refl E w) r vs hk1
  · have hyc:ys.map c≠ []:=by simpa using hy
    cases htg:g.t with
    | none=>
      have hx0:=ok.nil htg
      have hxs:xs= []:=List.length_eq_zero_iff.1 hx0
      subst hxs
      rw[htg] at vs hi
      simp only[aw,VR] at vs
      obtain⟨a0,ea0⟩:=vs
      obtain⟨m,hm'⟩:=r.fresh 0
      obtain⟨v',w',E',cap,sp,e1,e2,e3,e4,e5,e6,e7⟩:=xE (ty:=ty) ht hzr hzo r hm' src hyc (by rw[List.length_map]; simp only[List.length_nil,Nat.zero_add] at hbound; omega) (by rw[List.length_map]; simp only[List.length_nil,Nat.zero_add] at hbound; omega) a0
      unfold Oper.wp
      rw[dL hop (by rw[ea0]; exact e1)]
      rw[List.length_map] at e4 e5 e7
      have hnone:=r.unused_none hm'
      obtain⟨p1,p2,_⟩:=eK (k:=(0,m)) (e':=.obj e (fl c ys sp)) i hk hi (.inr ⟨rfl,hnone⟩)
      have hk1:=k ⟨some (0,m),ys.length,cap,sp⟩ ⟨by simp,nofun,by simpa using e5,e6,by simpa using e7⟩ p2
      refine hn _ _ _ E' _ e2 e3 e4 ?_
      have:upd (hp h0 L) (0,m) (some (.obj e ((ys.map c).flatten++sp)))=hp h0 (L.set i (some (0,m),.obj e (fl c ys sp))):=p1
      rw[this]
      exact hk1
    | some kk=>
      rw[htg] at vs hi
      have hg:=bF i hk hi
      have hcl:(xs.map c).length*sz+g.sp.length=g.cap*sz:=by rw[List.length_map]; exact ok.len
      obtain⟨v',w',E',k2,cap,sp,e0,e1,e2,e3,e4,e5,e6,e7⟩:=AU (ty:=ty) ht hzr hzo r 0 (xs:=xs.map c) (sp:=g.sp) (cap:=g.cap) hg (by rw[iZ hc,List.length_map]) hcl (by rw[List.length_map]; exact vs) src hyc (by simp only[List.length_map]; omega) (by simp only[List.length_map]; omega)
      unfold Oper.wp
      rw[dL hop e1]
      rw[← List.map_append,List.length_map] at e4 e5 e7
      rw[← List.map_append] at e3
      obtain⟨s1,s2⟩:=nB (e':=.obj e (fl c xs g.sp)) i hk hil
      have hsn:(L.set i (none,dX.obj e (fl c xs g.sp)))[i]? =some (none,.obj e (fl c xs g.sp)):=by rw[List.getElem?_set_self hil]
      have hnk:hp h0 (L.set i (none,.obj e (fl c xs g.sp))) k2=none:=by
        rw[s1]
        rcases e0 with rfl | ⟨_,q⟩
        · exact iU i hk hi
        · exact hD (aW (List.eraseIdx_sublist L i) hk).1 q
      obtain⟨p1,p2,_⟩:=eK (k:=k2) (e':=.obj e (fl c (xs++ys) sp)) i s2 hsn (.inr ⟨rfl,hnk⟩)
      rw[List.set_set] at p1 p2
      have hq:upd (upd (hp h0 L) kk none) k2 (some (.obj e (fl c (xs++ys) sp)))=hp h0 (L.set i (some k2,.obj e (fl c (xs++ys) sp))):=by
        rw[← p1]
        congr 1
        rw[s1]
        exact(oR i hk hi).symm
      have hk1:=k ⟨some k2,(xs++ys).length,cap,sp⟩ ⟨rfl,nofun,e5,e6,e7⟩ p2
      refine hn _ _ _ E' _ e2 e3 e4 ?_
      have:upd (upd (hp h0 L) kk none) k2 (some (.obj e (((xs++ys).map c).flatten++sp)))=hp h0 (L.set i (some k2,.obj e (fl c (xs++ys) sp))):=hq
      rw[this]
      exact hk1
end ops2
def F6 (E:dE) (H:aA) (w:World):dE where
 imm g o:=E.imm g o∨((∃k,E.at H k g)∧∃v,w.cell? ⟨g,o,none⟩=some v)
 lock g:=E.lock g∨∃k,E.at H k g
 used:=E.used
 ob:=E.ob
 tk _:=none
abbrev hz:aA:=λ_=>none
theorem uJ {E:dE} {H:aA} {w:World} (r:cT E H w):cT (F6 E H w) hz w where
 obj:=nofun
 tok:=nofun
 tkh:=nofun
 sep k k' g ha _:=by
  rcases ha with⟨e,_,h,_⟩ | ⟨_,_,_,_,h,_⟩ <;> cases h
 dis k g ha:=by
  rcases ha with⟨e,_,h,_⟩ | ⟨_,_,_,_,h,_⟩ <;> cases h
 hus:=nofun
 obu:=r.obu
 fre:=r.fre
 imb g o h:=by
  rcases h with h | ⟨_,h⟩
  ·exact r.imb g o h
  ·exact h
 lkb g h:=by
  rcases h with h | ⟨k,h⟩
  ·exact r.lkb g h
  ·exact r.at_lt h
 mp:=nofun
theorem kN {E:dE} {H:aA} {w:World} (r:cT E H w):mU E w (F6 E H w) w where
 imm g o h:=⟨.inl h,rfl⟩
 used _ h:=h
 ob _ _ h:=h
 tkc k t ht o ho:=by
  refine⟨.inl (.inr ?_),rfl⟩
  obtain⟨ty,e⟩:=r.tkh k t ht
  obtain⟨t',cur,e1,e2,e3,e4,e5,e6,e7⟩:=r.tok _ _ _ _ e
  rw[ht] at e1; cases e1
  refine⟨⟨k,.inr ⟨ty,_,_,t,e,ht,rfl⟩⟩, ?_⟩
  have:o < cur.size:=by omega
  exact⟨cur[o],by simp[World.cell?,e4,this]⟩
 tkf:=nofun
def Br (H:aA) (x y:AV):Prop:=∀E w v,cT E H w→VR E w x v→VR (F6 E H w) w y v
theorem Br.refl (H:aA) (x:AV):Br H x x:=λ_ _ _ r h=>f9 (kN r) _ _ h
theorem Br.ale {H:aA} {x y:AV} (h:aN H x y):Br H x y:=λE w v r hv=>f9 (kN r) _ _ (h E w v r hv)
theorem Br.ale0 {H:aA} {x y:AV} (h:aN hz x y):Br H x y:=λ_ w v r hv=>h _ w v (uJ r) (f9 (kN r) _ _ hv)
theorem Br.ow {α:Type} {c:α→List AV} {xs:List α} {t:Option aY} {H:aA} (sz:Nat) (ot:t=none→xs= []):Br H (ow t sz (xs.map c)) (.sl none sz (xs.map c)):=
 Br.ale0 (pH sz ot λ_ _=>rfl)
theorem Br.vw {α:Type} {c:α→List AV} {xs:List α} {H:aA} {k:aY} {ty:TypeId} {sp:List AV} {sz cap:Nat} (hc:∀y,(c y).length=sz) (hk:H k=some (.obj ty (fl c xs sp))):Br H (.vw k xs.length cap) (.sl none sz (xs.map c)):=by
 intro E w v r hv
 simp only[VR] at hv ⊢
 obtain⟨g,hg,rfl,h1,h2⟩:=hv
 obtain⟨g',cur,e1,e2,e3,e4⟩:=r.obj _ _ _ hk
 rw[hg] at e1; cases e1
 refine⟨_,cap,by rw[List.length_map],by rw[List.length_map]; exact h1,h2, ?_, ?_,nofun⟩
 ·refine .inr ⟨g,0,rfl,eU.2 ?_⟩
  have htake:bE E w (xs.map c).flatten (cur.toList.take ((xs.map c).flatten.length)):=by
   have:=dG ((xs.map c).flatten.length) e3
   rwa [fl,List.take_left' rfl] at this
  refine bY (fY (kN r) _ _ htake) (λu hu=>e4 u (List.mem_of_mem_take hu)) ?_
  intro j u hj
  rw[List.getElem?_take] at hj
  split at hj
  ·have hcell:w.cell? ⟨g,0+j,none⟩=some u:=by
    simp only[World.cell?,e2,Nat.zero_add]
    simpa using hj
   exact⟨hcell,.inl (.inr ⟨⟨k,.inl ⟨_,rfl,hk,hg⟩⟩,u,hcell⟩)⟩
  ·cases hj
 ·intro x hx
  obtain⟨y,_,rfl⟩:=List.mem_map.1 hx
  exact hc y
theorem Br.aw {α:Type} {c:α→List AV} {xs:List α} {h0:aA} {L:HL} {ty:TypeId} {g:eM} {sz:Nat} (i:Nat) (hc:∀y,(c y).length=sz) (ok:cV g sz xs.length) (hk:aS h0 L) (hi:L[i]? =some (g.t,.obj ty (fl c xs g.sp))):Br (hp h0 L) (aw g.t g.n g.cap) (.sl none sz (xs.map c)):=by
 rw[ok.eqn]
 cases ht:g.t with
 | none=>
  have h0:xs= []:=List.length_eq_zero_iff.1 (ok.nil ht)
  subst h0
  exact Br.ale (pS _ sz)
 | some k=>
  rw[ht] at hi
  exact Br.vw hc (bF i hk hi)
inductive nX (H:aA):List AV→List AV→Prop where
 | nil:nX H [] []
 | cons {x y:AV} {xs ys:List AV}:Br H x y→nX H xs ys→nX H (x::xs) (y::ys)
theorem nX.spec {H:aA} {xs ys:List AV} (hl:nX H xs ys) {E:dE} {w:World} (r:cT E H w):∀ {vs:List Value},bE E w xs vs→bE (F6 E H w) w ys vs:=by
 induction hl with
 | nil=>intro vs v; cases vs with
  | nil=>simp only[bE]
  | cons _ _=>simp only[bE] at v
 | cons h1 _ ih=>intro vs v; cases vs with
  | nil=>simp only[bE] at v
  | cons u us=>
   simp only[bE] at v ⊢
   exact⟨h1 E w u r v.1,ih v.2⟩
theorem nX.refl (H:aA):∀(xs:List AV),nX H xs xs
 | []=>.nil
 | x::xs=>.cons (Br.refl H x) (nX.refl H xs)
theorem nX.app {H:aA} {xs ys:List AV}:∀(k:Nat) {zs:List AV},zs.length=k→nX H xs ys→nX H (zs++xs) (zs++ys)
 | 0, [],_,hl=>hl
 | k+1,z::zs,hz,hl=>.cons (Br.refl _ _) (nX.app k (by simpa using hz) hl)
 | 0,_::_,hz,_=>by simp at hz
 | _+1, [],hz,_=>by simp at hz
theorem Br.agg {H:aA} {xs ys:List AV} (hl:nX H xs ys):Br H (.agg xs) (.agg ys):=by
 intro E w v r hv
 simp only[VR] at hv ⊢
 obtain⟨cs,rfl,h⟩:=hv
 exact⟨cs,rfl,hl.spec r h⟩
def xF:AV→Bool
 | .sc _=>true
 | .tup xs=>xs.all fun | .sc _=>true | _=>false
 | _=>false
theorem sR {x:AV} (hx:xF x=true) {E E':dE} {w w':World} {v:Value} (hv:VR E w x v):VR E' w' x v:=by
 cases x with
 | sc u=>simpa only[VR] using hv
 | tup xs=>
  simp only[VR] at hv ⊢
  obtain⟨cs,rfl,h⟩:=hv
  refine⟨cs,rfl, ?_⟩
  simp only[xF] at hx
  generalize cs.toList=l at h
  induction xs generalizing l with
  | nil=>cases l with
   | nil=>simp only[bE]
   | cons _ _=>simp only[bE] at h
  | cons y ys ih=>cases l with
   | nil=>simp only[bE] at h
   | cons u us=>
    simp only[bE] at h ⊢
    simp only[List.all_cons,Bool.and_eq_true] at hx
    refine⟨?_,ih hx.2 us h.2⟩
    cases y with
    | sc z=>simpa only[VR] using h.1
    | _=>cases hx.1
 | _=>cases hx
theorem i5 {P:Program} {f:FuncId} {us bs:List AV} {x:AV} {H:aA} (hb:nX H us bs) (hx:xF x=true) (hc:aG P f bs hz (λr h'=>r=x∧h'=hz)):aG P f us H (λr h'=>r=x∧h'=H):=by
 intro E w vs r hv
 refine(hc (F6 E H w) w vs (uJ r) (hb.spec r hv)).mono ?_
 rintro e w' ⟨v,E'',y,h',rfl,k,r'',vx,rfl,rfl⟩
 have hblk:∀kk g,E.at H kk g→w'.heap[g]? =w.heap[g]? :=λkk g ha=>k.lock g (.inr ⟨kk,ha⟩)
 have hat:∀kk t,E.tk kk=some t→E.at H kk t.b:=λkk t ht=>by
  obtain⟨ty,e⟩:=r.tkh kk t ht
  exact .inr ⟨ty,_,_,t,e,ht,rfl⟩
 have kE:bX E w E w':=⟨λg o h=>⟨h,(k.imm g o (.inl h)).2⟩,λ_=>Iff.rfl,λg hg=>k.lock g (.inl hg),λ_ h=>h,λ_ _ h=>h,
  λkk t ht o ho=>⟨.inr ⟨t,ht,rfl,ho⟩,bT (hblk kk t.b (hat kk t ht)) o⟩,λkk t' h _=>⟨t',h,Nat.le_refl _,λ_=>rfl⟩,k.os,k.tape,k.output,k.size⟩
 refine⟨v,E,y,H,rfl,kE, ?_,sR hx vx,rfl,rfl⟩
 constructor
 ·intro kk ty cs hk
  obtain⟨g,cur,e1,e2,e3,e4⟩:=r.obj kk ty cs hk
  exact⟨g,cur,e1,(hblk kk g (.inl ⟨_,rfl,hk,e1⟩)).trans e2,aT kE _ _ e3,e4⟩
 ·intro kk ty sz m hk
  obtain⟨t,cur,e1,e2,e3,e4,e5⟩:=r.tok kk ty sz m hk
  exact⟨t,cur,e1,e2,e3,(hblk kk t.b (hat kk t e1)).trans e4,e5⟩
 ·exact r.tkh
 ·exact r.sep
 ·exact r.dis
 ·exact r.hus
 ·exact r.obu
 ·exact r.fre
 ·intro g o ho
  obtain⟨v,hv⟩:=r.imb g o ho
  exact⟨v,(kE.imm g o ho).2.trans hv⟩
 ·intro g hg
  exact Nat.lt_of_lt_of_le (r.lkb g hg) k.size
 ·intro kk es hk
  obtain⟨g,ents,clk,e1,e2,e3⟩:=r.mp kk es hk
  exact⟨g,ents,clk,e1,(hblk kk g (.inl ⟨_,rfl,hk,e1⟩)).trans e2,e3⟩
def sC (E:dE) (H H':aA) (w:World):dE:= { E with
 imm:=λg o=>E.imm g o∨((∃k,E.at H k g∧H' k=none)∧∃v,w.cell? ⟨g,o,none⟩=some v)
 tk:=λk=>if (H' k).isSome then E.tk k else none}
theorem dI {E:dE} {H H':aA} {w:World} (r:cT E H w):bX E w (sC E H H' w) w:=by
 refine⟨λg o h=>⟨.inl h,rfl⟩,λ_=>Iff.rfl,λ_ _=>rfl,λ_ h=>h,λ_ _ h=>h, ?_, ?_,rfl,rfl,rfl,Nat.le_refl _⟩
 ·intro k t ht o ho
  refine⟨?_,rfl⟩
  cases hk:H' k with
  | some e=>exact .inr ⟨t,by simp[sC,hk,ht],rfl,ho⟩
  | none=>
   obtain⟨ty,e⟩:=r.tkh k t ht
   obtain⟨t',cur,e1,e2,e3,e4,e5,e6,e7⟩:=r.tok _ _ _ _ e
   rw[ht] at e1; cases e1
   have:o < cur.size:=by omega
   exact .inl (.inr ⟨⟨k,.inr ⟨ty,_,_,t,e,ht,rfl⟩,hk⟩,cur[o],by simp[World.cell?,e4,this]⟩)
 ·intro k t' ht _
  simp only[sC] at ht
  split at ht
  ·exact⟨t',ht,Nat.le_refl _,λ_=>rfl⟩
  ·cases ht
theorem kO {E:dE} {H H':aA} {w:World} (r:cT E H w) (hs:eO H' H):cT (sC E H H' w) H' w:=by
 have key:bX E w (sC E H H' w) w:=dI r
 have at':∀k g,dE.at (sC E H H' w) H' k g→E.at H k g∧(H' k).isSome=true:=by
  intro k g ha
  rcases ha with⟨ty,cs,h1,h2⟩ | ⟨ty,sz,m,t,h1,h2,h3⟩
  ·exact⟨.inl ⟨ty,cs,hs _ _ h1,h2⟩,by simp[h1]⟩
  ·simp only[sC,h1,Option.isSome_some,if_true] at h2
   exact⟨.inr ⟨ty,sz,m,t,hs _ _ h1,h2,h3⟩,by simp[h1]⟩
 constructor
 ·intro k ty cs hk
  obtain⟨g,cur,e1,e2,e3,e4⟩:=r.obj k ty cs (hs _ _ hk)
  exact⟨g,cur,e1,e2,aT key _ _ e3,e4⟩
 ·intro k ty sz m hk
  obtain⟨t,cur,e1,e2⟩:=r.tok k ty sz m (hs _ _ hk)
  exact⟨t,cur,by simp[sC,hk,e1],e2⟩
 ·intro k t hk
  simp only[sC] at hk
  split at hk
  ·rename_i hsome
   obtain⟨ty,e⟩:=r.tkh k t hk
   obtain⟨e',he'⟩:=Option.isSome_iff_exists.1 hsome
   have:=hs _ _ he'
   rw[e] at this
   cases this
   exact⟨ty,he'⟩
  ·cases hk
 ·intro k k' g ha hb
  exact r.sep k k' g (at' _ _ ha).1 (at' _ _ hb).1
 ·intro k g ha
  obtain⟨h1,h2⟩:=r.dis k g (at' _ _ ha).1
  refine⟨h1,λo ho=> ?_⟩
  rcases ho with ho | ⟨⟨k',e1,e2⟩,_⟩
  ·exact h2 o ho
  ·have:k=k':=r.sep k k' g (at' _ _ ha).1 e1
   subst this
   have:=(at' _ _ ha).2
   rw[e2] at this
   cases this
 ·exact λk e hk=>r.hus k e (hs _ _ hk)
 ·exact r.obu
 ·exact r.fre
 ·intro g o ho
  rcases ho with ho | ⟨_,h⟩
  ·exact r.imb g o ho
  ·exact h
 ·exact r.lkb
 ·exact λk es hk=>r.mp k es (hs _ _ hk)
def Fz (H H':aA) (x y:AV):Prop:=∀E w v,cT E H w→VR E w x v→VR (sC E H H' w) w y v
theorem Fz.refl (H H':aA) (x:AV):Fz H H' x x:=λ_ _ _ r h=>fT (dI r) _ _ h
theorem Fz.ale {H H':aA} {x y:AV} (hs:eO H' H) (h:aN H' x y):Fz H H' x y:=λ_ w v r hv=>h _ w v (kO r hs) (fT (dI r) _ _ hv)
theorem Fz.vw {α:Type} {c:α→List AV} {xs:List α} {H H':aA} {k:aY} {ty:TypeId} {sp:List AV} {sz cap:Nat} (hc:∀y,(c y).length=sz) (hk:H k=some (.obj ty (fl c xs sp))) (hn:H' k=none):Fz H H' (.vw k xs.length cap) (.sl none sz (xs.map c)):=by
 intro E w v r hv
 simp only[VR] at hv ⊢
 obtain⟨g,hg,rfl,h1,h2⟩:=hv
 obtain⟨g',cur,e1,e2,e3,e4⟩:=r.obj _ _ _ hk
 rw[hg] at e1; cases e1
 refine⟨_,cap,by rw[List.length_map],by rw[List.length_map]; exact h1,h2, ?_, ?_,nofun⟩
 ·refine .inr ⟨g,0,rfl,eU.2 ?_⟩
  have htake:bE E w (xs.map c).flatten (cur.toList.take ((xs.map c).flatten.length)):=by
   have:=dG ((xs.map c).flatten.length) e3
   rwa [fl,List.take_left' rfl] at this
  refine bY (aT (dI r) _ _ htake) (λu hu=>e4 u (List.mem_of_mem_take hu)) ?_
  intro j u hj
  rw[List.getElem?_take] at hj
  split at hj
  ·have hcell:w.cell? ⟨g,0+j,none⟩=some u:=by
    simp only[World.cell?,e2,Nat.zero_add]
    simpa using hj
   exact⟨hcell,.inl (.inr ⟨⟨k,.inl ⟨_,rfl,hk,hg⟩,hn⟩,u,hcell⟩)⟩
  ·cases hj
 ·intro x hx
  obtain⟨y,_,rfl⟩:=List.mem_map.1 hx
  exact hc y
theorem Fz.aw {α:Type} {c:α→List AV} {xs:List α} {h0:aA} {L L':HL} {ty:TypeId} {g:eM} {sz:Nat} (i:Nat) (hc:∀y,(c y).length=sz) (ok:cV g sz xs.length) (hk:aS h0 L) (hi:L[i]? =some (g.t,.obj ty (fl c xs g.sp))) (hs:L'.Sublist (L.eraseIdx i)):
    Fz (hp h0 L) (hp h0 L') (aw g.t g.n g.cap) (.sl none sz (xs.map c)):=by
  rw[ok.eqn]
  cases ht:g.t with
  | none=>
    have h0:xs= []:=List.length_eq_zero_iff.1 (ok.nil ht)
    subst h0
    exact Fz.ale (aW (hs.trans (List.eraseIdx_sublist L i)) hk).1 (pS _ sz)
  | some k=>
    rw[ht] at hi
    exact Fz.vw hc (bF i hk hi) (hD (aW hs (aW (List.eraseIdx_sublist L i) hk).2).1 (iU i hk hi))
inductive jI (H H':aA):List AV→List AV→Prop where
 | nil:jI H H' [] []
 | cons {x y:AV} {xs ys:List AV}:Fz H H' x y→jI H H' xs ys→jI H H' (x::xs) (y::ys)
theorem jI.spec {H H':aA} {xs ys:List AV} (hl:jI H H' xs ys) {E:dE} {w:World} (r:cT E H w):∀ {vs:List Value},bE E w xs vs→bE (sC E H H' w) w ys vs:=by
 induction hl with
 | nil=>intro vs v; cases vs with
  | nil=>simp only[bE]
  | cons _ _=>simp only[bE] at v
 | cons h1 _ ih=>intro vs v; cases vs with
  | nil=>simp only[bE] at v
  | cons u us=>
   simp only[bE] at v ⊢
   exact⟨h1 E w u r v.1,ih v.2⟩
theorem jI.refl (H H':aA):∀(xs:List AV),jI H H' xs xs
 | []=>.nil
 | x::xs=>.cons (Fz.refl H H' x) (jI.refl H H' xs)
theorem jI.app {H H':aA} {xs ys:List AV}:∀(k:Nat) {zs:List AV},zs.length=k→jI H H' xs ys→jI H H' (zs++xs) (zs++ys)
 | 0, [],_,hl=>hl
 | k+1,z::zs,hz,hl=>.cons (Fz.refl _ _ _) (jI.app k (by simpa using hz) hl)
 | 0,_::_,hz,_=>by simp at hz
 | _+1, [],hz,_=>by simp at hz
theorem Fz.agg {H H':aA} {xs ys:List AV} (hl:jI H H' xs ys):Fz H H' (.agg xs) (.agg ys):=by
 intro E w v r hv
 simp only[VR] at hv ⊢
 obtain⟨cs,rfl,h⟩:=hv
 exact⟨cs,rfl,hl.spec r h⟩
theorem eQ.fz {n:Nat} {kvs:KV} {H H':aA} {t:Nat} {v:AV} (hs:eO H' H) (hv:Fz H H' (lk n kvs t) v):eQ (Vm.fm n (kp kvs t v)) H' (Vm.fm n kvs) H:=by
 intro E w vs r vv
 refine⟨_,dI r,kO r hs, ?_⟩
 have key:jI H H' (Vm.fm n kvs) (Vm.fm n (kp kvs t v)):=by
  have:∀ {xs ys:List AV},xs.length=ys.length→(∀(i:Nat) (x y:AV),xs[i]? =some x→ys[i]? =some y→Fz H H' x y)→jI H H' xs ys:=by
   intro xs
   induction xs with
   | nil=>intro ys hl _; cases ys with
    | nil=>exact .nil
    | cons _ _=>simp at hl
   | cons x xs ih=>intro ys hl hg; cases ys with
    | nil=>simp at hl
    | cons y ys=>exact .cons (hg 0 x y rfl rfl) (ih (by simpa using hl) λi a b ha hb=>hg (i+1) a b (by simpa using ha) (by simpa using hb))
  refine this (by rw[f0,f0]) ?_
  intro i x y hx hy
  rw[iR] at hx hy
  by_cases hi:i < n
  ·rw[if_pos hi] at hx hy
   cases hx; cases hy
   by_cases e:t=i
   ·subst e
    rw[iC]
    rw[iS,if_pos hi] at hv
    exact hv
   ·rw[l9 _ _ e]; exact Fz.refl _ _ _
  ·rw[if_neg hi] at hx; cases hx
 exact key.spec r vv
section more
variable {P:Program} {h0:aA} {L:HL} {n:Nat} {kvs:KV}
theorem pT {o:Oper} {K:AV→aA→Prop} {H H':aA} {s:Nat} (v:AV) (hs:eO H' H) (hv:Fz H H' (lk n kvs s) v) (ho:eD P o K (fm n (kp kvs s v)) H'):eD P o K (fm n kvs) H:=by
 intro E w a r hvv Nx Qx hn
 refine ho (sC E H H' w) w a (kO r hs) (λy hy=> ?_) Nx Qx (λx v' w' E' h' k r' vx kx=>hn x v' w' E' h' ((dI r).trans k) r' vx kx)
 have h1:=hvv y hy
 rw[aO] at h1 ⊢
 cases y with
 | tmp u=>
  simp only[cB,iS] at h1 hv ⊢
  by_cases e:s=u
  ·subst e
   rw[iC]
   split
   ·rename_i q; rw[if_pos q] at h1 hv; exact hv E w _ r h1
   ·exact fT (dI r) _ _ (by rename_i q; rw[if_neg q] at h1; exact h1)
  ·rw[l9 _ _ e]; exact fT (dI r) _ _ h1
 | const v=>exact fT (dI r) _ _ h1
 | global g=>exact fT (dI r) _ _ h1
 | func f=>exact fT (dI r) _ _ h1
theorem eQ.fzO {f:KV} {k:aY} {ty:TypeId} {cs:List AV} (p j:Nat) (cs':List AV) (hk:aS h0 L) (hj:(L.eraseIdx p)[j]? =some (some k,.obj ty cs)) (hl:jI (hp h0 L) (hp h0 (L.eraseIdx p)) cs cs'):
    aS h0 ((L.eraseIdx p).set j (some k,.obj ty cs'))∧eQ (Vm.fm n f) (hp h0 ((L.eraseIdx p).set j (some k,.obj ty cs'))) (Vm.fm n f) (hp h0 L):=by
  obtain⟨hs,hk1⟩:=aW (List.eraseIdx_sublist L p) hk
  obtain⟨h1,h2,_⟩:=eK (e':=.obj ty cs') j hk1 hj (.inl rfl)
  refine⟨h2,λE w vs r v=> ?_⟩
  have hg1:=bF j hk1 hj
  obtain⟨g,cur,e1,e2,e3,e4⟩:=r.obj k ty cs (hs _ _ hg1)
  have r1:=kO r hs
  have k1:bX E w (sC E (hp h0 L) (hp h0 (L.eraseIdx p)) w) w:=dI r
  obtain⟨k2,r2⟩:=r1.set_obj hg1 (show (sC E (hp h0 L) (hp h0 (L.eraseIdx p)) w).ob k=some g from e1) (w':=w) e2 (λ_ _=>rfl) (Nat.le_refl _) rfl rfl rfl (hl.spec r e3) e4
  rw[h1] at r2
  exact⟨_,k1.trans k2,r2,aT (k1.trans k2) _ _ v⟩
theorem nC {ops:Array Oper} {fs:List (Nat×Option aY×dX)} {K:Fr→aA→Prop} {f:Nat} {S:Array Bool} {fr:Fr} {h1 h2:aA} (e:h1=h2) (k:eF fs S h2∧kL P ops fs K f S fr h2):eF fs S h1∧kL P ops fs K f S fr h1:=by subst e; exact k
end more
abbrev aZ (g:eM):AV:=aw g.t g.n g.cap
open Go.Lib
def jJ (s:ByteArray):List Int:=s.data.toList.map λb=>(b.toNat:Int)
def pU (s:ByteArray):List (List AV):=(jJ s).map λz=> [.sc (.int .u8 z)]
theorem cZ (s:ByteArray):(jJ s).length=s.size:=by simp[jJ]
theorem pV (s:ByteArray):(strCells s).toArray=s.data.map (λb=>Value.int .u8 b.toNat):=by
 apply Array.ext'
 simp[strCells]
section app
variable {P:Program} {E:dE} {h:aA} {w:World}
theorem uK:∀(l:List UInt8),bE E w ((l.map λb=>(b.toNat:Int)).map λz=> [AV.sc (.int .u8 z)]).flatten (l.map λb=>Value.int .u8 b.toNat)
 | []=>by simp[bE]
 | b::l=>by
  simp only[List.map_cons,List.flatten_cons,List.singleton_append,bE,VR]
  exact⟨trivial,uK l⟩
theorem oU {sz:Nat} (h1:sz=1) (st:ByteArray):∃cv:List Value,strCells st=cv∧st.size=(pU st).length∧(∀x∈pU st,x.length=sz)∧bE E w (pU st).flatten cv∧(∀u∈cv,u.oneCell'=true)∧cv.length=(pU st).length*sz:=by
 subst h1
 refine⟨_,rfl,by rw[pU,List.length_map,cZ], ?_,uK _,strCells_oneCell st,by rw[strCells_length,pU,List.length_map,cZ,Nat.mul_one]⟩
 intro x hx
 obtain⟨z,_,rfl⟩:=List.mem_map.1 hx
 rfl
theorem pW {u t ty e:TypeId} {sz b:Nat} (huS:P.underlying u=some .string) (ht:gN P t e sz b) (h1z:sz=1) (r:cT E h w) {k:aY} (hk:¬E.used k) {ys:List (List AV)} (st:ByteArray) (hys:pU st=ys) (hne:ys≠ [])
    (hb:ys.length*b≤140737488355328) (hlen:ys.length≤140737488355328) (a0:Option Addr):
    ∃v' w' E',(Builtin.append_ #[t,u] ty #[.slice a0 0 0,.string st]).run P w= .ok v' w'∧bX E w E' w'∧cT E' (upd h k (some (.tok e sz (ys.length*sz)))) w'∧VR E' w' (.sl (some k) sz ys) v':=by
  obtain⟨i,z,hi,hz,rfl,rfl,hzs,hsp⟩:=ht.inf
  obtain⟨cv,ecv,hlc,hs,c1,c2,c3⟩:∃cv:List Value,strCells st=cv∧st.size=ys.length∧(∀x∈ys,x.length=i.size)∧bE E w ys.flatten cv∧(∀u∈cv,u.oneCell'=true)∧cv.length=ys.length*i.size:=by
    subst hys; exact oU (E:=E) (w:=w) h1z st
  have hpos:0 < ys.length:=List.length_pos_iff.2 hne
  have hrun:(Builtin.append_ #[t,u] ty #[.slice a0 0 0,.string st]).run P w=
      .ok (.slice (some ⟨w.heap.size,0,none⟩) ys.length (grownCap w ys.length 0 e)) (w.drew.alloc (.cells (cv.toArray++Builtin.zeroCells z.cells (grownCap w ys.length 0 e - ys.length)) e)):=by
    cases a0 with
    | none=>
      have:=run_append_nil_string (P:=P) w t u ty e i z ht.ut huS hi hz st (by omega) (by omega) (by rw[hlc]; omega)
      rw[hlc,← pV,ecv] at this
      exact this
    | some b0=>
      have:=run_append_grow_string (P:=P) w t u ty e i z ht.ut huS hi hz b0 0 0 [] (by simp) (by simp) st (by omega) (by omega) (growslice_fits (by omega) (by rw[Nat.zero_add,hlc]; exact hb))
      rw[hlc,ecv] at this
      simpa using this
  have hge:=grownCap_ge w ys.length 0 e
  have hcm:grownCap w ys.length 0 e≤maxLen:=grownCap_le_maxLen w ys.length 0 e (by simp only[maxLen]; omega)
  have hsize:(cv.toArray++Builtin.zeroCells z.cells (grownCap w ys.length 0 e - ys.length)).size=grownCap w ys.length 0 e*i.size:=by
    simp only[Array.size_append,List.size_toArray,size_zeroCells,hzs,c3,← Nat.add_mul]
    congr 1; omega
  obtain⟨rd,kd⟩:=r.drewn (w.drawn+1)
  obtain⟨E',e0,e1,e2,e3⟩:=cT.new_tok (w:=w.drew) rd hk e i.size (ys.length*i.size) (grownCap w ys.length 0 e) hsize (by simp[c3]) hcm
  refine⟨_,_,E',hrun,kd.trans e2,e3, ?_⟩
  refine gD e0 (by simpa using e1) hs hge hcm ?_
  have hnew:=heap_alloc_new w.drew (.cells (cv.toArray++Builtin.zeroCells z.cells (grownCap w ys.length 0 e - ys.length)) e)
  refine bY (aT (kd.trans e2) _ _ c1) c2 ?_
  intro j u hj
  have hjl:j < cv.length:=(List.getElem?_eq_some_iff.1 hj).1
  refine⟨?_,.inr ⟨k,_,rfl,e1,rfl,by show 0+j < ys.length*i.size; omega⟩⟩
  have hnew':(w.drew.alloc (.cells (cv.toArray++Builtin.zeroCells z.cells (grownCap w ys.length 0 e - ys.length)) e)).heap[w.heap.size]? =_:=hnew
  simp only[World.cell?,hnew',Nat.zero_add]
  simp[Array.getElem?_append,hjl]
  exact(List.getElem?_eq_some_iff.1 hj).2
theorem pX {u t ty e:TypeId} {sz b:Nat} (huS:P.underlying u=some .string) (ht:gN P t e sz b) (h1z:sz=1) (r:cT E h w) {k:aY} {xs:List (List AV)} (hk:h k=some (.tok e sz (xs.length*sz))) {v:Value} (hv:VR E w (.sl (some k) sz xs) v)
    {ys:List (List AV)} (st:ByteArray) (hys:pU st=ys) (hne:ys≠ []) (hb:(xs.length+ys.length)*b≤140737488355328) (hlen:xs.length+ys.length≤140737488355328):
    ∃v' w' E',(Builtin.append_ #[t,u] ty #[v,.string st]).run P w= .ok v' w'∧bX E w E' w'∧cT E' (upd h k (some (.tok e sz ((xs++ys).length*sz)))) w'∧VR E' w' (.sl (some k) sz (xs++ys)) v':=by
  obtain⟨i,z,hi,hz,rfl,rfl,hzs,hsp⟩:=ht.inf
  obtain⟨cy,ecv,hlc,hsy,c1,c2,c3⟩:∃cv:List Value,strCells st=cv∧st.size=ys.length∧(∀x∈ys,x.length=i.size)∧bE E w ys.flatten cv∧(∀u∈cv,u.oneCell'=true)∧cv.length=ys.length*i.size:=by
    subst hys; exact oU (E:=E) (w:=w) h1z st
  have hpos:0 < ys.length:=List.length_pos_iff.2 hne
  obtain⟨tk,cur,t1,t2,t3,t4,t5,t6,t7⟩:=r.tok _ _ _ _ hk
  have hv0:=hv
  simp only[VR] at hv
  obtain⟨a,cap,rfl,v1,v2,v3,hsx,v5⟩:=hv
  obtain⟨hu,v6⟩:=v5 k rfl
  obtain⟨_,v7⟩:=v6 tk t1
  obtain⟨rfl,rfl,_⟩:=v7 t3.symm
  -- the cells that are there
  have hxc:∃cx:List Value,bE E w xs.flatten cx∧(∀u∈cx,u.oneCell'=true)∧cx.length=xs.length*i.size∧cur.toList.take (xs.length*i.size)=cx:=by
    by_cases hx0:xs= []
    · subst hx0; exact⟨[],by simp[bE],by simp,by simp,by simp⟩
    · obtain⟨g',o',cap'',cx,ee,d1,d2,d3,d4⟩:=g6 hv0 hx0
      cases ee
      refine⟨cx,d1,d2,d3, ?_⟩
      apply List.ext_getElem?
      intro j
      rw[List.getElem?_take]
      split
      · rename_i hj
        have hjx:j < cx.length:=by omega
        have h1:=(d4 j cx[j] (by simp[hjx])).1
        simp only[World.cell?,t4,Nat.zero_add] at h1
        rw[List.getElem?_eq_getElem hjx]
        simpa using h1
      · rename_i hj
        rw[List.getElem?_eq_none (by omega)]
  obtain⟨cx,d1,d2,d3,d4⟩:=hxc
  have hall:∀x∈xs++ys,x.length=i.size:=by
    intro x hx
    rcases List.mem_append.1 hx with hx | hx
    · exact hsx x hx
    · exact hsy x hx
  have hl2:(xs++ys).length*i.size=xs.length*i.size+ys.length*i.size:=by rw[List.length_append,Nat.add_mul]
  have hvl:bE E w (xs++ys).flatten (cx++cy):=by rw[List.flatten_append]; exact bM d1 c1
  have h1l:∀u∈cx++cy,u.oneCell'=true:=by
    intro u hu
    rcases List.mem_append.1 hu with hu | hu
    · exact d2 u hu
    · exact c2 u hu
  have hmlt:tk.m < (xs++ys).length*i.size:=by
    rw[hl2,t3]
    have:0 < ys.length*i.size:=Nat.mul_pos hpos hsp
    omega
  by_cases hroom:xs.length+ys.length≤tk.cap
  · have hfit:xs.length*i.size+cy.length≤cur.size:=by rw[c3,t5,← Nat.add_mul]; exact Nat.mul_le_mul_right _ hroom
    have hrun:(Builtin.append_ #[t,u] ty #[.slice (some ⟨tk.b,0,none⟩) xs.length tk.cap,.string st]).run P w= .ok (.slice (some ⟨tk.b,0,none⟩) (xs.length+ys.length) tk.cap) (w.setRow tk.b (cur.toList.take (xs.length*i.size)++cy++cur.toList.drop (xs.length*i.size+cy.length)).toArray):=by
      have hcy:cy.length=ys.length:=by rw[c3,h1z,Nat.mul_one]
      have hx1:xs.length*i.size=xs.length:=by rw[h1z,Nat.mul_one]
      rw[hx1] at hfit
      have:=run_append_room_string (P:=P) w t u ty e i ht.ut huS hi h1z tk.b xs.length tk.cap cur t4 st (by omega) (by omega)
      rw[ecv,hlc] at this
      rw[hx1,hcy]
      exact this
    have hnsz:(cur.toList.take (xs.length*i.size)++cy++cur.toList.drop (xs.length*i.size+cy.length)).toArray.size=tk.cap*i.size:=by
      simp only[List.size_toArray,List.length_append,List.length_take,List.length_drop,Array.length_toList]
      omega
    have hcell:∀j u,(cx++cy)[j]? =some u→(w.setRow tk.b (cur.toList.take (xs.length*i.size)++cy++cur.toList.drop (xs.length*i.size+cy.length)).toArray).cell? ⟨tk.b,j,none⟩=some u:=by
      intro j u hj
      rw[cell_setRow_same w tk.b j cur _ e (0,0) t4,d4]
      have hjl:j < (cx++cy).length:=(List.getElem?_eq_some_iff.1 hj).1
      simp only[List.getElem?_toArray]
      rw[List.getElem?_append_left hjl]
      exact hj
    obtain⟨E',e0,e1,e2,e3⟩:=r.grow (m:=(xs++ys).length*i.size) (cap:=tk.cap) (b:=tk.b) (ty:=e) (w':=w.setRow tk.b (cur.toList.take (xs.length*i.size)++cy++cur.toList.drop (xs.length*i.size+cy.length)).toArray) t1 (by rw[t2,t3]; exact hk)
      (setRow_heap w tk.b cur _ e _ t4) (λg' _ hg'=>setRow_other w tk.b g' _ hg') (.inl ⟨rfl,rfl⟩) (λj hj=>by
        rw[cell_setRow_same w tk.b j cur _ e (0,0) t4]
        have hjl:j < cx.length:=by omega
        have hjc:j < cur.size:=by omega
        have e1:cur[j]? =cx[j]? :=by
          rw[← d4,List.getElem?_take,if_pos (by omega)]; simp
        simp only[List.getElem?_toArray,d4]
        rw[List.append_assoc,List.getElem?_append_left hjl,← e1]
        simp[World.cell?,t4]) hmlt (by rw[t2]; exact hnsz) (by rw[hnsz,← t5]; rw[hl2]; rw[c3] at hfit; omega) t7 (by simp) rfl rfl rfl
    rw[t2] at e1 e3
    refine⟨_,_,E',hrun,e2,e3, ?_⟩
    have:=gD (w:=w.setRow tk.b (cur.toList.take (xs.length*i.size)++cy++cur.toList.drop (xs.length*i.size+cy.length)).toArray) e0 e1 hall (by rw[List.length_append]; exact hroom) t7
      (bY (aT e2 _ _ hvl) h1l (λj u hj=>⟨by rw[Nat.zero_add]; exact hcell j u hj,.inr ⟨k,_,rfl,e1,rfl,by
        have hjl:j < (cx++cy).length:=(List.getElem?_eq_some_iff.1 hj).1
        rw[List.length_append,d3,c3] at hjl
        show 0+j < (xs++ys).length*i.size
        omega⟩⟩))
    rw[List.length_append] at this
    exact this
  · have hold:∀j u,cx[j]? =some u→w.cell? ((⟨tk.b,0,none⟩:Addr).add j)=some u:=by
      intro j u hj
      rw[Addr.add_lit,Nat.zero_add]
      have hjl:j < cx.length:=(List.getElem?_eq_some_iff.1 hj).1
      simp only[World.cell?,t4]
      rw[← d4,List.getElem?_take] at hj
      split at hj
      · simpa using hj
      · cases hj
    have hrun:=run_append_grow_string (P:=P) w t u ty e i z ht.ut huS hi hz ⟨tk.b,0,none⟩ xs.length tk.cap cx d3 hold st (by omega) (by omega) (growslice_fits (by omega) (by rw[hlc]; exact hb))
    rw[hlc,ecv] at hrun
    have hge:=grownCap_ge w (xs.length+ys.length) tk.cap e
    have hcm:grownCap w (xs.length+ys.length) tk.cap e≤maxLen:=grownCap_le_maxLen w (xs.length+ys.length) tk.cap e (by simp only[maxLen]; omega)
    generalize hgc:grownCap w (xs.length+ys.length) tk.cap e=gc at hge hcm hrun
    generalize hcells:cx.toArray++cy.toArray++Builtin.zeroCells z.cells (gc - (xs.length+ys.length))=cells at hrun
    have hsize:cells.size=gc*i.size:=by
      rw[← hcells]
      simp only[Array.size_append,List.size_toArray,size_zeroCells,hzs,c3,d3,← Nat.add_mul]
      congr 1; omega
    have hnew:=heap_alloc_new w.drew (.cells cells e)
    have hcell:∀j u,(cx++cy)[j]? =some u→(w.drew.alloc (.cells cells e)).cell? ⟨w.heap.size,j,none⟩=some u:=by
      intro j u hj
      have hjl:j < (cx++cy).length:=(List.getElem?_eq_some_iff.1 hj).1
      have hnew':(w.drew.alloc (.cells cells e)).heap[w.heap.size]? =_:=hnew
      simp only[World.cell?,hnew']
      rw[← hcells]
      simp only[Option.isSome_none,Bool.false_eq_true,if_false]
      rw[Array.getElem?_append_left (by simpa using hjl)]
      simpa using hj
    have hblt:tk.b < w.heap.size:=(Array.getElem?_eq_some_iff.1 t4).1
    obtain⟨rd,kd⟩:=r.drewn (w.drawn+1)
    have rd':cT E h w.drew:=rd
    obtain⟨E',e0,e1,e2,e3⟩:=rd'.grow (m:=(xs++ys).length*i.size) (cap:=gc) (b:=w.heap.size) (ty:=e) (w':=w.drew.alloc (.cells cells e)) (cur:=cells) t1 (by rw[t2,t3]; exact hk)
      hnew (λg' hg' _=>heap_alloc_old w.drew _ g' hg') (.inr ⟨Nat.le_refl _,heap_alloc_old w.drew _ _ hblt⟩) (λj _=>bT (w:=w.drew) (heap_alloc_old w.drew _ _ hblt) j) hmlt (by rw[t2]; exact hsize)
      (by rw[hsize]; rw[List.length_append]; exact Nat.mul_le_mul_right _ hge) hcm (by simp) rfl rfl rfl
    rw[t2] at e1 e3
    refine⟨_,_,E',hrun,kd.trans e2,e3, ?_⟩
    have:=gD (w:=w.drew.alloc (.cells cells e)) e0 e1 hall (by rw[List.length_append]; exact hge) hcm
      (bY (aT (kd.trans e2) _ _ hvl) h1l (λj u hj=>⟨by rw[Nat.zero_add]; exact hcell j u hj,.inr ⟨k,_,rfl,e1,rfl,by
        have hjl:j < (cx++cy).length:=(List.getElem?_eq_some_iff.1 hj).1
        rw[List.length_append,d3,c3] at hjl
        show 0+j < (xs++ys).length*i.size
        omega⟩⟩))
    rw[List.length_append] at this
    exact this
end app
section ops
variable {P:Program} {ops:Array Oper} {h h0:aA} {L:HL} {n:Nat} {kvs:KV} {l:List Oper} {ty:TypeId} {pos:String} {bV:Array Edge}
theorem fI {o:Oper} {s x:Operand} {t u:TypeId} (hop:o.op= .call { callee:=.builtin .append,args:= #[s,x],argTypes:= #[t,u]}) {a:Act} {w w':World} {v:Value}
    (hr:(Builtin.append_ #[t,u] o.type #[a.eval s,a.eval x]).run P w= .ok v w'):(execOp a.eval o).run P w= .ok (.value v) w':=by
  unfold execOp
  simp only[hop,resolve,invoke,builtin,Sem.run_bind,Sem.run_pure,Result.andThen_ok,List.map_toArray,List.map_cons,List.map_nil,hr]
theorem gU {t u ty e:TypeId} {sz b:Nat} (hu:P.underlying u=some .string) (ht:gN P t e sz b) {w:World} {v:Value} {n:Nat} {st:ByteArray} (h0:st.size=0) (hv:(v= .slice none 0 0∧n=0)∨∃a cap,v= .slice (some a) n cap∧n≤cap):
    (Builtin.append_ #[t,u] ty #[v,.string st]).run P w= .ok v w:=by
  obtain⟨i,z,hi,hz,_⟩:=ht.inf
  have hd:st.data.size=0:=h0
  have hx:(Array.map (λb:UInt8=>Value.int IntKind.u8 (b.toNat:Int)) st.data)= #[]:=by apply Array.eq_empty_of_size_eq_zero; simpa using hd
  rcases hv with⟨rfl,rfl⟩ | ⟨a',cap,rfl,hc⟩
  · simp[Builtin.append_,run_underlying ht.ut,run_underlying hu,sizeOf,typeInfo,hi,Builtin.lenOf,Builtin.firstCells,h0,hx]
  · simp[Builtin.append_,run_underlying ht.ut,run_underlying hu,sizeOf,typeInfo,hi,Builtin.lenOf,Builtin.firstCells,h0,hx,hc,storeCells]
theorem xG {K:AV→aA→Prop} {c:Int→List AV} {xs zs:List Int} {st:ByteArray} {dst:Option Tmp} {s x:Operand} {t u e:TypeId} {b:Nat} {tg:Option aY} (i:Nat) (hm:app xs (jJ st)=some zs) (hu:P.underlying u=some .string) (ht:gN P t e 1 b) (hb:Nat.ble b 100000=true) (hc:∀z,c z= [.sc (.int .u8 z)])
    (ha:cB n kvs s=ow tg 1 (xs.map c)) (hi:L[i]? =some (tg,.tok e 1 (xs.length*1))) (ot:tg=none→xs= []) (hk:aS h0 L) (hx:cB n kvs x= .sc (.string st))
    (k:∀tg',(tg'=none→zs= [])→aS h0 (L.set i (tg',.tok e 1 (zs.length*1)))→K (ow tg' 1 (zs.map c)) (hp h0 (L.set i (tg',.tok e 1 (zs.length*1))))):
    eD P ⟨dst,.call { callee:=.builtin .append,args:= #[s,x],argTypes:= #[t,u]},ty,pos,bV,none⟩ K (fm n kvs) (hp h0 L):=by
  obtain⟨rfl,hsz⟩:=dV hm
  have hb':=Nat.le_of_ble_eq_true hb
  have hbound:(xs.length+(jJ st).length)*(b+1)≤140737488355328:=by
    have:(xs.length+(jJ st).length)*(b+1)≤1000000000*100001:=Nat.mul_le_mul hsz (by omega)
    omega
  rw[Nat.mul_add,Nat.mul_one] at hbound
  have hcf:c=λz=> [.sc (.int .u8 z)]:=funext hc
  have hys:pU st=(jJ st).map c:=by rw[hcf]; rfl
  have hset:∀a,L[i]? =some a→L.set i a=L:=by
    intro a ha
    have hil:i < L.length:=(List.getElem?_eq_some_iff.1 ha).1
    apply List.ext_getElem?; intro j; rw[List.getElem?_set]; split
    · rename_i q; first | (subst q; exact ha.symm) | (subst q; rw[if_pos hil]; exact ha.symm)
    · rfl
  intro E w a r hv Nx Qx hn
  have vs:=hv s (by simp[Op.operands,Call.operands])
  have vx:=hv x (by simp[Op.operands,Call.operands])
  rw[aO] at vs vx
  rw[ha] at vs
  rw[hx] at vx
  have vx:a.eval x= .string st:=by simpa only[VR] using vx
  have hop:(⟨dst,.call { callee:=.builtin .append,args:= #[s,x],argTypes:= #[t,u]},ty,pos,bV,none⟩:Oper).op= .call { callee:=.builtin .append,args:= #[s,x],argTypes:= #[t,u]}:=rfl
  by_cases hy:jJ st= []
  · have h0:st.size=0:=by rw[← cZ,hy]; rfl
    have hk1:=k tg (by rw[hy,List.append_nil]; exact ot) (by rw[hy,List.append_nil,hset _ hi]; exact hk)
    rw[hy,List.append_nil,hset _ hi] at hk1
    cases tg with
    | none=>
      have hx0:=ot rfl
      subst hx0
      simp only[ow,VR] at vs
      obtain⟨a0,ea0⟩:=vs
      have hv0:(a.eval s= .slice none 0 0∧0=0)∨∃a' cap,a.eval s= .slice (some a') 0 cap∧0≤cap:=by
        cases a0 with
        | none=>exact .inl ⟨ea0,rfl⟩
        | some b=>exact .inr ⟨b,0,ea0,Nat.le_refl _⟩
      have hr:=gU (P:=P) (w:=w) (ty:=ty) hu ht h0 hv0
      unfold Oper.wp
      rw[fI hop (by rw[vx]; exact hr)]
      exact hn _ _ _ E _ (bX.refl E w) r (by simp only[ow,VR]; exact⟨a0,ea0⟩) hk1
    | some kk=>
      have hg:=bF i hk hi
      have hsv:∃q cap,a.eval s= .slice (some q) xs.length cap∧xs.length≤cap:=by
        have vs':=vs
        simp only[ow,VR] at vs'
        obtain⟨q,cap,e1,e2,_,_,_,e5⟩:=vs'
        rw[List.length_map] at e1 e2
        obtain⟨tk,cur,t1,t2,t3,_⟩:=r.tok _ _ _ _ hg
        obtain⟨_,e6⟩:=e5 kk rfl
        obtain⟨_,e7⟩:=e6 tk t1
        have:=(e7 (by rw[List.length_map]; exact t3.symm)).1
        exact⟨⟨tk.b,0,none⟩,cap,by rw[e1,this],e2⟩
      obtain⟨q,cap,es,ec⟩:=hsv
      have hr:=gU (P:=P) (w:=w) (ty:=ty) hu ht h0 (v:=a.eval s) (n:=xs.length) (.inr ⟨q,cap,es,ec⟩)
      unfold Oper.wp
      rw[fI hop (by rw[vx]; exact hr)]
      exact hn _ _ _ E _ (bX.refl E w) r vs hk1
  · have hyc:(jJ st).map c≠ []:=by simpa using hy
    cases tg with
    | none=>
      have hx0:=ot rfl
      subst hx0
      simp only[ow,VR] at vs
      obtain⟨a0,ea0⟩:=vs
      obtain⟨m,hm'⟩:=r.fresh 0
      simp only[List.length_nil,Nat.zero_add] at hbound
      obtain⟨v',w',E',e1,e2,e3,e4⟩:=pW (ty:=ty) hu ht rfl r hm' st hys hyc (by rw[List.length_map]; omega) (by rw[List.length_map]; omega) a0
      unfold Oper.wp
      rw[fI hop (by rw[ea0,vx]; exact e1)]
      obtain⟨h1,h2,_⟩:=eK (k:=(0,m)) (e':=.tok e 1 (((jJ st).map c).length*1)) i hk hi (.inr ⟨rfl,r.unused_none hm'⟩)
      refine hn _ _ _ E' _ e2 e3 e4 ?_
      rw[h1]
      rw[List.length_map] at h1 h2 ⊢
      exact k (some (0,m)) (λq=>by cases q) h2
    | some kk=>
      have hg:=bF i hk hi
      obtain⟨v',w',E',e1,e2,e3,e4⟩:=pX (ty:=ty) hu ht rfl r (xs:=xs.map c) (by rw[hg,List.length_map]) vs st hys hyc (by simp only[List.length_map]; omega) (by simp only[List.length_map]; omega)
      unfold Oper.wp
      rw[fI hop (by rw[vx]; exact e1)]
      obtain⟨h1,h2,_⟩:=eK (e':=.tok e 1 ((xs.map c++(jJ st).map c).length*1)) i hk hi (.inl rfl)
      refine hn _ _ _ E' _ e2 e3 (by show VR E' w' (.sl (some kk) 1 ((xs++jJ st).map c)) v'; rw[List.map_append]; exact e4) ?_
      rw[h1]
      rw[← List.map_append,List.length_map] at h1 h2 ⊢
      exact k (some kk) (λq=>by cases q) h2
end ops
section ops
variable {P:Program} {ops:Array Oper} {h h0:aA} {L:HL} {n:Nat} {kvs:KV} {l:List Oper} {ty:TypeId} {pos:String} {bV:Array Edge}
theorem fP {o:Oper} {x y:AV} (hx:cW P o x (fm n kvs) h) (le:aN h x y):cW P o y (fm n kvs) h:=by
 intro E w a r hv Nx Qx hn
 refine hx E w a r hv Nx Qx λx' v w' E' h' k r' vx kx=> ?_
 obtain⟨rfl,rfl⟩:=kx
 exact hn y v w' E' h' k r' (le E' w' v r' vx) ⟨rfl,rfl⟩
def oW (P:Program) (t:TypeId):Option (List Value×List (Nat×Nat)):=match P.info? t,P.underlying t with
 | some it,some (.array n e)=>match it.zero,P.info? e with
  | some z,some ie=>some (z.cells.toList,(List.range n).map λi=>(i*ie.size,ie.size))
  | _,_=>none
 | _,_=>none
theorem oX {f g:Nat→Option (Nat×Nat)} (hfg:∀i p,f i=some p→g i=some p):∀ {vs:List (Nat×Value)} {cur c:Array Value},Instr.fill f cur vs=some c→Instr.fill g cur vs=some c
 | [],cur,c,h=>h
 | (i,v)::r,cur,c,h=>by
  unfold Instr.fill at h ⊢
  cases e:f i with
  | none=>rw[e] at h; cases h
  | some p=>
   rw[hfg i p e]
   rw[e] at h
   obtain⟨off,sz⟩:=p
   simp only at h ⊢
   split at h
   ·cases h
   ·rename_i q
    rw[if_neg q]
    exact oX hfg h
theorem pY {dst:Option Tmp} {t:TypeId} {parts:Array (Nat×Operand)} {zs:List Value} {pl:List (Nat×Nat)} (cs:List AV) (hb:oW P t=some (zs,pl)) (hc:vM pl (zs.map .sc) (parts.toList.map λp=>(p.1,cB n kvs p.2))=some cs):
    cW P ⟨dst,.build t parts,ty,pos,bV,none⟩ (.agg cs) (fm n kvs) h:=by
  refine cO (x:=.agg cs) (λE w ac _ hv=> ?_) ⟨rfl,rfl⟩
  have hps:∀(l:List (Nat×Operand)),(∀p∈l,VR E w (ev (fm n kvs) p.2) (ac.eval p.2))→PL E w (l.map λp=>(p.1,cB n kvs p.2)) (l.map λp=>(p.1,ac.eval p.2)):=by
    intro l
    induction l with
    | nil=>intro _; exact .nil
    | cons p l ih=>
      intro hl
      refine .cons ?_ (ih λq hq=>hl q (by simp[hq]))
      have:=hl p (by simp)
      rwa [aO] at this
  have hall:∀p∈parts.toList,VR E w (ev (fm n kvs) p.2) (ac.eval p.2):=by
    intro p hp
    refine hv p.2 ?_
    simp only[Op.operands,Array.mem_def,List.mem_map]
    exact⟨p,hp,rfl⟩
  have hz:=jO (E:=E) (w:=w) zs
  obtain⟨cur',f1,f2⟩:=jU (cur:=zs.toArray) hc hz (hps _ hall)
  refine⟨.agg cur', ?_,by simp only[VR]; exact⟨_,rfl,f2⟩⟩
  have hbuilt:P.built t (parts.map λ(i,x)=>(i,ac.eval x)).toList=some cur':=by
    unfold oW at hb
    unfold Program.built
    cases hit:P.info? t with
    | none=>simp[hit] at hb
    | some it=>
      cases hu:P.underlying t with
      | none=>simp[hit,hu] at hb
      | some d=>
        cases d <;> try (simp[hit,hu] at hb; done)
        case array m e=>
          cases hzr:it.zero with
          | none=>simp[hit,hu,hzr] at hb
          | some z=>
            cases hp:P.info? e with
            | none=>simp[hit,hu,hzr,hp] at hb
            | some ie=>
              simp only[hit,hu,hzr,hp,Option.some.injEq,Prod.mk.injEq] at hb
              obtain⟨rfl,rfl⟩:=hb
              simp only[hzr,hp]
              have:(parts.map λ(i,x)=>(i,ac.eval x)).toList=parts.toList.map λp=>(p.1,ac.eval p.2):=by simp
              rw[this]
              refine oX (λi p hi=> ?_) (by simpa using f1)
              simp only[List.getElem?_toArray,List.getElem?_map,Option.map_eq_some_iff] at hi
              obtain⟨j,hj,rfl⟩:=hi
              have:=List.getElem?_eq_some_iff.1 hj
              obtain⟨_,rfl⟩:=this
              simp
  simp only[execOp,Sem.run_bind,run_build w t _ cur' hbuilt,Result.andThen_ok,Sem.run_pure]
end ops
def pick {α:Type} (σ:List Nat) (L:List α):List α:=σ.filterMap λi=>L[i]?
def mD (σ:List Nat) (n:Nat):List Nat:=(List.range n).filter λi=> !σ.contains i
theorem sS {α:Type} (L:List α):pick (List.range L.length) L=L:=by
 induction L with
 | nil=>rfl
 | cons x L ih=>
  unfold pick at ih ⊢
  rw[List.length_cons,List.range_succ_eq_map,List.filterMap_cons]
  simp only[List.getElem?_cons_zero,List.filterMap_map]
  exact congrArg (x::·) ih
theorem hP {α:Type} {L:List α} {σ:List Nat} (h:σ.isPerm (List.range L.length)=true):L.Perm (pick σ L):=by
 have:=((List.isPerm_iff.1 h).filterMap λi=>L[i]?).symm
 rwa [show (List.range L.length).filterMap (λi=>L[i]?)=L from sS L] at this
theorem eZ {h0:aA} {L:HL} (hk:aS h0 L) (σ:List Nat) (ho:(σ++mD σ L.length).isPerm (List.range L.length)=true):aS h0 (pick σ L)∧eO (hp h0 (pick σ L)) (hp h0 L):=by
 obtain⟨e,k⟩:=eI (hP ho) hk
 have e2:pick (σ++mD σ L.length) L=pick σ L++pick (mD σ L.length) L:=List.filterMap_append
 rw[e2] at e k
 have:=aW (L':=pick σ L) (List.sublist_append_left _ _) k
 exact⟨this.2,by rw[e]; exact this.1⟩
theorem FT.k2 {h:aA} {n:Nat} {f g:KV} {d0 d1:Nat} (hf:FT h n f g):FT h n f (kp (kp g d1 (lk n f d1)) d0 (lk n f d0)):=.cons (aN.refl _ _) (.cons (aN.refl _ _) hf)
theorem bS.k2 {h:aA} {x0 x1:AV} {xs ys:List AV} (hf:bS h xs ys):bS h (x0::x1::xs) (x0::x1::ys):=.cons (aN.refl _ _) (.cons (aN.refl _ _) hf)
theorem FT.k3 {h:aA} {n:Nat} {f g:KV} {d0 d1 d2:Nat} (hf:FT h n f g):FT h n f (kp (kp (kp g d2 (lk n f d2)) d1 (lk n f d1)) d0 (lk n f d0)):=.cons (aN.refl _ _) (.cons (aN.refl _ _) (.cons (aN.refl _ _) hf))
theorem bS.k3 {h:aA} {x0 x1 x2:AV} {xs ys:List AV} (hf:bS h xs ys):bS h (x0::x1::x2::xs) (x0::x1::x2::ys):=.cons (aN.refl _ _) (.cons (aN.refl _ _) (.cons (aN.refl _ _) hf))
theorem FT.k4 {h:aA} {n:Nat} {f g:KV} {d0 d1 d2 d3:Nat} (hf:FT h n f g):FT h n f (kp (kp (kp (kp g d3 (lk n f d3)) d2 (lk n f d2)) d1 (lk n f d1)) d0 (lk n f d0)):=.cons (aN.refl _ _) (.cons (aN.refl _ _) (.cons (aN.refl _ _) (.cons (aN.refl _ _) hf)))
theorem bS.k4 {h:aA} {x0 x1 x2 x3:AV} {xs ys:List AV} (hf:bS h xs ys):bS h (x0::x1::x2::x3::xs) (x0::x1::x2::x3::ys):=.cons (aN.refl _ _) (.cons (aN.refl _ _) (.cons (aN.refl _ _) (.cons (aN.refl _ _) hf)))
theorem FT.k5 {h:aA} {n:Nat} {f g:KV} {d0 d1 d2 d3 d4:Nat} (hf:FT h n f g):FT h n f (kp (kp (kp (kp (kp g d4 (lk n f d4)) d3 (lk n f d3)) d2 (lk n f d2)) d1 (lk n f d1)) d0 (lk n f d0)):=.cons (aN.refl _ _) (.cons (aN.refl _ _) (.cons (aN.refl _ _) (.cons (aN.refl _ _) (.cons (aN.refl _ _) hf))))
theorem bS.k5 {h:aA} {x0 x1 x2 x3 x4:AV} {xs ys:List AV} (hf:bS h xs ys):bS h (x0::x1::x2::x3::x4::xs) (x0::x1::x2::x3::x4::ys):=.cons (aN.refl _ _) (.cons (aN.refl _ _) (.cons (aN.refl _ _) (.cons (aN.refl _ _) (.cons (aN.refl _ _) hf))))
theorem FT.k6 {h:aA} {n:Nat} {f g:KV} {d0 d1 d2 d3 d4 d5:Nat} (hf:FT h n f g):FT h n f (kp (kp (kp (kp (kp (kp g d5 (lk n f d5)) d4 (lk n f d4)) d3 (lk n f d3)) d2 (lk n f d2)) d1 (lk n f d1)) d0 (lk n f d0)):=.cons (aN.refl _ _) (.cons (aN.refl _ _) (.cons (aN.refl _ _) (.cons (aN.refl _ _) (.cons (aN.refl _ _) (.cons (aN.refl _ _) hf)))))
theorem bS.k6 {h:aA} {x0 x1 x2 x3 x4 x5:AV} {xs ys:List AV} (hf:bS h xs ys):bS h (x0::x1::x2::x3::x4::x5::xs) (x0::x1::x2::x3::x4::x5::ys):=.cons (aN.refl _ _) (.cons (aN.refl _ _) (.cons (aN.refl _ _) (.cons (aN.refl _ _) (.cons (aN.refl _ _) (.cons (aN.refl _ _) hf)))))
theorem FT.k7 {h:aA} {n:Nat} {f g:KV} {d0 d1 d2 d3 d4 d5 d6:Nat} (hf:FT h n f g):FT h n f (kp (kp (kp (kp (kp (kp (kp g d6 (lk n f d6)) d5 (lk n f d5)) d4 (lk n f d4)) d3 (lk n f d3)) d2 (lk n f d2)) d1 (lk n f d1)) d0 (lk n f d0)):=.cons (aN.refl _ _) (.cons (aN.refl _ _) (.cons (aN.refl _ _) (.cons (aN.refl _ _) (.cons (aN.refl _ _) (.cons (aN.refl _ _) (.cons (aN.refl _ _) hf))))))
theorem bS.k7 {h:aA} {x0 x1 x2 x3 x4 x5 x6:AV} {xs ys:List AV} (hf:bS h xs ys):bS h (x0::x1::x2::x3::x4::x5::x6::xs) (x0::x1::x2::x3::x4::x5::x6::ys):=.cons (aN.refl _ _) (.cons (aN.refl _ _) (.cons (aN.refl _ _) (.cons (aN.refl _ _) (.cons (aN.refl _ _) (.cons (aN.refl _ _) (.cons (aN.refl _ _) hf))))))
theorem FT.k8 {h:aA} {n:Nat} {f g:KV} {d0 d1 d2 d3 d4 d5 d6 d7:Nat} (hf:FT h n f g):FT h n f (kp (kp (kp (kp (kp (kp (kp (kp g d7 (lk n f d7)) d6 (lk n f d6)) d5 (lk n f d5)) d4 (lk n f d4)) d3 (lk n f d3)) d2 (lk n f d2)) d1 (lk n f d1)) d0 (lk n f d0)):=.cons (aN.refl _ _) (.cons (aN.refl _ _) (.cons (aN.refl _ _) (.cons (aN.refl _ _) (.cons (aN.refl _ _) (.cons (aN.refl _ _) (.cons (aN.refl _ _) (.cons (aN.refl _ _) hf)))))))
theorem bS.k8 {h:aA} {x0 x1 x2 x3 x4 x5 x6 x7:AV} {xs ys:List AV} (hf:bS h xs ys):bS h (x0::x1::x2::x3::x4::x5::x6::x7::xs) (x0::x1::x2::x3::x4::x5::x6::x7::ys):=.cons (aN.refl _ _) (.cons (aN.refl _ _) (.cons (aN.refl _ _) (.cons (aN.refl _ _) (.cons (aN.refl _ _) (.cons (aN.refl _ _) (.cons (aN.refl _ _) (.cons (aN.refl _ _) hf)))))))
theorem FT.k9 {h:aA} {n:Nat} {f g:KV} {d0 d1 d2 d3 d4 d5 d6 d7 d8:Nat} (hf:FT h n f g):FT h n f (kp (kp (kp (kp (kp (kp (kp (kp (kp g d8 (lk n f d8)) d7 (lk n f d7)) d6 (lk n f d6)) d5 (lk n f d5)) d4 (lk n f d4)) d3 (lk n f d3)) d2 (lk n f d2)) d1 (lk n f d1)) d0 (lk n f d0)):=.cons (aN.refl _ _) (.cons (aN.refl _ _) (.cons (aN.refl _ _) (.cons (aN.refl _ _) (.cons (aN.refl _ _) (.cons (aN.refl _ _) (.cons (aN.refl _ _) (.cons (aN.refl _ _) (.cons (aN.refl _ _) hf))))))))
theorem bS.k9 {h:aA} {x0 x1 x2 x3 x4 x5 x6 x7 x8:AV} {xs ys:List AV} (hf:bS h xs ys):bS h (x0::x1::x2::x3::x4::x5::x6::x7::x8::xs) (x0::x1::x2::x3::x4::x5::x6::x7::x8::ys):=.cons (aN.refl _ _) (.cons (aN.refl _ _) (.cons (aN.refl _ _) (.cons (aN.refl _ _) (.cons (aN.refl _ _) (.cons (aN.refl _ _) (.cons (aN.refl _ _) (.cons (aN.refl _ _) (.cons (aN.refl _ _) hf))))))))
theorem FT.k10 {h:aA} {n:Nat} {f g:KV} {d0 d1 d2 d3 d4 d5 d6 d7 d8 d9:Nat} (hf:FT h n f g):FT h n f (kp (kp (kp (kp (kp (kp (kp (kp (kp (kp g d9 (lk n f d9)) d8 (lk n f d8)) d7 (lk n f d7)) d6 (lk n f d6)) d5 (lk n f d5)) d4 (lk n f d4)) d3 (lk n f d3)) d2 (lk n f d2)) d1 (lk n f d1)) d0 (lk n f d0)):=.cons (aN.refl _ _) (.cons (aN.refl _ _) (.cons (aN.refl _ _) (.cons (aN.refl _ _) (.cons (aN.refl _ _) (.cons (aN.refl _ _) (.cons (aN.refl _ _) (.cons (aN.refl _ _) (.cons (aN.refl _ _) (.cons (aN.refl _ _) hf)))))))))
theorem bS.k10 {h:aA} {x0 x1 x2 x3 x4 x5 x6 x7 x8 x9:AV} {xs ys:List AV} (hf:bS h xs ys):bS h (x0::x1::x2::x3::x4::x5::x6::x7::x8::x9::xs) (x0::x1::x2::x3::x4::x5::x6::x7::x8::x9::ys):=.cons (aN.refl _ _) (.cons (aN.refl _ _) (.cons (aN.refl _ _) (.cons (aN.refl _ _) (.cons (aN.refl _ _) (.cons (aN.refl _ _) (.cons (aN.refl _ _) (.cons (aN.refl _ _) (.cons (aN.refl _ _) (.cons (aN.refl _ _) hf)))))))))
theorem FT.k11 {h:aA} {n:Nat} {f g:KV} {d0 d1 d2 d3 d4 d5 d6 d7 d8 d9 d10:Nat} (hf:FT h n f g):FT h n f (kp (kp (kp (kp (kp (kp (kp (kp (kp (kp (kp g d10 (lk n f d10)) d9 (lk n f d9)) d8 (lk n f d8)) d7 (lk n f d7)) d6 (lk n f d6)) d5 (lk n f d5)) d4 (lk n f d4)) d3 (lk n f d3)) d2 (lk n f d2)) d1 (lk n f d1)) d0 (lk n f d0)):=.cons (aN.refl _ _) (.cons (aN.refl _ _) (.cons (aN.refl _ _) (.cons (aN.refl _ _) (.cons (aN.refl _ _) (.cons (aN.refl _ _) (.cons (aN.refl _ _) (.cons (aN.refl _ _) (.cons (aN.refl _ _) (.cons (aN.refl _ _) (.cons (aN.refl _ _) hf))))))))))
theorem bS.k11 {h:aA} {x0 x1 x2 x3 x4 x5 x6 x7 x8 x9 x10:AV} {xs ys:List AV} (hf:bS h xs ys):bS h (x0::x1::x2::x3::x4::x5::x6::x7::x8::x9::x10::xs) (x0::x1::x2::x3::x4::x5::x6::x7::x8::x9::x10::ys):=.cons (aN.refl _ _) (.cons (aN.refl _ _) (.cons (aN.refl _ _) (.cons (aN.refl _ _) (.cons (aN.refl _ _) (.cons (aN.refl _ _) (.cons (aN.refl _ _) (.cons (aN.refl _ _) (.cons (aN.refl _ _) (.cons (aN.refl _ _) (.cons (aN.refl _ _) hf))))))))))
section
variable {P:Program} {Q:Exit→Fr→aA→Prop} {h h':aA} {n:Nat}
end
section
variable {P:Program} {ops:Array Oper} {K:Fr→aA→Prop} {KQ:Fr→Prop} {h:aA} {n:Nat} {kvs:KV} {l:List Oper} {ty:TypeId} {pos:String} {bV:Array Edge} {d:Option Tmp} {a b c:Operand} {q:IntKind} {x y:Int} {z t u:Bool} {T U:TypeId} {xs:List (List AV)} {sz:Nat} {w:Option aY}
theorem vC (e:cB n kvs a= .sc (.int q x)) (k:dS P ops l K (fm n (fJ kvs d (.sc (.int q x)))) h):dS P ops (⟨d,.assign a,ty,pos,bV,none⟩::l) K (fm n kvs) h:=kB (eW (.sc (.int q x)) e) k
theorem vE (e:cB n kvs a= .sl w sz xs) (k:dS P ops l K (fm n (fJ kvs d (.sl w sz xs))) h):dS P ops (⟨d,.move a,ty,pos,bV,none⟩::l) K (fm n kvs) h:=kB (gG (.sl w sz xs) e) k
end
theorem eQ.s {n:Nat} {f g:KV} {h:aA} (hf:FT h n f g):eQ (Vm.fm n g) h (Vm.fm n f) h:=eQ.fm (eO.refl _) hf
theorem F7 {P:Program} {Q:Exit→Fr→aA→Prop} {fr:Fr} {h:aA} {id:Nat} {l:List Oper} (hm:P.follows .mixedOrders=true) (h2:rF 0 (l.map (mI l.toArray))=true)
    (hl:cR P l.toArray h (λfr'=>Q .normal fr' h) l fr):AW P (.region id l.toArray true) Q fr h:=rG _ hm rfl h2 hl
section
variable {P:Program} {ops:Array Oper} {K:Fr→aA→Prop} {fs:List (Nat×Option aY×dX)} {h:aA} {n:Nat} {kvs:KV} {ty:TypeId} {pos:String} {aft':Array Edge}
theorem FA {f:Nat} {S:Array Bool} (i:Nat) {dst:Option Tmp} {op:Op} {x:AV} (hi:ops[i]? =some ⟨dst,op,ty,pos,aft',none⟩)
    (ho:∀S' h',eF fs S' h'→(∀j,bV ops i j=true→S'.getD j false=false)→cW P ⟨dst,op,ty,pos,aft',none⟩ x (fm n kvs) h')
    (k:kL P ops fs K f (S.setIfInBounds i true) (fm n (fJ kvs dst x)) h) (hz:zq ops S i=true:=by kernel_rfl) (hn:(fs.all λq=>q.1 !=i)=true:=by rfl):kL P ops fs K (f+1) S (fm n kvs) h:=CV i hi hz hn ho k
end
theorem cX {α:Type} {a b:α} (h:some a=some b):a=b:=Option.some.inj h
section
variable {P:Program} {ops:Array Oper} {K:Fr→aA→Prop} {fs:List (Nat×Option aY×dX)} {h:aA} {n f:Nat} {kvs:KV} {ty:TypeId} {pos:String} {aft':Array Edge} {S:Array Bool} {dst:Option Tmp} {op:Op} {x:AV}
theorem zC (i:Nat) (hi:ops[i]? =some ⟨dst,op,ty,pos,aft',none⟩) (ho:∀ {h'},cW P ⟨dst,op,ty,pos,aft',none⟩ x (fm n kvs) h') (k:kL P ops fs K f (S.setIfInBounds i true) (fm n (fJ kvs dst x)) h) (hz:zq ops S i=true:=by kernel_rfl) (hn:(fs.all λq=>q.1 !=i)=true:=by rfl):kL P ops fs K (f+1) S (fm n kvs) h:=CV i hi hz hn (λ_ _ _ _=>ho) k
theorem zF {a:Operand} {t:TypeId} {g:Nat} {q:aY} {off o s:Nat} (i:Nat) (hi:ops[i]? =some ⟨dst,.fieldAddr t a g,ty,pos,aft',none⟩) (hf:iQ P t g=some (o,s)) (ha:cB n kvs a= .ptr q off) (k:kL P ops fs K f (S.setIfInBounds i true) (fm n (fJ kvs dst (.ptr q (off+o)))) h) (hs:Nat.beq s 0=false:=by rfl) (hz:zq ops S i=true:=by kernel_rfl) (hn:(fs.all λq=>q.1 !=i)=true:=by rfl):kL P ops fs K (f+1) S (fm n kvs) h:=CV i hi hz hn (λ_ _ _ _=>wW hf hs ha) k
theorem zL {a:Operand} {t:TypeId} {q:aY} {off:Nat} {oty:TypeId} {cs:List AV} {ag:Bool} {m b:Nat} (i p:Nat) (x:AV) (hi:ops[i]? =some ⟨dst,.load t a,ty,pos,aft',none⟩) (ht:h9 P t=some (ag,m)) (ha:cB n kvs a= .ptr q off) (hp:fs[p]? =some (b,some q,.obj oty cs)) (hx:uA ag m (cs.drop off)=some x) (k:kL P ops fs K f (S.setIfInBounds i true) (fm n (fJ kvs dst x)) h) (hb:bV ops i b=true:=by kernel_rfl) (hz:zq ops S i=true:=by kernel_rfl) (hn:(fs.all λq=>q.1 !=i)=true:=by rfl):kL P ops fs K (f+1) S (fm n kvs) h:=CV i hi hz hn (λ_ _ hi' hB=>rE x ht ha (At.s (eF.get p hi' hp (hB b hb))) hx) k
theorem zI {a:Operand} {q:IntKind} {v:Int} (i:Nat) (hi:ops[i]? =some ⟨dst,.move a,ty,pos,aft',none⟩) (ha:cB n kvs a= .sc (.int q v)) (k:kL P ops fs K f (S.setIfInBounds i true) (fm n (fJ kvs dst (.sc (.int q v)))) h) (hz:zq ops S i=true:=by kernel_rfl) (hn:(fs.all λq=>q.1 !=i)=true:=by rfl):kL P ops fs K (f+1) S (fm n kvs) h:=CV i hi hz hn (λ_ _ _ _=>gG _ ha) k
theorem zP {a:Operand} {q:aY} {v:Nat} (i:Nat) (hi:ops[i]? =some ⟨dst,.move a,ty,pos,aft',none⟩) (ha:cB n kvs a= .ptr q v) (k:kL P ops fs K f (S.setIfInBounds i true) (fm n (fJ kvs dst (.ptr q v))) h) (hz:zq ops S i=true:=by kernel_rfl) (hn:(fs.all λq=>q.1 !=i)=true:=by rfl):kL P ops fs K (f+1) S (fm n kvs) h:=CV i hi hz hn (λ_ _ _ _=>gG _ ha) k
theorem zN {a:Operand} {q:aY} {v:Nat} (i:Nat) (hi:ops[i]? =some ⟨dst,.nilCheck a,ty,pos,aft',none⟩) (ha:cB n kvs a= .ptr q v) (k:kL P ops fs K f (S.setIfInBounds i true) (fm n (fJ kvs dst (.ptr q v))) h) (hz:zq ops S i=true:=by kernel_rfl) (hn:(fs.all λq=>q.1 !=i)=true:=by rfl):kL P ops fs K (f+1) S (fm n kvs) h:=CV i hi hz hn (λ_ _ _ _=>w6 ha) k
theorem zE (i:Nat) (hi:ops[i]? =some ⟨dst,op,ty,pos,aft',none⟩) (ho:eD P ⟨dst,op,ty,pos,aft',none⟩ (λx h'=>eF fs (S.setIfInBounds i true) h'∧kL P ops fs K f (S.setIfInBounds i true) (fm n (fJ kvs dst x)) h') (fm n kvs) h) (hz:Region.ready .any ops S= [i]:=by kernel_rfl):kL P ops fs K (f+1) S (fm n kvs) h:=PK i hi hz ho
theorem zX (hk:K (fm n kvs) h) (hz:Region.ready .any ops S= []:=by kernel_rfl):kL P ops fs K f S (fm n kvs) h:=F0 hz hk
end
inductive Tr (α:Type) where
 | nil
 | node (k:Nat) (v:α) (l r:Tr α)
def Tr.find {α:Type}:Tr α→Nat→Option α
 | .nil,_=>none
 | .node k v l r,q=>bif Nat.beq q k then some v else bif Nat.blt q k then l.find q else r.find q
def Tr.all {α:Type} (p:Nat→α→Bool):Tr α→Bool
 | .nil=>true
 | .node k v l r=>p k v && l.all p && r.all p
theorem Tr.find_all {α:Type} {p:Nat→α→Bool} {q:Nat} {i:α}:∀ {t:Tr α},t.all p=true→t.find q=some i→p q i=true
 | .nil,_,h=>by cases h
 | .node k v l r,ha,h=>by
  simp only[Tr.all,Bool.and_eq_true] at ha
  simp only[Tr.find] at h
  cases e:Nat.beq q k
  ·rw[e] at h
   cases e2:Nat.blt q k
   ·rw[e2] at h; exact find_all ha.2 h
   ·rw[e2] at h; exact find_all ha.1.2 h
  ·rw[e] at h
   cases h
   have:=Nat.eq_of_beq_eq_true e
   subst this
   exact ha.1.1
structure TI where
 ld:Option (Bool×Nat)
 ti:Option IntKind
 fs:List Nat
def AX (P:Program) (q:Nat) (i:TI):Bool:=
 (match i.ld with | none=>true | some x=>h9 P q==some x) && (match i.ti with | none=>true | some k=>decide (n0 P q=some k)) &&
 (List.range i.fs.length).all λf=>match i.fs[f]?,iQ P q f with | some o,some (o',s)=>o==o' && s !=0 | _,_=>false
def sU (P:Program) (T:Tr TI):Prop:=T.all (AX P)=true
theorem sU.nil (P:Program):sU P .nil:=rfl
section
variable {P:Program} {T:Tr TI}
theorem sU.ld (hT:sU P T) {t:Nat} {i:TI} (hi:T.find t=some i) {x:Bool×Nat} (hx:i.ld=some x):h9 P t=some x:=by
 have:=Tr.find_all hT hi
 simp only[AX,Bool.and_eq_true,hx] at this
 exact beq_iff_eq.1 this.1.1
theorem sU.ti (hT:sU P T) {t:Nat} {i:TI} (hi:T.find t=some i) {k:IntKind} (hx:i.ti=some k):n0 P t=some k:=by
 have:=Tr.find_all hT hi
 simp only[AX,Bool.and_eq_true,hx] at this
 exact of_decide_eq_true this.1.2
theorem sU.fs (hT:sU P T) {t f o:Nat} {i:TI} (hi:T.find t=some i) (hx:i.fs[f]? =some o):∃s,iQ P t f=some (o,s)∧s≠0:=by
 have:=Tr.find_all hT hi
 simp only[AX,Bool.and_eq_true,List.all_eq_true,List.mem_range] at this
 have h1:=this.2 f (List.getElem?_eq_some_iff.1 hx).1
 rw[hx] at h1
 cases hf:iQ P t f with
 | none=>rw[hf] at h1; cases h1
 | some y=>
  rw[hf] at h1
  simp only[Bool.and_eq_true,beq_iff_eq,bne_iff_ne,ne_eq] at h1
  exact⟨y.2,by rw[h1.1],h1.2⟩
end
def wD (b:Bool) (X Y:Prop):Prop:=match b with | true=>X | false=>Y
def C2 (b:Bool) (X Y:Prop):Prop:=match b with | true=>X | false=>Y
inductive FR where
 | nil
 | c (d:Nat) (x:AV) (r:FR)
def FR.k:FR→KV
 | .nil=>k0
 | .c d x r=>kp r.k d x
def FR.put (f:FR) (d:Option Tmp) (x:AV):FR:=match d with | some d=>.c d x f | none=>f
theorem FR.put_k (f:FR) (d:Option Tmp) (x:AV):(f.put d x).k=fJ f.k d x:=by cases d <;> rfl
def FR.find (f:FR) (t:Nat) (K:AV→Prop):Prop:=match f with
 | .nil=>K .any
 | .c d x r=>C2 (Nat.beq d t) (K x) (r.find t K)
theorem FR.find_eq (t:Nat) (K:AV→Prop):∀f:FR,f.find t K=K (f.k t)
 | .nil=>rfl
 | .c d x r=>by
  simp only[FR.find,FR.k,kp]
  cases Nat.beq d t
  ·exact FR.find_eq t K r
  ·rfl
def JE (n:Nat) (f:FR) (t:Nat) (K:AV→Prop):Prop:=C2 (Nat.blt t n) (f.find t K) (K .any)
theorem sV (n:Nat) (f:FR) (t:Nat) (K:AV→Prop):JE n f t K=K (lk n f.k t):=by
 unfold JE lk
 cases Nat.blt t n
 ·rfl
 ·exact FR.find_eq t K f
def sD (n:Nat) (f:FR) (a:Operand) (K:AV→Prop):Prop:=match a with
 | .tmp t=>JE n f t K
 | .const v=>K (cv v)
 | .global _=>K .any
 | .func f=>K (.fn (.func f) [])
theorem fQ (n:Nat) (f:FR) (a:Operand) (K:AV→Prop):sD n f a K=K (cB n f.k a):=by
 cases a <;> first | rfl | exact sV n f _ K
def JF (op:BinOp) (k:IntKind) (a b:Int):Option Value:=
 match op with
 | .add=>some (.int k (k.wrap (a+b)))
 | .sub=>some (.int k (k.wrap (a - b)))
 | .mul=>some (.int k (k.wrap (a*b)))
 | .and=>some (.int k (mY .and k a b))
 | .or=>some (.int k (mY .or k a b))
 | .xor=>some (.int k (mY .xor k a b))
 | .eql=>some (.bool (a==b))
 | .neq=>some (.bool (a !=b))
 | .lss=>some (.bool (decide (a < b)))
 | .leq=>some (.bool (decide (a≤b)))
 | .gtr=>some (.bool (decide (b < a)))
 | .geq=>some (.bool (decide (b≤a)))
 | _=>none
def C3 (op:BinOp) (q:IntKind) (x:Int) (r:IntKind) (y:Int) (K:AV→Prop) (E:Prop):Prop:=
 match op with
 | .shl=>wD (decide (0≤y)) (K (.sc (.int q (q.wrap (x*2 ^ (min y.toNat q.bits)))))) False
 | .shr=>wD (decide (0≤y)) (K (.sc (.int q (x.fdiv (2 ^ (min y.toNat q.bits)))))) False
 | .quo=>C2 (decide (q=r)) (wD (y !=0) (K (.sc (.int q (q.wrap (x.tdiv y))))) False) E
 | .rem=>C2 (decide (q=r)) (wD (y !=0) (K (.sc (.int q (x.tmod y)))) False) E
 | op=>C2 (decide (q=r)) (match JF op q x y with | some v=>K (.sc v) | none=>E) E
def N1 (op:BinOp) (K:AV→Prop) (E:Prop):AV→AV→Prop
 | .sc (.int q x),.sc (.int r y)=>C3 op q x r y K E
 | _,_=>E
def JG (X Y:Prop):AV→Prop
 | .sc (.bool b)=>wD b X Y
 | _=>False
def N2 (K:AV→Prop) (E:Prop):AV→Prop
 | .sc (.bool b)=>K (.sc (.bool (!b)))
 | _=>E
def N3 (K:AV→Prop) (E:Prop):AV→Prop
 | .sc (.int q x)=>K (.sc (.int q (q.wrap (0 - x))))
 | _=>E
def N4 (a b:Option TI) (K:AV→Prop) (E:Prop):AV→Prop
 | .sc (.int _ x)=>match a.bind TI.ti,b.bind TI.ti with
  | some _,some r=>K (.sc (.int r (r.wrap x)))
  | _,_=>E
 | _=>E
def N5 (i:Nat) (K:AV→Prop):AV→Prop
 | .tup xs=>match xs[i]? with | some x=>K x | none=>False
 | _=>False
def N6 (a:Bool) (o:Option Nat) (x:AV) (K:AV→Prop) (E:Prop):Prop:=match a,o with
 | true,_=>E
 | _,none=>E
 | false,some o=>match x with
  | .rp t cs=>K (.rp t (cs.drop o))
  | .ptr q f=>K (.ptr q (f+o))
  | _=>E
def N7 (a:Bool) (o:Option (Bool×Nat)) (x:AV) (K:AV→Prop) (E:Prop):Prop:=match a,o with
 | false,some (false,_)=>match x with
  | .rp _ cs=>match cs.head? with | some y=>K y | none=>False
  | _=>E
 | _,_=>E
def N8 (a:Bool) (x:AV) (K:AV→Prop) (E:Prop):Prop:=match a with
 | true=>E
 | false=>match x with
  | .ptr q f=>K (.ptr q f)
  | .rp t cs=>K (.rp t cs)
  | _=>E
def N9 (T:Tr TI) (t f:Nat):Option Nat:=(T.find t).bind λi=>i.fs[f]?
def vv (T:Tr TI) (w:Bool) (n:Nat) (f:FR) (op:Op) (K:AV→Prop) (E:Prop):Prop:=
 match op with
 | .move a=>sD n f a K
 | .assign a=>sD n f a K
 | .pick c a b=>sD n f c (JG (sD n f a K) (sD n f b K))
 | .binOp op _ a b _=>sD n f a λx=>sD n f b λy=>N1 op K E x y
 | .unOp .not _ a=>sD n f a (N2 K E)
 | .unOp .neg _ a=>sD n f a (N3 K E)
 | .convert t u a=>sD n f a (N4 (T.find t) (T.find u) K E)
 | .extract a i=>sD n f a (N5 i K)
 | .fieldAddr t a g=>sD n f a λx=>N6 w (N9 T t g) x K E
 | .load t a=>sD n f a λx=>N7 w ((T.find t).bind TI.ld) x K E
 | .nilCheck a=>sD n f a λx=>N8 w x K E
 | .makeFunc fn first caps=>C2 (Nat.beq first.size 0) (K (.fn fn (caps.toList.map (cB n f.k)))) E
 | _=>E
theorem gZ {b:Bool} {X Y:Prop} (h:wD b X Y):(b=true∧X)∨(b=false∧Y):=by
 cases b
 ·exact .inr ⟨rfl,h⟩
 ·exact .inl ⟨rfl,h⟩
theorem pZ {b:Bool} {X Y:Prop} (h:C2 b X Y):(b=true∧X)∨(b=false∧Y):=by
 cases b
 ·exact .inr ⟨rfl,h⟩
 ·exact .inl ⟨rfl,h⟩
theorem C4 {op:BinOp} {k:IntKind} {a b:Int} {v:Value} (h:JF op k a b=some v):ib op k a b=some (True,v)∧op≠ .shl∧op≠ .shr:=by
 cases op <;> simp only[JF,Option.some.injEq,reduceCtorEq] at h <;> subst h <;> exact⟨rfl,nofun,nofun⟩
theorem C5 {op:BinOp} {k:IntKind} {a b:Int} {v:Value} (h:JF op k a b=some v):bv op (.sc (.int k a)) (.sc (.int k b))=some (True,v):=by
 obtain⟨h1,h2,h3⟩:=C4 h
 cases op <;> first | exact absurd rfl h2 | exact absurd rfl h3 | (simp only[bv,if_true]; exact h1)
section
variable {P:Program} {T:Tr TI} {h:aA} {n:Nat} {f:FR} {K:AV→Prop} {E:Prop}
def PV (P:Program) (h:aA) (n:Nat) (f:FR) (op:Op) (K:AV→Prop):Prop:=∃x,(∃c,pv P h (fm n f.k) op=some (c,x)∧c)∧K x
theorem PV.mk {op:Op} {x:AV} (c:Prop) (hp:pv P h (fm n f.k) op=some (c,x)) (hc:c) (k:K x):PV P h n f op K:=⟨x,⟨c,hp,hc⟩,k⟩
theorem sW {op:BinOp} {q r:IntKind} {x y:Int} (hv:C3 op q x r y K E):(∃c v,bv op (.sc (.int q x)) (.sc (.int r y))=some (c,v)∧c∧K (.sc v))∨E:=by
 unfold C3 at hv
 split at hv
 ·rcases gZ hv with⟨h1,h2⟩ | ⟨_,h2⟩
  ·exact .inl ⟨_,_,rfl,of_decide_eq_true h1,h2⟩
  ·exact h2.elim
 ·rcases gZ hv with⟨h1,h2⟩ | ⟨_,h2⟩
  ·exact .inl ⟨_,_,rfl,of_decide_eq_true h1,h2⟩
  ·exact h2.elim
 ·rcases pZ hv with⟨h1,h2⟩ | ⟨_,h2⟩
  ·have:=of_decide_eq_true h1; subst this
   rcases gZ h2 with⟨h3,h4⟩ | ⟨_,h4⟩
   ·exact .inl ⟨y≠0,_,by simp only[bv,if_true,ib],by simpa using h3,h4⟩
   ·exact h4.elim
  ·exact .inr h2
 ·rcases pZ hv with⟨h1,h2⟩ | ⟨_,h2⟩
  ·have:=of_decide_eq_true h1; subst this
   rcases gZ h2 with⟨h3,h4⟩ | ⟨_,h4⟩
   ·exact .inl ⟨y≠0,_,by simp only[bv,if_true,ib],by simpa using h3,h4⟩
   ·exact h4.elim
  ·exact .inr h2
 ·rcases pZ hv with⟨h1,h2⟩ | ⟨_,h2⟩
  ·have:=of_decide_eq_true h1; subst this
   split at h2
   ·rename_i v hv; exact .inl ⟨True,v,C5 hv,trivial,h2⟩
   ·exact .inr h2
  ·exact .inr h2
theorem rM (hT:sU P T) {w:Bool} {op:Op} (hv:vv T w n f op K E):PV P h n f op K∨E:=by
 unfold vv at hv
 split at hv
 ·rename_i a; rw[fQ] at hv; exact .inl (.mk True (by simp only[pv,aO]) trivial hv)
 ·rename_i a; rw[fQ] at hv; exact .inl (.mk True (by simp only[pv,aO]) trivial hv)
 ·rename_i c a b
  simp only[fQ] at hv
  unfold JG at hv
  split at hv
  ·rename_i t hc
   rcases gZ hv with⟨h1,h2⟩ | ⟨h1,h2⟩ <;> subst h1 <;> exact .inl (.mk True (by simp only[pv,aO,hc,JC,pk,Option.map_some,tt]) trivial h2)
  ·exact hv.elim
 ·rename_i op t a b u
  simp only[fQ] at hv
  unfold N1 at hv
  split at hv
  ·rename_i q x r y ha hb
   rcases sW hv with⟨c,v,h1,h2,h3⟩ | hE
   ·exact .inl (.mk c (by simp only[pv,aO,ha,hb,h1,Option.map_some]) h2 h3)
   ·exact .inr hE
  ·exact .inr hv
 ·rename_i t a
  simp only[fQ] at hv
  unfold N2 at hv
  split at hv
  ·rename_i b ha; exact .inl (.mk True (by simp only[pv,aO,ha,FK,Option.map_some,tt]) trivial hv)
  ·exact .inr hv
 ·rename_i t a
  simp only[fQ] at hv
  unfold N3 at hv
  split at hv
  ·rename_i q x ha; exact .inl (.mk True (by simp only[pv,aO,ha,FK,Option.map_some,tt]) trivial hv)
  ·exact .inr hv
 ·rename_i t u a
  simp only[fQ] at hv
  unfold N4 at hv
  split at hv
  ·rename_i q x ha
   split at hv
   ·rename_i k r h1 h2
    rw[Option.bind_eq_some_iff] at h1 h2
    obtain⟨i1,a1,b1⟩:=h1
    obtain⟨i2,a2,b2⟩:=h2
    have e1:=hT.ti a1 b1
    have e2:=hT.ti a2 b2
    exact .inl (.mk True (by simp only[pv,aO,ha,e1,e2,FL,Option.map_some,Option.bind_some,tt]) trivial hv)
   ·exact .inr hv
  ·exact .inr hv
 ·rename_i a i
  simp only[fQ] at hv
  unfold N5 at hv
  split at hv
  ·rename_i xs ha
   split at hv
   ·rename_i x hx
    exact .inl (.mk True (by simp only[pv,aO,ha,FM,hx,Option.map_some,tt]) trivial hv)
   ·exact hv.elim
  ·exact hv.elim
 ·rename_i t a g
  simp only[fQ] at hv
  unfold N6 N9 at hv
  split at hv
  ·exact .inr hv
  ·exact .inr hv
  ·rename_i o ho
   rw[Option.bind_eq_some_iff] at ho
   obtain⟨i,a1,b1⟩:=ho
   obtain⟨s,e1,e2⟩:=hT.fs a1 b1
   split at hv
   ·rename_i tg cs ha; exact .inl (.mk True (by simp only[pv,aO,ha,e1,Option.bind_some,e2,if_false,AF,Option.map_some,tt]) trivial hv)
   ·rename_i q off ha; exact .inl (.mk True (by simp only[pv,aO,ha,e1,Option.bind_some,e2,if_false,AF,Option.map_some,tt]) trivial hv)
   ·exact .inr hv
 ·rename_i t a
  simp only[fQ] at hv
  unfold N7 at hv
  split at hv
  ·rename_i m ho
   rw[Option.bind_eq_some_iff] at ho
   obtain⟨i,a1,b1⟩:=ho
   have e1:=hT.ld a1 b1
   split at hv
   ·rename_i tg cs ha
    split at hv
    ·rename_i y hy
     exact .inl (.mk True (by simp only[pv,aO,ha,e1,Option.bind_some,wL,uA,hy,Option.map_some,tt]) trivial hv)
    ·exact hv.elim
   ·exact .inr hv
  ·exact .inr hv
 ·rename_i a
  simp only[fQ] at hv
  unfold N8 at hv
  split at hv
  ·exact .inr hv
  ·split at hv
   ·rename_i q off ha; exact .inl (.mk True (by simp only[pv,aO,ha,u7,Option.map_some,tt]) trivial hv)
   ·rename_i tg cs ha; exact .inl (.mk True (by simp only[pv,aO,ha,u7,Option.map_some,tt]) trivial hv)
   ·exact .inr hv
 ·rename_i fn first caps
  rcases pZ hv with⟨h1,h2⟩ | ⟨_,h2⟩
  ·have h1:=Nat.eq_of_beq_eq_true h1
   refine .inl (.mk True ?_ trivial h2)
   have e:caps.toList.map (ev (fm n f.k))=caps.toList.map (cB n f.k):=List.map_congr_left λo _=>aO n f.k o
   simp only[pv,h1,if_true,e]
  ·exact .inr h2
 ·exact .inr hv
end
def QK (h:aA) (n:Nat) (K:FR→HL→Prop) (fr:Fr) (hh:aA):Prop:=∃f L,aS h L∧eQ (fm n f.k) (hp h L) fr hh∧K f L
theorem eQ.rfl' {fr:Fr} {h:aA}:eQ fr h fr h:=eQ.eqh rfl
structure VN (q:Bool) (P:Program) (h:aA) (n:Nat) (o:Oper) (K:FR→HL→Prop) (f:FR) (L:HL):Prop where
 v:q=true→aS h L→∃x,cW P o x (fm n f.k) (hp h L)∧K (f.put o.dst x) L
 e:q=false→aS h L→eD P o (λx h'=>QK h n K (fm n (f.put o.dst x).k) h') (fm n f.k) (hp h L)
def gd (_:Nat) (w:Bool) (X Y:FR→Prop) (f:FR) (b:Bool):Prop:=match w with
 | true=>wD b (X f) (Y f)
 | false=>wD b (Y f) (X f)
def JV (d:Nat) (w:Bool) (X Y:FR→Prop) (f:FR):AV→Prop
 | .sc (.bool b)=>gd d w X Y f b
 | .sc (.tuple _)=>Y f
 | _=>False
def JW (l0:List Oper) (n:Nat) (g:Option (Nat×Bool)) (X Y:FR→Prop) (f:FR):Prop:=match g with
 | none=>X f
 | some (j,w)=>match (l0[j]?).bind (·.dst) with
  | some d=>JE n f d (JV d w X Y f)
  | none=>False
def vo (q:Bool) (T:Tr TI) (w:Bool) (P:Program) (h:aA) (n:Nat) (l0:List Oper) (K:FR→HL→Prop):List Oper→FR→HL→Prop
  | [],f,L=>K f L
  | ⟨d,op,ty,pos,bV,g⟩::l,f,L=>JW l0 n g
      (λf=>vv T w n f op (λx=>vo q T w P h n l0 K l (f.put d x) L) (VN q P h n ⟨d,op,ty,pos,bV,none⟩ (vo q T w P h n l0 K l) f L))
      (λf=>vo q T w P h n l0 K l (f.put d (.sc undef)) L) f
section
variable {P:Program} {T:Tr TI} {w:Bool} {h:aA} {n:Nat} {l0:List Oper} {K:FR→HL→Prop}
theorem C6 (hT:sU P T):∀(l:List Oper) (f:FR) (L:HL),vo false T w P h n l0 K l f L→aS h L→dS P l0.toArray l (QK h n K) (fm n f.k) (hp h L)
 | [],f,L,hv,hk=>qY ⟨f,L,hk,eQ.rfl',hv⟩
 | ⟨d,op,ty,pos,bV,g⟩::l,f,L,hv,hk=>by
  have ih:∀(f:FR) (d:Option Tmp) (x:AV) (L:HL),vo false T w P h n l0 K l (f.put d x) L→aS h L→dS P l0.toArray l (QK h n K) (fm n (fJ f.k d x)) (hp h L):=λf d x L a b=>by
   rw[← FR.put_k]; exact C6 hT l _ _ a b
  have main:∀f,vv T w n f op (λx=>vo false T w P h n l0 K l (f.put d x) L) (VN false P h n ⟨d,op,ty,pos,bV,none⟩ (vo false T w P h n l0 K l) f L)→dS P l0.toArray (⟨d,op,ty,pos,bV,none⟩::l) (QK h n K) (fm n f.k) (hp h L):=by
   intro f hv
   rcases rM (h:=hp h L) hT hv with⟨x,⟨c,hp,hc⟩,k⟩ | hE
   ·exact kB (g9 hp hc) (ih _ _ _ _ k hk)
   ·refine fK ((hE.e rfl hk).mono ?_)
    intro x h' q
    rw[FR.put_k] at q
    obtain⟨f',L',hk',le,k⟩:=q
    exact le.aops (C6 hT l _ _ k hk')
  unfold vo JW at hv
  split at hv
  ·exact main f hv
  ·rename_i j w'
   split at hv
   ·rename_i dj hd
    have hd':(l0.toArray[j]?).bind (·.dst)=some dj:=by simpa using hd
    rw[sV] at hv
    unfold JV at hv
    split at hv
    ·rename_i b hu
     unfold gd at hv
     split at hv
     ·rcases gZ hv with⟨h1,h2⟩ | ⟨h1,h2⟩
      ·exact FP hd' hu h1 (main f h2)
      ·exact FQ hd' hu h1 (ih _ _ _ _ h2 hk)
     ·rcases gZ hv with⟨h1,h2⟩ | ⟨h1,h2⟩
      ·exact FQ hd' hu h1 (ih _ _ _ _ h2 hk)
      ·exact FP hd' hu h1 (main f h2)
    ·rename_i vs hu; exact JR hd' hu (ih _ _ _ _ hv hk)
    ·exact hv.elim
   ·exact hv.elim
theorem F8 (hT:sU P T):∀(l:List Oper) (f:FR) (L:HL),vo true T w P h n l0 K l f L→aS h L→cR P l0.toArray (hp h L) (λfr=>∃f,fr=fm n f.k∧K f L) l (fm n f.k)
 | [],f,L,hv,hk=>⟨f,rfl,hv⟩
 | ⟨d,op,ty,pos,bV,g⟩::l,f,L,hv,hk=>by
  have ih:∀(f:FR) (d:Option Tmp) (x:AV) (L:HL),vo true T w P h n l0 K l (f.put d x) L→aS h L→cR P l0.toArray (hp h L) (λfr=>∃f:FR,fr=fm n f.k∧K f L) l (fm n (fJ f.k d x)):=λf d x L a b=>by
   rw[← FR.put_k]; exact F8 hT l _ _ a b
  have main:∀f,vv T w n f op (λx=>vo true T w P h n l0 K l (f.put d x) L) (VN true P h n ⟨d,op,ty,pos,bV,none⟩ (vo true T w P h n l0 K l) f L)→cR P l0.toArray (hp h L) (λfr=>∃f,fr=fm n f.k∧K f L) (⟨d,op,ty,pos,bV,none⟩::l) (fm n f.k):=by
   intro f hv
   rcases rM (h:=hp h L) hT hv with⟨x,⟨c,hp,hc⟩,k⟩ | hE
   ·exact N0 (g9 hp hc) (ih _ _ _ _ k hk)
   ·obtain⟨x,ho,k⟩:=hE.v rfl hk
    exact N0 ho (ih _ _ _ _ k hk)
  unfold vo JW at hv
  split at hv
  ·exact main f hv
  ·rename_i j w'
   split at hv
   ·rename_i dj hd
    have hd':(l0.toArray[j]?).bind (·.dst)=some dj:=by simpa using hd
    rw[sV] at hv
    unfold JV at hv
    split at hv
    ·rename_i b hu
     unfold gd at hv
     split at hv
     ·rcases gZ hv with⟨h1,h2⟩ | ⟨h1,h2⟩
      ·exact Fq hd' hu h1 (main f h2)
      ·exact FU hd' hu h1 (ih _ _ _ _ h2 hk)
     ·rcases gZ hv with⟨h1,h2⟩ | ⟨h1,h2⟩
      ·exact FU hd' hu h1 (ih _ _ _ _ h2 hk)
      ·exact Fq hd' hu h1 (main f h2)
    ·rename_i vs hu; exact JS hd' hu (ih _ _ _ _ hv hk)
    ·exact hv.elim
   ·exact hv.elim
end
def QQ (h:aA) (n:Nat) (kn:FR→HL→Prop) (ke:Exit→FR→HL→Prop) (e:Exit):Fr→aA→Prop:=QK h n (match e with | .normal=>kn | e=>ke e)
structure VC (P:Program) (h:aA) (n:Nat) (c:Code) (kn:FR→HL→Prop) (ke:Exit→FR→HL→Prop) (f:FR) (L:HL):Prop where
 r:aS h L→AW P c (QQ h n kn ke) (fm n f.k) (hp h L)
structure VD (P:Program) (h:aA) (n:Nat) (id:Nat) (ops:Array Oper) (kn:FR→HL→Prop) (f:FR) (L:HL):Prop where
 r:aS h L→AW P (.region id ops true) (λe fr hh=>e= .normal∧QK h n kn fr hh) (fm n f.k) (hp h L)
def OA (id:Nat) (kn:FR→HL→Prop) (ke:Exit→FR→HL→Prop):Exit→FR→HL→Prop
 | .exit i=>bif Nat.beq i id then kn else ke (.exit i)
 | e=>ke e
def vc (T:Tr TI) (w:Bool) (P:Program) (h:aA) (n:Nat):Code→(FR→HL→Prop)→(Exit→FR→HL→Prop)→FR→HL→Prop
 | .skip,kn,_,f,L=>kn f L
 | .region id ops z,kn,_,f,L=>match z with
  | false=>vo false T w P h n ops.toList kn ops.toList f L
  | true=>VD P h n id ops kn f L
 | .seq a b,kn,ke,f,L=>vc T w P h n a (VC P h n b kn ke) ke f L
 | .cond c a b,kn,ke,f,L=>sD n f c (JG (VC P h n a kn ke f L) (VC P h n b kn ke f L))
 | .block id c,kn,ke,f,L=>VC P h n c kn (OA id kn ke) f L
 | .exit id,_,ke,f,L=>ke (.exit id) f L
 | .label _,kn,_,f,L=>kn f L
 | .ret,_,ke,f,L=>ke .ret f L
 | .goto l,_,ke,f,L=>ke (.goto l) f L
 | c,kn,ke,f,L=>VC P h n c kn ke f L
section
variable {P:Program} {T:Tr TI} {w:Bool} {h:aA} {n:Nat}
theorem QK.aw {c:Code} {Q:Exit→Fr→aA→Prop} {K:FR→HL→Prop} {fr:Fr} {hh:aA} (hq:QK h n K fr hh) (hc:∀f L,aS h L→K f L→AW P c Q (fm n f.k) (hp h L)):AW P c Q fr hh:=
 let ⟨f,L,hk,le,k⟩:=hq; le.aw (hc f L hk k)
theorem QK.of {K:FR→HL→Prop} {f:FR} {L:HL} (hk:aS h L) (k:K f L):QK h n K (fm n f.k) (hp h L):=⟨f,L,hk,eQ.rfl',k⟩
theorem JX (hT:sU P T):∀(c:Code) {kn:FR→HL→Prop} {ke:Exit→FR→HL→Prop} {f:FR} {L:HL},vc T w P h n c kn ke f L→VC P h n c kn ke f L
  | .skip,_,_,_,_,hv=>⟨λhk=>fV (QK.of hk hv)⟩
  | .region id ops false,kn,ke,f,L,hv=>⟨λhk=>by
      have h1:=C6 hT ops.toList f L hv hk
      exact oB (l:=ops.toList) h1⟩
  | .region id ops true,kn,ke,f,L,hv=>⟨λhk=>(VD.r hv hk).mono λe fr hh q=>by obtain⟨rfl,q⟩:=q; exact q⟩
  | .seq a b,kn,ke,f,L,hv=>⟨λhk=>sE (((JX hT a hv).r hk).mono λe fr hh q=>by
      cases e with
      | normal=>exact QK.aw q λf L hk k=>k.r hk
      | exit i=>exact q
      | goto l=>exact q
      | ret=>exact q
      | panic c=>exact q
      | outgrown=>exact q)⟩
  | .cond c a b,kn,ke,f,L,hv=>⟨λhk=>by
      unfold vc at hv
      rw[fQ] at hv
      unfold JG at hv
      split at hv
      · rename_i t hc
        rcases gZ hv with⟨h1,h2⟩ | ⟨h1,h2⟩
        · exact gW hc (λ_=>h2.r hk) (λe=>by rw[e] at h1; cases h1)
        · exact gW hc (λe=>by rw[e] at h1; cases h1) (λ_=>h2.r hk)
      · exact hv.elim⟩
  | .block id c,kn,ke,f,L,hv=>⟨λhk=>mW ((VC.r hv hk).mono λe fr hh q=>by
      cases e with
      | normal=>exact q
      | exit i=>
        simp only[QQ,OA] at q
        by_cases hi:i=id
        · subst hi
          have:Nat.beq i i=true:=Nat.beq_refl i
          rw[this] at q
          simp only[wF,if_true]
          exact q
        · have:Nat.beq i id=false:=by
            cases e:Nat.beq i id with
            | false=>rfl
            | true=>exact absurd (Nat.eq_of_beq_eq_true e) hi
          rw[this] at q
          simp only[wF,hi,if_false]
          exact q
      | goto l=>exact q
      | ret=>exact q
      | panic c=>exact q
      | outgrown=>exact q)⟩
  | .exit id,_,_,_,_,hv=>⟨λhk=>z9 (QK.of hk hv)⟩
  | .label l,_,_,_,_,hv=>⟨λhk=>wE (QK.of hk hv)⟩
  | .ret,_,_,_,_,hv=>⟨λhk=>dQ (QK.of hk hv)⟩
  | .goto l,_,_,_,_,hv=>⟨λhk=>AA (QK.of hk hv)⟩
  | .loop c,_,_,_,_,hv=>hv
  | .rangeFunc a b c d,_,_,_,_,hv=>hv
  | .scope c,_,_,_,_,hv=>hv
  | .refuse s,_,_,_,_,hv=>hv
theorem vs {a b:Code} {kn:FR→HL→Prop} {ke:Exit→FR→HL→Prop} {f:FR} {L:HL} (hv:VC P h n a (VC P h n b kn ke) ke f L):VC P h n (.seq a b) kn ke f L:=
  ⟨λhk=>sE ((hv.r hk).mono λe fr hh q=>by
      cases e with
      | normal=>exact QK.aw q λf L hk k=>k.r hk
      | exit i=>exact q
      | goto l=>exact q
      | ret=>exact q
      | panic c=>exact q
      | outgrown=>exact q)⟩
theorem C7 {c:Code} {kn:FR→HL→Prop} {ke:Exit→FR→HL→Prop} {f g:FR} {L L':HL} (le:aS h L→aS h L'∧eQ (fm n g.k) (hp h L') (fm n f.k) (hp h L)) (k:VC P h n c kn ke g L'):VC P h n c kn ke f L:=
 ⟨λhk=>let ⟨h1,h2⟩:=le hk; h2.aw (k.r h1)⟩
theorem cR.mono {ops:Array Oper} {h:aA} {K K':Fr→Prop} (hk:∀fr,K fr→K' fr):∀ {l:List Oper} {fr:Fr},cR P ops h K l fr→cR P ops h K' l fr
 | [],_,q=>hk _ q
 | _::_,_,q=>let ⟨x,hy,k⟩:=q; ⟨x,hy,cR.mono hk k⟩
theorem OB (hT:sU P T) {id:Nat} {l:List Oper} {kn:FR→HL→Prop} {f:FR} {L:HL} (hm:P.follows .mixedOrders=true) (h2:rF 0 (l.map (mI l.toArray))=true)
    (k:vo true T w P h n l kn l f L):VD P h n id l.toArray kn f L:=
  ⟨λhk=>(F7 (Q:=λe fr hh=>e= .normal∧QK h n kn fr hh) hm h2 ((F8 hT l f L k hk).mono λfr q=>by
    obtain⟨f',rfl,q⟩:=q; exact⟨rfl,QK.of hk q⟩))⟩
end
abbrev OD (n:Nat) (x0 x1 x2 x3:AV) (r:FR):FR:=.c n x0 (.c (n - 1) x1 (.c (n - 2) x2 (.c (n - 3) x3 r)))
abbrev OE (n:Nat) (x0 x1 x2 x3 x4:AV) (r:FR):FR:=.c n x0 (.c (n - 1) x1 (.c (n - 2) x2 (.c (n - 3) x3 (.c (n - 4) x4 r))))
abbrev OF (n:Nat) (x0 x1 x2 x3 x4 x5:AV) (r:FR):FR:=.c n x0 (.c (n - 1) x1 (.c (n - 2) x2 (.c (n - 3) x3 (.c (n - 4) x4 (.c (n - 5) x5 r)))))
abbrev OH (n:Nat) (x0 x1 x2 x3 x4 x5 x6 x7:AV) (r:FR):FR:=.c n x0 (.c (n - 1) x1 (.c (n - 2) x2 (.c (n - 3) x3 (.c (n - 4) x4 (.c (n - 5) x5 (.c (n - 6) x6 (.c (n - 7) x7 r)))))))
abbrev OI (n:Nat) (x0 x1 x2 x3 x4 x5 x6 x7 x8:AV) (r:FR):FR:=.c n x0 (.c (n - 1) x1 (.c (n - 2) x2 (.c (n - 3) x3 (.c (n - 4) x4 (.c (n - 5) x5 (.c (n - 6) x6 (.c (n - 7) x7 (.c (n - 8) x8 r))))))))
abbrev F9 (n:Nat) (x0 x1 x2 x3 x4 x5 x6 x7 x8 x9:AV) (r:FR):FR:=.c n x0 (.c (n - 1) x1 (.c (n - 2) x2 (.c (n - 3) x3 (.c (n - 4) x4 (.c (n - 5) x5 (.c (n - 6) x6 (.c (n - 7) x7 (.c (n - 8) x8 (.c (n - 9) x9 r)))))))))
abbrev GA (n:Nat) (x0 x1 x2 x3 x4 x5 x6 x7 x8 x9 x10 x11:AV) (r:FR):FR:=.c n x0 (.c (n - 1) x1 (.c (n - 2) x2 (.c (n - 3) x3 (.c (n - 4) x4 (.c (n - 5) x5 (.c (n - 6) x6 (.c (n - 7) x7 (.c (n - 8) x8 (.c (n - 9) x9 (.c (n - 10) x10 (.c (n - 11) x11 r)))))))))))
abbrev JY (n:Nat) (x0 x1 x2 x3 x4 x5 x6 x7 x8 x9 x10 x11 x12:AV) (r:FR):FR:=.c n x0 (.c (n - 1) x1 (.c (n - 2) x2 (.c (n - 3) x3 (.c (n - 4) x4 (.c (n - 5) x5 (.c (n - 6) x6 (.c (n - 7) x7 (.c (n - 8) x8 (.c (n - 9) x9 (.c (n - 10) x10 (.c (n - 11) x11 (.c (n - 12) x12 r))))))))))))
abbrev JZ (n:Nat) (x0 x1 x2 x3 x4 x5 x6 x7 x8 x9 x10 x11 x12 x13 x14 x15:AV) (r:FR):FR:=.c n x0 (.c (n - 1) x1 (.c (n - 2) x2 (.c (n - 3) x3 (.c (n - 4) x4 (.c (n - 5) x5 (.c (n - 6) x6 (.c (n - 7) x7 (.c (n - 8) x8 (.c (n - 9) x9 (.c (n - 10) x10 (.c (n - 11) x11 (.c (n - 12) x12 (.c (n - 13) x13 (.c (n - 14) x14 (.c (n - 15) x15 r)))))))))))))))
abbrev GB (n:Nat) (x0 x1 x2 x3 x4 x5 x6 x7 x8 x9 x10 x11 x12 x13 x14 x15 x16:AV) (r:FR):FR:=.c n x0 (.c (n - 1) x1 (.c (n - 2) x2 (.c (n - 3) x3 (.c (n - 4) x4 (.c (n - 5) x5 (.c (n - 6) x6 (.c (n - 7) x7 (.c (n - 8) x8 (.c (n - 9) x9 (.c (n - 10) x10 (.c (n - 11) x11 (.c (n - 12) x12 (.c (n - 13) x13 (.c (n - 14) x14 (.c (n - 15) x15 (.c (n - 16) x16 r))))))))))))))))
abbrev bO:TI:=⟨some (false,1),none, []⟩
section
variable {P:Program} {h:aA} {n:Nat}
def LX (h:aA) (n:Nat) (f:FR) (L:HL) (g:FR) (L':HL):Prop:=aS h L→aS h L'∧eQ (fm n g.k) (hp h L') (fm n f.k) (hp h L)
theorem lx {f g:FR} {L:HL} (hf:FT (hp h L) n f.k g.k):LX h n f L g L:=λhk=>⟨hk,eQ.s hf⟩
theorem p4 {f g:FR} {L L':HL} (σ:List Nat) (hL:pick σ L=L') (ho:(σ++mD σ L.length).isPerm (List.range L.length)=true) (hf:FT (hp h L') n f.k g.k):LX h n f L g L':=λhk=>by
 subst hL
 obtain⟨h1,h2⟩:=eZ hk σ ho
 exact⟨h1,eQ.fm h2 hf⟩
structure GN {τ σ ρ:Type} (h:aA) (n:Nat) (J:τ→σ→Prop) (sl:τ→σ→FR) (Lg:τ→σ→HL) (w:σ→Lp σ ρ) (x:Lp σ ρ) (f:FR) (L:HL):Prop where
 g:∃s g,x=w s∧J g s∧LX h n f L (sl g s) (Lg g s)
inductive GE {τ σ ρ:Type} (h:aA) (n:Nat) (J:τ→σ→Prop) (sl:τ→σ→FR) (Lg:τ→σ→HL) (id:Option Nat) (ke:Exit→FR→HL→Prop) (o:ρ) (x:Lp σ ρ) (e:Exit) (f:FR) (L:HL):Prop
 | b (i:Nat) (hi:id=some i) (he:e= .exit i) (q:GN h n J sl Lg .brk x f L)
 | r (y:ρ) (hx:x= .ret y) (h1:e≠ .normal) (h2:∀i,id=some i→e≠ .exit i) (k:y=o→ke e f L)
theorem kP {τ σ ρ:Type} {J:τ→σ→Prop} {sl:τ→σ→FR} {Lg:τ→σ→HL} {w:σ→Lp σ ρ} {x:Lp σ ρ} {f:FR} {L:HL} {s:σ} (hm:some (w s)=some x) (g:τ) (j:J g s) (le:LX h n f L (sl g s) (Lg g s)):GN h n J sl Lg w x f L:=
 ⟨s,g,(Option.some.inj hm).symm,j,le⟩
theorem p5 {τ σ ρ:Type} {J:τ→σ→Prop} {sl:τ→σ→FR} {Lg:τ→σ→HL} {i:Nat} {ke:Exit→FR→HL→Prop} {o:ρ} {x:Lp σ ρ} {f:FR} {L:HL} {s:σ} (hm:some (.brk s)=some x) (g:τ) (j:J g s) (le:LX h n f L (sl g s) (Lg g s)):GE h n J sl Lg (some i) ke o x (.exit i) f L:=
 .b i rfl rfl (kP hm g j le)
theorem uL {σ ρ:Type} {sl:Unit→σ→FR} {Lg:Unit→σ→HL} {w:σ→Lp σ ρ} {x:Lp σ ρ} {f:FR} {L:HL} {s:σ} (hm:some (w s)=some x) (le:LX h n f L (sl () s) (Lg () s)):GN h n (λ_ _=>True) sl Lg w x f L:=kP hm () trivial le
theorem QX {σ ρ:Type} {sl:Unit→σ→FR} {Lg:Unit→σ→HL} {i:Nat} {ke:Exit→FR→HL→Prop} {o:ρ} {x:Lp σ ρ} {f:FR} {L:HL} {s:σ} (hm:some (.brk s)=some x) (le:LX h n f L (sl () s) (Lg () s)):GE h n (λ_ _=>True) sl Lg (some i) ke o x (.exit i) f L:=p5 hm () trivial le
theorem kC {τ σ ρ:Type} {J:τ→σ→Prop} {sl:τ→σ→FR} {Lg:τ→σ→HL} {id:Option Nat} {ke:Exit→FR→HL→Prop} {o y:ρ} {x:Lp σ ρ} {f:FR} {L:HL} (hm:some (.ret y)=some x) (k:some y=some o→ke .ret f L):GE h n J sl Lg id ke o x .ret f L:=
 .r y (Option.some.inj hm).symm nofun (λ_ _=>nofun) λe=>k (by rw[e])
theorem LX.le {f g:FR} {L L':HL} {fr:Fr} {hh:aA} (le:LX h n f L g L') (hk:aS h L) (l0:eQ (fm n f.k) (hp h L) fr hh):aS h L'∧eQ (fm n g.k) (hp h L') fr hh:=
 let ⟨h1,h2⟩:=le hk; ⟨h1,l0.trans h2⟩
theorem AY {τ σ ρ:Type} {id:Nat} {c:Code} {kn:FR→HL→Prop} {ke:Exit→FR→HL→Prop} {f:FR} {L:HL} {step:σ→Option (Lp σ ρ)} {fuel:Nat} {s0:σ} {k:σ→Option ρ} {o:ρ} (hm:after (bC step fuel s0) k=some o)
    (Lg:τ→σ→HL) (J:τ→σ→Prop) (sl:τ→σ→FR) (g0:τ) (i0:J g0 s0) (h0:LX h n f L (sl g0 s0) (Lg g0 s0))
    (round:∀g s x,J g s→step s=some x→VC P h n c (GN h n J sl Lg .go x) (GE h n J sl Lg (some id) ke o x) (sl g s) (Lg g s))
    (next:∀g s,J g s→k s=some o→kn (sl g s) (Lg g s)):VC P h n (.block id (.loop c)) kn ke f L:=by
  refine⟨λhkL=>mW ?_⟩
  obtain⟨out,hout,hk⟩:∃out,bC step fuel s0=some out∧((∃s,out= .brk s∧k s=some o)∨∃r,out= .ret r∧r=o):=by
    cases e:bC step fuel s0 with
    | none=>rw[e] at hm; cases hm
    | some out=>
      rw[e] at hm
      cases out with
      | go s=>cases hm
      | brk s=>exact⟨_,rfl,.inl ⟨s,rfl,hm⟩⟩
      | ret r=>exact⟨_,rfl,.inr ⟨r,rfl,Option.some.inj hm⟩⟩
  obtain⟨hk1,le1⟩:=h0 hkL
  refine tY (λm fr' h'=>∃s,bC step m s=some out∧∃g,J g s∧aS h (Lg g s)∧eQ (fm n (sl g s).k) (hp h (Lg g s)) fr' h') fuel ⟨s0,hout,g0,i0,hk1,le1⟩ ?_
  rintro m fr' h' ⟨s,hs,g,hj,hk2,hle⟩
  cases m with
  | zero=>cases hs
  | succ m=>
    simp only[bC] at hs
    cases e:step s with
    | none=>rw[e] at hs; cases hs
    | some x=>
      rw[e] at hs
      refine hle.aw (((round g s x hj e).r hk2).mono ?_)
      rintro ex fr'' h'' ⟨f1,L1,hk3,le3,q⟩
      cases ex with
      | normal=>
        obtain⟨s',g',rfl,j',le4⟩:=q.g
        obtain⟨hk5,le5⟩:=le4.le hk3 le3
        exact⟨m,Nat.lt_succ_self m,s',hs,g',j',hk5,le5⟩
      | exit i=>
        cases q with
        | b i' hi he q=>
          cases hi; cases he
          obtain⟨s',g',rfl,j',le4⟩:=q.g
          obtain⟨hk5,le5⟩:=le4.le hk3 le3
          cases hs
          simp only[Seq,wF,if_true]
          rcases hk with⟨s2,e2,hk⟩ | ⟨r,e2,_⟩
          · cases e2; exact⟨_,_,hk5,le5,next _ _ j' hk⟩
          · cases e2
        | r y hx h1 h2 k2=>
          subst hx
          have:i≠id:=λe=>h2 id rfl (by rw[e])
          cases hs
          simp only[Seq,wF,this,if_false]
          rcases hk with⟨s2,e2,_⟩ | ⟨r',e2,e3⟩
          · cases e2
          · cases e2; exact⟨_,_,hk3,le3,k2 e3⟩
      | goto l=>
        cases q with
        | b i' hi he q=>cases he
        | r y hx h1 h2 k2=>
          subst hx; cases hs
          rcases hk with⟨s2,e2,_⟩ | ⟨r',e2,e3⟩
          · cases e2
          · cases e2; exact⟨_,_,hk3,le3,k2 e3⟩
      | ret=>
        cases q with
        | b i' hi he q=>cases he
        | r y hx h1 h2 k2=>
          subst hx; cases hs
          rcases hk with⟨s2,e2,_⟩ | ⟨r',e2,e3⟩
          · cases e2
          · cases e2; exact⟨_,_,hk3,le3,k2 e3⟩
      | panic c=>
        cases q with
        | b i' hi he q=>cases he
        | r y hx h1 h2 k2=>
          subst hx; cases hs
          rcases hk with⟨s2,e2,_⟩ | ⟨r',e2,e3⟩
          · cases e2
          · cases e2; exact⟨_,_,hk3,le3,k2 e3⟩
      | outgrown=>
        cases q with
        | b i' hi he q=>cases he
        | r y hx h1 h2 k2=>
          subst hx; cases hs
          rcases hk with⟨s2,e2,_⟩ | ⟨r',e2,e3⟩
          · cases e2
          · cases e2; exact⟨_,_,hk3,le3,k2 e3⟩
theorem FB {τ σ ρ:Type} {c:Code} {kn:FR→HL→Prop} {ke:Exit→FR→HL→Prop} {f:FR} {L:HL} {m:Option (Lp σ ρ)} {k:σ→Option ρ} {o:ρ} (hm:after m k=some o)
    (Lg:τ→σ→HL) (J:τ→σ→Prop) (sl:τ→σ→FR)
    (hc:∀x,m=some x→VC P h n c (GN h n J sl Lg .brk x) (GE h n J sl Lg none ke o x) f L)
    (next:∀g s,J g s→k s=some o→kn (sl g s) (Lg g s)):VC P h n c kn ke f L:=by
  refine⟨λhkL=> ?_⟩
  cases e:m with
  | none=>rw[e] at hm; cases hm
  | some x=>
    rw[e] at hm
    refine((hc x e).r hkL).mono ?_
    have fin:∀ {ex:Exit} {f1:FR} {L1:HL},GE h n J sl Lg none ke o x ex f1 L1→ex≠ .normal∧ke ex f1 L1:=by
      intro ex f1 L1 q
      cases q with
      | b i hi he q=>cases hi
      | r y hx h1 h2 k2=>subst hx; exact⟨h1,k2 (Option.some.inj hm)⟩
    rintro ex fr'' h'' ⟨f1,L1,hk3,le3,q⟩
    cases ex with
    | normal=>
      obtain⟨s',g',rfl,j',le4⟩:=q.g
      obtain⟨hk5,le5⟩:=le4.le hk3 le3
      exact⟨_,_,hk5,le5,next _ _ j' hm⟩
    | exit i=>exact⟨_,_,hk3,le3,(fin q).2⟩
    | goto l=>exact⟨_,_,hk3,le3,(fin q).2⟩
    | ret=>exact⟨_,_,hk3,le3,(fin q).2⟩
    | panic c=>exact⟨_,_,hk3,le3,(fin q).2⟩
    | outgrown=>exact⟨_,_,hk3,le3,(fin q).2⟩
theorem J0 {τ σ ρ:Type} {id:Nat} {c:Code} {kn:FR→HL→Prop} {ke:Exit→FR→HL→Prop} {f:FR} {L:HL} {step:σ→Option (Lp σ ρ)} {fuel:Nat} {s0:σ} {k:σ→Option ρ} {o:ρ} (hm:after (bC step fuel s0) k=some o)
    (Lg:τ→σ→HL) (sl:τ→σ→FR) (g0:τ) (h0:LX h n f L (sl g0 s0) (Lg g0 s0))
    (round:∀g s x,step s=some x→VC P h n c (GN h n (λ_ _=>True) sl Lg .go x) (GE h n (λ_ _=>True) sl Lg (some id) ke o x) (sl g s) (Lg g s))
    (next:∀g s,k s=some o→kn (sl g s) (Lg g s)):VC P h n (.block id (.loop c)) kn ke f L:=
  AY hm Lg (λ_ _=>True) sl g0 trivial h0 (λg s x _=>round g s x) (λg s _=>next g s)
theorem J1 {τ σ ρ:Type} {c:Code} {kn:FR→HL→Prop} {ke:Exit→FR→HL→Prop} {f:FR} {L:HL} {m:Option (Lp σ ρ)} {k:σ→Option ρ} {o:ρ} (hm:after m k=some o)
    (Lg:τ→σ→HL) (sl:τ→σ→FR)
    (hc:∀x,m=some x→VC P h n c (GN h n (λ_ _=>True) sl Lg .brk x) (GE h n (λ_ _=>True) sl Lg none ke o x) f L)
    (next:∀g s,k s=some o→kn (sl g s) (Lg g s)):VC P h n c kn ke f L:=
  FB hm Lg (λ_ _=>True) sl hc (λg s _=>next g s)
theorem PM {f:FR} {L:HL} {k:aY} {ty:TypeId} {cs:List AV} (e:dX) (i:Nat) (cs':List AV) (hi:((none,e)::L)[i]? =some (some k,.obj ty cs)) (hl:bS (hp h L) cs cs') (hk:aS h L):
    aS h (((none,e)::L).set i (some k,.obj ty cs'))∧eQ (fm n f.k) (hp h (((none,e)::L).set i (some k,.obj ty cs'))) (fm n f.k) (hp h L):=eQ.obj (L:=(none,e)::L) i cs' (aS.none hk) hi hl
def p6:Nat→List AV→FR
 | _, []=>.nil
 | i,x::xs=>.c i x (p6 (i+1) xs)
theorem sX:∀(i:Nat) (xs:List AV),(p6 i xs).k=pD i xs
 | _, []=>rfl
 | i,x::xs=>by simp only[p6,pD,FR.k,sX (i+1) xs]
structure RV (P:Program) (rs:List ResultVar) (Q:AV→aA→Prop) (h:aA) (n:Nat) (e:Exit) (f:FR) (L:HL):Prop where
 r:aS h L→AS (eS P rs Q) e (fm n f.k) (hp h L)
theorem JH {f:FuncId} {fn:Func} {c:Code} {args:List AV} {Q:AV→aA→Prop} {L:HL} (hk:aS h L) (n:Nat) (rs:List ResultVar) (hf:P.funcs[f]? =some fn) (hb:fn.body=some c) (hn:fn.ntmps=n) (hr:fn.results.toList=rs) (hle:Nat.ble args.length n=true)
    (hc:VC P h n c (RV P rs Q h n .normal) (RV P rs Q h n) (p6 0 args) L):aG P f args (hp h L) Q:=by
  have hc:=hc.r hk
  rw[sX] at hc
  refine oM n rs hf hb hn hr hle (F5 (hc.mono ?_))
  rintro e fr hh ⟨f',L',hk,le,q⟩
  have fin:RV P rs Q h n e f' L'→AS (eS P rs Q) e fr hh:=λq=>let ⟨fr2,h2,le2,q2⟩:=q.r hk; ⟨fr2,h2,le.trans le2,q2⟩
  cases e with
  | normal=>exact fin q
  | exit i=>exact fin q
  | goto l=>exact fin q
  | ret=>exact fin q
  | panic c=>exact fin q
  | outgrown=>exact fin q
theorem fC {f:FuncId} {fn:Func} {c:Code} {args:List AV} {Q:AV→aA→Prop} (n:Nat) (rs:List ResultVar) (hf:P.funcs[f]? =some fn) (hb:fn.body=some c) (hn:fn.ntmps=n) (hr:fn.results.toList=rs) (hle:Nat.ble args.length n=true)
    (hc:VC P h n c (RV P rs Q h n .normal) (RV P rs Q h n) (p6 0 args) []):aG P f args h Q:=JH (L:= []) trivial n rs hf hb hn hr hle hc
theorem vr {rs:List ResultVar} {Q:AV→aA→Prop} {e:Exit} {f:FR} {L:HL} (k:aS h L→eS P rs Q e (fm n f.k) (hp h L)):RV P rs Q h n e f L:=⟨λhk=>AS.mk eQ.rfl' (k hk)⟩
theorem OJ {rs:List ResultVar} {Q:AV→aA→Prop} {e:Exit} {f:FR} {L:HL} (k:aS h L→AS (eS P rs Q) e (fm n f.k) (hp h L)):RV P rs Q h n e f L:=⟨k⟩
theorem xH {L:HL} (hk:aS h L):eO h (hp h L):=(aW (List.nil_sublist _) hk).1
theorem cH {t:Nat} {y:AV} {f:FR} {L:HL} {e:Exit} (hx:lk n f.k t=y) (he:e= .ret∨e= .normal:=by first | exact .inl rfl | exact .inr rfl):RV P [.tmp t] (λr h'=>r=y∧h'=h) h n e f L:=
 vr λhk=>eS.of1 he (mA _ _ y hx) (xH hk) (aN.refl _ _) ⟨rfl,rfl⟩
theorem OL {t u:Nat} {y z:AV} {f:FR} {L:HL} {e:Exit} (hx:lk n f.k t=y) (hz:lk n f.k u=z) (he:e= .ret∨e= .normal:=by first | exact .inl rfl | exact .inr rfl):RV P [.tmp t,.tmp u] (λr h'=>r= .tup [y,z]∧h'=h) h n e f L:=
 vr λhk=>eS.of2 he (mA _ _ y hx) (mA _ _ z hz) (xH hk) (aN.refl _ _) (aN.refl _ _) ⟨rfl,rfl⟩
theorem AG.mono {ops:Array Oper} {fs:List (Nat×Option aY×dX)} {K K':Fr→aA→Prop} (hk:∀fr h,K fr h→K' fr h):∀ {m:Nat} {S:Array Bool} {fr:Fr} {h:aA},AG P ops fs K m S fr h→AG P ops fs K' m S fr h
  | 0,_,_,_,⟨h1,h2⟩=>⟨h1,hk _ _ h2⟩
  | m + 1, S, fr, h, ⟨h1, h2⟩ => ⟨fun e => hk _ _ (h1 e), fun i hi o ho => by
      rcases h2 i hi o ho with⟨x,a,b⟩ | ⟨a,b⟩
      · exact .inl ⟨x,a,AG.mono hk b⟩
      · exact .inr ⟨a,b.mono λx h' q=>⟨q.1,AG.mono hk q.2⟩⟩⟩
variable {q:Bool} {K:FR→HL→Prop} {f:FR} {L:HL} {dst:Option Tmp} {ty:TypeId} {pos:String} {bV:Array Edge} {ρ:Type} {r:ρ}
theorem qk {K:FR→HL→Prop} {f:FR} {L:HL} {hh:aA} (hk:aS h L) (e:hh=hp h L) (k:K f L):QK h n K (fm n f.k) hh:=by subst e; exact QK.of hk k
theorem vn {op:Op} {x:AV} (ho:aS h L→cW P ⟨dst,op,ty,pos,bV,none⟩ x (fm n f.k) (hp h L)) (k:K (f.put dst x) L):VN q P h n ⟨dst,op,ty,pos,bV,none⟩ K f L:=
 ⟨λ_ hk=>⟨x,ho hk,k⟩,λ_ hk=>(ho hk).mono λx' h' e=>by obtain⟨rfl,rfl⟩:=e; exact QK.of hk k⟩
theorem ve {o:Oper} (ho:aS h L→eD P o (λx h'=>QK h n K (fm n (f.put o.dst x).k) h') (fm n f.k) (hp h L)):VN false P h n o K f L:=⟨nofun,λ_=>ho⟩
theorem AZ {K:AV→aA→Prop} {o:Oper} {h1 h2:aA} {t:Nat} (v:AV) (hs:eO h2 h1) (hv:aN h2 (lk n f.k t) v) (ho:eD P o K (fm n (kp f.k t v)) h2):eD P o K (fm n f.k) h1:=by
 intro E w a r hva Nx Qx hn
 obtain⟨E',k,r'⟩:=r.drop hs
 refine ho E' w a r' (λy hy=> ?_) Nx Qx λx u w' E'' h' k'=>hn x u w' E'' h' (k.trans k')
 have h1:=fT k _ _ (hva y hy)
 rw[aO] at h1 ⊢
 cases y with
 | tmp s=>
  simp only[cB] at h1 ⊢
  by_cases e:t=s
  ·subst e
   have h3:=hv E' w _ r' h1
   rw[iS]
   split
   ·rw[iC]; exact h3
   ·simp only[VR]
  ·rw[iS] at h1 ⊢
   rw[l9 _ _ e]; exact h1
 | const v=>exact h1
 | global g=>exact h1
 | func g=>exact h1
theorem vz {id:Nat} {l:List Oper} {kn:FR→HL→Prop} (fs:List (Nat×Option aY×dX)) (hm:P.follows .mixedOrders=true) (hI:aS h L→eF fs (Array.replicate l.length false) (hp h L))
    (hl:aS h L→kL P l.toArray fs (QK h n kn) l.length (Array.replicate l.length false) (fm n f.k) (hp h L)):VD P h n id l.toArray kn f L:=
  ⟨λhk=>AP (Q:=λe fr hh=>e= .normal∧QK h n kn fr hh) fs hm (hI hk) λhi=>(AG.mono λ_ _ q=>⟨rfl,q⟩) (hl hk hi)⟩
theorem vi {b:Bool} {X Y:Prop} {x y:Option ρ} (hm:(if b=true then x else y)=some r) (ht:b=true→x=some r→X) (hf:b=false→y=some r→Y):wD b X Y:=by
 cases b
 ·exact hf rfl (by simpa using hm)
 ·exact ht rfl (by simpa using hm)
theorem vt {b:Bool} {X Y:Prop} (hb:b=true) (k:X):wD b X Y:=by subst hb; exact k
theorem vf {b:Bool} {X Y:Prop} (hb:b=false) (k:Y):wD b X Y:=by subst hb; exact k
theorem OM {b:Bool} {X Y:Prop} {k:Option ρ} (hm:grd b k=some r) (hx:b=true→k=some r→X):wD b X Y:=let ⟨h1,h2⟩:=CS hm; vt h1 (hx h1 h2)
theorem vx {α:Type} {c:α→List AV} {xs:List α} {i:Int} {kk:α→Option ρ} {a b:Operand} {t:TypeId} {tag:Option aY} {sz:Nat} {m:IntKind} (hm:(ix xs i).bind kk=some r) (he:kA P t=some sz) (ha:cB n f.k a= .sl tag sz (xs.map c)) (hb:cB n f.k b= .sc (.int m i))
    (k:∀x,ix xs i=some x→kk x=some r→K (f.put dst (.rp tag (c x))) L):VN q P h n ⟨dst,.indexAddr t a b,ty,pos,bV,none⟩ K f L:=
  let ⟨x,h1,h2⟩:=aE hm; vn (λ_=>wV h1 he ha hb) (k x h1 h2)
theorem vl {a:Operand} {t:TypeId} {p:aY} {off:Nat} {oty:TypeId} {cs:List AV} {ag:Bool} {m:Nat} (i:Nat) (x:AV) (ht:h9 P t=some (ag,m)) (ha:cB n f.k a= .ptr p off) (hi:L[i]? =some (some p,.obj oty cs)) (hx:uA ag m (cs.drop off)=some x) (k:K (f.put dst x) L):
    VN q P h n ⟨dst,.load t a,ty,pos,bV,none⟩ K f L:=vn (λhk=>rE x ht ha (bF i hk hi) hx) k
theorem va {a:Operand} {t:TypeId} {tag:Option aY} {cs:List AV} {ag:Bool} {m:Nat} (x:AV) (ht:h9 P t=some (ag,m)) (ha:cB n f.k a= .rp tag cs) (hx:uA ag m cs=some x) (k:K (f.put dst x) L):
    VN q P h n ⟨dst,.load t a,ty,pos,bV,none⟩ K f L:=vn (λ_=>wX x ht ha hx) k
theorem cI {α:Type} {e:α→List AV} {xs:List α} {a:Operand} {t:TypeId} {tag:Option aY} {sz:Nat} (ht:oF P t=some true) (ha:cB n f.k a= .sl tag sz (xs.map e)) (k:K (f.put dst (.sc (.int .i64 xs.length))) L):
    VN q P h n ⟨dst,.call { callee:=.builtin .len,args:= #[a],argTypes:= #[t]},ty,pos,bV,none⟩ K f L:=vn (λ_=>wU ht ha) k
theorem vk {α:Type} {m:Option α} {kk:α→Option ρ} {e:α→AV} {fid:FuncId} {g:Operand} {args:Array Operand} {ts:Array TypeId} {caps az:List AV} (hc:∀ {y:α} (h:aA),m=some y→aG P fid az h (λr h'=>r=e y∧h'=h)) (hb:aJ P fid=true) (hm:m.bind kk=some r)
    (hg:cB n f.k g= .fn (.func fid) caps) (ha:args.toList.map (cB n f.k)++caps=az) (k:∀y,kk y=some r→K (f.put dst (e y)) L):
    VN q P h n ⟨dst,.call { callee:=.value g,args:=args,argTypes:=ts},ty,pos,bV,none⟩ K f L:=
  let ⟨_,h1,h2⟩:=aE hm; vn (λ_=>cK (hc _ h1) hg hb ha) (k _ h2)
theorem val {t:TypeId} {zs:List Value} (cs:List AV) (hz:nW P t=some zs) (ho:zs.all (·.oneCell')=true) (hcs:zs.map AV.sc=cs) (k:∀q:aY,K (f.put dst (.ptr q 0)) ((some q,.obj t cs)::L)):VN false P h n ⟨dst,.alloc t,ty,pos,bV,none⟩ K f L:=
 ve λhk=>bN cs hk hz ho hcs λq hk'=>qk hk' rfl (k q)
end
section
variable {P:Program} {h:aA} {n:Nat}
theorem dK {q:Bool} {K:FR→HL→Prop} {f:FR} {L:HL} {dst:Option Tmp} {ty:TypeId} {pos:String} {bV:Array Edge} {op:Op} {x:AV} (ho:cW P ⟨dst,op,ty,pos,bV,none⟩ x (fm n f.k) (hp h L)) (k:K (f.put dst x) L):VN q P h n ⟨dst,op,ty,pos,bV,none⟩ K f L:=vn (λ_=>ho) k
theorem nD {q:Bool} {K:FR→HL→Prop} {f:FR} {L:HL} {dst:Option Tmp} {ty:TypeId} {pos:String} {bV:Array Edge} {a:Operand} {t:TypeId} {g:Nat} {p:aY} {off o s:Nat} (hf:iQ P t g=some (o,s)) (hs:Nat.beq s 0=false) (ha:cB n f.k a= .ptr p off) (k:K (f.put dst (.ptr p (off+o))) L):VN q P h n ⟨dst,.fieldAddr t a g,ty,pos,bV,none⟩ K f L:=vn (λ_=>wW hf hs ha) k
theorem GC {q:Bool} {K:FR→HL→Prop} {f:FR} {L:HL} {dst:Option Tmp} {ty:TypeId} {pos:String} {bV:Array Edge} {a:Operand} {p:aY} {off:Nat} (ha:cB n f.k a= .ptr p off) (k:K (f.put dst (.ptr p off)) L):VN q P h n ⟨dst,.nilCheck a,ty,pos,bV,none⟩ K f L:=vn (λ_=>w6 ha) k
theorem gH {K:FR→HL→Prop} {f:FR} {L:HL} {dst:Option Tmp} {ty:TypeId} {pos:String} {bV:Array Edge} {t:TypeId} {x:Operand} {cs:List AV} (hc:cellsOf (cB n f.k x)=some cs) (ho:cs.all dC=true) (k:∀q:aY,aS h ((some q,.obj t cs)::L)→K (f.put dst (.ptr q 0)) ((some q,.obj t cs)::L)):VN false P h n ⟨dst,.box t x,ty,pos,bV,none⟩ K f L:=ve λhk=>FY hk hc ho λq hq=>qk hq rfl (k q hq)
theorem eN {σ ρ:Type} {c:Code} {kn:FR→HL→Prop} {ke:Exit→FR→HL→Prop} {f:FR} {L:HL} {m:Option (Lp σ ρ)} {k:σ→Option ρ} {o:ρ} (hm:after m k=some o) (Lg:σ→HL) (sl:σ→FR)
 (hc:∀x,m=some x→VC P h n c (GN h n (λ_ _=>True) (λ_:Unit=>sl) (λ_=>Lg) .brk x) (GE h n (λ_ _=>True) (λ_:Unit=>sl) (λ_=>Lg) none ke o x) f L) (next:∀(g:Unit) s,k s=some o→kn (sl s) (Lg s)):VC P h n c kn ke f L:=J1 hm (λ_:Unit=>Lg) (λ_=>sl) hc next
theorem mE {σ ρ:Type} {id:Nat} {c:Code} {kn:FR→HL→Prop} {ke:Exit→FR→HL→Prop} {f:FR} {L:HL} {step:σ→Option (Lp σ ρ)} {fuel:Nat} {s0:σ} {k:σ→Option ρ} {o:ρ} (hm:after (bC step fuel s0) k=some o) (Lg:σ→HL) (sl:σ→FR) (h0:LX h n f L (sl s0) (Lg s0))
 (round:∀(g:Unit) s x,step s=some x→VC P h n c (GN h n (λ_ _=>True) (λ_:Unit=>sl) (λ_=>Lg) .go x) (GE h n (λ_ _=>True) (λ_:Unit=>sl) (λ_=>Lg) (some id) ke o x) (sl s) (Lg s)) (next:∀(g:Unit) s,k s=some o→kn (sl s) (Lg s)):VC P h n (.block id (.loop c)) kn ke f L:=J0 hm (λ_:Unit=>Lg) (λ_=>sl) () h0 round next
end
section
variable {P:Program} {h:aA} {n:Nat} {σ ρ:Type} {sl:Unit→σ→FR} {Lg:Unit→σ→HL} {w:σ→Lp σ ρ} {x:Lp σ ρ} {f:FR} {s:σ} {i:Nat} {ke:Exit→FR→HL→Prop} {o:ρ}
theorem dJ (hm:some (w s)=some x) (hf:FT (hp h (Lg () s)) n f.k (sl () s).k:=by exact .cons (aN.refl _ _) .nil):GN h n (λ_ _=>True) sl Lg w x f (Lg () s):=kP hm () trivial (lx hf)
theorem iE (hm:some (w s)=some x) (hf:FT (hp h (Lg () s)) n f.k (sl () s).k:=by exact .k2 .nil):GN h n (λ_ _=>True) sl Lg w x f (Lg () s):=kP hm () trivial (lx hf)
theorem FC (hm:some (.brk s)=some x) (hf:FT (hp h (Lg () s)) n f.k (sl () s).k:=by exact .k2 .nil):GE h n (λ_ _=>True) sl Lg (some i) ke o x (.exit i) f (Lg () s):=p5 hm () trivial (lx hf)
theorem f8 (hm:some (w s)=some x) (hf:FT (hp h (Lg () s)) n f.k (sl () s).k:=by exact .k3 .nil):GN h n (λ_ _=>True) sl Lg w x f (Lg () s):=kP hm () trivial (lx hf)
theorem C8 (hm:some (.brk s)=some x) (hf:FT (hp h (Lg () s)) n f.k (sl () s).k:=by exact .k3 .nil):GE h n (λ_ _=>True) sl Lg (some i) ke o x (.exit i) f (Lg () s):=p5 hm () trivial (lx hf)
theorem jK (hm:some (w s)=some x) (hf:FT (hp h (Lg () s)) n f.k (sl () s).k:=by exact .k4 .nil):GN h n (λ_ _=>True) sl Lg w x f (Lg () s):=kP hm () trivial (lx hf)
theorem C9 (hm:some (.brk s)=some x) (hf:FT (hp h (Lg () s)) n f.k (sl () s).k:=by exact .k4 .nil):GE h n (λ_ _=>True) sl Lg (some i) ke o x (.exit i) f (Lg () s):=p5 hm () trivial (lx hf)
theorem nE (hm:some (w s)=some x) (hf:FT (hp h (Lg () s)) n f.k (sl () s).k:=by exact .k5 .nil):GN h n (λ_ _=>True) sl Lg w x f (Lg () s):=kP hm () trivial (lx hf)
theorem J2 (hm:some (.brk s)=some x) (hf:FT (hp h (Lg () s)) n f.k (sl () s).k:=by exact .k5 .nil):GE h n (λ_ _=>True) sl Lg (some i) ke o x (.exit i) f (Lg () s):=p5 hm () trivial (lx hf)
theorem oY (hm:some (w s)=some x) (hf:FT (hp h (Lg () s)) n f.k (sl () s).k:=by exact .k6 .nil):GN h n (λ_ _=>True) sl Lg w x f (Lg () s):=kP hm () trivial (lx hf)
theorem PN (hm:some (.brk s)=some x) (hf:FT (hp h (Lg () s)) n f.k (sl () s).k:=by exact .k6 .nil):GE h n (λ_ _=>True) sl Lg (some i) ke o x (.exit i) f (Lg () s):=p5 hm () trivial (lx hf)
theorem xI (hm:some (w s)=some x) (hf:FT (hp h (Lg () s)) n f.k (sl () s).k:=by exact .k7 .nil):GN h n (λ_ _=>True) sl Lg w x f (Lg () s):=kP hm () trivial (lx hf)
theorem PO (hm:some (.brk s)=some x) (hf:FT (hp h (Lg () s)) n f.k (sl () s).k:=by exact .k8 .nil):GE h n (λ_ _=>True) sl Lg (some i) ke o x (.exit i) f (Lg () s):=p5 hm () trivial (lx hf)
theorem J3 (hm:some (.brk s)=some x) (hf:FT (hp h (Lg () s)) n f.k (sl () s).k:=by exact .k11 .nil):GE h n (λ_ _=>True) sl Lg (some i) ke o x (.exit i) f (Lg () s):=p5 hm () trivial (lx hf)
end
section ops
variable {P:Program} {h h0:aA} {L:HL} {n:Nat} {kvs:KV} {ty:TypeId} {pos:String} {bV:Array Edge}
theorem jC {K:AV→aA→Prop} {α:Type} {c:α→List AV} {dst:Option Tmp} {t e:TypeId} {sz b:Nat} (hk:aS h0 L) (ht:gN P t e sz b)
    (k:aS h0 ((none,.obj e (fl c ([]:List α) g0.sp))::L)→K (aw g0.t g0.n g0.cap) (hp h0 ((none,.obj e (fl c ([]:List α) g0.sp))::L))):
    eD P ⟨dst,.buildSlice t 0 #[],ty,pos,bV,none⟩ K (fm n kvs) (hp h0 L):=
  rD rfl ht (k ⟨hk,nofun⟩)
end ops
end Go.Vm
