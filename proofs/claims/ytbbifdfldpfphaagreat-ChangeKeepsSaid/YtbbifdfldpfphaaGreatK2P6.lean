import Derived.Test.YtbbifdfldpfphaaGreatK2P3
import Derived.Test.YtbbifdfldpfphaaGreatK2P5
import Derived.Test.YtbbifdfldpfphaaGreatK2P4
set_option linter.unusedSimpArgs false
set_option linter.unusedVariables false
set_option maxHeartbeats 4000000
set_option maxRecDepth 100000
namespace Go.Proofs.YtbbifdfldpfphaaGreat
open Go.Vm
def jI (y:aA×OG):List AV:=bJ y.1.Id++([.sc (.bool y.1.Staged),.sl none 1 (List.map dD y.1.Data),awO aM 4 y.2 y.1.Locs]:List AV)
theorem iR:∀y,(jI y).length=35:=λy=>by first | rfl | simp[jI,bJ,bL.len]
theorem EP:∀(H:aF) (y:aA×OG),Br H (awO aM 4 y.2 y.1.Locs) (.sl none 4 (y.1.Locs.map aM))→tG H (jI y) (aH y.1):=λH y b=>tG.app 32 rfl (.cons (Br.refl _ _) (.cons (Br.refl _ _) (.cons b .nil)))
theorem nQ:∀(H H':aF) (y:aA×OG),Fz H H' (awO aM 4 y.2 y.1.Locs) (.sl none 4 (y.1.Locs.map aM))→o5 H H' (jI y) (aH y.1):=λH H' y b=>o5.app 32 rfl (.cons (Fz.refl _ _ _) (.cons (Fz.refl _ _ _) (.cons b .nil)))
def kD (y:aG×OG):List AV:= [.sc (.int .i64 y.1.Seq),.sc (.string y.1.Man.Name),.sl none 3 (List.map bT y.1.Man.Parts),awO aM 4 y.2 y.1.Locs]
theorem kF:∀y,(kD y).length=4:=λy=>by first | rfl | simp[kD,bJ,bL.len]
theorem p5:∀(H H':aF) (y:aG×OG),Fz H H' (awO aM 4 y.2 y.1.Locs) (.sl none 4 (y.1.Locs.map aM))→o5 H H' (kD y) (bP y.1):=λH H' y b=>.cons (Fz.refl _ _ _) (.cons (Fz.refl _ _ _) (.cons (Fz.refl _ _ _) (.cons b .nil)))
def kX (y:aQ×OG):List AV:= [.sc (.int .i64 y.1.Seq),.sc (.int .i64 y.1.Of),awO aM 4 y.2 y.1.Locs]
theorem oM:∀y,(kX y).length=3:=λy=>by first | rfl | simp[kX,bJ,bL.len]
theorem UE:∀(H:aF) (y:aQ×OG),Br H (awO aM 4 y.2 y.1.Locs) (.sl none 4 (y.1.Locs.map aM))→tG H (kX y) (cD y.1):=λH y b=>.cons (Br.refl _ _) (.cons (Br.refl _ _) (.cons b .nil))
theorem uR:∀(H H':aF) (y:aQ×OG),Fz H H' (awO aM 4 y.2 y.1.Locs) (.sl none 4 (y.1.Locs.map aM))→o5 H H' (kX y) (cD y.1):=λH H' y b=>.cons (Fz.refl _ _ _) (.cons (Fz.refl _ _ _) (.cons b .nil))
abbrev aV (g:cR) (e:List aA):Option cB×iE:=(g.t,.obj 44 (fl aH e g.sp))
abbrev aW (g:dF) (e:List aA):Option cB×iE:=(g.a.t,.obj 44 (fl jI (zg e g.gs) g.a.sp))
abbrev a8 (g:dF) (e:List aA):HL:=kA 81 aM (nl aA.Locs (zg e g.gs))
abbrev aN (g:cR) (e:List aR):Option cB×iE:=(g.t,.obj 49 (fl cG e g.sp))
abbrev bF (g:cR) (e:List aG):Option cB×iE:=(g.t,.obj 60 (fl bP e g.sp))
abbrev bM (g:dF) (e:List aG):Option cB×iE:=(g.a.t,.obj 60 (fl kD (zg e g.gs) g.a.sp))
abbrev bQ (g:dF) (e:List aG):HL:=kA 81 aM (nl aG.Locs (zg e g.gs))
abbrev fJ (g:cR) (e:List bI):Option cB×iE:=(g.t,.obj 81 (fl aM e g.sp))
abbrev bW (g:cR) (e:List aQ):Option cB×iE:=(g.t,.obj 99 (fl cD e g.sp))
abbrev bR (g:dF) (e:List aQ):Option cB×iE:=(g.a.t,.obj 99 (fl kX (zg e g.gs) g.a.sp))
abbrev bS (g:dF) (e:List aQ):HL:=kA 81 aM (nl aQ.Locs (zg e g.gs))
abbrev OC (k:cB) (q:Int) (a b c d:cR):Option cB×iE:=(some k,.obj 30 [.sc (.int .i64 q),aw a.t a.n a.cap,aw b.t b.n b.cap,aw c.t c.n c.cap,aw d.t d.n d.cap])
open Go.Vm
def lL {α:Type} (m:Nat) (p0:List α) (p1:α→Option Bool) (q0:Int):Option (Lp (Int) (Int)):=
 if (decide (q0 < (p0.length:Int)))=true then ((ix p0 q0).bind λx0=>(p1 x0).bind λy0=>if y0=true then (some (.ret q0)) else some (.go (IntKind.wrap .i64 (q0+1)))) else some (.brk q0)
def pN {α:Type} (m:Nat) (p0:List α) (p1:α→Option Bool):Option (Int):=
 after (aT (λs=>lL m p0 p1 s) m 0) λr0=>some (-1)
theorem ZB {α:Type} {c:α→List AV} (cz:∀y,(c y).length=4) {w:Nat} {p0:List α} {p1:α→Option Bool} {o:Int} (h:aF) {g_p0:cR} (ok_p0:bK g_p0 4 p0.length) (K0:bV h [(g_p0.t,.obj 60 (fl c (p0:List α) g_p0.sp))]) {p1F:Nat} {p1C:List AV} (p1B:aO Tryz.prog p1F=true) (p1H:∀x0 o h0,h9 h h0→p1 x0=some o→aL Tryz.prog p1F ([.agg (c x0)]++p1C) h0 (λr h'=>r= .sc (.bool o)∧h'=h0)) (m:pN w p0 p1=some o):
 aL Tryz.prog 103 [aZ g_p0,.fn (.func p1F) p1C] (hp h [(g_p0.t,.obj 60 (fl c (p0:List α) g_p0.sp))]) (λr h'=>r=nZ o∧h'=hp h [(g_p0.t,.obj 60 (fl c (p0:List α) g_p0.sp))]):=by
 refine tH K0 19 [.tmp 4] Tryz.func103 rfl rfl rfl rfl ?_
 unfold pN at m
 refine vs (v0 (vs (vs (v0 (bU (dR iJ ok_p0 rfl) ?_)))))
 refine iI m (σ:=Int) (λs=> [(g_p0.t,.obj 60 (fl c (p0:List α) g_p0.sp))]) (λs=>.c 0 (aZ g_p0) (.c 1 (.fn (.func p1F) p1C) (.c 7 (nZ (p0.length:Int)) (.c 8 (nZ s) .nil)))) (lx (.k4 .nil)) ?_ ?_
 rintro _ q0 x m
 replace m:lL w p0 p1 q0=some x:=m
 unfold lL at m
 refine vs (v0 (vs (v0 ?_)))
 apply vi m <;> intro c0 m
 refine v0 (vs (v0 (vs (v0 (vs (v0 ?_))))))
 obtain⟨x1,X0,m⟩:=aC m
 refine bU (cL X0 gJ ok_p0 rfl rfl) (vn (λu=>dY (fo:=0) (.agg (c x1)) X0 cz ok_p0 qR rfl (aI 0 u rfl) (λ_=>QH (cz _))) ?_)
 obtain⟨_,Y0,m⟩:=aC m
 refine vn (λu=>bZ (p1H _ _ _ (aS (List.nil_sublist _) u).1 Y0) rfl p1B rfl) (v0 ?_)
 apply vi m <;> intro c1 m
 refine vs (v0 (v0 ?_))
 refine fO m λm=> ?_
 obtain rfl:=eB m
 exact vr λu=>dX.of1 (.inl rfl) (fU _ _ (.sc (.int _ _)) rfl) (bG u [0] rfl).2 (bH.refl _ _) ⟨rfl,rfl⟩
 refine v0 (v0 ?_)
 exact fR m
 refine v0 ?_
 exact vN m
 rintro _ r0 m
 refine vs (v0 (v0 ?_))
 cases m
 exact vr λu=>dX.of1 (.inl rfl) (fU _ _ (.sc (.int _ _)) rfl) (bG u [0] rfl).2 (bH.refl _ _) ⟨rfl,rfl⟩
theorem JX {m:Nat} {α β:Type} (f:α→β) (xs:List α) (p:β→Option Bool):pN m (xs.map f) p=pN m xs (λx=>p (f x)):=by
 have h1:lL m (xs.map f) p=lL m xs (λx=>p (f x)):=by
   funext s; unfold lL; rw[List.length_map,T9]; cases ix xs s <;> rfl
 unfold pN
 simp only[h1]
theorem MX {m:Nat} {α:Type} {xs:List α} {gs:List OG} (hl:gs.length=xs.length) {p:α→Option Bool} {o:Int} (h:pN m xs p=some o):pN m (zg xs gs) (λx=>p x.1)=some o:=UA (F:=λl=>pN m l p) hl (JX Prod.fst (zg xs gs) p) h
def MY (m:Nat) (p0:aG) (c0:bE):Option (Bool):=
 some (p0.Seq==c0.Seq)
theorem ZC:aO Tryz.prog 177=true:=by kernel_rfl
theorem ZD {w:Nat} {p0:aG} {c0:bE} {o:Bool} (h:aF) {og0:OG} {c0K:cB} (c0H:h c0K=some (.obj 38 (aY c0))) (m:MY w p0 c0=some o):
 aL Tryz.prog 177 [.agg (kD (p0,og0)),.ptr c0K 0] h (λr h'=>r= .sc (.bool o)∧h'=h):=by
 refine fN 9 [.tmp 3] Tryz.func177 rfl rfl rfl rfl ?_
 unfold MY at m
 refine v ?_
 refine ve λu=>Q9 u rfl (by repeat (first | exact rfl | refine cE (f9 _ _ _ _) ?_ | refine cE rfl ?_)) λk2 K3=>qk K3 rfl ?_
 refine v (vl 0 _ bX rfl rfl rfl (vn (λu=>nG (nZ c0.Seq) bX rfl (jR u c0H) rfl) (v ?_)))
 cases m
 exact dQ rfl
def CD (m:Nat) (p0:aQ) (p1:Int):Option (Int):=
 some (IntKind.wrap .i64 (p0.Seq - p1))
theorem aFB {u:Nat} {p0:aQ} {p1:Int} {o:Int} (h:aF) (m:CD u p0 p1=some o):
 aL Tryz.prog 179 [.agg (cD p0),nZ p1] h (λr h'=>r=nZ o∧h'=h):=by
 refine fN 9 [.tmp 4] Tryz.func179 rfl rfl rfl rfl ?_
 unfold CD at m
 refine v ?_
 refine gG rfl rfl λk2 K3=> ?_
 refine v (vl 0 _ bX rfl rfl rfl (v ?_))
 cases m
 exact dQ rfl
theorem ZE:aO Tryz.prog 179=true:=by kernel_rfl
def sR (m:Nat) (p0:List aQ) (p1:Int) (p2:aQ→Int→Option Int) (q0:Int) (q1:Int):Option (Lp (Int×Int) (Int×Bool)):=
 if (decide (q0 < q1))=true then ((ix p0 (IntKind.wrap .i64 ((IntKind.wrap .u64 (IntKind.wrap .i64 (q0+q1))).fdiv (2 ^ (min (1:Int).toNat (IntKind.bits .u64)))))).bind λx0=>(p2 x0 p1).bind λy0=>after (if (decide (y0 < 0))=true then (some (.brk (IntKind.wrap .i64 ((IntKind.wrap .i64 ((IntKind.wrap .u64 (IntKind.wrap .i64 (q0+q1))).fdiv (2 ^ (min (1:Int).toNat (IntKind.bits .u64)))))+1),q1))) else some (.brk (q0,IntKind.wrap .i64 ((IntKind.wrap .u64 (IntKind.wrap .i64 (q0+q1))).fdiv (2 ^ (min (1:Int).toNat (IntKind.bits .u64)))))):Option (Lp (Int×Int) (Lp (Int×Int) (Int×Bool)))) λ⟨j0,j1⟩=>some (.go (j0,j1))) else some (.brk (q0,q1))
def MZ (m:Nat) (p0:List aQ) (p1:Int) (p2:aQ→Int→Option Int):Option (Int×Bool):=
 after (aT (λs=>sR m p0 p1 p2 s.1 s.2) m (0,(p0.length:Int))) λ⟨r0,r1⟩=>after (if (decide (r0 < (p0.length:Int)))=true then ((ix p0 r0).bind λx0=>(p2 x0 p1).bind λy0=>some (.brk (r0,(y0==0)))) else some (.brk (r0,false)):Option (Lp (Int×Bool) (Int×Bool))) λ⟨j0,j1⟩=>some (j0,j1)
theorem aFC {w:Nat} {p0:List aQ} {p1:Int} {p2:aQ→Int→Option Int} {o:Int×Bool} (h:aF) {p2F:Nat} {p2C:List AV} (p2B:aO Tryz.prog p2F=true) (p2H:∀x0 x1 o h0,h9 h h0→p2 x0 x1=some o→aL Tryz.prog p2F ([.agg (cD x0),nZ x1]++p2C) h0 (λr h'=>r=nZ o∧h'=h0)) (m:MZ w p0 p1 p2=some o):
 aL Tryz.prog 178 [.sl none 3 (List.map cD p0),nZ p1,.fn (.func p2F) p2C] h (λr h'=>r= .tup [nZ o.1,.sc (.bool o.2)]∧h'=h):=by
 refine fN 49 [.tmp 6,.tmp 7] Tryz.func178 rfl rfl rfl rfl ?_
 unfold MZ at m
 refine v (v (cZ nK rfl (v (vs ?_))))
 refine iI m (σ:=Int×Int) (λs=> []) (λs=>.c 0 (.sl none 3 (List.map cD p0)) (.c 1 (nZ p1) (.c 2 (.fn (.func p2F) p2C) (.c 8 (nZ (p0.length:Int)) (.c 9 (nZ s.1) (.c 10 (nZ s.2) .nil)))))) (lx (.k6 .nil)) ?_ ?_
 rintro _ ⟨q0,q1⟩ x m
 replace m:sR w p0 p1 p2 q0 q1=some x:=m
 unfold sR at m
 refine v (v ?_)
 apply vi m <;> intro c0 m
 refine v (v (v (v ?_)))
 refine vx m hU rfl rfl λx2 _ m=> ?_
 refine va (.agg (cD x2)) qS rfl rfl ?_
 obtain⟨_,Y0,m⟩:=aC m
 refine vn (λu=>bZ (p2H _ _ _ _ (aS (List.nil_sublist _) u).1 Y0) rfl p2B rfl) ?_
 refine fB m (σ:=Int×Int) (λs=> []) (λs=>.c 0 (.sl none 3 (List.map cD p0)) (.c 1 (nZ p1) (.c 2 (.fn (.func p2F) p2C) (.c 8 (nZ (p0.length:Int)) (.c 9 (nZ s.1) (.c 10 (nZ s.2) .nil)))))) (λx m=> ?_) ?_
 refine v ?_
 apply vi m <;> intro c1 m
 refine v ?_
 exact oZ m
 refine v ?_
 exact oZ m
 rintro _ ⟨j0,j1⟩ m
 exact oZ m
 refine v ?_
 exact WY m
 rintro _ ⟨r0,r1⟩ m
 refine vs ?_
 refine fB m (σ:=Int×Bool) (λs=> []) (λs=>.c 6 (nZ s.1) (.c 7 (.sc (.bool s.2)) .nil)) (λx m=> ?_) ?_
 refine v ?_
 apply vi m <;> intro b0 m
 rw[b0]
 refine vx m hU rfl rfl λx3 _ m=> ?_
 refine va (.agg (cD x3)) qS rfl rfl ?_
 obtain⟨_,Y1,m⟩:=aC m
 refine vn (λu=>bZ (p2H _ _ _ _ (aS (List.nil_sublist _) u).1 Y1) rfl p2B rfl) ?_
 exact qO m
 rw[b0]
 exact qO m
 rintro _ ⟨j2,j3⟩ m
 refine v ?_
 cases m
 exact vr2 rfl rfl
theorem ZF:aO Tryz.prog 178=true:=by kernel_rfl
end Go.Proofs.YtbbifdfldpfphaaGreat
namespace Go.Vm
section
variable {P:Program} {ops:Array Oper} {h h0:aF} {L:HL} {n:Nat} {kvs:KV} {l:List Oper} {ty:TypeId} {pos:String} {dP:Array Edge}
theorem M0 {K:AV→aF→Prop} {dst:Option Tmp} {s x:Operand} {t e:TypeId} {sz b:Nat} (ht:kH P t e sz b) {k:cB} {i m cap:Nat} {cs ys:List AV} (ha:dI n kvs s= .vw k i cap) (hk:h k=some (.obj e cs))
    (hs:AS h (dI n kvs x) m ys.length ys) (hl:ys.length=m*sz) (hroom:i+m≤cap) (hfit:i*sz+ys.length≤cs.length)
    (hK:K (.vw k (i+m) cap) (upd h k (some (.obj e (eG cs (i*sz) ys))))):
    i6 P ⟨dst,.call { callee:=.builtin .append,args:= #[s,x],argTypes:= #[t,t]},ty,pos,dP,none⟩ K (fm n kvs) h:=by
  obtain⟨ii,z,hii,hz,rfl,rfl,hzs,hsp⟩:=ht.inf
  intro E w a r hv Nx Qx hn
  have vs:=hv s (by simp[Op.operands,Call.operands])
  have vx:=hv x (by simp[Op.operands,Call.operands])
  rw[bN] at vs vx
  rw[ha] at vs
  simp only[VR] at vs
  obtain⟨g,hg,es,h1,h2⟩:=vs
  obtain⟨sa,sc,cv,ex,c1,c2,c3⟩:=hs E w _ r vx
  obtain⟨g',cur,f1,f2,f3,f4⟩:=r.obj _ _ _ hk
  rw[hg] at f1; cases f1
  have hlen:cs.length=cur.size:=by simpa using cX f3
  have hcl:ys.length=cv.length:=cX c1
  have hrun:=run_append_room (P:=P) w t ty e ii ht.ut hii g i cap cur f2 sa m sc cv (by rw[← hcl]; exact hl) c3 c2 hroom (by omega)
  have hv':cW E w (eG cs (i*ii.size) ys) (cur.toList.take (i*ii.size)++cv++cur.toList.drop (i*ii.size+cv.length)):=by
    unfold eG
    rw[hcl]
    exact cY (cY (fP _ f3) c1) (iF _ f3)
  have h1':∀u∈cur.toList.take (i*ii.size)++cv++cur.toList.drop (i*ii.size+cv.length),u.oneCell'=true:=by
    intro u hu
    rcases List.mem_append.1 hu with hu | hu
    · rcases List.mem_append.1 hu with hu | hu
      · exact f4 u (List.mem_of_mem_take hu)
      · exact c2 u hu
    · exact f4 u (List.mem_of_mem_drop hu)
  obtain⟨k1,k2⟩:=r.set_obj (cur:=(cur.toList.take (i*ii.size)++cv++cur.toList.drop (i*ii.size+cv.length)).toArray) hk hg
    (w':=w.setRow g (cur.toList.take (i*ii.size)++cv++cur.toList.drop (i*ii.size+cv.length)).toArray)
    (setRow_heap w g cur _ e _ f2) (λg' hg'=>setRow_other w g g' _ hg') (by simp) rfl rfl rfl (by simpa using hv') (by simpa using h1')
  unfold Oper.wp
  have hex:(execOp a.eval ⟨dst,.call { callee:=.builtin .append,args:= #[s,x],argTypes:= #[t,t]},ty,pos,dP,none⟩).run P w= .ok (.value (.slice (some ⟨g,0,none⟩) (i+m) cap)) (w.setRow g (cur.toList.take (i*ii.size)++cv++cur.toList.drop (i*ii.size+cv.length)).toArray):=by
    simp only[execOp,resolve,invoke,builtin,List.map_toArray,List.map_cons,List.map_nil,es,ex,Sem.run_bind,Sem.run_pure,Result.andThen_ok,hrun]
  rw[hex]
  refine hn (.vw k (i+m) cap) _ _ E _ k1 k2 ?_ hK
  simp only[VR]
  exact⟨g,hg,rfl,hroom,h2⟩
theorem M2 {K:AV→aF→Prop} {dst:Option Tmp} {s x:Operand} {t e:TypeId} {sz b:Nat} (ht:kH P t e sz b) {k:cB} {i cap:Nat} (ha:dI n kvs s= .vw k i cap) (hx:dI n kvs x= .sl none sz []) (hK:K (.vw k i cap) h):
    i6 P ⟨dst,.call { callee:=.builtin .append,args:= #[s,x],argTypes:= #[t,t]},ty,pos,dP,none⟩ K (fm n kvs) h:=by
  intro E w a r hv Nx Qx hn
  have vs:=hv s (by simp[Op.operands,Call.operands])
  have vx:=hv x (by simp[Op.operands,Call.operands])
  rw[bN] at vs vx
  rw[ha] at vs; rw[hx] at vx
  have vs2:=vs
  simp only[VR] at vs vx
  obtain⟨g,hg,es,h1,h2⟩:=vs
  obtain⟨a0,cx,ex, -⟩:=vx
  have hr:=iG (P:=P) (w:=w) (ty:=ty) ht (.inr ⟨_,cap,es,h1⟩) ex
  unfold Oper.wp
  rw[gM rfl hr]
  exact hn _ _ _ E _ (eR.refl E w) r vs2 hK
theorem UF {dst:Option Tmp} {s:Nat} {lo hi mx:Operand} {t:TypeId} {k:cB} {m cap sz:Nat} {q q2 q3:IntKind} {i j u:Int} (h0':0≤i) (h1':i≤j) (h2':j≤u) (h3':u≤(cap:Int)) (ht:m8 P t=some sz) (ha:dI n kvs (.tmp s)= .vw k m cap) (hb:dI n kvs lo= .sc (.int q i)) (hc:dI n kvs hi= .sc (.int q2 j)) (hd:dI n kvs mx= .sc (.int q3 u)):
    eN P ⟨dst,.slice t (.tmp s) (some lo) (some hi) (some mx),ty,pos,dP,none⟩ .any (fm n kvs) h:=by
  obtain⟨e,hu,he⟩:=fQ ht
  refine eA (x:=.any) (λE w ac r hv=> ?_) ⟨rfl,rfl⟩
  have va:=hv (.tmp s) (by simp[Op.operands])
  have vb:=hv lo (by simp[Op.operands])
  have vc:=hv hi (by simp[Op.operands])
  have vd:=hv mx (by simp[Op.operands])
  rw[bN,ha] at va; rw[bN,hb] at vb; rw[bN,hc] at vc; rw[bN,hd] at vd
  simp only[VR] at va vb vc vd
  obtain⟨g,hg,e1,e2,e3⟩:=va
  have hm:u≤9223372036854775807:=by simp only[maxLen] at e3; omega
  have bnd:∀(q:IntKind) (z:Int) (lim:Nat) (code:BoundsCode),0≤z→z≤(lim:Int)→(Instr.sliceBound (.int q z) lim code).run P w= .ok z.toNat w:=by
    intro q z lim code hz hl
    have n1:0≤z∧z≤(lim:Int):=⟨hz,hl⟩
    simp only[Instr.sliceBound,asIntOf,Sem.run_bind,Sem.run_pure,Result.andThen_ok,if_pos n1]
  have hb1:=bnd q3 u cap BoundsCode.slice3Acap (by omega) h3'
  have hb2:=bnd q2 j u.toNat BoundsCode.slice3B (by omega) (by omega)
  have hb3:=bnd q i j.toNat BoundsCode.slice3C h0' (by omega)
  refine⟨.slice (if u.toNat=i.toNat then some ⟨g,0,none⟩ else some (Addr.add ⟨g,0,none⟩ (i.toNat*sz))) (j.toNat - i.toNat) (u.toNat - i.toNat), ?_,by simp only[VR]⟩
  simp[execOp,e1,vb,vc,vd,Instr.sliceAt,Instr.slice,Instr.sliceBounds,run_underlying hu,cM he,hb1,hb2,hb3]
theorem RU {dst:Option Tmp} {s:Nat} {lo hi:Operand} {t:TypeId} {k:cB} {m cap sz:Nat} {q q2:IntKind} {i j:Int} (h0':0≤i) (h1':i < j) (h2':j≤(cap:Int)) (ht:m8 P t=some sz) (ha:dI n kvs (.tmp s)= .vw k m cap) (hb:dI n kvs lo= .sc (.int q i)) (hc:dI n kvs hi= .sc (.int q2 j)):
    eN P ⟨dst,.slice t (.tmp s) (some lo) (some hi) none,ty,pos,dP,none⟩ (.view k (i.toNat*sz) (j.toNat - i.toNat)) (fm n kvs) h:=by
  obtain⟨e,hu,he⟩:=fQ ht
  refine eA (x:=.view k (i.toNat*sz) (j.toNat - i.toNat)) (λE w ac r hv=> ?_) ⟨rfl,rfl⟩
  have va:=hv (.tmp s) (by simp[Op.operands])
  have vb:=hv lo (by simp[Op.operands])
  have vc:=hv hi (by simp[Op.operands])
  rw[bN,ha] at va; rw[bN,hb] at vb; rw[bN,hc] at vc
  simp only[VR] at va vb vc
  obtain⟨g,hg,e1,e2,e3⟩:=va
  have hbd:=fV (P:=P) (w:=w) (sl:=true) (len:=m) (cap:=cap) (l:=i) (h:=j) (lo:=some (.sc (.int q i))) (hi:=some (.sc (.int q2 j))) (lv:=some (.int q i)) (hv:=some (.int q2 j)) rfl rfl (E:=E) (λx hx=>by cases hx; exact⟨_,rfl,by simp only[VR]⟩) nofun
    (λx hx=>by cases hx; exact⟨_,rfl,by simp only[VR]⟩) nofun h0' (by omega) h2'
  have hne:¬cap=i.toNat:=by omega
  refine⟨.slice (some ⟨g,i.toNat*sz,none⟩) (j.toNat - i.toNat) (cap - i.toNat), ?_, ?_⟩
  · simp[execOp,e1,vb,vc,Instr.sliceAt,Instr.slice,run_underlying hu,hbd,cM he,hne,Addr.add_lit]
  · simp only[VR]
    exact⟨g,cap - i.toNat,hg,rfl,by omega,by omega⟩
theorem ZG {dst:Option Tmp} {s:Nat} {lo:Operand} {t:TypeId} {k:cB} {m cap sz:Nat} {q:IntKind} (ht:m8 P t=some sz) (ha:dI n kvs (.tmp s)= .vw k m cap) (hb:dI n kvs lo= .sc (.int q (m:Int))):
    eN P ⟨dst,.slice t (.tmp s) (some lo) none none,ty,pos,dP,none⟩ (.sl none sz []) (fm n kvs) h:=by
  obtain⟨e,hu,he⟩:=fQ ht
  refine eA (x:=.sl none sz []) (λE w ac r hv=> ?_) ⟨rfl,rfl⟩
  have va:=hv (.tmp s) (by simp[Op.operands])
  have vb:=hv lo (by simp[Op.operands])
  rw[bN,ha] at va; rw[bN,hb] at vb
  simp only[VR] at va vb
  obtain⟨g,hg,e1,e2,e3⟩:=va
  have hbd:=fV (P:=P) (w:=w) (sl:=true) (len:=m) (cap:=cap) (l:=(m:Int)) (h:=m) (lo:=some (.sc (.int q (m:Int)))) (hi:=none) (lv:=some (.int q (m:Int))) (hv:=none) rfl rfl (E:=E) (λx hx=>by cases hx; exact⟨_,rfl,by simp only[VR]⟩) nofun
    nofun (λ_=>rfl) (by omega) (by omega) (by omega)
  refine⟨.slice (if cap=m then some ⟨g,0,none⟩ else some (Addr.add ⟨g,0,none⟩ (m*sz))) 0 (cap - m), ?_, ?_⟩
  · simp[execOp,e1,vb,Instr.sliceAt,Instr.slice,run_underlying hu,hbd,cM he]
  · simp only[VR]
    exact⟨_,_,rfl,Nat.zero_le _,by omega,.inl trivial,nofun,nofun⟩
def JY {α:Type} (xs:List α) (i j:Int):Option (List α):=if 0≤i∧i < j∧j≤(xs.length:Int) then some (xs.take i.toNat++xs.drop j.toNat) else none
theorem JZ {α:Type} {xs o:List α} {i j:Int} (h:JY xs i j=some o):0≤i∧i < j∧j≤(xs.length:Int)∧o=xs.take i.toNat++xs.drop j.toNat:=by
 unfold JY at h
 split at h
 ·rename_i q; cases h; exact⟨q.1,q.2.1,q.2.2,rfl⟩
 ·cases h
theorem EQ {α:Type} {c:α→List AV} {sz:Nat} (hc:∀y,(c y).length=sz) {xs:List α} {m:Nat} (hm:m≤xs.length) (sp:List AV):(fl c xs sp).drop (m*sz)=fl c (xs.drop m) sp:=by
 obtain⟨q1,q2,q3,q4⟩:=nP hc hm sp
 rw[q1,← q2,List.drop_left]
 rfl
theorem G6 {α:Type} {c:α→List AV} {sz:Nat} (hc:∀y,(c y).length=sz) {xs:List α} {i j:Nat} (hij:i≤j) (hj:j≤xs.length) (sp:List AV):
    eG (fl c xs sp) (i*sz) ((xs.drop j).map c).flatten=fl c (xs.take i++xs.drop j++xs.drop (i+(xs.length - j))) sp:=by
  obtain⟨q1,q2,q3,q4⟩:=nP hc (i:=i) (by omega:i≤xs.length) sp
  unfold eG
  rw[jG hc,List.length_drop,← Nat.add_mul,EQ hc (by omega),q1,← q2,List.take_left]
  unfold fl
  simp[List.map_append,List.flatten_append]
end
end Go.Vm
namespace Go.Proofs.YtbbifdfldpfphaaGreat
open Go.Vm
def mV (m:Nat) (p0:List aG) (p1:aG→Option Bool) (q0:Int):Option (Lp (Int) (Int)):=
 if (decide (q0 < (p0.length:Int)))=true then ((ix p0 q0).bind λx0=>(p1 x0).bind λy0=>if y0=true then (some (.ret q0)) else some (.go (IntKind.wrap .i64 (q0+1)))) else some (.brk q0)
def u6 (m:Nat) (p0:List aG) (p1:aG→Option Bool):Option (Int):=
 after (aT (λs=>mV m p0 p1 s) m 0) λr0=>some (-1)
theorem RW {w:Nat} {p0:List aG} {p1:aG→Option Bool} {o:Int} (h:aF) {g_p0:cR} (ok_p0:bK g_p0 4 p0.length) (K0:bV h [(dN g_p0 p0)]) {p1F:Nat} {p1C:List AV} (p1B:aO Tryz.prog p1F=true) (p1H:∀x0 o h0,h9 h h0→p1 x0=some o→aL Tryz.prog p1F ([.agg (bP x0)]++p1C) h0 (λr h'=>r= .sc (.bool o)∧h'=h0)) (m:u6 w p0 p1=some o):
 aL Tryz.prog 103 [aZ g_p0,.fn (.func p1F) p1C] (hp h [(dN g_p0 p0)]) (λr h'=>r=nZ o∧h'=hp h [(dN g_p0 p0)]):=by
 refine tH K0 19 [.tmp 4] Tryz.func103 rfl rfl rfl rfl ?_
 unfold u6 at m
 refine vs (v0 (vs (vs (v0 (bU (dR iJ ok_p0 rfl) ?_)))))
 refine iI m (σ:=Int) (λs=> [(dN g_p0 p0)]) (λs=>.c 0 (aZ g_p0) (.c 1 (.fn (.func p1F) p1C) (.c 7 (nZ (p0.length:Int)) (.c 8 (nZ s) .nil)))) (lx (.k4 .nil)) ?_ ?_
 rintro _ q0 x m
 replace m:mV w p0 p1 q0=some x:=m
 unfold mV at m
 refine vs (v0 (vs (v0 ?_)))
 apply vi m <;> intro c0 m
 refine v0 (vs (v0 (vs (v0 (vs (v0 ?_))))))
 obtain⟨x1,X0,m⟩:=aC m
 refine bU (cL X0 gJ ok_p0 rfl rfl) (vn (λu=>dY (fo:=0) (.agg (bP x1)) X0 eM ok_p0 qR rfl (aI 0 u rfl) (λ_=>rfl)) ?_)
 obtain⟨_,Y0,m⟩:=aC m
 refine vn (λu=>bZ (p1H _ _ _ (aS (List.nil_sublist _) u).1 Y0) rfl p1B rfl) (v0 ?_)
 apply vi m <;> intro c1 m
 refine vs (v0 (v0 ?_))
 refine fO m λm=> ?_
 obtain rfl:=eB m
 exact vr λu=>dX.of1 (.inl rfl) (fU _ _ (.sc (.int _ _)) rfl) (bG u [0] rfl).2 (bH.refl _ _) ⟨rfl,rfl⟩
 refine v0 (v0 ?_)
 exact fR m
 refine v0 ?_
 exact vN m
 rintro _ r0 m
 refine vs (v0 (v0 ?_))
 cases m
 exact vr λu=>dX.of1 (.inl rfl) (fU _ _ (.sc (.int _ _)) rfl) (bG u [0] rfl).2 (bH.refl _ _) ⟨rfl,rfl⟩
def VV (m:Nat) (p0:aB) (p1:aP):Option (Int×(List aR)):=
 after (if (decide (p1.Vol < 0))=true then (some (.brk true)) else if (decide ((p0.Vols.length:Int)≤p1.Vol))=true then (some (.brk true)) else (ix p0.Vols p1.Vol).bind λx0=>some (.brk (x0.State !=3)):Option (Lp (Bool) (Int×(List aR)))) λj0=>if j0=true then (some (1,p0.Vols)) else (ix p0.Vols p1.Vol).bind λx1=>(ix (p0.Vols.set p1.Vol.toNat ({ x1 with State:=1})) p1.Vol).bind λx2=>(ix (p0.Vols.set p1.Vol.toNat ({ x1 with State:=1})) p1.Vol).bind λx3=>some (0,(p0.Vols.set p1.Vol.toNat ({ x1 with State:=1})).set p1.Vol.toNat ({ x3 with Epoch:=IntKind.wrap .i64 (x2.Epoch+1)}))
theorem W76 {w:Nat} {p0:aB} {p1:aP} {o:Int×(List aR)} (h:aF) {p0K:cB} {gS:cR} (ok_Snaps:bK gS 4 p0.Snaps.length) {gC:cR} (oC:bK gC 35 p0.Chunks.length) {gE:cR} (oE:bK gE 3 p0.Exps.length) {gV:cR} (oV:bK gV 4 p0.Vols.length) (K0:bV h [OC p0K p0.Seq gS gC gE gV,bF gS p0.Snaps,aV gC p0.Chunks,bW gE p0.Exps,aN gV p0.Vols]) (m:VV w p0 p1=some o):
 aL Tryz.prog 76 [.ptr p0K 0,.agg (aD p1)] (hp h [OC p0K p0.Seq gS gC gE gV,bF gS p0.Snaps,aV gC p0.Chunks,bW gE p0.Exps,aN gV p0.Vols]) (λr h'=>∃g_Vols':cR,bK g_Vols' 4 (o.2:List aR).length∧bV h [OC p0K p0.Seq gS gC gE g_Vols',bF gS p0.Snaps,aV gC p0.Chunks,bW gE p0.Exps,aN g_Vols' o.2]∧r=nZ o.1∧h'=hp h [OC p0K p0.Seq gS gC gE g_Vols',bF gS p0.Snaps,aV gC p0.Chunks,bW gE p0.Exps,aN g_Vols' o.2]):=by
 refine tH K0 50 [.tmp 4] Tryz.func76 rfl rfl rfl rfl ?_
 unfold VV at m
 refine vs (v0 ?_)
 refine gG rfl rfl λk2 K3=> ?_
 refine vs (vs ?_)
 refine fB m (σ:=Bool) (λs=> [(some k2,.obj 62 (aD p1)),OC p0K p0.Seq gS gC gE gV,bF gS p0.Snaps,aV gC p0.Chunks,bW gE p0.Exps,aN gV p0.Vols]) (λs=>.c 0 (.ptr p0K 0) (.c 3 (.ptr k2 0) (.c 29 (.sc (.bool s)) .nil))) (λx m=> ?_) ?_
 refine v0 (vU (by kernel_rfl) (dM fI rfl rfl (vl 0 _ bX rfl rfl rfl ?_)))
 apply vi m <;> intro b0 m
 rw[b0]
 exact gH m
 rw[b0]
 refine dM fI rfl rfl (vl 0 _ bX rfl rfl rfl (jL rfl (dM fS rfl rfl (vl 1 (aZ gV) iK rfl rfl rfl (bU (dR qP oV rfl) ?_)))))
 apply vi m <;> intro b1 m
 rw[b1]
 exact gH m
 rw[b1]
 refine jL rfl (dM fS rfl rfl (vl 1 (aZ gV) iK rfl rfl rfl (dM fI rfl rfl (vl 0 _ bX rfl rfl rfl ?_))))
 obtain⟨x0,X0,m⟩:=aC m
 refine bU (cL X0 lG oV rfl rfl) (bU (cS (bK.ne oV X0) mR rfl rfl) (vn (λu=>dY (fo:=2) (nZ x0.State) X0 eC oV bX rfl (aI 5 u rfl) (λ_=>rfl)) ?_))
 exact gH m
 rintro _ j0 m
 refine v0 ?_
 apply vi m <;> intro c0 m
 refine vs (v0 (v0 ?_))
 cases m
 exact vr λu=>dX.of1 (.inl rfl) (fU _ _ (.sc (.int _ _)) rfl) (bG u [1,2,3,4,5] rfl).2 (bH.refl _ _) ⟨gV,oV,(bG u [1,2,3,4,5] rfl).1,rfl,rfl⟩
 refine v0 (vs (v0 ?_))
 refine vz [(1000000,some p0K,.obj 30 ([nZ p0.Seq,aZ gS,aZ gC,aZ gE,aZ gV])),(1000000,some k2,.obj 62 (aD p1))] mixed (λu=>⟨λ_=>aI 1 u rfl,λ_=>aI 0 u rfl,trivial⟩) λu=> ?_
 refine zP 0 rfl rfl ?_
 refine zN 1 rfl rfl ?_
 refine zF 2 rfl fS rfl ?_
 refine zL 3 0 (aZ gV) rfl iK rfl rfl rfl ?_
 refine zF 4 rfl fI rfl ?_
 refine zL 5 1 (nZ p1.Vol) rfl bX rfl rfl rfl ?_
 obtain⟨x1,X1,m⟩:=aC m
 refine zC 6 rfl (cL X1 lG oV rfl rfl) ?_
 refine zC 7 rfl (cS (bK.ne oV X1) mR rfl rfl) ?_
 refine zE 8 rfl (cI (fo:=2) ({ x1 with State:=1}:aR) 5 u X1 eC oV rfl rfl rfl rfl (cU.refl _ _) yT rfl rfl λK1=>⟨⟨λ_=>aI 1 K1 rfl,λ_=>aI 0 K1 rfl,trivial⟩, ?_⟩)
 refine zX (qk (f:=PQ 37 _ _ _ _ _ _ _ _ _) K1 rfl ?_)
 refine vs (v0 ?_)
 refine vz [(1000000,some p0K,.obj 30 ([nZ p0.Seq,aZ gS,aZ gC,aZ gE,aZ gV])),(1000000,some k2,.obj 62 (aD p1)),(12,gV.t,.obj 49 (fl cG (p0.Vols.set p1.Vol.toNat ({ x1 with State:=1}):List aR) gV.sp))] mixed (λu=>⟨λ_=>aI 1 u rfl,λ_=>aI 0 u rfl,λ_=>aI 5 u rfl,trivial⟩) λu=> ?_
 refine zP 0 rfl rfl ?_
 refine zN 1 rfl rfl ?_
 refine zF 2 rfl fS rfl ?_
 refine zL 3 0 (aZ gV) rfl iK rfl rfl rfl ?_
 refine zF 4 rfl fI rfl ?_
 refine zL 5 1 (nZ p1.Vol) rfl bX rfl rfl rfl ?_
 obtain⟨x2,X2,m⟩:=aC m
 refine zC 6 rfl (cL X2 lG (bK.set oV) rfl rfl) ?_
 refine zC 7 rfl (cS (bK.ne (bK.set oV) X2) BZ rfl rfl) ?_
 refine vL 8 rfl (λ_ _ hi hB=>dY (fo:=1) (nZ x2.Epoch) X2 eC (bK.set oV) bX rfl (fW.get 2 hi rfl (hB 12 (by kernel_rfl))) (λ_=>rfl)) ?_
 refine zC 9 rfl (lE rfl rfl rfl trivial) ?_
 obtain⟨x3,X3,m⟩:=aC m
 refine zC 10 rfl (cL X3 lG (bK.set oV) rfl rfl) ?_
 refine zC 11 rfl (cS (bK.ne (bK.set oV) X3) BZ rfl rfl) ?_
 refine zE 12 rfl (cI (fo:=1) ({ x3 with Epoch:=IntKind.wrap .i64 (x2.Epoch+1)}:aR) 5 u X3 eC (bK.set oV) rfl rfl rfl rfl (cU.refl _ _) yT rfl rfl λK2=>⟨⟨λ_=>aI 1 K2 rfl,λ_=>aI 0 K2 rfl,λe=>absurd e (by decide),trivial⟩, ?_⟩)
 refine zX (qk (f:=JD 49 _ _ _ _ _ _ _ _ _ _ _ _ _) K2 rfl ?_)
 refine vs (v0 (v0 ?_))
 cases m
 exact vr λu=>dX.of1 (.inl rfl) (fU _ _ (.sc (.int _ _)) rfl) (bG u [1,2,3,4,5] rfl).2 (bH.refl _ _) ⟨gV,(bK.set (bK.set oV)),(bG u [1,2,3,4,5] rfl).1,rfl,rfl⟩
theorem aFD:aO Tryz.prog 76=true:=by kernel_rfl
def M3 (m:Nat) (p0:aG) (c0:aP):Option (Bool):=
 some (p0.Seq==c0.Seq)
theorem aFE {w:Nat} {p0:aG} {c0:aP} {o:Bool} (h:aF) {c0K:cB} (c0H:h c0K=some (.obj 62 (aD c0))) (m:M3 w p0 c0=some o):
 aL Tryz.prog 118 [.agg (bP p0),.ptr c0K 0] h (λr h'=>r= .sc (.bool o)∧h'=h):=by
 refine fN 9 [.tmp 3] Tryz.func118 rfl rfl rfl rfl ?_
 unfold M3 at m
 refine v ?_
 refine gG rfl rfl λk2 K3=> ?_
 refine v (vl 0 _ bX rfl rfl rfl (vn (λu=>nG (nZ c0.Seq) bX rfl (jR u c0H) rfl) (v ?_)))
 cases m
 exact dQ rfl
theorem ZH:aO Tryz.prog 118=true:=by kernel_rfl
def sS (m:Nat) (p0:aB) (q0:List aA) (q1:Int):Option (Lp ((List aA)×Int) ((List aA))):=
 if (decide (q1 < (p0.Chunks.length:Int)))=true then ((ix p0.Chunks q1).bind λx0=>(YB m ({ Seq:=p0.Seq,Snaps:=p0.Snaps,Chunks:=p0.Chunks,Exps:=p0.Exps,Vols:=p0.Vols}:aB) x0.Id).bind λy0=>after (if (!y0)=true then (some (.brk { { x0 with Staged:=false} with Data:=([]:List Int)})) else some (.brk x0):Option (Lp (aA) (Lp ((List aA)×Int) ((List aA))))) λj0=>after (if j0.Staged=true then (some (.brk true)) else some (.brk (decide (0 < (j0.Locs.length:Int)))):Option (Lp (Bool) (Lp ((List aA)×Int) ((List aA))))) λj1=>after (if j1=true then ((app q0 ([j0]:List aA)).bind λz0=>some (.brk z0)) else some (.brk q0):Option (Lp ((List aA)) (Lp ((List aA)×Int) ((List aA))))) λj2=>some (.go (j2,IntKind.wrap .i64 (q1+1)))) else some (.brk (q0,q1))
def G7 (m:Nat) (p0:aB):Option ((List aA)):=
 after (aT (λs=>sS m p0 s.1 s.2) m ([],0)) λ⟨r0,r1⟩=>some r0
theorem ZI {w:Nat} {p0:aB} {o:(List aA)} (h:aF) {p0K:cB} {gS:cR} (ok_Snaps:bK gS 4 p0.Snaps.length) {gC:cR} (oC:bK gC 35 p0.Chunks.length) {gE:cR} (oE:bK gE 3 p0.Exps.length) {gV:cR} (oV:bK gV 4 p0.Vols.length) (K0:bV h [OC p0K p0.Seq gS gC gE gV,bF gS p0.Snaps,aV gC p0.Chunks,bW gE p0.Exps,aN gV p0.Vols]) (m:G7 w p0=some o):
 aL Tryz.prog 120 [.ptr p0K 0] (hp h [OC p0K p0.Seq gS gC gE gV,bF gS p0.Snaps,aV gC p0.Chunks,bW gE p0.Exps,aN gV p0.Vols]) (λr h'=>∃g_Chunks':cR,bK g_Chunks' 35 (o:List aA).length∧bV h [OC p0K p0.Seq gS g_Chunks' gE gV,bF gS p0.Snaps,aV g_Chunks' o,bW gE p0.Exps,aN gV p0.Vols]∧r= .tup []∧h'=hp h [OC p0K p0.Seq gS g_Chunks' gE gV,bF gS p0.Snaps,aV g_Chunks' o,bW gE p0.Exps,aN gV p0.Vols]):=by
 refine tH K0 40 [] Tryz.func120 rfl rfl rfl rfl ?_
 unfold G7 at m
 refine vs (v0 (vs (vs (v0 (jL rfl (dM dZ rfl rfl (vl 0 (aZ gC) eD rfl rfl rfl (bU (dR hM oC rfl) (pU (FE (.obj 44 (fl aH ([]:List aA) g0.sp)) 2 (aZ g0) (fZ _)) ?_)))))))))
 refine nC m (σ:=(List aA)×Int) (τ:=cR) (λg s=> [aV g s.1,OC p0K p0.Seq gS gC gE gV,bF gS p0.Snaps,aV gC p0.Chunks,bW gE p0.Exps,aN gV p0.Vols]) (λg s=>bK g 35 (s.1:List aA).length) (λg s=>.c 0 (.ptr p0K 0) (.c 2 (aZ g) (.c 8 (aZ gC) (.c 9 (nZ (p0.Chunks.length:Int)) (.c 10 (nZ s.2) .nil))))) g0 (bK.g0 35) (lx (.k5 .nil)) ?_ ?_
 rintro ag0 ⟨q0,q1⟩ x O0 m
 replace m:sS w p0 q0 q1=some x:=m
 unfold sS at m
 refine vs (v0 (vs (v0 ?_)))
 apply vi m <;> intro c0 m
 refine v0 (vs (v0 (vs (v0 ?_))))
 obtain⟨x0,X0,m⟩:=aC m
 refine bU (cL X0 eU oC rfl rfl) (vn (λu=>dY (fo:=0) (.agg (aH x0)) X0 cO oC lS rfl (aI 3 u rfl) (λ_=>rfl)) ?_)
 refine ve λu=>bD (bJ jX++(KK:List AV)) u nE rfl rfl λk174 K1=>qk K1 rfl ?_
 refine ve λu=>aK 0 (aH x0) u rfl rfl rfl rfl xD rfl rfl λK2=>qk K2 rfl ?_
 refine vs (vs (v0 (vU (by kernel_rfl) (jL rfl (vl 2 (.agg ([nZ p0.Seq,aZ gS,aZ gC,aZ gE,aZ gV])) eV rfl rfl rfl (dM n4 rfl rfl (vl 0 (.agg (bJ x0.Id)) fK rfl rfl rfl ?_)))))))
 obtain⟨_,Y0,m⟩:=aC m
 refine vn (λu=>bZ (fH (.cons (Br.agg (.cons (Br.refl _ _) (.cons (Br.aw 3 eM ok_Snaps u rfl) (.cons (Br.aw 4 cO oC u rfl) (.cons (Br.aw 5 fM oE u rfl) (.cons (Br.aw 6 eC oV u rfl) .nil)))))) (.cons (Br.refl _ _) .nil)) rfl (W22 _ Y0)) rfl aDX rfl) ?_
 refine fB m (σ:=aA) (λs=> [(some k174,.obj 44 (aH s)),aV ag0 q0,OC p0K p0.Seq gS gC gE gV,bF gS p0.Snaps,aV gC p0.Chunks,bW gE p0.Exps,aN gV p0.Vols]) (λs=>.c 0 (.ptr p0K 0) (.c 2 (aZ ag0) (.c 4 (.ptr k174 0) (.c 8 (aZ gC) (.c 9 (nZ (p0.Chunks.length:Int)) (.c 10 (nZ q1) .nil)))))) (λx m=> ?_) ?_
 refine v0 ?_
 apply vi m <;> intro c1 m
 refine v0 (dM n5 rfl rfl ?_)
 refine ve λu=>aK 0 (aH { x0 with Staged:=false}) u rfl rfl rfl rfl VL rfl rfl λK3=>qk K3 rfl ?_
 refine dM jO rfl rfl ?_
 refine ve λu=>w7 0 (aH { { x0 with Staged:=false} with Data:=([]:List Int)}) u rfl rfl rfl rfl (.cons (aX _) .nil) BY rfl rfl λK4=>qk K4 rfl ?_
 exact oZ m
 refine v0 ?_
 exact oZ m
 rintro _ j0 m
 refine vs ?_
 refine fB m (σ:=Bool) (λs=> [(some k174,.obj 44 (aH j0)),aV ag0 q0,OC p0K p0.Seq gS gC gE gV,bF gS p0.Snaps,aV gC p0.Chunks,bW gE p0.Exps,aN gV p0.Vols]) (λs=>.c 0 (.ptr p0K 0) (.c 2 (aZ ag0) (.c 4 (.ptr k174 0) (.c 8 (aZ gC) (.c 9 (nZ (p0.Chunks.length:Int)) (.c 10 (nZ q1) (.c 30 (.sc (.bool s)) .nil))))))) (λx m=> ?_) ?_
 refine v0 (dM n5 rfl rfl (vl 0 _ BW rfl rfl rfl ?_))
 apply vi m <;> intro b0 m
 rw[b0]
 exact p8 m
 rw[b0]
 refine dM iW rfl rfl (vl 0 _ e8 rfl rfl rfl (cZ iC rfl ?_))
 exact p8 m
 rintro _ j1 m
 refine o6 m (σ:=(List aA)) (τ:=cR) (λg s=> [(some k174,.obj 44 (aH j0)),aV g s,OC p0K p0.Seq gS gC gE gV,bF gS p0.Snaps,aV gC p0.Chunks,bW gE p0.Exps,aN gV p0.Vols]) (λg s=>bK g 35 (s:List aA).length) (λg s=>.c 0 (.ptr p0K 0) (.c 2 (aZ g) (.c 8 (aZ gC) (.c 9 (nZ (p0.Chunks.length:Int)) (.c 10 (nZ q1) .nil))))) (λx m=> ?_) ?_
 refine v0 ?_
 apply vi m <;> intro c2 m
 refine v0 (vl 0 (.agg (aH j0)) lS rfl rfl rfl (bU (eO (List.map aH ([j0]:List aA)) lF rfl rfl rfl rfl) ?_))
 obtain⟨z0,Z0,m⟩:=aC m
 refine ve λu=>f8 (c:=aH) 1 Z0 lF rfl nE rfl cO rfl rfl O0 u rfl λag1 O1 K5=>qk K5 rfl ?_
 exact eY m ag1 O1 (lx (.k5 .nil))
 refine v0 ?_
 exact eY m ag0 O0 (lx (.k5 .nil))
 rintro ag2 j2 O2 m
 refine v0 ?_
 exact eY m ag2 O2 (kP [1,2,3,4,5,6] rfl rfl (.k5 .nil))
 refine v0 ?_
 exact lA m ag0 O0 (lx (.k5 .nil))
 rintro ag3 ⟨r0,r1⟩ t0 m
 refine v0 (jL rfl (dM dZ rfl rfl ?_))
 refine ve λu=>aK 1 ([nZ p0.Seq,aZ gS,aZ ag3,aZ gE,aZ gV]) u rfl rfl (cC rfl) (cE (bY _ _ _) rfl) yX rfl rfl λK6=>qk K6 rfl ?_
 obtain rfl:=eB m
 exact vr λu=>dX.zero (.inr rfl) (bG u [1,2,0,4,5] rfl).2 ⟨ag3,t0,(bG u [1,2,0,4,5] rfl).1,rfl,rfl⟩
theorem RX:aO Tryz.prog 120=true:=by kernel_rfl
theorem aFF {α:Type} {c:α→List AV} (hc:∀y,(c y).length=4) {p0 o:List α} {p1 p2:Int} (h:aF) {g:cR} (ok:bK g 4 p0.length) (K0:bV h [(g.t,.obj 60 (fl c p0 g.sp))]) (u:JY p0 p1 p2=some o):
 aL Tryz.prog 119 [aZ g,nZ p1,nZ p2] (hp h [(g.t,.obj 60 (fl c p0 g.sp))]) (λr h'=>∃g:cR,bK g 4 o.length∧bV h [(g.t,.obj 60 (fl c o g.sp))]∧r=aZ g∧h'=hp h [(g.t,.obj 60 (fl c o g.sp))]):=by
 obtain⟨i0,i1,i2,ho⟩:=JZ u
 obtain⟨gt,gn,cap,sp⟩:=g
 have hne:gt≠none:=λe=>by have:=ok.nil e; omega
 obtain⟨k,rfl⟩:∃k,gt=some k:=by cases gt with
 | none=>exact absurd rfl hne
 | some k=>exact⟨k,rfl⟩
 have hgn:gn=p0.length:=ok.eqn
 subst hgn
 have hle:p0.length≤cap:=ok.le
 have hmx:cap≤maxLen:=ok.mx
 have hlen:p0.length*4+sp.length=cap*4:=ok.len
 obtain⟨a,rfl⟩:∃a:Nat,p1=a:=⟨p1.toNat,by omega⟩
 obtain⟨b,rfl⟩:∃b:Nat,p2=b:=⟨p2.toNat,by omega⟩
 simp only[Int.toNat_natCast] at ho
 have ha:a < b:=by omega
 have hb:b≤p0.length:=by omega
 have hzl:(p0.take a++p0.drop b).length=a+(p0.length - b):=by simp; omega
 have hsp:=G6 hc (Nat.le_of_lt ha) hb sp
 have hal:(p0.take a++p0.drop b++p0.drop (a+(p0.length - b))).length=p0.length:=by simp; omega
 have htk:(p0.take a++p0.drop b++p0.drop (a+(p0.length - b))).take (a+(p0.length - b))=o:=by rw[ho,← hzl,List.take_left]
 have O2:bK ⟨some k,p0.length,cap,sp⟩ 4 (p0.take a++p0.drop b++p0.drop (a+(p0.length - b))).length:=by rw[hal]; exact ok
 have O3:bK ⟨some k,a+(p0.length - b),cap,((p0.drop (a+(p0.length - b))).map c).flatten++sp⟩ 4 (a+(p0.length - b)):=⟨rfl,nofun,by show a+(p0.length - b)≤cap; omega,hmx,by
   show (a+(p0.length - b))*4+(((p0.drop (a+(p0.length - b))).map c).flatten++sp).length=cap*4
   rw[List.length_append,jG hc,List.length_drop]; omega⟩
 refine tH K0 33 [.tmp 6] Tryz.func119 rfl rfl rfl rfl ?_
 repeat refine vs ?_
 refine v0 ?_
 repeat refine vs ?_
 refine v0 (bU (dR iJ ok rfl) (bU (UF (cap:=cap) i0 (by omega) (by omega) (by omega) gJ rfl rfl rfl rfl) ?_))
 repeat refine vs ?_
 refine v0 (v0 (vf (by simp; omega) (v0 ?_)))
 repeat refine vs ?_
 refine v0 (bU (dR iJ ok rfl) ?_)
 repeat refine vs ?_
 refine v0 ?_
 refine vz [] mixed (λw=>trivial) λw=> ?_
 refine zC 0 rfl (eW (.vw _ _ _) rfl) ?_
 refine zI 1 rfl rfl ?_
 refine zC 2 rfl (xZ (cap:=cap) i0 (by omega) gJ rfl rfl) ?_
 refine zC 3 rfl (eW (.vw _ _ _) rfl) ?_
 refine zI 4 rfl rfl ?_
 by_cases hbl:b=p0.length
 subst hbl
 have e0:p0.length - p0.length=0:=Nat.sub_self _
 refine zC 5 rfl (ZG (m:=p0.length) gJ rfl rfl) ?_
 have ee:fl c p0 sp=fl c (p0.take a++p0.drop p0.length++p0.drop (a+(p0.length - p0.length))) sp:=by
   rw[List.drop_length,List.append_nil,e0,Nat.add_zero,List.take_append_drop]
 refine zE 6 rfl (M2 vO (i:=a) rfl rfl ⟨trivial, ?_⟩)
 refine zC 7 rfl (fC (y:=.vw k (a+(p0.length - p0.length)) cap) (iB (.vw k a cap) rfl) (bH.of_eq (by rw[e0,Nat.add_zero]))) ?_
 have K1:bV h [(some k,iE.obj 60 (fl c (p0.take a++p0.drop p0.length++p0.drop (a+(p0.length - p0.length))) sp))]:=by rw[← ee]; exact w
 refine zX (qk (f:=.c 0 (.vw k (a+(p0.length - p0.length)) cap) (.c 26 _ (.c 25 _ (.c 24 _ (.c 23 _ (.c 22 _ (.c 21 _ (.c 20 _ _)))))))) K1 (by rw[← ee]) ?_)
 repeat refine vs ?_
 refine v0 (bU (dR (g:=⟨some k,a+(p0.length - p0.length),cap,_⟩) iJ O3 rfl) (bU (RU (cap:=cap) (by omega) (by omega) (by omega) gJ rfl rfl rfl) ?_))
 refine ve λw=>AK (g:=⟨some k,p0.length,cap,sp⟩) (i:=((a+(p0.length - p0.length):Nat):Int)) 0 w (by rw[hal]; simp; omega) hc O2 u25 uB rfl rfl (by rw[hal]; rfl) rfl λsp' ok' hk'=>qk hk' rfl ?_
 repeat refine vs ?_
 refine v0 (v0 ?_)
 subst htk
 exact vr λw=>dX.one (.inl rfl) (bG w [0] rfl).2 (bH.refl _ _) ⟨⟨some k,a+(p0.length - p0.length),cap,sp'⟩,ok',(bG w [0] rfl).1,rfl,rfl⟩
 refine zC 5 rfl (jN (m:=p0.length) (by omega) (by omega) gJ rfl rfl) ?_
 have e2:((p0.drop b).map c).flatten=((fl c p0 sp).drop (b*4)).take (((p0.drop b).map c).flatten.length):=by
   rw[EQ hc hb]; unfold fl; rw[List.take_left]
 obtain⟨j,K1,_⟩:=jC (e':=.obj 60 (fl c (p0.take a++p0.drop b++p0.drop (a+(p0.length - b))) sp)) 0 w (show ([(some k,iE.obj 60 (fl c p0 sp))]:HL)[0]? =_ from rfl) (.inl rfl)
 refine zE 6 rfl (M0 vO (i:=a) (m:=p0.length - b) (ys:=((p0.drop b).map c).flatten) rfl (a9 0 w rfl) (by rw[e2]; rw[← e2]; have:=AS.view (m:=p0.length - b) (off:=b*4) (c:=((p0.drop b).map c).flatten.length) (a9 0 w (show ([(some k,iE.obj 60 (fl c p0 sp))]:HL)[0]? =some (some k,iE.obj 60 (fl c p0 sp)) from rfl)); rw[← e2] at this; exact this) (by rw[jG hc,List.length_drop]) (by omega) (by rw[jG hc,List.length_drop,FW hc]; omega) ⟨trivial, ?_⟩)
 refine zC 7 rfl (iB (.vw _ _ _) rfl) ?_
 refine zX (qk (f:=.c 0 (.vw k (a+(p0.length - b)) cap) (.c 26 _ (.c 25 _ (.c 24 _ (.c 23 _ (.c 22 _ (.c 21 _ (.c 20 _ _)))))))) K1 (by rw[← j]; show upd _ _ (some (iE.obj 60 (eG (fl c p0 sp) (a*4) _)))=_; rw[hsp]) ?_)
 repeat refine vs ?_
 refine v0 (bU (dR (g:=⟨some k,a+(p0.length - b),cap,_⟩) iJ O3 rfl) (bU (RU (cap:=cap) (by omega) (by omega) (by omega) gJ rfl rfl rfl) ?_))
 refine ve λw=>AK (g:=⟨some k,p0.length,cap,sp⟩) (i:=((a+(p0.length - b):Nat):Int)) 0 w (by rw[hal]; simp; omega) hc O2 u25 uB rfl rfl (by rw[hal]; rfl) rfl λsp' ok' hk'=>qk hk' rfl ?_
 repeat refine vs ?_
 refine v0 (v0 ?_)
 subst htk
 exact vr λw=>dX.one (.inl rfl) (bG w [0] rfl).2 (bH.refl _ _) ⟨⟨some k,a+(p0.length - b),cap,sp'⟩,ok',(bG w [0] rfl).1,rfl,rfl⟩
theorem ZJ:aO Tryz.prog 119=true:=by kernel_rfl
def VW (m:Nat) (p0:aB) (p1:aP):Option (Int×(List aG)×(List aA)):=
 (u6 m p0.Snaps (λx0=>M3 m x0 p1)).bind λy6=>if (decide (y6 < 0))=true then (some (8,p0.Snaps,p0.Chunks)) else (JY p0.Snaps y6 (IntKind.wrap .i64 (y6+1))).bind λy0=>(G7 m ({ Seq:=p0.Seq,Snaps:=y0,Chunks:=p0.Chunks,Exps:=p0.Exps,Vols:=p0.Vols}:aB)).bind λy1=>some (0,y0,y1)
theorem W73 {w:Nat} {p0:aB} {p1:aP} {o:Int×(List aG)×(List aA)} (h:aF) {p0K:cB} {gS:cR} (ok_Snaps:bK gS 4 p0.Snaps.length) {gC:cR} (oC:bK gC 35 p0.Chunks.length) {gE:cR} (oE:bK gE 3 p0.Exps.length) {gV:cR} (oV:bK gV 4 p0.Vols.length) (K0:bV h [OC p0K p0.Seq gS gC gE gV,bF gS p0.Snaps,aV gC p0.Chunks,bW gE p0.Exps,aN gV p0.Vols]) (m:VW w p0 p1=some o):
 aL Tryz.prog 73 [.ptr p0K 0,.agg (aD p1)] (hp h [OC p0K p0.Seq gS gC gE gV,bF gS p0.Snaps,aV gC p0.Chunks,bW gE p0.Exps,aN gV p0.Vols]) (λr h'=>∃g_Snaps':cR,bK g_Snaps' 4 (o.2.1:List aG).length∧∃g_Chunks':cR,bK g_Chunks' 35 (o.2.2:List aA).length∧bV h [OC p0K p0.Seq g_Snaps' g_Chunks' gE gV,bF g_Snaps' o.2.1,aV g_Chunks' o.2.2,bW gE p0.Exps,aN gV p0.Vols]∧r=nZ o.1∧h'=hp h [OC p0K p0.Seq g_Snaps' g_Chunks' gE gV,bF g_Snaps' o.2.1,aV g_Chunks' o.2.2,bW gE p0.Exps,aN gV p0.Vols]):=by
 refine tH K0 27 [.tmp 4] Tryz.func73 rfl rfl rfl rfl ?_
 unfold VW at m
 refine vs (v0 ?_)
 refine gG rfl rfl λk2 K3=> ?_
 refine vs (v0 (jL rfl (dM dW rfl rfl (vl 1 (aZ gS) eK rfl rfl rfl ?_))))
 obtain⟨_,Y7,m⟩:=aC m
 refine ve λu=>dA ((bC u [2,0,1,3,4,5] rfl rfl).1.trans (cT h [bF gS p0.Snaps] [(some k2,.obj 62 (aD p1)),OC p0K p0.Seq gS gC gE gV,aV gC p0.Chunks,bW gE p0.Exps,aN gV p0.Vols]).symm) (cK (RW (hp h [(some k2,.obj 62 (aD p1)),OC p0K p0.Seq gS gC gE gV,aV gC p0.Chunks,bW gE p0.Exps,aN gV p0.Vols]) ok_Snaps (cJ [bF gS p0.Snaps] [(some k2,.obj 62 (aD p1)),OC p0K p0.Seq gS gC gE gV,aV gC p0.Chunks,bW gE p0.Exps,aN gV p0.Vols] (bC u [2,0,1,3,4,5] rfl rfl).2).2 ZH (λ_ o h0 hs ho=>aFE _ (hs _ _ (a9 0 (cJ [bF gS p0.Snaps] [(some k2,.obj 62 (aD p1)),OC p0K p0.Seq gS gC gE gV,aV gC p0.Chunks,bW gE p0.Exps,aN gV p0.Vols] (bC u [2,0,1,3,4,5] rfl rfl).2).1 rfl)) ho) Y7) rfl D7 rfl ?_)
 rintro x h' ⟨rfl,rfl⟩
 refine qk u ((cT h [bF gS p0.Snaps] [(some k2,.obj 62 (aD p1)),OC p0K p0.Seq gS gC gE gV,aV gC p0.Chunks,bW gE p0.Exps,aN gV p0.Vols]).trans (bC u [2,0,1,3,4,5] rfl rfl).1.symm) ?_
 refine vs (vs (v0 (v0 ?_)))
 apply vi m <;> intro c0 m
 refine vs (v0 (v0 ?_))
 cases m
 exact vr λu=>dX.of1 (.inl rfl) (fU _ _ (.sc (.int _ _)) rfl) (bG u [1,2,3,4,5] rfl).2 (bH.refl _ _) ⟨gS,ok_Snaps,gC,oC,(bG u [1,2,3,4,5] rfl).1,rfl,rfl⟩
 refine v0 (vs (v0 (jL rfl (dM dW rfl rfl (vl 1 (aZ gS) eK rfl rfl rfl ?_)))))
 obtain⟨y0,Y0,m⟩:=aC m
 refine ve λu=> ?_
 have ho0:=lV (A:= [bF gS p0.Snaps]) (R:= [(some k2,.obj 62 (aD p1)),OC p0K p0.Seq gS gC gE gV,aV gC p0.Chunks,bW gE p0.Exps,aN gV p0.Vols]) u [[_], [_], [_], [_], [_], [_]] rfl [2] [0,1,3,4,5] rfl rfl rfl
 refine dA ho0.1 (cK (aFF eM _ ok_Snaps ho0.2.2 Y0) rfl ZJ rfl ?_)
 rintro x h' ⟨ag0,O0,K1,rfl,rfl⟩
 have K2:=lW (L':= [(some k2,.obj 62 (aD p1)),(hO p0K p0.Seq gS gC gE gV),bF ag0 y0,aV gC p0.Chunks,bW gE p0.Exps,aN gV p0.Vols]) ho0.2.1 K1 [[_]] [[_], [_], [_], [_], [_]] rfl rfl [1,2,0,3,4,5] rfl rfl
 refine qk K2.2 K2.1 ?_
 refine jL rfl (dM dW rfl rfl ?_)
 refine ve λu=>aK 1 ([nZ p0.Seq,aZ ag0,aZ gC,aZ gE,aZ gV]) u rfl rfl (cC rfl) (cE (bY _ _ _) rfl) F8 rfl rfl λK4=>qk K4 rfl ?_
 refine vs (v0 ?_)
 obtain⟨y1,Y1,m⟩:=aC m
 refine ve λu=>dA ((bC u [1,2,3,4,5,0] rfl rfl).1.trans (cT h [OC p0K p0.Seq ag0 gC gE gV,bF ag0 y0,aV gC p0.Chunks,bW gE p0.Exps,aN gV p0.Vols] [(some k2,.obj 62 (aD p1))]).symm) (cK (ZI (p0:=({ Seq:=p0.Seq,Snaps:=y0,Chunks:=p0.Chunks,Exps:=p0.Exps,Vols:=p0.Vols}:aB)) (hp h [(some k2,.obj 62 (aD p1))]) O0 oC oE oV (cJ [OC p0K p0.Seq ag0 gC gE gV,bF ag0 y0,aV gC p0.Chunks,bW gE p0.Exps,aN gV p0.Vols] [(some k2,.obj 62 (aD p1))] (bC u [1,2,3,4,5,0] rfl rfl).2).2 Y1) rfl RX rfl ?_)
 rintro x h' ⟨ag1,O1,K5,rfl,rfl⟩
 have K6:=bC (L':= [(some k2,.obj 62 (aD p1)),OC p0K p0.Seq ag0 ag1 gE gV,bF ag0 y0,aV ag1 y1,bW gE p0.Exps,aN gV p0.Vols]) (dG (cJ [OC p0K p0.Seq ag0 gC gE gV,bF ag0 y0,aV gC p0.Chunks,bW gE p0.Exps,aN gV p0.Vols] [(some k2,.obj 62 (aD p1))] (bC u [1,2,3,4,5,0] rfl rfl).2).1 K5) [5,0,1,2,3,4] rfl rfl
 refine qk K6.2 ((cT h [OC p0K p0.Seq ag0 ag1 gE gV,bF ag0 y0,aV ag1 y1,bW gE p0.Exps,aN gV p0.Vols] [(some k2,.obj 62 (aD p1))]).trans K6.1) ?_
 refine vs (v0 (v0 ?_))
 cases m
 exact vr λu=>dX.of1 (.inl rfl) (fU _ _ (.sc (.int _ _)) rfl) (bG u [1,2,3,4,5] rfl).2 (bH.refl _ _) ⟨ag0,O0,ag1,O1,(bG u [1,2,3,4,5] rfl).1,rfl,rfl⟩
theorem aFG:aO Tryz.prog 73=true:=by kernel_rfl
open Go.Vm
theorem aFH {α:Type} {c:α→List AV} (hc:∀y,(c y).length=4) {p0 o:List α} {p1:Int} {x:α} (h:aF) {g:cR} (ok:bK g 4 p0.length) (K0:bV h [(g.t,.obj 81 (fl c p0 g.sp))]) (u:o4 p0 p1 x=some o):
 aL Tryz.prog 187 [aZ g,nZ p1,.sl none 4 (List.map c [x])] (hp h [(g.t,.obj 81 (fl c p0 g.sp))]) (λr h'=>∃g:cR,bK g 4 o.length∧bV h [(g.t,.obj 81 (fl c o g.sp))]∧r=aZ g∧h'=hp h [(g.t,.obj 81 (fl c o g.sp))]):=by
 obtain⟨i0,i1,i2,ho⟩:=kW u
 have hv1:((([x]:List α).length:Int)==0)=false:=rfl
 refine tH K0 95 [.tmp 6] Tryz.func187 rfl rfl rfl rfl ?_
 repeat refine vs ?_
 refine v0 ?_
 repeat refine vs ?_
 refine v0 (bU (G5 i0 i1 ok i8 rfl rfl) ?_)
 repeat refine vs ?_
 refine v0 (cZ iC rfl ?_)
 repeat refine vs ?_
 refine v0 (v0 ?_)
 show VC _ _ _ Code.skip _ _ _ _
 refine v0 ?_
 repeat refine vs ?_
 refine v0 (bU (dR iC ok rfl) ?_)
 repeat refine vs ?_
 refine v0 (v0 ?_)
 by_cases hi:p1=(p0.length:Int)
 refine vt (by simpa using hi) ?_
 repeat refine vs ?_
 refine v0 ?_
 refine ve λw=>f8 (c:=c) 0 (CC i2) o1 rfl B5 rfl hc rfl rfl ok w rfl λg' ok' hk'=>qk hk' rfl ?_
 refine v0 ?_
 have e:o=p0++ [x]:=by subst hi; rw[ho]; simp
 subst e
 exact vr λw=>dX.one (.inl rfl) (h9.refl _) (bH.refl _ _) ⟨g',ok',w,rfl,rfl⟩
 refine vf (by simpa using hi) (v0 ?_)
 have hlt:p1.toNat < p0.length:=by omega
 obtain⟨gt,gn,cap,sp⟩:=g
 have hne:gt≠none:=λe=>by have:=ok.nil e; omega
 obtain⟨k,rfl⟩:∃k,gt=some k:=by cases gt with
 | none=>exact absurd rfl hne
 | some k=>exact⟨k,rfl⟩
 have hgn:gn=p0.length:=ok.eqn
 subst hgn
 have hle:p0.length≤cap:=ok.le
 have hmx:cap≤maxLen:=ok.mx
 have hlen:p0.length*4+sp.length=cap*4:=ok.len
 have hw:IntKind.wrap .i64 ((p0.length:Int)+(([x]:List α).length:Int))=((p0.length+1:Nat):Int):=by
   rw[IntKind.wrap_i64]; simp only[List.length_singleton]; omega
 have hw2:IntKind.wrap .i64 (IntKind.wrap .i64 ((p0.length:Int)+(([x]:List α).length:Int)) - p1)=((p0.length+1 - p1.toNat:Nat):Int):=by
   rw[hw,IntKind.wrap_i64]; omega
 have hw3:IntKind.wrap .i64 (p1+(([x]:List α).length:Int))=((p1.toNat+1:Nat):Int):=by
   rw[IntKind.wrap_i64]; simp only[List.length_singleton]; omega
 obtain⟨q1,q2,q3,q4⟩:=nP hc (i:=p1.toNat) (by omega:p1.toNat≤p0.length) sp
 generalize hA:((p0.take p1.toNat).map c).flatten=A at q1 q2 q4
 generalize hB:((p0.drop p1.toNat).map c).flatten=B at q1 q3 q4
 repeat refine vs ?_
 refine v0 (bU (G3 u42 rfl) (v0 ?_))
 by_cases hcap:cap < p0.length+1
 refine vt (by rw[hw]; exact decide_eq_true (show (cap:Int) < ((p0.length+1:Nat):Int) by omega)) ?_
 repeat refine vs ?_
 refine v0 (bU (xZ (cap:=cap) i0 (by omega) i8 rfl rfl) ?_)
 refine ve λw=>G4 (cap:=cap) (cs:=fl c p0 sp) (i:=p1.toNat) (m:=p0.length+1 - p1.toNat) 0 o1 u3 B5 rfl (by decide) w rfl rfl (congrArg (λz=>AV.sc (.int .i64 z)) hw2) (by omega) (by rw[q1]; simp only[List.length_append]; omega) (by omega) λq cap' R h1 h2 h3 hk'=>qk hk' rfl ?_
 repeat refine vs ?_
 refine v0 (bU (jN i0 (by omega) i8 rfl rfl) ?_)
 have hn0:p1.toNat+(p0.length+1 - p1.toNat)=p0.length+1:=by omega
 have hn1:p1.toNat+(p0.length+1 - p1.toNat) - p1.toNat=p0.length+1 - p1.toNat:=by omega
 have e1:List.take (p1.toNat*4) (fl c p0 sp)=A:=by rw[q1,← q2,List.take_left]
 have hxl:=hc x
 have hR:4+B.length≤R.length:=by omega
 have hfl:(fl c p0 sp).length=A.length+(B.length+sp.length):=by rw[q1]; simp
 obtain⟨R1,R2,R3,hR0,hR1,hR2⟩:∃R1 R2 R3:List AV,R=R1++(R2++R3)∧R1.length=(c x).length∧R2.length=B.length:=
 ⟨R.take 4,(R.drop 4).take B.length,(R.drop 4).drop B.length,by rw[List.take_append_drop,List.take_append_drop],by rw[List.length_take,hxl]; omega,by rw[List.length_take,List.length_drop]; omega⟩
 refine ve λw=>lT 0 o1 w rfl rfl (AS.sl (ys:=List.map c [x]) (by simp) _) (by simp[hxl]; omega) (by rw[e1]; simp only[List.length_append]; simp[hxl,q2]; omega) (A++(c x++(R2++R3))) (by
 rw[e1,hR0]
 simp only[List.map_cons,List.map_nil,List.flatten_cons,List.flatten_nil,List.append_nil]
 exact fX q2 hR1) λhk'=>qk hk' rfl ?_
 repeat refine vs ?_
 refine v0 ?_
 have hv4:AV.view q ((IntKind.wrap .i64 (p1+(([x]:List α).length:Int))).toNat*4) (p1.toNat+(p0.length+1 - p1.toNat) - (IntKind.wrap .i64 (p1+(([x]:List α).length:Int))).toNat)= .view q ((p1.toNat+1)*4) (p0.length - p1.toNat):=by
   rw[hw3,Int.toNat_natCast,show p1.toNat+(p0.length+1 - p1.toNat) - (p1.toNat+1)=p0.length - p1.toNat from by omega]
 refine vz [] mixed (λw=>trivial) λw=> ?_
 refine zC 0 rfl (eW (.vw _ _ _) rfl) ?_
 refine zI 1 rfl rfl ?_
 refine zI 2 rfl rfl ?_
 refine zC 3 rfl (lE rfl rfl rfl trivial) ?_
 refine zC 4 rfl (fC (jN (by rw[hw3]; omega) (by rw[hw3]; omega) i8 rfl rfl) (bH.of_eq hv4)) ?_
 refine zC 5 rfl (eW (.vw _ _ _) rfl) ?_
 refine zI 6 rfl rfl ?_
 refine zC 7 rfl (jN (m:=p0.length) i0 (by omega) i8 rfl rfl) ?_
 have e2:(List.drop (p1.toNat*4) (fl c p0 sp)).take ((p0.length - p1.toNat)*4)=B:=by
   rw[q1,← q2,List.drop_left,← q3,List.take_left]
 refine zE 8 rfl (lT 0 o1 w rfl rfl (cs:=B) (by rw[← e2]; exact AS.view (a9 1 w rfl)) (n1:=p0.length - p1.toNat) (m:=p0.length - p1.toNat) (by rw[q3,Nat.min_self]) (by simp only[List.length_append,hxl,q2,hR2]; omega) (fl c (p0.take p1.toNat++x::p0.drop p1.toNat) R3) (by
 rw[q4 x R3,← List.append_assoc A,← List.append_assoc A]
 exact fX (A:=A++c x) (by rw[List.length_append,hxl,q2]; omega) hR2) λK1=>⟨trivial, ?_⟩)
 refine zX (qk (f:=VJ 54 _ _ _ _ _ _ _ _ _ _) K1 rfl ?_)
 repeat refine vs ?_
 refine v0 (v0 ?_)
 subst ho
 have hol:(List.take p1.toNat p0++x::List.drop p1.toNat p0).length=p0.length+1:=by simp; omega
 refine vr λw=>dX.one (.inl rfl) (bG K1 [0] rfl).2 (bH.of_eq (show AV.vw q _ cap'=aw (some q) (p0.length+1) cap' by rw[hn0]; rfl)) ⟨⟨some q,p0.length+1,cap',R3⟩,⟨hol.symm,nofun,by rw[hol]; show p0.length+1≤cap'; omega,h2,by rw[hol]; show (p0.length+1)*4+R3.length=cap'*4; simp only[hR0,List.length_append,hR1,hR2,hxl] at h3; omega⟩,(bG K1 [0] rfl).1,rfl,rfl⟩
 refine vf (by rw[hw]; exact decide_eq_false (show ¬(cap:Int) < ((p0.length+1:Nat):Int) by omega)) (v0 ?_)
 repeat refine vs ?_
 refine v0 ?_
 have hv0:AV.vw k (IntKind.wrap .i64 ((p0.length:Int)+(([x]:List α).length:Int))).toNat cap= .vw k (p0.length+1) cap:=by rw[hw,Int.toNat_natCast]
 refine bU (fC (xZ (cap:=cap) (by rw[hw]; omega) (by rw[hw]; omega) i8 rfl rfl) (bH.of_eq hv0)) ?_
 repeat refine vs ?_
 refine v0 ?_
 have hv4:AV.view k ((IntKind.wrap .i64 (p1+(([x]:List α).length:Int))).toNat*4) (p0.length+1 - (IntKind.wrap .i64 (p1+(([x]:List α).length:Int))).toNat)= .view k ((p1.toNat+1)*4) (p0.length - p1.toNat):=by
   rw[hw3,Int.toNat_natCast,show p0.length+1 - (p1.toNat+1)=p0.length - p1.toNat from by omega]
 refine bU (fC (jN (m:=p0.length+1) (by rw[hw3]; omega) (by rw[hw3]; omega) i8 rfl rfl) (bH.of_eq hv4)) ?_
 have hfl:(fl c p0 sp).length=p1.toNat*4+((p0.length - p1.toNat)*4+sp.length):=by rw[q1,List.length_append,List.length_append,q2,q3]
 refine ve λw=>oL (sz:=4) (tS:=42) (tR:=4) Tryz.func193 (by kernel_rfl) (by kernel_rfl) (by kernel_rfl) (by kernel_rfl) o1 (ys:=List.map c [x]) (by simp) (by decide) rfl rfl (a9 0 w rfl) (by rw[hfl]; omega) (qk w rfl ?_)
 refine v0 ?_
 repeat refine vs ?_
 refine v0 ?_
 refine vz [] mixed (λw=>trivial) λw=> ?_
 refine zC 0 rfl (eW (.vw _ _ _) rfl) ?_
 refine zI 1 rfl rfl ?_
 refine zI 2 rfl rfl ?_
 refine zC 3 rfl (lE rfl rfl rfl trivial) ?_
 refine zC 4 rfl (fC (jN (m:=p0.length+1) (by rw[hw3]; omega) (by rw[hw3]; omega) i8 rfl rfl) (bH.of_eq hv4)) ?_
 refine zC 5 rfl (eW (.vw _ _ _) rfl) ?_
 refine zI 6 rfl rfl ?_
 refine zC 7 rfl (jN (m:=p0.length+1) i0 (by omega) i8 rfl rfl) ?_
 have hxl:=hc x
 have e2:(List.drop (p1.toNat*4) (fl c p0 sp)).take ((p0.length - p1.toNat)*4)=B:=by
   rw[q1,← q2,List.drop_left,← q3,List.take_left]
 have hsp:4≤sp.length:=by omega
 obtain⟨X0,Y,Z,hXY,hX0,hY⟩:∃X0 Y Z:List AV,B++sp=X0++(Y++Z)∧X0.length=4∧Y.length=B.length:=
 ⟨(B++sp).take 4,((B++sp).drop 4).take B.length,((B++sp).drop 4).drop B.length,by rw[List.take_append_drop,List.take_append_drop],by rw[List.length_take,List.length_append]; omega,by rw[List.length_take,List.length_drop,List.length_append]; omega⟩
 have hZ:Z.length+4=sp.length:=by
   have:=congrArg List.length hXY
   simp only[List.length_append] at this
   omega
 refine zE 8 rfl (lT 0 o1 w rfl rfl (cs:=B) (by rw[← e2]; exact AS.view (a9 0 w rfl)) (n1:=p0.length - p1.toNat) (m:=p0.length+1 - p1.toNat) (by rw[q3]; congr 1; omega) (by show (p1.toNat+1)*4+B.length≤(fl c p0 sp).length; rw[hfl]; omega) (A++(X0++(B++Z))) (by
 show eG (fl c p0 sp) ((p1.toNat+1)*4) B=_
 rw[q1,hXY,← List.append_assoc A,← List.append_assoc A]
 exact fX (A:=A++X0) (by rw[List.length_append,hX0,q2]; omega) hY) λK1=>⟨trivial, ?_⟩)
 refine zX (qk (f:=VJ 77 _ _ _ _ _ _ _ _ _ _) K1 rfl ?_)
 repeat refine vs ?_
 refine v0 (bU (jN (m:=p0.length+1) i0 (by omega) i8 rfl rfl) ?_)
 refine ve λw=>lT 0 o1 w rfl rfl (AS.sl (ys:=List.map c [x]) (by simp) _) (by simp[hxl]; omega) (by simp only[List.map_cons,List.map_nil,List.flatten_cons,List.flatten_nil,List.append_nil,List.length_append,q2,hX0,hxl]; omega) (fl c (p0.take p1.toNat++x::p0.drop p1.toNat) Z) (by
 simp only[List.map_cons,List.map_nil,List.flatten_cons,List.flatten_nil,List.append_nil]
 rw[q4 x Z]
 exact fX q2 (by rw[hX0,hxl])) λK1=>qk K1 rfl ?_
 repeat refine vs ?_
 refine v0 (v0 ?_)
 subst ho
 have hol:(List.take p1.toNat p0++x::List.drop p1.toNat p0).length=p0.length+1:=by simp; omega
 refine vr λw=>dX.one (.inl rfl) (bG w [0] rfl).2 (bH.of_eq (show AV.vw k _ cap=aw (some k) (p0.length+1) cap by rfl)) ⟨⟨some k,p0.length+1,cap,Z⟩,⟨hol.symm,nofun,by rw[hol]; show p0.length+1≤cap; omega,hmx,by rw[hol]; show (p0.length+1)*4+Z.length=cap*4; omega⟩,(bG w [0] rfl).1,rfl,rfl⟩
theorem ZK:aO Tryz.prog 187=true:=by kernel_rfl
theorem aFI {α:Type} {c:α→List AV} (hc:∀y,(c y).length=3) {p0 o:List α} {p1:Int} {x:α} (h:aF) {g:cR} (ok:bK g 3 p0.length) (K0:bV h [(g.t,.obj 99 (fl c p0 g.sp))]) (u:o4 p0 p1 x=some o):
 aL Tryz.prog 180 [aZ g,nZ p1,.sl none 3 (List.map c [x])] (hp h [(g.t,.obj 99 (fl c p0 g.sp))]) (λr h'=>∃g:cR,bK g 3 o.length∧bV h [(g.t,.obj 99 (fl c o g.sp))]∧r=aZ g∧h'=hp h [(g.t,.obj 99 (fl c o g.sp))]):=by
 obtain⟨i0,i1,i2,ho⟩:=kW u
 have hv1:((([x]:List α).length:Int)==0)=false:=rfl
 refine tH K0 95 [.tmp 6] Tryz.func180 rfl rfl rfl rfl ?_
 repeat refine vs ?_
 refine v0 ?_
 repeat refine vs ?_
 refine v0 (bU (G5 i0 i1 ok hU rfl rfl) ?_)
 repeat refine vs ?_
 refine v0 (cZ nK rfl ?_)
 repeat refine vs ?_
 refine v0 (v0 ?_)
 show VC _ _ _ Code.skip _ _ _ _
 refine v0 ?_
 repeat refine vs ?_
 refine v0 (bU (dR nK ok rfl) ?_)
 repeat refine vs ?_
 refine v0 (v0 ?_)
 by_cases hi:p1=(p0.length:Int)
 refine vt (by simpa using hi) ?_
 repeat refine vs ?_
 refine v0 ?_
 refine ve λw=>f8 (c:=c) 0 (CC i2) o0 rfl n9 rfl hc rfl rfl ok w rfl λg' ok' hk'=>qk hk' rfl ?_
 refine v0 ?_
 have e:o=p0++ [x]:=by subst hi; rw[ho]; simp
 subst e
 exact vr λw=>dX.one (.inl rfl) (h9.refl _) (bH.refl _ _) ⟨g',ok',w,rfl,rfl⟩
 refine vf (by simpa using hi) (v0 ?_)
 have hlt:p1.toNat < p0.length:=by omega
 obtain⟨gt,gn,cap,sp⟩:=g
 have hne:gt≠none:=λe=>by have:=ok.nil e; omega
 obtain⟨k,rfl⟩:∃k,gt=some k:=by cases gt with
 | none=>exact absurd rfl hne
 | some k=>exact⟨k,rfl⟩
 have hgn:gn=p0.length:=ok.eqn
 subst hgn
 have hle:p0.length≤cap:=ok.le
 have hmx:cap≤maxLen:=ok.mx
 have hlen:p0.length*3+sp.length=cap*3:=ok.len
 have hw:IntKind.wrap .i64 ((p0.length:Int)+(([x]:List α).length:Int))=((p0.length+1:Nat):Int):=by
   rw[IntKind.wrap_i64]; simp only[List.length_singleton]; omega
 have hw2:IntKind.wrap .i64 (IntKind.wrap .i64 ((p0.length:Int)+(([x]:List α).length:Int)) - p1)=((p0.length+1 - p1.toNat:Nat):Int):=by
   rw[hw,IntKind.wrap_i64]; omega
 have hw3:IntKind.wrap .i64 (p1+(([x]:List α).length:Int))=((p1.toNat+1:Nat):Int):=by
   rw[IntKind.wrap_i64]; simp only[List.length_singleton]; omega
 obtain⟨q1,q2,q3,q4⟩:=nP hc (i:=p1.toNat) (by omega:p1.toNat≤p0.length) sp
 generalize hA:((p0.take p1.toNat).map c).flatten=A at q1 q2 q4
 generalize hB:((p0.drop p1.toNat).map c).flatten=B at q1 q3 q4
 repeat refine vs ?_
 refine v0 (bU (G3 u27 rfl) (v0 ?_))
 by_cases hcap:cap < p0.length+1
 refine vt (by rw[hw]; exact decide_eq_true (show (cap:Int) < ((p0.length+1:Nat):Int) by omega)) ?_
 repeat refine vs ?_
 refine v0 (bU (xZ (cap:=cap) i0 (by omega) hU rfl rfl) ?_)
 refine ve λw=>G4 (cap:=cap) (cs:=fl c p0 sp) (i:=p1.toNat) (m:=p0.length+1 - p1.toNat) 0 o0 u3 n9 rfl (by decide) w rfl rfl (congrArg (λz=>AV.sc (.int .i64 z)) hw2) (by omega) (by rw[q1]; simp only[List.length_append]; omega) (by omega) λq cap' R h1 h2 h3 hk'=>qk hk' rfl ?_
 repeat refine vs ?_
 refine v0 (bU (jN i0 (by omega) hU rfl rfl) ?_)
 have hn0:p1.toNat+(p0.length+1 - p1.toNat)=p0.length+1:=by omega
 have hn1:p1.toNat+(p0.length+1 - p1.toNat) - p1.toNat=p0.length+1 - p1.toNat:=by omega
 have e1:List.take (p1.toNat*3) (fl c p0 sp)=A:=by rw[q1,← q2,List.take_left]
 have hxl:=hc x
 have hR:3+B.length≤R.length:=by omega
 have hfl:(fl c p0 sp).length=A.length+(B.length+sp.length):=by rw[q1]; simp
 obtain⟨R1,R2,R3,hR0,hR1,hR2⟩:∃R1 R2 R3:List AV,R=R1++(R2++R3)∧R1.length=(c x).length∧R2.length=B.length:=
 ⟨R.take 3,(R.drop 3).take B.length,(R.drop 3).drop B.length,by rw[List.take_append_drop,List.take_append_drop],by rw[List.length_take,hxl]; omega,by rw[List.length_take,List.length_drop]; omega⟩
 refine ve λw=>lT 0 o0 w rfl rfl (AS.sl (ys:=List.map c [x]) (by simp) _) (by simp[hxl]; omega) (by rw[e1]; simp only[List.length_append]; simp[hxl,q2]; omega) (A++(c x++(R2++R3))) (by
 rw[e1,hR0]
 simp only[List.map_cons,List.map_nil,List.flatten_cons,List.flatten_nil,List.append_nil]
 exact fX q2 hR1) λhk'=>qk hk' rfl ?_
 repeat refine vs ?_
 refine v0 ?_
 have hv4:AV.view q ((IntKind.wrap .i64 (p1+(([x]:List α).length:Int))).toNat*3) (p1.toNat+(p0.length+1 - p1.toNat) - (IntKind.wrap .i64 (p1+(([x]:List α).length:Int))).toNat)= .view q ((p1.toNat+1)*3) (p0.length - p1.toNat):=by
   rw[hw3,Int.toNat_natCast,show p1.toNat+(p0.length+1 - p1.toNat) - (p1.toNat+1)=p0.length - p1.toNat from by omega]
 refine vz [] mixed (λw=>trivial) λw=> ?_
 refine zC 0 rfl (eW (.vw _ _ _) rfl) ?_
 refine zI 1 rfl rfl ?_
 refine zI 2 rfl rfl ?_
 refine zC 3 rfl (lE rfl rfl rfl trivial) ?_
 refine zC 4 rfl (fC (jN (by rw[hw3]; omega) (by rw[hw3]; omega) hU rfl rfl) (bH.of_eq hv4)) ?_
 refine zC 5 rfl (eW (.vw _ _ _) rfl) ?_
 refine zI 6 rfl rfl ?_
 refine zC 7 rfl (jN (m:=p0.length) i0 (by omega) hU rfl rfl) ?_
 have e2:(List.drop (p1.toNat*3) (fl c p0 sp)).take ((p0.length - p1.toNat)*3)=B:=by
   rw[q1,← q2,List.drop_left,← q3,List.take_left]
 refine zE 8 rfl (lT 0 o0 w rfl rfl (cs:=B) (by rw[← e2]; exact AS.view (a9 1 w rfl)) (n1:=p0.length - p1.toNat) (m:=p0.length - p1.toNat) (by rw[q3,Nat.min_self]) (by simp only[List.length_append,hxl,q2,hR2]; omega) (fl c (p0.take p1.toNat++x::p0.drop p1.toNat) R3) (by
 rw[q4 x R3,← List.append_assoc A,← List.append_assoc A]
 exact fX (A:=A++c x) (by rw[List.length_append,hxl,q2]; omega) hR2) λK1=>⟨trivial, ?_⟩)
 refine zX (qk (f:=VJ 54 _ _ _ _ _ _ _ _ _ _) K1 rfl ?_)
 repeat refine vs ?_
 refine v0 (v0 ?_)
 subst ho
 have hol:(List.take p1.toNat p0++x::List.drop p1.toNat p0).length=p0.length+1:=by simp; omega
 refine vr λw=>dX.one (.inl rfl) (bG K1 [0] rfl).2 (bH.of_eq (show AV.vw q _ cap'=aw (some q) (p0.length+1) cap' by rw[hn0]; rfl)) ⟨⟨some q,p0.length+1,cap',R3⟩,⟨hol.symm,nofun,by rw[hol]; show p0.length+1≤cap'; omega,h2,by rw[hol]; show (p0.length+1)*3+R3.length=cap'*3; simp only[hR0,List.length_append,hR1,hR2,hxl] at h3; omega⟩,(bG K1 [0] rfl).1,rfl,rfl⟩
 refine vf (by rw[hw]; exact decide_eq_false (show ¬(cap:Int) < ((p0.length+1:Nat):Int) by omega)) (v0 ?_)
 repeat refine vs ?_
 refine v0 ?_
 have hv0:AV.vw k (IntKind.wrap .i64 ((p0.length:Int)+(([x]:List α).length:Int))).toNat cap= .vw k (p0.length+1) cap:=by rw[hw,Int.toNat_natCast]
 refine bU (fC (xZ (cap:=cap) (by rw[hw]; omega) (by rw[hw]; omega) hU rfl rfl) (bH.of_eq hv0)) ?_
 repeat refine vs ?_
 refine v0 ?_
 have hv4:AV.view k ((IntKind.wrap .i64 (p1+(([x]:List α).length:Int))).toNat*3) (p0.length+1 - (IntKind.wrap .i64 (p1+(([x]:List α).length:Int))).toNat)= .view k ((p1.toNat+1)*3) (p0.length - p1.toNat):=by
   rw[hw3,Int.toNat_natCast,show p0.length+1 - (p1.toNat+1)=p0.length - p1.toNat from by omega]
 refine bU (fC (jN (m:=p0.length+1) (by rw[hw3]; omega) (by rw[hw3]; omega) hU rfl rfl) (bH.of_eq hv4)) ?_
 have hfl:(fl c p0 sp).length=p1.toNat*3+((p0.length - p1.toNat)*3+sp.length):=by rw[q1,List.length_append,List.length_append,q2,q3]
 refine ve λw=>oL (sz:=3) (tS:=27) (tR:=4) Tryz.func188 (by kernel_rfl) (by kernel_rfl) (by kernel_rfl) (by kernel_rfl) o0 (ys:=List.map c [x]) (by simp) (by decide) rfl rfl (a9 0 w rfl) (by rw[hfl]; omega) (qk w rfl ?_)
 refine v0 ?_
 repeat refine vs ?_
 refine v0 ?_
 refine vz [] mixed (λw=>trivial) λw=> ?_
 refine zC 0 rfl (eW (.vw _ _ _) rfl) ?_
 refine zI 1 rfl rfl ?_
 refine zI 2 rfl rfl ?_
 refine zC 3 rfl (lE rfl rfl rfl trivial) ?_
 refine zC 4 rfl (fC (jN (m:=p0.length+1) (by rw[hw3]; omega) (by rw[hw3]; omega) hU rfl rfl) (bH.of_eq hv4)) ?_
 refine zC 5 rfl (eW (.vw _ _ _) rfl) ?_
 refine zI 6 rfl rfl ?_
 refine zC 7 rfl (jN (m:=p0.length+1) i0 (by omega) hU rfl rfl) ?_
 have hxl:=hc x
 have e2:(List.drop (p1.toNat*3) (fl c p0 sp)).take ((p0.length - p1.toNat)*3)=B:=by
   rw[q1,← q2,List.drop_left,← q3,List.take_left]
 have hsp:3≤sp.length:=by omega
 obtain⟨X0,Y,Z,hXY,hX0,hY⟩:∃X0 Y Z:List AV,B++sp=X0++(Y++Z)∧X0.length=3∧Y.length=B.length:=
 ⟨(B++sp).take 3,((B++sp).drop 3).take B.length,((B++sp).drop 3).drop B.length,by rw[List.take_append_drop,List.take_append_drop],by rw[List.length_take,List.length_append]; omega,by rw[List.length_take,List.length_drop,List.length_append]; omega⟩
 have hZ:Z.length+3=sp.length:=by
   have:=congrArg List.length hXY
   simp only[List.length_append] at this
   omega
 refine zE 8 rfl (lT 0 o0 w rfl rfl (cs:=B) (by rw[← e2]; exact AS.view (a9 0 w rfl)) (n1:=p0.length - p1.toNat) (m:=p0.length+1 - p1.toNat) (by rw[q3]; congr 1; omega) (by show (p1.toNat+1)*3+B.length≤(fl c p0 sp).length; rw[hfl]; omega) (A++(X0++(B++Z))) (by
 show eG (fl c p0 sp) ((p1.toNat+1)*3) B=_
 rw[q1,hXY,← List.append_assoc A,← List.append_assoc A]
 exact fX (A:=A++X0) (by rw[List.length_append,hX0,q2]; omega) hY) λK1=>⟨trivial, ?_⟩)
 refine zX (qk (f:=VJ 77 _ _ _ _ _ _ _ _ _ _) K1 rfl ?_)
 repeat refine vs ?_
 refine v0 (bU (jN (m:=p0.length+1) i0 (by omega) hU rfl rfl) ?_)
 refine ve λw=>lT 0 o0 w rfl rfl (AS.sl (ys:=List.map c [x]) (by simp) _) (by simp[hxl]; omega) (by simp only[List.map_cons,List.map_nil,List.flatten_cons,List.flatten_nil,List.append_nil,List.length_append,q2,hX0,hxl]; omega) (fl c (p0.take p1.toNat++x::p0.drop p1.toNat) Z) (by
 simp only[List.map_cons,List.map_nil,List.flatten_cons,List.flatten_nil,List.append_nil]
 rw[q4 x Z]
 exact fX q2 (by rw[hX0,hxl])) λK1=>qk K1 rfl ?_
 repeat refine vs ?_
 refine v0 (v0 ?_)
 subst ho
 have hol:(List.take p1.toNat p0++x::List.drop p1.toNat p0).length=p0.length+1:=by simp; omega
 refine vr λw=>dX.one (.inl rfl) (bG w [0] rfl).2 (bH.of_eq (show AV.vw k _ cap=aw (some k) (p0.length+1) cap by rfl)) ⟨⟨some k,p0.length+1,cap,Z⟩,⟨hol.symm,nofun,by rw[hol]; show p0.length+1≤cap; omega,hmx,by rw[hol]; show (p0.length+1)*3+Z.length=cap*3; omega⟩,(bG w [0] rfl).1,rfl,rfl⟩
theorem ZL:aO Tryz.prog 180=true:=by kernel_rfl
theorem aFJ {α:Type} {c:α→List AV} (hc:∀y,(c y).length=35) {p0 o:List α} {p1:Int} {x:α} (h:aF) {g:cR} (ok:bK g 35 p0.length) (K0:bV h [(g.t,.obj 44 (fl c p0 g.sp))]) (u:o4 p0 p1 x=some o):
 aL Tryz.prog 117 [aZ g,nZ p1,.sl none 35 (List.map c [x])] (hp h [(g.t,.obj 44 (fl c p0 g.sp))]) (λr h'=>∃g:cR,bK g 35 o.length∧bV h [(g.t,.obj 44 (fl c o g.sp))]∧r=aZ g∧h'=hp h [(g.t,.obj 44 (fl c o g.sp))]):=by
 obtain⟨i0,i1,i2,ho⟩:=kW u
 have hv1:((([x]:List α).length:Int)==0)=false:=rfl
 refine tH K0 95 [.tmp 6] Tryz.func117 rfl rfl rfl rfl ?_
 repeat refine vs ?_
 refine v0 ?_
 repeat refine vs ?_
 refine v0 (bU (G5 i0 i1 ok eU rfl rfl) ?_)
 repeat refine vs ?_
 refine v0 (cZ hM rfl ?_)
 repeat refine vs ?_
 refine v0 (v0 ?_)
 show VC _ _ _ Code.skip _ _ _ _
 refine v0 ?_
 repeat refine vs ?_
 refine v0 (bU (dR hM ok rfl) ?_)
 repeat refine vs ?_
 refine v0 (v0 ?_)
 by_cases hi:p1=(p0.length:Int)
 refine vt (by simpa using hi) ?_
 repeat refine vs ?_
 refine v0 ?_
 refine ve λw=>f8 (c:=c) 0 (CC i2) lF rfl nE rfl hc rfl rfl ok w rfl λg' ok' hk'=>qk hk' rfl ?_
 refine v0 ?_
 have e:o=p0++ [x]:=by subst hi; rw[ho]; simp
 subst e
 exact vr λw=>dX.one (.inl rfl) (h9.refl _) (bH.refl _ _) ⟨g',ok',w,rfl,rfl⟩
 refine vf (by simpa using hi) (v0 ?_)
 have hlt:p1.toNat < p0.length:=by omega
 obtain⟨gt,gn,cap,sp⟩:=g
 have hne:gt≠none:=λe=>by have:=ok.nil e; omega
 obtain⟨k,rfl⟩:∃k,gt=some k:=by cases gt with
 | none=>exact absurd rfl hne
 | some k=>exact⟨k,rfl⟩
 have hgn:gn=p0.length:=ok.eqn
 subst hgn
 have hle:p0.length≤cap:=ok.le
 have hmx:cap≤maxLen:=ok.mx
 have hlen:p0.length*35+sp.length=cap*35:=ok.len
 have hw:IntKind.wrap .i64 ((p0.length:Int)+(([x]:List α).length:Int))=((p0.length+1:Nat):Int):=by
   rw[IntKind.wrap_i64]; simp only[List.length_singleton]; omega
 have hw2:IntKind.wrap .i64 (IntKind.wrap .i64 ((p0.length:Int)+(([x]:List α).length:Int)) - p1)=((p0.length+1 - p1.toNat:Nat):Int):=by
   rw[hw,IntKind.wrap_i64]; omega
 have hw3:IntKind.wrap .i64 (p1+(([x]:List α).length:Int))=((p1.toNat+1:Nat):Int):=by
   rw[IntKind.wrap_i64]; simp only[List.length_singleton]; omega
 obtain⟨q1,q2,q3,q4⟩:=nP hc (i:=p1.toNat) (by omega:p1.toNat≤p0.length) sp
 generalize hA:((p0.take p1.toNat).map c).flatten=A at q1 q2 q4
 generalize hB:((p0.drop p1.toNat).map c).flatten=B at q1 q3 q4
 repeat refine vs ?_
 refine v0 (bU (G3 u26 rfl) (v0 ?_))
 by_cases hcap:cap < p0.length+1
 refine vt (by rw[hw]; exact decide_eq_true (show (cap:Int) < ((p0.length+1:Nat):Int) by omega)) ?_
 repeat refine vs ?_
 refine v0 (bU (xZ (cap:=cap) i0 (by omega) eU rfl rfl) ?_)
 refine ve λw=>G4 (cap:=cap) (cs:=fl c p0 sp) (i:=p1.toNat) (m:=p0.length+1 - p1.toNat) 0 lF u3 nE rfl (by decide) w rfl rfl (congrArg (λz=>AV.sc (.int .i64 z)) hw2) (by omega) (by rw[q1]; simp only[List.length_append]; omega) (by omega) λq cap' R h1 h2 h3 hk'=>qk hk' rfl ?_
 repeat refine vs ?_
 refine v0 (bU (jN i0 (by omega) eU rfl rfl) ?_)
 have hn0:p1.toNat+(p0.length+1 - p1.toNat)=p0.length+1:=by omega
 have hn1:p1.toNat+(p0.length+1 - p1.toNat) - p1.toNat=p0.length+1 - p1.toNat:=by omega
 have e1:List.take (p1.toNat*35) (fl c p0 sp)=A:=by rw[q1,← q2,List.take_left]
 have hxl:=hc x
 have hR:35+B.length≤R.length:=by omega
 have hfl:(fl c p0 sp).length=A.length+(B.length+sp.length):=by rw[q1]; simp
 obtain⟨R1,R2,R3,hR0,hR1,hR2⟩:∃R1 R2 R3:List AV,R=R1++(R2++R3)∧R1.length=(c x).length∧R2.length=B.length:=
 ⟨R.take 35,(R.drop 35).take B.length,(R.drop 35).drop B.length,by rw[List.take_append_drop,List.take_append_drop],by rw[List.length_take,hxl]; omega,by rw[List.length_take,List.length_drop]; omega⟩
 refine ve λw=>lT 0 lF w rfl rfl (AS.sl (ys:=List.map c [x]) (by simp) _) (by simp[hxl]; omega) (by rw[e1]; simp only[List.length_append]; simp[hxl,q2]; omega) (A++(c x++(R2++R3))) (by
 rw[e1,hR0]
 simp only[List.map_cons,List.map_nil,List.flatten_cons,List.flatten_nil,List.append_nil]
 exact fX q2 hR1) λhk'=>qk hk' rfl ?_
 repeat refine vs ?_
 refine v0 ?_
 have hv4:AV.view q ((IntKind.wrap .i64 (p1+(([x]:List α).length:Int))).toNat*35) (p1.toNat+(p0.length+1 - p1.toNat) - (IntKind.wrap .i64 (p1+(([x]:List α).length:Int))).toNat)= .view q ((p1.toNat+1)*35) (p0.length - p1.toNat):=by
   rw[hw3,Int.toNat_natCast,show p1.toNat+(p0.length+1 - p1.toNat) - (p1.toNat+1)=p0.length - p1.toNat from by omega]
 refine vz [] mixed (λw=>trivial) λw=> ?_
 refine zC 0 rfl (eW (.vw _ _ _) rfl) ?_
 refine zI 1 rfl rfl ?_
 refine zI 2 rfl rfl ?_
 refine zC 3 rfl (lE rfl rfl rfl trivial) ?_
 refine zC 4 rfl (fC (jN (by rw[hw3]; omega) (by rw[hw3]; omega) eU rfl rfl) (bH.of_eq hv4)) ?_
 refine zC 5 rfl (eW (.vw _ _ _) rfl) ?_
 refine zI 6 rfl rfl ?_
 refine zC 7 rfl (jN (m:=p0.length) i0 (by omega) eU rfl rfl) ?_
 have e2:(List.drop (p1.toNat*35) (fl c p0 sp)).take ((p0.length - p1.toNat)*35)=B:=by
   rw[q1,← q2,List.drop_left,← q3,List.take_left]
 refine zE 8 rfl (lT 0 lF w rfl rfl (cs:=B) (by rw[← e2]; exact AS.view (a9 1 w rfl)) (n1:=p0.length - p1.toNat) (m:=p0.length - p1.toNat) (by rw[q3,Nat.min_self]) (by simp only[List.length_append,hxl,q2,hR2]; omega) (fl c (p0.take p1.toNat++x::p0.drop p1.toNat) R3) (by
 rw[q4 x R3,← List.append_assoc A,← List.append_assoc A]
 exact fX (A:=A++c x) (by rw[List.length_append,hxl,q2]; omega) hR2) λK1=>⟨trivial, ?_⟩)
 refine zX (qk (f:=VJ 54 _ _ _ _ _ _ _ _ _ _) K1 rfl ?_)
 repeat refine vs ?_
 refine v0 (v0 ?_)
 subst ho
 have hol:(List.take p1.toNat p0++x::List.drop p1.toNat p0).length=p0.length+1:=by simp; omega
 refine vr λw=>dX.one (.inl rfl) (bG K1 [0] rfl).2 (bH.of_eq (show AV.vw q _ cap'=aw (some q) (p0.length+1) cap' by rw[hn0]; rfl)) ⟨⟨some q,p0.length+1,cap',R3⟩,⟨hol.symm,nofun,by rw[hol]; show p0.length+1≤cap'; omega,h2,by rw[hol]; show (p0.length+1)*35+R3.length=cap'*35; simp only[hR0,List.length_append,hR1,hR2,hxl] at h3; omega⟩,(bG K1 [0] rfl).1,rfl,rfl⟩
 refine vf (by rw[hw]; exact decide_eq_false (show ¬(cap:Int) < ((p0.length+1:Nat):Int) by omega)) (v0 ?_)
 repeat refine vs ?_
 refine v0 ?_
 have hv0:AV.vw k (IntKind.wrap .i64 ((p0.length:Int)+(([x]:List α).length:Int))).toNat cap= .vw k (p0.length+1) cap:=by rw[hw,Int.toNat_natCast]
 refine bU (fC (xZ (cap:=cap) (by rw[hw]; omega) (by rw[hw]; omega) eU rfl rfl) (bH.of_eq hv0)) ?_
 repeat refine vs ?_
 refine v0 ?_
 have hv4:AV.view k ((IntKind.wrap .i64 (p1+(([x]:List α).length:Int))).toNat*35) (p0.length+1 - (IntKind.wrap .i64 (p1+(([x]:List α).length:Int))).toNat)= .view k ((p1.toNat+1)*35) (p0.length - p1.toNat):=by
   rw[hw3,Int.toNat_natCast,show p0.length+1 - (p1.toNat+1)=p0.length - p1.toNat from by omega]
 refine bU (fC (jN (m:=p0.length+1) (by rw[hw3]; omega) (by rw[hw3]; omega) eU rfl rfl) (bH.of_eq hv4)) ?_
 have hfl:(fl c p0 sp).length=p1.toNat*35+((p0.length - p1.toNat)*35+sp.length):=by rw[q1,List.length_append,List.length_append,q2,q3]
 refine ve λw=>oL (sz:=35) (tS:=26) (tR:=4) Tryz.func173 (by kernel_rfl) (by kernel_rfl) (by kernel_rfl) (by kernel_rfl) lF (ys:=List.map c [x]) (by simp) (by decide) rfl rfl (a9 0 w rfl) (by rw[hfl]; omega) (qk w rfl ?_)
 refine v0 ?_
 repeat refine vs ?_
 refine v0 ?_
 refine vz [] mixed (λw=>trivial) λw=> ?_
 refine zC 0 rfl (eW (.vw _ _ _) rfl) ?_
 refine zI 1 rfl rfl ?_
 refine zI 2 rfl rfl ?_
 refine zC 3 rfl (lE rfl rfl rfl trivial) ?_
 refine zC 4 rfl (fC (jN (m:=p0.length+1) (by rw[hw3]; omega) (by rw[hw3]; omega) eU rfl rfl) (bH.of_eq hv4)) ?_
 refine zC 5 rfl (eW (.vw _ _ _) rfl) ?_
 refine zI 6 rfl rfl ?_
 refine zC 7 rfl (jN (m:=p0.length+1) i0 (by omega) eU rfl rfl) ?_
 have hxl:=hc x
 have e2:(List.drop (p1.toNat*35) (fl c p0 sp)).take ((p0.length - p1.toNat)*35)=B:=by
   rw[q1,← q2,List.drop_left,← q3,List.take_left]
 have hsp:35≤sp.length:=by omega
 obtain⟨X0,Y,Z,hXY,hX0,hY⟩:∃X0 Y Z:List AV,B++sp=X0++(Y++Z)∧X0.length=35∧Y.length=B.length:=
 ⟨(B++sp).take 35,((B++sp).drop 35).take B.length,((B++sp).drop 35).drop B.length,by rw[List.take_append_drop,List.take_append_drop],by rw[List.length_take,List.length_append]; omega,by rw[List.length_take,List.length_drop,List.length_append]; omega⟩
 have hZ:Z.length+35=sp.length:=by
   have:=congrArg List.length hXY
   simp only[List.length_append] at this
   omega
 refine zE 8 rfl (lT 0 lF w rfl rfl (cs:=B) (by rw[← e2]; exact AS.view (a9 0 w rfl)) (n1:=p0.length - p1.toNat) (m:=p0.length+1 - p1.toNat) (by rw[q3]; congr 1; omega) (by show (p1.toNat+1)*35+B.length≤(fl c p0 sp).length; rw[hfl]; omega) (A++(X0++(B++Z))) (by
 show eG (fl c p0 sp) ((p1.toNat+1)*35) B=_
 rw[q1,hXY,← List.append_assoc A,← List.append_assoc A]
 exact fX (A:=A++X0) (by rw[List.length_append,hX0,q2]; omega) hY) λK1=>⟨trivial, ?_⟩)
 refine zX (qk (f:=VJ 77 _ _ _ _ _ _ _ _ _ _) K1 rfl ?_)
 repeat refine vs ?_
 refine v0 (bU (jN (m:=p0.length+1) i0 (by omega) eU rfl rfl) ?_)
 refine ve λw=>lT 0 lF w rfl rfl (AS.sl (ys:=List.map c [x]) (by simp) _) (by simp[hxl]; omega) (by simp only[List.map_cons,List.map_nil,List.flatten_cons,List.flatten_nil,List.append_nil,List.length_append,q2,hX0,hxl]; omega) (fl c (p0.take p1.toNat++x::p0.drop p1.toNat) Z) (by
 simp only[List.map_cons,List.map_nil,List.flatten_cons,List.flatten_nil,List.append_nil]
 rw[q4 x Z]
 exact fX q2 (by rw[hX0,hxl])) λK1=>qk K1 rfl ?_
 repeat refine vs ?_
 refine v0 (v0 ?_)
 subst ho
 have hol:(List.take p1.toNat p0++x::List.drop p1.toNat p0).length=p0.length+1:=by simp; omega
 refine vr λw=>dX.one (.inl rfl) (bG w [0] rfl).2 (bH.of_eq (show AV.vw k _ cap=aw (some k) (p0.length+1) cap by rfl)) ⟨⟨some k,p0.length+1,cap,Z⟩,⟨hol.symm,nofun,by rw[hol]; show p0.length+1≤cap; omega,hmx,by rw[hol]; show (p0.length+1)*35+Z.length=cap*35; omega⟩,(bG w [0] rfl).1,rfl,rfl⟩
theorem ZM:aO Tryz.prog 117=true:=by kernel_rfl
open Go.Vm
def pO (m:Nat) (p0:List bI) (p1:bI) (q0:Int):Option (Lp (Int) ((List bI))):=
 after (if (decide (0 < q0))=true then ((ix p0 (IntKind.wrap .i64 (q0 - 1))).bind λx0=>if (decide (p1.Vol < x0.Vol))=true then (some (.brk true)) else (ix p0 (IntKind.wrap .i64 (q0 - 1))).bind λx1=>if (x1.Vol==p1.Vol)=true then ((ix p0 (IntKind.wrap .i64 (q0 - 1))).bind λx2=>if (decide (p1.File < x2.File))=true then (some (.brk true)) else (ix p0 (IntKind.wrap .i64 (q0 - 1))).bind λx3=>if (x3.File==p1.File)=true then ((ix p0 (IntKind.wrap .i64 (q0 - 1))).bind λx4=>some (.brk (decide (p1.Off < x4.Off)))) else some (.brk false)) else some (.brk false)) else some (.brk false):Option (Lp (Bool) (Lp (Int) ((List bI))))) λj0=>if j0=true then (some (.go (IntKind.wrap .i64 (q0 - 1)))) else some (.brk q0)
def u7 (m:Nat) (p0:List bI) (p1:bI):Option ((List bI)):=
 after (aT (λs=>pO m p0 p1 s) m (p0.length:Int)) λr0=>(o4 p0 r0 (p1:bI)).bind λy0=>some y0
theorem M4 {w:Nat} {p0:List bI} {p1:bI} {o:(List bI)} (h:aF) {g_p0:cR} (ok_p0:bK g_p0 4 p0.length) (K0:bV h [fJ g_p0 p0]) (m:u7 w p0 p1=some o):
 aL Tryz.prog 176 [aZ g_p0,.agg (aM p1)] (hp h [fJ g_p0 p0]) (λr h'=>∃g:cR,bK g 4 o.length∧bV h [(g.t,.obj 81 (fl aM o g.sp))]∧r=aZ g∧h'=hp h [(g.t,.obj 81 (fl aM o g.sp))]):=by
 refine tH K0 72 [.tmp 4] Tryz.func176 rfl rfl rfl rfl ?_
 unfold u7 at m
 refine vs (v0 (gG rfl rfl λk2 K3=>vs (v0 (bU (dR iC ok_p0 rfl) (vs (iI m (σ:=Int) (λs=> [(some k2,.obj 81 (aM p1)),fJ g_p0 p0]) (λs=>.c 0 (aZ g_p0) (.c 3 (.ptr k2 0) (.c 5 (nZ s) .nil))) (lx (.k3 .nil)) ?_ ?_))))))
 rintro _ q0 x m
 replace m:pO w p0 p1 q0=some x:=m
 unfold pO at m
 refine vs (vs (fB m (σ:=Bool) (λs=> [(some k2,.obj 81 (aM p1)),fJ g_p0 p0]) (λs=>.c 0 (aZ g_p0) (.c 3 (.ptr k2 0) (.c 5 (nZ q0) (.c 64 (.sc (.bool s)) .nil)))) (λx m=> ?_) ?_))
 refine v0 (vU (by kernel_rfl) ?_)
 apply vi m <;> intro b0 m
 rw[b0]
 obtain⟨x0,X0,m⟩:=aC m
 refine bU (cL X0 i8 ok_p0 rfl rfl) (bU (cS (bK.ne ok_p0 X0) B3 rfl rfl) (vn (λu=>dY (fo:=0) (nZ x0.Vol) X0 eS ok_p0 bX rfl (aI 1 u rfl) (λ_=>rfl)) (dM B3 rfl rfl (vl 0 _ bX rfl rfl rfl ?_))))
 apply vi m <;> intro b1 m
 rw[b1]
 exact fR m
 rw[b1]
 obtain⟨x1,X1,m⟩:=aC m
 refine bU (cL X1 i8 ok_p0 rfl rfl) (bU (cS (bK.ne ok_p0 X1) B3 rfl rfl) (vn (λu=>dY (fo:=0) (nZ x1.Vol) X1 eS ok_p0 bX rfl (aI 1 u rfl) (λ_=>rfl)) (dM B3 rfl rfl (vl 0 _ bX rfl rfl rfl ?_))))
 apply vi m <;> intro b2 m
 rw[b2]
 obtain⟨x2,X2,m⟩:=aC m
 refine bU (cL X2 i8 ok_p0 rfl rfl) (bU (cS (bK.ne ok_p0 X2) B4 rfl rfl) (vn (λu=>dY (fo:=1) (nZ x2.File) X2 eS ok_p0 bX rfl (aI 1 u rfl) (λ_=>rfl)) (dM B4 rfl rfl (vl 0 _ bX rfl rfl rfl ?_))))
 apply vi m <;> intro b3 m
 rw[b3]
 exact fR m
 rw[b3]
 obtain⟨x3,X3,m⟩:=aC m
 refine bU (cL X3 i8 ok_p0 rfl rfl) (bU (cS (bK.ne ok_p0 X3) B4 rfl rfl) (vn (λu=>dY (fo:=1) (nZ x3.File) X3 eS ok_p0 bX rfl (aI 1 u rfl) (λ_=>rfl)) (dM B4 rfl rfl (vl 0 _ bX rfl rfl rfl ?_))))
 apply vi m <;> intro b4 m
 rw[b4]
 obtain⟨x4,X4,m⟩:=aC m
 exact bU (cL X4 i8 ok_p0 rfl rfl) (bU (cS (bK.ne ok_p0 X4) LU rfl rfl) (vn (λu=>dY (fo:=2) (nZ x4.Off) X4 eS ok_p0 bX rfl (aI 1 u rfl) (λ_=>rfl)) (dM LU rfl rfl (vl 0 _ bX rfl rfl rfl (fR m)))))
 rw[b4]
 exact fR m
 rw[b2]
 exact fR m
 rw[b0]
 exact fR m
 rintro _ j0 m
 refine v0 ?_
 apply vi m <;> intro c0 m
 exact v0 (v0 (v0 (gH m)))
 exact v0 (xC m)
 rintro _ r0 m
 refine vs (v0 (vl 0 (.agg (aM p1)) kL rfl rfl rfl (bU (eO (List.map aM ([p1]:List bI)) o1 rfl rfl rfl rfl) ?_)))
 obtain⟨y0,Y0,m⟩:=aC m
 refine ve λu=> ?_
 have ho0:=lV (A:= [fJ g_p0 p0]) (R:= [(some k2,.obj 81 (aM p1))]) u [[_], [_]] rfl [1] [0] rfl rfl rfl
 refine dA ho0.1 (cK (aFH eS _ ok_p0 ho0.2.2 Y0) rfl ZK rfl ?_)
 rintro x h' ⟨ag0,O0,K1,rfl,rfl⟩
 have K2:=lW (L':= [(some k2,.obj 81 (aM p1)),fJ ag0 y0]) ho0.2.1 K1 [[_]] [[_]] rfl rfl [1,0] rfl rfl
 refine qk K2.2 K2.1 (v0 ?_)
 obtain rfl:=eB m
 exact vr λu=>dX.one (.inl rfl) (aS (h0:=h) (L':= [fJ ag0 y0]) (.cons _ (.refl _)) u).1 (bH.refl _ _) ⟨ag0,O0,(aS (h0:=h) (L':= [fJ ag0 y0]) (.cons _ (.refl _)) u).2,rfl,rfl⟩
theorem M5:aO Tryz.prog 176=true:=by kernel_rfl
open Go.Vm
def G8 (m:Nat) (p0:aB) (p1:bE) (p2:bI):Option (Int×Int×AN):=
 after (if (p1.Kind==1)=true then ((vP m p0.Chunks p1.Id).bind λy0=>if (!y0.2)=true then (some (.ret (8,p0.Seq,p0.Snaps,p0.Chunks,p0.Exps))) else (ix p0.Chunks y0.1).bind λx2=>(u7 m x2.Locs p2).bind λy1=>(ix p0.Chunks y0.1).bind λx3=>some (.brk (p0.Seq,p0.Snaps,p0.Chunks.set y0.1.toNat ({ x3 with Locs:=y1}),p0.Exps))) else after (if (p1.Kind==2)=true then ((pN m p0.Snaps (λx0=>MY m x0 p1)).bind λy2=>if (decide (y2 < 0))=true then (some (.ret (.ret (8,p0.Seq,p0.Snaps,p0.Chunks,p0.Exps)))) else (ix p0.Snaps y2).bind λx4=>(u7 m x4.Locs p2).bind λy3=>(ix p0.Snaps y2).bind λx5=>some (.brk (p0.Seq,p0.Snaps.set y2.toNat ({ x5 with Locs:=y3}),p0.Exps))) else after (if (p1.Kind==3)=true then ((MZ m p0.Exps p1.Seq (λx0 x1=>CD m x0 x1)).bind λy4=>after (if (!y4.2)=true then ((o4 p0.Exps y4.1 (({ Seq:=p1.Seq,Of:=p1.Of,Locs:= []}:aQ):aQ)).bind λy5=>some (.brk ((max p0.Seq (IntKind.wrap .i64 (p1.Seq+1))),y5))) else some (.brk (p0.Seq,p0.Exps)):Option (Lp (Int×(List aQ)) (Lp (Int×(List aQ)) (Lp (Int×(List aG)×(List aQ)) (Lp (Int×AN) (Int×Int×AN)))))) λ⟨j0,j1⟩=>(ix j1 y4.1).bind λx6=>(u7 m x6.Locs p2).bind λy6=>(ix j1 y4.1).bind λx7=>some (.brk (j0,j1.set y4.1.toNat ({ x7 with Locs:=y6})))) else some (.brk (p0.Seq,p0.Exps)):Option (Lp (Int×(List aQ)) (Lp (Int×(List aG)×(List aQ)) (Lp (Int×AN) (Int×Int×AN))))) λ⟨j2,j3⟩=>some (.brk (j2,p0.Snaps,j3)):Option (Lp (Int×(List aG)×(List aQ)) (Lp (Int×AN) (Int×Int×AN)))) λ⟨j4,j5,j6⟩=>some (.brk (j4,j5,p0.Chunks,j6)):Option (Lp (Int×AN) (Int×Int×AN))) λ⟨j7,j8,j9,j10⟩=>some (0,j7,j8,j9,j10)
theorem aFK {w:Nat} {p0:aB} {p1:bE} {p2:bI} {o:Int×Int×AN} (h:aF) {p0K:cB} {gS:dF} (ok_Snaps:lX aG.Locs 4 4 gS (p0.Snaps:List aG)) {gC:dF} (oC:lX aA.Locs 35 4 gC (p0.Chunks:List aA)) {gE:dF} (oE:lX aQ.Locs 3 4 gE (p0.Exps:List aQ)) {gV:cR} (oV:bK gV 4 p0.Vols.length) (K0:bV h ([OC p0K p0.Seq gS.a gC.a gE.a gV,bM gS p0.Snaps,aW gC p0.Chunks,bR gE p0.Exps,aN gV p0.Vols]++((bQ gS p0.Snaps)++((a8 gC p0.Chunks)++(bS gE p0.Exps))))) (m:G8 w p0 p1 p2=some o):
 aL Tryz.prog 123 [.ptr p0K 0,.agg (aY p1),.agg (aM p2)] (hp h ([OC p0K p0.Seq gS.a gC.a gE.a gV,bM gS p0.Snaps,aW gC p0.Chunks,bR gE p0.Exps,aN gV p0.Vols]++((bQ gS p0.Snaps)++((a8 gC p0.Chunks)++(bS gE p0.Exps))))) (λr h'=>∃g_Snaps':dF,lX aG.Locs 4 4 g_Snaps' (o.2.2.1:List aG)∧∃g_Chunks':dF,lX aA.Locs 35 4 g_Chunks' (o.2.2.2.1:List aA)∧∃g_Exps':dF,lX aQ.Locs 3 4 g_Exps' (o.2.2.2.2:List aQ)∧bV h ([OC p0K o.2.1 g_Snaps'.a g_Chunks'.a g_Exps'.a gV,bM g_Snaps' o.2.2.1,aW g_Chunks' o.2.2.2.1,bR g_Exps' o.2.2.2.2,aN gV p0.Vols]++((bQ g_Snaps' o.2.2.1)++((a8 g_Chunks' o.2.2.2.1)++(bS g_Exps' o.2.2.2.2))))∧r=nZ o.1∧h'=hp h ([OC p0K o.2.1 g_Snaps'.a g_Chunks'.a g_Exps'.a gV,bM g_Snaps' o.2.2.1,aW g_Chunks' o.2.2.2.1,bR g_Exps' o.2.2.2.2,aN gV p0.Vols]++((bQ g_Snaps' o.2.2.1)++((a8 g_Chunks' o.2.2.2.1)++(bS g_Exps' o.2.2.2.2))))):=by
 refine tH K0 129 [.tmp 6] Tryz.func123 rfl rfl rfl rfl ?_
 unfold G8 at m
 refine vs (v0 (gG rfl rfl λk2 K3=>gG rfl rfl λk5 K6=>vs (vs (v0 (dM lR rfl rfl (vl 1 _ bX rfl rfl rfl (v0 (vs (v0 (o6 m (σ:=Int×AN) (τ:=dF×dF×dF) (λg s=>([(some k5,.obj 81 (aM p2)),(some k2,.obj 38 (aY p1)),OC p0K s.1 g.1.a g.2.1.a g.2.2.a gV,bM g.1 s.2.1,aW g.2.1 s.2.2.1,bR g.2.2 s.2.2.2,aN gV p0.Vols]++((bQ g.1 s.2.1)++((a8 g.2.1 s.2.2.1)++(bS g.2.2 s.2.2.2))))) (λg s=>lX aG.Locs 4 4 g.1 (s.2.1:List aG)∧lX aA.Locs 35 4 g.2.1 (s.2.2.1:List aA)∧lX aQ.Locs 3 4 g.2.2 (s.2.2.2:List aQ)) (λg s=>.nil) (λx m=> ?_) ?_))))))))))
 refine v0 ?_
 apply vi m <;> intro c0 m
 refine vs (v0 (vU (by kernel_rfl) (jL rfl (dM dZ rfl rfl (vl 2 (aZ gC.a) eD rfl rfl rfl (dM tY rfl rfl (vl 1 (.agg (bJ p1.Id)) fK rfl rfl rfl ?_)))))))
 obtain⟨y0,Y0,m⟩:=aC m
 refine vn (λu=>bZ (fH (.cons (Br.awN 4 cO eS EP oC.k u rfl (UB [[_], [_], [_], [_], [_], [_], [_],_,_,_] rfl 8 rfl)) (.cons (Br.refl _ _) .nil)) rfl (P4 _ Y0)) rfl H6 rfl) (vs (vs (v0 (v0 ?_))))
 apply vi m <;> intro c1 m
 refine vs (v0 (v0 (fO m λm=> ?_)))
 cases m
 exact vr λu=>dX.of1 (.inl rfl) (fU _ _ (.sc (.int _ _)) rfl) (sQ (L':=([OC p0K p0.Seq gS.a gC.a gE.a gV,bM gS p0.Snaps,aW gC p0.Chunks,bR gE p0.Exps,aN gV p0.Vols]++((bQ gS p0.Snaps)++((a8 gC p0.Chunks)++(bS gE p0.Exps))))) u [[_], [_], [_], [_], [_], [_], [_],_,_,_] rfl [2,3,4,5,6,7,8,9] rfl rfl).2 (bH.refl _ _) ⟨gS,ok_Snaps,gC,oC,gE,oE,(sQ (L':=([OC p0K p0.Seq gS.a gC.a gE.a gV,bM gS p0.Snaps,aW gC p0.Chunks,bR gE p0.Exps,aN gV p0.Vols]++((bQ gS p0.Snaps)++((a8 gC p0.Chunks)++(bS gE p0.Exps))))) u [[_], [_], [_], [_], [_], [_], [_],_,_,_] rfl [2,3,4,5,6,7,8,9] rfl rfl).1,rfl,rfl⟩
 refine v0 (v0 (vz [(1000000,some p0K,.obj 30 ([nZ p0.Seq,aZ gS.a,aZ gC.a,aZ gE.a,aZ gV])),(17,gC.a.t,.obj 44 (fl jI (zg (p0.Chunks:List aA) gC.gs) gC.a.sp)),(1000000,some k5,.obj 81 (aM p2))] mixed (λu=>⟨λ_=>aI 2 u rfl,λ_=>aI 4 u rfl,λ_=>aI 0 u rfl,trivial⟩) λu=>zP 0 rfl rfl (zN 1 rfl rfl (zF 2 rfl dZ rfl (zL 3 0 (aZ gC.a) rfl eD rfl rfl rfl (zI 4 rfl rfl (zP 5 rfl rfl (zN 6 rfl rfl (zF 7 rfl dZ rfl (zL 8 0 (aZ gC.a) rfl eD rfl rfl rfl (zI 9 rfl rfl ?_)))))))))))
 obtain⟨x1,X0,m⟩:=aC m
 refine zC 10 rfl (cL (oC.k.ix X0) eU oC.k.z rfl rfl) (zC 11 rfl (cS (bK.ne oC.k.z (oC.k.ix X0)) iW rfl rfl) ?_)
 obtain⟨gv0,hg0,ga0,gn0⟩:=oC.gx X0
 refine vL 12 rfl (λ_ _ hi hB=>fC (dY (fo:=34) (awO aM 4 (gx gC.gs y0.1.toNat) x1.Locs) (oC.k.ix X0) iR oC.k.z e8 rfl (fW.get 1 hi rfl (hB 17 (by kernel_rfl))) (λ_=>rfl)) (bH.of_eq (congrArg (λz=>awO aM 4 z x1.Locs) hg0))) (zL 13 2 (.agg (aM p2)) rfl kL rfl rfl rfl ?_)
 obtain⟨y1,Y1,m⟩:=aC m
 refine zE 14 rfl ?_
 have ho0:=p4 (R:=([(some k5,.obj 81 (aM p2)),(some k2,.obj 38 (aY p1)),OC p0K p0.Seq gS.a gC.a gE.a gV,bM gS p0.Snaps,aW gC p0.Chunks,bR gE p0.Exps,aN gV p0.Vols]++((bQ gS p0.Snaps)++((kA 81 aM ((nl aA.Locs (zg (p0.Chunks:List aA) gC.gs)).eraseIdx y0.1.toNat))++(bS gE p0.Exps))))) u [[_], [_], [_], [_], [_], [_], [_],_,_,_] rfl 8 rfl gn0 rfl
 have ho1:=cJ [(eI gv0 x1.Locs)] _ ho0.2
 refine dA (ho0.1.trans (cT h [(eI gv0 x1.Locs)] _).symm) (cK (M4 _ ga0 ho1.2 Y1) rfl M5 rfl ?_)
 rintro x h' ⟨ag0,O0,K1,rfl,rfl⟩
 refine kJ (cT h [fJ ag0 y1] _) (⟨⟨λ_=>aI 3 (dG ho1.1 K1) rfl,λ_=>aI 5 (dG ho1.1 K1) rfl,λ_=>aI 1 (dG ho1.1 K1) rfl,trivial⟩, ?_⟩)
 obtain⟨x2,X1,m⟩:=aC m
 refine zC 15 rfl (cL (oC.k.ix X1) eU oC.k.z rfl rfl) (zC 16 rfl (cS (bK.ne oC.k.z (oC.k.ix X1)) iW rfl rfl) (zE 17 rfl (cI (fo:=34) (x':=(({ x2 with Locs:=y1}:aA),some ag0)) 5 (dG ho1.1 K1) (oC.k.ix X1) iR oC.k.z rfl rfl (cC rfl) (cE (bY _ _ _) rfl) (cU.refl _ _) nL rfl rfl ?_)))
 intro K2
 have O1:=oC.setL (x':=({ x2 with Locs:=y1}:aA)) X1 ag0 O0
 have hr0:=sP (L':=(eI ag0 y1)::(([(some k5,.obj 81 (aM p2)),(some k2,.obj 38 (aY p1)),OC p0K p0.Seq gS.a gC.a gE.a gV,bM gS p0.Snaps,(gC.a.t,.obj 44 (fl jI (((zg (p0.Chunks:List aA) gC.gs)).set y0.1.toNat (({ x2 with Locs:=y1}:aA),some ag0)) gC.a.sp)),bR gE p0.Exps,aN gV p0.Vols]:HL)++((bQ gS p0.Snaps)++((kA 81 aM ((nl aA.Locs (zg (p0.Chunks:List aA) gC.gs)).eraseIdx y0.1.toNat))++(bS gE p0.Exps))))) K2 [[_], [_], [_], [_], [_], [_], [_], [_],_,_,_] rfl [0,1,2,3,4,5,6,7,8,9,10] rfl rfl
 have hj0:=oK (L':=([(some k5,.obj 81 (aM p2)),(some k2,.obj 38 (aY p1)),OC p0K p0.Seq gS.a ((⟨gC.a,gC.gs.set y0.1.toNat (some ag0)⟩:dF).a) gE.a gV,bM gS p0.Snaps,aW (⟨gC.a,gC.gs.set y0.1.toNat (some ag0)⟩:dF) (p0.Chunks.set y0.1.toNat ({ x2 with Locs:=y1})),bR gE p0.Exps,aN gV p0.Vols]++((bQ gS p0.Snaps)++((a8 (⟨gC.a,gC.gs.set y0.1.toNat (some ag0)⟩:dF) (p0.Chunks.set y0.1.toNat ({ x2 with Locs:=y1})))++(bS gE p0.Exps))))) [[_], [_], [_], [_], [_], [_], [_],_,_,_] rfl 8 (zs:=nl aA.Locs (zg (p0.Chunks:List aA) gC.gs)) (j:=y0.1.toNat) (aA.Locs ({ x2 with Locs:=y1}:aA),some ag0) (jM (oC.k.nlat X1)) rfl hr0.2 (by rw[← (oC.k.setL (x':=({ x2 with Locs:=y1}:aA)) X1 ag0 O0).2.2,(oC.k.setL (x':=({ x2 with Locs:=y1}:aA)) X1 ag0 O0).2.1]; rfl)
 refine kJ (hr0.1.trans hj0.1) (⟨⟨λ_=>aI 2 hj0.2 rfl,λe=>absurd e (by decide),λ_=>aI 0 hj0.2 rfl,trivial⟩, ?_⟩)
 exact zX (qk (f:=vM 44 _ _ _ _ _ _ _ _ _ _ _ _ _ _ _ _ _ _) hj0.2 rfl (eY m (gS,(⟨gC.a,gC.gs.set y0.1.toNat (some ag0)⟩:dF),gE) ⟨ok_Snaps,O1,oE⟩ (lx .nil)))
 refine vs (v0 (o6 m (σ:=Int×(List aG)×(List aQ)) (τ:=dF×dF) (λg s=>([(some k5,.obj 81 (aM p2)),(some k2,.obj 38 (aY p1)),OC p0K s.1 g.1.a gC.a g.2.a gV,bM g.1 s.2.1,aW gC p0.Chunks,bR g.2 s.2.2,aN gV p0.Vols]++((bQ g.1 s.2.1)++((a8 gC p0.Chunks)++(bS g.2 s.2.2))))) (λg s=>lX aG.Locs 4 4 g.1 (s.2.1:List aG)∧lX aQ.Locs 3 4 g.2 (s.2.2:List aQ)) (λg s=>.nil) (λx m=> ?_) ?_))
 refine v0 ?_
 apply vi m <;> intro c2 m
 refine vs (v0 (jL rfl (dM dW rfl rfl (vl 2 (aZ gS.a) eK rfl rfl rfl ?_))))
 obtain⟨y2,Y2,m⟩:=aC m
 refine ve λu=> ?_
 have ho2:=lV (A:= [bM gS p0.Snaps]) (R:=([(some k5,.obj 81 (aM p2)),(some k2,.obj 38 (aY p1)),OC p0K p0.Seq gS.a gC.a gE.a gV,aW gC p0.Chunks,bR gE p0.Exps,aN gV p0.Vols]++((bQ gS p0.Snaps)++((a8 gC p0.Chunks)++(bS gE p0.Exps))))) u [[_], [_], [_], [_], [_], [_], [_],_,_,_] rfl [3] [0,1,2,4,5,6,7,8,9] rfl rfl rfl
 refine dA ho2.1 (cK (ZB kF _ ok_Snaps.k.z ho2.2.2 ZC (λx0 o h0 hs ho=>ZD (p0:=x0.1) (og0:=x0.2) h0 (hs _ _ (a9 1 ho2.2.1 rfl)) ho) (MX ok_Snaps.k.len Y2)) rfl D7 rfl ?_)
 rintro x h' ⟨rfl,rfl⟩
 refine qk u ho2.1.symm (vs (vs (v0 (v0 ?_))))
 apply vi m <;> intro c3 m
 refine vs (v0 (v0 (fO m λm=>fO m λm=> ?_)))
 cases m
 exact vr λu=>dX.of1 (.inl rfl) (fU _ _ (.sc (.int _ _)) rfl) (sQ (L':=([OC p0K p0.Seq gS.a gC.a gE.a gV,bM gS p0.Snaps,aW gC p0.Chunks,bR gE p0.Exps,aN gV p0.Vols]++((bQ gS p0.Snaps)++((a8 gC p0.Chunks)++(bS gE p0.Exps))))) u [[_], [_], [_], [_], [_], [_], [_],_,_,_] rfl [2,3,4,5,6,7,8,9] rfl rfl).2 (bH.refl _ _) ⟨gS,ok_Snaps,gC,oC,gE,oE,(sQ (L':=([OC p0K p0.Seq gS.a gC.a gE.a gV,bM gS p0.Snaps,aW gC p0.Chunks,bR gE p0.Exps,aN gV p0.Vols]++((bQ gS p0.Snaps)++((a8 gC p0.Chunks)++(bS gE p0.Exps))))) u [[_], [_], [_], [_], [_], [_], [_],_,_,_] rfl [2,3,4,5,6,7,8,9] rfl rfl).1,rfl,rfl⟩
 refine v0 (v0 (vz [(1000000,some p0K,.obj 30 ([nZ p0.Seq,aZ gS.a,aZ gC.a,aZ gE.a,aZ gV])),(17,gS.a.t,.obj 60 (fl kD (zg (p0.Snaps:List aG) gS.gs) gS.a.sp)),(1000000,some k5,.obj 81 (aM p2))] mixed (λu=>⟨λ_=>aI 2 u rfl,λ_=>aI 3 u rfl,λ_=>aI 0 u rfl,trivial⟩) λu=>zP 0 rfl rfl (zN 1 rfl rfl (zF 2 rfl dW rfl (zL 3 0 (aZ gS.a) rfl eK rfl rfl rfl (zI 4 rfl rfl (zP 5 rfl rfl (zN 6 rfl rfl (zF 7 rfl dW rfl (zL 8 0 (aZ gS.a) rfl eK rfl rfl rfl (zI 9 rfl rfl ?_)))))))))))
 obtain⟨x3,X2,m⟩:=aC m
 refine zC 10 rfl (cL (ok_Snaps.k.ix X2) gJ ok_Snaps.k.z rfl rfl) (zC 11 rfl (cS (bK.ne ok_Snaps.k.z (ok_Snaps.k.ix X2)) jP rfl rfl) ?_)
 obtain⟨gv1,hg1,ga1,gn1⟩:=ok_Snaps.gx X2
 refine vL 12 rfl (λ_ _ hi hB=>fC (dY (fo:=3) (awO aM 4 (gx gS.gs y2.toNat) x3.Locs) (ok_Snaps.k.ix X2) kF ok_Snaps.k.z e8 rfl (fW.get 1 hi rfl (hB 17 (by kernel_rfl))) (λ_=>rfl)) (bH.of_eq (congrArg (λz=>awO aM 4 z x3.Locs) hg1))) (zL 13 2 (.agg (aM p2)) rfl kL rfl rfl rfl ?_)
 obtain⟨y3,Y3,m⟩:=aC m
 refine zE 14 rfl ?_
 have ho3:=p4 (R:=([(some k5,.obj 81 (aM p2)),(some k2,.obj 38 (aY p1)),OC p0K p0.Seq gS.a gC.a gE.a gV,bM gS p0.Snaps,aW gC p0.Chunks,bR gE p0.Exps,aN gV p0.Vols]++((kA 81 aM ((nl aG.Locs (zg (p0.Snaps:List aG) gS.gs)).eraseIdx y2.toNat))++((a8 gC p0.Chunks)++(bS gE p0.Exps))))) u [[_], [_], [_], [_], [_], [_], [_],_,_,_] rfl 7 rfl gn1 rfl
 have ho4:=cJ [(eI gv1 x3.Locs)] _ ho3.2
 refine dA (ho3.1.trans (cT h [(eI gv1 x3.Locs)] _).symm) (cK (M4 _ ga1 ho4.2 Y3) rfl M5 rfl ?_)
 rintro x h' ⟨ag1,O2,K4,rfl,rfl⟩
 refine kJ (cT h [fJ ag1 y3] _) (⟨⟨λ_=>aI 3 (dG ho4.1 K4) rfl,λ_=>aI 4 (dG ho4.1 K4) rfl,λ_=>aI 1 (dG ho4.1 K4) rfl,trivial⟩, ?_⟩)
 obtain⟨x4,X3,m⟩:=aC m
 refine zC 15 rfl (cL (ok_Snaps.k.ix X3) gJ ok_Snaps.k.z rfl rfl) (zC 16 rfl (cS (bK.ne ok_Snaps.k.z (ok_Snaps.k.ix X3)) jP rfl rfl) (zE 17 rfl (cI (fo:=3) (x':=(({ x4 with Locs:=y3}:aG),some ag1)) 4 (dG ho4.1 K4) (ok_Snaps.k.ix X3) kF ok_Snaps.k.z rfl rfl (cC rfl) (cE (bY _ _ _) rfl) (cU.refl _ _) nL rfl rfl ?_)))
 intro K5
 have O3:=ok_Snaps.setL (x':=({ x4 with Locs:=y3}:aG)) X3 ag1 O2
 have hr1:=sP (L':=(eI ag1 y3)::(([(some k5,.obj 81 (aM p2)),(some k2,.obj 38 (aY p1)),OC p0K p0.Seq gS.a gC.a gE.a gV,(gS.a.t,.obj 60 (fl kD (((zg (p0.Snaps:List aG) gS.gs)).set y2.toNat (({ x4 with Locs:=y3}:aG),some ag1)) gS.a.sp)),aW gC p0.Chunks,bR gE p0.Exps,aN gV p0.Vols]:HL)++((kA 81 aM ((nl aG.Locs (zg (p0.Snaps:List aG) gS.gs)).eraseIdx y2.toNat))++((a8 gC p0.Chunks)++(bS gE p0.Exps))))) K5 [[_], [_], [_], [_], [_], [_], [_], [_],_,_,_] rfl [0,1,2,3,4,5,6,7,8,9,10] rfl rfl
 have hj1:=oK (L':=([(some k5,.obj 81 (aM p2)),(some k2,.obj 38 (aY p1)),OC p0K p0.Seq ((⟨gS.a,gS.gs.set y2.toNat (some ag1)⟩:dF).a) gC.a gE.a gV,bM (⟨gS.a,gS.gs.set y2.toNat (some ag1)⟩:dF) (p0.Snaps.set y2.toNat ({ x4 with Locs:=y3})),aW gC p0.Chunks,bR gE p0.Exps,aN gV p0.Vols]++((bQ (⟨gS.a,gS.gs.set y2.toNat (some ag1)⟩:dF) (p0.Snaps.set y2.toNat ({ x4 with Locs:=y3})))++((a8 gC p0.Chunks)++(bS gE p0.Exps))))) [[_], [_], [_], [_], [_], [_], [_],_,_,_] rfl 7 (zs:=nl aG.Locs (zg (p0.Snaps:List aG) gS.gs)) (j:=y2.toNat) (aG.Locs ({ x4 with Locs:=y3}:aG),some ag1) (jM (ok_Snaps.k.nlat X3)) rfl hr1.2 (by rw[← (ok_Snaps.k.setL (x':=({ x4 with Locs:=y3}:aG)) X3 ag1 O2).2.2,(ok_Snaps.k.setL (x':=({ x4 with Locs:=y3}:aG)) X3 ag1 O2).2.1]; rfl)
 refine kJ (hr1.1.trans hj1.1) (⟨⟨λ_=>aI 2 hj1.2 rfl,λe=>absurd e (by decide),λ_=>aI 0 hj1.2 rfl,trivial⟩, ?_⟩)
 exact zX (qk (f:=vM 71 _ _ _ _ _ _ _ _ _ _ _ _ _ _ _ _ _ _) hj1.2 rfl (eY m ((⟨gS.a,gS.gs.set y2.toNat (some ag1)⟩:dF),gE) ⟨O3,oE⟩ (lx .nil)))
 refine vs (v0 (o6 m (σ:=Int×(List aQ)) (τ:=dF) (λg s=>([(some k5,.obj 81 (aM p2)),(some k2,.obj 38 (aY p1)),OC p0K s.1 gS.a gC.a g.a gV,bM gS p0.Snaps,aW gC p0.Chunks,bR g s.2,aN gV p0.Vols]++((bQ gS p0.Snaps)++((a8 gC p0.Chunks)++(bS g s.2))))) (λg s=>lX aQ.Locs 3 4 g (s.2:List aQ)) (λg s=>.nil) (λx m=> ?_) ?_))
 refine v0 ?_
 apply vi m <;> intro c4 m
 refine vs (v0 (vU (by kernel_rfl) (jL rfl (dM eT rfl rfl (vl 2 (aZ gE.a) hX rfl rfl rfl (dM kQ rfl rfl (vl 1 _ bX rfl rfl rfl ?_)))))))
 obtain⟨y4,Y4,m⟩:=aC m
 refine vn (λu=>bZ (fH (.cons (Br.awN 5 fM eS UE oE.k u rfl (UB [[_], [_], [_], [_], [_], [_], [_],_,_,_] rfl 9 rfl)) (.cons (Br.refl _ _) (.cons (Br.refl _ _) .nil))) rfl (aFC _ ZE (λx0 _ o h0 hs ho=>aFB _ ho) Y4)) rfl ZF rfl) (vs (vs (v0 (o6 m (σ:=Int×(List aQ)) (τ:=dF) (λg s=>([(some k5,.obj 81 (aM p2)),(some k2,.obj 38 (aY p1)),OC p0K s.1 gS.a gC.a g.a gV,bM gS p0.Snaps,aW gC p0.Chunks,bR g s.2,aN gV p0.Vols]++((bQ gS p0.Snaps)++((a8 gC p0.Chunks)++(bS g s.2))))) (λg s=>lX aQ.Locs 3 4 g (s.2:List aQ)) (λg s=>.c 0 (.ptr p0K 0) (.c 5 (.ptr k5 0) (.c 10 (nZ y4.1) .nil))) (λx m=> ?_) ?_))))
 refine v0 ?_
 apply vi m <;> intro c5 m
 refine vs (v0 (vz [(15,some p0K,.obj 30 ([nZ p0.Seq,aZ gS.a,aZ gC.a,aZ gE.a,aZ gV])),(1000000,some k2,.obj 38 (aY p1))] mixed (λu=>⟨λ_=>aI 2 u rfl,λ_=>aI 1 u rfl,trivial⟩) λu=>zP 0 rfl rfl (zP 1 rfl rfl (zN 2 rfl rfl (zF 3 rfl eT rfl (zL 4 0 (aZ gE.a) rfl hX rfl rfl rfl (zI 5 rfl rfl (zF 6 rfl kQ rfl (zL 7 1 (nZ p1.Seq) rfl bX rfl rfl rfl (zF 8 rfl tZ rfl (zL 9 1 (nZ p1.Of) rfl bX rfl rfl rfl (zC 10 rfl (fC (y:=.agg (kX ((({ Seq:=p1.Seq,Of:=p1.Of,Locs:= []}:aQ):aQ),some g0))) (fG ([nZ p1.Seq,nZ p1.Of,sZ]) W6 rfl) (bH.agg (.k2 (.cons (fZ _) .nil)))) (zC 11 rfl (eO (List.map kX [((({ Seq:=p1.Seq,Of:=p1.Of,Locs:= []}:aQ):aQ),some g0)]) o0 rfl rfl rfl rfl) ?_)))))))))))))
 obtain⟨y5,Y5,m⟩:=aC m
 refine zE 12 rfl ?_
 have ho5:=lV (A:= [bR gE p0.Exps]) (R:=([(some k5,.obj 81 (aM p2)),(some k2,.obj 38 (aY p1)),OC p0K p0.Seq gS.a gC.a gE.a gV,bM gS p0.Snaps,aW gC p0.Chunks,aN gV p0.Vols]++((bQ gS p0.Snaps)++((a8 gC p0.Chunks)++(bS gE p0.Exps))))) u [[_], [_], [_], [_], [_], [_], [_],_,_,_] rfl [5] [0,1,2,3,4,6,7,8,9] rfl rfl rfl
 refine dA ho5.1 (cK (aFI oM _ oE.k.z ho5.2.2 (QI oE.k.len (some g0) Y5)) rfl ZL rfl ?_)
 rintro x h' ⟨ag2,O4,K7,rfl,rfl⟩
 have K8:=lW (L':=([(some k5,.obj 81 (aM p2)),(some k2,.obj 38 (aY p1)),(hO p0K p0.Seq gS.a gC.a gE.a gV),bM gS p0.Snaps,aW gC p0.Chunks,bR (⟨ag2,lK gE.gs y4.1.toNat (some g0)⟩:dF) y5,aN gV p0.Vols]++((bQ gS p0.Snaps)++((a8 gC p0.Chunks)++(bS gE p0.Exps))))) ho5.2.1 K7 [[_]] [[_], [_], [_], [_], [_], [_],_,_,_] rfl rfl [1,2,3,4,5,0,6,7,8,9] rfl rfl
 have K9:=QJ (L':=([(some k5,.obj 81 (aM p2)),(some k2,.obj 38 (aY p1)),(hO p0K p0.Seq gS.a gC.a gE.a gV),bM gS p0.Snaps,aW gC p0.Chunks,bR (⟨ag2,lK gE.gs y4.1.toNat (some g0)⟩:dF) y5,aN gV p0.Vols]++((bQ gS p0.Snaps)++((a8 gC p0.Chunks)++(bS (⟨ag2,lK gE.gs y4.1.toNat (some g0)⟩:dF) y5))))) K8.2 [[_], [_], [_], [_], [_], [_], [_],_,_,_] rfl 9 oE.k.len (og:=some g0) rfl Y5 rfl rfl
 refine kJ (K8.1.trans K9.1) (⟨⟨λ_=>aI 2 K9.2 rfl,λ_=>aI 1 K9.2 rfl,trivial⟩, ?_⟩)
 refine zN 13 rfl rfl (zF 14 rfl eT rfl (zE 15 rfl (aK 2 ([nZ p0.Seq,aZ gS.a,aZ gC.a,aw (⟨ag2,lK gE.gs y4.1.toNat (some g0)⟩:dF).a.t (⟨ag2,lK gE.gs y4.1.toNat (some g0)⟩:dF).a.n (⟨ag2,lK gE.gs y4.1.toNat (some g0)⟩:dF).a.cap,aZ gV]) K9.2 rfl rfl (cC rfl) (cE (bY _ _ _) rfl) JG rfl rfl λK10=>⟨⟨λe=>absurd e (by decide),λ_=>aI 1 K10 rfl,trivial⟩, ?_⟩)))
 refine zX (qk (f:=aCR 100 _ _ _ _ _ _ _ _ _ _ _ _ _ _ _ _) K10 rfl (v0 (vz [(11,some p0K,.obj 30 ([nZ p0.Seq,aZ gS.a,aZ gC.a,aw (⟨ag2,lK gE.gs y4.1.toNat (some g0)⟩:dF).a.t (⟨ag2,lK gE.gs y4.1.toNat (some g0)⟩:dF).a.n (⟨ag2,lK gE.gs y4.1.toNat (some g0)⟩:dF).a.cap,aZ gV])),(1000000,some k2,.obj 38 (aY p1))] mixed (λu=>⟨λ_=>aI 2 u rfl,λ_=>aI 1 u rfl,trivial⟩) λu=>zP 0 rfl rfl (zP 1 rfl rfl (zN 2 rfl rfl (zF 3 rfl nD rfl (zL 4 0 (nZ p0.Seq) rfl bX rfl rfl rfl (zF 5 rfl kQ rfl (zL 6 1 (nZ p1.Seq) rfl bX rfl rfl rfl (zC 7 rfl (lE rfl rfl rfl trivial) (zC 8 rfl (WL rfl rfl) (zN 9 rfl rfl (zF 10 rfl nD rfl (zE 11 rfl (aK 2 ([nZ (max p0.Seq (IntKind.wrap .i64 (p1.Seq+1))),aZ gS.a,aZ gC.a,aw (⟨ag2,lK gE.gs y4.1.toNat (some g0)⟩:dF).a.t (⟨ag2,lK gE.gs y4.1.toNat (some g0)⟩:dF).a.n (⟨ag2,lK gE.gs y4.1.toNat (some g0)⟩:dF).a.cap,aZ gV]) u rfl rfl rfl rfl yT rfl rfl λK11=>⟨⟨λe=>absurd e (by decide),λ_=>aI 1 K11 rfl,trivial⟩, ?_⟩)))))))))))))))
 exact zX (qk (f:=SX 111 _ _ _ _ _ _ _ _ _ _ _ _) K11 rfl (eY m (⟨ag2,lK gE.gs y4.1.toNat (some g0)⟩:dF) (oE.ins Y5 rfl O4) (lx (.k3 .nil))))
 exact v0 (eY m gE oE (lx (.k3 .nil)))
 rintro ng0 ⟨j0,j1⟩ O5 m
 refine v0 (vz [(1000000,some p0K,.obj 30 ([nZ j0,aZ gS.a,aZ gC.a,aZ ng0.a,aZ gV])),(17,ng0.a.t,.obj 99 (fl kX (zg (j1:List aQ) ng0.gs) ng0.a.sp)),(1000000,some k5,.obj 81 (aM p2))] mixed (λu=>⟨λ_=>aI 2 u rfl,λ_=>aI 5 u rfl,λ_=>aI 0 u rfl,trivial⟩) λu=>zP 0 rfl rfl (zN 1 rfl rfl (zF 2 rfl eT rfl (zL 3 0 (aZ ng0.a) rfl hX rfl rfl rfl (zI 4 rfl rfl (zP 5 rfl rfl (zN 6 rfl rfl (zF 7 rfl eT rfl (zL 8 0 (aZ ng0.a) rfl hX rfl rfl rfl (zI 9 rfl rfl ?_))))))))))
 obtain⟨x5,X4,m⟩:=aC m
 refine zC 10 rfl (cL (O5.k.ix X4) hU O5.k.z rfl rfl) (zC 11 rfl (cS (bK.ne O5.k.z (O5.k.ix X4)) kU rfl rfl) ?_)
 obtain⟨gv2,hg2,ga2,gn2⟩:=O5.gx X4
 refine vL 12 rfl (λ_ _ hi hB=>fC (dY (fo:=2) (awO aM 4 (gx ng0.gs y4.1.toNat) x5.Locs) (O5.k.ix X4) oM O5.k.z e8 rfl (fW.get 1 hi rfl (hB 17 (by kernel_rfl))) (λ_=>rfl)) (bH.of_eq (congrArg (λz=>awO aM 4 z x5.Locs) hg2))) (zL 13 2 (.agg (aM p2)) rfl kL rfl rfl rfl ?_)
 obtain⟨y6,Y6,m⟩:=aC m
 refine zE 14 rfl ?_
 have ho6:=p4 (R:=([(some k5,.obj 81 (aM p2)),(some k2,.obj 38 (aY p1)),OC p0K j0 gS.a gC.a ng0.a gV,bM gS p0.Snaps,aW gC p0.Chunks,bR ng0 j1,aN gV p0.Vols]++((bQ gS p0.Snaps)++((a8 gC p0.Chunks)++(kA 81 aM ((nl aQ.Locs (zg (j1:List aQ) ng0.gs)).eraseIdx y4.1.toNat)))))) u [[_], [_], [_], [_], [_], [_], [_],_,_,_] rfl 9 rfl gn2 rfl
 have ho7:=cJ [(eI gv2 x5.Locs)] _ ho6.2
 refine dA (ho6.1.trans (cT h [(eI gv2 x5.Locs)] _).symm) (cK (M4 _ ga2 ho7.2 Y6) rfl M5 rfl ?_)
 rintro x h' ⟨ag3,O6,K12,rfl,rfl⟩
 refine kJ (cT h [fJ ag3 y6] _) (⟨⟨λ_=>aI 3 (dG ho7.1 K12) rfl,λ_=>aI 6 (dG ho7.1 K12) rfl,λ_=>aI 1 (dG ho7.1 K12) rfl,trivial⟩, ?_⟩)
 obtain⟨x6,X5,m⟩:=aC m
 refine zC 15 rfl (cL (O5.k.ix X5) hU O5.k.z rfl rfl) (zC 16 rfl (cS (bK.ne O5.k.z (O5.k.ix X5)) kU rfl rfl) (zE 17 rfl (cI (fo:=2) (x':=(({ x6 with Locs:=y6}:aQ),some ag3)) 6 (dG ho7.1 K12) (O5.k.ix X5) oM O5.k.z rfl rfl (cC rfl) (cE (bY _ _ _) rfl) (cU.refl _ _) nL rfl rfl ?_)))
 intro K13
 have O7:=O5.setL (x':=({ x6 with Locs:=y6}:aQ)) X5 ag3 O6
 have hr2:=sP (L':=(eI ag3 y6)::(([(some k5,.obj 81 (aM p2)),(some k2,.obj 38 (aY p1)),OC p0K j0 gS.a gC.a ng0.a gV,bM gS p0.Snaps,aW gC p0.Chunks,(ng0.a.t,.obj 99 (fl kX (((zg (j1:List aQ) ng0.gs)).set y4.1.toNat (({ x6 with Locs:=y6}:aQ),some ag3)) ng0.a.sp)),aN gV p0.Vols]:HL)++((bQ gS p0.Snaps)++((a8 gC p0.Chunks)++(kA 81 aM ((nl aQ.Locs (zg (j1:List aQ) ng0.gs)).eraseIdx y4.1.toNat)))))) K13 [[_], [_], [_], [_], [_], [_], [_], [_],_,_,_] rfl [0,1,2,3,4,5,6,7,8,9,10] rfl rfl
 have hj2:=oK (L':=([(some k5,.obj 81 (aM p2)),(some k2,.obj 38 (aY p1)),OC p0K j0 gS.a gC.a ((⟨ng0.a,ng0.gs.set y4.1.toNat (some ag3)⟩:dF).a) gV,bM gS p0.Snaps,aW gC p0.Chunks,bR (⟨ng0.a,ng0.gs.set y4.1.toNat (some ag3)⟩:dF) (j1.set y4.1.toNat ({ x6 with Locs:=y6})),aN gV p0.Vols]++((bQ gS p0.Snaps)++((a8 gC p0.Chunks)++(bS (⟨ng0.a,ng0.gs.set y4.1.toNat (some ag3)⟩:dF) (j1.set y4.1.toNat ({ x6 with Locs:=y6}))))))) [[_], [_], [_], [_], [_], [_], [_],_,_,_] rfl 9 (zs:=nl aQ.Locs (zg (j1:List aQ) ng0.gs)) (j:=y4.1.toNat) (aQ.Locs ({ x6 with Locs:=y6}:aQ),some ag3) (jM (O5.k.nlat X5)) rfl hr2.2 (by rw[← (O5.k.setL (x':=({ x6 with Locs:=y6}:aQ)) X5 ag3 O6).2.2,(O5.k.setL (x':=({ x6 with Locs:=y6}:aQ)) X5 ag3 O6).2.1]; rfl)
 refine kJ (hr2.1.trans hj2.1) (⟨⟨λ_=>aI 2 hj2.2 rfl,λe=>absurd e (by decide),λ_=>aI 0 hj2.2 rfl,trivial⟩, ?_⟩)
 exact zX (qk (f:=vM 128 _ _ _ _ _ _ _ _ _ _ _ _ _ _ _ _ _ _) hj2.2 rfl (eY m (⟨ng0.a,ng0.gs.set y4.1.toNat (some ag3)⟩:dF) O7 (lx .nil)))
 exact v0 (eY m gE oE (lx .nil))
 rintro ng1 ⟨j2,j3⟩ O8 m
 exact eY m (gS,ng1) ⟨ok_Snaps,O8⟩ (lx .nil)
 rintro⟨ng2,ng3⟩ ⟨j4,j5,j6⟩ ⟨O9,O10⟩ m
 exact eY m (ng2,gC,ng3) ⟨O9,oC,O10⟩ (lx .nil)
 rintro⟨ng4,ng5,ng6⟩ ⟨j7,j8,j9,j10⟩ ⟨O11,O12,O13⟩ m
 refine vs (v0 (v0 ?_))
 cases m
 exact vr λu=>dX.of1 (.inl rfl) (fU _ _ (.sc (.int _ _)) rfl) (sQ (L':=([OC p0K j7 ng4.a ng5.a ng6.a gV,bM ng4 j8,aW ng5 j9,bR ng6 j10,aN gV p0.Vols]++((bQ ng4 j8)++((a8 ng5 j9)++(bS ng6 j10))))) u [[_], [_], [_], [_], [_], [_], [_],_,_,_] rfl [2,3,4,5,6,7,8,9] rfl rfl).2 (bH.refl _ _) ⟨ng4,O11,ng5,O12,ng6,O13,(sQ (L':=([OC p0K j7 ng4.a ng5.a ng6.a gV,bM ng4 j8,aW ng5 j9,bR ng6 j10,aN gV p0.Vols]++((bQ ng4 j8)++((a8 ng5 j9)++(bS ng6 j10))))) u [[_], [_], [_], [_], [_], [_], [_],_,_,_] rfl [2,3,4,5,6,7,8,9] rfl rfl).1,rfl,rfl⟩
theorem ZN:aO Tryz.prog 123=true:=by kernel_rfl
end Go.Proofs.YtbbifdfldpfphaaGreat
