import Derived.Calls
import Derived.Laws.AppendOwn
import Derived.Below
import Derived.Tactics
import Derived.Still
import Derived.Deep.LoopGhost
import Derived.Laws.Cells
import Derived.Laws.Slices
import Derived.Laws.Entries
import Derived.Laws.World
import Derived.Laws.Rows
import Derived.Laws.MakeOwn
import Derived.Laws.OwnMore
set_option linter.unusedSimpArgs false
set_option linter.unusedVariables false
set_option maxHeartbeats 4000000
set_option maxRecDepth 100000
namespace Go.Vm
abbrev wI (n:Int):Int:=IntKind.wrap .i64 n
abbrev cB:=Nat×Nat
inductive AV where
 | any
 | sc (v:Value)
 | agg (xs:List AV)
 | tup (xs:List AV)
 | sl (tag:Option cB) (sz:Nat) (xs:List (List AV))
 | rp (tag:Option cB) (xs:List AV)
 | ptr (k:cB) (off:Nat)
 | view (k:cB) (off n:Nat)
 | fn (f:Fn) (caps:List AV)
 | ifc (t:TypeId) (x:AV)
 | e0
 | mpv (k:cB)
 | vw (k:cB) (n cap:Nat)
 deriving Inhabited
structure Tk where
 sz:Nat
 m:Nat
 cap:Nat
 b:Nat
structure gW where
 imm:Nat→Nat→Prop
 lock:Nat→Prop
 used:cB→Prop
 ob:cB→Option Nat
 tk:cB→Option Tk
def gW.prot (E:gW) (tag:Option cB) (g o:Nat):Prop:=
 E.imm g o∨∃k t,tag=some k∧E.tk k=some t∧g=t.b∧o < t.m
mutual
def VR (E:gW) (w:World):AV→Value→Prop
  | .any,_=>True
  | .sc x,v=>v=x
  | .agg xs,v=>∃cs:Array Value,v= .agg cs∧cY E w xs cs.toList
  | .tup xs,v=>∃cs:Array Value,v= .tuple cs∧cY E w xs cs.toList
  | .sl tag sz xs,v=>∃a cap,v= .slice a xs.length cap∧xs.length≤cap∧cap≤maxLen∧
      (xs= []∨∃g o,a=some ⟨g,o,none⟩∧wB E w tag g o xs)∧(∀x∈xs,x.length=sz)∧
      (∀k,tag=some k→E.used k∧∀t,E.tk k=some t→xs.length*sz≤t.m∧(xs.length*sz=t.m→a=some ⟨t.b,0,none⟩∧cap=t.cap∧sz=t.sz))
  | .rp tag xs,v=>∃g o,v= .pointer (some ⟨g,o,none⟩)∧qT E w tag g o xs
  | .ptr k off,v=>∃g,E.ob k=some g∧v= .pointer (some ⟨g,off,none⟩)
  | .view k off n,v=>∃g cap,E.ob k=some g∧v= .slice (some ⟨g,off,none⟩) n cap∧n≤cap∧cap≤maxLen
  | .fn f caps,v=>∃cs:Array Value,v= .func f #[] cs∧cY E w caps cs.toList
  | .ifc t x,v=>∃y,v= .iface t y∧VR E w x y
  | .e0,v=>∃a,v= .slice a 0 0
  | .mpv k,v=>∃g,E.ob k=some g∧v= .map (some g)
  | .vw k n cap,v=>∃g,E.ob k=some g∧v= .slice (some ⟨g,0,none⟩) n cap∧n≤cap∧cap≤maxLen
def cY (E:gW) (w:World):List AV→List Value→Prop
 | [], []=>True
 | x::xs,v::vs=>VR E w x v∧cY E w xs vs
 | _,_=>False
def qT (E:gW) (w:World) (tag:Option cB) (g o:Nat):List AV→Prop
 | []=>True
 | x::xs=>E.prot tag g o∧(∃cv,w.cell? ⟨g,o,none⟩=some cv∧cv.oneCell'=true∧VR E w x cv)∧qT E w tag g (o+1) xs
def wB (E:gW) (w:World) (tag:Option cB) (g o:Nat):List (List AV)→Prop
 | []=>True
 | x::xs=>qT E w tag g o x∧wB E w tag g (o+x.length) xs
end
structure eR (E:gW) (w:World) (E':gW) (w':World):Prop where
 imm:∀g o,E.imm g o→E'.imm g o∧w'.cell? ⟨g,o,none⟩=w.cell? ⟨g,o,none⟩
 lockEq:∀g,E'.lock g↔E.lock g
 lock:∀g,E.lock g→w'.heap[g]? =w.heap[g]?
 used:∀k,E.used k→E'.used k
 ob:∀k g,E.ob k=some g→E'.ob k=some g
 tkc:∀k t,E.tk k=some t→∀o,o < t.m→
  (E'.imm t.b o∨∃t',E'.tk k=some t'∧t'.b=t.b∧o < t'.m)∧w'.cell? ⟨t.b,o,none⟩=w.cell? ⟨t.b,o,none⟩
 tkf:∀k t',E'.tk k=some t'→E.used k→∃t,E.tk k=some t∧t.m≤t'.m∧(t.m=t'.m→t=t')
 os:w'.os=w.os
 tape:w'.tape=w.tape
 output:w'.output=w.output
 size:w.heap.size≤w'.heap.size
theorem eR.refl (E:gW) (w:World):eR E w E w:=
  ⟨λ_ _ h=>⟨h,rfl⟩,λ_=>Iff.rfl,λ_ _=>rfl,λ_ h=>h,λ_ _ h=>h,
   λ_ t h _ ho=>⟨.inr ⟨t,h,rfl,ho⟩,rfl⟩,λ_ t h _=>⟨t,h,Nat.le_refl _,λ_=>rfl⟩,rfl,rfl,rfl,Nat.le_refl _⟩
theorem eR.trans {E E' E'':gW} {w w' w'':World} (h:eR E w E' w') (k:eR E' w' E'' w''):eR E w E'' w'' where
 imm g o hi:=⟨(k.imm g o (h.imm g o hi).1).1,(k.imm g o (h.imm g o hi).1).2.trans (h.imm g o hi).2⟩
 lockEq g:=(k.lockEq g).trans (h.lockEq g)
 lock g hg:=(k.lock g ((h.lockEq g).2 hg)).trans (h.lock g hg)
 used x hx:=k.used x (h.used x hx)
 ob x g hx:=k.ob x g (h.ob x g hx)
 tkc x t hx o ho:=by
  obtain⟨h1,h2⟩:=h.tkc x t hx o ho
  rcases h1 with h1 | ⟨t',h1,hb,hm⟩
  ·exact⟨.inl (k.imm _ _ h1).1,(k.imm _ _ h1).2.trans h2⟩
  ·obtain⟨h3,h4⟩:=k.tkc x t' h1 o hm
   rw[hb] at h3 h4
   refine⟨?_,h4.trans h2⟩
   rcases h3 with h3 | ⟨t'',h3,hb',hm'⟩
   ·exact .inl h3
   ·exact .inr ⟨t'',h3,hb',hm'⟩
 tkf x t'' hx hu:=by
  obtain⟨t',h1,h2,h3⟩:=k.tkf x t'' hx (h.used x hu)
  obtain⟨t,h4,h5,h6⟩:=h.tkf x t' h1 hu
  refine⟨t,h4,Nat.le_trans h5 h2,λe=> ?_⟩
  have e1:t.m=t'.m:=by omega
  have e2:t'.m=t''.m:=by omega
  rw[h6 e1,h3 e2]
 os:=k.os.trans h.os
 tape:=k.tape.trans h.tape
 output:=k.output.trans h.output
 size:=Nat.le_trans h.size k.size
structure xH (E:gW) (w:World) (E':gW) (w':World):Prop where
 imm:∀g o,E.imm g o→E'.imm g o∧w'.cell? ⟨g,o,none⟩=w.cell? ⟨g,o,none⟩
 used:∀k,E.used k→E'.used k
 ob:∀k g,E.ob k=some g→E'.ob k=some g
 tkc:∀k t,E.tk k=some t→∀o,o < t.m→
  (E'.imm t.b o∨∃t',E'.tk k=some t'∧t'.b=t.b∧o < t'.m)∧w'.cell? ⟨t.b,o,none⟩=w.cell? ⟨t.b,o,none⟩
 tkf:∀k t',E'.tk k=some t'→E.used k→∃t,E.tk k=some t∧t.m≤t'.m∧(t.m=t'.m→t=t')
theorem eR.v {E E':gW} {w w':World} (h:eR E w E' w'):xH E w E' w':=⟨h.imm,h.used,h.ob,h.tkc,h.tkf⟩
theorem gW.prot_keep {E E':gW} {w w':World} (h:xH E w E' w') {tag:Option cB} {g o:Nat} (hp:E.prot tag g o):
    E'.prot tag g o∧w'.cell? ⟨g,o,none⟩=w.cell? ⟨g,o,none⟩:=by
  rcases hp with hp | ⟨k,t,rfl,ht,rfl,ho⟩
  · exact⟨.inl (h.imm _ _ hp).1,(h.imm _ _ hp).2⟩
  · obtain⟨h1,h2⟩:=h.tkc k t ht o ho
    refine⟨?_,h2⟩
    rcases h1 with h1 | ⟨t',h1,hb,hm⟩
    · exact .inl h1
    · exact .inr ⟨k,t',rfl,h1,hb.symm,hm⟩
mutual
theorem mS {E E':gW} {w w':World} (h:xH E w E' w'):∀(x:AV) (v:Value),VR E w x v→VR E' w' x v
 | .any,_,_=>by simp only[VR]
 | .sc x,v,hv=>by simpa only[VR] using hv
 | .agg xs,v,hv=>by
  simp only[VR] at hv ⊢
  obtain⟨cs,rfl,hc⟩:=hv
  exact⟨cs,rfl,mM h xs _ hc⟩
 | .tup xs,v,hv=>by
  simp only[VR] at hv ⊢
  obtain⟨cs,rfl,hc⟩:=hv
  exact⟨cs,rfl,mM h xs _ hc⟩
 | .sl tag sz xs,v,hv=>by
  simp only[VR] at hv ⊢
  obtain⟨a,cap,rfl,h1,h2,h3,h4,h5⟩:=hv
  refine⟨a,cap,rfl,h1,h2, ?_,h4, ?_⟩
  ·rcases h3 with h3 | ⟨g,o,rfl,h3⟩
   ·exact .inl h3
   ·exact .inr ⟨g,o,rfl,AL h tag g o xs h3⟩
  ·intro k hk
   obtain⟨hu,ht⟩:=h5 k hk
   refine⟨h.used k hu,λt' ht'=> ?_⟩
   obtain⟨t,e1,e2,e3⟩:=h.tkf k t' ht' hu
   obtain⟨f1,f2⟩:=ht t e1
   refine⟨Nat.le_trans f1 e2,λe=> ?_⟩
   have e4:t.m=t'.m:=by omega
   rw[← e3 e4]
   exact f2 (by omega)
 | .rp tag xs,v,hv=>by
  simp only[VR] at hv ⊢
  obtain⟨g,o,rfl,hv⟩:=hv
  exact⟨g,o,rfl,uH h tag g o xs hv⟩
 | .ptr k off,v,hv=>by
  simp only[VR] at hv ⊢
  obtain⟨g,hg,rfl⟩:=hv
  exact⟨g,h.ob _ _ hg,rfl⟩
 | .view k off n,v,hv=>by
  simp only[VR] at hv ⊢
  obtain⟨g,cap,hg,rfl,r⟩:=hv
  exact⟨g,cap,h.ob _ _ hg,rfl,r⟩
 | .fn f caps,v,hv=>by
  simp only[VR] at hv ⊢
  obtain⟨cs,rfl,hc⟩:=hv
  exact⟨cs,rfl,mM h caps _ hc⟩
 | .ifc t x,v,hv=>by
  simp only[VR] at hv ⊢
  obtain⟨y,rfl,hy⟩:=hv
  exact⟨y,rfl,mS h x y hy⟩
 | .e0,v,hv=>by simpa only[VR] using hv
 | .mpv k,v,hv=>by
  simp only[VR] at hv ⊢
  obtain⟨g,hg,rfl⟩:=hv
  exact⟨g,h.ob _ _ hg,rfl⟩
 | .vw k n cap,v,hv=>by
  simp only[VR] at hv ⊢
  obtain⟨g,hg,rfl,r⟩:=hv
  exact⟨g,h.ob _ _ hg,rfl,r⟩
theorem mM {E E':gW} {w w':World} (h:xH E w E' w'):∀(xs:List AV) (vs:List Value),cY E w xs vs→cY E' w' xs vs
 | [], [],_=>by simp only[cY]
 | x::xs,v::vs,hv=>by
  simp only[cY] at hv ⊢
  exact⟨mS h x v hv.1,mM h xs vs hv.2⟩
 | [],_::_,hv=>by simp only[cY] at hv
 | _::_, [],hv=>by simp only[cY] at hv
theorem uH {E E':gW} {w w':World} (h:xH E w E' w') (tag:Option cB) (g:Nat):∀(o:Nat) (xs:List AV),qT E w tag g o xs→qT E' w' tag g o xs
 | _, [],_=>by simp only[qT]
 | o,x::xs,hv=>by
  simp only[qT] at hv ⊢
  obtain⟨h1,⟨cv,h2,h3,h4⟩,h5⟩:=hv
  obtain⟨p1,p2⟩:=gW.prot_keep h h1
  exact⟨p1,⟨cv,p2.trans h2,h3,mS h x cv h4⟩,uH h tag g (o+1) xs h5⟩
theorem AL {E E':gW} {w w':World} (h:xH E w E' w') (tag:Option cB) (g:Nat):∀(o:Nat) (xs:List (List AV)),wB E w tag g o xs→wB E' w' tag g o xs
 | _, [],_=>by simp only[wB]
 | o,x::xs,hv=>by
  simp only[wB] at hv ⊢
  exact⟨uH h tag g o x hv.1,AL h tag g _ xs hv.2⟩
end
theorem mG {E E':gW} {w w':World} (h:eR E w E' w'):∀(x:AV) (v:Value),VR E w x v→VR E' w' x v:=mS h.v
theorem cQ {E E':gW} {w w':World} (h:eR E w E' w'):∀(xs:List AV) (vs:List Value),cY E w xs vs→cY E' w' xs vs:=mM h.v
abbrev sZ:AV:=.sc (.slice none 0 0)
abbrev nZ (x:Int):AV:=.sc (.int .i64 x)
abbrev OQ:List AV:= [.sc (.int .i64 0),.sc (.int .i64 0),.sc (.int .i64 0),.sc (.int .i64 0)]
abbrev VY:List AV:= [.sc (.string ByteArray.empty),.sc (.int .i64 0),.sc (.slice none 0 0)]
abbrev FN:List AV:= [.sc (.bool false),.sc (.slice none 0 0),.sc (.slice none 0 0)]
abbrev WB:List AV:= [.sc (.int .i64 0),.sc (.string ByteArray.empty),.sc (.slice none 0 0),.sc (.slice none 0 0)]
abbrev hH:List AV:= [.sc (.int .i64 0),.sc (.slice none 0 0),.sc (.slice none 0 0),.sc (.slice none 0 0),.sc (.slice none 0 0)]
abbrev xI:List AV:= [.sc (.int .i64 0),.sc (.int .i64 0),.sc (.string ByteArray.empty),.sc (.slice none 0 0),.sc (.slice none 0 0),.sc (.slice none 0 0),.sc (.int .i64 0),.sc (.int .i64 0),.sc (.slice none 0 0)]
abbrev zq6:List AV:= [.sc (.slice none 0 0),.sc (.slice none 0 0),.sc (.int .i64 0),.sc (.int .i64 0),.sc (.slice none 0 0)]
inductive iI where
 | obj (ty:TypeId) (cs:List AV)
 | tok (ty:TypeId) (sz m:Nat)
 | mp (es:List (Value×Value))
def iI.isOb:iI→Bool
 | .tok _ _ _=>false
 | _=>true
abbrev aE:=cB→Option iI
def upd (h:aE) (k:cB) (e:Option iI):aE:=λk'=>if k'=k then e else h k'
theorem dM (h:aE) (k:cB) (e:Option iI):upd h k e k=e:=by simp[upd]
theorem cR (h:aE) {k k':cB} (e:Option iI) (hn:k'≠k):upd h k e k'=h k':=by simp[upd,hn]
def gW.at (E:gW) (h:aE) (k:cB) (g:Nat):Prop:=
 (∃e,∃_:e.isOb=true,h k=some e∧E.ob k=some g)∨(∃ty sz m t,h k=some (.tok ty sz m)∧E.tk k=some t∧t.b=g)
structure fZ (E:gW) (h:aE) (w:World):Prop where
 obj:∀k ty cs,h k=some (.obj ty cs)→∃g cur,E.ob k=some g∧w.heap[g]? =some (.cells cur ty (0,0))∧cY E w cs cur.toList∧(∀v∈cur.toList,v.oneCell'=true)
 tok:∀k ty sz m,h k=some (.tok ty sz m)→∃t cur,E.tk k=some t∧t.sz=sz∧t.m=m∧w.heap[t.b]? =some (.cells cur ty (0,0))∧cur.size=t.cap*sz∧m≤cur.size∧t.cap≤maxLen
 tkh:∀k t,E.tk k=some t→∃ty,h k=some (.tok ty t.sz t.m)
 sep:∀k k' g,E.at h k g→E.at h k' g→k=k'
 dis:∀k g,E.at h k g→¬E.lock g∧∀o,¬E.imm g o
 hus:∀k e,h k=some e→E.used k
 obu:∀k g,E.ob k=some g→E.used k
 fre:∀d,∃G,∀n,G≤n→¬E.used (d,n)
 imb:∀g o,E.imm g o→∃v,w.cell? ⟨g,o,none⟩=some v
 lkb:∀g,E.lock g→g < w.heap.size
 mp:∀k es,h k=some (.mp es)→∃g ents clk,E.ob k=some g∧w.heap[g]? =some (.map ents clk)∧ents.toList.map (λe=>(e.key,e.val))=es
theorem fZ.at_lt {E:gW} {h:aE} {w:World} (r:fZ E h w) {k:cB} {g:Nat} (ha:E.at h k g):g < w.heap.size:=by
 rcases ha with⟨e,hb,h1,h2⟩ | ⟨ty,sz,m,t,h1,h2,rfl⟩
 ·cases e with
  | obj ty cs=>
   obtain⟨g',cur,e1,e2,_⟩:=r.obj k ty cs h1
   rw[h2] at e1; cases e1
   exact(Array.getElem?_eq_some_iff.1 e2).1
  | mp es=>
   obtain⟨g',ents,clk,e1,e2,_⟩:=r.mp k es h1
   rw[h2] at e1; cases e1
   exact(Array.getElem?_eq_some_iff.1 e2).1
  | tok _ _ _=>cases hb
 ·obtain⟨t',cur,e1,_,_,e2,_⟩:=r.tok k ty sz m h1
  rw[h2] at e1; cases e1
  exact(Array.getElem?_eq_some_iff.1 e2).1
theorem iN {w:World} {g o:Nat} {v:Value} (h:w.cell? ⟨g,o,none⟩=some v):g < w.heap.size:=by
 have:=World.block_lt_of_cell? w _ h
 simpa using this
theorem eG {w w':World} {g:Nat} (h:w'.heap[g]? =w.heap[g]?) (o:Nat):w'.cell? ⟨g,o,none⟩=w.cell? ⟨g,o,none⟩:=
 World.cell?_of_block (a:=⟨g,o,none⟩) h
theorem fZ.drop {E:gW} {h h':aE} {w:World} (r:fZ E h w) (hs:∀k e,h' k=some e→h k=some e):
    ∃E',eR E w E' w∧fZ E' h' w:=by
  refine⟨{ E with
      imm:=λg o=>E.imm g o∨∃k t,E.tk k=some t∧h' k=none∧g=t.b∧o < t.m
      tk:=λk=>if (h' k).isSome then E.tk k else none}, ?_, ?_⟩
  · refine⟨λg o hi=>⟨.inl hi,rfl⟩,λ_=>Iff.rfl,λ_ _=>rfl,λ_ h=>h,λ_ _ h=>h, ?_, ?_,rfl,rfl,rfl,Nat.le_refl _⟩
    · intro k t ht o ho
      refine⟨?_,rfl⟩
      cases hk:h' k with
      | none=>exact .inl (.inr ⟨k,t,ht,hk,rfl,ho⟩)
      | some e=>exact .inr ⟨t,by simp[hk,ht],rfl,ho⟩
    · intro k t' ht _
      simp only at ht
      split at ht
      · exact⟨t',ht,Nat.le_refl _,λ_=>rfl⟩
      · cases ht
  · have key:eR E w { E with
      imm:=λg o=>E.imm g o∨∃k t,E.tk k=some t∧h' k=none∧g=t.b∧o < t.m
      tk:=λk=>if (h' k).isSome then E.tk k else none} w:=by
      refine⟨λg o hi=>⟨.inl hi,rfl⟩,λ_=>Iff.rfl,λ_ _=>rfl,λ_ h=>h,λ_ _ h=>h, ?_, ?_,rfl,rfl,rfl,Nat.le_refl _⟩
      · intro k t ht o ho
        refine⟨?_,rfl⟩
        cases hk:h' k with
        | none=>exact .inl (.inr ⟨k,t,ht,hk,rfl,ho⟩)
        | some e=>exact .inr ⟨t,by simp[hk,ht],rfl,ho⟩
      · intro k t' ht _
        simp only at ht
        split at ht
        · exact⟨t',ht,Nat.le_refl _,λ_=>rfl⟩
        · cases ht
    have at':∀k g,gW.at { E with
      imm:=λg o=>E.imm g o∨∃k t,E.tk k=some t∧h' k=none∧g=t.b∧o < t.m
      tk:=λk=>if (h' k).isSome then E.tk k else none} h' k g→E.at h k g∧(h' k).isSome=true:=by
      intro k g ha
      rcases ha with⟨ty,cs,h1,h2⟩ | ⟨ty,sz,m,t,h1,h2,h3⟩
      · exact⟨.inl ⟨ty,cs,hs _ _ h1,h2⟩,by simp[h1]⟩
      · simp only[h1,Option.isSome_some,if_true] at h2
        exact⟨.inr ⟨ty,sz,m,t,hs _ _ h1,h2,h3⟩,by simp[h1]⟩
    constructor
    · intro k ty cs hk
      obtain⟨g,cur,e1,e2,e3,e4⟩:=r.obj k ty cs (hs _ _ hk)
      exact⟨g,cur,e1,e2,cQ key _ _ e3,e4⟩
    · intro k ty sz m hk
      obtain⟨t,cur,e1,e2⟩:=r.tok k ty sz m (hs _ _ hk)
      exact⟨t,cur,by simp[hk,e1],e2⟩
    · intro k t hk
      simp only at hk
      split at hk
      · rename_i hsome
        obtain⟨ty,e⟩:=r.tkh k t hk
        obtain⟨e',he'⟩:=Option.isSome_iff_exists.1 hsome
        have:=hs _ _ he'
        rw[e] at this
        cases this
        exact⟨ty,he'⟩
      · cases hk
    · intro k k' g ha hb
      exact r.sep k k' g (at' _ _ ha).1 (at' _ _ hb).1
    · intro k g ha
      obtain⟨h1,h2⟩:=r.dis k g (at' _ _ ha).1
      refine⟨h1,λo ho=> ?_⟩
      rcases ho with ho | ⟨k',t,e1,e2,e3,_⟩
      · exact h2 o ho
      · obtain⟨ty,e4⟩:=r.tkh k' t e1
        have:k=k':=r.sep k k' g (at' _ _ ha).1 (.inr ⟨ty,_,_,t,e4,e1,e3.symm⟩)
        subst this
        have:=(at' _ _ ha).2
        rw[e2] at this
        cases this
    · exact λk e hk=>r.hus k e (hs _ _ hk)
    · exact r.obu
    · exact r.fre
    · intro g o ho
      rcases ho with ho | ⟨k',t,e1,e2,rfl,e4⟩
      · exact r.imb g o ho
      · obtain⟨ty,e5⟩:=r.tkh k' t e1
        obtain⟨t',cur,f1,f2,f3,f4,f5,f6,f7⟩:=r.tok _ _ _ _ e5
        rw[e1] at f1; cases f1
        have hlt:o < cur.size:=by omega
        exact⟨cur[o],by simp[World.cell?,f4,hlt]⟩
    · exact r.lkb
    · exact λk es hk=>r.mp k es (hs _ _ hk)
abbrev Fr:=List AV
def iQ (fr:Fr) (d:Option Tmp) (x:AV):Fr:=match d with | some d=>fr.set d x | none=>fr
def cv:Value→AV
 | .agg cs=>.agg (cs.toList.map .sc)
 | v=>.sc v
def ev (fr:Fr):Operand→AV
 | .tmp t=>fr.getD t .any
 | .const v=>cv v
 | .global _=>.any
 | .func f=>.fn (.func f) []
section
variable {E:gW} {w:World}
theorem cZ:∀ {xs:List AV} {vs:List Value},cY E w xs vs→xs.length=vs.length
 | [], [],_=>rfl
 | _::_,_::_,h=>by simp only[cY] at h; simp[cZ h.2]
 | [],_::_,h=>by simp only[cY] at h
 | _::_, [],h=>by simp only[cY] at h
theorem rW:∀ {xs:List AV} {vs:List Value} (i:Nat) (d:Value),cY E w xs vs→VR E w (xs.getD i .any) (vs.getD i d)
 | [], [],i,d,_=>by simp[VR]
 | x::xs,v::vs,0,d,h=>by simp only[cY] at h; simpa using h.1
 | x::xs,v::vs,i+1,d,h=>by simp only[cY] at h; simpa using rW i d h.2
 | [],_::_,_,_,h=>by simp only[cY] at h
 | _::_, [],_,_,h=>by simp only[cY] at h
theorem HV:∀ {xs:List AV} {vs:List Value} (i:Nat) {x:AV} {v:Value},cY E w xs vs→VR E w x v→cY E w (xs.set i x) (vs.set i v)
 | [], [],_,_,_,_,_=>by simp[cY]
 | y::ys,u::us,0,x,v,h,hx=>by simp only[cY] at h; simp only[List.set,cY]; exact⟨hx,h.2⟩
 | y::ys,u::us,i+1,x,v,h,hx=>by simp only[cY] at h; simp only[List.set,cY]; exact⟨h.1,HV i h.2 hx⟩
 | [],_::_,_,_,_,h,_=>by simp only[cY] at h
 | _::_, [],_,_,_,h,_=>by simp only[cY] at h
theorem dA:∀ {xs ys:List AV} {vs us:List Value},cY E w xs vs→cY E w ys us→cY E w (xs++ys) (vs++us)
 | [],_, [],_,_,h=>by simpa using h
 | x::xs,ys,v::vs,us,h,k=>by simp only[cY] at h; simp only[List.cons_append,cY]; exact⟨h.1,dA h.2 k⟩
 | [],_,_::_,_,h,_=>by simp only[cY] at h
 | _::_,_, [],_,h,_=>by simp only[cY] at h
theorem rX:∀(n:Nat) {vs:List Value},vs.length=n→cY E w (List.replicate n .any) vs
 | 0, [],_=>by simp[cY]
 | n+1,v::vs,h=>by simp only[List.replicate,cY,VR]; exact⟨trivial,rX n (by simpa using h)⟩
 | 0,_::_,h=>by simp at h
 | _+1, [],h=>by simp at h
theorem oJ {fr:Fr} {a:Act} {x:AV} {v:Value} (d:Option Tmp) (h:cY E w fr a.tmps.toList) (hx:VR E w x v):cY E w (iQ fr d x) (a.put d v).tmps.toList:=by
 cases d with
 | none=>exact h
 | some d=>simpa [iQ,Act.put] using HV d h hx
theorem kD {a:Act} (d:Option Tmp) (v:Value):(a.put d v).defers=a.defers:=by cases d <;> rfl
theorem rA:∀(l:List Value),cY E w (l.map .sc) l
 | []=>by simp[cY]
 | v::l=>by simp only[List.map_cons,cY,VR]; exact⟨trivial,rA l⟩
theorem WC (v:Value):VR E w (cv v) v:=by
 cases v <;> simp only[cv,VR] <;> exact⟨_,rfl,rA _⟩
theorem DS {fr:Fr} {a:Act} (h:cY E w fr a.tmps.toList) (x:Operand):VR E w (ev fr x) (a.eval x):=by
 cases x with
 | tmp t=>
  have:=rW t undef h
  simpa [ev,Act.eval,Array.getD_eq_getD_getElem?,List.getD] using this
 | const v=>simpa only[ev,Act.eval] using WC v
 | global g=>simp[ev,VR]
 | func f=>simp only[ev,Act.eval,VR]; exact⟨#[],rfl,by simp[cY]⟩
theorem WD {fr:Fr} {a:Act} (h:cY E w fr a.tmps.toList) {x:Operand} {v:Value} (e:ev fr x= .sc v):a.eval x=v:=by
 have:=DS h x
 rw[e] at this
 simpa only[VR] using this
end
def uI (E:gW) (w:World) (K:Fr→aE→Prop) (a':Act) (w':World):Prop:=
 ∃E' fr' h',eR E w E' w'∧fZ E' h' w'∧cY E' w' fr' a'.tmps.toList∧a'.defers= []∧K fr' h'
theorem uI.mono {E:gW} {w:World} {K K':Fr→aE→Prop} {a':Act} {w':World} (hk:∀fr h,K fr h→K' fr h) (h:uI E w K a' w'):uI E w K' a' w':=
 let ⟨E',fr',h',h1,h2,h3,h4,h5⟩:=h; ⟨E',fr',h',h1,h2,h3,h4,hk _ _ h5⟩
theorem uI.trans {E E':gW} {w w':World} {K:Fr→aE→Prop} {a'':Act} {w'':World} (k:eR E w E' w') (h:uI E' w' K a'' w''):uI E w K a'' w'':=
 let ⟨E'',fr',h',h1,h2,h3,h4,h5⟩:=h; ⟨E'',fr',h',k.trans h1,h2,h3,h4,h5⟩
def AW (P:Program) (c:Code) (Q:Exit→Fr→aE→Prop) (fr:Fr) (h:aE):Prop:=
 ∀E w a,fZ E h w→cY E w fr a.tmps.toList→a.defers= []→c.wp P (λe a' w'=>uI E w (Q e) a' w') a w
section rules
variable {P:Program} {Q:Exit→Fr→aE→Prop} {fr:Fr} {h:aE}
theorem AW.mono {c:Code} {Q':Exit→Fr→aE→Prop} (hc:AW P c Q fr h) (hq:∀e fr h,Q e fr h→Q' e fr h):AW P c Q' fr h:=
 λE w a r v d=>wp_mono (hc E w a r v d) λe _ _ p=>p.mono (hq e)
theorem xJ {c:Code} {e:Exit} (hc:∀(R:Exit→Act→World→Prop) a w,R e a w→c.wp P R a w) (hq:Q e fr h):AW P c Q fr h:=
 λE w a r v d=>hc _ a w ⟨E,fr,h,eR.refl E w,r,v,d,hq⟩
theorem mH (hq:Q .normal fr h):AW P .skip Q fr h:=xJ (λ_ _ _=>wp_skip) hq
theorem KN {l:Nat} (hq:Q .normal fr h):AW P (.label l) Q fr h:=xJ (λ_ _ _=>wp_label) hq
theorem OR {id:Nat} (hq:Q (.exit id) fr h):AW P (.exit id) Q fr h:=xJ (λ_ _ _=>wp_exit) hq
theorem OS {l:Nat} (hq:Q (.goto l) fr h):AW P (.goto l) Q fr h:=xJ (λ_ _ _=>wp_goto) hq
theorem iR (hq:Q .ret fr h):AW P .ret Q fr h:=xJ (λ_ _ _=>wp_ret) hq
def Seq (K:Fr→aE→Prop) (Q:Exit→Fr→aE→Prop):Exit→Fr→aE→Prop
 | .normal,fr,h=>K fr h
 | e,fr,h=>Q e fr h
theorem FO {x y:Code} (hx:AW P x (Seq (AW P y Q) Q) fr h):AW P (.seq x y) Q fr h:=by
 intro E w a r v d
 refine wp_seq (wp_mono (hx E w a r v d) ?_)
 intro e a' w' p
 cases e with
 | normal=>
  obtain⟨E',fr',h',k,r',v',d',q⟩:=p
  exact wp_mono (q E' w' a' r' v' d') λ_ _ _ p'=>p'.trans k
 | exit id=>exact p
 | goto l=>exact p
 | ret=>exact p
 | panic ch=>exact p
 | outgrown=>exact p
theorem OT {c:Operand} {x y:Code} {t:Bool} (hc:ev fr c= .sc (.bool t)) (hb:AW P (if t then x else y) Q fr h):AW P (.cond c x y) Q fr h:=
 λE w a r v d=>wp_cond (t:=t) (WD v hc) (hb E w a r v d)
theorem WE {c:Operand} {x y:Code} {t:Bool} (hc:ev fr c= .sc (.bool t)) (ht:t=true→AW P x Q fr h) (hf:t=false→AW P y Q fr h):AW P (.cond c x y) Q fr h:=by
 refine OT hc ?_
 cases t
 ·exact hf rfl
 ·exact ht rfl
def KO (id:Nat) (Q:Exit→Fr→aE→Prop):Exit→Fr→aE→Prop
 | .exit id',fr,h=>if id'=id then Q .normal fr h else Q (.exit id') fr h
 | e,fr,h=>Q e fr h
theorem xK {id:Nat} {c:Code} (hc:AW P c (KO id Q) fr h):AW P (.block id c) Q fr h:=by
 intro E w a r v d
 refine wp_block (wp_mono (hc E w a r v d) ?_)
 intro e a' w' p
 cases e with
 | exit id'=>
  by_cases hid:id'=id
  ·simp only[Exit.inBlock,hid,if_true]
   exact p.mono (λfr h q=>by simpa [KO,hid] using q)
  ·simp only[Exit.inBlock,hid,if_false]
   exact p.mono (λfr h q=>by simpa [KO,hid] using q)
 | normal=>exact p
 | goto l=>exact p
 | ret=>exact p
 | panic ch=>exact p
 | outgrown=>exact p
theorem HW {c:Code} (I:Nat→Fr→aE→Prop) (n:Nat) (h0:I n fr h)
    (round:∀n fr h,I n fr h→AW P c (Seq (λfr' h'=>∃n',n' < n∧I n' fr' h') Q) fr h):AW P (.loop c) Q fr h:=by
  intro E w a r v d
  refine wp_loop_ghost (λn a' w'=>uI E w (I n) a' w') n ⟨E,fr,h,eR.refl E w,r,v,d,h0⟩ ?_
  intro n a' w' p
  obtain⟨E',fr',h',k,r',v',d',q⟩:=p
  refine wp_mono (round n fr' h' q E' w' a' r' v' d') ?_
  intro e a'' w'' p'
  cases e with
  | normal=>
    obtain⟨E'',fr'',h'',k',r'',v'',d'',n',hn,q'⟩:=p'
    exact⟨n',hn,E'',fr'',h'',k.trans k',r'',v'',d'',q'⟩
  | exit id=>exact p'.trans k
  | goto l=>exact p'.trans k
  | ret=>exact p'.trans k
  | panic ch=>exact p'.trans k
  | outgrown=>exact p'.trans k
end rules
def i6 (P:Program) (o:Oper) (K:AV→aE→Prop) (fr:Fr) (h:aE):Prop:=
 ∀E w (a:Act),fZ E h w→(∀y∈o.op.operands,VR E w (ev fr y) (a.eval y))→∀(Nx:Act→World→Prop) (Qx:Exit→Act→World→Prop),
  (∀x v w' E' h',eR E w E' w'→fZ E' h' w'→VR E' w' x v→K x h'→Nx (a.put o.dst v) w')→o.wp P a w Nx Qx
def i8 (P:Program) (ops:Array Oper) (l:List Oper) (K:Fr→aE→Prop) (fr:Fr) (h:aE):Prop:=
 ∀E w a,fZ E h w→cY E w fr a.tmps.toList→a.defers= []→∀Q,(∀a' w',uI E w K a' w'→Q .normal a' w')→wpList P ops Q l a w
theorem DT {P:Program} {ops:Array Oper} {K:Fr→aE→Prop} {fr:Fr} {h:aE} (hk:K fr h):i8 P ops [] K fr h:=
 λE w a r v d _ hQ=>wpList_nil (hQ a w ⟨E,fr,h,eR.refl E w,r,v,d,hk⟩)
theorem I6 {P:Program} {ops:Array Oper} {K:Fr→aE→Prop} {fr:Fr} {h:aE} {o:Oper} {l:List Oper} (hw:∀E w (a:Act),cY E w fr a.tmps.toList→Region.wanted o (yielded ops a.tmps)=true)
    (ho:i6 P o (λx h'=>i8 P ops l K (iQ fr o.dst x) h') fr h):i8 P ops (o::l) K fr h:=by
  intro E w a r v d Q hQ
  refine wpList_step λK' hK'=> ?_
  rw[hw E w a v,if_pos rfl]
  refine ho E w a r (λy _=>DS v y) K' Q ?_
  intro x u w' E' h' k r' vx kx
  refine hK' _ _ (kx E' w' _ r' (oJ _ (cQ k _ _ v) vx) (by rw[kD]; exact d) Q ?_)
  intro a' w'' p
  exact hQ _ _ (p.trans k)
theorem FP {P:Program} {ops:Array Oper} {K:Fr→aE→Prop} {fr:Fr} {h:aE} {o:Oper} {l:List Oper} (hg:o.guard=none)
    (ho:i6 P o (λx h'=>i8 P ops l K (iQ fr o.dst x) h') fr h):i8 P ops (o::l) K fr h:=
  I6 (λ_ _ _ _=>by simp[Region.wanted,hg]) ho
theorem AM {P:Program} {ops:Array Oper} {K:Fr→aE→Prop} {fr:Fr} {h:aE} {o:Oper} {l:List Oper} (hw:∀E w (a:Act),cY E w fr a.tmps.toList→Region.wanted o (yielded ops a.tmps)=false)
    (ho:i8 P ops l K (iQ fr o.dst (.sc undef)) h):i8 P ops (o::l) K fr h:=by
  intro E w a r v d Q hQ
  refine wpList_step λK' hK'=> ?_
  rw[hw E w a v]
  simp only[Bool.false_eq_true,if_false]
  exact hK' _ _ (ho E w _ r (oJ _ v (by simp[VR])) (by rw[kD]; exact d) Q hQ)
theorem mT {ops:Array Oper} {fr:Fr} {a:Act} {E:gW} {w:World} (hv:cY E w fr a.tmps.toList) {j d:Nat} (hd:(ops[j]?).bind (·.dst)=some d) {u:Value} (hu:fr[d]? =some (.sc u)):
    yielded ops a.tmps j=(match u with | .bool b=>some b | _=>none:Option Bool):=by
  have hl:=cZ hv
  have hlt:d < fr.length:=(List.getElem?_eq_some_iff.1 hu).1
  have h1:=rW d undef hv
  have h2:fr.getD d .any= .sc u:=by simp[List.getD,hu]
  rw[h2] at h1
  simp only[VR] at h1
  have h3:a.tmps[d]? =some u:=by
    have:d < a.tmps.size:=by have hl':=hl; simp only[Array.length_toList] at hl'; omega
    rw[Array.getElem?_eq_getElem this]
    simpa [List.getD,this] using h1
  unfold yielded
  rw[hd]
  simp only[Option.bind_some,h3]
  cases u <;> rfl
theorem AN {P:Program} {Q:Exit→Fr→aE→Prop} {fr:Fr} {h:aE} {id:Nat} {l:List Oper} (hl:i8 P l.toArray l (Q .normal) fr h):AW P (.region id l.toArray false) Q fr h:=
 λE w a r v d=>wp_region_lit (hl E w a r v d _ λ_ _ p=>p)
theorem i6.mono {P:Program} {o:Oper} {K K':AV→aE→Prop} {fr:Fr} {h:aE} (hk:∀x h,K x h→K' x h) (ho:i6 P o K fr h):i6 P o K' fr h:=
 λE w a r v Nx Qx hn=>ho E w a r v Nx Qx λx u w' E' h' k r' vx kx=>hn x u w' E' h' k r' vx (hk _ _ kx)
theorem i6.congr {P:Program} {o:Oper} {K:AV→aE→Prop} {fr fr':Fr} {h:aE} (he:∀y∈o.op.operands,ev fr' y=ev fr y) (ho:i6 P o K fr h):i6 P o K fr' h:=
 λE w a r v=>ho E w a r λy hy=>by rw[← he y hy]; exact v y hy
def rY (ops:Array Oper) (fr:Fr) (o:Oper) (b:Bool):Prop:=
 (o.guard=none∧b=true)∨
 ∃j want d,o.guard=some (j,want)∧(ops[j]?).bind (·.dst)=some d∧((∃c,fr[d]? =some (.sc (.bool c))∧b=(c==want))∨((∃vs,fr[d]? =some (.sc (.tuple vs)))∧b=false))
theorem rY.wanted {ops:Array Oper} {fr:Fr} {o:Oper} {b:Bool} (hw:rY ops fr o b) {E:gW} {w:World} {a:Act} (v:cY E w fr a.tmps.toList):Region.wanted o (yielded ops a.tmps)=b:=by
 rcases hw with⟨hg,rfl⟩ | ⟨j,want,d,hg,hd,hu⟩
 ·simp[Region.wanted,hg]
 ·rcases hu with⟨c,hu,rfl⟩ | ⟨⟨vs,hu⟩,rfl⟩
  ·simp only[Region.wanted,hg,mT v hd hu]
   cases c <;> cases want <;> rfl
  ·simp[Region.wanted,hg,mT v hd hu]
theorem rY.put {ops:Array Oper} {fr:Fr} {o:Oper} {b:Bool} (hw:rY ops fr o b) {d:Option Tmp} {x:AV} (ha:∀e,d=some e→e ∉ o.looksAt ops):rY ops (iQ fr d x) o b:=by
 cases d with
 | none=>exact hw
 | some e=>
  rcases hw with hw | ⟨j,want,d,hg,hd,hu⟩
  ·exact .inl hw
  ·refine .inr ⟨j,want,d,hg,hd, ?_⟩
   have hne:e≠d:=λh=>ha e rfl (by subst h; simp[Oper.looksAt,hg,hd])
   simpa [iQ,List.getElem?_set_ne hne] using hu
theorem FQ {ops:Array Oper} {fr:Fr} {o:Oper} {d:Option Tmp} {x:AV} (ha:∀e,d=some e→e ∉ o.looksAt ops) (y:Operand) (hy:y∈o.op.operands):ev (iQ fr d x) y=ev fr y:=by
 cases d with
 | none=>rfl
 | some e=>
  cases y with
  | tmp t=>
   have hne:e≠t:=λh=>ha e rfl (by
    subst h
    exact List.mem_append_left _ (List.mem_filterMap.2 ⟨.tmp e,by simpa using hy,rfl⟩))
   simp[ev,iQ,List.getD,List.getElem?_set_ne hne]
  | const v=>rfl
  | global g=>rfl
  | func f=>rfl
theorem uJ (fr:Fr) {d e:Option Tmp} (x y:AV) (h:∀t,d=some t→e≠some t):iQ (iQ fr d x) e y=iQ (iQ fr e y) d x:=by
 cases d with
 | none=>rfl
 | some d=>
  cases e with
  | none=>rfl
  | some e=>
   have hne:d≠e:=λhe=>h d rfl (by rw[he])
   simp[iQ,List.set_comm _ _ hne]
def kN (P:Program) (ops:Array Oper) (h:aE) (fr:Fr) (o:Oper) (x:AV):Prop:=
 (rY ops fr o true∧i6 P o (λx' h'=>x'=x∧h'=h) fr h)∨(rY ops fr o false∧x= .sc undef)
theorem kN.put {P:Program} {ops:Array Oper} {h:aE} {fr:Fr} {o:Oper} {x:AV} (hy:kN P ops h fr o x) {d:Option Tmp} {y:AV} (ha:∀e,d=some e→e ∉ o.looksAt ops):kN P ops h (iQ fr d y) o x:=by
 rcases hy with⟨h1,h2⟩ | ⟨h1,h2⟩
 ·exact .inl ⟨h1.put ha,h2.congr (FQ ha)⟩
 ·exact .inr ⟨h1.put ha,h2⟩
theorem kN.unput {P:Program} {ops:Array Oper} {h:aE} {fr:Fr} {o:Oper} {x:AV} {d:Option Tmp} {y:AV} (ha:∀e,d=some e→e ∉ o.looksAt ops) (hy:kN P ops h (iQ fr d y) o x):kN P ops h fr o x:=by
 have want:∀b,rY ops (iQ fr d y) o b→rY ops fr o b:=by
  intro b hw
  cases d with
  | none=>exact hw
  | some e=>
   rcases hw with hw | ⟨j,want,d,hg,hd,hu⟩
   ·exact .inl hw
   ·refine .inr ⟨j,want,d,hg,hd, ?_⟩
    have hne:e≠d:=λh=>ha e rfl (by subst h; simp[Oper.looksAt,hg,hd])
    simpa [iQ,List.getElem?_set_ne hne] using hu
 rcases hy with⟨h1,h2⟩ | ⟨h1,h2⟩
 ·exact .inl ⟨want _ h1,h2.congr λz hz=>(FQ ha z hz).symm⟩
 ·exact .inr ⟨want _ h1,h2⟩
section quiet
variable {P:Program} {ops:Array Oper} {h:aE} {md:Region.Mode}
def fK (P:Program) (ops:Array Oper) (h:aE) (K:Fr→Prop):List Oper→Fr→Prop
 | [],fr=>K fr
 | o::l,fr=>∃x,kN P ops h fr o x∧fK P ops h K l (iQ fr o.dst x)
def KP (P:Program) (md:Region.Mode) (ops:Array Oper) (h:aE) (K:Fr→Prop):Nat→Array Bool→Fr→Prop
 | 0,listed,fr=>Region.ready md ops listed= []∧K fr
 | fuel+1,listed,fr=>(Region.ready md ops listed= []→K fr)∧
  ∀i∈Region.ready md ops listed,∀o,ops[i]? =some o→∃x,kN P ops h fr o x∧KP P md ops h K fuel (listed.setIfInBounds i true) (iQ fr o.dst x)
theorem Fq {K:Fr→Prop} {i:Nat} {oi:Oper} {x:AV} (hi:ops[i]? =some oi):∀(fuel:Nat) (listed:Array Bool) (fr:Fr),
    (∀j oj,ops[j]? =some oj→j≠i→listed.getD j true=false→(∀e∈oj.after,Region.binds md e=true→e.on≠i)→oi.apart ops oj=true)→
    i∈Region.ready md ops listed→kN P ops h fr oi x→
    KP P md ops h K fuel (listed.setIfInBounds i true) (iQ fr oi.dst x)→KP P md ops h K (fuel+1) listed fr:=by
  intro fuel
  induction fuel with
  | zero=>
    intro listed fr _ hr hy H
    refine⟨λe=>(by rw[e] at hr; cases hr),λj hj oj hoj=> ?_⟩
    by_cases hji:j=i
    · subst hji
      rw[hi] at hoj; cases hoj
      exact⟨x,hy,H⟩
    · have:=ready_mono hj hji
      rw[H.1] at this
      cases this
  | succ fuel ih=>
    intro listed fr hfree hr hy H
    refine⟨λe=>(by rw[e] at hr; cases hr),λj hj oj hoj=> ?_⟩
    by_cases hji:j=i
    · subst hji
      rw[hi] at hoj; cases hoj
      exact⟨x,hy,H⟩
    · obtain⟨y,hy2,hn⟩:=H.2 j (ready_mono hj hji) oj hoj
      obtain⟨hjun,oj',hoj',hall⟩:=mem_ready.1 hj
      rw[hoj] at hoj'; cases hoj'
      have hnot:∀e∈oj.after,Region.binds md e=true→e.on≠i:=λe he hb heq=>by
        have h1:=hall e he hb
        have h0:=(mem_ready.1 hr).1
        rw[heq] at h1
        rcases Nat.lt_or_ge i listed.size with h' | h'
        · simp[h'] at h0 h1; rw[h0] at h1; cases h1
        · simp[Array.getElem?_eq_none h'] at h1
      obtain⟨a1,a2,a3⟩:=Oper.apart_spec (hfree j oj hoj hji hjun hnot)
      refine⟨y,hy2.unput a1, ?_⟩
      have hfree':∀k ok,ops[k]? =some ok→k≠i→(listed.setIfInBounds j true).getD k true=false→
          (∀e∈ok.after,Region.binds md e=true→e.on≠i)→oi.apart ops ok=true:=λk ok hk hki hun hno=>by
        refine hfree k ok hk hki ?_ hno
        by_cases hjk:j=k
        · subst hjk; exact hjun
        · rw[getD_set_ne true hjk] at hun; exact hun
      refine ih (listed.setIfInBounds j true) (iQ fr oj.dst y) hfree' (ready_mono hr (Ne.symm hji)) (hy.put a3) ?_
      rw[Array.setIfInBounds_comm _ _ hji,← uJ fr _ _ a2]
      exact hn
theorem DU {K:Fr→Prop}:∀(l:List Oper) (k:Nat) (listed:Array Bool) (fr:Fr),(∀j,l[j]? =ops[k+j]?)→
    Region.lexFrom md ops l.length k listed=true→fK P ops h K l fr→KP P md ops h K l.length listed fr
  | [],_,_,_,_,hB,q=>⟨by simpa [Region.lexFrom] using hB,q⟩
  | o::l,k,listed,fr,hl,hB,q=>by
    have h0:ops[k]? =some o:=by simpa using (hl 0).symm
    simp only[List.length_cons,Region.lexFrom,Bool.and_eq_true] at hB
    obtain⟨⟨hr,hf⟩,hB'⟩:=hB
    obtain⟨x,hy,hK⟩:=q
    exact Fq h0 l.length listed fr (Region.free_spec h0 hf) (by simpa using hr) hy
      (DU l (k+1) _ _ (λj=>by have:=hl (j+1); simpa [Nat.add_assoc,Nat.add_comm 1 j] using this) hB' hK)
theorem rB {K:Fr→Prop}:∀(fuel:Nat) (listed:Array Bool) (fr:Fr) (E:gW) (w:World) (a:Act),KP P md ops h K fuel listed fr→fZ E h w→cY E w fr a.tmps.toList→a.defers= []→
    ∀Q,(∀a' w',uI E w (λfr' h'=>K fr'∧h'=h) a' w'→Q .normal a' w')→wpAny P md ops Q fuel listed a w
  | 0,_,fr,E,w,a,H,r,v,d,Q,hQ=>⟨H.1,hQ _ _ ⟨E,fr,h,eR.refl E w,r,v,d,H.2,rfl⟩⟩
  | fuel+1,listed,fr,E,w,a,H,r,v,d,Q,hQ=>by
    refine⟨λe=>hQ _ _ ⟨E,fr,h,eR.refl E w,r,v,d,H.1 e,rfl⟩,λi hi=> ?_⟩
    obtain⟨_,o,ho,_⟩:=mem_ready.1 hi
    obtain⟨x,hy,hn⟩:=H.2 i hi o ho
    unfold wpOp
    simp only[ho]
    rcases hy with⟨h1,h2⟩ | ⟨h1,rfl⟩
    · rw[h1.wanted v,if_pos rfl]
      refine .inl (h2 E w a r (λy _=>DS v y) _ Q ?_)
      rintro x' u w' E' h' k r' vx ⟨ex,eh⟩
      rw[ex] at vx
      rw[eh] at r'
      refine rB fuel _ _ E' w' _ hn r' (oJ _ (cQ k _ _ v) vx) (by rw[kD]; exact d) Q ?_
      intro a' w'' p
      exact hQ _ _ (p.trans k)
    · rw[h1.wanted v]
      simp only[Bool.false_eq_true,if_false]
      exact rB fuel _ _ E w _ hn r (oJ _ v (by simp[VR])) (by rw[kD]; exact d) Q hQ
end quiet
theorem fZ.drewn {E:gW} {h:aE} {w:World} (r:fZ E h w) (n:Nat):fZ E h { w with drawn:=n}∧eR E w E { w with drawn:=n}:=by
  have k:eR E w E { w with drawn:=n}:=
    ⟨λ_ _ h=>⟨h,rfl⟩,λ_=>Iff.rfl,λ_ _=>rfl,λ_ h=>h,λ_ _ h=>h,
     λk t h o ho=>⟨.inr ⟨t,h,rfl,ho⟩,rfl⟩,λ_ t h _=>⟨t,h,Nat.le_refl _,λ_=>rfl⟩,rfl,rfl,rfl,Nat.le_refl _⟩
  refine⟨⟨?_,r.tok,r.tkh,r.sep,r.dis,r.hus,r.obu,r.fre,r.imb,r.lkb,r.mp⟩,k⟩
  intro x ty cs hx
  obtain⟨g,cur,h1,h2,h3,h4⟩:=r.obj x ty cs hx
  exact⟨g,cur,h1,h2,cQ k _ _ h3,h4⟩
theorem BK {P:Program} {ops:Array Oper} {h:aE} {K:Fr→Prop} {fr:Fr} {o:Oper} {l:List Oper} (x:AV) (hg:o.guard=none)
    (ho:i6 P o (λx' h'=>x'=x∧h'=h) fr h) (hl:fK P ops h K l (iQ fr o.dst x)):fK P ops h K (o::l) fr:=
  ⟨x,.inl ⟨.inl ⟨hg,rfl⟩,ho⟩,hl⟩
theorem uK {P:Program} {ops:Array Oper} {h:aE} {K:Fr→Prop} {fr:Fr} {o:Oper} {l:List Oper} (x:AV) {j d:Nat} {want:Bool} (hg:o.guard=some (j,want))
    (hd:(ops[j]?).bind (·.dst)=some d) (hu:fr[d]? =some (.sc (.bool want)))
    (ho:i6 P o (λx' h'=>x'=x∧h'=h) fr h) (hl:fK P ops h K l (iQ fr o.dst x)):fK P ops h K (o::l) fr:=
  ⟨x,.inl ⟨.inr ⟨j,want,d,hg,hd,.inl ⟨want,hu,by simp⟩⟩,ho⟩,hl⟩
theorem pC {P:Program} {ops:Array Oper} {h:aE} {K:Fr→Prop} {fr:Fr} {o:Oper} {l:List Oper} {j d:Nat} {want:Bool} (hg:o.guard=some (j,want))
    (hd:(ops[j]?).bind (·.dst)=some d) (hu:fr[d]? =some (.sc (.bool (!want)))∨∃vs,fr[d]? =some (.sc (.tuple vs)))
    (hl:fK P ops h K l (iQ fr o.dst (.sc undef))):fK P ops h K (o::l) fr:=by
  refine⟨.sc undef,.inr ⟨.inr ⟨j,want,d,hg,hd, ?_⟩,rfl⟩,hl⟩
  rcases hu with hu | hu
  · exact .inl ⟨_,hu,by cases want <;> rfl⟩
  · exact .inr ⟨hu,rfl⟩
def wC (P:Program) (t:TypeId):Option IntKind:=match P.underlying t with | some (.int k)=>some k | _=>none
def tEl (P:Program) (t:TypeId):Option TypeId:=match P.underlying t with | some (.slice e)=>some e | _=>none
def SL (P:Program) (t:TypeId):Option (Nat×TypeId):=match P.underlying t with | some (.array n e)=>some (n,e) | _=>none
def wD (P:Program) (t:TypeId) (i:Nat):Option (Nat×TypeId):=match P.underlying t with | some (.struct fs)=>(fs[i]?).map λf=>(f.offset,f.type) | _=>none
def KR (P:Program) (t:TypeId):Option Bool:=match P.underlying t with | some (.struct _) | some (.array _ _)=>some true | some _=>some false | none=>none
def nD (P:Program) (t:TypeId):Option Nat:=(P.info? t).map (·.size)
section
variable {P:Program} {E:gW} {w:World}
theorem cS {t:TypeId} {n:Nat} (h:nD P t=some n) (w:World):(sizeOf t).run P w= .ok n w:=by
 unfold nD at h
 cases hi:P.info? t with
 | none=>rw[hi] at h; simp at h
 | some i=>rw[hi] at h; simp at h; simp[sizeOf,typeInfo,hi,h]
theorem xL {t:TypeId} {b:Bool} (h:KR P t=some b) (w:World):(isAgg t).run P w= .ok b w:=by
 unfold KR at h
 cases hu:P.underlying t with
 | none=>rw[hu] at h; simp at h
 | some d=>rw[hu] at h; cases d <;> simp at h <;> subst h <;> simp[isAgg,run_underlying hu]
theorem KS {t e:TypeId} (h:tEl P t=some e):P.underlying t=some (.slice e):=by
 unfold tEl at h; split at h
 ·rename_i e' he; cases h; exact he
 ·cases h
theorem I7 {t e:TypeId} {n:Nat} (h:SL P t=some (n,e)):P.underlying t=some (.array n e):=by
 unfold SL at h; split at h
 ·rename_i e' he; cases h; exact he
 ·cases h
theorem AO {t:TypeId} {k:IntKind} (h:wC P t=some k):P.underlying t=some (.int k):=by
 unfold wC at h; split at h
 ·rename_i e' he; cases h; exact he
 ·cases h
theorem I8 {t u:TypeId} {i n:Nat} (h:wD P t i=some (n,u)):∃fs f,P.underlying t=some (.struct fs)∧fs[i]? =some f∧f.offset=n∧f.type=u:=by
 unfold wD at h; split at h
 ·rename_i fs he
  cases hf:fs[i]? with
  | none=>rw[hf] at h; simp at h
  | some f=>rw[hf] at h; simp at h; exact⟨fs,f,he,hf,h.1,h.2⟩
 ·cases h
theorem uL {tag:Option cB} {g:Nat}:∀ {o:Nat} {cs:List AV},qT E w tag g o cs→
    ∃cv:List Value,cY E w cs cv∧(∀v∈cv,v.oneCell'=true)∧∀j v,cv[j]? =some v→w.cell? ⟨g,o+j,none⟩=some v∧E.prot tag g (o+j)
  | o, [],_=>⟨[],by simp[cY],by simp,by simp⟩
  | o,x::cs,h=>by
    simp only[qT] at h
    obtain⟨h1,⟨cv,h2,h3,h4⟩,h5⟩:=h
    obtain⟨l,e1,e2,e3⟩:=uL h5
    refine⟨cv::l,by simp only[cY]; exact⟨h4,e1⟩,by simpa using⟨h3,e2⟩, ?_⟩
    intro j v hj
    cases j with
    | zero=>simp at hj; subst hj; exact⟨h2,h1⟩
    | succ j=>
      have:=e3 j v (by simpa using hj)
      rwa [show o+(j+1)=o+1+j from by omega]
theorem fO:∀ {xs:List AV} {vs:List Value} (n:Nat),cY E w xs vs→cY E w (xs.take n) (vs.take n)
 | [], [],_,_=>by simp[cY]
 | _::_,_::_,0,_=>by simp[cY]
 | x::xs,v::vs,n+1,h=>by simp only[cY] at h; simp only[List.take_succ_cons,cY]; exact⟨h.1,fO n h.2⟩
 | [],_::_,_,h=>by simp only[cY] at h
 | _::_, [],_,h=>by simp only[cY] at h
theorem iJ:∀ {xs:List AV} {vs:List Value} (n:Nat),cY E w xs vs→cY E w (xs.drop n) (vs.drop n)
 | [], [],_,_=>by simp[cY]
 | _::_,_::_,0,h=>by simpa using h
 | x::xs,v::vs,n+1,h=>by simp only[cY] at h; simpa using iJ n h.2
 | [],_::_,_,h=>by simp only[cY] at h
 | _::_, [],_,h=>by simp only[cY] at h
theorem rZ {tag:Option cB} {g:Nat}:∀ {o:Nat} {cs:List AV} (n:Nat),qT E w tag g o cs→qT E w tag g (o+n) (cs.drop n)
 | o, [],n,_=>by simp[qT]
 | o,x::cs,0,h=>by simpa using h
 | o,x::cs,n+1,h=>by
  simp only[qT] at h
  have:=rZ n h.2.2
  rw[show o+(n+1)=o+1+n from by omega]
  simpa using this
theorem rC {tag:Option cB} {g:Nat}:∀ {o:Nat} {cs ds:List AV},qT E w tag g o (cs++ds)↔qT E w tag g o cs∧qT E w tag g (o+cs.length) ds
 | o, [],ds=>by simp[qT]
 | o,x::cs,ds=>by
  simp only[List.cons_append,qT,rC (cs:=cs),List.length_cons]
  rw[show o+1+cs.length=o+(cs.length+1) from by omega]
  simp only[and_assoc]
theorem i9 {tag:Option cB} {g:Nat}:∀ {o:Nat} {xs:List (List AV)},wB E w tag g o xs↔qT E w tag g o xs.flatten
 | o, []=>by simp[wB,qT]
 | o,x::xs=>by simp only[wB,List.flatten_cons,rC,i9 (xs:=xs)]
theorem HX {tag:Option cB} {g sz:Nat}:∀ {o:Nat} {xs:List (List AV)},(∀x∈xs,x.length=sz)→wB E w tag g o xs→∀i,i < xs.length→qT E w tag g (o+i*sz) (xs.getD i [])
 | o, [],_,_,i,hi=>by simp at hi
 | o,x::xs,hs,h,0,_=>by simp only[wB] at h; simpa using h.1
 | o,x::xs,hs,h,i+1,hi=>by
  simp only[wB] at h
  have h2:=HX (λy hy=>hs y (by simp[hy])) h.2 i (by simpa using hi)
  rw[hs x (by simp)] at h2
  rw[show o+(i+1)*sz=o+sz+i*sz from by rw[Nat.add_mul]; omega]
  simpa using h2
end
theorem eC {P:Program} {o:Oper} {K:AV→aE→Prop} {fr:Fr} {h:aE} {x:AV}
    (hr:∀E w (a:Act),fZ E h w→(∀y∈o.op.operands,VR E w (ev fr y) (a.eval y))→∃v,(execOp a.eval o).run P w= .ok (.value v) w∧VR E w x v) (hk:K x h):i6 P o K fr h:=by
  intro E w a r v Nx Qx hn
  obtain⟨u,h1,h2⟩:=hr E w a r v
  unfold Oper.wp
  rw[h1]
  exact hn x u w E h (eR.refl E w) r h2 hk
def DP (ag:Bool) (n:Nat) (cs:List AV):Option AV:=
 match ag with
 | true=>if n≤cs.length then some (.agg (cs.take n)) else none
 | false=>cs.head?
theorem nH {P:Program} {E:gW} {w:World} {t:TypeId} {ag:Bool} {n:Nat} (ha:KR P t=some ag) (hs:nD P t=some n) {g o:Nat} {cs:List AV} {cv:List Value} (hv:cY E w cs cv)
    (hc:∀j v,cv[j]? =some v→w.cell? ⟨g,o+j,none⟩=some v) {x:AV} (hx:DP ag n cs=some x):
    ∃v,(loadVar t ⟨g,o,none⟩).run P w= .ok v w∧VR E w x v:=by
  have hl:=cZ hv
  cases ag with
  | true=>
    simp only[DP] at hx
    split at hx
    · rename_i hn
      cases hx
      have hrun:=run_loadCells_list (P:=P) (w:=w) ⟨g,o,none⟩ (cv.take n) (λj v hj=>by
        rw[List.getElem?_take] at hj
        split at hj
        · have:=hc j v hj
          unfold Addr.add
          split
          · rename_i h0; subst h0; simpa using this
          · exact this
        · cases hj)
      have hlen:(cv.take n).length=n:=by rw[List.length_take]; omega
      rw[hlen] at hrun
      refine⟨.agg (cv.take n).toArray, ?_, ?_⟩
      · simp[loadVar,xL ha,cS hs,hrun]
      · simp only[VR]; exact⟨_,rfl,by simpa using fO n hv⟩
    · cases hx
  | false=>
    simp only[DP] at hx
    cases cs with
    | nil=>simp at hx
    | cons y cs=>
      simp at hx; subst hx
      cases cv with
      | nil=>simp[cY] at hv
      | cons v cv=>
        simp only[cY] at hv
        have h0:=hc 0 v (by simp)
        refine⟨v, ?_,hv.1⟩
        simp only[Nat.add_zero] at h0
        simp[loadVar,xL ha,load,Sem.run,h0]
def cH (op:BinOp) (k:IntKind) (a b:Int):Int:=
 match op with
 | .and=>k.wrap (BitVec.ofInt k.bits a &&& BitVec.ofInt k.bits b).toNat
 | .or=>k.wrap (BitVec.ofInt k.bits a ||| BitVec.ofInt k.bits b).toNat
 | .xor=>k.wrap (BitVec.ofInt k.bits a ^^^ BitVec.ofInt k.bits b).toNat
 | _=>k.wrap (BitVec.ofInt k.bits a &&& ~~~ BitVec.ofInt k.bits b).toNat
def ib (op:BinOp) (k:IntKind) (a b:Int):Option (Prop×Value):=
 match op with
 | .add=>some (True,.int k (k.wrap (a+b)))
 | .sub=>some (True,.int k (k.wrap (a - b)))
 | .mul=>some (True,.int k (k.wrap (a*b)))
 | .quo=>some (b≠0,.int k (k.wrap (a.tdiv b)))
 | .rem=>some (b≠0,.int k (a.tmod b))
 | .and=>some (True,.int k (cH .and k a b))
 | .or=>some (True,.int k (cH .or k a b))
 | .xor=>some (True,.int k (cH .xor k a b))
 | .eql=>some (True,.bool (a==b))
 | .neq=>some (True,.bool (a !=b))
 | .lss=>some (True,.bool (decide (a < b)))
 | .leq=>some (True,.bool (decide (a≤b)))
 | .gtr=>some (True,.bool (decide (b < a)))
 | .geq=>some (True,.bool (decide (b≤a)))
 | _=>none
def sh (op:BinOp) (k:IntKind) (a b:Int):Option (Prop×Value):=
 match op with
 | .shl=>some (0≤b,.int k (k.wrap (a*2 ^ (min b.toNat k.bits))))
 | .shr=>some (0≤b,.int k (a.fdiv (2 ^ (min b.toNat k.bits))))
 | _=>none
def sb (op:BinOp) (x y:ByteArray):Option (Prop×Value):=
 match op with
 | .add=>some (x.size+y.size≤9223372036854775807,.string (x++y))
 | .eql=>some (True,.bool (x.toList==y.toList))
 | .neq=>some (True,.bool (!(x.toList==y.toList)))
 | .lss=>some (True,.bool (Op.bytesLess x.toList y.toList))
 | .leq=>some (True,.bool (Op.bytesLess x.toList y.toList || x.toList==y.toList))
 | .gtr=>some (True,.bool (!(Op.bytesLess x.toList y.toList || x.toList==y.toList)))
 | .geq=>some (True,.bool (!Op.bytesLess x.toList y.toList))
 | _=>none
def bv (op:BinOp) (x y:AV):Option (Prop×Value):=
 match x,y with
 | .sc (.int k a),.sc (.int k' b)=>
  match op with
  | .shl=>sh .shl k a b
  | .shr=>sh .shr k a b
  | op=>if k=k' then ib op k a b else none
 | .sc (.string a),.sc (.string b)=>sb op a b
 | _,_=>none
theorem KT {P:Program} {op:BinOp} {t:TypeId} {ox oy:Operand} {x y:AV} {c:Prop} {r:Value} (hb:bv op x y=some (c,r)) (hc:c) {vx vy:Value} {E:gW} {w:World} (hx:VR E w x vx) (hy:VR E w y vy):
    (do eqGuard op t ox oy vx vy; binOp op t vx vy:Sem Value).run P w= .ok r w:=by
  unfold bv at hb
  split at hb
  · rename_i k a k' b
    simp only[VR] at hx hy
    subst hx hy
    split at hb
    · simp only[sh,Option.some.injEq,Prod.mk.injEq] at hb
      obtain⟨rfl,rfl⟩:=hb
      simp[eqGuard,binOp,Op.shift,show ¬b < 0 from by omega]
    · simp only[sh,Option.some.injEq,Prod.mk.injEq] at hb
      obtain⟨rfl,rfl⟩:=hb
      simp[eqGuard,binOp,Op.shift,show ¬b < 0 from by omega]
    · rename_i hshl hshr
      split at hb
      · rename_i hk
        subst hk
        cases op <;> simp only[ib,Option.some.injEq,Prod.mk.injEq,reduceCtorEq] at hb <;> (try exact absurd rfl hshl) <;> (try exact absurd rfl hshr) <;> obtain⟨rfl,rfl⟩:=hb <;>
          simp_all [eqGuard,binOp,Op.intArith,Op.intDiv,Op.intBits,Op.intCmp,cH]
      · cases hb
  · rename_i a b
    simp only[VR] at hx hy
    subst hx hy
    cases op <;> simp only[sb,Option.some.injEq,Prod.mk.injEq,reduceCtorEq] at hb <;> obtain⟨rfl,rfl⟩:=hb
    case add=>
      have h1:((a.size:Int)+b.size)≤9223372036854775807:=by omega
      simp[eqGuard,binOp,Op.stringOp,IntKind.max,IntKind.bits,IntKind.signed,h1]
    all_goals simp[eqGuard,binOp,Op.stringOp]
  · cases hb
def pk (b:Bool) (x y:AV):AV:=match b with | true=>x | false=>y
def nM (P:Program) (t:TypeId):Option Nat:=(tEl P t).bind (nD P)
def HY (P:Program) (t:TypeId):Option (Nat×Nat):=(SL P t).bind λx=>(nD P x.2).map λs=>(x.1,s)
def lN (P:Program) (t:TypeId) (f:Nat):Option (Nat×Nat):=(wD P t f).bind λx=>(nD P x.2).map λs=>(x.1,s)
def mN (P:Program) (t:TypeId):Option (Bool×Nat):=(KR P t).bind λa=>(nD P t).map λs=>(a,s)
def KI (n:Int) (es:Option Nat) (as:Option (Nat×Nat)):AV→Option (Prop×AV)
 | .sl tag sz xs=>es.bind λs=>some ((sz=s∧0≤n)∧n < xs.length,.rp tag (xs.getD n.toNat []))
 | .view k off len=>es.bind λs=>some (0≤n∧n < len,.ptr k (off+n.toNat*s))
 | .ptr k off=>as.bind λa=>some (0≤n∧n < a.1,.ptr k (off+n.toNat*a.2))
 | .rp tag cs=>as.bind λa=>some (0≤n∧n < a.1,.rp tag (cs.drop (n.toNat*a.2)))
 | _=>none
def lO:AV→Option Int
 | .sc (.int _ n)=>some n
 | _=>none
def pD (d:Int):Option AV→Option Int
 | none=>some d
 | some x=>lO x
def BL (l:Option AV) (h:Option AV) (es:Option Nat) (as:Option (Nat×Nat)):AV→Option (Prop×AV)
  | .sl tag sz xs=>es.bind λs=>(pD 0 l).bind λl=>(pD xs.length h).bind λh=>
      some ((sz=s∧0 < s)∧0≤l∧l≤h∧h≤xs.length,.sl tag sz ((xs.take h.toNat).drop l.toNat))
  | .view k off len=>es.bind λs=>(pD 0 l).bind λl=>(pD len h).bind λh=>
      some (0≤l∧l < h∧h≤len,.view k (off+l.toNat*s) (h.toNat - l.toNat))
  | .ptr k off=>as.bind λa=>(pD 0 l).bind λl=>(pD a.1 h).bind λh=>
      some (a.1≤1000000∧0≤l∧l < h∧h≤a.1,.view k (off+l.toNat*a.2) (h.toNat - l.toNat))
  | .rp none cs=>as.bind λa=>(pD 0 l).bind λl=>(pD a.1 h).bind λh=>
      some ((a.2=1∧a.1≤1000000∧a.1≤cs.length)∧0≤l∧l < h∧h≤a.1,.sl none 1 (((cs.take h.toNat).drop l.toNat).map λx=> [x]))
  | .sc (.slice none 0 0)=>es.bind λ_=>(pD 0 l).bind λl=>(pD 0 h).bind λh=>some (l=0∧h=0,.sc (.slice none 0 0))
  | .sc (.string s)=>if es=none∧as=none then (pD 0 l).bind λl=>(pD s.size h).bind λh=>some (0≤l∧l≤h∧h≤s.size,.sc (.string (s.extract l.toNat h.toNat))) else none
  | .e0=>es.bind λ_=>(pD 0 l).bind λl=>(pD 0 h).bind λh=>some (l=0∧h=0,.e0)
  | _=>none
def OU (l:Option AV) (h m:AV) (es:Option Nat):AV→Option (Prop×AV)
  | .sl none sz xs=>es.bind λs=>(pD 0 l).bind λl=>(lO h).bind λh=>(lO m).bind λm=>
      some ((sz=s∧0 < s)∧0≤l∧l≤h∧h≤m∧m≤xs.length,.sl none sz ((xs.take h.toNat).drop l.toNat))
  | .sc (.slice none 0 0)=>es.bind λ_=>(pD 0 l).bind λl=>(lO h).bind λh=>(lO m).bind λm=>some (l=0∧h=0∧m=0,.e0)
  | .e0=>es.bind λ_=>(pD 0 l).bind λl=>(lO h).bind λh=>(lO m).bind λm=>some (l=0∧h=0∧m=0,.e0)
  | _=>none
def OV (l:Option AV) (h m:AV) (es:Option Nat):AV→Option (Prop×AV)
 | .sl _ _ _ | .view _ _ _=>es.bind λ_=>(pD 0 l).bind λl=>(lO h).bind λh=>(lO m).bind λm=>some (l=0∧h=0∧m=0,.e0)
 | _=>none
def slM (l:Option AV) (h m:AV) (es:Option Nat) (x:AV):Option (Prop×AV):=
 match lO m with
 | some (.ofNat 0)=>match OV l h m es x with | some r=>some r | none=>OU l h m es x
 | _=>OU l h m es x
def OL (o:Nat):AV→Option AV
 | .ptr k off=>some (.ptr k (off+o))
 | .rp tag cs=>some (.rp tag (cs.drop o))
 | _=>none
def KU (h:aE) (ag:Bool) (n:Nat):AV→Option AV
 | .rp _ cs=>DP ag n cs
 | .ptr k off=>match h k with
  | some (.obj _ cs)=>DP ag n (cs.drop off)
  | _=>none
 | _=>none
def VZ (op:UnOp):AV→Option AV
 | .sc (.bool b)=>match op with | .not=>some (.sc (.bool (!b))) | _=>none
 | .sc (.int k n)=>match op with | .neg=>some (.sc (.int k (k.wrap (0 - n)))) | _=>none
 | _=>none
def WF (k:Option IntKind):AV→Option AV
 | .sc (.int _ n)=>k.map λk=>.sc (.int k (k.wrap n))
 | _=>none
def pkA (x y:AV):AV→Option AV
 | .sc (.bool b)=>some (pk b x y)
 | _=>none
def I9:AV→Option AV
 | .ptr k off=>some (.ptr k off)
 | .rp tag cs=>some (.rp tag cs)
 | _=>none
def zS (i:Nat):AV→Option AV
 | .tup xs=>xs[i]?
 | _=>none
def wE (P:Program) (t:TypeId):Option Bool:=match P.underlying t with | some (.slice _)=>some true | some .string=>some false | _=>none
def DV (P:Program) (t:TypeId):Bool:=(nM P t).isSome || (HY P t).isSome || wE P t==some false
def RE (sl:Bool):AV→Option AV
 | .sl _ _ xs=>if sl then some (.sc (.int .i64 xs.length)) else none
 | .view _ _ n=>if sl then some (.sc (.int .i64 n)) else none
 | .sc (.string s)=>if sl then none else some (.sc (.int .i64 s.size))
 | .sc (.slice _ n _)=>if sl then some (.sc (.int .i64 n)) else none
 | .e0=>if sl then some (.sc (.int .i64 ((0:Nat):Int))) else none
 | _=>none
def tt (x:AV):Prop×AV:=(True,x)
def RF (P:Program) (fr:Fr) (c:Call):Option (Prop×AV):=
 match c.callee,c.args.toList,c.argTypes.toList with
 | .builtin .len, [x], [t]=>(wE P t).bind λb=>(RE b (ev fr x)).map tt
 | _,_,_=>none
def pv (P:Program) (h:aE) (fr:Fr):Op→Option (Prop×AV)
 | .move x | .assign x=>some (True,ev fr x)
 | .pick c x y=>(pkA (ev fr x) (ev fr y) (ev fr c)).map tt
 | .binOp op _ x y _=>(bv op (ev fr x) (ev fr y)).map λr=>(r.1,.sc r.2)
 | .unOp op _ x=>(VZ op (ev fr x)).map tt
 | .convert src dst x=>(wC P src).bind λ_=>(WF (wC P dst) (ev fr x)).map tt
 | .indexAddr t x i=>(lO (ev fr i)).bind λn=>KI n (nM P t) (HY P t) (ev fr x)
 | .slice t x l h none=>(BL (l.map (ev fr)) (h.map (ev fr)) (nM P t) (HY P t) (ev fr x)).bind λr=>if DV P t=true then some r else none
 | .slice t x l (some h) (some m)=>slM (l.map (ev fr)) (ev fr h) (ev fr m) (nM P t) (ev fr x)
 | .fieldAddr t x f=>(lN P t f).bind λo=>if o.2=0 then none else (OL o.1 (ev fr x)).map tt
 | .load t x=>(mN P t).bind λa=>(KU h a.1 a.2 (ev fr x)).map tt
 | .nilCheck x=>(I9 (ev fr x)).map tt
 | .makeFunc fn first caps=>if first.size=0 then some (True,.fn fn (caps.toList.map (ev fr))) else none
 | .extract x i=>(zS i (ev fr x)).map tt
 | .call c=>RF P fr c
 | _=>none
section
variable {P:Program} {E:gW} {w:World} {h:aE}
theorem SM {k:IntKind} {n:Int} {v:Value} (hv:VR E w (.sc (.int k n)) v):v= .int k n:=by simpa only[VR] using hv
theorem qI {x:AV} {n:Int} (hx:lO x=some n):∃k,x= .sc (.int k n):=by
 unfold lO at hx; split at hx
 ·cases hx; exact⟨_,rfl⟩
 ·cases hx
theorem fP {t:TypeId} {s:Nat} (he:nM P t=some s):∃e,P.underlying t=some (.slice e)∧nD P e=some s:=by
 simp only[nM,Option.bind_eq_some_iff] at he
 obtain⟨e,h1,h2⟩:=he
 exact⟨e,KS h1,h2⟩
theorem sA {t:TypeId} {n s:Nat} (he:HY P t=some (n,s)):∃e,P.underlying t=some (.array n e)∧nD P e=some s:=by
 simp only[HY,Option.bind_eq_some_iff,Option.map_eq_some_iff,Prod.mk.injEq] at he
 obtain⟨⟨m,e⟩,h1,s',h2,rfl,rfl⟩:=he
 exact⟨e,I7 h1,h2⟩
theorem KW {t:TypeId} {f o s:Nat} (he:lN P t f=some (o,s)):∃fs fd,P.underlying t=some (.struct fs)∧fs[f]? =some fd∧fd.offset=o∧nD P fd.type=some s:=by
 simp only[lN,Option.bind_eq_some_iff,Option.map_eq_some_iff,Prod.mk.injEq] at he
 obtain⟨⟨m,e⟩,h1,s',h2,rfl,rfl⟩:=he
 obtain⟨fs,fd,a1,a2,a3,a4⟩:=I8 h1
 exact⟨fs,fd,a1,a2,a3,by rw[a4]; exact h2⟩
theorem DW {t:TypeId} {a:Bool} {n:Nat} (he:mN P t=some (a,n)):KR P t=some a∧nD P t=some n:=by
 simp only[mN,Option.bind_eq_some_iff,Option.map_eq_some_iff,Prod.mk.injEq] at he
 obtain⟨a',h1,s',h2,rfl,rfl⟩:=he
 exact⟨h1,h2⟩
theorem JA {t:TypeId} {n:Int} {k:IntKind} {x y:AV} {c:Prop} (hx:KI n (nM P t) (HY P t) x=some (c,y)) (hc:c) {v:Value} (hv:VR E w x v):
    ∃u,(Instr.indexAt t v (.int k n)).run P w= .ok u w∧VR E w y u:=by
  cases x with
  | sl tag sz xs=>
    simp only[KI,Option.bind_eq_some_iff,Option.some.injEq,Prod.mk.injEq] at hx
    obtain⟨s,hs,rfl,rfl⟩:=hx
    obtain⟨e,hu,he⟩:=fP hs
    obtain⟨⟨hss,h0⟩,h1⟩:=hc
    subst hss
    simp only[VR] at hv
    obtain⟨a,cap,rfl,_,_,h3,h4,_⟩:=hv
    have hne:xs≠ []:=by intro e; subst e; simp at h1; omega
    obtain⟨g,o,rfl,h5⟩:=h3.resolve_left hne
    have hi:n.toNat < xs.length:=by omega
    refine⟨.pointer (some ⟨g,o+n.toNat*sz,none⟩), ?_, ?_⟩
    · simp[Instr.indexAt,run_underlying hu,asIntOf,cS he,h0,h1,Addr.add_lit]
    · simp only[VR]
      exact⟨g,_,rfl,HX h4 h5 _ hi⟩
  | view key off len=>
    simp only[KI,Option.bind_eq_some_iff,Option.some.injEq,Prod.mk.injEq] at hx
    obtain⟨s,hs,rfl,rfl⟩:=hx
    obtain⟨e,hu,he⟩:=fP hs
    obtain⟨h0,h1⟩:=hc
    simp only[VR] at hv
    obtain⟨g,cap,h2,rfl,_⟩:=hv
    refine⟨.pointer (some ⟨g,off+n.toNat*s,none⟩), ?_, ?_⟩
    · simp[Instr.indexAt,run_underlying hu,asIntOf,cS he,h0,h1,Addr.add_lit]
    · simp only[VR]
      exact⟨g,h2,rfl⟩
  | ptr key off=>
    simp only[KI,Option.bind_eq_some_iff,Option.some.injEq,Prod.mk.injEq] at hx
    obtain⟨⟨len,s⟩,hs,rfl,rfl⟩:=hx
    obtain⟨e,hu,he⟩:=sA hs
    obtain⟨h0,h1⟩:=hc
    simp only[VR] at hv
    obtain⟨g,h2,rfl⟩:=hv
    refine⟨.pointer (some ⟨g,off+n.toNat*s,none⟩), ?_, ?_⟩
    · simp only at h1
      simp[Instr.indexAt,Instr.sureAddr,run_underlying hu,asIntOf,cS he,h0,h1,Addr.add_lit]
    · simp only[VR]
      exact⟨g,h2,rfl⟩
  | rp tag cs=>
    simp only[KI,Option.bind_eq_some_iff,Option.some.injEq,Prod.mk.injEq] at hx
    obtain⟨⟨len,s⟩,hs,rfl,rfl⟩:=hx
    obtain⟨e,hu,he⟩:=sA hs
    obtain⟨h0,h1⟩:=hc
    simp only[VR] at hv
    obtain⟨g,o,rfl,h2⟩:=hv
    refine⟨.pointer (some ⟨g,o+n.toNat*s,none⟩), ?_, ?_⟩
    · simp only at h1
      simp[Instr.indexAt,Instr.sureAddr,run_underlying hu,asIntOf,cS he,h0,h1,Addr.add_lit]
    · simp only[VR]
      exact⟨g,_,rfl,rZ _ h2⟩
  | _=>simp[KI] at hx
theorem uM {tag:Option cB} {g:Nat}:∀ {o:Nat} {xs ys:List (List AV)},wB E w tag g o (xs++ys)↔wB E w tag g o xs∧wB E w tag g (o+xs.flatten.length) ys
 | o, [],ys=>by simp[wB]
 | o,x::xs,ys=>by
  simp only[List.cons_append,wB,uM (xs:=xs),List.flatten_cons,List.length_append,and_assoc]
  rw[show o+x.length+xs.flatten.length=o+(x.length+xs.flatten.length) from by omega]
theorem jA {sz:Nat}:∀ {xs:List (List AV)},(∀x∈xs,x.length=sz)→xs.flatten.length=xs.length*sz
 | [],_=>by simp
 | x::xs,h=>by
  rw[List.flatten_cons,List.length_append,jA λy hy=>h y (by simp[hy]),h x (by simp),List.length_cons,Nat.add_mul]
  omega
theorem HZ {tag:Option cB} {g sz o:Nat} {xs:List (List AV)} (hs:∀x∈xs,x.length=sz) (hv:wB E w tag g o xs) (l h:Nat) (hl:l≤xs.length):wB E w tag g (o+l*sz) ((xs.take h).drop l):=by
 have e:xs=xs.take l++xs.drop l:=(List.take_append_drop l xs).symm
 rw[e,uM] at hv
 have hlen:(xs.take l).flatten.length=l*sz:=by
  rw[jA λx hx=>hs x (List.mem_of_mem_take hx),List.length_take,Nat.min_eq_left hl]
 rw[hlen] at hv
 have h2:=hv.2
 rw[List.drop_take]
 rw[← List.take_append_drop (h - l) (xs.drop l),uM] at h2
 exact h2.1
theorem xM {d:Int} {x:Option AV} {n:Int} (hx:pD d x=some n):(x=none∧n=d)∨∃k,x=some (.sc (.int k n)):=by
 cases x with
 | none=>simp[pD] at hx; exact .inl ⟨rfl,hx.symm⟩
 | some y=>
  obtain⟨k,e⟩:=qI (x:=y) (by simpa [pD] using hx)
  exact .inr ⟨k,by rw[e]⟩
theorem fU {sl:Bool} {len cap:Nat} {l h:Int} {lo hi:Option AV} {lv hv:Option Value} (hlo:pD 0 lo=some l) (hhi:pD len hi=some h)
    (rl:∀x,lo=some x→∃v,lv=some v∧VR E w x v) (rl':lo=none→lv=none) (rh:∀x,hi=some x→∃v,hv=some v∧VR E w x v) (rh':hi=none→hv=none)
    (h0:0≤l) (h1:l≤h) (h2:h≤cap):(Instr.sliceBounds sl len cap lv hv none).run P w= .ok (l.toNat,h.toNat,cap) w:=by
  have eh:(h.toNat:Int)=h:=Int.toNat_of_nonneg (by omega)
  rcases xM hlo with⟨rfl,rfl⟩ | ⟨k,rfl⟩ <;> rcases xM hhi with⟨rfl,e⟩ | ⟨k',rfl⟩
  · rw[rl' rfl,rh' rfl]
    simp[Instr.sliceBounds,e]
  · obtain⟨v,rfl,hv⟩:=rh _ rfl
    simp only[VR] at hv; subst hv
    rw[rl' rfl]
    simp[Instr.sliceBounds,run_sliceBound,h1,h2]
  · obtain⟨v,rfl,hv⟩:=rl _ rfl
    simp only[VR] at hv; subst hv
    rw[rh' rfl]
    subst e
    simp[Instr.sliceBounds,run_sliceBound,h0,h1]
  · obtain⟨v,rfl,hv⟩:=rl _ rfl
    obtain⟨v',rfl,hv'⟩:=rh _ rfl
    simp only[VR] at hv hv'; subst hv hv'
    simp[Instr.sliceBounds,run_sliceBound,h0,h1,h2,eh,show 0≤h from by omega]
theorem JC {t:TypeId} {lo hi:Option AV} {x y:AV} {c:Prop} (hx:BL lo hi (nM P t) (HY P t) x=some (c,y)) (ht:DV P t=true) (hc:c) {v:Value} (hv:VR E w x v) {lv hv':Option Value}
    (rl:∀x,lo=some x→∃v,lv=some v∧VR E w x v) (rl':lo=none→lv=none) (rh:∀x,hi=some x→∃v,hv'=some v∧VR E w x v) (rh':hi=none→hv'=none):
    ∃u,(Instr.sliceAt t v lv hv' none).run P w= .ok u w∧VR E w y u:=by
  cases x with
  | sl tag sz xs=>
    simp only[BL,Option.bind_eq_some_iff,Option.some.injEq,Prod.mk.injEq] at hx
    obtain⟨s,hs,l,hl,h,hh,rfl,rfl⟩:=hx
    obtain⟨e,hu,he⟩:=fP hs
    obtain⟨⟨rfl,hspos⟩,h0,h1,h2⟩:=hc
    simp only[VR] at hv
    obtain⟨a,cap,rfl,hc1,hc2,h3,h4,h5⟩:=hv
    have hb:=fU (P:=P) (sl:=true) (cap:=cap) hl hh rl rl' rh rh' h0 h1 (by omega)
    have hlen:((xs.take h.toNat).drop l.toNat).length=h.toNat - l.toNat:=by rw[List.length_drop,List.length_take]; omega
    refine⟨.slice (if cap=l.toNat then a else a.map (·.add (l.toNat*sz))) (h.toNat - l.toNat) (cap - l.toNat), ?_, ?_⟩
    · simp[Instr.sliceAt,Instr.slice,run_underlying hu,hb,cS he]
    · simp only[VR]
      refine⟨_,_,by rw[hlen],by rw[hlen]; omega,by omega, ?_,λz hz=>h4 z (List.mem_of_mem_take (List.mem_of_mem_drop hz)), ?_⟩
      · by_cases hn:(xs.take h.toNat).drop l.toNat= []
        · exact .inl hn
        · have hpos:0 < h.toNat - l.toNat:=by
            rw[← hlen]; exact List.length_pos_iff.2 hn
          have hxs:xs≠ []:=by intro e; subst e; simp at hn
          obtain⟨g,o,rfl,h6⟩:=h3.resolve_left hxs
          refine .inr ⟨g,o+l.toNat*sz, ?_,HZ h4 h6 _ _ (by omega)⟩
          rw[if_neg (by omega)]
          simp[Addr.add_lit]
      · intro k hk
        obtain⟨hu',ht'⟩:=h5 k hk
        refine⟨hu',λt ht=> ?_⟩
        obtain⟨f1,f2⟩:=ht' t ht
        rw[hlen]
        have hle:(h.toNat - l.toNat)*sz≤xs.length*sz:=Nat.mul_le_mul_right _ (by omega)
        refine⟨by omega,λe=> ?_⟩
        have e1:xs.length*sz=t.m:=by omega
        obtain⟨g1,g2,g3⟩:=f2 e1
        · have hz:=hspos
          have:h.toNat - l.toNat=xs.length:=Nat.eq_of_mul_eq_mul_right hz (by omega)
          have hl0:l.toNat=0:=by omega
          rw[hl0]
          refine⟨?_,by omega,g3⟩
          rw[g1]
          split <;> simp[Addr.add_lit]
  | view key off len=>
    simp only[BL,Option.bind_eq_some_iff,Option.some.injEq,Prod.mk.injEq] at hx
    obtain⟨s,hs,l,hl,h,hh,rfl,rfl⟩:=hx
    obtain⟨e,hu,he⟩:=fP hs
    obtain⟨h0,h1,h2⟩:=hc
    simp only[VR] at hv
    obtain⟨g,cap,h3,rfl,hc1,hc2⟩:=hv
    have hb:=fU (P:=P) (sl:=true) (cap:=cap) hl hh rl rl' rh rh' h0 (by omega) (by omega)
    refine⟨.slice (some ⟨g,off+l.toNat*s,none⟩) (h.toNat - l.toNat) (cap - l.toNat), ?_, ?_⟩
    · have:¬cap=l.toNat:=by omega
      simp[Instr.sliceAt,Instr.slice,run_underlying hu,hb,cS he,this,Addr.add_lit]
    · simp only[VR]
      exact⟨g,_,h3,rfl,by omega,by omega⟩
  | ptr key off=>
    simp only[BL,Option.bind_eq_some_iff,Option.some.injEq,Prod.mk.injEq] at hx
    obtain⟨⟨len,s⟩,hs,l,hl,h,hh,rfl,rfl⟩:=hx
    obtain⟨e,hu,he⟩:=sA hs
    obtain⟨hn,h0,h1,h2⟩:=hc
    simp only at hl hh hn h2
    simp only[VR] at hv
    obtain⟨g,h3,rfl⟩:=hv
    have hb:=fU (P:=P) (sl:=false) (cap:=len) hl hh rl rl' rh rh' h0 (by omega) (by omega)
    refine⟨.slice (some ⟨g,off+l.toNat*s,none⟩) (h.toNat - l.toNat) (len - l.toNat), ?_, ?_⟩
    · have:¬len=l.toNat:=by omega
      simp[Instr.sliceAt,Instr.sureAddr,run_underlying hu,hb,cS he,this,Addr.add_lit]
    · simp only[VR]
      exact⟨g,_,h3,rfl,by omega,by simp only[maxLen]; omega⟩
  | rp tag cs=>
    cases tag with
    | some k=>simp[BL] at hx
    | none=>
    simp only[BL,Option.bind_eq_some_iff,Option.some.injEq,Prod.mk.injEq] at hx
    obtain⟨⟨len,s⟩,hs,l,hl,h,hh,rfl,rfl⟩:=hx
    obtain⟨e,hu,he⟩:=sA hs
    obtain⟨⟨hs1,hn,hcs⟩,h0,h1,h2⟩:=hc
    simp only at hl hh hn h2 hs1 hcs
    subst hs1
    simp only[VR] at hv
    obtain⟨g,o,rfl,h3⟩:=hv
    have hb:=fU (P:=P) (sl:=false) (cap:=len) hl hh rl rl' rh rh' h0 (by omega) (by omega)
    have hlen:((cs.take h.toNat).drop l.toNat).length=h.toNat - l.toNat:=by rw[List.length_drop,List.length_take]; omega
    refine⟨.slice (some ⟨g,o+l.toNat,none⟩) (h.toNat - l.toNat) (len - l.toNat), ?_, ?_⟩
    · have:¬len=l.toNat:=by omega
      simp[Instr.sliceAt,Instr.sureAddr,run_underlying hu,hb,cS he,this,Addr.add_lit]
    · simp only[VR]
      refine⟨_,_,by rw[List.length_map,hlen],by rw[List.length_map,hlen]; omega,by simp only[maxLen]; omega,.inr ⟨g,o+l.toNat,rfl, ?_⟩, ?_,by simp⟩
      rotate_left
      · intro z hz
        obtain⟨q,_,rfl⟩:=List.mem_map.1 hz
        rfl
      rw[i9]
      have e1:(List.map (λx=> [x]) ((cs.take h.toNat).drop l.toNat)).flatten=(cs.take h.toNat).drop l.toNat:=by
        generalize (cs.take h.toNat).drop l.toNat=q
        induction q with
        | nil=>rfl
        | cons y q ih=>simp[ih]
      rw[e1]
      have h4:=rZ l.toNat h3
      rw[List.drop_take]
      rw[← List.take_append_drop (h.toNat - l.toNat) (cs.drop l.toNat),rC] at h4
      exact h4.1
  | sc z=>
    unfold BL at hx
    split at hx <;> (try (simp only[reduceCtorEq] at hx; done))
    · rename_i hz; cases hz
    · rename_i hz; cases hz
    · rename_i hz; cases hz
    · rename_i hz; cases hz
    · rename_i hz
      cases hz
      simp only[Option.bind_eq_some_iff,Option.some.injEq,Prod.mk.injEq] at hx
      obtain⟨s,hs,l,hl,h,hh,rfl,rfl⟩:=hx
      obtain⟨e,hu,he⟩:=fP hs
      obtain⟨rfl,rfl⟩:=hc
      simp only[VR] at hv
      subst hv
      have hb:=fU (P:=P) (sl:=true) (len:=0) (cap:=0) (by simpa using hl) (by simpa using hh) rl rl' rh rh' (by omega) (by omega) (by omega)
      refine⟨.slice none 0 0, ?_,by simp only[VR]⟩
      simp[Instr.sliceAt,Instr.slice,run_underlying hu,hb,cS he]
    · rename_i q hz
      cases hz
      split at hx
      · rename_i hn
        simp only[Option.bind_eq_some_iff,Option.some.injEq,Prod.mk.injEq] at hx
        obtain⟨l,hl,h,hh,rfl,rfl⟩:=hx
        obtain⟨h0,h1,h2⟩:=hc
        simp only[VR] at hv
        subst hv
        have hu:P.underlying t=some .string:=by
          simp only[DV,hn.1,hn.2,Option.isSome_none,Bool.false_or,wE] at ht
          revert ht
          cases P.underlying t with
          | none=>simp
          | some d=>cases d <;> simp
        have hb:=fU (P:=P) (sl:=false) (cap:=q.size) hl hh rl rl' rh rh' h0 h1 h2
        refine⟨.string (q.extract l.toNat h.toNat), ?_,by simp only[VR]⟩
        simp[Instr.sliceAt,Instr.slice,run_underlying hu,hb]
      · cases hx
    · rename_i hz; cases hz
  | e0=>
    simp only[BL,Option.bind_eq_some_iff,Option.some.injEq,Prod.mk.injEq] at hx
    obtain⟨s,hs,l,hl,h,hh,rfl,rfl⟩:=hx
    obtain⟨e,hu,he⟩:=fP hs
    obtain⟨rfl,rfl⟩:=hc
    simp only[VR] at hv
    obtain⟨a,rfl⟩:=hv
    have hb:=fU (P:=P) (sl:=true) (len:=0) (cap:=0) (by simpa using hl) (by simpa using hh) rl rl' rh rh' (by omega) (by omega) (by omega)
    refine⟨.slice a 0 0, ?_,by simp only[VR]; exact⟨a,rfl⟩⟩
    simp[Instr.sliceAt,Instr.slice,run_underlying hu,hb,cS he]
  | _=>simp[BL] at hx
theorem nI {sl:Bool} {len cap:Nat} {l h m:Int} {lo:Option AV} {hi mi:AV} {lv:Option Value} {hv mv:Value} (hlo:pD 0 lo=some l) (hhi:lO hi=some h) (hmi:lO mi=some m)
    (rl:∀x,lo=some x→∃v,lv=some v∧VR E w x v) (rl':lo=none→lv=none) (rh:VR E w hi hv) (rm:VR E w mi mv)
    (h0:0≤l) (h1:l≤h) (h2:h≤m) (h3:m≤cap):(Instr.sliceBounds sl len cap lv (some hv) (some mv)).run P w= .ok (l.toNat,h.toNat,m.toNat) w:=by
  obtain⟨k,rfl⟩:=qI hhi
  obtain⟨k',rfl⟩:=qI hmi
  simp only[VR] at rh rm
  subst rh rm
  have eh:(h.toNat:Int)=h:=Int.toNat_of_nonneg (by omega)
  have em:(m.toNat:Int)=m:=Int.toNat_of_nonneg (by omega)
  rcases xM hlo with⟨rfl,rfl⟩ | ⟨k,rfl⟩
  · rw[rl' rfl]
    simp[Instr.sliceBounds,run_sliceBound,h1,h2,h3,em,show 0≤m from by omega]
  · obtain⟨v,rfl,hv⟩:=rl _ rfl
    simp only[VR] at hv; subst hv
    simp[Instr.sliceBounds,run_sliceBound,h0,h1,h2,h3,eh,em,show 0≤h from by omega,show 0≤m from by omega]
theorem oK {t e:TypeId} {s:Nat} (hu:P.underlying t=some (.slice e)) (he:nD P e=some s) {a:Option Addr} {len cap:Nat} {lv:Option Value} {hv mv:Value} {l h m:Nat}
    (hb:(Instr.sliceBounds true len cap lv (some hv) (some mv)).run P w= .ok (l,h,m) w):
    (Instr.sliceAt t (.slice a len cap) lv (some hv) (some mv)).run P w= .ok (.slice (if m=l then a else a.map (·.add (l*s))) (h - l) (m - l)) w:=by
  simp[Instr.sliceAt,Instr.slice,run_underlying hu,hb,cS he]
theorem AP {t:TypeId} {lo:Option AV} {hi mi x y:AV} {c:Prop} (hx:OU lo hi mi (nM P t) x=some (c,y)) (hc:c) {v:Value} (hv:VR E w x v) {lv:Option Value} {hv' mv:Value}
    (rl:∀x,lo=some x→∃v,lv=some v∧VR E w x v) (rl':lo=none→lv=none) (rh:VR E w hi hv') (rm:VR E w mi mv):
    ∃u,(Instr.sliceAt t v lv (some hv') (some mv)).run P w= .ok u w∧VR E w y u:=by
  cases x with
  | sl tag sz xs=>
    cases tag with
    | some k=>simp[OU] at hx
    | none=>
    simp only[OU,Option.bind_eq_some_iff,Option.some.injEq,Prod.mk.injEq] at hx
    obtain⟨s,hs,l,hl,h,hh,m,hm,rfl,rfl⟩:=hx
    obtain⟨e,hu,he⟩:=fP hs
    obtain⟨⟨rfl,hspos⟩,h0,h1,h2,h2'⟩:=hc
    simp only[VR] at hv
    obtain⟨a,cap,rfl,hc1,hc2,h3,h4,h5⟩:=hv
    have hb:=nI (P:=P) (sl:=true) (len:=xs.length) (cap:=cap) hl hh hm rl rl' rh rm h0 h1 h2 (by omega)
    have hlen:((xs.take h.toNat).drop l.toNat).length=h.toNat - l.toNat:=by rw[List.length_drop,List.length_take]; omega
    refine⟨_,oK hu he hb, ?_⟩
    simp only[VR]
    refine⟨_,_,by rw[hlen],by rw[hlen]; omega,by omega, ?_,λz hz=>h4 z (List.mem_of_mem_take (List.mem_of_mem_drop hz)),by simp⟩
    by_cases hn:(xs.take h.toNat).drop l.toNat= []
    · exact .inl hn
    · have hpos:0 < h.toNat - l.toNat:=by
        rw[← hlen]; exact List.length_pos_iff.2 hn
      have hxs:xs≠ []:=by intro e; subst e; simp at hn
      obtain⟨g,o,rfl,h6⟩:=h3.resolve_left hxs
      refine .inr ⟨g,o+l.toNat*sz, ?_,HZ h4 h6 _ _ (by omega)⟩
      rw[if_neg (by omega)]
      simp[Addr.add_lit]
  | sc z=>
    unfold OU at hx
    split at hx <;> (try (simp only[reduceCtorEq] at hx; done))
    · rename_i hz; cases hz
    · rename_i hz
      cases hz
      simp only[Option.bind_eq_some_iff,Option.some.injEq,Prod.mk.injEq] at hx
      obtain⟨s,hs,l,hl,h,hh,m,hm,rfl,rfl⟩:=hx
      obtain⟨e,hu,he⟩:=fP hs
      obtain⟨rfl,rfl,rfl⟩:=hc
      simp only[VR] at hv
      subst hv
      have hb:=nI (P:=P) (sl:=true) (len:=0) (cap:=0) hl hh hm rl rl' rh rm (by omega) (by omega) (by omega) (by omega)
      exact⟨_,oK hu he hb,by simp only[VR]; exact⟨_,rfl⟩⟩
    · rename_i hz; cases hz
  | e0=>
    simp only[OU,Option.bind_eq_some_iff,Option.some.injEq,Prod.mk.injEq] at hx
    obtain⟨s,hs,l,hl,h,hh,m,hm,rfl,rfl⟩:=hx
    obtain⟨e,hu,he⟩:=fP hs
    obtain⟨rfl,rfl,rfl⟩:=hc
    simp only[VR] at hv
    obtain⟨a,rfl⟩:=hv
    have hb:=nI (P:=P) (sl:=true) (len:=0) (cap:=0) hl hh hm rl rl' rh rm (by omega) (by omega) (by omega) (by omega)
    exact⟨_,oK hu he hb,by simp only[VR]; exact⟨_,rfl⟩⟩
  | _=>simp[OU] at hx
theorem FU {t:TypeId} {lo:Option AV} {hi mi x y:AV} {c:Prop} (hx:OV lo hi mi (nM P t) x=some (c,y)) (hc:c) {v:Value} (hv:VR E w x v) {lv:Option Value} {hv' mv:Value}
    (rl:∀x,lo=some x→∃v,lv=some v∧VR E w x v) (rl':lo=none→lv=none) (rh:VR E w hi hv') (rm:VR E w mi mv):
    ∃u,(Instr.sliceAt t v lv (some hv') (some mv)).run P w= .ok u w∧VR E w y u:=by
  have key:∀a len cap,v= .slice a len cap→(((nM P t).bind λ_=>(pD 0 lo).bind λl=>(lO hi).bind λh=>(lO mi).bind λm=>some (l=0∧h=0∧m=0,AV.e0))=some (c,y))→
      ∃u,(Instr.sliceAt t v lv (some hv') (some mv)).run P w= .ok u w∧VR E w y u:=by
    intro a len cap e hx
    subst e
    simp only[Option.bind_eq_some_iff,Option.some.injEq,Prod.mk.injEq] at hx
    obtain⟨s,hs,l,hl,h,hh,m,hm,rfl,rfl⟩:=hx
    obtain⟨e,hu,he⟩:=fP hs
    obtain⟨rfl,rfl,rfl⟩:=hc
    have hb:=nI (P:=P) (sl:=true) (len:=len) (cap:=cap) hl hh hm rl rl' rh rm (by omega) (by omega) (by omega) (by omega)
    exact⟨_,oK hu he hb,by simp only[VR]; exact⟨_,rfl⟩⟩
  cases x with
  | sl tag sz xs=>
    simp only[VR] at hv
    obtain⟨a,cap,e,_⟩:=hv
    exact key a _ cap e hx
  | view k off n=>
    simp only[VR] at hv
    obtain⟨g,cap,_,e,_⟩:=hv
    exact key _ _ cap e hx
  | _=>simp[OV] at hx
theorem JD {t:TypeId} {lo:Option AV} {hi mi x y:AV} {c:Prop} (hx:slM lo hi mi (nM P t) x=some (c,y)) (hc:c) {v:Value} (hv:VR E w x v) {lv:Option Value} {hv' mv:Value}
    (rl:∀x,lo=some x→∃v,lv=some v∧VR E w x v) (rl':lo=none→lv=none) (rh:VR E w hi hv') (rm:VR E w mi mv):
    ∃u,(Instr.sliceAt t v lv (some hv') (some mv)).run P w= .ok u w∧VR E w y u:=by
  unfold slM at hx
  split at hx
  · split at hx
    · rename_i r hr
      cases hx
      exact FU hr hc hv rl rl' rh rm
    · exact AP hx hc hv rl rl' rh rm
  · exact AP hx hc hv rl rl' rh rm
theorem JE {t:TypeId} {f o s:Nat} {x y:AV} (hf:lN P t f=some (o,s)) (hs:s≠0) (hx:OL o x=some y) {v:Value} (hv:VR E w x v):
    ∃u,(Instr.fieldAt t v f).run P w= .ok u w∧VR E w y u:=by
  obtain⟨fs,fd,hu,h1,rfl,h2⟩:=KW hf
  have run:∀g q,(Instr.fieldAt t (.pointer (some ⟨g,q,none⟩)) f).run P w= .ok (.pointer (some ⟨g,q+fd.offset,none⟩)) w:=by
    intro g q
    simp[Instr.fieldAt,run_underlying hu,h1,Instr.sureAddr,fieldPlace,cS h2,hs,Addr.add_lit]
  cases x with
  | ptr key off=>
    simp only[OL,Option.some.injEq] at hx; subst hx
    simp only[VR] at hv
    obtain⟨g,h3,rfl⟩:=hv
    exact⟨_,run g off,by simp only[VR]; exact⟨g,h3,rfl⟩⟩
  | rp tag cs=>
    simp only[OL,Option.some.injEq] at hx; subst hx
    simp only[VR] at hv
    obtain⟨g,q,rfl,h3⟩:=hv
    exact⟨_,run g q,by simp only[VR]; exact⟨g,_,rfl,rZ _ h3⟩⟩
  | _=>simp[OL] at hx
theorem AQ (r:fZ E h w) {t:TypeId} {ag:Bool} {n:Nat} {x y:AV} (ht:mN P t=some (ag,n)) (hx:KU h ag n x=some y) {v:Value} (hv:VR E w x v):
    ∃u,(Instr.loadAt t v).run P w= .ok u w∧VR E w y u:=by
  obtain⟨h1,h2⟩:=DW ht
  cases x with
  | rp tag cs=>
    simp only[KU] at hx
    simp only[VR] at hv
    obtain⟨g,o,rfl,h3⟩:=hv
    obtain⟨cv,e1,_,e3⟩:=uL h3
    obtain⟨u,e4,e5⟩:=nH (P:=P) h1 h2 e1 (λj v hj=>(e3 j v hj).1) hx
    exact⟨u,by simp[Instr.loadAt,Instr.sureAddr,e4],e5⟩
  | ptr key off=>
    simp only[KU] at hx
    split at hx
    · rename_i ty cs hk
      simp only[VR] at hv
      obtain⟨g,h3,rfl⟩:=hv
      obtain⟨g',cur,e1,e2,e3,e4⟩:=r.obj _ _ _ hk
      rw[h3] at e1; cases e1
      obtain⟨u,e5,e6⟩:=nH (P:=P) (g:=g) (o:=off) h1 h2 (iJ off e3) (λj v hj=>by
        rw[List.getElem?_drop] at hj
        simp only[World.cell?,e2]
        simpa using hj) hx
      exact⟨u,by simp[Instr.loadAt,Instr.sureAddr,e5],e6⟩
    · cases hx
  | _=>simp[KU] at hx
theorem rD {fr:Fr} {a:Act}:∀(l:List Operand),(∀y∈l,VR E w (ev fr y) (a.eval y))→cY E w (l.map (ev fr)) (l.map a.eval)
 | [],_=>by simp[cY]
 | y::l,hl=>by simp only[List.map_cons,cY]; exact⟨hl y (by simp),rD l λz hz=>hl z (by simp[hz])⟩
theorem VRL_get? :∀ {xs:List AV} {vs:List Value} {i:Nat} {x:AV},cY E w xs vs→xs[i]? =some x→∃v,vs[i]? =some v∧VR E w x v
 | x::xs,v::vs,0,y,h,hx=>by simp only[cY] at h; simp at hx; subst hx; exact⟨v,by simp,h.1⟩
 | x::xs,v::vs,i+1,y,h,hx=>by simp only[cY] at h; simpa using VRL_get? h.2 (by simpa using hx)
 | [], [],_,_,_,hx=>by simp at hx
 | [],_::_,_,_,h,_=>by simp only[cY] at h
 | _::_, [],_,_,h,_=>by simp only[cY] at h
end
theorem KX {P:Program} {h:aE} {fr:Fr} {o:Oper} {c:Prop} {x:AV} (hp:pv P h fr o.op=some (c,x)) (hc:c) (E:gW) (w:World) (a:Act) (r:fZ E h w)
    (hv:∀y∈o.op.operands,VR E w (ev fr y) (a.eval y)):∃v,(execOp a.eval o).run P w= .ok (.value v) w∧VR E w x v:=by
  obtain⟨dst,op,type,pos,after,guard⟩:=o
  simp only at hp hv ⊢
  have wrapV:∀(s:Sem Value) (v:Value),s.run P w= .ok v w→((do pure (Next.value (← s))):Sem Next).run P w= .ok (.value v) w:=by
    intro s v hs; simp[hs]
  cases op <;> simp only[pv,reduceCtorEq,Option.some.injEq,Prod.mk.injEq,Option.map_eq_some_iff,Option.bind_eq_some_iff,tt] at hp <;> simp only[Op.operands,List.mem_toArray,List.mem_cons,List.not_mem_nil,or_false] at hv
  case move y=>obtain⟨rfl,rfl⟩:=hp; exact⟨_,by simp[execOp],hv y rfl⟩
  case assign y=>obtain⟨rfl,rfl⟩:=hp; exact⟨_,by simp[execOp],hv y rfl⟩
  case pick q y z=>
    obtain⟨u,h1,rfl,rfl⟩:=hp
    have hq:=hv q (by simp)
    generalize ev fr q=qa at h1 hq
    unfold pkA at h1
    split at h1
    · rename_i b
      cases h1
      simp only[VR] at hq
      refine⟨if b then a.eval y else a.eval z,by simp[execOp,hq,asBool], ?_⟩
      cases b
      · exact hv z (by simp)
      · exact hv y (by simp)
    · cases h1
  case load t y=>
    obtain⟨⟨ag,n⟩,h1,u,h2,rfl,rfl⟩:=hp
    obtain⟨v,h3,h4⟩:=AQ r h1 h2 (hv y rfl)
    exact⟨v,wrapV _ _ h3,h4⟩
  case nilCheck y=>
    obtain⟨u,h1,rfl,rfl⟩:=hp
    have hy:=hv y rfl
    generalize ev fr y=ya at h1 hy
    unfold I9 at h1
    split at h1
    · cases h1
      have hy':=hy
      simp only[VR] at hy
      obtain⟨g,h3,e⟩:=hy
      exact⟨a.eval y,by simp[execOp,e],hy'⟩
    · cases h1
      have hy':=hy
      simp only[VR] at hy
      obtain⟨g,o,e,h3⟩:=hy
      exact⟨a.eval y,by simp[execOp,e],hy'⟩
    · cases h1
  case binOp op t y z yt=>
    obtain⟨u,h1,rfl,rfl⟩:=hp
    exact⟨u.2,wrapV _ _ (KT (c:=u.1) (r:=u.2) h1 hc (hv y (by simp)) (hv z (by simp))),by simp only[VR]⟩
  case unOp op t y=>
    obtain⟨u,h1,rfl,rfl⟩:=hp
    have hy:=hv y rfl
    generalize ev fr y=ya at h1 hy
    unfold VZ at h1
    split at h1
    · split at h1
      · cases h1
        simp only[VR] at hy
        exact⟨_,wrapV _ _ (by rw[hy]; rfl),by simp only[VR]⟩
      · cases h1
    · split at h1
      · cases h1
        simp only[VR] at hy
        exact⟨_,wrapV _ _ (by rw[hy]; rfl),by simp only[VR]⟩
      · cases h1
    · cases h1
  case convert src dst y=>
    obtain⟨k0,h0,u,h1,rfl,rfl⟩:=hp
    have hy:=hv y rfl
    generalize ev fr y=ya at h1 hy
    unfold WF at h1
    split at h1
    · rename_i k n
      simp only[Option.map_eq_some_iff] at h1
      obtain⟨k',h2,rfl⟩:=h1
      simp only[VR] at hy
      have hu:=AO h2
      have hs:=AO h0
      exact⟨.int k' (k'.wrap n),wrapV _ _ (by rw[hy]; simp[convert,run_underlying hu,run_underlying hs,Conv.intToInt]),by simp only[VR]⟩
    · cases h1
  case makeFunc fn first caps=>
    split at hp
    · rename_i hf
      cases hp
      have:first= #[]:=Array.eq_empty_of_size_eq_zero hf
      subst this
      refine⟨.func fn #[] (caps.map a.eval),by simp[execOp,Instr.makeFunc], ?_⟩
      simp only[VR]
      exact⟨_,rfl,by simpa using rD caps.toList λy hy=>hv y (by simpa using hy)⟩
    · cases hp
  case fieldAddr t y f=>
    obtain⟨⟨o,s⟩,h1,h2⟩:=hp
    split at h2
    · cases h2
    · rename_i hs
      simp only[Option.map_eq_some_iff] at h2
      obtain⟨u,h3,h2⟩:=h2
      cases h2
      obtain⟨v,h4,h5⟩:=JE h1 hs h3 (hv y rfl)
      exact⟨v,wrapV _ _ h4,h5⟩
  case indexAddr t y i=>
    obtain⟨n,h1,h2⟩:=hp
    obtain⟨k,e⟩:=qI h1
    have hi:=hv i (by simp)
    rw[e] at hi
    have hi':=SM hi
    obtain⟨v,h4,h5⟩:=JA (k:=k) h2 hc (hv y (by simp))
    refine⟨v,wrapV _ _ ?_,h5⟩
    simp only[hi']
    exact h4
  case slice t y lo hi mx=>
    cases mx with
    | some m=>
      cases hi with
      | none=>simp at hp
      | some hh=>
      have hops:∀z,z=y∨lo=some z∨z=hh∨z=m→VR E w (ev fr z) (a.eval z):=by
        intro z hz
        refine hv z ?_
        rcases hz with rfl | rfl | rfl | rfl <;> simp
      obtain⟨v,h4,h5⟩:=JD hp hc (hops y (.inl rfl)) (lv:=lo.map a.eval)
        (λx hx=>by
          cases lo with
          | none=>cases hx
          | some z=>simp only[Option.map_some,Option.some.injEq] at hx; subst hx; exact⟨_,rfl,hops z (.inr (.inl rfl))⟩)
        (λhx=>by cases lo with | none=>rfl | some z=>cases hx) (hops hh (by simp)) (hops m (by simp))
      exact⟨v,wrapV _ _ h4,h5⟩
    | none=>
    simp only[Option.bind_eq_some_iff] at hp
    obtain⟨u,h1,h2⟩:=hp
    split at h2
    · rename_i hty
      cases h2
      have hops:∀z,z=y∨lo=some z∨hi=some z→VR E w (ev fr z) (a.eval z):=by
        intro z hz
        refine hv z ?_
        rcases hz with rfl | rfl | rfl <;> simp
      obtain⟨v,h4,h5⟩:=JC h1 hty hc (hops y (.inl rfl)) (lv:=lo.map a.eval) (hv':=hi.map a.eval)
        (λx hx=>by
          cases lo with
          | none=>cases hx
          | some z=>simp only[Option.map_some,Option.some.injEq] at hx; subst hx; exact⟨_,rfl,hops z (.inr (.inl rfl))⟩)
        (λhx=>by cases lo with | none=>rfl | some z=>cases hx)
        (λx hx=>by
          cases hi with
          | none=>cases hx
          | some z=>simp only[Option.map_some,Option.some.injEq] at hx; subst hx; exact⟨_,rfl,hops z (.inr (.inr rfl))⟩)
        (λhx=>by cases hi with | none=>rfl | some z=>cases hx)
      exact⟨v,wrapV _ _ h4,h5⟩
    · cases h2
  case extract y i=>
    obtain⟨u,h1,rfl,rfl⟩:=hp
    have hy:=hv y rfl
    generalize ev fr y=ya at h1 hy
    unfold zS at h1
    split at h1
    · simp only[VR] at hy
      obtain⟨cs,e,hc⟩:=hy
      obtain⟨v,h3,h4⟩:=VRL_get? hc h1
      refine⟨v, ?_,h4⟩
      have h3':cs[i]? =some v:=by simpa using h3
      simp[execOp,e,Instr.extract,h3']
    · cases h1
  case call cl=>
    obtain⟨callee,args,argTypes⟩:=cl
    unfold RF at hp
    split at hp
    · rename_i y t hcl ha ht
      simp only at hcl ha ht
      subst hcl
      simp only[Option.bind_eq_some_iff,Option.map_eq_some_iff,tt,Prod.mk.injEq] at hp
      obtain⟨sl,h1,u,h2,rfl,rfl⟩:=hp
      have ha':args= #[y]:=by rw[← Array.toArray_toList (xs:=args),ha]
      have ht':argTypes= #[t]:=by rw[← Array.toArray_toList (xs:=argTypes),ht]
      subst ha' ht'
      have hy:=hv y (by simp[Call.operands])
      generalize hy0:ev fr y=ya at h2 hy
      have hst:(P.underlying t=some .string∧sl=false)∨(∃e,P.underlying t=some (.slice e))∧sl=true:=by
        unfold wE at h1
        split at h1
        · rename_i e he; cases h1; exact .inr ⟨⟨e,he⟩,rfl⟩
        · rename_i he; cases h1; exact .inl ⟨he,rfl⟩
        · cases h1
      have key:∀n:Nat,(Builtin.len_ #[t] type #[a.eval y]).run P w= .ok (.int .i64 n) w→∃v,(execOp a.eval { dst:=dst,op:=.call { callee:=.builtin .len,args:= #[y],argTypes:= #[t]},type:=type,pos:=pos,after:=after,guard:=guard}).run P w= .ok (.value v) w∧VR E w (.sc (.int .i64 n)) v:=by
        intro n hn
        refine⟨.int .i64 n, ?_,by simp only[VR]⟩
        simp[execOp,resolve,invoke,builtin,hn]
      unfold RE at h2
      split at h2
      · split at h2
        · cases h2
          simp only[VR] at hy
          obtain⟨q,cap,e,_⟩:=hy
          rcases hst with⟨_,h3⟩ | ⟨⟨el,h3⟩,_⟩
          · simp_all
          · exact key _ (by simp[Builtin.len_,run_underlying h3,e,goInt])
        · cases h2
      · split at h2
        · cases h2
          simp only[VR] at hy
          obtain⟨q,cap,_,e,_⟩:=hy
          rcases hst with⟨_,h3⟩ | ⟨⟨el,h3⟩,_⟩
          · simp_all
          · exact key _ (by simp[Builtin.len_,run_underlying h3,e,goInt])
        · cases h2
      · split at h2
        · cases h2
        · cases h2
          have hy':=hy
          simp only[VR] at hy
          rcases hst with⟨h3,_⟩ | ⟨_,h3⟩
          · exact key _ (by simp[Builtin.len_,run_underlying h3,hy,goInt])
          · simp_all
      · split at h2
        · cases h2
          simp only[VR] at hy
          rcases hst with⟨_,h3⟩ | ⟨⟨el,h3⟩,_⟩
          · simp_all
          · exact key _ (by simp[Builtin.len_,run_underlying h3,hy,goInt])
        · cases h2
      · split at h2
        · cases h2
          simp only[VR] at hy
          obtain⟨q,e⟩:=hy
          rcases hst with⟨_,h3⟩ | ⟨⟨el,h3⟩,_⟩
          · simp_all
          · exact key 0 (by simp[Builtin.len_,run_underlying h3,e,goInt])
        · cases h2
      · cases h2
    · cases hp
section
variable {E:gW} {h:aE} {w:World}
theorem fZ.tk_used (r:fZ E h w) {k:cB} {t:Tk} (ht:E.tk k=some t):E.used k:=
 let ⟨_,e⟩:=r.tkh k t ht; r.hus k _ e
theorem fZ.tk_block (r:fZ E h w) {k:cB} {t:Tk} (ht:E.tk k=some t):∃cur ty,w.heap[t.b]? =some (.cells cur ty (0,0))∧t.m≤cur.size:=by
 obtain⟨ty,e⟩:=r.tkh k t ht
 obtain⟨t',cur,e1,e2,e3,e4,e5,e6,e7⟩:=r.tok _ _ _ _ e
 rw[ht] at e1; cases e1
 exact⟨cur,ty,e4,e6⟩
theorem fZ.keep_ext (r:fZ E h w) {E':gW} {w':World} (hb:∀g,g < w.heap.size→w'.heap[g]? =w.heap[g]?) (hsz:w.heap.size≤w'.heap.size) (hos:w'.os=w.os) (htp:w'.tape=w.tape) (hout:w'.output=w.output)
    (himm:∀g o,E.imm g o→E'.imm g o) (hlock:E'.lock=E.lock) (hused:∀k,E.used k→E'.used k) (hob:∀k g,E.ob k=some g→E'.ob k=some g) (htk:∀k,E.used k→E'.tk k=E.tk k):eR E w E' w' where
  imm g o hi:=⟨himm g o hi,by obtain⟨v,hv⟩:=r.imb g o hi; exact eG (hb g (iN hv)) o⟩
  lockEq g:=by rw[hlock]
  lock g hg:=hb g (r.lkb g hg)
  used:=hused
  ob:=hob
  tkc k t ht o ho:=by
    obtain⟨cur,ty,e1,e2⟩:=r.tk_block ht
    refine⟨.inr ⟨t,by rw[htk k (r.tk_used ht)]; exact ht,rfl,ho⟩,eG (hb _ (Array.getElem?_eq_some_iff.1 e1).1) o⟩
  tkf k t' ht' hu:=⟨t',by rw[← htk k hu]; exact ht',Nat.le_refl _,λ_=>rfl⟩
  os:=hos
  tape:=htp
  output:=hout
  size:=hsz
theorem fZ.fresh (r:fZ E h w) (d:Nat):∃n,¬E.used (d,n):=by
 obtain⟨G,hG⟩:=r.fre d
 exact⟨G,hG G (Nat.le_refl _)⟩
theorem fZ.unused_none (r:fZ E h w) {k:cB} (hk:¬E.used k):h k=none:=by
 cases e:h k with
 | none=>rfl
 | some x=>exact absurd (r.hus k x e) hk
theorem BM (r:fZ E h w) (k:cB) (d:Nat):∃G,∀n,G≤n→¬(((d,n):cB)=k∨E.used (d,n)):=by
 obtain⟨G,hG⟩:=r.fre d
 refine⟨max G (k.2+1),λn hn=> ?_⟩
 rintro(e | e)
 ·have:n=k.2:=by rw[← e]
  omega
 ·exact hG n (by omega) e
theorem fZ.new_obj (r:fZ E h w) {k:cB} (hk:¬E.used k) (ty:TypeId) {cs:List AV} {cur:Array Value} (hv:cY E w cs cur.toList) (h1:∀v∈cur.toList,v.oneCell'=true):
    ∃E',E'.ob k=some w.heap.size∧eR E w E' (w.alloc (.cells cur ty))∧fZ E' (upd h k (some (.obj ty cs))) (w.alloc (.cells cur ty)):=by
  let E':gW:= { E with ob:=λx=>if x=k then some w.heap.size else E.ob x,used:=λx=>x=k∨E.used x}
  have hkeep:eR E w E' (w.alloc (.cells cur ty)):=by
    refine r.keep_ext (λg hg=>heap_alloc_old w _ g hg) (by simp) rfl rfl rfl (λ_ _ h=>h) rfl (λ_ h=>.inr h) ?_ (λ_ _=>rfl)
    intro x g hx
    have:x≠k:=λe=>hk (by subst e; exact r.obu _ _ hx)
    simpa [E',this] using hx
  have hnew:=heap_alloc_new w (.cells cur ty)
  have at':∀x g,E'.at (upd h k (some (.obj ty cs))) x g→(x=k∧g=w.heap.size)∨(x≠k∧E.at h x g):=by
    intro x g ha
    by_cases hx:x=k
    · subst hx
      refine .inl ⟨rfl, ?_⟩
      rcases ha with⟨_,_,_,h2⟩ | ⟨_,_,_,_,h2,_⟩
      · simp only[E',if_true,Option.some.injEq] at h2; exact h2.symm
      · simp[upd] at h2
    · refine .inr ⟨hx, ?_⟩
      rcases ha with⟨a,b,h2,h3⟩ | ⟨a,b,c,t,h2,h3⟩
      · rw[cR _ _ hx] at h2
        simp only[E',hx,if_false] at h3
        exact .inl ⟨a,b,h2,h3⟩
      · rw[cR _ _ hx] at h2
        exact .inr ⟨a,b,c,t,h2,h3⟩
  refine⟨E',by simp[E'],hkeep, ?_⟩
  constructor
  · intro x ty' cs' hx
    by_cases e:x=k
    · subst e
      rw[dM] at hx
      cases hx
      exact⟨_,cur,by simp[E'],hnew,cQ hkeep _ _ hv,h1⟩
    · rw[cR _ _ e] at hx
      obtain⟨g,cur',e1,e2,e3,e4⟩:=r.obj x ty' cs' hx
      exact⟨g,cur',hkeep.ob _ _ e1,by rw[heap_alloc_old w _ g (Array.getElem?_eq_some_iff.1 e2).1]; exact e2,cQ hkeep _ _ e3,e4⟩
  · intro x ty' sz m hx
    by_cases e:x=k
    · subst e; rw[dM] at hx; cases hx
    · rw[cR _ _ e] at hx
      obtain⟨t,cur',e1,e2,e3,e4,e5⟩:=r.tok x ty' sz m hx
      exact⟨t,cur',e1,e2,e3,by rw[heap_alloc_old w _ _ (Array.getElem?_eq_some_iff.1 e4).1]; exact e4,e5⟩
  · intro x t hx
    obtain⟨ty',e⟩:=r.tkh x t hx
    have:x≠k:=λe'=>hk (by subst e'; exact r.tk_used hx)
    exact⟨ty',by rw[cR _ _ this]; exact e⟩
  · intro x y g hx hy
    rcases at' x g hx with⟨rfl,hg⟩ | ⟨_,hx'⟩ <;> rcases at' y g hy with⟨rfl,hg'⟩ | ⟨_,hy'⟩
    · rfl
    · have:=r.at_lt hy'; omega
    · have:=r.at_lt hx'; omega
    · exact r.sep x y g hx' hy'
  · intro x g hx
    rcases at' x g hx with⟨rfl,rfl⟩ | ⟨_,hx'⟩
    · refine⟨λhl=> ?_,λo ho=> ?_⟩
      · have:=r.lkb _ hl; omega
      · obtain⟨v,hv⟩:=r.imb _ _ ho
        have:=iN hv; omega
    · exact r.dis x g hx'
  · intro x e hx
    by_cases e':x=k
    · exact .inl e'
    · rw[cR _ _ e'] at hx; exact .inr (r.hus x e hx)
  · intro x g hx
    by_cases e':x=k
    · exact .inl e'
    · simp only[E',e',if_false] at hx; exact .inr (r.obu x g hx)
  · exact BM r k
  · intro g o ho
    obtain⟨v,hv⟩:=r.imb g o ho
    exact⟨v,(hkeep.imm g o ho).2.trans hv⟩
  · intro g hg
    have:=r.lkb g hg
    simp; omega
  · intro x es hx
    by_cases e':x=k
    · subst e'; rw[dM] at hx; cases hx
    · rw[cR _ _ e'] at hx
      obtain⟨g,ents,clk,e1,e2,e3⟩:=r.mp x es hx
      exact⟨g,ents,clk,hkeep.ob _ _ e1,by rw[heap_alloc_old w _ g (Array.getElem?_eq_some_iff.1 e2).1]; exact e2,e3⟩
theorem fZ.new_imm (r:fZ E h w) (ty:TypeId) (fz:Nat×Nat) (cur:Array Value):
    ∃E',(∀o,o < cur.size→E'.imm w.heap.size o)∧eR E w E' (w.alloc (.cells cur ty fz))∧fZ E' h (w.alloc (.cells cur ty fz)):=by
  let E':gW:= { E with imm:=λg o=>E.imm g o∨(g=w.heap.size∧o < cur.size)}
  have hkeep:eR E w E' (w.alloc (.cells cur ty fz)):=
    r.keep_ext (λg hg=>heap_alloc_old w _ g hg) (by simp) rfl rfl rfl (λ_ _ h=>.inl h) rfl (λ_ h=>h) (λ_ _ h=>h) (λ_ _=>rfl)
  refine⟨E',λo ho=>.inr ⟨rfl,ho⟩,hkeep, ?_⟩
  constructor
  · intro x ty' cs' hx
    obtain⟨g,cur',e1,e2,e3,e4⟩:=r.obj x ty' cs' hx
    exact⟨g,cur',e1,by rw[heap_alloc_old w _ g (Array.getElem?_eq_some_iff.1 e2).1]; exact e2,cQ hkeep _ _ e3,e4⟩
  · intro x ty' sz m hx
    obtain⟨t,cur',e1,e2,e3,e4,e5⟩:=r.tok x ty' sz m hx
    exact⟨t,cur',e1,e2,e3,by rw[heap_alloc_old w _ _ (Array.getElem?_eq_some_iff.1 e4).1]; exact e4,e5⟩
  · exact r.tkh
  · exact r.sep
  · intro x g hx
    obtain⟨h1,h2⟩:=r.dis x g hx
    refine⟨h1,λo ho=> ?_⟩
    rcases ho with ho | ⟨rfl,_⟩
    · exact h2 o ho
    · have:=r.at_lt hx; omega
  · exact r.hus
  · exact r.obu
  · exact r.fre
  · intro g o ho
    rcases ho with ho | ⟨rfl,ho⟩
    · obtain⟨v,hv⟩:=r.imb g o ho
      exact⟨v,(hkeep.imm g o ho).2.trans hv⟩
    · have hn:=heap_alloc_new w (.cells cur ty fz)
      exact⟨cur[o],by simp only[World.cell?,hn]; simp[ho]⟩
  · intro g hg
    have:=r.lkb g hg
    simp; omega
  · intro x es hx
    obtain⟨g,ents,clk,e1,e2,e3⟩:=r.mp x es hx
    exact⟨g,ents,clk,e1,by rw[heap_alloc_old w _ g (Array.getElem?_eq_some_iff.1 e2).1]; exact e2,e3⟩
theorem fZ.new_tok (r:fZ E h w) {k:cB} (hk:¬E.used k) (ty:TypeId) (sz m cap:Nat) {cur:Array Value} (hs:cur.size=cap*sz) (hm:m≤cur.size) (hc:cap≤maxLen):
    ∃E',E'.used k∧E'.tk k=some ⟨sz,m,cap,w.heap.size⟩∧eR E w E' (w.alloc (.cells cur ty))∧fZ E' (upd h k (some (.tok ty sz m))) (w.alloc (.cells cur ty)):=by
  let E':gW:= { E with tk:=λx=>if x=k then some ⟨sz,m,cap,w.heap.size⟩ else E.tk x,used:=λx=>x=k∨E.used x}
  have hkeep:eR E w E' (w.alloc (.cells cur ty)):=by
    refine r.keep_ext (λg hg=>heap_alloc_old w _ g hg) (by simp) rfl rfl rfl (λ_ _ h=>h) rfl (λ_ h=>.inr h) (λ_ _ h=>h) ?_
    intro x hx
    have:x≠k:=λe=>hk (by subst e; exact hx)
    simp[E',this]
  have hnew:=heap_alloc_new w (.cells cur ty)
  have at':∀x g,E'.at (upd h k (some (.tok ty sz m))) x g→(x=k∧g=w.heap.size)∨(x≠k∧E.at h x g):=by
    intro x g ha
    by_cases hx:x=k
    · subst hx
      refine .inl ⟨rfl, ?_⟩
      rcases ha with⟨_,hb,h2,_⟩ | ⟨_,_,_,t,_,h2,h3⟩
      · rw[dM] at h2; cases h2; cases hb
      · simp only[E',if_true,Option.some.injEq] at h2; subst h2; exact h3.symm
    · refine .inr ⟨hx, ?_⟩
      rcases ha with⟨a,b,h2,h3⟩ | ⟨a,b,c,t,h2,h3,h4⟩
      · rw[cR _ _ hx] at h2
        exact .inl ⟨a,b,h2,h3⟩
      · rw[cR _ _ hx] at h2
        simp only[E',hx,if_false] at h3
        exact .inr ⟨a,b,c,t,h2,h3,h4⟩
  refine⟨E',.inl rfl,by simp[E'],hkeep, ?_⟩
  constructor
  · intro x ty' cs' hx
    by_cases e:x=k
    · subst e; rw[dM] at hx; cases hx
    · rw[cR _ _ e] at hx
      obtain⟨g,cur',e1,e2,e3,e4⟩:=r.obj x ty' cs' hx
      exact⟨g,cur',e1,by rw[heap_alloc_old w _ g (Array.getElem?_eq_some_iff.1 e2).1]; exact e2,cQ hkeep _ _ e3,e4⟩
  · intro x ty' sz' m' hx
    by_cases e:x=k
    · subst e; rw[dM] at hx; cases hx
      exact⟨⟨sz,m,cap,w.heap.size⟩,cur,by simp[E'],rfl,rfl,hnew,hs,hm,hc⟩
    · rw[cR _ _ e] at hx
      obtain⟨t,cur',e1,e2,e3,e4,e5⟩:=r.tok x ty' sz' m' hx
      exact⟨t,cur',by simpa [E',e] using e1,e2,e3,by rw[heap_alloc_old w _ _ (Array.getElem?_eq_some_iff.1 e4).1]; exact e4,e5⟩
  · intro x t hx
    by_cases e:x=k
    · subst e
      simp only[E',if_true,Option.some.injEq] at hx
      subst hx
      exact⟨ty,dM _ _ _⟩
    · simp only[E',e,if_false] at hx
      obtain⟨ty',e'⟩:=r.tkh x t hx
      exact⟨ty',by rw[cR _ _ e]; exact e'⟩
  · intro x y g hx hy
    rcases at' x g hx with⟨rfl,hg⟩ | ⟨_,hx'⟩ <;> rcases at' y g hy with⟨rfl,hg'⟩ | ⟨_,hy'⟩
    · rfl
    · have:=r.at_lt hy'; omega
    · have:=r.at_lt hx'; omega
    · exact r.sep x y g hx' hy'
  · intro x g hx
    rcases at' x g hx with⟨rfl,rfl⟩ | ⟨_,hx'⟩
    · refine⟨λhl=> ?_,λo ho=> ?_⟩
      · have:=r.lkb _ hl; omega
      · obtain⟨v,hv⟩:=r.imb _ _ ho
        have:=iN hv; omega
    · exact r.dis x g hx'
  · intro x e hx
    by_cases e':x=k
    · exact .inl e'
    · rw[cR _ _ e'] at hx; exact .inr (r.hus x e hx)
  · intro x g hx
    exact .inr (r.obu x g hx)
  · exact BM r k
  · intro g o ho
    obtain⟨v,hv⟩:=r.imb g o ho
    exact⟨v,(hkeep.imm g o ho).2.trans hv⟩
  · intro g hg
    have:=r.lkb g hg
    simp; omega
  · intro x es hx
    by_cases e':x=k
    · subst e'; rw[dM] at hx; cases hx
    · rw[cR _ _ e'] at hx
      obtain⟨g,ents,clk,e1,e2,e3⟩:=r.mp x es hx
      exact⟨g,ents,clk,e1,by rw[heap_alloc_old w _ g (Array.getElem?_eq_some_iff.1 e2).1]; exact e2,e3⟩
theorem fZ.set_obj (r:fZ E h w) {k:cB} {g:Nat} {ty:TypeId} {cs0 cs:List AV} {cur:Array Value} (hk:h k=some (.obj ty cs0)) (hg:E.ob k=some g) {w':World}
    (hw:w'.heap[g]? =some (.cells cur ty (0,0))) (hoth:∀g',g'≠g→w'.heap[g']? =w.heap[g']?) (hsz:w.heap.size≤w'.heap.size) (hos:w'.os=w.os) (htp:w'.tape=w.tape) (hout:w'.output=w.output)
    (hv:cY E w cs cur.toList) (h1:∀v∈cur.toList,v.oneCell'=true):
    eR E w E w'∧fZ E (upd h k (some (.obj ty cs))) w':=by
  have hat:E.at h k g:=.inl ⟨_,rfl,hk,hg⟩
  obtain⟨d1,d2⟩:=r.dis k g hat
  have hkeep:eR E w E w':=by
    refine⟨λg' o ho=>⟨ho, ?_⟩,λ_=>Iff.rfl,λg' hl=>hoth g' (λe=>d1 (e ▸ hl)),λ_ h=>h,λ_ _ h=>h, ?_,λ_ t ht _=>⟨t,ht,Nat.le_refl _,λ_=>rfl⟩,hos,htp,hout,hsz⟩
    · exact eG (hoth g' (λe=>d2 o (e ▸ ho))) o
    · intro x t ht o ho
      refine⟨.inr ⟨t,ht,rfl,ho⟩,eG (hoth _ (λe=> ?_)) o⟩
      obtain⟨ty',e'⟩:=r.tkh x t ht
      have:x=k:=r.sep x k g (.inr ⟨ty',_,_,t,e',ht,e⟩) hat
      subst this
      rw[hk] at e'; cases e'
  refine⟨hkeep, ?_⟩
  have at':∀x g',E.at (upd h k (some (.obj ty cs))) x g'→E.at h x g':=by
    intro x g' ha
    by_cases hx:x=k
    · subst hx
      rcases ha with⟨a,b,h2,h3⟩ | ⟨_,_,_,_,h2,_⟩
      · exact .inl ⟨_,rfl,hk,h3⟩
      · rw[dM] at h2; cases h2
    · rcases ha with⟨a,b,h2,h3⟩ | ⟨a,b,c,t,h2,h3⟩
      · rw[cR _ _ hx] at h2; exact .inl ⟨a,b,h2,h3⟩
      · rw[cR _ _ hx] at h2; exact .inr ⟨a,b,c,t,h2,h3⟩
  constructor
  · intro x ty' cs' hx
    by_cases e:x=k
    · subst e
      rw[dM] at hx; cases hx
      exact⟨g,cur,hg,hw,cQ hkeep _ _ hv,h1⟩
    · rw[cR _ _ e] at hx
      obtain⟨g',cur',e1,e2,e3,e4⟩:=r.obj x ty' cs' hx
      refine⟨g',cur',e1, ?_,cQ hkeep _ _ e3,e4⟩
      rw[hoth g' (λe'=>e (r.sep x k g (.inl ⟨_,rfl,hx,e' ▸ e1⟩) hat))]
      exact e2
  · intro x ty' sz m hx
    by_cases e:x=k
    · subst e; rw[dM] at hx; cases hx
    · rw[cR _ _ e] at hx
      obtain⟨t,cur',e1,e2,e3,e4,e5⟩:=r.tok x ty' sz m hx
      refine⟨t,cur',e1,e2,e3, ?_,e5⟩
      rw[hoth _ (λe'=>e (r.sep x k g (.inr ⟨ty',sz,m,t,hx,e1,e'⟩) hat))]
      exact e4
  · intro x t hx
    obtain⟨ty',e⟩:=r.tkh x t hx
    have:x≠k:=λe'=>by subst e'; rw[hk] at e; cases e
    exact⟨ty',by rw[cR _ _ this]; exact e⟩
  · intro x y g' hx hy
    exact r.sep x y g' (at' x g' hx) (at' y g' hy)
  · intro x g' hx
    exact r.dis x g' (at' x g' hx)
  · intro x e hx
    by_cases e':x=k
    · subst e'; exact r.hus x _ hk
    · rw[cR _ _ e'] at hx; exact r.hus x e hx
  · exact r.obu
  · exact r.fre
  · intro g' o ho
    obtain⟨v,hv'⟩:=r.imb g' o ho
    exact⟨v,(hkeep.imm g' o ho).2.trans hv'⟩
  · intro g' hg'
    have:=r.lkb g' hg'
    omega
  · intro x es hx
    by_cases e:x=k
    · subst e; rw[dM] at hx; cases hx
    · rw[cR _ _ e] at hx
      obtain⟨g',ents,clk,e1,e2,e3⟩:=r.mp x es hx
      exact⟨g',ents,clk,e1,by rw[hoth g' (λe'=>e (r.sep x k g (.inl ⟨_,rfl,hx,e' ▸ e1⟩) hat))]; exact e2,e3⟩
theorem fZ.grow (r:fZ E h w) {k:cB} {t:Tk} {ty:TypeId} (hk:E.tk k=some t) (hty:h k=some (.tok ty t.sz t.m)) {m cap b:Nat} {cur:Array Value} {w':World}
    (hw:w'.heap[b]? =some (.cells cur ty (0,0))) (hoth:∀g',g' < w.heap.size→g'≠t.b→w'.heap[g']? =w.heap[g']?) (hb:(b=t.b∧cap=t.cap)∨(w.heap.size≤b∧w'.heap[t.b]? =w.heap[t.b]?))
    (hcells:∀o,o < t.m→w'.cell? ⟨t.b,o,none⟩=w.cell? ⟨t.b,o,none⟩)
    (hlt:t.m < m) (hs:cur.size=cap*t.sz) (hm:m≤cur.size) (hc:cap≤maxLen)
    (hsz:w.heap.size≤w'.heap.size) (hos:w'.os=w.os) (htp:w'.tape=w.tape) (hout:w'.output=w.output):
    ∃E',E'.used k∧E'.tk k=some ⟨t.sz,m,cap,b⟩∧eR E w E' w'∧fZ E' (upd h k (some (.tok ty t.sz m))) w':=by
  have hat:E.at h k t.b:=.inr ⟨ty,_,_,t,hty,hk,rfl⟩
  obtain⟨d1,d2⟩:=r.dis k _ hat
  have hblt:=r.at_lt hat
  let E':gW:= { E with tk:=λx=>if x=k then some ⟨t.sz,m,cap,b⟩ else E.tk x,imm:=λg o=>E.imm g o∨(b≠t.b∧g=t.b∧o < t.m)}
  have tne:∀x t',E.tk x=some t'→x≠k→t'.b≠t.b:=by
    intro x t' hx hne e
    obtain⟨ty',e'⟩:=r.tkh x t' hx
    exact hne (r.sep x k t.b (.inr ⟨ty',_,_,t',e',hx,e⟩) hat)
  have hkeep:eR E w E' w':=by
    refine⟨λg' o ho=>⟨.inl ho, ?_⟩,λ_=>Iff.rfl,λg' hl=>hoth g' (r.lkb _ hl) (λe=>d1 (e ▸ hl)),λ_ h=>h,λ_ _ h=>h, ?_, ?_,hos,htp,hout,hsz⟩
    · obtain⟨v,hv⟩:=r.imb g' o ho
      exact eG (hoth g' (iN hv) (λe=>d2 o (e ▸ ho))) o
    · intro x t' ht o ho
      by_cases hx:x=k
      · subst hx
        rw[hk] at ht; cases ht
        refine⟨?_,hcells o ho⟩
        by_cases hbb:b=t.b
        · exact .inr ⟨⟨t.sz,m,cap,b⟩,by simp[E'],hbb,by show o < m; omega⟩
        · exact .inl (.inr ⟨hbb,rfl,ho⟩)
      · obtain⟨cur',ty',e1,e2⟩:=r.tk_block ht
        refine⟨.inr ⟨t',by simp[E',hx,ht],rfl,ho⟩,eG (hoth _ (Array.getElem?_eq_some_iff.1 e1).1 (tne x t' ht hx)) o⟩
    · intro x t' ht hu
      by_cases hx:x=k
      · subst hx
        simp only[E',if_true,Option.some.injEq] at ht
        subst ht
        exact⟨t,hk,by show t.m≤m; omega,λe=>absurd e (by show t.m≠m; omega)⟩
      · simp only[E',hx,if_false] at ht
        exact⟨t',ht,Nat.le_refl _,λ_=>rfl⟩
  have at':∀x g,E'.at (upd h k (some (.tok ty t.sz m))) x g→(x=k∧g=b)∨(x≠k∧E.at h x g):=by
    intro x g ha
    by_cases hx:x=k
    · subst hx
      refine .inl ⟨rfl, ?_⟩
      rcases ha with⟨_,hbb,h2,_⟩ | ⟨_,_,_,t',_,h2,h3⟩
      · rw[dM] at h2; cases h2; cases hbb
      · simp only[E',if_true,Option.some.injEq] at h2; subst h2; exact h3.symm
    · refine .inr ⟨hx, ?_⟩
      rcases ha with⟨a,b,h2,h3⟩ | ⟨a,b,c,t',h2,h3,h4⟩
      · rw[cR _ _ hx] at h2; exact .inl ⟨a,b,h2,h3⟩
      · rw[cR _ _ hx] at h2
        simp only[E',hx,if_false] at h3
        exact .inr ⟨a,b,c,t',h2,h3,h4⟩
  have bne:∀x g,x≠k→E.at h x g→g≠t.b:=λx g hx ha e=>hx (r.sep x k t.b (e ▸ ha) hat)
  refine⟨E',r.tk_used hk,by simp[E'],hkeep, ?_⟩
  constructor
  · intro x ty' cs' hx
    by_cases e:x=k
    · subst e; rw[dM] at hx; cases hx
    · rw[cR _ _ e] at hx
      obtain⟨g',cur',e1,e2,e3,e4⟩:=r.obj x ty' cs' hx
      refine⟨g',cur',e1, ?_,cQ hkeep _ _ e3,e4⟩
      rw[hoth g' (Array.getElem?_eq_some_iff.1 e2).1 (bne x g' e (.inl ⟨_,rfl,hx,e1⟩))]
      exact e2
  · intro x ty' sz' m' hx
    by_cases e:x=k
    · subst e; rw[dM] at hx; cases hx
      exact⟨⟨t.sz,m,cap,b⟩,cur,by simp[E'],rfl,rfl,hw,hs,hm,hc⟩
    · rw[cR _ _ e] at hx
      obtain⟨t',cur',e1,e2,e3,e4,e5⟩:=r.tok x ty' sz' m' hx
      refine⟨t',cur',by simpa [E',e] using e1,e2,e3, ?_,e5⟩
      rw[hoth _ (Array.getElem?_eq_some_iff.1 e4).1 (tne x t' e1 e)]
      exact e4
  · intro x t' hx
    by_cases e:x=k
    · subst e
      simp only[E',if_true,Option.some.injEq] at hx
      subst hx
      exact⟨ty,dM _ _ _⟩
    · simp only[E',e,if_false] at hx
      obtain⟨ty',e'⟩:=r.tkh x t' hx
      exact⟨ty',by rw[cR _ _ e]; exact e'⟩
  · intro x y g hx hy
    rcases at' x g hx with⟨rfl,hg⟩ | ⟨hx1,hx'⟩ <;> rcases at' y g hy with⟨rfl,hg'⟩ | ⟨hy1,hy'⟩
    · rfl
    · exfalso
      have h1:=r.at_lt hy'
      have h2:=bne y g hy1 hy'
      rcases hb with⟨hb,_⟩ | ⟨hb,_⟩
      · exact h2 (hg.trans hb)
      · omega
    · exfalso
      have h1:=r.at_lt hx'
      have h2:=bne x g hx1 hx'
      rcases hb with⟨hb,_⟩ | ⟨hb,_⟩
      · exact h2 (hg'.trans hb)
      · omega
    · exact r.sep x y g hx' hy'
  · intro x g hx
    rcases at' x g hx with⟨rfl,rfl⟩ | ⟨hx1,hx'⟩
    · rcases hb with⟨hb,_⟩ | ⟨hb,_⟩
      · rw[hb]
        refine⟨d1,λo ho=> ?_⟩
        rcases ho with ho | ⟨hn,_⟩
        · exact d2 o ho
        · exact hn hb
      · refine⟨λhl=> ?_,λo ho=> ?_⟩
        · have:=r.lkb _ hl; omega
        · rcases ho with ho | ⟨_,e,_⟩
          · obtain⟨v,hv⟩:=r.imb _ _ ho
            have:=iN hv; omega
          · omega
    · obtain⟨f1,f2⟩:=r.dis x g hx'
      refine⟨f1,λo ho=> ?_⟩
      rcases ho with ho | ⟨_,e,_⟩
      · exact f2 o ho
      · exact bne x g hx1 hx' e
  · intro x e hx
    by_cases e':x=k
    · subst e'; exact r.tk_used hk
    · rw[cR _ _ e'] at hx; exact r.hus x e hx
  · exact r.obu
  · exact r.fre
  · intro g' o ho
    rcases ho with ho | ⟨hn,rfl,ho⟩
    · obtain⟨v,hv'⟩:=r.imb g' o ho
      exact⟨v,(hkeep.imm g' o ho).2.trans hv'⟩
    · obtain⟨cur',ty',e1,e2⟩:=r.tk_block hk
      have hlt':o < cur'.size:=by omega
      refine⟨cur'[o],(hcells o ho).trans ?_⟩
      simp[World.cell?,e1,hlt']
  · intro g' hg'
    have:=r.lkb g' hg'
    omega
  · intro x es hx
    by_cases e:x=k
    · subst e; rw[dM] at hx; cases hx
    · rw[cR _ _ e] at hx
      obtain⟨g',ents,clk,e1,e2,e3⟩:=r.mp x es hx
      exact⟨g',ents,clk,e1,by rw[hoth g' (Array.getElem?_eq_some_iff.1 e2).1 (bne x g' e (.inl ⟨_,rfl,hx,e1⟩))]; exact e2,e3⟩
end
section
variable {E:gW} {h:aE} {w:World}
theorem dZ {tag:Option cB} {b:Nat}:∀ {o:Nat} {cs:List AV} {vs:List Value},cY E w cs vs→(∀v∈vs,v.oneCell'=true)→
    (∀j v,vs[j]? =some v→w.cell? ⟨b,o+j,none⟩=some v∧E.prot tag b (o+j))→qT E w tag b o cs
  | o, [], [],_,_,_=>by simp[qT]
  | o,x::cs,v::vs,hv,h1,hc=>by
    simp only[cY] at hv
    simp only[qT]
    obtain⟨c1,c2⟩:=hc 0 v (by simp)
    refine⟨by simpa using c2,⟨v,by simpa using c1,h1 v (by simp),hv.1⟩, ?_⟩
    refine dZ hv.2 (λu hu=>h1 u (by simp[hu])) ?_
    intro j u hj
    have:=hc (j+1) u (by simpa using hj)
    rwa [show o+1+j=o+(j+1) from by omega]
  | o, [],_::_,hv,_,_=>by simp only[cY] at hv
  | o,_::_, [],hv,_,_=>by simp only[cY] at hv
theorem mU {tag:Option cB} {sz:Nat} {xs:List (List AV)} {v:Value} (hv:VR E w (.sl tag sz xs) v) (hne:xs≠ []):
    ∃g o cap cv,v= .slice (some ⟨g,o,none⟩) xs.length cap∧cY E w xs.flatten cv∧(∀v∈cv,v.oneCell'=true)∧cv.length=xs.length*sz∧
      (∀j u,cv[j]? =some u→w.cell? ⟨g,o+j,none⟩=some u∧E.prot tag g (o+j)):=by
  simp only[VR] at hv
  obtain⟨a,cap,rfl,_,_,h3,h4,_⟩:=hv
  obtain⟨g,o,rfl,h5⟩:=h3.resolve_left hne
  obtain⟨cv,e1,e2,e3⟩:=uL (i9.1 h5)
  exact⟨g,o,cap,cv,rfl,e1,e2,by rw[← cZ e1,jA h4],e3⟩
def cellsOf:AV→Option (List AV)
 | .agg xs=>some xs
 | .tup _=>none
 | .any=>none
 | x=>some [x]
def gP:AV→Bool
 | .any | .agg _ | .tup _=>false
 | .sc v=>v.oneCell'
 | _=>true
theorem xN {x:AV} {v:Value} (hx:gP x=true) (hv:VR E w x v):v.oneCell'=true:=by
 cases x with
 | any=>simp[gP] at hx
 | agg xs=>simp[gP] at hx
 | tup xs=>simp[gP] at hx
 | sc u=>simp only[VR] at hv; subst hv; exact hx
 | sl tag sz xs=>simp only[VR] at hv; obtain⟨a,cap,rfl,_⟩:=hv; rfl
 | rp tag xs=>simp only[VR] at hv; obtain⟨a,cap,rfl,_⟩:=hv; rfl
 | ptr k off=>simp only[VR] at hv; obtain⟨g,_,rfl⟩:=hv; rfl
 | view k off n=>simp only[VR] at hv; obtain⟨g,cap,_,rfl,_⟩:=hv; rfl
 | fn f caps=>simp only[VR] at hv; obtain⟨cs,rfl,_⟩:=hv; rfl
 | ifc t y=>simp only[VR] at hv; obtain⟨y,rfl,_⟩:=hv; rfl
 | e0=>simp only[VR] at hv; obtain⟨a,rfl⟩:=hv; rfl
 | mpv k=>simp only[VR] at hv; obtain⟨g,_,rfl⟩:=hv; rfl
 | vw k n cap=>simp only[VR] at hv; obtain⟨g,_,rfl,_⟩:=hv; rfl
theorem AR:∀ {xs:List AV} {vs:List Value},xs.all gP=true→cY E w xs vs→∀v∈vs,v.oneCell'=true
 | [], [],_,_=>by simp
 | x::xs,v::vs,hx,hv=>by
  simp only[List.all_cons,Bool.and_eq_true] at hx
  simp only[cY] at hv
  intro u hu
  rcases List.mem_cons.1 hu with rfl | hu
  ·exact xN hx.1 hv.1
  ·exact AR hx.2 hv.2 u hu
 | [],_::_,_,hv=>by simp only[cY] at hv
 | _::_, [],_,hv=>by simp only[cY] at hv
theorem kO {x:AV} {cs:List AV} (hx:cellsOf x=some cs) (ho:cs.all gP=true) {v:Value} (hv:VR E w x v):cY E w cs v.cells.toList∧∀u∈v.cells.toList,u.oneCell'=true:=by
 have one:∀ {y:AV},gP y=true→VR E w y v→cY E w [y] v.cells.toList∧∀u∈v.cells.toList,u.oneCell'=true:=by
  intro y hy hv
  have h1:=xN hy hv
  have:v.cells= #[v]:=by cases v <;> first | rfl | (simp[Value.oneCell'] at h1)
  rw[this]
  refine⟨by simp only[cY]; exact⟨hv,trivial⟩, ?_⟩
  intro u hu
  simp at hu; subst hu; exact h1
 cases x with
 | agg xs=>
  simp only[cellsOf,Option.some.injEq] at hx; subst hx
  simp only[VR] at hv
  obtain⟨c,rfl,hc⟩:=hv
  exact⟨hc,AR ho hc⟩
 | any=>simp[cellsOf] at hx
 | tup xs=>simp[cellsOf] at hx
 | _=>simp only[cellsOf,Option.some.injEq] at hx; subst hx; exact one (by simpa using ho) hv
end
def uC (P:Program) (t:TypeId):Option (List Value):=(P.info? t).bind λi=>i.zero.map λz=>z.cells.toList
section ops
variable {P:Program} {o:Oper} {K:AV→aE→Prop} {fr:Fr} {h:aE}
theorem OW {ty:TypeId} {x:Operand} (hop:o.op= .box ty x) (d:Nat) {cs:List AV} (hc:cellsOf (ev fr x)=some cs) (ho:cs.all gP=true)
    (hk:∀n,h (d,n)=none→K (.ptr (d,n) 0) (upd h (d,n) (some (.obj ty cs)))):i6 P o K fr h:=by
  intro E w a r hv Nx Qx hn
  have hx:=hv x (by rw[hop]; simp[Op.operands])
  obtain⟨c1,c2⟩:=kO hc ho hx
  obtain⟨n,hn'⟩:=r.fresh d
  obtain⟨E',e1,e2,e3⟩:=r.new_obj hn' ty c1 c2
  unfold Oper.wp
  rw[show (execOp a.eval o).run P w= .ok (.value (.pointer (some ⟨w.heap.size,0,none⟩))) (w.alloc (.cells (a.eval x).cells ty)) from by
    simp only[execOp,hop]; rfl]
  exact hn _ _ _ E' _ e2 e3 (by simp only[VR]; exact⟨_,e1,rfl⟩) (hk n (r.unused_none hn'))
theorem JF {ty:TypeId} (hop:o.op= .alloc ty) (d:Nat) {zs:List Value} (hz:uC P ty=some zs) (ho:zs.all (·.oneCell')=true)
    (hk:∀n,h (d,n)=none→K (.ptr (d,n) 0) (upd h (d,n) (some (.obj ty (zs.map .sc))))):i6 P o K fr h:=by
  intro E w a r hv Nx Qx hn
  obtain⟨n,hn'⟩:=r.fresh d
  unfold uC at hz
  cases hi:P.info? ty with
  | none=>rw[hi] at hz; simp at hz
  | some i=>
  cases hzz:i.zero with
  | none=>rw[hi] at hz; simp[hzz] at hz
  | some z=>
  rw[hi] at hz
  simp only[Option.bind_some,hzz,Option.map_some,Option.some.injEq] at hz
  subst hz
  obtain⟨E',e1,e2,e3⟩:=r.new_obj (cur:=z.cells) hn' ty (rA z.cells.toList) (List.all_eq_true.1 ho)
  unfold Oper.wp
  rw[show (execOp a.eval o).run P w= .ok (.value (.pointer (some ⟨w.heap.size,0,none⟩))) (w.alloc (.cells z.cells ty)) from by
    simp only[execOp,hop,Instr.alloc,zeroValue,typeInfo,program,Sem.run_bind,Sem.run,hi,Result.andThen_ok,newVar,newRow,newObj]
    simp[hzz]]
  exact hn _ _ _ E' _ e2 e3 (by simp only[VR]; exact⟨_,e1,rfl⟩) (hk n (r.unused_none hn'))
def eB (cs:List AV) (off:Nat) (xs:List AV):List AV:=cs.take off++xs++cs.drop (off+xs.length)
theorem JG {t:TypeId} {x y:Operand} (hop:o.op= .store t x y) {k:cB} {off:Nat} (hx:ev fr x= .ptr k off) {ty:TypeId} {cs xs:List AV} (hk:h k=some (.obj ty cs))
    (hy:cellsOf (ev fr y)=some xs) (ho:xs.all gP=true) (hs:nD P t=some xs.length) (hl:off+xs.length≤cs.length)
    (hK:K (.sc undef) (upd h k (some (.obj ty (eB cs off xs))))):i6 P o K fr h:=by
  intro E w a r hv Nx Qx hn
  have vx:=hv x (by rw[hop]; simp[Op.operands])
  have vy:=hv y (by rw[hop]; simp[Op.operands])
  rw[hx] at vx
  simp only[VR] at vx
  obtain⟨g,hg,ex⟩:=vx
  obtain⟨c1,c2⟩:=kO hy ho vy
  obtain⟨g',cur,f1,f2,f3,f4⟩:=r.obj k ty cs hk
  rw[hg] at f1; cases f1
  have hlen:cs.length=cur.size:=by simpa using cZ f3
  have hlx:xs.length=(a.eval y).cells.toList.length:=cZ c1
  have hlx':xs.length=(a.eval y).cells.size:=by simpa using hlx
  have hst:=run_storeCells_at P g off ty (a.eval y).cells.toList 0 cur w f2 (by simp only[Array.length_toList]; omega) c2
  have hv':cY E w (eB cs off xs) (cur.toList.take (off+0)++(a.eval y).cells.toList++cur.toList.drop (off+0+(a.eval y).cells.toList.length)):=by
    simp only[Nat.add_zero,eB]
    rw[← hlx]
    exact dA (dA (fO _ f3) c1) (iJ _ f3)
  have h1':∀v∈cur.toList.take (off+0)++(a.eval y).cells.toList++cur.toList.drop (off+0+(a.eval y).cells.toList.length),v.oneCell'=true:=by
    intro v hv
    rcases List.mem_append.1 hv with hv | hv
    · rcases List.mem_append.1 hv with hv | hv
      · exact f4 v (List.mem_of_mem_take hv)
      · exact c2 v hv
    · exact f4 v (List.mem_of_mem_drop hv)
  obtain⟨k1,k2⟩:=r.set_obj (cur:=(cur.toList.take (off+0)++(a.eval y).cells.toList++cur.toList.drop (off+0+(a.eval y).cells.toList.length)).toArray) hk hg
    (w':=w.setRow g (cur.toList.take (off+0)++(a.eval y).cells.toList++cur.toList.drop (off+0+(a.eval y).cells.toList.length)).toArray)
    (setRow_heap w g cur _ ty _ f2) (λg' hg'=>setRow_other w g g' _ hg') (by simp) rfl rfl rfl hv' h1'
  unfold Oper.wp
  rw[show (execOp a.eval o).run P w= .ok .skip (w.setRow g (cur.toList.take (off+0)++(a.eval y).cells.toList++cur.toList.drop (off+0+(a.eval y).cells.toList.length)).toArray) from by
    simp only[execOp,hop,Instr.storeAt,ex,Instr.sureAddr,storeVar,Sem.run_bind,Sem.run_pure,Result.andThen_ok,cS hs,hlx',ne_eq,not_true_eq_false,if_false,hst]]
  exact hn _ undef _ E _ k1 k2 (by simp only[VR]) hK
def aL (P:Program) (f:FuncId) (args:List AV) (h:aE) (Q:AV→aE→Prop):Prop:=
 ∀E w (vs:Array Value),fZ E h w→cY E w args vs.toList→Calls P f vs w (λe w'=>∃v E' x h',e= .returned v∧eR E w E' w'∧fZ E' h' w'∧VR E' w' x v∧Q x h')
theorem aL.mono {f:FuncId} {args:List AV} {Q Q':AV→aE→Prop} (hc:aL P f args h Q) (hq:∀x h',Q x h'→Q' x h'):aL P f args h Q':=
 λE w vs r hv=>(hc E w vs r hv).mono λ_ _ ⟨v,E',x,h',e,k,r',vx,q⟩=>⟨v,E',x,h',e,k,r',vx,hq _ _ q⟩
def aO (P : Program) (f : FuncId) : Bool := match P.funcs[f]? with | some fn => fn.body.isSome && fn.name != "runtime.NumGoroutine" | none => false
theorem BN {f:FuncId} (hb:aO P f=true) (args:Array Value) (w:World):(callFunc f args).run P w= .ok (.enter f args) w:=by
 unfold aO at hb
 split at hb
 ·rename_i fn hf
  simp only[Bool.and_eq_true,bne_iff_ne,ne_eq] at hb
  have hn:fn.body.isNone=false:=by cases hfb:fn.body <;> simp_all
  simp[callFunc,program,Sem.run,hf,hb.2]
  intro hnone
  simp[hnone] at hn
 ·cases hb
theorem DX {f:FuncId} {g:Operand} {args:Array Operand} {ts:Array TypeId} {caps:List AV} (hop:o.op= .call { callee:=.value g,args:=args,argTypes:=ts}) (hg:ev fr g= .fn (.func f) caps) (hb:aO P f=true)
    (hc:aL P f (args.toList.map (ev fr)++caps) h K):i6 P o K fr h:=by
  intro E w a r hv Nx Qx hn
  have hops:∀y∈({ callee:=.value g,args:=args,argTypes:=ts}:Call).operands,VR E w (ev fr y) (a.eval y):=by
    intro y hy; exact hv y (by rw[hop]; exact hy)
  have vg:=hops g (by simp[Call.operands])
  rw[hg] at vg
  simp only[VR] at vg
  obtain⟨cs,eg,vc⟩:=vg
  have va:cY E w (args.toList.map (ev fr)) (args.toList.map a.eval):=rD args.toList λy hy=>hops y (by simp[Call.operands]; right; simpa using hy)
  unfold Oper.wp
  rw[show (execOp a.eval o).run P w= .ok (.enter f (args.map a.eval++cs)) w from by
    simp[execOp,hop,resolve,Deferred.ofValue,eg,invoke,BN hb]]
  show Calls P f (args.map a.eval++cs) w _
  refine(hc E w _ r (by simpa using dA va vc)).mono ?_
  rintro e w' ⟨v,E',x,h',rfl,k,r',vx,q⟩
  exact hn x v w' E' h' k r' vx q
end ops
section app
variable {P:Program} {E:gW} {h:aE} {w:World}
structure kY (P:Program) (t e:TypeId) (sz by':Nat):Prop where
 ut:P.underlying t=some (.slice e)
 inf:∃i z,P.info? e=some i∧i.zero=some z∧i.size=sz∧i.bytes=by'∧z.cells.size=sz∧0 < sz
theorem iK {t ty e:TypeId} {sz b:Nat} (ht:kY P t e sz b) {v y:Value} {n:Nat} (hv:(v= .slice none 0 0∧n=0)∨∃a cap,v= .slice (some a) n cap∧n≤cap) {a c} (hy:y= .slice a 0 c):
    (Builtin.append_ #[t,t] ty #[v,y]).run P w= .ok v w:=by
  obtain⟨i,z,hi,hz,_⟩:=ht.inf
  subst hy
  rcases hv with⟨rfl,rfl⟩ | ⟨a',cap,rfl,hc⟩
  · cases a <;> simp[Builtin.append_,run_underlying ht.ut,sizeOf,typeInfo,hi,Builtin.lenOf,Builtin.firstCells,loadCells,loadCellsFrom]
  · cases a <;> simp[Builtin.append_,run_underlying ht.ut,sizeOf,typeInfo,hi,Builtin.lenOf,Builtin.firstCells,loadCells,loadCellsFrom,hc,storeCells]
theorem mV {k:cB} {sz:Nat} {xs:List (List AV)} {b cap:Nat} (hu:E.used k) (ht:E.tk k=some ⟨sz,xs.length*sz,cap,b⟩) (hs:∀x∈xs,x.length=sz) (hc:xs.length≤cap) (hm:cap≤maxLen)
    (hv:qT E w (some k) b 0 xs.flatten):VR E w (.sl (some k) sz xs) (.slice (some ⟨b,0,none⟩) xs.length cap):=by
  simp only[VR]
  refine⟨_,_,rfl,hc,hm,.inr ⟨b,0,rfl,i9.2 hv⟩,hs, ?_⟩
  intro k' hk'
  cases hk'
  refine⟨hu,λt e=> ?_⟩
  rw[ht] at e; cases e
  exact⟨Nat.le_refl _,λ_=>⟨rfl,rfl,rfl⟩⟩
def DY (E:gW) (w:World) (sz:Nat) (ys:List (List AV)) (y:Value):Prop:=
  (∀x∈ys,x.length=sz)∧((ys= []∧∃a c,y= .slice a 0 c)∨
  ∃ g o cap cv, y = .slice (some ⟨g, o, none⟩) ys.length cap ∧ cY E w ys.flatten cv ∧ (∀ v ∈ cv, v.oneCell' = true) ∧ cv.length = ys.length * sz ∧
      (∀j u,cv[j]? =some u→w.cell? ⟨g,o+j,none⟩=some u))
theorem DY.of_sl {tag:Option cB} {sz:Nat} {ys:List (List AV)} {y:Value} (hy:VR E w (.sl tag sz ys) y):DY E w sz ys y:=by
 refine⟨by simp only[VR] at hy; obtain⟨a,cap,_,_,_,_,h4,_⟩:=hy; exact h4, ?_⟩
 by_cases hne:ys= []
 ·subst hne
  simp only[VR] at hy
  obtain⟨a,cap,rfl,_⟩:=hy
  exact .inl ⟨rfl,a,cap,rfl⟩
 ·obtain⟨g,o,cap,cv,e,c1,c2,c3,c4⟩:=mU hy hne
  exact .inr ⟨g,o,cap,cv,e,c1,c2,c3,λj u hj=>(c4 j u hj).1⟩
theorem DY.of_e0 {sz:Nat} {y:Value} (hy:VR E w .e0 y):DY E w sz [] y:=by
 simp only[VR] at hy
 obtain⟨a,e⟩:=hy
 exact⟨by simp,.inl ⟨rfl,a,0,e⟩⟩
theorem DY.of_nil {sz n:Nat} {y:Value} (hy:VR E w (.sc (.slice none 0 n)) y):DY E w sz [] y:=by
 simp only[VR] at hy
 exact⟨by simp,.inl ⟨rfl,none,n,hy⟩⟩
def FV (sz:Nat):Nat→List AV→List (List AV)
 | 0,_=> []
 | n+1,cs=>cs.take sz::FV sz n (cs.drop sz)
theorem DZ {sz:Nat}:∀ {n:Nat} {cs:List AV},n*sz≤cs.length→(FV sz n cs).flatten=cs.take (n*sz)
 | 0,cs,_=>by simp[FV]
 | n+1,cs,h=>by
  rw[Nat.add_mul,Nat.one_mul] at h
  rw[FV,List.flatten_cons,DZ (by rw[List.length_drop]; omega),Nat.add_mul,Nat.one_mul,Nat.add_comm (n*sz) sz,List.take_add]
theorem rE {sz:Nat}:∀ {n:Nat} {cs:List AV},(FV sz n cs).length=n
 | 0,_=>rfl
 | n+1,cs=>by simp[FV,rE]
theorem D0 {sz:Nat}:∀ {n:Nat} {cs:List AV},n*sz≤cs.length→∀x∈FV sz n cs,x.length=sz
 | 0,_,_=>by simp[FV]
 | n+1,cs,h=>by
  rw[Nat.add_mul,Nat.one_mul] at h
  intro x hx
  rcases List.mem_cons.1 hx with rfl | hx
  ·rw[List.length_take]; omega
  ·exact D0 (by rw[List.length_drop]; omega) x hx
theorem DY.of_view (r:fZ E h w) {k:cB} {off n sz:Nat} {y:Value} (hy:VR E w (.view k off n) y) {ty:TypeId} {cs:List AV} (hk:h k=some (.obj ty cs)) (hl:off+n*sz≤cs.length):DY E w sz (FV sz n (cs.drop off)) y:=by
 simp only[VR] at hy
 obtain⟨g,cap,hg,rfl,_⟩:=hy
 obtain⟨g',cur,e1,e2,e3,e4⟩:=r.obj k ty cs hk
 rw[hg] at e1; cases e1
 have hl':n*sz≤(cs.drop off).length:=by rw[List.length_drop]; omega
 refine⟨D0 hl',.inr ⟨g,off,cap,(cur.toList.drop off).take (n*sz),by rw[rE],by rw[DZ hl']; exact fO _ (iJ _ e3), ?_, ?_, ?_⟩⟩
 ·intro v hv
  exact e4 v (List.mem_of_mem_drop (List.mem_of_mem_take hv))
 ·rw[rE,List.length_take,List.length_drop]
  have:=cZ e3
  omega
 ·intro j u hj
  rw[List.getElem?_take] at hj
  split at hj
  ·rw[List.getElem?_drop] at hj
   simp only[World.cell?,e2]
   simpa using hj
  ·cases hj
theorem append_nil {t ty e:TypeId} {sz b:Nat} (ht:kY P t e sz b) (r:fZ E h w) {k:cB} (hk:¬E.used k) {ys:List (List AV)} {y:Value} (hy:DY E w sz ys y) (hne:ys≠ [])
    (hb:ys.length*b≤140737488355328) (hlen:ys.length≤140737488355328) (a0:Option Addr):
    ∃v' w' E',(Builtin.append_ #[t,t] ty #[.slice a0 0 0,y]).run P w= .ok v' w'∧eR E w E' w'∧fZ E' (upd h k (some (.tok e sz (ys.length*sz)))) w'∧VR E' w' (.sl (some k) sz ys) v':=by
  obtain⟨i,z,hi,hz,rfl,rfl,hzs,hsp⟩:=ht.inf
  have hs:∀x∈ys,x.length=i.size:=hy.1
  obtain⟨g,o,cap,cv,rfl,c1,c2,c3,c4⟩:=hy.2.resolve_left λe=>hne e.1
  have hpos:0 < ys.length:=List.length_pos_iff.2 hne
  have hrun:(Builtin.append_ #[t,t] ty #[.slice a0 0 0,.slice (some ⟨g,o,none⟩) ys.length cap]).run P w=
      .ok (.slice (some ⟨w.heap.size,0,none⟩) ys.length (grownCap w ys.length 0 e)) (w.drew.alloc (.cells (cv.toArray++Builtin.zeroCells z.cells (grownCap w ys.length 0 e - ys.length)) e)):=by
    cases a0 with
    | none=>exact run_append_nil (P:=P) w t ty e i z ht.ut hi hz ⟨g,o,none⟩ ys.length cap cv c3 (λj u hj=>by rw[Addr.add_lit]; exact c4 j u hj) hpos (by omega) (by omega)
    | some b0=>
      have:=run_append_grow (P:=P) w t ty e i z ht.ut hi hz b0 0 0 [] (by simp) (by simp) ⟨g,o,none⟩ ys.length cap cv c3 (λj u hj=>by rw[Addr.add_lit]; exact c4 j u hj) (by omega) (by omega) (growslice_fits (by omega) (by rw[Nat.zero_add]; exact hb))
      simpa using this
  have hge:=grownCap_ge w ys.length 0 e
  have hcm:grownCap w ys.length 0 e≤maxLen:=grownCap_le_maxLen w ys.length 0 e (by simp only[maxLen]; omega)
  have hsize:(cv.toArray++Builtin.zeroCells z.cells (grownCap w ys.length 0 e - ys.length)).size=grownCap w ys.length 0 e*i.size:=by
    simp only[Array.size_append,List.size_toArray,size_zeroCells,hzs,c3,← Nat.add_mul]
    congr 1; omega
  obtain⟨rd,kd⟩:=r.drewn (w.drawn+1)
  obtain⟨E',e0,e1,e2,e3⟩:=fZ.new_tok (w:=w.drew) rd hk e i.size (ys.length*i.size) (grownCap w ys.length 0 e) hsize (by simp[c3]) hcm
  refine⟨_,_,E',hrun,kd.trans e2,e3, ?_⟩
  refine mV e0 (by simpa using e1) hs hge hcm ?_
  have hnew:=heap_alloc_new w.drew (.cells (cv.toArray++Builtin.zeroCells z.cells (grownCap w ys.length 0 e - ys.length)) e)
  refine dZ (cQ (kd.trans e2) _ _ c1) c2 ?_
  intro j u hj
  have hjl:j < cv.length:=(List.getElem?_eq_some_iff.1 hj).1
  refine⟨?_,.inr ⟨k,_,rfl,e1,rfl,by show 0+j < ys.length*i.size; omega⟩⟩
  have hnew':(w.drew.alloc (.cells (cv.toArray++Builtin.zeroCells z.cells (grownCap w ys.length 0 e - ys.length)) e)).heap[w.heap.size]? =_:=hnew
  simp only[World.cell?,hnew',Nat.zero_add]
  simp[Array.getElem?_append,hjl]
  exact(List.getElem?_eq_some_iff.1 hj).2
theorem FW {t ty e:TypeId} {sz b:Nat} (ht:kY P t e sz b) (r:fZ E h w) {k:cB} {xs ys:List (List AV)} (hk:h k=some (.tok e sz (xs.length*sz))) {v:Value} (hv:VR E w (.sl (some k) sz xs) v)
    {y:Value} (hy:DY E w sz ys y) (hne:ys≠ []) (hb:(xs.length+ys.length)*b≤140737488355328) (hlen:xs.length+ys.length≤140737488355328):
    ∃v' w' E',(Builtin.append_ #[t,t] ty #[v,y]).run P w= .ok v' w'∧eR E w E' w'∧fZ E' (upd h k (some (.tok e sz ((xs++ys).length*sz)))) w'∧VR E' w' (.sl (some k) sz (xs++ys)) v':=by
  obtain⟨i,z,hi,hz,rfl,rfl,hzs,hsp⟩:=ht.inf
  have hsy:∀x∈ys,x.length=i.size:=hy.1
  obtain⟨g,o,cap',cy,rfl,c1,c2,c3,c4⟩:=hy.2.resolve_left λe=>hne e.1
  have hpos:0 < ys.length:=List.length_pos_iff.2 hne
  obtain⟨tk,cur,t1,t2,t3,t4,t5,t6,t7⟩:=r.tok _ _ _ _ hk
  have hv0:=hv
  simp only[VR] at hv
  obtain⟨a,cap,rfl,v1,v2,v3,hsx,v5⟩:=hv
  obtain⟨hu,v6⟩:=v5 k rfl
  obtain⟨_,v7⟩:=v6 tk t1
  obtain⟨rfl,rfl,_⟩:=v7 t3.symm
  -- the cells that are there
  have hxc:∃cx:List Value,cY E w xs.flatten cx∧(∀u∈cx,u.oneCell'=true)∧cx.length=xs.length*i.size∧cur.toList.take (xs.length*i.size)=cx:=by
    by_cases hx0:xs= []
    · subst hx0; exact⟨[],by simp[cY],by simp,by simp,by simp⟩
    · obtain⟨g',o',cap'',cx,ee,d1,d2,d3,d4⟩:=mU hv0 hx0
      cases ee
      refine⟨cx,d1,d2,d3, ?_⟩
      apply List.ext_getElem?
      intro j
      rw[List.getElem?_take]
      split
      · rename_i hj
        have hjx:j < cx.length:=by omega
        have h1:=(d4 j cx[j] (by simp[hjx])).1
        simp only[World.cell?,t4,Nat.zero_add] at h1
        rw[List.getElem?_eq_getElem hjx]
        simpa using h1
      · rename_i hj
        rw[List.getElem?_eq_none (by omega)]
  obtain⟨cx,d1,d2,d3,d4⟩:=hxc
  have hall:∀x∈xs++ys,x.length=i.size:=by
    intro x hx
    rcases List.mem_append.1 hx with hx | hx
    · exact hsx x hx
    · exact hsy x hx
  have hl2:(xs++ys).length*i.size=xs.length*i.size+ys.length*i.size:=by rw[List.length_append,Nat.add_mul]
  have hvl:cY E w (xs++ys).flatten (cx++cy):=by rw[List.flatten_append]; exact dA d1 c1
  have h1l:∀u∈cx++cy,u.oneCell'=true:=by
    intro u hu
    rcases List.mem_append.1 hu with hu | hu
    · exact d2 u hu
    · exact c2 u hu
  have hmlt:tk.m < (xs++ys).length*i.size:=by
    rw[hl2,t3]
    have:0 < ys.length*i.size:=Nat.mul_pos hpos hsp
    omega
  by_cases hroom:xs.length+ys.length≤tk.cap
  · have hfit:xs.length*i.size+cy.length≤cur.size:=by rw[c3,t5,← Nat.add_mul]; exact Nat.mul_le_mul_right _ hroom
    have hrun:=run_append_room (P:=P) w t ty e i ht.ut hi tk.b xs.length tk.cap cur t4 ⟨g,o,none⟩ ys.length cap' cy c3 (λj u hj=>by rw[Addr.add_lit]; exact c4 j u hj) c2 hroom hfit
    have hnsz:(cur.toList.take (xs.length*i.size)++cy++cur.toList.drop (xs.length*i.size+cy.length)).toArray.size=tk.cap*i.size:=by
      simp only[List.size_toArray,List.length_append,List.length_take,List.length_drop,Array.length_toList]
      omega
    have hcell:∀j u,(cx++cy)[j]? =some u→(w.setRow tk.b (cur.toList.take (xs.length*i.size)++cy++cur.toList.drop (xs.length*i.size+cy.length)).toArray).cell? ⟨tk.b,j,none⟩=some u:=by
      intro j u hj
      rw[cell_setRow_same w tk.b j cur _ e (0,0) t4,d4]
      have hjl:j < (cx++cy).length:=(List.getElem?_eq_some_iff.1 hj).1
      simp only[List.getElem?_toArray]
      rw[List.getElem?_append_left hjl]
      exact hj
    obtain⟨E',e0,e1,e2,e3⟩:=r.grow (m:=(xs++ys).length*i.size) (cap:=tk.cap) (b:=tk.b) (ty:=e) (w':=w.setRow tk.b (cur.toList.take (xs.length*i.size)++cy++cur.toList.drop (xs.length*i.size+cy.length)).toArray) t1 (by rw[t2,t3]; exact hk)
      (setRow_heap w tk.b cur _ e _ t4) (λg' _ hg'=>setRow_other w tk.b g' _ hg') (.inl ⟨rfl,rfl⟩) (λj hj=>by
        rw[cell_setRow_same w tk.b j cur _ e (0,0) t4]
        have hjl:j < cx.length:=by omega
        have hjc:j < cur.size:=by omega
        have e1:cur[j]? =cx[j]? :=by
          rw[← d4,List.getElem?_take,if_pos (by omega)]; simp
        simp only[List.getElem?_toArray,d4]
        rw[List.append_assoc,List.getElem?_append_left hjl,← e1]
        simp[World.cell?,t4]) hmlt (by rw[t2]; exact hnsz) (by rw[hnsz,← t5]; rw[hl2]; rw[c3] at hfit; omega) t7 (by simp) rfl rfl rfl
    rw[t2] at e1 e3
    refine⟨_,_,E',hrun,e2,e3, ?_⟩
    have:=mV (w:=w.setRow tk.b (cur.toList.take (xs.length*i.size)++cy++cur.toList.drop (xs.length*i.size+cy.length)).toArray) e0 e1 hall (by rw[List.length_append]; exact hroom) t7
      (dZ (cQ e2 _ _ hvl) h1l (λj u hj=>⟨by rw[Nat.zero_add]; exact hcell j u hj,.inr ⟨k,_,rfl,e1,rfl,by
        have hjl:j < (cx++cy).length:=(List.getElem?_eq_some_iff.1 hj).1
        rw[List.length_append,d3,c3] at hjl
        show 0+j < (xs++ys).length*i.size
        omega⟩⟩))
    rw[List.length_append] at this
    exact this
  · have hold:∀j u,cx[j]? =some u→w.cell? ((⟨tk.b,0,none⟩:Addr).add j)=some u:=by
      intro j u hj
      rw[Addr.add_lit,Nat.zero_add]
      have hjl:j < cx.length:=(List.getElem?_eq_some_iff.1 hj).1
      simp only[World.cell?,t4]
      rw[← d4,List.getElem?_take] at hj
      split at hj
      · simpa using hj
      · cases hj
    have hrun:=run_append_grow (P:=P) w t ty e i z ht.ut hi hz ⟨tk.b,0,none⟩ xs.length tk.cap cx d3 hold ⟨g,o,none⟩ ys.length cap' cy c3 (λj u hj=>by rw[Addr.add_lit]; exact c4 j u hj) (by omega) (by omega) (growslice_fits (by omega) hb)
    have hge:=grownCap_ge w (xs.length+ys.length) tk.cap e
    have hcm:grownCap w (xs.length+ys.length) tk.cap e≤maxLen:=grownCap_le_maxLen w (xs.length+ys.length) tk.cap e (by simp only[maxLen]; omega)
    generalize hgc:grownCap w (xs.length+ys.length) tk.cap e=gc at hge hcm hrun
    generalize hcells:cx.toArray++cy.toArray++Builtin.zeroCells z.cells (gc - (xs.length+ys.length))=cells at hrun
    have hsize:cells.size=gc*i.size:=by
      rw[← hcells]
      simp only[Array.size_append,List.size_toArray,size_zeroCells,hzs,c3,d3,← Nat.add_mul]
      congr 1; omega
    have hnew:=heap_alloc_new w.drew (.cells cells e)
    have hcell:∀j u,(cx++cy)[j]? =some u→(w.drew.alloc (.cells cells e)).cell? ⟨w.heap.size,j,none⟩=some u:=by
      intro j u hj
      have hjl:j < (cx++cy).length:=(List.getElem?_eq_some_iff.1 hj).1
      have hnew':(w.drew.alloc (.cells cells e)).heap[w.heap.size]? =_:=hnew
      simp only[World.cell?,hnew']
      rw[← hcells]
      simp only[Option.isSome_none,Bool.false_eq_true,if_false]
      rw[Array.getElem?_append_left (by simpa using hjl)]
      simpa using hj
    have hblt:tk.b < w.heap.size:=(Array.getElem?_eq_some_iff.1 t4).1
    obtain⟨rd,kd⟩:=r.drewn (w.drawn+1)
    have rd':fZ E h w.drew:=rd
    obtain⟨E',e0,e1,e2,e3⟩:=rd'.grow (m:=(xs++ys).length*i.size) (cap:=gc) (b:=w.heap.size) (ty:=e) (w':=w.drew.alloc (.cells cells e)) (cur:=cells) t1 (by rw[t2,t3]; exact hk)
      hnew (λg' hg' _=>heap_alloc_old w.drew _ g' hg') (.inr ⟨Nat.le_refl _,heap_alloc_old w.drew _ _ hblt⟩) (λj _=>eG (w:=w.drew) (heap_alloc_old w.drew _ _ hblt) j) hmlt (by rw[t2]; exact hsize)
      (by rw[hsize]; rw[List.length_append]; exact Nat.mul_le_mul_right _ hge) hcm (by simp) rfl rfl rfl
    rw[t2] at e1 e3
    refine⟨_,_,E',hrun,kd.trans e2,e3, ?_⟩
    have:=mV (w:=w.drew.alloc (.cells cells e)) e0 e1 hall (by rw[List.length_append]; exact hge) hcm
      (dZ (cQ (kd.trans e2) _ _ hvl) h1l (λj u hj=>⟨by rw[Nat.zero_add]; exact hcell j u hj,.inr ⟨k,_,rfl,e1,rfl,by
        have hjl:j < (cx++cy).length:=(List.getElem?_eq_some_iff.1 hj).1
        rw[List.length_append,d3,c3] at hjl
        show 0+j < (xs++ys).length*i.size
        omega⟩⟩))
    rw[List.length_append] at this
    exact this
end app
end Go.Vm
