import Derived.Test.YtbbifdfldpfphaaGreatK6P7
import Derived.Test.YtbbifdfldpfphaaGreatK6P10
import Derived.Test.YtbbifdfldpfphaaGreatK6P5
import Derived.Test.YtbbifdfldpfphaaGreatK6P4
import Derived.Test.YtbbifdfldpfphaaGreatK6P9
set_option linter.unusedSimpArgs false
set_option linter.unusedVariables false
set_option maxHeartbeats 4000000
set_option maxRecDepth 100000
namespace Go.Proofs.YtbbifdfldpfphaaGreat
open Go.Vm
def vS (m:Nat) (y0:aA×Int) (q0:Int):Option (Lp (Int) (Bool)):=
 if (decide (q0 < (y0.1.Chunks.length:Int)))=true then (after ((ix y0.1.Chunks q0).bind λx0=>(VV m y0.1 x0.Id).bind λy1=>if (!y1)=true then ((ix y0.1.Chunks q0).bind λx1=>if x1.Staged=true then (some (.brk true)) else (ix y0.1.Chunks q0).bind λx2=>some (.brk ((x2.Locs.length:Int)==0))) else some (.brk false):Option (Lp (Bool) (Lp (Int) (Bool)))) λj0=>if j0=true then (some (.ret false)) else some (.go (IntKind.wrap .i64 (q0+1)))) else some (.brk q0)
def M12 (m:Nat) (p0:List Int) (p1:List nX) (p2:Int) (p3:Int):Option (Bool):=
 after (if (decide (30 < (p0.length:Int)))=true then (some (.brk true)) else (M14 m p1).bind λy9=>some (.brk y9):Option (Lp (Bool) (Bool))) λj7=>if j7=true then (some true) else (M16 m p0).bind λy0=>(M15 m y0 p1).bind λy1=>grd ((IntKind.wrap .u64 (y1.Vols.length:Int)) !=0) <| after (if ((y1.Snaps.length:Int)==0)=true then (some (.brk true)) else (ix y1.Vols (IntKind.wrap .i64 ((IntKind.wrap .u64 p2).tmod (IntKind.wrap .u64 (y1.Vols.length:Int))))).bind λx0=>some (.brk (x0.State==3)):Option (Lp (Bool) (Bool))) λj0=>if j0=true then ((M37 m).bind λy2=>some y2) else grd ((IntKind.wrap .u64 (y1.Snaps.length:Int)) !=0) <| (ix y1.Snaps (IntKind.wrap .i64 ((IntKind.wrap .u64 p3).tmod (IntKind.wrap .u64 (y1.Snaps.length:Int))))).bind λx1=>(NA m y1 ({ Kind:=3,Snap:=({ Seq:=0,Man:=({ Name:=ByteArray.empty,Parts:= []}:aY),Locs:= []}:aH),Chunks:= [],Seq:=0,Vol:=IntKind.wrap .i64 ((IntKind.wrap .u64 p2).tmod (IntKind.wrap .u64 (y1.Vols.length:Int))),Items:=([({ Kind:=3,Id:=jI,Seq:=y1.Seq,Of:=x1.Seq,Off:=13,Len:=17}:aO)]:List aO)}:aN)).bind λy3=>(NA m y1 ({ Kind:=2,Snap:=({ Seq:=0,Man:=({ Name:=ByteArray.empty,Parts:= []}:aY),Locs:= []}:aH),Chunks:= [],Seq:=x1.Seq,Vol:=0,Items:= []}:aN)).bind λy4=>after (if (y3.2 !=0)=true then (some (.brk true)) else if (y4.2 !=0)=true then (some (.brk true)) else if ((y3.1.Snaps.length:Int) !=(IntKind.wrap .i64 ((y1.Snaps.length:Int) - 1)))=true then (some (.brk true)) else if ((y4.1.Snaps.length:Int) !=(y3.1.Snaps.length:Int))=true then (some (.brk true)) else (VT m y3.1 x1.Man.Name).bind λy5=>if (y5 !=(-1))=true then (some (.brk true)) else if ((y3.1.Exps.length:Int) !=(IntKind.wrap .i64 ((y1.Exps.length:Int)+1)))=true then (some (.brk true)) else if (y3.1.Seq !=(IntKind.wrap .i64 (y1.Seq+1)))=true then (some (.brk true)) else if (y4.1.Seq !=y1.Seq)=true then (some (.brk true)) else (VU m y3.1.Chunks y4.1.Chunks).bind λy6=>some (.brk (!y6)):Option (Lp (Bool) (Bool))) λj1=>if j1=true then (some false) else after (aU (λs=>vS m y3 s) m 0) λr0=>(NA m y3.1 ({ Kind:=1,Snap:=({ Seq:=y3.1.Seq,Man:=({ Name:=x1.Man.Name,Parts:= []}:aY),Locs:= []}:aH),Chunks:= [],Seq:=0,Vol:=0,Items:= []}:aN)).bind λy7=>after (if (y7.2==0)=true then (if ((y7.1.Snaps.length:Int)==(y1.Snaps.length:Int))=true then ((M37 m).bind λy8=>some (.brk y8)) else some (.brk false)) else some (.brk false):Option (Lp (Bool) (Bool))) λj2=>some j2
theorem W12 {w:Nat} {p0:List Int} {p1:List nX} {p2:Int} {p3:Int} {o:Bool} (h:aE) (m:M12 w p0 p1 p2 p3=some o):
 aL Tryz.prog 12 [.sl none 1 (List.map iU p0),.sl none 5 (List.map fU p1),nZ p2,nZ p3] h (λr h'=>r= .sc (.bool o)∧h'=h):=by
 refine fT 211 [.tmp 8] Tryz.func12 rfl rfl rfl rfl ?_
 unfold M12 at m
 refine v (vs (vs (fQ m (σ:=Bool) (λs=> []) (λs=>.c 0 (.sl none 1 (List.map iU p0)) (.c 1 (.sl none 5 (List.map fU p1)) (.c 2 (nZ p2) (.c 3 (nZ p3) (.c 24 (.sc (.bool s)) .nil))))) (λx m=> ?_) ?_)))
 refine v (cY I9 rfl ?_)
 apply vi m <;> intro b8 m
 rw[b8]
 exact mC m
 rw[b8]
 exact vk W14 aFH m rfl rfl λ_ m=>mC m
 rintro _ j7 m
 refine v ?_
 apply vi m <;> intro c0 m
 refine v (v ?_)
 obtain rfl:=eU m
 exact eA rfl
 refine v (v (vk W16 aFI m rfl rfl λ_ m=>vk W15 aFJ m rfl rfl λy0 m=>ve λu=>bG (gO) u oH rfl rfl λk19 K0=>qk K0 rfl (ve λu=>aJ 0 (aF y0) u rfl rfl rfl rfl kX rfl rfl λK1=>qk K1 rfl (v (vl 0 _ kJ rfl rfl rfl (cY xX rfl (RD m λ_ m=>vs (vs (fQ m (σ:=Bool) (λs=> [(some k19,.obj 30 (aF y0))]) (λs=>.c 3 (nZ p3) (.c 9 (.ptr k19 0) (.c 10 (nZ (IntKind.wrap .i64 ((IntKind.wrap .u64 p2).tmod (IntKind.wrap .u64 (y0.Vols.length:Int))))) (.c 49 (.sc (.bool s)) .nil)))) (λx m=> ?_) ?_)))))))))
 refine v (vl 0 _ eV rfl rfl rfl (cY iQ rfl ?_))
 apply vi m <;> intro b0 m
 rw[b0]
 exact gJ m
 rw[b0]
 exact vl 0 _ kJ rfl rfl rfl (vx m pD rfl rfl λ_ _ m=>gJ m)
 rintro _ j0 m
 refine v ?_
 apply vi m <;> intro c1 m
 refine v (vk W37 aAZ m rfl rfl λ_ m=>v ?_)
 obtain rfl:=eU m
 exact eA rfl
 refine v (v (vz [(1000000,some k19,.obj 30 (aF y0))] mixed (λu=>⟨λ_=>aK 0 u rfl,trivial⟩) λu=>zF 0 rfl dQ rfl (zL 1 0 (.sl none 4 (List.map bK y0.Snaps)) rfl eV rfl rfl rfl (zI 2 rfl rfl (zC 3 rfl (BM RE JF rfl) (zF 4 rfl dQ rfl (zL 5 0 (.sl none 4 (List.map bK y0.Snaps)) rfl eV rfl rfl rfl (zC 6 rfl (rC iQ rfl) (zC 7 rfl (BM RE JF rfl) ?_)))))))))
 obtain⟨Z0,m⟩:=uQ m
 refine zC 8 rfl (lJ rfl rfl rfl (Q9 Z0)) (zC 9 rfl (BM JF RE rfl) ?_)
 obtain⟨x0,X0,m⟩:=aC m
 refine zC 10 rfl (oD X0 iX rfl rfl) (zC 11 rfl (pA (.agg (bK x0)) sO rfl rfl) (zE 12 rfl (bG (VJ) u sP rfl rfl λk50 K2=>⟨⟨λ_=>aK 1 K2 rfl,trivial⟩, ?_⟩)))
 refine zE 13 rfl (aJ 0 (bK x0) K2 rfl rfl rfl rfl GH rfl rfl λK3=>⟨⟨λ_=>aK 1 K3 rfl,trivial⟩, ?_⟩)
 refine zX (qk (f:=.c 11 _ (I8 62 _ _ _ _ _ _ _ _ _ _ _ _ _)) K3 rfl (v (vl 1 (.agg (aF y0)) eP rfl rfl rfl (vl 1 _ cD rfl rfl rfl (vl 0 _ cD rfl rfl rfl (bV (eK (aV ({ Kind:=3,Id:=jI,Seq:=y0.Seq,Of:=x0.Seq,Off:=13,Len:=17}:aO)) S7 rfl) (bV (eD (List.map aV ([({ Kind:=3,Id:=jI,Seq:=y0.Seq,Of:=x0.Seq,Off:=13,Len:=17}:aO)]:List aO)) LN rfl rfl rfl rfl) (bV (eK ([nZ 3,nZ 0,.sc (.string ByteArray.empty),sZ,sZ,sZ,nZ 0,nZ (IntKind.wrap .i64 ((IntKind.wrap .u64 p2).tmod (IntKind.wrap .u64 (y0.Vols.length:Int)))),.sl none 37 (List.map aV ([({ Kind:=3,Id:=jI,Seq:=y0.Seq,Of:=x0.Seq,Off:=13,Len:=17}:aO)]:List aO))]) wM rfl) ?_))))))))
 obtain⟨y1,Y0,m⟩:=aC m
 refine bV (cB (mI (.cons (bB.refl _ _) (.cons (bB.agg (.k3 (.cons (aR _) (.cons (aR _) (.cons (aR _) (.k3 .nil)))))) .nil)) (W29 _ Y0)) rfl QD rfl) (ve λu=>bG (gO) u oH rfl rfl λk57 K4=>qk K4 rfl (ve λu=>aJ 0 (aF y1.1) u rfl rfl rfl rfl kX rfl rfl λK5=>qk K5 rfl (v (vl 2 (.agg (aF y0)) eP rfl rfl rfl (vl 1 _ cD rfl rfl rfl (bV (eK ([nZ 2,nZ 0,.sc (.string ByteArray.empty),sZ,sZ,sZ,nZ x0.Seq,nZ 0,sZ]) wM rfl) ?_))))))
 obtain⟨y2,Y1,m⟩:=aC m
 refine bV (cB (mI (.cons (bB.refl _ _) (.cons (bB.agg (.k3 (.cons (aR _) (.cons (aR _) (.cons (aR _) (.k2 (.cons (aR _) .nil))))))) .nil)) (W29 _ Y1)) rfl QD rfl) (ve λu=>bG (gO) u oH rfl rfl λk64 K6=>qk K6 rfl (ve λu=>aJ 0 (aF y2.1) u rfl rfl rfl rfl kX rfl rfl λK7=>qk K7 rfl (vs (vs (fQ m (σ:=Bool) (λs=> [(some k64,.obj 30 (aF y2.1)),(some k57,.obj 30 (aF y1.1)),(some k50,.obj 60 (bK x0)),(some k19,.obj 30 (aF y0))]) (λs=>.c 9 (.ptr k19 0) (.c 11 (.ptr k50 0) (.c 12 (.ptr k57 0) (.c 149 (.sc (.bool s)) .nil)))) (λx m=> ?_) ?_)))))
 refine v ?_
 apply vi m <;> intro b1 m
 rw[b1]
 exact gJ m
 rw[b1]
 apply vi m <;> intro b2 m
 rw[b2]
 exact gJ m
 rw[b2]
 refine vl 1 _ eV rfl rfl rfl (cY iQ rfl (vl 3 _ eV rfl rfl rfl (cY iQ rfl ?_)))
 apply vi m <;> intro b3 m
 rw[b3]
 exact gJ m
 rw[b3]
 refine vl 0 _ eV rfl rfl rfl (cY iQ rfl (vl 1 _ eV rfl rfl rfl (cY iQ rfl ?_)))
 apply vi m <;> intro b4 m
 rw[b4]
 exact gJ m
 rw[b4]
 refine vl 1 (.agg (aF y1.1)) eP rfl rfl rfl (vl 2 _ wS rfl rfl rfl (vk W46 XX m rfl rfl λ_ m=> ?_))
 apply vi m <;> intro b5 m
 rw[b5]
 exact gJ m
 rw[b5]
 refine vl 1 _ jN rfl rfl rfl (cY qN rfl (vl 3 _ jN rfl rfl rfl (cY qN rfl ?_)))
 apply vi m <;> intro b6 m
 rw[b6]
 exact gJ m
 rw[b6]
 refine vl 1 _ cD rfl rfl rfl (vl 3 _ cD rfl rfl rfl ?_)
 apply vi m <;> intro b7 m
 rw[b7]
 exact gJ m
 rw[b7]
 refine vl 0 _ cD rfl rfl rfl (vl 3 _ cD rfl rfl rfl ?_)
 apply vi m <;> intro b9 m
 rw[b9]
 exact gJ m
 rw[b9]
 exact vl 1 _ eO rfl rfl rfl (vl 0 _ eO rfl rfl rfl (vk W47 aD8 m rfl rfl λ_ m=>gJ m))
 rintro _ j1 m
 refine v ?_
 apply vi m <;> intro c2 m
 refine v (v ?_)
 obtain rfl:=eU m
 exact eA rfl
 refine v (v (kD m (σ:=Int) (λs=> [(some k64,.obj 30 (aF y2.1)),(some k57,.obj 30 (aF y1.1)),(some k50,.obj 60 (bK x0)),(some k19,.obj 30 (aF y0))]) (λs=>.c 9 (.ptr k19 0) (.c 11 (.ptr k50 0) (.c 12 (.ptr k57 0) (.c 16 (nZ s) .nil)))) (lx (.k4 .nil)) ?_ ?_))
 rintro _ q0 x m
 replace m:vS w y1 q0=some x:=m
 unfold vS at m
 refine v (vl 1 _ eO rfl rfl rfl (cY jG rfl (v ?_)))
 apply vi m <;> intro c3 m
 refine v (v (vs (fQ m (σ:=Bool) (λs=> [(some k64,.obj 30 (aF y2.1)),(some k57,.obj 30 (aF y1.1)),(some k50,.obj 60 (bK x0)),(some k19,.obj 30 (aF y0))]) (λs=>.c 9 (.ptr k19 0) (.c 11 (.ptr k50 0) (.c 12 (.ptr k57 0) (.c 16 (nZ q0) (.c 183 (.sc (.bool s)) .nil))))) (λx m=> ?_) ?_)))
 refine v (vq (by kernel_rfl) (vl 1 (.agg (aF y1.1)) eP rfl rfl rfl (vl 1 _ eO rfl rfl rfl (vx m fH rfl rfl λx1 _ m=>va (.agg (bH x1.Id)) fL rfl rfl (vk W38 YN m rfl rfl λ_ m=> ?_)))))
 apply vi m <;> intro b10 m
 rw[b10]
 refine vl 1 _ eO rfl rfl rfl (vx m fH rfl rfl λ_ _ m=> ?_)
 apply vi m <;> intro b11 m
 rw[b11]
 exact mC m
 rw[b11]
 exact vl 1 _ eO rfl rfl rfl (vx m fH rfl rfl λ_ _ m=>cY jO rfl (mC m))
 rw[b10]
 exact mC m
 rintro _ j2 m
 refine v ?_
 apply vi m <;> intro c4 m
 refine v (v (gM m λm=> ?_))
 obtain rfl:=eU m
 exact eA rfl
 exact v (v (gJ m))
 exact v (zK m)
 rintro _ r0 m
 refine v (vl 1 (.agg (aF y1.1)) eP rfl rfl rfl (vl 1 _ cD rfl rfl rfl (vl 2 _ wS rfl rfl rfl (bV (eK ([.sc (.string x0.Man.Name),sZ]) LR rfl) (bV (eK ([nZ y1.1.Seq,.sc (.string x0.Man.Name),sZ,sZ]) PN rfl) (bV (eK ([nZ 1,nZ y1.1.Seq,.sc (.string x0.Man.Name),sZ,sZ,sZ,nZ 0,nZ 0,sZ]) wM rfl) ?_))))))
 obtain⟨y3,Y2,m⟩:=aC m
 refine bV (cB (mI (.cons (bB.refl _ _) (.cons (bB.agg (.k3 (.cons (aR _) (.cons (aR _) (.cons (aR _) (.k2 (.cons (aR _) .nil))))))) .nil)) (W29 _ Y2)) rfl QD rfl) (ve λu=>bG (gO) u oH rfl rfl λk193 K8=>qk K8 rfl (ve λu=>aJ 0 (aF y3.1) u rfl rfl rfl rfl kX rfl rfl λK9=>qk K9 rfl (vs (fQ m (σ:=Bool) (λs=> [(some k193,.obj 30 (aF y3.1)),(some k64,.obj 30 (aF y2.1)),(some k57,.obj 30 (aF y1.1)),(some k50,.obj 60 (bK x0)),(some k19,.obj 30 (aF y0))]) (λs=>.c 8 (.sc (.bool s)) .nil) (λx m=> ?_) ?_))))
 refine v ?_
 apply vi m <;> intro b12 m
 rw[b12]
 refine vl 0 _ eV rfl rfl rfl (cY iQ rfl (vl 4 _ eV rfl rfl rfl (cY iQ rfl ?_)))
 apply vi m <;> intro b13 m
 rw[b13]
 exact vk W37 aAZ m rfl rfl λ_ m=>iZ m
 rw[b13]
 exact iZ m
 rw[b12]
 exact iZ m
 rintro _ j3 m
 refine v ?_
 obtain rfl:=eU m
 exact eA rfl
open Go.Vm
theorem VG:M37 1000=some true:=by decide+kernel
theorem VH {c:aA} {q:Int} (G:Gd c):Gd (p8 c q):=by
 have lv:=IS G
 have us:∀y∈(p8 c q).Chunks,∃w∈c.Chunks,y=wX (jU c q) w∧m8 y=true:=λy hy=>by
  obtain⟨w,hw,rfl⟩:=List.mem_map.1 hy
  exact⟨w,(List.mem_filter.1 hw).1,rfl,(List.mem_filter.1 hw).2⟩
 have sm:∀s∈(p8 c q).Snaps,s∈c.Snaps:=λs hs=>(List.mem_filter.1 hs).1
 exact {
  q:=G.q
  v:=G.v
  vn:=G.vn
  en:=G.en
  eo:=G.eo
  eq:=G.eq
  el:=G.el
  ee:=G.ee
  cn:=by
   show (List.map _ _).length≤200
   rw[List.length_map]
   exact Nat.le_trans (List.length_filter_le _ _) G.cn
  co:=List.pairwise_map.2 ((G.co.sublist List.filter_sublist).imp fun {a b} hab=>by rw[(gH _ a).2.1,(gH _ b).2.1]; exact hab)
  cl:=λy hy=>by
   obtain⟨w,hw,rfl, -⟩:=us y hy
   rw[(gH _ w).1]; exact G.cl w hw
  cs:=λy hy=>by
   obtain⟨w,hw,rfl,e⟩:=us y hy
   have c1:=G.cs w hw
   unfold wX at e ⊢
   split
   ·exact c1
   ·rename_i hnu
    rw[if_neg hnu] at e
    simp only[m8,Bool.false_or,decide_eq_true_eq] at e
    rw[if_neg (show ¬(false=true) by decide)]
    refine⟨rfl,λhn=> ?_⟩
    have hn:w.Locs= []:=hn
    rw[hn] at e; simp at e
  sn:=Nat.le_trans (List.length_filter_le _ _) G.sn
  so:=G.so.sublist List.filter_sublist
  sq:=λs hs=>G.sq s (sm s hs)
  sm:=G.sm.sublist List.filter_sublist
  sb:=λs hs=>G.sb s (sm s hs)
  sl:=λs hs=>G.sl s (sm s hs)
  sp:=λs hs=>by
   have hp:=G.sp s (sm s hs)
   unfold KC at hp ⊢
   refine List.all_eq_true.2 λp hp1=>List.all_eq_true.2 λid hid=> ?_
   have h1:=List.all_eq_true.1 (List.all_eq_true.1 hp p hp1) id hid
   obtain⟨y,hy,ey⟩:=List.any_eq_true.1 h1
   have ey:y.Id=id:=of_decide_eq_true ey
   have hu1:kU (jU c q) y.Id=true:=List.any_eq_true.2 ⟨s,hs,List.any_eq_true.2 ⟨p,hp1,List.any_eq_true.2 ⟨id,hid,decide_eq_true ey⟩⟩⟩
   have e2:wX (jU c q) y=y:=by unfold wX; rw[if_pos hu1]
   exact List.any_eq_true.2 ⟨y,List.mem_map.2 ⟨y,List.mem_filter.2 ⟨hy,by rw[e2]; exact lv y hy⟩,e2⟩,decide_eq_true ey⟩
  ex:=λx hx s hs=>G.ex x hx s (sm s hs)}
def qF (v q f:Int):aN:= { Kind:=3,Snap:= { Seq:=0,Man:= { Name:=ByteArray.empty,Parts:= []},Locs:= []},Chunks:= [],Seq:=0,Vol:=v,Items:= [{ Kind:=3,Id:=jI,Seq:=q,Of:=f,Off:=13,Len:=17}]}
theorem Q4 {n:Nat} {c:aA} {v:Int} {x:aM} {s:aH} (h:Sm c) (G:Gd c) (B:Bd n c) (hx:c.Vols[v.toNat]? =some x) (hv:0≤v) (gv:gI v) (hs:x.State≠3) (hm:s∈c.Snaps):Wok n c (qF v c.Seq s.Seq) x:=by
 have hq:=G.q
 have sq:=G.sq s hm
 have bq:=B.q
 simp only[eY,Bool.and_eq_true,decide_eq_true_eq] at hq sq
 refine⟨⟨by simp[qF],λi hi=> ?_⟩,List.pairwise_singleton _ _,hx,hv,gv,by simp[iV,qF,hs],λi hi=> ?_,λi hi=> ?_,λi hi k=> ?_⟩
 ·rw[List.mem_singleton.1 hi]
  exact⟨IE,hq,(show gI s.Seq from⟨by omega,by omega⟩),(show gI 13 from⟨by decide,by decide⟩),(show gI 17 from⟨by decide,by decide⟩)⟩
 ·rw[List.mem_singleton.1 hi]; rfl
 ·rw[List.mem_singleton.1 hi]; exact(show (0:Int)≤13∧(13:Int)≤16777215∧(13:Int)≤17∧(17:Int)≤8013 by decide)
 ·rw[List.mem_singleton.1 hi]
  show 0≤s.Seq∧s.Seq < c.Seq∧c.Seq≤n
  omega
theorem OA {c:aA} {v:Int} {x:aM} {s:aH} (G:Gd c) (hm:s∈c.Snaps):i6 c (qF v c.Seq s.Seq) x= { p8 c s.Seq with
    Seq:=c.Seq+1
    Exps:=c.Exps++ [{ Seq:=c.Seq,Of:=s.Seq,Locs:= [{ Vol:=v,File:=x.Files+1,Off:=13,Len:=17}]}]
    Vols:=c.Vols.set v.toNat { x with State:=2,Files:=x.Files+1}}:=by
  have hex:∀y∈c.Exps,y.Seq < c.Seq:=λy hy=>by
    have:=(G.eq y hy).1
    simp only[eY,Bool.and_eq_true,decide_eq_true_eq] at this
    omega
  have eX:nG c.Exps { Kind:=3,Id:=jI,Seq:=c.Seq,Of:=s.Seq,Off:=13,Len:=17} { Vol:=v,File:=x.Files+1,Off:=13,Len:=17}=c.Exps++ [{ Seq:=c.Seq,Of:=s.Seq,Locs:= [{ Vol:=v,File:=x.Files+1,Off:=13,Len:=17}]}]:=by
    unfold nG vP
    rw[List.find?_eq_none.2 λy hy=>by have:=hex y hy; simp; omega,List.filter_eq_self.2 λy hy=>decide_eq_true (hex y hy),List.filter_eq_nil_iff.2 λy hy=>by have:=hex y hy; simp; omega]
    simp[fZ]
  have e1:iY c (qF v c.Seq s.Seq) x= { c with
      Seq:=c.Seq+1
      Exps:=c.Exps++ [{ Seq:=c.Seq,Of:=s.Seq,Locs:= [{ Vol:=v,File:=x.Files+1,Off:=13,Len:=17}]}]
      Vols:=c.Vols.set v.toNat { x with State:=2,Files:=x.Files+1}}:=by
    show uH x.Pool (ws c v x) { Kind:=3,Id:=jI,Seq:=c.Seq,Of:=s.Seq,Off:=13,Len:=17} { Vol:=v,File:=x.Files+1,Off:=13,Len:=17}=_
    unfold uH wP ws
    simp only[List.map_map]
    rw[jS λs _=>show z9 { Kind:=3,Id:=jI,Seq:=c.Seq,Of:=_,Off:=13,Len:=17} _ s=s from if_neg λh=>absurd h.1 (by show ¬(3:Int)=2; decide),if_pos trivial,if_pos trivial,eX,show max c.Seq (c.Seq+1)=c.Seq+1 by omega]
    rw[jS λy _=>by
      show qO _ _ (pK _ _ y)=y
      rw[show pK { Kind:=3,Id:=jI,Seq:=c.Seq,Of:=s.Seq,Off:=13,Len:=17} { Vol:=v,File:=x.Files+1,Off:=13,Len:=17} y=y from if_neg λh=>absurd h.1 (by show ¬(3:Int)=1; decide)]
      exact if_neg λh=>absurd h.2.1 (by show ¬(3:Int)=1; decide)]
  have e2:∀t:aH,iG (qF v c.Seq s.Seq).Items t=(t.Seq==s.Seq):=λt=>by simp[iG,qF]
  have e3:(qP c (qF v c.Seq s.Seq) x).Snaps=(jU c s.Seq).Snaps:=by
    show (iY c _ x).Snaps.filter _=_
    rw[e1,show (λt=> !iG (qF v c.Seq s.Seq).Items t)=λt:aH=> !(t.Seq==s.Seq) from funext λt=>by rw[e2]]
    rfl
  have hlt:(jU c s.Seq).Snaps.length < c.Snaps.length:=by
    rcases Nat.lt_or_ge (jU c s.Seq).Snaps.length c.Snaps.length with w | w
    · exact w
    · have hl:=List.length_filter_le (λt:aH=> !(t.Seq==s.Seq)) c.Snaps
      have w:c.Snaps.length≤(c.Snaps.filter λt=> !(t.Seq==s.Seq)).length:=w
      have:=List.length_filter_eq_length_iff.1 (Nat.le_antisymm hl w) s hm
      simp at this
  have e4:(iY c (qF v c.Seq s.Seq) x).Snaps=c.Snaps:=by rw[e1]
  unfold i6
  rw[if_pos (by rw[e3,e4]; exact hlt)]
  unfold qP p8 jU
  rw[show (λt=> !iG (qF v c.Seq s.Seq).Items t)=λt:aH=> !(t.Seq==s.Seq) from funext λt=>by rw[e2],e1]
  rfl
theorem J7 {c:aA} (G:Gd c) {s:aH} (hm:s∈c.Snaps):(p8 c s.Seq).Snaps.length+1=c.Snaps.length:=by
 have h1:=N3 G.so (g:=λt=>t.Seq==s.Seq) (q:=s.Seq) (λt _ h=>by simpa using h) (List.any_eq_true.2 ⟨s,hm,by simp⟩)
 have:(c.Snaps.filter λt=>t.Seq==s.Seq).length+(c.Snaps.filter λt=> !(t.Seq==s.Seq)).length=c.Snaps.length:=by
  generalize c.Snaps=m
  induction m with
  | nil=>rfl
  | cons a m ih=>
   rw[List.filter_cons,List.filter_cons]
   cases a.Seq==s.Seq <;> simp <;> omega
 show (c.Snaps.filter λt=> !(t.Seq==s.Seq)).length+1=_
 omega
theorem zH {q:List Int} {l:List nX} {p k:Int} (gq:gL gI q) (gl:gL HW l) (gp:gI p) (gk:gI k):M12 1000 q l p k=some true:=by
 have hF:1000≤1000:=Nat.le_refl _
 have key:T (M12 1000 q l p k) λb=>b=true:=by
  unfold M12
  refine .after (.ite (λ_=>.brk (T.ite (λ_=>.some rfl) λh=>absurd rfl h)) λ_=>.bind _ (t27 hF) λb hb=>.brk (T.ite (λ_=>.some rfl) λhb0=> ?_))
  have ho:=hb (by simpa using hb0)
  refine .bind _ (t29 hF gq) λq hq=>.bind _ (aF6 hF hq.1 hq.2.1 hq.2.2 gl ho) λc hc=> ?_
  obtain⟨h,hg,B⟩:=hc
  have G:=iF.1 hg
  have hvn:=G.vn
  simp only[eY,Bool.and_eq_true,decide_eq_true_eq] at hvn
  obtain⟨w,hw1,hw⟩:=QL p (n:=c.Vols.length) (by omega) (by omega)
  rw[← UM (n:=c.Vols.length) (by omega)] at hw
  have hx:c.Vols[w]? =some c.Vols[w]:=List.getElem?_eq_getElem hw1
  have hm:=List.getElem_mem hw1
  generalize c.Vols[w]=x at hx hm
  have hx':c.Vols[((w:Int)).toNat]? =some x:=by simpa using hx
  have gw:gI (w:Int):=⟨by omega,by omega⟩
  refine .grd (by rw[UM (by omega)]; exact bne_iff_ne.2 (by omega)) ?_
  rw[hw]
  refine .after (.ite (λ_=>.brk (T.ite (λ_=>.bindEq VG (.some rfl)) λh=>absurd rfl h)) λhne=>.bindEq (by rw[a8,hx]) (.brk (T.ite (λ_=>.bindEq VG (.some rfl)) λhs=> ?_)))
  have hs:x.State≠3:=by simpa using hs
  have hsn:=h.sn
  have hsn8:=G.sn
  have hch:=h.ch
  have hen:=h.ex
  have hne:0 < c.Snaps.length:=by
   have:¬((c.Snaps.length:Int)=0):=by simpa using hne
   omega
  obtain⟨u,hu1,hu⟩:=QL k (n:=c.Snaps.length) hne (by omega)
  rw[← UM (n:=c.Snaps.length) (by omega)] at hu
  have hy:c.Snaps[u]? =some c.Snaps[u]:=List.getElem?_eq_getElem hu1
  have hym:=List.getElem_mem hu1
  generalize c.Snaps[u]=s at hy hym
  refine .grd (by rw[UM (by omega)]; exact bne_iff_ne.2 (by omega)) ?_
  rw[hu]
  refine .bindEq (by rw[a8,hy]) ?_
  have W:Wok 30 c (qF w c.Seq s.Seq) x:=Q4 h G B hx' (by omega) gw hs hym
  obtain⟨GE,BE⟩:=VF h G B (by decide) W
  have hap:=NX hF h G rfl W.w gw (by show (0:Int)≤w; omega) hx'
  rw[if_pos W.k,if_pos (List.all_eq_true.2 λi hi=>W.p i hi),if_pos (iF.2 GE)] at hap
  have SE:=DI h G W.w gw hx' W.kd
  have GF:=VH (q:=s.Seq) G
  have SF:=yX (n:=s.Seq) h
  have hany:c.Snaps.any (λt=>t.Seq==s.Seq)=true:=List.any_eq_true.2 ⟨s,hym,by simp⟩
  have hdr:=QN (d:= { Kind:=2,Snap:= { Seq:=0,Man:= { Name:=ByteArray.empty,Parts:= []},Locs:= []},Chunks:= [],Seq:=s.Seq,Vol:=0,Items:= []}) hF h G rfl
  rw[show c.Snaps.any (λt=>t.Seq==({ Kind:=2,Snap:= { Seq:=0,Man:= { Name:=ByteArray.empty,Parts:= []},Locs:= []},Chunks:= [],Seq:=s.Seq,Vol:=0,Items:= []}:aN).Seq)=true from hany,if_pos rfl,if_pos (show gG (p8 c s.Seq)=true from iF.2 GF)] at hdr
  refine .bindEq hap (.bindEq hdr ?_)
  have hwe:=OA (v:=(w:Int)) (x:=x) G hym
  have es:(i6 c (qF w c.Seq s.Seq) x).Snaps=(p8 c s.Seq).Snaps:=by rw[hwe]
  have ek:(i6 c (qF w c.Seq s.Seq) x).Chunks=(p8 c s.Seq).Chunks:=by rw[hwe]
  have ee:(i6 c (qF w c.Seq s.Seq) x).Exps.length=c.Exps.length+1:=by rw[hwe]; simp
  have eq':(i6 c (qF w c.Seq s.Seq) x).Seq=c.Seq+1:=by rw[hwe]
  have bq:=B.q
  have hq0:=G.q
  simp only[eY,Bool.and_eq_true,decide_eq_true_eq] at hq0
  have hless:=J7 G hym
  generalize i6 c (qF w c.Seq s.Seq) x=e at GE BE SE es ek ee eq' ⊢
  have hnm:e.Snaps.any (λt=>t.Man.Name.toList==s.Man.Name.toList)=false:=List.any_eq_false.2 λt ht=>by
   rw[es] at ht
   obtain⟨h1,h2⟩:=List.mem_filter.1 ht
   rw[J5 G hym ⟨t,h1,rfl,λe=>by rw[e] at h2; simp at h2⟩]
   decide
  have L0:aU (λs=>vS 1000 (e,0) s) 1000 0=some (.brk (e.Chunks.length:Int)):=by
   have hec:=SE.ch
   refine jL (λi:Nat=>(i:Int)) (by omega) rfl (λi hi=> ?_) (by unfold vS; simp)
   have hz:e.Chunks[i]? =some e.Chunks[i]:=List.getElem?_eq_getElem hi
   have hzm:=List.getElem_mem hi
   generalize e.Chunks[i]=z at hz hzm
   unfold vS
   rw[hH (by omega)]
   simp only[a8,hz,Option.bind_some,Int.ofNat_lt,hi,decide_true,if_true,m65 hF SE]
   rw[ek] at hzm
   obtain⟨y,hy,rfl⟩:=List.mem_map.1 hzm
   have hlv:=(List.mem_filter.1 hy).2
   have hub:kU e (wX (jU c s.Seq) y).Id=kU (jU c s.Seq) y.Id:=by
    rw[(gH _ y).2.1]
    unfold kU
    rw[es]; rfl
   rw[hub]
   cases hu2:kU (jU c s.Seq) y.Id with
   | true=>simp[aG]
   | false=>
    have e5:wX (jU c s.Seq) y= { y with Staged:=false,Data:= []}:=by unfold wX; rw[hu2]; rfl
    rw[e5] at hlv ⊢
    have:y.Locs≠ []:=λhn=>by
     simp[m8,hn] at hlv
    simp[aG,this]
  have man:=h.man s hym
  have gm:rO s.Man:=(h.g.2.1 s hym).2.1
  have hd3:E5 { Kind:=1,Snap:= { Seq:=e.Seq,Man:= { Name:=s.Man.Name,Parts:= []},Locs:= []},Chunks:= [],Seq:=0,Vol:=0,Items:= []}:=⟨SE.g.1,⟨man.1,by simp,by simp,⟨gm.1,λp hp=>by cases hp⟩⟩,rfl,by simp,by simp,⟨by show _≤(0:Int); decide,by show (0:Int) < _; decide⟩,⟨by show _≤(0:Int); decide,by show (0:Int) < _; decide⟩,by simp,by simp⟩
  have hadd:=UR hF SE GE hd3 rfl
  rw[if_pos ⟨rfl,rfl⟩,show e.Snaps.any (λt=>t.Man.Name.toList==({ Kind:=1,Snap:= { Seq:=e.Seq,Man:= { Name:=s.Man.Name,Parts:= []},Locs:= []},Chunks:= [],Seq:=0,Vol:=0,Items:= []}:aN).Snap.Man.Name.toList)=false from hnm,if_neg (by decide)] at hadd
  have hesn:e.Snaps.length+1=c.Snaps.length:=by rw[es]; exact hless
  have GN:Gd (ad e { Kind:=1,Snap:= { Seq:=e.Seq,Man:= { Name:=s.Man.Name,Parts:= []},Locs:= []},Chunks:= [],Seq:=0,Vol:=0,Items:= []}):=by
   have mb:=G.sb s hym
   unfold rP at mb
   simp only[Bool.and_eq_true] at mb
   refine { q:= ?_,v:=GE.v,vn:=GE.vn,cn:=GE.cn,co:=GE.co,cl:=GE.cl,cs:=GE.cs,sn:= ?_,so:= ?_,sq:= ?_,sm:= ?_,sb:= ?_,sl:= ?_,sp:= ?_,en:=GE.en,eo:=GE.eo,eq:= ?_,el:=GE.el,ee:=GE.ee,ex:= ?_}
   ·show eY (e.Seq+1) 0 1073741824=true
    simp only[eY,Bool.and_eq_true,decide_eq_true_eq]; omega
   ·show (e.Snaps++_).length≤8
    rw[List.length_append]
    simp; omega
   ·refine List.pairwise_append.2 ⟨GE.so,List.pairwise_singleton _ _,λa ha b hb=> ?_⟩
    rw[List.mem_singleton.1 hb]
    have:=GE.sq a ha
    simp only[eY,Bool.and_eq_true,decide_eq_true_eq] at this
    show a.Seq < e.Seq
    omega
   ·intro t ht
    show eY t.Seq 0 (e.Seq+1 - 1)=true
    rcases List.mem_append.1 ht with h1 | h1
    ·have:=GE.sq t h1
     simp only[eY,Bool.and_eq_true,decide_eq_true_eq] at this ⊢
     omega
    ·rw[List.mem_singleton.1 h1]
     simp only[eY,Bool.and_eq_true,decide_eq_true_eq]
     omega
   ·refine List.pairwise_append.2 ⟨GE.sm,List.pairwise_singleton _ _,λa ha b hb=> ?_⟩
    rw[List.mem_singleton.1 hb]
    have hna:=List.any_eq_false.1 hnm a ha
    cases hb2:(({ Seq:=e.Seq,Man:= { Name:=s.Man.Name,Parts:= []},Locs:= []}:aH).Man.Name==a.Man.Name) with
    | false=>rfl
    | true=>
     have h9:s.Man.Name=a.Man.Name:=(iI _ _).1 hb2
     exact absurd (by rw[h9]; simp) hna
   ·intro t ht
    rcases List.mem_append.1 ht with h1 | h1
    ·exact GE.sb t h1
    ·rw[List.mem_singleton.1 h1]
     unfold rP
     simp[mb.1.1]
   ·intro t ht
    rcases List.mem_append.1 ht with h1 | h1
    ·exact GE.sl t h1
    ·rw[List.mem_singleton.1 h1]
     exact⟨by simp,λy hy=>(by cases hy),.nil⟩
   ·intro t ht
    rcases List.mem_append.1 ht with h1 | h1
    ·exact GE.sp t h1
    ·rw[List.mem_singleton.1 h1]
     rfl
   ·intro y hy
    have:=GE.eq y hy
    show eY y.Seq 0 (e.Seq+1 - 1)=true∧_
    simp only[eY,Bool.and_eq_true,decide_eq_true_eq] at this ⊢
    omega
   ·intro y hy t ht
    rcases List.mem_append.1 ht with h1 | h1
    ·exact GE.ex y hy t h1
    ·rw[List.mem_singleton.1 h1]
     have:=GE.eq y hy
     simp only[eY,Bool.and_eq_true,decide_eq_true_eq] at this
     show e.Seq≠y.Of
     omega
  rw[if_pos (iF.2 GN)] at hadd
  refine .of (a:=true) ?_ rfl
  have e47:VU 1000 e.Chunks (p8 c s.Seq).Chunks=some true:=by
   rw[ek]; exact m55 hF SF.ch SF.cl
  have hnl:((ad e { Kind:=1,Snap:= { Seq:=e.Seq,Man:= { Name:=s.Man.Name,Parts:= []},Locs:= []},Chunks:= [],Seq:=0,Vol:=0,Items:= []}).Snaps.length:Int)=c.Snaps.length:=by
   show ((e.Snaps++_).length:Int)=_
   rw[List.length_append]
   simp; omega
  have hq1:(p8 c s.Seq).Seq=c.Seq:=rfl
  simp only[L0,hadd,hnl,Option.bind_some,m47 hF (show e.Snaps.length < 1000 by omega),iL hnm,e47,hq1]
  simp only[eq',wr (n:=c.Seq+1) (by omega) (by omega),wr (n:=(c.Exps.length:Int)+1) (by omega) (by omega),wr (n:=(c.Snaps.length:Int) - 1) (by omega) (by omega)]
  rw[if_neg (by simp),if_neg (by simp),if_neg (by simp; omega),if_neg (by simp[es]),if_neg (by simp),if_neg (by simp; omega),if_neg (by simp),if_neg (by simp)]
  simp[aG,VG]
 obtain⟨b,hb,rfl⟩:=key
 exact hb
end Go.Proofs.YtbbifdfldpfphaaGreat
