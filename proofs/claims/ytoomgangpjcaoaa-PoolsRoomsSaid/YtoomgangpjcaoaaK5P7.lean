import Derived.Test.YtoomgangpjcaoaaK5P6
import Derived.Test.YtoomgangpjcaoaaK5P4
import Derived.Test.YtoomgangpjcaoaaK5P5
import Derived.Test.YtoomgangpjcaoaaK5P3
set_option linter.unusedSimpArgs false
set_option linter.unusedVariables false
namespace Go.Proofs.Ytoomgangpjcaoaa
open Go.Vm
def M54a_L0 (fuel : Nat) (p0 : List TChunk) (q0 : List TChunk) (q1 : Int) : Option (Lp ((List TChunk) × Int) ((List TChunk))) :=
 if (decide (q1 < (p0.length : Int))) = true then ((ix p0 q1).bind fun x0 => (M100 fuel x0.Data).bind fun y0 => (M53 fuel x0.Locs).bind fun y1 => (app q0 ([{ { x0 with Data := y0 } with Locs := y1 }] : List TChunk)).bind fun z0 => some (.go (z0, IntKind.wrap .i64 (q1 + 1)))) else some (.brk (q0, q1))
def M54a (fuel : Nat) (p0 : List TChunk) : Option ((List TChunk)) :=
 after (loopM (fun s => M54a_L0 fuel p0 s.1 s.2) fuel ([], 0)) fun ⟨r0, r1⟩ => some r0
set_option maxHeartbeats 4000000 in
set_option maxRecDepth 100000 in
theorem W54a {fuel : Nat} {p0 : List TChunk} {o : (List TChunk)} (h : Heap) (hm : M54a fuel p0 = some o) :
 ACalls Try.prog 54 [.sl none 35 (List.map c_Chunk p0)] h (fun r h' => ∃ g : AGh, AOk g 35 o.length ∧ HOk h [(g.t, .obj 63 (fl c_Chunk o g.sp))] ∧ r = aw g.t g.n g.cap ∧ h' = hp h [(g.t, .obj 63 (fl c_Chunk o g.sp))]) := by
 refine ACalls_hp 29 [.tmp 2] Try.func54 rfl rfl rfl rfl ?_
 unfold M54a at hm
 refine AW_lq ?_
 refine Zf fun K1 H1 => (Za (s_v (o_as (.sc (.slice _ _ _)) rfl) (Zb (H1 _ _ (Zf fun K2 H2 => (Za (s_v (o_as (.sc (.slice _ _ _)) rfl) (Zb (H2 _ _ (Zf fun K3 H3 => (Zf fun K4 H4 => (Za (vC rfl (Zb (H4 _ _ ?_)))))))))))))))
 refine (LeF.put (t := 3) (v := aw g0.t g0.n g0.cap) (Sub.refl _) (ALe_nilA _)).aw ?_
 refine AW_loopL (n := 29) (h := h) hm (σ := (List TChunk) × Int) (τ := AGh) (fun g s => [(g.t, .obj 63 (fl c_Chunk (s.1 : List TChunk) g.sp))]) (fun g s => AOk g 35 (s.1 : List TChunk).length) (fun g s => kp (kp (kp (k0) 4 (.sc (.int .i64 s.2))) 3 (aw g.t g.n g.cap)) 0 (.sl none 35 (List.map c_Chunk p0))) g0 (⟨HOk.none (HOk.nil _), (AOk.g0 35)⟩) (LeF.s (.k3 .nil)) ?_ ?_
 rintro ag0 ⟨q0, q1⟩ x ⟨hk0, ok0⟩ hm
 replace hm : M54a_L0 fuel p0 q0 q1 = some x := hm
 unfold M54a_L0 at hm
 refine Zf fun K0 H5 => (Zf fun K5 H6 => (Za (vA rfl (vE rfl (s_v (o_lenm ln23 rfl) (vF rfl rfl rfl (Zb (H6 _ _ ?_))))))))
 refine AW_if' rfl (fun hc0 => ?_) (fun hc0 => ?_)
 have hm := Zi hm hc0
 refine Zl (H5 _ _ (Zf fun K6 H7 => (AW_block (Zf fun K7 H8 => (Za (vE rfl (vA rfl ?_)))))))
 obtain ⟨x0, hx0, hm⟩ := Zc hm
 refine s_v (o_ix hx0 el23 rfl rfl) (s_v (o_ld (.agg (c_Chunk x0)) ld63 rfl rfl) ?_)
 refine s_op (a_alloc (c_id idZ ++ ([.sc (.bool false), .sc (.slice none 0 0), .sc (.slice none 0 0)] : List AV)) hk0 zr63 rfl rfl fun k116 hk1 => ?_)
 refine s_op (a_store 0 (c_Chunk x0) hk1 rfl rfl rfl rfl sz63 rfl rfl fun hk2 => ?_)
 refine Zb (H8 _ _ (Zf fun K8 H9 => ?_))
 refine AW_zreg [(7, some k116, .obj 63 (c_Chunk x0))] mixed (⟨fun _ => hp_at 0 hk2 rfl, trivial⟩) ?_
 refine z_w 0 rfl (fun S' h' hi hB => Zh fd63_2 rfl rfl) ?_
 refine z_w 1 rfl (fun S' h' hi hB => Zg (.sl none 1 (List.map c_u8 x0.Data)) ld52 rfl (At.s (InvL.get 0 hi rfl (hB 7 (by kernel_rfl)))) rfl) ?_
 obtain ⟨y0, hy0, hm⟩ := Zc hm
 refine z_w 2 rfl (fun S' h' hi hB => o_call (W100 _ hy0) rfl bd100 rfl) ?_
 refine z_w 3 rfl (fun S' h' hi hB => Zh fd63_3 rfl rfl) ?_
 refine z_w 4 rfl (fun S' h' hi hB => Zg (.sl none 4 (List.map c_Loc x0.Locs)) ld58 rfl (At.s (InvL.get 0 hi rfl (hB 7 (by kernel_rfl)))) rfl) ?_
 obtain ⟨y1, hy1, hm⟩ := Zc hm
 refine z_w 5 rfl (fun S' h' hi hB => o_call (W53 _ hy1) rfl bd53 rfl) ?_
 refine z_w 6 rfl (fun S' h' hi hB => Zh fd63_2 rfl rfl) ?_
 refine z_e 7 rfl (by kernel_rfl) (a_store 0 (c_Chunk { x0 with Data := y0 }) hk2 rfl rfl rfl rfl sz52 rfl rfl fun hk3 => ⟨⟨fun e => absurd e (by decide), trivial⟩, ?_⟩)
 refine z_w 8 rfl (fun S' h' hi hB => Zh fd63_3 rfl rfl) ?_
 refine z_e 9 rfl (by kernel_rfl) (a_store 0 (c_Chunk { { x0 with Data := y0 } with Locs := y1 }) hk3 rfl rfl rfl rfl sz58 rfl rfl fun hk4 => ⟨⟨fun e => absurd e (by decide), trivial⟩, ?_⟩)
 refine z_nil (by kernel_rfl) ?_
 refine H9 _ _ (Za (s_v (o_mv (aw _ _ _) rfl) (s_v (Zg (.agg (c_Chunk { { x0 with Data := y0 } with Locs := y1 })) ld63 rfl (Zd 0 hk4 rfl) rfl) (s_v (o_lit (List.map c_Chunk ([{ { x0 with Data := y0 } with Locs := y1 }] : List TChunk)) et23 rfl rfl rfl rfl) ?_))))
 obtain ⟨z0, hz0, hm⟩ := Zc hm
 refine s_op (a_appA (c := c_Chunk) 1 hz0 et23 rfl zr63 rfl cz_Chunk rfl rfl ok0 hk4 rfl fun ag1 ok1 hk5 => ?_)
 refine s_v (o_as (aw _ _ _) rfl) (Zb (H7 _ _ (Za (vA rfl (vF rfl rfl rfl (vC rfl (Zb ?_)))))))
 cases hm
 exact ⟨rfl, ag1, ⟨(hp_sub (.cons _ (.refl _)) hk5).2, ok1⟩, LeF.fm ((hp_sub (.cons _ (.refl _)) hk5).1) (.k3 .nil)⟩
 have hm := Zj hm hc0
 refine AW_exit ?_
 refine Seq_exit ?_
 cases hm
 exact ⟨rfl, ag0, ⟨hk0, ok0⟩, LeF.s (.k3 .nil)⟩
 rintro ag2 ⟨r0, r1⟩ fr' h' ⟨hk6, ot0⟩ hm le
 refine H3 _ _ (le.aw ?_)
 refine Zf fun K9 H10 => (Za (s_v (o_mv (aw _ _ _) rfl) (s_v (o_as (aw _ _ _) rfl) (Zb (H10 _ _ (AW_ret ?_))))))
 have hmo := Option.some.inj hm; subst hmo
 exact LqE.mk (LeF.eqh rfl) (Ret.one (.inl rfl) (hp_sub (h0 := h) (L' := [(ag2.t, .obj 63 (fl c_Chunk (r0 : List TChunk) ag2.sp))]) (.refl _) hk6).1 (ALe.refl _ _) ⟨ag2, ot0, (hp_sub (h0 := h) (L' := [(ag2.t, .obj 63 (fl c_Chunk (r0 : List TChunk) ag2.sp))]) (.refl _) hk6).2, rfl, rfl⟩)
def M14d_L0 (fuel : Nat) (p0 : TCatalog) (q0 : List TSnap) (q1 : Int) : Option (Lp ((List TSnap) × Int) (TCatalog)) :=
 if (decide (q1 < (p0.Snaps.length : Int))) = true then ((ix p0.Snaps q1).bind fun x0 => (M52 fuel x0.Man).bind fun y0 => (M53 fuel x0.Locs).bind fun y1 => (app q0 ([{ { x0 with Man := y0 } with Locs := y1 }] : List TSnap)).bind fun z0 => some (.go (z0, IntKind.wrap .i64 (q1 + 1)))) else some (.brk (q0, q1))
def M14d_L2 (fuel : Nat) (p0 : TCatalog) (q0 : List TExp) (q1 : Int) : Option (Lp ((List TExp) × Int) (TCatalog)) :=
 if (decide (q1 < (p0.Exps.length : Int))) = true then ((ix p0.Exps q1).bind fun x0 => (M53 fuel x0.Locs).bind fun y0 => (app q0 ([{ x0 with Locs := y0 }] : List TExp)).bind fun z0 => some (.go (z0, IntKind.wrap .i64 (q1 + 1)))) else some (.brk (q0, q1))
def M14d (fuel : Nat) (p0 : TCatalog) : Option (TCatalog) :=
 after (loopM (fun s => M14d_L0 fuel p0 s.1 s.2) fuel ([], 0)) fun ⟨r0, r1⟩ => after (loopM (fun s => M14d_L2 fuel p0 s.1 s.2) fuel ([], 0)) fun ⟨r2, r3⟩ => (M54a fuel p0.Chunks).bind fun y0 => (app ([] : List TVol) p0.Vols).bind fun z0 => some ({ Seq := p0.Seq, Snaps := r0, Chunks := y0, Exps := r2, Vols := z0 } : TCatalog)
set_option maxHeartbeats 4000000 in
set_option maxRecDepth 100000 in
theorem W14d {fuel : Nat} {p0 : TCatalog} {o : TCatalog} (h : Heap) (hm : M14d fuel p0 = some o) :
 ACalls Try.prog 14 [.agg (c_Catalog p0)] h (fun r h' => ∃ g_Snaps : AGh, AOk g_Snaps 4 o.Snaps.length ∧ ∃ g_Chunks : AGh, AOk g_Chunks 35 o.Chunks.length ∧ ∃ g_Exps : AGh, AOk g_Exps 3 o.Exps.length ∧ ∃ g_Vols : AGh, AOk g_Vols 4 o.Vols.length ∧ HOk h [(g_Snaps.t, .obj 60 (fl c_Snap (o.Snaps : List TSnap) g_Snaps.sp)), (g_Chunks.t, .obj 63 (fl c_Chunk (o.Chunks : List TChunk) g_Chunks.sp)), (g_Exps.t, .obj 65 (fl c_Exp (o.Exps : List TExp) g_Exps.sp)), (g_Vols.t, .obj 40 (fl c_Vol (o.Vols : List TVol) g_Vols.sp))] ∧ r = .agg ([.sc (.int .i64 o.Seq), aw g_Snaps.t g_Snaps.n g_Snaps.cap, aw g_Chunks.t g_Chunks.n g_Chunks.cap, aw g_Exps.t g_Exps.n g_Exps.cap, aw g_Vols.t g_Vols.n g_Vols.cap]) ∧ h' = hp h [(g_Snaps.t, .obj 60 (fl c_Snap (o.Snaps : List TSnap) g_Snaps.sp)), (g_Chunks.t, .obj 63 (fl c_Chunk (o.Chunks : List TChunk) g_Chunks.sp)), (g_Exps.t, .obj 65 (fl c_Exp (o.Exps : List TExp) g_Exps.sp)), (g_Vols.t, .obj 40 (fl c_Vol (o.Vols : List TVol) g_Vols.sp))]) := by
 refine ACalls_hp 68 [.cell 2 27] Try.func14 rfl rfl rfl rfl ?_
 unfold M14d at hm
 refine AW_lq ?_
 refine Zf fun K1 H1 => (Za ?_)
 refine s_op (a_box (HOk.nil _) rfl rfl fun k2 hk3 => ?_)
 refine s_op (a_alloc ([.sc (.int .i64 0), .sc (.slice none 0 0), .sc (.slice none 0 0), .sc (.slice none 0 0), .sc (.slice none 0 0)]) hk3 zr27 rfl rfl fun k5 hk6 => ?_)
 refine Zb (H1 _ _ (Zf fun K8 H8 => (Za (s_v (o_as (.sc (.slice _ _ _)) rfl) (Zb (H8 _ _ (Zf fun K9 H9 => (Zf fun K0 H2 => (Za (vC rfl (Zb (H2 _ _ ?_))))))))))))
 refine (LeF.put (t := 3) (v := aw g0.t g0.n g0.cap) (Sub.refl _) (ALe_nilA _)).aw ?_
 refine AW_loopL (n := 68) (h := h) hm (σ := (List TSnap) × Int) (τ := AGh) (fun g s => [(g.t, .obj 60 (fl c_Snap (s.1 : List TSnap) g.sp)), (some k5, .obj 27 ([.sc (.int .i64 0), .sc (.slice none 0 0), .sc (.slice none 0 0), .sc (.slice none 0 0), .sc (.slice none 0 0)])), (some k2, .obj 27 (c_Catalog p0))]) (fun g s => AOk g 4 (s.1 : List TSnap).length) (fun g s => kp (kp (kp (kp (k0) 4 (.sc (.int .i64 s.2))) 3 (aw g.t g.n g.cap)) 2 (.ptr k5 0)) 1 (.ptr k2 0)) g0 (⟨HOk.none hk6, (AOk.g0 4)⟩) (LeF.s (.k4 .nil)) ?_ ?_
 rintro ag0 ⟨q0, q1⟩ x ⟨hk0, ok0⟩ hm
 replace hm : M14d_L0 fuel p0 q0 q1 = some x := hm
 unfold M14d_L0 at hm
 refine Zf fun K2 H3 => (Zf fun K3 H4 => (Za (vA rfl (s_v (Zh fd27_1 rfl rfl) (s_v (Zg (.sl none 4 (List.map c_Snap p0.Snaps)) ld22 rfl (Zd 2 hk0 rfl) rfl) (s_v (o_lenm ln22 rfl) (vF rfl rfl rfl (Zb (H4 _ _ ?_)))))))))
 refine AW_if' rfl (fun hc0 => ?_) (fun hc0 => ?_)
 have hm := Zi hm hc0
 refine Zl (H3 _ _ (Zf fun K4 H5 => (AW_block (Zf fun K5 H6 => (Za (s_v (Zh fd27_1 rfl rfl) (s_v (Zg (.sl none 4 (List.map c_Snap p0.Snaps)) ld22 rfl (Zd 2 hk0 rfl) rfl) (vA rfl ?_))))))))
 obtain ⟨x0, hx0, hm⟩ := Zc hm
 refine s_v (o_ix hx0 el22 rfl rfl) (s_v (o_ld (.agg (c_Snap x0)) ld60 rfl rfl) ?_)
 refine s_op (a_alloc ([.sc (.int .i64 0), .sc (.string ByteArray.empty), .sc (.slice none 0 0), .sc (.slice none 0 0)]) hk0 zr60 rfl rfl fun k122 hk1 => ?_)
 refine s_op (a_store 0 (c_Snap x0) hk1 rfl rfl rfl rfl sz60 rfl rfl fun hk2 => ?_)
 refine Zb (H6 _ _ (Zf fun K6 H7 => ?_))
 refine AW_zreg [(7, some k122, .obj 60 (c_Snap x0))] mixed (⟨fun _ => hp_at 0 hk2 rfl, trivial⟩) ?_
 refine z_w 0 rfl (fun S' h' hi hB => Zh fd60_1 rfl rfl) ?_
 refine z_w 1 rfl (fun S' h' hi hB => Zg (.agg (c_Manifest x0.Man)) ld57 rfl (At.s (InvL.get 0 hi rfl (hB 7 (by kernel_rfl)))) rfl) ?_
 obtain ⟨y0, hy0, hm⟩ := Zc hm
 refine z_w 2 rfl (fun S' h' hi hB => o_call (W52 _ hy0) rfl bd52 rfl) ?_
 refine z_w 3 rfl (fun S' h' hi hB => Zh fd60_2 rfl rfl) ?_
 refine z_w 4 rfl (fun S' h' hi hB => Zg (.sl none 4 (List.map c_Loc x0.Locs)) ld58 rfl (At.s (InvL.get 0 hi rfl (hB 7 (by kernel_rfl)))) rfl) ?_
 obtain ⟨y1, hy1, hm⟩ := Zc hm
 refine z_w 5 rfl (fun S' h' hi hB => o_call (W53 _ hy1) rfl bd53 rfl) ?_
 refine z_w 6 rfl (fun S' h' hi hB => Zh fd60_1 rfl rfl) ?_
 refine z_e 7 rfl (by kernel_rfl) (a_store 0 (c_Snap { x0 with Man := y0 }) hk2 rfl rfl rfl rfl sz57 rfl rfl fun hk4 => ⟨⟨fun e => absurd e (by decide), trivial⟩, ?_⟩)
 refine z_w 8 rfl (fun S' h' hi hB => Zh fd60_2 rfl rfl) ?_
 refine z_e 9 rfl (by kernel_rfl) (a_store 0 (c_Snap { { x0 with Man := y0 } with Locs := y1 }) hk4 rfl rfl rfl rfl sz58 rfl rfl fun hk5 => ⟨⟨fun e => absurd e (by decide), trivial⟩, ?_⟩)
 refine z_nil (by kernel_rfl) ?_
 refine H7 _ _ (Za (s_v (o_mv (aw _ _ _) rfl) (s_v (Zg (.agg (c_Snap { { x0 with Man := y0 } with Locs := y1 })) ld60 rfl (Zd 0 hk5 rfl) rfl) (s_v (o_lit (List.map c_Snap ([{ { x0 with Man := y0 } with Locs := y1 }] : List TSnap)) et22 rfl rfl rfl rfl) ?_))))
 obtain ⟨z0, hz0, hm⟩ := Zc hm
 refine s_op (a_appA (c := c_Snap) 1 hz0 et22 rfl zr60 rfl cz_Snap rfl rfl ok0 hk5 rfl fun ag1 ok1 hk7 => ?_)
 refine s_v (o_as (aw _ _ _) rfl) (Zb (H5 _ _ (Za (vA rfl (vF rfl rfl rfl (vC rfl (Zb ?_)))))))
 cases hm
 exact ⟨rfl, ag1, ⟨(hp_sub (.cons _ (.refl _)) hk7).2, ok1⟩, LeF.fm ((hp_sub (.cons _ (.refl _)) hk7).1) (.k4 .nil)⟩
 have hm := Zj hm hc0
 refine AW_exit ?_
 refine Seq_exit ?_
 cases hm
 exact ⟨rfl, ag0, ⟨hk0, ok0⟩, LeF.s (.k4 .nil)⟩
 rintro ag2 ⟨r0, r1⟩ fr' h' ⟨hk8, ot0⟩ hm le
 refine H9 _ _ (le.aw ?_)
 refine Zf fun K7 H11 => (Za (s_v (o_as (.sc (.slice _ _ _)) rfl) (Zb (H11 _ _ (Zf fun K11 H12 => (Zf fun K12 H13 => (Za (vC rfl (Zb (H13 _ _ ?_))))))))))
 refine (LeF.put (t := 6) (v := aw g0.t g0.n g0.cap) (Sub.refl _) (ALe_nilA _)).aw ?_
 refine AW_loopL (n := 68) (h := h) hm (σ := (List TExp) × Int) (τ := AGh) (fun g s => [(g.t, .obj 65 (fl c_Exp (s.1 : List TExp) g.sp)), (ag2.t, .obj 60 (fl c_Snap (r0 : List TSnap) ag2.sp)), (some k5, .obj 27 ([.sc (.int .i64 0), .sc (.slice none 0 0), .sc (.slice none 0 0), .sc (.slice none 0 0), .sc (.slice none 0 0)])), (some k2, .obj 27 (c_Catalog p0))]) (fun g s => AOk g 3 (s.1 : List TExp).length) (fun g s => kp (kp (kp (kp (kp (k0) 7 (.sc (.int .i64 s.2))) 6 (aw g.t g.n g.cap)) 3 (aw ag2.t ag2.n ag2.cap)) 2 (.ptr k5 0)) 1 (.ptr k2 0)) g0 (⟨HOk.none hk8, (AOk.g0 3)⟩) (LeF.s (.k5 .nil)) ?_ ?_
 rintro ag3 ⟨q2, q3⟩ x ⟨hk9, ok2⟩ hm
 replace hm : M14d_L2 fuel p0 q2 q3 = some x := hm
 unfold M14d_L2 at hm
 refine Zf fun K13 H14 => (Zf fun K14 H15 => (Za (vA rfl (s_v (Zh fd27_3 rfl rfl) (s_v (Zg (.sl none 3 (List.map c_Exp p0.Exps)) ld24 rfl (Zd 3 hk9 rfl) rfl) (s_v (o_lenm ln24 rfl) (vF rfl rfl rfl (Zb (H15 _ _ ?_)))))))))
 refine AW_if' rfl (fun hc1 => ?_) (fun hc1 => ?_)
 have hm := Zi hm hc1
 refine Zl (H14 _ _ (Zf fun K15 H16 => (AW_block (Zf fun K16 H17 => (Za (s_v (Zh fd27_3 rfl rfl) (s_v (Zg (.sl none 3 (List.map c_Exp p0.Exps)) ld24 rfl (Zd 3 hk9 rfl) rfl) (vA rfl ?_))))))))
 obtain ⟨x1, hx1, hm⟩ := Zc hm
 refine s_v (o_ix hx1 el24 rfl rfl) (s_v (o_ld (.agg (c_Exp x1)) ld65 rfl rfl) ?_)
 refine s_op (a_alloc ([.sc (.int .i64 0), .sc (.int .i64 0), .sc (.slice none 0 0)]) hk9 zr65 rfl rfl fun k238 hk10 => ?_)
 refine s_op (a_store 0 (c_Exp x1) hk10 rfl rfl rfl rfl sz65 rfl rfl fun hk11 => ?_)
 refine Zb (H17 _ _ (Zf fun K17 H18 => (Za (s_v (Zh fd65_2 rfl rfl) (s_v (Zg (.sl none 4 (List.map c_Loc x1.Locs)) ld58 rfl (Zd 0 hk11 rfl) rfl) ?_)))))
 obtain ⟨y2, hy2, hm⟩ := Zc hm
 refine s_v (o_call (W53 _ hy2) rfl bd53 rfl) (s_v (Zh fd65_2 rfl rfl) ?_)
 refine s_op (a_store 0 (c_Exp { x1 with Locs := y2 }) hk11 rfl rfl rfl rfl sz58 rfl rfl fun hk12 => ?_)
 refine Zb (H18 _ _ (Za (s_v (o_mv (aw _ _ _) rfl) (s_v (Zg (.agg (c_Exp { x1 with Locs := y2 })) ld65 rfl (Zd 0 hk12 rfl) rfl) (s_v (o_lit (List.map c_Exp ([{ x1 with Locs := y2 }] : List TExp)) et24 rfl rfl rfl rfl) ?_)))))
 obtain ⟨z1, hz1, hm⟩ := Zc hm
 refine s_op (a_appA (c := c_Exp) 1 hz1 et24 rfl zr65 rfl cz_Exp rfl rfl ok2 hk12 rfl fun ag4 ok3 hk13 => ?_)
 refine s_v (o_as (aw _ _ _) rfl) (Zb (H16 _ _ (Za (vA rfl (vF rfl rfl rfl (vC rfl (Zb ?_)))))))
 cases hm
 exact ⟨rfl, ag4, ⟨(hp_sub (.cons _ (.refl _)) hk13).2, ok3⟩, LeF.fm ((hp_sub (.cons _ (.refl _)) hk13).1) (.k5 .nil)⟩
 have hm := Zj hm hc1
 refine AW_exit ?_
 refine Seq_exit ?_
 cases hm
 exact ⟨rfl, ag3, ⟨hk9, ok2⟩, LeF.s (.k5 .nil)⟩
 rintro ag5 ⟨r2, r3⟩ fr' h' ⟨hk14, ot1⟩ hm le
 refine H12 _ _ (le.aw ?_)
 refine Zf fun K18 H19 => (Za (s_v (o_as (.sc (.slice _ _ _)) rfl) (Zb (H19 _ _ (Zf fun K19 H20 => ?_)))))
 refine AW_zreg [(10, some k2, .obj 27 (c_Catalog p0))] mixed (⟨fun _ => hp_at 3 hk14 rfl, trivial⟩) ?_
 refine z_w 0 rfl (fun S' h' hi hB => o_mv (aw _ _ _) rfl) ?_
 refine z_w 1 rfl (fun S' h' hi hB => Zh fd27_2 rfl rfl) ?_
 refine z_w 2 rfl (fun S' h' hi hB => Zg (.sl none 35 (List.map c_Chunk p0.Chunks)) ld23 rfl (At.s (InvL.get 0 hi rfl (hB 10 (by kernel_rfl)))) rfl) ?_
 refine z_w 4 rfl (fun S' h' hi hB => o_mv (aw _ _ _) rfl) ?_
 refine z_w 5 rfl (fun S' h' hi hB => o_mv (.sc (.slice _ _ _)) rfl) ?_
 refine z_w 6 rfl (fun S' h' hi hB => Zh fd27_4 rfl rfl) ?_
 refine z_w 7 rfl (fun S' h' hi hB => Zg (.sl none 4 (List.map c_Vol p0.Vols)) ld25 rfl (At.s (InvL.get 0 hi rfl (hB 10 (by kernel_rfl)))) rfl) ?_
 refine z_w 9 rfl (fun S' h' hi hB => Zh fd27_1 rfl rfl) ?_
 obtain ⟨y3, hy3, hm⟩ := Zc hm
 refine z_e 3 rfl (by kernel_rfl) (a_call (W54a _ hy3) rfl bd54 rfl ?_)
 rintro x h' ⟨ag6, ok4, hk15, rfl, rfl⟩
 rw [hp_cat]
 refine ⟨⟨fun _ => hp_at 4 (HOk.co hk14 hk15) rfl, trivial⟩, ?_⟩
 obtain ⟨z2, hz2, hm⟩ := Zc hm
 refine z_e 8 rfl (by kernel_rfl) (a_appA0 (c := c_Vol) hz2 et25 rfl zr40 rfl cz_Vol rfl (HOk.co hk14 hk15) rfl fun ag7 ok5 hk16 => ⟨⟨fun _ => hp_at 5 hk16 rfl, trivial⟩, ?_⟩)
 refine z_e 10 rfl (by kernel_rfl) (a_store 5 ([.sc (.int .i64 p0.Seq), aw ag2.t ag2.n ag2.cap, .sl none 35 (List.map c_Chunk p0.Chunks), .sl none 3 (List.map c_Exp p0.Exps), .sl none 4 (List.map c_Vol p0.Vols)]) hk16 rfl rfl (cellsOf_aw rfl) (all_c (ocell_aw _ _ _) rfl) sz22 rfl rfl fun hk17 => ⟨⟨fun e => absurd e (by decide), trivial⟩, ?_⟩)
 refine z_w 11 rfl (fun S' h' hi hB => Zh fd27_2 rfl rfl) ?_
 refine z_e 12 rfl (by kernel_rfl) (a_store 5 ([.sc (.int .i64 p0.Seq), aw ag2.t ag2.n ag2.cap, aw ag6.t ag6.n ag6.cap, .sl none 3 (List.map c_Exp p0.Exps), .sl none 4 (List.map c_Vol p0.Vols)]) hk17 rfl rfl (cellsOf_aw rfl) (all_c (ocell_aw _ _ _) rfl) sz23 rfl rfl fun hk18 => ⟨⟨fun e => absurd e (by decide), trivial⟩, ?_⟩)
 refine z_w 13 rfl (fun S' h' hi hB => Zh fd27_3 rfl rfl) ?_
 refine z_e 14 rfl (by kernel_rfl) (a_store 5 ([.sc (.int .i64 p0.Seq), aw ag2.t ag2.n ag2.cap, aw ag6.t ag6.n ag6.cap, aw ag5.t ag5.n ag5.cap, .sl none 4 (List.map c_Vol p0.Vols)]) hk18 rfl rfl (cellsOf_aw rfl) (all_c (ocell_aw _ _ _) rfl) sz24 rfl rfl fun hk19 => ⟨⟨fun e => absurd e (by decide), trivial⟩, ?_⟩)
 refine z_w 15 rfl (fun S' h' hi hB => Zh fd27_4 rfl rfl) ?_
 refine z_e 16 rfl (by kernel_rfl) (a_store 5 ([.sc (.int .i64 p0.Seq), aw ag2.t ag2.n ag2.cap, aw ag6.t ag6.n ag6.cap, aw ag5.t ag5.n ag5.cap, aw ag7.t ag7.n ag7.cap]) hk19 rfl rfl (cellsOf_aw rfl) (all_c (ocell_aw _ _ _) rfl) sz25 rfl rfl fun hk20 => ⟨⟨fun e => absurd e (by decide), trivial⟩, ?_⟩)
 refine z_nil (by kernel_rfl) ?_
 refine H20 _ _ (Zf fun K20 H21 => (Za (s_v (Zg (.agg ([.sc (.int .i64 p0.Seq), aw ag2.t ag2.n ag2.cap, aw ag6.t ag6.n ag6.cap, aw ag5.t ag5.n ag5.cap, aw ag7.t ag7.n ag7.cap])) ld27 rfl (Zd 5 hk20 rfl) rfl) ?_)))
 refine s_op (a_store 4 ([.sc (.int .i64 p0.Seq), aw ag2.t ag2.n ag2.cap, aw ag6.t ag6.n ag6.cap, aw ag5.t ag5.n ag5.cap, aw ag7.t ag7.n ag7.cap]) hk20 rfl rfl rfl (by repeat (first | exact rfl | refine all_c (ocell_ow _ _ _) ?_ | refine all_c (ocell_aw _ _ _) ?_ | refine all_c rfl ?_)) sz27 rfl rfl fun hk21 => ?_)
 refine Zb (H21 _ _ (AW_ret ?_))
 have hmo := Option.some.inj hm; subst hmo
 exact LqE.mk (LeF.eqh rfl) (Ret.of1 (.inl rfl) (rsC (.agg ([.sc (.int .i64 p0.Seq), aw ag2.t ag2.n ag2.cap, aw ag6.t ag6.n ag6.cap, aw ag5.t ag5.n ag5.cap, aw ag7.t ag7.n ag7.cap])) ld27 rfl (Zd 4 hk21 rfl) rfl) (hp_pick hk21 [3, 1, 2, 0] rfl).2 (ALe.refl _ _) ⟨ag2, ot0, ag6, ok4, ag5, ot1, ag7, ok5, (hp_pick hk21 [3, 1, 2, 0] rfl).1, rfl, rfl⟩)
def M148 (fuel : Nat) (p0 : TLoc) (p1 : TLoc) : Option (Bool) :=
 if (p0.Vol != p1.Vol) = true then (some (decide (p0.Vol < p1.Vol))) else if (p0.File != p1.File) = true then (some (decide (p0.File < p1.File))) else if (p0.Off != p1.Off) = true then (some (decide (p0.Off < p1.Off))) else some (decide (p0.Len < p1.Len))
set_option maxHeartbeats 4000000 in
set_option maxRecDepth 100000 in
theorem W148 {fuel : Nat} {p0 : TLoc} {p1 : TLoc} {o : Bool} (h : Heap) (hm : M148 fuel p0 p1 = some o) :
 ACalls Try.prog 148 [.agg (c_Loc p0), .agg (c_Loc p1)] h (fun r h' => r = .sc (.bool o) ∧ h' = h) := by
 refine ACalls_hp 40 [.tmp 4] Try.func148 rfl rfl rfl rfl ?_
 unfold M148 at hm
 refine Zf fun K1 H1 => (Za ?_)
 refine s_op (a_box (HOk.nil _) rfl rfl fun k2 hk3 => ?_)
 refine s_op (a_box hk3 rfl rfl fun k5 hk6 => ?_)
 refine vD rfl (Zb (H1 _ _ (Zf fun K8 H8 => (Zf fun K9 H9 => (Za (s_v (Zh fd77_0 rfl rfl) (s_v (Zg (.sc (.int .i64 p0.Vol)) ld3 rfl (Zd 1 hk6 rfl) rfl) (s_v (Zh fd77_0 rfl rfl) (s_v (Zg (.sc (.int .i64 p1.Vol)) ld3 rfl (Zd 0 hk6 rfl) rfl) (vF rfl rfl rfl (Zb (H9 _ _ ?_))))))))))))
 refine AW_if' rfl (fun hc0 => ?_) (fun hc0 => ?_)
 have hm := Zi hm hc0
 refine Zf fun K0 H2 => (Za (s_v (Zh fd77_0 rfl rfl) (s_v (Zg (.sc (.int .i64 p0.Vol)) ld3 rfl (Zd 1 hk6 rfl) rfl) (s_v (Zh fd77_0 rfl rfl) (s_v (Zg (.sc (.int .i64 p1.Vol)) ld3 rfl (Zd 0 hk6 rfl) rfl) (vF rfl rfl rfl (vD rfl (Zb (H2 _ _ (AW_ret ?_))))))))))
 have hmo := Option.some.inj hm; subst hmo
 exact Ret.of1 (.inl rfl) (rsT _ _ (.sc (.bool _)) rfl) (hp_sub (List.nil_sublist _) hk6).1 (ALe.refl _ _) ⟨rfl, rfl⟩
 have hm := Zj hm hc0
 refine Zl (H8 _ _ (Zf fun K2 H3 => (Zf fun K3 H4 => (Za (s_v (Zh fd77_1 rfl rfl) (s_v (Zg (.sc (.int .i64 p0.File)) ld3 rfl (Zd 1 hk6 rfl) rfl) (s_v (Zh fd77_1 rfl rfl) (s_v (Zg (.sc (.int .i64 p1.File)) ld3 rfl (Zd 0 hk6 rfl) rfl) (vF rfl rfl rfl (Zb (H4 _ _ ?_)))))))))))
 refine AW_if' rfl (fun hc1 => ?_) (fun hc1 => ?_)
 have hm := Zi hm hc1
 refine Zf fun K4 H5 => (Za (s_v (Zh fd77_1 rfl rfl) (s_v (Zg (.sc (.int .i64 p0.File)) ld3 rfl (Zd 1 hk6 rfl) rfl) (s_v (Zh fd77_1 rfl rfl) (s_v (Zg (.sc (.int .i64 p1.File)) ld3 rfl (Zd 0 hk6 rfl) rfl) (vF rfl rfl rfl (vD rfl (Zb (H5 _ _ (AW_ret ?_))))))))))
 have hmo := Option.some.inj hm; subst hmo
 exact Ret.of1 (.inl rfl) (rsT _ _ (.sc (.bool _)) rfl) (hp_sub (List.nil_sublist _) hk6).1 (ALe.refl _ _) ⟨rfl, rfl⟩
 have hm := Zj hm hc1
 refine Zl (H3 _ _ (Zf fun K5 H6 => (Zf fun K6 H7 => (Za (s_v (Zh fd77_2 rfl rfl) (s_v (Zg (.sc (.int .i64 p0.Off)) ld3 rfl (Zd 1 hk6 rfl) rfl) (s_v (Zh fd77_2 rfl rfl) (s_v (Zg (.sc (.int .i64 p1.Off)) ld3 rfl (Zd 0 hk6 rfl) rfl) (vF rfl rfl rfl (Zb (H7 _ _ ?_)))))))))))
 refine AW_if' rfl (fun hc2 => ?_) (fun hc2 => ?_)
 have hm := Zi hm hc2
 refine Zf fun K7 H19 => (Za (s_v (Zh fd77_2 rfl rfl) (s_v (Zg (.sc (.int .i64 p0.Off)) ld3 rfl (Zd 1 hk6 rfl) rfl) (s_v (Zh fd77_2 rfl rfl) (s_v (Zg (.sc (.int .i64 p1.Off)) ld3 rfl (Zd 0 hk6 rfl) rfl) (vF rfl rfl rfl (vD rfl (Zb (H19 _ _ (AW_ret ?_))))))))))
 have hmo := Option.some.inj hm; subst hmo
 exact Ret.of1 (.inl rfl) (rsT _ _ (.sc (.bool _)) rfl) (hp_sub (List.nil_sublist _) hk6).1 (ALe.refl _ _) ⟨rfl, rfl⟩
 have hm := Zj hm hc2
 refine Zl (H6 _ _ (Zf fun K20 H20 => (Za (s_v (Zh fd77_3 rfl rfl) (s_v (Zg (.sc (.int .i64 p0.Len)) ld3 rfl (Zd 1 hk6 rfl) rfl) (s_v (Zh fd77_3 rfl rfl) (s_v (Zg (.sc (.int .i64 p1.Len)) ld3 rfl (Zd 0 hk6 rfl) rfl) (vF rfl rfl rfl (vD rfl (Zb (H20 _ _ (AW_ret ?_))))))))))))
 have hmo := Option.some.inj hm; subst hmo
 exact Ret.of1 (.inl rfl) (rsT _ _ (.sc (.bool _)) rfl) (hp_sub (List.nil_sublist _) hk6).1 (ALe.refl _ _) ⟨rfl, rfl⟩
theorem bd148 : bodied Try.prog 148 = true := by kernel_rfl
def M146_L0 (fuel : Nat) (p0 : List TLoc) (p1 : TLoc) (q0 : Int) : Option (Lp (Int) ((List TLoc))) :=
 after (if (decide (q0 < (p0.length : Int))) = true then ((ix p0 q0).bind fun x0 => (M148 fuel x0 p1).bind fun y0 => some (.brk y0)) else some (.brk false) : Option (Lp (Bool) (Lp (Int) ((List TLoc))))) fun j0 => if j0 = true then (some (.go (IntKind.wrap .i64 (q0 + 1)))) else some (.brk q0)
def M146 (fuel : Nat) (p0 : List TLoc) (p1 : TLoc) : Option ((List TLoc)) :=
 after (loopM (fun s => M146_L0 fuel p0 p1 s) fuel 0) fun r0 => (slc p0 0 r0).bind fun x0 => (app ([] : List TLoc) x0).bind fun z0 => (app z0 ([p1] : List TLoc)).bind fun z1 => (slc p0 r0 (p0).length).bind fun x1 => (app z1 x1).bind fun z2 => some z2
set_option maxHeartbeats 4000000 in
set_option maxRecDepth 100000 in
theorem W146 {fuel : Nat} {p0 : List TLoc} {p1 : TLoc} {o : (List TLoc)} (h : Heap) (hm : M146 fuel p0 p1 = some o) :
 ACalls Try.prog 146 [.sl none 4 (List.map c_Loc p0), .agg (c_Loc p1)] h (fun r h' => r = .sl none 4 (List.map c_Loc o) ∧ h' = h) := by
 refine ACalls_hp 34 [.tmp 4] Try.func146 rfl rfl rfl rfl ?_
 unfold M146 at hm
 refine Zf fun K1 H1 => (Za ?_)
 refine s_op (a_box (HOk.nil _) rfl rfl fun k2 hk3 => ?_)
 refine s_v (o_as (.sc (.slice _ _ _)) rfl) (Zb (H1 _ _ (Zf fun K5 H5 => (Za (vC rfl (Zb (H5 _ _ (Zf fun K6 H6 => ?_))))))))
 refine AW_loopH (n := 34) (h := h) hm (σ := Int) (τ := Unit) (fun g s => [(some k2, .obj 77 (c_Loc p1))]) (fun g s => kp (kp (kp (k0) 5 (.sc (.int .i64 s))) 3 (.ptr k2 0)) 0 (.sl none 4 (List.map c_Loc p0))) () hk3 (LeF.s (.k3 .nil)) ?_ ?_
 rintro _ q0 x hk0 hm
 replace hm : M146_L0 fuel p0 p1 q0 = some x := hm
 unfold M146_L0 at hm
 refine Zf fun K0 H2 => (Zf fun K2 H3 => ?_)
 refine AW_joinH (n := 34) (h := h) hm (σ := Bool) (τ := Unit) (fun g s => [(some k2, .obj 77 (c_Loc p1))]) (fun g s => kp (kp (kp (kp (k0) 18 (.sc (.bool s))) 5 (.sc (.int .i64 q0))) 3 (.ptr k2 0)) 0 (.sl none 4 (List.map c_Loc p0))) (fun x hm => ?_) ?_
 refine AW_rq mixed (by kernel_rfl) ?_
 refine wA rfl (wE rfl (q_v (o_lenm ln58 rfl) (wF rfl rfl rfl (wB rfl ?_))))
 rcases Bool.eq_false_or_eq_true (decide (q0 < (p0.length : Int))) with hb0 | hb0
 have hm := Zi hm hb0
 refine Zk rfl rfl hb0 (wE rfl (Zk rfl rfl hb0 (wA rfl (Zk rfl rfl hb0 ?_))))
 obtain ⟨x0, hx0, hm⟩ := Zc hm
 refine q_v (o_ix hx0 el58 rfl rfl) (Zk rfl rfl hb0 (q_v (o_ld (.agg (c_Loc x0)) ld77 rfl rfl) (Zk rfl rfl hb0 (q_v (Zg (.agg (c_Loc p1)) ld77 rfl (Zd 0 hk0 rfl) rfl) (Zk rfl rfl hb0 ?_)))))
 obtain ⟨y0, hy0, hm⟩ := Zc hm
 refine q_v (o_call (W148 _ hy0) rfl bd148 rfl) (q_v (Zm (.sc (.bool _)) rfl hb0 rfl) (q_nil ?_))
 cases hm
 exact ⟨rfl, (), hk0, LeF.s (.k4 .nil)⟩
 have hm := Zj hm hb0
 refine Ze rfl rfl hb0 (Ze rfl rfl hb0 (Ze rfl rfl hb0 (Ze rfl rfl hb0 (Ze rfl rfl hb0 (Ze rfl rfl hb0 (q_v (Zn (.sc (.bool _)) rfl hb0 rfl) (q_nil ?_)))))))
 cases hm
 exact ⟨rfl, (), hk0, LeF.s (.k4 .nil)⟩
 rintro _ j0 fr' h' hk1 hm le
 refine H3 _ _ (le.aw ?_)
 refine AW_if' rfl (fun hc0 => ?_) (fun hc0 => ?_)
 have hm := Zi hm hc0
 refine Zl (H2 _ _ (AW_block (Za (vA rfl (vF rfl rfl rfl (vC rfl (Zb ?_)))))))
 cases hm
 exact ⟨rfl, (), hk1, LeF.s (.k3 .nil)⟩
 have hm := Zj hm hc0
 refine AW_exit ?_
 refine Seq_exit ?_
 cases hm
 exact ⟨rfl, (), hk1, LeF.s (.k3 .nil)⟩
 rintro _ r0 fr' h' hk2 hm le
 refine H6 _ _ (le.aw ?_)
 refine Zf fun K3 H4 => (Za (s_v (o_as (.sc (.slice _ _ _)) rfl) (Zb (H4 _ _ (Zf fun K4 H7 => ?_)))))
 refine AW_zreg [(1000000, some k2, .obj 77 (c_Loc p1))] mixed (⟨fun _ => hp_at 0 hk2 rfl, trivial⟩) ?_
 refine z_w 0 rfl (fun S' h' hi hB => o_mv (.sc (.slice _ _ _)) rfl) ?_
 refine z_w 1 rfl (fun S' h' hi hB => o_mv (.sl _ _ _) rfl) ?_
 refine z_w 2 rfl (fun S' h' hi hB => o_mv (.sc (.int _ _)) rfl) ?_
 obtain ⟨x1, hx1, hm⟩ := Zc hm
 refine z_w 3 rfl (fun S' h' hi hB => o_slc hx1 el58 rfl rfl rfl rfl) ?_
 refine z_w 5 rfl (fun S' h' hi hB => Zg (.agg (c_Loc p1)) ld77 rfl (At.s (InvL.get 0 hi rfl (hB 1000000 (by kernel_rfl)))) rfl) ?_
 refine z_w 6 rfl (fun S' h' hi hB => o_lit (List.map c_Loc ([p1] : List TLoc)) et58 rfl rfl rfl rfl) ?_
 obtain ⟨z0, hz0, hm⟩ := Zc hm
 refine z_e 4 rfl (by kernel_rfl) (a_app0 (c := c_Loc) hz0 et58 rfl rfl hk2 nofun rfl fun tg0 ot0 hk4 => ⟨⟨fun _ => hp_at 1 hk4 rfl, trivial⟩, ?_⟩)
 obtain ⟨z1, hz1, hm⟩ := Zc hm
 refine z_e 7 rfl (by kernel_rfl) (a_app (c := c_Loc) 0 hz1 et58 rfl rfl rfl ot0 hk4 rfl fun tg1 ot1 hk5 => ⟨⟨fun _ => hp_at 1 hk5 rfl, trivial⟩, ?_⟩)
 refine z_w 8 rfl (fun S' h' hi hB => o_as (ow _ _ _) rfl) ?_
 refine z_nil (by kernel_rfl) ?_
 refine H7 _ _ (Zf fun K7 H8 => (Za (s_v (o_mv (ow _ _ _) rfl) (vE rfl (vA rfl ?_)))))
 obtain ⟨x2, hx2, hm⟩ := Zc hm
 refine s_v (o_slc hx2 el58 rfl rfl rfl rfl) ?_
 obtain ⟨z2, hz2, hm⟩ := Zc hm
 refine s_op (a_app (c := c_Loc) 0 hz2 et58 rfl rfl rfl ot1 hk5 rfl fun tg2 ot2 hk6 => ?_)
 refine s_v (o_as (ow _ _ _) rfl) (Zb (H8 _ _ (AW_ret ?_)))
 have hmo := Option.some.inj hm; subst hmo
 exact Ret.of1 (.inl rfl) (rsT _ _ (ow _ _ _) rfl) (hp_sub (List.nil_sublist _) hk6).1 ((own_frz0 _ 0 ot2 hk6 rfl)) ⟨rfl, rfl⟩
theorem bd146 : bodied Try.prog 146 = true := by kernel_rfl
def M139_L0 (fuel : Nat) (p0 : List TLoc) (p1 : Int) (q0 : List TLoc) (q1 : Int) : Option (Lp ((List TLoc) × Int) ((List TLoc))) :=
 if (decide (q1 < (p0.length : Int))) = true then ((ix p0 q1).bind fun x0 => after (if (x0.Vol != p1) = true then ((ix p0 q1).bind fun x1 => (app q0 ([x1] : List TLoc)).bind fun z0 => some (.brk z0)) else some (.brk q0) : Option (Lp ((List TLoc)) (Lp ((List TLoc) × Int) ((List TLoc))))) fun j0 => some (.go (j0, IntKind.wrap .i64 (q1 + 1)))) else some (.brk (q0, q1))
def M139 (fuel : Nat) (p0 : List TLoc) (p1 : Int) : Option ((List TLoc)) :=
 after (loopM (fun s => M139_L0 fuel p0 p1 s.1 s.2) fuel ([], 0)) fun ⟨r0, r1⟩ => some r0
set_option maxHeartbeats 4000000 in
set_option maxRecDepth 100000 in
theorem W139 {fuel : Nat} {p0 : List TLoc} {p1 : Int} {o : (List TLoc)} (h : Heap) (hm : M139 fuel p0 p1 = some o) :
 ACalls Try.prog 139 [.sl none 4 (List.map c_Loc p0), .sc (.int .i64 p1)] h (fun r h' => r = .sl none 4 (List.map c_Loc o) ∧ h' = h) := by
 refine ACalls_hp 28 [.tmp 4] Try.func139 rfl rfl rfl rfl ?_
 unfold M139 at hm
 refine Zf fun K1 H1 => (Za (s_v (o_as (.sc (.slice _ _ _)) rfl) (Zb (H1 _ _ (Zf fun K2 H2 => (Za (s_v (o_as (.sc (.slice _ _ _)) rfl) (Zb (H2 _ _ (Zf fun K3 H3 => (Zf fun K4 H4 => (Za (vC rfl (Zb (H4 _ _ ?_)))))))))))))))
 refine (LeF.put (t := 5) (v := ow none 4 (List.map c_Loc [])) (Sub.refl _) (ow_nil _ _)).aw ?_
 refine AW_loopL (n := 28) (h := h) hm (σ := (List TLoc) × Int) (τ := Option Key) (fun g s => [(g, .tok 77 4 ((s.1 : List TLoc).length * 4))]) (fun g s => (g = none → s.1 = [])) (fun g s => kp (kp (kp (kp (k0) 6 (.sc (.int .i64 s.2))) 5 (ow g 4 (List.map c_Loc s.1))) 1 (.sc (.int .i64 p1))) 0 (.sl none 4 (List.map c_Loc p0))) none (⟨HOk.none (HOk.nil _), (fun _ => rfl)⟩) (LeF.s (.k4 .nil)) ?_ ?_
 rintro tg0 ⟨q0, q1⟩ x ⟨hk0, ot0⟩ hm
 replace hm : M139_L0 fuel p0 p1 q0 q1 = some x := hm
 unfold M139_L0 at hm
 refine Zf fun K0 H5 => (Zf fun K5 H6 => (Za (vA rfl (vE rfl (s_v (o_lenm ln58 rfl) (vF rfl rfl rfl (Zb (H6 _ _ ?_))))))))
 refine AW_if' rfl (fun hc0 => ?_) (fun hc0 => ?_)
 have hm := Zi hm hc0
 refine Zl (H5 _ _ (Zf fun K6 H7 => (AW_block (Zf fun K7 H8 => (Za (vE rfl (vA rfl ?_)))))))
 obtain ⟨x0, hx0, hm⟩ := Zc hm
 refine s_v (o_ix hx0 el58 rfl rfl) (s_v (o_fl fd77_0 rfl rfl) (s_v (o_ld (.sc (.int .i64 x0.Vol)) ld3 rfl rfl) (vA rfl (vF rfl rfl rfl (Zb (H8 _ _ ?_))))))
 refine AW_joinL (n := 28) (h := h) hm (σ := (List TLoc)) (τ := Option Key) (fun g s => [(g, .tok 77 4 ((s : List TLoc).length * 4))]) (fun g s => (g = none → s = [])) (fun g s => kp (kp (kp (kp (k0) 6 (.sc (.int .i64 q1))) 5 (ow g 4 (List.map c_Loc s))) 1 (.sc (.int .i64 p1))) 0 (.sl none 4 (List.map c_Loc p0))) (fun x hm => ?_) ?_
 refine AW_if' rfl (fun hc1 => ?_) (fun hc1 => ?_)
 have hm := Zi hm hc1
 refine Za (s_v (o_mv (ow _ _ _) rfl) (vE rfl (vA rfl ?_)))
 obtain ⟨x1, hx1, hm⟩ := Zc hm
 refine s_v (o_ix hx1 el58 rfl rfl) (s_v (o_ld (.agg (c_Loc x1)) ld77 rfl rfl) (s_v (o_lit (List.map c_Loc ([x1] : List TLoc)) et58 rfl rfl rfl rfl) ?_))
 obtain ⟨z0, hz0, hm⟩ := Zc hm
 refine s_op (a_app (c := c_Loc) 0 hz0 et58 rfl rfl rfl ot0 hk0 rfl fun tg1 ot1 hk1 => ?_)
 refine s_v (o_as (ow _ _ _) rfl) (Zb ?_)
 cases hm
 exact ⟨rfl, tg1, ⟨hk1, ot1⟩, LeF.s (.k4 .nil)⟩
 have hm := Zj hm hc1
 refine Zl ?_
 cases hm
 exact ⟨rfl, tg0, ⟨hk0, ot0⟩, LeF.s (.k4 .nil)⟩
 rintro tg2 j0 fr' h' ⟨hk2, ot2⟩ hm le
 refine H7 _ _ (le.aw ?_)
 refine Za (vA rfl (vF rfl rfl rfl (vC rfl (Zb ?_))))
 cases hm
 exact ⟨rfl, tg2, ⟨hk2, ot2⟩, LeF.s (.k4 .nil)⟩
 have hm := Zj hm hc0
 refine AW_exit ?_
 refine Seq_exit ?_
 cases hm
 exact ⟨rfl, tg0, ⟨hk0, ot0⟩, LeF.s (.k4 .nil)⟩
 rintro tg3 ⟨r0, r1⟩ fr' h' ⟨hk3, ot3⟩ hm le
 refine H3 _ _ (le.aw ?_)
 refine Zf fun K8 H9 => (Za (s_v (o_mv (ow _ _ _) rfl) (s_v (o_as (ow _ _ _) rfl) (Zb (H9 _ _ (AW_ret ?_))))))
 have hmo := Option.some.inj hm; subst hmo
 exact Ret.of1 (.inl rfl) (rsT _ _ (ow _ _ _) rfl) (hp_sub (List.nil_sublist _) hk3).1 ((own_frz0 _ 0 ot3 hk3 rfl)) ⟨rfl, rfl⟩
theorem bd139 : bodied Try.prog 139 = true := by kernel_rfl
def M110 (fuel : Nat) (p0 : TChange) : Option (TChange) :=
 (M52 fuel p0.Snap.Man).bind fun y0 => (M53 fuel p0.Snap.Locs).bind fun y1 => (M54 fuel ({ { p0 with Snap := { p0.Snap with Man := y0 } } with Snap := { { p0 with Snap := { p0.Snap with Man := y0 } }.Snap with Locs := y1 } }.Chunks)).bind fun y2 => (app ([] : List TItem) ({ { p0 with Snap := { p0.Snap with Man := y0 } } with Snap := { { p0 with Snap := { p0.Snap with Man := y0 } }.Snap with Locs := y1 } }.Items)).bind fun z0 => some ({ Kind := { { { p0 with Snap := { p0.Snap with Man := y0 } } with Snap := { { p0 with Snap := { p0.Snap with Man := y0 } }.Snap with Locs := y1 } } with Chunks := y2 }.Kind, Snap := ({ Seq := ({ { { p0 with Snap := { p0.Snap with Man := y0 } } with Snap := { { p0 with Snap := { p0.Snap with Man := y0 } }.Snap with Locs := y1 } } with Chunks := y2 }.Snap).Seq, Man := ({ Name := (({ { { p0 with Snap := { p0.Snap with Man := y0 } } with Snap := { { p0 with Snap := { p0.Snap with Man := y0 } }.Snap with Locs := y1 } } with Chunks := y2 }.Snap).Man).Name, Parts := (({ { { p0 with Snap := { p0.Snap with Man := y0 } } with Snap := { { p0 with Snap := { p0.Snap with Man := y0 } }.Snap with Locs := y1 } } with Chunks := y2 }.Snap).Man).Parts } : TManifest), Locs := ({ { { p0 with Snap := { p0.Snap with Man := y0 } } with Snap := { { p0 with Snap := { p0.Snap with Man := y0 } }.Snap with Locs := y1 } } with Chunks := y2 }.Snap).Locs } : TSnap), Chunks := { { { p0 with Snap := { p0.Snap with Man := y0 } } with Snap := { { p0 with Snap := { p0.Snap with Man := y0 } }.Snap with Locs := y1 } } with Chunks := y2 }.Chunks, Seq := { { { p0 with Snap := { p0.Snap with Man := y0 } } with Snap := { { p0 with Snap := { p0.Snap with Man := y0 } }.Snap with Locs := y1 } } with Chunks := y2 }.Seq, Vol := { { { p0 with Snap := { p0.Snap with Man := y0 } } with Snap := { { p0 with Snap := { p0.Snap with Man := y0 } }.Snap with Locs := y1 } } with Chunks := y2 }.Vol, Items := z0 } : TChange)
set_option maxHeartbeats 4000000 in
set_option maxRecDepth 100000 in
theorem W110 {fuel : Nat} {p0 : TChange} {o : TChange} (h : Heap) (hm : M110 fuel p0 = some o) :
 ACalls Try.prog 110 [.agg (c_Change p0)] h (fun r h' => r = .agg (c_Change o) ∧ h' = h) := by
 refine ACalls_hp 26 [.cell 2 107] Try.func110 rfl rfl rfl rfl ?_
 unfold M110 at hm
 refine Zf fun K1 H1 => (Za ?_)
 refine s_op (a_box (HOk.nil _) rfl rfl fun k2 hk3 => ?_)
 refine s_op (a_alloc ([.sc (.int .i64 0), .sc (.int .i64 0), .sc (.string ByteArray.empty), .sc (.slice none 0 0), .sc (.slice none 0 0), .sc (.slice none 0 0), .sc (.int .i64 0), .sc (.int .i64 0), .sc (.slice none 0 0)]) hk3 zr107 rfl rfl fun k5 hk6 => ?_)
 refine Zb (H1 _ _ (Zf fun K8 H8 => ?_))
 refine AW_zreg [(10, some k2, .obj 107 (c_Change p0))] mixed (⟨fun _ => hp_at 1 hk6 rfl, trivial⟩) ?_
 refine z_w 0 rfl (fun S' h' hi hB => Zh fd107_1 rfl rfl) ?_
 refine z_w 1 rfl (fun S' h' hi hB => Zh fd60_1 rfl rfl) ?_
 refine z_w 2 rfl (fun S' h' hi hB => Zg (.agg (c_Manifest p0.Snap.Man)) ld57 rfl (At.s (InvL.get 0 hi rfl (hB 10 (by kernel_rfl)))) rfl) ?_
 obtain ⟨y0, hy0, hm⟩ := Zc hm
 refine z_w 3 rfl (fun S' h' hi hB => o_call (W52 _ hy0) rfl bd52 rfl) ?_
 refine z_w 4 rfl (fun S' h' hi hB => Zh fd107_1 rfl rfl) ?_
 refine z_w 5 rfl (fun S' h' hi hB => Zh fd60_2 rfl rfl) ?_
 refine z_w 6 rfl (fun S' h' hi hB => Zg (.sl none 4 (List.map c_Loc p0.Snap.Locs)) ld58 rfl (At.s (InvL.get 0 hi rfl (hB 10 (by kernel_rfl)))) rfl) ?_
 obtain ⟨y1, hy1, hm⟩ := Zc hm
 refine z_w 7 rfl (fun S' h' hi hB => o_call (W53 _ hy1) rfl bd53 rfl) ?_
 refine z_w 8 rfl (fun S' h' hi hB => Zh fd107_1 rfl rfl) ?_
 refine z_w 9 rfl (fun S' h' hi hB => Zh fd60_1 rfl rfl) ?_
 refine z_e 10 rfl (by kernel_rfl) (a_store 1 (c_Change { p0 with Snap := { p0.Snap with Man := y0 } }) hk6 rfl rfl rfl rfl sz57 rfl rfl fun hk0 => ⟨⟨fun e => absurd e (by decide), trivial⟩, ?_⟩)
 refine z_w 11 rfl (fun S' h' hi hB => Zh fd107_1 rfl rfl) ?_
 refine z_w 12 rfl (fun S' h' hi hB => Zh fd60_2 rfl rfl) ?_
 refine z_e 13 rfl (by kernel_rfl) (a_store 1 (c_Change { { p0 with Snap := { p0.Snap with Man := y0 } } with Snap := { { p0 with Snap := { p0.Snap with Man := y0 } }.Snap with Locs := y1 } }) hk0 rfl rfl rfl rfl sz58 rfl rfl fun hk1 => ⟨⟨fun e => absurd e (by decide), trivial⟩, ?_⟩)
 refine z_nil (by kernel_rfl) ?_
 refine H8 _ _ (Zf fun K0 H2 => (Za (s_v (o_as (.sc (.slice _ _ _)) rfl) (Zb (H2 _ _ (Zf fun K2 H3 => ?_))))))
 refine AW_zreg [(8, some k2, .obj 107 (c_Change { { p0 with Snap := { p0.Snap with Man := y0 } } with Snap := { { p0 with Snap := { p0.Snap with Man := y0 } }.Snap with Locs := y1 } }))] mixed (⟨fun _ => hp_at 1 hk1 rfl, trivial⟩) ?_
 refine z_w 0 rfl (fun S' h' hi hB => Zh fd107_2 rfl rfl) ?_
 refine z_w 1 rfl (fun S' h' hi hB => Zg (.sl none 35 (List.map c_Chunk ({ { p0 with Snap := { p0.Snap with Man := y0 } } with Snap := { { p0 with Snap := { p0.Snap with Man := y0 } }.Snap with Locs := y1 } }.Chunks))) ld23 rfl (At.s (InvL.get 0 hi rfl (hB 8 (by kernel_rfl)))) rfl) ?_
 obtain ⟨y2, hy2, hm⟩ := Zc hm
 refine z_w 2 rfl (fun S' h' hi hB => o_call (W54 _ hy2) rfl bd54 rfl) ?_
 refine z_w 3 rfl (fun S' h' hi hB => o_mv (.sc (.slice _ _ _)) rfl) ?_
 refine z_w 4 rfl (fun S' h' hi hB => Zh fd107_5 rfl rfl) ?_
 refine z_w 5 rfl (fun S' h' hi hB => Zg (.sl none 37 (List.map c_Item ({ { p0 with Snap := { p0.Snap with Man := y0 } } with Snap := { { p0 with Snap := { p0.Snap with Man := y0 } }.Snap with Locs := y1 } }.Items))) ld70 rfl (At.s (InvL.get 0 hi rfl (hB 8 (by kernel_rfl)))) rfl) ?_
 refine z_w 7 rfl (fun S' h' hi hB => Zh fd107_2 rfl rfl) ?_
 obtain ⟨z0, hz0, hm⟩ := Zc hm
 refine z_e 6 rfl (by kernel_rfl) (a_app0 (c := c_Item) hz0 et70 rfl rfl hk1 nofun rfl fun tg0 ot0 hk2 => ⟨⟨fun _ => hp_at 2 hk2 rfl, trivial⟩, ?_⟩)
 refine z_e 8 rfl (by kernel_rfl) (a_store 2 (c_Change { { { p0 with Snap := { p0.Snap with Man := y0 } } with Snap := { { p0 with Snap := { p0.Snap with Man := y0 } }.Snap with Locs := y1 } } with Chunks := y2 }) hk2 rfl rfl rfl rfl sz23 rfl rfl fun hk4 => ⟨⟨fun e => absurd e (by decide), trivial⟩, ?_⟩)
 refine z_w 9 rfl (fun S' h' hi hB => Zh fd107_5 rfl rfl) ?_
 refine z_e 10 rfl (by kernel_rfl) (a_store 2 ([.sc (.int .i64 ({ { { p0 with Snap := { p0.Snap with Man := y0 } } with Snap := { { p0 with Snap := { p0.Snap with Man := y0 } }.Snap with Locs := y1 } } with Chunks := y2 }.Kind)), .sc (.int .i64 (({ { { p0 with Snap := { p0.Snap with Man := y0 } } with Snap := { { p0 with Snap := { p0.Snap with Man := y0 } }.Snap with Locs := y1 } } with Chunks := y2 }.Snap).Seq)), .sc (.string ((({ { { p0 with Snap := { p0.Snap with Man := y0 } } with Snap := { { p0 with Snap := { p0.Snap with Man := y0 } }.Snap with Locs := y1 } } with Chunks := y2 }.Snap).Man).Name)), .sl none 3 (List.map c_Part ((({ { { p0 with Snap := { p0.Snap with Man := y0 } } with Snap := { { p0 with Snap := { p0.Snap with Man := y0 } }.Snap with Locs := y1 } } with Chunks := y2 }.Snap).Man).Parts)), .sl none 4 (List.map c_Loc (({ { { p0 with Snap := { p0.Snap with Man := y0 } } with Snap := { { p0 with Snap := { p0.Snap with Man := y0 } }.Snap with Locs := y1 } } with Chunks := y2 }.Snap).Locs)), .sl none 35 (List.map c_Chunk ({ { { p0 with Snap := { p0.Snap with Man := y0 } } with Snap := { { p0 with Snap := { p0.Snap with Man := y0 } }.Snap with Locs := y1 } } with Chunks := y2 }.Chunks)), .sc (.int .i64 ({ { { p0 with Snap := { p0.Snap with Man := y0 } } with Snap := { { p0 with Snap := { p0.Snap with Man := y0 } }.Snap with Locs := y1 } } with Chunks := y2 }.Seq)), .sc (.int .i64 ({ { { p0 with Snap := { p0.Snap with Man := y0 } } with Snap := { { p0 with Snap := { p0.Snap with Man := y0 } }.Snap with Locs := y1 } } with Chunks := y2 }.Vol)), ow tg0 37 (List.map c_Item z0)]) hk4 rfl rfl (cellsOf_ow rfl) (all_ow _ _ _) sz70 rfl rfl fun hk5 => ⟨⟨fun e => absurd e (by decide), trivial⟩, ?_⟩)
 refine z_nil (by kernel_rfl) ?_
 refine H3 _ _ (Zf fun K3 H4 => (Za (s_v (Zg (.agg ([.sc (.int .i64 ({ { { p0 with Snap := { p0.Snap with Man := y0 } } with Snap := { { p0 with Snap := { p0.Snap with Man := y0 } }.Snap with Locs := y1 } } with Chunks := y2 }.Kind)), .sc (.int .i64 (({ { { p0 with Snap := { p0.Snap with Man := y0 } } with Snap := { { p0 with Snap := { p0.Snap with Man := y0 } }.Snap with Locs := y1 } } with Chunks := y2 }.Snap).Seq)), .sc (.string ((({ { { p0 with Snap := { p0.Snap with Man := y0 } } with Snap := { { p0 with Snap := { p0.Snap with Man := y0 } }.Snap with Locs := y1 } } with Chunks := y2 }.Snap).Man).Name)), .sl none 3 (List.map c_Part ((({ { { p0 with Snap := { p0.Snap with Man := y0 } } with Snap := { { p0 with Snap := { p0.Snap with Man := y0 } }.Snap with Locs := y1 } } with Chunks := y2 }.Snap).Man).Parts)), .sl none 4 (List.map c_Loc (({ { { p0 with Snap := { p0.Snap with Man := y0 } } with Snap := { { p0 with Snap := { p0.Snap with Man := y0 } }.Snap with Locs := y1 } } with Chunks := y2 }.Snap).Locs)), .sl none 35 (List.map c_Chunk ({ { { p0 with Snap := { p0.Snap with Man := y0 } } with Snap := { { p0 with Snap := { p0.Snap with Man := y0 } }.Snap with Locs := y1 } } with Chunks := y2 }.Chunks)), .sc (.int .i64 ({ { { p0 with Snap := { p0.Snap with Man := y0 } } with Snap := { { p0 with Snap := { p0.Snap with Man := y0 } }.Snap with Locs := y1 } } with Chunks := y2 }.Seq)), .sc (.int .i64 ({ { { p0 with Snap := { p0.Snap with Man := y0 } } with Snap := { { p0 with Snap := { p0.Snap with Man := y0 } }.Snap with Locs := y1 } } with Chunks := y2 }.Vol)), ow tg0 37 (List.map c_Item z0)])) ld107 rfl (Zd 2 hk5 rfl) rfl) ?_)))
 refine s_op (a_store 1 ([.sc (.int .i64 ({ { { p0 with Snap := { p0.Snap with Man := y0 } } with Snap := { { p0 with Snap := { p0.Snap with Man := y0 } }.Snap with Locs := y1 } } with Chunks := y2 }.Kind)), .sc (.int .i64 (({ { { p0 with Snap := { p0.Snap with Man := y0 } } with Snap := { { p0 with Snap := { p0.Snap with Man := y0 } }.Snap with Locs := y1 } } with Chunks := y2 }.Snap).Seq)), .sc (.string ((({ { { p0 with Snap := { p0.Snap with Man := y0 } } with Snap := { { p0 with Snap := { p0.Snap with Man := y0 } }.Snap with Locs := y1 } } with Chunks := y2 }.Snap).Man).Name)), .sl none 3 (List.map c_Part ((({ { { p0 with Snap := { p0.Snap with Man := y0 } } with Snap := { { p0 with Snap := { p0.Snap with Man := y0 } }.Snap with Locs := y1 } } with Chunks := y2 }.Snap).Man).Parts)), .sl none 4 (List.map c_Loc (({ { { p0 with Snap := { p0.Snap with Man := y0 } } with Snap := { { p0 with Snap := { p0.Snap with Man := y0 } }.Snap with Locs := y1 } } with Chunks := y2 }.Snap).Locs)), .sl none 35 (List.map c_Chunk ({ { { p0 with Snap := { p0.Snap with Man := y0 } } with Snap := { { p0 with Snap := { p0.Snap with Man := y0 } }.Snap with Locs := y1 } } with Chunks := y2 }.Chunks)), .sc (.int .i64 ({ { { p0 with Snap := { p0.Snap with Man := y0 } } with Snap := { { p0 with Snap := { p0.Snap with Man := y0 } }.Snap with Locs := y1 } } with Chunks := y2 }.Seq)), .sc (.int .i64 ({ { { p0 with Snap := { p0.Snap with Man := y0 } } with Snap := { { p0 with Snap := { p0.Snap with Man := y0 } }.Snap with Locs := y1 } } with Chunks := y2 }.Vol)), ow tg0 37 (List.map c_Item z0)]) hk5 rfl rfl rfl (by repeat (first | exact rfl | refine all_c (ocell_ow _ _ _) ?_ | refine all_c (ocell_aw _ _ _) ?_ | refine all_c rfl ?_)) sz107 rfl rfl fun hk7 => ?_)
 refine Zb (H4 _ _ (AW_ret ?_))
 have hmo := Option.some.inj hm; subst hmo
 exact Ret.of1 (.inl rfl) (rsC (.agg ([.sc (.int .i64 ({ { { p0 with Snap := { p0.Snap with Man := y0 } } with Snap := { { p0 with Snap := { p0.Snap with Man := y0 } }.Snap with Locs := y1 } } with Chunks := y2 }.Kind)), .sc (.int .i64 (({ { { p0 with Snap := { p0.Snap with Man := y0 } } with Snap := { { p0 with Snap := { p0.Snap with Man := y0 } }.Snap with Locs := y1 } } with Chunks := y2 }.Snap).Seq)), .sc (.string ((({ { { p0 with Snap := { p0.Snap with Man := y0 } } with Snap := { { p0 with Snap := { p0.Snap with Man := y0 } }.Snap with Locs := y1 } } with Chunks := y2 }.Snap).Man).Name)), .sl none 3 (List.map c_Part ((({ { { p0 with Snap := { p0.Snap with Man := y0 } } with Snap := { { p0 with Snap := { p0.Snap with Man := y0 } }.Snap with Locs := y1 } } with Chunks := y2 }.Snap).Man).Parts)), .sl none 4 (List.map c_Loc (({ { { p0 with Snap := { p0.Snap with Man := y0 } } with Snap := { { p0 with Snap := { p0.Snap with Man := y0 } }.Snap with Locs := y1 } } with Chunks := y2 }.Snap).Locs)), .sl none 35 (List.map c_Chunk ({ { { p0 with Snap := { p0.Snap with Man := y0 } } with Snap := { { p0 with Snap := { p0.Snap with Man := y0 } }.Snap with Locs := y1 } } with Chunks := y2 }.Chunks)), .sc (.int .i64 ({ { { p0 with Snap := { p0.Snap with Man := y0 } } with Snap := { { p0 with Snap := { p0.Snap with Man := y0 } }.Snap with Locs := y1 } } with Chunks := y2 }.Seq)), .sc (.int .i64 ({ { { p0 with Snap := { p0.Snap with Man := y0 } } with Snap := { { p0 with Snap := { p0.Snap with Man := y0 } }.Snap with Locs := y1 } } with Chunks := y2 }.Vol)), ow tg0 37 (List.map c_Item z0)])) ld107 rfl (Zd 1 hk7 rfl) rfl) (hp_sub (List.nil_sublist _) hk7).1 (ALe.agg (.k8 (.cons ((own_frz0 _ 0 ot0 hk7 rfl)) .nil))) ⟨rfl, rfl⟩
theorem bd110 : bodied Try.prog 110 = true := by kernel_rfl
def M137 (fuel : Nat) (p0 : TCatalog) (p1 : Int) (p2 : Int) (p3 : Int) : Option (Bool) :=
 after (if (decide (0 ≤ p1)) = true then (if (decide (p1 < (p0.Vols.length : Int))) = true then ((ix p0.Vols p1).bind fun x0 => if (x0.State == p2) = true then (some (.brk true)) else (ix p0.Vols p1).bind fun x1 => some (.brk (x1.State == p3))) else some (.brk false)) else some (.brk false) : Option (Lp (Bool) (Bool))) fun j0 => some j0
set_option maxHeartbeats 4000000 in
set_option maxRecDepth 100000 in
theorem W137 {fuel : Nat} {p0 : TCatalog} {p1 : Int} {p2 : Int} {p3 : Int} {o : Bool} (h : Heap) {p0K : Key} {g_Snaps : AGh} (ok_Snaps : AOk g_Snaps 4 p0.Snaps.length) {g_Chunks : AGh} (ok_Chunks : AOk g_Chunks 35 p0.Chunks.length) {g_Exps : AGh} (ok_Exps : AOk g_Exps 3 p0.Exps.length) {g_Vols : AGh} (ok_Vols : AOk g_Vols 4 p0.Vols.length) (hk0 : HOk h [(some p0K, .obj 27 ([.sc (.int .i64 p0.Seq), aw g_Snaps.t g_Snaps.n g_Snaps.cap, aw g_Chunks.t g_Chunks.n g_Chunks.cap, aw g_Exps.t g_Exps.n g_Exps.cap, aw g_Vols.t g_Vols.n g_Vols.cap])), (g_Snaps.t, .obj 60 (fl c_Snap (p0.Snaps : List TSnap) g_Snaps.sp)), (g_Chunks.t, .obj 63 (fl c_Chunk (p0.Chunks : List TChunk) g_Chunks.sp)), (g_Exps.t, .obj 65 (fl c_Exp (p0.Exps : List TExp) g_Exps.sp)), (g_Vols.t, .obj 40 (fl c_Vol (p0.Vols : List TVol) g_Vols.sp))]) (hm : M137 fuel p0 p1 p2 p3 = some o) :
 ACalls Try.prog 137 [.ptr p0K 0, .sc (.int .i64 p1), .sc (.int .i64 p2), .sc (.int .i64 p3)] (hp h [(some p0K, .obj 27 ([.sc (.int .i64 p0.Seq), aw g_Snaps.t g_Snaps.n g_Snaps.cap, aw g_Chunks.t g_Chunks.n g_Chunks.cap, aw g_Exps.t g_Exps.n g_Exps.cap, aw g_Vols.t g_Vols.n g_Vols.cap])), (g_Snaps.t, .obj 60 (fl c_Snap (p0.Snaps : List TSnap) g_Snaps.sp)), (g_Chunks.t, .obj 63 (fl c_Chunk (p0.Chunks : List TChunk) g_Chunks.sp)), (g_Exps.t, .obj 65 (fl c_Exp (p0.Exps : List TExp) g_Exps.sp)), (g_Vols.t, .obj 40 (fl c_Vol (p0.Vols : List TVol) g_Vols.sp))]) (fun r h' => HOk h [(some p0K, .obj 27 ([.sc (.int .i64 p0.Seq), aw g_Snaps.t g_Snaps.n g_Snaps.cap, aw g_Chunks.t g_Chunks.n g_Chunks.cap, aw g_Exps.t g_Exps.n g_Exps.cap, aw g_Vols.t g_Vols.n g_Vols.cap])), (g_Snaps.t, .obj 60 (fl c_Snap (p0.Snaps : List TSnap) g_Snaps.sp)), (g_Chunks.t, .obj 63 (fl c_Chunk (p0.Chunks : List TChunk) g_Chunks.sp)), (g_Exps.t, .obj 65 (fl c_Exp (p0.Exps : List TExp) g_Exps.sp)), (g_Vols.t, .obj 40 (fl c_Vol (p0.Vols : List TVol) g_Vols.sp))] ∧ r = .sc (.bool o) ∧ h' = hp h [(some p0K, .obj 27 ([.sc (.int .i64 p0.Seq), aw g_Snaps.t g_Snaps.n g_Snaps.cap, aw g_Chunks.t g_Chunks.n g_Chunks.cap, aw g_Exps.t g_Exps.n g_Exps.cap, aw g_Vols.t g_Vols.n g_Vols.cap])), (g_Snaps.t, .obj 60 (fl c_Snap (p0.Snaps : List TSnap) g_Snaps.sp)), (g_Chunks.t, .obj 63 (fl c_Chunk (p0.Chunks : List TChunk) g_Chunks.sp)), (g_Exps.t, .obj 65 (fl c_Exp (p0.Exps : List TExp) g_Exps.sp)), (g_Vols.t, .obj 40 (fl c_Vol (p0.Vols : List TVol) g_Vols.sp))]) := by
 refine ACalls_fm 44 [.tmp 8] Try.func137 rfl rfl rfl rfl ?_
 unfold M137 at hm
 refine AW_lq ?_
 refine Zf fun K1 H1 => (Za (vD rfl (Zb (H1 _ _ (Zf fun K2 H2 => ?_)))))
 refine AW_joinH (n := 44) (h := h) hm (σ := Bool) (τ := Unit) (fun g s => [(some p0K, .obj 27 ([.sc (.int .i64 p0.Seq), aw g_Snaps.t g_Snaps.n g_Snaps.cap, aw g_Chunks.t g_Chunks.n g_Chunks.cap, aw g_Exps.t g_Exps.n g_Exps.cap, aw g_Vols.t g_Vols.n g_Vols.cap])), (g_Snaps.t, .obj 60 (fl c_Snap (p0.Snaps : List TSnap) g_Snaps.sp)), (g_Chunks.t, .obj 63 (fl c_Chunk (p0.Chunks : List TChunk) g_Chunks.sp)), (g_Exps.t, .obj 65 (fl c_Exp (p0.Exps : List TExp) g_Exps.sp)), (g_Vols.t, .obj 40 (fl c_Vol (p0.Vols : List TVol) g_Vols.sp))]) (fun g s => kp (k0) 8 (.sc (.bool s))) (fun x hm => ?_) ?_
 refine Za (vA rfl (vF rfl rfl rfl (vB rfl ?_)))
 rcases Bool.eq_false_or_eq_true (decide (0 ≤ p1)) with hb0 | hb0
 have hm := Zi hm hb0
 refine sg_y rfl rfl hb0 (vA rfl (sg_y rfl rfl hb0 (s_v (o_mv (.ptr _ _) rfl) (sg_y rfl rfl hb0 (s_v (o_nil rfl) (sg_y rfl rfl hb0 (s_v (Zh fd27_4 rfl rfl) (sg_y rfl rfl hb0 (s_v (Zg (aw g_Vols.t g_Vols.n g_Vols.cap) ld25 rfl (Zd 0 hk0 rfl) rfl) (sg_y rfl rfl hb0 (s_v (o_lenA ln25 ok_Vols rfl) (sg_y rfl rfl hb0 (vF rfl rfl rfl (s_v (Zm (.sc (.bool _)) rfl hb0 rfl) (vB rfl ?_)))))))))))))))
 rcases Bool.eq_false_or_eq_true (decide (p1 < (p0.Vols.length : Int))) with hb1 | hb1
 have hm := Zi hm hb1
 refine sg_y rfl rfl hb1 (s_v (o_mv (.ptr _ _) rfl) (sg_y rfl rfl hb1 (s_v (o_nil rfl) (sg_y rfl rfl hb1 (s_v (Zh fd27_4 rfl rfl) (sg_y rfl rfl hb1 (s_v (Zg (aw g_Vols.t g_Vols.n g_Vols.cap) ld25 rfl (Zd 0 hk0 rfl) rfl) (sg_y rfl rfl hb1 (vA rfl (sg_y rfl rfl hb1 ?_))))))))))
 obtain ⟨x0, hx0, hm⟩ := Zc hm
 refine s_v (o_ixA hx0 el25 ok_Vols rfl rfl) (sg_y rfl rfl hb1 (s_v (o_flA (AOk.ne ok_Vols hx0) fd40_2 rfl rfl) (sg_y rfl rfl hb1 (s_v (o_ldA (fo := 2) (.sc (.int .i64 x0.State)) hx0 cz_Vol ok_Vols ld3 rfl (hp_at 4 hk0 rfl) (fun _ => rfl)) (sg_y rfl rfl hb1 (vA rfl (sg_y rfl rfl hb1 (vF rfl rfl rfl (sg_y rfl rfl hb1 (vB rfl ?_))))))))))
 rcases Bool.eq_false_or_eq_true (x0.State == p2) with hb2 | hb2
 have hm := Zi hm hb2
 refine Zo rfl rfl hb2 (Zo rfl rfl hb2 (Zo rfl rfl hb2 (Zo rfl rfl hb2 (Zo rfl rfl hb2 (Zo rfl rfl hb2 (Zo rfl rfl hb2 (Zo rfl rfl hb2 (Zo rfl rfl hb2 (Zo rfl rfl hb2 (sg_y rfl rfl hb1 (s_v (Zm (.sc (.bool _)) rfl hb2 rfl) (s_v (Zm (.sc (.bool _)) rfl hb1 rfl) (vD rfl (Zb ?_))))))))))))))
 cases hm
 exact ⟨rfl, (), hk0, LeF.s (.cons (ALe.refl _ _) .nil)⟩
 have hm := Zj hm hb2
 refine sg_y rfl rfl hb2 (s_v (o_mv (.ptr _ _) rfl) (sg_y rfl rfl hb2 (s_v (o_nil rfl) (sg_y rfl rfl hb2 (s_v (Zh fd27_4 rfl rfl) (sg_y rfl rfl hb2 (s_v (Zg (aw g_Vols.t g_Vols.n g_Vols.cap) ld25 rfl (Zd 0 hk0 rfl) rfl) (sg_y rfl rfl hb2 (vA rfl (sg_y rfl rfl hb2 ?_))))))))))
 obtain ⟨x1, hx1, hm⟩ := Zc hm
 refine s_v (o_ixA hx1 el25 ok_Vols rfl rfl) (sg_y rfl rfl hb2 (s_v (o_flA (AOk.ne ok_Vols hx1) fd40_2 rfl rfl) (sg_y rfl rfl hb2 (s_v (o_ldA (fo := 2) (.sc (.int .i64 x1.State)) hx1 cz_Vol ok_Vols ld3 rfl (hp_at 4 hk0 rfl) (fun _ => rfl)) (sg_y rfl rfl hb2 (vA rfl (sg_y rfl rfl hb2 (vF rfl rfl rfl (sg_y rfl rfl hb1 (s_v (Zn (.sc (.bool _)) rfl hb2 rfl) (s_v (Zm (.sc (.bool _)) rfl hb1 rfl) (vD rfl (Zb ?_)))))))))))))
 cases hm
 exact ⟨rfl, (), hk0, LeF.s (.cons (ALe.refl _ _) .nil)⟩
 have hm := Zj hm hb1
 refine Zo rfl rfl hb1 (Zo rfl rfl hb1 (Zo rfl rfl hb1 (Zo rfl rfl hb1 (Zo rfl rfl hb1 (Zo rfl rfl hb1 (Zo rfl rfl hb1 (Zo rfl rfl hb1 (Zo rfl rfl hb1 (Zo rfl rfl hb1 (Zo rfl rfl hb1 (sg_u rfl rfl (sg_u rfl rfl (sg_u rfl rfl (sg_u rfl rfl (sg_u rfl rfl ?_)))))))))))))))
 refine sg_u rfl rfl (sg_u rfl rfl (sg_u rfl rfl (sg_u rfl rfl (sg_u rfl rfl (Zo rfl rfl hb1 (s_v (Zn (.sc (.bool _)) rfl hb1 rfl) (vD rfl (Zb ?_))))))))
 cases hm
 exact ⟨rfl, (), hk0, LeF.s (.cons (ALe.refl _ _) .nil)⟩
 have hm := Zj hm hb0
 refine Zo rfl rfl hb0 (Zo rfl rfl hb0 (Zo rfl rfl hb0 (Zo rfl rfl hb0 (Zo rfl rfl hb0 (Zo rfl rfl hb0 (Zo rfl rfl hb0 (s_v (Zn (.sc (.bool _)) rfl hb0 rfl) (vB rfl (Zo rfl rfl rfl (Zo rfl rfl rfl (Zo rfl rfl rfl (Zo rfl rfl rfl (Zo rfl rfl rfl (Zo rfl rfl rfl (Zo rfl rfl rfl ?_)))))))))))))))
 refine Zo rfl rfl rfl (Zo rfl rfl rfl (Zo rfl rfl rfl (Zo rfl rfl rfl (sg_u rfl rfl (sg_u rfl rfl (sg_u rfl rfl (sg_u rfl rfl (sg_u rfl rfl (sg_u rfl rfl (sg_u rfl rfl (sg_u rfl rfl (sg_u rfl rfl (sg_u rfl rfl (Zo rfl rfl rfl (s_v (Zn (.sc (.bool _)) rfl rfl rfl) ?_)))))))))))))))
 refine vD rfl (Zb ?_)
 cases hm
 exact ⟨rfl, (), hk0, LeF.s (.cons (ALe.refl _ _) .nil)⟩
 rintro _ j0 fr' h' hk1 hm le
 refine H2 _ _ (le.aw ?_)
 refine AW_ret ?_
 have hmo := Option.some.inj hm; subst hmo
 exact LqE.mk (LeF.eqh rfl) (Ret.of1 (.inl rfl) (rsT _ _ (.sc (.bool _)) rfl) (hp_pick hk1 [0, 1, 2, 3, 4] rfl).2 (ALe.refl _ _) ⟨(hp_pick hk1 [0, 1, 2, 3, 4] rfl).1, rfl, rfl⟩)
theorem bd137 : bodied Try.prog 137 = true := by kernel_rfl
def M135a_L0 (fuel : Nat) (p0 : List TChunk) (p1 : TChunk) (q0 : Int) : Option (Lp (Int) ((List TChunk))) :=
 after (if (decide (q0 < (p0.length : Int))) = true then ((ix p0 q0).bind fun x0 => (M60 fuel x0.Id p1.Id).bind fun y0 => some (.brk y0)) else some (.brk false) : Option (Lp (Bool) (Lp (Int) ((List TChunk))))) fun j0 => if j0 = true then (some (.go (IntKind.wrap .i64 (q0 + 1)))) else some (.brk q0)
def M135a (fuel : Nat) (p0 : List TChunk) (p1 : TChunk) : Option ((List TChunk)) :=
 after (loopM (fun s => M135a_L0 fuel p0 p1 s) fuel 0) fun r0 => after (if (decide (r0 < (p0.length : Int))) = true then ((ix p0 r0).bind fun x0 => some (.brk (decide (x0.Id = p1.Id)))) else some (.brk false) : Option (Lp (Bool) ((List TChunk)))) fun j0 => if j0 = true then ((M54a fuel p0).bind fun y0 => (M100 fuel p1.Data).bind fun y1 => (ix y0 r0).bind fun x1 => (ix (y0.set r0.toNat ({ x1 with Staged := true })) r0).bind fun x2 => some ((y0.set r0.toNat ({ x1 with Staged := true })).set r0.toNat ({ x2 with Data := y1 }))) else (slc p0 0 r0).bind fun x3 => (app ([] : List TChunk) x3).bind fun z0 => (app z0 ([p1] : List TChunk)).bind fun z1 => (slc p0 r0 (p0).length).bind fun x4 => (app z1 x4).bind fun z2 => some z2
set_option maxHeartbeats 4000000 in
set_option maxRecDepth 100000 in
theorem W135a {fuel : Nat} {p0 : List TChunk} {p1 : TChunk} {o : (List TChunk)} (h : Heap) (hm : M135a fuel p0 p1 = some o) :
 ACalls Try.prog 135 [.sl none 35 (List.map c_Chunk p0), .agg (c_Chunk p1)] h (fun r h' => ∃ g : AGh, AOk g 35 o.length ∧ HOk h [(g.t, .obj 63 (fl c_Chunk o g.sp))] ∧ r = aw g.t g.n g.cap ∧ h' = hp h [(g.t, .obj 63 (fl c_Chunk o g.sp))]) := by
 refine ACalls_hp 65 [.tmp 4] Try.func135 rfl rfl rfl rfl ?_
 unfold M135a at hm
 refine AW_lq ?_
 refine Zf fun K1 H1 => (Za ?_)
 refine s_op (a_box (HOk.nil _) rfl rfl fun k2 hk3 => ?_)
 refine s_v (o_as (.sc (.slice _ _ _)) rfl) (Zb (H1 _ _ (Zf fun K5 H5 => (Za (vC rfl (Zb (H5 _ _ (Zf fun K6 H6 => ?_))))))))
 refine AW_loopH (n := 65) (h := h) hm (σ := Int) (τ := Unit) (fun g s => [(some k2, .obj 63 (c_Chunk p1))]) (fun g s => kp (kp (kp (k0) 5 (.sc (.int .i64 s))) 3 (.ptr k2 0)) 0 (.sl none 35 (List.map c_Chunk p0))) () hk3 (LeF.s (.k3 .nil)) ?_ ?_
 rintro _ q0 x hk0 hm
 replace hm : M135a_L0 fuel p0 p1 q0 = some x := hm
 unfold M135a_L0 at hm
 refine Zf fun K0 H2 => (Zf fun K2 H3 => ?_)
 refine AW_joinH (n := 65) (h := h) hm (σ := Bool) (τ := Unit) (fun g s => [(some k2, .obj 63 (c_Chunk p1))]) (fun g s => kp (kp (kp (kp (k0) 21 (.sc (.bool s))) 5 (.sc (.int .i64 q0))) 3 (.ptr k2 0)) 0 (.sl none 35 (List.map c_Chunk p0))) (fun x hm => ?_) ?_
 refine AW_rq mixed (by kernel_rfl) ?_
 refine wA rfl (wE rfl (q_v (o_lenm ln23 rfl) (wF rfl rfl rfl (wB rfl ?_))))
 rcases Bool.eq_false_or_eq_true (decide (q0 < (p0.length : Int))) with hb0 | hb0
 have hm := Zi hm hb0
 refine Zk rfl rfl hb0 (wE rfl (Zk rfl rfl hb0 (wA rfl (Zk rfl rfl hb0 ?_))))
 obtain ⟨x0, hx0, hm⟩ := Zc hm
 refine q_v (o_ix hx0 el23 rfl rfl) (Zk rfl rfl hb0 (q_v (o_fl fd63_0 rfl rfl) (Zk rfl rfl hb0 (q_v (o_ld (.agg (c_id x0.Id)) ld61 rfl rfl) (Zk rfl rfl hb0 (q_v (Zh fd63_0 rfl rfl) (Zk rfl rfl hb0 (q_v (Zg (.agg (c_id p1.Id)) ld61 rfl (Zd 0 hk0 rfl) rfl) (Zk rfl rfl hb0 ?_)))))))))
 obtain ⟨y0, hy0, hm⟩ := Zc hm
 refine q_v (o_call (W60 _ hy0) rfl bd60 rfl) (q_v (Zm (.sc (.bool _)) rfl hb0 rfl) (q_nil ?_))
 cases hm
 exact ⟨rfl, (), hk0, LeF.s (.k4 .nil)⟩
 have hm := Zj hm hb0
 refine Ze rfl rfl hb0 (Ze rfl rfl hb0 (Ze rfl rfl hb0 (Ze rfl rfl hb0 (Ze rfl rfl hb0 (Ze rfl rfl hb0 (Ze rfl rfl hb0 (Ze rfl rfl hb0 (q_v (Zn (.sc (.bool _)) rfl hb0 rfl) (q_nil ?_)))))))))
 cases hm
 exact ⟨rfl, (), hk0, LeF.s (.k4 .nil)⟩
 rintro _ j0 fr' h' hk1 hm le
 refine H3 _ _ (le.aw ?_)
 refine AW_if' rfl (fun hc0 => ?_) (fun hc0 => ?_)
 have hm := Zi hm hc0
 refine Zl (H2 _ _ (AW_block (Za (vA rfl (vF rfl rfl rfl (vC rfl (Zb ?_)))))))
 cases hm
 exact ⟨rfl, (), hk1, LeF.s (.k3 .nil)⟩
 have hm := Zj hm hc0
 refine AW_exit ?_
 refine Seq_exit ?_
 cases hm
 exact ⟨rfl, (), hk1, LeF.s (.k3 .nil)⟩
 rintro _ r0 fr' h' hk2 hm le
 refine H6 _ _ (le.aw ?_)
 refine Zf fun K3 H4 => (Zf fun K4 H7 => ?_)
 refine AW_joinH (n := 65) (h := h) hm (σ := Bool) (τ := Unit) (fun g s => [(some k2, .obj 63 (c_Chunk p1))]) (fun g s => kp (kp (kp (kp (k0) 37 (.sc (.bool s))) 5 (.sc (.int .i64 r0))) 3 (.ptr k2 0)) 0 (.sl none 35 (List.map c_Chunk p0))) (fun x hm => ?_) ?_
 refine AW_rq mixed (by kernel_rfl) ?_
 refine wA rfl (wE rfl (q_v (o_lenm ln23 rfl) (wF rfl rfl rfl (wB rfl ?_))))
 rcases Bool.eq_false_or_eq_true (decide (r0 < (p0.length : Int))) with hb1 | hb1
 have hm := Zi hm hb1
 refine Zk rfl rfl hb1 (wE rfl (Zk rfl rfl hb1 (wA rfl (Zk rfl rfl hb1 ?_))))
 obtain ⟨x1, hx1, hm⟩ := Zc hm
 refine q_v (o_ix hx1 el23 rfl rfl) (Zk rfl rfl hb1 (q_v (o_fl fd63_0 rfl rfl) (Zk rfl rfl hb1 (q_v (o_ld (.agg (c_id x1.Id)) ld61 rfl rfl) (Zk rfl rfl hb1 (q_v (Zh fd63_0 rfl rfl) (Zk rfl rfl hb1 (q_v (Zg (.agg (c_id p1.Id)) ld61 rfl (Zd 0 hk2 rfl) rfl) (Zk rfl rfl hb1 (q_v (o_ide eg61 u61 u5 ld5 rfl rfl) (q_v (Zm (.sc (.bool _)) rfl hb1 rfl) (q_nil ?_))))))))))))
 cases hm
 exact ⟨rfl, (), hk2, LeF.s (.k4 .nil)⟩
 have hm := Zj hm hb1
 refine Ze rfl rfl hb1 (Ze rfl rfl hb1 (Ze rfl rfl hb1 (Ze rfl rfl hb1 (Ze rfl rfl hb1 (Ze rfl rfl hb1 (Ze rfl rfl hb1 (Ze rfl rfl hb1 (q_v (Zn (.sc (.bool _)) rfl hb1 rfl) (q_nil ?_)))))))))
 cases hm
 exact ⟨rfl, (), hk2, LeF.s (.k4 .nil)⟩
 rintro _ j1 fr' h' hk4 hm le
 refine H7 _ _ (le.aw ?_)
 refine AW_if' rfl (fun hc1 => ?_) (fun hc1 => ?_)
 have hm := Zi hm hc1
 refine Zf fun K7 H8 => (Za (vE rfl ?_))
 obtain ⟨y1, hy1, hm⟩ := Zc hm
 refine s_op (a_call (W54a _ hy1) rfl bd54 rfl ?_)
 rintro x h' ⟨ag0, ok0, hk5, rfl, rfl⟩
 rw [hp_cat]
 refine s_v (o_as (aw _ _ _) rfl) (Zb (H8 _ _ (Zf fun K8 H9 => (Za (s_v (o_mv (aw _ _ _) rfl) (vA rfl (s_v (o_mv (aw _ _ _) rfl) (vA rfl (s_v (Zh fd63_2 rfl rfl) (s_v (Zg (.sl none 1 (List.map c_u8 p1.Data)) ld52 rfl (Zd 1 (HOk.co hk4 hk5) rfl) rfl) ?_))))))))))
 obtain ⟨y2, hy2, hm⟩ := Zc hm
 refine s_v (o_call (W100 _ hy2) rfl bd100 rfl) ?_
 obtain ⟨x2, hx2, hm⟩ := Zc hm
 refine s_v (o_ixA hx2 el23 ok0 rfl rfl) (s_v (o_flA (AOk.ne ok0 hx2) fd63_1 rfl rfl) ?_)
 refine s_op (a_storeA (fo := 32) ({ x2 with Staged := true } : TChunk) 0 (HOk.co hk4 hk5) hx2 cz_Chunk ok0 rfl rfl rfl rfl (ALeL.refl _ _) sz4 rfl rfl fun hk6 => ?_)
 obtain ⟨x3, hx3, hm⟩ := Zc hm
 refine s_v (o_ixA hx3 el23 (AOk.set ok0) rfl rfl) (s_v (o_flA (AOk.ne (AOk.set ok0) hx3) fd63_2 rfl rfl) ?_)
 refine s_op (a_storeA (fo := 33) ({ x3 with Data := y2 } : TChunk) 0 hk6 hx3 cz_Chunk (AOk.set ok0) rfl rfl rfl rfl (ALeL.refl _ _) sz52 rfl rfl fun hk7 => ?_)
 refine Zb (H9 _ _ (Zf fun K9 H84 => (Za (s_v (o_mv (aw _ _ _) rfl) (s_v (o_as (aw _ _ _) rfl) (Zb (H84 _ _ (AW_ret ?_))))))))
 have hmo := Option.some.inj hm; subst hmo
 exact LqE.mk (LeF.eqh rfl) (Ret.one (.inl rfl) (hp_sub (h0 := h) (L' := [(ag0.t, .obj 63 (fl c_Chunk ((y1.set r0.toNat ({ x2 with Staged := true })).set r0.toNat ({ x3 with Data := y2 }) : List TChunk) ag0.sp))]) (.cons_cons _ (.cons _ (.refl _))) hk7).1 (ALe.refl _ _) ⟨ag0, (AOk.set (AOk.set ok0)), (hp_sub (h0 := h) (L' := [(ag0.t, .obj 63 (fl c_Chunk ((y1.set r0.toNat ({ x2 with Staged := true })).set r0.toNat ({ x3 with Data := y2 }) : List TChunk) ag0.sp))]) (.cons_cons _ (.cons _ (.refl _))) hk7).2, rfl, rfl⟩)
 have hm := Zj hm hc1
 refine Zl (H4 _ _ (Zf fun K85 H85 => (Za (s_v (o_as (.sc (.slice _ _ _)) rfl) (Zb (H85 _ _ (Zf fun K86 H86 => ?_)))))))
 refine AW_zreg [(1000000, some k2, .obj 63 (c_Chunk p1))] mixed (⟨fun _ => hp_at 0 hk4 rfl, trivial⟩) ?_
 refine z_w 0 rfl (fun S' h' hi hB => o_mv (.sc (.slice _ _ _)) rfl) ?_
 refine z_w 1 rfl (fun S' h' hi hB => o_mv (.sl _ _ _) rfl) ?_
 refine z_w 2 rfl (fun S' h' hi hB => o_mv (.sc (.int _ _)) rfl) ?_
 obtain ⟨x4, hx4, hm⟩ := Zc hm
 refine z_w 3 rfl (fun S' h' hi hB => o_slc hx4 el23 rfl rfl rfl rfl) ?_
 refine z_w 5 rfl (fun S' h' hi hB => Zg (.agg (c_Chunk p1)) ld63 rfl (At.s (InvL.get 0 hi rfl (hB 1000000 (by kernel_rfl)))) rfl) ?_
 refine z_w 6 rfl (fun S' h' hi hB => o_lit (List.map c_Chunk ([p1] : List TChunk)) et23 rfl rfl rfl rfl) ?_
 obtain ⟨z0, hz0, hm⟩ := Zc hm
 refine z_e 4 rfl (by kernel_rfl) (a_appA0 (c := c_Chunk) hz0 et23 rfl zr63 rfl cz_Chunk rfl hk4 rfl fun ag1 ok1 hk8 => ⟨⟨fun _ => hp_at 1 hk8 rfl, trivial⟩, ?_⟩)
 obtain ⟨z1, hz1, hm⟩ := Zc hm
 refine z_e 7 rfl (by kernel_rfl) (a_appA (c := c_Chunk) 0 hz1 et23 rfl zr63 rfl cz_Chunk rfl rfl ok1 hk8 rfl fun ag2 ok2 hk9 => ⟨⟨fun _ => hp_at 1 hk9 rfl, trivial⟩, ?_⟩)
 refine z_w 8 rfl (fun S' h' hi hB => o_as (aw _ _ _) rfl) ?_
 refine z_nil (by kernel_rfl) ?_
 refine H86 _ _ (Zf fun K10 H10 => (Za (s_v (o_mv (aw _ _ _) rfl) (vE rfl (vA rfl ?_)))))
 obtain ⟨x5, hx5, hm⟩ := Zc hm
 refine s_v (o_slc hx5 el23 rfl rfl rfl rfl) ?_
 obtain ⟨z2, hz2, hm⟩ := Zc hm
 refine s_op (a_appA (c := c_Chunk) 0 hz2 et23 rfl zr63 rfl cz_Chunk rfl rfl ok2 hk9 rfl fun ag3 ok3 hk10 => ?_)
 refine s_v (o_as (aw _ _ _) rfl) (Zb (H10 _ _ (AW_ret ?_)))
 have hmo := Option.some.inj hm; subst hmo
 exact LqE.mk (LeF.eqh rfl) (Ret.one (.inl rfl) (hp_sub (h0 := h) (L' := [(ag3.t, .obj 63 (fl c_Chunk (z2 : List TChunk) ag3.sp))]) (.cons_cons _ (.cons _ (.refl _))) hk10).1 (ALe.refl _ _) ⟨ag3, ok3, (hp_sub (h0 := h) (L' := [(ag3.t, .obj 63 (fl c_Chunk (z2 : List TChunk) ag3.sp))]) (.cons_cons _ (.cons _ (.refl _))) hk10).2, rfl, rfl⟩)
theorem bd135 : bodied Try.prog 135 = true := by kernel_rfl
open Go.Vm
theorem m54a : @M54a = @M54 := rfl
theorem m14d {F : Nat} {c : TCatalog} (hF : 1000 ≤ F) (h : Sm c) : M14d F c = some c := by
 rw [← m14 (F := F) hF h]
 rfl
theorem wru {n : Nat} (h : n < 1000000000) : IntKind.wrap .u64 (n : Int) = n := by
 have e : IntKind.wrap .u64 (n : Int) = (n : Int) % 18446744073709551616 := rfl
 rw [e]; omega
theorem wru0 (p : Int) : 0 ≤ IntKind.wrap .u64 p := by
 have e : IntKind.wrap .u64 p = p % 18446744073709551616 := rfl
 rw [e]; omega
theorem idxW (p : Int) {n : Nat} (h0 : 0 < n) (hn : n < 1000000000) : ∃ j : Nat, j < n ∧ IntKind.wrap .i64 ((IntKind.wrap .u64 p).tmod (n : Int)) = (j : Int) := by
 have h1 := wru0 p
 generalize IntKind.wrap .u64 p = a at h1
 rw [Int.tmod_eq_emod_of_nonneg h1]
 have h2 : 0 ≤ a % (n : Int) := Int.emod_nonneg _ (by omega)
 have h3 : a % (n : Int) < n := Int.emod_lt_of_pos _ (by omega)
 refine ⟨(a % (n : Int)).toNat, by omega, ?_⟩
 rw [wr (by omega) (by omega)]
 omega
theorem mem_set {α : Type} {l : List α} {j : Nat} {x y : α} (h : y ∈ l.set j x) : y ∈ l ∨ y = x := by
 have := List.mem_or_eq_of_mem_set h
 exact this
open Go.Vm
structure Rng (c : TCatalog) : Prop where
 seq : 0 ≤ c.Seq ∧ c.Seq ≤ 1073741824
 sn : c.Snaps.length ≤ 8
 ch : c.Chunks.length ≤ 200
 ex : c.Exps.length ≤ 200
 vo : c.Vols.length ≤ 8
 s : ∀ s ∈ c.Snaps, 0 ≤ s.Seq ∧ s.Seq < c.Seq ∧ manB s.Man = true ∧ locsB c s.Locs = true
 k : ∀ x ∈ c.Chunks, x.Data.length ≤ 64 ∧ locsB c x.Locs = true
 e : ∀ x ∈ c.Exps, 0 ≤ x.Seq ∧ x.Seq < c.Seq ∧ 0 ≤ x.Of ∧ x.Of < c.Seq ∧ locsB c x.Locs = true
 v : ∀ x ∈ c.Vols, 0 ≤ x.Pool ∧ x.Pool ≤ 1 ∧ 0 ≤ x.Epoch ∧ x.Epoch ≤ 1048576 ∧ 1 ≤ x.State ∧ x.State ≤ 3 ∧ 0 ≤ x.Files ∧ x.Files ≤ 65535
theorem rng {c : TCatalog} (hg : good c = true) : Rng c := by
 obtain ⟨q1, q2, q3⟩ := good_locs hg
 have hg0 := hg
 unfold good at hg0
 simp only [Bool.and_eq_true, inR, decide_eq_true_eq] at hg0
 obtain ⟨⟨⟨⟨g1, g2, g3⟩, g4, g5⟩, g6, g7⟩, g8, g9⟩ := hg0
 refine ⟨g1, g7, g5, g9, by omega, fun s hs => ?_, fun x hx => ⟨?_, q1 x hx⟩, fun x hx => ?_, fun x hx => ?_⟩
 ·obtain ⟨i, hi, rfl⟩ := List.getElem_of_mem hs
  have := (snB_at hg (List.getElem?_eq_getElem hi)).1
  unfold snB at this
  rw [List.getElem?_eq_getElem hi] at this
  simp only [Bool.and_eq_true, inR, decide_eq_true_eq] at this
  obtain ⟨⟨⟨⟨h1, h2⟩, h3⟩, h4⟩, h5⟩ := this
  exact ⟨h1.1, by omega, h4, h5⟩
 ·obtain ⟨i, hi, rfl⟩ := List.getElem_of_mem hx
  have := chB_at hg (List.getElem?_eq_getElem hi)
  unfold chB at this
  rw [List.getElem?_eq_getElem hi] at this
  simp only [Bool.and_eq_true] at this
  have := this.2
  split at this
  ·simp only [inR, Bool.and_eq_true, decide_eq_true_eq] at this; omega
  ·simp only [Bool.and_eq_true, Bool.not_eq_true', decide_eq_false_iff_not] at this; omega
 ·obtain ⟨i, hi, rfl⟩ := List.getElem_of_mem hx
  unfold exsB at g8
  simp only [Bool.not_eq_true', List.any_eq_false, List.mem_range] at g8
  have := g8 i hi
  have this : exA c i = true ∧ exC c i = true := by simpa using this
  have := this.1
  unfold exA at this
  rw [List.getElem?_eq_getElem hi] at this
  simp only [Bool.and_eq_true, inR, decide_eq_true_eq] at this
  obtain ⟨⟨⟨⟨h1, h2⟩, h3⟩, h4⟩, h5⟩ := this
  exact ⟨h1.1, by omega, h3.1, by omega, h5⟩
 ·have hb := List.all_eq_true.1 g2 x hx
  unfold volB inR at hb
  simp only [Bool.and_eq_true, Bool.or_eq_true, decide_eq_true_eq, beq_iff_eq] at hb
  omega
theorem i1 : ((1 : Nat) : Int) = 1 := rfl
theorem i2 : ((2 : Nat) : Int) = 2 := rfl
open Go.Vm
def M136_L0 (fuel : Nat) (p0 : TCatalog) (p1 : Int) (q0 : List TSnap) (q1 : Int) : Option (Lp ((List TSnap) × Int) (Bool × (List TSnap) × (List TChunk))) :=
 if (decide (q1 < (p0.Snaps.length : Int))) = true then ((ix p0.Snaps q1).bind fun x0 => after (if (x0.Seq != p1) = true then ((ix p0.Snaps q1).bind fun x1 => (app q0 ([x1] : List TSnap)).bind fun z0 => some (.brk z0)) else some (.brk q0) : Option (Lp ((List TSnap)) (Lp ((List TSnap) × Int) (Bool × (List TSnap) × (List TChunk))))) fun j0 => some (.go (j0, IntKind.wrap .i64 (q1 + 1)))) else some (.brk (q0, q1))
def M136_L2 (fuel : Nat) (p0 : TCatalog) (r0 : List TSnap) (q0 : List TChunk) (q1 : Int) : Option (Lp ((List TChunk) × Int) (Bool × (List TSnap) × (List TChunk))) :=
 if (decide (q1 < (p0.Chunks.length : Int))) = true then (after ((ix p0.Chunks q1).bind fun x0 => (M65 fuel ({ Seq := p0.Seq, Snaps := r0, Chunks := p0.Chunks, Exps := p0.Exps, Vols := p0.Vols } : TCatalog) x0.Id).bind fun y0 => after (if (!y0) = true then (if ((({ { x0 with Staged := false } with Data := ([] : List Int) }.Locs).length : Int) == 0) = true then (some (.ret (.brk q0))) else some (.brk { { x0 with Staged := false } with Data := ([] : List Int) })) else some (.brk x0) : Option (Lp (TChunk) (Lp ((List TChunk)) (Lp ((List TChunk) × Int) (Bool × (List TSnap) × (List TChunk)))))) fun j0 => (app q0 ([j0] : List TChunk)).bind fun z0 => some (.brk z0) : Option (Lp ((List TChunk)) (Lp ((List TChunk) × Int) (Bool × (List TSnap) × (List TChunk))))) fun j1 => some (.go (j1, IntKind.wrap .i64 (q1 + 1)))) else some (.brk (q0, q1))
def M136 (fuel : Nat) (p0 : TCatalog) (p1 : Int) : Option (Bool × (List TSnap) × (List TChunk)) :=
 after (loopM (fun s => M136_L0 fuel p0 p1 s.1 s.2) fuel ([], 0)) fun ⟨r0, r1⟩ => if ((r0.length : Int) == (p0.Snaps.length : Int)) = true then (some (false, p0.Snaps, p0.Chunks)) else after (loopM (fun s => M136_L2 fuel p0 r0 s.1 s.2) fuel ([], 0)) fun ⟨r2, r3⟩ => some (true, r0, r2)
set_option maxHeartbeats 4000000 in
set_option maxRecDepth 100000 in
theorem W136 {fuel : Nat} {p0 : TCatalog} {p1 : Int} {o : Bool × (List TSnap) × (List TChunk)} (h : Heap) {p0K : Key} {g_Snaps : AGh} (ok_Snaps : AOk g_Snaps 4 p0.Snaps.length) {g_Chunks : AGh} (ok_Chunks : AOk g_Chunks 35 p0.Chunks.length) {g_Exps : AGh} (ok_Exps : AOk g_Exps 3 p0.Exps.length) {g_Vols : AGh} (ok_Vols : AOk g_Vols 4 p0.Vols.length) (hk0 : HOk h [(some p0K, .obj 27 ([.sc (.int .i64 p0.Seq), aw g_Snaps.t g_Snaps.n g_Snaps.cap, aw g_Chunks.t g_Chunks.n g_Chunks.cap, aw g_Exps.t g_Exps.n g_Exps.cap, aw g_Vols.t g_Vols.n g_Vols.cap])), (g_Snaps.t, .obj 60 (fl c_Snap (p0.Snaps : List TSnap) g_Snaps.sp)), (g_Chunks.t, .obj 63 (fl c_Chunk (p0.Chunks : List TChunk) g_Chunks.sp)), (g_Exps.t, .obj 65 (fl c_Exp (p0.Exps : List TExp) g_Exps.sp)), (g_Vols.t, .obj 40 (fl c_Vol (p0.Vols : List TVol) g_Vols.sp))]) (hm : M136 fuel p0 p1 = some o) :
 ACalls Try.prog 136 [.ptr p0K 0, .sc (.int .i64 p1)] (hp h [(some p0K, .obj 27 ([.sc (.int .i64 p0.Seq), aw g_Snaps.t g_Snaps.n g_Snaps.cap, aw g_Chunks.t g_Chunks.n g_Chunks.cap, aw g_Exps.t g_Exps.n g_Exps.cap, aw g_Vols.t g_Vols.n g_Vols.cap])), (g_Snaps.t, .obj 60 (fl c_Snap (p0.Snaps : List TSnap) g_Snaps.sp)), (g_Chunks.t, .obj 63 (fl c_Chunk (p0.Chunks : List TChunk) g_Chunks.sp)), (g_Exps.t, .obj 65 (fl c_Exp (p0.Exps : List TExp) g_Exps.sp)), (g_Vols.t, .obj 40 (fl c_Vol (p0.Vols : List TVol) g_Vols.sp))]) (fun r h' => ∃ g_Snaps' : AGh, AOk g_Snaps' 4 (o.2.1 : List TSnap).length ∧ ∃ g_Chunks' : AGh, AOk g_Chunks' 35 (o.2.2 : List TChunk).length ∧ HOk h [(some p0K, .obj 27 ([.sc (.int .i64 p0.Seq), aw g_Snaps'.t g_Snaps'.n g_Snaps'.cap, aw g_Chunks'.t g_Chunks'.n g_Chunks'.cap, aw g_Exps.t g_Exps.n g_Exps.cap, aw g_Vols.t g_Vols.n g_Vols.cap])), (g_Snaps'.t, .obj 60 (fl c_Snap (o.2.1 : List TSnap) g_Snaps'.sp)), (g_Chunks'.t, .obj 63 (fl c_Chunk (o.2.2 : List TChunk) g_Chunks'.sp)), (g_Exps.t, .obj 65 (fl c_Exp (p0.Exps : List TExp) g_Exps.sp)), (g_Vols.t, .obj 40 (fl c_Vol (p0.Vols : List TVol) g_Vols.sp))] ∧ r = .sc (.bool o.1) ∧ h' = hp h [(some p0K, .obj 27 ([.sc (.int .i64 p0.Seq), aw g_Snaps'.t g_Snaps'.n g_Snaps'.cap, aw g_Chunks'.t g_Chunks'.n g_Chunks'.cap, aw g_Exps.t g_Exps.n g_Exps.cap, aw g_Vols.t g_Vols.n g_Vols.cap])), (g_Snaps'.t, .obj 60 (fl c_Snap (o.2.1 : List TSnap) g_Snaps'.sp)), (g_Chunks'.t, .obj 63 (fl c_Chunk (o.2.2 : List TChunk) g_Chunks'.sp)), (g_Exps.t, .obj 65 (fl c_Exp (p0.Exps : List TExp) g_Exps.sp)), (g_Vols.t, .obj 40 (fl c_Vol (p0.Vols : List TVol) g_Vols.sp))]) := by
 refine ACalls_fm 88 [.tmp 4] Try.func136 rfl rfl rfl rfl ?_
 unfold M136 at hm
 refine AW_lq ?_
 refine Zf fun K1 H1 => (Za (vD rfl (Zb (H1 _ _ (Zf fun K2 H2 => (Za (s_v (o_as (.sc (.slice _ _ _)) rfl) (Zb (H2 _ _ (Zf fun K3 H3 => (Zf fun K4 H4 => (Za (vC rfl (Zb (H4 _ _ ?_)))))))))))))))
 refine (LeF.put (t := 5) (v := aw g0.t g0.n g0.cap) (Sub.refl _) (ALe_nilA _)).aw ?_
 refine AW_loopL (n := 88) (h := h) hm (σ := (List TSnap) × Int) (τ := AGh) (fun g s => [(g.t, .obj 60 (fl c_Snap (s.1 : List TSnap) g.sp)), (some p0K, .obj 27 ([.sc (.int .i64 p0.Seq), aw g_Snaps.t g_Snaps.n g_Snaps.cap, aw g_Chunks.t g_Chunks.n g_Chunks.cap, aw g_Exps.t g_Exps.n g_Exps.cap, aw g_Vols.t g_Vols.n g_Vols.cap])), (g_Snaps.t, .obj 60 (fl c_Snap (p0.Snaps : List TSnap) g_Snaps.sp)), (g_Chunks.t, .obj 63 (fl c_Chunk (p0.Chunks : List TChunk) g_Chunks.sp)), (g_Exps.t, .obj 65 (fl c_Exp (p0.Exps : List TExp) g_Exps.sp)), (g_Vols.t, .obj 40 (fl c_Vol (p0.Vols : List TVol) g_Vols.sp))]) (fun g s => AOk g 4 (s.1 : List TSnap).length) (fun g s => kp (kp (kp (kp (k0) 6 (.sc (.int .i64 s.2))) 5 (aw g.t g.n g.cap)) 1 (.sc (.int .i64 p1))) 0 (.ptr p0K 0)) g0 (⟨HOk.none hk0, (AOk.g0 4)⟩) (LeF.s (.k4 .nil)) ?_ ?_
 rintro ag0 ⟨q0, q1⟩ x ⟨hk1, ok0⟩ hm
 replace hm : M136_L0 fuel p0 p1 q0 q1 = some x := hm
 unfold M136_L0 at hm
 refine Zf fun K0 H5 => (Zf fun K5 H6 => (Za (vA rfl (s_v (o_mv (.ptr _ _) rfl) (s_v (o_nil rfl) (s_v (Zh fd27_1 rfl rfl) (s_v (Zg (aw g_Snaps.t g_Snaps.n g_Snaps.cap) ld22 rfl (Zd 1 hk1 rfl) rfl) (s_v (o_lenA ln22 ok_Snaps rfl) (vF rfl rfl rfl (Zb (H6 _ _ ?_)))))))))))
 refine AW_if' rfl (fun hc0 => ?_) (fun hc0 => ?_)
 have hm := Zi hm hc0
 refine Zl (H5 _ _ (Zf fun K6 H7 => (AW_block (Zf fun K7 H8 => (Za (s_v (o_mv (.ptr _ _) rfl) (s_v (o_nil rfl) (s_v (Zh fd27_1 rfl rfl) (s_v (Zg (aw g_Snaps.t g_Snaps.n g_Snaps.cap) ld22 rfl (Zd 1 hk1 rfl) rfl) (vA rfl ?_))))))))))
 obtain ⟨x0, hx0, hm⟩ := Zc hm
 refine s_v (o_ixA hx0 el22 ok_Snaps rfl rfl) (s_v (o_flA (AOk.ne ok_Snaps hx0) fd60_0 rfl rfl) (s_v (o_ldA (fo := 0) (.sc (.int .i64 x0.Seq)) hx0 cz_Snap ok_Snaps ld3 rfl (hp_at 2 hk1 rfl) (fun _ => rfl)) (vA rfl (vF rfl rfl rfl (Zb (H8 _ _ ?_))))))
 refine AW_joinL (n := 88) (h := h) hm (σ := (List TSnap)) (τ := AGh) (fun g s => [(g.t, .obj 60 (fl c_Snap (s : List TSnap) g.sp)), (some p0K, .obj 27 ([.sc (.int .i64 p0.Seq), aw g_Snaps.t g_Snaps.n g_Snaps.cap, aw g_Chunks.t g_Chunks.n g_Chunks.cap, aw g_Exps.t g_Exps.n g_Exps.cap, aw g_Vols.t g_Vols.n g_Vols.cap])), (g_Snaps.t, .obj 60 (fl c_Snap (p0.Snaps : List TSnap) g_Snaps.sp)), (g_Chunks.t, .obj 63 (fl c_Chunk (p0.Chunks : List TChunk) g_Chunks.sp)), (g_Exps.t, .obj 65 (fl c_Exp (p0.Exps : List TExp) g_Exps.sp)), (g_Vols.t, .obj 40 (fl c_Vol (p0.Vols : List TVol) g_Vols.sp))]) (fun g s => AOk g 4 (s : List TSnap).length) (fun g s => kp (kp (kp (kp (k0) 6 (.sc (.int .i64 q1))) 5 (aw g.t g.n g.cap)) 1 (.sc (.int .i64 p1))) 0 (.ptr p0K 0)) (fun x hm => ?_) ?_
 refine AW_if' rfl (fun hc1 => ?_) (fun hc1 => ?_)
 have hm := Zi hm hc1
 refine Za (s_v (o_mv (aw _ _ _) rfl) (s_v (o_mv (.ptr _ _) rfl) (s_v (o_nil rfl) (s_v (Zh fd27_1 rfl rfl) (s_v (Zg (aw g_Snaps.t g_Snaps.n g_Snaps.cap) ld22 rfl (Zd 1 hk1 rfl) rfl) (vA rfl ?_))))))
 obtain ⟨x1, hx1, hm⟩ := Zc hm
 refine s_v (o_ixA hx1 el22 ok_Snaps rfl rfl) (s_v (o_ldA (fo := 0) (.agg (c_Snap x1)) hx1 cz_Snap ok_Snaps ld60 rfl (hp_at 2 hk1 rfl) (fun _ => rfl)) (s_v (o_lit (List.map c_Snap ([x1] : List TSnap)) et22 rfl rfl rfl rfl) ?_))
 obtain ⟨z0, hz0, hm⟩ := Zc hm
 refine s_op (a_appA (c := c_Snap) 0 hz0 et22 rfl zr60 rfl cz_Snap rfl rfl ok0 hk1 rfl fun ag1 ok1 hk2 => ?_)
 refine s_v (o_as (aw _ _ _) rfl) (Zb ?_)
 cases hm
 exact ⟨rfl, ag1, ⟨hk2, ok1⟩, LeF.s (.k4 .nil)⟩
 have hm := Zj hm hc1
 refine Zl ?_
 cases hm
 exact ⟨rfl, ag0, ⟨hk1, ok0⟩, LeF.s (.k4 .nil)⟩
 rintro ag2 j0 fr' h' ⟨hk3, ok2⟩ hm le
 refine H7 _ _ (le.aw ?_)
 refine Za (vA rfl (vF rfl rfl rfl (vC rfl (Zb ?_))))
 cases hm
 exact ⟨rfl, ag2, ⟨hk3, ok2⟩, LeF.s (.k4 .nil)⟩
 have hm := Zj hm hc0
 refine AW_exit ?_
 refine Seq_exit ?_
 cases hm
 exact ⟨rfl, ag0, ⟨hk1, ok0⟩, LeF.s (.k4 .nil)⟩
 rintro ag3 ⟨r0, r1⟩ fr' h' ⟨hk4, ot0⟩ hm le
 refine H3 _ _ (le.aw ?_)
 refine Zf fun K8 H9 => (Zf fun K9 H10 => (Za (s_v (o_mv (aw _ _ _) rfl) (s_v (o_lenA ln22 ot0 rfl) (s_v (o_mv (.ptr _ _) rfl) (s_v (o_nil rfl) (s_v (Zh fd27_1 rfl rfl) (s_v (Zg (aw g_Snaps.t g_Snaps.n g_Snaps.cap) ld22 rfl (Zd 1 hk4 rfl) rfl) (s_v (o_lenA ln22 ok_Snaps rfl) (vF rfl rfl rfl (Zb (H10 _ _ ?_))))))))))))
 refine AW_if' rfl (fun hc2 => ?_) (fun hc2 => ?_)
 have hm := Zi hm hc2
 refine Zf fun K10 H11 => (Za (vD rfl (Zb (H11 _ _ (AW_ret ?_)))))
 have hmo := Option.some.inj hm; subst hmo
 exact LqE.mk (LeF.eqh rfl) (Ret.of1 (.inl rfl) (rsT _ _ (.sc (.bool _)) rfl) (hp_pick hk4 [1, 2, 3, 4, 5] rfl).2 (ALe.refl _ _) ⟨g_Snaps, ok_Snaps, g_Chunks, ok_Chunks, (hp_pick hk4 [1, 2, 3, 4, 5] rfl).1, rfl, rfl⟩)
 have hm := Zj hm hc2
 refine Zl (H9 _ _ (Zf fun K11 H12 => (Za (s_v (o_mv (.ptr _ _) rfl) (s_v (o_mv (aw _ _ _) rfl) (s_v (o_nil rfl) (s_v (Zh fd27_1 rfl rfl) ?_)))))))
 refine s_op (a_store 1 ([.sc (.int .i64 p0.Seq), aw ag3.t ag3.n ag3.cap, aw g_Chunks.t g_Chunks.n g_Chunks.cap, aw g_Exps.t g_Exps.n g_Exps.cap, aw g_Vols.t g_Vols.n g_Vols.cap]) hk4 rfl rfl (cellsOf_aw rfl) (all_c (ocell_aw _ _ _) rfl) sz22 rfl rfl fun hk5 => ?_)
 refine Zb (H12 _ _ (Zf fun K12 H13 => (Za (s_v (o_as (.sc (.slice _ _ _)) rfl) (Zb (H13 _ _ (Zf fun K13 H14 => (Zf fun K14 H15 => (Za (vC rfl (Zb (H15 _ _ ?_))))))))))))
 refine (LeF.put (t := 7) (v := aw g0.t g0.n g0.cap) (Sub.refl _) (ALe_nilA _)).aw ?_
 refine AW_loopL (n := 88) (h := h) hm (σ := (List TChunk) × Int) (τ := AGh) (fun g s => [(g.t, .obj 63 (fl c_Chunk (s.1 : List TChunk) g.sp)), (ag3.t, .obj 60 (fl c_Snap (r0 : List TSnap) ag3.sp)), (some p0K, .obj 27 ([.sc (.int .i64 p0.Seq), aw ag3.t ag3.n ag3.cap, aw g_Chunks.t g_Chunks.n g_Chunks.cap, aw g_Exps.t g_Exps.n g_Exps.cap, aw g_Vols.t g_Vols.n g_Vols.cap])), (g_Snaps.t, .obj 60 (fl c_Snap (p0.Snaps : List TSnap) g_Snaps.sp)), (g_Chunks.t, .obj 63 (fl c_Chunk (p0.Chunks : List TChunk) g_Chunks.sp)), (g_Exps.t, .obj 65 (fl c_Exp (p0.Exps : List TExp) g_Exps.sp)), (g_Vols.t, .obj 40 (fl c_Vol (p0.Vols : List TVol) g_Vols.sp))]) (fun g s => AOk g 35 (s.1 : List TChunk).length) (fun g s => kp (kp (kp (k0) 8 (.sc (.int .i64 s.2))) 7 (aw g.t g.n g.cap)) 0 (.ptr p0K 0)) g0 (⟨HOk.none hk5, (AOk.g0 35)⟩) (LeF.s (.k3 .nil)) ?_ ?_
 rintro ag4 ⟨q2, q3⟩ x ⟨hk6, ok3⟩ hm
 replace hm : M136_L2 fuel p0 r0 q2 q3 = some x := hm
 unfold M136_L2 at hm
 refine Zf fun K15 H16 => (Zf fun K16 H17 => (Za (vA rfl (s_v (o_mv (.ptr _ _) rfl) (s_v (o_nil rfl) (s_v (Zh fd27_2 rfl rfl) (s_v (Zg (aw g_Chunks.t g_Chunks.n g_Chunks.cap) ld23 rfl (Zd 2 hk6 rfl) rfl) (s_v (o_lenA ln23 ok_Chunks rfl) (vF rfl rfl rfl (Zb (H17 _ _ ?_)))))))))))
 refine AW_if' rfl (fun hc3 => ?_) (fun hc3 => ?_)
 have hm := Zi hm hc3
 refine Zl (H16 _ _ (Zf fun K17 H18 => ?_))
 refine AW_joinL (n := 88) (h := h) hm (σ := (List TChunk)) (τ := AGh) (fun g s => [(g.t, .obj 63 (fl c_Chunk (s : List TChunk) g.sp)), (ag3.t, .obj 60 (fl c_Snap (r0 : List TSnap) ag3.sp)), (some p0K, .obj 27 ([.sc (.int .i64 p0.Seq), aw ag3.t ag3.n ag3.cap, aw g_Chunks.t g_Chunks.n g_Chunks.cap, aw g_Exps.t g_Exps.n g_Exps.cap, aw g_Vols.t g_Vols.n g_Vols.cap])), (g_Snaps.t, .obj 60 (fl c_Snap (p0.Snaps : List TSnap) g_Snaps.sp)), (g_Chunks.t, .obj 63 (fl c_Chunk (p0.Chunks : List TChunk) g_Chunks.sp)), (g_Exps.t, .obj 65 (fl c_Exp (p0.Exps : List TExp) g_Exps.sp)), (g_Vols.t, .obj 40 (fl c_Vol (p0.Vols : List TVol) g_Vols.sp))]) (fun g s => AOk g 35 (s : List TChunk).length) (fun g s => kp (kp (kp (k0) 8 (.sc (.int .i64 q3))) 7 (aw g.t g.n g.cap)) 0 (.ptr p0K 0)) (fun x hm => ?_) ?_
 refine AW_block (Zf fun K18 H19 => (Za (s_v (o_mv (.ptr _ _) rfl) (s_v (o_nil rfl) (s_v (Zh fd27_2 rfl rfl) (s_v (Zg (aw g_Chunks.t g_Chunks.n g_Chunks.cap) ld23 rfl (Zd 2 hk6 rfl) rfl) (vA rfl ?_)))))))
 obtain ⟨x2, hx2, hm⟩ := Zc hm
 refine s_v (o_ixA hx2 el23 ok_Chunks rfl rfl) (s_v (o_ldA (fo := 0) (.agg (c_Chunk x2)) hx2 cz_Chunk ok_Chunks ld63 rfl (hp_at 4 hk6 rfl) (fun _ => rfl)) ?_)
 refine s_op (a_alloc (c_id idZ ++ ([.sc (.bool false), .sc (.slice none 0 0), .sc (.slice none 0 0)] : List AV)) hk6 zr63 rfl rfl fun k468 hk7 => ?_)
 refine s_op (a_store 0 (c_Chunk x2) hk7 rfl rfl rfl rfl sz63 rfl rfl fun hk8 => ?_)
 refine Zb (H19 _ _ (Zf fun K19 H20 => (Zf fun K20 H21 => ?_)))
 refine AW_rq mixed (by kernel_rfl) ?_
 refine q_v (o_mv (.ptr _ _) rfl) (q_v (o_nil rfl) (q_v (Zg (.agg ([.sc (.int .i64 p0.Seq), aw ag3.t ag3.n ag3.cap, aw g_Chunks.t g_Chunks.n g_Chunks.cap, aw g_Exps.t g_Exps.n g_Exps.cap, aw g_Vols.t g_Vols.n g_Vols.cap])) ld27 rfl (Zd 3 hk8 rfl) rfl) (q_v (Zh fd63_0 rfl rfl) (q_v (Zg (.agg (c_id x2.Id)) ld61 rfl (Zd 0 hk8 rfl) rfl) ?_))))
 obtain ⟨y0, hy0, hm⟩ := Zc hm
 refine q_v (o_call (ACalls_pure (.cons (Br.agg (.cons (Br.refl _ _) (.cons (Br.aw 2 cz_Snap ot0 hk8 rfl) (.cons (Br.aw 5 cz_Chunk ok_Chunks hk8 rfl) (.cons (Br.aw 6 cz_Exp ok_Exps hk8 rfl) (.cons (Br.aw 7 cz_Vol ok_Vols hk8 rfl) .nil)))))) (.cons (Br.refl _ _) .nil)) rfl (W65 _ hy0)) rfl bd65 rfl) (q_v (o_not rfl) (q_nil (H21 _ _ ?_)))
 refine AW_joinH (n := 88) (h := h) hm (σ := TChunk) (τ := Unit) (fun g s => [(some k468, .obj 63 (c_Chunk s)), (ag4.t, .obj 63 (fl c_Chunk (q2 : List TChunk) ag4.sp)), (ag3.t, .obj 60 (fl c_Snap (r0 : List TSnap) ag3.sp)), (some p0K, .obj 27 ([.sc (.int .i64 p0.Seq), aw ag3.t ag3.n ag3.cap, aw g_Chunks.t g_Chunks.n g_Chunks.cap, aw g_Exps.t g_Exps.n g_Exps.cap, aw g_Vols.t g_Vols.n g_Vols.cap])), (g_Snaps.t, .obj 60 (fl c_Snap (p0.Snaps : List TSnap) g_Snaps.sp)), (g_Chunks.t, .obj 63 (fl c_Chunk (p0.Chunks : List TChunk) g_Chunks.sp)), (g_Exps.t, .obj 65 (fl c_Exp (p0.Exps : List TExp) g_Exps.sp)), (g_Vols.t, .obj 40 (fl c_Vol (p0.Vols : List TVol) g_Vols.sp))]) (fun g s => kp (kp (kp (kp (k0) 9 (.ptr k468 0)) 8 (.sc (.int .i64 q3))) 7 (aw ag4.t ag4.n ag4.cap)) 0 (.ptr p0K 0)) (fun x hm => ?_) ?_
 refine AW_if' rfl (fun hc4 => ?_) (fun hc4 => ?_)
 have hm := Zi hm hc4
 refine Zf fun K21 H22 => (Za (s_v (Zh fd63_1 rfl rfl) ?_))
 refine s_op (a_store 0 (c_Chunk { x2 with Staged := false }) hk8 rfl rfl rfl rfl sz4 rfl rfl fun hk9 => ?_)
 refine s_v (Zh fd63_2 rfl rfl) ?_
 refine s_op (a_storeL 0 (c_Chunk { { x2 with Staged := false } with Data := ([] : List Int) }) hk9 rfl rfl rfl rfl (.cons (nil_lem _) .nil) sz52 rfl rfl fun hk10 => ?_)
 refine Zb (H22 _ _ (Zf fun K22 H23 => (Za (s_v (Zh fd63_3 rfl rfl) (s_v (Zg (.sl none 4 (List.map c_Loc ({ { x2 with Staged := false } with Data := ([] : List Int) }.Locs))) ld58 rfl (Zd 0 hk10 rfl) rfl) (s_v (o_lenm ln58 rfl) (vF rfl rfl rfl (Zb (H23 _ _ ?_)))))))))
 refine AW_if' rfl (fun hc5 => ?_) (fun hc5 => ?_)
 have hm := Zi hm hc5
 refine AW_exit ?_
 cases hm
 refine ⟨nofun, fun he => ?_⟩
 subst he
 refine Seq_exit ?_
 refine Blk_exit ?_
 exact ⟨rfl, ag4, ⟨(hp_sub (.cons _ (.refl _)) hk10).2, ok3⟩, LeF.fm ((hp_sub (.cons _ (.refl _)) hk10).1) (.k3 .nil)⟩
 have hm := Zj hm hc5
 refine Zl ?_
 cases hm
 exact ⟨rfl, (), hk10, LeF.s (.k4 .nil)⟩
 have hm := Zj hm hc4
 refine Zl ?_
 cases hm
 exact ⟨rfl, (), hk8, LeF.s (.k4 .nil)⟩
 rintro _ j1 fr' h' hk11 hm le
 refine H20 _ _ (le.aw ?_)
 refine Za (s_v (o_mv (aw _ _ _) rfl) (s_v (Zg (.agg (c_Chunk j1)) ld63 rfl (Zd 0 hk11 rfl) rfl) (s_v (o_lit (List.map c_Chunk ([j1] : List TChunk)) et23 rfl rfl rfl rfl) ?_)))
 obtain ⟨z1, hz1, hm⟩ := Zc hm
 refine s_op (a_appA (c := c_Chunk) 1 hz1 et23 rfl zr63 rfl cz_Chunk rfl rfl ok3 hk11 rfl fun ag5 ok4 hk12 => ?_)
 refine s_v (o_as (aw _ _ _) rfl) (Zb ?_)
 cases hm
 exact ⟨rfl, ag5, ⟨(hp_sub (.cons _ (.refl _)) hk12).2, ok4⟩, LeF.fm ((hp_sub (.cons _ (.refl _)) hk12).1) (.k3 .nil)⟩
 rintro ag6 j2 fr' h' ⟨hk13, ok5⟩ hm le
 refine H18 _ _ (le.aw ?_)
 refine Za (vA rfl (vF rfl rfl rfl (vC rfl (Zb ?_))))
 cases hm
 exact ⟨rfl, ag6, ⟨hk13, ok5⟩, LeF.s (.k3 .nil)⟩
 have hm := Zj hm hc3
 refine AW_exit ?_
 refine Seq_exit ?_
 cases hm
 exact ⟨rfl, ag4, ⟨hk6, ok3⟩, LeF.s (.k3 .nil)⟩
 rintro ag7 ⟨r2, r3⟩ fr' h' ⟨hk14, ot1⟩ hm le
 refine H14 _ _ (le.aw ?_)
 refine Zf fun K23 H24 => (Za (s_v (o_mv (.ptr _ _) rfl) (s_v (o_mv (aw _ _ _) rfl) (s_v (o_nil rfl) (s_v (Zh fd27_2 rfl rfl) ?_)))))
 refine s_op (a_store 2 ([.sc (.int .i64 p0.Seq), aw ag3.t ag3.n ag3.cap, aw ag7.t ag7.n ag7.cap, aw g_Exps.t g_Exps.n g_Exps.cap, aw g_Vols.t g_Vols.n g_Vols.cap]) hk14 rfl rfl (cellsOf_aw rfl) (all_c (ocell_aw _ _ _) rfl) sz23 rfl rfl fun hk15 => ?_)
 refine Zb (H24 _ _ (Zf fun K24 H25 => (Za (vD rfl (Zb (H25 _ _ (AW_ret ?_)))))))
 have hmo := Option.some.inj hm; subst hmo
 exact LqE.mk (LeF.eqh rfl) (Ret.of1 (.inl rfl) (rsT _ _ (.sc (.bool _)) rfl) (hp_pick hk15 [2, 1, 0, 5, 6] rfl).2 (ALe.refl _ _) ⟨ag3, ot0, ag7, ot1, (hp_pick hk15 [2, 1, 0, 5, 6] rfl).1, rfl, rfl⟩)
theorem bd136 : bodied Try.prog 136 = true := by kernel_rfl
def M138_L3 (fuel : Nat) (p0 : TCatalog) (p1 : TItem) (p2 : TLoc) (q0 : Int) : Option (Lp (Int) (Lp (Int × (List TChunk) × (List TExp)) (Bool × Int × (List TSnap) × (List TChunk) × (List TExp)))) :=
 if (decide (q0 < (p0.Snaps.length : Int))) = true then ((ix p0.Snaps q0).bind fun x0 => if (x0.Seq == p1.Seq) = true then ((ix p0.Snaps q0).bind fun x1 => (M146 fuel x1.Locs p2).bind fun y0 => (ix p0.Snaps q0).bind fun x2 => some (.ret (.ret (true, p0.Seq, p0.Snaps.set q0.toNat ({ x2 with Locs := y0 }), p0.Chunks, p0.Exps)))) else some (.go (IntKind.wrap .i64 (q0 + 1)))) else some (.brk q0)
def M138_L1 (fuel : Nat) (p0 : TCatalog) (p1 : TItem) (q0 : Int) : Option (Lp (Int) (Lp (Int × (List TChunk) × (List TExp)) (Bool × Int × (List TSnap) × (List TChunk) × (List TExp)))) :=
 after (if (decide (q0 < (p0.Exps.length : Int))) = true then ((ix p0.Exps q0).bind fun x0 => some (.brk (decide (x0.Seq < p1.Seq)))) else some (.brk false) : Option (Lp (Bool) (Lp (Int) (Lp (Int × (List TChunk) × (List TExp)) (Bool × Int × (List TSnap) × (List TChunk) × (List TExp)))))) fun j0 => if j0 = true then (some (.go (IntKind.wrap .i64 (q0 + 1)))) else some (.brk q0)
def M138 (fuel : Nat) (p0 : TCatalog) (p1 : TItem) (p2 : TLoc) : Option (Bool × Int × (List TSnap) × (List TChunk) × (List TExp)) :=
 after (if (p1.Kind == 1) = true then ((M64 fuel ({ Seq := p0.Seq, Snaps := p0.Snaps, Chunks := p0.Chunks, Exps := p0.Exps, Vols := p0.Vols } : TCatalog) p1.Id).bind fun y0 => if (decide (y0 < 0)) = true then (some (.ret (false, p0.Seq, p0.Snaps, p0.Chunks, p0.Exps))) else (ix p0.Chunks y0).bind fun x0 => (M146 fuel x0.Locs p2).bind fun y1 => (ix p0.Chunks y0).bind fun x1 => some (.brk (p0.Seq, p0.Chunks.set y0.toNat ({ x1 with Locs := y1 }), p0.Exps))) else if (p1.Kind == 2) = true then (after (loopM (fun s => M138_L3 fuel p0 p1 p2 s) fuel 0) fun r0 => some (.ret (false, p0.Seq, p0.Snaps, p0.Chunks, p0.Exps))) else after (loopM (fun s => M138_L1 fuel p0 p1 s) fuel 0) fun r1 => after (if (decide (r1 < (p0.Exps.length : Int))) = true then ((ix p0.Exps r1).bind fun x2 => some (.brk (x2.Seq == p1.Seq))) else some (.brk false) : Option (Lp (Bool) (Lp (Int × (List TChunk) × (List TExp)) (Bool × Int × (List TSnap) × (List TChunk) × (List TExp))))) fun j0 => if j0 = true then ((ix p0.Exps r1).bind fun x3 => (M146 fuel x3.Locs p2).bind fun y2 => (ix p0.Exps r1).bind fun x4 => some (.ret (true, p0.Seq, p0.Snaps, p0.Chunks, p0.Exps.set r1.toNat ({ x4 with Locs := y2 })))) else (slc p0.Exps 0 r1).bind fun x5 => (app ([] : List TExp) x5).bind fun z0 => (app z0 ([({ Seq := p1.Seq, Of := p1.Of, Locs := ([p2] : List TLoc) } : TExp)] : List TExp)).bind fun z1 => (slc p0.Exps r1 (p0.Exps).length).bind fun x6 => (app z1 x6).bind fun z2 => after (if (decide (p0.Seq ≤ p1.Seq)) = true then (some (.brk (decide (p1.Seq < 4611686018427387904)))) else some (.brk false) : Option (Lp (Bool) (Lp (Int × (List TChunk) × (List TExp)) (Bool × Int × (List TSnap) × (List TChunk) × (List TExp))))) fun j1 => after (if j1 = true then (some (.brk (IntKind.wrap .i64 (p1.Seq + 1)))) else some (.brk p0.Seq) : Option (Lp (Int) (Lp (Int × (List TChunk) × (List TExp)) (Bool × Int × (List TSnap) × (List TChunk) × (List TExp))))) fun j2 => some (.brk (j2, p0.Chunks, z2)) : Option (Lp (Int × (List TChunk) × (List TExp)) (Bool × Int × (List TSnap) × (List TChunk) × (List TExp)))) fun ⟨j3, j4, j5⟩ => some (true, j3, p0.Snaps, j4, j5)
set_option maxHeartbeats 4000000 in
set_option maxRecDepth 100000 in
theorem W138 {fuel : Nat} {p0 : TCatalog} {p1 : TItem} {p2 : TLoc} {o : Bool × Int × (List TSnap) × (List TChunk) × (List TExp)} (h : Heap) {p0K : Key} {g_Snaps : AGh} (ok_Snaps : AOk g_Snaps 4 p0.Snaps.length) {g_Chunks : AGh} (ok_Chunks : AOk g_Chunks 35 p0.Chunks.length) {g_Exps : AGh} (ok_Exps : AOk g_Exps 3 p0.Exps.length) {g_Vols : AGh} (ok_Vols : AOk g_Vols 4 p0.Vols.length) (hk0 : HOk h [(some p0K, .obj 27 ([.sc (.int .i64 p0.Seq), aw g_Snaps.t g_Snaps.n g_Snaps.cap, aw g_Chunks.t g_Chunks.n g_Chunks.cap, aw g_Exps.t g_Exps.n g_Exps.cap, aw g_Vols.t g_Vols.n g_Vols.cap])), (g_Snaps.t, .obj 60 (fl c_Snap (p0.Snaps : List TSnap) g_Snaps.sp)), (g_Chunks.t, .obj 63 (fl c_Chunk (p0.Chunks : List TChunk) g_Chunks.sp)), (g_Exps.t, .obj 65 (fl c_Exp (p0.Exps : List TExp) g_Exps.sp)), (g_Vols.t, .obj 40 (fl c_Vol (p0.Vols : List TVol) g_Vols.sp))]) (hm : M138 fuel p0 p1 p2 = some o) :
 ACalls Try.prog 138 [.ptr p0K 0, .agg (c_Item p1), .agg (c_Loc p2)] (hp h [(some p0K, .obj 27 ([.sc (.int .i64 p0.Seq), aw g_Snaps.t g_Snaps.n g_Snaps.cap, aw g_Chunks.t g_Chunks.n g_Chunks.cap, aw g_Exps.t g_Exps.n g_Exps.cap, aw g_Vols.t g_Vols.n g_Vols.cap])), (g_Snaps.t, .obj 60 (fl c_Snap (p0.Snaps : List TSnap) g_Snaps.sp)), (g_Chunks.t, .obj 63 (fl c_Chunk (p0.Chunks : List TChunk) g_Chunks.sp)), (g_Exps.t, .obj 65 (fl c_Exp (p0.Exps : List TExp) g_Exps.sp)), (g_Vols.t, .obj 40 (fl c_Vol (p0.Vols : List TVol) g_Vols.sp))]) (fun r h' => ∃ g_Snaps' : AGh, AOk g_Snaps' 4 (o.2.2.1 : List TSnap).length ∧ ∃ g_Chunks' : AGh, AOk g_Chunks' 35 (o.2.2.2.1 : List TChunk).length ∧ ∃ g_Exps' : AGh, AOk g_Exps' 3 (o.2.2.2.2 : List TExp).length ∧ HOk h [(some p0K, .obj 27 ([.sc (.int .i64 o.2.1), aw g_Snaps'.t g_Snaps'.n g_Snaps'.cap, aw g_Chunks'.t g_Chunks'.n g_Chunks'.cap, aw g_Exps'.t g_Exps'.n g_Exps'.cap, aw g_Vols.t g_Vols.n g_Vols.cap])), (g_Snaps'.t, .obj 60 (fl c_Snap (o.2.2.1 : List TSnap) g_Snaps'.sp)), (g_Chunks'.t, .obj 63 (fl c_Chunk (o.2.2.2.1 : List TChunk) g_Chunks'.sp)), (g_Exps'.t, .obj 65 (fl c_Exp (o.2.2.2.2 : List TExp) g_Exps'.sp)), (g_Vols.t, .obj 40 (fl c_Vol (p0.Vols : List TVol) g_Vols.sp))] ∧ r = .sc (.bool o.1) ∧ h' = hp h [(some p0K, .obj 27 ([.sc (.int .i64 o.2.1), aw g_Snaps'.t g_Snaps'.n g_Snaps'.cap, aw g_Chunks'.t g_Chunks'.n g_Chunks'.cap, aw g_Exps'.t g_Exps'.n g_Exps'.cap, aw g_Vols.t g_Vols.n g_Vols.cap])), (g_Snaps'.t, .obj 60 (fl c_Snap (o.2.2.1 : List TSnap) g_Snaps'.sp)), (g_Chunks'.t, .obj 63 (fl c_Chunk (o.2.2.2.1 : List TChunk) g_Chunks'.sp)), (g_Exps'.t, .obj 65 (fl c_Exp (o.2.2.2.2 : List TExp) g_Exps'.sp)), (g_Vols.t, .obj 40 (fl c_Vol (p0.Vols : List TVol) g_Vols.sp))]) := by
 refine ACalls_fm 184 [.tmp 6] Try.func138 rfl rfl rfl rfl ?_
 unfold M138 at hm
 refine AW_lq ?_
 refine Zf fun K1 H1 => (Za ?_)
 refine s_op (a_box hk0 rfl rfl fun k2 hk3 => ?_)
 refine s_op (a_box hk3 rfl rfl fun k5 hk6 => ?_)
 refine vD rfl (Zb (H1 _ _ (Zf fun K8 H8 => (Zf fun K9 H9 => (Za (s_v (Zh fd99_0 rfl rfl) (s_v (Zg (.sc (.int .i64 p1.Kind)) ld3 rfl (Zd 1 hk6 rfl) rfl) (Zb (H9 _ _ (AW_block (Zf fun K0 H2 => (Za (vF rfl rfl rfl (vD rfl (Zb ?_)))))))))))))))
 refine H2 _ _ ?_
 refine AW_joinL (n := 184) (h := h) hm (σ := Int × (List TChunk) × (List TExp)) (τ := AGh × AGh) (fun g s => [(some k5, .obj 77 (c_Loc p2)), (some k2, .obj 99 (c_Item p1)), (some p0K, .obj 27 ([.sc (.int .i64 s.1), aw g_Snaps.t g_Snaps.n g_Snaps.cap, aw g.1.t g.1.n g.1.cap, aw g.2.t g.2.n g.2.cap, aw g_Vols.t g_Vols.n g_Vols.cap])), (g_Snaps.t, .obj 60 (fl c_Snap (p0.Snaps : List TSnap) g_Snaps.sp)), (g.1.t, .obj 63 (fl c_Chunk (s.2.1 : List TChunk) g.1.sp)), (g.2.t, .obj 65 (fl c_Exp (s.2.2 : List TExp) g.2.sp)), (g_Vols.t, .obj 40 (fl c_Vol (p0.Vols : List TVol) g_Vols.sp))]) (fun g s => AOk g.1 35 (s.2.1 : List TChunk).length ∧ AOk g.2 3 (s.2.2 : List TExp).length) (fun g s => k0) (fun x hm => ?_) ?_
 refine AW_if' rfl (fun hc0 => ?_) (fun hc0 => ?_)
 have hm := Zi hm hc0
 refine Zf fun K2 H3 => ?_
 refine AW_rq mixed (by kernel_rfl) ?_
 refine q_v (o_mv (.ptr _ _) rfl) (q_v (o_nil rfl) (q_v (Zg (.agg ([.sc (.int .i64 p0.Seq), aw g_Snaps.t g_Snaps.n g_Snaps.cap, aw g_Chunks.t g_Chunks.n g_Chunks.cap, aw g_Exps.t g_Exps.n g_Exps.cap, aw g_Vols.t g_Vols.n g_Vols.cap])) ld27 rfl (Zd 2 hk6 rfl) rfl) (q_v (Zh fd99_1 rfl rfl) (q_v (Zg (.agg (c_id p1.Id)) ld61 rfl (Zd 1 hk6 rfl) rfl) ?_))))
 obtain ⟨y0, hy0, hm⟩ := Zc hm
 refine q_v (o_call (ACalls_pure (.cons (Br.agg (.cons (Br.refl _ _) (.cons (Br.aw 3 cz_Snap ok_Snaps hk6 rfl) (.cons (Br.aw 4 cz_Chunk ok_Chunks hk6 rfl) (.cons (Br.aw 5 cz_Exp ok_Exps hk6 rfl) (.cons (Br.aw 6 cz_Vol ok_Vols hk6 rfl) .nil)))))) (.cons (Br.refl _ _) .nil)) rfl (W64 _ hy0)) rfl bd64 rfl) (wC rfl (q_nil (H3 _ _ (Zf fun K3 H4 => (Zf fun K4 H5 => (Za (vA rfl (vF rfl rfl rfl (Zb (H5 _ _ ?_))))))))))
 refine AW_if' rfl (fun hc1 => ?_) (fun hc1 => ?_)
 have hm := Zi hm hc1
 refine Zf fun K5 H6 => (Za (vD rfl (Zb (H6 _ _ (AW_ret ?_)))))
 cases hm
 refine ⟨nofun, fun he => ?_⟩
 subst he
 exact LqE.mk (LeF.eqh rfl) (Ret.of1 (.inl rfl) (rsT _ _ (.sc (.bool _)) rfl) (hp_pick hk6 [2, 3, 4, 5, 6] rfl).2 (ALe.refl _ _) ⟨g_Snaps, ok_Snaps, g_Chunks, ok_Chunks, g_Exps, ok_Exps, (hp_pick hk6 [2, 3, 4, 5, 6] rfl).1, rfl, rfl⟩)
 have hm := Zj hm hc1
 refine Zl (H4 _ _ ?_)
 refine AW_zreg [(1000000, some p0K, .obj 27 ([.sc (.int .i64 p0.Seq), aw g_Snaps.t g_Snaps.n g_Snaps.cap, aw g_Chunks.t g_Chunks.n g_Chunks.cap, aw g_Exps.t g_Exps.n g_Exps.cap, aw g_Vols.t g_Vols.n g_Vols.cap])), (17, g_Chunks.t, .obj 63 (fl c_Chunk (p0.Chunks : List TChunk) g_Chunks.sp)), (1000000, some k5, .obj 77 (c_Loc p2))] mixed (⟨fun _ => hp_at 2 hk6 rfl, fun _ => hp_at 4 hk6 rfl, fun _ => hp_at 0 hk6 rfl, trivial⟩) ?_
 refine z_w 0 rfl (fun S' h' hi hB => o_mv (.ptr _ _) rfl) ?_
 refine z_w 1 rfl (fun S' h' hi hB => o_nil rfl) ?_
 refine z_w 2 rfl (fun S' h' hi hB => Zh fd27_2 rfl rfl) ?_
 refine z_w 3 rfl (fun S' h' hi hB => Zg (aw g_Chunks.t g_Chunks.n g_Chunks.cap) ld23 rfl (At.s (InvL.get 0 hi rfl (hB 1000000 (by kernel_rfl)))) rfl) ?_
 refine z_w 4 rfl (fun S' h' hi hB => o_mv (.sc (.int _ _)) rfl) ?_
 refine z_w 5 rfl (fun S' h' hi hB => o_mv (.ptr _ _) rfl) ?_
 refine z_w 6 rfl (fun S' h' hi hB => o_nil rfl) ?_
 refine z_w 7 rfl (fun S' h' hi hB => Zh fd27_2 rfl rfl) ?_
 refine z_w 8 rfl (fun S' h' hi hB => Zg (aw g_Chunks.t g_Chunks.n g_Chunks.cap) ld23 rfl (At.s (InvL.get 0 hi rfl (hB 1000000 (by kernel_rfl)))) rfl) ?_
 refine z_w 9 rfl (fun S' h' hi hB => o_mv (.sc (.int _ _)) rfl) ?_
 obtain ⟨x0, hx0, hm⟩ := Zc hm
 refine z_w 10 rfl (fun S' h' hi hB => o_ixA hx0 el23 ok_Chunks rfl rfl) ?_
 refine z_w 11 rfl (fun S' h' hi hB => o_flA (AOk.ne ok_Chunks hx0) fd63_3 rfl rfl) ?_
 refine z_w 12 rfl (fun S' h' hi hB => o_ldA (fo := 34) (.sl none 4 (List.map c_Loc x0.Locs)) hx0 cz_Chunk ok_Chunks ld58 rfl (InvL.get 1 hi rfl (hB 17 (by kernel_rfl))) (fun _ => rfl)) ?_
 refine z_w 13 rfl (fun S' h' hi hB => Zg (.agg (c_Loc p2)) ld77 rfl (At.s (InvL.get 2 hi rfl (hB 1000000 (by kernel_rfl)))) rfl) ?_
 obtain ⟨y1, hy1, hm⟩ := Zc hm
 refine z_w 14 rfl (fun S' h' hi hB => o_call (W146 _ hy1) rfl bd146 rfl) ?_
 obtain ⟨x1, hx1, hm⟩ := Zc hm
 refine z_w 15 rfl (fun S' h' hi hB => o_ixA hx1 el23 ok_Chunks rfl rfl) ?_
 refine z_w 16 rfl (fun S' h' hi hB => o_flA (AOk.ne ok_Chunks hx1) fd63_3 rfl rfl) ?_
 refine z_e 17 rfl (by kernel_rfl) (a_storeA (fo := 34) ({ x1 with Locs := y1 } : TChunk) 4 hk6 hx1 cz_Chunk ok_Chunks rfl rfl rfl rfl (ALeL.refl _ _) sz58 rfl rfl fun hk1 => ⟨⟨fun _ => hp_at 2 hk1 rfl, fun e => absurd e (by decide), fun _ => hp_at 0 hk1 rfl, trivial⟩, ?_⟩)
 refine z_nil (by kernel_rfl) ?_
 cases hm
 exact ⟨rfl, (g_Chunks, g_Exps), ⟨hk1, (AOk.set ok_Chunks), ok_Exps⟩, LeF.s .nil⟩
 have hm := Zj hm hc0
 refine Zf fun K6 H7 => (Za (vF rfl rfl rfl (vD rfl (Zb (H7 _ _ ?_)))))
 refine AW_if' rfl (fun hc2 => ?_) (fun hc2 => ?_)
 have hm := Zi hm hc2
 refine Zf fun K7 H11 => (Zf fun K11 H12 => (Za (vC rfl (Zb (H12 _ _ ?_)))))
 refine AW_loopH (n := 184) (h := h) hm (σ := Int) (τ := Unit) (fun g s => [(some k5, .obj 77 (c_Loc p2)), (some k2, .obj 99 (c_Item p1)), (some p0K, .obj 27 ([.sc (.int .i64 p0.Seq), aw g_Snaps.t g_Snaps.n g_Snaps.cap, aw g_Chunks.t g_Chunks.n g_Chunks.cap, aw g_Exps.t g_Exps.n g_Exps.cap, aw g_Vols.t g_Vols.n g_Vols.cap])), (g_Snaps.t, .obj 60 (fl c_Snap (p0.Snaps : List TSnap) g_Snaps.sp)), (g_Chunks.t, .obj 63 (fl c_Chunk (p0.Chunks : List TChunk) g_Chunks.sp)), (g_Exps.t, .obj 65 (fl c_Exp (p0.Exps : List TExp) g_Exps.sp)), (g_Vols.t, .obj 40 (fl c_Vol (p0.Vols : List TVol) g_Vols.sp))]) (fun g s => kp (kp (kp (kp (k0) 8 (.sc (.int .i64 s))) 5 (.ptr k5 0)) 4 (.ptr k2 0)) 0 (.ptr p0K 0)) () hk6 (LeF.s (.k4 .nil)) ?_ ?_
 rintro _ q0 x hk2 hm
 replace hm : M138_L3 fuel p0 p1 p2 q0 = some x := hm
 unfold M138_L3 at hm
 refine Zf fun K12 H13 => (Zf fun K13 H14 => (Za (vA rfl (s_v (o_mv (.ptr _ _) rfl) (s_v (o_nil rfl) (s_v (Zh fd27_1 rfl rfl) (s_v (Zg (aw g_Snaps.t g_Snaps.n g_Snaps.cap) ld22 rfl (Zd 2 hk2 rfl) rfl) (s_v (o_lenA ln22 ok_Snaps rfl) (vF rfl rfl rfl (Zb (H14 _ _ ?_)))))))))))
 refine AW_if' rfl (fun hc3 => ?_) (fun hc3 => ?_)
 have hm := Zi hm hc3
 refine Zl (H13 _ _ (Zf fun K14 H15 => (AW_block (Zf fun K15 H16 => ?_))))
 refine AW_rq mixed (by kernel_rfl) ?_
 refine q_v (o_mv (.ptr _ _) rfl) (q_v (o_nil rfl) (q_v (Zh fd27_1 rfl rfl) (q_v (Zg (aw g_Snaps.t g_Snaps.n g_Snaps.cap) ld22 rfl (Zd 2 hk2 rfl) rfl) (wA rfl ?_))))
 obtain ⟨x2, hx2, hm⟩ := Zc hm
 refine q_v (o_ixA hx2 el22 ok_Snaps rfl rfl) (q_v (o_flA (AOk.ne ok_Snaps hx2) fd60_0 rfl rfl) (q_v (o_ldA (fo := 0) (.sc (.int .i64 x2.Seq)) hx2 cz_Snap ok_Snaps ld3 rfl (hp_at 3 hk2 rfl) (fun _ => rfl)) (q_v (Zh fd99_2 rfl rfl) (q_v (Zg (.sc (.int .i64 p1.Seq)) ld3 rfl (Zd 1 hk2 rfl) rfl) (wF rfl rfl rfl (q_nil (H16 _ _ ?_)))))))
 refine AW_if' rfl (fun hc4 => ?_) (fun hc4 => ?_)
 have hm := Zi hm hc4
 refine Zf fun K16 H17 => ?_
 refine AW_zreg [(1000000, some p0K, .obj 27 ([.sc (.int .i64 p0.Seq), aw g_Snaps.t g_Snaps.n g_Snaps.cap, aw g_Chunks.t g_Chunks.n g_Chunks.cap, aw g_Exps.t g_Exps.n g_Exps.cap, aw g_Vols.t g_Vols.n g_Vols.cap])), (17, g_Snaps.t, .obj 60 (fl c_Snap (p0.Snaps : List TSnap) g_Snaps.sp)), (1000000, some k5, .obj 77 (c_Loc p2))] mixed (⟨fun _ => hp_at 2 hk2 rfl, fun _ => hp_at 3 hk2 rfl, fun _ => hp_at 0 hk2 rfl, trivial⟩) ?_
 refine z_w 0 rfl (fun S' h' hi hB => o_mv (.ptr _ _) rfl) ?_
 refine z_w 1 rfl (fun S' h' hi hB => o_nil rfl) ?_
 refine z_w 2 rfl (fun S' h' hi hB => Zh fd27_1 rfl rfl) ?_
 refine z_w 3 rfl (fun S' h' hi hB => Zg (aw g_Snaps.t g_Snaps.n g_Snaps.cap) ld22 rfl (At.s (InvL.get 0 hi rfl (hB 1000000 (by kernel_rfl)))) rfl) ?_
 refine z_w 4 rfl (fun S' h' hi hB => o_mv (.sc (.int _ _)) rfl) ?_
 refine z_w 5 rfl (fun S' h' hi hB => o_mv (.ptr _ _) rfl) ?_
 refine z_w 6 rfl (fun S' h' hi hB => o_nil rfl) ?_
 refine z_w 7 rfl (fun S' h' hi hB => Zh fd27_1 rfl rfl) ?_
 refine z_w 8 rfl (fun S' h' hi hB => Zg (aw g_Snaps.t g_Snaps.n g_Snaps.cap) ld22 rfl (At.s (InvL.get 0 hi rfl (hB 1000000 (by kernel_rfl)))) rfl) ?_
 refine z_w 9 rfl (fun S' h' hi hB => o_mv (.sc (.int _ _)) rfl) ?_
 obtain ⟨x3, hx3, hm⟩ := Zc hm
 refine z_w 10 rfl (fun S' h' hi hB => o_ixA hx3 el22 ok_Snaps rfl rfl) ?_
 refine z_w 11 rfl (fun S' h' hi hB => o_flA (AOk.ne ok_Snaps hx3) fd60_2 rfl rfl) ?_
 refine z_w 12 rfl (fun S' h' hi hB => o_ldA (fo := 3) (.sl none 4 (List.map c_Loc x3.Locs)) hx3 cz_Snap ok_Snaps ld58 rfl (InvL.get 1 hi rfl (hB 17 (by kernel_rfl))) (fun _ => rfl)) ?_
 refine z_w 13 rfl (fun S' h' hi hB => Zg (.agg (c_Loc p2)) ld77 rfl (At.s (InvL.get 2 hi rfl (hB 1000000 (by kernel_rfl)))) rfl) ?_
 obtain ⟨y2, hy2, hm⟩ := Zc hm
 refine z_w 14 rfl (fun S' h' hi hB => o_call (W146 _ hy2) rfl bd146 rfl) ?_
 obtain ⟨x4, hx4, hm⟩ := Zc hm
 refine z_w 15 rfl (fun S' h' hi hB => o_ixA hx4 el22 ok_Snaps rfl rfl) ?_
 refine z_w 16 rfl (fun S' h' hi hB => o_flA (AOk.ne ok_Snaps hx4) fd60_2 rfl rfl) ?_
 refine z_e 17 rfl (by kernel_rfl) (a_storeA (fo := 3) ({ x4 with Locs := y2 } : TSnap) 3 hk2 hx4 cz_Snap ok_Snaps rfl rfl rfl rfl (ALeL.refl _ _) sz58 rfl rfl fun hk4 => ⟨⟨fun _ => hp_at 2 hk4 rfl, fun e => absurd e (by decide), fun _ => hp_at 0 hk4 rfl, trivial⟩, ?_⟩)
 refine z_nil (by kernel_rfl) ?_
 refine H17 _ _ (Zf fun K17 H18 => (Za (vD rfl (Zb (H18 _ _ (AW_ret ?_))))))
 cases hm
 refine ⟨⟨nofun, nofun⟩, fun he => ?_⟩
 subst he
 refine ⟨nofun, fun he => ?_⟩
 subst he
 exact LqE.mk (LeF.eqh rfl) (Ret.of1 (.inl rfl) (rsT _ _ (.sc (.bool _)) rfl) (hp_pick hk4 [2, 3, 4, 5, 6] rfl).2 (ALe.refl _ _) ⟨g_Snaps, (AOk.set ok_Snaps), g_Chunks, ok_Chunks, g_Exps, ok_Exps, (hp_pick hk4 [2, 3, 4, 5, 6] rfl).1, rfl, rfl⟩)
 have hm := Zj hm hc4
 refine Zl (H15 _ _ (Za (vA rfl (vF rfl rfl rfl (vC rfl (Zb ?_))))))
 cases hm
 exact ⟨rfl, (), hk2, LeF.s (.k4 .nil)⟩
 have hm := Zj hm hc3
 refine AW_exit ?_
 refine Seq_exit ?_
 cases hm
 exact ⟨rfl, (), hk2, LeF.s (.k4 .nil)⟩
 rintro _ r0 fr' h' hk5 hm le
 refine H11 _ _ (le.aw ?_)
 refine Zf fun K18 H19 => (Za (vD rfl (Zb (H19 _ _ (AW_ret ?_)))))
 cases hm
 refine ⟨nofun, fun he => ?_⟩
 subst he
 exact LqE.mk (LeF.eqh rfl) (Ret.of1 (.inl rfl) (rsT _ _ (.sc (.bool _)) rfl) (hp_pick hk5 [2, 3, 4, 5, 6] rfl).2 (ALe.refl _ _) ⟨g_Snaps, ok_Snaps, g_Chunks, ok_Chunks, g_Exps, ok_Exps, (hp_pick hk5 [2, 3, 4, 5, 6] rfl).1, rfl, rfl⟩)
 have hm := Zj hm hc2
 refine Zf fun K19 H20 => (Za (vC rfl (Zb (H20 _ _ (Zf fun K20 H21 => ?_)))))
 refine AW_loopH (n := 184) (h := h) hm (σ := Int) (τ := Unit) (fun g s => [(some k5, .obj 77 (c_Loc p2)), (some k2, .obj 99 (c_Item p1)), (some p0K, .obj 27 ([.sc (.int .i64 p0.Seq), aw g_Snaps.t g_Snaps.n g_Snaps.cap, aw g_Chunks.t g_Chunks.n g_Chunks.cap, aw g_Exps.t g_Exps.n g_Exps.cap, aw g_Vols.t g_Vols.n g_Vols.cap])), (g_Snaps.t, .obj 60 (fl c_Snap (p0.Snaps : List TSnap) g_Snaps.sp)), (g_Chunks.t, .obj 63 (fl c_Chunk (p0.Chunks : List TChunk) g_Chunks.sp)), (g_Exps.t, .obj 65 (fl c_Exp (p0.Exps : List TExp) g_Exps.sp)), (g_Vols.t, .obj 40 (fl c_Vol (p0.Vols : List TVol) g_Vols.sp))]) (fun g s => kp (kp (kp (kp (k0) 9 (.sc (.int .i64 s))) 5 (.ptr k5 0)) 4 (.ptr k2 0)) 0 (.ptr p0K 0)) () hk6 (LeF.s (.k4 .nil)) ?_ ?_
 rintro _ q1 x hk7 hm
 replace hm : M138_L1 fuel p0 p1 q1 = some x := hm
 unfold M138_L1 at hm
 refine Zf fun K21 H22 => (Zf fun K22 H23 => ?_)
 refine AW_joinH (n := 184) (h := h) hm (σ := Bool) (τ := Unit) (fun g s => [(some k5, .obj 77 (c_Loc p2)), (some k2, .obj 99 (c_Item p1)), (some p0K, .obj 27 ([.sc (.int .i64 p0.Seq), aw g_Snaps.t g_Snaps.n g_Snaps.cap, aw g_Chunks.t g_Chunks.n g_Chunks.cap, aw g_Exps.t g_Exps.n g_Exps.cap, aw g_Vols.t g_Vols.n g_Vols.cap])), (g_Snaps.t, .obj 60 (fl c_Snap (p0.Snaps : List TSnap) g_Snaps.sp)), (g_Chunks.t, .obj 63 (fl c_Chunk (p0.Chunks : List TChunk) g_Chunks.sp)), (g_Exps.t, .obj 65 (fl c_Exp (p0.Exps : List TExp) g_Exps.sp)), (g_Vols.t, .obj 40 (fl c_Vol (p0.Vols : List TVol) g_Vols.sp))]) (fun g s => kp (kp (kp (kp (kp (k0) 32 (.sc (.bool s))) 9 (.sc (.int .i64 q1))) 5 (.ptr k5 0)) 4 (.ptr k2 0)) 0 (.ptr p0K 0)) (fun x hm => ?_) ?_
 refine AW_rq mixed (by kernel_rfl) ?_
 refine wA rfl (q_v (o_mv (.ptr _ _) rfl) (q_v (o_nil rfl) (q_v (Zh fd27_3 rfl rfl) (q_v (Zg (aw g_Exps.t g_Exps.n g_Exps.cap) ld24 rfl (Zd 2 hk7 rfl) rfl) (q_v (o_lenA ln24 ok_Exps rfl) (wF rfl rfl rfl (wB rfl ?_)))))))
 rcases Bool.eq_false_or_eq_true (decide (q1 < (p0.Exps.length : Int))) with hb0 | hb0
 have hm := Zi hm hb0
 refine Zk rfl rfl hb0 (q_v (o_mv (.ptr _ _) rfl) (Zk rfl rfl hb0 (q_v (o_nil rfl) (Zk rfl rfl hb0 (q_v (Zh fd27_3 rfl rfl) (Zk rfl rfl hb0 (q_v (Zg (aw g_Exps.t g_Exps.n g_Exps.cap) ld24 rfl (Zd 2 hk7 rfl) rfl) (Zk rfl rfl hb0 (wA rfl (Zk rfl rfl hb0 ?_))))))))))
 obtain ⟨x5, hx5, hm⟩ := Zc hm
 refine q_v (o_ixA hx5 el24 ok_Exps rfl rfl) (Zk rfl rfl hb0 (q_v (o_flA (AOk.ne ok_Exps hx5) fd65_0 rfl rfl) (Zk rfl rfl hb0 (q_v (o_ldA (fo := 0) (.sc (.int .i64 x5.Seq)) hx5 cz_Exp ok_Exps ld3 rfl (hp_at 5 hk7 rfl) (fun _ => rfl)) (Zk rfl rfl hb0 (q_v (Zh fd99_2 rfl rfl) (Zk rfl rfl hb0 (q_v (Zg (.sc (.int .i64 p1.Seq)) ld3 rfl (Zd 1 hk7 rfl) rfl) (Zk rfl rfl hb0 (wF rfl rfl rfl (q_v (Zm (.sc (.bool _)) rfl hb0 rfl) (q_nil ?_))))))))))))
 cases hm
 exact ⟨rfl, (), hk7, LeF.s (.k5 .nil)⟩
 have hm := Zj hm hb0
 refine Ze rfl rfl hb0 (Ze rfl rfl hb0 (Ze rfl rfl hb0 (Ze rfl rfl hb0 (Ze rfl rfl hb0 (Ze rfl rfl hb0 (Ze rfl rfl hb0 (Ze rfl rfl hb0 (Ze rfl rfl hb0 (Ze rfl rfl hb0 (Ze rfl rfl hb0 (q_v (Zn (.sc (.bool _)) rfl hb0 rfl) (q_nil ?_))))))))))))
 cases hm
 exact ⟨rfl, (), hk7, LeF.s (.k5 .nil)⟩
 rintro _ j0 fr' h' hk8 hm le
 refine H23 _ _ (le.aw ?_)
 refine AW_if' rfl (fun hc5 => ?_) (fun hc5 => ?_)
 have hm := Zi hm hc5
 refine Zl (H22 _ _ (AW_block (Za (vA rfl (vF rfl rfl rfl (vC rfl (Zb ?_)))))))
 cases hm
 exact ⟨rfl, (), hk8, LeF.s (.k4 .nil)⟩
 have hm := Zj hm hc5
 refine AW_exit ?_
 refine Seq_exit ?_
 cases hm
 exact ⟨rfl, (), hk8, LeF.s (.k4 .nil)⟩
 rintro _ r1 fr' h' hk9 hm le
 refine H21 _ _ (le.aw ?_)
 refine Zf fun K23 H24 => (Zf fun K24 H25 => ?_)
 refine AW_joinH (n := 184) (h := h) hm (σ := Bool) (τ := Unit) (fun g s => [(some k5, .obj 77 (c_Loc p2)), (some k2, .obj 99 (c_Item p1)), (some p0K, .obj 27 ([.sc (.int .i64 p0.Seq), aw g_Snaps.t g_Snaps.n g_Snaps.cap, aw g_Chunks.t g_Chunks.n g_Chunks.cap, aw g_Exps.t g_Exps.n g_Exps.cap, aw g_Vols.t g_Vols.n g_Vols.cap])), (g_Snaps.t, .obj 60 (fl c_Snap (p0.Snaps : List TSnap) g_Snaps.sp)), (g_Chunks.t, .obj 63 (fl c_Chunk (p0.Chunks : List TChunk) g_Chunks.sp)), (g_Exps.t, .obj 65 (fl c_Exp (p0.Exps : List TExp) g_Exps.sp)), (g_Vols.t, .obj 40 (fl c_Vol (p0.Vols : List TVol) g_Vols.sp))]) (fun g s => kp (kp (kp (kp (kp (k0) 54 (.sc (.bool s))) 9 (.sc (.int .i64 r1))) 5 (.ptr k5 0)) 4 (.ptr k2 0)) 0 (.ptr p0K 0)) (fun x hm => ?_) ?_
 refine AW_rq mixed (by kernel_rfl) ?_
 refine wA rfl (q_v (o_mv (.ptr _ _) rfl) (q_v (o_nil rfl) (q_v (Zh fd27_3 rfl rfl) (q_v (Zg (aw g_Exps.t g_Exps.n g_Exps.cap) ld24 rfl (Zd 2 hk9 rfl) rfl) (q_v (o_lenA ln24 ok_Exps rfl) (wF rfl rfl rfl (wB rfl ?_)))))))
 rcases Bool.eq_false_or_eq_true (decide (r1 < (p0.Exps.length : Int))) with hb1 | hb1
 have hm := Zi hm hb1
 refine Zk rfl rfl hb1 (q_v (o_mv (.ptr _ _) rfl) (Zk rfl rfl hb1 (q_v (o_nil rfl) (Zk rfl rfl hb1 (q_v (Zh fd27_3 rfl rfl) (Zk rfl rfl hb1 (q_v (Zg (aw g_Exps.t g_Exps.n g_Exps.cap) ld24 rfl (Zd 2 hk9 rfl) rfl) (Zk rfl rfl hb1 (wA rfl (Zk rfl rfl hb1 ?_))))))))))
 obtain ⟨x6, hx6, hm⟩ := Zc hm
 refine q_v (o_ixA hx6 el24 ok_Exps rfl rfl) (Zk rfl rfl hb1 (q_v (o_flA (AOk.ne ok_Exps hx6) fd65_0 rfl rfl) (Zk rfl rfl hb1 (q_v (o_ldA (fo := 0) (.sc (.int .i64 x6.Seq)) hx6 cz_Exp ok_Exps ld3 rfl (hp_at 5 hk9 rfl) (fun _ => rfl)) (Zk rfl rfl hb1 (q_v (Zh fd99_2 rfl rfl) (Zk rfl rfl hb1 (q_v (Zg (.sc (.int .i64 p1.Seq)) ld3 rfl (Zd 1 hk9 rfl) rfl) (Zk rfl rfl hb1 (wF rfl rfl rfl (q_v (Zm (.sc (.bool _)) rfl hb1 rfl) (q_nil ?_))))))))))))
 cases hm
 exact ⟨rfl, (), hk9, LeF.s (.k5 .nil)⟩
 have hm := Zj hm hb1
 refine Ze rfl rfl hb1 (Ze rfl rfl hb1 (Ze rfl rfl hb1 (Ze rfl rfl hb1 (Ze rfl rfl hb1 (Ze rfl rfl hb1 (Ze rfl rfl hb1 (Ze rfl rfl hb1 (Ze rfl rfl hb1 (Ze rfl rfl hb1 (Ze rfl rfl hb1 (q_v (Zn (.sc (.bool _)) rfl hb1 rfl) (q_nil ?_))))))))))))
 cases hm
 exact ⟨rfl, (), hk9, LeF.s (.k5 .nil)⟩
 rintro _ j1 fr' h' hk10 hm le
 refine H25 _ _ (le.aw ?_)
 refine AW_if' rfl (fun hc6 => ?_) (fun hc6 => ?_)
 have hm := Zi hm hc6
 refine Zf fun K25 H26 => ?_
 refine AW_zreg [(1000000, some p0K, .obj 27 ([.sc (.int .i64 p0.Seq), aw g_Snaps.t g_Snaps.n g_Snaps.cap, aw g_Chunks.t g_Chunks.n g_Chunks.cap, aw g_Exps.t g_Exps.n g_Exps.cap, aw g_Vols.t g_Vols.n g_Vols.cap])), (17, g_Exps.t, .obj 65 (fl c_Exp (p0.Exps : List TExp) g_Exps.sp)), (1000000, some k5, .obj 77 (c_Loc p2))] mixed (⟨fun _ => hp_at 2 hk10 rfl, fun _ => hp_at 5 hk10 rfl, fun _ => hp_at 0 hk10 rfl, trivial⟩) ?_
 refine z_w 0 rfl (fun S' h' hi hB => o_mv (.ptr _ _) rfl) ?_
 refine z_w 1 rfl (fun S' h' hi hB => o_nil rfl) ?_
 refine z_w 2 rfl (fun S' h' hi hB => Zh fd27_3 rfl rfl) ?_
 refine z_w 3 rfl (fun S' h' hi hB => Zg (aw g_Exps.t g_Exps.n g_Exps.cap) ld24 rfl (At.s (InvL.get 0 hi rfl (hB 1000000 (by kernel_rfl)))) rfl) ?_
 refine z_w 4 rfl (fun S' h' hi hB => o_mv (.sc (.int _ _)) rfl) ?_
 refine z_w 5 rfl (fun S' h' hi hB => o_mv (.ptr _ _) rfl) ?_
 refine z_w 6 rfl (fun S' h' hi hB => o_nil rfl) ?_
 refine z_w 7 rfl (fun S' h' hi hB => Zh fd27_3 rfl rfl) ?_
 refine z_w 8 rfl (fun S' h' hi hB => Zg (aw g_Exps.t g_Exps.n g_Exps.cap) ld24 rfl (At.s (InvL.get 0 hi rfl (hB 1000000 (by kernel_rfl)))) rfl) ?_
 refine z_w 9 rfl (fun S' h' hi hB => o_mv (.sc (.int _ _)) rfl) ?_
 obtain ⟨x7, hx7, hm⟩ := Zc hm
 refine z_w 10 rfl (fun S' h' hi hB => o_ixA hx7 el24 ok_Exps rfl rfl) ?_
 refine z_w 11 rfl (fun S' h' hi hB => o_flA (AOk.ne ok_Exps hx7) fd65_2 rfl rfl) ?_
 refine z_w 12 rfl (fun S' h' hi hB => o_ldA (fo := 2) (.sl none 4 (List.map c_Loc x7.Locs)) hx7 cz_Exp ok_Exps ld58 rfl (InvL.get 1 hi rfl (hB 17 (by kernel_rfl))) (fun _ => rfl)) ?_
 refine z_w 13 rfl (fun S' h' hi hB => Zg (.agg (c_Loc p2)) ld77 rfl (At.s (InvL.get 2 hi rfl (hB 1000000 (by kernel_rfl)))) rfl) ?_
 obtain ⟨y3, hy3, hm⟩ := Zc hm
 refine z_w 14 rfl (fun S' h' hi hB => o_call (W146 _ hy3) rfl bd146 rfl) ?_
 obtain ⟨x8, hx8, hm⟩ := Zc hm
 refine z_w 15 rfl (fun S' h' hi hB => o_ixA hx8 el24 ok_Exps rfl rfl) ?_
 refine z_w 16 rfl (fun S' h' hi hB => o_flA (AOk.ne ok_Exps hx8) fd65_2 rfl rfl) ?_
 refine z_e 17 rfl (by kernel_rfl) (a_storeA (fo := 2) ({ x8 with Locs := y3 } : TExp) 5 hk10 hx8 cz_Exp ok_Exps rfl rfl rfl rfl (ALeL.refl _ _) sz58 rfl rfl fun hk11 => ⟨⟨fun _ => hp_at 2 hk11 rfl, fun e => absurd e (by decide), fun _ => hp_at 0 hk11 rfl, trivial⟩, ?_⟩)
 refine z_nil (by kernel_rfl) ?_
 refine H26 _ _ (Zf fun K26 H27 => (Za (vD rfl (Zb (H27 _ _ (AW_ret ?_))))))
 cases hm
 refine ⟨nofun, fun he => ?_⟩
 subst he
 exact LqE.mk (LeF.eqh rfl) (Ret.of1 (.inl rfl) (rsT _ _ (.sc (.bool _)) rfl) (hp_pick hk11 [2, 3, 4, 5, 6] rfl).2 (ALe.refl _ _) ⟨g_Snaps, ok_Snaps, g_Chunks, ok_Chunks, g_Exps, (AOk.set ok_Exps), (hp_pick hk11 [2, 3, 4, 5, 6] rfl).1, rfl, rfl⟩)
 have hm := Zj hm hc6
 refine Zl (H24 _ _ (Zf fun K27 H28 => (Za (s_v (o_as (.sc (.slice _ _ _)) rfl) (Zb (H28 _ _ (Zf fun K28 H29 => ?_)))))))
 obtain ⟨hk12, le0⟩ := LeF.fzO (n := 184) (f := _) 5 2 ([.sc (.int .i64 p0.Seq), aw g_Snaps.t g_Snaps.n g_Snaps.cap, aw g_Chunks.t g_Chunks.n g_Chunks.cap, .sl none 3 (List.map c_Exp p0.Exps), aw g_Vols.t g_Vols.n g_Vols.cap]) hk10 rfl (.cons (Fz.refl _ _ _) (.cons (Fz.refl _ _ _) (.cons (Fz.refl _ _ _) (.cons (Fz.aw 5 cz_Exp ok_Exps hk10 rfl (.refl _)) (.cons (Fz.refl _ _ _) .nil)))))
 refine le0.aw ?_
 refine AW_zreg [(1000000, some p0K, .obj 27 ([.sc (.int .i64 p0.Seq), aw g_Snaps.t g_Snaps.n g_Snaps.cap, aw g_Chunks.t g_Chunks.n g_Chunks.cap, .sl none 3 (List.map c_Exp p0.Exps), aw g_Vols.t g_Vols.n g_Vols.cap])), (1000000, some k2, .obj 99 (c_Item p1)), (1000000, some k5, .obj 77 (c_Loc p2))] mixed (⟨fun _ => hp_at 2 hk12 rfl, fun _ => hp_at 1 hk12 rfl, fun _ => hp_at 0 hk12 rfl, trivial⟩) ?_
 refine z_w 0 rfl (fun S' h' hi hB => o_mv (.sc (.slice _ _ _)) rfl) ?_
 refine z_w 1 rfl (fun S' h' hi hB => o_mv (.ptr _ _) rfl) ?_
 refine z_w 2 rfl (fun S' h' hi hB => o_nil rfl) ?_
 refine z_w 3 rfl (fun S' h' hi hB => Zh fd27_3 rfl rfl) ?_
 refine z_w 4 rfl (fun S' h' hi hB => Zg (.sl none 3 (List.map c_Exp p0.Exps)) ld24 rfl (At.s (InvL.get 0 hi rfl (hB 1000000 (by kernel_rfl)))) rfl) ?_
 refine z_w 5 rfl (fun S' h' hi hB => o_mv (.sc (.int _ _)) rfl) ?_
 obtain ⟨x9, hx9, hm⟩ := Zc hm
 refine z_w 6 rfl (fun S' h' hi hB => o_slc hx9 el24 rfl rfl rfl rfl) ?_
 refine z_w 8 rfl (fun S' h' hi hB => Zh fd99_2 rfl rfl) ?_
 refine z_w 9 rfl (fun S' h' hi hB => Zg (.sc (.int .i64 p1.Seq)) ld3 rfl (At.s (InvL.get 1 hi rfl (hB 1000000 (by kernel_rfl)))) rfl) ?_
 refine z_w 10 rfl (fun S' h' hi hB => Zh fd99_3 rfl rfl) ?_
 refine z_w 11 rfl (fun S' h' hi hB => Zg (.sc (.int .i64 p1.Of)) ld3 rfl (At.s (InvL.get 1 hi rfl (hB 1000000 (by kernel_rfl)))) rfl) ?_
 refine z_w 12 rfl (fun S' h' hi hB => Zg (.agg (c_Loc p2)) ld77 rfl (At.s (InvL.get 2 hi rfl (hB 1000000 (by kernel_rfl)))) rfl) ?_
 refine z_w 13 rfl (fun S' h' hi hB => o_lit (List.map c_Loc ([p2] : List TLoc)) et58 rfl rfl rfl rfl) ?_
 refine z_w 14 rfl (fun S' h' hi hB => o_bld (c_Exp ({ Seq := p1.Seq, Of := p1.Of, Locs := ([p2] : List TLoc) } : TExp)) bt65 rfl) ?_
 refine z_w 15 rfl (fun S' h' hi hB => o_lit (List.map c_Exp ([({ Seq := p1.Seq, Of := p1.Of, Locs := ([p2] : List TLoc) } : TExp)] : List TExp)) et24 rfl rfl rfl rfl) ?_
 obtain ⟨z0, hz0, hm⟩ := Zc hm
 refine z_e 7 rfl (by kernel_rfl) (a_appA0 (c := c_Exp) hz0 et24 rfl zr65 rfl cz_Exp rfl hk12 rfl fun ag0 ok0 hk13 => ⟨⟨fun _ => hp_at 3 hk13 rfl, fun _ => hp_at 2 hk13 rfl, fun _ => hp_at 1 hk13 rfl, trivial⟩, ?_⟩)
 obtain ⟨z1, hz1, hm⟩ := Zc hm
 refine z_e 16 rfl (by kernel_rfl) (a_appA (c := c_Exp) 0 hz1 et24 rfl zr65 rfl cz_Exp rfl rfl ok0 hk13 rfl fun ag1 ok1 hk14 => ⟨⟨fun _ => hp_at 3 hk14 rfl, fun _ => hp_at 2 hk14 rfl, fun _ => hp_at 1 hk14 rfl, trivial⟩, ?_⟩)
 refine z_w 17 rfl (fun S' h' hi hB => o_as (aw _ _ _) rfl) ?_
 refine z_nil (by kernel_rfl) ?_
 refine H29 _ _ (Zf fun K29 H30 => (Za (s_v (o_mv (.ptr _ _) rfl) (s_v (o_mv (aw _ _ _) rfl) (s_v (o_mv (.ptr _ _) rfl) (s_v (o_nil rfl) (s_v (Zh fd27_3 rfl rfl) (s_v (Zg (.sl none 3 (List.map c_Exp p0.Exps)) ld24 rfl (Zd 3 hk14 rfl) rfl) (vA rfl ?_)))))))))
 obtain ⟨x10, hx10, hm⟩ := Zc hm
 refine s_v (o_slc hx10 el24 rfl rfl rfl rfl) ?_
 obtain ⟨z2, hz2, hm⟩ := Zc hm
 refine s_op (a_appA (c := c_Exp) 0 hz2 et24 rfl zr65 rfl cz_Exp rfl rfl ok1 hk14 rfl fun ag2 ok2 hk15 => ?_)
 refine s_v (o_nil rfl) (s_v (Zh fd27_3 rfl rfl) ?_)
 refine s_op (a_store 3 ([.sc (.int .i64 p0.Seq), aw g_Snaps.t g_Snaps.n g_Snaps.cap, aw g_Chunks.t g_Chunks.n g_Chunks.cap, aw ag2.t ag2.n ag2.cap, aw g_Vols.t g_Vols.n g_Vols.cap]) hk15 rfl rfl (cellsOf_aw rfl) (all_c (ocell_aw _ _ _) rfl) sz24 rfl rfl fun hk16 => ?_)
 refine Zb (H30 _ _ (Zf fun K30 H31 => ?_))
 refine AW_joinH (n := 184) (h := h) hm (σ := Bool) (τ := Unit) (fun g s => [(ag2.t, .obj 65 (fl c_Exp (z2 : List TExp) ag2.sp)), (some k5, .obj 77 (c_Loc p2)), (some k2, .obj 99 (c_Item p1)), (some p0K, .obj 27 ([.sc (.int .i64 p0.Seq), aw g_Snaps.t g_Snaps.n g_Snaps.cap, aw g_Chunks.t g_Chunks.n g_Chunks.cap, aw ag2.t ag2.n ag2.cap, aw g_Vols.t g_Vols.n g_Vols.cap])), (g_Snaps.t, .obj 60 (fl c_Snap (p0.Snaps : List TSnap) g_Snaps.sp)), (g_Chunks.t, .obj 63 (fl c_Chunk (p0.Chunks : List TChunk) g_Chunks.sp)), (g_Vols.t, .obj 40 (fl c_Vol (p0.Vols : List TVol) g_Vols.sp))]) (fun g s => kp (kp (kp (k0) 111 (.sc (.bool s))) 4 (.ptr k2 0)) 0 (.ptr p0K 0)) (fun x hm => ?_) ?_
 refine AW_rq mixed (by kernel_rfl) ?_
 refine q_v (Zh fd99_2 rfl rfl) (q_v (Zg (.sc (.int .i64 p1.Seq)) ld3 rfl (Zd 2 hk16 rfl) rfl) (q_v (o_mv (.ptr _ _) rfl) (q_v (o_nil rfl) (q_v (Zh fd27_0 rfl rfl) (q_v (Zg (.sc (.int .i64 p0.Seq)) ld3 rfl (Zd 3 hk16 rfl) rfl) (wF rfl rfl rfl (wB rfl ?_)))))))
 rcases Bool.eq_false_or_eq_true (decide (p0.Seq ≤ p1.Seq)) with hb2 | hb2
 have hm := Zi hm hb2
 refine Zk rfl rfl hb2 (q_v (Zh fd99_2 rfl rfl) (Zk rfl rfl hb2 (q_v (Zg (.sc (.int .i64 p1.Seq)) ld3 rfl (Zd 2 hk16 rfl) rfl) (Zk rfl rfl hb2 (wF rfl rfl rfl (q_v (Zm (.sc (.bool _)) rfl hb2 rfl) (q_nil ?_)))))))
 cases hm
 exact ⟨rfl, (), hk16, LeF.s (.k3 .nil)⟩
 have hm := Zj hm hb2
 refine Ze rfl rfl hb2 (Ze rfl rfl hb2 (Ze rfl rfl hb2 (q_v (Zn (.sc (.bool _)) rfl hb2 rfl) (q_nil ?_))))
 cases hm
 exact ⟨rfl, (), hk16, LeF.s (.k3 .nil)⟩
 rintro _ j2 fr' h' hk17 hm le
 refine H31 _ _ (le.aw ?_)
 refine AW_joinH (n := 184) (h := h) hm (σ := Int) (τ := Unit) (fun g s => [(ag2.t, .obj 65 (fl c_Exp (z2 : List TExp) ag2.sp)), (some k5, .obj 77 (c_Loc p2)), (some k2, .obj 99 (c_Item p1)), (some p0K, .obj 27 ([.sc (.int .i64 s), aw g_Snaps.t g_Snaps.n g_Snaps.cap, aw g_Chunks.t g_Chunks.n g_Chunks.cap, aw ag2.t ag2.n ag2.cap, aw g_Vols.t g_Vols.n g_Vols.cap])), (g_Snaps.t, .obj 60 (fl c_Snap (p0.Snaps : List TSnap) g_Snaps.sp)), (g_Chunks.t, .obj 63 (fl c_Chunk (p0.Chunks : List TChunk) g_Chunks.sp)), (g_Vols.t, .obj 40 (fl c_Vol (p0.Vols : List TVol) g_Vols.sp))]) (fun g s => k0) (fun x hm => ?_) ?_
 refine AW_if' rfl (fun hc7 => ?_) (fun hc7 => ?_)
 have hm := Zi hm hc7
 refine Za (s_v (o_mv (.ptr _ _) rfl) (s_v (Zh fd99_2 rfl rfl) (s_v (Zg (.sc (.int .i64 p1.Seq)) ld3 rfl (Zd 2 hk17 rfl) rfl) (vF rfl rfl rfl (s_v (o_nil rfl) (s_v (Zh fd27_0 rfl rfl) ?_))))))
 refine s_op (a_store 3 ([.sc (.int .i64 (IntKind.wrap .i64 (p1.Seq + 1))), aw g_Snaps.t g_Snaps.n g_Snaps.cap, aw g_Chunks.t g_Chunks.n g_Chunks.cap, aw ag2.t ag2.n ag2.cap, aw g_Vols.t g_Vols.n g_Vols.cap]) hk17 rfl rfl rfl rfl sz3 rfl rfl fun hk18 => ?_)
 refine Zb ?_
 cases hm
 exact ⟨rfl, (), hk18, LeF.s .nil⟩
 have hm := Zj hm hc7
 refine Zl ?_
 cases hm
 exact ⟨rfl, (), hk17, LeF.s .nil⟩
 rintro _ j3 fr' h' hk19 hm le
 cases hm
 exact ⟨rfl, (g_Chunks, ag2), ⟨(hp_pick hk19 [1, 2, 3, 4, 5, 0, 6] rfl).1, ok_Chunks, ok2⟩, LeF.trans le (LeF.fm ((hp_pick hk19 [1, 2, 3, 4, 5, 0, 6] rfl).2) .nil)⟩
 rintro ⟨ag3, ag4⟩ ⟨j4, j5, j6⟩ fr' h' ⟨hk20, ok3, ok4⟩ hm le
 refine H8 _ _ (le.aw ?_)
 refine Zf fun K31 H32 => (Za (vD rfl (Zb (H32 _ _ (AW_ret ?_)))))
 have hmo := Option.some.inj hm; subst hmo
 exact LqE.mk (LeF.eqh rfl) (Ret.of1 (.inl rfl) (rsT _ _ (.sc (.bool _)) rfl) (hp_pick hk20 [2, 3, 4, 5, 6] rfl).2 (ALe.refl _ _) ⟨g_Snaps, ok_Snaps, ag3, ok3, ag4, ok4, (hp_pick hk20 [2, 3, 4, 5, 6] rfl).1, rfl, rfl⟩)
theorem bd138 : bodied Try.prog 138 = true := by kernel_rfl
end Go.Proofs.Ytoomgangpjcaoaa
