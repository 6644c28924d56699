import Derived.Test.YtoomgangpjcaoaaGreatK1P4
import Derived.Test.YtoomgangpjcaoaaGreatK1P3
import Derived.Test.YtoomgangpjcaoaaGreatK1P5
import Derived.Test.YtoomgangpjcaoaaGreatK1P6
import Derived.RangeFuncLeaves
import Derived.RangeFuncRecord
import Derived.OrdersIn
set_option linter.unusedSimpArgs false
set_option linter.unusedVariables false
namespace Go.Proofs.YtoomgangpjcaoaaGreat
open Go.Vm
def M36 (fuel : Nat) (p0 : TCatalog) (p1 : TChange) : Option (TCatalog × Int) :=
 after ((M89 fuel p0).bind fun y0 => if (!y0) = true then (some (.brk true)) else if (decide (p1.Kind < 1)) = true then (some (.brk true)) else some (.brk (decide (5 < p1.Kind))) : Option (Lp (Bool) (TCatalog × Int))) fun j0 => if j0 = true then (some (({ Seq := 0, Snaps := [], Chunks := [], Exps := [], Vols := [] } : TCatalog), 1)) else (M90d fuel p0).bind fun y1 => (M92 fuel p1).bind fun y2 => (M91 fuel ({ Seq := y1.Seq, Snaps := y1.Snaps, Chunks := y1.Chunks, Exps := y1.Exps, Vols := y1.Vols } : TCatalog) y2).bind fun y3 => if (y3.1 != 0) = true then (some (({ Seq := 0, Snaps := [], Chunks := [], Exps := [], Vols := [] } : TCatalog), y3.1)) else (M89 fuel ({ Seq := y3.2.1, Snaps := y3.2.2.1, Chunks := y3.2.2.2.1, Exps := y3.2.2.2.2.1, Vols := y3.2.2.2.2.2 } : TCatalog)).bind fun y4 => if (!y4) = true then (some (({ Seq := 0, Snaps := [], Chunks := [], Exps := [], Vols := [] } : TCatalog), 1)) else some (({ Seq := y3.2.1, Snaps := y3.2.2.1, Chunks := y3.2.2.2.1, Exps := y3.2.2.2.2.1, Vols := y3.2.2.2.2.2 } : TCatalog), 0)
set_option maxHeartbeats 4000000 in
set_option maxRecDepth 100000 in
theorem W36 {fuel : Nat} {p0 : TCatalog} {p1 : TChange} {o : TCatalog × Int} (h : Heap) (hm : M36 fuel p0 p1 = some o) :
 ACalls Tryz.prog 36 [.agg (c_Catalog p0), .agg (c_Change p1)] h (fun r h' => r = .tup [.agg (c_Catalog o.1), .sc (.int .i64 o.2)] ∧ h' = h) := by
 refine ACv 36 [.cell 4 30, .tmp 5] Tryz.func36 rfl rfl rfl rfl ?_
 unfold M36 at hm
 refine vs (v0 ?_)
 refine ve fun hk => a_box hk rfl rfl fun k2 hk3 => qk hk3 rfl ?_
 refine ve fun hk => a_box hk rfl rfl fun k5 hk6 => qk hk6 rfl ?_
 refine ve fun hk => a_alloc ([.sc (.int .i64 0), .sc (.slice none 0 0), .sc (.slice none 0 0), .sc (.slice none 0 0), .sc (.slice none 0 0)]) hk zr30 rfl rfl fun k8 hk9 => qk hk9 rfl ?_
 refine vs (vs ?_)
 refine vjnH hm (σ := Bool) (τ := Unit) (fun g s => [(some k8, .obj 30 ([.sc (.int .i64 0), .sc (.slice none 0 0), .sc (.slice none 0 0), .sc (.slice none 0 0), .sc (.slice none 0 0)])), (some k5, .obj 62 (c_Change p1)), (some k2, .obj 30 (c_Catalog p0))]) (fun g s => .c 2 (.ptr k2 0) (.c 3 (.ptr k5 0) (.c 4 (.ptr k8 0) (.c 20 (.sc (.bool s)) .nil)))) (fun x hm => ?_) ?_
 refine v0 (vl 2 (.agg (c_Catalog p0)) ld30 rfl rfl rfl ?_)
 refine vk W89 bd89 hm rfl rfl fun _ hm => ?_
 refine vi hm (fun hb0 hm => ?_) fun hb0 hm => ?_
 rw [hb0]
 exact vgo hm () trivial (lx (.k4 .nil))
 rw [hb0]
 refine vn (fun _ => Zh fd62_0 rfl rfl) (vl 1 _ ld3 rfl rfl rfl ?_)
 refine vi hm (fun hb1 hm => ?_) fun hb1 hm => ?_
 rw [hb1]
 exact vgo hm () trivial (lx (.k4 .nil))
 rw [hb1]
 refine vn (fun _ => Zh fd62_0 rfl rfl) (vl 1 _ ld3 rfl rfl rfl ?_)
 exact vgo hm () trivial (lx (.k4 .nil))
 rintro _ j0 hm
 refine v0 ?_
 refine vi hm (fun hc0 hm => ?_) fun hc0 hm => ?_
 refine vs (v0 (vn (fun _ => o_bld ([.sc (.int .i64 0), .sc (.slice none 0 0), .sc (.slice none 0 0), .sc (.slice none 0 0), .sc (.slice none 0 0)]) bt30 rfl) ?_))
 refine ve fun hk => a_store 0 ([.sc (.int .i64 0), .sc (.slice none 0 0), .sc (.slice none 0 0), .sc (.slice none 0 0), .sc (.slice none 0 0)]) hk rfl rfl rfl rfl sz30 rfl rfl fun hk0 => qk hk0 rfl ?_
 refine v0 ?_
 cases hm
 exact vr fun hk => Ret.of2 (.inl rfl) (rsC (.agg ([.sc (.int .i64 0), .sc (.slice none 0 0), .sc (.slice none 0 0), .sc (.slice none 0 0), .sc (.slice none 0 0)])) ld30 rfl (Zd 0 hk rfl) rfl) (rsT _ _ (.sc (.int _ _)) rfl) (hp_sub (List.nil_sublist _) hk).1 (ALe.agg (.cons (ALe.refl _ _) (.cons (nil_lem _) (.cons (nil_lem _) (.cons (nil_lem _) (.cons (nil_lem _) .nil)))))) (ALe.refl _ _) ⟨rfl, rfl⟩
 refine v0 (vs (v0 (vl 2 (.agg (c_Catalog p0)) ld30 rfl rfl rfl ?_)))
 obtain ⟨y0, hy0, hm⟩ := Zc hm
 refine ve fun hk => a_call (W90d _ hy0) rfl bd90 rfl ?_
 rintro x h' ⟨ag0, ok0, ag1, ok1, ag2, ok2, ag3, ok3, hk1, rfl, rfl⟩
 refine qk (HOk_app hk hk1) (hp_app h [(ag0.t, .obj 60 (fl c_Snap (y0.Snaps : List TSnap) ag0.sp)), (ag1.t, .obj 44 (fl c_Chunk (y0.Chunks : List TChunk) ag1.sp)), (ag2.t, .obj 99 (fl c_Exp (y0.Exps : List TExp) ag2.sp)), (ag3.t, .obj 49 (fl c_Vol (y0.Vols : List TVol) ag3.sp))] [(some k8, .obj 30 ([.sc (.int .i64 0), .sc (.slice none 0 0), .sc (.slice none 0 0), .sc (.slice none 0 0), .sc (.slice none 0 0)])), (some k5, .obj 62 (c_Change p1)), (some k2, .obj 30 (c_Catalog p0))]) ?_
 refine ve fun hk => a_alloc ([.sc (.int .i64 0), .sc (.slice none 0 0), .sc (.slice none 0 0), .sc (.slice none 0 0), .sc (.slice none 0 0)]) hk zr30 rfl rfl fun k42 hk2 => qk hk2 rfl ?_
 refine ve fun hk => a_store 0 ([.sc (.int .i64 y0.Seq), aw ag0.t ag0.n ag0.cap, aw ag1.t ag1.n ag1.cap, aw ag2.t ag2.n ag2.cap, aw ag3.t ag3.n ag3.cap]) hk rfl rfl rfl (by repeat (first | exact rfl | refine all_c (ocell_ow _ _ _) ?_ | refine all_c (ocell_aw _ _ _) ?_ | refine all_c rfl ?_)) sz30 rfl rfl fun hk4 => qk hk4 rfl ?_
 refine vs (v0 (vl 6 (.agg (c_Change p1)) ld62 rfl rfl rfl ?_))
 refine vk W92 bd92 hm rfl rfl fun _ hm => ?_
 obtain ⟨y1, hy1, hm⟩ := Zc hm
 refine ve fun hk => AOp_eqh ((hp_permI hk [0, 1, 2, 3, 4, 5, 6, 7] rfl rfl).1.trans (hp_app h [(some k42, .obj 30 ([.sc (.int .i64 y0.Seq), aw ag0.t ag0.n ag0.cap, aw ag1.t ag1.n ag1.cap, aw ag2.t ag2.n ag2.cap, aw ag3.t ag3.n ag3.cap])), (ag0.t, .obj 60 (fl c_Snap (y0.Snaps : List TSnap) ag0.sp)), (ag1.t, .obj 44 (fl c_Chunk (y0.Chunks : List TChunk) ag1.sp)), (ag2.t, .obj 99 (fl c_Exp (y0.Exps : List TExp) ag2.sp)), (ag3.t, .obj 49 (fl c_Vol (y0.Vols : List TVol) ag3.sp))] [(some k8, .obj 30 ([.sc (.int .i64 0), .sc (.slice none 0 0), .sc (.slice none 0 0), .sc (.slice none 0 0), .sc (.slice none 0 0)])), (some k5, .obj 62 (c_Change p1)), (some k2, .obj 30 (c_Catalog p0))]).symm) (a_call (W91 (hp h [(some k8, .obj 30 ([.sc (.int .i64 0), .sc (.slice none 0 0), .sc (.slice none 0 0), .sc (.slice none 0 0), .sc (.slice none 0 0)])), (some k5, .obj 62 (c_Change p1)), (some k2, .obj 30 (c_Catalog p0))]) ok0 ok1 ok2 ok3 (HOk_spl [(some k42, .obj 30 ([.sc (.int .i64 y0.Seq), aw ag0.t ag0.n ag0.cap, aw ag1.t ag1.n ag1.cap, aw ag2.t ag2.n ag2.cap, aw ag3.t ag3.n ag3.cap])), (ag0.t, .obj 60 (fl c_Snap (y0.Snaps : List TSnap) ag0.sp)), (ag1.t, .obj 44 (fl c_Chunk (y0.Chunks : List TChunk) ag1.sp)), (ag2.t, .obj 99 (fl c_Exp (y0.Exps : List TExp) ag2.sp)), (ag3.t, .obj 49 (fl c_Vol (y0.Vols : List TVol) ag3.sp))] [(some k8, .obj 30 ([.sc (.int .i64 0), .sc (.slice none 0 0), .sc (.slice none 0 0), .sc (.slice none 0 0), .sc (.slice none 0 0)])), (some k5, .obj 62 (c_Change p1)), (some k2, .obj 30 (c_Catalog p0))] (hp_permI hk [0, 1, 2, 3, 4, 5, 6, 7] rfl rfl).2).2 hy1) rfl bd91 rfl ?_)
 rintro x h' ⟨ag4, ok4, ag5, ok5, ag6, ok6, ag7, ok7, hk5, rfl, rfl⟩
 have hk7 := hp_permI (L' := [(some k42, .obj 30 ([.sc (.int .i64 y1.2.1), aw ag4.t ag4.n ag4.cap, aw ag5.t ag5.n ag5.cap, aw ag6.t ag6.n ag6.cap, aw ag7.t ag7.n ag7.cap])), (ag4.t, .obj 60 (fl c_Snap (y1.2.2.1 : List TSnap) ag4.sp)), (ag5.t, .obj 44 (fl c_Chunk (y1.2.2.2.1 : List TChunk) ag5.sp)), (ag6.t, .obj 99 (fl c_Exp (y1.2.2.2.2.1 : List TExp) ag6.sp)), (ag7.t, .obj 49 (fl c_Vol (y1.2.2.2.2.2 : List TVol) ag7.sp)), (some k8, .obj 30 ([.sc (.int .i64 0), .sc (.slice none 0 0), .sc (.slice none 0 0), .sc (.slice none 0 0), .sc (.slice none 0 0)])), (some k5, .obj 62 (c_Change p1)), (some k2, .obj 30 (c_Catalog p0))]) (HOk_app (HOk_spl [(some k42, .obj 30 ([.sc (.int .i64 y0.Seq), aw ag0.t ag0.n ag0.cap, aw ag1.t ag1.n ag1.cap, aw ag2.t ag2.n ag2.cap, aw ag3.t ag3.n ag3.cap])), (ag0.t, .obj 60 (fl c_Snap (y0.Snaps : List TSnap) ag0.sp)), (ag1.t, .obj 44 (fl c_Chunk (y0.Chunks : List TChunk) ag1.sp)), (ag2.t, .obj 99 (fl c_Exp (y0.Exps : List TExp) ag2.sp)), (ag3.t, .obj 49 (fl c_Vol (y0.Vols : List TVol) ag3.sp))] [(some k8, .obj 30 ([.sc (.int .i64 0), .sc (.slice none 0 0), .sc (.slice none 0 0), .sc (.slice none 0 0), .sc (.slice none 0 0)])), (some k5, .obj 62 (c_Change p1)), (some k2, .obj 30 (c_Catalog p0))] (hp_permI hk [0, 1, 2, 3, 4, 5, 6, 7] rfl rfl).2).1 hk5) [0, 1, 2, 3, 4, 5, 6, 7] rfl rfl
 refine qk hk7.2 ((hp_app h [(some k42, .obj 30 ([.sc (.int .i64 y1.2.1), aw ag4.t ag4.n ag4.cap, aw ag5.t ag5.n ag5.cap, aw ag6.t ag6.n ag6.cap, aw ag7.t ag7.n ag7.cap])), (ag4.t, .obj 60 (fl c_Snap (y1.2.2.1 : List TSnap) ag4.sp)), (ag5.t, .obj 44 (fl c_Chunk (y1.2.2.2.1 : List TChunk) ag5.sp)), (ag6.t, .obj 99 (fl c_Exp (y1.2.2.2.2.1 : List TExp) ag6.sp)), (ag7.t, .obj 49 (fl c_Vol (y1.2.2.2.2.2 : List TVol) ag7.sp))] [(some k8, .obj 30 ([.sc (.int .i64 0), .sc (.slice none 0 0), .sc (.slice none 0 0), .sc (.slice none 0 0), .sc (.slice none 0 0)])), (some k5, .obj 62 (c_Change p1)), (some k2, .obj 30 (c_Catalog p0))]).trans hk7.1) ?_
 refine vs (vs (v0 (v0 ?_)))
 refine vi hm (fun hc1 hm => ?_) fun hc1 hm => ?_
 refine vs (v0 (vn (fun _ => o_bld ([.sc (.int .i64 0), .sc (.slice none 0 0), .sc (.slice none 0 0), .sc (.slice none 0 0), .sc (.slice none 0 0)]) bt30 rfl) ?_))
 refine ve fun hk => a_store 5 ([.sc (.int .i64 0), .sc (.slice none 0 0), .sc (.slice none 0 0), .sc (.slice none 0 0), .sc (.slice none 0 0)]) hk rfl rfl rfl rfl sz30 rfl rfl fun hk8 => qk hk8 rfl ?_
 refine v0 ?_
 cases hm
 exact vr fun hk => Ret.of2 (.inl rfl) (rsC (.agg ([.sc (.int .i64 0), .sc (.slice none 0 0), .sc (.slice none 0 0), .sc (.slice none 0 0), .sc (.slice none 0 0)])) ld30 rfl (Zd 5 hk rfl) rfl) (rsT _ _ (.sc (.int _ _)) rfl) (hp_sub (List.nil_sublist _) hk).1 (ALe.agg (.cons (ALe.refl _ _) (.cons (nil_lem _) (.cons (nil_lem _) (.cons (nil_lem _) (.cons (nil_lem _) .nil)))))) (ALe.refl _ _) ⟨rfl, rfl⟩
 refine v0 (vs (vs (v0 (vl 0 (.agg ([.sc (.int .i64 y1.2.1), aw ag4.t ag4.n ag4.cap, aw ag5.t ag5.n ag5.cap, aw ag6.t ag6.n ag6.cap, aw ag7.t ag7.n ag7.cap])) ld30 rfl rfl rfl ?_))))
 obtain ⟨_, hy2, hm⟩ := Zc hm
 refine vn (fun hk => o_call (ACalls_pure (.cons (Br.agg (.cons (Br.refl _ _) (.cons (Br.aw 1 cz_Snap ok4 hk rfl) (.cons (Br.aw 2 cz_Chunk ok5 hk rfl) (.cons (Br.aw 3 cz_Exp ok6 hk rfl) (.cons (Br.aw 4 cz_Vol ok7 hk rfl) .nil)))))) .nil) rfl (W89 _ hy2)) rfl bd89 rfl) (v0 ?_)
 refine vi hm (fun hc2 hm => ?_) fun hc2 hm => ?_
 refine vs (v0 (vn (fun _ => o_bld ([.sc (.int .i64 0), .sc (.slice none 0 0), .sc (.slice none 0 0), .sc (.slice none 0 0), .sc (.slice none 0 0)]) bt30 rfl) ?_))
 refine ve fun hk => a_store 5 ([.sc (.int .i64 0), .sc (.slice none 0 0), .sc (.slice none 0 0), .sc (.slice none 0 0), .sc (.slice none 0 0)]) hk rfl rfl rfl rfl sz30 rfl rfl fun hk73 => qk hk73 rfl ?_
 refine v0 ?_
 cases hm
 exact vr fun hk => Ret.of2 (.inl rfl) (rsC (.agg ([.sc (.int .i64 0), .sc (.slice none 0 0), .sc (.slice none 0 0), .sc (.slice none 0 0), .sc (.slice none 0 0)])) ld30 rfl (Zd 5 hk rfl) rfl) (rsT _ _ (.sc (.int _ _)) rfl) (hp_sub (List.nil_sublist _) hk).1 (ALe.agg (.cons (ALe.refl _ _) (.cons (nil_lem _) (.cons (nil_lem _) (.cons (nil_lem _) (.cons (nil_lem _) .nil)))))) (ALe.refl _ _) ⟨rfl, rfl⟩
 refine v0 (vs (v0 (vl 0 (.agg ([.sc (.int .i64 y1.2.1), aw ag4.t ag4.n ag4.cap, aw ag5.t ag5.n ag5.cap, aw ag6.t ag6.n ag6.cap, aw ag7.t ag7.n ag7.cap])) ld30 rfl rfl rfl ?_)))
 refine ve fun hk => a_store 5 ([.sc (.int .i64 y1.2.1), aw ag4.t ag4.n ag4.cap, aw ag5.t ag5.n ag5.cap, aw ag6.t ag6.n ag6.cap, aw ag7.t ag7.n ag7.cap]) hk rfl rfl rfl (by repeat (first | exact rfl | refine all_c (ocell_ow _ _ _) ?_ | refine all_c (ocell_aw _ _ _) ?_ | refine all_c rfl ?_)) sz30 rfl rfl fun hk75 => qk hk75 rfl ?_
 refine v0 ?_
 cases hm
 refine vrl fun hk => ?_
 obtain ⟨hk76, le0⟩ := LeF.fzO (n := 36) (f := _) 1 4 ([.sc (.int .i64 y1.2.1), .sl none 4 (List.map c_Snap y1.2.2.1), aw ag5.t ag5.n ag5.cap, aw ag6.t ag6.n ag6.cap, aw ag7.t ag7.n ag7.cap]) hk rfl (.cons (Fz.refl _ _ _) (.cons (Fz.aw 1 cz_Snap ok4 hk rfl (.refl _)) (.cons (Fz.refl _ _ _) (.cons (Fz.refl _ _ _) (.cons (Fz.refl _ _ _) .nil)))))
 obtain ⟨hk78, le1⟩ := LeF.fzO (n := 36) (f := _) 1 3 ([.sc (.int .i64 y1.2.1), .sl none 4 (List.map c_Snap y1.2.2.1), .sl none 35 (List.map c_Chunk y1.2.2.2.1), aw ag6.t ag6.n ag6.cap, aw ag7.t ag7.n ag7.cap]) hk76 rfl (.cons (Fz.refl _ _ _) (.cons (Fz.refl _ _ _) (.cons (Fz.aw 1 cz_Chunk ok5 hk76 rfl (.refl _)) (.cons (Fz.refl _ _ _) (.cons (Fz.refl _ _ _) .nil)))))
 obtain ⟨hk80, le2⟩ := LeF.fzO (n := 36) (f := _) 1 2 ([.sc (.int .i64 y1.2.1), .sl none 4 (List.map c_Snap y1.2.2.1), .sl none 35 (List.map c_Chunk y1.2.2.2.1), .sl none 3 (List.map c_Exp y1.2.2.2.2.1), aw ag7.t ag7.n ag7.cap]) hk78 rfl (.cons (Fz.refl _ _ _) (.cons (Fz.refl _ _ _) (.cons (Fz.refl _ _ _) (.cons (Fz.aw 1 cz_Exp ok6 hk78 rfl (.refl _)) (.cons (Fz.refl _ _ _) .nil)))))
 obtain ⟨hk82, le3⟩ := LeF.fzO (n := 36) (f := _) 1 1 ([.sc (.int .i64 y1.2.1), .sl none 4 (List.map c_Snap y1.2.2.1), .sl none 35 (List.map c_Chunk y1.2.2.2.1), .sl none 3 (List.map c_Exp y1.2.2.2.2.1), .sl none 4 (List.map c_Vol y1.2.2.2.2.2)]) hk80 rfl (.cons (Fz.refl _ _ _) (.cons (Fz.refl _ _ _) (.cons (Fz.refl _ _ _) (.cons (Fz.refl _ _ _) (.cons (Fz.aw 1 cz_Vol ok7 hk80 rfl (.refl _)) .nil)))))
 exact LqE.mk (LeF.trans (LeF.trans (LeF.trans le0 le1) le2) le3) (Ret.of2 (.inl rfl) (rsC (.agg (c_Catalog ({ Seq := y1.2.1, Snaps := y1.2.2.1, Chunks := y1.2.2.2.1, Exps := y1.2.2.2.2.1, Vols := y1.2.2.2.2.2 } : TCatalog))) ld30 rfl (Zd 1 hk82 rfl) rfl) (rsT _ _ (.sc (.int _ _)) rfl) (hp_sub (List.nil_sublist _) hk82).1 (ALe.refl _ _) (ALe.refl _ _) ⟨rfl, rfl⟩)
theorem bd36 : bodied Tryz.prog 36 = true := by kernel_rfl
open Go.Vm
def M139_L0 (fuel : Nat) (p0 : List TFile) (q0 : Int) : Option (Lp (Int) (Bool)) :=
 if (decide (q0 < (p0.length : Int))) = true then ((ix p0 q0).bind fun x0 => if (decide (200 < (x0.Data.length : Int))) = true then (some (.ret true)) else some (.go (IntKind.wrap .i64 (q0 + 1)))) else some (.brk q0)
def M139 (fuel : Nat) (p0 : List TFile) : Option (Bool) :=
 if (decide (6 < (p0.length : Int))) = true then (some true) else after (loopM (fun s => M139_L0 fuel p0 s) fuel 0) fun r0 => some false
set_option maxHeartbeats 4000000 in
set_option maxRecDepth 100000 in
theorem W139 {fuel : Nat} {p0 : List TFile} {o : Bool} (h : Heap) (hm : M139 fuel p0 = some o) :
 ACalls Tryz.prog 139 [.sl none 2 (List.map c_File p0)] h (fun r h' => r = .sc (.bool o) ∧ h' = h) := by
 refine ACv 20 [.tmp 2] Tryz.func139 rfl rfl rfl rfl ?_
 unfold M139 at hm
 refine v (v (vln ln64 rfl (v ?_)))
 refine vi hm (fun hc4 hm => ?_) fun hc4 hm => ?_
 refine v (v ?_)
 injection hm with hm; subst hm
 exact vr1 rfl
 refine v (v ?_)
 refine vlpH hm (σ := Int) (τ := Unit) (fun g s => []) (fun g s => .c 0 (.sl none 2 (List.map c_File p0)) (.c 3 (.sc (.int .i64 s)) .nil)) () (lx (.k2 .nil)) ?_ ?_
 rintro _ q0 x hm
 replace hm : M139_L0 fuel p0 q0 = some x := hm
 unfold M139_L0 at hm
 refine v (vln ln64 rfl (v ?_))
 refine vi hm (fun hc0 hm => ?_) fun hc0 hm => ?_
 refine v (v (v ?_))
 refine vx hm el64 rfl rfl fun _ _ hm => ?_
 refine vln ln41 rfl (v ?_)
 refine vi hm (fun hc1 hm => ?_) fun hc1 hm => ?_
 refine v (v ?_)
 refine vrt hm fun hm => ?_
 injection hm with hm; subst hm
 exact vr1 rfl
 refine v (v ?_)
 exact vgo hm () trivial (lx (.k2 .nil))
 refine v ?_
 exact vbk hm () trivial (lx (.k2 .nil))
 rintro _ r0 hm
 refine v (v ?_)
 injection hm with hm; subst hm
 exact vr1 rfl
theorem bd139 : bodied Tryz.prog 139 = true := by kernel_rfl
def M85_L0 (fuel : Nat) (p0 : List TFile) (q0 : Int) : Option (Lp (Int) ((List TFile) × Int)) :=
 if (decide (q0 < (p0.length : Int))) = true then ((ix p0 q0).bind fun x0 => (M140 fuel x0.Path).bind fun y0 => if (!y0) = true then (some (.ret ([], 1))) else some (.go (IntKind.wrap .i64 (q0 + 1)))) else some (.brk q0)
def M85_L4 (fuel : Nat) (p0 : List TFile) (q0 : List TFile) (q1 : Int) (q2 : Int) : Option (Lp (Int) (Lp ((List TFile) × Int) ((List TFile) × Int))) :=
 after (if (decide (q2 < (q0.length : Int))) = true then ((ix q0 q2).bind fun x0 => (ix p0 q1).bind fun x1 => some (.brk (Op.bytesLess x0.Path.toList x1.Path.toList))) else some (.brk false) : Option (Lp (Bool) (Lp (Int) (Lp ((List TFile) × Int) ((List TFile) × Int))))) fun j0 => if j0 = true then (some (.go (IntKind.wrap .i64 (q2 + 1)))) else some (.brk q2)
def M85_L2 (fuel : Nat) (p0 : List TFile) (q0 : List TFile) (q1 : Int) : Option (Lp ((List TFile) × Int) ((List TFile) × Int)) :=
 if (decide (q1 < (p0.length : Int))) = true then (after (loopM (fun s => M85_L4 fuel p0 q0 q1 s) fuel 0) fun r0 => after (if (decide (r0 < (q0.length : Int))) = true then ((ix q0 r0).bind fun x0 => (ix p0 q1).bind fun x1 => some (.brk (x0.Path.toList == x1.Path.toList))) else some (.brk false) : Option (Lp (Bool) (Lp ((List TFile) × Int) ((List TFile) × Int)))) fun j0 => if j0 = true then (some (.ret ([], 9))) else (slc q0 0 r0).bind fun x2 => (ix p0 q1).bind fun x3 => (ix p0 q1).bind fun x4 => (app ([] : List TFile) x2).bind fun z0 => (M141 fuel x4.Data).bind fun y0 => (app z0 ([({ Path := x3.Path, Data := y0 } : TFile)] : List TFile)).bind fun z1 => (slc q0 r0 (q0.length : Int)).bind fun x5 => (app z1 x5).bind fun z2 => some (.go (z2, IntKind.wrap .i64 (q1 + 1)))) else some (.brk (q0, q1))
def M85 (fuel : Nat) (p0 : List TFile) : Option ((List TFile) × Int) :=
 (M139 fuel p0).bind fun y4 => if y4 = true then (some ([], 2)) else after (loopM (fun s => M85_L0 fuel p0 s) fuel 0) fun r0 => after (loopM (fun s => M85_L2 fuel p0 s.1 s.2) fuel ([], 0)) fun ⟨r1, r2⟩ => some (r1, 0)
set_option maxHeartbeats 4000000 in
set_option maxRecDepth 100000 in
theorem W85 {fuel : Nat} {p0 : List TFile} {o : (List TFile) × Int} (h : Heap) (hm : M85 fuel p0 = some o) :
 ACalls Tryz.prog 85 [.sl none 2 (List.map c_File p0)] h (fun r h' => r = .tup [.sl none 2 (List.map c_File o.1), .sc (.int .i64 o.2)] ∧ h' = h) := by
 refine ACv 91 [.tmp 2, .tmp 3] Tryz.func85 rfl rfl rfl rfl ?_
 unfold M85 at hm
 refine v (v ?_)
 refine vk W139 bd139 hm rfl rfl fun _ hm => ?_
 refine v ?_
 refine vi hm (fun hc6 hm => ?_) fun hc6 hm => ?_
 refine v (v ?_)
 cases hm
 exact vr fun hk => Ret.of2 (.inl rfl) (rsT _ _ (.sc (.slice _ _ _)) rfl) (rsT _ _ (.sc (.int _ _)) rfl) (Sub.refl _) (nil_lem _) (ALe.refl _ _) ⟨rfl, rfl⟩
 refine v (v ?_)
 refine vlpH hm (σ := Int) (τ := Unit) (fun g s => []) (fun g s => .c 0 (.sl none 2 (List.map c_File p0)) (.c 4 (.sc (.int .i64 s)) .nil)) () (lx (.k2 .nil)) ?_ ?_
 rintro _ q0 x hm
 replace hm : M85_L0 fuel p0 q0 = some x := hm
 unfold M85_L0 at hm
 refine v (vln ln64 rfl (v ?_))
 refine vi hm (fun hc0 hm => ?_) fun hc0 hm => ?_
 refine v (v (v ?_))
 refine vx hm el64 rfl rfl fun _ _ hm => ?_
 refine vk W140 bd140 hm rfl rfl fun _ hm => ?_
 refine v ?_
 refine vi hm (fun hc1 hm => ?_) fun hc1 hm => ?_
 refine v (v ?_)
 refine vrt hm fun hm => ?_
 cases hm
 exact vr fun hk => Ret.of2 (.inl rfl) (rsT _ _ (.sc (.slice _ _ _)) rfl) (rsT _ _ (.sc (.int _ _)) rfl) (Sub.refl _) (nil_lem _) (ALe.refl _ _) ⟨rfl, rfl⟩
 refine v (v ?_)
 exact vgo hm () trivial (lx (.k2 .nil))
 refine v ?_
 exact vbk hm () trivial (lx (.k2 .nil))
 rintro _ r0 hm
 refine v (v (vle (lno (.tok 95 2 (([] : List TFile).length * 2)) 5 (ow none 2 (List.map c_File [])) (ow_nil _ _)) ?_))
 refine vlp hm (σ := (List TFile) × Int) (τ := Option Key) (fun g s => [(g, .tok 95 2 ((s.1 : List TFile).length * 2))]) (fun g s => (g = none → s.1 = [])) (fun g s => .c 0 (.sl none 2 (List.map c_File p0)) (.c 5 (ow g 2 (List.map c_File s.1)) (.c 6 (.sc (.int .i64 s.2)) .nil))) none (fun _ => rfl) (lx (.k3 .nil)) ?_ ?_
 rintro tg0 ⟨q1, q2⟩ x ot0 hm
 replace hm : M85_L2 fuel p0 q1 q2 = some x := hm
 unfold M85_L2 at hm
 refine v (vln ln64 rfl (v ?_))
 refine vi hm (fun hc2 hm => ?_) fun hc2 hm => ?_
 refine v (v (v (vs ?_)))
 refine vlpH hm (σ := Int) (τ := Unit) (fun g s => [(tg0, .tok 95 2 ((q1 : List TFile).length * 2))]) (fun g s => .c 0 (.sl none 2 (List.map c_File p0)) (.c 5 (ow tg0 2 (List.map c_File q1)) (.c 6 (.sc (.int .i64 q2)) (.c 7 (.sc (.int .i64 s)) .nil)))) () (lx (.k4 .nil)) ?_ ?_
 rintro _ q3 x hm
 replace hm : M85_L4 fuel p0 q1 q2 q3 = some x := hm
 unfold M85_L4 at hm
 refine vs (vs ?_)
 refine vjnH hm (σ := Bool) (τ := Unit) (fun g s => [(tg0, .tok 95 2 ((q1 : List TFile).length * 2))]) (fun g s => .c 0 (.sl none 2 (List.map c_File p0)) (.c 5 (ow tg0 2 (List.map c_File q1)) (.c 6 (.sc (.int .i64 q2)) (.c 7 (.sc (.int .i64 q3)) (.c 46 (.sc (.bool s)) .nil))))) (fun x hm => ?_) ?_
 refine v (vq (by kernel_rfl) (vn (fun _ => o_leno ln64 ot0 rfl) ?_))
 refine vi hm (fun hb0 hm => ?_) fun hb0 hm => ?_
 rw [hb0]
 obtain ⟨_, hx0, hm⟩ := Zc hm
 refine vn (fun _ => o_ixo hx0 el64 ot0 rfl rfl) ?_
 refine vx hm el64 rfl rfl fun _ _ hm => ?_
 refine vn (fun _ => o_bs rfl rfl rfl trivial) ?_
 exact vgo hm () trivial (lx (.k5 .nil))
 rw [hb0]
 exact vgo hm () trivial (lx (.k5 .nil))
 rintro _ j0 hm
 refine v ?_
 refine vi hm (fun hc3 hm => ?_) fun hc3 hm => ?_
 refine v (v (v ?_))
 exact vgo hm () trivial (lx (.k4 .nil))
 refine v ?_
 exact vbk hm () trivial (lx (.k4 .nil))
 rintro _ r1 hm
 refine vs (vs ?_)
 refine vjnH hm (σ := Bool) (τ := Unit) (fun g s => [(tg0, .tok 95 2 ((q1 : List TFile).length * 2))]) (fun g s => .c 0 (.sl none 2 (List.map c_File p0)) (.c 5 (ow tg0 2 (List.map c_File q1)) (.c 6 (.sc (.int .i64 q2)) (.c 7 (.sc (.int .i64 r1)) (.c 65 (.sc (.bool s)) .nil))))) (fun x hm => ?_) ?_
 refine v (vq (by kernel_rfl) (vn (fun _ => o_leno ln64 ot0 rfl) ?_))
 refine vi hm (fun hb1 hm => ?_) fun hb1 hm => ?_
 rw [hb1]
 obtain ⟨_, hx1, hm⟩ := Zc hm
 refine vn (fun _ => o_ixo hx1 el64 ot0 rfl rfl) ?_
 refine vx hm el64 rfl rfl fun _ _ hm => ?_
 refine vn (fun _ => o_bs rfl rfl rfl trivial) ?_
 exact vgo hm () trivial (lx (.k5 .nil))
 rw [hb1]
 exact vgo hm () trivial (lx (.k5 .nil))
 rintro _ j1 hm
 refine v ?_
 refine vi hm (fun hc4 hm => ?_) fun hc4 hm => ?_
 refine v (v ?_)
 refine vrt hm fun hm => ?_
 cases hm
 exact vr fun hk => Ret.of2 (.inl rfl) (rsT _ _ (.sc (.slice _ _ _)) rfl) (rsT _ _ (.sc (.int _ _)) rfl) (hp_sub (List.nil_sublist _) hk).1 (nil_lem _) (ALe.refl _ _) ⟨rfl, rfl⟩
 refine v (v (v ?_))
 refine vz [] mixed (fun hk => trivial) fun hk => ?_
 refine z_w 0 rfl (fun S' h' hi hB => o_mv (.sc (.slice _ _ _)) rfl) ?_
 refine z_w 1 rfl (fun S' h' hi hB => o_mv (ow _ _ _) rfl) ?_
 refine z_w 2 rfl (fun S' h' hi hB => o_mv (.sc (.int _ _)) rfl) ?_
 obtain ⟨_, hx2, hm⟩ := Zc hm
 refine z_w 3 rfl (fun S' h' hi hB => o_slco hx2 el64 rfl ot0 rfl rfl rfl) ?_
 refine z_w 5 rfl (fun S' h' hi hB => o_mv (.sl _ _ _) rfl) ?_
 refine z_w 6 rfl (fun S' h' hi hB => o_mv (.sc (.int _ _)) rfl) ?_
 obtain ⟨x0, hx3, hm⟩ := Zc hm
 refine z_w 7 rfl (fun S' h' hi hB => o_ix hx3 el64 rfl rfl) ?_
 refine z_w 8 rfl (fun S' h' hi hB => o_fl fd95_0 rfl rfl) ?_
 refine z_w 9 rfl (fun S' h' hi hB => o_ld (.sc (.string x0.Path)) ld9 rfl rfl) ?_
 refine z_w 10 rfl (fun S' h' hi hB => o_mv (.sl _ _ _) rfl) ?_
 refine z_w 11 rfl (fun S' h' hi hB => o_mv (.sc (.int _ _)) rfl) ?_
 obtain ⟨x1, hx4, hm⟩ := Zc hm
 refine z_w 12 rfl (fun S' h' hi hB => o_ix hx4 el64 rfl rfl) ?_
 refine z_w 13 rfl (fun S' h' hi hB => o_fl fd95_1 rfl rfl) ?_
 refine z_w 14 rfl (fun S' h' hi hB => o_ld (.sl none 1 (List.map c_u8 x1.Data)) ld41 rfl rfl) ?_
 obtain ⟨z0, hz0, hm⟩ := Zc hm
 refine z_e 4 rfl (by kernel_rfl) (a_app0 (c := c_File) hz0 et64 rfl rfl hk nofun (srcOf_own (slc_nil hx2 ot0)) fun tg1 ot1 hk0 => ⟨trivial, ?_⟩)
 obtain ⟨y0, hy0, hm⟩ := Zc hm
 refine z_w 15 rfl (fun S' h' hi hB => o_call (W141 _ hy0) rfl bd141 rfl) ?_
 refine z_w 16 rfl (fun S' h' hi hB => o_bld (c_File ({ Path := x0.Path, Data := y0 } : TFile)) bt95 rfl) ?_
 refine z_w 17 rfl (fun S' h' hi hB => o_lit (List.map c_File ([({ Path := x0.Path, Data := y0 } : TFile)] : List TFile)) et64 rfl rfl rfl rfl) ?_
 obtain ⟨z1, hz1, hm⟩ := Zc hm
 refine z_e 18 rfl (by kernel_rfl) (a_app (c := c_File) 0 hz1 et64 rfl rfl rfl ot1 hk0 rfl fun tg2 ot2 hk1 => ⟨trivial, ?_⟩)
 refine z_w 19 rfl (fun S' h' hi hB => o_as (ow _ _ _) rfl) ?_
 refine z_nil (by kernel_rfl) (qk (f := .c 8 _ (.c 84 _ (.c 83 _ (.c 82 _ (.c 81 _ (.c 70 _ (.c 80 _ (.c 79 _ (.c 78 _ (.c 77 _ (.c 76 _ (.c 75 _ (.c 74 _ (.c 73 _ (.c 72 _ (.c 71 _ (.c 69 _ (.c 68 _ (.c 67 _ (.c 66 _ _)))))))))))))))))))) hk1 rfl ?_)
 refine v ?_
 obtain ⟨_, hx5, hm⟩ := Zc hm
 refine vn (fun _ => o_slco hx5 el64 rfl ot0 rfl rfl rfl) ?_
 obtain ⟨z2, hz2, hm⟩ := Zc hm
 refine ve fun hk => a_app (c := c_File) 0 hz2 et64 rfl rfl rfl ot2 hk (srcOf_own (slc_nil hx5 ot0)) fun tg3 ot3 hk2 => qk hk2 rfl ?_
 refine v ?_
 exact vgo hm tg3 ot3 (lxs [0] rfl rfl (.k3 .nil))
 refine v ?_
 exact vbk hm tg0 ot0 (lx (.k3 .nil))
 rintro tg4 ⟨r2, r3⟩ ot4 hm
 refine v (v ?_)
 cases hm
 exact vr fun hk => Ret.of2 (.inl rfl) (rsT _ _ (ow _ _ _) rfl) (rsT _ _ (.sc (.int _ _)) rfl) (hp_sub (List.nil_sublist _) hk).1 ((own_frz0 _ 0 ot4 hk rfl)) (ALe.refl _ _) ⟨rfl, rfl⟩
theorem bd85 : bodied Tryz.prog 85 = true := by kernel_rfl
def M144 (fuel : Nat) : Option ((Ar 64)) :=
 some (⟨[1116352408, 1899447441, 3049323471, 3921009573, 961987163, 1508970993, 2453635748, 2870763221, 3624381080, 310598401, 607225278, 1426881987, 1925078388, 2162078206, 2614888103, 3248222580, 3835390401, 4022224774, 264347078, 604807628, 770255983, 1249150122, 1555081692, 1996064986, 2554220882, 2821834349, 2952996808, 3210313671, 3336571891, 3584528711, 113926993, 338241895, 666307205, 773529912, 1294757372, 1396182291, 1695183700, 1986661051, 2177026350, 2456956037, 2730485921, 2820302411, 3259730800, 3345764771, 3516065817, 3600352804, 4094571909, 275423344, 430227734, 506948616, 659060556, 883997877, 958139571, 1322822218, 1537002063, 1747873779, 1955562222, 2024104815, 2227730452, 2361852424, 2428436474, 2756734187, 3204031479, 3329325298], rfl⟩ : Ar 64)
set_option maxHeartbeats 4000000 in
set_option maxRecDepth 100000 in
theorem W144 {fuel : Nat} {o : (Ar 64)} (h : Heap) (hm : M144 fuel = some o) :
 ACalls Tryz.prog 144 [] h (fun r h' => r = .agg (c_arr64_u32 o) ∧ h' = h) := by
 refine ACv 2 [.cell 0 181] Tryz.func144 rfl rfl rfl rfl ?_
 unfold M144 at hm
 refine v ?_
 refine ve fun hk => a_alloc (c_arr64_u32 (arZ 64)) hk zr181 rfl rfl fun k2 hk3 => qk hk3 rfl ?_
 refine v (vn (fun _ => o_bldar [1116352408, 1899447441, 3049323471, 3921009573, 961987163, 1508970993, 2453635748, 2870763221, 3624381080, 310598401, 607225278, 1426881987, 1925078388, 2162078206, 2614888103, 3248222580, 3835390401, 4022224774, 264347078, 604807628, 770255983, 1249150122, 1555081692, 1996064986, 2554220882, 2821834349, 2952996808, 3210313671, 3336571891, 3584528711, 113926993, 338241895, 666307205, 773529912, 1294757372, 1396182291, 1695183700, 1986661051, 2177026350, 2456956037, 2730485921, 2820302411, 3259730800, 3345764771, 3516065817, 3600352804, 4094571909, 275423344, 430227734, 506948616, 659060556, 883997877, 958139571, 1322822218, 1537002063, 1747873779, 1955562222, 2024104815, 2227730452, 2361852424, 2428436474, 2756734187, 3204031479, 3329325298] rfl bta181 rfl rfl rfl) ?_)
 refine ve fun hk => a_store 0 (c_arr64_u32 (⟨[1116352408, 1899447441, 3049323471, 3921009573, 961987163, 1508970993, 2453635748, 2870763221, 3624381080, 310598401, 607225278, 1426881987, 1925078388, 2162078206, 2614888103, 3248222580, 3835390401, 4022224774, 264347078, 604807628, 770255983, 1249150122, 1555081692, 1996064986, 2554220882, 2821834349, 2952996808, 3210313671, 3336571891, 3584528711, 113926993, 338241895, 666307205, 773529912, 1294757372, 1396182291, 1695183700, 1986661051, 2177026350, 2456956037, 2730485921, 2820302411, 3259730800, 3345764771, 3516065817, 3600352804, 4094571909, 275423344, 430227734, 506948616, 659060556, 883997877, 958139571, 1322822218, 1537002063, 1747873779, 1955562222, 2024104815, 2227730452, 2361852424, 2428436474, 2756734187, 3204031479, 3329325298], rfl⟩ : Ar 64)) hk rfl rfl rfl rfl sz181 rfl rfl fun hk6 => qk hk6 rfl ?_
 refine v ?_
 cases hm
 exact vr fun hk => Ret.of1 (.inl rfl) (rsC (.agg (c_arr64_u32 (⟨[1116352408, 1899447441, 3049323471, 3921009573, 961987163, 1508970993, 2453635748, 2870763221, 3624381080, 310598401, 607225278, 1426881987, 1925078388, 2162078206, 2614888103, 3248222580, 3835390401, 4022224774, 264347078, 604807628, 770255983, 1249150122, 1555081692, 1996064986, 2554220882, 2821834349, 2952996808, 3210313671, 3336571891, 3584528711, 113926993, 338241895, 666307205, 773529912, 1294757372, 1396182291, 1695183700, 1986661051, 2177026350, 2456956037, 2730485921, 2820302411, 3259730800, 3345764771, 3516065817, 3600352804, 4094571909, 275423344, 430227734, 506948616, 659060556, 883997877, 958139571, 1322822218, 1537002063, 1747873779, 1955562222, 2024104815, 2227730452, 2361852424, 2428436474, 2756734187, 3204031479, 3329325298], rfl⟩ : Ar 64))) ld181 rfl (Zd 0 hk rfl) rfl) (hp_sub (List.nil_sublist _) hk).1 (ALe.refl _ _) ⟨rfl, rfl⟩
theorem bd144 : bodied Tryz.prog 144 = true := by kernel_rfl
def M145_L0 (fuel : Nat) (q0 : List Int) : Option (Lp ((List Int)) ((List Int))) :=
 if (((IntKind.wrap .i64 ((q0.length : Int) + 8)).tmod 64) != 0) = true then ((app q0 ([0] : List Int)).bind fun z0 => some (.go z0)) else some (.brk q0)
def M145_L2 (fuel : Nat) (p0 : List Int) (q0 : List Int) (q1 : Int) : Option (Lp ((List Int) × Int) ((List Int))) :=
 if (decide (0 ≤ q1)) = true then (grd (decide (0 ≤ (IntKind.wrap .u64 (8 * (IntKind.wrap .u64 q1))))) <| (app q0 ([IntKind.wrap .u8 ((IntKind.wrap .u64 ((IntKind.wrap .u64 (p0.length : Int)) * 8)).fdiv (2 ^ (min ((IntKind.wrap .u64 (8 * (IntKind.wrap .u64 q1))) : Int).toNat (IntKind.bits .u64))))] : List Int)).bind fun z0 => some (.go (z0, IntKind.wrap .i64 (q1 - 1)))) else some (.brk (q0, q1))
def M145 (fuel : Nat) (p0 : List Int) : Option ((List Int)) :=
 (app ([] : List Int) p0).bind fun z4 => (app z4 ([128] : List Int)).bind fun z0 => after (loopM (fun s => M145_L0 fuel s) fuel z0) fun r0 => after (loopM (fun s => M145_L2 fuel p0 s.1 s.2) fuel (r0, 7)) fun ⟨r1, r2⟩ => some r1
set_option maxHeartbeats 4000000 in
set_option maxRecDepth 100000 in
theorem W145 {fuel : Nat} {p0 : List Int} {o : (List Int)} (h : Heap) (hm : M145 fuel p0 = some o) :
 ACalls Tryz.prog 145 [.sl none 1 (List.map c_u8 p0)] h (fun r h' => r = .sl none 1 (List.map c_u8 o) ∧ h' = h) := by
 refine ACv 37 [.tmp 2] Tryz.func145 rfl rfl rfl rfl ?_
 unfold M145 at hm
 refine v (v (v ?_))
 obtain ⟨z4, hz5, hm⟩ := Zc hm
 refine ve fun hk => a_app0 (c := c_u8) hz5 et41 rfl rfl hk nofun rfl fun tg6 ot7 hk8 => qk hk8 rfl ?_
 refine vn (fun _ => o_lit (List.map c_u8 ([128] : List Int)) et41 rfl rfl rfl rfl) ?_
 obtain ⟨z0, hz0, hm⟩ := Zc hm
 refine ve fun hk => a_app (c := c_u8) 0 hz0 et41 rfl rfl rfl ot7 hk rfl fun tg0 ot0 hk0 => qk hk0 rfl ?_
 refine vs ?_
 refine vlp hm (σ := (List Int)) (τ := Option Key) (fun g s => [(g, .tok 5 1 ((s : List Int).length * 1))]) (fun g s => (g = none → s = [])) (fun g s => .c 0 (.sl none 1 (List.map c_u8 p0)) (.c 3 (ow g 1 (List.map c_u8 s)) .nil)) tg0 ot0 (lx (.k2 .nil)) ?_ ?_
 rintro tg1 q0 x ot1 hm
 replace hm : M145_L0 fuel q0 = some x := hm
 unfold M145_L0 at hm
 refine v (vn (fun _ => o_leno ln41 ot1 rfl) (v ?_))
 refine vi hm (fun hc0 hm => ?_) fun hc0 hm => ?_
 refine v (v (v (vn (fun _ => o_lit (List.map c_u8 ([0] : List Int)) et41 rfl rfl rfl rfl) ?_)))
 obtain ⟨z1, hz1, hm⟩ := Zc hm
 refine ve fun hk => a_app (c := c_u8) 0 hz1 et41 rfl rfl rfl ot1 hk rfl fun tg2 ot2 hk1 => qk hk1 rfl ?_
 exact vgo hm tg2 ot2 (lx (.k2 .nil))
 refine v ?_
 exact vbk hm tg1 ot1 (lx (.k2 .nil))
 rintro tg3 r0 ot3 hm
 refine v (vln ln41 rfl (v ?_))
 refine vlp hm (σ := (List Int) × Int) (τ := Option Key) (fun g s => [(g, .tok 5 1 ((s.1 : List Int).length * 1))]) (fun g s => (g = none → s.1 = [])) (fun g s => .c 3 (ow g 1 (List.map c_u8 s.1)) (.c 4 (.sc (.int .u64 (IntKind.wrap .u64 ((IntKind.wrap .u64 (p0.length : Int)) * 8)))) (.c 5 (.sc (.int .i64 s.2)) .nil))) tg3 ot3 (lx (.k3 .nil)) ?_ ?_
 rintro tg4 ⟨q1, q2⟩ x ot4 hm
 replace hm : M145_L2 fuel p0 q1 q2 = some x := hm
 unfold M145_L2 at hm
 refine v (v ?_)
 refine vi hm (fun hc1 hm => ?_) fun hc1 hm => ?_
 refine v (v (v ?_))
 refine vgr hm fun _ hm => ?_
 refine vn (fun _ => o_lit (List.map c_u8 ([IntKind.wrap .u8 ((IntKind.wrap .u64 ((IntKind.wrap .u64 (p0.length : Int)) * 8)).fdiv (2 ^ (min ((IntKind.wrap .u64 (8 * (IntKind.wrap .u64 q2))) : Int).toNat (IntKind.bits .u64))))] : List Int)) et41 rfl rfl rfl rfl) ?_
 obtain ⟨z2, hz2, hm⟩ := Zc hm
 refine ve fun hk => a_app (c := c_u8) 0 hz2 et41 rfl rfl rfl ot4 hk rfl fun tg5 ot5 hk2 => qk hk2 rfl ?_
 refine v ?_
 exact vgo hm tg5 ot5 (lx (.k3 .nil))
 refine v ?_
 exact vbk hm tg4 ot4 (lx (.k3 .nil))
 rintro tg7 ⟨r1, r2⟩ ot6 hm
 refine v (v ?_)
 injection hm with hm; subst hm
 exact vr fun hk => Ret.of1 (.inl rfl) (rsT _ _ (ow _ _ _) rfl) (hp_sub (List.nil_sublist _) hk).1 ((own_frz0 _ 0 ot6 hk rfl)) ⟨rfl, rfl⟩
theorem bd145 : bodied Tryz.prog 145 = true := by kernel_rfl
def M146 (fuel : Nat) (p0 : Int) (p1 : Int) : Option (Int) :=
 grd (decide (0 ≤ p1)) <| grd (decide (0 ≤ (IntKind.wrap .u64 (32 - p1)))) <| some (bitsV .or .u32 (p0.fdiv (2 ^ (min (p1 : Int).toNat (IntKind.bits .u32)))) (IntKind.wrap .u32 (p0 * 2 ^ (min ((IntKind.wrap .u64 (32 - p1)) : Int).toNat (IntKind.bits .u32)))))
set_option maxHeartbeats 4000000 in
set_option maxRecDepth 100000 in
theorem W146 {fuel : Nat} {p0 : Int} {p1 : Int} {o : Int} (h : Heap) (hm : M146 fuel p0 p1 = some o) :
 ACalls Tryz.prog 146 [.sc (.int .u32 p0), .sc (.int .u64 p1)] h (fun r h' => r = .sc (.int .u32 o) ∧ h' = h) := by
 refine ACv 13 [.tmp 4] Tryz.func146 rfl rfl rfl rfl ?_
 unfold M146 at hm
 refine v (v ?_)
 refine vgr hm fun _ hm => ?_
 refine vgr hm fun _ hm => ?_
 refine v ?_
 cases hm
 exact vr1 rfl
theorem bd146 : bodied Tryz.prog 146 = true := by kernel_rfl
def M87_L4 (fuel : Nat) (y0 : (List Int)) (q0 : Int) (q1 : Int) (q2 : Ar 64) (q3 : Int) : Option (Lp ((Ar 64) × Int) (Lp ((Ar 64)) (Lp ((Ar 64) × Int) (Lp ((Ar 8) × Int) (Id32))))) :=
 if (decide (q3 < 4)) = true then ((ix q2.1 q1).bind fun x0 => (ix y0 (IntKind.wrap .i64 ((IntKind.wrap .i64 (q0 + (IntKind.wrap .i64 (4 * q1)))) + q3))).bind fun x1 => (ix q2.1 q1).bind fun _ => some (.go (arU q2 q1.toNat (bitsV .or .u32 (IntKind.wrap .u32 (x0 * 2 ^ (min (8 : Int).toNat (IntKind.bits .u32)))) (IntKind.wrap .u32 x1)), IntKind.wrap .i64 (q3 + 1)))) else some (.brk (q2, q3))
def M87_L2 (fuel : Nat) (y0 : (List Int)) (q0 : Int) (q1 : Ar 64) (q2 : Int) : Option (Lp ((Ar 64) × Int) (Lp ((Ar 8) × Int) (Id32))) :=
 if (decide (q2 < 64)) = true then (after (if (decide (q2 < 16)) = true then (after (loopM (fun s => M87_L4 fuel y0 q0 q2 s.1 s.2) fuel (q1, 0)) fun ⟨r0, r1⟩ => some (.brk r0)) else (ix q1.1 (IntKind.wrap .i64 (q2 - 15))).bind fun x0 => (ix q1.1 (IntKind.wrap .i64 (q2 - 2))).bind fun x1 => (ix q1.1 (IntKind.wrap .i64 (q2 - 16))).bind fun x2 => (ix q1.1 (IntKind.wrap .i64 (q2 - 7))).bind fun x3 => (M146 fuel x0 7).bind fun y1 => (M146 fuel x0 18).bind fun y2 => (M146 fuel x1 17).bind fun y3 => (M146 fuel x1 19).bind fun y4 => (ix q1.1 q2).bind fun _ => some (.brk (arU q1 q2.toNat (IntKind.wrap .u32 ((IntKind.wrap .u32 ((IntKind.wrap .u32 (x2 + x3)) + (bitsV .xor .u32 (bitsV .xor .u32 y1 y2) (x0.fdiv (2 ^ (min (3 : Int).toNat (IntKind.bits .u32))))))) + (bitsV .xor .u32 (bitsV .xor .u32 y3 y4) (x1.fdiv (2 ^ (min (10 : Int).toNat (IntKind.bits .u32))))))))) : Option (Lp ((Ar 64)) (Lp ((Ar 64) × Int) (Lp ((Ar 8) × Int) (Id32))))) fun j0 => some (.go (j0, IntKind.wrap .i64 (q2 + 1)))) else some (.brk (q1, q2))
def M87_L6 (fuel : Nat) (y6 : (Ar 64)) (r0 : Ar 64) (q0 : Ar 8) (q1 : Int) : Option (Lp ((Ar 8) × Int) (Lp ((Ar 8) × Int) (Id32))) :=
 if (decide (q1 < 64)) = true then ((ix q0.1 0).bind fun x0 => (ix q0.1 4).bind fun x1 => (ix q0.1 7).bind fun x2 => (M146 fuel x1 6).bind fun y0 => (M146 fuel x1 11).bind fun y1 => (M146 fuel x1 25).bind fun y2 => (ix q0.1 5).bind fun x3 => (ix q0.1 6).bind fun x4 => (ix y6.1 q1).bind fun x5 => (ix r0.1 q1).bind fun x6 => (M146 fuel x0 2).bind fun y3 => (M146 fuel x0 13).bind fun y4 => (M146 fuel x0 22).bind fun y5 => (ix q0.1 1).bind fun x7 => (ix q0.1 2).bind fun x8 => (ix q0.1 1).bind fun x9 => (ix q0.1 2).bind fun x10 => (ix q0.1 0).bind fun x11 => (ix q0.1 1).bind fun x12 => (ix q0.1 2).bind fun x13 => (ix q0.1 3).bind fun x14 => (ix q0.1 4).bind fun x15 => (ix q0.1 5).bind fun x16 => (ix q0.1 6).bind fun x17 => some (.go ((⟨[IntKind.wrap .u32 ((IntKind.wrap .u32 ((IntKind.wrap .u32 ((IntKind.wrap .u32 ((IntKind.wrap .u32 (x2 + (bitsV .xor .u32 (bitsV .xor .u32 y0 y1) y2))) + (bitsV .xor .u32 (bitsV .and .u32 x1 x3) (bitsV .and .u32 (bitsV .xor .u32 (IntKind.max .u32) x1) x4)))) + x5)) + x6)) + (IntKind.wrap .u32 ((bitsV .xor .u32 (bitsV .xor .u32 y3 y4) y5) + (bitsV .xor .u32 (bitsV .xor .u32 (bitsV .and .u32 x0 x7) (bitsV .and .u32 x0 x8)) (bitsV .and .u32 x9 x10))))), x11, x12, x13, IntKind.wrap .u32 (x14 + (IntKind.wrap .u32 ((IntKind.wrap .u32 ((IntKind.wrap .u32 ((IntKind.wrap .u32 (x2 + (bitsV .xor .u32 (bitsV .xor .u32 y0 y1) y2))) + (bitsV .xor .u32 (bitsV .and .u32 x1 x3) (bitsV .and .u32 (bitsV .xor .u32 (IntKind.max .u32) x1) x4)))) + x5)) + x6))), x15, x16, x17], rfl⟩ : Ar 8), IntKind.wrap .i64 (q1 + 1)))) else some (.brk (q0, q1))
def M87_L8 (fuel : Nat) (r0 : Ar 8) (q0 : Ar 8) (q1 : Int) : Option (Lp ((Ar 8) × Int) (Lp ((Ar 8) × Int) (Id32))) :=
 if (decide (q1 < 8)) = true then ((ix q0.1 q1).bind fun x0 => (ix r0.1 q1).bind fun x1 => (ix q0.1 q1).bind fun _ => some (.go (arU q0 q1.toNat (IntKind.wrap .u32 (x0 + x1)), IntKind.wrap .i64 (q1 + 1)))) else some (.brk (q0, q1))
def M87_L0 (fuel : Nat) (y6 : (Ar 64)) (y0 : (List Int)) (q0 : Ar 8) (q1 : Int) : Option (Lp ((Ar 8) × Int) (Id32)) :=
 if (decide (q1 < (y0.length : Int))) = true then (after (loopM (fun s => M87_L2 fuel y0 q1 s.1 s.2) fuel ((arZ 64), 0)) fun ⟨r0, r1⟩ => after (loopM (fun s => M87_L6 fuel y6 r0 s.1 s.2) fuel (q0, 0)) fun ⟨r2, r3⟩ => after (loopM (fun s => M87_L8 fuel r2 s.1 s.2) fuel (q0, 0)) fun ⟨r4, r5⟩ => some (.go (r4, IntKind.wrap .i64 (q1 + 64)))) else some (.brk (q0, q1))
def M87_L10 (fuel : Nat) (r0 : Ar 8) (q0 : Id32) (q1 : Int) : Option (Lp (Id32 × Int) (Id32)) :=
 if (decide (q1 < 32)) = true then ((ix r0.1 (IntKind.wrap .i64 (q1.tdiv 4))).bind fun x0 => grd (decide (0 ≤ (IntKind.wrap .u64 (IntKind.wrap .i64 (24 - (IntKind.wrap .i64 (8 * (q1.tmod 4)))))))) <| (ix q0.1 q1).bind fun _ => some (.go (arU q0 q1.toNat (IntKind.wrap .u8 (x0.fdiv (2 ^ (min ((IntKind.wrap .u64 (IntKind.wrap .i64 (24 - (IntKind.wrap .i64 (8 * (q1.tmod 4)))))) : Int).toNat (IntKind.bits .u32))))), IntKind.wrap .i64 (q1 + 1)))) else some (.brk (q0, q1))
def M87 (fuel : Nat) (p0 : List Int) : Option (Id32) :=
 (M144 fuel).bind fun y6 => (M145 fuel p0).bind fun y0 => after (loopM (fun s => M87_L0 fuel y6 y0 s.1 s.2) fuel ((⟨[1779033703, 3144134277, 1013904242, 2773480762, 1359893119, 2600822924, 528734635, 1541459225], rfl⟩ : Ar 8), 0)) fun ⟨r0, r1⟩ => after (loopM (fun s => M87_L10 fuel r0 s.1 s.2) fuel (idZ, 0)) fun ⟨r2, r3⟩ => some r2
set_option maxHeartbeats 4000000 in
set_option maxRecDepth 100000 in
theorem W87 {fuel : Nat} {p0 : List Int} {o : Id32} (h : Heap) (hm : M87 fuel p0 = some o) :
 ACalls Tryz.prog 87 [.sl none 1 (List.map c_u8 p0)] h (fun r h' => r = .agg (c_id o) ∧ h' = h) := by
 refine ACv 208 [.cell 2 36] Tryz.func87 rfl rfl rfl rfl ?_
 unfold M87 at hm
 refine v ?_
 refine ve fun hk => a_alloc (c_id idZ) hk zr36 rfl rfl fun k2 hk3 => qk hk3 rfl ?_
 refine v ?_
 refine vk W144 bd144 hm rfl rfl fun y6 hm => ?_
 refine ve fun hk => a_alloc (c_arr64_u32 (arZ 64)) hk zr181 rfl rfl fun k8 hk9 => qk hk9 rfl ?_
 refine ve fun hk => a_store 0 (c_arr64_u32 y6) hk rfl rfl rfl rfl sz181 rfl rfl fun hk0 => qk hk0 rfl ?_
 refine v (vn (fun _ => o_bldar [1779033703, 3144134277, 1013904242, 2773480762, 1359893119, 2600822924, 528734635, 1541459225] rfl bta183 rfl rfl rfl) ?_)
 refine ve fun hk => a_alloc (c_arr8_u32 (arZ 8)) hk zr183 rfl rfl fun k13 hk1 => qk hk1 rfl ?_
 refine ve fun hk => a_store 0 (c_arr8_u32 (⟨[1779033703, 3144134277, 1013904242, 2773480762, 1359893119, 2600822924, 528734635, 1541459225], rfl⟩ : Ar 8)) hk rfl rfl rfl rfl sz183 rfl rfl fun hk2 => qk hk2 rfl ?_
 refine v ?_
 refine vk W145 bd145 hm rfl rfl fun y0 hm => ?_
 refine v ?_
 refine vlpH hm (σ := (Ar 8) × Int) (τ := Unit) (fun g s => [(some k13, .obj 183 (c_arr8_u32 s.1)), (some k8, .obj 181 (c_arr64_u32 y6)), (some k2, .obj 36 (c_id idZ))]) (fun g s => .c 2 (.ptr k2 0) (.c 3 (.ptr k8 0) (.c 4 (.ptr k13 0) (.c 5 (.sl none 1 (List.map c_u8 y0)) (.c 6 (.sc (.int .i64 s.2)) .nil))))) () (lx (.k5 .nil)) ?_ ?_
 rintro _ ⟨q0, q1⟩ x hm
 replace hm : M87_L0 fuel y6 y0 q0 q1 = some x := hm
 unfold M87_L0 at hm
 refine v (vln ln41 rfl (v ?_))
 refine vi hm (fun hc0 hm => ?_) fun hc0 hm => ?_
 refine v (v (v ?_))
 refine ve fun hk => a_alloc (c_arr64_u32 (arZ 64)) hk zr181 rfl rfl fun k1783 hk4 => qk hk4 rfl ?_
 refine v ?_
 refine vlpH hm (σ := (Ar 64) × Int) (τ := Unit) (fun g s => [(some k1783, .obj 181 (c_arr64_u32 s.1)), (some k13, .obj 183 (c_arr8_u32 q0)), (some k8, .obj 181 (c_arr64_u32 y6)), (some k2, .obj 36 (c_id idZ))]) (fun g s => .c 2 (.ptr k2 0) (.c 3 (.ptr k8 0) (.c 4 (.ptr k13 0) (.c 5 (.sl none 1 (List.map c_u8 y0)) (.c 6 (.sc (.int .i64 q1)) (.c 7 (.ptr k1783 0) (.c 8 (.sc (.int .i64 s.2)) .nil))))))) () (lx (.k7 .nil)) ?_ ?_
 rintro _ ⟨q2, q3⟩ x hm
 replace hm : M87_L2 fuel y0 q1 q2 q3 = some x := hm
 unfold M87_L2 at hm
 refine v (v ?_)
 refine vi hm (fun hc1 hm => ?_) fun hc1 hm => ?_
 refine v (vs ?_)
 refine vjnH hm (σ := (Ar 64)) (τ := Unit) (fun g s => [(some k1783, .obj 181 (c_arr64_u32 s)), (some k13, .obj 183 (c_arr8_u32 q0)), (some k8, .obj 181 (c_arr64_u32 y6)), (some k2, .obj 36 (c_id idZ))]) (fun g s => .c 2 (.ptr k2 0) (.c 3 (.ptr k8 0) (.c 4 (.ptr k13 0) (.c 5 (.sl none 1 (List.map c_u8 y0)) (.c 6 (.sc (.int .i64 q1)) (.c 7 (.ptr k1783 0) (.c 8 (.sc (.int .i64 q3)) .nil))))))) (fun x hm => ?_) ?_
 refine v (v (v ?_))
 refine vi hm (fun hc2 hm => ?_) fun hc2 hm => ?_
 refine v ?_
 refine vlpH hm (σ := (Ar 64) × Int) (τ := Unit) (fun g s => [(some k1783, .obj 181 (c_arr64_u32 s.1)), (some k13, .obj 183 (c_arr8_u32 q0)), (some k8, .obj 181 (c_arr64_u32 y6)), (some k2, .obj 36 (c_id idZ))]) (fun g s => .c 2 (.ptr k2 0) (.c 3 (.ptr k8 0) (.c 4 (.ptr k13 0) (.c 5 (.sl none 1 (List.map c_u8 y0)) (.c 6 (.sc (.int .i64 q1)) (.c 7 (.ptr k1783 0) (.c 8 (.sc (.int .i64 q3)) (.c 9 (.sc (.int .i64 s.2)) .nil)))))))) () (lx (.k8 .nil)) ?_ ?_
 rintro _ ⟨q4, q5⟩ x hm
 replace hm : M87_L4 fuel y0 q1 q3 q4 q5 = some x := hm
 unfold M87_L4 at hm
 refine v (v ?_)
 refine vi hm (fun hc3 hm => ?_) fun hc3 hm => ?_
 refine v (v (v ?_))
 refine vz [(17, some k1783, .obj 181 (c_arr64_u32 q4))] mixed (fun hk => ⟨fun _ => hp_at 0 hk rfl, trivial⟩) fun hk => ?_
 refine z_w 0 rfl (fun S' h' hi hB => o_mv (.sc (.int _ _)) rfl) ?_
 refine z_w 1 rfl (fun S' h' hi hB => o_mv (.sc (.int _ _)) rfl) ?_
 obtain ⟨x0, hx0, hm⟩ := Zc hm
 refine z_w 2 rfl (fun S' h' hi hB => o_ixarp (y := q4) hx0 ar181 rfl rfl) ?_
 refine z_w 3 rfl (fun S' h' hi hB => o_ldarp (y := q4) 0 hx0 ld180 rfl (At.s (InvL.get 0 hi rfl (hB 17 (by kernel_rfl)))) (take_cA _)) ?_
 refine z_w 4 rfl (fun S' h' hi hB => o_sh rfl rfl rfl (by decide)) ?_
 refine z_w 5 rfl (fun S' h' hi hB => o_mv (.sl _ _ _) rfl) ?_
 refine z_w 6 rfl (fun S' h' hi hB => o_mv (.sc (.int _ _)) rfl) ?_
 refine z_w 7 rfl (fun S' h' hi hB => o_mv (.sc (.int _ _)) rfl) ?_
 refine z_w 8 rfl (fun S' h' hi hB => o_bi rfl rfl rfl trivial) ?_
 refine z_w 9 rfl (fun S' h' hi hB => o_bi rfl rfl rfl trivial) ?_
 refine z_w 10 rfl (fun S' h' hi hB => o_mv (.sc (.int _ _)) rfl) ?_
 refine z_w 11 rfl (fun S' h' hi hB => o_bi rfl rfl rfl trivial) ?_
 obtain ⟨x1, hx1, hm⟩ := Zc hm
 refine z_w 12 rfl (fun S' h' hi hB => o_ix hx1 el41 rfl rfl) ?_
 refine z_w 13 rfl (fun S' h' hi hB => o_ld (.sc (.int .u8 x1)) ld5 rfl rfl) ?_
 refine z_w 14 rfl (fun S' h' hi hB => o_cv ti5 ti180 rfl) ?_
 refine z_w 15 rfl (fun S' h' hi hB => o_bi rfl rfl rfl trivial) ?_
 obtain ⟨_, hx2, hm⟩ := Zc hm
 refine z_w 16 rfl (fun S' h' hi hB => o_ixarp (y := q4) hx2 ar181 rfl rfl) ?_
 refine z_e 17 rfl (by kernel_rfl) (a_starp (y := q4) (v := bitsV .or .u32 (IntKind.wrap .u32 (x0 * 2 ^ (min (8 : Int).toNat (IntKind.bits .u32)))) (IntKind.wrap .u32 x1)) 0 hk hx2 rfl rfl rfl sz180 fun hk5 => ⟨⟨fun e => absurd e (by decide), trivial⟩, ?_⟩)
 refine z_nil (by kernel_rfl) (qk (f := .c 57 _ (.c 56 _ (.c 55 _ (.c 54 _ (.c 53 _ (.c 52 _ (.c 51 _ (.c 50 _ (.c 49 _ (.c 48 _ (.c 47 _ (.c 46 _ (.c 45 _ (.c 44 _ (.c 43 _ (.c 42 _ (.c 41 _ _))))))))))))))))) hk5 rfl ?_)
 refine v ?_
 exact vgo hm () trivial (lx (.k8 .nil))
 refine v ?_
 exact vbk hm () trivial (lx (.k8 .nil))
 rintro _ ⟨r0, r1⟩ hm
 refine v ?_
 exact vgo hm () trivial (lx (.k7 .nil))
 refine v (v (vq (by kernel_rfl) ?_))
 obtain ⟨x2, hx3, hm⟩ := Zc hm
 refine vn (fun _ => o_ixarp (y := q2) hx3 ar181 rfl rfl) (vn (fun hk => o_ldarp (y := q2) 0 hx3 ld180 rfl (Zd 0 hk rfl) (take_cA _)) ?_)
 obtain ⟨x3, hx4, hm⟩ := Zc hm
 refine vn (fun _ => o_ixarp (y := q2) hx4 ar181 rfl rfl) (vn (fun hk => o_ldarp (y := q2) 0 hx4 ld180 rfl (Zd 0 hk rfl) (take_cA _)) (v ?_))
 refine vz [(29, some k1783, .obj 181 (c_arr64_u32 q2))] mixed (fun hk => ⟨fun _ => hp_at 0 hk rfl, trivial⟩) fun hk => ?_
 refine z_w 0 rfl (fun S' h' hi hB => o_mv (.sc (.int _ _)) rfl) ?_
 refine z_w 1 rfl (fun S' h' hi hB => o_mv (.sc (.int _ _)) rfl) ?_
 refine z_w 2 rfl (fun S' h' hi hB => o_bi rfl rfl rfl trivial) ?_
 obtain ⟨x4, hx5, hm⟩ := Zc hm
 refine z_w 3 rfl (fun S' h' hi hB => o_ixarp (y := q2) hx5 ar181 rfl rfl) ?_
 refine z_w 4 rfl (fun S' h' hi hB => o_ldarp (y := q2) 0 hx5 ld180 rfl (At.s (InvL.get 0 hi rfl (hB 29 (by kernel_rfl)))) (take_cA _)) ?_
 refine z_w 5 rfl (fun S' h' hi hB => o_mv (.sc (.int _ _)) rfl) ?_
 refine z_w 6 rfl (fun S' h' hi hB => o_bi rfl rfl rfl trivial) ?_
 obtain ⟨x5, hx6, hm⟩ := Zc hm
 refine z_w 7 rfl (fun S' h' hi hB => o_ixarp (y := q2) hx6 ar181 rfl rfl) ?_
 refine z_w 8 rfl (fun S' h' hi hB => o_ldarp (y := q2) 0 hx6 ld180 rfl (At.s (InvL.get 0 hi rfl (hB 29 (by kernel_rfl)))) (take_cA _)) ?_
 refine z_w 9 rfl (fun S' h' hi hB => o_bi rfl rfl rfl trivial) ?_
 refine z_w 10 rfl (fun S' h' hi hB => o_mv (.sc (.int _ _)) rfl) ?_
 obtain ⟨y1, hy0, hm⟩ := Zc hm
 refine z_w 11 rfl (fun S' h' hi hB => o_call (W146 _ hy0) rfl bd146 rfl) ?_
 refine z_w 12 rfl (fun S' h' hi hB => o_mv (.sc (.int _ _)) rfl) ?_
 obtain ⟨y2, hy1, hm⟩ := Zc hm
 refine z_w 13 rfl (fun S' h' hi hB => o_call (W146 _ hy1) rfl bd146 rfl) ?_
 refine z_w 14 rfl (fun S' h' hi hB => o_bi rfl rfl rfl trivial) ?_
 refine z_w 15 rfl (fun S' h' hi hB => o_mv (.sc (.int _ _)) rfl) ?_
 refine z_w 16 rfl (fun S' h' hi hB => o_sh rfl rfl rfl (by decide)) ?_
 refine z_w 17 rfl (fun S' h' hi hB => o_bi rfl rfl rfl trivial) ?_
 refine z_w 18 rfl (fun S' h' hi hB => o_bi rfl rfl rfl trivial) ?_
 refine z_w 19 rfl (fun S' h' hi hB => o_mv (.sc (.int _ _)) rfl) ?_
 obtain ⟨y3, hy2, hm⟩ := Zc hm
 refine z_w 20 rfl (fun S' h' hi hB => o_call (W146 _ hy2) rfl bd146 rfl) ?_
 refine z_w 21 rfl (fun S' h' hi hB => o_mv (.sc (.int _ _)) rfl) ?_
 obtain ⟨y4, hy3, hm⟩ := Zc hm
 refine z_w 22 rfl (fun S' h' hi hB => o_call (W146 _ hy3) rfl bd146 rfl) ?_
 refine z_w 23 rfl (fun S' h' hi hB => o_bi rfl rfl rfl trivial) ?_
 refine z_w 24 rfl (fun S' h' hi hB => o_mv (.sc (.int _ _)) rfl) ?_
 refine z_w 25 rfl (fun S' h' hi hB => o_sh rfl rfl rfl (by decide)) ?_
 refine z_w 26 rfl (fun S' h' hi hB => o_bi rfl rfl rfl trivial) ?_
 refine z_w 27 rfl (fun S' h' hi hB => o_bi rfl rfl rfl trivial) ?_
 obtain ⟨_, hx7, hm⟩ := Zc hm
 refine z_w 28 rfl (fun S' h' hi hB => o_ixarp (y := q2) hx7 ar181 rfl rfl) ?_
 refine z_e 29 rfl (by kernel_rfl) (a_starp (y := q2) (v := IntKind.wrap .u32 ((IntKind.wrap .u32 ((IntKind.wrap .u32 (x4 + x5)) + (bitsV .xor .u32 (bitsV .xor .u32 y1 y2) (x2.fdiv (2 ^ (min (3 : Int).toNat (IntKind.bits .u32))))))) + (bitsV .xor .u32 (bitsV .xor .u32 y3 y4) (x3.fdiv (2 ^ (min (10 : Int).toNat (IntKind.bits .u32))))))) 0 hk hx7 rfl rfl rfl sz180 fun hk6 => ⟨⟨fun e => absurd e (by decide), trivial⟩, ?_⟩)
 refine z_nil (by kernel_rfl) (qk (f := .c 94 _ (.c 93 _ (.c 92 _ (.c 91 _ (.c 90 _ (.c 89 _ (.c 88 _ (.c 87 _ (.c 86 _ (.c 85 _ (.c 84 _ (.c 83 _ (.c 82 _ (.c 81 _ (.c 80 _ (.c 79 _ (.c 78 _ (.c 77 _ (.c 76 _ (.c 75 _ (.c 74 _ (.c 73 _ (.c 72 _ (.c 71 _ (.c 70 _ (.c 69 _ (.c 68 _ (.c 67 _ (.c 66 _ _))))))))))))))))))))))))))))) hk6 rfl ?_)
 exact vgo hm () trivial (lx (.k7 .nil))
 rintro _ j0 hm
 refine v ?_
 exact vgo hm () trivial (lx (.k7 .nil))
 refine v ?_
 exact vbk hm () trivial (lx (.k7 .nil))
 rintro _ ⟨r2, r3⟩ hm
 refine v (vl 1 (.agg (c_arr8_u32 q0)) ld183 rfl rfl rfl ?_)
 refine ve fun hk => a_alloc (c_arr8_u32 (arZ 8)) hk zr183 rfl rfl fun k2413 hk7 => qk hk7 rfl ?_
 refine ve fun hk => a_store 0 (c_arr8_u32 q0) hk rfl rfl rfl rfl sz183 rfl rfl fun hk8 => qk hk8 rfl ?_
 refine v ?_
 refine vlpH hm (σ := (Ar 8) × Int) (τ := Unit) (fun g s => [(some k2413, .obj 183 (c_arr8_u32 s.1)), (some k1783, .obj 181 (c_arr64_u32 r2)), (some k13, .obj 183 (c_arr8_u32 q0)), (some k8, .obj 181 (c_arr64_u32 y6)), (some k2, .obj 36 (c_id idZ))]) (fun g s => .c 2 (.ptr k2 0) (.c 3 (.ptr k8 0) (.c 4 (.ptr k13 0) (.c 5 (.sl none 1 (List.map c_u8 y0)) (.c 6 (.sc (.int .i64 q1)) (.c 7 (.ptr k1783 0) (.c 12 (.ptr k2413 0) (.c 13 (.sc (.int .i64 s.2)) .nil)))))))) () (lx (.k8 .nil)) ?_ ?_
 rintro _ ⟨q6, q7⟩ x hm
 replace hm : M87_L6 fuel y6 r2 q6 q7 = some x := hm
 unfold M87_L6 at hm
 refine v (v ?_)
 refine vi hm (fun hc4 hm => ?_) fun hc4 hm => ?_
 refine v (v (v (vq (by kernel_rfl) ?_)))
 obtain ⟨x6, hx8, hm⟩ := Zc hm
 refine vn (fun _ => o_ixarp (y := q6) hx8 ar183 rfl rfl) (vn (fun hk => o_ldarp (y := q6) 0 hx8 ld180 rfl (Zd 0 hk rfl) (take_cA _)) ?_)
 obtain ⟨x7, hx9, hm⟩ := Zc hm
 refine vn (fun _ => o_ixarp (y := q6) hx9 ar183 rfl rfl) (vn (fun hk => o_ldarp (y := q6) 0 hx9 ld180 rfl (Zd 0 hk rfl) (take_cA _)) (v (vq (by kernel_rfl) ?_)))
 obtain ⟨x8, hx10, hm⟩ := Zc hm
 refine vn (fun _ => o_ixarp (y := q6) hx10 ar183 rfl rfl) (vn (fun hk => o_ldarp (y := q6) 0 hx10 ld180 rfl (Zd 0 hk rfl) (take_cA _)) ?_)
 refine vk W146 bd146 hm rfl rfl fun y5 hm => ?_
 refine vk W146 bd146 hm rfl rfl fun y7 hm => ?_
 refine vk W146 bd146 hm rfl rfl fun y8 hm => ?_
 obtain ⟨x9, hx11, hm⟩ := Zc hm
 refine vn (fun _ => o_ixarp (y := q6) hx11 ar183 rfl rfl) (vn (fun hk => o_ldarp (y := q6) 0 hx11 ld180 rfl (Zd 0 hk rfl) (take_cA _)) (vn (fun _ => o_inv rfl rfl) ?_))
 obtain ⟨x10, hx12, hm⟩ := Zc hm
 refine vn (fun _ => o_ixarp (y := q6) hx12 ar183 rfl rfl) (vn (fun hk => o_ldarp (y := q6) 0 hx12 ld180 rfl (Zd 0 hk rfl) (take_cA _)) ?_)
 obtain ⟨x11, hx13, hm⟩ := Zc hm
 refine vn (fun _ => o_ixarp (y := y6) hx13 ar181 rfl rfl) (vn (fun hk => o_ldarp (y := y6) 0 hx13 ld180 rfl (Zd 3 hk rfl) (take_cA _)) ?_)
 obtain ⟨x12, hx14, hm⟩ := Zc hm
 refine vn (fun _ => o_ixarp (y := r2) hx14 ar181 rfl rfl) (vn (fun hk => o_ldarp (y := r2) 0 hx14 ld180 rfl (Zd 1 hk rfl) (take_cA _)) (v (vq (by kernel_rfl) ?_)))
 refine vk W146 bd146 hm rfl rfl fun y9 hm => ?_
 refine vk W146 bd146 hm rfl rfl fun y10 hm => ?_
 refine vk W146 bd146 hm rfl rfl fun y11 hm => ?_
 obtain ⟨x13, hx15, hm⟩ := Zc hm
 refine vn (fun _ => o_ixarp (y := q6) hx15 ar183 rfl rfl) (vn (fun hk => o_ldarp (y := q6) 0 hx15 ld180 rfl (Zd 0 hk rfl) (take_cA _)) ?_)
 obtain ⟨x14, hx16, hm⟩ := Zc hm
 refine vn (fun _ => o_ixarp (y := q6) hx16 ar183 rfl rfl) (vn (fun hk => o_ldarp (y := q6) 0 hx16 ld180 rfl (Zd 0 hk rfl) (take_cA _)) ?_)
 obtain ⟨x15, hx17, hm⟩ := Zc hm
 refine vn (fun _ => o_ixarp (y := q6) hx17 ar183 rfl rfl) (vn (fun hk => o_ldarp (y := q6) 0 hx17 ld180 rfl (Zd 0 hk rfl) (take_cA _)) ?_)
 obtain ⟨x16, hx18, hm⟩ := Zc hm
 refine vn (fun _ => o_ixarp (y := q6) hx18 ar183 rfl rfl) (vn (fun hk => o_ldarp (y := q6) 0 hx18 ld180 rfl (Zd 0 hk rfl) (take_cA _)) (v ?_))
 obtain ⟨x17, hx19, hm⟩ := Zc hm
 refine vn (fun _ => o_ixarp (y := q6) hx19 ar183 rfl rfl) (vn (fun hk => o_ldarp (y := q6) 0 hx19 ld180 rfl (Zd 0 hk rfl) (take_cA _)) ?_)
 obtain ⟨x18, hx20, hm⟩ := Zc hm
 refine vn (fun _ => o_ixarp (y := q6) hx20 ar183 rfl rfl) (vn (fun hk => o_ldarp (y := q6) 0 hx20 ld180 rfl (Zd 0 hk rfl) (take_cA _)) ?_)
 obtain ⟨x19, hx21, hm⟩ := Zc hm
 refine vn (fun _ => o_ixarp (y := q6) hx21 ar183 rfl rfl) (vn (fun hk => o_ldarp (y := q6) 0 hx21 ld180 rfl (Zd 0 hk rfl) (take_cA _)) ?_)
 obtain ⟨x20, hx22, hm⟩ := Zc hm
 refine vn (fun _ => o_ixarp (y := q6) hx22 ar183 rfl rfl) (vn (fun hk => o_ldarp (y := q6) 0 hx22 ld180 rfl (Zd 0 hk rfl) (take_cA _)) ?_)
 obtain ⟨x21, hx23, hm⟩ := Zc hm
 refine vn (fun _ => o_ixarp (y := q6) hx23 ar183 rfl rfl) (vn (fun hk => o_ldarp (y := q6) 0 hx23 ld180 rfl (Zd 0 hk rfl) (take_cA _)) ?_)
 obtain ⟨x22, hx24, hm⟩ := Zc hm
 refine vn (fun _ => o_ixarp (y := q6) hx24 ar183 rfl rfl) (vn (fun hk => o_ldarp (y := q6) 0 hx24 ld180 rfl (Zd 0 hk rfl) (take_cA _)) ?_)
 obtain ⟨x23, hx25, hm⟩ := Zc hm
 refine vn (fun _ => o_ixarp (y := q6) hx25 ar183 rfl rfl) (vn (fun hk => o_ldarp (y := q6) 0 hx25 ld180 rfl (Zd 0 hk rfl) (take_cA _)) (vn (fun _ => o_bldar [IntKind.wrap .u32 ((IntKind.wrap .u32 ((IntKind.wrap .u32 ((IntKind.wrap .u32 ((IntKind.wrap .u32 (x8 + (bitsV .xor .u32 (bitsV .xor .u32 y5 y7) y8))) + (bitsV .xor .u32 (bitsV .and .u32 x7 x9) (bitsV .and .u32 (bitsV .xor .u32 (IntKind.max .u32) x7) x10)))) + x11)) + x12)) + (IntKind.wrap .u32 ((bitsV .xor .u32 (bitsV .xor .u32 y9 y10) y11) + (bitsV .xor .u32 (bitsV .xor .u32 (bitsV .and .u32 x6 x13) (bitsV .and .u32 x6 x14)) (bitsV .and .u32 x15 x16))))), x17, x18, x19, IntKind.wrap .u32 (x20 + (IntKind.wrap .u32 ((IntKind.wrap .u32 ((IntKind.wrap .u32 ((IntKind.wrap .u32 (x8 + (bitsV .xor .u32 (bitsV .xor .u32 y5 y7) y8))) + (bitsV .xor .u32 (bitsV .and .u32 x7 x9) (bitsV .and .u32 (bitsV .xor .u32 (IntKind.max .u32) x7) x10)))) + x11)) + x12))), x21, x22, x23] rfl bta183 rfl rfl rfl) ?_))
 refine ve fun hk => a_store 0 (c_arr8_u32 (⟨[IntKind.wrap .u32 ((IntKind.wrap .u32 ((IntKind.wrap .u32 ((IntKind.wrap .u32 ((IntKind.wrap .u32 (x8 + (bitsV .xor .u32 (bitsV .xor .u32 y5 y7) y8))) + (bitsV .xor .u32 (bitsV .and .u32 x7 x9) (bitsV .and .u32 (bitsV .xor .u32 (IntKind.max .u32) x7) x10)))) + x11)) + x12)) + (IntKind.wrap .u32 ((bitsV .xor .u32 (bitsV .xor .u32 y9 y10) y11) + (bitsV .xor .u32 (bitsV .xor .u32 (bitsV .and .u32 x6 x13) (bitsV .and .u32 x6 x14)) (bitsV .and .u32 x15 x16))))), x17, x18, x19, IntKind.wrap .u32 (x20 + (IntKind.wrap .u32 ((IntKind.wrap .u32 ((IntKind.wrap .u32 ((IntKind.wrap .u32 (x8 + (bitsV .xor .u32 (bitsV .xor .u32 y5 y7) y8))) + (bitsV .xor .u32 (bitsV .and .u32 x7 x9) (bitsV .and .u32 (bitsV .xor .u32 (IntKind.max .u32) x7) x10)))) + x11)) + x12))), x21, x22, x23], rfl⟩ : Ar 8)) hk rfl rfl rfl rfl sz183 rfl rfl fun hk10 => qk hk10 rfl ?_
 refine v ?_
 exact vgo hm () trivial (lx (.k8 .nil))
 refine v ?_
 exact vbk hm () trivial (lx (.k8 .nil))
 rintro _ ⟨r4, r5⟩ hm
 refine v ?_
 refine vlpH hm (σ := (Ar 8) × Int) (τ := Unit) (fun g s => [(some k2413, .obj 183 (c_arr8_u32 r4)), (some k1783, .obj 181 (c_arr64_u32 r2)), (some k13, .obj 183 (c_arr8_u32 s.1)), (some k8, .obj 181 (c_arr64_u32 y6)), (some k2, .obj 36 (c_id idZ))]) (fun g s => .c 2 (.ptr k2 0) (.c 3 (.ptr k8 0) (.c 4 (.ptr k13 0) (.c 5 (.sl none 1 (List.map c_u8 y0)) (.c 6 (.sc (.int .i64 q1)) (.c 12 (.ptr k2413 0) (.c 18 (.sc (.int .i64 s.2)) .nil))))))) () (lx (.k7 .nil)) ?_ ?_
 rintro _ ⟨q8, q9⟩ x hm
 replace hm : M87_L8 fuel r4 q8 q9 = some x := hm
 unfold M87_L8 at hm
 refine v (v ?_)
 refine vi hm (fun hc5 hm => ?_) fun hc5 hm => ?_
 refine v (v (v ?_))
 refine vz [(8, some k13, .obj 183 (c_arr8_u32 q8)), (1000000, some k2413, .obj 183 (c_arr8_u32 r4))] mixed (fun hk => ⟨fun _ => hp_at 2 hk rfl, fun _ => hp_at 0 hk rfl, trivial⟩) fun hk => ?_
 refine z_w 0 rfl (fun S' h' hi hB => o_mv (.sc (.int _ _)) rfl) ?_
 obtain ⟨x24, hx26, hm⟩ := Zc hm
 refine z_w 1 rfl (fun S' h' hi hB => o_ixarp (y := q8) hx26 ar183 rfl rfl) ?_
 refine z_w 2 rfl (fun S' h' hi hB => o_ldarp (y := q8) 0 hx26 ld180 rfl (At.s (InvL.get 0 hi rfl (hB 8 (by kernel_rfl)))) (take_cA _)) ?_
 refine z_w 3 rfl (fun S' h' hi hB => o_mv (.sc (.int _ _)) rfl) ?_
 obtain ⟨x25, hx27, hm⟩ := Zc hm
 refine z_w 4 rfl (fun S' h' hi hB => o_ixarp (y := r4) hx27 ar183 rfl rfl) ?_
 refine z_w 5 rfl (fun S' h' hi hB => o_ldarp (y := r4) 0 hx27 ld180 rfl (At.s (InvL.get 1 hi rfl (hB 1000000 (by kernel_rfl)))) (take_cA _)) ?_
 refine z_w 6 rfl (fun S' h' hi hB => o_bi rfl rfl rfl trivial) ?_
 obtain ⟨_, hx28, hm⟩ := Zc hm
 refine z_w 7 rfl (fun S' h' hi hB => o_ixarp (y := q8) hx28 ar183 rfl rfl) ?_
 refine z_e 8 rfl (by kernel_rfl) (a_starp (y := q8) (v := IntKind.wrap .u32 (x24 + x25)) 2 hk hx28 rfl rfl rfl sz180 fun hk12 => ⟨⟨fun e => absurd e (by decide), fun _ => hp_at 0 hk12 rfl, trivial⟩, ?_⟩)
 refine z_nil (by kernel_rfl) (qk (f := .c 189 _ (.c 188 _ (.c 187 _ (.c 186 _ (.c 185 _ (.c 184 _ (.c 183 _ (.c 182 _ _)))))))) hk12 rfl ?_)
 refine v ?_
 exact vgo hm () trivial (lx (.k7 .nil))
 refine v ?_
 exact vbk hm () trivial (lx (.k7 .nil))
 rintro _ ⟨r6, r7⟩ hm
 refine v ?_
 exact vgo hm () trivial (lxs [2, 3, 4] rfl rfl (.k5 .nil))
 refine v ?_
 exact vbk hm () trivial (lx (.k5 .nil))
 rintro _ ⟨r8, r9⟩ hm
 refine v ?_
 refine ve fun hk => a_alloc (c_id idZ) hk zr36 rfl rfl fun k2657 hk13 => qk hk13 rfl ?_
 refine v ?_
 refine vlpH hm (σ := Id32 × Int) (τ := Unit) (fun g s => [(some k2657, .obj 36 (c_id s.1)), (some k13, .obj 183 (c_arr8_u32 r8)), (some k8, .obj 181 (c_arr64_u32 y6)), (some k2, .obj 36 (c_id idZ))]) (fun g s => .c 2 (.ptr k2 0) (.c 4 (.ptr k13 0) (.c 19 (.ptr k2657 0) (.c 20 (.sc (.int .i64 s.2)) .nil)))) () (lx (.k4 .nil)) ?_ ?_
 rintro _ ⟨q10, q11⟩ x hm
 replace hm : M87_L10 fuel r8 q10 q11 = some x := hm
 unfold M87_L10 at hm
 refine v (v ?_)
 refine vi hm (fun hc6 hm => ?_) fun hc6 hm => ?_
 refine v (v (v ?_))
 obtain ⟨x26, hx29, hm⟩ := Zc hm
 refine vn (fun _ => o_ixarp (y := r8) hx29 ar183 rfl rfl) (vn (fun hk => o_ldarp (y := r8) 0 hx29 ld180 rfl (Zd 1 hk rfl) (take_cA _)) ?_)
 refine vgr hm fun _ hm => ?_
 obtain ⟨_, hx30, hm⟩ := Zc hm
 refine vn (fun _ => o_ixidp hx30 ar36 rfl rfl) ?_
 refine ve fun hk => a_starp (y := q10) (v := IntKind.wrap .u8 (x26.fdiv (2 ^ (min ((IntKind.wrap .u64 (IntKind.wrap .i64 (24 - (IntKind.wrap .i64 (8 * (q11.tmod 4)))))) : Int).toNat (IntKind.bits .u32))))) 0 hk hx30 rfl rfl rfl sz5 fun hk15 => qk hk15 rfl ?_
 refine v ?_
 exact vgo hm () trivial (lx (.k4 .nil))
 refine v ?_
 exact vbk hm () trivial (lx (.k4 .nil))
 rintro _ ⟨r10, r11⟩ hm
 refine v (vl 0 (.agg (c_id r10)) ld36 rfl rfl rfl ?_)
 refine ve fun hk => a_store 3 (c_id r10) hk rfl rfl rfl rfl sz36 rfl rfl fun hk17 => qk hk17 rfl ?_
 refine v ?_
 injection hm with hm; subst hm
 exact vr fun hk => Ret.of1 (.inl rfl) (rsC (.agg (c_id r10)) ld36 rfl (Zd 3 hk rfl) rfl) (hp_sub (List.nil_sublist _) hk).1 (ALe.refl _ _) ⟨rfl, rfl⟩
theorem bd87 : bodied Tryz.prog 87 = true := by kernel_rfl
open Go.Vm
def M142_L0 (fuel : Nat) (p0 : List TFile) (q0 : Int) : Option (Lp (Int) (Int)) :=
 if (decide (q0 < (p0.length : Int))) = true then (after ((ix p0 q0).bind fun x0 => (M140 fuel x0.Path).bind fun y0 => if (!y0) = true then (some (.brk true)) else if (decide (0 < q0)) = true then ((ix p0 q0).bind fun x1 => (ix p0 (IntKind.wrap .i64 (q0 - 1))).bind fun x2 => some (.brk (Op.bytesLess x1.Path.toList x2.Path.toList || x1.Path.toList == x2.Path.toList))) else some (.brk false) : Option (Lp (Bool) (Lp (Int) (Int)))) fun j0 => if j0 = true then (some (.ret 1)) else some (.go (IntKind.wrap .i64 (q0 + 1)))) else some (.brk q0)
def M142 (fuel : Nat) (p0 : List TFile) : Option (Int) :=
 (M139 fuel p0).bind fun y4 => if y4 = true then (some 2) else after (loopM (fun s => M142_L0 fuel p0 s) fuel 0) fun r0 => some 0
set_option maxHeartbeats 4000000 in
set_option maxRecDepth 100000 in
theorem W142 {fuel : Nat} {p0 : List TFile} {o : Int} (h : Heap) (hm : M142 fuel p0 = some o) :
 ACalls Tryz.prog 142 [.sl none 2 (List.map c_File p0)] h (fun r h' => r = .sc (.int .i64 o) ∧ h' = h) := by
 refine ACv 37 [.tmp 2] Tryz.func142 rfl rfl rfl rfl ?_
 unfold M142 at hm
 refine v (v ?_)
 refine vk W139 bd139 hm rfl rfl fun _ hm => ?_
 refine v ?_
 refine vi hm (fun hc6 hm => ?_) fun hc6 hm => ?_
 refine v (v ?_)
 injection hm with hm; subst hm
 exact vr1 rfl
 refine v (v ?_)
 refine vlpH hm (σ := Int) (τ := Unit) (fun g s => []) (fun g s => .c 0 (.sl none 2 (List.map c_File p0)) (.c 3 (.sc (.int .i64 s)) .nil)) () (lx (.k2 .nil)) ?_ ?_
 rintro _ q0 x hm
 replace hm : M142_L0 fuel p0 q0 = some x := hm
 unfold M142_L0 at hm
 refine v (vln ln64 rfl (v ?_))
 refine vi hm (fun hc0 hm => ?_) fun hc0 hm => ?_
 refine v (v (vs ?_))
 refine vjnH hm (σ := Bool) (τ := Unit) (fun g s => []) (fun g s => .c 0 (.sl none 2 (List.map c_File p0)) (.c 3 (.sc (.int .i64 q0)) (.c 36 (.sc (.bool s)) .nil))) (fun x hm => ?_) ?_
 refine v (vq (by kernel_rfl) ?_)
 refine vx hm el64 rfl rfl fun _ _ hm => ?_
 refine vk W140 bd140 hm rfl rfl fun _ hm => ?_
 refine vi hm (fun hb0 hm => ?_) fun hb0 hm => ?_
 rw [hb0]
 exact vgo hm () trivial (lx (.k3 .nil))
 rw [hb0]
 refine vi hm (fun hb1 hm => ?_) fun hb1 hm => ?_
 rw [hb1]
 refine vx hm el64 rfl rfl fun _ _ hm => ?_
 refine vx hm el64 rfl rfl fun _ _ hm => ?_
 refine vn (fun _ => o_bs rfl rfl rfl trivial) ?_
 exact vgo hm () trivial (lx (.k3 .nil))
 rw [hb1]
 exact vgo hm () trivial (lx (.k3 .nil))
 rintro _ j0 hm
 refine v ?_
 refine vi hm (fun hc1 hm => ?_) fun hc1 hm => ?_
 refine v (v ?_)
 refine vrt hm fun hm => ?_
 injection hm with hm; subst hm
 exact vr1 rfl
 refine v (v ?_)
 exact vgo hm () trivial (lx (.k2 .nil))
 refine v ?_
 exact vbk hm () trivial (lx (.k2 .nil))
 rintro _ r0 hm
 refine v (v ?_)
 injection hm with hm; subst hm
 exact vr1 rfl
theorem bd142 : bodied Tryz.prog 142 = true := by kernel_rfl
def M184_L0 (fuel : Nat) (p0 : List Int) (q0 : Int) (q1 : Int) : Option (Lp (Int × Int) (Int)) :=
 if (decide (q1 < (p0.length : Int))) = true then ((ix p0 q1).bind fun x0 => after (if (decide (8 ≤ (IntKind.wrap .i64 (q1 + 1)))) = true then (if (((IntKind.wrap .u32 ((IntKind.wrap .u32 (q0 * 2)) + (IntKind.wrap .u32 ((IntKind.wrap .u32 ((IntKind.wrap .u32 x0) + 1)) * 2654435761)))).fdiv (2 ^ (min (28 : Int).toNat (IntKind.bits .u32)))) == 0) = true then (some (.brk true)) else some (.brk ((IntKind.wrap .i64 (q1 + 1)) == 64))) else some (.brk ((IntKind.wrap .i64 (q1 + 1)) == 64)) : Option (Lp (Bool) (Lp (Int × Int) (Int)))) fun j0 => if j0 = true then (some (.ret (IntKind.wrap .i64 (q1 + 1)))) else some (.go (IntKind.wrap .u32 ((IntKind.wrap .u32 (q0 * 2)) + (IntKind.wrap .u32 ((IntKind.wrap .u32 ((IntKind.wrap .u32 x0) + 1)) * 2654435761))), IntKind.wrap .i64 (q1 + 1)))) else some (.brk (q0, q1))
def M184 (fuel : Nat) (p0 : List Int) : Option (Int) :=
 after (loopM (fun s => M184_L0 fuel p0 s.1 s.2) fuel (0, 0)) fun ⟨r0, r1⟩ => some (p0.length : Int)
set_option maxHeartbeats 4000000 in
set_option maxRecDepth 100000 in
theorem W184 {fuel : Nat} {p0 : List Int} {o : Int} (h : Heap) (hm : M184 fuel p0 = some o) :
 ACalls Tryz.prog 184 [.sl none 1 (List.map c_u8 p0)] h (fun r h' => r = .sc (.int .i64 o) ∧ h' = h) := by
 refine ACv 38 [.tmp 2] Tryz.func184 rfl rfl rfl rfl ?_
 unfold M184 at hm
 refine v (v (v ?_))
 refine vlpH hm (σ := Int × Int) (τ := Unit) (fun g s => []) (fun g s => .c 0 (.sl none 1 (List.map c_u8 p0)) (.c 3 (.sc (.int .u32 s.1)) (.c 4 (.sc (.int .i64 s.2)) .nil))) () (lx (.k3 .nil)) ?_ ?_
 rintro _ ⟨q0, q1⟩ x hm
 replace hm : M184_L0 fuel p0 q0 q1 = some x := hm
 unfold M184_L0 at hm
 refine v (vln ln41 rfl (v ?_))
 refine vi hm (fun hc0 hm => ?_) fun hc0 hm => ?_
 refine v (v (v ?_))
 refine vx hm el41 rfl rfl fun x0 _ hm => ?_
 refine vs ?_
 refine vjnH hm (σ := Bool) (τ := Unit) (fun g s => []) (fun g s => .c 0 (.sl none 1 (List.map c_u8 p0)) (.c 3 (.sc (.int .u32 (IntKind.wrap .u32 ((IntKind.wrap .u32 (q0 * 2)) + (IntKind.wrap .u32 ((IntKind.wrap .u32 ((IntKind.wrap .u32 x0) + 1)) * 2654435761)))))) (.c 4 (.sc (.int .i64 q1)) (.c 33 (.sc (.bool s)) .nil)))) (fun x hm => ?_) ?_
 refine v ?_
 refine vi hm (fun hb0 hm => ?_) fun hb0 hm => ?_
 rw [hb0]
 refine vi hm (fun hb1 hm => ?_) fun hb1 hm => ?_
 rw [hb1]
 exact vgo hm () trivial (lx (.k4 .nil))
 rw [hb1]
 exact vgo hm () trivial (lx (.k4 .nil))
 rw [hb0]
 exact vgo hm () trivial (lx (.k4 .nil))
 rintro _ j0 hm
 refine v ?_
 refine vi hm (fun hc1 hm => ?_) fun hc1 hm => ?_
 refine v (v ?_)
 refine vrt hm fun hm => ?_
 cases hm
 exact vr1 rfl
 refine v (v ?_)
 exact vgo hm () trivial (lx (.k3 .nil))
 refine v ?_
 exact vbk hm () trivial (lx (.k3 .nil))
 rintro _ ⟨r0, r1⟩ hm
 refine v (vln ln41 rfl (v ?_))
 cases hm
 exact vr1 rfl
theorem bd184 : bodied Tryz.prog 184 = true := by kernel_rfl
def M143_L0 (fuel : Nat) (q0 : List (List Int)) (q1 : List Int) : Option (Lp ((List (List Int)) × (List Int)) ((List (List Int)))) :=
 if (decide (0 < (q1.length : Int))) = true then ((M184 fuel q1).bind fun y0 => (slc q1 0 y0).bind fun x0 => (M141 fuel x0).bind fun y1 => (app q0 ([y1] : List (List Int))).bind fun z0 => (slc q1 y0 (q1).length).bind fun x1 => some (.go (z0, x1))) else some (.brk (q0, q1))
def M143 (fuel : Nat) (p0 : List Int) : Option ((List (List Int))) :=
 after (loopM (fun s => M143_L0 fuel s.1 s.2) fuel ([], p0)) fun ⟨r0, r1⟩ => some r0
set_option maxHeartbeats 4000000 in
set_option maxRecDepth 100000 in
theorem W143 {fuel : Nat} {p0 : List Int} {o : (List (List Int))} (h : Heap) (hm : M143 fuel p0 = some o) :
 ACalls Tryz.prog 143 [.sl none 1 (List.map c_u8 p0)] h (fun r h' => r = .sl none 1 (List.map c_s_u8 o) ∧ h' = h) := by
 refine ACv 21 [.tmp 2] Tryz.func143 rfl rfl rfl rfl ?_
 unfold M143 at hm
 refine v (v (vs (vle (lno (.tok 41 1 (([] : List (List Int)).length * 1)) 3 (ow none 1 (List.map c_s_u8 [])) (ow_nil _ _)) ?_)))
 refine vlp hm (σ := (List (List Int)) × (List Int)) (τ := Option Key) (fun g s => [(g, .tok 41 1 ((s.1 : List (List Int)).length * 1))]) (fun g s => (g = none → s.1 = [])) (fun g s => .c 0 (.sl none 1 (List.map c_u8 s.2)) (.c 3 (ow g 1 (List.map c_s_u8 s.1)) .nil)) none (fun _ => rfl) (lx (.k2 .nil)) ?_ ?_
 rintro tg0 ⟨q0, q1⟩ x ot0 hm
 replace hm : M143_L0 fuel q0 q1 = some x := hm
 unfold M143_L0 at hm
 refine v (vln ln41 rfl (v ?_))
 refine vi hm (fun hc0 hm => ?_) fun hc0 hm => ?_
 refine v (v (v ?_))
 refine vk W184 bd184 hm rfl rfl fun _ hm => ?_
 refine v ?_
 obtain ⟨_, hx0, hm⟩ := Zc hm
 refine vn (fun _ => o_slc hx0 el41 rfl rfl rfl rfl) ?_
 refine vk W141 bd141 hm rfl rfl fun y0 hm => ?_
 refine vn (fun _ => o_lit (List.map c_s_u8 ([y0] : List (List Int))) et129 rfl rfl rfl rfl) ?_
 obtain ⟨z0, hz0, hm⟩ := Zc hm
 refine ve fun hk => a_app (c := c_s_u8) 0 hz0 et129 rfl rfl rfl ot0 hk rfl fun tg1 ot1 hk0 => qk hk0 rfl ?_
 refine v ?_
 obtain ⟨_, hx1, hm⟩ := Zc hm
 refine vn (fun _ => o_slc hx1 el41 rfl rfl rfl rfl) ?_
 exact vgo hm tg1 ot1 (lx (.k2 .nil))
 refine v ?_
 exact vbk hm tg0 ot0 (lx (.k2 .nil))
 rintro tg2 ⟨r0, r1⟩ ot2 hm
 refine v (v ?_)
 injection hm with hm; subst hm
 exact vr fun hk => Ret.of1 (.inl rfl) (rsT _ _ (ow _ _ _) rfl) (hp_sub (List.nil_sublist _) hk).1 ((own_frz0 _ 0 ot2 hk rfl)) ⟨rfl, rfl⟩
theorem bd143 : bodied Tryz.prog 143 = true := by kernel_rfl
def M86_L2 (fuel : Nat) (y0 : (List (List Int))) (q0 : List Id32) (q1 : List (List Int)) (q2 : List Id32) (q3 : Int) : Option (Lp ((List Id32) × (List (List Int)) × (List Id32) × Int) (Lp ((List TPart) × (List (List Int)) × (List Id32) × Int) (TManifest × (List (List Int)) × Int))) :=
 if (decide (q3 < (y0.length : Int))) = true then ((ix y0 q3).bind fun x0 => (M87 fuel x0).bind fun y1 => (app q0 ([y1] : List Id32)).bind fun z0 => (M106 fuel q2 y1).bind fun y2 => after (if y2.2.2 = true then ((slc q1 0 y2.2.1).bind fun x1 => (ix y0 q3).bind fun x2 => (app ([] : List (List Int)) x1).bind fun z1 => (app z1 ([x2] : List (List Int))).bind fun z2 => (slc q1 y2.2.1 (q1.length : Int)).bind fun x3 => (app z2 x3).bind fun z3 => some (.brk z3)) else some (.brk q1) : Option (Lp ((List (List Int))) (Lp ((List Id32) × (List (List Int)) × (List Id32) × Int) (Lp ((List TPart) × (List (List Int)) × (List Id32) × Int) (TManifest × (List (List Int)) × Int))))) fun j0 => some (.go (z0, j0, y2.1, IntKind.wrap .i64 (q3 + 1)))) else some (.brk (q0, q1, q2, q3))
def M86_L0 (fuel : Nat) (p1 : List TFile) (q0 : List TPart) (q1 : List (List Int)) (q2 : List Id32) (q3 : Int) : Option (Lp ((List TPart) × (List (List Int)) × (List Id32) × Int) (TManifest × (List (List Int)) × Int)) :=
 if (decide (q3 < (p1.length : Int))) = true then ((ix p1 q3).bind fun x0 => (ix p1 q3).bind fun x1 => (ix p1 q3).bind fun x2 => (M143 fuel x2.Data).bind fun y0 => after (loopM (fun s => M86_L2 fuel y0 s.1 s.2.1 s.2.2.1 s.2.2.2) fuel ([], q1, q2, 0)) fun ⟨r0, r1, r2, r3⟩ => (app q0 ([({ Path := x0.Path, Size := (x1.Data.length : Int), Ids := r0 } : TPart)] : List TPart)).bind fun z0 => some (.go (z0, r1, r2, IntKind.wrap .i64 (q3 + 1)))) else some (.brk (q0, q1, q2, q3))
def M86 (fuel : Nat) (p0 : ByteArray) (p1 : List TFile) : Option (TManifest × (List (List Int)) × Int) :=
 (M140 fuel p0).bind fun y7 => if (!y7) = true then (some (({ Name := ByteArray.empty, Parts := [] } : TManifest), [], 1)) else (M142 fuel p1).bind fun y0 => if (y0 != 0) = true then (some (({ Name := ByteArray.empty, Parts := [] } : TManifest), [], y0)) else after (loopM (fun s => M86_L0 fuel p1 s.1 s.2.1 s.2.2.1 s.2.2.2) fuel ([], [], [], 0)) fun ⟨r0, r1, r2, r3⟩ => some (({ Name := p0, Parts := r0 } : TManifest), r1, 0)
set_option maxHeartbeats 4000000 in
set_option maxRecDepth 100000 in
theorem W86 {fuel : Nat} {p0 : ByteArray} {p1 : List TFile} {o : TManifest × (List (List Int)) × Int} (h : Heap) (hm : M86 fuel p0 p1 = some o) :
 ACalls Tryz.prog 86 [.sc (.string p0), .sl none 2 (List.map c_File p1)] h (fun r h' => r = .tup [.agg (c_Manifest o.1), .sl none 1 (List.map c_s_u8 o.2.1), .sc (.int .i64 o.2.2)] ∧ h' = h) := by
 refine ACv 106 [.cell 4 58, .tmp 5, .tmp 6] Tryz.func86 rfl rfl rfl rfl ?_
 unfold M86 at hm
 refine v ?_
 refine ve fun hk => a_alloc ([.sc (.string ByteArray.empty), .sc (.slice none 0 0)]) hk zr58 rfl rfl fun k2 hk3 => qk hk3 rfl ?_
 refine v ?_
 refine vk W140 bd140 hm rfl rfl fun _ hm => ?_
 refine v ?_
 refine vi hm (fun hc9 hm => ?_) fun hc9 hm => ?_
 refine v (vn (fun _ => o_bld ([.sc (.string ByteArray.empty), .sc (.slice none 0 0)]) bt58 rfl) ?_)
 refine ve fun hk => a_store 0 ([.sc (.string ByteArray.empty), .sc (.slice none 0 0)]) hk rfl rfl rfl rfl sz58 rfl rfl fun hk0 => qk hk0 rfl ?_
 refine v ?_
 cases hm
 exact vr fun hk => Ret.of3 (.inl rfl) (rsC (.agg ([.sc (.string ByteArray.empty), .sc (.slice none 0 0)])) ld58 rfl (Zd 0 hk rfl) rfl) (rsT _ _ (.sc (.slice _ _ _)) rfl) (rsT _ _ (.sc (.int _ _)) rfl) (hp_sub (List.nil_sublist _) hk).1 (ALe.agg (.cons (ALe.refl _ _) (.cons (nil_lem _) .nil))) (nil_lem _) (ALe.refl _ _) ⟨rfl, rfl⟩
 refine v (v ?_)
 refine vk W142 bd142 hm rfl rfl fun _ hm => ?_
 refine v (v ?_)
 refine vi hm (fun hc0 hm => ?_) fun hc0 hm => ?_
 refine v (vn (fun _ => o_bld ([.sc (.string ByteArray.empty), .sc (.slice none 0 0)]) bt58 rfl) ?_)
 refine ve fun hk => a_store 0 ([.sc (.string ByteArray.empty), .sc (.slice none 0 0)]) hk rfl rfl rfl rfl sz58 rfl rfl fun hk1 => qk hk1 rfl ?_
 refine v ?_
 cases hm
 exact vr fun hk => Ret.of3 (.inl rfl) (rsC (.agg ([.sc (.string ByteArray.empty), .sc (.slice none 0 0)])) ld58 rfl (Zd 0 hk rfl) rfl) (rsT _ _ (.sc (.slice _ _ _)) rfl) (rsT _ _ (.sc (.int _ _)) rfl) (hp_sub (List.nil_sublist _) hk).1 (ALe.agg (.cons (ALe.refl _ _) (.cons (nil_lem _) .nil))) (nil_lem _) (ALe.refl _ _) ⟨rfl, rfl⟩
 refine v (v (vn (fun _ => o_bld ([.sc (.string p0), .sc (.slice none 0 0)]) bt58 rfl) ?_))
 refine ve fun hk => a_alloc ([.sc (.string ByteArray.empty), .sc (.slice none 0 0)]) hk zr58 rfl rfl fun k21 hk2 => qk hk2 rfl ?_
 refine ve fun hk => a_store 0 ([.sc (.string p0), .sc (.slice none 0 0)]) hk rfl rfl rfl rfl sz58 rfl rfl fun hk4 => qk hk4 rfl ?_
 refine v (v (v (vle (lno (.tok 41 1 (([] : List (List Int)).length * 1)) 10 (ow none 1 (List.map c_s_u8 [])) (ow_nil _ _)) (vle (leo (.tok 70 3 (([] : List TPart).length * 3)) 2 ([.sc (.string p0), ow none 3 (List.map c_Part [])]) rfl (.cons (ALe.refl _ _) (.cons (ow_nil (c := c_Part) _ 3) .nil))) ?_))))
 refine vlp hm (σ := (List TPart) × (List (List Int)) × (List Id32) × Int) (τ := Option Key × Option Key) (fun g s => [(g.1, .tok 70 3 ((s.1 : List TPart).length * 3)), (g.2, .tok 41 1 ((s.2.1 : List (List Int)).length * 1)), (some k21, .obj 58 ([.sc (.string p0), ow g.1 3 (List.map c_Part s.1)])), (some k2, .obj 58 ([.sc (.string ByteArray.empty), .sc (.slice none 0 0)]))]) (fun g s => (g.1 = none → s.1 = []) ∧ (g.2 = none → s.2.1 = [])) (fun g s => .c 1 (.sl none 2 (List.map c_File p1)) (.c 4 (.ptr k2 0) (.c 8 (.ptr k21 0) (.c 9 (.sl none 32 (List.map c_id s.2.2.1)) (.c 10 (ow g.2 1 (List.map c_s_u8 s.2.1)) (.c 11 (.sc (.int .i64 s.2.2.2)) .nil)))))) (none, none) (⟨(fun _ => rfl), (fun _ => rfl)⟩) (lx (.k3 (.cons (nil_lem _) (.k2 .nil)))) ?_ ?_
 rintro ⟨tg0, tg1⟩ ⟨q0, q1, q2, q3⟩ x ⟨ot0, ot1⟩ hm
 replace hm : M86_L0 fuel p1 q0 q1 q2 q3 = some x := hm
 unfold M86_L0 at hm
 refine v (vln ln64 rfl (v ?_))
 refine vi hm (fun hc1 hm => ?_) fun hc1 hm => ?_
 refine v (v (v ?_))
 refine vz [] mixed (fun hk => trivial) fun hk => ?_
 refine z_w 0 rfl (fun S' h' hi hB => o_mv (.sl _ _ _) rfl) ?_
 refine z_w 1 rfl (fun S' h' hi hB => o_mv (.sc (.int _ _)) rfl) ?_
 obtain ⟨x0, hx0, hm⟩ := Zc hm
 refine z_w 2 rfl (fun S' h' hi hB => o_ix hx0 el64 rfl rfl) ?_
 refine z_w 3 rfl (fun S' h' hi hB => o_fl fd95_0 rfl rfl) ?_
 refine z_w 4 rfl (fun S' h' hi hB => o_ld (.sc (.string x0.Path)) ld9 rfl rfl) ?_
 refine z_w 5 rfl (fun S' h' hi hB => o_mv (.sl _ _ _) rfl) ?_
 refine z_w 6 rfl (fun S' h' hi hB => o_mv (.sc (.int _ _)) rfl) ?_
 obtain ⟨x1, hx1, hm⟩ := Zc hm
 refine z_w 7 rfl (fun S' h' hi hB => o_ix hx1 el64 rfl rfl) ?_
 refine z_w 8 rfl (fun S' h' hi hB => o_fl fd95_1 rfl rfl) ?_
 refine z_w 9 rfl (fun S' h' hi hB => o_ld (.sl none 1 (List.map c_u8 x1.Data)) ld41 rfl rfl) ?_
 refine z_w 10 rfl (fun S' h' hi hB => o_lenm ln41 rfl) ?_
 refine z_w 11 rfl (fun S' h' hi hB => o_bld ([.sc (.string x0.Path), .sc (.int .i64 (x1.Data.length : Int)), .sc (.slice none 0 0)]) bt70 rfl) ?_
 refine z_e 12 rfl (by kernel_rfl) (a_alloc ([.sc (.string ByteArray.empty), .sc (.int .i64 0), .sc (.slice none 0 0)]) hk zr70 rfl rfl fun k2233 hk5 => ⟨trivial, ?_⟩)
 refine z_e 13 rfl (by kernel_rfl) (a_store 0 ([.sc (.string x0.Path), .sc (.int .i64 (x1.Data.length : Int)), .sc (.slice none 0 0)]) hk5 rfl rfl rfl rfl sz70 rfl rfl fun hk6 => ⟨trivial, ?_⟩)
 refine z_nil (by kernel_rfl) (qk (f := .c 12 _ (.c 49 _ (.c 48 _ (.c 47 _ (.c 46 _ (.c 45 _ (.c 44 _ (.c 43 _ (.c 42 _ (.c 41 _ (.c 40 _ (.c 39 _ (.c 38 _ _))))))))))))) hk6 rfl ?_)
 refine v ?_
 refine vx hm el64 rfl rfl fun _ _ hm => ?_
 refine vk W143 bd143 hm rfl rfl fun y0 hm => ?_
 refine v (vle (leo (.tok 36 32 (([] : List Id32).length * 32)) 1 ([.sc (.string x0.Path), .sc (.int .i64 (x1.Data.length : Int)), ow none 32 (List.map c_id [])]) rfl (.k2 (.cons (ow_nil (c := c_id) _ 32) .nil))) ?_)
 refine vlp hm (σ := (List Id32) × (List (List Int)) × (List Id32) × Int) (τ := Option Key × Option Key) (fun g s => [(g.1, .tok 36 32 ((s.1 : List Id32).length * 32)), (some k2233, .obj 70 ([.sc (.string x0.Path), .sc (.int .i64 (x1.Data.length : Int)), ow g.1 32 (List.map c_id s.1)])), (tg0, .tok 70 3 ((q0 : List TPart).length * 3)), (g.2, .tok 41 1 ((s.2.1 : List (List Int)).length * 1)), (some k21, .obj 58 ([.sc (.string p0), ow tg0 3 (List.map c_Part q0)])), (some k2, .obj 58 ([.sc (.string ByteArray.empty), .sc (.slice none 0 0)]))]) (fun g s => (g.1 = none → s.1 = []) ∧ (g.2 = none → s.2.1 = [])) (fun g s => .c 1 (.sl none 2 (List.map c_File p1)) (.c 4 (.ptr k2 0) (.c 8 (.ptr k21 0) (.c 9 (.sl none 32 (List.map c_id s.2.2.1)) (.c 10 (ow g.2 1 (List.map c_s_u8 s.2.1)) (.c 11 (.sc (.int .i64 q3)) (.c 12 (.ptr k2233 0) (.c 13 (.sl none 1 (List.map c_s_u8 y0)) (.c 14 (.sc (.int .i64 s.2.2.2)) .nil))))))))) (none, tg1) (⟨(fun _ => rfl), ot1⟩) (lx (.k9 .nil)) ?_ ?_
 rintro ⟨tg2, tg3⟩ ⟨q4, q5, q6, q7⟩ x ⟨ot2, ot3⟩ hm
 replace hm : M86_L2 fuel y0 q4 q5 q6 q7 = some x := hm
 unfold M86_L2 at hm
 refine v (vln ln129 rfl (v ?_))
 refine vi hm (fun hc2 hm => ?_) fun hc2 hm => ?_
 refine v (v (v ?_))
 refine vx hm el129 rfl rfl fun _ _ hm => ?_
 refine vk W87 bd87 hm rfl rfl fun y1 hm => ?_
 refine ve fun hk => a_alloc (c_id idZ) hk zr36 rfl rfl fun k2604 hk7 => qk hk7 rfl ?_
 refine ve fun hk => a_store 0 (c_id y1) hk rfl rfl rfl rfl sz36 rfl rfl fun hk8 => qk hk8 rfl ?_
 refine v (vl 2 (ow tg2 32 (List.map c_id q4)) ld68 rfl rfl rfl (vl 0 (.agg (c_id y1)) ld36 rfl rfl rfl (vn (fun _ => o_lit (List.map c_id ([y1] : List Id32)) et68 rfl rfl rfl rfl) ?_)))
 obtain ⟨z0, hz0, hm⟩ := Zc hm
 refine ve fun hk => a_app (c := c_id) 1 hz0 et68 rfl rfl rfl ot2 hk rfl fun tg4 ot4 hk9 => qk hk9 rfl ?_
 refine ve fun hk => a_store 2 ([.sc (.string x0.Path), .sc (.int .i64 (x1.Data.length : Int)), ow tg4 32 (List.map c_id z0)]) hk rfl rfl (cellsOf_ow rfl) (all_ow _ _ _) sz68 rfl rfl fun hk10 => qk hk10 rfl ?_
 refine v (vl 0 (.agg (c_id y1)) ld36 rfl rfl rfl ?_)
 refine vk W106 bd106 hm rfl rfl fun y2 hm => ?_
 refine v ?_
 refine vjn hm (σ := (List (List Int))) (τ := Option Key) (fun g s => [(some k2604, .obj 36 (c_id y1)), (tg4, .tok 36 32 ((z0 : List Id32).length * 32)), (some k2233, .obj 70 ([.sc (.string x0.Path), .sc (.int .i64 (x1.Data.length : Int)), ow tg4 32 (List.map c_id z0)])), (tg0, .tok 70 3 ((q0 : List TPart).length * 3)), (g, .tok 41 1 ((s : List (List Int)).length * 1)), (some k21, .obj 58 ([.sc (.string p0), ow tg0 3 (List.map c_Part q0)])), (some k2, .obj 58 ([.sc (.string ByteArray.empty), .sc (.slice none 0 0)]))]) (fun g s => (g = none → s = [])) (fun g s => .c 1 (.sl none 2 (List.map c_File p1)) (.c 4 (.ptr k2 0) (.c 8 (.ptr k21 0) (.c 10 (ow g 1 (List.map c_s_u8 s)) (.c 11 (.sc (.int .i64 q3)) (.c 12 (.ptr k2233 0) (.c 13 (.sl none 1 (List.map c_s_u8 y0)) (.c 14 (.sc (.int .i64 q7)) (.c 16 (.sl none 32 (List.map c_id y2.1)) .nil))))))))) (fun x hm => ?_) ?_
 refine v ?_
 refine vi hm (fun hc3 hm => ?_) fun hc3 hm => ?_
 refine v (v ?_)
 refine vz [] mixed (fun hk => trivial) fun hk => ?_
 refine z_w 0 rfl (fun S' h' hi hB => o_mv (.sc (.slice _ _ _)) rfl) ?_
 refine z_w 1 rfl (fun S' h' hi hB => o_mv (ow _ _ _) rfl) ?_
 refine z_w 2 rfl (fun S' h' hi hB => o_mv (.sc (.int _ _)) rfl) ?_
 obtain ⟨_, hx2, hm⟩ := Zc hm
 refine z_w 3 rfl (fun S' h' hi hB => o_slco hx2 el129 rfl ot3 rfl rfl rfl) ?_
 refine z_w 5 rfl (fun S' h' hi hB => o_mv (.sl _ _ _) rfl) ?_
 refine z_w 6 rfl (fun S' h' hi hB => o_mv (.sc (.int _ _)) rfl) ?_
 obtain ⟨x2, hx3, hm⟩ := Zc hm
 refine z_w 7 rfl (fun S' h' hi hB => o_ix hx3 el129 rfl rfl) ?_
 refine z_w 8 rfl (fun S' h' hi hB => o_ld (.sl none 1 (List.map c_u8 x2)) ld41 rfl rfl) ?_
 refine z_w 9 rfl (fun S' h' hi hB => o_lit (List.map c_s_u8 ([x2] : List (List Int))) et129 rfl rfl rfl rfl) ?_
 obtain ⟨z1, hz1, hm⟩ := Zc hm
 refine z_e 4 rfl (by kernel_rfl) (a_app0 (c := c_s_u8) hz1 et129 rfl rfl hk nofun (srcOf_own (slc_nil hx2 ot3)) fun tg5 ot5 hk12 => ⟨trivial, ?_⟩)
 obtain ⟨z2, hz2, hm⟩ := Zc hm
 refine z_e 10 rfl (by kernel_rfl) (a_app (c := c_s_u8) 0 hz2 et129 rfl rfl rfl ot5 hk12 rfl fun tg6 ot6 hk13 => ⟨trivial, ?_⟩)
 refine z_w 11 rfl (fun S' h' hi hB => o_as (ow _ _ _) rfl) ?_
 refine z_nil (by kernel_rfl) (qk (f := .c 19 _ (.c 91 _ (.c 85 _ (.c 90 _ (.c 89 _ (.c 88 _ (.c 87 _ (.c 86 _ (.c 84 _ (.c 83 _ (.c 82 _ (.c 81 _ _)))))))))))) hk13 rfl ?_)
 refine v ?_
 obtain ⟨_, hx4, hm⟩ := Zc hm
 refine vn (fun _ => o_slco hx4 el129 rfl ot3 rfl rfl rfl) ?_
 obtain ⟨z3, hz3, hm⟩ := Zc hm
 refine ve fun hk => a_app (c := c_s_u8) 0 hz3 et129 rfl rfl rfl ot6 hk (srcOf_own (slc_nil hx4 ot3)) fun tg7 ot7 hk14 => qk hk14 rfl ?_
 exact vgo hm tg7 ot7 (lxs [1, 2, 3, 4, 0, 6, 7] rfl rfl (.k9 .nil))
 refine v ?_
 exact vgo hm tg3 ot3 (lx (.k9 .nil))
 rintro tg8 j0 ot8 hm
 refine v (v ?_)
 exact vgo hm (tg4, tg8) ⟨ot4, ot8⟩ (lxs [1, 2, 3, 4, 5, 6] rfl rfl (.k9 .nil))
 refine v ?_
 exact vbk hm (tg2, tg3) ⟨ot2, ot3⟩ (lx (.k9 .nil))
 rintro ⟨tg9, tg10⟩ ⟨r0, r1, r2, r3⟩ ⟨ot9, ot10⟩ hm
 refine v (vl 4 (ow tg0 3 (List.map c_Part q0)) ld56 rfl rfl rfl (vl 1 (.agg ([.sc (.string x0.Path), .sc (.int .i64 (x1.Data.length : Int)), ow tg9 32 (List.map c_id r0)])) ld70 rfl rfl rfl ?_))
 refine ve fun hk => AOp_sfz (t := 100) (.agg (c_Part ({ Path := x0.Path, Size := (x1.Data.length : Int), Ids := r0 } : TPart))) (hp_sub (.cons _ (.refl _)) hk).1 (ALe.agg (.k2 (.cons (own_frzE _ 0 ot9 hk rfl (.refl _)) .nil))) (a_v (o_lit (List.map c_Part ([({ Path := x0.Path, Size := (x1.Data.length : Int), Ids := r0 } : TPart)] : List TPart)) et56 rfl rfl rfl rfl) (qk ((hp_sub (.cons _ (.refl _)) hk).2) rfl ?_))
 obtain ⟨z4, hz4, hm⟩ := Zc hm
 refine ve fun hk => a_app (c := c_Part) 1 hz4 et56 rfl rfl rfl ot0 hk rfl fun tg11 ot11 hk15 => qk hk15 rfl ?_
 refine ve fun hk => a_store 3 ([.sc (.string p0), ow tg11 3 (List.map c_Part z4)]) hk rfl rfl (cellsOf_ow rfl) (all_ow _ _ _) sz56 rfl rfl fun hk16 => qk hk16 rfl ?_
 refine v ?_
 exact vgo hm (tg11, tg10) ⟨ot11, ot10⟩ (lxs [1, 2, 3, 4] rfl rfl (.k6 .nil))
 refine v ?_
 exact vbk hm (tg0, tg1) ⟨ot0, ot1⟩ (lx (.k6 .nil))
 rintro ⟨tg12, tg13⟩ ⟨r4, r5, r6, r7⟩ ⟨ot12, ot13⟩ hm
 refine v (vl 2 (.agg ([.sc (.string p0), ow tg12 3 (List.map c_Part r4)])) ld58 rfl rfl rfl ?_)
 refine ve fun hk => a_store 3 ([.sc (.string p0), ow tg12 3 (List.map c_Part r4)]) hk rfl rfl rfl (by repeat (first | exact rfl | refine all_c (ocell_ow _ _ _) ?_ | refine all_c (ocell_aw _ _ _) ?_ | refine all_c rfl ?_)) sz58 rfl rfl fun hk17 => qk hk17 rfl ?_
 refine v ?_
 cases hm
 exact vr fun hk => Ret.of3 (.inl rfl) (rsC (.agg ([.sc (.string p0), ow tg12 3 (List.map c_Part r4)])) ld58 rfl (Zd 3 hk rfl) rfl) (rsT _ _ (ow _ _ _) rfl) (rsT _ _ (.sc (.int _ _)) rfl) (hp_sub (List.nil_sublist _) hk).1 (ALe.agg (.cons (ALe.refl _ _) (.cons ((own_frz0 _ 0 ot12 hk rfl)) .nil))) ((own_frz0 _ 1 ot13 hk rfl)) (ALe.refl _ _) ⟨rfl, rfl⟩
theorem bd86 : bodied Tryz.prog 86 = true := by kernel_rfl
def M35_L1 (fuel : Nat) (p0 : TCatalog) (y0 : TManifest × (List (List Int)) × Int) (q0 : List TChunk) (q1 : Int) : Option (Lp ((List TChunk) × Int) (TChange × Bool)) :=
 if (decide (q1 < (y0.2.1.length : Int))) = true then ((ix y0.2.1 q1).bind fun x0 => (M87 fuel x0).bind fun y1 => (M88 fuel p0 y1).bind fun y2 => after (if (decide (y2 < 0)) = true then ((ix y0.2.1 q1).bind fun x1 => (app q0 ([({ Id := y1, Staged := true, Data := x1, Locs := [] } : TChunk)] : List TChunk)).bind fun z0 => some (.brk z0)) else some (.brk q0) : Option (Lp ((List TChunk)) (Lp ((List TChunk) × Int) (TChange × Bool)))) fun j0 => some (.go (j0, IntKind.wrap .i64 (q1 + 1)))) else some (.brk (q0, q1))
def M35_L3 (fuel : Nat) (p0 : TCatalog) (p1 : TAct) (q0 : List TItem) (q1 : Int) (q2 : Int) : Option (Lp ((List TItem) × Int × Int) (TChange × Bool)) :=
 after (if (decide (q2 < (IntKind.wrap .i64 ((IntKind.wrap .i64 ((p0.Chunks.length : Int) + (p0.Snaps.length : Int))) + (p0.Exps.length : Int))))) = true then (some (.brk (decide ((q0.length : Int) < 64)))) else some (.brk false) : Option (Lp (Bool) (Lp ((List TItem) × Int × Int) (TChange × Bool)))) fun j0 => if j0 = true then (after (after (if (decide (q2 < (p1.Pick.length : Int))) = true then ((ix p1.Pick q2).bind fun x0 => some (.brk (!x0))) else some (.brk false) : Option (Lp (Bool) (Lp ((List TItem) × Int) (Lp ((List TItem) × Int × Int) (TChange × Bool))))) fun j1 => if j1 = true then (some (.brk (q0, q1))) else after (if (decide (q2 < (p0.Chunks.length : Int))) = true then ((ix p0.Chunks q2).bind fun x1 => some (.brk { { ({ Kind := 0, Id := idZ, Seq := 0, Of := 0, Off := q1, Len := 20 } : TItem) with Kind := 1 } with Id := x1.Id })) else after (if (decide (q2 < (IntKind.wrap .i64 ((p0.Chunks.length : Int) + (p0.Snaps.length : Int))))) = true then ((ix p0.Snaps (IntKind.wrap .i64 (q2 - (p0.Chunks.length : Int)))).bind fun x2 => some (.brk { { ({ Kind := 0, Id := idZ, Seq := 0, Of := 0, Off := q1, Len := 20 } : TItem) with Kind := 2 } with Seq := x2.Seq })) else (ix p0.Exps (IntKind.wrap .i64 ((IntKind.wrap .i64 (q2 - (p0.Chunks.length : Int))) - (p0.Snaps.length : Int)))).bind fun x3 => some (.brk { { { ({ Kind := 0, Id := idZ, Seq := 0, Of := 0, Off := q1, Len := 20 } : TItem) with Kind := 3 } with Seq := x3.Seq } with Of := x3.Of }) : Option (Lp (TItem) (Lp (TItem) (Lp ((List TItem) × Int) (Lp ((List TItem) × Int × Int) (TChange × Bool)))))) fun j2 => some (.brk j2) : Option (Lp (TItem) (Lp ((List TItem) × Int) (Lp ((List TItem) × Int × Int) (TChange × Bool))))) fun j3 => (app q0 ([j3] : List TItem)).bind fun z0 => some (.brk (z0, IntKind.wrap .i64 (q1 + 20))) : Option (Lp ((List TItem) × Int) (Lp ((List TItem) × Int × Int) (TChange × Bool)))) fun ⟨j4, j5⟩ => some (.go (j4, j5, IntKind.wrap .i64 (q2 + 1)))) else some (.brk (q0, q1, q2))
def M35 (fuel : Nat) (p0 : TCatalog) (p1 : TAct) : Option (TChange × Bool) :=
 (bstr ([IntKind.wrap .u8 (IntKind.wrap .u64 (97 + ((IntKind.wrap .u64 p1.N).tmod 5)))] : List Int)).bind fun st0 => grd (decide ((ByteArray.mk #[110]).size + st0.size ≤ 9223372036854775807)) <| after (if (decide (0 < (p0.Vols.length : Int))) = true then (grd ((IntKind.wrap .u64 (p0.Vols.length : Int)) != 0) <| some (.brk (IntKind.wrap .i64 ((IntKind.wrap .u64 p1.Vol).tmod (IntKind.wrap .u64 (p0.Vols.length : Int)))))) else some (.brk 0) : Option (Lp (Int) (TChange × Bool))) fun j0 => after (if (((IntKind.wrap .u64 p1.Do).tmod 8) == 0) = true then (some (.brk (((IntKind.wrap .u64 p1.Do).tmod 8) == 0))) else some (.brk (((IntKind.wrap .u64 p1.Do).tmod 8) == 1)) : Option (Lp (Bool) (TChange × Bool))) fun j1 => if j1 = true then ((M85 fuel p1.Tree).bind fun y0 => if (y0.2 != 0) = true then (some (({ Kind := 0, Snap := ({ Seq := 0, Man := ({ Name := ByteArray.empty, Parts := [] } : TManifest), Locs := [] } : TSnap), Chunks := [], Seq := 0, Vol := 0, Items := [] } : TChange), false)) else (M86 fuel ((ByteArray.mk #[110]) ++ st0) y0.1).bind fun y1 => after (loopM (fun s => M35_L1 fuel p0 y1 s.1 s.2) fuel ([], 0)) fun ⟨r0, r1⟩ => some (({ Kind := 1, Snap := ({ Seq := p0.Seq, Man := y1.1, Locs := [] } : TSnap), Chunks := r0, Seq := 0, Vol := 0, Items := [] } : TChange), true)) else after (if (((IntKind.wrap .u64 p1.Do).tmod 8) == 2) = true then (some (.brk (((IntKind.wrap .u64 p1.Do).tmod 8) == 2))) else some (.brk (((IntKind.wrap .u64 p1.Do).tmod 8) == 5)) : Option (Lp (Bool) (TChange × Bool))) fun j2 => if j2 = true then (if ((p0.Snaps.length : Int) == 0) = true then (some (({ Kind := 0, Snap := ({ Seq := 0, Man := ({ Name := ByteArray.empty, Parts := [] } : TManifest), Locs := [] } : TSnap), Chunks := [], Seq := 0, Vol := 0, Items := [] } : TChange), false)) else grd ((IntKind.wrap .u64 (p0.Snaps.length : Int)) != 0) <| (ix p0.Snaps (IntKind.wrap .i64 ((IntKind.wrap .u64 p1.N).tmod (IntKind.wrap .u64 (p0.Snaps.length : Int))))).bind fun x0 => if (((IntKind.wrap .u64 p1.Do).tmod 8) == 2) = true then (some (({ Kind := 2, Snap := ({ Seq := 0, Man := ({ Name := ByteArray.empty, Parts := [] } : TManifest), Locs := [] } : TSnap), Chunks := [], Seq := x0.Seq, Vol := 0, Items := [] } : TChange), true)) else some (({ Kind := 3, Snap := ({ Seq := 0, Man := ({ Name := ByteArray.empty, Parts := [] } : TManifest), Locs := [] } : TSnap), Chunks := [], Seq := 0, Vol := j0, Items := ([({ Kind := 3, Id := idZ, Seq := p0.Seq, Of := x0.Seq, Off := 13, Len := 17 } : TItem)] : List TItem) } : TChange), true)) else after (if (((IntKind.wrap .u64 p1.Do).tmod 8) == 3) = true then (some (.brk (((IntKind.wrap .u64 p1.Do).tmod 8) == 3))) else some (.brk (((IntKind.wrap .u64 p1.Do).tmod 8) == 4)) : Option (Lp (Bool) (TChange × Bool))) fun j3 => if j3 = true then (after (loopM (fun s => M35_L3 fuel p0 p1 s.1 s.2.1 s.2.2) fuel ([], 13, 0)) fun ⟨r2, r3, r4⟩ => some (({ Kind := 3, Snap := ({ Seq := 0, Man := ({ Name := ByteArray.empty, Parts := [] } : TManifest), Locs := [] } : TSnap), Chunks := [], Seq := 0, Vol := j0, Items := r2 } : TChange), decide (0 < (r2.length : Int)))) else if (((IntKind.wrap .u64 p1.Do).tmod 8) == 6) = true then (some (({ Kind := 4, Snap := ({ Seq := 0, Man := ({ Name := ByteArray.empty, Parts := [] } : TManifest), Locs := [] } : TSnap), Chunks := [], Seq := 0, Vol := j0, Items := [] } : TChange), true)) else some (({ Kind := 5, Snap := ({ Seq := 0, Man := ({ Name := ByteArray.empty, Parts := [] } : TManifest), Locs := [] } : TSnap), Chunks := [], Seq := 0, Vol := j0, Items := [] } : TChange), true)
set_option maxHeartbeats 4000000 in
set_option maxRecDepth 100000 in
theorem W35 {fuel : Nat} {p0 : TCatalog} {p1 : TAct} {o : TChange × Bool} (h : Heap) (hm : M35 fuel p0 p1 = some o) :
 ACalls Tryz.prog 35 [.agg (c_Catalog p0), .agg (c_Act p1)] h (fun r h' => r = .tup [.agg (c_Change o.1), .sc (.bool o.2)] ∧ h' = h) := by
 refine ACv 248 [.cell 4 62, .tmp 5] Tryz.func35 rfl rfl rfl rfl ?_
 unfold M35 at hm
 refine v ?_
 refine ve fun hk => a_box hk rfl rfl fun k2 hk3 => qk hk3 rfl ?_
 refine ve fun hk => a_box hk rfl rfl fun k5 hk6 => qk hk6 rfl ?_
 refine ve fun hk => a_alloc ([.sc (.int .i64 0), .sc (.int .i64 0), .sc (.string ByteArray.empty), .sc (.slice none 0 0), .sc (.slice none 0 0), .sc (.slice none 0 0), .sc (.int .i64 0), .sc (.int .i64 0), .sc (.slice none 0 0)]) hk zr62 rfl rfl fun k8 hk9 => qk hk9 rfl ?_
 refine v (vl 1 _ ld3 rfl rfl rfl (vn (fun _ => o_lit (List.map c_u8 ([IntKind.wrap .u8 (IntKind.wrap .u64 (97 + ((IntKind.wrap .u64 p1.N).tmod 5)))] : List Int)) et41 rfl rfl rfl rfl) ?_))
 obtain ⟨st0, hs0, hm⟩ := Zc hm
 refine vn (fun _ => o_bstr (c := c_u8) hs0 (fun _ => rfl) u41 u5 u9 rfl) ?_
 obtain ⟨hz0, hm⟩ := grd_of hm
 refine vn (fun _ => o_bs rfl rfl rfl (of_decide_eq_true hz0)) (v (v (vl 2 _ ld28 rfl rfl rfl (vln ln28 rfl ?_))))
 refine vjnH hm (σ := Int) (τ := Unit) (fun g s => [(some k8, .obj 62 ([.sc (.int .i64 0), .sc (.int .i64 0), .sc (.string ByteArray.empty), .sc (.slice none 0 0), .sc (.slice none 0 0), .sc (.slice none 0 0), .sc (.int .i64 0), .sc (.int .i64 0), .sc (.slice none 0 0)])), (some k5, .obj 67 (c_Act p1)), (some k2, .obj 30 (c_Catalog p0))]) (fun g s => .c 2 (.ptr k2 0) (.c 3 (.ptr k5 0) (.c 4 (.ptr k8 0) (.c 6 (.sc (.string ((ByteArray.mk #[110]) ++ st0))) (.c 7 (.sc (.int .i64 s)) .nil))))) (fun x hm => ?_) ?_
 refine v ?_
 refine vi hm (fun hc0 hm => ?_) fun hc0 hm => ?_
 refine v (vl 1 _ ld3 rfl rfl rfl (vl 2 _ ld28 rfl rfl rfl (vln ln28 rfl ?_)))
 refine vgr hm fun _ hm => ?_
 exact vgo hm () trivial (lx (.k5 .nil))
 refine v ?_
 exact vgo hm () trivial (lx (.k5 .nil))
 rintro _ j0 hm
 refine v (vl 1 _ ld3 rfl rfl rfl (v (v ?_)))
 refine vjnH hm (σ := Bool) (τ := Unit) (fun g s => [(some k8, .obj 62 ([.sc (.int .i64 0), .sc (.int .i64 0), .sc (.string ByteArray.empty), .sc (.slice none 0 0), .sc (.slice none 0 0), .sc (.slice none 0 0), .sc (.int .i64 0), .sc (.int .i64 0), .sc (.slice none 0 0)])), (some k5, .obj 67 (c_Act p1)), (some k2, .obj 30 (c_Catalog p0))]) (fun g s => .c 2 (.ptr k2 0) (.c 3 (.ptr k5 0) (.c 4 (.ptr k8 0) (.c 6 (.sc (.string ((ByteArray.mk #[110]) ++ st0))) (.c 7 (.sc (.int .i64 j0)) (.c 47 (.sc (.int .u64 ((IntKind.wrap .u64 p1.Do).tmod 8))) (.c 48 (.sc (.bool s)) .nil))))))) (fun x hm => ?_) ?_
 refine v ?_
 refine vi hm (fun hc1 hm => ?_) fun hc1 hm => ?_
 refine v ?_
 exact vgo hm () trivial (lx (.k7 .nil))
 refine v ?_
 exact vgo hm () trivial (lx (.k7 .nil))
 rintro _ j1 hm
 refine v ?_
 refine vi hm (fun hc2 hm => ?_) fun hc2 hm => ?_
 refine v (vl 1 _ ld64 rfl rfl rfl ?_)
 refine vk W85 bd85 hm rfl rfl fun _ hm => ?_
 refine v (v ?_)
 refine vi hm (fun hc3 hm => ?_) fun hc3 hm => ?_
 refine v (vn (fun _ => o_bld ([.sc (.int .i64 0), .sc (.int .i64 0), .sc (.string ByteArray.empty), .sc (.slice none 0 0), .sc (.slice none 0 0), .sc (.slice none 0 0), .sc (.int .i64 0), .sc (.int .i64 0), .sc (.slice none 0 0)]) bt62 rfl) ?_)
 refine ve fun hk => a_store 0 ([.sc (.int .i64 0), .sc (.int .i64 0), .sc (.string ByteArray.empty), .sc (.slice none 0 0), .sc (.slice none 0 0), .sc (.slice none 0 0), .sc (.int .i64 0), .sc (.int .i64 0), .sc (.slice none 0 0)]) hk rfl rfl rfl rfl sz62 rfl rfl fun hk0 => qk hk0 rfl ?_
 refine v ?_
 cases hm
 exact vr fun hk => Ret.of2 (.inl rfl) (rsC (.agg ([.sc (.int .i64 0), .sc (.int .i64 0), .sc (.string ByteArray.empty), .sc (.slice none 0 0), .sc (.slice none 0 0), .sc (.slice none 0 0), .sc (.int .i64 0), .sc (.int .i64 0), .sc (.slice none 0 0)])) ld62 rfl (Zd 0 hk rfl) rfl) (rsT _ _ (.sc (.bool _)) rfl) (hp_sub (List.nil_sublist _) hk).1 (ALe.agg (.k3 (.cons (nil_lem _) (.cons (nil_lem _) (.cons (nil_lem _) (.k2 (.cons (nil_lem _) .nil))))))) (ALe.refl _ _) ⟨rfl, rfl⟩
 refine v (v ?_)
 refine vk W86 bd86 hm rfl rfl fun y0 hm => ?_
 refine ve fun hk => a_alloc ([.sc (.string ByteArray.empty), .sc (.slice none 0 0)]) hk zr58 rfl rfl fun k44 hk1 => qk hk1 rfl ?_
 refine ve fun hk => a_store 0 (c_Manifest y0.1) hk rfl rfl rfl rfl sz58 rfl rfl fun hk2 => qk hk2 rfl ?_
 refine v (vl 3 _ ld3 rfl rfl rfl (vl 0 (.agg (c_Manifest y0.1)) ld58 rfl rfl rfl (vn (fun _ => o_bld (([.sc (.int .i64 p0.Seq)] : List AV) ++ c_Manifest y0.1 ++ ([.sc (.slice none 0 0)] : List AV)) bt60 rfl) (vn (fun _ => o_bld (([.sc (.int .i64 1), .sc (.int .i64 p0.Seq)] : List AV) ++ c_Manifest y0.1 ++ ([.sc (.slice none 0 0), .sc (.slice none 0 0), .sc (.int .i64 0), .sc (.int .i64 0), .sc (.slice none 0 0)] : List AV)) bt62 rfl) ?_))))
 refine ve fun hk => a_alloc ([.sc (.int .i64 0), .sc (.int .i64 0), .sc (.string ByteArray.empty), .sc (.slice none 0 0), .sc (.slice none 0 0), .sc (.slice none 0 0), .sc (.int .i64 0), .sc (.int .i64 0), .sc (.slice none 0 0)]) hk zr62 rfl rfl fun k49 hk4 => qk hk4 rfl ?_
 refine ve fun hk => a_store 0 (([.sc (.int .i64 1), .sc (.int .i64 p0.Seq)] : List AV) ++ c_Manifest y0.1 ++ ([.sc (.slice none 0 0), .sc (.slice none 0 0), .sc (.int .i64 0), .sc (.int .i64 0), .sc (.slice none 0 0)] : List AV)) hk rfl rfl rfl rfl sz62 rfl rfl fun hk5 => qk hk5 rfl ?_
 refine v (vle (leo (.tok 44 35 (([] : List TChunk).length * 35)) 1 (([.sc (.int .i64 1), .sc (.int .i64 p0.Seq)] : List AV) ++ c_Manifest y0.1 ++ ([.sc (.slice none 0 0), ow none 35 (List.map c_Chunk []), .sc (.int .i64 0), .sc (.int .i64 0), .sc (.slice none 0 0)] : List AV)) rfl (.k2 (ALeL.app 2 rfl (.cons (ALe.refl _ _) (.cons (ow_nil (c := c_Chunk) _ 35) (.k3 .nil)))))) ?_)
 refine vlp hm (σ := (List TChunk) × Int) (τ := Option Key) (fun g s => [(g, .tok 44 35 ((s.1 : List TChunk).length * 35)), (some k49, .obj 62 (([.sc (.int .i64 1), .sc (.int .i64 p0.Seq)] : List AV) ++ c_Manifest y0.1 ++ ([.sc (.slice none 0 0), ow g 35 (List.map c_Chunk s.1), .sc (.int .i64 0), .sc (.int .i64 0), .sc (.slice none 0 0)] : List AV))), (some k44, .obj 58 (c_Manifest y0.1)), (some k8, .obj 62 ([.sc (.int .i64 0), .sc (.int .i64 0), .sc (.string ByteArray.empty), .sc (.slice none 0 0), .sc (.slice none 0 0), .sc (.slice none 0 0), .sc (.int .i64 0), .sc (.int .i64 0), .sc (.slice none 0 0)])), (some k5, .obj 67 (c_Act p1)), (some k2, .obj 30 (c_Catalog p0))]) (fun g s => (g = none → s.1 = [])) (fun g s => .c 2 (.ptr k2 0) (.c 4 (.ptr k8 0) (.c 11 (.sl none 1 (List.map c_s_u8 y0.2.1)) (.c 13 (.ptr k49 0) (.c 14 (.sc (.int .i64 s.2)) .nil))))) none (fun _ => rfl) (lx (.k5 .nil)) ?_ ?_
 rintro tg0 ⟨q0, q1⟩ x ot0 hm
 replace hm : M35_L1 fuel p0 y0 q0 q1 = some x := hm
 unfold M35_L1 at hm
 refine v (vln ln129 rfl (v ?_))
 refine vi hm (fun hc4 hm => ?_) fun hc4 hm => ?_
 refine v (v (v ?_))
 refine vx hm el129 rfl rfl fun _ _ hm => ?_
 refine vk W87 bd87 hm rfl rfl fun y1 hm => ?_
 refine ve fun hk => a_alloc (c_id idZ) hk zr36 rfl rfl fun k255 hk7 => qk hk7 rfl ?_
 refine ve fun hk => a_store 0 (c_id y1) hk rfl rfl rfl rfl sz36 rfl rfl fun hk8 => qk hk8 rfl ?_
 refine v (vl 6 (.agg (c_Catalog p0)) ld30 rfl rfl rfl (vl 0 (.agg (c_id y1)) ld36 rfl rfl rfl ?_))
 refine vk W88 bd88 hm rfl rfl fun _ hm => ?_
 refine vjn hm (σ := (List TChunk)) (τ := Option Key) (fun g s => [(some k255, .obj 36 (c_id y1)), (g, .tok 44 35 ((s : List TChunk).length * 35)), (some k49, .obj 62 (([.sc (.int .i64 1), .sc (.int .i64 p0.Seq)] : List AV) ++ c_Manifest y0.1 ++ ([.sc (.slice none 0 0), ow g 35 (List.map c_Chunk s), .sc (.int .i64 0), .sc (.int .i64 0), .sc (.slice none 0 0)] : List AV))), (some k44, .obj 58 (c_Manifest y0.1)), (some k8, .obj 62 ([.sc (.int .i64 0), .sc (.int .i64 0), .sc (.string ByteArray.empty), .sc (.slice none 0 0), .sc (.slice none 0 0), .sc (.slice none 0 0), .sc (.int .i64 0), .sc (.int .i64 0), .sc (.slice none 0 0)])), (some k5, .obj 67 (c_Act p1)), (some k2, .obj 30 (c_Catalog p0))]) (fun g s => (g = none → s = [])) (fun g s => .c 2 (.ptr k2 0) (.c 4 (.ptr k8 0) (.c 11 (.sl none 1 (List.map c_s_u8 y0.2.1)) (.c 13 (.ptr k49 0) (.c 14 (.sc (.int .i64 q1)) .nil))))) (fun x hm => ?_) ?_
 refine v ?_
 refine vi hm (fun hc5 hm => ?_) fun hc5 hm => ?_
 refine v ?_
 refine vz [(11, some k49, .obj 62 (([.sc (.int .i64 1), .sc (.int .i64 p0.Seq)] : List AV) ++ c_Manifest y0.1 ++ ([.sc (.slice none 0 0), ow tg0 35 (List.map c_Chunk q0), .sc (.int .i64 0), .sc (.int .i64 0), .sc (.slice none 0 0)] : List AV))), (1000000, some k255, .obj 36 (c_id y1))] mixed (fun hk => ⟨fun _ => hp_at 2 hk rfl, fun _ => hp_at 0 hk rfl, trivial⟩) fun hk => ?_
 refine z_w 0 rfl (fun S' h' hi hB => Zh fd62_2 rfl rfl) ?_
 refine z_w 1 rfl (fun S' h' hi hB => Zg (ow tg0 35 (List.map c_Chunk q0)) ld26 rfl (At.s (InvL.get 0 hi rfl (hB 11 (by kernel_rfl)))) rfl) ?_
 refine z_w 2 rfl (fun S' h' hi hB => Zg (.agg (c_id y1)) ld36 rfl (At.s (InvL.get 1 hi rfl (hB 1000000 (by kernel_rfl)))) rfl) ?_
 refine z_w 3 rfl (fun S' h' hi hB => o_mv (.sl _ _ _) rfl) ?_
 refine z_w 4 rfl (fun S' h' hi hB => o_mv (.sc (.int _ _)) rfl) ?_
 obtain ⟨x0, hx0, hm⟩ := Zc hm
 refine z_w 5 rfl (fun S' h' hi hB => o_ix hx0 el129 rfl rfl) ?_
 refine z_w 6 rfl (fun S' h' hi hB => o_ld (.sl none 1 (List.map c_u8 x0)) ld41 rfl rfl) ?_
 refine z_w 7 rfl (fun S' h' hi hB => o_weak (y := .agg (c_Chunk ({ Id := y1, Staged := true, Data := x0, Locs := [] } : TChunk))) (o_bld (c_id y1 ++ ([.sc (.bool true), .sl none 1 (List.map c_u8 x0), .sc (.slice none 0 0)] : List AV)) bt44 rfl) (ALe.agg (ALeL.app 32 rfl (.k2 (.cons (nil_lem _) .nil))))) ?_
 refine z_w 8 rfl (fun S' h' hi hB => o_lit (List.map c_Chunk ([({ Id := y1, Staged := true, Data := x0, Locs := [] } : TChunk)] : List TChunk)) et26 rfl rfl rfl rfl) ?_
 obtain ⟨z0, hz1, hm⟩ := Zc hm
 refine z_e 9 rfl (by kernel_rfl) (a_app (c := c_Chunk) 1 hz1 et26 rfl rfl rfl ot0 hk rfl fun tg1 ot1 hk10 => ⟨⟨fun _ => hp_at 2 hk10 rfl, fun _ => hp_at 0 hk10 rfl, trivial⟩, ?_⟩)
 refine z_w 10 rfl (fun S' h' hi hB => Zh fd62_2 rfl rfl) ?_
 refine z_e 11 rfl (by kernel_rfl) (a_store 2 (([.sc (.int .i64 1), .sc (.int .i64 p0.Seq)] : List AV) ++ c_Manifest y0.1 ++ ([.sc (.slice none 0 0), ow tg1 35 (List.map c_Chunk z0), .sc (.int .i64 0), .sc (.int .i64 0), .sc (.slice none 0 0)] : List AV)) hk10 rfl rfl (cellsOf_ow rfl) (all_ow _ _ _) sz26 rfl rfl fun hk11 => ⟨⟨fun e => absurd e (by decide), fun _ => hp_at 0 hk11 rfl, trivial⟩, ?_⟩)
 refine z_nil (by kernel_rfl) (qk (f := .c 97 _ (.c 96 _ (.c 95 _ (.c 94 _ (.c 93 _ (.c 92 _ (.c 91 _ (.c 90 _ (.c 89 _ (.c 88 _ (.c 87 _ _))))))))))) hk11 rfl ?_)
 exact vgo hm tg1 ot1 (lx (.k5 .nil))
 refine v ?_
 exact vgo hm tg0 ot0 (lx (.k5 .nil))
 rintro tg2 j2 ot2 hm
 refine v ?_
 exact vgo hm tg2 ot2 (lxs [1, 2, 3, 4, 5, 6] rfl rfl (.k5 .nil))
 refine v ?_
 exact vbk hm tg0 ot0 (lx (.k5 .nil))
 rintro tg3 ⟨r0, r1⟩ ot3 hm
 refine v (vl 1 (.agg (([.sc (.int .i64 1), .sc (.int .i64 p0.Seq)] : List AV) ++ c_Manifest y0.1 ++ ([.sc (.slice none 0 0), ow tg3 35 (List.map c_Chunk r0), .sc (.int .i64 0), .sc (.int .i64 0), .sc (.slice none 0 0)] : List AV))) ld62 rfl rfl rfl ?_)
 refine ve fun hk => a_store 3 (([.sc (.int .i64 1), .sc (.int .i64 p0.Seq)] : List AV) ++ c_Manifest y0.1 ++ ([.sc (.slice none 0 0), ow tg3 35 (List.map c_Chunk r0), .sc (.int .i64 0), .sc (.int .i64 0), .sc (.slice none 0 0)] : List AV)) hk rfl rfl rfl (by repeat (first | exact rfl | refine all_c (ocell_ow _ _ _) ?_ | refine all_c (ocell_aw _ _ _) ?_ | refine all_c rfl ?_)) sz62 rfl rfl fun hk12 => qk hk12 rfl ?_
 refine v ?_
 cases hm
 exact vr fun hk => Ret.of2 (.inl rfl) (rsC (.agg (([.sc (.int .i64 1), .sc (.int .i64 p0.Seq)] : List AV) ++ c_Manifest y0.1 ++ ([.sc (.slice none 0 0), ow tg3 35 (List.map c_Chunk r0), .sc (.int .i64 0), .sc (.int .i64 0), .sc (.slice none 0 0)] : List AV))) ld62 rfl (Zd 3 hk rfl) rfl) (rsT _ _ (.sc (.bool _)) rfl) (hp_sub (List.nil_sublist _) hk).1 (ALe.agg (.k2 (ALeL.app 2 rfl (.cons (nil_lem _) (.cons ((own_frz0 _ 0 ot3 hk rfl)) (.k2 (.cons (nil_lem _) .nil))))))) (ALe.refl _ _) ⟨rfl, rfl⟩
 refine v ?_
 refine vjnH hm (σ := Bool) (τ := Unit) (fun g s => [(some k8, .obj 62 ([.sc (.int .i64 0), .sc (.int .i64 0), .sc (.string ByteArray.empty), .sc (.slice none 0 0), .sc (.slice none 0 0), .sc (.slice none 0 0), .sc (.int .i64 0), .sc (.int .i64 0), .sc (.slice none 0 0)])), (some k5, .obj 67 (c_Act p1)), (some k2, .obj 30 (c_Catalog p0))]) (fun g s => .c 2 (.ptr k2 0) (.c 3 (.ptr k5 0) (.c 4 (.ptr k8 0) (.c 7 (.sc (.int .i64 j0)) (.c 47 (.sc (.int .u64 ((IntKind.wrap .u64 p1.Do).tmod 8))) (.c 99 (.sc (.bool s)) .nil)))))) (fun x hm => ?_) ?_
 refine v ?_
 refine vi hm (fun hc6 hm => ?_) fun hc6 hm => ?_
 refine v ?_
 exact vgo hm () trivial (lx (.k6 .nil))
 refine v ?_
 exact vgo hm () trivial (lx (.k6 .nil))
 rintro _ j3 hm
 refine v ?_
 refine vi hm (fun hc7 hm => ?_) fun hc7 hm => ?_
 refine v (vl 2 _ ld25 rfl rfl rfl (vln ln25 rfl (v ?_)))
 refine vi hm (fun hc8 hm => ?_) fun hc8 hm => ?_
 refine v (vn (fun _ => o_bld ([.sc (.int .i64 0), .sc (.int .i64 0), .sc (.string ByteArray.empty), .sc (.slice none 0 0), .sc (.slice none 0 0), .sc (.slice none 0 0), .sc (.int .i64 0), .sc (.int .i64 0), .sc (.slice none 0 0)]) bt62 rfl) ?_)
 refine ve fun hk => a_store 0 ([.sc (.int .i64 0), .sc (.int .i64 0), .sc (.string ByteArray.empty), .sc (.slice none 0 0), .sc (.slice none 0 0), .sc (.slice none 0 0), .sc (.int .i64 0), .sc (.int .i64 0), .sc (.slice none 0 0)]) hk rfl rfl rfl rfl sz62 rfl rfl fun hk13 => qk hk13 rfl ?_
 refine v ?_
 cases hm
 exact vr fun hk => Ret.of2 (.inl rfl) (rsC (.agg ([.sc (.int .i64 0), .sc (.int .i64 0), .sc (.string ByteArray.empty), .sc (.slice none 0 0), .sc (.slice none 0 0), .sc (.slice none 0 0), .sc (.int .i64 0), .sc (.int .i64 0), .sc (.slice none 0 0)])) ld62 rfl (Zd 0 hk rfl) rfl) (rsT _ _ (.sc (.bool _)) rfl) (hp_sub (List.nil_sublist _) hk).1 (ALe.agg (.k3 (.cons (nil_lem _) (.cons (nil_lem _) (.cons (nil_lem _) (.k2 (.cons (nil_lem _) .nil))))))) (ALe.refl _ _) ⟨rfl, rfl⟩
 refine v (v ?_)
 refine vz [(1000000, some k2, .obj 30 (c_Catalog p0)), (1000000, some k5, .obj 67 (c_Act p1))] mixed (fun hk => ⟨fun _ => hp_at 2 hk rfl, fun _ => hp_at 1 hk rfl, trivial⟩) fun hk => ?_
 refine z_w 0 rfl (fun S' h' hi hB => Zh fd30_1 rfl rfl) ?_
 refine z_w 1 rfl (fun S' h' hi hB => Zg (.sl none 4 (List.map c_Snap p0.Snaps)) ld25 rfl (At.s (InvL.get 0 hi rfl (hB 1000000 (by kernel_rfl)))) rfl) ?_
 refine z_w 2 rfl (fun S' h' hi hB => Zh fd67_1 rfl rfl) ?_
 refine z_w 3 rfl (fun S' h' hi hB => Zg (.sc (.int .i64 p1.N)) ld3 rfl (At.s (InvL.get 1 hi rfl (hB 1000000 (by kernel_rfl)))) rfl) ?_
 refine z_w 4 rfl (fun S' h' hi hB => o_cv ti3 ti63 rfl) ?_
 refine z_w 5 rfl (fun S' h' hi hB => Zh fd30_1 rfl rfl) ?_
 refine z_w 6 rfl (fun S' h' hi hB => Zg (.sl none 4 (List.map c_Snap p0.Snaps)) ld25 rfl (At.s (InvL.get 0 hi rfl (hB 1000000 (by kernel_rfl)))) rfl) ?_
 refine z_w 7 rfl (fun S' h' hi hB => o_lenm ln25 rfl) ?_
 refine z_w 8 rfl (fun S' h' hi hB => o_cv ti3 ti63 rfl) ?_
 obtain ⟨hz2, hm⟩ := grd_of hm
 refine z_w 9 rfl (fun S' h' hi hB => o_bi rfl rfl rfl (bne_z hz2)) ?_
 refine z_w 10 rfl (fun S' h' hi hB => o_cv ti63 ti3 rfl) ?_
 obtain ⟨x1, hx1, hm⟩ := Zc hm
 refine z_w 11 rfl (fun S' h' hi hB => o_ix hx1 el25 rfl rfl) ?_
 refine z_w 12 rfl (fun S' h' hi hB => o_ld (.agg (c_Snap x1)) ld60 rfl rfl) ?_
 refine z_e 13 rfl (by kernel_rfl) (a_alloc ([.sc (.int .i64 0), .sc (.string ByteArray.empty), .sc (.slice none 0 0), .sc (.slice none 0 0)]) hk zr60 rfl rfl fun k329 hk14 => ⟨⟨fun _ => hp_at 3 hk14 rfl, fun _ => hp_at 2 hk14 rfl, trivial⟩, ?_⟩)
 refine z_e 14 rfl (by kernel_rfl) (a_store 0 (c_Snap x1) hk14 rfl rfl rfl rfl sz60 rfl rfl fun hk15 => ⟨⟨fun _ => hp_at 3 hk15 rfl, fun _ => hp_at 2 hk15 rfl, trivial⟩, ?_⟩)
 refine z_nil (by kernel_rfl) (qk (f := .c 16 _ (.c 119 _ (.c 118 _ (.c 117 _ (.c 116 _ (.c 115 _ (.c 114 _ (.c 113 _ (.c 112 _ (.c 111 _ (.c 110 _ (.c 109 _ (.c 108 _ (.c 107 _ _)))))))))))))) hk15 rfl ?_)
 refine v (vl 2 _ ld3 rfl rfl rfl (v ?_))
 refine vi hm (fun hc9 hm => ?_) fun hc9 hm => ?_
 refine v (vl 0 _ ld3 rfl rfl rfl (vn (fun _ => o_bld ([.sc (.int .i64 2), .sc (.int .i64 0), .sc (.string ByteArray.empty), .sc (.slice none 0 0), .sc (.slice none 0 0), .sc (.slice none 0 0), .sc (.int .i64 x1.Seq), .sc (.int .i64 0), .sc (.slice none 0 0)]) bt62 rfl) ?_))
 refine ve fun hk => a_store 1 ([.sc (.int .i64 2), .sc (.int .i64 0), .sc (.string ByteArray.empty), .sc (.slice none 0 0), .sc (.slice none 0 0), .sc (.slice none 0 0), .sc (.int .i64 x1.Seq), .sc (.int .i64 0), .sc (.slice none 0 0)]) hk rfl rfl rfl rfl sz62 rfl rfl fun hk16 => qk hk16 rfl ?_
 refine v ?_
 cases hm
 exact vr fun hk => Ret.of2 (.inl rfl) (rsC (.agg ([.sc (.int .i64 2), .sc (.int .i64 0), .sc (.string ByteArray.empty), .sc (.slice none 0 0), .sc (.slice none 0 0), .sc (.slice none 0 0), .sc (.int .i64 x1.Seq), .sc (.int .i64 0), .sc (.slice none 0 0)])) ld62 rfl (Zd 1 hk rfl) rfl) (rsT _ _ (.sc (.bool _)) rfl) (hp_sub (List.nil_sublist _) hk).1 (ALe.agg (.k3 (.cons (nil_lem _) (.cons (nil_lem _) (.cons (nil_lem _) (.k2 (.cons (nil_lem _) .nil))))))) (ALe.refl _ _) ⟨rfl, rfl⟩
 refine v (v (vl 3 _ ld3 rfl rfl rfl (vl 0 _ ld3 rfl rfl rfl (vn (fun _ => o_bld (c_Item ({ Kind := 3, Id := idZ, Seq := p0.Seq, Of := x1.Seq, Off := 13, Len := 17 } : TItem)) bt38 rfl) (vn (fun _ => o_lit (List.map c_Item ([({ Kind := 3, Id := idZ, Seq := p0.Seq, Of := x1.Seq, Off := 13, Len := 17 } : TItem)] : List TItem)) et33 rfl rfl rfl rfl) (vn (fun _ => o_bld ([.sc (.int .i64 3), .sc (.int .i64 0), .sc (.string ByteArray.empty), .sc (.slice none 0 0), .sc (.slice none 0 0), .sc (.slice none 0 0), .sc (.int .i64 0), .sc (.int .i64 j0), .sl none 37 (List.map c_Item ([({ Kind := 3, Id := idZ, Seq := p0.Seq, Of := x1.Seq, Off := 13, Len := 17 } : TItem)] : List TItem))]) bt62 rfl) ?_))))))
 refine ve fun hk => a_store 1 ([.sc (.int .i64 3), .sc (.int .i64 0), .sc (.string ByteArray.empty), .sc (.slice none 0 0), .sc (.slice none 0 0), .sc (.slice none 0 0), .sc (.int .i64 0), .sc (.int .i64 j0), .sl none 37 (List.map c_Item ([({ Kind := 3, Id := idZ, Seq := p0.Seq, Of := x1.Seq, Off := 13, Len := 17 } : TItem)] : List TItem))]) hk rfl rfl rfl rfl sz62 rfl rfl fun hk17 => qk hk17 rfl ?_
 refine v ?_
 cases hm
 exact vr fun hk => Ret.of2 (.inl rfl) (rsC (.agg ([.sc (.int .i64 3), .sc (.int .i64 0), .sc (.string ByteArray.empty), .sc (.slice none 0 0), .sc (.slice none 0 0), .sc (.slice none 0 0), .sc (.int .i64 0), .sc (.int .i64 j0), .sl none 37 (List.map c_Item ([({ Kind := 3, Id := idZ, Seq := p0.Seq, Of := x1.Seq, Off := 13, Len := 17 } : TItem)] : List TItem))])) ld62 rfl (Zd 1 hk rfl) rfl) (rsT _ _ (.sc (.bool _)) rfl) (hp_sub (List.nil_sublist _) hk).1 (ALe.agg (.k3 (.cons (nil_lem _) (.cons (nil_lem _) (.cons (nil_lem _) (.k3 .nil)))))) (ALe.refl _ _) ⟨rfl, rfl⟩
 refine v ?_
 refine vjnH hm (σ := Bool) (τ := Unit) (fun g s => [(some k8, .obj 62 ([.sc (.int .i64 0), .sc (.int .i64 0), .sc (.string ByteArray.empty), .sc (.slice none 0 0), .sc (.slice none 0 0), .sc (.slice none 0 0), .sc (.int .i64 0), .sc (.int .i64 0), .sc (.slice none 0 0)])), (some k5, .obj 67 (c_Act p1)), (some k2, .obj 30 (c_Catalog p0))]) (fun g s => .c 2 (.ptr k2 0) (.c 3 (.ptr k5 0) (.c 4 (.ptr k8 0) (.c 7 (.sc (.int .i64 j0)) (.c 47 (.sc (.int .u64 ((IntKind.wrap .u64 p1.Do).tmod 8))) (.c 136 (.sc (.bool s)) .nil)))))) (fun x hm => ?_) ?_
 refine v ?_
 refine vi hm (fun hc10 hm => ?_) fun hc10 hm => ?_
 refine v ?_
 exact vgo hm () trivial (lx (.k6 .nil))
 refine v ?_
 exact vgo hm () trivial (lx (.k6 .nil))
 rintro _ j4 hm
 refine v ?_
 refine vi hm (fun hc11 hm => ?_) fun hc11 hm => ?_
 refine v (v (v (vle (lno (.tok 38 37 (([] : List TItem).length * 37)) 17 (ow none 37 (List.map c_Item [])) (ow_nil _ _)) ?_)))
 refine vlp hm (σ := (List TItem) × Int × Int) (τ := Option Key) (fun g s => [(g, .tok 38 37 ((s.1 : List TItem).length * 37)), (some k8, .obj 62 ([.sc (.int .i64 0), .sc (.int .i64 0), .sc (.string ByteArray.empty), .sc (.slice none 0 0), .sc (.slice none 0 0), .sc (.slice none 0 0), .sc (.int .i64 0), .sc (.int .i64 0), .sc (.slice none 0 0)])), (some k5, .obj 67 (c_Act p1)), (some k2, .obj 30 (c_Catalog p0))]) (fun g s => (g = none → s.1 = [])) (fun g s => .c 2 (.ptr k2 0) (.c 3 (.ptr k5 0) (.c 4 (.ptr k8 0) (.c 7 (.sc (.int .i64 j0)) (.c 17 (ow g 37 (List.map c_Item s.1)) (.c 18 (.sc (.int .i64 s.2.1)) (.c 19 (.sc (.int .i64 s.2.2)) .nil))))))) none (fun _ => rfl) (lx (.k7 .nil)) ?_ ?_
 rintro tg4 ⟨q2, q3, q4⟩ x ot4 hm
 replace hm : M35_L3 fuel p0 p1 q2 q3 q4 = some x := hm
 unfold M35_L3 at hm
 refine vs (vs ?_)
 refine vjnH hm (σ := Bool) (τ := Unit) (fun g s => [(tg4, .tok 38 37 ((q2 : List TItem).length * 37)), (some k8, .obj 62 ([.sc (.int .i64 0), .sc (.int .i64 0), .sc (.string ByteArray.empty), .sc (.slice none 0 0), .sc (.slice none 0 0), .sc (.slice none 0 0), .sc (.int .i64 0), .sc (.int .i64 0), .sc (.slice none 0 0)])), (some k5, .obj 67 (c_Act p1)), (some k2, .obj 30 (c_Catalog p0))]) (fun g s => .c 2 (.ptr k2 0) (.c 3 (.ptr k5 0) (.c 4 (.ptr k8 0) (.c 7 (.sc (.int .i64 j0)) (.c 17 (ow tg4 37 (List.map c_Item q2)) (.c 18 (.sc (.int .i64 q3)) (.c 19 (.sc (.int .i64 q4)) (.c 156 (.sc (.bool s)) .nil)))))))) (fun x hm => ?_) ?_
 refine v (vl 3 _ ld26 rfl rfl rfl (vln ln26 rfl (vl 3 _ ld25 rfl rfl rfl (vln ln25 rfl (vl 3 _ ld27 rfl rfl rfl (vln ln27 rfl ?_))))))
 refine vi hm (fun hb0 hm => ?_) fun hb0 hm => ?_
 rw [hb0]
 refine vn (fun _ => o_leno ln33 ot4 rfl) ?_
 exact vgo hm () trivial (lx (.k8 .nil))
 rw [hb0]
 exact vgo hm () trivial (lx (.k8 .nil))
 rintro _ j5 hm
 refine v ?_
 refine vi hm (fun hc12 hm => ?_) fun hc12 hm => ?_
 refine v (vs ?_)
 refine vjn hm (σ := (List TItem) × Int) (τ := Option Key) (fun g s => [(g, .tok 38 37 ((s.1 : List TItem).length * 37)), (some k8, .obj 62 ([.sc (.int .i64 0), .sc (.int .i64 0), .sc (.string ByteArray.empty), .sc (.slice none 0 0), .sc (.slice none 0 0), .sc (.slice none 0 0), .sc (.int .i64 0), .sc (.int .i64 0), .sc (.slice none 0 0)])), (some k5, .obj 67 (c_Act p1)), (some k2, .obj 30 (c_Catalog p0))]) (fun g s => (g = none → s.1 = [])) (fun g s => .c 2 (.ptr k2 0) (.c 3 (.ptr k5 0) (.c 4 (.ptr k8 0) (.c 7 (.sc (.int .i64 j0)) (.c 17 (ow g 37 (List.map c_Item s.1)) (.c 18 (.sc (.int .i64 s.2)) (.c 19 (.sc (.int .i64 q4)) .nil))))))) (fun x hm => ?_) ?_
 refine v (vs (vs ?_))
 refine vjnH hm (σ := Bool) (τ := Unit) (fun g s => [(tg4, .tok 38 37 ((q2 : List TItem).length * 37)), (some k8, .obj 62 ([.sc (.int .i64 0), .sc (.int .i64 0), .sc (.string ByteArray.empty), .sc (.slice none 0 0), .sc (.slice none 0 0), .sc (.slice none 0 0), .sc (.int .i64 0), .sc (.int .i64 0), .sc (.slice none 0 0)])), (some k5, .obj 67 (c_Act p1)), (some k2, .obj 30 (c_Catalog p0))]) (fun g s => .c 2 (.ptr k2 0) (.c 3 (.ptr k5 0) (.c 4 (.ptr k8 0) (.c 7 (.sc (.int .i64 j0)) (.c 17 (ow tg4 37 (List.map c_Item q2)) (.c 18 (.sc (.int .i64 q3)) (.c 19 (.sc (.int .i64 q4)) (.c 171 (.sc (.bool s)) .nil)))))))) (fun x hm => ?_) ?_
 refine v (vl 2 _ ld65 rfl rfl rfl (vln ln65 rfl ?_))
 refine vi hm (fun hb1 hm => ?_) fun hb1 hm => ?_
 rw [hb1]
 refine vl 2 _ ld65 rfl rfl rfl ?_
 refine vx hm el65 rfl rfl fun _ _ hm => ?_
 exact vgo hm () trivial (lx (.k8 .nil))
 rw [hb1]
 exact vgo hm () trivial (lx (.k8 .nil))
 rintro _ j6 hm
 refine v ?_
 refine vi hm (fun hc13 hm => ?_) fun hc13 hm => ?_
 refine v ?_
 exact vgo hm tg4 ot4 (lx (.k7 .nil))
 refine v (v (vn (fun _ => o_bld (c_Item ({ Kind := 0, Id := idZ, Seq := 0, Of := 0, Off := q3, Len := 20 } : TItem)) bt38 rfl) ?_))
 refine ve fun hk => a_alloc (([.sc (.int .i64 0)] : List AV) ++ c_id idZ ++ ([.sc (.int .i64 0), .sc (.int .i64 0), .sc (.int .i64 0), .sc (.int .i64 0)] : List AV)) hk zr38 rfl rfl fun k1523 hk18 => qk hk18 rfl ?_
 refine ve fun hk => a_store 0 (c_Item ({ Kind := 0, Id := idZ, Seq := 0, Of := 0, Off := q3, Len := 20 } : TItem)) hk rfl rfl rfl rfl sz38 rfl rfl fun hk19 => qk hk19 rfl ?_
 refine v (v (vl 4 _ ld26 rfl rfl rfl (vln ln26 rfl ?_)))
 refine vjnH hm (σ := TItem) (τ := Unit) (fun g s => [(some k1523, .obj 38 (c_Item s)), (tg4, .tok 38 37 ((q2 : List TItem).length * 37)), (some k8, .obj 62 ([.sc (.int .i64 0), .sc (.int .i64 0), .sc (.string ByteArray.empty), .sc (.slice none 0 0), .sc (.slice none 0 0), .sc (.slice none 0 0), .sc (.int .i64 0), .sc (.int .i64 0), .sc (.slice none 0 0)])), (some k5, .obj 67 (c_Act p1)), (some k2, .obj 30 (c_Catalog p0))]) (fun g s => .c 2 (.ptr k2 0) (.c 3 (.ptr k5 0) (.c 4 (.ptr k8 0) (.c 7 (.sc (.int .i64 j0)) (.c 17 (ow tg4 37 (List.map c_Item q2)) (.c 18 (.sc (.int .i64 q3)) (.c 19 (.sc (.int .i64 q4)) (.c 20 (.ptr k1523 0) .nil)))))))) (fun x hm => ?_) ?_
 refine v ?_
 refine vi hm (fun hc14 hm => ?_) fun hc14 hm => ?_
 refine v ?_
 refine vz [(1000000, some k2, .obj 30 (c_Catalog p0)), (7, some k1523, .obj 38 (c_Item ({ Kind := 0, Id := idZ, Seq := 0, Of := 0, Off := q3, Len := 20 } : TItem)))] mixed (fun hk => ⟨fun _ => hp_at 4 hk rfl, fun _ => hp_at 0 hk rfl, trivial⟩) fun hk => ?_
 refine z_w 0 rfl (fun S' h' hi hB => Zh fd30_2 rfl rfl) ?_
 refine z_w 1 rfl (fun S' h' hi hB => Zg (.sl none 35 (List.map c_Chunk p0.Chunks)) ld26 rfl (At.s (InvL.get 0 hi rfl (hB 1000000 (by kernel_rfl)))) rfl) ?_
 refine z_w 2 rfl (fun S' h' hi hB => o_mv (.sc (.int _ _)) rfl) ?_
 obtain ⟨x2, hx2, hm⟩ := Zc hm
 refine z_w 3 rfl (fun S' h' hi hB => o_ix hx2 el26 rfl rfl) ?_
 refine z_w 4 rfl (fun S' h' hi hB => o_fl fd44_0 rfl rfl) ?_
 refine z_w 5 rfl (fun S' h' hi hB => o_ld (.agg (c_id x2.Id)) ld36 rfl rfl) ?_
 refine z_w 6 rfl (fun S' h' hi hB => Zh fd38_0 rfl rfl) ?_
 refine z_e 7 rfl (by kernel_rfl) (a_store 0 (c_Item { ({ Kind := 0, Id := idZ, Seq := 0, Of := 0, Off := q3, Len := 20 } : TItem) with Kind := 1 }) hk rfl rfl rfl rfl sz3 rfl rfl fun hk20 => ⟨⟨fun _ => hp_at 4 hk20 rfl, fun e => absurd e (by decide), trivial⟩, ?_⟩)
 refine z_w 8 rfl (fun S' h' hi hB => Zh fd38_1 rfl rfl) ?_
 refine z_e 9 rfl (by kernel_rfl) (a_store 0 (c_Item { { ({ Kind := 0, Id := idZ, Seq := 0, Of := 0, Off := q3, Len := 20 } : TItem) with Kind := 1 } with Id := x2.Id }) hk20 rfl rfl rfl rfl sz36 rfl rfl fun hk21 => ⟨⟨fun _ => hp_at 4 hk21 rfl, fun e => absurd e (by decide), trivial⟩, ?_⟩)
 refine z_nil (by kernel_rfl) (qk (f := .c 207 _ (.c 206 _ (.c 205 _ (.c 204 _ (.c 203 _ (.c 202 _ (.c 201 _ (.c 200 _ _)))))))) hk21 rfl ?_)
 exact vgo hm () trivial (lx (.k8 .nil))
 refine v (vl 4 _ ld26 rfl rfl rfl (vln ln26 rfl (vl 4 _ ld25 rfl rfl rfl (vln ln25 rfl ?_))))
 refine vjnH hm (σ := TItem) (τ := Unit) (fun g s => [(some k1523, .obj 38 (c_Item s)), (tg4, .tok 38 37 ((q2 : List TItem).length * 37)), (some k8, .obj 62 ([.sc (.int .i64 0), .sc (.int .i64 0), .sc (.string ByteArray.empty), .sc (.slice none 0 0), .sc (.slice none 0 0), .sc (.slice none 0 0), .sc (.int .i64 0), .sc (.int .i64 0), .sc (.slice none 0 0)])), (some k5, .obj 67 (c_Act p1)), (some k2, .obj 30 (c_Catalog p0))]) (fun g s => .c 2 (.ptr k2 0) (.c 3 (.ptr k5 0) (.c 4 (.ptr k8 0) (.c 7 (.sc (.int .i64 j0)) (.c 17 (ow tg4 37 (List.map c_Item q2)) (.c 18 (.sc (.int .i64 q3)) (.c 19 (.sc (.int .i64 q4)) (.c 20 (.ptr k1523 0) .nil)))))))) (fun x hm => ?_) ?_
 refine v ?_
 refine vi hm (fun hc15 hm => ?_) fun hc15 hm => ?_
 refine v ?_
 refine vz [(1000000, some k2, .obj 30 (c_Catalog p0)), (11, some k1523, .obj 38 (c_Item ({ Kind := 0, Id := idZ, Seq := 0, Of := 0, Off := q3, Len := 20 } : TItem)))] mixed (fun hk => ⟨fun _ => hp_at 4 hk rfl, fun _ => hp_at 0 hk rfl, trivial⟩) fun hk => ?_
 refine z_w 0 rfl (fun S' h' hi hB => Zh fd30_1 rfl rfl) ?_
 refine z_w 1 rfl (fun S' h' hi hB => Zg (.sl none 4 (List.map c_Snap p0.Snaps)) ld25 rfl (At.s (InvL.get 0 hi rfl (hB 1000000 (by kernel_rfl)))) rfl) ?_
 refine z_w 2 rfl (fun S' h' hi hB => o_mv (.sc (.int _ _)) rfl) ?_
 refine z_w 3 rfl (fun S' h' hi hB => Zh fd30_2 rfl rfl) ?_
 refine z_w 4 rfl (fun S' h' hi hB => Zg (.sl none 35 (List.map c_Chunk p0.Chunks)) ld26 rfl (At.s (InvL.get 0 hi rfl (hB 1000000 (by kernel_rfl)))) rfl) ?_
 refine z_w 5 rfl (fun S' h' hi hB => o_lenm ln26 rfl) ?_
 refine z_w 6 rfl (fun S' h' hi hB => o_bi rfl rfl rfl trivial) ?_
 obtain ⟨x3, hx3, hm⟩ := Zc hm
 refine z_w 7 rfl (fun S' h' hi hB => o_ix hx3 el25 rfl rfl) ?_
 refine z_w 8 rfl (fun S' h' hi hB => o_fl fd60_0 rfl rfl) ?_
 refine z_w 9 rfl (fun S' h' hi hB => o_ld (.sc (.int .i64 x3.Seq)) ld3 rfl rfl) ?_
 refine z_w 10 rfl (fun S' h' hi hB => Zh fd38_0 rfl rfl) ?_
 refine z_e 11 rfl (by kernel_rfl) (a_store 0 (c_Item { ({ Kind := 0, Id := idZ, Seq := 0, Of := 0, Off := q3, Len := 20 } : TItem) with Kind := 2 }) hk rfl rfl rfl rfl sz3 rfl rfl fun hk22 => ⟨⟨fun _ => hp_at 4 hk22 rfl, fun e => absurd e (by decide), trivial⟩, ?_⟩)
 refine z_w 12 rfl (fun S' h' hi hB => Zh fd38_2 rfl rfl) ?_
 refine z_e 13 rfl (by kernel_rfl) (a_store 0 (c_Item { { ({ Kind := 0, Id := idZ, Seq := 0, Of := 0, Off := q3, Len := 20 } : TItem) with Kind := 2 } with Seq := x3.Seq }) hk22 rfl rfl rfl rfl sz3 rfl rfl fun hk23 => ⟨⟨fun _ => hp_at 4 hk23 rfl, fun e => absurd e (by decide), trivial⟩, ?_⟩)
 refine z_nil (by kernel_rfl) (qk (f := .c 229 _ (.c 228 _ (.c 227 _ (.c 226 _ (.c 225 _ (.c 224 _ (.c 223 _ (.c 222 _ (.c 221 _ (.c 220 _ (.c 219 _ (.c 218 _ _)))))))))))) hk23 rfl ?_)
 exact vgo hm () trivial (lx (.k8 .nil))
 refine v (vl 4 _ ld27 rfl rfl rfl (vl 4 _ ld26 rfl rfl rfl (vln ln26 rfl (vl 4 _ ld25 rfl rfl rfl (vln ln25 rfl ?_)))))
 refine vx hm el27 rfl rfl fun x4 _ hm => ?_
 refine va (.agg (c_Exp x4)) ld99 rfl rfl ?_
 refine ve fun hk => a_alloc ([.sc (.int .i64 0), .sc (.int .i64 0), .sc (.slice none 0 0)]) hk zr99 rfl rfl fun k1631 hk24 => qk hk24 rfl ?_
 refine ve fun hk => a_store 0 (c_Exp x4) hk rfl rfl rfl rfl sz99 rfl rfl fun hk25 => qk hk25 rfl ?_
 refine v ?_
 refine vz [(1000000, some k1631, .obj 99 (c_Exp x4)), (5, some k1523, .obj 38 (c_Item ({ Kind := 0, Id := idZ, Seq := 0, Of := 0, Off := q3, Len := 20 } : TItem)))] mixed (fun hk => ⟨fun _ => hp_at 0 hk rfl, fun _ => hp_at 1 hk rfl, trivial⟩) fun hk => ?_
 refine z_w 0 rfl (fun S' h' hi hB => Zh fd99_0 rfl rfl) ?_
 refine z_w 1 rfl (fun S' h' hi hB => Zg (.sc (.int .i64 x4.Seq)) ld3 rfl (At.s (InvL.get 0 hi rfl (hB 1000000 (by kernel_rfl)))) rfl) ?_
 refine z_w 2 rfl (fun S' h' hi hB => Zh fd99_1 rfl rfl) ?_
 refine z_w 3 rfl (fun S' h' hi hB => Zg (.sc (.int .i64 x4.Of)) ld3 rfl (At.s (InvL.get 0 hi rfl (hB 1000000 (by kernel_rfl)))) rfl) ?_
 refine z_w 4 rfl (fun S' h' hi hB => Zh fd38_0 rfl rfl) ?_
 refine z_e 5 rfl (by kernel_rfl) (a_store 1 (c_Item { ({ Kind := 0, Id := idZ, Seq := 0, Of := 0, Off := q3, Len := 20 } : TItem) with Kind := 3 }) hk rfl rfl rfl rfl sz3 rfl rfl fun hk26 => ⟨⟨fun _ => hp_at 0 hk26 rfl, fun e => absurd e (by decide), trivial⟩, ?_⟩)
 refine z_w 6 rfl (fun S' h' hi hB => Zh fd38_2 rfl rfl) ?_
 refine z_e 7 rfl (by kernel_rfl) (a_store 1 (c_Item { { ({ Kind := 0, Id := idZ, Seq := 0, Of := 0, Off := q3, Len := 20 } : TItem) with Kind := 3 } with Seq := x4.Seq }) hk26 rfl rfl rfl rfl sz3 rfl rfl fun hk27 => ⟨⟨fun _ => hp_at 0 hk27 rfl, fun e => absurd e (by decide), trivial⟩, ?_⟩)
 refine z_w 8 rfl (fun S' h' hi hB => Zh fd38_3 rfl rfl) ?_
 refine z_e 9 rfl (by kernel_rfl) (a_store 1 (c_Item { { { ({ Kind := 0, Id := idZ, Seq := 0, Of := 0, Off := q3, Len := 20 } : TItem) with Kind := 3 } with Seq := x4.Seq } with Of := x4.Of }) hk27 rfl rfl rfl rfl sz3 rfl rfl fun hk28 => ⟨⟨fun _ => hp_at 0 hk28 rfl, fun e => absurd e (by decide), trivial⟩, ?_⟩)
 refine z_nil (by kernel_rfl) (qk (f := .c 193 _ (.c 192 _ (.c 191 _ (.c 190 _ (.c 189 _ (.c 188 _ (.c 187 _ _))))))) hk28 rfl ?_)
 exact vgo hm () trivial (lxs [1, 2, 3, 4, 5] rfl rfl (.k8 .nil))
 rintro _ j7 hm
 exact vgo hm () trivial (lx (.k8 .nil))
 rintro _ j8 hm
 refine v (vl 0 (.agg (c_Item j8)) ld38 rfl rfl rfl (vn (fun _ => o_lit (List.map c_Item ([j8] : List TItem)) et33 rfl rfl rfl rfl) ?_))
 obtain ⟨z1, hz3, hm⟩ := Zc hm
 refine ve fun hk => a_app (c := c_Item) 1 hz3 et33 rfl rfl rfl ot4 hk rfl fun tg5 ot5 hk29 => qk hk29 rfl ?_
 exact vgo hm tg5 ot5 (lxs [1, 2, 3, 4] rfl rfl (.k7 .nil))
 rintro tg6 ⟨j9, j10⟩ ot6 hm
 refine v ?_
 exact vgo hm tg6 ot6 (lx (.k7 .nil))
 refine v ?_
 exact vbk hm tg4 ot4 (lx (.k7 .nil))
 rintro tg7 ⟨r2, r3, r4⟩ ot7 hm
 refine v (vn (fun _ => o_bld ([.sc (.int .i64 3), .sc (.int .i64 0), .sc (.string ByteArray.empty), .sc (.slice none 0 0), .sc (.slice none 0 0), .sc (.slice none 0 0), .sc (.int .i64 0), .sc (.int .i64 j0), ow tg7 37 (List.map c_Item r2)]) bt62 (by cases tg7 <;> rfl)) (vn (fun _ => o_leno ln33 ot7 rfl) ?_))
 refine ve fun hk => a_store 1 ([.sc (.int .i64 3), .sc (.int .i64 0), .sc (.string ByteArray.empty), .sc (.slice none 0 0), .sc (.slice none 0 0), .sc (.slice none 0 0), .sc (.int .i64 0), .sc (.int .i64 j0), ow tg7 37 (List.map c_Item r2)]) hk rfl rfl rfl (by repeat (first | exact rfl | refine all_c (ocell_ow _ _ _) ?_ | refine all_c (ocell_aw _ _ _) ?_ | refine all_c rfl ?_)) sz62 rfl rfl fun hk30 => qk hk30 rfl ?_
 refine v ?_
 cases hm
 exact vr fun hk => Ret.of2 (.inl rfl) (rsC (.agg ([.sc (.int .i64 3), .sc (.int .i64 0), .sc (.string ByteArray.empty), .sc (.slice none 0 0), .sc (.slice none 0 0), .sc (.slice none 0 0), .sc (.int .i64 0), .sc (.int .i64 j0), ow tg7 37 (List.map c_Item r2)])) ld62 rfl (Zd 1 hk rfl) rfl) (rsT _ _ (.sc (.bool _)) rfl) (hp_sub (List.nil_sublist _) hk).1 (ALe.agg (.k3 (.cons (nil_lem _) (.cons (nil_lem _) (.cons (nil_lem _) (.k2 (.cons ((own_frz0 _ 0 ot7 hk rfl)) .nil))))))) (ALe.refl _ _) ⟨rfl, rfl⟩
 refine v (v ?_)
 refine vi hm (fun hc16 hm => ?_) fun hc16 hm => ?_
 refine v (vn (fun _ => o_bld ([.sc (.int .i64 4), .sc (.int .i64 0), .sc (.string ByteArray.empty), .sc (.slice none 0 0), .sc (.slice none 0 0), .sc (.slice none 0 0), .sc (.int .i64 0), .sc (.int .i64 j0), .sc (.slice none 0 0)]) bt62 rfl) ?_)
 refine ve fun hk => a_store 0 ([.sc (.int .i64 4), .sc (.int .i64 0), .sc (.string ByteArray.empty), .sc (.slice none 0 0), .sc (.slice none 0 0), .sc (.slice none 0 0), .sc (.int .i64 0), .sc (.int .i64 j0), .sc (.slice none 0 0)]) hk rfl rfl rfl rfl sz62 rfl rfl fun hk31 => qk hk31 rfl ?_
 refine v ?_
 cases hm
 exact vr fun hk => Ret.of2 (.inl rfl) (rsC (.agg ([.sc (.int .i64 4), .sc (.int .i64 0), .sc (.string ByteArray.empty), .sc (.slice none 0 0), .sc (.slice none 0 0), .sc (.slice none 0 0), .sc (.int .i64 0), .sc (.int .i64 j0), .sc (.slice none 0 0)])) ld62 rfl (Zd 0 hk rfl) rfl) (rsT _ _ (.sc (.bool _)) rfl) (hp_sub (List.nil_sublist _) hk).1 (ALe.agg (.k3 (.cons (nil_lem _) (.cons (nil_lem _) (.cons (nil_lem _) (.k2 (.cons (nil_lem _) .nil))))))) (ALe.refl _ _) ⟨rfl, rfl⟩
 refine v (v (vn (fun _ => o_bld ([.sc (.int .i64 5), .sc (.int .i64 0), .sc (.string ByteArray.empty), .sc (.slice none 0 0), .sc (.slice none 0 0), .sc (.slice none 0 0), .sc (.int .i64 0), .sc (.int .i64 j0), .sc (.slice none 0 0)]) bt62 rfl) ?_))
 refine ve fun hk => a_store 0 ([.sc (.int .i64 5), .sc (.int .i64 0), .sc (.string ByteArray.empty), .sc (.slice none 0 0), .sc (.slice none 0 0), .sc (.slice none 0 0), .sc (.int .i64 0), .sc (.int .i64 j0), .sc (.slice none 0 0)]) hk rfl rfl rfl rfl sz62 rfl rfl fun hk32 => qk hk32 rfl ?_
 refine v ?_
 cases hm
 exact vr fun hk => Ret.of2 (.inl rfl) (rsC (.agg ([.sc (.int .i64 5), .sc (.int .i64 0), .sc (.string ByteArray.empty), .sc (.slice none 0 0), .sc (.slice none 0 0), .sc (.slice none 0 0), .sc (.int .i64 0), .sc (.int .i64 j0), .sc (.slice none 0 0)])) ld62 rfl (Zd 0 hk rfl) rfl) (rsT _ _ (.sc (.bool _)) rfl) (hp_sub (List.nil_sublist _) hk).1 (ALe.agg (.k3 (.cons (nil_lem _) (.cons (nil_lem _) (.cons (nil_lem _) (.k2 (.cons (nil_lem _) .nil))))))) (ALe.refl _ _) ⟨rfl, rfl⟩
theorem bd35 : bodied Tryz.prog 35 = true := by kernel_rfl
open Go.Vm
def M14_L2 (fuel : Nat) (p0 : List TAct) (q0 : Int) (q1 : Int) : Option (Lp (Int) (Lp (Int) (Bool))) :=
 (ix p0 q0).bind fun x0 => if (decide (q1 < (x0.Tree.length : Int))) = true then (after ((ix p0 q0).bind fun x1 => (ix x1.Tree q1).bind fun x2 => if (decide (300 < (x2.Data.length : Int))) = true then (some (.brk true)) else (ix p0 q0).bind fun x3 => (ix x3.Tree q1).bind fun x4 => some (.brk (decide (50 < (x4.Path.size : Int)))) : Option (Lp (Bool) (Lp (Int) (Lp (Int) (Bool))))) fun j0 => if j0 = true then (some (.ret (.ret true))) else some (.go (IntKind.wrap .i64 (q1 + 1)))) else some (.brk q1)
def M14_L0 (fuel : Nat) (p0 : List TAct) (q0 : Int) : Option (Lp (Int) (Bool)) :=
 after (if (decide (q0 < (p0.length : Int))) = true then (some (.brk (decide (q0 < 30)))) else some (.brk false) : Option (Lp (Bool) (Lp (Int) (Bool)))) fun j0 => if j0 = true then (after ((ix p0 q0).bind fun x0 => if (decide (300 < (x0.Pick.length : Int))) = true then (some (.brk true)) else (ix p0 q0).bind fun x1 => some (.brk (decide (10 < (x1.Tree.length : Int)))) : Option (Lp (Bool) (Lp (Int) (Bool)))) fun j1 => if j1 = true then (some (.ret true)) else after (loopM (fun s => M14_L2 fuel p0 q0 s) fuel 0) fun r0 => some (.go (IntKind.wrap .i64 (q0 + 1)))) else some (.brk q0)
def M14 (fuel : Nat) (p0 : List TAct) : Option (Bool) :=
 if (decide (120 < (p0.length : Int))) = true then (some true) else after (loopM (fun s => M14_L0 fuel p0 s) fuel 0) fun r0 => some false
set_option maxHeartbeats 4000000 in
set_option maxRecDepth 100000 in
theorem W14 {fuel : Nat} {p0 : List TAct} {o : Bool} (h : Heap) (hm : M14 fuel p0 = some o) :
 ACalls Tryz.prog 14 [.sl none 5 (List.map c_Act p0)] h (fun r h' => r = .sc (.bool o) ∧ h' = h) := by
 refine ACv 68 [.tmp 2] Tryz.func14 rfl rfl rfl rfl ?_
 unfold M14 at hm
 refine v (v (vln ln23 rfl (v ?_)))
 refine vi hm (fun hc4 hm => ?_) fun hc4 hm => ?_
 refine v (v ?_)
 injection hm with hm; subst hm
 exact vr1 rfl
 refine v (v ?_)
 refine vlpH hm (σ := Int) (τ := Unit) (fun g s => []) (fun g s => .c 0 (.sl none 5 (List.map c_Act p0)) (.c 3 (.sc (.int .i64 s)) .nil)) () (lx (.k2 .nil)) ?_ ?_
 rintro _ q0 x hm
 replace hm : M14_L0 fuel p0 q0 = some x := hm
 unfold M14_L0 at hm
 refine vs (vs ?_)
 refine vjnH hm (σ := Bool) (τ := Unit) (fun g s => []) (fun g s => .c 0 (.sl none 5 (List.map c_Act p0)) (.c 3 (.sc (.int .i64 q0)) (.c 15 (.sc (.bool s)) .nil))) (fun x hm => ?_) ?_
 refine v (vln ln23 rfl ?_)
 refine vi hm (fun hb0 hm => ?_) fun hb0 hm => ?_
 rw [hb0]
 exact vgo hm () trivial (lx (.k3 .nil))
 rw [hb0]
 exact vgo hm () trivial (lx (.k3 .nil))
 rintro _ j0 hm
 refine v ?_
 refine vi hm (fun hc0 hm => ?_) fun hc0 hm => ?_
 refine v (v (vs (vs ?_)))
 refine vjnH hm (σ := Bool) (τ := Unit) (fun g s => []) (fun g s => .c 0 (.sl none 5 (List.map c_Act p0)) (.c 3 (.sc (.int .i64 q0)) (.c 33 (.sc (.bool s)) .nil))) (fun x hm => ?_) ?_
 refine v ?_
 refine vx hm el23 rfl rfl fun _ _ hm => ?_
 refine vln ln65 rfl ?_
 refine vi hm (fun hb1 hm => ?_) fun hb1 hm => ?_
 rw [hb1]
 exact vgo hm () trivial (lx (.k3 .nil))
 rw [hb1]
 refine vx hm el23 rfl rfl fun _ _ hm => ?_
 refine vln ln64 rfl ?_
 exact vgo hm () trivial (lx (.k3 .nil))
 rintro _ j1 hm
 refine v ?_
 refine vi hm (fun hc1 hm => ?_) fun hc1 hm => ?_
 refine v (v ?_)
 refine vrt hm fun hm => ?_
 injection hm with hm; subst hm
 exact vr1 rfl
 refine v (v ?_)
 refine vlpH hm (σ := Int) (τ := Unit) (fun g s => []) (fun g s => .c 0 (.sl none 5 (List.map c_Act p0)) (.c 3 (.sc (.int .i64 q0)) (.c 4 (.sc (.int .i64 s)) .nil))) () (lx (.k3 .nil)) ?_ ?_
 rintro _ q1 x hm
 replace hm : M14_L2 fuel p0 q0 q1 = some x := hm
 unfold M14_L2 at hm
 refine v ?_
 refine vx hm el23 rfl rfl fun _ _ hm => ?_
 refine vln ln64 rfl (v ?_)
 refine vi hm (fun hc2 hm => ?_) fun hc2 hm => ?_
 refine v (v (vs ?_))
 refine vjnH hm (σ := Bool) (τ := Unit) (fun g s => []) (fun g s => .c 0 (.sl none 5 (List.map c_Act p0)) (.c 3 (.sc (.int .i64 q0)) (.c 4 (.sc (.int .i64 q1)) (.c 67 (.sc (.bool s)) .nil)))) (fun x hm => ?_) ?_
 refine v ?_
 refine vx hm el23 rfl rfl fun _ _ hm => ?_
 refine vx hm el64 rfl rfl fun _ _ hm => ?_
 refine vln ln41 rfl ?_
 refine vi hm (fun hb2 hm => ?_) fun hb2 hm => ?_
 rw [hb2]
 exact vgo hm () trivial (lx (.k4 .nil))
 rw [hb2]
 refine vx hm el23 rfl rfl fun _ _ hm => ?_
 refine vx hm el64 rfl rfl fun _ _ hm => ?_
 refine vn (fun _ => o_lent ln9 rfl) ?_
 exact vgo hm () trivial (lx (.k4 .nil))
 rintro _ j2 hm
 refine v ?_
 refine vi hm (fun hc3 hm => ?_) fun hc3 hm => ?_
 refine v (v ?_)
 refine vrt hm fun hm => ?_
 refine vrt hm fun hm => ?_
 injection hm with hm; subst hm
 exact vr1 rfl
 refine v (v ?_)
 exact vgo hm () trivial (lx (.k3 .nil))
 refine v ?_
 exact vbk hm () trivial (lx (.k3 .nil))
 rintro _ r0 hm
 refine v ?_
 exact vgo hm () trivial (lx (.k2 .nil))
 refine v ?_
 exact vbk hm () trivial (lx (.k2 .nil))
 rintro _ r1 hm
 refine v (v ?_)
 injection hm with hm; subst hm
 exact vr1 rfl
theorem bd14 : bodied Tryz.prog 14 = true := by kernel_rfl
def M16_L0 (fuel : Nat) (p0 : List Int) (q0 : List Int) (q1 : Int) : Option (Lp ((List Int) × Int) ((List Int))) :=
 after (if (decide (q1 < (p0.length : Int))) = true then (some (.brk (decide (q1 < 8)))) else some (.brk false) : Option (Lp (Bool) (Lp ((List Int) × Int) ((List Int))))) fun j0 => if j0 = true then ((ix p0 q1).bind fun x0 => (app q0 ([bitsV .and .i64 x0 1] : List Int)).bind fun z0 => some (.go (z0, IntKind.wrap .i64 (q1 + 1)))) else some (.brk (q0, q1))
def M16 (fuel : Nat) (p0 : List Int) : Option ((List Int)) :=
 after (loopM (fun s => M16_L0 fuel p0 s.1 s.2) fuel ([], 0)) fun ⟨r0, r1⟩ => after (if ((r0.length : Int) == 0) = true then (some (.brk ([0] : List Int))) else some (.brk r0) : Option (Lp ((List Int)) ((List Int)))) fun j0 => some j0
set_option maxHeartbeats 4000000 in
set_option maxRecDepth 100000 in
theorem W16 {fuel : Nat} {p0 : List Int} {o : (List Int)} (h : Heap) (hm : M16 fuel p0 = some o) :
 ACalls Tryz.prog 16 [.sl none 1 (List.map c_i64 p0)] h (fun r h' => r = .sl none 1 (List.map c_i64 o) ∧ h' = h) := by
 refine ACv 28 [.tmp 2] Tryz.func16 rfl rfl rfl rfl ?_
 unfold M16 at hm
 refine v (v (v (vle (lno (.tok 3 1 (([] : List Int).length * 1)) 3 (ow none 1 (List.map c_i64 [])) (ow_nil _ _)) ?_)))
 refine vlp hm (σ := (List Int) × Int) (τ := Option Key) (fun g s => [(g, .tok 3 1 ((s.1 : List Int).length * 1))]) (fun g s => (g = none → s.1 = [])) (fun g s => .c 0 (.sl none 1 (List.map c_i64 p0)) (.c 3 (ow g 1 (List.map c_i64 s.1)) (.c 4 (.sc (.int .i64 s.2)) .nil))) none (fun _ => rfl) (lx (.k3 .nil)) ?_ ?_
 rintro tg0 ⟨q0, q1⟩ x ot0 hm
 replace hm : M16_L0 fuel p0 q0 q1 = some x := hm
 unfold M16_L0 at hm
 refine vs (vs ?_)
 refine vjnH hm (σ := Bool) (τ := Unit) (fun g s => [(tg0, .tok 3 1 ((q0 : List Int).length * 1))]) (fun g s => .c 0 (.sl none 1 (List.map c_i64 p0)) (.c 3 (ow tg0 1 (List.map c_i64 q0)) (.c 4 (.sc (.int .i64 q1)) (.c 12 (.sc (.bool s)) .nil)))) (fun x hm => ?_) ?_
 refine v (vln ln22 rfl ?_)
 refine vi hm (fun hb0 hm => ?_) fun hb0 hm => ?_
 rw [hb0]
 exact vgo hm () trivial (lx (.k4 .nil))
 rw [hb0]
 exact vgo hm () trivial (lx (.k4 .nil))
 rintro _ j0 hm
 refine v ?_
 refine vi hm (fun hc0 hm => ?_) fun hc0 hm => ?_
 refine v (v (v ?_))
 refine vx hm el22 rfl rfl fun x0 _ hm => ?_
 refine vn (fun _ => o_lit (List.map c_i64 ([bitsV .and .i64 x0 1] : List Int)) et22 rfl rfl rfl rfl) ?_
 obtain ⟨z0, hz0, hm⟩ := Zc hm
 refine ve fun hk => a_app (c := c_i64) 0 hz0 et22 rfl rfl rfl ot0 hk rfl fun tg1 ot1 hk0 => qk hk0 rfl ?_
 refine v ?_
 exact vgo hm tg1 ot1 (lx (.k3 .nil))
 refine v ?_
 exact vbk hm tg0 ot0 (lx (.k3 .nil))
 rintro tg2 ⟨r0, r1⟩ ot2 hm
 refine v (vn (fun _ => o_leno ln22 ot2 rfl) ?_)
 refine vjn hm (σ := (List Int)) (τ := Option Key) (fun g s => [(g, .tok 3 1 ((s : List Int).length * 1))]) (fun g s => (g = none → s = [])) (fun g s => .c 3 (ow g 1 (List.map c_i64 s)) .nil) (fun x hm => ?_) ?_
 refine v ?_
 refine vi hm (fun hc1 hm => ?_) fun hc1 hm => ?_
 refine v ?_
 refine ve fun hk => a_litg (c := c_i64) ([0] : List Int) hk et22 rfl rfl rfl rfl fun tg3 ot3 hk1 => qk hk1 rfl ?_
 exact vgo hm tg3 ot3 (lxs [0] rfl rfl (.cons (ALe.refl _ _) .nil))
 refine v ?_
 exact vgo hm tg2 ot2 (lx (.cons (ALe.refl _ _) .nil))
 rintro tg4 j1 ot4 hm
 refine v (v ?_)
 injection hm with hm; subst hm
 exact vr fun hk => Ret.of1 (.inl rfl) (rsT _ _ (ow _ _ _) rfl) (hp_sub (List.nil_sublist _) hk).1 ((own_frz0 _ 0 ot4 hk rfl)) ⟨rfl, rfl⟩
theorem bd16 : bodied Tryz.prog 16 = true := by kernel_rfl
def M15_L0 (fuel : Nat) (p1 : List TAct) (q0 : TCatalog) (q1 : Int) : Option (Lp (TCatalog × Int) (TCatalog)) :=
 after (if (decide (q1 < (p1.length : Int))) = true then (some (.brk (decide (q1 < 30)))) else some (.brk false) : Option (Lp (Bool) (Lp (TCatalog × Int) (TCatalog)))) fun j0 => if j0 = true then ((ix p1 q1).bind fun x0 => (M35 fuel q0 x0).bind fun y0 => after (if y0.2 = true then ((M36 fuel q0 y0.1).bind fun y1 => after (if (y1.2 == 0) = true then (some (.brk y1.1)) else some (.brk q0) : Option (Lp (TCatalog) (Lp (TCatalog) (Lp (TCatalog × Int) (TCatalog))))) fun j1 => some (.brk j1)) else some (.brk q0) : Option (Lp (TCatalog) (Lp (TCatalog × Int) (TCatalog)))) fun j2 => some (.go (j2, IntKind.wrap .i64 (q1 + 1)))) else some (.brk (q0, q1))
def M15 (fuel : Nat) (p0 : List Int) (p1 : List TAct) : Option (TCatalog) :=
 (M33 fuel p0).bind fun y6 => after (loopM (fun s => M15_L0 fuel p1 s.1 s.2) fuel (y6, 0)) fun ⟨r0, r1⟩ => some r0
set_option maxHeartbeats 4000000 in
set_option maxRecDepth 100000 in
theorem W15 {fuel : Nat} {p0 : List Int} {p1 : List TAct} {o : TCatalog} (h : Heap) (hm : M15 fuel p0 p1 = some o) :
 ACalls Tryz.prog 15 [.sl none 1 (List.map c_i64 p0), .sl none 5 (List.map c_Act p1)] h (fun r h' => r = .agg (c_Catalog o) ∧ h' = h) := by
 refine ACv 43 [.cell 4 30] Tryz.func15 rfl rfl rfl rfl ?_
 unfold M15 at hm
 refine v ?_
 refine ve fun hk => a_alloc ([.sc (.int .i64 0), .sc (.slice none 0 0), .sc (.slice none 0 0), .sc (.slice none 0 0), .sc (.slice none 0 0)]) hk zr30 rfl rfl fun k2 hk3 => qk hk3 rfl ?_
 refine v ?_
 refine vk W33 bd33 hm rfl rfl fun y6 hm => ?_
 refine ve fun hk => a_alloc ([.sc (.int .i64 0), .sc (.slice none 0 0), .sc (.slice none 0 0), .sc (.slice none 0 0), .sc (.slice none 0 0)]) hk zr30 rfl rfl fun k8 hk9 => qk hk9 rfl ?_
 refine ve fun hk => a_store 0 (c_Catalog y6) hk rfl rfl rfl rfl sz30 rfl rfl fun hk0 => qk hk0 rfl ?_
 refine v ?_
 refine vlpH hm (σ := TCatalog × Int) (τ := Unit) (fun g s => [(some k8, .obj 30 (c_Catalog s.1)), (some k2, .obj 30 ([.sc (.int .i64 0), .sc (.slice none 0 0), .sc (.slice none 0 0), .sc (.slice none 0 0), .sc (.slice none 0 0)]))]) (fun g s => .c 1 (.sl none 5 (List.map c_Act p1)) (.c 4 (.ptr k2 0) (.c 5 (.ptr k8 0) (.c 6 (.sc (.int .i64 s.2)) .nil)))) () (lx (.k4 .nil)) ?_ ?_
 rintro _ ⟨q0, q1⟩ x hm
 replace hm : M15_L0 fuel p1 q0 q1 = some x := hm
 unfold M15_L0 at hm
 refine vs (vs ?_)
 refine vjnH hm (σ := Bool) (τ := Unit) (fun g s => [(some k8, .obj 30 (c_Catalog q0)), (some k2, .obj 30 ([.sc (.int .i64 0), .sc (.slice none 0 0), .sc (.slice none 0 0), .sc (.slice none 0 0), .sc (.slice none 0 0)]))]) (fun g s => .c 1 (.sl none 5 (List.map c_Act p1)) (.c 4 (.ptr k2 0) (.c 5 (.ptr k8 0) (.c 6 (.sc (.int .i64 q1)) (.c 20 (.sc (.bool s)) .nil))))) (fun x hm => ?_) ?_
 refine v (vln ln23 rfl ?_)
 refine vi hm (fun hb0 hm => ?_) fun hb0 hm => ?_
 rw [hb0]
 exact vgo hm () trivial (lx (.k5 .nil))
 rw [hb0]
 exact vgo hm () trivial (lx (.k5 .nil))
 rintro _ j0 hm
 refine v ?_
 refine vi hm (fun hc0 hm => ?_) fun hc0 hm => ?_
 refine v (v (v ?_))
 refine vz [(1000000, some k8, .obj 30 (c_Catalog q0))] mixed (fun hk => ⟨fun _ => hp_at 0 hk rfl, trivial⟩) fun hk => ?_
 refine z_w 0 rfl (fun S' h' hi hB => Zg (.agg (c_Catalog q0)) ld30 rfl (At.s (InvL.get 0 hi rfl (hB 1000000 (by kernel_rfl)))) rfl) ?_
 refine z_w 1 rfl (fun S' h' hi hB => o_mv (.sl _ _ _) rfl) ?_
 refine z_w 2 rfl (fun S' h' hi hB => o_mv (.sc (.int _ _)) rfl) ?_
 obtain ⟨x0, hx0, hm⟩ := Zc hm
 refine z_w 3 rfl (fun S' h' hi hB => o_ix hx0 el23 rfl rfl) ?_
 refine z_w 4 rfl (fun S' h' hi hB => o_ld (.agg (c_Act x0)) ld67 rfl rfl) ?_
 obtain ⟨y0, hy0, hm⟩ := Zc hm
 refine z_w 5 rfl (fun S' h' hi hB => o_call (W35 _ hy0) rfl bd35 rfl) ?_
 refine z_w 6 rfl (fun S' h' hi hB => o_mv (.tup _) rfl) ?_
 refine z_w 7 rfl (fun S' h' hi hB => o_ex (.agg _) rfl rfl) ?_
 refine z_w 8 rfl (fun S' h' hi hB => o_ex (.sc (.bool _)) rfl rfl) ?_
 refine z_e 9 rfl (by kernel_rfl) (a_alloc ([.sc (.int .i64 0), .sc (.int .i64 0), .sc (.string ByteArray.empty), .sc (.slice none 0 0), .sc (.slice none 0 0), .sc (.slice none 0 0), .sc (.int .i64 0), .sc (.int .i64 0), .sc (.slice none 0 0)]) hk zr62 rfl rfl fun k155 hk1 => ⟨⟨fun _ => hp_at 1 hk1 rfl, trivial⟩, ?_⟩)
 refine z_e 10 rfl (by kernel_rfl) (a_store 0 (c_Change y0.1) hk1 rfl rfl rfl rfl sz62 rfl rfl fun hk2 => ⟨⟨fun _ => hp_at 1 hk2 rfl, trivial⟩, ?_⟩)
 refine z_w 11 rfl (fun S' h' hi hB => o_as (.sc (.bool _)) rfl) ?_
 refine z_nil (by kernel_rfl) (qk (f := .c 8 _ (.c 7 _ (.c 31 _ (.c 30 _ (.c 23 _ (.c 29 _ (.c 28 _ (.c 27 _ (.c 26 _ (.c 25 _ (.c 24 _ _))))))))))) hk2 rfl ?_)
 refine v ?_
 refine vjnH hm (σ := TCatalog) (τ := Unit) (fun g s => [(some k155, .obj 62 (c_Change y0.1)), (some k8, .obj 30 (c_Catalog s)), (some k2, .obj 30 ([.sc (.int .i64 0), .sc (.slice none 0 0), .sc (.slice none 0 0), .sc (.slice none 0 0), .sc (.slice none 0 0)]))]) (fun g s => .c 1 (.sl none 5 (List.map c_Act p1)) (.c 4 (.ptr k2 0) (.c 5 (.ptr k8 0) (.c 6 (.sc (.int .i64 q1)) .nil)))) (fun x hm => ?_) ?_
 refine v ?_
 refine vi hm (fun hc1 hm => ?_) fun hc1 hm => ?_
 refine v (vl 1 (.agg (c_Catalog q0)) ld30 rfl rfl rfl (vl 0 (.agg (c_Change y0.1)) ld62 rfl rfl rfl ?_))
 refine vk W36 bd36 hm rfl rfl fun y1 hm => ?_
 refine ve fun hk => a_alloc ([.sc (.int .i64 0), .sc (.slice none 0 0), .sc (.slice none 0 0), .sc (.slice none 0 0), .sc (.slice none 0 0)]) hk zr30 rfl rfl fun k180 hk4 => qk hk4 rfl ?_
 refine ve fun hk => a_store 0 (c_Catalog y1.1) hk rfl rfl rfl rfl sz30 rfl rfl fun hk5 => qk hk5 rfl ?_
 refine v ?_
 refine vjnH hm (σ := TCatalog) (τ := Unit) (fun g s => [(some k180, .obj 30 (c_Catalog y1.1)), (some k155, .obj 62 (c_Change y0.1)), (some k8, .obj 30 (c_Catalog s)), (some k2, .obj 30 ([.sc (.int .i64 0), .sc (.slice none 0 0), .sc (.slice none 0 0), .sc (.slice none 0 0), .sc (.slice none 0 0)]))]) (fun g s => .c 1 (.sl none 5 (List.map c_Act p1)) (.c 4 (.ptr k2 0) (.c 5 (.ptr k8 0) (.c 6 (.sc (.int .i64 q1)) .nil)))) (fun x hm => ?_) ?_
 refine v ?_
 refine vi hm (fun hc2 hm => ?_) fun hc2 hm => ?_
 refine v (vl 0 (.agg (c_Catalog y1.1)) ld30 rfl rfl rfl ?_)
 refine ve fun hk => a_store 2 (c_Catalog y1.1) hk rfl rfl rfl rfl sz30 rfl rfl fun hk6 => qk hk6 rfl ?_
 exact vgo hm () trivial (lx (.k4 .nil))
 refine v ?_
 exact vgo hm () trivial (lx (.k4 .nil))
 rintro _ j1 hm
 exact vgo hm () trivial (lxs [1, 2, 3] rfl rfl (.k4 .nil))
 refine v ?_
 exact vgo hm () trivial (lx (.k4 .nil))
 rintro _ j2 hm
 refine v ?_
 exact vgo hm () trivial (lxs [1, 2] rfl rfl (.k4 .nil))
 refine v ?_
 exact vbk hm () trivial (lx (.k4 .nil))
 rintro _ ⟨r0, r1⟩ hm
 refine v (vl 0 (.agg (c_Catalog r0)) ld30 rfl rfl rfl ?_)
 refine ve fun hk => a_store 1 (c_Catalog r0) hk rfl rfl rfl rfl sz30 rfl rfl fun hk7 => qk hk7 rfl ?_
 refine v ?_
 injection hm with hm; subst hm
 exact vr fun hk => Ret.of1 (.inl rfl) (rsC (.agg (c_Catalog r0)) ld30 rfl (Zd 1 hk rfl) rfl) (hp_sub (List.nil_sublist _) hk).1 (ALe.refl _ _) ⟨rfl, rfl⟩
theorem bd15 : bodied Tryz.prog 15 = true := by kernel_rfl
end Go.Proofs.YtoomgangpjcaoaaGreat
namespace Go.Vm
def Fc : Option Nat → Fence
 | none => Fence.wide
 | some l => Fence.wide.inRound l
theorem Fc_fn (ro : Option Nat) (f : FuncId) : (Fc ro).fn f := by cases ro <;> trivial
theorem Fc_depth (ro : Option Nat) : (Fc ro).depth.isSome = true → 1 ≤ 0 := by cases ro <;> exact fun h => by cases h
theorem Fc_calls {ro : Option Nat} {n : Nat} {P : Program} {f : FuncId} {args : Array Value} {w : World} {R : Ending → World → Prop} (h : Calls P f args w R) : CallsIn (Fc ro) n P f args w R := by
 cases ro <;> exact callsIn_wide.2 h
theorem Fc_rows {ro : Option Nat} {n : Nat} {P : Program} {r : String} {args : Array Value} {w : World} {R : Value → World → Prop} (h : Rows P r args w R) : RowsIn (Fc ro) n P r args w R := by
 intro c cs _
 obtain ⟨v, w', hR, hs⟩ := h c cs
 refine ⟨v, w', hR, ?_⟩
 cases ro <;> exact stepsIn_wide.2 hs
def nd : Op → Bool
 | .defer _ => false
 | _ => true
theorem nd_ne {o : Op} (h : nd o = true) : ∀ c, o ≠ .defer c := fun c e => by subst e; cases h
section
variable {P : Program} {ro : Option Nat}
theorem op_in {o : Oper} {a : Act} {w : World} {Nx : Act → World → Prop} {Qx : Exit → Act → World → Prop} (hd : nd o.op = true) (h : o.wp P a w Nx Qx) : o.wpIn (Fc ro) 0 P a w Nx Qx := by
 refine ⟨fun f _ => Fc_fn ro f, ?_⟩
 have hs : o.semAt (Fc ro).round a.eval = execOp a.eval o := by
  cases ro with
  | none => simp [Oper.semAt, Fc]
  | some l => exact Oper.semAt_some _ _ _ (nd_ne hd)
 rw [hs]
 unfold Oper.wp at h
 cases e : (execOp a.eval o).run P w with
 | ok nx w' =>
  rw [e] at h
  cases nx with
  | value v => exact h
  | skip => exact h
  | defer d => exact h
  | enter f args => exact ⟨Fc_depth ro, Fc_calls h⟩
  | row r args => exact ⟨Fc_depth ro, Fc_rows h⟩
  | _ => first | exact h.elim | exact h
 | halt x w' =>
  rw [e] at h
  cases x with
  | panic v => exact h
  | _ => first | exact h.elim | exact h
theorem list_in {ops : Array Oper} {Q : Exit → Act → World → Prop} (hq : ¬ LetsOut Q) : ∀ {l : List Oper} {a : Act} {w : World}, (l.all fun o => nd o.op) = true → wpList P ops Q l a w → wpListIn (Fc ro) 0 P ops Q l a w
 | [], _, _, _, h => h
 | o :: l, a, w, hd, h => by
  simp only [List.all_cons, Bool.and_eq_true] at hd
  refine wpListIn_step fun K hK => ?_
  unfold wpList at h
  split at h
  ·rename_i hw
   rw [if_pos hw]
   rcases h with h | ⟨_, h⟩
   ·exact op_in hd.1 (Oper.wp_mono (fun a' w' h' => hK _ _ (list_in hq hd.2 h')) h)
   ·exact absurd h hq
  ·rename_i hw
   rw [if_neg hw]
   exact ⟨fun f _ => Fc_fn ro f, hK _ _ (list_in hq hd.2 h)⟩
theorem any_in {md : Region.Mode} {ops : Array Oper} {Q : Exit → Act → World → Prop} (hq : ¬ LetsOut Q) (hd : (ops.toList.all fun o => nd o.op) = true) : ∀ {fuel : Nat} {S : Array Bool} {a : Act} {w : World}, wpAny P md ops Q fuel S a w → wpAnyIn (Fc ro) 0 P md ops Q fuel S a w
 | 0, _, _, _, h => h
 | fuel + 1, S, a, w, h => by
  refine ⟨h.1, fun i hi => ?_⟩
  have hi' := h.2 i hi
  unfold wpOp at hi'
  unfold wpOpIn
  cases ho : ops[i]? with
  | none => rw [ho] at hi'; exact any_in hq hd hi'
  | some o =>
   rw [ho] at hi'
   simp only at hi' ⊢
   have hn : nd o.op = true := List.all_eq_true.1 hd o (by
    have := Array.mem_of_getElem? ho
    simpa using this)
   split at hi'
   ·rename_i hw
    rw [if_pos hw]
    rcases hi' with hi' | ⟨_, hi'⟩
    ·exact op_in hn (Oper.wp_mono (fun a' w' h' => any_in hq hd h') hi')
    ·exact absurd hi' hq
   ·rename_i hw
    rw [if_neg hw]
    exact ⟨fun f _ => Fc_fn ro f, any_in hq hd hi'⟩
end
def Stb (I : Env → World → Prop) : Prop := ∀ E w E' w', Keep E w E' w' → I E w → I E' w'
def AWn (I : Env → World → Prop) (ro : Option Nat) (P : Program) (c : Code) (Q : Exit → Fr → Heap → Prop) (fr : Fr) (h : Heap) : Prop :=
 ∀ E w a, I E w → Rel E h w → VRL E w fr a.tmps.toList → a.defers = [] → c.wpIn (Fc ro) 0 P (fun e a' w' => Post E w (Q e) a' w') a w
section
variable {P : Program} {ro : Option Nat} {I : Env → World → Prop} {Q : Exit → Fr → Heap → Prop} {fr : Fr} {h : Heap}
theorem AWn.mono {c : Code} {Q' : Exit → Fr → Heap → Prop} (hc : AWn I ro P c Q fr h) (hq : ∀ e fr h, Q e fr h → Q' e fr h) : AWn I ro P c Q' fr h :=
 fun E w a i r v d => wpIn_mono (hc E w a i r v d) fun e _ _ p => p.mono (hq e)
theorem AWn_of {c : Code} (hc : AW P c Q fr h) : AWn I none P c Q fr h := fun E w a _ r v d => wpIn_wide.2 (hc E w a r v d)
theorem AWn_seq (hI : Stb I) {x y : Code} (hx : AWn I ro P x (Seq (AWn I ro P y Q) Q) fr h) : AWn I ro P (.seq x y) Q fr h := by
 intro E w a i r v d
 refine wpIn_seq (wpIn_mono (hx E w a i r v d) ?_)
 intro e a' w' p
 cases e with
 | normal =>
  obtain ⟨E', fr', h', k, r', v', d', q⟩ := p
  exact wpIn_mono (q E' w' a' (hI _ _ _ _ k i) r' v' d') fun _ _ _ p' => p'.trans k
 | exit id => exact p
 | goto l => exact p
 | ret => exact p
 | panic ch => exact p
 | outgrown => exact p
theorem AWn_if {c : Operand} {x y : Code} {t : Bool} (hc : ev fr c = .sc (.bool t)) (ht : t = true → AWn I ro P x Q fr h) (hf : t = false → AWn I ro P y Q fr h) : AWn I ro P (.cond c x y) Q fr h :=
 fun E w a i r v d => wpIn_cond (t := t) (ev_sc v hc) (by
  cases t
  ·exact hf rfl E w a i r v d
  ·exact ht rfl E w a i r v d)
theorem AWn_block {id : Nat} {c : Code} (hc : AWn I ro P c (Blk id Q) fr h) : AWn I ro P (.block id c) Q fr h := by
 intro E w a i r v d
 refine wpIn_block (wpIn_mono (hc E w a i r v d) ?_)
 intro e a' w' p
 cases e with
 | exit id' =>
  by_cases hid : id' = id
  ·simp only [Exit.inBlock, hid, if_true]
   exact p.mono (fun fr h q => by simpa [Blk, hid] using q)
  ·simp only [Exit.inBlock, hid, if_false]
   exact p.mono (fun fr h q => by simpa [Blk, hid] using q)
 | normal => exact p
 | goto l => exact p
 | ret => exact p
 | panic ch => exact p
 | outgrown => exact p
theorem LeF.awn (hI : Stb I) {c : Code} {fr' : Fr} {h' : Heap} (le : LeF fr' h' fr h) (hc : AWn I ro P c Q fr' h') : AWn I ro P c Q fr h := by
 intro E w a i r v d
 obtain ⟨E', k, r', v'⟩ := le E w _ r v
 exact wpIn_mono (hc E' w a (hI _ _ _ _ k i) r' v' d) fun _ _ _ p => p.trans k
theorem AWn_reg {id : Nat} {l : List Oper} (hd : (l.all fun o => nd o.op) = true) (hl : AOps P l.toArray l (Q .normal) fr h) : AWn I ro P (.region id l.toArray false) Q fr h := by
 intro E w a _ r v d
 have h1 := hl E w a r v d (fun e a' w' => e = .normal ∧ Post E w (Q .normal) a' w') fun a' w' p => ⟨rfl, p⟩
 have hq : ¬ LetsOut fun e a' w' => e = Exit.normal ∧ Post E w (Q .normal) a' w' := fun hx => by
  obtain ⟨_, _, e, _⟩ := hx
  cases e
 refine wpIn_mono (wpIn_region_lit (id := id) (list_in (ro := ro) hq hd h1)) ?_
 rintro e a' w' ⟨rfl, p⟩
 exact p
theorem AWn_zreg {id : Nat} {l : List Oper} (fs : List (Nat × Option Key × Ent)) (hd : (l.all fun o => nd o.op) = true) (hm : P.follows .mixedOrders = true) (hI : InvL fs (Array.replicate l.length false) h)
    (hl : AGI P l.toArray fs (Q .normal) l.length (Array.replicate l.length false) fr h) : AWn I ro P (.region id l.toArray true) Q fr h := by
  intro E w a _ r v d
  obtain ⟨r', k⟩ := r.drewn (w.drawn + 1)
  have h1 := AG_sound l.length (Array.replicate l.length false) fr h (hl hI) E { w with drawn := w.drawn + 1 } a r' (VRL_keep k _ _ v) d (fun e a' w' => e = .normal ∧ Post E w (Q .normal) a' w') (fun a' w' p => ⟨rfl, p.trans k⟩)
  have hq : ¬ LetsOut fun e a' w' => e = Exit.normal ∧ Post E w (Q .normal) a' w' := fun hx => by
    obtain ⟨_, _, e, _⟩ := hx
    cases e
  have h2 := wpIn_region_any (F := Fc ro) (n := 0) (id := id) (ops := l.toArray) (a := a) (w := w) hm (any_in (ro := ro) hq (by simpa using hd) (by simpa using h1))
  refine wpIn_mono h2 ?_
  rintro e a' w' ⟨rfl, p⟩
  exact p
end
end Go.Vm
