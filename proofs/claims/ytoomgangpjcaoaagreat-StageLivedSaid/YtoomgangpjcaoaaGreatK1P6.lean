import Derived.Test.YtoomgangpjcaoaaGreatK1P3
import Derived.Test.YtoomgangpjcaoaaGreatK1P5
set_option linter.unusedSimpArgs false
set_option linter.unusedVariables false
namespace Go.Proofs.YtoomgangpjcaoaaGreat
open Go.Vm
def M154_L0 (fuel : Nat) (p0 : TCatalog) (p1 : Int) (q0 : List TSnap) (q1 : Int) : Option (Lp ((List TSnap) × Int) (Bool × (List TSnap) × (List TChunk))) :=
 if (decide (q1 < (p0.Snaps.length : Int))) = true then ((ix p0.Snaps q1).bind fun x0 => after (if (x0.Seq != p1) = true then ((ix p0.Snaps q1).bind fun x1 => (app q0 ([x1] : List TSnap)).bind fun z0 => some (.brk z0)) else some (.brk q0) : Option (Lp ((List TSnap)) (Lp ((List TSnap) × Int) (Bool × (List TSnap) × (List TChunk))))) fun j0 => some (.go (j0, IntKind.wrap .i64 (q1 + 1)))) else some (.brk (q0, q1))
def M154_L2 (fuel : Nat) (p0 : TCatalog) (r0 : List TSnap) (q0 : List TChunk) (q1 : Int) : Option (Lp ((List TChunk) × Int) (Bool × (List TSnap) × (List TChunk))) :=
 if (decide (q1 < (p0.Chunks.length : Int))) = true then (after ((ix p0.Chunks q1).bind fun x0 => (M38 fuel ({ Seq := p0.Seq, Snaps := r0, Chunks := p0.Chunks, Exps := p0.Exps, Vols := p0.Vols } : TCatalog) x0.Id).bind fun y0 => after (if (!y0) = true then (if ((({ { x0 with Staged := false } with Data := ([] : List Int) }.Locs).length : Int) == 0) = true then (some (.ret (.brk q0))) else some (.brk { { x0 with Staged := false } with Data := ([] : List Int) })) else some (.brk x0) : Option (Lp (TChunk) (Lp ((List TChunk)) (Lp ((List TChunk) × Int) (Bool × (List TSnap) × (List TChunk)))))) fun j0 => (app q0 ([j0] : List TChunk)).bind fun z0 => some (.brk z0) : Option (Lp ((List TChunk)) (Lp ((List TChunk) × Int) (Bool × (List TSnap) × (List TChunk))))) fun j1 => some (.go (j1, IntKind.wrap .i64 (q1 + 1)))) else some (.brk (q0, q1))
def M154 (fuel : Nat) (p0 : TCatalog) (p1 : Int) : Option (Bool × (List TSnap) × (List TChunk)) :=
 after (loopM (fun s => M154_L0 fuel p0 p1 s.1 s.2) fuel ([], 0)) fun ⟨r0, r1⟩ => if ((r0.length : Int) == (p0.Snaps.length : Int)) = true then (some (false, p0.Snaps, p0.Chunks)) else after (loopM (fun s => M154_L2 fuel p0 r0 s.1 s.2) fuel ([], 0)) fun ⟨r2, r3⟩ => some (true, r0, r2)
set_option maxHeartbeats 4000000 in
set_option maxRecDepth 100000 in
theorem W154 {fuel : Nat} {p0 : TCatalog} {p1 : Int} {o : Bool × (List TSnap) × (List TChunk)} (h : Heap) {p0K : Key} {g_Snaps : AGh} (ok_Snaps : AOk g_Snaps 4 p0.Snaps.length) {g_Chunks : AGh} (ok_Chunks : AOk g_Chunks 35 p0.Chunks.length) {g_Exps : AGh} (ok_Exps : AOk g_Exps 3 p0.Exps.length) {g_Vols : AGh} (ok_Vols : AOk g_Vols 4 p0.Vols.length) (hk0 : HOk h [(some p0K, .obj 30 ([.sc (.int .i64 p0.Seq), aw g_Snaps.t g_Snaps.n g_Snaps.cap, aw g_Chunks.t g_Chunks.n g_Chunks.cap, aw g_Exps.t g_Exps.n g_Exps.cap, aw g_Vols.t g_Vols.n g_Vols.cap])), (g_Snaps.t, .obj 60 (fl c_Snap (p0.Snaps : List TSnap) g_Snaps.sp)), (g_Chunks.t, .obj 44 (fl c_Chunk (p0.Chunks : List TChunk) g_Chunks.sp)), (g_Exps.t, .obj 99 (fl c_Exp (p0.Exps : List TExp) g_Exps.sp)), (g_Vols.t, .obj 49 (fl c_Vol (p0.Vols : List TVol) g_Vols.sp))]) (hm : M154 fuel p0 p1 = some o) :
 ACalls Tryz.prog 154 [.ptr p0K 0, .sc (.int .i64 p1)] (hp h [(some p0K, .obj 30 ([.sc (.int .i64 p0.Seq), aw g_Snaps.t g_Snaps.n g_Snaps.cap, aw g_Chunks.t g_Chunks.n g_Chunks.cap, aw g_Exps.t g_Exps.n g_Exps.cap, aw g_Vols.t g_Vols.n g_Vols.cap])), (g_Snaps.t, .obj 60 (fl c_Snap (p0.Snaps : List TSnap) g_Snaps.sp)), (g_Chunks.t, .obj 44 (fl c_Chunk (p0.Chunks : List TChunk) g_Chunks.sp)), (g_Exps.t, .obj 99 (fl c_Exp (p0.Exps : List TExp) g_Exps.sp)), (g_Vols.t, .obj 49 (fl c_Vol (p0.Vols : List TVol) g_Vols.sp))]) (fun r h' => ∃ g_Snaps' : AGh, AOk g_Snaps' 4 (o.2.1 : List TSnap).length ∧ ∃ g_Chunks' : AGh, AOk g_Chunks' 35 (o.2.2 : List TChunk).length ∧ HOk h [(some p0K, .obj 30 ([.sc (.int .i64 p0.Seq), aw g_Snaps'.t g_Snaps'.n g_Snaps'.cap, aw g_Chunks'.t g_Chunks'.n g_Chunks'.cap, aw g_Exps.t g_Exps.n g_Exps.cap, aw g_Vols.t g_Vols.n g_Vols.cap])), (g_Snaps'.t, .obj 60 (fl c_Snap (o.2.1 : List TSnap) g_Snaps'.sp)), (g_Chunks'.t, .obj 44 (fl c_Chunk (o.2.2 : List TChunk) g_Chunks'.sp)), (g_Exps.t, .obj 99 (fl c_Exp (p0.Exps : List TExp) g_Exps.sp)), (g_Vols.t, .obj 49 (fl c_Vol (p0.Vols : List TVol) g_Vols.sp))] ∧ r = .sc (.bool o.1) ∧ h' = hp h [(some p0K, .obj 30 ([.sc (.int .i64 p0.Seq), aw g_Snaps'.t g_Snaps'.n g_Snaps'.cap, aw g_Chunks'.t g_Chunks'.n g_Chunks'.cap, aw g_Exps.t g_Exps.n g_Exps.cap, aw g_Vols.t g_Vols.n g_Vols.cap])), (g_Snaps'.t, .obj 60 (fl c_Snap (o.2.1 : List TSnap) g_Snaps'.sp)), (g_Chunks'.t, .obj 44 (fl c_Chunk (o.2.2 : List TChunk) g_Chunks'.sp)), (g_Exps.t, .obj 99 (fl c_Exp (p0.Exps : List TExp) g_Exps.sp)), (g_Vols.t, .obj 49 (fl c_Vol (p0.Vols : List TVol) g_Vols.sp))]) := by
 refine ACp hk0 88 [.tmp 4] Tryz.func154 rfl rfl rfl rfl ?_
 unfold M154 at hm
 refine vs (v0 (vs (v0 (vs (vs (v0 (vle (lno (.obj 60 (fl c_Snap ([] : List TSnap) g0.sp)) 5 (aw g0.t g0.n g0.cap) (ALe_nilA _)) ?_)))))))
 refine vlp hm (σ := (List TSnap) × Int) (τ := AGh) (fun g s => [(g.t, .obj 60 (fl c_Snap (s.1 : List TSnap) g.sp)), (some p0K, .obj 30 ([.sc (.int .i64 p0.Seq), aw g_Snaps.t g_Snaps.n g_Snaps.cap, aw g_Chunks.t g_Chunks.n g_Chunks.cap, aw g_Exps.t g_Exps.n g_Exps.cap, aw g_Vols.t g_Vols.n g_Vols.cap])), (g_Snaps.t, .obj 60 (fl c_Snap (p0.Snaps : List TSnap) g_Snaps.sp)), (g_Chunks.t, .obj 44 (fl c_Chunk (p0.Chunks : List TChunk) g_Chunks.sp)), (g_Exps.t, .obj 99 (fl c_Exp (p0.Exps : List TExp) g_Exps.sp)), (g_Vols.t, .obj 49 (fl c_Vol (p0.Vols : List TVol) g_Vols.sp))]) (fun g s => AOk g 4 (s.1 : List TSnap).length) (fun g s => .c 0 (.ptr p0K 0) (.c 1 (.sc (.int .i64 p1)) (.c 5 (aw g.t g.n g.cap) (.c 6 (.sc (.int .i64 s.2)) .nil)))) g0 (AOk.g0 4) (lx (.k4 .nil)) ?_ ?_
 rintro ag0 ⟨q0, q1⟩ x ok0 hm
 replace hm : M154_L0 fuel p0 p1 q0 q1 = some x := hm
 unfold M154_L0 at hm
 refine vs (vs (v0 (vn (fun _ => o_nil rfl) (vn (fun _ => Zh fd30_1 rfl rfl) (vl 1 (aw g_Snaps.t g_Snaps.n g_Snaps.cap) ld25 rfl rfl rfl (vn (fun _ => o_lenA ln25 ok_Snaps rfl) (v0 ?_)))))))
 refine vi hm (fun hc0 hm => ?_) fun hc0 hm => ?_
 refine v0 (vs (v0 (vs (v0 (vn (fun _ => o_nil rfl) (vn (fun _ => Zh fd30_1 rfl rfl) (vl 1 (aw g_Snaps.t g_Snaps.n g_Snaps.cap) ld25 rfl rfl rfl ?_)))))))
 obtain ⟨x0, hx0, hm⟩ := Zc hm
 refine vn (fun _ => o_ixA hx0 el25 ok_Snaps rfl rfl) (vn (fun _ => o_flA (AOk.ne ok_Snaps hx0) fd60_0 rfl rfl) (vn (fun hk => o_ldA (fo := 0) (.sc (.int .i64 x0.Seq)) hx0 cz_Snap ok_Snaps ld3 rfl (hp_at 2 hk rfl) (fun _ => rfl)) ?_))
 refine vjn hm (σ := (List TSnap)) (τ := AGh) (fun g s => [(g.t, .obj 60 (fl c_Snap (s : List TSnap) g.sp)), (some p0K, .obj 30 ([.sc (.int .i64 p0.Seq), aw g_Snaps.t g_Snaps.n g_Snaps.cap, aw g_Chunks.t g_Chunks.n g_Chunks.cap, aw g_Exps.t g_Exps.n g_Exps.cap, aw g_Vols.t g_Vols.n g_Vols.cap])), (g_Snaps.t, .obj 60 (fl c_Snap (p0.Snaps : List TSnap) g_Snaps.sp)), (g_Chunks.t, .obj 44 (fl c_Chunk (p0.Chunks : List TChunk) g_Chunks.sp)), (g_Exps.t, .obj 99 (fl c_Exp (p0.Exps : List TExp) g_Exps.sp)), (g_Vols.t, .obj 49 (fl c_Vol (p0.Vols : List TVol) g_Vols.sp))]) (fun g s => AOk g 4 (s : List TSnap).length) (fun g s => .c 0 (.ptr p0K 0) (.c 1 (.sc (.int .i64 p1)) (.c 5 (aw g.t g.n g.cap) (.c 6 (.sc (.int .i64 q1)) .nil)))) (fun x hm => ?_) ?_
 refine v0 ?_
 refine vi hm (fun hc1 hm => ?_) fun hc1 hm => ?_
 refine v0 (vn (fun _ => o_nil rfl) (vn (fun _ => Zh fd30_1 rfl rfl) (vl 1 (aw g_Snaps.t g_Snaps.n g_Snaps.cap) ld25 rfl rfl rfl ?_)))
 obtain ⟨x1, hx1, hm⟩ := Zc hm
 refine vn (fun _ => o_ixA hx1 el25 ok_Snaps rfl rfl) (vn (fun hk => o_ldA (fo := 0) (.agg (c_Snap x1)) hx1 cz_Snap ok_Snaps ld60 rfl (hp_at 2 hk rfl) (fun _ => rfl)) (vn (fun _ => o_lit (List.map c_Snap ([x1] : List TSnap)) et25 rfl rfl rfl rfl) ?_))
 obtain ⟨z0, hz0, hm⟩ := Zc hm
 refine ve fun hk => a_appA (c := c_Snap) 0 hz0 et25 rfl zr60 rfl cz_Snap rfl rfl ok0 hk rfl fun ag1 ok1 hk1 => qk hk1 rfl ?_
 exact vgo hm ag1 ok1 (lx (.k4 .nil))
 refine v0 ?_
 exact vgo hm ag0 ok0 (lx (.k4 .nil))
 rintro ag2 j0 ok2 hm
 refine v0 ?_
 exact vgo hm ag2 ok2 (lx (.k4 .nil))
 refine v0 ?_
 exact vbk hm ag0 ok0 (lx (.k4 .nil))
 rintro ag3 ⟨r0, r1⟩ ot0 hm
 refine vs (vs (v0 (vn (fun _ => o_lenA ln25 ot0 rfl) (vn (fun _ => o_nil rfl) (vn (fun _ => Zh fd30_1 rfl rfl) (vl 1 (aw g_Snaps.t g_Snaps.n g_Snaps.cap) ld25 rfl rfl rfl (vn (fun _ => o_lenA ln25 ok_Snaps rfl) (v0 ?_))))))))
 refine vi hm (fun hc2 hm => ?_) fun hc2 hm => ?_
 refine vs (v0 (v0 ?_))
 cases hm
 exact vr fun hk => Ret.of1 (.inl rfl) (rsT _ _ (.sc (.bool _)) rfl) (hp_pick hk [1, 2, 3, 4, 5] rfl).2 (ALe.refl _ _) ⟨g_Snaps, ok_Snaps, g_Chunks, ok_Chunks, (hp_pick hk [1, 2, 3, 4, 5] rfl).1, rfl, rfl⟩
 refine v0 (vs (v0 (vn (fun _ => o_nil rfl) (vn (fun _ => Zh fd30_1 rfl rfl) ?_))))
 refine ve fun hk => a_store 1 ([.sc (.int .i64 p0.Seq), aw ag3.t ag3.n ag3.cap, aw g_Chunks.t g_Chunks.n g_Chunks.cap, aw g_Exps.t g_Exps.n g_Exps.cap, aw g_Vols.t g_Vols.n g_Vols.cap]) hk rfl rfl (cellsOf_aw rfl) (all_c (ocell_aw _ _ _) rfl) sz25 rfl rfl fun hk2 => qk hk2 rfl ?_
 refine vs (v0 (vs (vs (v0 (vle (lno (.obj 44 (fl c_Chunk ([] : List TChunk) g0.sp)) 7 (aw g0.t g0.n g0.cap) (ALe_nilA _)) ?_)))))
 refine vlp hm (σ := (List TChunk) × Int) (τ := AGh) (fun g s => [(g.t, .obj 44 (fl c_Chunk (s.1 : List TChunk) g.sp)), (ag3.t, .obj 60 (fl c_Snap (r0 : List TSnap) ag3.sp)), (some p0K, .obj 30 ([.sc (.int .i64 p0.Seq), aw ag3.t ag3.n ag3.cap, aw g_Chunks.t g_Chunks.n g_Chunks.cap, aw g_Exps.t g_Exps.n g_Exps.cap, aw g_Vols.t g_Vols.n g_Vols.cap])), (g_Snaps.t, .obj 60 (fl c_Snap (p0.Snaps : List TSnap) g_Snaps.sp)), (g_Chunks.t, .obj 44 (fl c_Chunk (p0.Chunks : List TChunk) g_Chunks.sp)), (g_Exps.t, .obj 99 (fl c_Exp (p0.Exps : List TExp) g_Exps.sp)), (g_Vols.t, .obj 49 (fl c_Vol (p0.Vols : List TVol) g_Vols.sp))]) (fun g s => AOk g 35 (s.1 : List TChunk).length) (fun g s => .c 0 (.ptr p0K 0) (.c 7 (aw g.t g.n g.cap) (.c 8 (.sc (.int .i64 s.2)) .nil))) g0 (AOk.g0 35) (lx (.k3 .nil)) ?_ ?_
 rintro ag4 ⟨q2, q3⟩ x ok3 hm
 replace hm : M154_L2 fuel p0 r0 q2 q3 = some x := hm
 unfold M154_L2 at hm
 refine vs (vs (v0 (vn (fun _ => o_nil rfl) (vn (fun _ => Zh fd30_2 rfl rfl) (vl 2 (aw g_Chunks.t g_Chunks.n g_Chunks.cap) ld26 rfl rfl rfl (vn (fun _ => o_lenA ln26 ok_Chunks rfl) (v0 ?_)))))))
 refine vi hm (fun hc3 hm => ?_) fun hc3 hm => ?_
 refine v0 (vs ?_)
 refine vjn hm (σ := (List TChunk)) (τ := AGh) (fun g s => [(g.t, .obj 44 (fl c_Chunk (s : List TChunk) g.sp)), (ag3.t, .obj 60 (fl c_Snap (r0 : List TSnap) ag3.sp)), (some p0K, .obj 30 ([.sc (.int .i64 p0.Seq), aw ag3.t ag3.n ag3.cap, aw g_Chunks.t g_Chunks.n g_Chunks.cap, aw g_Exps.t g_Exps.n g_Exps.cap, aw g_Vols.t g_Vols.n g_Vols.cap])), (g_Snaps.t, .obj 60 (fl c_Snap (p0.Snaps : List TSnap) g_Snaps.sp)), (g_Chunks.t, .obj 44 (fl c_Chunk (p0.Chunks : List TChunk) g_Chunks.sp)), (g_Exps.t, .obj 99 (fl c_Exp (p0.Exps : List TExp) g_Exps.sp)), (g_Vols.t, .obj 49 (fl c_Vol (p0.Vols : List TVol) g_Vols.sp))]) (fun g s => AOk g 35 (s : List TChunk).length) (fun g s => .c 0 (.ptr p0K 0) (.c 7 (aw g.t g.n g.cap) (.c 8 (.sc (.int .i64 q3)) .nil))) (fun x hm => ?_) ?_
 refine v0 (vs (v0 (vn (fun _ => o_nil rfl) (vn (fun _ => Zh fd30_2 rfl rfl) (vl 2 (aw g_Chunks.t g_Chunks.n g_Chunks.cap) ld26 rfl rfl rfl ?_)))))
 obtain ⟨x2, hx2, hm⟩ := Zc hm
 refine vn (fun _ => o_ixA hx2 el26 ok_Chunks rfl rfl) (vn (fun hk => o_ldA (fo := 0) (.agg (c_Chunk x2)) hx2 cz_Chunk ok_Chunks ld44 rfl (hp_at 4 hk rfl) (fun _ => rfl)) ?_)
 refine ve fun hk => a_alloc (c_id idZ ++ ([.sc (.bool false), .sc (.slice none 0 0), .sc (.slice none 0 0)] : List AV)) hk zr44 rfl rfl fun k465 hk3 => qk hk3 rfl ?_
 refine ve fun hk => a_store 0 (c_Chunk x2) hk rfl rfl rfl rfl sz44 rfl rfl fun hk4 => qk hk4 rfl ?_
 refine vs (vs (v0 (vq0 (by kernel_rfl) (vn (fun _ => o_nil rfl) (vl 3 (.agg ([.sc (.int .i64 p0.Seq), aw ag3.t ag3.n ag3.cap, aw g_Chunks.t g_Chunks.n g_Chunks.cap, aw g_Exps.t g_Exps.n g_Exps.cap, aw g_Vols.t g_Vols.n g_Vols.cap])) ld30 rfl rfl rfl (vn (fun _ => Zh fd44_0 rfl rfl) (vl 0 (.agg (c_id x2.Id)) ld36 rfl rfl rfl ?_)))))))
 obtain ⟨_, hy0, hm⟩ := Zc hm
 refine vn (fun hk => o_call (ACalls_pure (.cons (Br.agg (.cons (Br.refl _ _) (.cons (Br.aw 2 cz_Snap ot0 hk rfl) (.cons (Br.aw 5 cz_Chunk ok_Chunks hk rfl) (.cons (Br.aw 6 cz_Exp ok_Exps hk rfl) (.cons (Br.aw 7 cz_Vol ok_Vols hk rfl) .nil)))))) (.cons (Br.refl _ _) .nil)) rfl (W38 _ hy0)) rfl bd38 rfl) ?_
 refine vjnH hm (σ := TChunk) (τ := Unit) (fun g s => [(some k465, .obj 44 (c_Chunk s)), (ag4.t, .obj 44 (fl c_Chunk (q2 : List TChunk) ag4.sp)), (ag3.t, .obj 60 (fl c_Snap (r0 : List TSnap) ag3.sp)), (some p0K, .obj 30 ([.sc (.int .i64 p0.Seq), aw ag3.t ag3.n ag3.cap, aw g_Chunks.t g_Chunks.n g_Chunks.cap, aw g_Exps.t g_Exps.n g_Exps.cap, aw g_Vols.t g_Vols.n g_Vols.cap])), (g_Snaps.t, .obj 60 (fl c_Snap (p0.Snaps : List TSnap) g_Snaps.sp)), (g_Chunks.t, .obj 44 (fl c_Chunk (p0.Chunks : List TChunk) g_Chunks.sp)), (g_Exps.t, .obj 99 (fl c_Exp (p0.Exps : List TExp) g_Exps.sp)), (g_Vols.t, .obj 49 (fl c_Vol (p0.Vols : List TVol) g_Vols.sp))]) (fun g s => .c 0 (.ptr p0K 0) (.c 7 (aw ag4.t ag4.n ag4.cap) (.c 8 (.sc (.int .i64 q3)) (.c 9 (.ptr k465 0) .nil)))) (fun x hm => ?_) ?_
 refine v0 ?_
 refine vi hm (fun hc4 hm => ?_) fun hc4 hm => ?_
 refine vs (v0 (vn (fun _ => Zh fd44_1 rfl rfl) ?_))
 refine ve fun hk => a_store 0 (c_Chunk { x2 with Staged := false }) hk rfl rfl rfl rfl sz4 rfl rfl fun hk5 => qk hk5 rfl ?_
 refine vn (fun _ => Zh fd44_2 rfl rfl) ?_
 refine ve fun hk => a_storeL 0 (c_Chunk { { x2 with Staged := false } with Data := ([] : List Int) }) hk rfl rfl rfl rfl (.cons (nil_lem _) .nil) sz41 rfl rfl fun hk6 => qk hk6 rfl ?_
 refine vs (v0 (vn (fun _ => Zh fd44_3 rfl rfl) (vl 0 _ ld42 rfl rfl rfl (vln ln42 rfl (v0 ?_)))))
 refine vi hm (fun hc5 hm => ?_) fun hc5 hm => ?_
 refine v0 ?_
 refine vxt hm rfl fun hm => ?_
 exact vgo hm ag4 ok3 (lxs [1, 2, 3, 4, 5, 6, 7] rfl rfl (.k3 .nil))
 refine v0 ?_
 exact vgo hm () trivial (lx (.k4 .nil))
 refine v0 ?_
 exact vgo hm () trivial (lx (.k4 .nil))
 rintro _ j1 hm
 refine v0 (vl 0 (.agg (c_Chunk j1)) ld44 rfl rfl rfl (vn (fun _ => o_lit (List.map c_Chunk ([j1] : List TChunk)) et26 rfl rfl rfl rfl) ?_))
 obtain ⟨z1, hz1, hm⟩ := Zc hm
 refine ve fun hk => a_appA (c := c_Chunk) 1 hz1 et26 rfl zr44 rfl cz_Chunk rfl rfl ok3 hk rfl fun ag5 ok4 hk7 => qk hk7 rfl ?_
 exact vgo hm ag5 ok4 (lxs [1, 2, 3, 4, 5, 6, 7] rfl rfl (.k3 .nil))
 rintro ag6 j2 ok5 hm
 refine v0 ?_
 exact vgo hm ag6 ok5 (lx (.k3 .nil))
 refine v0 ?_
 exact vbk hm ag4 ok3 (lx (.k3 .nil))
 rintro ag7 ⟨r2, r3⟩ ot1 hm
 refine vs (v0 (vn (fun _ => o_nil rfl) (vn (fun _ => Zh fd30_2 rfl rfl) ?_)))
 refine ve fun hk => a_store 2 ([.sc (.int .i64 p0.Seq), aw ag3.t ag3.n ag3.cap, aw ag7.t ag7.n ag7.cap, aw g_Exps.t g_Exps.n g_Exps.cap, aw g_Vols.t g_Vols.n g_Vols.cap]) hk rfl rfl (cellsOf_aw rfl) (all_c (ocell_aw _ _ _) rfl) sz26 rfl rfl fun hk8 => qk hk8 rfl ?_
 refine vs (v0 (v0 ?_))
 cases hm
 exact vr fun hk => Ret.of1 (.inl rfl) (rsT _ _ (.sc (.bool _)) rfl) (hp_pick hk [2, 1, 0, 5, 6] rfl).2 (ALe.refl _ _) ⟨ag3, ot0, ag7, ot1, (hp_pick hk [2, 1, 0, 5, 6] rfl).1, rfl, rfl⟩
theorem bd154 : bodied Tryz.prog 154 = true := by kernel_rfl
def M156_L3 (fuel : Nat) (p0 : TCatalog) (p1 : TItem) (p2 : TLoc) (q0 : Int) : Option (Lp (Int) (Lp (Int × (List TChunk) × (List TExp)) (Bool × Int × (List TSnap) × (List TChunk) × (List TExp)))) :=
 if (decide (q0 < (p0.Snaps.length : Int))) = true then ((ix p0.Snaps q0).bind fun x0 => if (x0.Seq == p1.Seq) = true then ((ix p0.Snaps q0).bind fun x1 => (M185 fuel x1.Locs p2).bind fun y0 => (ix p0.Snaps q0).bind fun x2 => some (.ret (.ret (true, p0.Seq, p0.Snaps.set q0.toNat ({ x2 with Locs := y0 }), p0.Chunks, p0.Exps)))) else some (.go (IntKind.wrap .i64 (q0 + 1)))) else some (.brk q0)
def M156_L1 (fuel : Nat) (p0 : TCatalog) (p1 : TItem) (q0 : Int) : Option (Lp (Int) (Lp (Int × (List TChunk) × (List TExp)) (Bool × Int × (List TSnap) × (List TChunk) × (List TExp)))) :=
 after (if (decide (q0 < (p0.Exps.length : Int))) = true then ((ix p0.Exps q0).bind fun x0 => some (.brk (decide (x0.Seq < p1.Seq)))) else some (.brk false) : Option (Lp (Bool) (Lp (Int) (Lp (Int × (List TChunk) × (List TExp)) (Bool × Int × (List TSnap) × (List TChunk) × (List TExp)))))) fun j0 => if j0 = true then (some (.go (IntKind.wrap .i64 (q0 + 1)))) else some (.brk q0)
def M156 (fuel : Nat) (p0 : TCatalog) (p1 : TItem) (p2 : TLoc) : Option (Bool × Int × (List TSnap) × (List TChunk) × (List TExp)) :=
 after (if (p1.Kind == 1) = true then ((M88 fuel ({ Seq := p0.Seq, Snaps := p0.Snaps, Chunks := p0.Chunks, Exps := p0.Exps, Vols := p0.Vols } : TCatalog) p1.Id).bind fun y0 => if (decide (y0 < 0)) = true then (some (.ret (false, p0.Seq, p0.Snaps, p0.Chunks, p0.Exps))) else (ix p0.Chunks y0).bind fun x0 => (M185 fuel x0.Locs p2).bind fun y1 => (ix p0.Chunks y0).bind fun x1 => some (.brk (p0.Seq, p0.Chunks.set y0.toNat ({ x1 with Locs := y1 }), p0.Exps))) else if (p1.Kind == 2) = true then (after (loopM (fun s => M156_L3 fuel p0 p1 p2 s) fuel 0) fun r0 => some (.ret (false, p0.Seq, p0.Snaps, p0.Chunks, p0.Exps))) else after (loopM (fun s => M156_L1 fuel p0 p1 s) fuel 0) fun r1 => after (if (decide (r1 < (p0.Exps.length : Int))) = true then ((ix p0.Exps r1).bind fun x2 => some (.brk (x2.Seq == p1.Seq))) else some (.brk false) : Option (Lp (Bool) (Lp (Int × (List TChunk) × (List TExp)) (Bool × Int × (List TSnap) × (List TChunk) × (List TExp))))) fun j0 => if j0 = true then ((ix p0.Exps r1).bind fun x3 => (M185 fuel x3.Locs p2).bind fun y2 => (ix p0.Exps r1).bind fun x4 => some (.ret (true, p0.Seq, p0.Snaps, p0.Chunks, p0.Exps.set r1.toNat ({ x4 with Locs := y2 })))) else (slc p0.Exps 0 r1).bind fun x5 => (app ([] : List TExp) x5).bind fun z0 => (app z0 ([({ Seq := p1.Seq, Of := p1.Of, Locs := ([p2] : List TLoc) } : TExp)] : List TExp)).bind fun z1 => (slc p0.Exps r1 (p0.Exps).length).bind fun x6 => (app z1 x6).bind fun z2 => after (if (decide (p0.Seq ≤ p1.Seq)) = true then (some (.brk (decide (p1.Seq < 4611686018427387904)))) else some (.brk false) : Option (Lp (Bool) (Lp (Int × (List TChunk) × (List TExp)) (Bool × Int × (List TSnap) × (List TChunk) × (List TExp))))) fun j1 => after (if j1 = true then (some (.brk (IntKind.wrap .i64 (p1.Seq + 1)))) else some (.brk p0.Seq) : Option (Lp (Int) (Lp (Int × (List TChunk) × (List TExp)) (Bool × Int × (List TSnap) × (List TChunk) × (List TExp))))) fun j2 => some (.brk (j2, p0.Chunks, z2)) : Option (Lp (Int × (List TChunk) × (List TExp)) (Bool × Int × (List TSnap) × (List TChunk) × (List TExp)))) fun ⟨j3, j4, j5⟩ => some (true, j3, p0.Snaps, j4, j5)
set_option maxHeartbeats 4000000 in
set_option maxRecDepth 100000 in
theorem W156 {fuel : Nat} {p0 : TCatalog} {p1 : TItem} {p2 : TLoc} {o : Bool × Int × (List TSnap) × (List TChunk) × (List TExp)} (h : Heap) {p0K : Key} {g_Snaps : AGh} (ok_Snaps : AOk g_Snaps 4 p0.Snaps.length) {g_Chunks : AGh} (ok_Chunks : AOk g_Chunks 35 p0.Chunks.length) {g_Exps : AGh} (ok_Exps : AOk g_Exps 3 p0.Exps.length) {g_Vols : AGh} (ok_Vols : AOk g_Vols 4 p0.Vols.length) (hk0 : HOk h [(some p0K, .obj 30 ([.sc (.int .i64 p0.Seq), aw g_Snaps.t g_Snaps.n g_Snaps.cap, aw g_Chunks.t g_Chunks.n g_Chunks.cap, aw g_Exps.t g_Exps.n g_Exps.cap, aw g_Vols.t g_Vols.n g_Vols.cap])), (g_Snaps.t, .obj 60 (fl c_Snap (p0.Snaps : List TSnap) g_Snaps.sp)), (g_Chunks.t, .obj 44 (fl c_Chunk (p0.Chunks : List TChunk) g_Chunks.sp)), (g_Exps.t, .obj 99 (fl c_Exp (p0.Exps : List TExp) g_Exps.sp)), (g_Vols.t, .obj 49 (fl c_Vol (p0.Vols : List TVol) g_Vols.sp))]) (hm : M156 fuel p0 p1 p2 = some o) :
 ACalls Tryz.prog 156 [.ptr p0K 0, .agg (c_Item p1), .agg (c_Loc p2)] (hp h [(some p0K, .obj 30 ([.sc (.int .i64 p0.Seq), aw g_Snaps.t g_Snaps.n g_Snaps.cap, aw g_Chunks.t g_Chunks.n g_Chunks.cap, aw g_Exps.t g_Exps.n g_Exps.cap, aw g_Vols.t g_Vols.n g_Vols.cap])), (g_Snaps.t, .obj 60 (fl c_Snap (p0.Snaps : List TSnap) g_Snaps.sp)), (g_Chunks.t, .obj 44 (fl c_Chunk (p0.Chunks : List TChunk) g_Chunks.sp)), (g_Exps.t, .obj 99 (fl c_Exp (p0.Exps : List TExp) g_Exps.sp)), (g_Vols.t, .obj 49 (fl c_Vol (p0.Vols : List TVol) g_Vols.sp))]) (fun r h' => ∃ g_Snaps' : AGh, AOk g_Snaps' 4 (o.2.2.1 : List TSnap).length ∧ ∃ g_Chunks' : AGh, AOk g_Chunks' 35 (o.2.2.2.1 : List TChunk).length ∧ ∃ g_Exps' : AGh, AOk g_Exps' 3 (o.2.2.2.2 : List TExp).length ∧ HOk h [(some p0K, .obj 30 ([.sc (.int .i64 o.2.1), aw g_Snaps'.t g_Snaps'.n g_Snaps'.cap, aw g_Chunks'.t g_Chunks'.n g_Chunks'.cap, aw g_Exps'.t g_Exps'.n g_Exps'.cap, aw g_Vols.t g_Vols.n g_Vols.cap])), (g_Snaps'.t, .obj 60 (fl c_Snap (o.2.2.1 : List TSnap) g_Snaps'.sp)), (g_Chunks'.t, .obj 44 (fl c_Chunk (o.2.2.2.1 : List TChunk) g_Chunks'.sp)), (g_Exps'.t, .obj 99 (fl c_Exp (o.2.2.2.2 : List TExp) g_Exps'.sp)), (g_Vols.t, .obj 49 (fl c_Vol (p0.Vols : List TVol) g_Vols.sp))] ∧ r = .sc (.bool o.1) ∧ h' = hp h [(some p0K, .obj 30 ([.sc (.int .i64 o.2.1), aw g_Snaps'.t g_Snaps'.n g_Snaps'.cap, aw g_Chunks'.t g_Chunks'.n g_Chunks'.cap, aw g_Exps'.t g_Exps'.n g_Exps'.cap, aw g_Vols.t g_Vols.n g_Vols.cap])), (g_Snaps'.t, .obj 60 (fl c_Snap (o.2.2.1 : List TSnap) g_Snaps'.sp)), (g_Chunks'.t, .obj 44 (fl c_Chunk (o.2.2.2.1 : List TChunk) g_Chunks'.sp)), (g_Exps'.t, .obj 99 (fl c_Exp (o.2.2.2.2 : List TExp) g_Exps'.sp)), (g_Vols.t, .obj 49 (fl c_Vol (p0.Vols : List TVol) g_Vols.sp))]) := by
 refine ACp hk0 184 [.tmp 6] Tryz.func156 rfl rfl rfl rfl ?_
 unfold M156 at hm
 refine vs (v0 ?_)
 refine ve fun hk => a_box hk rfl rfl fun k2 hk3 => qk hk3 rfl ?_
 refine ve fun hk => a_box hk rfl rfl fun k5 hk6 => qk hk6 rfl ?_
 refine vs (vs (v0 (vn (fun _ => Zh fd38_0 rfl rfl) (vl 1 _ ld3 rfl rfl rfl (v0 (vs (v0 ?_)))))))
 refine vjn hm (σ := Int × (List TChunk) × (List TExp)) (τ := AGh × AGh) (fun g s => [(some k5, .obj 81 (c_Loc p2)), (some k2, .obj 38 (c_Item p1)), (some p0K, .obj 30 ([.sc (.int .i64 s.1), aw g_Snaps.t g_Snaps.n g_Snaps.cap, aw g.1.t g.1.n g.1.cap, aw g.2.t g.2.n g.2.cap, aw g_Vols.t g_Vols.n g_Vols.cap])), (g_Snaps.t, .obj 60 (fl c_Snap (p0.Snaps : List TSnap) g_Snaps.sp)), (g.1.t, .obj 44 (fl c_Chunk (s.2.1 : List TChunk) g.1.sp)), (g.2.t, .obj 99 (fl c_Exp (s.2.2 : List TExp) g.2.sp)), (g_Vols.t, .obj 49 (fl c_Vol (p0.Vols : List TVol) g_Vols.sp))]) (fun g s => AOk g.1 35 (s.2.1 : List TChunk).length ∧ AOk g.2 3 (s.2.2 : List TExp).length) (fun g s => .nil) (fun x hm => ?_) ?_
 refine v0 ?_
 refine vi hm (fun hc0 hm => ?_) fun hc0 hm => ?_
 refine vs (v0 (vq0 (by kernel_rfl) (vn (fun _ => o_nil rfl) (vl 2 (.agg ([.sc (.int .i64 p0.Seq), aw g_Snaps.t g_Snaps.n g_Snaps.cap, aw g_Chunks.t g_Chunks.n g_Chunks.cap, aw g_Exps.t g_Exps.n g_Exps.cap, aw g_Vols.t g_Vols.n g_Vols.cap])) ld30 rfl rfl rfl (vn (fun _ => Zh fd38_1 rfl rfl) (vl 1 (.agg (c_id p1.Id)) ld36 rfl rfl rfl ?_))))))
 obtain ⟨_, hy0, hm⟩ := Zc hm
 refine vn (fun hk => o_call (ACalls_pure (.cons (Br.agg (.cons (Br.refl _ _) (.cons (Br.aw 3 cz_Snap ok_Snaps hk rfl) (.cons (Br.aw 4 cz_Chunk ok_Chunks hk rfl) (.cons (Br.aw 5 cz_Exp ok_Exps hk rfl) (.cons (Br.aw 6 cz_Vol ok_Vols hk rfl) .nil)))))) (.cons (Br.refl _ _) .nil)) rfl (W88 _ hy0)) rfl bd88 rfl) (vs (vs (v0 (v0 ?_))))
 refine vi hm (fun hc1 hm => ?_) fun hc1 hm => ?_
 refine vs (v0 (v0 ?_))
 refine vrt hm fun hm => ?_
 cases hm
 exact vr fun hk => Ret.of1 (.inl rfl) (rsT _ _ (.sc (.bool _)) rfl) (hp_pick hk [2, 3, 4, 5, 6] rfl).2 (ALe.refl _ _) ⟨g_Snaps, ok_Snaps, g_Chunks, ok_Chunks, g_Exps, ok_Exps, (hp_pick hk [2, 3, 4, 5, 6] rfl).1, rfl, rfl⟩
 refine v0 (v0 ?_)
 refine vz [(1000000, some p0K, .obj 30 ([.sc (.int .i64 p0.Seq), aw g_Snaps.t g_Snaps.n g_Snaps.cap, aw g_Chunks.t g_Chunks.n g_Chunks.cap, aw g_Exps.t g_Exps.n g_Exps.cap, aw g_Vols.t g_Vols.n g_Vols.cap])), (17, g_Chunks.t, .obj 44 (fl c_Chunk (p0.Chunks : List TChunk) g_Chunks.sp)), (1000000, some k5, .obj 81 (c_Loc p2))] mixed (fun hk => ⟨fun _ => hp_at 2 hk rfl, fun _ => hp_at 4 hk rfl, fun _ => hp_at 0 hk rfl, trivial⟩) fun hk => ?_
 refine z_w 0 rfl (fun S' h' hi hB => o_mv (.ptr _ _) rfl) ?_
 refine z_w 1 rfl (fun S' h' hi hB => o_nil rfl) ?_
 refine z_w 2 rfl (fun S' h' hi hB => Zh fd30_2 rfl rfl) ?_
 refine z_w 3 rfl (fun S' h' hi hB => Zg (aw g_Chunks.t g_Chunks.n g_Chunks.cap) ld26 rfl (At.s (InvL.get 0 hi rfl (hB 1000000 (by kernel_rfl)))) rfl) ?_
 refine z_w 4 rfl (fun S' h' hi hB => o_mv (.sc (.int _ _)) rfl) ?_
 refine z_w 5 rfl (fun S' h' hi hB => o_mv (.ptr _ _) rfl) ?_
 refine z_w 6 rfl (fun S' h' hi hB => o_nil rfl) ?_
 refine z_w 7 rfl (fun S' h' hi hB => Zh fd30_2 rfl rfl) ?_
 refine z_w 8 rfl (fun S' h' hi hB => Zg (aw g_Chunks.t g_Chunks.n g_Chunks.cap) ld26 rfl (At.s (InvL.get 0 hi rfl (hB 1000000 (by kernel_rfl)))) rfl) ?_
 refine z_w 9 rfl (fun S' h' hi hB => o_mv (.sc (.int _ _)) rfl) ?_
 obtain ⟨x0, hx0, hm⟩ := Zc hm
 refine z_w 10 rfl (fun S' h' hi hB => o_ixA hx0 el26 ok_Chunks rfl rfl) ?_
 refine z_w 11 rfl (fun S' h' hi hB => o_flA (AOk.ne ok_Chunks hx0) fd44_3 rfl rfl) ?_
 refine z_w 12 rfl (fun S' h' hi hB => o_ldA (fo := 34) (.sl none 4 (List.map c_Loc x0.Locs)) hx0 cz_Chunk ok_Chunks ld42 rfl (InvL.get 1 hi rfl (hB 17 (by kernel_rfl))) (fun _ => rfl)) ?_
 refine z_w 13 rfl (fun S' h' hi hB => Zg (.agg (c_Loc p2)) ld81 rfl (At.s (InvL.get 2 hi rfl (hB 1000000 (by kernel_rfl)))) rfl) ?_
 obtain ⟨y0, hy1, hm⟩ := Zc hm
 refine z_w 14 rfl (fun S' h' hi hB => o_call (W185 _ hy1) rfl bd185 rfl) ?_
 obtain ⟨x1, hx1, hm⟩ := Zc hm
 refine z_w 15 rfl (fun S' h' hi hB => o_ixA hx1 el26 ok_Chunks rfl rfl) ?_
 refine z_w 16 rfl (fun S' h' hi hB => o_flA (AOk.ne ok_Chunks hx1) fd44_3 rfl rfl) ?_
 refine z_e 17 rfl (by kernel_rfl) (a_storeA (fo := 34) ({ x1 with Locs := y0 } : TChunk) 4 hk hx1 cz_Chunk ok_Chunks rfl rfl rfl rfl (ALeL.refl _ _) sz42 rfl rfl fun hk1 => ⟨⟨fun _ => hp_at 2 hk1 rfl, fun e => absurd e (by decide), fun _ => hp_at 0 hk1 rfl, trivial⟩, ?_⟩)
 refine z_nil (by kernel_rfl) (qk (f := .c 144 _ (.c 143 _ (.c 142 _ (.c 141 _ (.c 140 _ (.c 139 _ (.c 138 _ (.c 137 _ (.c 136 _ (.c 135 _ (.c 134 _ (.c 133 _ (.c 132 _ (.c 131 _ (.c 130 _ (.c 129 _ (.c 128 _ _))))))))))))))))) hk1 rfl ?_)
 exact vgo hm (g_Chunks, g_Exps) ⟨(AOk.set ok_Chunks), ok_Exps⟩ (lx .nil)
 refine vs (v0 (v0 ?_))
 refine vi hm (fun hc2 hm => ?_) fun hc2 hm => ?_
 refine vs (vs (v0 ?_))
 refine vlpH hm (σ := Int) (τ := Unit) (fun g s => [(some k5, .obj 81 (c_Loc p2)), (some k2, .obj 38 (c_Item p1)), (some p0K, .obj 30 ([.sc (.int .i64 p0.Seq), aw g_Snaps.t g_Snaps.n g_Snaps.cap, aw g_Chunks.t g_Chunks.n g_Chunks.cap, aw g_Exps.t g_Exps.n g_Exps.cap, aw g_Vols.t g_Vols.n g_Vols.cap])), (g_Snaps.t, .obj 60 (fl c_Snap (p0.Snaps : List TSnap) g_Snaps.sp)), (g_Chunks.t, .obj 44 (fl c_Chunk (p0.Chunks : List TChunk) g_Chunks.sp)), (g_Exps.t, .obj 99 (fl c_Exp (p0.Exps : List TExp) g_Exps.sp)), (g_Vols.t, .obj 49 (fl c_Vol (p0.Vols : List TVol) g_Vols.sp))]) (fun g s => .c 0 (.ptr p0K 0) (.c 4 (.ptr k2 0) (.c 5 (.ptr k5 0) (.c 8 (.sc (.int .i64 s)) .nil)))) () (lx (.k4 .nil)) ?_ ?_
 rintro _ q0 x hm
 replace hm : M156_L3 fuel p0 p1 p2 q0 = some x := hm
 unfold M156_L3 at hm
 refine vs (vs (v0 (vn (fun _ => o_nil rfl) (vn (fun _ => Zh fd30_1 rfl rfl) (vl 2 (aw g_Snaps.t g_Snaps.n g_Snaps.cap) ld25 rfl rfl rfl (vn (fun _ => o_lenA ln25 ok_Snaps rfl) (v0 ?_)))))))
 refine vi hm (fun hc3 hm => ?_) fun hc3 hm => ?_
 refine v0 (vs (v0 (vs (v0 (vq0 (by kernel_rfl) (vn (fun _ => o_nil rfl) (vn (fun _ => Zh fd30_1 rfl rfl) (vl 2 (aw g_Snaps.t g_Snaps.n g_Snaps.cap) ld25 rfl rfl rfl ?_))))))))
 obtain ⟨x2, hx2, hm⟩ := Zc hm
 refine vn (fun _ => o_ixA hx2 el25 ok_Snaps rfl rfl) (vn (fun _ => o_flA (AOk.ne ok_Snaps hx2) fd60_0 rfl rfl) (vn (fun hk => o_ldA (fo := 0) (.sc (.int .i64 x2.Seq)) hx2 cz_Snap ok_Snaps ld3 rfl (hp_at 3 hk rfl) (fun _ => rfl)) (vn (fun _ => Zh fd38_2 rfl rfl) (vl 1 _ ld3 rfl rfl rfl (v0 ?_)))))
 refine vi hm (fun hc4 hm => ?_) fun hc4 hm => ?_
 refine vs (v0 ?_)
 refine vz [(1000000, some p0K, .obj 30 ([.sc (.int .i64 p0.Seq), aw g_Snaps.t g_Snaps.n g_Snaps.cap, aw g_Chunks.t g_Chunks.n g_Chunks.cap, aw g_Exps.t g_Exps.n g_Exps.cap, aw g_Vols.t g_Vols.n g_Vols.cap])), (17, g_Snaps.t, .obj 60 (fl c_Snap (p0.Snaps : List TSnap) g_Snaps.sp)), (1000000, some k5, .obj 81 (c_Loc p2))] mixed (fun hk => ⟨fun _ => hp_at 2 hk rfl, fun _ => hp_at 3 hk rfl, fun _ => hp_at 0 hk rfl, trivial⟩) fun hk => ?_
 refine z_w 0 rfl (fun S' h' hi hB => o_mv (.ptr _ _) rfl) ?_
 refine z_w 1 rfl (fun S' h' hi hB => o_nil rfl) ?_
 refine z_w 2 rfl (fun S' h' hi hB => Zh fd30_1 rfl rfl) ?_
 refine z_w 3 rfl (fun S' h' hi hB => Zg (aw g_Snaps.t g_Snaps.n g_Snaps.cap) ld25 rfl (At.s (InvL.get 0 hi rfl (hB 1000000 (by kernel_rfl)))) rfl) ?_
 refine z_w 4 rfl (fun S' h' hi hB => o_mv (.sc (.int _ _)) rfl) ?_
 refine z_w 5 rfl (fun S' h' hi hB => o_mv (.ptr _ _) rfl) ?_
 refine z_w 6 rfl (fun S' h' hi hB => o_nil rfl) ?_
 refine z_w 7 rfl (fun S' h' hi hB => Zh fd30_1 rfl rfl) ?_
 refine z_w 8 rfl (fun S' h' hi hB => Zg (aw g_Snaps.t g_Snaps.n g_Snaps.cap) ld25 rfl (At.s (InvL.get 0 hi rfl (hB 1000000 (by kernel_rfl)))) rfl) ?_
 refine z_w 9 rfl (fun S' h' hi hB => o_mv (.sc (.int _ _)) rfl) ?_
 obtain ⟨x3, hx3, hm⟩ := Zc hm
 refine z_w 10 rfl (fun S' h' hi hB => o_ixA hx3 el25 ok_Snaps rfl rfl) ?_
 refine z_w 11 rfl (fun S' h' hi hB => o_flA (AOk.ne ok_Snaps hx3) fd60_2 rfl rfl) ?_
 refine z_w 12 rfl (fun S' h' hi hB => o_ldA (fo := 3) (.sl none 4 (List.map c_Loc x3.Locs)) hx3 cz_Snap ok_Snaps ld42 rfl (InvL.get 1 hi rfl (hB 17 (by kernel_rfl))) (fun _ => rfl)) ?_
 refine z_w 13 rfl (fun S' h' hi hB => Zg (.agg (c_Loc p2)) ld81 rfl (At.s (InvL.get 2 hi rfl (hB 1000000 (by kernel_rfl)))) rfl) ?_
 obtain ⟨y1, hy2, hm⟩ := Zc hm
 refine z_w 14 rfl (fun S' h' hi hB => o_call (W185 _ hy2) rfl bd185 rfl) ?_
 obtain ⟨x4, hx4, hm⟩ := Zc hm
 refine z_w 15 rfl (fun S' h' hi hB => o_ixA hx4 el25 ok_Snaps rfl rfl) ?_
 refine z_w 16 rfl (fun S' h' hi hB => o_flA (AOk.ne ok_Snaps hx4) fd60_2 rfl rfl) ?_
 refine z_e 17 rfl (by kernel_rfl) (a_storeA (fo := 3) ({ x4 with Locs := y1 } : TSnap) 3 hk hx4 cz_Snap ok_Snaps rfl rfl rfl rfl (ALeL.refl _ _) sz42 rfl rfl fun hk2 => ⟨⟨fun _ => hp_at 2 hk2 rfl, fun e => absurd e (by decide), fun _ => hp_at 0 hk2 rfl, trivial⟩, ?_⟩)
 refine z_nil (by kernel_rfl) (qk (f := .c 183 _ (.c 182 _ (.c 181 _ (.c 180 _ (.c 179 _ (.c 178 _ (.c 177 _ (.c 176 _ (.c 175 _ (.c 174 _ (.c 173 _ (.c 172 _ (.c 171 _ (.c 170 _ (.c 169 _ (.c 168 _ (.c 167 _ _))))))))))))))))) hk2 rfl ?_)
 refine vs (v0 (v0 ?_))
 refine vrt hm fun hm => ?_
 refine vrt hm fun hm => ?_
 cases hm
 exact vr fun hk => Ret.of1 (.inl rfl) (rsT _ _ (.sc (.bool _)) rfl) (hp_pick hk [2, 3, 4, 5, 6] rfl).2 (ALe.refl _ _) ⟨g_Snaps, (AOk.set ok_Snaps), g_Chunks, ok_Chunks, g_Exps, ok_Exps, (hp_pick hk [2, 3, 4, 5, 6] rfl).1, rfl, rfl⟩
 refine v0 (v0 ?_)
 exact vgo hm () trivial (lx (.k4 .nil))
 refine v0 ?_
 exact vbk hm () trivial (lx (.k4 .nil))
 rintro _ r0 hm
 refine vs (v0 (v0 ?_))
 refine vrt hm fun hm => ?_
 cases hm
 exact vr fun hk => Ret.of1 (.inl rfl) (rsT _ _ (.sc (.bool _)) rfl) (hp_pick hk [2, 3, 4, 5, 6] rfl).2 (ALe.refl _ _) ⟨g_Snaps, ok_Snaps, g_Chunks, ok_Chunks, g_Exps, ok_Exps, (hp_pick hk [2, 3, 4, 5, 6] rfl).1, rfl, rfl⟩
 refine vs (v0 (vs ?_))
 refine vlpH hm (σ := Int) (τ := Unit) (fun g s => [(some k5, .obj 81 (c_Loc p2)), (some k2, .obj 38 (c_Item p1)), (some p0K, .obj 30 ([.sc (.int .i64 p0.Seq), aw g_Snaps.t g_Snaps.n g_Snaps.cap, aw g_Chunks.t g_Chunks.n g_Chunks.cap, aw g_Exps.t g_Exps.n g_Exps.cap, aw g_Vols.t g_Vols.n g_Vols.cap])), (g_Snaps.t, .obj 60 (fl c_Snap (p0.Snaps : List TSnap) g_Snaps.sp)), (g_Chunks.t, .obj 44 (fl c_Chunk (p0.Chunks : List TChunk) g_Chunks.sp)), (g_Exps.t, .obj 99 (fl c_Exp (p0.Exps : List TExp) g_Exps.sp)), (g_Vols.t, .obj 49 (fl c_Vol (p0.Vols : List TVol) g_Vols.sp))]) (fun g s => .c 0 (.ptr p0K 0) (.c 4 (.ptr k2 0) (.c 5 (.ptr k5 0) (.c 9 (.sc (.int .i64 s)) .nil)))) () (lx (.k4 .nil)) ?_ ?_
 rintro _ q1 x hm
 replace hm : M156_L1 fuel p0 p1 q1 = some x := hm
 unfold M156_L1 at hm
 refine vs (vs ?_)
 refine vjnH hm (σ := Bool) (τ := Unit) (fun g s => [(some k5, .obj 81 (c_Loc p2)), (some k2, .obj 38 (c_Item p1)), (some p0K, .obj 30 ([.sc (.int .i64 p0.Seq), aw g_Snaps.t g_Snaps.n g_Snaps.cap, aw g_Chunks.t g_Chunks.n g_Chunks.cap, aw g_Exps.t g_Exps.n g_Exps.cap, aw g_Vols.t g_Vols.n g_Vols.cap])), (g_Snaps.t, .obj 60 (fl c_Snap (p0.Snaps : List TSnap) g_Snaps.sp)), (g_Chunks.t, .obj 44 (fl c_Chunk (p0.Chunks : List TChunk) g_Chunks.sp)), (g_Exps.t, .obj 99 (fl c_Exp (p0.Exps : List TExp) g_Exps.sp)), (g_Vols.t, .obj 49 (fl c_Vol (p0.Vols : List TVol) g_Vols.sp))]) (fun g s => .c 0 (.ptr p0K 0) (.c 4 (.ptr k2 0) (.c 5 (.ptr k5 0) (.c 9 (.sc (.int .i64 q1)) (.c 32 (.sc (.bool s)) .nil))))) (fun x hm => ?_) ?_
 refine v0 (vq0 (by kernel_rfl) (vn (fun _ => o_nil rfl) (vn (fun _ => Zh fd30_3 rfl rfl) (vl 2 (aw g_Exps.t g_Exps.n g_Exps.cap) ld27 rfl rfl rfl (vn (fun _ => o_lenA ln27 ok_Exps rfl) ?_)))))
 refine vi hm (fun hb0 hm => ?_) fun hb0 hm => ?_
 rw [hb0]
 refine vn (fun _ => o_nil rfl) (vn (fun _ => Zh fd30_3 rfl rfl) (vl 2 (aw g_Exps.t g_Exps.n g_Exps.cap) ld27 rfl rfl rfl ?_))
 obtain ⟨x5, hx5, hm⟩ := Zc hm
 refine vn (fun _ => o_ixA hx5 el27 ok_Exps rfl rfl) (vn (fun _ => o_flA (AOk.ne ok_Exps hx5) fd99_0 rfl rfl) (vn (fun hk => o_ldA (fo := 0) (.sc (.int .i64 x5.Seq)) hx5 cz_Exp ok_Exps ld3 rfl (hp_at 5 hk rfl) (fun _ => rfl)) (vn (fun _ => Zh fd38_2 rfl rfl) (vl 1 _ ld3 rfl rfl rfl ?_))))
 exact vgo hm () trivial (lx (.k5 .nil))
 rw [hb0]
 exact vgo hm () trivial (lx (.k5 .nil))
 rintro _ j0 hm
 refine v0 ?_
 refine vi hm (fun hc5 hm => ?_) fun hc5 hm => ?_
 refine v0 (v0 (v0 ?_))
 exact vgo hm () trivial (lx (.k4 .nil))
 refine v0 ?_
 exact vbk hm () trivial (lx (.k4 .nil))
 rintro _ r1 hm
 refine vs (vs ?_)
 refine vjnH hm (σ := Bool) (τ := Unit) (fun g s => [(some k5, .obj 81 (c_Loc p2)), (some k2, .obj 38 (c_Item p1)), (some p0K, .obj 30 ([.sc (.int .i64 p0.Seq), aw g_Snaps.t g_Snaps.n g_Snaps.cap, aw g_Chunks.t g_Chunks.n g_Chunks.cap, aw g_Exps.t g_Exps.n g_Exps.cap, aw g_Vols.t g_Vols.n g_Vols.cap])), (g_Snaps.t, .obj 60 (fl c_Snap (p0.Snaps : List TSnap) g_Snaps.sp)), (g_Chunks.t, .obj 44 (fl c_Chunk (p0.Chunks : List TChunk) g_Chunks.sp)), (g_Exps.t, .obj 99 (fl c_Exp (p0.Exps : List TExp) g_Exps.sp)), (g_Vols.t, .obj 49 (fl c_Vol (p0.Vols : List TVol) g_Vols.sp))]) (fun g s => .c 0 (.ptr p0K 0) (.c 4 (.ptr k2 0) (.c 5 (.ptr k5 0) (.c 9 (.sc (.int .i64 r1)) (.c 54 (.sc (.bool s)) .nil))))) (fun x hm => ?_) ?_
 refine v0 (vq0 (by kernel_rfl) (vn (fun _ => o_nil rfl) (vn (fun _ => Zh fd30_3 rfl rfl) (vl 2 (aw g_Exps.t g_Exps.n g_Exps.cap) ld27 rfl rfl rfl (vn (fun _ => o_lenA ln27 ok_Exps rfl) ?_)))))
 refine vi hm (fun hb1 hm => ?_) fun hb1 hm => ?_
 rw [hb1]
 refine vn (fun _ => o_nil rfl) (vn (fun _ => Zh fd30_3 rfl rfl) (vl 2 (aw g_Exps.t g_Exps.n g_Exps.cap) ld27 rfl rfl rfl ?_))
 obtain ⟨x6, hx6, hm⟩ := Zc hm
 refine vn (fun _ => o_ixA hx6 el27 ok_Exps rfl rfl) (vn (fun _ => o_flA (AOk.ne ok_Exps hx6) fd99_0 rfl rfl) (vn (fun hk => o_ldA (fo := 0) (.sc (.int .i64 x6.Seq)) hx6 cz_Exp ok_Exps ld3 rfl (hp_at 5 hk rfl) (fun _ => rfl)) (vn (fun _ => Zh fd38_2 rfl rfl) (vl 1 _ ld3 rfl rfl rfl ?_))))
 exact vgo hm () trivial (lx (.k5 .nil))
 rw [hb1]
 exact vgo hm () trivial (lx (.k5 .nil))
 rintro _ j1 hm
 refine v0 ?_
 refine vi hm (fun hc6 hm => ?_) fun hc6 hm => ?_
 refine vs (v0 ?_)
 refine vz [(1000000, some p0K, .obj 30 ([.sc (.int .i64 p0.Seq), aw g_Snaps.t g_Snaps.n g_Snaps.cap, aw g_Chunks.t g_Chunks.n g_Chunks.cap, aw g_Exps.t g_Exps.n g_Exps.cap, aw g_Vols.t g_Vols.n g_Vols.cap])), (17, g_Exps.t, .obj 99 (fl c_Exp (p0.Exps : List TExp) g_Exps.sp)), (1000000, some k5, .obj 81 (c_Loc p2))] mixed (fun hk => ⟨fun _ => hp_at 2 hk rfl, fun _ => hp_at 5 hk rfl, fun _ => hp_at 0 hk rfl, trivial⟩) fun hk => ?_
 refine z_w 0 rfl (fun S' h' hi hB => o_mv (.ptr _ _) rfl) ?_
 refine z_w 1 rfl (fun S' h' hi hB => o_nil rfl) ?_
 refine z_w 2 rfl (fun S' h' hi hB => Zh fd30_3 rfl rfl) ?_
 refine z_w 3 rfl (fun S' h' hi hB => Zg (aw g_Exps.t g_Exps.n g_Exps.cap) ld27 rfl (At.s (InvL.get 0 hi rfl (hB 1000000 (by kernel_rfl)))) rfl) ?_
 refine z_w 4 rfl (fun S' h' hi hB => o_mv (.sc (.int _ _)) rfl) ?_
 refine z_w 5 rfl (fun S' h' hi hB => o_mv (.ptr _ _) rfl) ?_
 refine z_w 6 rfl (fun S' h' hi hB => o_nil rfl) ?_
 refine z_w 7 rfl (fun S' h' hi hB => Zh fd30_3 rfl rfl) ?_
 refine z_w 8 rfl (fun S' h' hi hB => Zg (aw g_Exps.t g_Exps.n g_Exps.cap) ld27 rfl (At.s (InvL.get 0 hi rfl (hB 1000000 (by kernel_rfl)))) rfl) ?_
 refine z_w 9 rfl (fun S' h' hi hB => o_mv (.sc (.int _ _)) rfl) ?_
 obtain ⟨x7, hx7, hm⟩ := Zc hm
 refine z_w 10 rfl (fun S' h' hi hB => o_ixA hx7 el27 ok_Exps rfl rfl) ?_
 refine z_w 11 rfl (fun S' h' hi hB => o_flA (AOk.ne ok_Exps hx7) fd99_2 rfl rfl) ?_
 refine z_w 12 rfl (fun S' h' hi hB => o_ldA (fo := 2) (.sl none 4 (List.map c_Loc x7.Locs)) hx7 cz_Exp ok_Exps ld42 rfl (InvL.get 1 hi rfl (hB 17 (by kernel_rfl))) (fun _ => rfl)) ?_
 refine z_w 13 rfl (fun S' h' hi hB => Zg (.agg (c_Loc p2)) ld81 rfl (At.s (InvL.get 2 hi rfl (hB 1000000 (by kernel_rfl)))) rfl) ?_
 obtain ⟨y2, hy3, hm⟩ := Zc hm
 refine z_w 14 rfl (fun S' h' hi hB => o_call (W185 _ hy3) rfl bd185 rfl) ?_
 obtain ⟨x8, hx8, hm⟩ := Zc hm
 refine z_w 15 rfl (fun S' h' hi hB => o_ixA hx8 el27 ok_Exps rfl rfl) ?_
 refine z_w 16 rfl (fun S' h' hi hB => o_flA (AOk.ne ok_Exps hx8) fd99_2 rfl rfl) ?_
 refine z_e 17 rfl (by kernel_rfl) (a_storeA (fo := 2) ({ x8 with Locs := y2 } : TExp) 5 hk hx8 cz_Exp ok_Exps rfl rfl rfl rfl (ALeL.refl _ _) sz42 rfl rfl fun hk4 => ⟨⟨fun _ => hp_at 2 hk4 rfl, fun e => absurd e (by decide), fun _ => hp_at 0 hk4 rfl, trivial⟩, ?_⟩)
 refine z_nil (by kernel_rfl) (qk (f := .c 71 _ (.c 70 _ (.c 69 _ (.c 68 _ (.c 67 _ (.c 66 _ (.c 65 _ (.c 64 _ (.c 63 _ (.c 62 _ (.c 61 _ (.c 60 _ (.c 59 _ (.c 58 _ (.c 57 _ (.c 56 _ (.c 55 _ _))))))))))))))))) hk4 rfl ?_)
 refine vs (v0 (v0 ?_))
 refine vrt hm fun hm => ?_
 cases hm
 exact vr fun hk => Ret.of1 (.inl rfl) (rsT _ _ (.sc (.bool _)) rfl) (hp_pick hk [2, 3, 4, 5, 6] rfl).2 (ALe.refl _ _) ⟨g_Snaps, ok_Snaps, g_Chunks, ok_Chunks, g_Exps, (AOk.set ok_Exps), (hp_pick hk [2, 3, 4, 5, 6] rfl).1, rfl, rfl⟩
 refine v0 (vs (v0 (vs (vle (fun hk => LeF.fzO (n := 184) (f := _) 5 2 ([.sc (.int .i64 p0.Seq), aw g_Snaps.t g_Snaps.n g_Snaps.cap, aw g_Chunks.t g_Chunks.n g_Chunks.cap, .sl none 3 (List.map c_Exp p0.Exps), aw g_Vols.t g_Vols.n g_Vols.cap]) hk rfl (.cons (Fz.refl _ _ _) (.cons (Fz.refl _ _ _) (.cons (Fz.refl _ _ _) (.cons (Fz.aw 5 cz_Exp ok_Exps hk rfl (.refl _)) (.cons (Fz.refl _ _ _) .nil)))))) (v0 ?_)))))
 refine vz [(1000000, some p0K, .obj 30 ([.sc (.int .i64 p0.Seq), aw g_Snaps.t g_Snaps.n g_Snaps.cap, aw g_Chunks.t g_Chunks.n g_Chunks.cap, .sl none 3 (List.map c_Exp p0.Exps), aw g_Vols.t g_Vols.n g_Vols.cap])), (1000000, some k2, .obj 38 (c_Item p1)), (1000000, some k5, .obj 81 (c_Loc p2))] mixed (fun hk => ⟨fun _ => hp_at 2 hk rfl, fun _ => hp_at 1 hk rfl, fun _ => hp_at 0 hk rfl, trivial⟩) fun hk => ?_
 refine z_w 0 rfl (fun S' h' hi hB => o_mv (.sc (.slice _ _ _)) rfl) ?_
 refine z_w 1 rfl (fun S' h' hi hB => o_mv (.ptr _ _) rfl) ?_
 refine z_w 2 rfl (fun S' h' hi hB => o_nil rfl) ?_
 refine z_w 3 rfl (fun S' h' hi hB => Zh fd30_3 rfl rfl) ?_
 refine z_w 4 rfl (fun S' h' hi hB => Zg (.sl none 3 (List.map c_Exp p0.Exps)) ld27 rfl (At.s (InvL.get 0 hi rfl (hB 1000000 (by kernel_rfl)))) rfl) ?_
 refine z_w 5 rfl (fun S' h' hi hB => o_mv (.sc (.int _ _)) rfl) ?_
 obtain ⟨_, hx9, hm⟩ := Zc hm
 refine z_w 6 rfl (fun S' h' hi hB => o_slc hx9 el27 rfl rfl rfl rfl) ?_
 refine z_w 8 rfl (fun S' h' hi hB => Zh fd38_2 rfl rfl) ?_
 refine z_w 9 rfl (fun S' h' hi hB => Zg (.sc (.int .i64 p1.Seq)) ld3 rfl (At.s (InvL.get 1 hi rfl (hB 1000000 (by kernel_rfl)))) rfl) ?_
 refine z_w 10 rfl (fun S' h' hi hB => Zh fd38_3 rfl rfl) ?_
 refine z_w 11 rfl (fun S' h' hi hB => Zg (.sc (.int .i64 p1.Of)) ld3 rfl (At.s (InvL.get 1 hi rfl (hB 1000000 (by kernel_rfl)))) rfl) ?_
 refine z_w 12 rfl (fun S' h' hi hB => Zg (.agg (c_Loc p2)) ld81 rfl (At.s (InvL.get 2 hi rfl (hB 1000000 (by kernel_rfl)))) rfl) ?_
 refine z_w 13 rfl (fun S' h' hi hB => o_lit (List.map c_Loc ([p2] : List TLoc)) et42 rfl rfl rfl rfl) ?_
 refine z_w 14 rfl (fun S' h' hi hB => o_bld (c_Exp ({ Seq := p1.Seq, Of := p1.Of, Locs := ([p2] : List TLoc) } : TExp)) bt99 rfl) ?_
 refine z_w 15 rfl (fun S' h' hi hB => o_lit (List.map c_Exp ([({ Seq := p1.Seq, Of := p1.Of, Locs := ([p2] : List TLoc) } : TExp)] : List TExp)) et27 rfl rfl rfl rfl) ?_
 obtain ⟨z0, hz0, hm⟩ := Zc hm
 refine z_e 7 rfl (by kernel_rfl) (a_appA0 (c := c_Exp) hz0 et27 rfl zr99 rfl cz_Exp rfl hk rfl fun ag0 ok0 hk5 => ⟨⟨fun _ => hp_at 3 hk5 rfl, fun _ => hp_at 2 hk5 rfl, fun _ => hp_at 1 hk5 rfl, trivial⟩, ?_⟩)
 obtain ⟨z1, hz1, hm⟩ := Zc hm
 refine z_e 16 rfl (by kernel_rfl) (a_appA (c := c_Exp) 0 hz1 et27 rfl zr99 rfl cz_Exp rfl rfl ok0 hk5 rfl fun ag1 ok1 hk7 => ⟨⟨fun _ => hp_at 3 hk7 rfl, fun _ => hp_at 2 hk7 rfl, fun _ => hp_at 1 hk7 rfl, trivial⟩, ?_⟩)
 refine z_w 17 rfl (fun S' h' hi hB => o_as (aw _ _ _) rfl) ?_
 refine z_nil (by kernel_rfl) (qk (f := .c 10 _ (.c 88 _ (.c 79 _ (.c 87 _ (.c 86 _ (.c 85 _ (.c 84 _ (.c 83 _ (.c 82 _ (.c 81 _ (.c 80 _ (.c 78 _ (.c 77 _ (.c 76 _ (.c 75 _ (.c 74 _ (.c 73 _ (.c 72 _ _)))))))))))))))))) hk7 rfl ?_)
 refine vs (v0 (vn (fun _ => o_nil rfl) (vn (fun _ => Zh fd30_3 rfl rfl) (vl 3 _ ld27 rfl rfl rfl ?_))))
 obtain ⟨_, hx10, hm⟩ := Zc hm
 refine vn (fun _ => o_slc hx10 el27 rfl rfl rfl rfl) ?_
 obtain ⟨z2, hz2, hm⟩ := Zc hm
 refine ve fun hk => a_appA (c := c_Exp) 0 hz2 et27 rfl zr99 rfl cz_Exp rfl rfl ok1 hk rfl fun ag2 ok2 hk8 => qk hk8 rfl ?_
 refine vn (fun _ => o_nil rfl) (vn (fun _ => Zh fd30_3 rfl rfl) ?_)
 refine ve fun hk => a_store 3 ([.sc (.int .i64 p0.Seq), aw g_Snaps.t g_Snaps.n g_Snaps.cap, aw g_Chunks.t g_Chunks.n g_Chunks.cap, aw ag2.t ag2.n ag2.cap, aw g_Vols.t g_Vols.n g_Vols.cap]) hk rfl rfl (cellsOf_aw rfl) (all_c (ocell_aw _ _ _) rfl) sz27 rfl rfl fun hk9 => qk hk9 rfl ?_
 refine vs ?_
 refine vjnH hm (σ := Bool) (τ := Unit) (fun g s => [(ag2.t, .obj 99 (fl c_Exp (z2 : List TExp) ag2.sp)), (some k5, .obj 81 (c_Loc p2)), (some k2, .obj 38 (c_Item p1)), (some p0K, .obj 30 ([.sc (.int .i64 p0.Seq), aw g_Snaps.t g_Snaps.n g_Snaps.cap, aw g_Chunks.t g_Chunks.n g_Chunks.cap, aw ag2.t ag2.n ag2.cap, aw g_Vols.t g_Vols.n g_Vols.cap])), (g_Snaps.t, .obj 60 (fl c_Snap (p0.Snaps : List TSnap) g_Snaps.sp)), (g_Chunks.t, .obj 44 (fl c_Chunk (p0.Chunks : List TChunk) g_Chunks.sp)), (g_Vols.t, .obj 49 (fl c_Vol (p0.Vols : List TVol) g_Vols.sp))]) (fun g s => .c 0 (.ptr p0K 0) (.c 4 (.ptr k2 0) (.c 111 (.sc (.bool s)) .nil))) (fun x hm => ?_) ?_
 refine v0 (vq0 (by kernel_rfl) (vn (fun _ => Zh fd38_2 rfl rfl) (vl 2 _ ld3 rfl rfl rfl (vn (fun _ => o_nil rfl) (vn (fun _ => Zh fd30_0 rfl rfl) (vl 3 _ ld3 rfl rfl rfl ?_))))))
 refine vi hm (fun hb2 hm => ?_) fun hb2 hm => ?_
 rw [hb2]
 refine vn (fun _ => Zh fd38_2 rfl rfl) (vl 2 _ ld3 rfl rfl rfl ?_)
 exact vgo hm () trivial (lx (.k3 .nil))
 rw [hb2]
 exact vgo hm () trivial (lx (.k3 .nil))
 rintro _ j2 hm
 refine vjnH hm (σ := Int) (τ := Unit) (fun g s => [(ag2.t, .obj 99 (fl c_Exp (z2 : List TExp) ag2.sp)), (some k5, .obj 81 (c_Loc p2)), (some k2, .obj 38 (c_Item p1)), (some p0K, .obj 30 ([.sc (.int .i64 s), aw g_Snaps.t g_Snaps.n g_Snaps.cap, aw g_Chunks.t g_Chunks.n g_Chunks.cap, aw ag2.t ag2.n ag2.cap, aw g_Vols.t g_Vols.n g_Vols.cap])), (g_Snaps.t, .obj 60 (fl c_Snap (p0.Snaps : List TSnap) g_Snaps.sp)), (g_Chunks.t, .obj 44 (fl c_Chunk (p0.Chunks : List TChunk) g_Chunks.sp)), (g_Vols.t, .obj 49 (fl c_Vol (p0.Vols : List TVol) g_Vols.sp))]) (fun g s => .nil) (fun x hm => ?_) ?_
 refine v0 ?_
 refine vi hm (fun hc7 hm => ?_) fun hc7 hm => ?_
 refine v0 (vn (fun _ => Zh fd38_2 rfl rfl) (vl 2 _ ld3 rfl rfl rfl (vn (fun _ => o_nil rfl) (vn (fun _ => Zh fd30_0 rfl rfl) ?_))))
 refine ve fun hk => a_store 3 ([.sc (.int .i64 (IntKind.wrap .i64 (p1.Seq + 1))), aw g_Snaps.t g_Snaps.n g_Snaps.cap, aw g_Chunks.t g_Chunks.n g_Chunks.cap, aw ag2.t ag2.n ag2.cap, aw g_Vols.t g_Vols.n g_Vols.cap]) hk rfl rfl rfl rfl sz3 rfl rfl fun hk10 => qk hk10 rfl ?_
 exact vgo hm () trivial (lx .nil)
 refine v0 ?_
 exact vgo hm () trivial (lx .nil)
 rintro _ j3 hm
 exact vgo hm (g_Chunks, ag2) ⟨ok_Chunks, ok2⟩ (lxs [1, 2, 3, 4, 5, 0, 6] rfl rfl .nil)
 rintro ⟨ag3, ag4⟩ ⟨j4, j5, j6⟩ ⟨ok3, ok4⟩ hm
 refine vs (v0 (v0 ?_))
 cases hm
 exact vr fun hk => Ret.of1 (.inl rfl) (rsT _ _ (.sc (.bool _)) rfl) (hp_pick hk [2, 3, 4, 5, 6] rfl).2 (ALe.refl _ _) ⟨g_Snaps, ok_Snaps, ag3, ok3, ag4, ok4, (hp_pick hk [2, 3, 4, 5, 6] rfl).1, rfl, rfl⟩
theorem bd156 : bodied Tryz.prog 156 = true := by kernel_rfl
open Go.Vm
def M91_L1 (fuel : Nat) (p1 : TChange) (q0 : Bool) (q1 : Int) : Option (Lp (Bool × Int) (Lp (Int × (List TSnap) × (List TChunk) × (List TExp) × (List TVol)) (Int × Int × (List TSnap) × (List TChunk) × (List TExp) × (List TVol)))) :=
 if (decide (q1 < (p1.Chunks.length : Int))) = true then (after (if q0 = true then ((ix p1.Chunks q1).bind fun x0 => if x0.Staged = true then ((ix p1.Chunks q1).bind fun x1 => some (.brk ((x1.Locs.length : Int) == 0))) else some (.brk false)) else some (.brk false) : Option (Lp (Bool) (Lp (Bool × Int) (Lp (Int × (List TSnap) × (List TChunk) × (List TExp) × (List TVol)) (Int × Int × (List TSnap) × (List TChunk) × (List TExp) × (List TVol)))))) fun j0 => some (.go (j0, IntKind.wrap .i64 (q1 + 1)))) else some (.brk (q0, q1))
def M91_L3 (fuel : Nat) (p1 : TChange) (q0 : List TChunk) (q1 : Int) : Option (Lp ((List TChunk) × Int) (Lp (Int × (List TSnap) × (List TChunk) × (List TExp) × (List TVol)) (Int × Int × (List TSnap) × (List TChunk) × (List TExp) × (List TVol)))) :=
 if (decide (q1 < (p1.Chunks.length : Int))) = true then ((ix p1.Chunks q1).bind fun x0 => (M153a fuel q0 x0).bind fun y0 => some (.go (y0, IntKind.wrap .i64 (q1 + 1)))) else some (.brk (q0, q1))
def M91_L5 (fuel : Nat) (p1 : TChange) (q0 : Bool) (q1 : Int) : Option (Lp (Bool × Int) (Lp (Int × (List TSnap) × (List TChunk) × (List TExp) × (List TVol)) (Lp (Int × (List TSnap) × (List TChunk) × (List TExp) × (List TVol)) (Lp (Int × (List TSnap) × (List TChunk) × (List TExp) × (List TVol)) (Int × Int × (List TSnap) × (List TChunk) × (List TExp) × (List TVol)))))) :=
 if (decide (q1 < (p1.Items.length : Int))) = true then (after (if q0 = true then ((ix p1.Items q1).bind fun x0 => if (decide (1 ≤ x0.Kind)) = true then ((ix p1.Items q1).bind fun x1 => some (.brk (decide (x1.Kind ≤ 3)))) else some (.brk false)) else some (.brk false) : Option (Lp (Bool) (Lp (Bool × Int) (Lp (Int × (List TSnap) × (List TChunk) × (List TExp) × (List TVol)) (Lp (Int × (List TSnap) × (List TChunk) × (List TExp) × (List TVol)) (Lp (Int × (List TSnap) × (List TChunk) × (List TExp) × (List TVol)) (Int × Int × (List TSnap) × (List TChunk) × (List TExp) × (List TVol)))))))) fun j0 => some (.go (j0, IntKind.wrap .i64 (q1 + 1)))) else some (.brk (q0, q1))
def M91_L7 (fuel : Nat) (p0 : TCatalog) (p1 : TChange) (x0 : TVol) (q0 : Int) (q1 : List TSnap) (q2 : List TChunk) (q3 : List TExp) (q4 : Int) : Option (Lp (Int × (List TSnap) × (List TChunk) × (List TExp) × Int) (Lp (Int × (List TSnap) × (List TChunk) × (List TExp) × (List TVol)) (Lp (Int × (List TSnap) × (List TChunk) × (List TExp) × (List TVol)) (Lp (Int × (List TSnap) × (List TChunk) × (List TExp) × (List TVol)) (Int × Int × (List TSnap) × (List TChunk) × (List TExp) × (List TVol)))))) :=
 if (decide (q4 < (p1.Items.length : Int))) = true then ((ix p1.Items q4).bind fun x1 => (ix p1.Items q4).bind fun x2 => (ix p1.Items q4).bind fun x3 => (M156 fuel ({ Seq := q0, Snaps := q1, Chunks := q2, Exps := q3, Vols := (p0.Vols.set p1.Vol.toNat ({ x0 with State := 2 })).set p1.Vol.toNat ({ ({ x0 with State := 2 } : TVol) with Files := IntKind.wrap .i64 (x0.Files + 1) }) } : TCatalog) x1 ({ Vol := p1.Vol, File := ({ ({ x0 with State := 2 } : TVol) with Files := IntKind.wrap .i64 (x0.Files + 1) } : TVol).Files, Off := x2.Off, Len := x3.Len } : TLoc)).bind fun y0 => if (!y0.1) = true then (some (.ret (.ret (.ret (.ret (8, y0.2.1, y0.2.2.1, y0.2.2.2.1, y0.2.2.2.2, (p0.Vols.set p1.Vol.toNat ({ x0 with State := 2 })).set p1.Vol.toNat ({ ({ x0 with State := 2 } : TVol) with Files := IntKind.wrap .i64 (x0.Files + 1) }))))))) else some (.go (y0.2.1, y0.2.2.1, y0.2.2.2.1, y0.2.2.2.2, IntKind.wrap .i64 (q4 + 1)))) else some (.brk (q0, q1, q2, q3, q4))
def M91_L9 (fuel : Nat) (p0 : TCatalog) (p1 : TChange) (x0 : TVol) (r0 : Int) (r1 : List TExp) (q0 : List TSnap) (q1 : List TChunk) (q2 : Int) : Option (Lp ((List TSnap) × (List TChunk) × Int) (Lp (Int × (List TSnap) × (List TChunk) × (List TExp) × (List TVol)) (Lp (Int × (List TSnap) × (List TChunk) × (List TExp) × (List TVol)) (Lp (Int × (List TSnap) × (List TChunk) × (List TExp) × (List TVol)) (Int × Int × (List TSnap) × (List TChunk) × (List TExp) × (List TVol)))))) :=
 if (decide (q2 < (p1.Items.length : Int))) = true then ((ix p1.Items q2).bind fun x1 => after (if (x1.Kind == 3) = true then ((ix p1.Items q2).bind fun x2 => (M154 fuel ({ Seq := r0, Snaps := q0, Chunks := q1, Exps := r1, Vols := (p0.Vols.set p1.Vol.toNat ({ x0 with State := 2 })).set p1.Vol.toNat ({ ({ x0 with State := 2 } : TVol) with Files := IntKind.wrap .i64 (x0.Files + 1) }) } : TCatalog) x2.Of).bind fun y0 => some (.brk (y0.2.1, y0.2.2))) else some (.brk (q0, q1)) : Option (Lp ((List TSnap) × (List TChunk)) (Lp ((List TSnap) × (List TChunk) × Int) (Lp (Int × (List TSnap) × (List TChunk) × (List TExp) × (List TVol)) (Lp (Int × (List TSnap) × (List TChunk) × (List TExp) × (List TVol)) (Lp (Int × (List TSnap) × (List TChunk) × (List TExp) × (List TVol)) (Int × Int × (List TSnap) × (List TChunk) × (List TExp) × (List TVol)))))))) fun ⟨j0, j1⟩ => some (.go (j0, j1, IntKind.wrap .i64 (q2 + 1)))) else some (.brk (q0, q1, q2))
def M91_L11 (fuel : Nat) (p0 : TCatalog) (p1 : TChange) (x0 : TVol) (r0 : Int) (r1 : List TExp) (r2 : List TSnap) (q0 : List TChunk) (q1 : Int) : Option (Lp ((List TChunk) × Int) (Lp ((List TChunk)) (Lp (Int × (List TSnap) × (List TChunk) × (List TExp) × (List TVol)) (Lp (Int × (List TSnap) × (List TChunk) × (List TExp) × (List TVol)) (Lp (Int × (List TSnap) × (List TChunk) × (List TExp) × (List TVol)) (Int × Int × (List TSnap) × (List TChunk) × (List TExp) × (List TVol))))))) :=
 if (decide (q1 < (p1.Items.length : Int))) = true then ((ix p1.Items q1).bind fun x1 => after (if (x1.Kind == 1) = true then ((ix p1.Items q1).bind fun x2 => (M88 fuel ({ Seq := r0, Snaps := r2, Chunks := q0, Exps := r1, Vols := (p0.Vols.set p1.Vol.toNat ({ x0 with State := 2 })).set p1.Vol.toNat ({ ({ x0 with State := 2 } : TVol) with Files := IntKind.wrap .i64 (x0.Files + 1) }) } : TCatalog) x2.Id).bind fun y0 => after (if (decide (0 ≤ y0)) = true then ((ix q0 y0).bind fun x3 => (ix (q0.set y0.toNat ({ x3 with Staged := false })) y0).bind fun x4 => some (.brk ((q0.set y0.toNat ({ x3 with Staged := false })).set y0.toNat ({ x4 with Data := ([] : List Int) })))) else some (.brk q0) : Option (Lp ((List TChunk)) (Lp ((List TChunk)) (Lp ((List TChunk) × Int) (Lp ((List TChunk)) (Lp (Int × (List TSnap) × (List TChunk) × (List TExp) × (List TVol)) (Lp (Int × (List TSnap) × (List TChunk) × (List TExp) × (List TVol)) (Lp (Int × (List TSnap) × (List TChunk) × (List TExp) × (List TVol)) (Int × Int × (List TSnap) × (List TChunk) × (List TExp) × (List TVol)))))))))) fun j0 => some (.brk j0)) else some (.brk q0) : Option (Lp ((List TChunk)) (Lp ((List TChunk) × Int) (Lp ((List TChunk)) (Lp (Int × (List TSnap) × (List TChunk) × (List TExp) × (List TVol)) (Lp (Int × (List TSnap) × (List TChunk) × (List TExp) × (List TVol)) (Lp (Int × (List TSnap) × (List TChunk) × (List TExp) × (List TVol)) (Int × Int × (List TSnap) × (List TChunk) × (List TExp) × (List TVol))))))))) fun j1 => some (.go (j1, IntKind.wrap .i64 (q1 + 1)))) else some (.brk (q0, q1))
def M91_L13 (fuel : Nat) (p0 : TCatalog) (p1 : TChange) (q0 : List TChunk) (q1 : Int) : Option (Lp ((List TChunk) × Int) (Lp ((List TSnap) × (List TChunk) × (List TExp) × (List TVol)) (Lp (Int × (List TSnap) × (List TChunk) × (List TExp) × (List TVol)) (Lp (Int × (List TSnap) × (List TChunk) × (List TExp) × (List TVol)) (Lp (Int × (List TSnap) × (List TChunk) × (List TExp) × (List TVol)) (Int × Int × (List TSnap) × (List TChunk) × (List TExp) × (List TVol))))))) :=
 if (decide (q1 < (p0.Chunks.length : Int))) = true then ((ix p0.Chunks q1).bind fun x0 => (M157 fuel x0.Locs p1.Vol).bind fun y0 => after (if ({ x0 with Locs := y0 }.Staged) = true then (some (.brk true)) else some (.brk (decide (0 < (({ x0 with Locs := y0 }.Locs).length : Int)))) : Option (Lp (Bool) (Lp ((List TChunk) × Int) (Lp ((List TSnap) × (List TChunk) × (List TExp) × (List TVol)) (Lp (Int × (List TSnap) × (List TChunk) × (List TExp) × (List TVol)) (Lp (Int × (List TSnap) × (List TChunk) × (List TExp) × (List TVol)) (Lp (Int × (List TSnap) × (List TChunk) × (List TExp) × (List TVol)) (Int × Int × (List TSnap) × (List TChunk) × (List TExp) × (List TVol))))))))) fun j0 => after (if j0 = true then ((app q0 ([{ x0 with Locs := y0 }] : List TChunk)).bind fun z0 => some (.brk z0)) else some (.brk q0) : Option (Lp ((List TChunk)) (Lp ((List TChunk) × Int) (Lp ((List TSnap) × (List TChunk) × (List TExp) × (List TVol)) (Lp (Int × (List TSnap) × (List TChunk) × (List TExp) × (List TVol)) (Lp (Int × (List TSnap) × (List TChunk) × (List TExp) × (List TVol)) (Lp (Int × (List TSnap) × (List TChunk) × (List TExp) × (List TVol)) (Int × Int × (List TSnap) × (List TChunk) × (List TExp) × (List TVol))))))))) fun j1 => some (.go (j1, IntKind.wrap .i64 (q1 + 1)))) else some (.brk (q0, q1))
def M91_L15 (fuel : Nat) (p1 : TChange) (q0 : List TSnap) (q1 : Int) : Option (Lp ((List TSnap) × Int) (Lp ((List TSnap) × (List TChunk) × (List TExp) × (List TVol)) (Lp (Int × (List TSnap) × (List TChunk) × (List TExp) × (List TVol)) (Lp (Int × (List TSnap) × (List TChunk) × (List TExp) × (List TVol)) (Lp (Int × (List TSnap) × (List TChunk) × (List TExp) × (List TVol)) (Int × Int × (List TSnap) × (List TChunk) × (List TExp) × (List TVol))))))) :=
 if (decide (q1 < (q0.length : Int))) = true then ((ix q0 q1).bind fun x0 => (M157 fuel x0.Locs p1.Vol).bind fun y0 => (ix q0 q1).bind fun x1 => some (.go (q0.set q1.toNat ({ x1 with Locs := y0 }), IntKind.wrap .i64 (q1 + 1)))) else some (.brk (q0, q1))
def M91_L17 (fuel : Nat) (p0 : TCatalog) (p1 : TChange) (q0 : List TExp) (q1 : Int) : Option (Lp ((List TExp) × Int) (Lp ((List TSnap) × (List TChunk) × (List TExp) × (List TVol)) (Lp (Int × (List TSnap) × (List TChunk) × (List TExp) × (List TVol)) (Lp (Int × (List TSnap) × (List TChunk) × (List TExp) × (List TVol)) (Lp (Int × (List TSnap) × (List TChunk) × (List TExp) × (List TVol)) (Int × Int × (List TSnap) × (List TChunk) × (List TExp) × (List TVol))))))) :=
 if (decide (q1 < (p0.Exps.length : Int))) = true then ((ix p0.Exps q1).bind fun x0 => (M157 fuel x0.Locs p1.Vol).bind fun y0 => after (if (decide (0 < (({ x0 with Locs := y0 }.Locs).length : Int))) = true then ((app q0 ([{ x0 with Locs := y0 }] : List TExp)).bind fun z0 => some (.brk z0)) else some (.brk q0) : Option (Lp ((List TExp)) (Lp ((List TExp) × Int) (Lp ((List TSnap) × (List TChunk) × (List TExp) × (List TVol)) (Lp (Int × (List TSnap) × (List TChunk) × (List TExp) × (List TVol)) (Lp (Int × (List TSnap) × (List TChunk) × (List TExp) × (List TVol)) (Lp (Int × (List TSnap) × (List TChunk) × (List TExp) × (List TVol)) (Int × Int × (List TSnap) × (List TChunk) × (List TExp) × (List TVol))))))))) fun j0 => some (.go (j0, IntKind.wrap .i64 (q1 + 1)))) else some (.brk (q0, q1))
def M91 (fuel : Nat) (p0 : TCatalog) (p1 : TChange) : Option (Int × Int × (List TSnap) × (List TChunk) × (List TExp) × (List TVol)) :=
 after (if (p1.Kind == 1) = true then (after (if (p1.Snap.Seq == p0.Seq) = true then (some (.brk ((p1.Snap.Locs.length : Int) == 0))) else some (.brk false) : Option (Lp (Bool) (Lp (Int × (List TSnap) × (List TChunk) × (List TExp) × (List TVol)) (Int × Int × (List TSnap) × (List TChunk) × (List TExp) × (List TVol))))) fun j0 => after (loopM (fun s => M91_L1 fuel p1 s.1 s.2) fuel (j0, 0)) fun ⟨r0, r1⟩ => if (!r0) = true then (some (.ret (1, p0.Seq, p0.Snaps, p0.Chunks, p0.Exps, p0.Vols))) else (M149 fuel ({ Seq := p0.Seq, Snaps := p0.Snaps, Chunks := p0.Chunks, Exps := p0.Exps, Vols := p0.Vols } : TCatalog) p1.Snap.Man.Name).bind fun y0 => if (decide (0 ≤ y0)) = true then (some (.ret (9, p0.Seq, p0.Snaps, p0.Chunks, p0.Exps, p0.Vols))) else (app p0.Snaps ([p1.Snap] : List TSnap)).bind fun z0 => after (loopM (fun s => M91_L3 fuel p1 s.1 s.2) fuel (p0.Chunks, 0)) fun ⟨r2, r3⟩ => some (.brk (IntKind.wrap .i64 (p0.Seq + 1), z0, r2, p0.Exps, p0.Vols))) else after (if (p1.Kind == 2) = true then ((M154 fuel ({ Seq := p0.Seq, Snaps := p0.Snaps, Chunks := p0.Chunks, Exps := p0.Exps, Vols := p0.Vols } : TCatalog) p1.Seq).bind fun y1 => if (!y1.1) = true then (some (.ret (.ret (8, p0.Seq, y1.2.1, y1.2.2, p0.Exps, p0.Vols)))) else some (.brk (p0.Seq, y1.2.1, y1.2.2, p0.Exps, p0.Vols))) else after (if (p1.Kind == 3) = true then (after ((M155 fuel ({ Seq := p0.Seq, Snaps := p0.Snaps, Chunks := p0.Chunks, Exps := p0.Exps, Vols := p0.Vols } : TCatalog) p1.Vol 1 2).bind fun y2 => if y2 = true then (if (decide (1 ≤ (p1.Items.length : Int))) = true then (some (.brk (decide ((p1.Items.length : Int) ≤ 64)))) else some (.brk false)) else some (.brk false) : Option (Lp (Bool) (Lp (Int × (List TSnap) × (List TChunk) × (List TExp) × (List TVol)) (Lp (Int × (List TSnap) × (List TChunk) × (List TExp) × (List TVol)) (Lp (Int × (List TSnap) × (List TChunk) × (List TExp) × (List TVol)) (Int × Int × (List TSnap) × (List TChunk) × (List TExp) × (List TVol))))))) fun j1 => after (loopM (fun s => M91_L5 fuel p1 s.1 s.2) fuel (j1, 0)) fun ⟨r4, r5⟩ => if (!r4) = true then (some (.ret (.ret (.ret (1, p0.Seq, p0.Snaps, p0.Chunks, p0.Exps, p0.Vols))))) else (ix p0.Vols p1.Vol).bind fun x0 => after (loopM (fun s => M91_L7 fuel p0 p1 x0 s.1 s.2.1 s.2.2.1 s.2.2.2.1 s.2.2.2.2) fuel (p0.Seq, p0.Snaps, p0.Chunks, p0.Exps, 0)) fun ⟨r6, r7, r8, r9, r10⟩ => after (loopM (fun s => M91_L9 fuel p0 p1 x0 r6 r9 s.1 s.2.1 s.2.2) fuel (r7, r8, 0)) fun ⟨r11, r12, r13⟩ => after (if ((({ ({ x0 with State := 2 } : TVol) with Files := IntKind.wrap .i64 (x0.Files + 1) } : TVol).Pool) == 0) = true then (after (loopM (fun s => M91_L11 fuel p0 p1 x0 r6 r9 r11 s.1 s.2) fuel (r12, 0)) fun ⟨r14, r15⟩ => some (.brk r14)) else some (.brk r12) : Option (Lp ((List TChunk)) (Lp (Int × (List TSnap) × (List TChunk) × (List TExp) × (List TVol)) (Lp (Int × (List TSnap) × (List TChunk) × (List TExp) × (List TVol)) (Lp (Int × (List TSnap) × (List TChunk) × (List TExp) × (List TVol)) (Int × Int × (List TSnap) × (List TChunk) × (List TExp) × (List TVol))))))) fun j2 => some (.brk (r6, r11, j2, r9, (p0.Vols.set p1.Vol.toNat ({ x0 with State := 2 })).set p1.Vol.toNat ({ ({ x0 with State := 2 } : TVol) with Files := IntKind.wrap .i64 (x0.Files + 1) })))) else after (if (p1.Kind == 4) = true then ((M155 fuel ({ Seq := p0.Seq, Snaps := p0.Snaps, Chunks := p0.Chunks, Exps := p0.Exps, Vols := p0.Vols } : TCatalog) p1.Vol 2 2).bind fun y3 => if (!y3) = true then (some (.ret (.ret (.ret (.ret (1, p0.Seq, p0.Snaps, p0.Chunks, p0.Exps, p0.Vols)))))) else (ix p0.Vols p1.Vol).bind fun x1 => (ix (p0.Vols.set p1.Vol.toNat ({ x1 with State := 3 })) p1.Vol).bind fun x2 => after (loopM (fun s => M91_L13 fuel p0 p1 s.1 s.2) fuel ([], 0)) fun ⟨r16, r17⟩ => after (loopM (fun s => M91_L15 fuel p1 s.1 s.2) fuel (p0.Snaps, 0)) fun ⟨r18, r19⟩ => after (loopM (fun s => M91_L17 fuel p0 p1 s.1 s.2) fuel ([], 0)) fun ⟨r20, r21⟩ => some (.brk (r18, r16, r20, (p0.Vols.set p1.Vol.toNat ({ x1 with State := 3 })).set p1.Vol.toNat ({ x2 with Files := 0 })))) else after (if (p1.Kind == 5) = true then ((M155 fuel ({ Seq := p0.Seq, Snaps := p0.Snaps, Chunks := p0.Chunks, Exps := p0.Exps, Vols := p0.Vols } : TCatalog) p1.Vol 3 3).bind fun y4 => if (!y4) = true then (some (.ret (.ret (.ret (.ret (.ret (1, p0.Seq, p0.Snaps, p0.Chunks, p0.Exps, p0.Vols))))))) else (ix p0.Vols p1.Vol).bind fun x3 => (ix p0.Vols p1.Vol).bind fun x4 => (ix (p0.Vols.set p1.Vol.toNat ({ x4 with State := 1 })) p1.Vol).bind fun x5 => some (.brk ((p0.Vols.set p1.Vol.toNat ({ x4 with State := 1 })).set p1.Vol.toNat ({ x5 with Epoch := IntKind.wrap .i64 (x3.Epoch + 1) })))) else some (.brk p0.Vols) : Option (Lp ((List TVol)) (Lp ((List TSnap) × (List TChunk) × (List TExp) × (List TVol)) (Lp (Int × (List TSnap) × (List TChunk) × (List TExp) × (List TVol)) (Lp (Int × (List TSnap) × (List TChunk) × (List TExp) × (List TVol)) (Lp (Int × (List TSnap) × (List TChunk) × (List TExp) × (List TVol)) (Int × Int × (List TSnap) × (List TChunk) × (List TExp) × (List TVol)))))))) fun j3 => some (.brk (p0.Snaps, p0.Chunks, p0.Exps, j3)) : Option (Lp ((List TSnap) × (List TChunk) × (List TExp) × (List TVol)) (Lp (Int × (List TSnap) × (List TChunk) × (List TExp) × (List TVol)) (Lp (Int × (List TSnap) × (List TChunk) × (List TExp) × (List TVol)) (Lp (Int × (List TSnap) × (List TChunk) × (List TExp) × (List TVol)) (Int × Int × (List TSnap) × (List TChunk) × (List TExp) × (List TVol))))))) fun ⟨j4, j5, j6, j7⟩ => some (.brk (p0.Seq, j4, j5, j6, j7)) : Option (Lp (Int × (List TSnap) × (List TChunk) × (List TExp) × (List TVol)) (Lp (Int × (List TSnap) × (List TChunk) × (List TExp) × (List TVol)) (Lp (Int × (List TSnap) × (List TChunk) × (List TExp) × (List TVol)) (Int × Int × (List TSnap) × (List TChunk) × (List TExp) × (List TVol)))))) fun ⟨j8, j9, j10, j11, j12⟩ => some (.brk (j8, j9, j10, j11, j12)) : Option (Lp (Int × (List TSnap) × (List TChunk) × (List TExp) × (List TVol)) (Lp (Int × (List TSnap) × (List TChunk) × (List TExp) × (List TVol)) (Int × Int × (List TSnap) × (List TChunk) × (List TExp) × (List TVol))))) fun ⟨j13, j14, j15, j16, j17⟩ => some (.brk (j13, j14, j15, j16, j17)) : Option (Lp (Int × (List TSnap) × (List TChunk) × (List TExp) × (List TVol)) (Int × Int × (List TSnap) × (List TChunk) × (List TExp) × (List TVol)))) fun ⟨j18, j19, j20, j21, j22⟩ => some (0, j18, j19, j20, j21, j22)
set_option maxHeartbeats 4000000 in
set_option maxRecDepth 100000 in
theorem W91 {fuel : Nat} {p0 : TCatalog} {p1 : TChange} {o : Int × Int × (List TSnap) × (List TChunk) × (List TExp) × (List TVol)} (h : Heap) {p0K : Key} {g_Snaps : AGh} (ok_Snaps : AOk g_Snaps 4 p0.Snaps.length) {g_Chunks : AGh} (ok_Chunks : AOk g_Chunks 35 p0.Chunks.length) {g_Exps : AGh} (ok_Exps : AOk g_Exps 3 p0.Exps.length) {g_Vols : AGh} (ok_Vols : AOk g_Vols 4 p0.Vols.length) (hk0 : HOk h [(some p0K, .obj 30 ([.sc (.int .i64 p0.Seq), aw g_Snaps.t g_Snaps.n g_Snaps.cap, aw g_Chunks.t g_Chunks.n g_Chunks.cap, aw g_Exps.t g_Exps.n g_Exps.cap, aw g_Vols.t g_Vols.n g_Vols.cap])), (g_Snaps.t, .obj 60 (fl c_Snap (p0.Snaps : List TSnap) g_Snaps.sp)), (g_Chunks.t, .obj 44 (fl c_Chunk (p0.Chunks : List TChunk) g_Chunks.sp)), (g_Exps.t, .obj 99 (fl c_Exp (p0.Exps : List TExp) g_Exps.sp)), (g_Vols.t, .obj 49 (fl c_Vol (p0.Vols : List TVol) g_Vols.sp))]) (hm : M91 fuel p0 p1 = some o) :
 ACalls Tryz.prog 91 [.ptr p0K 0, .agg (c_Change p1)] (hp h [(some p0K, .obj 30 ([.sc (.int .i64 p0.Seq), aw g_Snaps.t g_Snaps.n g_Snaps.cap, aw g_Chunks.t g_Chunks.n g_Chunks.cap, aw g_Exps.t g_Exps.n g_Exps.cap, aw g_Vols.t g_Vols.n g_Vols.cap])), (g_Snaps.t, .obj 60 (fl c_Snap (p0.Snaps : List TSnap) g_Snaps.sp)), (g_Chunks.t, .obj 44 (fl c_Chunk (p0.Chunks : List TChunk) g_Chunks.sp)), (g_Exps.t, .obj 99 (fl c_Exp (p0.Exps : List TExp) g_Exps.sp)), (g_Vols.t, .obj 49 (fl c_Vol (p0.Vols : List TVol) g_Vols.sp))]) (fun r h' => ∃ g_Snaps' : AGh, AOk g_Snaps' 4 (o.2.2.1 : List TSnap).length ∧ ∃ g_Chunks' : AGh, AOk g_Chunks' 35 (o.2.2.2.1 : List TChunk).length ∧ ∃ g_Exps' : AGh, AOk g_Exps' 3 (o.2.2.2.2.1 : List TExp).length ∧ ∃ g_Vols' : AGh, AOk g_Vols' 4 (o.2.2.2.2.2 : List TVol).length ∧ HOk h [(some p0K, .obj 30 ([.sc (.int .i64 o.2.1), aw g_Snaps'.t g_Snaps'.n g_Snaps'.cap, aw g_Chunks'.t g_Chunks'.n g_Chunks'.cap, aw g_Exps'.t g_Exps'.n g_Exps'.cap, aw g_Vols'.t g_Vols'.n g_Vols'.cap])), (g_Snaps'.t, .obj 60 (fl c_Snap (o.2.2.1 : List TSnap) g_Snaps'.sp)), (g_Chunks'.t, .obj 44 (fl c_Chunk (o.2.2.2.1 : List TChunk) g_Chunks'.sp)), (g_Exps'.t, .obj 99 (fl c_Exp (o.2.2.2.2.1 : List TExp) g_Exps'.sp)), (g_Vols'.t, .obj 49 (fl c_Vol (o.2.2.2.2.2 : List TVol) g_Vols'.sp))] ∧ r = .sc (.int .i64 o.1) ∧ h' = hp h [(some p0K, .obj 30 ([.sc (.int .i64 o.2.1), aw g_Snaps'.t g_Snaps'.n g_Snaps'.cap, aw g_Chunks'.t g_Chunks'.n g_Chunks'.cap, aw g_Exps'.t g_Exps'.n g_Exps'.cap, aw g_Vols'.t g_Vols'.n g_Vols'.cap])), (g_Snaps'.t, .obj 60 (fl c_Snap (o.2.2.1 : List TSnap) g_Snaps'.sp)), (g_Chunks'.t, .obj 44 (fl c_Chunk (o.2.2.2.1 : List TChunk) g_Chunks'.sp)), (g_Exps'.t, .obj 99 (fl c_Exp (o.2.2.2.2.1 : List TExp) g_Exps'.sp)), (g_Vols'.t, .obj 49 (fl c_Vol (o.2.2.2.2.2 : List TVol) g_Vols'.sp))]) := by
 refine ACp hk0 443 [.tmp 4] Tryz.func91 rfl rfl rfl rfl ?_
 unfold M91 at hm
 refine vs (v0 ?_)
 refine ve fun hk => a_box hk rfl rfl fun k2 hk3 => qk hk3 rfl ?_
 refine vs (vs (v0 (vn (fun _ => Zh fd62_0 rfl rfl) (vl 0 _ ld3 rfl rfl rfl (v0 (vs (v0 ?_)))))))
 refine vjn hm (σ := Int × (List TSnap) × (List TChunk) × (List TExp) × (List TVol)) (τ := AGh × AGh × AGh × AGh) (fun g s => [(some k2, .obj 62 (c_Change p1)), (some p0K, .obj 30 ([.sc (.int .i64 s.1), aw g.1.t g.1.n g.1.cap, aw g.2.1.t g.2.1.n g.2.1.cap, aw g.2.2.1.t g.2.2.1.n g.2.2.1.cap, aw g.2.2.2.t g.2.2.2.n g.2.2.2.cap])), (g.1.t, .obj 60 (fl c_Snap (s.2.1 : List TSnap) g.1.sp)), (g.2.1.t, .obj 44 (fl c_Chunk (s.2.2.1 : List TChunk) g.2.1.sp)), (g.2.2.1.t, .obj 99 (fl c_Exp (s.2.2.2.1 : List TExp) g.2.2.1.sp)), (g.2.2.2.t, .obj 49 (fl c_Vol (s.2.2.2.2 : List TVol) g.2.2.2.sp))]) (fun g s => AOk g.1 4 (s.2.1 : List TSnap).length ∧ AOk g.2.1 35 (s.2.2.1 : List TChunk).length ∧ AOk g.2.2.1 3 (s.2.2.2.1 : List TExp).length ∧ AOk g.2.2.2 4 (s.2.2.2.2 : List TVol).length) (fun g s => .nil) (fun x hm => ?_) ?_
 refine v0 ?_
 refine vi hm (fun hc0 hm => ?_) fun hc0 hm => ?_
 refine vs ?_
 refine vjnH hm (σ := Bool) (τ := Unit) (fun g s => [(some k2, .obj 62 (c_Change p1)), (some p0K, .obj 30 ([.sc (.int .i64 p0.Seq), aw g_Snaps.t g_Snaps.n g_Snaps.cap, aw g_Chunks.t g_Chunks.n g_Chunks.cap, aw g_Exps.t g_Exps.n g_Exps.cap, aw g_Vols.t g_Vols.n g_Vols.cap])), (g_Snaps.t, .obj 60 (fl c_Snap (p0.Snaps : List TSnap) g_Snaps.sp)), (g_Chunks.t, .obj 44 (fl c_Chunk (p0.Chunks : List TChunk) g_Chunks.sp)), (g_Exps.t, .obj 99 (fl c_Exp (p0.Exps : List TExp) g_Exps.sp)), (g_Vols.t, .obj 49 (fl c_Vol (p0.Vols : List TVol) g_Vols.sp))]) (fun g s => .c 0 (.ptr p0K 0) (.c 3 (.ptr k2 0) (.c 5 (.sc (.bool s)) .nil))) (fun x hm => ?_) ?_
 refine v0 (vq0 (by kernel_rfl) (vn (fun _ => Zh fd62_1 rfl rfl) (vn (fun _ => Zh fd60_0 rfl rfl) (vl 0 _ ld3 rfl rfl rfl (vn (fun _ => o_nil rfl) (vn (fun _ => Zh fd30_0 rfl rfl) (vl 1 _ ld3 rfl rfl rfl ?_)))))))
 refine vi hm (fun hb0 hm => ?_) fun hb0 hm => ?_
 rw [hb0]
 refine vn (fun _ => Zh fd62_1 rfl rfl) (vn (fun _ => Zh fd60_2 rfl rfl) (vl 0 _ ld42 rfl rfl rfl (vln ln42 rfl ?_)))
 exact vgo hm () trivial (lx (.k3 .nil))
 rw [hb0]
 exact vgo hm () trivial (lx (.k3 .nil))
 rintro _ j0 hm
 refine vs (vs (v0 ?_))
 refine vlpH hm (σ := Bool × Int) (τ := Unit) (fun g s => [(some k2, .obj 62 (c_Change p1)), (some p0K, .obj 30 ([.sc (.int .i64 p0.Seq), aw g_Snaps.t g_Snaps.n g_Snaps.cap, aw g_Chunks.t g_Chunks.n g_Chunks.cap, aw g_Exps.t g_Exps.n g_Exps.cap, aw g_Vols.t g_Vols.n g_Vols.cap])), (g_Snaps.t, .obj 60 (fl c_Snap (p0.Snaps : List TSnap) g_Snaps.sp)), (g_Chunks.t, .obj 44 (fl c_Chunk (p0.Chunks : List TChunk) g_Chunks.sp)), (g_Exps.t, .obj 99 (fl c_Exp (p0.Exps : List TExp) g_Exps.sp)), (g_Vols.t, .obj 49 (fl c_Vol (p0.Vols : List TVol) g_Vols.sp))]) (fun g s => .c 0 (.ptr p0K 0) (.c 3 (.ptr k2 0) (.c 5 (.sc (.bool s.1)) (.c 6 (.sc (.int .i64 s.2)) .nil)))) () (lx (.k4 .nil)) ?_ ?_
 rintro _ ⟨q0, q1⟩ x hm
 replace hm : M91_L1 fuel p1 q0 q1 = some x := hm
 unfold M91_L1 at hm
 refine vs (vs (v0 (vn (fun _ => Zh fd62_2 rfl rfl) (vl 0 _ ld26 rfl rfl rfl (vln ln26 rfl (v0 ?_))))))
 refine vi hm (fun hc1 hm => ?_) fun hc1 hm => ?_
 refine v0 (vs (v0 ?_))
 refine vjnH hm (σ := Bool) (τ := Unit) (fun g s => [(some k2, .obj 62 (c_Change p1)), (some p0K, .obj 30 ([.sc (.int .i64 p0.Seq), aw g_Snaps.t g_Snaps.n g_Snaps.cap, aw g_Chunks.t g_Chunks.n g_Chunks.cap, aw g_Exps.t g_Exps.n g_Exps.cap, aw g_Vols.t g_Vols.n g_Vols.cap])), (g_Snaps.t, .obj 60 (fl c_Snap (p0.Snaps : List TSnap) g_Snaps.sp)), (g_Chunks.t, .obj 44 (fl c_Chunk (p0.Chunks : List TChunk) g_Chunks.sp)), (g_Exps.t, .obj 99 (fl c_Exp (p0.Exps : List TExp) g_Exps.sp)), (g_Vols.t, .obj 49 (fl c_Vol (p0.Vols : List TVol) g_Vols.sp))]) (fun g s => .c 0 (.ptr p0K 0) (.c 3 (.ptr k2 0) (.c 5 (.sc (.bool s)) (.c 6 (.sc (.int .i64 q1)) .nil)))) (fun x hm => ?_) ?_
 refine v0 ?_
 refine vi hm (fun hb1 hm => ?_) fun hb1 hm => ?_
 rw [hb1]
 refine vn (fun _ => Zh fd62_2 rfl rfl) (vl 0 _ ld26 rfl rfl rfl ?_)
 refine vx hm el26 rfl rfl fun x0 _ hm => ?_
 refine vn (fun _ => o_fl fd44_1 rfl rfl) (va (.sc (.bool x0.Staged)) ld4 rfl rfl ?_)
 refine vi hm (fun hb2 hm => ?_) fun hb2 hm => ?_
 rw [hb2]
 refine vn (fun _ => Zh fd62_2 rfl rfl) (vl 0 _ ld26 rfl rfl rfl ?_)
 refine vx hm el26 rfl rfl fun x1 _ hm => ?_
 refine vn (fun _ => o_fl fd44_3 rfl rfl) (va (.sl none 4 (List.map c_Loc x1.Locs)) ld42 rfl rfl (vln ln42 rfl ?_))
 exact vgo hm () trivial (lx (.k4 .nil))
 rw [hb2]
 exact vgo hm () trivial (lx (.k4 .nil))
 rw [hb1]
 exact vgo hm () trivial (lx (.k4 .nil))
 rintro _ j1 hm
 refine v0 ?_
 exact vgo hm () trivial (lx (.k4 .nil))
 refine v0 ?_
 exact vbk hm () trivial (lx (.k4 .nil))
 rintro _ ⟨r0, r1⟩ hm
 refine vs (vs (v0 (v0 ?_)))
 refine vi hm (fun hc2 hm => ?_) fun hc2 hm => ?_
 refine vs (v0 (v0 ?_))
 refine vrt hm fun hm => ?_
 cases hm
 exact vr fun hk => Ret.of1 (.inl rfl) (rsT _ _ (.sc (.int _ _)) rfl) (hp_pick hk [1, 2, 3, 4, 5] rfl).2 (ALe.refl _ _) ⟨g_Snaps, ok_Snaps, g_Chunks, ok_Chunks, g_Exps, ok_Exps, g_Vols, ok_Vols, (hp_pick hk [1, 2, 3, 4, 5] rfl).1, rfl, rfl⟩
 refine v0 (vs (vs (v0 (vq0 (by kernel_rfl) (vn (fun _ => o_nil rfl) (vl 1 (.agg ([.sc (.int .i64 p0.Seq), aw g_Snaps.t g_Snaps.n g_Snaps.cap, aw g_Chunks.t g_Chunks.n g_Chunks.cap, aw g_Exps.t g_Exps.n g_Exps.cap, aw g_Vols.t g_Vols.n g_Vols.cap])) ld30 rfl rfl rfl (vn (fun _ => Zh fd62_1 rfl rfl) (vn (fun _ => Zh fd60_1 rfl rfl) (vn (fun _ => Zh fd58_0 rfl rfl) (vl 0 _ ld9 rfl rfl rfl ?_))))))))))
 obtain ⟨_, hy0, hm⟩ := Zc hm
 refine vn (fun hk => o_call (ACalls_pure (.cons (Br.agg (.cons (Br.refl _ _) (.cons (Br.aw 2 cz_Snap ok_Snaps hk rfl) (.cons (Br.aw 3 cz_Chunk ok_Chunks hk rfl) (.cons (Br.aw 4 cz_Exp ok_Exps hk rfl) (.cons (Br.aw 5 cz_Vol ok_Vols hk rfl) .nil)))))) (.cons (Br.refl _ _) .nil)) rfl (W149 _ hy0)) rfl bd149 rfl) (v0 ?_)
 refine vi hm (fun hc3 hm => ?_) fun hc3 hm => ?_
 refine vs (v0 (v0 ?_))
 refine vrt hm fun hm => ?_
 cases hm
 exact vr fun hk => Ret.of1 (.inl rfl) (rsT _ _ (.sc (.int _ _)) rfl) (hp_pick hk [1, 2, 3, 4, 5] rfl).2 (ALe.refl _ _) ⟨g_Snaps, ok_Snaps, g_Chunks, ok_Chunks, g_Exps, ok_Exps, g_Vols, ok_Vols, (hp_pick hk [1, 2, 3, 4, 5] rfl).1, rfl, rfl⟩
 refine v0 (vs (v0 (vn (fun _ => o_nil rfl) (vn (fun _ => Zh fd30_0 rfl rfl) (vl 1 _ ld3 rfl rfl rfl (vn (fun _ => o_nil rfl) (vn (fun _ => Zh fd30_0 rfl rfl) ?_)))))))
 refine ve fun hk => a_store 1 ([.sc (.int .i64 (IntKind.wrap .i64 (p0.Seq + 1))), aw g_Snaps.t g_Snaps.n g_Snaps.cap, aw g_Chunks.t g_Chunks.n g_Chunks.cap, aw g_Exps.t g_Exps.n g_Exps.cap, aw g_Vols.t g_Vols.n g_Vols.cap]) hk rfl rfl rfl rfl sz3 rfl rfl fun hk1 => qk hk1 rfl ?_
 refine vs (v0 ?_)
 refine vz [(11, some p0K, .obj 30 ([.sc (.int .i64 (IntKind.wrap .i64 (p0.Seq + 1))), aw g_Snaps.t g_Snaps.n g_Snaps.cap, aw g_Chunks.t g_Chunks.n g_Chunks.cap, aw g_Exps.t g_Exps.n g_Exps.cap, aw g_Vols.t g_Vols.n g_Vols.cap])), (1000000, some k2, .obj 62 (c_Change p1))] mixed (fun hk => ⟨fun _ => hp_at 1 hk rfl, fun _ => hp_at 0 hk rfl, trivial⟩) fun hk => ?_
 refine z_w 0 rfl (fun S' h' hi hB => o_mv (.ptr _ _) rfl) ?_
 refine z_w 1 rfl (fun S' h' hi hB => o_mv (.ptr _ _) rfl) ?_
 refine z_w 2 rfl (fun S' h' hi hB => o_nil rfl) ?_
 refine z_w 3 rfl (fun S' h' hi hB => Zh fd30_1 rfl rfl) ?_
 refine z_w 4 rfl (fun S' h' hi hB => Zg (aw g_Snaps.t g_Snaps.n g_Snaps.cap) ld25 rfl (At.s (InvL.get 0 hi rfl (hB 11 (by kernel_rfl)))) rfl) ?_
 refine z_w 5 rfl (fun S' h' hi hB => Zh fd62_1 rfl rfl) ?_
 refine z_w 6 rfl (fun S' h' hi hB => Zg (.agg (c_Snap p1.Snap)) ld60 rfl (At.s (InvL.get 1 hi rfl (hB 1000000 (by kernel_rfl)))) rfl) ?_
 refine z_w 7 rfl (fun S' h' hi hB => o_lit (List.map c_Snap ([p1.Snap] : List TSnap)) et25 rfl rfl rfl rfl) ?_
 obtain ⟨z0, hz0, hm⟩ := Zc hm
 refine z_e 8 rfl (by kernel_rfl) (a_appA (c := c_Snap) 2 hz0 et25 rfl zr60 rfl cz_Snap rfl rfl ok_Snaps hk rfl fun ag0 ok0 hk2 => ⟨⟨fun _ => hp_at 1 hk2 rfl, fun _ => hp_at 0 hk2 rfl, trivial⟩, ?_⟩)
 refine z_w 9 rfl (fun S' h' hi hB => o_nil rfl) ?_
 refine z_w 10 rfl (fun S' h' hi hB => Zh fd30_1 rfl rfl) ?_
 refine z_e 11 rfl (by kernel_rfl) (a_store 1 ([.sc (.int .i64 (IntKind.wrap .i64 (p0.Seq + 1))), aw ag0.t ag0.n ag0.cap, aw g_Chunks.t g_Chunks.n g_Chunks.cap, aw g_Exps.t g_Exps.n g_Exps.cap, aw g_Vols.t g_Vols.n g_Vols.cap]) hk2 rfl rfl (cellsOf_aw rfl) (all_c (ocell_aw _ _ _) rfl) sz25 rfl rfl fun hk4 => ⟨⟨fun e => absurd e (by decide), fun _ => hp_at 0 hk4 rfl, trivial⟩, ?_⟩)
 refine z_nil (by kernel_rfl) (qk (f := .c 95 _ (.c 94 _ (.c 93 _ (.c 92 _ (.c 91 _ (.c 90 _ (.c 89 _ (.c 88 _ (.c 87 _ (.c 86 _ (.c 85 _ _))))))))))) hk4 rfl ?_)
 refine vs (v0 ?_)
 refine vlp hm (σ := (List TChunk) × Int) (τ := AGh) (fun g s => [(some k2, .obj 62 (c_Change p1)), (some p0K, .obj 30 ([.sc (.int .i64 (IntKind.wrap .i64 (p0.Seq + 1))), aw ag0.t ag0.n ag0.cap, aw g.t g.n g.cap, aw g_Exps.t g_Exps.n g_Exps.cap, aw g_Vols.t g_Vols.n g_Vols.cap])), (ag0.t, .obj 60 (fl c_Snap (z0 : List TSnap) ag0.sp)), (g.t, .obj 44 (fl c_Chunk (s.1 : List TChunk) g.sp)), (g_Exps.t, .obj 99 (fl c_Exp (p0.Exps : List TExp) g_Exps.sp)), (g_Vols.t, .obj 49 (fl c_Vol (p0.Vols : List TVol) g_Vols.sp))]) (fun g s => AOk g 35 (s.1 : List TChunk).length) (fun g s => .c 0 (.ptr p0K 0) (.c 3 (.ptr k2 0) (.c 7 (.sc (.int .i64 s.2)) .nil))) g_Chunks ok_Chunks (lx (.k3 .nil)) ?_ ?_
 rintro ag1 ⟨q2, q3⟩ x ok1 hm
 replace hm : M91_L3 fuel p1 q2 q3 = some x := hm
 unfold M91_L3 at hm
 refine vs (vs (v0 (vn (fun _ => Zh fd62_2 rfl rfl) (vl 0 _ ld26 rfl rfl rfl (vln ln26 rfl (v0 ?_))))))
 refine vi hm (fun hc4 hm => ?_) fun hc4 hm => ?_
 refine v0 (vs (v0 (v0 ?_)))
 refine vz [(13, some p0K, .obj 30 ([.sc (.int .i64 (IntKind.wrap .i64 (p0.Seq + 1))), aw ag0.t ag0.n ag0.cap, aw ag1.t ag1.n ag1.cap, aw g_Exps.t g_Exps.n g_Exps.cap, aw g_Vols.t g_Vols.n g_Vols.cap])), (1000000, some k2, .obj 62 (c_Change p1))] mixed (fun hk => ⟨fun _ => hp_at 1 hk rfl, fun _ => hp_at 0 hk rfl, trivial⟩) fun hk => ?_
 refine z_w 0 rfl (fun S' h' hi hB => o_mv (.ptr _ _) rfl) ?_
 refine z_w 1 rfl (fun S' h' hi hB => o_mv (.ptr _ _) rfl) ?_
 refine z_w 2 rfl (fun S' h' hi hB => o_nil rfl) ?_
 refine z_w 3 rfl (fun S' h' hi hB => Zh fd30_2 rfl rfl) ?_
 refine z_w 4 rfl (fun S' h' hi hB => Zg (aw ag1.t ag1.n ag1.cap) ld26 rfl (At.s (InvL.get 0 hi rfl (hB 13 (by kernel_rfl)))) rfl) ?_
 refine z_w 5 rfl (fun S' h' hi hB => Zh fd62_2 rfl rfl) ?_
 refine z_w 6 rfl (fun S' h' hi hB => Zg (.sl none 35 (List.map c_Chunk p1.Chunks)) ld26 rfl (At.s (InvL.get 1 hi rfl (hB 1000000 (by kernel_rfl)))) rfl) ?_
 refine z_w 7 rfl (fun S' h' hi hB => o_mv (.sc (.int _ _)) rfl) ?_
 obtain ⟨x2, hx0, hm⟩ := Zc hm
 refine z_w 8 rfl (fun S' h' hi hB => o_ix hx0 el26 rfl rfl) ?_
 refine z_w 9 rfl (fun S' h' hi hB => o_ld (.agg (c_Chunk x2)) ld44 rfl rfl) ?_
 obtain ⟨_, hy1, hm⟩ := Zc hm
 refine z_e 10 rfl (by kernel_rfl) (AOp_fz (s := 107) (.sl none 35 (List.map c_Chunk q2)) (hp_sub (.cons_cons _ (.cons_cons _ (.cons_cons _ (.cons _ (.refl _))))) hk).1 (Fz.aw 3 cz_Chunk ok1 hk rfl (.refl _)) (a_call (W153a _ hy1) rfl bd153 rfl ?_))
 rintro x h' ⟨ag2, ok2, hk5, rfl, rfl⟩
 rw [hp_cat]
 refine ⟨⟨fun _ => hp_at 2 (HOk.co ((hp_sub (.cons_cons _ (.cons_cons _ (.cons_cons _ (.cons _ (.refl _))))) hk).2) hk5) rfl, fun _ => hp_at 1 (HOk.co ((hp_sub (.cons_cons _ (.cons_cons _ (.cons_cons _ (.cons _ (.refl _))))) hk).2) hk5) rfl, trivial⟩, ?_⟩
 refine z_w 11 rfl (fun S' h' hi hB => o_nil rfl) ?_
 refine z_w 12 rfl (fun S' h' hi hB => Zh fd30_2 rfl rfl) ?_
 refine z_e 13 rfl (by kernel_rfl) (a_store 2 ([.sc (.int .i64 (IntKind.wrap .i64 (p0.Seq + 1))), aw ag0.t ag0.n ag0.cap, aw ag2.t ag2.n ag2.cap, aw g_Exps.t g_Exps.n g_Exps.cap, aw g_Vols.t g_Vols.n g_Vols.cap]) (HOk.co ((hp_sub (.cons_cons _ (.cons_cons _ (.cons_cons _ (.cons _ (.refl _))))) hk).2) hk5) rfl rfl (cellsOf_aw rfl) (all_c (ocell_aw _ _ _) rfl) sz26 rfl rfl fun hk6 => ⟨⟨fun e => absurd e (by decide), fun _ => hp_at 1 hk6 rfl, trivial⟩, ?_⟩)
 refine z_nil (by kernel_rfl) (qk (f := .c 115 _ (.c 114 _ (.c 113 _ (.c 112 _ (.c 111 _ (.c 110 _ (.c 109 _ (.c 108 _ (.c 107 _ (.c 106 _ (.c 105 _ (.c 104 _ (.c 103 _ _))))))))))))) hk6 rfl ?_)
 refine v0 ?_
 exact vgo hm ag2 ok2 (lxs [1, 2, 3, 0, 4, 5] rfl rfl (.k3 .nil))
 refine v0 ?_
 exact vbk hm ag1 ok1 (lx (.k3 .nil))
 rintro ag3 ⟨r2, r3⟩ ot0 hm
 exact vgo hm (ag0, ag3, g_Exps, g_Vols) ⟨ok0, ot0, ok_Exps, ok_Vols⟩ (lx .nil)
 refine vs (v0 ?_)
 refine vjn hm (σ := Int × (List TSnap) × (List TChunk) × (List TExp) × (List TVol)) (τ := AGh × AGh × AGh × AGh) (fun g s => [(some k2, .obj 62 (c_Change p1)), (some p0K, .obj 30 ([.sc (.int .i64 s.1), aw g.1.t g.1.n g.1.cap, aw g.2.1.t g.2.1.n g.2.1.cap, aw g.2.2.1.t g.2.2.1.n g.2.2.1.cap, aw g.2.2.2.t g.2.2.2.n g.2.2.2.cap])), (g.1.t, .obj 60 (fl c_Snap (s.2.1 : List TSnap) g.1.sp)), (g.2.1.t, .obj 44 (fl c_Chunk (s.2.2.1 : List TChunk) g.2.1.sp)), (g.2.2.1.t, .obj 99 (fl c_Exp (s.2.2.2.1 : List TExp) g.2.2.1.sp)), (g.2.2.2.t, .obj 49 (fl c_Vol (s.2.2.2.2 : List TVol) g.2.2.2.sp))]) (fun g s => AOk g.1 4 (s.2.1 : List TSnap).length ∧ AOk g.2.1 35 (s.2.2.1 : List TChunk).length ∧ AOk g.2.2.1 3 (s.2.2.2.1 : List TExp).length ∧ AOk g.2.2.2 4 (s.2.2.2.2 : List TVol).length) (fun g s => .nil) (fun x hm => ?_) ?_
 refine v0 ?_
 refine vi hm (fun hc5 hm => ?_) fun hc5 hm => ?_
 refine vs (v0 (vn (fun _ => Zh fd62_3 rfl rfl) (vl 0 _ ld3 rfl rfl rfl ?_)))
 obtain ⟨y0, hy2, hm⟩ := Zc hm
 refine ve fun hk => AOp_eqh ((hp_permI hk [1, 2, 3, 4, 5, 0] rfl rfl).1.trans (hp_app h [(some p0K, .obj 30 ([.sc (.int .i64 p0.Seq), aw g_Snaps.t g_Snaps.n g_Snaps.cap, aw g_Chunks.t g_Chunks.n g_Chunks.cap, aw g_Exps.t g_Exps.n g_Exps.cap, aw g_Vols.t g_Vols.n g_Vols.cap])), (g_Snaps.t, .obj 60 (fl c_Snap (p0.Snaps : List TSnap) g_Snaps.sp)), (g_Chunks.t, .obj 44 (fl c_Chunk (p0.Chunks : List TChunk) g_Chunks.sp)), (g_Exps.t, .obj 99 (fl c_Exp (p0.Exps : List TExp) g_Exps.sp)), (g_Vols.t, .obj 49 (fl c_Vol (p0.Vols : List TVol) g_Vols.sp))] [(some k2, .obj 62 (c_Change p1))]).symm) (a_call (W154 (hp h [(some k2, .obj 62 (c_Change p1))]) ok_Snaps ok_Chunks ok_Exps ok_Vols (HOk_spl [(some p0K, .obj 30 ([.sc (.int .i64 p0.Seq), aw g_Snaps.t g_Snaps.n g_Snaps.cap, aw g_Chunks.t g_Chunks.n g_Chunks.cap, aw g_Exps.t g_Exps.n g_Exps.cap, aw g_Vols.t g_Vols.n g_Vols.cap])), (g_Snaps.t, .obj 60 (fl c_Snap (p0.Snaps : List TSnap) g_Snaps.sp)), (g_Chunks.t, .obj 44 (fl c_Chunk (p0.Chunks : List TChunk) g_Chunks.sp)), (g_Exps.t, .obj 99 (fl c_Exp (p0.Exps : List TExp) g_Exps.sp)), (g_Vols.t, .obj 49 (fl c_Vol (p0.Vols : List TVol) g_Vols.sp))] [(some k2, .obj 62 (c_Change p1))] (hp_permI hk [1, 2, 3, 4, 5, 0] rfl rfl).2).2 hy2) rfl bd154 rfl ?_)
 rintro x h' ⟨ag4, ok3, ag5, ok4, hk7, rfl, rfl⟩
 have hk8 := hp_permI (L' := [(some k2, .obj 62 (c_Change p1)), (some p0K, .obj 30 ([.sc (.int .i64 p0.Seq), aw ag4.t ag4.n ag4.cap, aw ag5.t ag5.n ag5.cap, aw g_Exps.t g_Exps.n g_Exps.cap, aw g_Vols.t g_Vols.n g_Vols.cap])), (ag4.t, .obj 60 (fl c_Snap (y0.2.1 : List TSnap) ag4.sp)), (ag5.t, .obj 44 (fl c_Chunk (y0.2.2 : List TChunk) ag5.sp)), (g_Exps.t, .obj 99 (fl c_Exp (p0.Exps : List TExp) g_Exps.sp)), (g_Vols.t, .obj 49 (fl c_Vol (p0.Vols : List TVol) g_Vols.sp))]) (HOk_app (HOk_spl [(some p0K, .obj 30 ([.sc (.int .i64 p0.Seq), aw g_Snaps.t g_Snaps.n g_Snaps.cap, aw g_Chunks.t g_Chunks.n g_Chunks.cap, aw g_Exps.t g_Exps.n g_Exps.cap, aw g_Vols.t g_Vols.n g_Vols.cap])), (g_Snaps.t, .obj 60 (fl c_Snap (p0.Snaps : List TSnap) g_Snaps.sp)), (g_Chunks.t, .obj 44 (fl c_Chunk (p0.Chunks : List TChunk) g_Chunks.sp)), (g_Exps.t, .obj 99 (fl c_Exp (p0.Exps : List TExp) g_Exps.sp)), (g_Vols.t, .obj 49 (fl c_Vol (p0.Vols : List TVol) g_Vols.sp))] [(some k2, .obj 62 (c_Change p1))] (hp_permI hk [1, 2, 3, 4, 5, 0] rfl rfl).2).1 hk7) [5, 0, 1, 2, 3, 4] rfl rfl
 refine qk hk8.2 ((hp_app h [(some p0K, .obj 30 ([.sc (.int .i64 p0.Seq), aw ag4.t ag4.n ag4.cap, aw ag5.t ag5.n ag5.cap, aw g_Exps.t g_Exps.n g_Exps.cap, aw g_Vols.t g_Vols.n g_Vols.cap])), (ag4.t, .obj 60 (fl c_Snap (y0.2.1 : List TSnap) ag4.sp)), (ag5.t, .obj 44 (fl c_Chunk (y0.2.2 : List TChunk) ag5.sp)), (g_Exps.t, .obj 99 (fl c_Exp (p0.Exps : List TExp) g_Exps.sp)), (g_Vols.t, .obj 49 (fl c_Vol (p0.Vols : List TVol) g_Vols.sp))] [(some k2, .obj 62 (c_Change p1))]).trans hk8.1) ?_
 refine v0 ?_
 refine vi hm (fun hc6 hm => ?_) fun hc6 hm => ?_
 refine vs (v0 (v0 ?_))
 refine vrt hm fun hm => ?_
 refine vrt hm fun hm => ?_
 cases hm
 exact vr fun hk => Ret.of1 (.inl rfl) (rsT _ _ (.sc (.int _ _)) rfl) (hp_pick hk [1, 2, 3, 4, 5] rfl).2 (ALe.refl _ _) ⟨ag4, ok3, ag5, ok4, g_Exps, ok_Exps, g_Vols, ok_Vols, (hp_pick hk [1, 2, 3, 4, 5] rfl).1, rfl, rfl⟩
 refine v0 ?_
 exact vgo hm (ag4, ag5, g_Exps, g_Vols) ⟨ok3, ok4, ok_Exps, ok_Vols⟩ (lx .nil)
 refine vs (v0 ?_)
 refine vjn hm (σ := Int × (List TSnap) × (List TChunk) × (List TExp) × (List TVol)) (τ := AGh × AGh × AGh × AGh) (fun g s => [(some k2, .obj 62 (c_Change p1)), (some p0K, .obj 30 ([.sc (.int .i64 s.1), aw g.1.t g.1.n g.1.cap, aw g.2.1.t g.2.1.n g.2.1.cap, aw g.2.2.1.t g.2.2.1.n g.2.2.1.cap, aw g.2.2.2.t g.2.2.2.n g.2.2.2.cap])), (g.1.t, .obj 60 (fl c_Snap (s.2.1 : List TSnap) g.1.sp)), (g.2.1.t, .obj 44 (fl c_Chunk (s.2.2.1 : List TChunk) g.2.1.sp)), (g.2.2.1.t, .obj 99 (fl c_Exp (s.2.2.2.1 : List TExp) g.2.2.1.sp)), (g.2.2.2.t, .obj 49 (fl c_Vol (s.2.2.2.2 : List TVol) g.2.2.2.sp))]) (fun g s => AOk g.1 4 (s.2.1 : List TSnap).length ∧ AOk g.2.1 35 (s.2.2.1 : List TChunk).length ∧ AOk g.2.2.1 3 (s.2.2.2.1 : List TExp).length ∧ AOk g.2.2.2 4 (s.2.2.2.2 : List TVol).length) (fun g s => .nil) (fun x hm => ?_) ?_
 refine v0 ?_
 refine vi hm (fun hc7 hm => ?_) fun hc7 hm => ?_
 refine vs ?_
 refine vjnH hm (σ := Bool) (τ := Unit) (fun g s => [(some k2, .obj 62 (c_Change p1)), (some p0K, .obj 30 ([.sc (.int .i64 p0.Seq), aw g_Snaps.t g_Snaps.n g_Snaps.cap, aw g_Chunks.t g_Chunks.n g_Chunks.cap, aw g_Exps.t g_Exps.n g_Exps.cap, aw g_Vols.t g_Vols.n g_Vols.cap])), (g_Snaps.t, .obj 60 (fl c_Snap (p0.Snaps : List TSnap) g_Snaps.sp)), (g_Chunks.t, .obj 44 (fl c_Chunk (p0.Chunks : List TChunk) g_Chunks.sp)), (g_Exps.t, .obj 99 (fl c_Exp (p0.Exps : List TExp) g_Exps.sp)), (g_Vols.t, .obj 49 (fl c_Vol (p0.Vols : List TVol) g_Vols.sp))]) (fun g s => .c 0 (.ptr p0K 0) (.c 3 (.ptr k2 0) (.c 8 (.sc (.bool s)) .nil))) (fun x hm => ?_) ?_
 refine v0 (vn (fun _ => Zh fd62_4 rfl rfl) (vl 0 _ ld3 rfl rfl rfl ?_))
 obtain ⟨_, hy3, hm⟩ := Zc hm
 refine ve fun hk => AOp_eqh ((hp_permI hk [1, 2, 3, 4, 5, 0] rfl rfl).1.trans (hp_app h [(some p0K, .obj 30 ([.sc (.int .i64 p0.Seq), aw g_Snaps.t g_Snaps.n g_Snaps.cap, aw g_Chunks.t g_Chunks.n g_Chunks.cap, aw g_Exps.t g_Exps.n g_Exps.cap, aw g_Vols.t g_Vols.n g_Vols.cap])), (g_Snaps.t, .obj 60 (fl c_Snap (p0.Snaps : List TSnap) g_Snaps.sp)), (g_Chunks.t, .obj 44 (fl c_Chunk (p0.Chunks : List TChunk) g_Chunks.sp)), (g_Exps.t, .obj 99 (fl c_Exp (p0.Exps : List TExp) g_Exps.sp)), (g_Vols.t, .obj 49 (fl c_Vol (p0.Vols : List TVol) g_Vols.sp))] [(some k2, .obj 62 (c_Change p1))]).symm) (a_call (W155 (hp h [(some k2, .obj 62 (c_Change p1))]) ok_Snaps ok_Chunks ok_Exps ok_Vols (HOk_spl [(some p0K, .obj 30 ([.sc (.int .i64 p0.Seq), aw g_Snaps.t g_Snaps.n g_Snaps.cap, aw g_Chunks.t g_Chunks.n g_Chunks.cap, aw g_Exps.t g_Exps.n g_Exps.cap, aw g_Vols.t g_Vols.n g_Vols.cap])), (g_Snaps.t, .obj 60 (fl c_Snap (p0.Snaps : List TSnap) g_Snaps.sp)), (g_Chunks.t, .obj 44 (fl c_Chunk (p0.Chunks : List TChunk) g_Chunks.sp)), (g_Exps.t, .obj 99 (fl c_Exp (p0.Exps : List TExp) g_Exps.sp)), (g_Vols.t, .obj 49 (fl c_Vol (p0.Vols : List TVol) g_Vols.sp))] [(some k2, .obj 62 (c_Change p1))] (hp_permI hk [1, 2, 3, 4, 5, 0] rfl rfl).2).2 hy3) rfl bd155 rfl ?_)
 rintro x h' ⟨hk9, rfl, rfl⟩
 have hk10 := hp_permI (L' := [(some k2, .obj 62 (c_Change p1)), (some p0K, .obj 30 ([.sc (.int .i64 p0.Seq), aw g_Snaps.t g_Snaps.n g_Snaps.cap, aw g_Chunks.t g_Chunks.n g_Chunks.cap, aw g_Exps.t g_Exps.n g_Exps.cap, aw g_Vols.t g_Vols.n g_Vols.cap])), (g_Snaps.t, .obj 60 (fl c_Snap (p0.Snaps : List TSnap) g_Snaps.sp)), (g_Chunks.t, .obj 44 (fl c_Chunk (p0.Chunks : List TChunk) g_Chunks.sp)), (g_Exps.t, .obj 99 (fl c_Exp (p0.Exps : List TExp) g_Exps.sp)), (g_Vols.t, .obj 49 (fl c_Vol (p0.Vols : List TVol) g_Vols.sp))]) (HOk_app (HOk_spl [(some p0K, .obj 30 ([.sc (.int .i64 p0.Seq), aw g_Snaps.t g_Snaps.n g_Snaps.cap, aw g_Chunks.t g_Chunks.n g_Chunks.cap, aw g_Exps.t g_Exps.n g_Exps.cap, aw g_Vols.t g_Vols.n g_Vols.cap])), (g_Snaps.t, .obj 60 (fl c_Snap (p0.Snaps : List TSnap) g_Snaps.sp)), (g_Chunks.t, .obj 44 (fl c_Chunk (p0.Chunks : List TChunk) g_Chunks.sp)), (g_Exps.t, .obj 99 (fl c_Exp (p0.Exps : List TExp) g_Exps.sp)), (g_Vols.t, .obj 49 (fl c_Vol (p0.Vols : List TVol) g_Vols.sp))] [(some k2, .obj 62 (c_Change p1))] (hp_permI hk [1, 2, 3, 4, 5, 0] rfl rfl).2).1 hk9) [5, 0, 1, 2, 3, 4] rfl rfl
 refine qk hk10.2 ((hp_app h [(some p0K, .obj 30 ([.sc (.int .i64 p0.Seq), aw g_Snaps.t g_Snaps.n g_Snaps.cap, aw g_Chunks.t g_Chunks.n g_Chunks.cap, aw g_Exps.t g_Exps.n g_Exps.cap, aw g_Vols.t g_Vols.n g_Vols.cap])), (g_Snaps.t, .obj 60 (fl c_Snap (p0.Snaps : List TSnap) g_Snaps.sp)), (g_Chunks.t, .obj 44 (fl c_Chunk (p0.Chunks : List TChunk) g_Chunks.sp)), (g_Exps.t, .obj 99 (fl c_Exp (p0.Exps : List TExp) g_Exps.sp)), (g_Vols.t, .obj 49 (fl c_Vol (p0.Vols : List TVol) g_Vols.sp))] [(some k2, .obj 62 (c_Change p1))]).trans hk10.1) ?_
 refine vi hm (fun hb3 hm => ?_) fun hb3 hm => ?_
 rw [hb3]
 refine vn (fun _ => Zh fd62_5 rfl rfl) (vl 0 _ ld33 rfl rfl rfl (vln ln33 rfl ?_))
 refine vi hm (fun hb4 hm => ?_) fun hb4 hm => ?_
 rw [hb4]
 refine vn (fun _ => Zh fd62_5 rfl rfl) (vl 0 _ ld33 rfl rfl rfl (vln ln33 rfl ?_))
 exact vgo hm () trivial (lx (.k3 .nil))
 rw [hb4]
 exact vgo hm () trivial (lx (.k3 .nil))
 rw [hb3]
 exact vgo hm () trivial (lx (.k3 .nil))
 rintro _ j2 hm
 refine vs (vs (v0 ?_))
 refine vlpH hm (σ := Bool × Int) (τ := Unit) (fun g s => [(some k2, .obj 62 (c_Change p1)), (some p0K, .obj 30 ([.sc (.int .i64 p0.Seq), aw g_Snaps.t g_Snaps.n g_Snaps.cap, aw g_Chunks.t g_Chunks.n g_Chunks.cap, aw g_Exps.t g_Exps.n g_Exps.cap, aw g_Vols.t g_Vols.n g_Vols.cap])), (g_Snaps.t, .obj 60 (fl c_Snap (p0.Snaps : List TSnap) g_Snaps.sp)), (g_Chunks.t, .obj 44 (fl c_Chunk (p0.Chunks : List TChunk) g_Chunks.sp)), (g_Exps.t, .obj 99 (fl c_Exp (p0.Exps : List TExp) g_Exps.sp)), (g_Vols.t, .obj 49 (fl c_Vol (p0.Vols : List TVol) g_Vols.sp))]) (fun g s => .c 0 (.ptr p0K 0) (.c 3 (.ptr k2 0) (.c 8 (.sc (.bool s.1)) (.c 9 (.sc (.int .i64 s.2)) .nil)))) () (lx (.k4 .nil)) ?_ ?_
 rintro _ ⟨q4, q5⟩ x hm
 replace hm : M91_L5 fuel p1 q4 q5 = some x := hm
 unfold M91_L5 at hm
 refine vs (vs (v0 (vn (fun _ => Zh fd62_5 rfl rfl) (vl 0 _ ld33 rfl rfl rfl (vln ln33 rfl (v0 ?_))))))
 refine vi hm (fun hc8 hm => ?_) fun hc8 hm => ?_
 refine v0 (vs (v0 ?_))
 refine vjnH hm (σ := Bool) (τ := Unit) (fun g s => [(some k2, .obj 62 (c_Change p1)), (some p0K, .obj 30 ([.sc (.int .i64 p0.Seq), aw g_Snaps.t g_Snaps.n g_Snaps.cap, aw g_Chunks.t g_Chunks.n g_Chunks.cap, aw g_Exps.t g_Exps.n g_Exps.cap, aw g_Vols.t g_Vols.n g_Vols.cap])), (g_Snaps.t, .obj 60 (fl c_Snap (p0.Snaps : List TSnap) g_Snaps.sp)), (g_Chunks.t, .obj 44 (fl c_Chunk (p0.Chunks : List TChunk) g_Chunks.sp)), (g_Exps.t, .obj 99 (fl c_Exp (p0.Exps : List TExp) g_Exps.sp)), (g_Vols.t, .obj 49 (fl c_Vol (p0.Vols : List TVol) g_Vols.sp))]) (fun g s => .c 0 (.ptr p0K 0) (.c 3 (.ptr k2 0) (.c 8 (.sc (.bool s)) (.c 9 (.sc (.int .i64 q5)) .nil)))) (fun x hm => ?_) ?_
 refine v0 ?_
 refine vi hm (fun hb5 hm => ?_) fun hb5 hm => ?_
 rw [hb5]
 refine vn (fun _ => Zh fd62_5 rfl rfl) (vl 0 _ ld33 rfl rfl rfl ?_)
 refine vx hm el33 rfl rfl fun x3 _ hm => ?_
 refine vn (fun _ => o_fl fd38_0 rfl rfl) (va (.sc (.int .i64 x3.Kind)) ld3 rfl rfl ?_)
 refine vi hm (fun hb6 hm => ?_) fun hb6 hm => ?_
 rw [hb6]
 refine vn (fun _ => Zh fd62_5 rfl rfl) (vl 0 _ ld33 rfl rfl rfl ?_)
 refine vx hm el33 rfl rfl fun x4 _ hm => ?_
 refine vn (fun _ => o_fl fd38_0 rfl rfl) (va (.sc (.int .i64 x4.Kind)) ld3 rfl rfl ?_)
 exact vgo hm () trivial (lx (.k4 .nil))
 rw [hb6]
 exact vgo hm () trivial (lx (.k4 .nil))
 rw [hb5]
 exact vgo hm () trivial (lx (.k4 .nil))
 rintro _ j3 hm
 refine v0 ?_
 exact vgo hm () trivial (lx (.k4 .nil))
 refine v0 ?_
 exact vbk hm () trivial (lx (.k4 .nil))
 rintro _ ⟨r4, r5⟩ hm
 refine vs (vs (v0 (v0 ?_)))
 refine vi hm (fun hc9 hm => ?_) fun hc9 hm => ?_
 refine vs (v0 (v0 ?_))
 refine vrt hm fun hm => ?_
 refine vrt hm fun hm => ?_
 refine vrt hm fun hm => ?_
 cases hm
 exact vr fun hk => Ret.of1 (.inl rfl) (rsT _ _ (.sc (.int _ _)) rfl) (hp_pick hk [1, 2, 3, 4, 5] rfl).2 (ALe.refl _ _) ⟨g_Snaps, ok_Snaps, g_Chunks, ok_Chunks, g_Exps, ok_Exps, g_Vols, ok_Vols, (hp_pick hk [1, 2, 3, 4, 5] rfl).1, rfl, rfl⟩
 refine v0 (vs (v0 (vq0 (by kernel_rfl) (vn (fun _ => o_nil rfl) (vn (fun _ => Zh fd30_4 rfl rfl) (vl 1 (aw g_Vols.t g_Vols.n g_Vols.cap) ld28 rfl rfl rfl (vn (fun _ => Zh fd62_4 rfl rfl) (vl 0 _ ld3 rfl rfl rfl ?_))))))))
 obtain ⟨x5, hx1, hm⟩ := Zc hm
 refine vn (fun _ => o_ixA hx1 el28 ok_Vols rfl rfl) (vs (v0 (vn (fun _ => o_nilA (AOk.ne ok_Vols hx1) rfl) (vn (fun _ => o_flA (AOk.ne ok_Vols hx1) fd49_3 rfl rfl) (vn (fun hk => o_ldA (fo := 3) (.sc (.int .i64 x5.Files)) hx1 cz_Vol ok_Vols ld3 rfl (hp_at 5 hk rfl) (fun _ => rfl)) (vn (fun _ => o_nilA (AOk.ne ok_Vols hx1) rfl) (vn (fun _ => o_flA (AOk.ne ok_Vols hx1) fd49_2 rfl rfl) ?_)))))))
 refine ve fun hk => a_storeA (fo := 2) ({ x5 with State := 2 } : TVol) 5 hk hx1 cz_Vol ok_Vols rfl rfl rfl rfl (ALeL.refl _ _) sz3 rfl rfl fun hk11 => qk hk11 rfl ?_
 refine vn (fun _ => o_nilA (AOk.ne (AOk.set ok_Vols) (ix_set (x' := ({ x5 with State := 2 } : TVol)) hx1)) rfl) (vn (fun _ => o_flA (AOk.ne (AOk.set ok_Vols) (ix_set (x' := ({ x5 with State := 2 } : TVol)) hx1)) fd49_3 rfl rfl) ?_)
 refine ve fun hk => a_storeA (fo := 3) ({ ({ x5 with State := 2 } : TVol) with Files := IntKind.wrap .i64 (x5.Files + 1) } : TVol) 5 hk (ix_set (x' := ({ x5 with State := 2 } : TVol)) hx1) cz_Vol (AOk.set ok_Vols) rfl rfl rfl rfl (ALeL.refl _ _) sz3 rfl rfl fun hk12 => qk hk12 rfl ?_
 refine vs (vs (v0 ?_))
 refine vlp hm (σ := Int × (List TSnap) × (List TChunk) × (List TExp) × Int) (τ := AGh × AGh × AGh) (fun g s => [(some k2, .obj 62 (c_Change p1)), (some p0K, .obj 30 ([.sc (.int .i64 s.1), aw g.1.t g.1.n g.1.cap, aw g.2.1.t g.2.1.n g.2.1.cap, aw g.2.2.t g.2.2.n g.2.2.cap, aw g_Vols.t g_Vols.n g_Vols.cap])), (g.1.t, .obj 60 (fl c_Snap (s.2.1 : List TSnap) g.1.sp)), (g.2.1.t, .obj 44 (fl c_Chunk (s.2.2.1 : List TChunk) g.2.1.sp)), (g.2.2.t, .obj 99 (fl c_Exp (s.2.2.2.1 : List TExp) g.2.2.sp)), (g_Vols.t, .obj 49 (fl c_Vol ((p0.Vols.set p1.Vol.toNat ({ x5 with State := 2 })).set p1.Vol.toNat ({ ({ x5 with State := 2 } : TVol) with Files := IntKind.wrap .i64 (x5.Files + 1) }) : List TVol) g_Vols.sp))]) (fun g s => AOk g.1 4 (s.2.1 : List TSnap).length ∧ AOk g.2.1 35 (s.2.2.1 : List TChunk).length ∧ AOk g.2.2 3 (s.2.2.2.1 : List TExp).length) (fun g s => .c 0 (.ptr p0K 0) (.c 3 (.ptr k2 0) (.c 10 (apt g_Vols.t (p1.Vol.toNat * 4 + 0)) (.c 11 (.sc (.int .i64 s.2.2.2.2)) .nil)))) (g_Snaps, g_Chunks, g_Exps) (⟨ok_Snaps, ok_Chunks, ok_Exps⟩) (lx (.k4 .nil)) ?_ ?_
 rintro ⟨ag6, ag7, ag8⟩ ⟨q6, q7, q8, q9, q10⟩ x ⟨ok5, ok6, ok7⟩ hm
 replace hm : M91_L7 fuel p0 p1 x5 q6 q7 q8 q9 q10 = some x := hm
 unfold M91_L7 at hm
 refine vs (vs (v0 (vn (fun _ => Zh fd62_5 rfl rfl) (vl 0 _ ld33 rfl rfl rfl (vln ln33 rfl (v0 ?_))))))
 refine vi hm (fun hc10 hm => ?_) fun hc10 hm => ?_
 refine v0 (vs (v0 (vs (v0 ?_))))
 refine vz [(1000000, some k2, .obj 62 (c_Change p1)), (1000000, g_Vols.t, .obj 49 (fl c_Vol ((p0.Vols.set p1.Vol.toNat ({ x5 with State := 2 })).set p1.Vol.toNat ({ ({ x5 with State := 2 } : TVol) with Files := IntKind.wrap .i64 (x5.Files + 1) }) : List TVol) g_Vols.sp))] mixed (fun hk => ⟨fun _ => hp_at 0 hk rfl, fun _ => hp_at 5 hk rfl, trivial⟩) fun hk => ?_
 refine z_w 0 rfl (fun S' h' hi hB => o_mv (.ptr _ _) rfl) ?_
 refine z_w 1 rfl (fun S' h' hi hB => Zh fd62_5 rfl rfl) ?_
 refine z_w 2 rfl (fun S' h' hi hB => Zg (.sl none 37 (List.map c_Item p1.Items)) ld33 rfl (At.s (InvL.get 0 hi rfl (hB 1000000 (by kernel_rfl)))) rfl) ?_
 refine z_w 3 rfl (fun S' h' hi hB => o_mv (.sc (.int _ _)) rfl) ?_
 obtain ⟨x6, hx2, hm⟩ := Zc hm
 refine z_w 4 rfl (fun S' h' hi hB => o_ix hx2 el33 rfl rfl) ?_
 refine z_w 5 rfl (fun S' h' hi hB => o_ld (.agg (c_Item x6)) ld38 rfl rfl) ?_
 refine z_w 6 rfl (fun S' h' hi hB => Zh fd62_4 rfl rfl) ?_
 refine z_w 7 rfl (fun S' h' hi hB => Zg (.sc (.int .i64 p1.Vol)) ld3 rfl (At.s (InvL.get 0 hi rfl (hB 1000000 (by kernel_rfl)))) rfl) ?_
 refine z_w 8 rfl (fun S' h' hi hB => o_mv (apt _ _) rfl) ?_
 refine z_w 9 rfl (fun S' h' hi hB => o_nilA (AOk.ne (AOk.set (AOk.set ok_Vols)) (ix_set (x' := ({ ({ x5 with State := 2 } : TVol) with Files := IntKind.wrap .i64 (x5.Files + 1) } : TVol)) (ix_set (x' := ({ x5 with State := 2 } : TVol)) hx1))) rfl) ?_
 refine z_w 10 rfl (fun S' h' hi hB => o_flA (AOk.ne (AOk.set (AOk.set ok_Vols)) (ix_set (x' := ({ ({ x5 with State := 2 } : TVol) with Files := IntKind.wrap .i64 (x5.Files + 1) } : TVol)) (ix_set (x' := ({ x5 with State := 2 } : TVol)) hx1))) fd49_3 rfl rfl) ?_
 refine z_w 11 rfl (fun S' h' hi hB => o_ldA (fo := 3) (.sc (.int .i64 (({ ({ x5 with State := 2 } : TVol) with Files := IntKind.wrap .i64 (x5.Files + 1) } : TVol).Files))) (ix_set (x' := ({ ({ x5 with State := 2 } : TVol) with Files := IntKind.wrap .i64 (x5.Files + 1) } : TVol)) (ix_set (x' := ({ x5 with State := 2 } : TVol)) hx1)) cz_Vol (AOk.set (AOk.set ok_Vols)) ld3 rfl (InvL.get 1 hi rfl (hB 1000000 (by kernel_rfl))) (fun _ => rfl)) ?_
 refine z_w 12 rfl (fun S' h' hi hB => Zh fd62_5 rfl rfl) ?_
 refine z_w 13 rfl (fun S' h' hi hB => Zg (.sl none 37 (List.map c_Item p1.Items)) ld33 rfl (At.s (InvL.get 0 hi rfl (hB 1000000 (by kernel_rfl)))) rfl) ?_
 refine z_w 14 rfl (fun S' h' hi hB => o_mv (.sc (.int _ _)) rfl) ?_
 obtain ⟨x7, hx3, hm⟩ := Zc hm
 refine z_w 15 rfl (fun S' h' hi hB => o_ix hx3 el33 rfl rfl) ?_
 refine z_w 16 rfl (fun S' h' hi hB => o_fl fd38_4 rfl rfl) ?_
 refine z_w 17 rfl (fun S' h' hi hB => o_ld (.sc (.int .i64 x7.Off)) ld3 rfl rfl) ?_
 refine z_w 18 rfl (fun S' h' hi hB => Zh fd62_5 rfl rfl) ?_
 refine z_w 19 rfl (fun S' h' hi hB => Zg (.sl none 37 (List.map c_Item p1.Items)) ld33 rfl (At.s (InvL.get 0 hi rfl (hB 1000000 (by kernel_rfl)))) rfl) ?_
 refine z_w 20 rfl (fun S' h' hi hB => o_mv (.sc (.int _ _)) rfl) ?_
 obtain ⟨x8, hx4, hm⟩ := Zc hm
 refine z_w 21 rfl (fun S' h' hi hB => o_ix hx4 el33 rfl rfl) ?_
 refine z_w 22 rfl (fun S' h' hi hB => o_fl fd38_5 rfl rfl) ?_
 refine z_w 23 rfl (fun S' h' hi hB => o_ld (.sc (.int .i64 x8.Len)) ld3 rfl rfl) ?_
 refine z_w 24 rfl (fun S' h' hi hB => o_bld (c_Loc ({ Vol := p1.Vol, File := ({ ({ x5 with State := 2 } : TVol) with Files := IntKind.wrap .i64 (x5.Files + 1) } : TVol).Files, Off := x7.Off, Len := x8.Len } : TLoc)) bt81 rfl) ?_
 obtain ⟨y1, hy4, hm⟩ := Zc hm
 refine z_e 25 rfl (by kernel_rfl) (AOp_eqh ((hp_permI hk [1, 2, 3, 4, 5, 0] rfl rfl).1.trans (hp_app h [(some p0K, .obj 30 ([.sc (.int .i64 q6), aw ag6.t ag6.n ag6.cap, aw ag7.t ag7.n ag7.cap, aw ag8.t ag8.n ag8.cap, aw g_Vols.t g_Vols.n g_Vols.cap])), (ag6.t, .obj 60 (fl c_Snap (q7 : List TSnap) ag6.sp)), (ag7.t, .obj 44 (fl c_Chunk (q8 : List TChunk) ag7.sp)), (ag8.t, .obj 99 (fl c_Exp (q9 : List TExp) ag8.sp)), (g_Vols.t, .obj 49 (fl c_Vol ((p0.Vols.set p1.Vol.toNat ({ x5 with State := 2 })).set p1.Vol.toNat ({ ({ x5 with State := 2 } : TVol) with Files := IntKind.wrap .i64 (x5.Files + 1) }) : List TVol) g_Vols.sp))] [(some k2, .obj 62 (c_Change p1))]).symm) (a_call (W156 (hp h [(some k2, .obj 62 (c_Change p1))]) ok5 ok6 ok7 (AOk.set (AOk.set ok_Vols)) (HOk_spl [(some p0K, .obj 30 ([.sc (.int .i64 q6), aw ag6.t ag6.n ag6.cap, aw ag7.t ag7.n ag7.cap, aw ag8.t ag8.n ag8.cap, aw g_Vols.t g_Vols.n g_Vols.cap])), (ag6.t, .obj 60 (fl c_Snap (q7 : List TSnap) ag6.sp)), (ag7.t, .obj 44 (fl c_Chunk (q8 : List TChunk) ag7.sp)), (ag8.t, .obj 99 (fl c_Exp (q9 : List TExp) ag8.sp)), (g_Vols.t, .obj 49 (fl c_Vol ((p0.Vols.set p1.Vol.toNat ({ x5 with State := 2 })).set p1.Vol.toNat ({ ({ x5 with State := 2 } : TVol) with Files := IntKind.wrap .i64 (x5.Files + 1) }) : List TVol) g_Vols.sp))] [(some k2, .obj 62 (c_Change p1))] (hp_permI hk [1, 2, 3, 4, 5, 0] rfl rfl).2).2 hy4) rfl bd156 rfl ?_))
 rintro x h' ⟨ag9, ok8, ag10, ok9, ag11, ok10, hk13, rfl, rfl⟩
 have hk14 := hp_permI (L' := [(some k2, .obj 62 (c_Change p1)), (some p0K, .obj 30 ([.sc (.int .i64 y1.2.1), aw ag9.t ag9.n ag9.cap, aw ag10.t ag10.n ag10.cap, aw ag11.t ag11.n ag11.cap, aw g_Vols.t g_Vols.n g_Vols.cap])), (ag9.t, .obj 60 (fl c_Snap (y1.2.2.1 : List TSnap) ag9.sp)), (ag10.t, .obj 44 (fl c_Chunk (y1.2.2.2.1 : List TChunk) ag10.sp)), (ag11.t, .obj 99 (fl c_Exp (y1.2.2.2.2 : List TExp) ag11.sp)), (g_Vols.t, .obj 49 (fl c_Vol ((p0.Vols.set p1.Vol.toNat ({ x5 with State := 2 })).set p1.Vol.toNat ({ ({ x5 with State := 2 } : TVol) with Files := IntKind.wrap .i64 (x5.Files + 1) }) : List TVol) g_Vols.sp))]) (HOk_app (HOk_spl [(some p0K, .obj 30 ([.sc (.int .i64 q6), aw ag6.t ag6.n ag6.cap, aw ag7.t ag7.n ag7.cap, aw ag8.t ag8.n ag8.cap, aw g_Vols.t g_Vols.n g_Vols.cap])), (ag6.t, .obj 60 (fl c_Snap (q7 : List TSnap) ag6.sp)), (ag7.t, .obj 44 (fl c_Chunk (q8 : List TChunk) ag7.sp)), (ag8.t, .obj 99 (fl c_Exp (q9 : List TExp) ag8.sp)), (g_Vols.t, .obj 49 (fl c_Vol ((p0.Vols.set p1.Vol.toNat ({ x5 with State := 2 })).set p1.Vol.toNat ({ ({ x5 with State := 2 } : TVol) with Files := IntKind.wrap .i64 (x5.Files + 1) }) : List TVol) g_Vols.sp))] [(some k2, .obj 62 (c_Change p1))] (hp_permI hk [1, 2, 3, 4, 5, 0] rfl rfl).2).1 hk13) [5, 0, 1, 2, 3, 4] rfl rfl
 refine zeqh ((hp_app h [(some p0K, .obj 30 ([.sc (.int .i64 y1.2.1), aw ag9.t ag9.n ag9.cap, aw ag10.t ag10.n ag10.cap, aw ag11.t ag11.n ag11.cap, aw g_Vols.t g_Vols.n g_Vols.cap])), (ag9.t, .obj 60 (fl c_Snap (y1.2.2.1 : List TSnap) ag9.sp)), (ag10.t, .obj 44 (fl c_Chunk (y1.2.2.2.1 : List TChunk) ag10.sp)), (ag11.t, .obj 99 (fl c_Exp (y1.2.2.2.2 : List TExp) ag11.sp)), (g_Vols.t, .obj 49 (fl c_Vol ((p0.Vols.set p1.Vol.toNat ({ x5 with State := 2 })).set p1.Vol.toNat ({ ({ x5 with State := 2 } : TVol) with Files := IntKind.wrap .i64 (x5.Files + 1) }) : List TVol) g_Vols.sp))] [(some k2, .obj 62 (c_Change p1))]).trans hk14.1) ?_
 refine ⟨⟨fun _ => hp_at 0 hk14.2 rfl, fun _ => hp_at 5 hk14.2 rfl, trivial⟩, ?_⟩
 refine z_w 26 rfl (fun S' h' hi hB => o_not rfl) ?_
 refine z_nil (by kernel_rfl) (qk (f := .c 220 _ (.c 219 _ (.c 218 _ (.c 217 _ (.c 216 _ (.c 215 _ (.c 214 _ (.c 213 _ (.c 212 _ (.c 211 _ (.c 210 _ (.c 209 _ (.c 208 _ (.c 207 _ (.c 206 _ (.c 205 _ (.c 204 _ (.c 203 _ (.c 202 _ (.c 201 _ (.c 200 _ (.c 199 _ (.c 198 _ (.c 197 _ (.c 196 _ (.c 195 _ (.c 194 _ _))))))))))))))))))))))))))) hk14.2 rfl ?_)
 refine v0 ?_
 refine vi hm (fun hc11 hm => ?_) fun hc11 hm => ?_
 refine vs (v0 (v0 ?_))
 refine vrt hm fun hm => ?_
 refine vrt hm fun hm => ?_
 refine vrt hm fun hm => ?_
 refine vrt hm fun hm => ?_
 cases hm
 exact vr fun hk => Ret.of1 (.inl rfl) (rsT _ _ (.sc (.int _ _)) rfl) (hp_pick hk [1, 2, 3, 4, 5] rfl).2 (ALe.refl _ _) ⟨ag9, ok8, ag10, ok9, ag11, ok10, g_Vols, (AOk.set (AOk.set ok_Vols)), (hp_pick hk [1, 2, 3, 4, 5] rfl).1, rfl, rfl⟩
 refine v0 (v0 ?_)
 exact vgo hm (ag9, ag10, ag11) ⟨ok8, ok9, ok10⟩ (lx (.k4 .nil))
 refine v0 ?_
 exact vbk hm (ag6, ag7, ag8) ⟨ok5, ok6, ok7⟩ (lx (.k4 .nil))
 rintro ⟨ag12, ag13, ag14⟩ ⟨r6, r7, r8, r9, r10⟩ ⟨ot1, ot2, ot3⟩ hm
 refine vs (vs (v0 ?_))
 refine vlp hm (σ := (List TSnap) × (List TChunk) × Int) (τ := AGh × AGh) (fun g s => [(some k2, .obj 62 (c_Change p1)), (some p0K, .obj 30 ([.sc (.int .i64 r6), aw g.1.t g.1.n g.1.cap, aw g.2.t g.2.n g.2.cap, aw ag14.t ag14.n ag14.cap, aw g_Vols.t g_Vols.n g_Vols.cap])), (g.1.t, .obj 60 (fl c_Snap (s.1 : List TSnap) g.1.sp)), (g.2.t, .obj 44 (fl c_Chunk (s.2.1 : List TChunk) g.2.sp)), (ag14.t, .obj 99 (fl c_Exp (r9 : List TExp) ag14.sp)), (g_Vols.t, .obj 49 (fl c_Vol ((p0.Vols.set p1.Vol.toNat ({ x5 with State := 2 })).set p1.Vol.toNat ({ ({ x5 with State := 2 } : TVol) with Files := IntKind.wrap .i64 (x5.Files + 1) }) : List TVol) g_Vols.sp))]) (fun g s => AOk g.1 4 (s.1 : List TSnap).length ∧ AOk g.2 35 (s.2.1 : List TChunk).length) (fun g s => .c 0 (.ptr p0K 0) (.c 3 (.ptr k2 0) (.c 10 (apt g_Vols.t (p1.Vol.toNat * 4 + 0)) (.c 12 (.sc (.int .i64 s.2.2)) .nil)))) (ag12, ag13) (⟨ot1, ot2⟩) (lx (.k4 .nil)) ?_ ?_
 rintro ⟨ag15, ag16⟩ ⟨q11, q12, q13⟩ x ⟨ok11, ok12⟩ hm
 replace hm : M91_L9 fuel p0 p1 x5 r6 r9 q11 q12 q13 = some x := hm
 unfold M91_L9 at hm
 refine vs (vs (v0 (vn (fun _ => Zh fd62_5 rfl rfl) (vl 0 _ ld33 rfl rfl rfl (vln ln33 rfl (v0 ?_))))))
 refine vi hm (fun hc12 hm => ?_) fun hc12 hm => ?_
 refine v0 (vs (v0 (vs (v0 (vn (fun _ => Zh fd62_5 rfl rfl) (vl 0 _ ld33 rfl rfl rfl ?_))))))
 refine vx hm el33 rfl rfl fun x9 _ hm => ?_
 refine vn (fun _ => o_fl fd38_0 rfl rfl) (va (.sc (.int .i64 x9.Kind)) ld3 rfl rfl ?_)
 refine vjn hm (σ := (List TSnap) × (List TChunk)) (τ := AGh × AGh) (fun g s => [(some k2, .obj 62 (c_Change p1)), (some p0K, .obj 30 ([.sc (.int .i64 r6), aw g.1.t g.1.n g.1.cap, aw g.2.t g.2.n g.2.cap, aw ag14.t ag14.n ag14.cap, aw g_Vols.t g_Vols.n g_Vols.cap])), (g.1.t, .obj 60 (fl c_Snap (s.1 : List TSnap) g.1.sp)), (g.2.t, .obj 44 (fl c_Chunk (s.2 : List TChunk) g.2.sp)), (ag14.t, .obj 99 (fl c_Exp (r9 : List TExp) ag14.sp)), (g_Vols.t, .obj 49 (fl c_Vol ((p0.Vols.set p1.Vol.toNat ({ x5 with State := 2 })).set p1.Vol.toNat ({ ({ x5 with State := 2 } : TVol) with Files := IntKind.wrap .i64 (x5.Files + 1) }) : List TVol) g_Vols.sp))]) (fun g s => AOk g.1 4 (s.1 : List TSnap).length ∧ AOk g.2 35 (s.2 : List TChunk).length) (fun g s => .c 0 (.ptr p0K 0) (.c 3 (.ptr k2 0) (.c 10 (apt g_Vols.t (p1.Vol.toNat * 4 + 0)) (.c 12 (.sc (.int .i64 q13)) .nil)))) (fun x hm => ?_) ?_
 refine v0 ?_
 refine vi hm (fun hc13 hm => ?_) fun hc13 hm => ?_
 refine v0 (vn (fun _ => Zh fd62_5 rfl rfl) (vl 0 _ ld33 rfl rfl rfl ?_))
 refine vx hm el33 rfl rfl fun x10 _ hm => ?_
 refine vn (fun _ => o_fl fd38_3 rfl rfl) (va (.sc (.int .i64 x10.Of)) ld3 rfl rfl ?_)
 obtain ⟨y2, hy5, hm⟩ := Zc hm
 refine ve fun hk => AOp_eqh ((hp_permI hk [1, 2, 3, 4, 5, 0] rfl rfl).1.trans (hp_app h [(some p0K, .obj 30 ([.sc (.int .i64 r6), aw ag15.t ag15.n ag15.cap, aw ag16.t ag16.n ag16.cap, aw ag14.t ag14.n ag14.cap, aw g_Vols.t g_Vols.n g_Vols.cap])), (ag15.t, .obj 60 (fl c_Snap (q11 : List TSnap) ag15.sp)), (ag16.t, .obj 44 (fl c_Chunk (q12 : List TChunk) ag16.sp)), (ag14.t, .obj 99 (fl c_Exp (r9 : List TExp) ag14.sp)), (g_Vols.t, .obj 49 (fl c_Vol ((p0.Vols.set p1.Vol.toNat ({ x5 with State := 2 })).set p1.Vol.toNat ({ ({ x5 with State := 2 } : TVol) with Files := IntKind.wrap .i64 (x5.Files + 1) }) : List TVol) g_Vols.sp))] [(some k2, .obj 62 (c_Change p1))]).symm) (a_call (W154 (hp h [(some k2, .obj 62 (c_Change p1))]) ok11 ok12 ot3 (AOk.set (AOk.set ok_Vols)) (HOk_spl [(some p0K, .obj 30 ([.sc (.int .i64 r6), aw ag15.t ag15.n ag15.cap, aw ag16.t ag16.n ag16.cap, aw ag14.t ag14.n ag14.cap, aw g_Vols.t g_Vols.n g_Vols.cap])), (ag15.t, .obj 60 (fl c_Snap (q11 : List TSnap) ag15.sp)), (ag16.t, .obj 44 (fl c_Chunk (q12 : List TChunk) ag16.sp)), (ag14.t, .obj 99 (fl c_Exp (r9 : List TExp) ag14.sp)), (g_Vols.t, .obj 49 (fl c_Vol ((p0.Vols.set p1.Vol.toNat ({ x5 with State := 2 })).set p1.Vol.toNat ({ ({ x5 with State := 2 } : TVol) with Files := IntKind.wrap .i64 (x5.Files + 1) }) : List TVol) g_Vols.sp))] [(some k2, .obj 62 (c_Change p1))] (hp_permI hk [1, 2, 3, 4, 5, 0] rfl rfl).2).2 hy5) rfl bd154 rfl ?_)
 rintro x h' ⟨ag17, ok13, ag18, ok14, hk15, rfl, rfl⟩
 have hk16 := hp_permI (L' := [(some k2, .obj 62 (c_Change p1)), (some p0K, .obj 30 ([.sc (.int .i64 r6), aw ag17.t ag17.n ag17.cap, aw ag18.t ag18.n ag18.cap, aw ag14.t ag14.n ag14.cap, aw g_Vols.t g_Vols.n g_Vols.cap])), (ag17.t, .obj 60 (fl c_Snap (y2.2.1 : List TSnap) ag17.sp)), (ag18.t, .obj 44 (fl c_Chunk (y2.2.2 : List TChunk) ag18.sp)), (ag14.t, .obj 99 (fl c_Exp (r9 : List TExp) ag14.sp)), (g_Vols.t, .obj 49 (fl c_Vol ((p0.Vols.set p1.Vol.toNat ({ x5 with State := 2 })).set p1.Vol.toNat ({ ({ x5 with State := 2 } : TVol) with Files := IntKind.wrap .i64 (x5.Files + 1) }) : List TVol) g_Vols.sp))]) (HOk_app (HOk_spl [(some p0K, .obj 30 ([.sc (.int .i64 r6), aw ag15.t ag15.n ag15.cap, aw ag16.t ag16.n ag16.cap, aw ag14.t ag14.n ag14.cap, aw g_Vols.t g_Vols.n g_Vols.cap])), (ag15.t, .obj 60 (fl c_Snap (q11 : List TSnap) ag15.sp)), (ag16.t, .obj 44 (fl c_Chunk (q12 : List TChunk) ag16.sp)), (ag14.t, .obj 99 (fl c_Exp (r9 : List TExp) ag14.sp)), (g_Vols.t, .obj 49 (fl c_Vol ((p0.Vols.set p1.Vol.toNat ({ x5 with State := 2 })).set p1.Vol.toNat ({ ({ x5 with State := 2 } : TVol) with Files := IntKind.wrap .i64 (x5.Files + 1) }) : List TVol) g_Vols.sp))] [(some k2, .obj 62 (c_Change p1))] (hp_permI hk [1, 2, 3, 4, 5, 0] rfl rfl).2).1 hk15) [5, 0, 1, 2, 3, 4] rfl rfl
 refine qk hk16.2 ((hp_app h [(some p0K, .obj 30 ([.sc (.int .i64 r6), aw ag17.t ag17.n ag17.cap, aw ag18.t ag18.n ag18.cap, aw ag14.t ag14.n ag14.cap, aw g_Vols.t g_Vols.n g_Vols.cap])), (ag17.t, .obj 60 (fl c_Snap (y2.2.1 : List TSnap) ag17.sp)), (ag18.t, .obj 44 (fl c_Chunk (y2.2.2 : List TChunk) ag18.sp)), (ag14.t, .obj 99 (fl c_Exp (r9 : List TExp) ag14.sp)), (g_Vols.t, .obj 49 (fl c_Vol ((p0.Vols.set p1.Vol.toNat ({ x5 with State := 2 })).set p1.Vol.toNat ({ ({ x5 with State := 2 } : TVol) with Files := IntKind.wrap .i64 (x5.Files + 1) }) : List TVol) g_Vols.sp))] [(some k2, .obj 62 (c_Change p1))]).trans hk16.1) ?_
 exact vgo hm (ag17, ag18) ⟨ok13, ok14⟩ (lx (.k4 .nil))
 refine v0 ?_
 exact vgo hm (ag15, ag16) ⟨ok11, ok12⟩ (lx (.k4 .nil))
 rintro ⟨ag19, ag20⟩ ⟨j4, j5⟩ ⟨ok15, ok16⟩ hm
 refine v0 ?_
 exact vgo hm (ag19, ag20) ⟨ok15, ok16⟩ (lx (.k4 .nil))
 refine v0 ?_
 exact vbk hm (ag15, ag16) ⟨ok11, ok12⟩ (lx (.k4 .nil))
 rintro ⟨ag21, ag22⟩ ⟨r11, r12, r13⟩ ⟨ot4, ot5⟩ hm
 refine vs (v0 (vn (fun _ => o_nilA (AOk.ne (AOk.set (AOk.set ok_Vols)) (ix_set (x' := ({ ({ x5 with State := 2 } : TVol) with Files := IntKind.wrap .i64 (x5.Files + 1) } : TVol)) (ix_set (x' := ({ x5 with State := 2 } : TVol)) hx1))) rfl) (vn (fun _ => o_flA (AOk.ne (AOk.set (AOk.set ok_Vols)) (ix_set (x' := ({ ({ x5 with State := 2 } : TVol) with Files := IntKind.wrap .i64 (x5.Files + 1) } : TVol)) (ix_set (x' := ({ x5 with State := 2 } : TVol)) hx1))) fd49_0 rfl rfl) (vn (fun hk => o_ldA (fo := 0) (.sc (.int .i64 (({ ({ x5 with State := 2 } : TVol) with Files := IntKind.wrap .i64 (x5.Files + 1) } : TVol).Pool))) (ix_set (x' := ({ ({ x5 with State := 2 } : TVol) with Files := IntKind.wrap .i64 (x5.Files + 1) } : TVol)) (ix_set (x' := ({ x5 with State := 2 } : TVol)) hx1)) cz_Vol (AOk.set (AOk.set ok_Vols)) ld3 rfl (hp_at 5 hk rfl) (fun _ => rfl)) ?_))))
 refine vjn hm (σ := (List TChunk)) (τ := AGh) (fun g s => [(some k2, .obj 62 (c_Change p1)), (some p0K, .obj 30 ([.sc (.int .i64 r6), aw ag21.t ag21.n ag21.cap, aw g.t g.n g.cap, aw ag14.t ag14.n ag14.cap, aw g_Vols.t g_Vols.n g_Vols.cap])), (ag21.t, .obj 60 (fl c_Snap (r11 : List TSnap) ag21.sp)), (g.t, .obj 44 (fl c_Chunk (s : List TChunk) g.sp)), (ag14.t, .obj 99 (fl c_Exp (r9 : List TExp) ag14.sp)), (g_Vols.t, .obj 49 (fl c_Vol ((p0.Vols.set p1.Vol.toNat ({ x5 with State := 2 })).set p1.Vol.toNat ({ ({ x5 with State := 2 } : TVol) with Files := IntKind.wrap .i64 (x5.Files + 1) }) : List TVol) g_Vols.sp))]) (fun g s => AOk g 35 (s : List TChunk).length) (fun g s => .nil) (fun x hm => ?_) ?_
 refine v0 ?_
 refine vi hm (fun hc14 hm => ?_) fun hc14 hm => ?_
 refine vs (v0 ?_)
 refine vlp hm (σ := (List TChunk) × Int) (τ := AGh) (fun g s => [(some k2, .obj 62 (c_Change p1)), (some p0K, .obj 30 ([.sc (.int .i64 r6), aw ag21.t ag21.n ag21.cap, aw g.t g.n g.cap, aw ag14.t ag14.n ag14.cap, aw g_Vols.t g_Vols.n g_Vols.cap])), (ag21.t, .obj 60 (fl c_Snap (r11 : List TSnap) ag21.sp)), (g.t, .obj 44 (fl c_Chunk (s.1 : List TChunk) g.sp)), (ag14.t, .obj 99 (fl c_Exp (r9 : List TExp) ag14.sp)), (g_Vols.t, .obj 49 (fl c_Vol ((p0.Vols.set p1.Vol.toNat ({ x5 with State := 2 })).set p1.Vol.toNat ({ ({ x5 with State := 2 } : TVol) with Files := IntKind.wrap .i64 (x5.Files + 1) }) : List TVol) g_Vols.sp))]) (fun g s => AOk g 35 (s.1 : List TChunk).length) (fun g s => .c 0 (.ptr p0K 0) (.c 3 (.ptr k2 0) (.c 13 (.sc (.int .i64 s.2)) .nil))) ag22 ot5 (lx (.k3 .nil)) ?_ ?_
 rintro ag23 ⟨q14, q15⟩ x ok17 hm
 replace hm : M91_L11 fuel p0 p1 x5 r6 r9 r11 q14 q15 = some x := hm
 unfold M91_L11 at hm
 refine vs (vs (v0 (vn (fun _ => Zh fd62_5 rfl rfl) (vl 0 _ ld33 rfl rfl rfl (vln ln33 rfl (v0 ?_))))))
 refine vi hm (fun hc15 hm => ?_) fun hc15 hm => ?_
 refine v0 (vs (v0 (vs (v0 (vn (fun _ => Zh fd62_5 rfl rfl) (vl 0 _ ld33 rfl rfl rfl ?_))))))
 refine vx hm el33 rfl rfl fun x11 _ hm => ?_
 refine vn (fun _ => o_fl fd38_0 rfl rfl) (va (.sc (.int .i64 x11.Kind)) ld3 rfl rfl ?_)
 refine vjn hm (σ := (List TChunk)) (τ := AGh) (fun g s => [(some k2, .obj 62 (c_Change p1)), (some p0K, .obj 30 ([.sc (.int .i64 r6), aw ag21.t ag21.n ag21.cap, aw g.t g.n g.cap, aw ag14.t ag14.n ag14.cap, aw g_Vols.t g_Vols.n g_Vols.cap])), (ag21.t, .obj 60 (fl c_Snap (r11 : List TSnap) ag21.sp)), (g.t, .obj 44 (fl c_Chunk (s : List TChunk) g.sp)), (ag14.t, .obj 99 (fl c_Exp (r9 : List TExp) ag14.sp)), (g_Vols.t, .obj 49 (fl c_Vol ((p0.Vols.set p1.Vol.toNat ({ x5 with State := 2 })).set p1.Vol.toNat ({ ({ x5 with State := 2 } : TVol) with Files := IntKind.wrap .i64 (x5.Files + 1) }) : List TVol) g_Vols.sp))]) (fun g s => AOk g 35 (s : List TChunk).length) (fun g s => .c 0 (.ptr p0K 0) (.c 3 (.ptr k2 0) (.c 13 (.sc (.int .i64 q15)) .nil))) (fun x hm => ?_) ?_
 refine v0 ?_
 refine vi hm (fun hc16 hm => ?_) fun hc16 hm => ?_
 refine vs (v0 (vq0 (by kernel_rfl) (vn (fun _ => o_nil rfl) (vl 1 (.agg ([.sc (.int .i64 r6), aw ag21.t ag21.n ag21.cap, aw ag23.t ag23.n ag23.cap, aw ag14.t ag14.n ag14.cap, aw g_Vols.t g_Vols.n g_Vols.cap])) ld30 rfl rfl rfl (vn (fun _ => Zh fd62_5 rfl rfl) (vl 0 _ ld33 rfl rfl rfl ?_))))))
 refine vx hm el33 rfl rfl fun x12 _ hm => ?_
 refine vn (fun _ => o_fl fd38_1 rfl rfl) (va (.agg (c_id x12.Id)) ld36 rfl rfl ?_)
 obtain ⟨_, hy6, hm⟩ := Zc hm
 refine vn (fun hk => o_call (ACalls_pure (.cons (Br.agg (.cons (Br.refl _ _) (.cons (Br.aw 2 cz_Snap ot4 hk rfl) (.cons (Br.aw 3 cz_Chunk ok17 hk rfl) (.cons (Br.aw 4 cz_Exp ot3 hk rfl) (.cons (Br.aw 5 cz_Vol (AOk.set (AOk.set ok_Vols)) hk rfl) .nil)))))) (.cons (Br.refl _ _) .nil)) rfl (W88 _ hy6)) rfl bd88 rfl) (vs (v0 ?_))
 refine vjn hm (σ := (List TChunk)) (τ := AGh) (fun g s => [(some k2, .obj 62 (c_Change p1)), (some p0K, .obj 30 ([.sc (.int .i64 r6), aw ag21.t ag21.n ag21.cap, aw g.t g.n g.cap, aw ag14.t ag14.n ag14.cap, aw g_Vols.t g_Vols.n g_Vols.cap])), (ag21.t, .obj 60 (fl c_Snap (r11 : List TSnap) ag21.sp)), (g.t, .obj 44 (fl c_Chunk (s : List TChunk) g.sp)), (ag14.t, .obj 99 (fl c_Exp (r9 : List TExp) ag14.sp)), (g_Vols.t, .obj 49 (fl c_Vol ((p0.Vols.set p1.Vol.toNat ({ x5 with State := 2 })).set p1.Vol.toNat ({ ({ x5 with State := 2 } : TVol) with Files := IntKind.wrap .i64 (x5.Files + 1) }) : List TVol) g_Vols.sp))]) (fun g s => AOk g 35 (s : List TChunk).length) (fun g s => .c 0 (.ptr p0K 0) (.c 3 (.ptr k2 0) (.c 13 (.sc (.int .i64 q15)) .nil))) (fun x hm => ?_) ?_
 refine v0 ?_
 refine vi hm (fun hc17 hm => ?_) fun hc17 hm => ?_
 refine v0 ?_
 refine vz [(1000000, some p0K, .obj 30 ([.sc (.int .i64 r6), aw ag21.t ag21.n ag21.cap, aw ag23.t ag23.n ag23.cap, aw ag14.t ag14.n ag14.cap, aw g_Vols.t g_Vols.n g_Vols.cap]))] mixed (fun hk => ⟨fun _ => hp_at 1 hk rfl, trivial⟩) fun hk => ?_
 refine z_w 0 rfl (fun S' h' hi hB => o_mv (.ptr _ _) rfl) ?_
 refine z_w 1 rfl (fun S' h' hi hB => o_nil rfl) ?_
 refine z_w 2 rfl (fun S' h' hi hB => Zh fd30_2 rfl rfl) ?_
 refine z_w 3 rfl (fun S' h' hi hB => Zg (aw ag23.t ag23.n ag23.cap) ld26 rfl (At.s (InvL.get 0 hi rfl (hB 1000000 (by kernel_rfl)))) rfl) ?_
 refine z_w 4 rfl (fun S' h' hi hB => o_mv (.sc (.int _ _)) rfl) ?_
 refine z_w 5 rfl (fun S' h' hi hB => o_mv (.ptr _ _) rfl) ?_
 refine z_w 6 rfl (fun S' h' hi hB => o_nil rfl) ?_
 refine z_w 7 rfl (fun S' h' hi hB => Zh fd30_2 rfl rfl) ?_
 refine z_w 8 rfl (fun S' h' hi hB => Zg (aw ag23.t ag23.n ag23.cap) ld26 rfl (At.s (InvL.get 0 hi rfl (hB 1000000 (by kernel_rfl)))) rfl) ?_
 refine z_w 9 rfl (fun S' h' hi hB => o_mv (.sc (.int _ _)) rfl) ?_
 obtain ⟨x13, hx5, hm⟩ := Zc hm
 refine z_w 10 rfl (fun S' h' hi hB => o_ixA hx5 el26 ok17 rfl rfl) ?_
 refine z_w 11 rfl (fun S' h' hi hB => o_flA (AOk.ne ok17 hx5) fd44_1 rfl rfl) ?_
 refine z_e 12 rfl (by kernel_rfl) (a_storeA (fo := 32) ({ x13 with Staged := false } : TChunk) 3 hk hx5 cz_Chunk ok17 rfl rfl rfl rfl (ALeL.refl _ _) sz4 rfl rfl fun hk17 => ⟨⟨fun _ => hp_at 1 hk17 rfl, trivial⟩, ?_⟩)
 obtain ⟨x14, hx6, hm⟩ := Zc hm
 refine z_w 13 rfl (fun S' h' hi hB => o_ixA hx6 el26 (AOk.set ok17) rfl rfl) ?_
 refine z_w 14 rfl (fun S' h' hi hB => o_flA (AOk.ne (AOk.set ok17) hx6) fd44_2 rfl rfl) ?_
 refine z_e 15 rfl (by kernel_rfl) (a_storeA (fo := 33) ({ x14 with Data := ([] : List Int) } : TChunk) 3 hk17 hx6 cz_Chunk (AOk.set ok17) rfl rfl rfl rfl (.cons (nil_lem _) .nil) sz41 rfl rfl fun hk18 => ⟨⟨fun _ => hp_at 1 hk18 rfl, trivial⟩, ?_⟩)
 refine z_nil (by kernel_rfl) (qk (f := .c 287 _ (.c 286 _ (.c 285 _ (.c 284 _ (.c 283 _ (.c 282 _ (.c 281 _ (.c 280 _ (.c 279 _ (.c 278 _ (.c 277 _ (.c 276 _ (.c 275 _ (.c 274 _ _)))))))))))))) hk18 rfl ?_)
 exact vgo hm ag23 (AOk.set (AOk.set ok17)) (lx (.k3 .nil))
 refine v0 ?_
 exact vgo hm ag23 ok17 (lx (.k3 .nil))
 rintro ag24 j6 ok18 hm
 exact vgo hm ag24 ok18 (lx (.k3 .nil))
 refine v0 ?_
 exact vgo hm ag23 ok17 (lx (.k3 .nil))
 rintro ag25 j7 ok19 hm
 refine v0 ?_
 exact vgo hm ag25 ok19 (lx (.k3 .nil))
 refine v0 ?_
 exact vbk hm ag23 ok17 (lx (.k3 .nil))
 rintro ag26 ⟨r14, r15⟩ ot6 hm
 exact vgo hm ag26 ot6 (lx .nil)
 refine v0 ?_
 exact vgo hm ag22 ot5 (lx .nil)
 rintro ag27 j8 ok20 hm
 exact vgo hm (ag21, ag27, ag14, g_Vols) ⟨ot4, ok20, ot3, (AOk.set (AOk.set ok_Vols))⟩ (lx .nil)
 refine vs (v0 ?_)
 refine vjn hm (σ := (List TSnap) × (List TChunk) × (List TExp) × (List TVol)) (τ := AGh × AGh × AGh × AGh) (fun g s => [(some k2, .obj 62 (c_Change p1)), (some p0K, .obj 30 ([.sc (.int .i64 p0.Seq), aw g.1.t g.1.n g.1.cap, aw g.2.1.t g.2.1.n g.2.1.cap, aw g.2.2.1.t g.2.2.1.n g.2.2.1.cap, aw g.2.2.2.t g.2.2.2.n g.2.2.2.cap])), (g.1.t, .obj 60 (fl c_Snap (s.1 : List TSnap) g.1.sp)), (g.2.1.t, .obj 44 (fl c_Chunk (s.2.1 : List TChunk) g.2.1.sp)), (g.2.2.1.t, .obj 99 (fl c_Exp (s.2.2.1 : List TExp) g.2.2.1.sp)), (g.2.2.2.t, .obj 49 (fl c_Vol (s.2.2.2 : List TVol) g.2.2.2.sp))]) (fun g s => AOk g.1 4 (s.1 : List TSnap).length ∧ AOk g.2.1 35 (s.2.1 : List TChunk).length ∧ AOk g.2.2.1 3 (s.2.2.1 : List TExp).length ∧ AOk g.2.2.2 4 (s.2.2.2 : List TVol).length) (fun g s => .nil) (fun x hm => ?_) ?_
 refine v0 ?_
 refine vi hm (fun hc18 hm => ?_) fun hc18 hm => ?_
 refine vs (vs (v0 (vn (fun _ => Zh fd62_4 rfl rfl) (vl 0 _ ld3 rfl rfl rfl ?_))))
 obtain ⟨_, hy7, hm⟩ := Zc hm
 refine ve fun hk => AOp_eqh ((hp_permI hk [1, 2, 3, 4, 5, 0] rfl rfl).1.trans (hp_app h [(some p0K, .obj 30 ([.sc (.int .i64 p0.Seq), aw g_Snaps.t g_Snaps.n g_Snaps.cap, aw g_Chunks.t g_Chunks.n g_Chunks.cap, aw g_Exps.t g_Exps.n g_Exps.cap, aw g_Vols.t g_Vols.n g_Vols.cap])), (g_Snaps.t, .obj 60 (fl c_Snap (p0.Snaps : List TSnap) g_Snaps.sp)), (g_Chunks.t, .obj 44 (fl c_Chunk (p0.Chunks : List TChunk) g_Chunks.sp)), (g_Exps.t, .obj 99 (fl c_Exp (p0.Exps : List TExp) g_Exps.sp)), (g_Vols.t, .obj 49 (fl c_Vol (p0.Vols : List TVol) g_Vols.sp))] [(some k2, .obj 62 (c_Change p1))]).symm) (a_call (W155 (hp h [(some k2, .obj 62 (c_Change p1))]) ok_Snaps ok_Chunks ok_Exps ok_Vols (HOk_spl [(some p0K, .obj 30 ([.sc (.int .i64 p0.Seq), aw g_Snaps.t g_Snaps.n g_Snaps.cap, aw g_Chunks.t g_Chunks.n g_Chunks.cap, aw g_Exps.t g_Exps.n g_Exps.cap, aw g_Vols.t g_Vols.n g_Vols.cap])), (g_Snaps.t, .obj 60 (fl c_Snap (p0.Snaps : List TSnap) g_Snaps.sp)), (g_Chunks.t, .obj 44 (fl c_Chunk (p0.Chunks : List TChunk) g_Chunks.sp)), (g_Exps.t, .obj 99 (fl c_Exp (p0.Exps : List TExp) g_Exps.sp)), (g_Vols.t, .obj 49 (fl c_Vol (p0.Vols : List TVol) g_Vols.sp))] [(some k2, .obj 62 (c_Change p1))] (hp_permI hk [1, 2, 3, 4, 5, 0] rfl rfl).2).2 hy7) rfl bd155 rfl ?_)
 rintro x h' ⟨hk19, rfl, rfl⟩
 have hk20 := hp_permI (L' := [(some k2, .obj 62 (c_Change p1)), (some p0K, .obj 30 ([.sc (.int .i64 p0.Seq), aw g_Snaps.t g_Snaps.n g_Snaps.cap, aw g_Chunks.t g_Chunks.n g_Chunks.cap, aw g_Exps.t g_Exps.n g_Exps.cap, aw g_Vols.t g_Vols.n g_Vols.cap])), (g_Snaps.t, .obj 60 (fl c_Snap (p0.Snaps : List TSnap) g_Snaps.sp)), (g_Chunks.t, .obj 44 (fl c_Chunk (p0.Chunks : List TChunk) g_Chunks.sp)), (g_Exps.t, .obj 99 (fl c_Exp (p0.Exps : List TExp) g_Exps.sp)), (g_Vols.t, .obj 49 (fl c_Vol (p0.Vols : List TVol) g_Vols.sp))]) (HOk_app (HOk_spl [(some p0K, .obj 30 ([.sc (.int .i64 p0.Seq), aw g_Snaps.t g_Snaps.n g_Snaps.cap, aw g_Chunks.t g_Chunks.n g_Chunks.cap, aw g_Exps.t g_Exps.n g_Exps.cap, aw g_Vols.t g_Vols.n g_Vols.cap])), (g_Snaps.t, .obj 60 (fl c_Snap (p0.Snaps : List TSnap) g_Snaps.sp)), (g_Chunks.t, .obj 44 (fl c_Chunk (p0.Chunks : List TChunk) g_Chunks.sp)), (g_Exps.t, .obj 99 (fl c_Exp (p0.Exps : List TExp) g_Exps.sp)), (g_Vols.t, .obj 49 (fl c_Vol (p0.Vols : List TVol) g_Vols.sp))] [(some k2, .obj 62 (c_Change p1))] (hp_permI hk [1, 2, 3, 4, 5, 0] rfl rfl).2).1 hk19) [5, 0, 1, 2, 3, 4] rfl rfl
 refine qk hk20.2 ((hp_app h [(some p0K, .obj 30 ([.sc (.int .i64 p0.Seq), aw g_Snaps.t g_Snaps.n g_Snaps.cap, aw g_Chunks.t g_Chunks.n g_Chunks.cap, aw g_Exps.t g_Exps.n g_Exps.cap, aw g_Vols.t g_Vols.n g_Vols.cap])), (g_Snaps.t, .obj 60 (fl c_Snap (p0.Snaps : List TSnap) g_Snaps.sp)), (g_Chunks.t, .obj 44 (fl c_Chunk (p0.Chunks : List TChunk) g_Chunks.sp)), (g_Exps.t, .obj 99 (fl c_Exp (p0.Exps : List TExp) g_Exps.sp)), (g_Vols.t, .obj 49 (fl c_Vol (p0.Vols : List TVol) g_Vols.sp))] [(some k2, .obj 62 (c_Change p1))]).trans hk20.1) ?_
 refine v0 ?_
 refine vi hm (fun hc19 hm => ?_) fun hc19 hm => ?_
 refine vs (v0 (v0 ?_))
 refine vrt hm fun hm => ?_
 refine vrt hm fun hm => ?_
 refine vrt hm fun hm => ?_
 refine vrt hm fun hm => ?_
 cases hm
 exact vr fun hk => Ret.of1 (.inl rfl) (rsT _ _ (.sc (.int _ _)) rfl) (hp_pick hk [1, 2, 3, 4, 5] rfl).2 (ALe.refl _ _) ⟨g_Snaps, ok_Snaps, g_Chunks, ok_Chunks, g_Exps, ok_Exps, g_Vols, ok_Vols, (hp_pick hk [1, 2, 3, 4, 5] rfl).1, rfl, rfl⟩
 refine v0 (vs (v0 ?_))
 refine vz [(1000000, some p0K, .obj 30 ([.sc (.int .i64 p0.Seq), aw g_Snaps.t g_Snaps.n g_Snaps.cap, aw g_Chunks.t g_Chunks.n g_Chunks.cap, aw g_Exps.t g_Exps.n g_Exps.cap, aw g_Vols.t g_Vols.n g_Vols.cap])), (1000000, some k2, .obj 62 (c_Change p1))] mixed (fun hk => ⟨fun _ => hp_at 1 hk rfl, fun _ => hp_at 0 hk rfl, trivial⟩) fun hk => ?_
 refine z_w 0 rfl (fun S' h' hi hB => o_mv (.ptr _ _) rfl) ?_
 refine z_w 1 rfl (fun S' h' hi hB => o_nil rfl) ?_
 refine z_w 2 rfl (fun S' h' hi hB => Zh fd30_4 rfl rfl) ?_
 refine z_w 3 rfl (fun S' h' hi hB => Zg (aw g_Vols.t g_Vols.n g_Vols.cap) ld28 rfl (At.s (InvL.get 0 hi rfl (hB 1000000 (by kernel_rfl)))) rfl) ?_
 refine z_w 4 rfl (fun S' h' hi hB => Zh fd62_4 rfl rfl) ?_
 refine z_w 5 rfl (fun S' h' hi hB => Zg (.sc (.int .i64 p1.Vol)) ld3 rfl (At.s (InvL.get 1 hi rfl (hB 1000000 (by kernel_rfl)))) rfl) ?_
 refine z_w 6 rfl (fun S' h' hi hB => o_mv (.ptr _ _) rfl) ?_
 refine z_w 7 rfl (fun S' h' hi hB => o_nil rfl) ?_
 refine z_w 8 rfl (fun S' h' hi hB => Zh fd30_4 rfl rfl) ?_
 refine z_w 9 rfl (fun S' h' hi hB => Zg (aw g_Vols.t g_Vols.n g_Vols.cap) ld28 rfl (At.s (InvL.get 0 hi rfl (hB 1000000 (by kernel_rfl)))) rfl) ?_
 refine z_w 10 rfl (fun S' h' hi hB => Zh fd62_4 rfl rfl) ?_
 refine z_w 11 rfl (fun S' h' hi hB => Zg (.sc (.int .i64 p1.Vol)) ld3 rfl (At.s (InvL.get 1 hi rfl (hB 1000000 (by kernel_rfl)))) rfl) ?_
 obtain ⟨x15, hx7, hm⟩ := Zc hm
 refine z_w 12 rfl (fun S' h' hi hB => o_ixA hx7 el28 ok_Vols rfl rfl) ?_
 refine z_w 13 rfl (fun S' h' hi hB => o_flA (AOk.ne ok_Vols hx7) fd49_2 rfl rfl) ?_
 refine z_e 14 rfl (by kernel_rfl) (a_storeA (fo := 2) ({ x15 with State := 3 } : TVol) 5 hk hx7 cz_Vol ok_Vols rfl rfl rfl rfl (ALeL.refl _ _) sz3 rfl rfl fun hk21 => ⟨⟨fun _ => hp_at 1 hk21 rfl, fun _ => hp_at 0 hk21 rfl, trivial⟩, ?_⟩)
 obtain ⟨x16, hx8, hm⟩ := Zc hm
 refine z_w 15 rfl (fun S' h' hi hB => o_ixA hx8 el28 (AOk.set ok_Vols) rfl rfl) ?_
 refine z_w 16 rfl (fun S' h' hi hB => o_flA (AOk.ne (AOk.set ok_Vols) hx8) fd49_3 rfl rfl) ?_
 refine z_e 17 rfl (by kernel_rfl) (a_storeA (fo := 3) ({ x16 with Files := 0 } : TVol) 5 hk21 hx8 cz_Vol (AOk.set ok_Vols) rfl rfl rfl rfl (ALeL.refl _ _) sz3 rfl rfl fun hk22 => ⟨⟨fun _ => hp_at 1 hk22 rfl, fun _ => hp_at 0 hk22 rfl, trivial⟩, ?_⟩)
 refine z_nil (by kernel_rfl) (qk (f := .c 310 _ (.c 309 _ (.c 308 _ (.c 307 _ (.c 306 _ (.c 305 _ (.c 304 _ (.c 303 _ (.c 302 _ (.c 301 _ (.c 300 _ (.c 299 _ (.c 298 _ (.c 297 _ (.c 296 _ (.c 295 _ _)))))))))))))))) hk22 rfl ?_)
 refine vs (v0 (vs (vs (v0 (vle (lno (.obj 44 (fl c_Chunk ([] : List TChunk) g0.sp)) 15 (aw g0.t g0.n g0.cap) (ALe_nilA _)) ?_)))))
 refine vlp hm (σ := (List TChunk) × Int) (τ := AGh) (fun g s => [(g.t, .obj 44 (fl c_Chunk (s.1 : List TChunk) g.sp)), (some k2, .obj 62 (c_Change p1)), (some p0K, .obj 30 ([.sc (.int .i64 p0.Seq), aw g_Snaps.t g_Snaps.n g_Snaps.cap, aw g_Chunks.t g_Chunks.n g_Chunks.cap, aw g_Exps.t g_Exps.n g_Exps.cap, aw g_Vols.t g_Vols.n g_Vols.cap])), (g_Snaps.t, .obj 60 (fl c_Snap (p0.Snaps : List TSnap) g_Snaps.sp)), (g_Chunks.t, .obj 44 (fl c_Chunk (p0.Chunks : List TChunk) g_Chunks.sp)), (g_Exps.t, .obj 99 (fl c_Exp (p0.Exps : List TExp) g_Exps.sp)), (g_Vols.t, .obj 49 (fl c_Vol ((p0.Vols.set p1.Vol.toNat ({ x15 with State := 3 })).set p1.Vol.toNat ({ x16 with Files := 0 }) : List TVol) g_Vols.sp))]) (fun g s => AOk g 35 (s.1 : List TChunk).length) (fun g s => .c 0 (.ptr p0K 0) (.c 3 (.ptr k2 0) (.c 15 (aw g.t g.n g.cap) (.c 16 (.sc (.int .i64 s.2)) .nil)))) g0 (AOk.g0 35) (lx (.k4 .nil)) ?_ ?_
 rintro ag28 ⟨q16, q17⟩ x ok21 hm
 replace hm : M91_L13 fuel p0 p1 q16 q17 = some x := hm
 unfold M91_L13 at hm
 refine vs (vs (v0 (vn (fun _ => o_nil rfl) (vn (fun _ => Zh fd30_2 rfl rfl) (vl 2 (aw g_Chunks.t g_Chunks.n g_Chunks.cap) ld26 rfl rfl rfl (vn (fun _ => o_lenA ln26 ok_Chunks rfl) (v0 ?_)))))))
 refine vi hm (fun hc20 hm => ?_) fun hc20 hm => ?_
 refine v0 (vs (v0 (vs (v0 (vn (fun _ => o_nil rfl) (vn (fun _ => Zh fd30_2 rfl rfl) (vl 2 (aw g_Chunks.t g_Chunks.n g_Chunks.cap) ld26 rfl rfl rfl ?_)))))))
 obtain ⟨x17, hx9, hm⟩ := Zc hm
 refine vn (fun _ => o_ixA hx9 el26 ok_Chunks rfl rfl) (vn (fun hk => o_ldA (fo := 0) (.agg (c_Chunk x17)) hx9 cz_Chunk ok_Chunks ld44 rfl (hp_at 4 hk rfl) (fun _ => rfl)) ?_)
 refine ve fun hk => a_alloc (c_id idZ ++ ([.sc (.bool false), .sc (.slice none 0 0), .sc (.slice none 0 0)] : List AV)) hk zr44 rfl rfl fun k15855 hk23 => qk hk23 rfl ?_
 refine ve fun hk => a_store 0 (c_Chunk x17) hk rfl rfl rfl rfl sz44 rfl rfl fun hk24 => qk hk24 rfl ?_
 refine vs (v0 (vn (fun _ => Zh fd44_3 rfl rfl) (vl 0 _ ld42 rfl rfl rfl (vn (fun _ => Zh fd62_4 rfl rfl) (vl 2 _ ld3 rfl rfl rfl ?_)))))
 refine vk W157 bd157 hm rfl rfl fun y3 hm => ?_
 refine vn (fun _ => Zh fd44_3 rfl rfl) ?_
 refine ve fun hk => a_store 0 (c_Chunk { x17 with Locs := y3 }) hk rfl rfl rfl rfl sz42 rfl rfl fun hk25 => qk hk25 rfl ?_
 refine vs ?_
 refine vjnH hm (σ := Bool) (τ := Unit) (fun g s => [(some k15855, .obj 44 (c_Chunk { x17 with Locs := y3 })), (ag28.t, .obj 44 (fl c_Chunk (q16 : List TChunk) ag28.sp)), (some k2, .obj 62 (c_Change p1)), (some p0K, .obj 30 ([.sc (.int .i64 p0.Seq), aw g_Snaps.t g_Snaps.n g_Snaps.cap, aw g_Chunks.t g_Chunks.n g_Chunks.cap, aw g_Exps.t g_Exps.n g_Exps.cap, aw g_Vols.t g_Vols.n g_Vols.cap])), (g_Snaps.t, .obj 60 (fl c_Snap (p0.Snaps : List TSnap) g_Snaps.sp)), (g_Chunks.t, .obj 44 (fl c_Chunk (p0.Chunks : List TChunk) g_Chunks.sp)), (g_Exps.t, .obj 99 (fl c_Exp (p0.Exps : List TExp) g_Exps.sp)), (g_Vols.t, .obj 49 (fl c_Vol ((p0.Vols.set p1.Vol.toNat ({ x15 with State := 3 })).set p1.Vol.toNat ({ x16 with Files := 0 }) : List TVol) g_Vols.sp))]) (fun g s => .c 0 (.ptr p0K 0) (.c 3 (.ptr k2 0) (.c 15 (aw ag28.t ag28.n ag28.cap) (.c 16 (.sc (.int .i64 q17)) (.c 17 (.ptr k15855 0) (.c 340 (.sc (.bool s)) .nil)))))) (fun x hm => ?_) ?_
 refine v0 (vn (fun _ => Zh fd44_1 rfl rfl) (vl 0 _ ld4 rfl rfl rfl ?_))
 refine vi hm (fun hb7 hm => ?_) fun hb7 hm => ?_
 rw [hb7]
 exact vgo hm () trivial (lx (.k6 .nil))
 rw [hb7]
 refine vn (fun _ => Zh fd44_3 rfl rfl) (vl 0 _ ld42 rfl rfl rfl (vln ln42 rfl ?_))
 exact vgo hm () trivial (lx (.k6 .nil))
 rintro _ j9 hm
 refine vjn hm (σ := (List TChunk)) (τ := AGh) (fun g s => [(some k15855, .obj 44 (c_Chunk { x17 with Locs := y3 })), (g.t, .obj 44 (fl c_Chunk (s : List TChunk) g.sp)), (some k2, .obj 62 (c_Change p1)), (some p0K, .obj 30 ([.sc (.int .i64 p0.Seq), aw g_Snaps.t g_Snaps.n g_Snaps.cap, aw g_Chunks.t g_Chunks.n g_Chunks.cap, aw g_Exps.t g_Exps.n g_Exps.cap, aw g_Vols.t g_Vols.n g_Vols.cap])), (g_Snaps.t, .obj 60 (fl c_Snap (p0.Snaps : List TSnap) g_Snaps.sp)), (g_Chunks.t, .obj 44 (fl c_Chunk (p0.Chunks : List TChunk) g_Chunks.sp)), (g_Exps.t, .obj 99 (fl c_Exp (p0.Exps : List TExp) g_Exps.sp)), (g_Vols.t, .obj 49 (fl c_Vol ((p0.Vols.set p1.Vol.toNat ({ x15 with State := 3 })).set p1.Vol.toNat ({ x16 with Files := 0 }) : List TVol) g_Vols.sp))]) (fun g s => AOk g 35 (s : List TChunk).length) (fun g s => .c 0 (.ptr p0K 0) (.c 3 (.ptr k2 0) (.c 15 (aw g.t g.n g.cap) (.c 16 (.sc (.int .i64 q17)) .nil)))) (fun x hm => ?_) ?_
 refine v0 ?_
 refine vi hm (fun hc21 hm => ?_) fun hc21 hm => ?_
 refine v0 (vl 0 (.agg (c_Chunk { x17 with Locs := y3 })) ld44 rfl rfl rfl (vn (fun _ => o_lit (List.map c_Chunk ([{ x17 with Locs := y3 }] : List TChunk)) et26 rfl rfl rfl rfl) ?_))
 obtain ⟨z1, hz1, hm⟩ := Zc hm
 refine ve fun hk => a_appA (c := c_Chunk) 1 hz1 et26 rfl zr44 rfl cz_Chunk rfl rfl ok21 hk rfl fun ag29 ok22 hk26 => qk hk26 rfl ?_
 exact vgo hm ag29 ok22 (lx (.k4 .nil))
 refine v0 ?_
 exact vgo hm ag28 ok21 (lx (.k4 .nil))
 rintro ag30 j10 ok23 hm
 refine v0 ?_
 exact vgo hm ag30 ok23 (lxs [1, 2, 3, 4, 5, 6, 7] rfl rfl (.k4 .nil))
 refine v0 ?_
 exact vbk hm ag28 ok21 (lx (.k4 .nil))
 rintro ag31 ⟨r16, r17⟩ ot7 hm
 refine vs (v0 (vn (fun _ => o_nil rfl) (vn (fun _ => Zh fd30_2 rfl rfl) ?_)))
 refine ve fun hk => a_store 2 ([.sc (.int .i64 p0.Seq), aw g_Snaps.t g_Snaps.n g_Snaps.cap, aw ag31.t ag31.n ag31.cap, aw g_Exps.t g_Exps.n g_Exps.cap, aw g_Vols.t g_Vols.n g_Vols.cap]) hk rfl rfl (cellsOf_aw rfl) (all_c (ocell_aw _ _ _) rfl) sz26 rfl rfl fun hk27 => qk hk27 rfl ?_
 refine vs (vs (v0 ?_))
 refine vlp hm (σ := (List TSnap) × Int) (τ := AGh) (fun g s => [(ag31.t, .obj 44 (fl c_Chunk (r16 : List TChunk) ag31.sp)), (some k2, .obj 62 (c_Change p1)), (some p0K, .obj 30 ([.sc (.int .i64 p0.Seq), aw g.t g.n g.cap, aw ag31.t ag31.n ag31.cap, aw g_Exps.t g_Exps.n g_Exps.cap, aw g_Vols.t g_Vols.n g_Vols.cap])), (g.t, .obj 60 (fl c_Snap (s.1 : List TSnap) g.sp)), (g_Chunks.t, .obj 44 (fl c_Chunk (p0.Chunks : List TChunk) g_Chunks.sp)), (g_Exps.t, .obj 99 (fl c_Exp (p0.Exps : List TExp) g_Exps.sp)), (g_Vols.t, .obj 49 (fl c_Vol ((p0.Vols.set p1.Vol.toNat ({ x15 with State := 3 })).set p1.Vol.toNat ({ x16 with Files := 0 }) : List TVol) g_Vols.sp))]) (fun g s => AOk g 4 (s.1 : List TSnap).length) (fun g s => .c 0 (.ptr p0K 0) (.c 3 (.ptr k2 0) (.c 18 (.sc (.int .i64 s.2)) .nil))) g_Snaps ok_Snaps (lx (.k3 .nil)) ?_ ?_
 rintro ag32 ⟨q18, q19⟩ x ok24 hm
 replace hm : M91_L15 fuel p1 q18 q19 = some x := hm
 unfold M91_L15 at hm
 refine vs (vs (v0 (vn (fun _ => o_nil rfl) (vn (fun _ => Zh fd30_1 rfl rfl) (vl 2 (aw ag32.t ag32.n ag32.cap) ld25 rfl rfl rfl (vn (fun _ => o_lenA ln25 ok24 rfl) (v0 ?_)))))))
 refine vi hm (fun hc22 hm => ?_) fun hc22 hm => ?_
 refine v0 (vs (v0 (v0 ?_)))
 refine vz [(1000000, some p0K, .obj 30 ([.sc (.int .i64 p0.Seq), aw ag32.t ag32.n ag32.cap, aw ag31.t ag31.n ag31.cap, aw g_Exps.t g_Exps.n g_Exps.cap, aw g_Vols.t g_Vols.n g_Vols.cap])), (18, ag32.t, .obj 60 (fl c_Snap (q18 : List TSnap) ag32.sp)), (1000000, some k2, .obj 62 (c_Change p1))] mixed (fun hk => ⟨fun _ => hp_at 2 hk rfl, fun _ => hp_at 3 hk rfl, fun _ => hp_at 1 hk rfl, trivial⟩) fun hk => ?_
 refine z_w 0 rfl (fun S' h' hi hB => o_mv (.ptr _ _) rfl) ?_
 refine z_w 1 rfl (fun S' h' hi hB => o_nil rfl) ?_
 refine z_w 2 rfl (fun S' h' hi hB => Zh fd30_1 rfl rfl) ?_
 refine z_w 3 rfl (fun S' h' hi hB => Zg (aw ag32.t ag32.n ag32.cap) ld25 rfl (At.s (InvL.get 0 hi rfl (hB 1000000 (by kernel_rfl)))) rfl) ?_
 refine z_w 4 rfl (fun S' h' hi hB => o_mv (.sc (.int _ _)) rfl) ?_
 refine z_w 5 rfl (fun S' h' hi hB => o_mv (.ptr _ _) rfl) ?_
 refine z_w 6 rfl (fun S' h' hi hB => o_nil rfl) ?_
 refine z_w 7 rfl (fun S' h' hi hB => Zh fd30_1 rfl rfl) ?_
 refine z_w 8 rfl (fun S' h' hi hB => Zg (aw ag32.t ag32.n ag32.cap) ld25 rfl (At.s (InvL.get 0 hi rfl (hB 1000000 (by kernel_rfl)))) rfl) ?_
 refine z_w 9 rfl (fun S' h' hi hB => o_mv (.sc (.int _ _)) rfl) ?_
 obtain ⟨x18, hx10, hm⟩ := Zc hm
 refine z_w 10 rfl (fun S' h' hi hB => o_ixA hx10 el25 ok24 rfl rfl) ?_
 refine z_w 11 rfl (fun S' h' hi hB => o_flA (AOk.ne ok24 hx10) fd60_2 rfl rfl) ?_
 refine z_w 12 rfl (fun S' h' hi hB => o_ldA (fo := 3) (.sl none 4 (List.map c_Loc x18.Locs)) hx10 cz_Snap ok24 ld42 rfl (InvL.get 1 hi rfl (hB 18 (by kernel_rfl))) (fun _ => rfl)) ?_
 refine z_w 13 rfl (fun S' h' hi hB => Zh fd62_4 rfl rfl) ?_
 refine z_w 14 rfl (fun S' h' hi hB => Zg (.sc (.int .i64 p1.Vol)) ld3 rfl (At.s (InvL.get 2 hi rfl (hB 1000000 (by kernel_rfl)))) rfl) ?_
 obtain ⟨y4, hy8, hm⟩ := Zc hm
 refine z_w 15 rfl (fun S' h' hi hB => o_call (W157 _ hy8) rfl bd157 rfl) ?_
 obtain ⟨x19, hx11, hm⟩ := Zc hm
 refine z_w 16 rfl (fun S' h' hi hB => o_ixA hx11 el25 ok24 rfl rfl) ?_
 refine z_w 17 rfl (fun S' h' hi hB => o_flA (AOk.ne ok24 hx11) fd60_2 rfl rfl) ?_
 refine z_e 18 rfl (by kernel_rfl) (a_storeA (fo := 3) ({ x19 with Locs := y4 } : TSnap) 3 hk hx11 cz_Snap ok24 rfl rfl rfl rfl (ALeL.refl _ _) sz42 rfl rfl fun hk28 => ⟨⟨fun _ => hp_at 2 hk28 rfl, fun e => absurd e (by decide), fun _ => hp_at 1 hk28 rfl, trivial⟩, ?_⟩)
 refine z_nil (by kernel_rfl) (qk (f := .c 375 _ (.c 374 _ (.c 373 _ (.c 372 _ (.c 371 _ (.c 370 _ (.c 369 _ (.c 368 _ (.c 367 _ (.c 366 _ (.c 365 _ (.c 364 _ (.c 363 _ (.c 362 _ (.c 361 _ (.c 360 _ (.c 359 _ (.c 358 _ _)))))))))))))))))) hk28 rfl ?_)
 refine v0 ?_
 exact vgo hm ag32 (AOk.set ok24) (lx (.k3 .nil))
 refine v0 ?_
 exact vbk hm ag32 ok24 (lx (.k3 .nil))
 rintro ag33 ⟨r18, r19⟩ ot8 hm
 refine vs (v0 (vs (vs (v0 (vle (lno (.obj 99 (fl c_Exp ([] : List TExp) g0.sp)) 19 (aw g0.t g0.n g0.cap) (ALe_nilA _)) ?_)))))
 refine vlp hm (σ := (List TExp) × Int) (τ := AGh) (fun g s => [(g.t, .obj 99 (fl c_Exp (s.1 : List TExp) g.sp)), (ag31.t, .obj 44 (fl c_Chunk (r16 : List TChunk) ag31.sp)), (some k2, .obj 62 (c_Change p1)), (some p0K, .obj 30 ([.sc (.int .i64 p0.Seq), aw ag33.t ag33.n ag33.cap, aw ag31.t ag31.n ag31.cap, aw g_Exps.t g_Exps.n g_Exps.cap, aw g_Vols.t g_Vols.n g_Vols.cap])), (ag33.t, .obj 60 (fl c_Snap (r18 : List TSnap) ag33.sp)), (g_Chunks.t, .obj 44 (fl c_Chunk (p0.Chunks : List TChunk) g_Chunks.sp)), (g_Exps.t, .obj 99 (fl c_Exp (p0.Exps : List TExp) g_Exps.sp)), (g_Vols.t, .obj 49 (fl c_Vol ((p0.Vols.set p1.Vol.toNat ({ x15 with State := 3 })).set p1.Vol.toNat ({ x16 with Files := 0 }) : List TVol) g_Vols.sp))]) (fun g s => AOk g 3 (s.1 : List TExp).length) (fun g s => .c 0 (.ptr p0K 0) (.c 3 (.ptr k2 0) (.c 19 (aw g.t g.n g.cap) (.c 20 (.sc (.int .i64 s.2)) .nil)))) g0 (AOk.g0 3) (lx (.k4 .nil)) ?_ ?_
 rintro ag34 ⟨q20, q21⟩ x ok25 hm
 replace hm : M91_L17 fuel p0 p1 q20 q21 = some x := hm
 unfold M91_L17 at hm
 refine vs (vs (v0 (vn (fun _ => o_nil rfl) (vn (fun _ => Zh fd30_3 rfl rfl) (vl 3 (aw g_Exps.t g_Exps.n g_Exps.cap) ld27 rfl rfl rfl (vn (fun _ => o_lenA ln27 ok_Exps rfl) (v0 ?_)))))))
 refine vi hm (fun hc23 hm => ?_) fun hc23 hm => ?_
 refine v0 (vs (v0 (vs (v0 (vn (fun _ => o_nil rfl) (vn (fun _ => Zh fd30_3 rfl rfl) (vl 3 (aw g_Exps.t g_Exps.n g_Exps.cap) ld27 rfl rfl rfl ?_)))))))
 obtain ⟨x20, hx12, hm⟩ := Zc hm
 refine vn (fun _ => o_ixA hx12 el27 ok_Exps rfl rfl) (vn (fun hk => o_ldA (fo := 0) (.agg (c_Exp x20)) hx12 cz_Exp ok_Exps ld99 rfl (hp_at 6 hk rfl) (fun _ => rfl)) ?_)
 refine ve fun hk => a_alloc ([.sc (.int .i64 0), .sc (.int .i64 0), .sc (.slice none 0 0)]) hk zr99 rfl rfl fun k16100 hk29 => qk hk29 rfl ?_
 refine ve fun hk => a_store 0 (c_Exp x20) hk rfl rfl rfl rfl sz99 rfl rfl fun hk30 => qk hk30 rfl ?_
 refine vs (v0 (vn (fun _ => Zh fd99_2 rfl rfl) (vl 0 _ ld42 rfl rfl rfl (vn (fun _ => Zh fd62_4 rfl rfl) (vl 3 _ ld3 rfl rfl rfl ?_)))))
 refine vk W157 bd157 hm rfl rfl fun y5 hm => ?_
 refine vn (fun _ => Zh fd99_2 rfl rfl) ?_
 refine ve fun hk => a_store 0 (c_Exp { x20 with Locs := y5 }) hk rfl rfl rfl rfl sz42 rfl rfl fun hk31 => qk hk31 rfl ?_
 refine vs (v0 (vn (fun _ => Zh fd99_2 rfl rfl) (vl 0 _ ld42 rfl rfl rfl (vln ln42 rfl ?_))))
 refine vjn hm (σ := (List TExp)) (τ := AGh) (fun g s => [(some k16100, .obj 99 (c_Exp { x20 with Locs := y5 })), (g.t, .obj 99 (fl c_Exp (s : List TExp) g.sp)), (ag31.t, .obj 44 (fl c_Chunk (r16 : List TChunk) ag31.sp)), (some k2, .obj 62 (c_Change p1)), (some p0K, .obj 30 ([.sc (.int .i64 p0.Seq), aw ag33.t ag33.n ag33.cap, aw ag31.t ag31.n ag31.cap, aw g_Exps.t g_Exps.n g_Exps.cap, aw g_Vols.t g_Vols.n g_Vols.cap])), (ag33.t, .obj 60 (fl c_Snap (r18 : List TSnap) ag33.sp)), (g_Chunks.t, .obj 44 (fl c_Chunk (p0.Chunks : List TChunk) g_Chunks.sp)), (g_Exps.t, .obj 99 (fl c_Exp (p0.Exps : List TExp) g_Exps.sp)), (g_Vols.t, .obj 49 (fl c_Vol ((p0.Vols.set p1.Vol.toNat ({ x15 with State := 3 })).set p1.Vol.toNat ({ x16 with Files := 0 }) : List TVol) g_Vols.sp))]) (fun g s => AOk g 3 (s : List TExp).length) (fun g s => .c 0 (.ptr p0K 0) (.c 3 (.ptr k2 0) (.c 19 (aw g.t g.n g.cap) (.c 20 (.sc (.int .i64 q21)) .nil)))) (fun x hm => ?_) ?_
 refine v0 ?_
 refine vi hm (fun hc24 hm => ?_) fun hc24 hm => ?_
 refine v0 (vl 0 (.agg (c_Exp { x20 with Locs := y5 })) ld99 rfl rfl rfl (vn (fun _ => o_lit (List.map c_Exp ([{ x20 with Locs := y5 }] : List TExp)) et27 rfl rfl rfl rfl) ?_))
 obtain ⟨z2, hz2, hm⟩ := Zc hm
 refine ve fun hk => a_appA (c := c_Exp) 1 hz2 et27 rfl zr99 rfl cz_Exp rfl rfl ok25 hk rfl fun ag35 ok26 hk32 => qk hk32 rfl ?_
 exact vgo hm ag35 ok26 (lx (.k4 .nil))
 refine v0 ?_
 exact vgo hm ag34 ok25 (lx (.k4 .nil))
 rintro ag36 j11 ok27 hm
 refine v0 ?_
 exact vgo hm ag36 ok27 (lxs [1, 2, 3, 4, 5, 6, 7, 8] rfl rfl (.k4 .nil))
 refine v0 ?_
 exact vbk hm ag34 ok25 (lx (.k4 .nil))
 rintro ag37 ⟨r20, r21⟩ ot9 hm
 refine v0 (vn (fun _ => o_nil rfl) (vn (fun _ => Zh fd30_3 rfl rfl) ?_))
 refine ve fun hk => a_store 3 ([.sc (.int .i64 p0.Seq), aw ag33.t ag33.n ag33.cap, aw ag31.t ag31.n ag31.cap, aw ag37.t ag37.n ag37.cap, aw g_Vols.t g_Vols.n g_Vols.cap]) hk rfl rfl (cellsOf_aw rfl) (all_c (ocell_aw _ _ _) rfl) sz27 rfl rfl fun hk33 => qk hk33 rfl ?_
 exact vgo hm (ag33, ag31, ag37, g_Vols) ⟨ot8, ot7, ot9, (AOk.set (AOk.set ok_Vols))⟩ (lxs [2, 3, 4, 1, 0, 7] rfl rfl .nil)
 refine vs (v0 ?_)
 refine vjn hm (σ := (List TVol)) (τ := AGh) (fun g s => [(some k2, .obj 62 (c_Change p1)), (some p0K, .obj 30 ([.sc (.int .i64 p0.Seq), aw g_Snaps.t g_Snaps.n g_Snaps.cap, aw g_Chunks.t g_Chunks.n g_Chunks.cap, aw g_Exps.t g_Exps.n g_Exps.cap, aw g.t g.n g.cap])), (g_Snaps.t, .obj 60 (fl c_Snap (p0.Snaps : List TSnap) g_Snaps.sp)), (g_Chunks.t, .obj 44 (fl c_Chunk (p0.Chunks : List TChunk) g_Chunks.sp)), (g_Exps.t, .obj 99 (fl c_Exp (p0.Exps : List TExp) g_Exps.sp)), (g.t, .obj 49 (fl c_Vol (s : List TVol) g.sp))]) (fun g s => AOk g 4 (s : List TVol).length) (fun g s => .nil) (fun x hm => ?_) ?_
 refine v0 ?_
 refine vi hm (fun hc25 hm => ?_) fun hc25 hm => ?_
 refine vs (vs (v0 (vn (fun _ => Zh fd62_4 rfl rfl) (vl 0 _ ld3 rfl rfl rfl ?_))))
 obtain ⟨_, hy9, hm⟩ := Zc hm
 refine ve fun hk => AOp_eqh ((hp_permI hk [1, 2, 3, 4, 5, 0] rfl rfl).1.trans (hp_app h [(some p0K, .obj 30 ([.sc (.int .i64 p0.Seq), aw g_Snaps.t g_Snaps.n g_Snaps.cap, aw g_Chunks.t g_Chunks.n g_Chunks.cap, aw g_Exps.t g_Exps.n g_Exps.cap, aw g_Vols.t g_Vols.n g_Vols.cap])), (g_Snaps.t, .obj 60 (fl c_Snap (p0.Snaps : List TSnap) g_Snaps.sp)), (g_Chunks.t, .obj 44 (fl c_Chunk (p0.Chunks : List TChunk) g_Chunks.sp)), (g_Exps.t, .obj 99 (fl c_Exp (p0.Exps : List TExp) g_Exps.sp)), (g_Vols.t, .obj 49 (fl c_Vol (p0.Vols : List TVol) g_Vols.sp))] [(some k2, .obj 62 (c_Change p1))]).symm) (a_call (W155 (hp h [(some k2, .obj 62 (c_Change p1))]) ok_Snaps ok_Chunks ok_Exps ok_Vols (HOk_spl [(some p0K, .obj 30 ([.sc (.int .i64 p0.Seq), aw g_Snaps.t g_Snaps.n g_Snaps.cap, aw g_Chunks.t g_Chunks.n g_Chunks.cap, aw g_Exps.t g_Exps.n g_Exps.cap, aw g_Vols.t g_Vols.n g_Vols.cap])), (g_Snaps.t, .obj 60 (fl c_Snap (p0.Snaps : List TSnap) g_Snaps.sp)), (g_Chunks.t, .obj 44 (fl c_Chunk (p0.Chunks : List TChunk) g_Chunks.sp)), (g_Exps.t, .obj 99 (fl c_Exp (p0.Exps : List TExp) g_Exps.sp)), (g_Vols.t, .obj 49 (fl c_Vol (p0.Vols : List TVol) g_Vols.sp))] [(some k2, .obj 62 (c_Change p1))] (hp_permI hk [1, 2, 3, 4, 5, 0] rfl rfl).2).2 hy9) rfl bd155 rfl ?_)
 rintro x h' ⟨hk34, rfl, rfl⟩
 have hk35 := hp_permI (L' := [(some k2, .obj 62 (c_Change p1)), (some p0K, .obj 30 ([.sc (.int .i64 p0.Seq), aw g_Snaps.t g_Snaps.n g_Snaps.cap, aw g_Chunks.t g_Chunks.n g_Chunks.cap, aw g_Exps.t g_Exps.n g_Exps.cap, aw g_Vols.t g_Vols.n g_Vols.cap])), (g_Snaps.t, .obj 60 (fl c_Snap (p0.Snaps : List TSnap) g_Snaps.sp)), (g_Chunks.t, .obj 44 (fl c_Chunk (p0.Chunks : List TChunk) g_Chunks.sp)), (g_Exps.t, .obj 99 (fl c_Exp (p0.Exps : List TExp) g_Exps.sp)), (g_Vols.t, .obj 49 (fl c_Vol (p0.Vols : List TVol) g_Vols.sp))]) (HOk_app (HOk_spl [(some p0K, .obj 30 ([.sc (.int .i64 p0.Seq), aw g_Snaps.t g_Snaps.n g_Snaps.cap, aw g_Chunks.t g_Chunks.n g_Chunks.cap, aw g_Exps.t g_Exps.n g_Exps.cap, aw g_Vols.t g_Vols.n g_Vols.cap])), (g_Snaps.t, .obj 60 (fl c_Snap (p0.Snaps : List TSnap) g_Snaps.sp)), (g_Chunks.t, .obj 44 (fl c_Chunk (p0.Chunks : List TChunk) g_Chunks.sp)), (g_Exps.t, .obj 99 (fl c_Exp (p0.Exps : List TExp) g_Exps.sp)), (g_Vols.t, .obj 49 (fl c_Vol (p0.Vols : List TVol) g_Vols.sp))] [(some k2, .obj 62 (c_Change p1))] (hp_permI hk [1, 2, 3, 4, 5, 0] rfl rfl).2).1 hk34) [5, 0, 1, 2, 3, 4] rfl rfl
 refine qk hk35.2 ((hp_app h [(some p0K, .obj 30 ([.sc (.int .i64 p0.Seq), aw g_Snaps.t g_Snaps.n g_Snaps.cap, aw g_Chunks.t g_Chunks.n g_Chunks.cap, aw g_Exps.t g_Exps.n g_Exps.cap, aw g_Vols.t g_Vols.n g_Vols.cap])), (g_Snaps.t, .obj 60 (fl c_Snap (p0.Snaps : List TSnap) g_Snaps.sp)), (g_Chunks.t, .obj 44 (fl c_Chunk (p0.Chunks : List TChunk) g_Chunks.sp)), (g_Exps.t, .obj 99 (fl c_Exp (p0.Exps : List TExp) g_Exps.sp)), (g_Vols.t, .obj 49 (fl c_Vol (p0.Vols : List TVol) g_Vols.sp))] [(some k2, .obj 62 (c_Change p1))]).trans hk35.1) ?_
 refine v0 ?_
 refine vi hm (fun hc26 hm => ?_) fun hc26 hm => ?_
 refine vs (v0 (v0 ?_))
 refine vrt hm fun hm => ?_
 refine vrt hm fun hm => ?_
 refine vrt hm fun hm => ?_
 refine vrt hm fun hm => ?_
 refine vrt hm fun hm => ?_
 cases hm
 exact vr fun hk => Ret.of1 (.inl rfl) (rsT _ _ (.sc (.int _ _)) rfl) (hp_pick hk [1, 2, 3, 4, 5] rfl).2 (ALe.refl _ _) ⟨g_Snaps, ok_Snaps, g_Chunks, ok_Chunks, g_Exps, ok_Exps, g_Vols, ok_Vols, (hp_pick hk [1, 2, 3, 4, 5] rfl).1, rfl, rfl⟩
 refine v0 (v0 ?_)
 refine vz [(1000000, some p0K, .obj 30 ([.sc (.int .i64 p0.Seq), aw g_Snaps.t g_Snaps.n g_Snaps.cap, aw g_Chunks.t g_Chunks.n g_Chunks.cap, aw g_Exps.t g_Exps.n g_Exps.cap, aw g_Vols.t g_Vols.n g_Vols.cap])), (1000000, some k2, .obj 62 (c_Change p1)), (24, g_Vols.t, .obj 49 (fl c_Vol (p0.Vols : List TVol) g_Vols.sp))] mixed (fun hk => ⟨fun _ => hp_at 1 hk rfl, fun _ => hp_at 0 hk rfl, fun _ => hp_at 5 hk rfl, trivial⟩) fun hk => ?_
 refine z_w 0 rfl (fun S' h' hi hB => o_mv (.ptr _ _) rfl) ?_
 refine z_w 1 rfl (fun S' h' hi hB => o_nil rfl) ?_
 refine z_w 2 rfl (fun S' h' hi hB => Zh fd30_4 rfl rfl) ?_
 refine z_w 3 rfl (fun S' h' hi hB => Zg (aw g_Vols.t g_Vols.n g_Vols.cap) ld28 rfl (At.s (InvL.get 0 hi rfl (hB 1000000 (by kernel_rfl)))) rfl) ?_
 refine z_w 4 rfl (fun S' h' hi hB => Zh fd62_4 rfl rfl) ?_
 refine z_w 5 rfl (fun S' h' hi hB => Zg (.sc (.int .i64 p1.Vol)) ld3 rfl (At.s (InvL.get 1 hi rfl (hB 1000000 (by kernel_rfl)))) rfl) ?_
 refine z_w 6 rfl (fun S' h' hi hB => o_mv (.ptr _ _) rfl) ?_
 refine z_w 7 rfl (fun S' h' hi hB => o_nil rfl) ?_
 refine z_w 8 rfl (fun S' h' hi hB => Zh fd30_4 rfl rfl) ?_
 refine z_w 9 rfl (fun S' h' hi hB => Zg (aw g_Vols.t g_Vols.n g_Vols.cap) ld28 rfl (At.s (InvL.get 0 hi rfl (hB 1000000 (by kernel_rfl)))) rfl) ?_
 refine z_w 10 rfl (fun S' h' hi hB => Zh fd62_4 rfl rfl) ?_
 refine z_w 11 rfl (fun S' h' hi hB => Zg (.sc (.int .i64 p1.Vol)) ld3 rfl (At.s (InvL.get 1 hi rfl (hB 1000000 (by kernel_rfl)))) rfl) ?_
 refine z_w 12 rfl (fun S' h' hi hB => o_mv (.ptr _ _) rfl) ?_
 refine z_w 13 rfl (fun S' h' hi hB => o_nil rfl) ?_
 refine z_w 14 rfl (fun S' h' hi hB => Zh fd30_4 rfl rfl) ?_
 refine z_w 15 rfl (fun S' h' hi hB => Zg (aw g_Vols.t g_Vols.n g_Vols.cap) ld28 rfl (At.s (InvL.get 0 hi rfl (hB 1000000 (by kernel_rfl)))) rfl) ?_
 refine z_w 16 rfl (fun S' h' hi hB => Zh fd62_4 rfl rfl) ?_
 refine z_w 17 rfl (fun S' h' hi hB => Zg (.sc (.int .i64 p1.Vol)) ld3 rfl (At.s (InvL.get 1 hi rfl (hB 1000000 (by kernel_rfl)))) rfl) ?_
 obtain ⟨x21, hx13, hm⟩ := Zc hm
 refine z_w 18 rfl (fun S' h' hi hB => o_ixA hx13 el28 ok_Vols rfl rfl) ?_
 refine z_w 19 rfl (fun S' h' hi hB => o_flA (AOk.ne ok_Vols hx13) fd49_1 rfl rfl) ?_
 refine z_w 20 rfl (fun S' h' hi hB => o_ldA (fo := 1) (.sc (.int .i64 x21.Epoch)) hx13 cz_Vol ok_Vols ld3 rfl (InvL.get 2 hi rfl (hB 24 (by kernel_rfl))) (fun _ => rfl)) ?_
 refine z_w 21 rfl (fun S' h' hi hB => o_bi rfl rfl rfl trivial) ?_
 obtain ⟨x22, hx14, hm⟩ := Zc hm
 refine z_w 22 rfl (fun S' h' hi hB => o_ixA hx14 el28 ok_Vols rfl rfl) ?_
 refine z_w 23 rfl (fun S' h' hi hB => o_flA (AOk.ne ok_Vols hx14) fd49_2 rfl rfl) ?_
 refine z_e 24 rfl (by kernel_rfl) (a_storeA (fo := 2) ({ x22 with State := 1 } : TVol) 5 hk hx14 cz_Vol ok_Vols rfl rfl rfl rfl (ALeL.refl _ _) sz3 rfl rfl fun hk36 => ⟨⟨fun _ => hp_at 1 hk36 rfl, fun _ => hp_at 0 hk36 rfl, fun e => absurd e (by decide), trivial⟩, ?_⟩)
 obtain ⟨x23, hx15, hm⟩ := Zc hm
 refine z_w 25 rfl (fun S' h' hi hB => o_ixA hx15 el28 (AOk.set ok_Vols) rfl rfl) ?_
 refine z_w 26 rfl (fun S' h' hi hB => o_flA (AOk.ne (AOk.set ok_Vols) hx15) fd49_1 rfl rfl) ?_
 refine z_e 27 rfl (by kernel_rfl) (a_storeA (fo := 1) ({ x23 with Epoch := IntKind.wrap .i64 (x21.Epoch + 1) } : TVol) 5 hk36 hx15 cz_Vol (AOk.set ok_Vols) rfl rfl rfl rfl (ALeL.refl _ _) sz3 rfl rfl fun hk37 => ⟨⟨fun _ => hp_at 1 hk37 rfl, fun _ => hp_at 0 hk37 rfl, fun e => absurd e (by decide), trivial⟩, ?_⟩)
 refine z_nil (by kernel_rfl) (qk (f := .c 442 _ (.c 441 _ (.c 440 _ (.c 439 _ (.c 438 _ (.c 437 _ (.c 436 _ (.c 435 _ (.c 434 _ (.c 433 _ (.c 432 _ (.c 431 _ (.c 430 _ (.c 429 _ (.c 428 _ (.c 427 _ (.c 426 _ (.c 425 _ (.c 424 _ (.c 423 _ (.c 422 _ (.c 421 _ (.c 420 _ (.c 419 _ (.c 418 _ (.c 417 _ _)))))))))))))))))))))))))) hk37 rfl ?_)
 exact vgo hm g_Vols (AOk.set (AOk.set ok_Vols)) (lx .nil)
 refine v0 ?_
 exact vgo hm g_Vols ok_Vols (lx .nil)
 rintro ag38 j12 ok28 hm
 exact vgo hm (g_Snaps, g_Chunks, g_Exps, ag38) ⟨ok_Snaps, ok_Chunks, ok_Exps, ok28⟩ (lx .nil)
 rintro ⟨ag39, ag40, ag41, ag42⟩ ⟨j13, j14, j15, j16⟩ ⟨ok29, ok30, ok31, ok32⟩ hm
 exact vgo hm (ag39, ag40, ag41, ag42) ⟨ok29, ok30, ok31, ok32⟩ (lx .nil)
 rintro ⟨ag43, ag44, ag45, ag46⟩ ⟨j17, j18, j19, j20, j21⟩ ⟨ok33, ok34, ok35, ok36⟩ hm
 exact vgo hm (ag43, ag44, ag45, ag46) ⟨ok33, ok34, ok35, ok36⟩ (lx .nil)
 rintro ⟨ag47, ag48, ag49, ag50⟩ ⟨j22, j23, j24, j25, j26⟩ ⟨ok37, ok38, ok39, ok40⟩ hm
 exact vgo hm (ag47, ag48, ag49, ag50) ⟨ok37, ok38, ok39, ok40⟩ (lx .nil)
 rintro ⟨ag51, ag52, ag53, ag54⟩ ⟨j27, j28, j29, j30, j31⟩ ⟨ok41, ok42, ok43, ok44⟩ hm
 refine vs (v0 (v0 ?_))
 cases hm
 exact vr fun hk => Ret.of1 (.inl rfl) (rsT _ _ (.sc (.int _ _)) rfl) (hp_pick hk [1, 2, 3, 4, 5] rfl).2 (ALe.refl _ _) ⟨ag51, ok41, ag52, ok42, ag53, ok43, ag54, ok44, (hp_pick hk [1, 2, 3, 4, 5] rfl).1, rfl, rfl⟩
theorem bd91 : bodied Tryz.prog 91 = true := by kernel_rfl
end Go.Proofs.YtoomgangpjcaoaaGreat
