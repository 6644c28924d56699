import Derived.Test.YtoomgangpjcaoaaK8Wa
import Derived.Test.YtoomgangpjcaoaaK8Wc
set_option linter.unusedSimpArgs false
set_option linter.unusedVariables false
namespace Go.Proofs.Ytoomgangpjcaoaa
open Go.Vm
def M54a_L0 (fuel : Nat) (p0 : List TChunk) (q104 : List TChunk) (q107 : Int) : Option (Lp ((List TChunk) × Int) ((List TChunk))) :=
  if (decide (q107 < (p0.length : Int))) = true then ((ix p0 q107).bind fun x114 => (M100 fuel x114.Data).bind fun y127 => (M53 fuel x114.Locs).bind fun y129 => (app q104 ([{ { x114 with Data := y127 } with Locs := y129 }] : List TChunk)).bind fun z133 => some (.go (z133, IntKind.wrap .i64 (q107 + 1)))) else some (.brk (q104, q107))
def M54a (fuel : Nat) (p0 : List TChunk) : Option ((List TChunk)) :=
  after (loopM (fun s => M54a_L0 fuel p0 s.1 s.2) fuel ([], 0)) fun ⟨r140, r141⟩ => some r140
set_option maxHeartbeats 4000000 in
set_option maxRecDepth 100000 in
/-- cellarer/cellarerkeep.TwinChunks -/
theorem W54a {fuel : Nat} {p0 : List TChunk} {o : (List TChunk)} (h : Heap) (hm : M54a fuel p0 = some o) :
    ACalls Try.prog 54 [.sl none 35 (List.map c_Chunk p0)] h (fun r h' => ∃ g : AGh, AOk g 35 o.length ∧ HOk h [(g.t, .obj 63 (fl c_Chunk o g.sp))] ∧ r = aw g.t g.n g.cap ∧ h' = hp h [(g.t, .obj 63 (fl c_Chunk o g.sp))]) := by
  refine ACalls_hp 29 [.tmp 2] Try.func54 rfl rfl rfl rfl ?_
  unfold M54a at hm
  refine AW_lq ?_
  refine AW_k fun K1 H1 => ?_
  refine AW_reg ?_
  refine s_v (o_as (.sc (.slice _ _ _)) rfl) ?_
  refine s_nil ?_
  refine H1 _ _ ?_
  clear H1 K1
  refine AW_k fun K2 H2 => ?_
  refine AW_reg ?_
  refine s_v (o_as (.sc (.slice _ _ _)) rfl) ?_
  refine s_nil ?_
  refine H2 _ _ ?_
  clear H2 K2
  refine AW_k fun K3 H3 => ?_
  refine AW_k fun K4 H4 => ?_
  refine AW_reg ?_
  refine s_v (o_as (.sc (.int _ _)) rfl) ?_
  refine s_nil ?_
  refine H4 _ _ ?_
  clear H4 K4
  refine (LeF.put (t := 3) (v := aw g0.t g0.n g0.cap) (Sub.refl _) (ALe_nilA _)).aw ?_
  refine AW_loopG (n := 29) hm (σ := (List TChunk) × Int) (τ := AGh) (fun g s => HOk h [(g.t, .obj 63 (fl c_Chunk (s.1 : List TChunk) g.sp))] ∧ AOk g 35 (s.1 : List TChunk).length) (fun g s => kp (kp (kp (k0) 4 (.sc (.int .i64 s.2))) 3 (aw g.t g.n g.cap)) 0 (.sl none 35 (List.map c_Chunk p0))) (fun g s => hp h [(g.t, .obj 63 (fl c_Chunk (s.1 : List TChunk) g.sp))]) g0 (⟨HOk.none (HOk.nil _), (AOk.g0 35)⟩) (LeF.fm (Sub.refl _) (.cons (ALe.refl _ _) (.cons (ALe.refl _ _) (.cons (ALe.refl _ _) (.nil))))) ?_ ?_
  · rintro ag105 ⟨q104, q107⟩ x ⟨hk108, ok106⟩ hm
    replace hm : M54a_L0 fuel p0 q104 q107 = some x := hm
    unfold M54a_L0 at hm
    refine AW_k fun K109 H109 => ?_
    refine AW_k fun K110 H110 => ?_
    refine AW_reg ?_
    refine s_v (o_mv (.sc (.int _ _)) rfl) ?_
    refine s_v (o_mv (.sl _ _ _) rfl) ?_
    refine s_v (o_lenm ln23 rfl) ?_
    refine s_v (o_bi rfl rfl rfl trivial) ?_
    refine s_nil ?_
    refine H110 _ _ ?_
    clear H110 K110
    refine AW_if' rfl (fun hc111 => ?_) (fun hc111 => ?_)
    · replace hm := ite_t hm hc111
      refine AW_skip ?_
      refine H109 _ _ ?_
      clear H109 K109
      refine AW_k fun K112 H112 => ?_
      refine AW_block ?_
      refine AW_k fun K113 H113 => ?_
      refine AW_reg ?_
      refine s_v (o_mv (.sl _ _ _) rfl) ?_
      refine s_v (o_mv (.sc (.int _ _)) rfl) ?_
      obtain ⟨x114, hx115, hm⟩ := bind_of hm
      refine s_v (o_ix hx115 el23 rfl rfl) ?_
      refine s_v (o_ld (.agg (c_Chunk x114)) ld63 rfl rfl) ?_
      refine s_op (a_alloc (c_id idZ ++ [.sc (.bool false), .sc (.slice none 0 0), .sc (.slice none 0 0)]) hk108 zr63 rfl rfl fun k116 hk117 => ?_)
      refine s_op (a_store 0 (c_Chunk x114) hk117 rfl rfl rfl rfl sz63 rfl rfl fun hk119 => ?_)
      refine s_nil ?_
      refine H113 _ _ ?_
      clear H113 K113
      refine AW_k fun K120 H120 => ?_
      refine AW_zreg [(7, some k116, .obj 63 (c_Chunk x114))] mixed (⟨fun _ => hp_at 0 hk119 rfl, trivial⟩) ?_
      refine z_v 0 rfl (by kernel_rfl) rfl (fun S' h' hi hB => o_flp fd63_2 rfl rfl) ?_
      refine z_v 1 rfl (by kernel_rfl) rfl (fun S' h' hi hB => o_ldp (.sl none 1 (List.map c_u8 x114.Data)) ld52 rfl (At.s (InvL.get 0 hi rfl (hB 7 (by kernel_rfl)))) rfl) ?_
      obtain ⟨y127, hy128, hm⟩ := bind_of hm
      refine z_v 2 rfl (by kernel_rfl) rfl (fun S' h' hi hB => o_call (W100 _ hy128) rfl bd100 rfl) ?_
      refine z_v 3 rfl (by kernel_rfl) rfl (fun S' h' hi hB => o_flp fd63_3 rfl rfl) ?_
      refine z_v 4 rfl (by kernel_rfl) rfl (fun S' h' hi hB => o_ldp (.sl none 4 (List.map c_Loc x114.Locs)) ld58 rfl (At.s (InvL.get 0 hi rfl (hB 7 (by kernel_rfl)))) rfl) ?_
      obtain ⟨y129, hy130, hm⟩ := bind_of hm
      refine z_v 5 rfl (by kernel_rfl) rfl (fun S' h' hi hB => o_call (W53 _ hy130) rfl bd53 rfl) ?_
      refine z_v 6 rfl (by kernel_rfl) rfl (fun S' h' hi hB => o_flp fd63_2 rfl rfl) ?_
      refine z_e 7 rfl (by kernel_rfl) (a_store 0 (c_Chunk { x114 with Data := y127 }) hk119 rfl rfl rfl rfl sz52 rfl rfl fun hk131 => ⟨⟨fun e => absurd e (by decide), trivial⟩, ?_⟩)
      refine z_v 8 rfl (by kernel_rfl) rfl (fun S' h' hi hB => o_flp fd63_3 rfl rfl) ?_
      refine z_e 9 rfl (by kernel_rfl) (a_store 0 (c_Chunk { { x114 with Data := y127 } with Locs := y129 }) hk131 rfl rfl rfl rfl sz58 rfl rfl fun hk132 => ⟨⟨fun e => absurd e (by decide), trivial⟩, ?_⟩)
      refine z_nil (by kernel_rfl) ?_
      refine H120 _ _ ?_
      clear H120 K120
      refine AW_reg ?_
      refine s_v (o_mv (aw _ _ _) rfl) ?_
      refine s_v (o_ldp (.agg (c_Chunk { { x114 with Data := y127 } with Locs := y129 })) ld63 rfl (hp_get 0 hk132 rfl) rfl) ?_
      refine s_v (o_lit (List.map c_Chunk ([{ { x114 with Data := y127 } with Locs := y129 }] : List TChunk)) et23 rfl rfl rfl rfl) ?_
      obtain ⟨z133, hz134, hm⟩ := bind_of hm
      refine s_op (a_appA (c := c_Chunk) 1 hz134 et23 rfl zr63 rfl cz_Chunk rfl rfl ok106 hk132 rfl fun ag138 ok139 hk137 => ?_)
      refine s_v (o_as (aw _ _ _) rfl) ?_
      refine s_nil ?_
      refine H112 _ _ ?_
      clear H112 K112
      refine AW_reg ?_
      refine s_v (o_mv (.sc (.int _ _)) rfl) ?_
      refine s_v (o_bi rfl rfl rfl trivial) ?_
      refine s_v (o_as (.sc (.int _ _)) rfl) ?_
      refine s_nil ?_
      cases hm
      exact ⟨rfl, ag138, ⟨(hp_sub (.cons _ (.refl _)) hk137).2, ok139⟩, LeF.fm ((hp_sub (.cons _ (.refl _)) hk137).1) (.cons (ALe.refl _ _) (.cons (ALe.refl _ _) (.cons (ALe.refl _ _) (.nil))))⟩
    · replace hm := ite_f hm hc111
      refine AW_exit ?_
      refine Seq_exit ?_
      cases hm
      exact ⟨rfl, ag105, ⟨hk108, ok106⟩, LeF.fm (Sub.refl _) (.cons (ALe.refl _ _) (.cons (ALe.refl _ _) (.cons (ALe.refl _ _) (.nil))))⟩
  · rintro ag142 ⟨r140, r141⟩ fr' h' ⟨hk144, ot143⟩ hm le
    refine H3 _ _ (le.aw ?_)
    clear le H3 K3
    refine AW_k fun K145 H145 => ?_
    refine AW_reg ?_
    refine s_v (o_mv (aw _ _ _) rfl) ?_
    refine s_v (o_as (aw _ _ _) rfl) ?_
    refine s_nil ?_
    refine H145 _ _ ?_
    clear H145 K145
    refine AW_ret ?_
    have hmo := Option.some.inj hm; subst hmo
    exact LqE.mk (LeF.eqh rfl) (Ret.one (.inl rfl) (hp_sub (h0 := h) (L' := [(ag142.t, .obj 63 (fl c_Chunk (r140 : List TChunk) ag142.sp))]) (.refl _) hk144).1 (ALe.refl _ _) ⟨ag142, ot143, (hp_sub (h0 := h) (L' := [(ag142.t, .obj 63 (fl c_Chunk (r140 : List TChunk) ag142.sp))]) (.refl _) hk144).2, rfl, rfl⟩)
def M14d_L0 (fuel : Nat) (p0 : TCatalog) (q110 : List TSnap) (q113 : Int) : Option (Lp ((List TSnap) × Int) (TCatalog)) :=
  if (decide (q113 < (p0.Snaps.length : Int))) = true then ((ix p0.Snaps q113).bind fun x120 => (M52 fuel x120.Man).bind fun y133 => (M53 fuel x120.Locs).bind fun y135 => (app q110 ([{ { x120 with Man := y133 } with Locs := y135 }] : List TSnap)).bind fun z139 => some (.go (z139, IntKind.wrap .i64 (q113 + 1)))) else some (.brk (q110, q113))
def M14d_L2 (fuel : Nat) (p0 : TCatalog) (q226 : List TExp) (q229 : Int) : Option (Lp ((List TExp) × Int) (TCatalog)) :=
  if (decide (q229 < (p0.Exps.length : Int))) = true then ((ix p0.Exps q229).bind fun x236 => (M53 fuel x236.Locs).bind fun y243 => (app q226 ([{ x236 with Locs := y243 }] : List TExp)).bind fun z246 => some (.go (z246, IntKind.wrap .i64 (q229 + 1)))) else some (.brk (q226, q229))
def M14d (fuel : Nat) (p0 : TCatalog) : Option (TCatalog) :=
  after (loopM (fun s => M14d_L0 fuel p0 s.1 s.2) fuel ([], 0)) fun ⟨r146, r147⟩ => after (loopM (fun s => M14d_L2 fuel p0 s.1 s.2) fuel ([], 0)) fun ⟨r253, r254⟩ => (M54a fuel p0.Chunks).bind fun y278 => (app ([] : List TVol) p0.Vols).bind fun z284 => some ({ Seq := p0.Seq, Snaps := r146, Chunks := y278, Exps := r253, Vols := z284 } : TCatalog)
set_option maxHeartbeats 4000000 in
set_option maxRecDepth 100000 in
/-- cellarer/cellarerkeep.TwinCatalog -/
theorem W14d {fuel : Nat} {p0 : TCatalog} {o : TCatalog} (h : Heap) (hm : M14d fuel p0 = some o) :
    ACalls Try.prog 14 [.agg (c_Catalog p0)] h (fun r h' => ∃ g_Snaps : AGh, AOk g_Snaps 4 o.Snaps.length ∧ ∃ g_Chunks : AGh, AOk g_Chunks 35 o.Chunks.length ∧ ∃ g_Exps : AGh, AOk g_Exps 3 o.Exps.length ∧ ∃ g_Vols : AGh, AOk g_Vols 4 o.Vols.length ∧ HOk h [(g_Snaps.t, .obj 60 (fl c_Snap (o.Snaps : List TSnap) g_Snaps.sp)), (g_Chunks.t, .obj 63 (fl c_Chunk (o.Chunks : List TChunk) g_Chunks.sp)), (g_Exps.t, .obj 65 (fl c_Exp (o.Exps : List TExp) g_Exps.sp)), (g_Vols.t, .obj 40 (fl c_Vol (o.Vols : List TVol) g_Vols.sp))] ∧ r = .agg ([.sc (.int .i64 o.Seq), aw g_Snaps.t g_Snaps.n g_Snaps.cap, aw g_Chunks.t g_Chunks.n g_Chunks.cap, aw g_Exps.t g_Exps.n g_Exps.cap, aw g_Vols.t g_Vols.n g_Vols.cap]) ∧ h' = hp h [(g_Snaps.t, .obj 60 (fl c_Snap (o.Snaps : List TSnap) g_Snaps.sp)), (g_Chunks.t, .obj 63 (fl c_Chunk (o.Chunks : List TChunk) g_Chunks.sp)), (g_Exps.t, .obj 65 (fl c_Exp (o.Exps : List TExp) g_Exps.sp)), (g_Vols.t, .obj 40 (fl c_Vol (o.Vols : List TVol) g_Vols.sp))]) := by
  refine ACalls_hp 68 [.cell 2 27] Try.func14 rfl rfl rfl rfl ?_
  unfold M14d at hm
  refine AW_lq ?_
  refine AW_k fun K1 H1 => ?_
  refine AW_reg ?_
  refine s_op (a_box (HOk.nil _) rfl rfl fun k2 hk3 => ?_)
  refine s_op (a_alloc ([.sc (.int .i64 0), .sc (.slice none 0 0), .sc (.slice none 0 0), .sc (.slice none 0 0), .sc (.slice none 0 0)]) hk3 zr27 rfl rfl fun k5 hk6 => ?_)
  refine s_nil ?_
  refine H1 _ _ ?_
  clear H1 K1
  refine AW_k fun K8 H8 => ?_
  refine AW_reg ?_
  refine s_v (o_as (.sc (.slice _ _ _)) rfl) ?_
  refine s_nil ?_
  refine H8 _ _ ?_
  clear H8 K8
  refine AW_k fun K9 H9 => ?_
  refine AW_k fun K10 H10 => ?_
  refine AW_reg ?_
  refine s_v (o_as (.sc (.int _ _)) rfl) ?_
  refine s_nil ?_
  refine H10 _ _ ?_
  clear H10 K10
  refine (LeF.put (t := 3) (v := aw g0.t g0.n g0.cap) (Sub.refl _) (ALe_nilA _)).aw ?_
  refine AW_loopG (n := 68) hm (σ := (List TSnap) × Int) (τ := AGh) (fun g s => HOk h [(g.t, .obj 60 (fl c_Snap (s.1 : List TSnap) g.sp)), (some k5, .obj 27 ([.sc (.int .i64 0), .sc (.slice none 0 0), .sc (.slice none 0 0), .sc (.slice none 0 0), .sc (.slice none 0 0)])), (some k2, .obj 27 (c_Catalog p0))] ∧ AOk g 4 (s.1 : List TSnap).length) (fun g s => kp (kp (kp (kp (k0) 4 (.sc (.int .i64 s.2))) 3 (aw g.t g.n g.cap)) 2 (.ptr k5 0)) 1 (.ptr k2 0)) (fun g s => hp h [(g.t, .obj 60 (fl c_Snap (s.1 : List TSnap) g.sp)), (some k5, .obj 27 ([.sc (.int .i64 0), .sc (.slice none 0 0), .sc (.slice none 0 0), .sc (.slice none 0 0), .sc (.slice none 0 0)])), (some k2, .obj 27 (c_Catalog p0))]) g0 (⟨HOk.none hk6, (AOk.g0 4)⟩) (LeF.fm (Sub.refl _) (.cons (ALe.refl _ _) (.cons (ALe.refl _ _) (.cons (ALe.refl _ _) (.cons (ALe.refl _ _) (.nil)))))) ?_ ?_
  · rintro ag111 ⟨q110, q113⟩ x ⟨hk114, ok112⟩ hm
    replace hm : M14d_L0 fuel p0 q110 q113 = some x := hm
    unfold M14d_L0 at hm
    refine AW_k fun K115 H115 => ?_
    refine AW_k fun K116 H116 => ?_
    refine AW_reg ?_
    refine s_v (o_mv (.sc (.int _ _)) rfl) ?_
    refine s_v (o_flp fd27_1 rfl rfl) ?_
    refine s_v (o_ldp (.sl none 4 (List.map c_Snap p0.Snaps)) ld22 rfl (hp_get 2 hk114 rfl) rfl) ?_
    refine s_v (o_lenm ln22 rfl) ?_
    refine s_v (o_bi rfl rfl rfl trivial) ?_
    refine s_nil ?_
    refine H116 _ _ ?_
    clear H116 K116
    refine AW_if' rfl (fun hc117 => ?_) (fun hc117 => ?_)
    · replace hm := ite_t hm hc117
      refine AW_skip ?_
      refine H115 _ _ ?_
      clear H115 K115
      refine AW_k fun K118 H118 => ?_
      refine AW_block ?_
      refine AW_k fun K119 H119 => ?_
      refine AW_reg ?_
      refine s_v (o_flp fd27_1 rfl rfl) ?_
      refine s_v (o_ldp (.sl none 4 (List.map c_Snap p0.Snaps)) ld22 rfl (hp_get 2 hk114 rfl) rfl) ?_
      refine s_v (o_mv (.sc (.int _ _)) rfl) ?_
      obtain ⟨x120, hx121, hm⟩ := bind_of hm
      refine s_v (o_ix hx121 el22 rfl rfl) ?_
      refine s_v (o_ld (.agg (c_Snap x120)) ld60 rfl rfl) ?_
      refine s_op (a_alloc ([.sc (.int .i64 0), .sc (.string ByteArray.empty), .sc (.slice none 0 0), .sc (.slice none 0 0)]) hk114 zr60 rfl rfl fun k122 hk123 => ?_)
      refine s_op (a_store 0 (c_Snap x120) hk123 rfl rfl rfl rfl sz60 rfl rfl fun hk125 => ?_)
      refine s_nil ?_
      refine H119 _ _ ?_
      clear H119 K119
      refine AW_k fun K126 H126 => ?_
      refine AW_zreg [(7, some k122, .obj 60 (c_Snap x120))] mixed (⟨fun _ => hp_at 0 hk125 rfl, trivial⟩) ?_
      refine z_v 0 rfl (by kernel_rfl) rfl (fun S' h' hi hB => o_flp fd60_1 rfl rfl) ?_
      refine z_v 1 rfl (by kernel_rfl) rfl (fun S' h' hi hB => o_ldp (.agg (c_Manifest x120.Man)) ld57 rfl (At.s (InvL.get 0 hi rfl (hB 7 (by kernel_rfl)))) rfl) ?_
      obtain ⟨y133, hy134, hm⟩ := bind_of hm
      refine z_v 2 rfl (by kernel_rfl) rfl (fun S' h' hi hB => o_call (W52 _ hy134) rfl bd52 rfl) ?_
      refine z_v 3 rfl (by kernel_rfl) rfl (fun S' h' hi hB => o_flp fd60_2 rfl rfl) ?_
      refine z_v 4 rfl (by kernel_rfl) rfl (fun S' h' hi hB => o_ldp (.sl none 4 (List.map c_Loc x120.Locs)) ld58 rfl (At.s (InvL.get 0 hi rfl (hB 7 (by kernel_rfl)))) rfl) ?_
      obtain ⟨y135, hy136, hm⟩ := bind_of hm
      refine z_v 5 rfl (by kernel_rfl) rfl (fun S' h' hi hB => o_call (W53 _ hy136) rfl bd53 rfl) ?_
      refine z_v 6 rfl (by kernel_rfl) rfl (fun S' h' hi hB => o_flp fd60_1 rfl rfl) ?_
      refine z_e 7 rfl (by kernel_rfl) (a_store 0 (c_Snap { x120 with Man := y133 }) hk125 rfl rfl rfl rfl sz57 rfl rfl fun hk137 => ⟨⟨fun e => absurd e (by decide), trivial⟩, ?_⟩)
      refine z_v 8 rfl (by kernel_rfl) rfl (fun S' h' hi hB => o_flp fd60_2 rfl rfl) ?_
      refine z_e 9 rfl (by kernel_rfl) (a_store 0 (c_Snap { { x120 with Man := y133 } with Locs := y135 }) hk137 rfl rfl rfl rfl sz58 rfl rfl fun hk138 => ⟨⟨fun e => absurd e (by decide), trivial⟩, ?_⟩)
      refine z_nil (by kernel_rfl) ?_
      refine H126 _ _ ?_
      clear H126 K126
      refine AW_reg ?_
      refine s_v (o_mv (aw _ _ _) rfl) ?_
      refine s_v (o_ldp (.agg (c_Snap { { x120 with Man := y133 } with Locs := y135 })) ld60 rfl (hp_get 0 hk138 rfl) rfl) ?_
      refine s_v (o_lit (List.map c_Snap ([{ { x120 with Man := y133 } with Locs := y135 }] : List TSnap)) et22 rfl rfl rfl rfl) ?_
      obtain ⟨z139, hz140, hm⟩ := bind_of hm
      refine s_op (a_appA (c := c_Snap) 1 hz140 et22 rfl zr60 rfl cz_Snap rfl rfl ok112 hk138 rfl fun ag144 ok145 hk143 => ?_)
      refine s_v (o_as (aw _ _ _) rfl) ?_
      refine s_nil ?_
      refine H118 _ _ ?_
      clear H118 K118
      refine AW_reg ?_
      refine s_v (o_mv (.sc (.int _ _)) rfl) ?_
      refine s_v (o_bi rfl rfl rfl trivial) ?_
      refine s_v (o_as (.sc (.int _ _)) rfl) ?_
      refine s_nil ?_
      cases hm
      exact ⟨rfl, ag144, ⟨(hp_sub (.cons _ (.refl _)) hk143).2, ok145⟩, LeF.fm ((hp_sub (.cons _ (.refl _)) hk143).1) (.cons (ALe.refl _ _) (.cons (ALe.refl _ _) (.cons (ALe.refl _ _) (.cons (ALe.refl _ _) (.nil)))))⟩
    · replace hm := ite_f hm hc117
      refine AW_exit ?_
      refine Seq_exit ?_
      cases hm
      exact ⟨rfl, ag111, ⟨hk114, ok112⟩, LeF.fm (Sub.refl _) (.cons (ALe.refl _ _) (.cons (ALe.refl _ _) (.cons (ALe.refl _ _) (.cons (ALe.refl _ _) (.nil)))))⟩
  · rintro ag148 ⟨r146, r147⟩ fr' h' ⟨hk150, ot149⟩ hm le
    refine H9 _ _ (le.aw ?_)
    clear le H9 K9
    refine AW_k fun K151 H151 => ?_
    refine AW_reg ?_
    refine s_v (o_as (.sc (.slice _ _ _)) rfl) ?_
    refine s_nil ?_
    refine H151 _ _ ?_
    clear H151 K151
    refine AW_k fun K152 H152 => ?_
    refine AW_k fun K153 H153 => ?_
    refine AW_reg ?_
    refine s_v (o_as (.sc (.int _ _)) rfl) ?_
    refine s_nil ?_
    refine H153 _ _ ?_
    clear H153 K153
    refine (LeF.put (t := 6) (v := aw g0.t g0.n g0.cap) (Sub.refl _) (ALe_nilA _)).aw ?_
    refine AW_loopG (n := 68) hm (σ := (List TExp) × Int) (τ := AGh) (fun g s => HOk h [(g.t, .obj 65 (fl c_Exp (s.1 : List TExp) g.sp)), (ag148.t, .obj 60 (fl c_Snap (r146 : List TSnap) ag148.sp)), (some k5, .obj 27 ([.sc (.int .i64 0), .sc (.slice none 0 0), .sc (.slice none 0 0), .sc (.slice none 0 0), .sc (.slice none 0 0)])), (some k2, .obj 27 (c_Catalog p0))] ∧ AOk g 3 (s.1 : List TExp).length) (fun g s => kp (kp (kp (kp (kp (k0) 7 (.sc (.int .i64 s.2))) 6 (aw g.t g.n g.cap)) 3 (aw ag148.t ag148.n ag148.cap)) 2 (.ptr k5 0)) 1 (.ptr k2 0)) (fun g s => hp h [(g.t, .obj 65 (fl c_Exp (s.1 : List TExp) g.sp)), (ag148.t, .obj 60 (fl c_Snap (r146 : List TSnap) ag148.sp)), (some k5, .obj 27 ([.sc (.int .i64 0), .sc (.slice none 0 0), .sc (.slice none 0 0), .sc (.slice none 0 0), .sc (.slice none 0 0)])), (some k2, .obj 27 (c_Catalog p0))]) g0 (⟨HOk.none hk150, (AOk.g0 3)⟩) (LeF.fm (Sub.refl _) (.cons (ALe.refl _ _) (.cons (ALe.refl _ _) (.cons (ALe.refl _ _) (.cons (ALe.refl _ _) (.cons (ALe.refl _ _) (.nil))))))) ?_ ?_
    · rintro ag227 ⟨q226, q229⟩ x ⟨hk230, ok228⟩ hm
      replace hm : M14d_L2 fuel p0 q226 q229 = some x := hm
      unfold M14d_L2 at hm
      refine AW_k fun K231 H231 => ?_
      refine AW_k fun K232 H232 => ?_
      refine AW_reg ?_
      refine s_v (o_mv (.sc (.int _ _)) rfl) ?_
      refine s_v (o_flp fd27_3 rfl rfl) ?_
      refine s_v (o_ldp (.sl none 3 (List.map c_Exp p0.Exps)) ld24 rfl (hp_get 3 hk230 rfl) rfl) ?_
      refine s_v (o_lenm ln24 rfl) ?_
      refine s_v (o_bi rfl rfl rfl trivial) ?_
      refine s_nil ?_
      refine H232 _ _ ?_
      clear H232 K232
      refine AW_if' rfl (fun hc233 => ?_) (fun hc233 => ?_)
      · replace hm := ite_t hm hc233
        refine AW_skip ?_
        refine H231 _ _ ?_
        clear H231 K231
        refine AW_k fun K234 H234 => ?_
        refine AW_block ?_
        refine AW_k fun K235 H235 => ?_
        refine AW_reg ?_
        refine s_v (o_flp fd27_3 rfl rfl) ?_
        refine s_v (o_ldp (.sl none 3 (List.map c_Exp p0.Exps)) ld24 rfl (hp_get 3 hk230 rfl) rfl) ?_
        refine s_v (o_mv (.sc (.int _ _)) rfl) ?_
        obtain ⟨x236, hx237, hm⟩ := bind_of hm
        refine s_v (o_ix hx237 el24 rfl rfl) ?_
        refine s_v (o_ld (.agg (c_Exp x236)) ld65 rfl rfl) ?_
        refine s_op (a_alloc ([.sc (.int .i64 0), .sc (.int .i64 0), .sc (.slice none 0 0)]) hk230 zr65 rfl rfl fun k238 hk239 => ?_)
        refine s_op (a_store 0 (c_Exp x236) hk239 rfl rfl rfl rfl sz65 rfl rfl fun hk241 => ?_)
        refine s_nil ?_
        refine H235 _ _ ?_
        clear H235 K235
        refine AW_k fun K242 H242 => ?_
        refine AW_reg ?_
        refine s_v (o_flp fd65_2 rfl rfl) ?_
        refine s_v (o_ldp (.sl none 4 (List.map c_Loc x236.Locs)) ld58 rfl (hp_get 0 hk241 rfl) rfl) ?_
        obtain ⟨y243, hy244, hm⟩ := bind_of hm
        refine s_v (o_call (W53 _ hy244) rfl bd53 rfl) ?_
        refine s_v (o_flp fd65_2 rfl rfl) ?_
        refine s_op (a_store 0 (c_Exp { x236 with Locs := y243 }) hk241 rfl rfl rfl rfl sz58 rfl rfl fun hk245 => ?_)
        refine s_nil ?_
        refine H242 _ _ ?_
        clear H242 K242
        refine AW_reg ?_
        refine s_v (o_mv (aw _ _ _) rfl) ?_
        refine s_v (o_ldp (.agg (c_Exp { x236 with Locs := y243 })) ld65 rfl (hp_get 0 hk245 rfl) rfl) ?_
        refine s_v (o_lit (List.map c_Exp ([{ x236 with Locs := y243 }] : List TExp)) et24 rfl rfl rfl rfl) ?_
        obtain ⟨z246, hz247, hm⟩ := bind_of hm
        refine s_op (a_appA (c := c_Exp) 1 hz247 et24 rfl zr65 rfl cz_Exp rfl rfl ok228 hk245 rfl fun ag251 ok252 hk250 => ?_)
        refine s_v (o_as (aw _ _ _) rfl) ?_
        refine s_nil ?_
        refine H234 _ _ ?_
        clear H234 K234
        refine AW_reg ?_
        refine s_v (o_mv (.sc (.int _ _)) rfl) ?_
        refine s_v (o_bi rfl rfl rfl trivial) ?_
        refine s_v (o_as (.sc (.int _ _)) rfl) ?_
        refine s_nil ?_
        cases hm
        exact ⟨rfl, ag251, ⟨(hp_sub (.cons _ (.refl _)) hk250).2, ok252⟩, LeF.fm ((hp_sub (.cons _ (.refl _)) hk250).1) (.cons (ALe.refl _ _) (.cons (ALe.refl _ _) (.cons (ALe.refl _ _) (.cons (ALe.refl _ _) (.cons (ALe.refl _ _) (.nil))))))⟩
      · replace hm := ite_f hm hc233
        refine AW_exit ?_
        refine Seq_exit ?_
        cases hm
        exact ⟨rfl, ag227, ⟨hk230, ok228⟩, LeF.fm (Sub.refl _) (.cons (ALe.refl _ _) (.cons (ALe.refl _ _) (.cons (ALe.refl _ _) (.cons (ALe.refl _ _) (.cons (ALe.refl _ _) (.nil))))))⟩
    · rintro ag255 ⟨r253, r254⟩ fr' h' ⟨hk257, ot256⟩ hm le
      refine H152 _ _ (le.aw ?_)
      clear le H152 K152
      refine AW_k fun K258 H258 => ?_
      refine AW_reg ?_
      refine s_v (o_as (.sc (.slice _ _ _)) rfl) ?_
      refine s_nil ?_
      refine H258 _ _ ?_
      clear H258 K258
      refine AW_k fun K259 H259 => ?_
      refine AW_zreg [(10, some k2, .obj 27 (c_Catalog p0))] mixed (⟨fun _ => hp_at 3 hk257 rfl, trivial⟩) ?_
      refine z_v 0 rfl (by kernel_rfl) rfl (fun S' h' hi hB => o_mv (aw _ _ _) rfl) ?_
      refine z_v 1 rfl (by kernel_rfl) rfl (fun S' h' hi hB => o_flp fd27_2 rfl rfl) ?_
      refine z_v 2 rfl (by kernel_rfl) rfl (fun S' h' hi hB => o_ldp (.sl none 35 (List.map c_Chunk p0.Chunks)) ld23 rfl (At.s (InvL.get 0 hi rfl (hB 10 (by kernel_rfl)))) rfl) ?_
      refine z_v 4 rfl (by kernel_rfl) rfl (fun S' h' hi hB => o_mv (aw _ _ _) rfl) ?_
      refine z_v 5 rfl (by kernel_rfl) rfl (fun S' h' hi hB => o_mv (.sc (.slice _ _ _)) rfl) ?_
      refine z_v 6 rfl (by kernel_rfl) rfl (fun S' h' hi hB => o_flp fd27_4 rfl rfl) ?_
      refine z_v 7 rfl (by kernel_rfl) rfl (fun S' h' hi hB => o_ldp (.sl none 4 (List.map c_Vol p0.Vols)) ld25 rfl (At.s (InvL.get 0 hi rfl (hB 10 (by kernel_rfl)))) rfl) ?_
      refine z_v 9 rfl (by kernel_rfl) rfl (fun S' h' hi hB => o_flp fd27_1 rfl rfl) ?_
      obtain ⟨y278, hy279, hm⟩ := bind_of hm
      refine z_e 3 rfl (by kernel_rfl) (a_call (W54a _ hy279) rfl bd54 rfl ?_)
      rintro x h' ⟨ag280, ok281, hk282, rfl, rfl⟩
      rw [hp_cat]
      refine ⟨⟨fun _ => hp_at 4 (HOk.co hk257 hk282) rfl, trivial⟩, ?_⟩
      obtain ⟨z284, hz285, hm⟩ := bind_of hm
      refine z_e 8 rfl (by kernel_rfl) (a_appA0 (c := c_Vol) hz285 et25 rfl zr40 rfl cz_Vol rfl (HOk.co hk257 hk282) rfl fun ag289 ok290 hk288 => ⟨⟨fun _ => hp_at 5 hk288 rfl, trivial⟩, ?_⟩)
      refine z_e 10 rfl (by kernel_rfl) (a_store 5 ([.sc (.int .i64 p0.Seq), aw ag148.t ag148.n ag148.cap, .sl none 35 (List.map c_Chunk p0.Chunks), .sl none 3 (List.map c_Exp p0.Exps), .sl none 4 (List.map c_Vol p0.Vols)]) hk288 rfl rfl (cellsOf_aw rfl) (all_c (ocell_aw _ _ _) rfl) sz22 rfl rfl fun hk292 => ⟨⟨fun e => absurd e (by decide), trivial⟩, ?_⟩)
      refine z_v 11 rfl (by kernel_rfl) rfl (fun S' h' hi hB => o_flp fd27_2 rfl rfl) ?_
      refine z_e 12 rfl (by kernel_rfl) (a_store 5 ([.sc (.int .i64 p0.Seq), aw ag148.t ag148.n ag148.cap, aw ag280.t ag280.n ag280.cap, .sl none 3 (List.map c_Exp p0.Exps), .sl none 4 (List.map c_Vol p0.Vols)]) hk292 rfl rfl (cellsOf_aw rfl) (all_c (ocell_aw _ _ _) rfl) sz23 rfl rfl fun hk293 => ⟨⟨fun e => absurd e (by decide), trivial⟩, ?_⟩)
      refine z_v 13 rfl (by kernel_rfl) rfl (fun S' h' hi hB => o_flp fd27_3 rfl rfl) ?_
      refine z_e 14 rfl (by kernel_rfl) (a_store 5 ([.sc (.int .i64 p0.Seq), aw ag148.t ag148.n ag148.cap, aw ag280.t ag280.n ag280.cap, aw ag255.t ag255.n ag255.cap, .sl none 4 (List.map c_Vol p0.Vols)]) hk293 rfl rfl (cellsOf_aw rfl) (all_c (ocell_aw _ _ _) rfl) sz24 rfl rfl fun hk294 => ⟨⟨fun e => absurd e (by decide), trivial⟩, ?_⟩)
      refine z_v 15 rfl (by kernel_rfl) rfl (fun S' h' hi hB => o_flp fd27_4 rfl rfl) ?_
      refine z_e 16 rfl (by kernel_rfl) (a_store 5 ([.sc (.int .i64 p0.Seq), aw ag148.t ag148.n ag148.cap, aw ag280.t ag280.n ag280.cap, aw ag255.t ag255.n ag255.cap, aw ag289.t ag289.n ag289.cap]) hk294 rfl rfl (cellsOf_aw rfl) (all_c (ocell_aw _ _ _) rfl) sz25 rfl rfl fun hk295 => ⟨⟨fun e => absurd e (by decide), trivial⟩, ?_⟩)
      refine z_nil (by kernel_rfl) ?_
      refine H259 _ _ ?_
      clear H259 K259
      refine AW_k fun K296 H296 => ?_
      refine AW_reg ?_
      refine s_v (o_ldp (.agg ([.sc (.int .i64 p0.Seq), aw ag148.t ag148.n ag148.cap, aw ag280.t ag280.n ag280.cap, aw ag255.t ag255.n ag255.cap, aw ag289.t ag289.n ag289.cap])) ld27 rfl (hp_get 5 hk295 rfl) rfl) ?_
      refine s_op (a_store 4 ([.sc (.int .i64 p0.Seq), aw ag148.t ag148.n ag148.cap, aw ag280.t ag280.n ag280.cap, aw ag255.t ag255.n ag255.cap, aw ag289.t ag289.n ag289.cap]) hk295 rfl rfl rfl (by repeat (first | exact rfl | refine all_c (ocell_ow _ _ _) ?_ | refine all_c (ocell_aw _ _ _) ?_ | refine all_c rfl ?_)) sz27 rfl rfl fun hk297 => ?_)
      refine s_nil ?_
      refine H296 _ _ ?_
      clear H296 K296
      refine AW_ret ?_
      have hmo := Option.some.inj hm; subst hmo
      exact LqE.mk (LeF.eqh rfl) (Ret.of1 (.inl rfl) (rsC (.agg ([.sc (.int .i64 p0.Seq), aw ag148.t ag148.n ag148.cap, aw ag280.t ag280.n ag280.cap, aw ag255.t ag255.n ag255.cap, aw ag289.t ag289.n ag289.cap])) ld27 rfl (hp_get 4 hk297 rfl) rfl) (Sub_eq (hp_perm ((.trans ((.trans (.cons _ ((.trans (.cons _ (.swap _ _ _)) (.swap _ _ _)))) (.swap _ _ _))) (.cons _ (.trans (.swap _ _ _) (.cons _ (.swap _ _ _))))) : List.Perm (α := Option Key × Ent) [(ag289.t, .obj 40 (fl c_Vol (z284 : List TVol) ag289.sp)), (ag280.t, .obj 63 (fl c_Chunk (y278 : List TChunk) ag280.sp)), (ag255.t, .obj 65 (fl c_Exp (r253 : List TExp) ag255.sp)), (ag148.t, .obj 60 (fl c_Snap (r146 : List TSnap) ag148.sp)), (some k5, .obj 27 ([.sc (.int .i64 p0.Seq), aw ag148.t ag148.n ag148.cap, aw ag280.t ag280.n ag280.cap, aw ag255.t ag255.n ag255.cap, aw ag289.t ag289.n ag289.cap])), (some k2, .obj 27 ([.sc (.int .i64 p0.Seq), aw ag148.t ag148.n ag148.cap, aw ag280.t ag280.n ag280.cap, aw ag255.t ag255.n ag255.cap, aw ag289.t ag289.n ag289.cap]))] ([(ag148.t, .obj 60 (fl c_Snap (r146 : List TSnap) ag148.sp)), (ag280.t, .obj 63 (fl c_Chunk (y278 : List TChunk) ag280.sp)), (ag255.t, .obj 65 (fl c_Exp (r253 : List TExp) ag255.sp)), (ag289.t, .obj 40 (fl c_Vol (z284 : List TVol) ag289.sp))] ++ [(some k5, .obj 27 ([.sc (.int .i64 p0.Seq), aw ag148.t ag148.n ag148.cap, aw ag280.t ag280.n ag280.cap, aw ag255.t ag255.n ag255.cap, aw ag289.t ag289.n ag289.cap])), (some k2, .obj 27 ([.sc (.int .i64 p0.Seq), aw ag148.t ag148.n ag148.cap, aw ag280.t ag280.n ag280.cap, aw ag255.t ag255.n ag255.cap, aw ag289.t ag289.n ag289.cap]))])) hk297).1 (hp_sub (h0 := h) (L' := [(ag148.t, .obj 60 (fl c_Snap (r146 : List TSnap) ag148.sp)), (ag280.t, .obj 63 (fl c_Chunk (y278 : List TChunk) ag280.sp)), (ag255.t, .obj 65 (fl c_Exp (r253 : List TExp) ag255.sp)), (ag289.t, .obj 40 (fl c_Vol (z284 : List TVol) ag289.sp))]) (List.sublist_append_left _ _) (hp_perm ((.trans ((.trans (.cons _ ((.trans (.cons _ (.swap _ _ _)) (.swap _ _ _)))) (.swap _ _ _))) (.cons _ (.trans (.swap _ _ _) (.cons _ (.swap _ _ _))))) : List.Perm (α := Option Key × Ent) [(ag289.t, .obj 40 (fl c_Vol (z284 : List TVol) ag289.sp)), (ag280.t, .obj 63 (fl c_Chunk (y278 : List TChunk) ag280.sp)), (ag255.t, .obj 65 (fl c_Exp (r253 : List TExp) ag255.sp)), (ag148.t, .obj 60 (fl c_Snap (r146 : List TSnap) ag148.sp)), (some k5, .obj 27 ([.sc (.int .i64 p0.Seq), aw ag148.t ag148.n ag148.cap, aw ag280.t ag280.n ag280.cap, aw ag255.t ag255.n ag255.cap, aw ag289.t ag289.n ag289.cap])), (some k2, .obj 27 ([.sc (.int .i64 p0.Seq), aw ag148.t ag148.n ag148.cap, aw ag280.t ag280.n ag280.cap, aw ag255.t ag255.n ag255.cap, aw ag289.t ag289.n ag289.cap]))] ([(ag148.t, .obj 60 (fl c_Snap (r146 : List TSnap) ag148.sp)), (ag280.t, .obj 63 (fl c_Chunk (y278 : List TChunk) ag280.sp)), (ag255.t, .obj 65 (fl c_Exp (r253 : List TExp) ag255.sp)), (ag289.t, .obj 40 (fl c_Vol (z284 : List TVol) ag289.sp))] ++ [(some k5, .obj 27 ([.sc (.int .i64 p0.Seq), aw ag148.t ag148.n ag148.cap, aw ag280.t ag280.n ag280.cap, aw ag255.t ag255.n ag255.cap, aw ag289.t ag289.n ag289.cap])), (some k2, .obj 27 ([.sc (.int .i64 p0.Seq), aw ag148.t ag148.n ag148.cap, aw ag280.t ag280.n ag280.cap, aw ag255.t ag255.n ag255.cap, aw ag289.t ag289.n ag289.cap]))])) hk297).2).1) (ALe.refl _ _) ⟨ag148, ot149, ag280, ok281, ag255, ot256, ag289, ok290, (hp_sub (h0 := h) (L' := [(ag148.t, .obj 60 (fl c_Snap (r146 : List TSnap) ag148.sp)), (ag280.t, .obj 63 (fl c_Chunk (y278 : List TChunk) ag280.sp)), (ag255.t, .obj 65 (fl c_Exp (r253 : List TExp) ag255.sp)), (ag289.t, .obj 40 (fl c_Vol (z284 : List TVol) ag289.sp))]) (List.sublist_append_left _ _) (hp_perm ((.trans ((.trans (.cons _ ((.trans (.cons _ (.swap _ _ _)) (.swap _ _ _)))) (.swap _ _ _))) (.cons _ (.trans (.swap _ _ _) (.cons _ (.swap _ _ _))))) : List.Perm (α := Option Key × Ent) [(ag289.t, .obj 40 (fl c_Vol (z284 : List TVol) ag289.sp)), (ag280.t, .obj 63 (fl c_Chunk (y278 : List TChunk) ag280.sp)), (ag255.t, .obj 65 (fl c_Exp (r253 : List TExp) ag255.sp)), (ag148.t, .obj 60 (fl c_Snap (r146 : List TSnap) ag148.sp)), (some k5, .obj 27 ([.sc (.int .i64 p0.Seq), aw ag148.t ag148.n ag148.cap, aw ag280.t ag280.n ag280.cap, aw ag255.t ag255.n ag255.cap, aw ag289.t ag289.n ag289.cap])), (some k2, .obj 27 ([.sc (.int .i64 p0.Seq), aw ag148.t ag148.n ag148.cap, aw ag280.t ag280.n ag280.cap, aw ag255.t ag255.n ag255.cap, aw ag289.t ag289.n ag289.cap]))] ([(ag148.t, .obj 60 (fl c_Snap (r146 : List TSnap) ag148.sp)), (ag280.t, .obj 63 (fl c_Chunk (y278 : List TChunk) ag280.sp)), (ag255.t, .obj 65 (fl c_Exp (r253 : List TExp) ag255.sp)), (ag289.t, .obj 40 (fl c_Vol (z284 : List TVol) ag289.sp))] ++ [(some k5, .obj 27 ([.sc (.int .i64 p0.Seq), aw ag148.t ag148.n ag148.cap, aw ag280.t ag280.n ag280.cap, aw ag255.t ag255.n ag255.cap, aw ag289.t ag289.n ag289.cap])), (some k2, .obj 27 ([.sc (.int .i64 p0.Seq), aw ag148.t ag148.n ag148.cap, aw ag280.t ag280.n ag280.cap, aw ag255.t ag255.n ag255.cap, aw ag289.t ag289.n ag289.cap]))])) hk297).2).2, rfl, rfl⟩)
end Go.Proofs.Ytoomgangpjcaoaa
