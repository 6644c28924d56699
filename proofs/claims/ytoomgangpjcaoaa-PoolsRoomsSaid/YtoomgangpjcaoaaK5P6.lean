import Derived.Test.YtoomgangpjcaoaaK5P2
import Derived.Test.YtoomgangpjcaoaaK5P5
import Derived.Test.YtoomgangpjcaoaaK5P3
import Derived.Test.YtoomgangpjcaoaaK5P4
set_option linter.unusedSimpArgs false
set_option linter.unusedVariables false
namespace Go.Proofs.Ytoomgangpjcaoaa
open Go.Vm
def M53 (fuel : Nat) (p0 : List TLoc) : Option ((List TLoc)) :=
 (app ([] : List TLoc) p0).bind fun z4 => some z4
set_option maxHeartbeats 4000000 in
set_option maxRecDepth 100000 in
theorem W53 {fuel : Nat} {p0 : List TLoc} {o : (List TLoc)} (h : Heap) (hm : M53 fuel p0 = some o) :
 ACalls Try.prog 53 [.sl none 4 (List.map c_Loc p0)] h (fun r h' => r = .sl none 4 (List.map c_Loc o) ∧ h' = h) := by
 refine ACalls_hp 7 [.tmp 2] Try.func53 rfl rfl rfl rfl ?_
 unfold M53 at hm
 refine Zf fun K1 H1 => (Za (s_v (o_as (.sc (.slice _ _ _)) rfl) (Zb (H1 _ _ (Zf fun K2 H2 => (Za (s_v (o_as (.sc (.slice _ _ _)) rfl) (Zb (H2 _ _ (Zf fun K3 H3 => (Za (s_v (o_mv (.sc (.slice _ _ _)) rfl) (vE rfl ?_)))))))))))))
 obtain ⟨z4, hz5, hm⟩ := Zc hm
 refine s_op (a_app0 (c := c_Loc) hz5 et58 rfl rfl (HOk.nil _) nofun rfl fun tg6 ot7 hk8 => ?_)
 refine s_v (o_as (ow _ _ _) rfl) (Zb (H3 _ _ (AW_ret ?_)))
 have hmo := Option.some.inj hm; subst hmo
 exact Ret.of1 (.inl rfl) (rsT _ _ (ow _ _ _) rfl) (hp_sub (List.nil_sublist _) hk8).1 ((own_frz0 _ 0 ot7 hk8 rfl)) ⟨rfl, rfl⟩
theorem bd53 : bodied Try.prog 53 = true := by kernel_rfl
def M100 (fuel : Nat) (p0 : List Int) : Option ((List Int)) :=
 (app ([] : List Int) p0).bind fun z4 => some z4
set_option maxHeartbeats 4000000 in
set_option maxRecDepth 100000 in
theorem W100 {fuel : Nat} {p0 : List Int} {o : (List Int)} (h : Heap) (hm : M100 fuel p0 = some o) :
 ACalls Try.prog 100 [.sl none 1 (List.map c_u8 p0)] h (fun r h' => r = .sl none 1 (List.map c_u8 o) ∧ h' = h) := by
 refine ACalls_hp 7 [.tmp 2] Try.func100 rfl rfl rfl rfl ?_
 unfold M100 at hm
 refine Zf fun K1 H1 => (Za (s_v (o_as (.sc (.slice _ _ _)) rfl) (Zb (H1 _ _ (Zf fun K2 H2 => (Za (s_v (o_as (.sc (.slice _ _ _)) rfl) (Zb (H2 _ _ (Zf fun K3 H3 => (Za (s_v (o_mv (.sc (.slice _ _ _)) rfl) (vE rfl ?_)))))))))))))
 obtain ⟨z4, hz5, hm⟩ := Zc hm
 refine s_op (a_app0 (c := c_u8) hz5 et52 rfl rfl (HOk.nil _) nofun rfl fun tg6 ot7 hk8 => ?_)
 refine s_v (o_as (ow _ _ _) rfl) (Zb (H3 _ _ (AW_ret ?_)))
 have hmo := Option.some.inj hm; subst hmo
 exact Ret.of1 (.inl rfl) (rsT _ _ (ow _ _ _) rfl) (hp_sub (List.nil_sublist _) hk8).1 ((own_frz0 _ 0 ot7 hk8 rfl)) ⟨rfl, rfl⟩
theorem bd100 : bodied Try.prog 100 = true := by kernel_rfl
def M52_L0 (fuel : Nat) (p0 : TManifest) (q0 : List TPart) (q1 : Int) : Option (Lp ((List TPart) × Int) (TManifest)) :=
 if (decide (q1 < (p0.Parts.length : Int))) = true then ((ix p0.Parts q1).bind fun x0 => (app ([] : List Id32) x0.Ids).bind fun z0 => (app q0 ([({ Path := x0.Path, Size := x0.Size, Ids := z0 } : TPart)] : List TPart)).bind fun z1 => some (.go (z1, IntKind.wrap .i64 (q1 + 1)))) else some (.brk (q0, q1))
def M52 (fuel : Nat) (p0 : TManifest) : Option (TManifest) :=
 after (loopM (fun s => M52_L0 fuel p0 s.1 s.2) fuel ([], 0)) fun ⟨r0, r1⟩ => some ({ Name := p0.Name, Parts := r0 } : TManifest)
set_option maxHeartbeats 4000000 in
set_option maxRecDepth 100000 in
theorem W52 {fuel : Nat} {p0 : TManifest} {o : TManifest} (h : Heap) (hm : M52 fuel p0 = some o) :
 ACalls Try.prog 52 [.agg (c_Manifest p0)] h (fun r h' => r = .agg (c_Manifest o) ∧ h' = h) := by
 refine ACalls_hp 31 [.cell 2 57] Try.func52 rfl rfl rfl rfl ?_
 unfold M52 at hm
 refine Zf fun K1 H1 => (Za ?_)
 refine s_op (a_box (HOk.nil _) rfl rfl fun k2 hk3 => ?_)
 refine s_op (a_alloc ([.sc (.string ByteArray.empty), .sc (.slice none 0 0)]) hk3 zr57 rfl rfl fun k5 hk6 => ?_)
 refine Zb (H1 _ _ (Zf fun K8 H8 => (Za (s_v (o_as (.sc (.slice _ _ _)) rfl) (Zb (H8 _ _ (Zf fun K9 H9 => (Zf fun K0 H2 => (Za (vC rfl (Zb (H2 _ _ ?_))))))))))))
 refine (LeF.put (t := 3) (v := ow none 3 (List.map c_Part [])) (Sub.refl _) (ow_nil _ _)).aw ?_
 refine AW_loopL (n := 31) (h := h) hm (σ := (List TPart) × Int) (τ := Option Key) (fun g s => [(g, .tok 82 3 ((s.1 : List TPart).length * 3)), (some k5, .obj 57 ([.sc (.string ByteArray.empty), .sc (.slice none 0 0)])), (some k2, .obj 57 (c_Manifest p0))]) (fun g s => (g = none → s.1 = [])) (fun g s => kp (kp (kp (kp (k0) 4 (.sc (.int .i64 s.2))) 3 (ow g 3 (List.map c_Part s.1))) 2 (.ptr k5 0)) 1 (.ptr k2 0)) none (⟨HOk.none hk6, (fun _ => rfl)⟩) (LeF.s (.k4 .nil)) ?_ ?_
 rintro tg0 ⟨q0, q1⟩ x ⟨hk0, ot0⟩ hm
 replace hm : M52_L0 fuel p0 q0 q1 = some x := hm
 unfold M52_L0 at hm
 refine Zf fun K2 H3 => (Zf fun K3 H4 => (Za (vA rfl (s_v (Zh fd57_1 rfl rfl) (s_v (Zg (.sl none 3 (List.map c_Part p0.Parts)) ld55 rfl (Zd 2 hk0 rfl) rfl) (s_v (o_lenm ln55 rfl) (vF rfl rfl rfl (Zb (H4 _ _ ?_)))))))))
 refine AW_if' rfl (fun hc0 => ?_) (fun hc0 => ?_)
 have hm := Zi hm hc0
 refine Zl (H3 _ _ (Zf fun K4 H5 => (AW_block (Zf fun K5 H6 => (Za (s_v (Zh fd57_1 rfl rfl) (s_v (Zg (.sl none 3 (List.map c_Part p0.Parts)) ld55 rfl (Zd 2 hk0 rfl) rfl) (vA rfl ?_))))))))
 obtain ⟨x0, hx0, hm⟩ := Zc hm
 refine s_v (o_ix hx0 el55 rfl rfl) (s_v (o_ld (.agg (c_Part x0)) ld82 rfl rfl) ?_)
 refine s_op (a_alloc ([.sc (.string ByteArray.empty), .sc (.int .i64 0), .sc (.slice none 0 0)]) hk0 zr82 rfl rfl fun k104 hk1 => ?_)
 refine s_op (a_store 0 (c_Part x0) hk1 rfl rfl rfl rfl sz82 rfl rfl fun hk2 => ?_)
 refine Zb (H6 _ _ (Zf fun K6 H7 => (Za (s_v (o_as (.sc (.slice _ _ _)) rfl) (Zb (H7 _ _ (Zf fun K7 H11 => (Za (s_v (o_mv (.sc (.slice _ _ _)) rfl) (s_v (Zh fd82_2 rfl rfl) (s_v (Zg (.sl none 32 (List.map c_id x0.Ids)) ld80 rfl (Zd 0 hk2 rfl) rfl) ?_)))))))))))
 obtain ⟨z0, hz0, hm⟩ := Zc hm
 refine s_op (a_app0 (c := c_id) hz0 et80 rfl rfl hk2 nofun rfl fun tg1 ot1 hk4 => ?_)
 refine s_v (Zh fd82_2 rfl rfl) ?_
 refine s_op (a_store 1 ([.sc (.string x0.Path), .sc (.int .i64 x0.Size), ow tg1 32 (List.map c_id z0)]) hk4 rfl rfl (cellsOf_ow rfl) (all_ow _ _ _) sz80 rfl rfl fun hk5 => ?_)
 refine Zb (H11 _ _ (Za (s_v (o_mv (ow _ _ _) rfl) (s_v (Zg (.agg ([.sc (.string x0.Path), .sc (.int .i64 x0.Size), ow tg1 32 (List.map c_id z0)])) ld82 rfl (Zd 1 hk5 rfl) rfl) ?_))))
 refine s_fz (t := 25) (.agg (c_Part ({ Path := x0.Path, Size := x0.Size, Ids := z0 } : TPart))) (hp_sub (.cons _ (.refl _)) hk5).1 (ALe.agg (.k2 (.cons (own_frzE _ 0 ot1 hk5 rfl (.refl _)) .nil))) ?_
 refine s_v (o_lit (List.map c_Part ([({ Path := x0.Path, Size := x0.Size, Ids := z0 } : TPart)] : List TPart)) et55 rfl rfl rfl rfl) ?_
 obtain ⟨z1, hz1, hm⟩ := Zc hm
 refine s_op (a_app (c := c_Part) 1 hz1 et55 rfl rfl rfl ot0 ((hp_sub (.cons _ (.refl _)) hk5).2) rfl fun tg2 ot2 hk7 => ?_)
 refine s_v (o_as (ow _ _ _) rfl) (Zb (H5 _ _ (Za (vA rfl (vF rfl rfl rfl (vC rfl (Zb ?_)))))))
 cases hm
 exact ⟨rfl, tg2, ⟨(hp_sub (.cons _ (.refl _)) hk7).2, ot2⟩, LeF.fm ((hp_sub (.cons _ (.refl _)) hk7).1) (.k4 .nil)⟩
 have hm := Zj hm hc0
 refine AW_exit ?_
 refine Seq_exit ?_
 cases hm
 exact ⟨rfl, tg0, ⟨hk0, ot0⟩, LeF.s (.k4 .nil)⟩
 rintro tg3 ⟨r0, r1⟩ fr' h' ⟨hk8, ot3⟩ hm le
 refine H9 _ _ (le.aw ?_)
 refine Zf fun K11 H12 => (Za (s_v (o_mv (ow _ _ _) rfl) (s_v (Zh fd57_1 rfl rfl) ?_)))
 refine s_op (a_store 2 ([.sc (.string p0.Name), ow tg3 3 (List.map c_Part r0)]) hk8 rfl rfl (cellsOf_ow rfl) (all_ow _ _ _) sz55 rfl rfl fun hk9 => ?_)
 refine Zb (H12 _ _ (Zf fun K12 H13 => (Za (s_v (Zg (.agg ([.sc (.string p0.Name), ow tg3 3 (List.map c_Part r0)])) ld57 rfl (Zd 2 hk9 rfl) rfl) ?_))))
 refine s_op (a_store 1 ([.sc (.string p0.Name), ow tg3 3 (List.map c_Part r0)]) hk9 rfl rfl rfl (by repeat (first | exact rfl | refine all_c (ocell_ow _ _ _) ?_ | refine all_c (ocell_aw _ _ _) ?_ | refine all_c rfl ?_)) sz57 rfl rfl fun hk10 => ?_)
 refine Zb (H13 _ _ (AW_ret ?_))
 have hmo := Option.some.inj hm; subst hmo
 exact Ret.of1 (.inl rfl) (rsC (.agg ([.sc (.string p0.Name), ow tg3 3 (List.map c_Part r0)])) ld57 rfl (Zd 1 hk10 rfl) rfl) (hp_sub (List.nil_sublist _) hk10).1 (ALe.agg (.cons (ALe.refl _ _) (.cons ((own_frz0 _ 0 ot3 hk10 rfl)) .nil))) ⟨rfl, rfl⟩
theorem bd52 : bodied Try.prog 52 = true := by kernel_rfl
def M54_L0 (fuel : Nat) (p0 : List TChunk) (q0 : List TChunk) (q1 : Int) : Option (Lp ((List TChunk) × Int) ((List TChunk))) :=
 if (decide (q1 < (p0.length : Int))) = true then ((ix p0 q1).bind fun x0 => (M100 fuel x0.Data).bind fun y0 => (M53 fuel x0.Locs).bind fun y1 => (app q0 ([{ { x0 with Data := y0 } with Locs := y1 }] : List TChunk)).bind fun z0 => some (.go (z0, IntKind.wrap .i64 (q1 + 1)))) else some (.brk (q0, q1))
def M54 (fuel : Nat) (p0 : List TChunk) : Option ((List TChunk)) :=
 after (loopM (fun s => M54_L0 fuel p0 s.1 s.2) fuel ([], 0)) fun ⟨r0, r1⟩ => some r0
set_option maxHeartbeats 4000000 in
set_option maxRecDepth 100000 in
theorem W54 {fuel : Nat} {p0 : List TChunk} {o : (List TChunk)} (h : Heap) (hm : M54 fuel p0 = some o) :
 ACalls Try.prog 54 [.sl none 35 (List.map c_Chunk p0)] h (fun r h' => r = .sl none 35 (List.map c_Chunk o) ∧ h' = h) := by
 refine ACalls_hp 29 [.tmp 2] Try.func54 rfl rfl rfl rfl ?_
 unfold M54 at hm
 refine Zf fun K1 H1 => (Za (s_v (o_as (.sc (.slice _ _ _)) rfl) (Zb (H1 _ _ (Zf fun K2 H2 => (Za (s_v (o_as (.sc (.slice _ _ _)) rfl) (Zb (H2 _ _ (Zf fun K3 H3 => (Zf fun K4 H4 => (Za (vC rfl (Zb (H4 _ _ ?_)))))))))))))))
 refine (LeF.put (t := 3) (v := ow none 35 (List.map c_Chunk [])) (Sub.refl _) (ow_nil _ _)).aw ?_
 refine AW_loopL (n := 29) (h := h) hm (σ := (List TChunk) × Int) (τ := Option Key) (fun g s => [(g, .tok 63 35 ((s.1 : List TChunk).length * 35))]) (fun g s => (g = none → s.1 = [])) (fun g s => kp (kp (kp (k0) 4 (.sc (.int .i64 s.2))) 3 (ow g 35 (List.map c_Chunk s.1))) 0 (.sl none 35 (List.map c_Chunk p0))) none (⟨HOk.none (HOk.nil _), (fun _ => rfl)⟩) (LeF.s (.k3 .nil)) ?_ ?_
 rintro tg0 ⟨q0, q1⟩ x ⟨hk0, ot0⟩ hm
 replace hm : M54_L0 fuel p0 q0 q1 = some x := hm
 unfold M54_L0 at hm
 refine Zf fun K0 H5 => (Zf fun K5 H6 => (Za (vA rfl (vE rfl (s_v (o_lenm ln23 rfl) (vF rfl rfl rfl (Zb (H6 _ _ ?_))))))))
 refine AW_if' rfl (fun hc0 => ?_) (fun hc0 => ?_)
 have hm := Zi hm hc0
 refine Zl (H5 _ _ (Zf fun K6 H7 => (AW_block (Zf fun K7 H8 => (Za (vE rfl (vA rfl ?_)))))))
 obtain ⟨x0, hx0, hm⟩ := Zc hm
 refine s_v (o_ix hx0 el23 rfl rfl) (s_v (o_ld (.agg (c_Chunk x0)) ld63 rfl rfl) ?_)
 refine s_op (a_alloc (c_id idZ ++ ([.sc (.bool false), .sc (.slice none 0 0), .sc (.slice none 0 0)] : List AV)) hk0 zr63 rfl rfl fun k110 hk1 => ?_)
 refine s_op (a_store 0 (c_Chunk x0) hk1 rfl rfl rfl rfl sz63 rfl rfl fun hk2 => ?_)
 refine Zb (H8 _ _ (Zf fun K8 H9 => ?_))
 refine AW_zreg [(7, some k110, .obj 63 (c_Chunk x0))] mixed (⟨fun _ => hp_at 0 hk2 rfl, trivial⟩) ?_
 refine z_w 0 rfl (fun S' h' hi hB => Zh fd63_2 rfl rfl) ?_
 refine z_w 1 rfl (fun S' h' hi hB => Zg (.sl none 1 (List.map c_u8 x0.Data)) ld52 rfl (At.s (InvL.get 0 hi rfl (hB 7 (by kernel_rfl)))) rfl) ?_
 obtain ⟨y0, hy0, hm⟩ := Zc hm
 refine z_w 2 rfl (fun S' h' hi hB => o_call (W100 _ hy0) rfl bd100 rfl) ?_
 refine z_w 3 rfl (fun S' h' hi hB => Zh fd63_3 rfl rfl) ?_
 refine z_w 4 rfl (fun S' h' hi hB => Zg (.sl none 4 (List.map c_Loc x0.Locs)) ld58 rfl (At.s (InvL.get 0 hi rfl (hB 7 (by kernel_rfl)))) rfl) ?_
 obtain ⟨y1, hy1, hm⟩ := Zc hm
 refine z_w 5 rfl (fun S' h' hi hB => o_call (W53 _ hy1) rfl bd53 rfl) ?_
 refine z_w 6 rfl (fun S' h' hi hB => Zh fd63_2 rfl rfl) ?_
 refine z_e 7 rfl (by kernel_rfl) (a_store 0 (c_Chunk { x0 with Data := y0 }) hk2 rfl rfl rfl rfl sz52 rfl rfl fun hk3 => ⟨⟨fun e => absurd e (by decide), trivial⟩, ?_⟩)
 refine z_w 8 rfl (fun S' h' hi hB => Zh fd63_3 rfl rfl) ?_
 refine z_e 9 rfl (by kernel_rfl) (a_store 0 (c_Chunk { { x0 with Data := y0 } with Locs := y1 }) hk3 rfl rfl rfl rfl sz58 rfl rfl fun hk4 => ⟨⟨fun e => absurd e (by decide), trivial⟩, ?_⟩)
 refine z_nil (by kernel_rfl) ?_
 refine H9 _ _ (Za (s_v (o_mv (ow _ _ _) rfl) (s_v (Zg (.agg (c_Chunk { { x0 with Data := y0 } with Locs := y1 })) ld63 rfl (Zd 0 hk4 rfl) rfl) (s_v (o_lit (List.map c_Chunk ([{ { x0 with Data := y0 } with Locs := y1 }] : List TChunk)) et23 rfl rfl rfl rfl) ?_))))
 obtain ⟨z0, hz0, hm⟩ := Zc hm
 refine s_op (a_app (c := c_Chunk) 1 hz0 et23 rfl rfl rfl ot0 hk4 rfl fun tg1 ot1 hk5 => ?_)
 refine s_v (o_as (ow _ _ _) rfl) (Zb (H7 _ _ (Za (vA rfl (vF rfl rfl rfl (vC rfl (Zb ?_)))))))
 cases hm
 exact ⟨rfl, tg1, ⟨(hp_sub (.cons _ (.refl _)) hk5).2, ot1⟩, LeF.fm ((hp_sub (.cons _ (.refl _)) hk5).1) (.k3 .nil)⟩
 have hm := Zj hm hc0
 refine AW_exit ?_
 refine Seq_exit ?_
 cases hm
 exact ⟨rfl, tg0, ⟨hk0, ot0⟩, LeF.s (.k3 .nil)⟩
 rintro tg2 ⟨r0, r1⟩ fr' h' ⟨hk6, ot2⟩ hm le
 refine H3 _ _ (le.aw ?_)
 refine Zf fun K9 H10 => (Za (s_v (o_mv (ow _ _ _) rfl) (s_v (o_as (ow _ _ _) rfl) (Zb (H10 _ _ (AW_ret ?_))))))
 have hmo := Option.some.inj hm; subst hmo
 exact Ret.of1 (.inl rfl) (rsT _ _ (ow _ _ _) rfl) (hp_sub (List.nil_sublist _) hk6).1 ((own_frz0 _ 0 ot2 hk6 rfl)) ⟨rfl, rfl⟩
theorem bd54 : bodied Try.prog 54 = true := by kernel_rfl
def M14_L0 (fuel : Nat) (p0 : TCatalog) (q0 : List TSnap) (q1 : Int) : Option (Lp ((List TSnap) × Int) (TCatalog)) :=
 if (decide (q1 < (p0.Snaps.length : Int))) = true then ((ix p0.Snaps q1).bind fun x0 => (M52 fuel x0.Man).bind fun y0 => (M53 fuel x0.Locs).bind fun y1 => (app q0 ([{ { x0 with Man := y0 } with Locs := y1 }] : List TSnap)).bind fun z0 => some (.go (z0, IntKind.wrap .i64 (q1 + 1)))) else some (.brk (q0, q1))
def M14_L2 (fuel : Nat) (p0 : TCatalog) (q0 : List TExp) (q1 : Int) : Option (Lp ((List TExp) × Int) (TCatalog)) :=
 if (decide (q1 < (p0.Exps.length : Int))) = true then ((ix p0.Exps q1).bind fun x0 => (M53 fuel x0.Locs).bind fun y0 => (app q0 ([{ x0 with Locs := y0 }] : List TExp)).bind fun z0 => some (.go (z0, IntKind.wrap .i64 (q1 + 1)))) else some (.brk (q0, q1))
def M14 (fuel : Nat) (p0 : TCatalog) : Option (TCatalog) :=
 after (loopM (fun s => M14_L0 fuel p0 s.1 s.2) fuel ([], 0)) fun ⟨r0, r1⟩ => after (loopM (fun s => M14_L2 fuel p0 s.1 s.2) fuel ([], 0)) fun ⟨r2, r3⟩ => (M54 fuel p0.Chunks).bind fun y0 => (app ([] : List TVol) p0.Vols).bind fun z0 => some ({ Seq := p0.Seq, Snaps := r0, Chunks := y0, Exps := r2, Vols := z0 } : TCatalog)
theorem bd14 : bodied Try.prog 14 = true := by kernel_rfl
open Go.Vm
theorem any_loop {α ρ : Type} {l : List α} {F : Nat} {body : Int → Option (Lp Int ρ)} (q : α → Bool) (r : ρ) (hF : l.length < F) (hb : ∀ (i : Nat) (x : α), l[i]? = some x → x ∈ l → i < l.length → body (i : Int) = some (if q x then .ret r else .go ((i + 1 : Nat) : Int)))
    (he : body (l.length : Int) = some (.brk (l.length : Int))) : loopM body F 0 = some (if l.any q then .ret r else .brk (l.length : Int)) := by
  rw [loop_ff (s0 := (0 : Int)) (n := l.length) (F := F) (fun i : Nat => (i : Int)) (fun i => (l[i]?).any q) (fun _ => r) hF rfl (fun i hi _ => by
    rw [hb i l[i] (List.getElem?_eq_getElem hi) (List.getElem_mem hi) hi, List.getElem?_eq_getElem hi]; rfl) (fun _ => he), LF_all, range_any]
theorem m53 {F : Nat} {l : List TLoc} (hl : l.length ≤ 1000) : M53 F l = some l := by unfold M53; rw [app_some (by simp; omega)]; simp
theorem m100 {F : Nat} {l : List Int} (hl : l.length ≤ 1000) : M100 F l = some l := by unfold M100; rw [app_some (by simp; omega)]; simp
theorem go_loop {S ρ : Type} {body : S → Option (Lp S ρ)} {n F : Nat} {s0 : S} (emb : Nat → S) (hF : n < F) (h0 : s0 = emb 0) (hb : ∀ i, i < n → body (emb i) = some (.go (emb (i + 1)))) (he : body (emb n) = some (.brk (emb n))) :
    loopM body F s0 = some (.brk (emb n)) := by
  obtain ⟨s', h1, h2⟩ := loop_inv (body := body) (I := fun i s => s = emb i) (n := n) (fun i s hi hs => ⟨_, by rw [hs]; exact hb i hi, rfl⟩) (fun s hs => by rw [hs]; exact he) F 0 s0 (Nat.zero_le _) (by omega) h0
  rw [h2, h1]
theorem twin_loop {α ρ : Type} {l : List α} {F : Nat} {body : List α × Int → Option (Lp (List α × Int) ρ)} (hF : l.length < F)
    (hb : ∀ (i : Nat) (x : α), l[i]? = some x → x ∈ l → i < l.length → body (l.take i, (i : Int)) = some (.go (l.take i ++ [x], ((i + 1 : Nat) : Int)))) (he : body (l, (l.length : Int)) = some (.brk (l, (l.length : Int)))) :
    loopM body F ([], 0) = some (.brk (l, (l.length : Int))) := by
  have := go_loop (body := body) (s0 := (([] : List α), (0 : Int))) (n := l.length) (F := F) (fun i : Nat => (l.take i, (i : Int))) hF rfl (fun i hi => by
    rw [hb i l[i] (List.getElem?_eq_getElem hi) (List.getElem_mem hi) hi]
    simp) (by simpa using he)
  simpa using this
theorem m52 {F : Nat} {m : TManifest} (hF : 1000 ≤ F) (hp : m.Parts.length ≤ 10) (hi : ∀ p ∈ m.Parts, p.Ids.length ≤ 40) : M52 F m = some m := by
 unfold M52
 rw [twin_loop (l := m.Parts) (by omega) (fun i x hx hm hi' => by
  have := hi x hm
  unfold M52_L0
  rw [wr1 (by omega)]
  simp only [ix_nat, hx, Option.bind_some, Int.ofNat_lt, hi', decide_true, if_true]
  rw [app_some (by simp; omega)]
  simp only [Option.bind_some, List.nil_append]
  rw [app_some (by simp; omega)]
  rfl) (by unfold M52_L0; simp)]
 rfl
theorem m54 {F : Nat} {l : List TChunk} (hF : 1000 ≤ F) (hl : l.length ≤ 400) (hx : ∀ x ∈ l, x.Locs.length ≤ 300 ∧ x.Data.length ≤ 300) : M54 F l = some l := by
 unfold M54
 rw [twin_loop (l := l) (by omega) (fun i x hx' hm hi' => by
  have := hx x hm
  unfold M54_L0
  rw [wr1 (by omega)]
  simp only [ix_nat, hx', Option.bind_some, Int.ofNat_lt, hi', decide_true, if_true, m100 (F := F) (show x.Data.length ≤ 1000 by omega), m53 (F := F) (show x.Locs.length ≤ 1000 by omega)]
  rw [app_some (by simp; omega)]
  rfl) (by unfold M54_L0; simp)]
 rfl
theorem m14 {F : Nat} {c : TCatalog} (hF : 1000 ≤ F) (h : Sm c) : M14 F c = some c := by
 have hsn := h.sn
 have hex := h.ex
 have hvo := h.vo
 unfold M14
 rw [twin_loop (l := c.Snaps) (by omega) (fun i x hx hm hi' => by
  have h1 := h.sl x hm
  obtain ⟨-, h2, h3⟩ := h.man x hm
  unfold M14_L0
  rw [wr1 (by omega)]
  simp only [ix_nat, hx, Option.bind_some, Int.ofNat_lt, hi', decide_true, if_true, m52 hF h2 (fun p hp => (h3 p hp).2), m53 (F := F) (show x.Locs.length ≤ 1000 by omega)]
  rw [app_some (by simp; omega)]
  rfl) (by unfold M14_L0; simp)]
 rw [twin_loop (l := c.Exps) (by omega) (fun i x hx hm hi' => by
  have h1 := h.el x hm
  unfold M14_L2
  rw [wr1 (by omega)]
  simp only [ix_nat, hx, Option.bind_some, Int.ofNat_lt, hi', decide_true, if_true, m53 (F := F) (show x.Locs.length ≤ 1000 by omega)]
  rw [app_some (by simp; omega)]
  rfl) (by unfold M14_L2; simp)]
 simp only [after_brk, m54 hF h.ch h.cl, Option.bind_some]
 rw [app_some (by simp; omega)]
 rfl
open Go.Vm
def M16_L2 (fuel : Nat) (p0 : TCatalog) (p1 : Int) (p2 : Int) (p3 : List Int) (p4 : Int) (x0 : Int) (q0 : Int) : Option (Lp (Int) (Lp (Int) (Int × Int))) :=
 if (decide (q0 < (p0.Vols.length : Int))) = true then ((ix p0.Vols q0).bind fun x1 => after (if (x1.Pool == p1) = true then (if (q0 != p4) = true then (if (x1.State == x0) = true then ((ix p3 q0).bind fun x2 => some (.brk (decide (p2 ≤ x2)))) else some (.brk false)) else some (.brk false)) else some (.brk false) : Option (Lp (Bool) (Lp (Int) (Lp (Int) (Int × Int))))) fun j0 => if j0 = true then (some (.ret (.ret (q0, 0)))) else some (.go (IntKind.wrap .i64 (q0 + 1)))) else some (.brk q0)
def M16_L0 (fuel : Nat) (p0 : TCatalog) (p1 : Int) (p2 : Int) (p3 : List Int) (p4 : Int) (q0 : Int) : Option (Lp (Int) (Int × Int)) :=
 if (decide (q0 < (([2, 1] : List Int).length : Int))) = true then ((ix ([2, 1] : List Int) q0).bind fun x0 => after (loopM (fun s => M16_L2 fuel p0 p1 p2 p3 p4 x0 s) fuel 0) fun r0 => some (.go (IntKind.wrap .i64 (q0 + 1)))) else some (.brk q0)
def M16 (fuel : Nat) (p0 : TCatalog) (p1 : Int) (p2 : Int) (p3 : List Int) (p4 : Int) : Option (Int × Int) :=
 after ((M33 fuel p0).bind fun y0 => if (y0 != 0) = true then (some (.brk true)) else some (.brk ((p3.length : Int) != (p0.Vols.length : Int))) : Option (Lp (Bool) (Int × Int))) fun j0 => if j0 = true then (some (0, 1)) else after (loopM (fun s => M16_L0 fuel p0 p1 p2 p3 p4 s) fuel 0) fun r0 => some (0, 12)
set_option maxHeartbeats 4000000 in
set_option maxRecDepth 100000 in
theorem W16 {fuel : Nat} {p0 : TCatalog} {p1 : Int} {p2 : Int} {p3 : List Int} {p4 : Int} {o : Int × Int} (h : Heap) (hm : M16 fuel p0 p1 p2 p3 p4 = some o) :
 ACalls Try.prog 16 [.agg (c_Catalog p0), .sc (.int .i64 p1), .sc (.int .i64 p2), .sl none 1 (List.map c_i64 p3), .sc (.int .i64 p4)] h (fun r h' => r = .tup [.sc (.int .i64 o.1), .sc (.int .i64 o.2)] ∧ h' = h) := by
 refine ACalls_hp 67 [.tmp 10, .tmp 11] Try.func16 rfl rfl rfl rfl ?_
 unfold M16 at hm
 refine Zf fun K1 H1 => (Za ?_)
 refine s_op (a_box (HOk.nil _) rfl rfl fun k2 hk3 => ?_)
 refine vC rfl (vC rfl (Zb (H1 _ _ (Zf fun K5 H5 => (Zf fun K6 H6 => ?_)))))
 refine AW_joinH (n := 67) (h := h) hm (σ := Bool) (τ := Unit) (fun g s => [(some k2, .obj 27 (c_Catalog p0))]) (fun g s => kp (kp (kp (kp (kp (kp (k0) 26 (.sc (.bool s))) 5 (.ptr k2 0)) 4 (.sc (.int .i64 p4))) 3 (.sl none 1 (List.map c_i64 p3))) 2 (.sc (.int .i64 p2))) 1 (.sc (.int .i64 p1))) (fun x hm => ?_) ?_
 refine Za (s_v (Zg (.agg (c_Catalog p0)) ld27 rfl (Zd 0 hk3 rfl) rfl) ?_)
 obtain ⟨y0, hy0, hm⟩ := Zc hm
 refine s_v (o_call (W33 _ hy0) rfl bd33 rfl) (vF rfl rfl rfl (vB rfl ?_))
 rcases Bool.eq_false_or_eq_true (y0 != 0) with hb0 | hb0
 have hm := Zi hm hb0
 refine Zo rfl rfl hb0 (Zo rfl rfl hb0 (Zo rfl rfl hb0 (Zo rfl rfl hb0 (Zo rfl rfl hb0 (Zo rfl rfl hb0 (s_v (Zm (.sc (.bool _)) rfl hb0 rfl) (Zb ?_)))))))
 cases hm
 exact ⟨rfl, (), hk3, LeF.s (.k6 .nil)⟩
 have hm := Zj hm hb0
 refine sg_y rfl rfl hb0 (vE rfl (sg_y rfl rfl hb0 (s_v (o_lenm ln28 rfl) (sg_y rfl rfl hb0 (s_v (Zh fd27_4 rfl rfl) (sg_y rfl rfl hb0 (s_v (Zg (.sl none 4 (List.map c_Vol p0.Vols)) ld25 rfl (Zd 0 hk3 rfl) rfl) (sg_y rfl rfl hb0 (s_v (o_lenm ln25 rfl) (sg_y rfl rfl hb0 (vF rfl rfl rfl (s_v (Zn (.sc (.bool _)) rfl hb0 rfl) (Zb ?_)))))))))))))
 cases hm
 exact ⟨rfl, (), hk3, LeF.s (.k6 .nil)⟩
 rintro _ j0 fr' h' hk0 hm le
 refine H6 _ _ (le.aw ?_)
 refine AW_if' rfl (fun hc0 => ?_) (fun hc0 => ?_)
 have hm := Zi hm hc0
 refine Zf fun K0 H2 => (Za (vC rfl (vC rfl (Zb (H2 _ _ (AW_ret ?_))))))
 have hmo := Option.some.inj hm; subst hmo
 exact Ret.of2 (.inl rfl) (rsT _ _ (.sc (.int _ _)) rfl) (rsT _ _ (.sc (.int _ _)) rfl) (hp_sub (List.nil_sublist _) hk0).1 (ALe.refl _ _) (ALe.refl _ _) ⟨rfl, rfl⟩
 have hm := Zj hm hc0
 refine Zl (H5 _ _ (Zf fun K2 H3 => (Zf fun K3 H4 => (Za (s_v (o_lit (List.map c_i64 ([2, 1] : List Int)) et28 rfl rfl rfl rfl) (s_v (o_lenm ln28 rfl) (vA rfl (Zb (H4 _ _ ?_)))))))))
 refine AW_loopH (n := 67) (h := h) hm (σ := Int) (τ := Unit) (fun g s => [(some k2, .obj 27 (c_Catalog p0))]) (fun g s => kp (kp (kp (kp (kp (kp (kp (kp (k0) 29 (.sc (.int .i64 s))) 28 (.sc (.int .i64 (([2, 1] : List Int).length : Int)))) 27 (.sl none 1 (List.map c_i64 ([2, 1] : List Int)))) 5 (.ptr k2 0)) 4 (.sc (.int .i64 p4))) 3 (.sl none 1 (List.map c_i64 p3))) 2 (.sc (.int .i64 p2))) 1 (.sc (.int .i64 p1))) () hk0 (LeF.s (.k8 .nil)) ?_ ?_
 rintro _ q0 x hk1 hm
 replace hm : M16_L0 fuel p0 p1 p2 p3 p4 q0 = some x := hm
 unfold M16_L0 at hm
 refine Zf fun K4 H7 => (Za (vF rfl rfl rfl (Zb (H7 _ _ (Zf fun K7 H8 => ?_)))))
 refine AW_if' rfl (fun hc1 => ?_) (fun hc1 => ?_)
 have hm := Zi hm hc1
 refine Zl (H8 _ _ (Zf fun K8 H9 => (AW_block (Zf fun K9 H10 => (Za ?_)))))
 obtain ⟨x0, hx0, hm⟩ := Zc hm
 refine s_v (o_ix hx0 el28 rfl rfl) (s_v (o_ld (.sc (.int .i64 x0)) ld3 rfl rfl) (vC rfl (Zb (H10 _ _ (Zf fun K10 H11 => (Za (s_v (Zh fd27_4 rfl rfl) (s_v (Zg (.sl none 4 (List.map c_Vol p0.Vols)) ld25 rfl (Zd 0 hk1 rfl) rfl) (s_v (o_lenm ln25 rfl) (vA rfl (Zb (H11 _ _ ?_))))))))))))
 refine AW_loopH (n := 67) (h := h) hm (σ := Int) (τ := Unit) (fun g s => [(some k2, .obj 27 (c_Catalog p0))]) (fun g s => kp (kp (kp (kp (kp (kp (kp (kp (kp (kp (kp (kp (k0) 36 (.sc (.int .i64 s))) 35 (.sc (.int .i64 (p0.Vols.length : Int)))) 34 (.sl none 4 (List.map c_Vol p0.Vols))) 29 (.sc (.int .i64 q0))) 28 (.sc (.int .i64 (([2, 1] : List Int).length : Int)))) 27 (.sl none 1 (List.map c_i64 ([2, 1] : List Int)))) 13 (.sc (.int .i64 x0))) 5 (.ptr k2 0)) 4 (.sc (.int .i64 p4))) 3 (.sl none 1 (List.map c_i64 p3))) 2 (.sc (.int .i64 p2))) 1 (.sc (.int .i64 p1))) () hk1 (LeF.s (.k12 .nil)) ?_ ?_
 rintro _ q1 x hk2 hm
 replace hm : M16_L2 fuel p0 p1 p2 p3 p4 x0 q1 = some x := hm
 unfold M16_L2 at hm
 refine Zf fun K11 H12 => (Za (vF rfl rfl rfl (Zb (H12 _ _ (Zf fun K12 H13 => ?_)))))
 refine AW_if' rfl (fun hc2 => ?_) (fun hc2 => ?_)
 have hm := Zi hm hc2
 refine Zl (H13 _ _ (Zf fun K13 H14 => (AW_block (Zf fun K14 H15 => (Za (vA rfl ?_))))))
 obtain ⟨x1, hx1, hm⟩ := Zc hm
 refine s_v (o_ix hx1 el25 rfl rfl) (s_v (o_ld (.agg (c_Vol x1)) ld40 rfl rfl) ?_)
 refine s_op (a_alloc ([.sc (.int .i64 0), .sc (.int .i64 0), .sc (.int .i64 0), .sc (.int .i64 0)]) hk2 zr40 rfl rfl fun k274 hk4 => ?_)
 refine vC rfl ?_
 refine s_op (a_store 0 (c_Vol x1) hk4 rfl rfl rfl rfl sz40 rfl rfl fun hk5 => ?_)
 refine Zb (H15 _ _ (Zf fun K15 H19 => ?_))
 refine AW_joinH (n := 67) (h := h) hm (σ := Bool) (τ := Unit) (fun g s => [(some k274, .obj 40 (c_Vol x1)), (some k2, .obj 27 (c_Catalog p0))]) (fun g s => kp (kp (kp (kp (kp (kp (kp (kp (kp (kp (kp (kp (kp (kp (k0) 63 (.sc (.bool s))) 36 (.sc (.int .i64 q1))) 35 (.sc (.int .i64 (p0.Vols.length : Int)))) 34 (.sl none 4 (List.map c_Vol p0.Vols))) 29 (.sc (.int .i64 q0))) 28 (.sc (.int .i64 (([2, 1] : List Int).length : Int)))) 27 (.sl none 1 (List.map c_i64 ([2, 1] : List Int)))) 14 (.sc (.int .i64 q1))) 13 (.sc (.int .i64 x0))) 5 (.ptr k2 0)) 4 (.sc (.int .i64 p4))) 3 (.sl none 1 (List.map c_i64 p3))) 2 (.sc (.int .i64 p2))) 1 (.sc (.int .i64 p1))) (fun x hm => ?_) ?_
 refine Za (s_v (Zh fd40_0 rfl rfl) (s_v (Zg (.sc (.int .i64 x1.Pool)) ld3 rfl (Zd 0 hk5 rfl) rfl) (vA rfl (vF rfl rfl rfl (vB rfl ?_)))))
 rcases Bool.eq_false_or_eq_true (x1.Pool == p1) with hb1 | hb1
 have hm := Zi hm hb1
 refine sg_y rfl rfl hb1 (vA rfl (sg_y rfl rfl hb1 (vA rfl (sg_y rfl rfl hb1 (vF rfl rfl rfl (s_v (Zm (.sc (.bool _)) rfl hb1 rfl) (vB rfl ?_)))))))
 rcases Bool.eq_false_or_eq_true (q1 != p4) with hb2 | hb2
 have hm := Zi hm hb2
 refine sg_y rfl rfl hb2 (s_v (Zh fd40_2 rfl rfl) (sg_y rfl rfl hb2 (s_v (Zg (.sc (.int .i64 x1.State)) ld3 rfl (Zd 0 hk5 rfl) rfl) (sg_y rfl rfl hb2 (vA rfl (sg_y rfl rfl hb2 (vF rfl rfl rfl (s_v (Zm (.sc (.bool _)) rfl hb2 rfl) (vB rfl ?_)))))))))
 rcases Bool.eq_false_or_eq_true (x1.State == x0) with hb3 | hb3
 have hm := Zi hm hb3
 refine sg_y rfl rfl hb3 (vE rfl (sg_y rfl rfl hb3 (vA rfl (sg_y rfl rfl hb3 ?_))))
 obtain ⟨x2, hx2, hm⟩ := Zc hm
 refine s_v (o_ix hx2 el28 rfl rfl) (sg_y rfl rfl hb3 (s_v (o_ld (.sc (.int .i64 x2)) ld3 rfl rfl) (sg_y rfl rfl hb3 (vA rfl (sg_y rfl rfl hb3 (vF rfl rfl rfl (s_v (Zm (.sc (.bool _)) rfl hb3 rfl) (Zb ?_))))))))
 cases hm
 exact ⟨rfl, (), hk5, LeF.s (.k12 (.k2 .nil))⟩
 have hm := Zj hm hb3
 refine Zo rfl rfl hb3 (Zo rfl rfl hb3 (Zo rfl rfl hb3 (Zo rfl rfl hb3 (Zo rfl rfl hb3 (Zo rfl rfl hb3 (s_v (Zn (.sc (.bool _)) rfl hb3 rfl) (Zb ?_)))))))
 cases hm
 exact ⟨rfl, (), hk5, LeF.s (.k12 (.k2 .nil))⟩
 have hm := Zj hm hb2
 refine Zo rfl rfl hb2 (Zo rfl rfl hb2 (Zo rfl rfl hb2 (Zo rfl rfl hb2 (s_v (Zn (.sc (.bool _)) rfl hb2 rfl) (vB rfl (Zo rfl rfl rfl (Zo rfl rfl rfl (Zo rfl rfl rfl (Zo rfl rfl rfl (Zo rfl rfl rfl (Zo rfl rfl rfl (s_v (Zn (.sc (.bool _)) rfl rfl rfl) (Zb ?_)))))))))))))
 cases hm
 exact ⟨rfl, (), hk5, LeF.s (.k12 (.k2 .nil))⟩
 have hm := Zj hm hb1
 refine Zo rfl rfl hb1 (Zo rfl rfl hb1 (Zo rfl rfl hb1 (s_v (Zn (.sc (.bool _)) rfl hb1 rfl) (vB rfl (Zo rfl rfl rfl (Zo rfl rfl rfl (Zo rfl rfl rfl (Zo rfl rfl rfl (s_v (Zn (.sc (.bool _)) rfl rfl rfl) (vB rfl (Zo rfl rfl rfl (Zo rfl rfl rfl (Zo rfl rfl rfl (Zo rfl rfl rfl (Zo rfl rfl rfl ?_)))))))))))))))
 refine Zo rfl rfl rfl (s_v (Zn (.sc (.bool _)) rfl rfl rfl) (Zb ?_))
 cases hm
 exact ⟨rfl, (), hk5, LeF.s (.k12 (.k2 .nil))⟩
 rintro _ j1 fr' h' hk6 hm le
 refine H19 _ _ (le.aw ?_)
 refine AW_if' rfl (fun hc3 => ?_) (fun hc3 => ?_)
 have hm := Zi hm hc3
 refine Zf fun K19 H20 => (Za (vA rfl (vC rfl (vC rfl (Zb (H20 _ _ (AW_ret ?_)))))))
 cases hm
 refine ⟨⟨nofun, nofun⟩, fun he => ?_⟩
 subst he
 refine ⟨⟨nofun, nofun⟩, fun he => ?_⟩
 subst he
 exact Ret.of2 (.inl rfl) (rsT _ _ (.sc (.int _ _)) rfl) (rsT _ _ (.sc (.int _ _)) rfl) (hp_sub (List.nil_sublist _) hk6).1 (ALe.refl _ _) (ALe.refl _ _) ⟨rfl, rfl⟩
 have hm := Zj hm hc3
 refine Zl (H14 _ _ (Za (vF rfl rfl rfl (vA rfl (Zb ?_)))))
 cases hm
 exact ⟨rfl, (), (hp_sub (.cons _ (.refl _)) hk6).2, LeF.fm ((hp_sub (.cons _ (.refl _)) hk6).1) (.k12 .nil)⟩
 have hm := Zj hm hc2
 refine AW_exit ?_
 refine Seq_exit ?_
 cases hm
 exact ⟨rfl, (), hk2, LeF.s (.k12 .nil)⟩
 rintro _ r0 fr' h' hk7 hm le
 refine H9 _ _ (le.aw ?_)
 refine Za (vF rfl rfl rfl (vA rfl (Zb ?_)))
 cases hm
 exact ⟨rfl, (), hk7, LeF.s (.k8 .nil)⟩
 have hm := Zj hm hc1
 refine AW_exit ?_
 refine Seq_exit ?_
 cases hm
 exact ⟨rfl, (), hk1, LeF.s (.k8 .nil)⟩
 rintro _ r1 fr' h' hk8 hm le
 refine H3 _ _ (le.aw ?_)
 refine Zf fun K20 H21 => (Za (vC rfl (vC rfl (Zb (H21 _ _ (AW_ret ?_))))))
 have hmo := Option.some.inj hm; subst hmo
 exact Ret.of2 (.inl rfl) (rsT _ _ (.sc (.int _ _)) rfl) (rsT _ _ (.sc (.int _ _)) rfl) (hp_sub (List.nil_sublist _) hk8).1 (ALe.refl _ _) (ALe.refl _ _) ⟨rfl, rfl⟩
theorem bd16 : bodied Try.prog 16 = true := by kernel_rfl
def M37 (fuel : Nat) (p0 : TCatalog) (p1 : Int) : Option ((List TItem)) :=
 (M33 fuel p0).bind fun y0 => if (y0 != 0) = true then (some []) else (M78 fuel p0 (fun x0 x1 => M80 fuel x0 x1 p1)).bind fun y1 => some y1
set_option maxHeartbeats 4000000 in
set_option maxRecDepth 100000 in
theorem W37 {fuel : Nat} {p0 : TCatalog} {p1 : Int} {o : (List TItem)} (h : Heap) (hm : M37 fuel p0 p1 = some o) :
 ACalls Try.prog 37 [.agg (c_Catalog p0), .sc (.int .i64 p1)] h (fun r h' => r = .sl none 37 (List.map c_Item o) ∧ h' = h) := by
 refine ACalls_hp 11 [.tmp 4] Try.func37 rfl rfl rfl rfl ?_
 unfold M37 at hm
 refine Zf fun K1 H1 => (Za ?_)
 refine s_op (a_box (HOk.nil _) rfl rfl fun k2 hk3 => ?_)
 refine s_op (a_box hk3 rfl rfl fun k5 hk6 => ?_)
 refine s_v (o_as (.sc (.slice _ _ _)) rfl) (Zb (H1 _ _ (Zf fun K8 H8 => (Zf fun K9 H9 => (Za (s_v (Zg (.agg (c_Catalog p0)) ld27 rfl (Zd 1 hk6 rfl) rfl) ?_))))))
 obtain ⟨y0, hy0, hm⟩ := Zc hm
 refine s_v (o_call (W33 _ hy0) rfl bd33 rfl) (vF rfl rfl rfl (Zb (H9 _ _ ?_)))
 refine AW_if' rfl (fun hc0 => ?_) (fun hc0 => ?_)
 have hm := Zi hm hc0
 refine Zf fun K0 H2 => (Za (s_v (o_as (.sc (.slice _ _ _)) rfl) (Zb (H2 _ _ (AW_ret ?_)))))
 have hmo := Option.some.inj hm; subst hmo
 exact Ret.of1 (.inl rfl) (rsT _ _ (.sc (.slice _ _ _)) rfl) (hp_sub (List.nil_sublist _) hk6).1 (nil_lem _) ⟨rfl, rfl⟩
 have hm := Zj hm hc0
 refine Zl (H8 _ _ (Zf fun K2 H3 => (Za (s_v (Zg (.agg (c_Catalog p0)) ld27 rfl (Zd 1 hk6 rfl) rfl) (s_v (o_mf rfl) ?_)))))
 obtain ⟨y1, hy1, hm⟩ := Zc hm
 refine s_v (o_call (W78 _ bd80 (fun x0 x1 o h0 hs ho => W80 _ (hs _ _ (Zd 0 hk6 rfl)) ho) hy1) rfl bd78 rfl) (s_v (o_as (.sl _ _ _) rfl) (Zb (H3 _ _ (AW_ret ?_))))
 have hmo := Option.some.inj hm; subst hmo
 exact Ret.of1 (.inl rfl) (rsT _ _ (.sl _ _ _) rfl) (hp_sub (List.nil_sublist _) hk6).1 (ALe.refl _ _) ⟨rfl, rfl⟩
theorem bd37 : bodied Try.prog 37 = true := by kernel_rfl
def M20_L0 (fuel : Nat) (p0 : TCatalog) (y8 : (List TItem)) (q0 : Int) (q1 : Int) : Option (Lp (Int × Int) (Int)) :=
 if (decide (q1 < (y8.length : Int))) = true then ((ix y8 q1).bind fun x0 => after (if (x0.Kind != 1) = true then (some (.brk true)) else (M44 fuel p0 x0.Id).bind fun y0 => some (.brk y0) : Option (Lp (Bool) (Lp (Int × Int) (Int)))) fun j0 => after (if j0 = true then (some (.brk (IntKind.wrap .i64 (q0 + 1)))) else some (.brk q0) : Option (Lp (Int) (Lp (Int × Int) (Int)))) fun j1 => some (.go (j1, IntKind.wrap .i64 (q1 + 1)))) else some (.brk (q0, q1))
def M20 (fuel : Nat) (p0 : TCatalog) (p1 : Int) : Option (Int) :=
 (M37 fuel p0 p1).bind fun y8 => after (loopM (fun s => M20_L0 fuel p0 y8 s.1 s.2) fuel (0, 0)) fun ⟨r0, r1⟩ => some r0
set_option maxHeartbeats 4000000 in
set_option maxRecDepth 100000 in
theorem W20 {fuel : Nat} {p0 : TCatalog} {p1 : Int} {o : Int} (h : Heap) (hm : M20 fuel p0 p1 = some o) :
 ACalls Try.prog 20 [.agg (c_Catalog p0), .sc (.int .i64 p1)] h (fun r h' => r = .sc (.int .i64 o) ∧ h' = h) := by
 refine ACalls_hp 29 [.tmp 4] Try.func20 rfl rfl rfl rfl ?_
 unfold M20 at hm
 refine Zf fun K1 H1 => (Za ?_)
 refine s_op (a_box (HOk.nil _) rfl rfl fun k2 hk3 => ?_)
 refine vC rfl (Zb (H1 _ _ (Zf fun K5 H5 => (Za (vC rfl (Zb (H5 _ _ (Zf fun K6 H6 => (Zf fun K7 H7 => (Za (s_v (Zg (.agg (c_Catalog p0)) ld27 rfl (Zd 0 hk3 rfl) rfl) (vA rfl ?_))))))))))))
 obtain ⟨y8, hy9, hm⟩ := Zc hm
 refine s_v (o_call (W37 _ hy9) rfl bd37 rfl) (s_v (o_lenm ln70 rfl) (vA rfl (Zb (H7 _ _ ?_))))
 refine AW_loopH (n := 29) (h := h) hm (σ := Int × Int) (τ := Unit) (fun g s => [(some k2, .obj 27 (c_Catalog p0))]) (fun g s => kp (kp (kp (kp (kp (k0) 12 (.sc (.int .i64 s.2))) 11 (.sc (.int .i64 (y8.length : Int)))) 10 (.sl none 37 (List.map c_Item y8))) 5 (.sc (.int .i64 s.1))) 2 (.ptr k2 0)) () hk3 (LeF.s (.k5 .nil)) ?_ ?_
 rintro _ ⟨q0, q1⟩ x hk0 hm
 replace hm : M20_L0 fuel p0 y8 q0 q1 = some x := hm
 unfold M20_L0 at hm
 refine Zf fun K0 H2 => (Za (vF rfl rfl rfl (Zb (H2 _ _ (Zf fun K2 H3 => ?_)))))
 refine AW_if' rfl (fun hc0 => ?_) (fun hc0 => ?_)
 have hm := Zi hm hc0
 refine Zl (H3 _ _ (Zf fun K3 H4 => (AW_block (Zf fun K4 H8 => (Za ?_)))))
 obtain ⟨x0, hx0, hm⟩ := Zc hm
 refine s_v (o_ix hx0 el70 rfl rfl) (s_v (o_ld (.agg (c_Item x0)) ld99 rfl rfl) ?_)
 refine s_op (a_alloc (([.sc (.int .i64 0)] : List AV) ++ c_id idZ ++ ([.sc (.int .i64 0), .sc (.int .i64 0), .sc (.int .i64 0), .sc (.int .i64 0)] : List AV)) hk0 zr99 rfl rfl fun k70 hk1 => ?_)
 refine s_op (a_store 0 (c_Item x0) hk1 rfl rfl rfl rfl sz99 rfl rfl fun hk2 => ?_)
 refine Zb (H8 _ _ (Zf fun K8 H9 => ?_))
 refine AW_joinH (n := 29) (h := h) hm (σ := Bool) (τ := Unit) (fun g s => [(some k70, .obj 99 (c_Item x0)), (some k2, .obj 27 (c_Catalog p0))]) (fun g s => kp (kp (kp (kp (kp (kp (k0) 24 (.sc (.bool s))) 12 (.sc (.int .i64 q1))) 11 (.sc (.int .i64 (y8.length : Int)))) 10 (.sl none 37 (List.map c_Item y8))) 5 (.sc (.int .i64 q0))) 2 (.ptr k2 0)) (fun x hm => ?_) ?_
 refine Za (s_v (Zh fd99_0 rfl rfl) (s_v (Zg (.sc (.int .i64 x0.Kind)) ld3 rfl (Zd 0 hk2 rfl) rfl) (vF rfl rfl rfl (vB rfl ?_))))
 rcases Bool.eq_false_or_eq_true (x0.Kind != 1) with hb0 | hb0
 have hm := Zi hm hb0
 refine Zo rfl rfl hb0 (Zo rfl rfl hb0 (Zo rfl rfl hb0 (Zo rfl rfl hb0 (s_v (Zm (.sc (.bool _)) rfl hb0 rfl) (Zb ?_)))))
 cases hm
 exact ⟨rfl, (), hk2, LeF.s (.k6 .nil)⟩
 have hm := Zj hm hb0
 refine sg_y rfl rfl hb0 (s_v (Zg (.agg (c_Catalog p0)) ld27 rfl (Zd 1 hk2 rfl) rfl) (sg_y rfl rfl hb0 (s_v (Zh fd99_1 rfl rfl) (sg_y rfl rfl hb0 (s_v (Zg (.agg (c_id x0.Id)) ld61 rfl (Zd 0 hk2 rfl) rfl) (sg_y rfl rfl hb0 ?_))))))
 obtain ⟨y0, hy0, hm⟩ := Zc hm
 refine s_v (o_call (W44 _ hy0) rfl bd44 rfl) (s_v (Zn (.sc (.bool _)) rfl hb0 rfl) (Zb ?_))
 cases hm
 exact ⟨rfl, (), hk2, LeF.s (.k6 .nil)⟩
 rintro _ j0 fr' h' hk4 hm le
 refine H9 _ _ (le.aw ?_)
 refine AW_joinH (n := 29) (h := h) hm (σ := Int) (τ := Unit) (fun g s => [(some k70, .obj 99 (c_Item x0)), (some k2, .obj 27 (c_Catalog p0))]) (fun g s => kp (kp (kp (kp (kp (k0) 12 (.sc (.int .i64 q1))) 11 (.sc (.int .i64 (y8.length : Int)))) 10 (.sl none 37 (List.map c_Item y8))) 5 (.sc (.int .i64 s))) 2 (.ptr k2 0)) (fun x hm => ?_) ?_
 refine AW_if' rfl (fun hc1 => ?_) (fun hc1 => ?_)
 have hm := Zi hm hc1
 refine Za (vA rfl (vF rfl rfl rfl (vC rfl (Zb ?_))))
 cases hm
 exact ⟨rfl, (), hk4, LeF.s (.k5 .nil)⟩
 have hm := Zj hm hc1
 refine Zl ?_
 cases hm
 exact ⟨rfl, (), hk4, LeF.s (.k5 .nil)⟩
 rintro _ j1 fr' h' hk5 hm le
 refine H4 _ _ (le.aw ?_)
 refine Za (vF rfl rfl rfl (vA rfl (Zb ?_)))
 cases hm
 exact ⟨rfl, (), (hp_sub (.cons _ (.refl _)) hk5).2, LeF.fm ((hp_sub (.cons _ (.refl _)) hk5).1) (.k5 .nil)⟩
 have hm := Zj hm hc0
 refine AW_exit ?_
 refine Seq_exit ?_
 cases hm
 exact ⟨rfl, (), hk0, LeF.s (.k5 .nil)⟩
 rintro _ ⟨r0, r1⟩ fr' h' hk6 hm le
 refine H6 _ _ (le.aw ?_)
 refine Zf fun K9 H90 => (Za (vA rfl (vC rfl (Zb (H90 _ _ (AW_ret ?_))))))
 have hmo := Option.some.inj hm; subst hmo
 exact Ret.of1 (.inl rfl) (rsT _ _ (.sc (.int _ _)) rfl) (hp_sub (List.nil_sublist _) hk6).1 (ALe.refl _ _) ⟨rfl, rfl⟩
theorem bd20 : bodied Try.prog 20 = true := by kernel_rfl
def M21_L0 (fuel : Nat) (p0 : TCatalog) (p1 : Int) (q0 : Int) (q1 : Int) (q2 : Int) : Option (Lp (Int × Int × Int) (Int)) :=
 if (decide (q2 < (p0.Vols.length : Int))) = true then (after ((ix p0.Vols q2).bind fun x0 => after (if (x0.Pool != p1) = true then (some (.brk true)) else some (.brk (x0.State != 2)) : Option (Lp (Bool) (Lp (Int × Int) (Lp (Int × Int × Int) (Int))))) fun j0 => if j0 = true then (some (.brk (q0, q1))) else (M20 fuel p0 q2).bind fun y0 => after (if (decide (q0 < 0)) = true then (some (.brk true)) else some (.brk (decide (y0 < q1))) : Option (Lp (Bool) (Lp (Int × Int) (Lp (Int × Int × Int) (Int))))) fun j1 => after (if j1 = true then (some (.brk (q2, y0))) else some (.brk (q0, q1)) : Option (Lp (Int × Int) (Lp (Int × Int) (Lp (Int × Int × Int) (Int))))) fun ⟨j2, j3⟩ => some (.brk (j2, j3)) : Option (Lp (Int × Int) (Lp (Int × Int × Int) (Int)))) fun ⟨j4, j5⟩ => some (.go (j4, j5, IntKind.wrap .i64 (q2 + 1)))) else some (.brk (q0, q1, q2))
def M21 (fuel : Nat) (p0 : TCatalog) (p1 : Int) : Option (Int) :=
 (M33 fuel p0).bind fun y7 => if (y7 != 0) = true then (some (-1)) else after (loopM (fun s => M21_L0 fuel p0 p1 s.1 s.2.1 s.2.2) fuel ((-1), 0, 0)) fun ⟨r0, r1, r2⟩ => some r0
set_option maxHeartbeats 4000000 in
set_option maxRecDepth 100000 in
theorem W21 {fuel : Nat} {p0 : TCatalog} {p1 : Int} {o : Int} (h : Heap) (hm : M21 fuel p0 p1 = some o) :
 ACalls Try.prog 21 [.agg (c_Catalog p0), .sc (.int .i64 p1)] h (fun r h' => r = .sc (.int .i64 o) ∧ h' = h) := by
 refine ACalls_hp 44 [.tmp 4] Try.func21 rfl rfl rfl rfl ?_
 unfold M21 at hm
 refine Zf fun K1 H1 => (Za ?_)
 refine s_op (a_box (HOk.nil _) rfl rfl fun k2 hk3 => ?_)
 refine vC rfl (Zb (H1 _ _ (Zf fun K5 H5 => (Zf fun K6 H6 => (Za (s_v (Zg (.agg (c_Catalog p0)) ld27 rfl (Zd 0 hk3 rfl) rfl) ?_))))))
 obtain ⟨y7, hy8, hm⟩ := Zc hm
 refine s_v (o_call (W33 _ hy8) rfl bd33 rfl) (vF rfl rfl rfl (Zb (H6 _ _ ?_)))
 refine AW_if' rfl (fun hc9 => ?_) (fun hc9 => ?_)
 have hm := Zi hm hc9
 refine Zf fun K0 H2 => (Za (vC rfl (Zb (H2 _ _ (AW_ret ?_)))))
 have hmo := Option.some.inj hm; subst hmo
 exact Ret.of1 (.inl rfl) (rsT _ _ (.sc (.int _ _)) rfl) (hp_sub (List.nil_sublist _) hk3).1 (ALe.refl _ _) ⟨rfl, rfl⟩
 have hm := Zj hm hc9
 refine Zl (H5 _ _ (Zf fun K2 H3 => (Za (vC rfl (vC rfl (Zb (H3 _ _ (Zf fun K3 H4 => (Zf fun K4 H7 => (Za (s_v (Zh fd27_4 rfl rfl) (s_v (Zg (.sl none 4 (List.map c_Vol p0.Vols)) ld25 rfl (Zd 0 hk3 rfl) rfl) (s_v (o_lenm ln25 rfl) (vA rfl (Zb ?_)))))))))))))))
 refine H7 _ _ ?_
 refine AW_loopH (n := 44) (h := h) hm (σ := Int × Int × Int) (τ := Unit) (fun g s => [(some k2, .obj 27 (c_Catalog p0))]) (fun g s => kp (kp (kp (kp (kp (kp (kp (k0) 16 (.sc (.int .i64 s.2.2))) 15 (.sc (.int .i64 (p0.Vols.length : Int)))) 14 (.sl none 4 (List.map c_Vol p0.Vols))) 6 (.sc (.int .i64 s.2.1))) 5 (.sc (.int .i64 s.1))) 2 (.ptr k2 0)) 1 (.sc (.int .i64 p1))) () hk3 (LeF.s (.k7 .nil)) ?_ ?_
 rintro _ ⟨q0, q1, q2⟩ x hk0 hm
 replace hm : M21_L0 fuel p0 p1 q0 q1 q2 = some x := hm
 unfold M21_L0 at hm
 refine Zf fun K7 H8 => (Za (vF rfl rfl rfl (Zb (H8 _ _ (Zf fun K8 H9 => ?_)))))
 refine AW_if' rfl (fun hc0 => ?_) (fun hc0 => ?_)
 have hm := Zi hm hc0
 refine Zl (H9 _ _ (Zf fun K9 H14 => ?_))
 refine AW_joinH (n := 44) (h := h) hm (σ := Int × Int) (τ := Unit) (fun g s => [(some k2, .obj 27 (c_Catalog p0))]) (fun g s => kp (kp (kp (kp (kp (kp (kp (k0) 16 (.sc (.int .i64 q2))) 15 (.sc (.int .i64 (p0.Vols.length : Int)))) 14 (.sl none 4 (List.map c_Vol p0.Vols))) 6 (.sc (.int .i64 s.2))) 5 (.sc (.int .i64 s.1))) 2 (.ptr k2 0)) 1 (.sc (.int .i64 p1))) (fun x hm => ?_) ?_
 refine AW_block (Zf fun K14 H15 => (Za (vA rfl ?_)))
 obtain ⟨x0, hx0, hm⟩ := Zc hm
 refine s_v (o_ix hx0 el25 rfl rfl) (s_v (o_ld (.agg (c_Vol x0)) ld40 rfl rfl) ?_)
 refine s_op (a_alloc ([.sc (.int .i64 0), .sc (.int .i64 0), .sc (.int .i64 0), .sc (.int .i64 0)]) hk0 zr40 rfl rfl fun k179 hk1 => ?_)
 refine vC rfl ?_
 refine s_op (a_store 0 (c_Vol x0) hk1 rfl rfl rfl rfl sz40 rfl rfl fun hk2 => ?_)
 refine Zb (H15 _ _ (Zf fun K15 H16 => (Zf fun K16 H17 => ?_)))
 refine AW_joinH (n := 44) (h := h) hm (σ := Bool) (τ := Unit) (fun g s => [(some k179, .obj 40 (c_Vol x0)), (some k2, .obj 27 (c_Catalog p0))]) (fun g s => kp (kp (kp (kp (kp (kp (kp (kp (kp (k0) 29 (.sc (.bool s))) 16 (.sc (.int .i64 q2))) 15 (.sc (.int .i64 (p0.Vols.length : Int)))) 14 (.sl none 4 (List.map c_Vol p0.Vols))) 7 (.sc (.int .i64 q2))) 6 (.sc (.int .i64 q1))) 5 (.sc (.int .i64 q0))) 2 (.ptr k2 0)) 1 (.sc (.int .i64 p1))) (fun x hm => ?_) ?_
 refine Za (s_v (Zh fd40_0 rfl rfl) (s_v (Zg (.sc (.int .i64 x0.Pool)) ld3 rfl (Zd 0 hk2 rfl) rfl) (vA rfl (vF rfl rfl rfl (vB rfl ?_)))))
 rcases Bool.eq_false_or_eq_true (x0.Pool != p1) with hb0 | hb0
 have hm := Zi hm hb0
 refine Zo rfl rfl hb0 (Zo rfl rfl hb0 (Zo rfl rfl hb0 (s_v (Zm (.sc (.bool _)) rfl hb0 rfl) (Zb ?_))))
 cases hm
 exact ⟨rfl, (), hk2, LeF.s (.k9 .nil)⟩
 have hm := Zj hm hb0
 refine sg_y rfl rfl hb0 (s_v (Zh fd40_2 rfl rfl) (sg_y rfl rfl hb0 (s_v (Zg (.sc (.int .i64 x0.State)) ld3 rfl (Zd 0 hk2 rfl) rfl) (sg_y rfl rfl hb0 (vF rfl rfl rfl (s_v (Zn (.sc (.bool _)) rfl hb0 rfl) (Zb ?_)))))))
 cases hm
 exact ⟨rfl, (), hk2, LeF.s (.k9 .nil)⟩
 rintro _ j0 fr' h' hk4 hm le
 refine H17 _ _ (le.aw ?_)
 refine AW_if' rfl (fun hc1 => ?_) (fun hc1 => ?_)
 have hm := Zi hm hc1
 refine AW_exit ?_
 refine Seq_exit ?_
 refine Blk_exit ?_
 cases hm
 exact ⟨rfl, (), (hp_sub (.cons _ (.refl _)) hk4).2, LeF.fm ((hp_sub (.cons _ (.refl _)) hk4).1) (.k7 .nil)⟩
 have hm := Zj hm hc1
 refine Zl (H16 _ _ (Zf fun K17 H18 => (Za (s_v (Zg (.agg (c_Catalog p0)) ld27 rfl (Zd 1 hk4 rfl) rfl) (vA rfl ?_)))))
 obtain ⟨y0, hy0, hm⟩ := Zc hm
 refine s_v (o_call (W20 _ hy0) rfl bd20 rfl) (vC rfl (Zb (H18 _ _ (Zf fun K18 H19 => ?_))))
 refine AW_joinH (n := 44) (h := h) hm (σ := Bool) (τ := Unit) (fun g s => [(some k179, .obj 40 (c_Vol x0)), (some k2, .obj 27 (c_Catalog p0))]) (fun g s => kp (kp (kp (kp (kp (kp (kp (kp (kp (kp (k0) 39 (.sc (.bool s))) 16 (.sc (.int .i64 q2))) 15 (.sc (.int .i64 (p0.Vols.length : Int)))) 14 (.sl none 4 (List.map c_Vol p0.Vols))) 9 (.sc (.int .i64 y0))) 7 (.sc (.int .i64 q2))) 6 (.sc (.int .i64 q1))) 5 (.sc (.int .i64 q0))) 2 (.ptr k2 0)) 1 (.sc (.int .i64 p1))) (fun x hm => ?_) ?_
 refine Za (vA rfl (vF rfl rfl rfl (vB rfl ?_)))
 rcases Bool.eq_false_or_eq_true (decide (q0 < 0)) with hb1 | hb1
 have hm := Zi hm hb1
 refine Zo rfl rfl hb1 (Zo rfl rfl hb1 (Zo rfl rfl hb1 (s_v (Zm (.sc (.bool _)) rfl hb1 rfl) (Zb ?_))))
 cases hm
 exact ⟨rfl, (), hk4, LeF.s (.k10 .nil)⟩
 have hm := Zj hm hb1
 refine sg_y rfl rfl hb1 (vA rfl (sg_y rfl rfl hb1 (vA rfl (sg_y rfl rfl hb1 (vF rfl rfl rfl (s_v (Zn (.sc (.bool _)) rfl hb1 rfl) (Zb ?_)))))))
 cases hm
 exact ⟨rfl, (), hk4, LeF.s (.k10 .nil)⟩
 rintro _ j1 fr' h' hk5 hm le
 refine H19 _ _ (le.aw ?_)
 refine AW_joinH (n := 44) (h := h) hm (σ := Int × Int) (τ := Unit) (fun g s => [(some k179, .obj 40 (c_Vol x0)), (some k2, .obj 27 (c_Catalog p0))]) (fun g s => kp (kp (kp (kp (kp (kp (kp (k0) 16 (.sc (.int .i64 q2))) 15 (.sc (.int .i64 (p0.Vols.length : Int)))) 14 (.sl none 4 (List.map c_Vol p0.Vols))) 6 (.sc (.int .i64 s.2))) 5 (.sc (.int .i64 s.1))) 2 (.ptr k2 0)) 1 (.sc (.int .i64 p1))) (fun x hm => ?_) ?_
 refine AW_if' rfl (fun hc2 => ?_) (fun hc2 => ?_)
 have hm := Zi hm hc2
 refine Za (vA rfl (vA rfl (vC rfl (vC rfl (Zb ?_)))))
 cases hm
 exact ⟨rfl, (), hk5, LeF.s (.k7 .nil)⟩
 have hm := Zj hm hc2
 refine Zl ?_
 cases hm
 exact ⟨rfl, (), hk5, LeF.s (.k7 .nil)⟩
 rintro _ ⟨j2, j3⟩ fr' h' hk6 hm le
 cases hm
 exact ⟨rfl, (), (hp_sub (.cons _ (.refl _)) hk6).2, LeF.trans le (LeF.fm ((hp_sub (.cons _ (.refl _)) hk6).1) (.k7 .nil))⟩
 rintro _ ⟨j4, j5⟩ fr' h' hk7 hm le
 refine H14 _ _ (le.aw ?_)
 refine Za (vF rfl rfl rfl (vA rfl (Zb ?_)))
 cases hm
 exact ⟨rfl, (), hk7, LeF.s (.k7 .nil)⟩
 have hm := Zj hm hc0
 refine AW_exit ?_
 refine Seq_exit ?_
 cases hm
 exact ⟨rfl, (), hk0, LeF.s (.k7 .nil)⟩
 rintro _ ⟨r0, r1, r2⟩ fr' h' hk8 hm le
 refine H4 _ _ (le.aw ?_)
 refine Zf fun K19 H20 => (Za (vA rfl (vC rfl (Zb (H20 _ _ (AW_ret ?_))))))
 have hmo := Option.some.inj hm; subst hmo
 exact Ret.of1 (.inl rfl) (rsT _ _ (.sc (.int _ _)) rfl) (hp_sub (List.nil_sublist _) hk8).1 (ALe.refl _ _) ⟨rfl, rfl⟩
theorem bd21 : bodied Try.prog 21 = true := by kernel_rfl
def M22_L0 (fuel : Nat) (p0 : TCatalog) (p1 : Int) (q0 : Int) (q1 : Int) : Option (Lp (Int × Int) (Int)) :=
 if (decide (q1 < (p0.Vols.length : Int))) = true then ((ix p0.Vols q1).bind fun x0 => after (if (x0.Pool == p1) = true then (some (.brk (x0.State != 3))) else some (.brk false) : Option (Lp (Bool) (Lp (Int × Int) (Int)))) fun j0 => after (if j0 = true then (some (.brk (IntKind.wrap .i64 (q0 + 1)))) else some (.brk q0) : Option (Lp (Int) (Lp (Int × Int) (Int)))) fun j1 => some (.go (j1, IntKind.wrap .i64 (q1 + 1)))) else some (.brk (q0, q1))
def M22 (fuel : Nat) (p0 : TCatalog) (p1 : Int) : Option (Int) :=
 (M33 fuel p0).bind fun y7 => if (y7 != 0) = true then (some 0) else after (loopM (fun s => M22_L0 fuel p0 p1 s.1 s.2) fuel (0, 0)) fun ⟨r0, r1⟩ => some r0
set_option maxHeartbeats 4000000 in
set_option maxRecDepth 100000 in
theorem W22 {fuel : Nat} {p0 : TCatalog} {p1 : Int} {o : Int} (h : Heap) (hm : M22 fuel p0 p1 = some o) :
 ACalls Try.prog 22 [.agg (c_Catalog p0), .sc (.int .i64 p1)] h (fun r h' => r = .sc (.int .i64 o) ∧ h' = h) := by
 refine ACalls_hp 31 [.tmp 4] Try.func22 rfl rfl rfl rfl ?_
 unfold M22 at hm
 refine Zf fun K1 H1 => (Za ?_)
 refine s_op (a_box (HOk.nil _) rfl rfl fun k2 hk3 => ?_)
 refine vC rfl (Zb (H1 _ _ (Zf fun K5 H5 => (Zf fun K6 H6 => (Za (s_v (Zg (.agg (c_Catalog p0)) ld27 rfl (Zd 0 hk3 rfl) rfl) ?_))))))
 obtain ⟨y7, hy8, hm⟩ := Zc hm
 refine s_v (o_call (W33 _ hy8) rfl bd33 rfl) (vF rfl rfl rfl (Zb (H6 _ _ ?_)))
 refine AW_if' rfl (fun hc9 => ?_) (fun hc9 => ?_)
 have hm := Zi hm hc9
 refine Zf fun K0 H2 => (Za (vC rfl (Zb (H2 _ _ (AW_ret ?_)))))
 have hmo := Option.some.inj hm; subst hmo
 exact Ret.of1 (.inl rfl) (rsT _ _ (.sc (.int _ _)) rfl) (hp_sub (List.nil_sublist _) hk3).1 (ALe.refl _ _) ⟨rfl, rfl⟩
 have hm := Zj hm hc9
 refine Zl (H5 _ _ (Zf fun K2 H3 => (Za (vC rfl (Zb (H3 _ _ (Zf fun K3 H4 => (Zf fun K4 H7 => (Za (s_v (Zh fd27_4 rfl rfl) (s_v (Zg (.sl none 4 (List.map c_Vol p0.Vols)) ld25 rfl (Zd 0 hk3 rfl) rfl) (s_v (o_lenm ln25 rfl) (vA rfl (Zb (H7 _ _ ?_)))))))))))))))
 refine AW_loopH (n := 31) (h := h) hm (σ := Int × Int) (τ := Unit) (fun g s => [(some k2, .obj 27 (c_Catalog p0))]) (fun g s => kp (kp (kp (kp (kp (k0) 14 (.sc (.int .i64 s.2))) 13 (.sc (.int .i64 (p0.Vols.length : Int)))) 12 (.sl none 4 (List.map c_Vol p0.Vols))) 5 (.sc (.int .i64 s.1))) 1 (.sc (.int .i64 p1))) () hk3 (LeF.s (.k5 .nil)) ?_ ?_
 rintro _ ⟨q0, q1⟩ x hk0 hm
 replace hm : M22_L0 fuel p0 p1 q0 q1 = some x := hm
 unfold M22_L0 at hm
 refine Zf fun K7 H8 => (Za (vF rfl rfl rfl (Zb (H8 _ _ (Zf fun K8 H9 => ?_)))))
 refine AW_if' rfl (fun hc0 => ?_) (fun hc0 => ?_)
 have hm := Zi hm hc0
 refine Zl (H9 _ _ (Zf fun K9 H62 => (AW_block (Zf fun K63 H63 => (Za ?_)))))
 obtain ⟨x0, hx0, hm⟩ := Zc hm
 refine s_v (o_ix hx0 el25 rfl rfl) (s_v (o_ld (.agg (c_Vol x0)) ld40 rfl rfl) ?_)
 refine s_op (a_alloc ([.sc (.int .i64 0), .sc (.int .i64 0), .sc (.int .i64 0), .sc (.int .i64 0)]) hk0 zr40 rfl rfl fun k66 hk1 => ?_)
 refine s_op (a_store 0 (c_Vol x0) hk1 rfl rfl rfl rfl sz40 rfl rfl fun hk2 => ?_)
 refine Zb (H63 _ _ (Zf fun K70 H70 => ?_))
 refine AW_joinH (n := 31) (h := h) hm (σ := Bool) (τ := Unit) (fun g s => [(some k66, .obj 40 (c_Vol x0)), (some k2, .obj 27 (c_Catalog p0))]) (fun g s => kp (kp (kp (kp (kp (kp (k0) 26 (.sc (.bool s))) 14 (.sc (.int .i64 q1))) 13 (.sc (.int .i64 (p0.Vols.length : Int)))) 12 (.sl none 4 (List.map c_Vol p0.Vols))) 5 (.sc (.int .i64 q0))) 1 (.sc (.int .i64 p1))) (fun x hm => ?_) ?_
 refine Za (s_v (Zh fd40_0 rfl rfl) (s_v (Zg (.sc (.int .i64 x0.Pool)) ld3 rfl (Zd 0 hk2 rfl) rfl) (vA rfl (vF rfl rfl rfl (vB rfl ?_)))))
 rcases Bool.eq_false_or_eq_true (x0.Pool == p1) with hb0 | hb0
 have hm := Zi hm hb0
 refine sg_y rfl rfl hb0 (s_v (Zh fd40_2 rfl rfl) (sg_y rfl rfl hb0 (s_v (Zg (.sc (.int .i64 x0.State)) ld3 rfl (Zd 0 hk2 rfl) rfl) (sg_y rfl rfl hb0 (vF rfl rfl rfl (s_v (Zm (.sc (.bool _)) rfl hb0 rfl) (Zb ?_)))))))
 cases hm
 exact ⟨rfl, (), hk2, LeF.s (.k6 .nil)⟩
 have hm := Zj hm hb0
 refine Zo rfl rfl hb0 (Zo rfl rfl hb0 (Zo rfl rfl hb0 (s_v (Zn (.sc (.bool _)) rfl hb0 rfl) (Zb ?_))))
 cases hm
 exact ⟨rfl, (), hk2, LeF.s (.k6 .nil)⟩
 rintro _ j0 fr' h' hk4 hm le
 refine H70 _ _ (le.aw ?_)
 refine AW_joinH (n := 31) (h := h) hm (σ := Int) (τ := Unit) (fun g s => [(some k66, .obj 40 (c_Vol x0)), (some k2, .obj 27 (c_Catalog p0))]) (fun g s => kp (kp (kp (kp (kp (k0) 14 (.sc (.int .i64 q1))) 13 (.sc (.int .i64 (p0.Vols.length : Int)))) 12 (.sl none 4 (List.map c_Vol p0.Vols))) 5 (.sc (.int .i64 s))) 1 (.sc (.int .i64 p1))) (fun x hm => ?_) ?_
 refine AW_if' rfl (fun hc1 => ?_) (fun hc1 => ?_)
 have hm := Zi hm hc1
 refine Za (vA rfl (vF rfl rfl rfl (vC rfl (Zb ?_))))
 cases hm
 exact ⟨rfl, (), hk4, LeF.s (.k5 .nil)⟩
 have hm := Zj hm hc1
 refine Zl ?_
 cases hm
 exact ⟨rfl, (), hk4, LeF.s (.k5 .nil)⟩
 rintro _ j1 fr' h' hk5 hm le
 refine H62 _ _ (le.aw ?_)
 refine Za (vF rfl rfl rfl (vA rfl (Zb ?_)))
 cases hm
 exact ⟨rfl, (), (hp_sub (.cons _ (.refl _)) hk5).2, LeF.fm ((hp_sub (.cons _ (.refl _)) hk5).1) (.k5 .nil)⟩
 have hm := Zj hm hc0
 refine AW_exit ?_
 refine Seq_exit ?_
 cases hm
 exact ⟨rfl, (), hk0, LeF.s (.k5 .nil)⟩
 rintro _ ⟨r0, r1⟩ fr' h' hk6 hm le
 refine H4 _ _ (le.aw ?_)
 refine Zf fun K82 H82 => (Za (vA rfl (vC rfl (Zb (H82 _ _ (AW_ret ?_))))))
 have hmo := Option.some.inj hm; subst hmo
 exact Ret.of1 (.inl rfl) (rsT _ _ (.sc (.int _ _)) rfl) (hp_sub (List.nil_sublist _) hk6).1 (ALe.refl _ _) ⟨rfl, rfl⟩
theorem bd22 : bodied Try.prog 22 = true := by kernel_rfl
def M30_L0 (fuel : Nat) (p0 : List Int) (q0 : List TVol) (q1 : Int) : Option (Lp ((List TVol) × Int) (TCatalog × Int)) :=
 if (decide (q1 < (p0.length : Int))) = true then ((ix p0 q1).bind fun x0 => (M68 fuel x0 0 1).bind fun y0 => if (!y0) = true then (some (.ret (({ Seq := 0, Snaps := [], Chunks := [], Exps := [], Vols := [] } : TCatalog), 1))) else (app q0 ([({ Pool := x0, Epoch := 0, State := 1, Files := 0 } : TVol)] : List TVol)).bind fun z0 => some (.go (z0, IntKind.wrap .i64 (q1 + 1)))) else some (.brk (q0, q1))
def M30 (fuel : Nat) (p0 : List Int) : Option (TCatalog × Int) :=
 (M68 fuel (p0.length : Int) 1 8).bind fun y7 => if (!y7) = true then (some (({ Seq := 0, Snaps := [], Chunks := [], Exps := [], Vols := [] } : TCatalog), 2)) else after (loopM (fun s => M30_L0 fuel p0 s.1 s.2) fuel ([], 0)) fun ⟨r0, r1⟩ => some (({ Seq := 0, Snaps := [], Chunks := [], Exps := [], Vols := r0 } : TCatalog), 0)
set_option maxHeartbeats 4000000 in
set_option maxRecDepth 100000 in
theorem W30 {fuel : Nat} {p0 : List Int} {o : TCatalog × Int} (h : Heap) (hm : M30 fuel p0 = some o) :
 ACalls Try.prog 30 [.sl none 1 (List.map c_i64 p0)] h (fun r h' => r = .tup [.agg (c_Catalog o.1), .sc (.int .i64 o.2)] ∧ h' = h) := by
 refine ACalls_hp 31 [.cell 2 27, .tmp 3] Try.func30 rfl rfl rfl rfl ?_
 unfold M30 at hm
 refine Zf fun K1 H1 => (Za ?_)
 refine s_op (a_alloc ([.sc (.int .i64 0), .sc (.slice none 0 0), .sc (.slice none 0 0), .sc (.slice none 0 0), .sc (.slice none 0 0)]) (HOk.nil _) zr27 rfl rfl fun k2 hk3 => ?_)
 refine vC rfl (Zb (H1 _ _ (Zf fun K5 H5 => (Zf fun K6 H6 => (Za (vE rfl (s_v (o_lenm ln28 rfl) ?_)))))))
 obtain ⟨y7, hy8, hm⟩ := Zc hm
 refine s_v (o_call (W68 _ hy8) rfl bd68 rfl) (s_v (o_not rfl) (Zb (H6 _ _ ?_)))
 refine AW_if' rfl (fun hc9 => ?_) (fun hc9 => ?_)
 have hm := Zi hm hc9
 refine Zf fun K0 H2 => (Za (s_v (o_bld ([.sc (.int .i64 0), .sc (.slice none 0 0), .sc (.slice none 0 0), .sc (.slice none 0 0), .sc (.slice none 0 0)]) bt27 rfl) ?_))
 refine s_op (a_store 0 ([.sc (.int .i64 0), .sc (.slice none 0 0), .sc (.slice none 0 0), .sc (.slice none 0 0), .sc (.slice none 0 0)]) hk3 rfl rfl rfl rfl sz27 rfl rfl fun hk0 => ?_)
 refine vC rfl (Zb (H2 _ _ (AW_ret ?_)))
 have hmo := Option.some.inj hm; subst hmo
 exact Ret.of2 (.inl rfl) (rsC (.agg ([.sc (.int .i64 0), .sc (.slice none 0 0), .sc (.slice none 0 0), .sc (.slice none 0 0), .sc (.slice none 0 0)])) ld27 rfl (Zd 0 hk0 rfl) rfl) (rsT _ _ (.sc (.int _ _)) rfl) (hp_sub (List.nil_sublist _) hk0).1 (ALe.agg (.cons (ALe.refl _ _) (.cons (nil_lem _) (.cons (nil_lem _) (.cons (nil_lem _) (.cons (nil_lem _) .nil)))))) (ALe.refl _ _) ⟨rfl, rfl⟩
 have hm := Zj hm hc9
 refine Zl (H5 _ _ (Zf fun K2 H3 => (Za ?_)))
 refine s_op (a_alloc ([.sc (.int .i64 0), .sc (.slice none 0 0), .sc (.slice none 0 0), .sc (.slice none 0 0), .sc (.slice none 0 0)]) hk3 zr27 rfl rfl fun k13 hk1 => ?_)
 refine Zb (H3 _ _ (Zf fun K3 H4 => (Zf fun K4 H7 => (Za (vE rfl (s_v (o_lenm ln28 rfl) (vA rfl (Zb (H7 _ _ ?_)))))))))
 obtain ⟨hk2, le0⟩ := LeF.obj (L := (none, .tok 40 4 (([] : List TVol).length * 4)) :: _) (n := 31) (f := _) 1 ([.sc (.int .i64 0), .sc (.slice none 0 0), .sc (.slice none 0 0), .sc (.slice none 0 0), ow none 4 (List.map c_Vol [])]) (HOk.none hk1) rfl (.k4 (.cons (ow_nil (c := c_Vol) _ 4) .nil))
 refine le0.aw ?_
 refine AW_loopL (n := 31) (h := h) hm (σ := (List TVol) × Int) (τ := Option Key) (fun g s => [(g, .tok 40 4 ((s.1 : List TVol).length * 4)), (some k13, .obj 27 ([.sc (.int .i64 0), .sc (.slice none 0 0), .sc (.slice none 0 0), .sc (.slice none 0 0), ow g 4 (List.map c_Vol s.1)])), (some k2, .obj 27 ([.sc (.int .i64 0), .sc (.slice none 0 0), .sc (.slice none 0 0), .sc (.slice none 0 0), .sc (.slice none 0 0)]))]) (fun g s => (g = none → s.1 = [])) (fun g s => kp (kp (kp (kp (kp (k0) 14 (.sc (.int .i64 s.2))) 13 (.sc (.int .i64 (p0.length : Int)))) 12 (.sl none 1 (List.map c_i64 p0))) 4 (.ptr k13 0)) 2 (.ptr k2 0)) none (⟨hk2, (fun _ => rfl)⟩) (LeF.s (.k5 .nil)) ?_ ?_
 rintro tg0 ⟨q0, q1⟩ x ⟨hk4, ot0⟩ hm
 replace hm : M30_L0 fuel p0 q0 q1 = some x := hm
 unfold M30_L0 at hm
 refine Zf fun K7 H8 => (Za (vF rfl rfl rfl (Zb (H8 _ _ (Zf fun K8 H9 => ?_)))))
 refine AW_if' rfl (fun hc0 => ?_) (fun hc0 => ?_)
 have hm := Zi hm hc0
 refine Zl (H9 _ _ (Zf fun K9 H93 => (AW_block (Zf fun K94 H94 => (Za ?_)))))
 obtain ⟨x0, hx0, hm⟩ := Zc hm
 refine s_v (o_ix hx0 el28 rfl rfl) (s_v (o_ld (.sc (.int .i64 x0)) ld3 rfl rfl) (vC rfl (Zb (H94 _ _ (Zf fun K97 H97 => (Zf fun K98 H98 => (Za (vA rfl ?_))))))))
 obtain ⟨y0, hy0, hm⟩ := Zc hm
 refine s_v (o_call (W68 _ hy0) rfl bd68 rfl) (s_v (o_not rfl) (Zb (H98 _ _ ?_)))
 refine AW_if' rfl (fun hc1 => ?_) (fun hc1 => ?_)
 have hm := Zi hm hc1
 refine Zf fun K11 H11 => (Za (s_v (o_bld ([.sc (.int .i64 0), .sc (.slice none 0 0), .sc (.slice none 0 0), .sc (.slice none 0 0), .sc (.slice none 0 0)]) bt27 rfl) ?_))
 refine s_op (a_store 2 ([.sc (.int .i64 0), .sc (.slice none 0 0), .sc (.slice none 0 0), .sc (.slice none 0 0), .sc (.slice none 0 0)]) hk4 rfl rfl rfl rfl sz27 rfl rfl fun hk5 => ?_)
 refine vC rfl (Zb (H11 _ _ (AW_ret ?_)))
 cases hm
 refine ⟨⟨nofun, nofun⟩, fun he => ?_⟩
 subst he
 exact Ret.of2 (.inl rfl) (rsC (.agg ([.sc (.int .i64 0), .sc (.slice none 0 0), .sc (.slice none 0 0), .sc (.slice none 0 0), .sc (.slice none 0 0)])) ld27 rfl (Zd 2 hk5 rfl) rfl) (rsT _ _ (.sc (.int _ _)) rfl) (hp_sub (List.nil_sublist _) hk5).1 (ALe.agg (.cons (ALe.refl _ _) (.cons (nil_lem _) (.cons (nil_lem _) (.cons (nil_lem _) (.cons (nil_lem _) .nil)))))) (ALe.refl _ _) ⟨rfl, rfl⟩
 have hm := Zj hm hc1
 refine Zl (H97 _ _ (Za (s_v (Zh fd27_4 rfl rfl) (s_v (Zg (ow tg0 4 (List.map c_Vol q0)) ld25 rfl (Zd 1 hk4 rfl) rfl) (vA rfl (s_v (o_bld (c_Vol ({ Pool := x0, Epoch := 0, State := 1, Files := 0 } : TVol)) bt40 rfl) (s_v (o_lit (List.map c_Vol ([({ Pool := x0, Epoch := 0, State := 1, Files := 0 } : TVol)] : List TVol)) et25 rfl rfl rfl rfl) ?_)))))))
 obtain ⟨z0, hz0, hm⟩ := Zc hm
 refine s_op (a_app (c := c_Vol) 0 hz0 et25 rfl rfl rfl ot0 hk4 rfl fun tg1 ot1 hk6 => ?_)
 refine s_v (Zh fd27_4 rfl rfl) ?_
 refine s_op (a_store 1 ([.sc (.int .i64 0), .sc (.slice none 0 0), .sc (.slice none 0 0), .sc (.slice none 0 0), ow tg1 4 (List.map c_Vol z0)]) hk6 rfl rfl (cellsOf_ow rfl) (all_ow _ _ _) sz25 rfl rfl fun hk7 => ?_)
 refine Zb (H93 _ _ (Za (vF rfl rfl rfl (vA rfl (Zb ?_)))))
 cases hm
 exact ⟨rfl, tg1, ⟨hk7, ot1⟩, LeF.s (.k5 .nil)⟩
 have hm := Zj hm hc0
 refine AW_exit ?_
 refine Seq_exit ?_
 cases hm
 exact ⟨rfl, tg0, ⟨hk4, ot0⟩, LeF.s (.k5 .nil)⟩
 rintro tg2 ⟨r0, r1⟩ fr' h' ⟨hk8, ot2⟩ hm le
 refine H4 _ _ (le.aw ?_)
 refine Zf fun K13 H13 => (Za (s_v (Zg (.agg ([.sc (.int .i64 0), .sc (.slice none 0 0), .sc (.slice none 0 0), .sc (.slice none 0 0), ow tg2 4 (List.map c_Vol r0)])) ld27 rfl (Zd 1 hk8 rfl) rfl) ?_))
 refine s_op (a_store 2 ([.sc (.int .i64 0), .sc (.slice none 0 0), .sc (.slice none 0 0), .sc (.slice none 0 0), ow tg2 4 (List.map c_Vol r0)]) hk8 rfl rfl rfl (by repeat (first | exact rfl | refine all_c (ocell_ow _ _ _) ?_ | refine all_c (ocell_aw _ _ _) ?_ | refine all_c rfl ?_)) sz27 rfl rfl fun hk9 => ?_)
 refine vC rfl (Zb (H13 _ _ (AW_ret ?_)))
 have hmo := Option.some.inj hm; subst hmo
 exact Ret.of2 (.inl rfl) (rsC (.agg ([.sc (.int .i64 0), .sc (.slice none 0 0), .sc (.slice none 0 0), .sc (.slice none 0 0), ow tg2 4 (List.map c_Vol r0)])) ld27 rfl (Zd 2 hk9 rfl) rfl) (rsT _ _ (.sc (.int _ _)) rfl) (hp_sub (List.nil_sublist _) hk9).1 (ALe.agg (.cons (ALe.refl _ _) (.cons (nil_lem _) (.cons (nil_lem _) (.cons (nil_lem _) (.cons ((own_frz0 _ 0 ot2 hk9 rfl)) .nil)))))) (ALe.refl _ _) ⟨rfl, rfl⟩
theorem bd30 : bodied Try.prog 30 = true := by kernel_rfl
def M23 (fuel : Nat) : Option (Bool) :=
 (M30 fuel ([1, 0, 0] : List Int)).bind fun y3 => (M16 fuel y3.1 0 5 ([9, 4, 5] : List Int) (-1)).bind fun y0 => after (if (y3.2 == 0) = true then (if (y0.2 == 0) = true then (if (y0.1 == 2) = true then ((M21 fuel y3.1 0).bind fun y1 => if (y1 == (-1)) = true then ((M22 fuel y3.1 0).bind fun y2 => some (.brk (y2 == 2))) else some (.brk false)) else some (.brk false)) else some (.brk false)) else some (.brk false) : Option (Lp (Bool) (Bool))) fun j0 => some j0
set_option maxHeartbeats 4000000 in
set_option maxRecDepth 100000 in
theorem W23 {fuel : Nat} {o : Bool} (h : Heap) (hm : M23 fuel = some o) :
 ACalls Try.prog 23 [] h (fun r h' => r = .sc (.bool o) ∧ h' = h) := by
 refine ACalls_hp 36 [.tmp 0] Try.func23 rfl rfl rfl rfl ?_
 unfold M23 at hm
 refine Zf fun K1 H1 => (Za (vD rfl (Zb (H1 _ _ (Zf fun K2 H2 => (Za (s_v (o_lit (List.map c_i64 ([1, 0, 0] : List Int)) et28 rfl rfl rfl rfl) ?_)))))))
 obtain ⟨y3, hy4, hm⟩ := Zc hm
 refine s_v (o_call (W30 _ hy4) rfl bd30 rfl) (s_v (o_mv (.tup _) rfl) (s_v (o_ex (.agg _) rfl rfl) (s_v (o_ex (.sc (.int _ _)) rfl rfl) ?_)))
 refine s_op (a_alloc ([.sc (.int .i64 0), .sc (.slice none 0 0), .sc (.slice none 0 0), .sc (.slice none 0 0), .sc (.slice none 0 0)]) (HOk.nil _) zr27 rfl rfl fun k5 hk6 => ?_)
 refine s_op (a_store 0 (c_Catalog y3.1) hk6 rfl rfl rfl rfl sz27 rfl rfl fun hk8 => ?_)
 refine vC rfl (Zb (H2 _ _ (Zf fun K9 H9 => (Za (s_v (Zg (.agg (c_Catalog y3.1)) ld27 rfl (Zd 0 hk8 rfl) rfl) (s_v (o_lit (List.map c_i64 ([9, 4, 5] : List Int)) et28 rfl rfl rfl rfl) ?_))))))
 obtain ⟨y0, hy0, hm⟩ := Zc hm
 refine s_v (o_call (W16 _ hy0) rfl bd16 rfl) (s_v (o_mv (.tup _) rfl) (s_v (o_ex (.sc (.int _ _)) rfl rfl) (s_v (o_ex (.sc (.int _ _)) rfl rfl) (vC rfl (vC rfl (Zb (H9 _ _ (Zf fun K0 H3 => ?_))))))))
 refine AW_joinH (n := 36) (h := h) hm (σ := Bool) (τ := Unit) (fun g s => [(some k5, .obj 27 (c_Catalog y3.1))]) (fun g s => kp (k0) 0 (.sc (.bool s))) (fun x hm => ?_) ?_
 refine Za (vA rfl (vF rfl rfl rfl (vB rfl ?_)))
 rcases Bool.eq_false_or_eq_true (y3.2 == 0) with hb0 | hb0
 have hm := Zi hm hb0
 refine sg_y rfl rfl hb0 (vA rfl (sg_y rfl rfl hb0 (vF rfl rfl rfl (s_v (Zm (.sc (.bool _)) rfl hb0 rfl) (vB rfl ?_)))))
 rcases Bool.eq_false_or_eq_true (y0.2 == 0) with hb1 | hb1
 have hm := Zi hm hb1
 refine sg_y rfl rfl hb1 (vA rfl (sg_y rfl rfl hb1 (vF rfl rfl rfl (s_v (Zm (.sc (.bool _)) rfl hb1 rfl) (vB rfl ?_)))))
 rcases Bool.eq_false_or_eq_true (y0.1 == 2) with hb2 | hb2
 have hm := Zi hm hb2
 refine sg_y rfl rfl hb2 (s_v (Zg (.agg (c_Catalog y3.1)) ld27 rfl (Zd 0 hk8 rfl) rfl) (sg_y rfl rfl hb2 ?_))
 obtain ⟨y1, hy1, hm⟩ := Zc hm
 refine s_v (o_call (W21 _ hy1) rfl bd21 rfl) (sg_y rfl rfl hb2 (vF rfl rfl rfl (s_v (Zm (.sc (.bool _)) rfl hb2 rfl) (vB rfl ?_))))
 rcases Bool.eq_false_or_eq_true (y1 == (-1)) with hb3 | hb3
 have hm := Zi hm hb3
 refine sg_y rfl rfl hb3 (s_v (Zg (.agg (c_Catalog y3.1)) ld27 rfl (Zd 0 hk8 rfl) rfl) (sg_y rfl rfl hb3 ?_))
 obtain ⟨y2, hy2, hm⟩ := Zc hm
 refine s_v (o_call (W22 _ hy2) rfl bd22 rfl) (sg_y rfl rfl hb3 (vF rfl rfl rfl (s_v (Zm (.sc (.bool _)) rfl hb3 rfl) (vD rfl (Zb ?_)))))
 cases hm
 exact ⟨rfl, (), hk8, LeF.s (.cons (ALe.refl _ _) .nil)⟩
 have hm := Zj hm hb3
 refine Zo rfl rfl hb3 (Zo rfl rfl hb3 (Zo rfl rfl hb3 (s_v (Zn (.sc (.bool _)) rfl hb3 rfl) (vD rfl (Zb ?_)))))
 cases hm
 exact ⟨rfl, (), hk8, LeF.s (.cons (ALe.refl _ _) .nil)⟩
 have hm := Zj hm hb2
 refine Zo rfl rfl hb2 (Zo rfl rfl hb2 (Zo rfl rfl hb2 (s_v (Zn (.sc (.bool _)) rfl hb2 rfl) (vB rfl (Zo rfl rfl rfl (Zo rfl rfl rfl (Zo rfl rfl rfl (s_v (Zn (.sc (.bool _)) rfl rfl rfl) (vD rfl (Zb ?_))))))))))
 cases hm
 exact ⟨rfl, (), hk8, LeF.s (.cons (ALe.refl _ _) .nil)⟩
 have hm := Zj hm hb1
 refine Zo rfl rfl hb1 (Zo rfl rfl hb1 (s_v (Zn (.sc (.bool _)) rfl hb1 rfl) (vB rfl (Zo rfl rfl rfl (Zo rfl rfl rfl (Zo rfl rfl rfl (s_v (Zn (.sc (.bool _)) rfl rfl rfl) (vB rfl (Zo rfl rfl rfl (Zo rfl rfl rfl (Zo rfl rfl rfl (s_v (Zn (.sc (.bool _)) rfl rfl rfl) (vD rfl (Zb ?_))))))))))))))
 cases hm
 exact ⟨rfl, (), hk8, LeF.s (.cons (ALe.refl _ _) .nil)⟩
 have hm := Zj hm hb0
 refine Zo rfl rfl hb0 (Zo rfl rfl hb0 (s_v (Zn (.sc (.bool _)) rfl hb0 rfl) (vB rfl (Zo rfl rfl rfl (Zo rfl rfl rfl (s_v (Zn (.sc (.bool _)) rfl rfl rfl) (vB rfl (Zo rfl rfl rfl (Zo rfl rfl rfl (Zo rfl rfl rfl (s_v (Zn (.sc (.bool _)) rfl rfl rfl) (vB rfl (Zo rfl rfl rfl (Zo rfl rfl rfl (Zo rfl rfl rfl ?_)))))))))))))))
 refine s_v (Zn (.sc (.bool _)) rfl rfl rfl) (vD rfl (Zb ?_))
 cases hm
 exact ⟨rfl, (), hk8, LeF.s (.cons (ALe.refl _ _) .nil)⟩
 rintro _ j0 fr' h' hk0 hm le
 refine H3 _ _ (le.aw ?_)
 refine AW_ret ?_
 have hmo := Option.some.inj hm; subst hmo
 exact Ret.of1 (.inl rfl) (rsT _ _ (.sc (.bool _)) rfl) (hp_sub (List.nil_sublist _) hk0).1 (ALe.refl _ _) ⟨rfl, rfl⟩
theorem bd23 : bodied Try.prog 23 = true := by kernel_rfl
def M32_L0 (fuel : Nat) (p0 : List Int) (q0 : List TVol) (q1 : Int) : Option (Lp ((List TVol) × Int) (TCatalog)) :=
 if (decide (q1 < (p0.length : Int))) = true then ((ix p0 q1).bind fun x0 => (app q0 ([({ Pool := x0, Epoch := 0, State := 1, Files := 0 } : TVol)] : List TVol)).bind fun z0 => some (.go (z0, IntKind.wrap .i64 (q1 + 1)))) else some (.brk (q0, q1))
def M32 (fuel : Nat) (p0 : List Int) : Option (TCatalog) :=
 after (loopM (fun s => M32_L0 fuel p0 s.1 s.2) fuel ([], 0)) fun ⟨r0, r1⟩ => some ({ Seq := 0, Snaps := [], Chunks := [], Exps := [], Vols := r0 } : TCatalog)
set_option maxHeartbeats 4000000 in
set_option maxRecDepth 100000 in
theorem W32 {fuel : Nat} {p0 : List Int} {o : TCatalog} (h : Heap) (hm : M32 fuel p0 = some o) :
 ACalls Try.prog 32 [.sl none 1 (List.map c_i64 p0)] h (fun r h' => r = .agg (c_Catalog o) ∧ h' = h) := by
 refine ACalls_hp 22 [.cell 2 27] Try.func32 rfl rfl rfl rfl ?_
 unfold M32 at hm
 refine Zf fun K1 H1 => (Za ?_)
 refine s_op (a_alloc ([.sc (.int .i64 0), .sc (.slice none 0 0), .sc (.slice none 0 0), .sc (.slice none 0 0), .sc (.slice none 0 0)]) (HOk.nil _) zr27 rfl rfl fun k2 hk3 => ?_)
 refine Zb (H1 _ _ (Zf fun K5 H5 => (Za ?_)))
 refine s_op (a_alloc ([.sc (.int .i64 0), .sc (.slice none 0 0), .sc (.slice none 0 0), .sc (.slice none 0 0), .sc (.slice none 0 0)]) hk3 zr27 rfl rfl fun k6 hk7 => ?_)
 refine Zb (H5 _ _ (Zf fun K9 H9 => (Zf fun K0 H2 => (Za (vC rfl (Zb (H2 _ _ ?_)))))))
 obtain ⟨hk0, le0⟩ := LeF.obj (L := (none, .tok 40 4 (([] : List TVol).length * 4)) :: _) (n := 22) (f := _) 1 ([.sc (.int .i64 0), .sc (.slice none 0 0), .sc (.slice none 0 0), .sc (.slice none 0 0), ow none 4 (List.map c_Vol [])]) (HOk.none hk7) rfl (.k4 (.cons (ow_nil (c := c_Vol) _ 4) .nil))
 refine le0.aw ?_
 refine AW_loopL (n := 22) (h := h) hm (σ := (List TVol) × Int) (τ := Option Key) (fun g s => [(g, .tok 40 4 ((s.1 : List TVol).length * 4)), (some k6, .obj 27 ([.sc (.int .i64 0), .sc (.slice none 0 0), .sc (.slice none 0 0), .sc (.slice none 0 0), ow g 4 (List.map c_Vol s.1)])), (some k2, .obj 27 ([.sc (.int .i64 0), .sc (.slice none 0 0), .sc (.slice none 0 0), .sc (.slice none 0 0), .sc (.slice none 0 0)]))]) (fun g s => (g = none → s.1 = [])) (fun g s => kp (kp (kp (kp (k0) 4 (.sc (.int .i64 s.2))) 3 (.ptr k6 0)) 2 (.ptr k2 0)) 0 (.sl none 1 (List.map c_i64 p0))) none (⟨hk0, (fun _ => rfl)⟩) (LeF.s (.k4 .nil)) ?_ ?_
 rintro tg0 ⟨q0, q1⟩ x ⟨hk1, ot0⟩ hm
 replace hm : M32_L0 fuel p0 q0 q1 = some x := hm
 unfold M32_L0 at hm
 refine Zf fun K2 H3 => (Zf fun K3 H4 => (Za (vA rfl (vE rfl (s_v (o_lenm ln28 rfl) (vF rfl rfl rfl (Zb (H4 _ _ ?_))))))))
 refine AW_if' rfl (fun hc0 => ?_) (fun hc0 => ?_)
 have hm := Zi hm hc0
 refine Zl (H3 _ _ (Zf fun K4 H6 => (AW_block ?_)))
 refine AW_zreg [(10, some k6, .obj 27 ([.sc (.int .i64 0), .sc (.slice none 0 0), .sc (.slice none 0 0), .sc (.slice none 0 0), ow tg0 4 (List.map c_Vol q0)]))] mixed (⟨fun _ => hp_at 1 hk1 rfl, trivial⟩) ?_
 refine z_w 0 rfl (fun S' h' hi hB => Zh fd27_4 rfl rfl) ?_
 refine z_w 1 rfl (fun S' h' hi hB => Zg (ow tg0 4 (List.map c_Vol q0)) ld25 rfl (At.s (InvL.get 0 hi rfl (hB 10 (by kernel_rfl)))) rfl) ?_
 refine z_w 2 rfl (fun S' h' hi hB => o_mv (.sl _ _ _) rfl) ?_
 refine z_w 3 rfl (fun S' h' hi hB => o_mv (.sc (.int _ _)) rfl) ?_
 obtain ⟨x0, hx0, hm⟩ := Zc hm
 refine z_w 4 rfl (fun S' h' hi hB => o_ix hx0 el28 rfl rfl) ?_
 refine z_w 5 rfl (fun S' h' hi hB => o_ld (.sc (.int .i64 x0)) ld3 rfl rfl) ?_
 refine z_w 6 rfl (fun S' h' hi hB => o_bld (c_Vol ({ Pool := x0, Epoch := 0, State := 1, Files := 0 } : TVol)) bt40 rfl) ?_
 refine z_w 7 rfl (fun S' h' hi hB => o_lit (List.map c_Vol ([({ Pool := x0, Epoch := 0, State := 1, Files := 0 } : TVol)] : List TVol)) et25 rfl rfl rfl rfl) ?_
 obtain ⟨z0, hz0, hm⟩ := Zc hm
 refine z_e 8 rfl (by kernel_rfl) (a_app (c := c_Vol) 0 hz0 et25 rfl rfl rfl ot0 hk1 rfl fun tg1 ot1 hk2 => ⟨⟨fun _ => hp_at 1 hk2 rfl, trivial⟩, ?_⟩)
 refine z_w 9 rfl (fun S' h' hi hB => Zh fd27_4 rfl rfl) ?_
 refine z_e 10 rfl (by kernel_rfl) (a_store 1 ([.sc (.int .i64 0), .sc (.slice none 0 0), .sc (.slice none 0 0), .sc (.slice none 0 0), ow tg1 4 (List.map c_Vol z0)]) hk2 rfl rfl (cellsOf_ow rfl) (all_ow _ _ _) sz25 rfl rfl fun hk4 => ⟨⟨fun e => absurd e (by decide), trivial⟩, ?_⟩)
 refine z_nil (by kernel_rfl) ?_
 refine H6 _ _ (Za (vA rfl (vF rfl rfl rfl (vC rfl (Zb ?_)))))
 cases hm
 exact ⟨rfl, tg1, ⟨hk4, ot1⟩, LeF.s (.k4 .nil)⟩
 have hm := Zj hm hc0
 refine AW_exit ?_
 refine Seq_exit ?_
 cases hm
 exact ⟨rfl, tg0, ⟨hk1, ot0⟩, LeF.s (.k4 .nil)⟩
 rintro tg2 ⟨r0, r1⟩ fr' h' ⟨hk5, ot2⟩ hm le
 refine H9 _ _ (le.aw ?_)
 refine Zf fun K6 H7 => (Za (s_v (Zg (.agg ([.sc (.int .i64 0), .sc (.slice none 0 0), .sc (.slice none 0 0), .sc (.slice none 0 0), ow tg2 4 (List.map c_Vol r0)])) ld27 rfl (Zd 1 hk5 rfl) rfl) ?_))
 refine s_op (a_store 2 ([.sc (.int .i64 0), .sc (.slice none 0 0), .sc (.slice none 0 0), .sc (.slice none 0 0), ow tg2 4 (List.map c_Vol r0)]) hk5 rfl rfl rfl (by repeat (first | exact rfl | refine all_c (ocell_ow _ _ _) ?_ | refine all_c (ocell_aw _ _ _) ?_ | refine all_c rfl ?_)) sz27 rfl rfl fun hk6 => ?_)
 refine Zb (H7 _ _ (AW_ret ?_))
 have hmo := Option.some.inj hm; subst hmo
 exact Ret.of1 (.inl rfl) (rsC (.agg ([.sc (.int .i64 0), .sc (.slice none 0 0), .sc (.slice none 0 0), .sc (.slice none 0 0), ow tg2 4 (List.map c_Vol r0)])) ld27 rfl (Zd 2 hk6 rfl) rfl) (hp_sub (List.nil_sublist _) hk6).1 (ALe.agg (.cons (ALe.refl _ _) (.cons (nil_lem _) (.cons (nil_lem _) (.cons (nil_lem _) (.cons ((own_frz0 _ 0 ot2 hk6 rfl)) .nil)))))) ⟨rfl, rfl⟩
theorem bd32 : bodied Try.prog 32 = true := by kernel_rfl
open Go.Vm
def M65_L4 (fuel : Nat) (p0 : TCatalog) (p1 : Id32) (q0 : Int) (q1 : Int) (q2 : Int) : Option (Lp (Int) (Lp (Int) (Lp (Int) (Bool)))) :=
 (ix p0.Snaps q0).bind fun x0 => (ix x0.Man.Parts q1).bind fun x1 => if (decide (q2 < (x1.Ids.length : Int))) = true then ((ix p0.Snaps q0).bind fun x2 => (ix x2.Man.Parts q1).bind fun x3 => (ix x3.Ids q2).bind fun x4 => if (decide (x4 = p1)) = true then (some (.ret (.ret (.ret true)))) else some (.go (IntKind.wrap .i64 (q2 + 1)))) else some (.brk q2)
def M65_L2 (fuel : Nat) (p0 : TCatalog) (p1 : Id32) (q0 : Int) (q1 : Int) : Option (Lp (Int) (Lp (Int) (Bool))) :=
 (ix p0.Snaps q0).bind fun x0 => if (decide (q1 < (x0.Man.Parts.length : Int))) = true then (after (loopM (fun s => M65_L4 fuel p0 p1 q0 q1 s) fuel 0) fun r0 => some (.go (IntKind.wrap .i64 (q1 + 1)))) else some (.brk q1)
def M65_L0 (fuel : Nat) (p0 : TCatalog) (p1 : Id32) (q0 : Int) : Option (Lp (Int) (Bool)) :=
 if (decide (q0 < (p0.Snaps.length : Int))) = true then (after (loopM (fun s => M65_L2 fuel p0 p1 q0 s) fuel 0) fun r0 => some (.go (IntKind.wrap .i64 (q0 + 1)))) else some (.brk q0)
def M65 (fuel : Nat) (p0 : TCatalog) (p1 : Id32) : Option (Bool) :=
 after (loopM (fun s => M65_L0 fuel p0 p1 s) fuel 0) fun r0 => some false
set_option maxHeartbeats 4000000 in
set_option maxRecDepth 100000 in
theorem W65 {fuel : Nat} {p0 : TCatalog} {p1 : Id32} {o : Bool} (h : Heap) (hm : M65 fuel p0 p1 = some o) :
 ACalls Try.prog 65 [.agg (c_Catalog p0), .agg (c_id p1)] h (fun r h' => r = .sc (.bool o) ∧ h' = h) := by
 refine ACalls_hp 59 [.tmp 4] Try.func65 rfl rfl rfl rfl ?_
 unfold M65 at hm
 refine Zf fun K1 H1 => (Za ?_)
 refine s_op (a_box (HOk.nil _) rfl rfl fun k2 hk3 => ?_)
 refine s_op (a_box hk3 rfl rfl fun k5 hk6 => ?_)
 refine vD rfl (Zb (H1 _ _ (Zf fun K8 H8 => (Zf fun K9 H9 => (Za (vC rfl (Zb (H9 _ _ ?_))))))))
 refine AW_loopH (n := 59) (h := h) hm (σ := Int) (τ := Unit) (fun g s => [(some k5, .obj 61 (c_id p1)), (some k2, .obj 27 (c_Catalog p0))]) (fun g s => kp (kp (kp (k0) 5 (.sc (.int .i64 s))) 3 (.ptr k5 0)) 2 (.ptr k2 0)) () hk6 (LeF.s (.k3 .nil)) ?_ ?_
 rintro _ q0 x hk0 hm
 replace hm : M65_L0 fuel p0 p1 q0 = some x := hm
 unfold M65_L0 at hm
 refine Zf fun K0 H2 => (Zf fun K2 H3 => (Za (vA rfl (s_v (Zh fd27_1 rfl rfl) (s_v (Zg (.sl none 4 (List.map c_Snap p0.Snaps)) ld22 rfl (Zd 1 hk0 rfl) rfl) (s_v (o_lenm ln22 rfl) (vF rfl rfl rfl (Zb (H3 _ _ ?_)))))))))
 refine AW_if' rfl (fun hc0 => ?_) (fun hc0 => ?_)
 have hm := Zi hm hc0
 refine Zl (H2 _ _ (Zf fun K3 H4 => (AW_block (Zf fun K4 H5 => (Za (vC rfl (Zb (H5 _ _ ?_))))))))
 refine AW_loopH (n := 59) (h := h) hm (σ := Int) (τ := Unit) (fun g s => [(some k5, .obj 61 (c_id p1)), (some k2, .obj 27 (c_Catalog p0))]) (fun g s => kp (kp (kp (kp (k0) 6 (.sc (.int .i64 s))) 5 (.sc (.int .i64 q0))) 3 (.ptr k5 0)) 2 (.ptr k2 0)) () hk0 (LeF.s (.k4 .nil)) ?_ ?_
 rintro _ q1 x hk1 hm
 replace hm : M65_L2 fuel p0 p1 q0 q1 = some x := hm
 unfold M65_L2 at hm
 refine Zf fun K5 H6 => (Zf fun K6 H7 => (Za (vA rfl (s_v (Zh fd27_1 rfl rfl) (s_v (Zg (.sl none 4 (List.map c_Snap p0.Snaps)) ld22 rfl (Zd 1 hk1 rfl) rfl) (vA rfl ?_))))))
 obtain ⟨x0, hx0, hm⟩ := Zc hm
 refine s_v (o_ix hx0 el22 rfl rfl) (s_v (o_fl fd60_1 rfl rfl) (s_v (o_fl fd57_1 rfl rfl) (s_v (o_ld (.sl none 3 (List.map c_Part x0.Man.Parts)) ld55 rfl rfl) (s_v (o_lenm ln55 rfl) (vF rfl rfl rfl (Zb (H7 _ _ ?_)))))))
 refine AW_if' rfl (fun hc1 => ?_) (fun hc1 => ?_)
 have hm := Zi hm hc1
 refine Zl (H6 _ _ (Zf fun K7 H10 => (AW_block (Zf fun K10 H11 => (Za (vC rfl (Zb (H11 _ _ ?_))))))))
 refine AW_loopH (n := 59) (h := h) hm (σ := Int) (τ := Unit) (fun g s => [(some k5, .obj 61 (c_id p1)), (some k2, .obj 27 (c_Catalog p0))]) (fun g s => kp (kp (kp (kp (kp (k0) 7 (.sc (.int .i64 s))) 6 (.sc (.int .i64 q1))) 5 (.sc (.int .i64 q0))) 3 (.ptr k5 0)) 2 (.ptr k2 0)) () hk1 (LeF.s (.k5 .nil)) ?_ ?_
 rintro _ q2 x hk2 hm
 replace hm : M65_L4 fuel p0 p1 q0 q1 q2 = some x := hm
 unfold M65_L4 at hm
 refine Zf fun K11 H12 => (Zf fun K12 H13 => (Za (vA rfl (s_v (Zh fd27_1 rfl rfl) (s_v (Zg (.sl none 4 (List.map c_Snap p0.Snaps)) ld22 rfl (Zd 1 hk2 rfl) rfl) (vA rfl ?_))))))
 obtain ⟨x1, hx1, hm⟩ := Zc hm
 refine s_v (o_ix hx1 el22 rfl rfl) (s_v (o_fl fd60_1 rfl rfl) (s_v (o_fl fd57_1 rfl rfl) (s_v (o_ld (.sl none 3 (List.map c_Part x1.Man.Parts)) ld55 rfl rfl) (vA rfl ?_))))
 obtain ⟨x2, hx2, hm⟩ := Zc hm
 refine s_v (o_ix hx2 el55 rfl rfl) (s_v (o_fl fd82_2 rfl rfl) (s_v (o_ld (.sl none 32 (List.map c_id x2.Ids)) ld80 rfl rfl) (s_v (o_lenm ln80 rfl) (vF rfl rfl rfl (Zb (H13 _ _ ?_))))))
 refine AW_if' rfl (fun hc2 => ?_) (fun hc2 => ?_)
 have hm := Zi hm hc2
 refine Zl (H12 _ _ (Zf fun K13 H14 => (AW_block (Zf fun K14 H15 => ?_))))
 refine AW_rq mixed (by kernel_rfl) ?_
 refine q_v (Zh fd27_1 rfl rfl) (q_v (Zg (.sl none 4 (List.map c_Snap p0.Snaps)) ld22 rfl (Zd 1 hk2 rfl) rfl) (wA rfl ?_))
 obtain ⟨x3, hx3, hm⟩ := Zc hm
 refine q_v (o_ix hx3 el22 rfl rfl) (q_v (o_fl fd60_1 rfl rfl) (q_v (o_fl fd57_1 rfl rfl) (q_v (o_ld (.sl none 3 (List.map c_Part x3.Man.Parts)) ld55 rfl rfl) (wA rfl ?_))))
 obtain ⟨x4, hx4, hm⟩ := Zc hm
 refine q_v (o_ix hx4 el55 rfl rfl) (q_v (o_fl fd82_2 rfl rfl) (q_v (o_ld (.sl none 32 (List.map c_id x4.Ids)) ld80 rfl rfl) (wA rfl ?_)))
 obtain ⟨x5, hx5, hm⟩ := Zc hm
 refine q_v (o_ix hx5 el80 rfl rfl) (q_v (o_ld (.agg (c_id x5)) ld61 rfl rfl) (q_v (Zg (.agg (c_id p1)) ld61 rfl (Zd 0 hk2 rfl) rfl) (q_v (o_ide eg61 u61 u5 ld5 rfl rfl) (q_nil (H15 _ _ ?_)))))
 refine AW_if' rfl (fun hc3 => ?_) (fun hc3 => ?_)
 have hm := Zi hm hc3
 refine Zf fun K15 H16 => (Za (vD rfl (Zb (H16 _ _ (AW_ret ?_)))))
 cases hm
 refine ⟨⟨nofun, nofun⟩, fun he => ?_⟩
 subst he
 refine ⟨⟨nofun, nofun⟩, fun he => ?_⟩
 subst he
 refine ⟨⟨nofun, nofun⟩, fun he => ?_⟩
 subst he
 exact Ret.of1 (.inl rfl) (rsT _ _ (.sc (.bool _)) rfl) (hp_sub (List.nil_sublist _) hk2).1 (ALe.refl _ _) ⟨rfl, rfl⟩
 have hm := Zj hm hc3
 refine Zl (H14 _ _ (Za (vA rfl (vF rfl rfl rfl (vC rfl (Zb ?_))))))
 cases hm
 exact ⟨rfl, (), hk2, LeF.s (.k5 .nil)⟩
 have hm := Zj hm hc2
 refine AW_exit ?_
 refine Seq_exit ?_
 cases hm
 exact ⟨rfl, (), hk2, LeF.s (.k5 .nil)⟩
 rintro _ r0 fr' h' hk4 hm le
 refine H10 _ _ (le.aw ?_)
 refine Za (vA rfl (vF rfl rfl rfl (vC rfl (Zb ?_))))
 cases hm
 exact ⟨rfl, (), hk4, LeF.s (.k4 .nil)⟩
 have hm := Zj hm hc1
 refine AW_exit ?_
 refine Seq_exit ?_
 cases hm
 exact ⟨rfl, (), hk1, LeF.s (.k4 .nil)⟩
 rintro _ r1 fr' h' hk5 hm le
 refine H4 _ _ (le.aw ?_)
 refine Za (vA rfl (vF rfl rfl rfl (vC rfl (Zb ?_))))
 cases hm
 exact ⟨rfl, (), hk5, LeF.s (.k3 .nil)⟩
 have hm := Zj hm hc0
 refine AW_exit ?_
 refine Seq_exit ?_
 cases hm
 exact ⟨rfl, (), hk0, LeF.s (.k3 .nil)⟩
 rintro _ r2 fr' h' hk7 hm le
 refine H8 _ _ (le.aw ?_)
 refine Zf fun K16 H17 => (Za (vD rfl (Zb (H17 _ _ (AW_ret ?_)))))
 have hmo := Option.some.inj hm; subst hmo
 exact Ret.of1 (.inl rfl) (rsT _ _ (.sc (.bool _)) rfl) (hp_sub (List.nil_sublist _) hk7).1 (ALe.refl _ _) ⟨rfl, rfl⟩
theorem bd65 : bodied Try.prog 65 = true := by kernel_rfl
open Go.Vm
def onV (v : Int) (l : List TLoc) : Bool := l.any fun y => y.Vol == v
def it1 (x : TChunk) : TItem := { Kind := 1, Id := x.Id, Seq := 0, Of := 0, Off := 0, Len := 0 }
def it2 (x : TSnap) : TItem := { Kind := 2, Id := idZ, Seq := x.Seq, Of := 0, Off := 0, Len := 0 }
def it3 (x : TExp) : TItem := { Kind := 3, Id := idZ, Seq := x.Seq, Of := x.Of, Off := 0, Len := 0 }
def onL (c : TCatalog) (v : Int) : List TItem := (c.Chunks.filter fun x => onV v x.Locs).map it1 ++ (c.Snaps.filter fun x => onV v x.Locs).map it2 ++ (c.Exps.filter fun x => onV v x.Locs).map it3
theorem cnt_loop {α ρ : Type} {l : List α} {F : Nat} (q : α → Bool) {body : Int × Int → Option (Lp (Int × Int) ρ)} (hF : l.length < F)
    (hb : ∀ (i : Nat) (x : α), l[i]? = some x → x ∈ l → i < l.length → ∀ k : Nat, k ≤ i → body ((k : Int), (i : Int)) = some (.go ((((if q x then k + 1 else k) : Nat) : Int), ((i + 1 : Nat) : Int))))
    (he : ∀ k, body (k, (l.length : Int)) = some (.brk (k, (l.length : Int)))) : loopM body F (0, 0) = some (.brk (((l.filter q).length : Int), (l.length : Int))) := by
  have := go_loop (body := body) (s0 := ((0 : Int), (0 : Int))) (n := l.length) (F := F) (fun i : Nat => ((((l.take i).filter q).length : Int), (i : Int))) hF (by simp) (fun i hi => by
    have hlen : ((l.take i).filter q).length ≤ i := Nat.le_trans (List.length_filter_le _ _) (by rw [List.length_take]; omega)
    rw [hb i l[i] (List.getElem?_eq_getElem hi) (List.getElem_mem hi) hi _ hlen]
    rw [List.take_succ_eq_append_getElem hi, List.filter_append]
    cases hq : q l[i] <;> simp [List.filter, hq]) (he _)
  simpa using this
def live (c : TCatalog) (v : Int) : Nat := ((onL c v).filter fun x => x.Kind != 1 || usedB c x.Id).length
theorem good_locs {c : TCatalog} (hg : good c = true) : (∀ x ∈ c.Chunks, locsB c x.Locs = true) ∧ (∀ x ∈ c.Snaps, locsB c x.Locs = true) ∧ (∀ x ∈ c.Exps, locsB c x.Locs = true) := by
 unfold good chsB snsB exsB at hg
 simp only [Bool.and_eq_true, Bool.not_eq_true', List.any_eq_false, List.mem_range] at hg
 obtain ⟨⟨⟨⟨-, -⟩, h1, -⟩, h2, -⟩, h3, -⟩ := hg
 refine ⟨fun x hx => ?_, fun x hx => ?_, fun x hx => ?_⟩
 ·obtain ⟨i, hi, rfl⟩ := List.getElem_of_mem hx
  have this : chB c i = true := by simpa using h1 i hi
  unfold chB at this
  rw [List.getElem?_eq_getElem hi] at this
  simp only [Bool.and_eq_true] at this
  exact this.1.2
 ·obtain ⟨i, hi, rfl⟩ := List.getElem_of_mem hx
  have this : snB c i = true ∧ snC c i = true := by simpa using h2 i hi
  replace this := this.1
  unfold snB at this
  rw [List.getElem?_eq_getElem hi] at this
  simp only [Bool.and_eq_true] at this
  exact this.2
 ·obtain ⟨i, hi, rfl⟩ := List.getElem_of_mem hx
  have this : exA c i = true ∧ exC c i = true := by simpa using h3 i hi
  replace this := this.1
  unfold exA at this
  rw [List.getElem?_eq_getElem hi] at this
  simp only [Bool.and_eq_true] at this
  exact this.2
theorem m65 {F : Nat} {c : TCatalog} {d : Id32} (hF : 1000 ≤ F) (h : Sm c) : M65 F c d = some (usedB c d) := by
 have hsn := h.sn
 unfold M65
 rw [any_loop (l := c.Snaps) (F := F) (fun s => s.Man.Parts.any fun p => p.Ids.any fun x => decide (d = x)) true (by omega) (fun i s hs hm hi => by
  obtain ⟨-, k2, k3⟩ := h.man s hm
  unfold M65_L0
  rw [wr1 (by omega), any_loop (l := s.Man.Parts) (F := F) (fun p => p.Ids.any fun x => decide (d = x)) (Lp.ret true) (by omega) (fun j p hp hm' hj => by
   have k4 := (k3 p hm').2
   unfold M65_L2
   rw [wr1 (by omega), any_loop (l := p.Ids) (F := F) (fun x => decide (d = x)) (Lp.ret (Lp.ret true)) (by omega) (fun k x hx _ hk => by
    unfold M65_L4
    rw [wr1 (by omega)]
    simp only [ix_nat, hs, hp, hx, Option.bind_some, Int.ofNat_lt, hk, decide_true, if_true, decide_eq_true_eq, eq_comm (a := x)]
    split <;> rfl) (by unfold M65_L4; simp [ix_nat, hs, hp])]
   simp only [ix_nat, hs, Option.bind_some, Int.ofNat_lt, hj, decide_true, if_true]
   cases p.Ids.any fun x => decide (d = x) <;> rfl) (by unfold M65_L2; simp [ix_nat, hs])]
  simp only [Int.ofNat_lt, hi, decide_true, if_true]
  cases s.Man.Parts.any fun p => p.Ids.any fun x => decide (d = x) <;> rfl) (by unfold M65_L0; simp)]
 unfold usedB
 cases c.Snaps.any fun s => s.Man.Parts.any fun p => p.Ids.any fun x => decide (d = x) <;> rfl
open Go.Vm
def writ (c : TCatalog) (p : Int) : Nat := (c.Vols.filter fun x => x.Pool == p && x.State != 3).length
theorem m22 {F : Nat} {c : TCatalog} {p : Int} (hF : 1000 ≤ F) (h : Sm c) : M22 F c p = some (if good c then (writ c p : Int) else 0) := by
 have hvo := h.vo
 unfold M22
 rw [m33 hF h]
 cases hg : good c
 ·simp
 ·simp only [if_true, Option.bind_some]
  rw [if_neg (by simp), cnt_loop (l := c.Vols) (F := F) (fun x => x.Pool == p && x.State != 3) (by omega) (fun i x hx hm hi k hk => by
   unfold M22_L0
   dsimp only
   rw [wr1 (i := i) (by omega), wr1 (i := k) (by omega)]
   simp only [ix_nat, hx, Option.bind_some, Int.ofNat_lt, hi, decide_true, if_true]
   cases x.Pool == p <;> cases x.State != 3 <;> rfl) (fun k => by unfold M22_L0; simp)]
  rfl
def fits (c : TCatalog) (p need : Int) (r : List Int) (nt st : Int) (i : Nat) : Bool := match c.Vols[i]?, r[i]? with
 | some x, some z => x.Pool == p && (i : Int) != nt && x.State == st && decide (need ≤ z)
 | _, _ => false
def stt (k : Nat) : Int := if k = 0 then 2 else 1
def tgt (c : TCatalog) (p need : Int) (r : List Int) (nt : Int) : Lp Int (Int × Int) :=
 LF (fun i : Nat => (i : Int)) (fun k => ((List.range c.Vols.length).find? (fits c p need r nt (stt k))).isSome) (fun k => match (List.range c.Vols.length).find? (fits c p need r nt (stt k)) with | some i => ((i : Int), 0) | none => (0, 0)) 2
theorem ix21 {k : Nat} (hk : k < 2) : ix ([2, 1] : List Int) (k : Int) = some (stt k) := by
 have : k = 0 ∨ k = 1 := by omega
 rcases this with rfl | rfl <;> rfl
theorem m16 {F : Nat} {c : TCatalog} {p need nt : Int} {r : List Int} (hF : 1000 ≤ F) (h : Sm c) (hg : good c = true) (hr : r.length = c.Vols.length) : M16 F c p need r nt = after (some (tgt c p need r nt)) fun _ => some (0, 12) := by
 have hvo := h.vo
 unfold M16
 rw [m33 hF h, hg]
 simp only [if_true, Option.bind_some]
 have e0 : ((0 : Int) != 0) = false := rfl
 have e1 : ((r.length : Int) != (c.Vols.length : Int)) = false := by rw [hr]; simp
 simp only [e0, e1, Bool.false_eq_true, if_false, after_brk]
 congr 1
 unfold tgt
 refine loop_ff (s0 := (0 : Int)) (n := 2) (F := F) _ _ _ (by omega) rfl (fun k hk _ => ?_) (fun _ => by unfold M16_L0; rfl)
 unfold M16_L0
 have hk' : (k : Int) < (([2, 1] : List Int).length : Int) := by simp; omega
 simp only [hk', decide_true, if_true, ix21 hk, Option.bind_some]
 rw [wr1 (i := k) (by omega), loop_ff (s0 := (0 : Int)) (n := c.Vols.length) (F := F) (fun i : Nat => (i : Int)) (fits c p need r nt (stt k)) (fun i => Lp.ret ((i : Int), 0)) (by omega) rfl]
 ·unfold LF
  cases (List.range c.Vols.length).find? (fits c p need r nt (stt k)) <;> rfl
 ·intro i hi _
  unfold M16_L2 fits
  have hx : c.Vols[i]? = some c.Vols[i] := List.getElem?_eq_getElem hi
  have hz : r[i]? = some r[i] := List.getElem?_eq_getElem (by omega)
  generalize c.Vols[i] = x at hx
  generalize r[i] = z at hz
  rw [wr1 (i := i) (by omega)]
  simp only [ix_nat, hx, hz, Option.bind_some, Int.ofNat_lt, hi, decide_true, if_true]
  cases x.Pool == p <;> cases (i : Int) != nt <;> cases x.State == stt k <;> cases decide (need ≤ z) <;> rfl
 ·intro _; unfold M16_L2; simp
theorem tgt_some (c : TCatalog) (p need : Int) (r : List Int) (nt : Int) : ∃ x : Int × Int, (after (some (tgt c p need r nt)) fun _ => some ((0 : Int), (12 : Int))) = some x := by
 unfold tgt LF
 cases (List.range 2).find? fun k => ((List.range c.Vols.length).find? (fits c p need r nt (stt k))).isSome with
 | none => exact ⟨_, rfl⟩
 | some k => exact ⟨_, rfl⟩
set_option maxRecDepth 100000 in
theorem m23 : M23 1000 = some true := by decide +kernel
open Go.Vm
def fidx {α : Type} (l : List α) (q : α → Bool) : Int := match (List.range l.length).find? fun i => (l[i]?).any q with
 | none => -1
 | some i => (i : Int)
theorem fidx_loop {α : Type} {l : List α} (q : α → Bool) {F : Nat} {body : Int → Option (Lp Int Int)} (hF : l.length < F)
    (hb : ∀ (i : Nat) (x : α), l[i]? = some x → x ∈ l → i < l.length → body (i : Int) = some (if q x then .ret (i : Int) else .go ((i + 1 : Nat) : Int))) (he : body (l.length : Int) = some (.brk (l.length : Int))) :
    (after (loopM body F 0) fun _ => some (-1)) = some (fidx l q) := by
  rw [loop_ff (s0 := (0 : Int)) (n := l.length) (F := F) (fun i : Nat => (i : Int)) (fun i => (l[i]?).any q) (fun i => (i : Int)) hF rfl (fun i hi _ => by
    rw [hb i l[i] (List.getElem?_eq_getElem hi) (List.getElem_mem hi) hi, List.getElem?_eq_getElem hi]; rfl) (fun _ => he)]
  unfold LF fidx
  cases (List.range l.length).find? fun i => (l[i]?).any q <;> rfl
theorem m50f {F : Nat} {c : TCatalog} {nm : ByteArray} (hF : 1000 ≤ F) (hl : c.Snaps.length < 1000) : M50 F c nm = some (fidx c.Snaps fun s => s.Man.Name.toList == nm.toList) := by
 unfold M50
 refine fidx_loop _ (by omega) (fun i x hx hm hi => ?_) (by unfold M50_L0; simp)
 unfold M50_L0
 rw [wr1 (by omega)]
 simp only [ix_nat, hx, Option.bind_some, Int.ofNat_lt, hi, decide_true, if_true]
 cases x.Man.Name.toList == nm.toList <;> simp
def newC (l : List Int) : TCatalog := { Seq := 0, Snaps := [], Chunks := [], Exps := [], Vols := l.map fun p => { Pool := p, Epoch := 0, State := 1, Files := 0 } }
theorem m32 {F : Nat} {l : List Int} (hF : 1000 ≤ F) (hl : l.length ≤ 100) : M32 F l = some (newC l) := by
  unfold M32
  rw [go_loop (s0 := (([] : List TVol), (0 : Int))) (n := l.length) (F := F) (fun i : Nat => ((l.take i).map fun p => ({ Pool := p, Epoch := 0, State := 1, Files := 0 } : TVol), (i : Int))) (by omega) (by simp) (fun i hi => by
      unfold M32_L0
      have hx : l[i]? = some l[i] := List.getElem?_eq_getElem hi
      rw [wr1 (by omega)]
      simp only [ix_nat, hx, Option.bind_some, Int.ofNat_lt, hi, decide_true, if_true]
      rw [app_some (by simp; omega), List.take_succ_eq_append_getElem hi, List.map_append]; rfl) (by unfold M32_L0; simp)]
  simp [newC, after]
def poolB (p : Int) : Bool := inR p 0 1
theorem newC_sm {l : List Int} (hl : l.length ≤ 8) (hg : gL gI l) : Sm (newC l) where
 g := by
  refine ⟨by simp [newC, gI], fun _ h => by simp [newC] at h, fun _ h => by simp [newC] at h, fun _ h => by simp [newC] at h, fun x hx => ?_⟩
  obtain ⟨p, hp, rfl⟩ := List.mem_map.1 hx
  exact ⟨hg p hp, by simp [gI], by simp [gI], by simp [gI]⟩
 sn := by simp [newC]
 ch := by simp [newC]
 ex := by simp [newC]
 vo := by simp [newC]; omega
 sl := by simp [newC]
 man := by simp [newC]
 cl := by simp [newC]
 el := by simp [newC]
theorem newC_good {l : List Int} (hl : inR l.length 1 8 = true) (hp : l.all poolB = true) : good (newC l) = true := by
 have h1 : (newC l).Vols.all volB = true := by
  rw [List.all_eq_true]
  intro x hx
  obtain ⟨p, hq, rfl⟩ := List.mem_map.1 hx
  have := List.all_eq_true.1 hp p hq
  simp only [poolB, inR, Bool.and_eq_true, decide_eq_true_eq] at this
  simp [volB, inR, this.1, this.2]
 have h2 : (newC l).Vols.length = l.length := by simp [newC]
 unfold good
 rw [h1, h2, hl]
 simp [newC, chsB, snsB, exsB, inR]
theorem snB_at {c : TCatalog} (hg : good c = true) {i : Nat} {s : TSnap} (hs : c.Snaps[i]? = some s) : snB c i = true ∧ plB c s.Man = true := by
 unfold good snsB at hg
 simp only [Bool.and_eq_true, Bool.not_eq_true', List.any_eq_false, List.mem_range] at hg
 obtain ⟨⟨⟨⟨-, -⟩, -, -⟩, h2, -⟩, -, -⟩ := hg
 have h := h2 i (List.getElem?_eq_some_iff.1 hs).1
 have h : snB c i = true ∧ snC c i = true := by simpa using h
 refine ⟨h.1, ?_⟩
 have := h.2
 unfold snC at this
 rw [hs] at this
 exact this
theorem chB_at {c : TCatalog} (hg : good c = true) {i : Nat} {x : TChunk} (hs : c.Chunks[i]? = some x) : chB c i = true := by
 unfold good chsB at hg
 simp only [Bool.and_eq_true, Bool.not_eq_true', List.any_eq_false, List.mem_range] at hg
 obtain ⟨⟨⟨⟨-, -⟩, h1, -⟩, -, -⟩, -, -⟩ := hg
 have h := h1 i (List.getElem?_eq_some_iff.1 hs).1
 simpa using h
end Go.Proofs.Ytoomgangpjcaoaa
