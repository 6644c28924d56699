import Derived.Test.YtoomgangpjcaoaaK9P3
import Derived.Test.YtoomgangpjcaoaaK9P4
set_option linter.unusedSimpArgs false
set_option linter.unusedVariables false
namespace Go.Proofs.Ytoomgangpjcaoaa
open Go.Vm
def M51_L0 (fuel : Nat) (p0 : TManifest) (q0 : Int) : Option (Lp (Int) (Bool)) :=
 if (decide (q0 < (p0.Parts.length : Int))) = true then (after ((ix p0.Parts q0).bind fun x0 => if (decide (100 < (x0.Path.size : Int))) = true then (some (.brk true)) else (ix p0.Parts q0).bind fun x1 => some (.brk (decide (40 < (x1.Ids.length : Int)))) : Option (Lp (Bool) (Lp (Int) (Bool)))) fun j0 => if j0 = true then (some (.ret true)) else some (.go (IntKind.wrap .i64 (q0 + 1)))) else some (.brk q0)
def M51 (fuel : Nat) (p0 : TManifest) : Option (Bool) :=
 after (if (decide (100 < (p0.Name.size : Int))) = true then (some (.brk true)) else some (.brk (decide (10 < (p0.Parts.length : Int)))) : Option (Lp (Bool) (Bool))) fun j8 => if j8 = true then (some true) else after (loopM (fun s => M51_L0 fuel p0 s) fuel 0) fun r0 => some false
set_option maxHeartbeats 4000000 in
set_option maxRecDepth 100000 in
theorem W51 {fuel : Nat} {p0 : TManifest} {o : Bool} (h : Heap) (hm : M51 fuel p0 = some o) :
 ACalls Try.prog 51 [.agg (c_Manifest p0)] h (fun r h' => r = .sc (.bool o) ∧ h' = h) := by
 refine ACv 39 [.tmp 2] Try.func51 rfl rfl rfl rfl ?_
 unfold M51 at hm
 refine v ?_
 refine ve fun hk => a_box hk rfl rfl fun k2 hk3 => qk hk3 rfl ?_
 refine vs (vs ?_)
 refine vjnH hm (σ := Bool) (τ := Unit) (fun g s => [(some k2, .obj 57 (c_Manifest p0))]) (fun g s => .c 1 (.ptr k2 0) (.c 13 (.sc (.bool s)) .nil)) (fun x hm => ?_) ?_
 refine v (vl 0 _ ld9 rfl rfl rfl (vn (fun _ => o_lent ln9 rfl) ?_))
 refine vi hm (fun hb9 hm => ?_) fun hb9 hm => ?_
 rw [hb9]
 exact vgo hm () trivial (lx (.k2 .nil))
 rw [hb9]
 refine vl 0 _ ld55 rfl rfl rfl (vln ln55 rfl ?_)
 exact vgo hm () trivial (lx (.k2 .nil))
 rintro _ j8 hm
 refine v ?_
 refine vi hm (fun hc0 hm => ?_) fun hc0 hm => ?_
 refine v (v ?_)
 injection hm with hm; subst hm
 exact vr1 rfl
 refine v (v ?_)
 refine vlpH hm (σ := Int) (τ := Unit) (fun g s => [(some k2, .obj 57 (c_Manifest p0))]) (fun g s => .c 1 (.ptr k2 0) (.c 3 (.sc (.int .i64 s)) .nil)) () (lx (.k2 .nil)) ?_ ?_
 rintro _ q0 x hm
 replace hm : M51_L0 fuel p0 q0 = some x := hm
 unfold M51_L0 at hm
 refine v (vl 0 _ ld55 rfl rfl rfl (vln ln55 rfl (v ?_)))
 refine vi hm (fun hc1 hm => ?_) fun hc1 hm => ?_
 refine v (v (vs ?_))
 refine vjnH hm (σ := Bool) (τ := Unit) (fun g s => [(some k2, .obj 57 (c_Manifest p0))]) (fun g s => .c 1 (.ptr k2 0) (.c 3 (.sc (.int .i64 q0)) (.c 38 (.sc (.bool s)) .nil))) (fun x hm => ?_) ?_
 refine v (vl 0 _ ld55 rfl rfl rfl ?_)
 refine vx hm el55 rfl rfl fun _ _ hm => ?_
 refine vn (fun _ => o_lent ln9 rfl) ?_
 refine vi hm (fun hb0 hm => ?_) fun hb0 hm => ?_
 rw [hb0]
 exact vgo hm () trivial (lx (.k3 .nil))
 rw [hb0]
 refine vl 0 _ ld55 rfl rfl rfl ?_
 refine vx hm el55 rfl rfl fun _ _ hm => ?_
 refine vln ln80 rfl ?_
 exact vgo hm () trivial (lx (.k3 .nil))
 rintro _ j0 hm
 refine v ?_
 refine vi hm (fun hc2 hm => ?_) fun hc2 hm => ?_
 refine v (v ?_)
 refine vrt hm fun hm => ?_
 injection hm with hm; subst hm
 exact vr1 rfl
 refine v (v ?_)
 exact vgo hm () trivial (lx (.k2 .nil))
 refine v ?_
 exact vbk hm () trivial (lx (.k2 .nil))
 rintro _ r0 hm
 refine v (v ?_)
 injection hm with hm; subst hm
 exact vr1 rfl
theorem bd51 : bodied Try.prog 51 = true := by kernel_rfl
def M13_L0 (fuel : Nat) (p0 : TCatalog) (q0 : Int) : Option (Lp (Int) (Bool)) :=
 if (decide (q0 < (p0.Snaps.length : Int))) = true then (after ((ix p0.Snaps q0).bind fun x0 => (M51 fuel x0.Man).bind fun y0 => if y0 = true then (some (.brk true)) else (ix p0.Snaps q0).bind fun x1 => some (.brk (decide (220 < (x1.Locs.length : Int)))) : Option (Lp (Bool) (Lp (Int) (Bool)))) fun j0 => if j0 = true then (some (.ret true)) else some (.go (IntKind.wrap .i64 (q0 + 1)))) else some (.brk q0)
def M13_L2 (fuel : Nat) (p0 : TCatalog) (q0 : Int) : Option (Lp (Int) (Bool)) :=
 if (decide (q0 < (p0.Chunks.length : Int))) = true then (after ((ix p0.Chunks q0).bind fun x0 => if (decide (300 < (x0.Data.length : Int))) = true then (some (.brk true)) else (ix p0.Chunks q0).bind fun x1 => some (.brk (decide (220 < (x1.Locs.length : Int)))) : Option (Lp (Bool) (Lp (Int) (Bool)))) fun j0 => if j0 = true then (some (.ret true)) else some (.go (IntKind.wrap .i64 (q0 + 1)))) else some (.brk q0)
def M13_L4 (fuel : Nat) (p0 : TCatalog) (q0 : Int) : Option (Lp (Int) (Bool)) :=
 if (decide (q0 < (p0.Exps.length : Int))) = true then ((ix p0.Exps q0).bind fun x0 => if (decide (220 < (x0.Locs.length : Int))) = true then (some (.ret true)) else some (.go (IntKind.wrap .i64 (q0 + 1)))) else some (.brk q0)
def M13 (fuel : Nat) (p0 : TCatalog) : Option (Bool) :=
 after (if (decide (12 < (p0.Snaps.length : Int))) = true then (some (.brk true)) else if (decide (220 < (p0.Chunks.length : Int))) = true then (some (.brk true)) else if (decide (220 < (p0.Exps.length : Int))) = true then (some (.brk true)) else some (.brk (decide (20 < (p0.Vols.length : Int)))) : Option (Lp (Bool) (Bool))) fun j0 => if j0 = true then (some true) else after (loopM (fun s => M13_L0 fuel p0 s) fuel 0) fun r0 => after (loopM (fun s => M13_L2 fuel p0 s) fuel 0) fun r1 => after (loopM (fun s => M13_L4 fuel p0 s) fuel 0) fun r2 => some false
set_option maxHeartbeats 4000000 in
set_option maxRecDepth 100000 in
theorem W13 {fuel : Nat} {p0 : TCatalog} {o : Bool} (h : Heap) (hm : M13 fuel p0 = some o) :
 ACalls Try.prog 13 [.agg (c_Catalog p0)] h (fun r h' => r = .sc (.bool o) ∧ h' = h) := by
 refine ACv 92 [.tmp 2] Try.func13 rfl rfl rfl rfl ?_
 unfold M13 at hm
 refine v ?_
 refine ve fun hk => a_box hk rfl rfl fun k2 hk3 => qk hk3 rfl ?_
 refine vs (vs ?_)
 refine vjnH hm (σ := Bool) (τ := Unit) (fun g s => [(some k2, .obj 27 (c_Catalog p0))]) (fun g s => .c 1 (.ptr k2 0) (.c 27 (.sc (.bool s)) .nil)) (fun x hm => ?_) ?_
 refine v (vl 0 _ ld22 rfl rfl rfl (vln ln22 rfl ?_))
 refine vi hm (fun hb0 hm => ?_) fun hb0 hm => ?_
 rw [hb0]
 exact vgo hm () trivial (lx (.k2 .nil))
 rw [hb0]
 refine vl 0 _ ld23 rfl rfl rfl (vln ln23 rfl ?_)
 refine vi hm (fun hb1 hm => ?_) fun hb1 hm => ?_
 rw [hb1]
 exact vgo hm () trivial (lx (.k2 .nil))
 rw [hb1]
 refine vl 0 _ ld24 rfl rfl rfl (vln ln24 rfl ?_)
 refine vi hm (fun hb2 hm => ?_) fun hb2 hm => ?_
 rw [hb2]
 exact vgo hm () trivial (lx (.k2 .nil))
 rw [hb2]
 refine vl 0 _ ld25 rfl rfl rfl (vln ln25 rfl ?_)
 exact vgo hm () trivial (lx (.k2 .nil))
 rintro _ j0 hm
 refine v ?_
 refine vi hm (fun hc0 hm => ?_) fun hc0 hm => ?_
 refine v (v ?_)
 injection hm with hm; subst hm
 exact vr1 rfl
 refine v (v ?_)
 refine vlpH hm (σ := Int) (τ := Unit) (fun g s => [(some k2, .obj 27 (c_Catalog p0))]) (fun g s => .c 1 (.ptr k2 0) (.c 3 (.sc (.int .i64 s)) .nil)) () (lx (.k2 .nil)) ?_ ?_
 rintro _ q0 x hm
 replace hm : M13_L0 fuel p0 q0 = some x := hm
 unfold M13_L0 at hm
 refine v (vl 0 _ ld22 rfl rfl rfl (vln ln22 rfl (v ?_)))
 refine vi hm (fun hc1 hm => ?_) fun hc1 hm => ?_
 refine v (v (vs ?_))
 refine vjnH hm (σ := Bool) (τ := Unit) (fun g s => [(some k2, .obj 27 (c_Catalog p0))]) (fun g s => .c 1 (.ptr k2 0) (.c 3 (.sc (.int .i64 q0)) (.c 51 (.sc (.bool s)) .nil))) (fun x hm => ?_) ?_
 refine v (vl 0 _ ld22 rfl rfl rfl ?_)
 refine vx hm el22 rfl rfl fun x0 _ hm => ?_
 refine va (.agg (c_Manifest x0.Man)) ld57 rfl rfl ?_
 refine vk W51 bd51 hm rfl rfl fun _ hm => ?_
 refine vi hm (fun hb3 hm => ?_) fun hb3 hm => ?_
 rw [hb3]
 exact vgo hm () trivial (lx (.k3 .nil))
 rw [hb3]
 refine vl 0 _ ld22 rfl rfl rfl ?_
 refine vx hm el22 rfl rfl fun _ _ hm => ?_
 refine vln ln58 rfl ?_
 exact vgo hm () trivial (lx (.k3 .nil))
 rintro _ j1 hm
 refine v ?_
 refine vi hm (fun hc2 hm => ?_) fun hc2 hm => ?_
 refine v (v ?_)
 refine vrt hm fun hm => ?_
 injection hm with hm; subst hm
 exact vr1 rfl
 refine v (v ?_)
 exact vgo hm () trivial (lx (.k2 .nil))
 refine v ?_
 exact vbk hm () trivial (lx (.k2 .nil))
 rintro _ r0 hm
 refine v ?_
 refine vlpH hm (σ := Int) (τ := Unit) (fun g s => [(some k2, .obj 27 (c_Catalog p0))]) (fun g s => .c 1 (.ptr k2 0) (.c 4 (.sc (.int .i64 s)) .nil)) () (lx (.k2 .nil)) ?_ ?_
 rintro _ q1 x hm
 replace hm : M13_L2 fuel p0 q1 = some x := hm
 unfold M13_L2 at hm
 refine v (vl 0 _ ld23 rfl rfl rfl (vln ln23 rfl (v ?_)))
 refine vi hm (fun hc3 hm => ?_) fun hc3 hm => ?_
 refine v (v (vs ?_))
 refine vjnH hm (σ := Bool) (τ := Unit) (fun g s => [(some k2, .obj 27 (c_Catalog p0))]) (fun g s => .c 1 (.ptr k2 0) (.c 4 (.sc (.int .i64 q1)) (.c 76 (.sc (.bool s)) .nil))) (fun x hm => ?_) ?_
 refine v (vl 0 _ ld23 rfl rfl rfl ?_)
 refine vx hm el23 rfl rfl fun _ _ hm => ?_
 refine vln ln52 rfl ?_
 refine vi hm (fun hb4 hm => ?_) fun hb4 hm => ?_
 rw [hb4]
 exact vgo hm () trivial (lx (.k3 .nil))
 rw [hb4]
 refine vl 0 _ ld23 rfl rfl rfl ?_
 refine vx hm el23 rfl rfl fun _ _ hm => ?_
 refine vln ln58 rfl ?_
 exact vgo hm () trivial (lx (.k3 .nil))
 rintro _ j2 hm
 refine v ?_
 refine vi hm (fun hc4 hm => ?_) fun hc4 hm => ?_
 refine v (v ?_)
 refine vrt hm fun hm => ?_
 injection hm with hm; subst hm
 exact vr1 rfl
 refine v (v ?_)
 exact vgo hm () trivial (lx (.k2 .nil))
 refine v ?_
 exact vbk hm () trivial (lx (.k2 .nil))
 rintro _ r1 hm
 refine v ?_
 refine vlpH hm (σ := Int) (τ := Unit) (fun g s => [(some k2, .obj 27 (c_Catalog p0))]) (fun g s => .c 1 (.ptr k2 0) (.c 5 (.sc (.int .i64 s)) .nil)) () (lx (.k2 .nil)) ?_ ?_
 rintro _ q2 x hm
 replace hm : M13_L4 fuel p0 q2 = some x := hm
 unfold M13_L4 at hm
 refine v (vl 0 _ ld24 rfl rfl rfl (vln ln24 rfl (v ?_)))
 refine vi hm (fun hc5 hm => ?_) fun hc5 hm => ?_
 refine v (v (v (vl 0 _ ld24 rfl rfl rfl ?_)))
 refine vx hm el24 rfl rfl fun _ _ hm => ?_
 refine vln ln58 rfl (v ?_)
 refine vi hm (fun hc6 hm => ?_) fun hc6 hm => ?_
 refine v (v ?_)
 refine vrt hm fun hm => ?_
 injection hm with hm; subst hm
 exact vr1 rfl
 refine v (v ?_)
 exact vgo hm () trivial (lx (.k2 .nil))
 refine v ?_
 exact vbk hm () trivial (lx (.k2 .nil))
 rintro _ r2 hm
 refine v (v ?_)
 injection hm with hm; subst hm
 exact vr1 rfl
theorem bd13 : bodied Try.prog 13 = true := by kernel_rfl
def M53 (fuel : Nat) (p0 : List TLoc) : Option ((List TLoc)) :=
 (app ([] : List TLoc) p0).bind fun z4 => some z4
set_option maxHeartbeats 4000000 in
set_option maxRecDepth 100000 in
theorem W53 {fuel : Nat} {p0 : List TLoc} {o : (List TLoc)} (h : Heap) (hm : M53 fuel p0 = some o) :
 ACalls Try.prog 53 [.sl none 4 (List.map c_Loc p0)] h (fun r h' => r = .sl none 4 (List.map c_Loc o) ∧ h' = h) := by
 refine ACv 7 [.tmp 2] Try.func53 rfl rfl rfl rfl ?_
 unfold M53 at hm
 refine v (v (v ?_))
 obtain ⟨z4, hz5, hm⟩ := Zc hm
 refine ve fun hk => a_app0 (c := c_Loc) hz5 et58 rfl rfl hk nofun rfl fun tg6 ot7 hk8 => qk hk8 rfl ?_
 refine v ?_
 injection hm with hm; subst hm
 exact vr fun hk => Ret.of1 (.inl rfl) (rsT _ _ (ow _ _ _) rfl) (hp_sub (List.nil_sublist _) hk).1 ((own_frz0 _ 0 ot7 hk rfl)) ⟨rfl, rfl⟩
theorem bd53 : bodied Try.prog 53 = true := by kernel_rfl
def M100 (fuel : Nat) (p0 : List Int) : Option ((List Int)) :=
 (app ([] : List Int) p0).bind fun z4 => some z4
set_option maxHeartbeats 4000000 in
set_option maxRecDepth 100000 in
theorem W100 {fuel : Nat} {p0 : List Int} {o : (List Int)} (h : Heap) (hm : M100 fuel p0 = some o) :
 ACalls Try.prog 100 [.sl none 1 (List.map c_u8 p0)] h (fun r h' => r = .sl none 1 (List.map c_u8 o) ∧ h' = h) := by
 refine ACv 7 [.tmp 2] Try.func100 rfl rfl rfl rfl ?_
 unfold M100 at hm
 refine v (v (v ?_))
 obtain ⟨z4, hz5, hm⟩ := Zc hm
 refine ve fun hk => a_app0 (c := c_u8) hz5 et52 rfl rfl hk nofun rfl fun tg6 ot7 hk8 => qk hk8 rfl ?_
 refine v ?_
 injection hm with hm; subst hm
 exact vr fun hk => Ret.of1 (.inl rfl) (rsT _ _ (ow _ _ _) rfl) (hp_sub (List.nil_sublist _) hk).1 ((own_frz0 _ 0 ot7 hk rfl)) ⟨rfl, rfl⟩
theorem bd100 : bodied Try.prog 100 = true := by kernel_rfl
def M52_L0 (fuel : Nat) (p0 : TManifest) (q0 : List TPart) (q1 : Int) : Option (Lp ((List TPart) × Int) (TManifest)) :=
 if (decide (q1 < (p0.Parts.length : Int))) = true then ((ix p0.Parts q1).bind fun x0 => (app ([] : List Id32) x0.Ids).bind fun z0 => (app q0 ([({ Path := x0.Path, Size := x0.Size, Ids := z0 } : TPart)] : List TPart)).bind fun z1 => some (.go (z1, IntKind.wrap .i64 (q1 + 1)))) else some (.brk (q0, q1))
def M52 (fuel : Nat) (p0 : TManifest) : Option (TManifest) :=
 after (loopM (fun s => M52_L0 fuel p0 s.1 s.2) fuel ([], 0)) fun ⟨r0, r1⟩ => some ({ Name := p0.Name, Parts := r0 } : TManifest)
set_option maxHeartbeats 4000000 in
set_option maxRecDepth 100000 in
theorem W52 {fuel : Nat} {p0 : TManifest} {o : TManifest} (h : Heap) (hm : M52 fuel p0 = some o) :
 ACalls Try.prog 52 [.agg (c_Manifest p0)] h (fun r h' => r = .agg (c_Manifest o) ∧ h' = h) := by
 refine ACv 31 [.cell 2 57] Try.func52 rfl rfl rfl rfl ?_
 unfold M52 at hm
 refine v ?_
 refine ve fun hk => a_box hk rfl rfl fun k2 hk3 => qk hk3 rfl ?_
 refine ve fun hk => a_alloc ([.sc (.string ByteArray.empty), .sc (.slice none 0 0)]) hk zr57 rfl rfl fun k5 hk6 => qk hk6 rfl ?_
 refine v (v (vle (lno (.tok 82 3 (([] : List TPart).length * 3)) 3 (ow none 3 (List.map c_Part [])) (ow_nil _ _)) ?_))
 refine vlp hm (σ := (List TPart) × Int) (τ := Option Key) (fun g s => [(g, .tok 82 3 ((s.1 : List TPart).length * 3)), (some k5, .obj 57 ([.sc (.string ByteArray.empty), .sc (.slice none 0 0)])), (some k2, .obj 57 (c_Manifest p0))]) (fun g s => (g = none → s.1 = [])) (fun g s => .c 1 (.ptr k2 0) (.c 2 (.ptr k5 0) (.c 3 (ow g 3 (List.map c_Part s.1)) (.c 4 (.sc (.int .i64 s.2)) .nil)))) none (fun _ => rfl) (lx (.k4 .nil)) ?_ ?_
 rintro tg0 ⟨q0, q1⟩ x ot0 hm
 replace hm : M52_L0 fuel p0 q0 q1 = some x := hm
 unfold M52_L0 at hm
 refine v (vl 2 _ ld55 rfl rfl rfl (vln ln55 rfl (v ?_)))
 refine vi hm (fun hc0 hm => ?_) fun hc0 hm => ?_
 refine v (v (v (vl 2 _ ld55 rfl rfl rfl ?_)))
 refine vx hm el55 rfl rfl fun x0 _ hm => ?_
 refine va (.agg (c_Part x0)) ld82 rfl rfl ?_
 refine ve fun hk => a_alloc ([.sc (.string ByteArray.empty), .sc (.int .i64 0), .sc (.slice none 0 0)]) hk zr82 rfl rfl fun k103 hk0 => qk hk0 rfl ?_
 refine ve fun hk => a_store 0 (c_Part x0) hk rfl rfl rfl rfl sz82 rfl rfl fun hk1 => qk hk1 rfl ?_
 refine v (v (vl 0 _ ld80 rfl rfl rfl ?_))
 obtain ⟨z0, hz0, hm⟩ := Zc hm
 refine ve fun hk => a_app0 (c := c_id) hz0 et80 rfl rfl hk nofun rfl fun tg1 ot1 hk2 => qk hk2 rfl ?_
 refine ve fun hk => a_store 1 ([.sc (.string x0.Path), .sc (.int .i64 x0.Size), ow tg1 32 (List.map c_id z0)]) hk rfl rfl (cellsOf_ow rfl) (all_ow _ _ _) sz80 rfl rfl fun hk4 => qk hk4 rfl ?_
 refine v (vl 1 (.agg ([.sc (.string x0.Path), .sc (.int .i64 x0.Size), ow tg1 32 (List.map c_id z0)])) ld82 rfl rfl rfl ?_)
 refine ve fun hk => AOp_sfz (t := 25) (.agg (c_Part ({ Path := x0.Path, Size := x0.Size, Ids := z0 } : TPart))) (hp_sub (.cons _ (.refl _)) hk).1 (ALe.agg (.k2 (.cons (own_frzE _ 0 ot1 hk rfl (.refl _)) .nil))) (a_v (o_lit (List.map c_Part ([({ Path := x0.Path, Size := x0.Size, Ids := z0 } : TPart)] : List TPart)) et55 rfl rfl rfl rfl) (qk ((hp_sub (.cons _ (.refl _)) hk).2) rfl ?_))
 obtain ⟨z1, hz1, hm⟩ := Zc hm
 refine ve fun hk => a_app (c := c_Part) 1 hz1 et55 rfl rfl rfl ot0 hk rfl fun tg2 ot2 hk5 => qk hk5 rfl ?_
 refine v ?_
 exact vgo hm tg2 ot2 (lxs [1, 2, 3] rfl rfl (.k4 .nil))
 refine v ?_
 exact vbk hm tg0 ot0 (lx (.k4 .nil))
 rintro tg3 ⟨r0, r1⟩ ot3 hm
 refine v ?_
 refine ve fun hk => a_store 2 ([.sc (.string p0.Name), ow tg3 3 (List.map c_Part r0)]) hk rfl rfl (cellsOf_ow rfl) (all_ow _ _ _) sz55 rfl rfl fun hk7 => qk hk7 rfl ?_
 refine v (vl 2 (.agg ([.sc (.string p0.Name), ow tg3 3 (List.map c_Part r0)])) ld57 rfl rfl rfl ?_)
 refine ve fun hk => a_store 1 ([.sc (.string p0.Name), ow tg3 3 (List.map c_Part r0)]) hk rfl rfl rfl (by repeat (first | exact rfl | refine all_c (ocell_ow _ _ _) ?_ | refine all_c (ocell_aw _ _ _) ?_ | refine all_c rfl ?_)) sz57 rfl rfl fun hk8 => qk hk8 rfl ?_
 refine v ?_
 cases hm
 exact vr fun hk => Ret.of1 (.inl rfl) (rsC (.agg ([.sc (.string p0.Name), ow tg3 3 (List.map c_Part r0)])) ld57 rfl (Zd 1 hk rfl) rfl) (hp_sub (List.nil_sublist _) hk).1 (ALe.agg (.cons (ALe.refl _ _) (.cons ((own_frz0 _ 0 ot3 hk rfl)) .nil))) ⟨rfl, rfl⟩
theorem bd52 : bodied Try.prog 52 = true := by kernel_rfl
def M54_L0 (fuel : Nat) (p0 : List TChunk) (q0 : List TChunk) (q1 : Int) : Option (Lp ((List TChunk) × Int) ((List TChunk))) :=
 if (decide (q1 < (p0.length : Int))) = true then ((ix p0 q1).bind fun x0 => (M100 fuel x0.Data).bind fun y0 => (M53 fuel x0.Locs).bind fun y1 => (app q0 ([{ { x0 with Data := y0 } with Locs := y1 }] : List TChunk)).bind fun z0 => some (.go (z0, IntKind.wrap .i64 (q1 + 1)))) else some (.brk (q0, q1))
def M54 (fuel : Nat) (p0 : List TChunk) : Option ((List TChunk)) :=
 after (loopM (fun s => M54_L0 fuel p0 s.1 s.2) fuel ([], 0)) fun ⟨r0, r1⟩ => some r0
set_option maxHeartbeats 4000000 in
set_option maxRecDepth 100000 in
theorem W54 {fuel : Nat} {p0 : List TChunk} {o : (List TChunk)} (h : Heap) (hm : M54 fuel p0 = some o) :
 ACalls Try.prog 54 [.sl none 35 (List.map c_Chunk p0)] h (fun r h' => r = .sl none 35 (List.map c_Chunk o) ∧ h' = h) := by
 refine ACv 29 [.tmp 2] Try.func54 rfl rfl rfl rfl ?_
 unfold M54 at hm
 refine v (v (v (vle (lno (.tok 63 35 (([] : List TChunk).length * 35)) 3 (ow none 35 (List.map c_Chunk [])) (ow_nil _ _)) ?_)))
 refine vlp hm (σ := (List TChunk) × Int) (τ := Option Key) (fun g s => [(g, .tok 63 35 ((s.1 : List TChunk).length * 35))]) (fun g s => (g = none → s.1 = [])) (fun g s => .c 0 (.sl none 35 (List.map c_Chunk p0)) (.c 3 (ow g 35 (List.map c_Chunk s.1)) (.c 4 (.sc (.int .i64 s.2)) .nil))) none (fun _ => rfl) (lx (.k3 .nil)) ?_ ?_
 rintro tg0 ⟨q0, q1⟩ x ot0 hm
 replace hm : M54_L0 fuel p0 q0 q1 = some x := hm
 unfold M54_L0 at hm
 refine v (vln ln23 rfl (v ?_))
 refine vi hm (fun hc0 hm => ?_) fun hc0 hm => ?_
 refine v (v (v ?_))
 refine vx hm el23 rfl rfl fun x0 _ hm => ?_
 refine va (.agg (c_Chunk x0)) ld63 rfl rfl ?_
 refine ve fun hk => a_alloc (c_id idZ ++ ([.sc (.bool false), .sc (.slice none 0 0), .sc (.slice none 0 0)] : List AV)) hk zr63 rfl rfl fun k109 hk0 => qk hk0 rfl ?_
 refine ve fun hk => a_store 0 (c_Chunk x0) hk rfl rfl rfl rfl sz63 rfl rfl fun hk1 => qk hk1 rfl ?_
 refine v ?_
 refine vz [(7, some k109, .obj 63 (c_Chunk x0))] mixed (fun hk => ⟨fun _ => hp_at 0 hk rfl, trivial⟩) fun hk => ?_
 refine z_w 0 rfl (fun S' h' hi hB => Zh fd63_2 rfl rfl) ?_
 refine z_w 1 rfl (fun S' h' hi hB => Zg (.sl none 1 (List.map c_u8 x0.Data)) ld52 rfl (At.s (InvL.get 0 hi rfl (hB 7 (by kernel_rfl)))) rfl) ?_
 obtain ⟨y0, hy0, hm⟩ := Zc hm
 refine z_w 2 rfl (fun S' h' hi hB => o_call (W100 _ hy0) rfl bd100 rfl) ?_
 refine z_w 3 rfl (fun S' h' hi hB => Zh fd63_3 rfl rfl) ?_
 refine z_w 4 rfl (fun S' h' hi hB => Zg (.sl none 4 (List.map c_Loc x0.Locs)) ld58 rfl (At.s (InvL.get 0 hi rfl (hB 7 (by kernel_rfl)))) rfl) ?_
 obtain ⟨y1, hy1, hm⟩ := Zc hm
 refine z_w 5 rfl (fun S' h' hi hB => o_call (W53 _ hy1) rfl bd53 rfl) ?_
 refine z_w 6 rfl (fun S' h' hi hB => Zh fd63_2 rfl rfl) ?_
 refine z_e 7 rfl (by kernel_rfl) (a_store 0 (c_Chunk { x0 with Data := y0 }) hk rfl rfl rfl rfl sz52 rfl rfl fun hk2 => ⟨⟨fun e => absurd e (by decide), trivial⟩, ?_⟩)
 refine z_w 8 rfl (fun S' h' hi hB => Zh fd63_3 rfl rfl) ?_
 refine z_e 9 rfl (by kernel_rfl) (a_store 0 (c_Chunk { { x0 with Data := y0 } with Locs := y1 }) hk2 rfl rfl rfl rfl sz58 rfl rfl fun hk3 => ⟨⟨fun e => absurd e (by decide), trivial⟩, ?_⟩)
 refine z_nil (by kernel_rfl) (qk (f := .c 23 _ (.c 22 _ (.c 21 _ (.c 20 _ (.c 19 _ (.c 18 _ (.c 17 _ (.c 16 _ _)))))))) hk3 rfl ?_)
 refine v (vl 0 (.agg (c_Chunk { { x0 with Data := y0 } with Locs := y1 })) ld63 rfl rfl rfl (vn (fun _ => o_lit (List.map c_Chunk ([{ { x0 with Data := y0 } with Locs := y1 }] : List TChunk)) et23 rfl rfl rfl rfl) ?_))
 obtain ⟨z0, hz0, hm⟩ := Zc hm
 refine ve fun hk => a_app (c := c_Chunk) 1 hz0 et23 rfl rfl rfl ot0 hk rfl fun tg1 ot1 hk4 => qk hk4 rfl ?_
 refine v ?_
 exact vgo hm tg1 ot1 (lxs [1] rfl rfl (.k3 .nil))
 refine v ?_
 exact vbk hm tg0 ot0 (lx (.k3 .nil))
 rintro tg2 ⟨r0, r1⟩ ot2 hm
 refine v (v ?_)
 injection hm with hm; subst hm
 exact vr fun hk => Ret.of1 (.inl rfl) (rsT _ _ (ow _ _ _) rfl) (hp_sub (List.nil_sublist _) hk).1 ((own_frz0 _ 0 ot2 hk rfl)) ⟨rfl, rfl⟩
theorem bd54 : bodied Try.prog 54 = true := by kernel_rfl
def M14_L0 (fuel : Nat) (p0 : TCatalog) (q0 : List TSnap) (q1 : Int) : Option (Lp ((List TSnap) × Int) (TCatalog)) :=
 if (decide (q1 < (p0.Snaps.length : Int))) = true then ((ix p0.Snaps q1).bind fun x0 => (M52 fuel x0.Man).bind fun y0 => (M53 fuel x0.Locs).bind fun y1 => (app q0 ([{ { x0 with Man := y0 } with Locs := y1 }] : List TSnap)).bind fun z0 => some (.go (z0, IntKind.wrap .i64 (q1 + 1)))) else some (.brk (q0, q1))
def M14_L2 (fuel : Nat) (p0 : TCatalog) (q0 : List TExp) (q1 : Int) : Option (Lp ((List TExp) × Int) (TCatalog)) :=
 if (decide (q1 < (p0.Exps.length : Int))) = true then ((ix p0.Exps q1).bind fun x0 => (M53 fuel x0.Locs).bind fun y0 => (app q0 ([{ x0 with Locs := y0 }] : List TExp)).bind fun z0 => some (.go (z0, IntKind.wrap .i64 (q1 + 1)))) else some (.brk (q0, q1))
def M14 (fuel : Nat) (p0 : TCatalog) : Option (TCatalog) :=
 after (loopM (fun s => M14_L0 fuel p0 s.1 s.2) fuel ([], 0)) fun ⟨r0, r1⟩ => after (loopM (fun s => M14_L2 fuel p0 s.1 s.2) fuel ([], 0)) fun ⟨r2, r3⟩ => (M54 fuel p0.Chunks).bind fun y0 => (app ([] : List TVol) p0.Vols).bind fun z0 => some ({ Seq := p0.Seq, Snaps := r0, Chunks := y0, Exps := r2, Vols := z0 } : TCatalog)
set_option maxHeartbeats 4000000 in
set_option maxRecDepth 100000 in
theorem W14 {fuel : Nat} {p0 : TCatalog} {o : TCatalog} (h : Heap) (hm : M14 fuel p0 = some o) :
 ACalls Try.prog 14 [.agg (c_Catalog p0)] h (fun r h' => r = .agg (c_Catalog o) ∧ h' = h) := by
 refine ACv 68 [.cell 2 27] Try.func14 rfl rfl rfl rfl ?_
 unfold M14 at hm
 refine v ?_
 refine ve fun hk => a_box hk rfl rfl fun k2 hk3 => qk hk3 rfl ?_
 refine ve fun hk => a_alloc ([.sc (.int .i64 0), .sc (.slice none 0 0), .sc (.slice none 0 0), .sc (.slice none 0 0), .sc (.slice none 0 0)]) hk zr27 rfl rfl fun k5 hk6 => qk hk6 rfl ?_
 refine v (v (vle (lno (.tok 60 4 (([] : List TSnap).length * 4)) 3 (ow none 4 (List.map c_Snap [])) (ow_nil _ _)) ?_))
 refine vlp hm (σ := (List TSnap) × Int) (τ := Option Key) (fun g s => [(g, .tok 60 4 ((s.1 : List TSnap).length * 4)), (some k5, .obj 27 ([.sc (.int .i64 0), .sc (.slice none 0 0), .sc (.slice none 0 0), .sc (.slice none 0 0), .sc (.slice none 0 0)])), (some k2, .obj 27 (c_Catalog p0))]) (fun g s => (g = none → s.1 = [])) (fun g s => .c 1 (.ptr k2 0) (.c 2 (.ptr k5 0) (.c 3 (ow g 4 (List.map c_Snap s.1)) (.c 4 (.sc (.int .i64 s.2)) .nil)))) none (fun _ => rfl) (lx (.k4 .nil)) ?_ ?_
 rintro tg0 ⟨q0, q1⟩ x ot0 hm
 replace hm : M14_L0 fuel p0 q0 q1 = some x := hm
 unfold M14_L0 at hm
 refine v (vl 2 _ ld22 rfl rfl rfl (vln ln22 rfl (v ?_)))
 refine vi hm (fun hc0 hm => ?_) fun hc0 hm => ?_
 refine v (v (v (vl 2 _ ld22 rfl rfl rfl ?_)))
 refine vx hm el22 rfl rfl fun x0 _ hm => ?_
 refine va (.agg (c_Snap x0)) ld60 rfl rfl ?_
 refine ve fun hk => a_alloc ([.sc (.int .i64 0), .sc (.string ByteArray.empty), .sc (.slice none 0 0), .sc (.slice none 0 0)]) hk zr60 rfl rfl fun k115 hk0 => qk hk0 rfl ?_
 refine ve fun hk => a_store 0 (c_Snap x0) hk rfl rfl rfl rfl sz60 rfl rfl fun hk1 => qk hk1 rfl ?_
 refine v ?_
 refine vz [(7, some k115, .obj 60 (c_Snap x0))] mixed (fun hk => ⟨fun _ => hp_at 0 hk rfl, trivial⟩) fun hk => ?_
 refine z_w 0 rfl (fun S' h' hi hB => Zh fd60_1 rfl rfl) ?_
 refine z_w 1 rfl (fun S' h' hi hB => Zg (.agg (c_Manifest x0.Man)) ld57 rfl (At.s (InvL.get 0 hi rfl (hB 7 (by kernel_rfl)))) rfl) ?_
 obtain ⟨y0, hy0, hm⟩ := Zc hm
 refine z_w 2 rfl (fun S' h' hi hB => o_call (W52 _ hy0) rfl bd52 rfl) ?_
 refine z_w 3 rfl (fun S' h' hi hB => Zh fd60_2 rfl rfl) ?_
 refine z_w 4 rfl (fun S' h' hi hB => Zg (.sl none 4 (List.map c_Loc x0.Locs)) ld58 rfl (At.s (InvL.get 0 hi rfl (hB 7 (by kernel_rfl)))) rfl) ?_
 obtain ⟨y1, hy1, hm⟩ := Zc hm
 refine z_w 5 rfl (fun S' h' hi hB => o_call (W53 _ hy1) rfl bd53 rfl) ?_
 refine z_w 6 rfl (fun S' h' hi hB => Zh fd60_1 rfl rfl) ?_
 refine z_e 7 rfl (by kernel_rfl) (a_store 0 (c_Snap { x0 with Man := y0 }) hk rfl rfl rfl rfl sz57 rfl rfl fun hk2 => ⟨⟨fun e => absurd e (by decide), trivial⟩, ?_⟩)
 refine z_w 8 rfl (fun S' h' hi hB => Zh fd60_2 rfl rfl) ?_
 refine z_e 9 rfl (by kernel_rfl) (a_store 0 (c_Snap { { x0 with Man := y0 } with Locs := y1 }) hk2 rfl rfl rfl rfl sz58 rfl rfl fun hk4 => ⟨⟨fun e => absurd e (by decide), trivial⟩, ?_⟩)
 refine z_nil (by kernel_rfl) (qk (f := .c 29 _ (.c 28 _ (.c 27 _ (.c 26 _ (.c 25 _ (.c 24 _ (.c 23 _ (.c 22 _ _)))))))) hk4 rfl ?_)
 refine v (vl 0 (.agg (c_Snap { { x0 with Man := y0 } with Locs := y1 })) ld60 rfl rfl rfl (vn (fun _ => o_lit (List.map c_Snap ([{ { x0 with Man := y0 } with Locs := y1 }] : List TSnap)) et22 rfl rfl rfl rfl) ?_))
 obtain ⟨z0, hz0, hm⟩ := Zc hm
 refine ve fun hk => a_app (c := c_Snap) 1 hz0 et22 rfl rfl rfl ot0 hk rfl fun tg1 ot1 hk5 => qk hk5 rfl ?_
 refine v ?_
 exact vgo hm tg1 ot1 (lxs [1, 2, 3] rfl rfl (.k4 .nil))
 refine v ?_
 exact vbk hm tg0 ot0 (lx (.k4 .nil))
 rintro tg2 ⟨r0, r1⟩ ot2 hm
 refine v (v (vle (lno (.tok 65 3 (([] : List TExp).length * 3)) 6 (ow none 3 (List.map c_Exp [])) (ow_nil _ _)) ?_))
 refine vlp hm (σ := (List TExp) × Int) (τ := Option Key) (fun g s => [(g, .tok 65 3 ((s.1 : List TExp).length * 3)), (tg2, .tok 60 4 ((r0 : List TSnap).length * 4)), (some k5, .obj 27 ([.sc (.int .i64 0), .sc (.slice none 0 0), .sc (.slice none 0 0), .sc (.slice none 0 0), .sc (.slice none 0 0)])), (some k2, .obj 27 (c_Catalog p0))]) (fun g s => (g = none → s.1 = [])) (fun g s => .c 1 (.ptr k2 0) (.c 2 (.ptr k5 0) (.c 3 (ow tg2 4 (List.map c_Snap r0)) (.c 6 (ow g 3 (List.map c_Exp s.1)) (.c 7 (.sc (.int .i64 s.2)) .nil))))) none (fun _ => rfl) (lx (.k5 .nil)) ?_ ?_
 rintro tg3 ⟨q2, q3⟩ x ot3 hm
 replace hm : M14_L2 fuel p0 q2 q3 = some x := hm
 unfold M14_L2 at hm
 refine v (vl 3 _ ld24 rfl rfl rfl (vln ln24 rfl (v ?_)))
 refine vi hm (fun hc1 hm => ?_) fun hc1 hm => ?_
 refine v (v (v (vl 3 _ ld24 rfl rfl rfl ?_)))
 refine vx hm el24 rfl rfl fun x1 _ hm => ?_
 refine va (.agg (c_Exp x1)) ld65 rfl rfl ?_
 refine ve fun hk => a_alloc ([.sc (.int .i64 0), .sc (.int .i64 0), .sc (.slice none 0 0)]) hk zr65 rfl rfl fun k221 hk7 => qk hk7 rfl ?_
 refine ve fun hk => a_store 0 (c_Exp x1) hk rfl rfl rfl rfl sz65 rfl rfl fun hk8 => qk hk8 rfl ?_
 refine v (vl 0 _ ld58 rfl rfl rfl ?_)
 refine vk W53 bd53 hm rfl rfl fun y2 hm => ?_
 refine ve fun hk => a_store 0 (c_Exp { x1 with Locs := y2 }) hk rfl rfl rfl rfl sz58 rfl rfl fun hk9 => qk hk9 rfl ?_
 refine v (vl 0 (.agg (c_Exp { x1 with Locs := y2 })) ld65 rfl rfl rfl (vn (fun _ => o_lit (List.map c_Exp ([{ x1 with Locs := y2 }] : List TExp)) et24 rfl rfl rfl rfl) ?_))
 obtain ⟨z1, hz1, hm⟩ := Zc hm
 refine ve fun hk => a_app (c := c_Exp) 1 hz1 et24 rfl rfl rfl ot3 hk rfl fun tg4 ot4 hk10 => qk hk10 rfl ?_
 refine v ?_
 exact vgo hm tg4 ot4 (lxs [1, 2, 3, 4] rfl rfl (.k5 .nil))
 refine v ?_
 exact vbk hm tg3 ot3 (lx (.k5 .nil))
 rintro tg5 ⟨r2, r3⟩ ot5 hm
 refine v (v ?_)
 refine vz [(10, some k2, .obj 27 (c_Catalog p0))] mixed (fun hk => ⟨fun _ => hp_at 3 hk rfl, trivial⟩) fun hk => ?_
 refine z_w 0 rfl (fun S' h' hi hB => o_mv (ow _ _ _) rfl) ?_
 refine z_w 1 rfl (fun S' h' hi hB => Zh fd27_2 rfl rfl) ?_
 refine z_w 2 rfl (fun S' h' hi hB => Zg (.sl none 35 (List.map c_Chunk p0.Chunks)) ld23 rfl (At.s (InvL.get 0 hi rfl (hB 10 (by kernel_rfl)))) rfl) ?_
 obtain ⟨y3, hy2, hm⟩ := Zc hm
 refine z_w 3 rfl (fun S' h' hi hB => o_call (W54 _ hy2) rfl bd54 rfl) ?_
 refine z_w 4 rfl (fun S' h' hi hB => o_mv (ow _ _ _) rfl) ?_
 refine z_w 5 rfl (fun S' h' hi hB => o_mv (.sc (.slice _ _ _)) rfl) ?_
 refine z_w 6 rfl (fun S' h' hi hB => Zh fd27_4 rfl rfl) ?_
 refine z_w 7 rfl (fun S' h' hi hB => Zg (.sl none 4 (List.map c_Vol p0.Vols)) ld25 rfl (At.s (InvL.get 0 hi rfl (hB 10 (by kernel_rfl)))) rfl) ?_
 refine z_w 9 rfl (fun S' h' hi hB => Zh fd27_1 rfl rfl) ?_
 obtain ⟨z2, hz2, hm⟩ := Zc hm
 refine z_e 8 rfl (by kernel_rfl) (a_app0 (c := c_Vol) hz2 et25 rfl rfl hk nofun rfl fun tg6 ot6 hk11 => ⟨⟨fun _ => hp_at 4 hk11 rfl, trivial⟩, ?_⟩)
 refine z_e 10 rfl (by kernel_rfl) (a_store 4 ([.sc (.int .i64 p0.Seq), ow tg2 4 (List.map c_Snap r0), .sl none 35 (List.map c_Chunk p0.Chunks), .sl none 3 (List.map c_Exp p0.Exps), .sl none 4 (List.map c_Vol p0.Vols)]) hk11 rfl rfl (cellsOf_ow rfl) (all_ow _ _ _) sz22 rfl rfl fun hk12 => ⟨⟨fun e => absurd e (by decide), trivial⟩, ?_⟩)
 refine z_w 11 rfl (fun S' h' hi hB => Zh fd27_2 rfl rfl) ?_
 refine z_e 12 rfl (by kernel_rfl) (a_store 4 ([.sc (.int .i64 p0.Seq), ow tg2 4 (List.map c_Snap r0), .sl none 35 (List.map c_Chunk y3), .sl none 3 (List.map c_Exp p0.Exps), .sl none 4 (List.map c_Vol p0.Vols)]) hk12 rfl rfl rfl rfl sz23 rfl rfl fun hk13 => ⟨⟨fun e => absurd e (by decide), trivial⟩, ?_⟩)
 refine z_w 13 rfl (fun S' h' hi hB => Zh fd27_3 rfl rfl) ?_
 refine z_e 14 rfl (by kernel_rfl) (a_store 4 ([.sc (.int .i64 p0.Seq), ow tg2 4 (List.map c_Snap r0), .sl none 35 (List.map c_Chunk y3), ow tg5 3 (List.map c_Exp r2), .sl none 4 (List.map c_Vol p0.Vols)]) hk13 rfl rfl (cellsOf_ow rfl) (all_ow _ _ _) sz24 rfl rfl fun hk14 => ⟨⟨fun e => absurd e (by decide), trivial⟩, ?_⟩)
 refine z_w 15 rfl (fun S' h' hi hB => Zh fd27_4 rfl rfl) ?_
 refine z_e 16 rfl (by kernel_rfl) (a_store 4 ([.sc (.int .i64 p0.Seq), ow tg2 4 (List.map c_Snap r0), .sl none 35 (List.map c_Chunk y3), ow tg5 3 (List.map c_Exp r2), ow tg6 4 (List.map c_Vol z2)]) hk14 rfl rfl (cellsOf_ow rfl) (all_ow _ _ _) sz25 rfl rfl fun hk15 => ⟨⟨fun e => absurd e (by decide), trivial⟩, ?_⟩)
 refine z_nil (by kernel_rfl) (qk (f := .c 66 _ (.c 65 _ (.c 64 _ (.c 62 _ (.c 63 _ (.c 61 _ (.c 60 _ (.c 59 _ (.c 58 _ (.c 57 _ (.c 56 _ (.c 55 _ (.c 54 _ _))))))))))))) hk15 rfl ?_)
 refine v (vl 4 (.agg ([.sc (.int .i64 p0.Seq), ow tg2 4 (List.map c_Snap r0), .sl none 35 (List.map c_Chunk y3), ow tg5 3 (List.map c_Exp r2), ow tg6 4 (List.map c_Vol z2)])) ld27 rfl rfl rfl ?_)
 refine ve fun hk => a_store 3 ([.sc (.int .i64 p0.Seq), ow tg2 4 (List.map c_Snap r0), .sl none 35 (List.map c_Chunk y3), ow tg5 3 (List.map c_Exp r2), ow tg6 4 (List.map c_Vol z2)]) hk rfl rfl rfl (by repeat (first | exact rfl | refine all_c (ocell_ow _ _ _) ?_ | refine all_c (ocell_aw _ _ _) ?_ | refine all_c rfl ?_)) sz27 rfl rfl fun hk16 => qk hk16 rfl ?_
 refine v ?_
 cases hm
 exact vr fun hk => Ret.of1 (.inl rfl) (rsC (.agg ([.sc (.int .i64 p0.Seq), ow tg2 4 (List.map c_Snap r0), .sl none 35 (List.map c_Chunk y3), ow tg5 3 (List.map c_Exp r2), ow tg6 4 (List.map c_Vol z2)])) ld27 rfl (Zd 3 hk rfl) rfl) (hp_sub (List.nil_sublist _) hk).1 (ALe.agg (.cons (ALe.refl _ _) (.cons ((own_frz0 _ 2 ot2 hk rfl)) (.cons (ALe.refl _ _) (.cons ((own_frz0 _ 1 ot5 hk rfl)) (.cons ((own_frz0 _ 0 ot6 hk rfl)) .nil)))))) ⟨rfl, rfl⟩
theorem bd14 : bodied Try.prog 14 = true := by kernel_rfl
def M15 (fuel : Nat) (p0 : List Int) : Option ((List Int)) :=
 (app ([] : List Int) p0).bind fun z4 => some z4
set_option maxHeartbeats 4000000 in
set_option maxRecDepth 100000 in
theorem W15 {fuel : Nat} {p0 : List Int} {o : (List Int)} (h : Heap) (hm : M15 fuel p0 = some o) :
 ACalls Try.prog 15 [.sl none 1 (List.map c_i64 p0)] h (fun r h' => r = .sl none 1 (List.map c_i64 o) ∧ h' = h) := by
 refine ACv 7 [.tmp 2] Try.func15 rfl rfl rfl rfl ?_
 unfold M15 at hm
 refine v (v (v ?_))
 obtain ⟨z4, hz5, hm⟩ := Zc hm
 refine ve fun hk => a_app0 (c := c_i64) hz5 et28 rfl rfl hk nofun rfl fun tg6 ot7 hk8 => qk hk8 rfl ?_
 refine v ?_
 injection hm with hm; subst hm
 exact vr fun hk => Ret.of1 (.inl rfl) (rsT _ _ (ow _ _ _) rfl) (hp_sub (List.nil_sublist _) hk).1 ((own_frz0 _ 0 ot7 hk rfl)) ⟨rfl, rfl⟩
theorem bd15 : bodied Try.prog 15 = true := by kernel_rfl
open Go.Vm
def M103 (fuel : Nat) (p0 : TLoc) (p1 : TLoc) : Option (Bool) :=
 after (if (p0.Vol == p1.Vol) = true then (if (p0.File == p1.File) = true then (if (p0.Off == p1.Off) = true then (some (.brk (p0.Len == p1.Len))) else some (.brk false)) else some (.brk false)) else some (.brk false) : Option (Lp (Bool) (Bool))) fun j0 => some j0
set_option maxHeartbeats 4000000 in
set_option maxRecDepth 100000 in
theorem W103 {fuel : Nat} {p0 : TLoc} {p1 : TLoc} {o : Bool} (h : Heap) (hm : M103 fuel p0 p1 = some o) :
 ACalls Try.prog 103 [.agg (c_Loc p0), .agg (c_Loc p1)] h (fun r h' => r = .sc (.bool o) ∧ h' = h) := by
 refine ACv 31 [.tmp 4] Try.func103 rfl rfl rfl rfl ?_
 unfold M103 at hm
 refine v ?_
 refine ve fun hk => a_box hk rfl rfl fun k2 hk3 => qk hk3 rfl ?_
 refine ve fun hk => a_box hk rfl rfl fun k5 hk6 => qk hk6 rfl ?_
 refine vs ?_
 refine vjnH hm (σ := Bool) (τ := Unit) (fun g s => [(some k5, .obj 77 (c_Loc p1)), (some k2, .obj 77 (c_Loc p0))]) (fun g s => .c 4 (.sc (.bool s)) .nil) (fun x hm => ?_) ?_
 refine v (vl 1 _ ld3 rfl rfl rfl (vl 0 _ ld3 rfl rfl rfl ?_))
 refine vi hm (fun hb0 hm => ?_) fun hb0 hm => ?_
 rw [hb0]
 refine vl 1 _ ld3 rfl rfl rfl (vl 0 _ ld3 rfl rfl rfl ?_)
 refine vi hm (fun hb1 hm => ?_) fun hb1 hm => ?_
 rw [hb1]
 refine vl 1 _ ld3 rfl rfl rfl (vl 0 _ ld3 rfl rfl rfl ?_)
 refine vi hm (fun hb2 hm => ?_) fun hb2 hm => ?_
 rw [hb2]
 refine vl 1 _ ld3 rfl rfl rfl (vl 0 _ ld3 rfl rfl rfl ?_)
 exact vgo hm () trivial (lx (.cons (ALe.refl _ _) .nil))
 rw [hb2]
 exact vgo hm () trivial (lx (.cons (ALe.refl _ _) .nil))
 rw [hb1]
 exact vgo hm () trivial (lx (.cons (ALe.refl _ _) .nil))
 rw [hb0]
 exact vgo hm () trivial (lx (.cons (ALe.refl _ _) .nil))
 rintro _ j0 hm
 refine v ?_
 injection hm with hm; subst hm
 exact vr1 rfl
theorem bd103 : bodied Try.prog 103 = true := by kernel_rfl
def M58_L0 (fuel : Nat) (p0 : List TLoc) (p1 : List TLoc) (q0 : Int) : Option (Lp (Int) (Bool)) :=
 if (decide (q0 < (p0.length : Int))) = true then ((ix p0 q0).bind fun x0 => (ix p1 q0).bind fun x1 => (M103 fuel x0 x1).bind fun y0 => if (!y0) = true then (some (.ret false)) else some (.go (IntKind.wrap .i64 (q0 + 1)))) else some (.brk q0)
def M58 (fuel : Nat) (p0 : List TLoc) (p1 : List TLoc) : Option (Bool) :=
 if ((p0.length : Int) != (p1.length : Int)) = true then (some false) else after (loopM (fun s => M58_L0 fuel p0 p1 s) fuel 0) fun r0 => some true
set_option maxHeartbeats 4000000 in
set_option maxRecDepth 100000 in
theorem W58 {fuel : Nat} {p0 : List TLoc} {p1 : List TLoc} {o : Bool} (h : Heap) (hm : M58 fuel p0 p1 = some o) :
 ACalls Try.prog 58 [.sl none 4 (List.map c_Loc p0), .sl none 4 (List.map c_Loc p1)] h (fun r h' => r = .sc (.bool o) ∧ h' = h) := by
 refine ACv 27 [.tmp 4] Try.func58 rfl rfl rfl rfl ?_
 unfold M58 at hm
 refine v (v (vln ln58 rfl (vln ln58 rfl (v ?_))))
 refine vi hm (fun hc4 hm => ?_) fun hc4 hm => ?_
 refine v (v ?_)
 injection hm with hm; subst hm
 exact vr1 rfl
 refine v (v ?_)
 refine vlpH hm (σ := Int) (τ := Unit) (fun g s => []) (fun g s => .c 0 (.sl none 4 (List.map c_Loc p0)) (.c 1 (.sl none 4 (List.map c_Loc p1)) (.c 5 (.sc (.int .i64 s)) .nil))) () (lx (.k3 .nil)) ?_ ?_
 rintro _ q0 x hm
 replace hm : M58_L0 fuel p0 p1 q0 = some x := hm
 unfold M58_L0 at hm
 refine v (vln ln58 rfl (v ?_))
 refine vi hm (fun hc0 hm => ?_) fun hc0 hm => ?_
 refine v (v (v (vq (by kernel_rfl) ?_)))
 refine vx hm el58 rfl rfl fun x0 _ hm => ?_
 refine va (.agg (c_Loc x0)) ld77 rfl rfl ?_
 refine vx hm el58 rfl rfl fun x1 _ hm => ?_
 refine va (.agg (c_Loc x1)) ld77 rfl rfl ?_
 refine vk W103 bd103 hm rfl rfl fun _ hm => ?_
 refine v ?_
 refine vi hm (fun hc1 hm => ?_) fun hc1 hm => ?_
 refine v (v ?_)
 refine vrt hm fun hm => ?_
 injection hm with hm; subst hm
 exact vr1 rfl
 refine v (v ?_)
 exact vgo hm () trivial (lx (.k3 .nil))
 refine v ?_
 exact vbk hm () trivial (lx (.k3 .nil))
 rintro _ r0 hm
 refine v (v ?_)
 injection hm with hm; subst hm
 exact vr1 rfl
theorem bd58 : bodied Try.prog 58 = true := by kernel_rfl
def M126_L0 (fuel : Nat) (p0 : List Int) (p1 : List Int) (q0 : Int) : Option (Lp (Int) (Bool)) :=
 if (decide (q0 < (p0.length : Int))) = true then ((ix p0 q0).bind fun x0 => (ix p1 q0).bind fun x1 => if (x0 != x1) = true then (some (.ret false)) else some (.go (IntKind.wrap .i64 (q0 + 1)))) else some (.brk q0)
def M126 (fuel : Nat) (p0 : List Int) (p1 : List Int) : Option (Bool) :=
 if ((p0.length : Int) != (p1.length : Int)) = true then (some false) else after (loopM (fun s => M126_L0 fuel p0 p1 s) fuel 0) fun r0 => some true
set_option maxHeartbeats 4000000 in
set_option maxRecDepth 100000 in
theorem W126 {fuel : Nat} {p0 : List Int} {p1 : List Int} {o : Bool} (h : Heap) (hm : M126 fuel p0 p1 = some o) :
 ACalls Try.prog 126 [.sl none 1 (List.map c_u8 p0), .sl none 1 (List.map c_u8 p1)] h (fun r h' => r = .sc (.bool o) ∧ h' = h) := by
 refine ACv 26 [.tmp 4] Try.func126 rfl rfl rfl rfl ?_
 unfold M126 at hm
 refine v (v (vln ln52 rfl (vln ln52 rfl (v ?_))))
 refine vi hm (fun hc4 hm => ?_) fun hc4 hm => ?_
 refine v (v ?_)
 injection hm with hm; subst hm
 exact vr1 rfl
 refine v (v ?_)
 refine vlpH hm (σ := Int) (τ := Unit) (fun g s => []) (fun g s => .c 0 (.sl none 1 (List.map c_u8 p0)) (.c 1 (.sl none 1 (List.map c_u8 p1)) (.c 5 (.sc (.int .i64 s)) .nil))) () (lx (.k3 .nil)) ?_ ?_
 rintro _ q0 x hm
 replace hm : M126_L0 fuel p0 p1 q0 = some x := hm
 unfold M126_L0 at hm
 refine v (vln ln52 rfl (v ?_))
 refine vi hm (fun hc0 hm => ?_) fun hc0 hm => ?_
 refine v (v (v (vq (by kernel_rfl) ?_)))
 refine vx hm el52 rfl rfl fun _ _ hm => ?_
 refine vx hm el52 rfl rfl fun _ _ hm => ?_
 refine v ?_
 refine vi hm (fun hc1 hm => ?_) fun hc1 hm => ?_
 refine v (v ?_)
 refine vrt hm fun hm => ?_
 injection hm with hm; subst hm
 exact vr1 rfl
 refine v (v ?_)
 exact vgo hm () trivial (lx (.k3 .nil))
 refine v ?_
 exact vbk hm () trivial (lx (.k3 .nil))
 rintro _ r0 hm
 refine v (v ?_)
 injection hm with hm; subst hm
 exact vr1 rfl
theorem bd126 : bodied Try.prog 126 = true := by kernel_rfl
def M101 (fuel : Nat) (p0 : TChunk) (p1 : TChunk) : Option (Bool) :=
 after (if (decide (p0.Id = p1.Id)) = true then (if (p0.Staged == p1.Staged) = true then ((M126 fuel p0.Data p1.Data).bind fun y0 => if y0 = true then ((M58 fuel p0.Locs p1.Locs).bind fun y1 => some (.brk y1)) else some (.brk false)) else some (.brk false)) else some (.brk false) : Option (Lp (Bool) (Bool))) fun j0 => some j0
set_option maxHeartbeats 4000000 in
set_option maxRecDepth 100000 in
theorem W101 {fuel : Nat} {p0 : TChunk} {p1 : TChunk} {o : Bool} (h : Heap) (hm : M101 fuel p0 p1 = some o) :
 ACalls Try.prog 101 [.agg (c_Chunk p0), .agg (c_Chunk p1)] h (fun r h' => r = .sc (.bool o) ∧ h' = h) := by
 refine ACv 31 [.tmp 4] Try.func101 rfl rfl rfl rfl ?_
 unfold M101 at hm
 refine v ?_
 refine ve fun hk => a_box hk rfl rfl fun k2 hk3 => qk hk3 rfl ?_
 refine ve fun hk => a_box hk rfl rfl fun k5 hk6 => qk hk6 rfl ?_
 refine vs ?_
 refine vjnH hm (σ := Bool) (τ := Unit) (fun g s => [(some k5, .obj 63 (c_Chunk p1)), (some k2, .obj 63 (c_Chunk p0))]) (fun g s => .c 4 (.sc (.bool s)) .nil) (fun x hm => ?_) ?_
 refine v (vl 1 (.agg (c_id p0.Id)) ld61 rfl rfl rfl (vl 0 (.agg (c_id p1.Id)) ld61 rfl rfl rfl (vn (fun _ => o_ide eg61 u61 u5 ld5 rfl rfl) ?_)))
 refine vi hm (fun hb0 hm => ?_) fun hb0 hm => ?_
 rw [hb0]
 refine vl 1 _ ld4 rfl rfl rfl (vl 0 _ ld4 rfl rfl rfl (vn (fun _ => o_bb u4 rfl rfl rfl) ?_))
 refine vi hm (fun hb1 hm => ?_) fun hb1 hm => ?_
 rw [hb1]
 refine vl 1 _ ld52 rfl rfl rfl (vl 0 _ ld52 rfl rfl rfl ?_)
 refine vk W126 bd126 hm rfl rfl fun _ hm => ?_
 refine vi hm (fun hb2 hm => ?_) fun hb2 hm => ?_
 rw [hb2]
 refine vl 1 _ ld58 rfl rfl rfl (vl 0 _ ld58 rfl rfl rfl ?_)
 refine vk W58 bd58 hm rfl rfl fun _ hm => ?_
 exact vgo hm () trivial (lx (.cons (ALe.refl _ _) .nil))
 rw [hb2]
 exact vgo hm () trivial (lx (.cons (ALe.refl _ _) .nil))
 rw [hb1]
 exact vgo hm () trivial (lx (.cons (ALe.refl _ _) .nil))
 rw [hb0]
 exact vgo hm () trivial (lx (.cons (ALe.refl _ _) .nil))
 rintro _ j0 hm
 refine v ?_
 injection hm with hm; subst hm
 exact vr1 rfl
theorem bd101 : bodied Try.prog 101 = true := by kernel_rfl
def M55_L0 (fuel : Nat) (p0 : List TChunk) (p1 : List TChunk) (q0 : Int) : Option (Lp (Int) (Bool)) :=
 if (decide (q0 < (p0.length : Int))) = true then ((ix p0 q0).bind fun x0 => (ix p1 q0).bind fun x1 => (M101 fuel x0 x1).bind fun y0 => if (!y0) = true then (some (.ret false)) else some (.go (IntKind.wrap .i64 (q0 + 1)))) else some (.brk q0)
def M55 (fuel : Nat) (p0 : List TChunk) (p1 : List TChunk) : Option (Bool) :=
 if ((p0.length : Int) != (p1.length : Int)) = true then (some false) else after (loopM (fun s => M55_L0 fuel p0 p1 s) fuel 0) fun r0 => some true
set_option maxHeartbeats 4000000 in
set_option maxRecDepth 100000 in
theorem W55 {fuel : Nat} {p0 : List TChunk} {p1 : List TChunk} {o : Bool} (h : Heap) (hm : M55 fuel p0 p1 = some o) :
 ACalls Try.prog 55 [.sl none 35 (List.map c_Chunk p0), .sl none 35 (List.map c_Chunk p1)] h (fun r h' => r = .sc (.bool o) ∧ h' = h) := by
 refine ACv 27 [.tmp 4] Try.func55 rfl rfl rfl rfl ?_
 unfold M55 at hm
 refine v (v (vln ln23 rfl (vln ln23 rfl (v ?_))))
 refine vi hm (fun hc4 hm => ?_) fun hc4 hm => ?_
 refine v (v ?_)
 injection hm with hm; subst hm
 exact vr1 rfl
 refine v (v ?_)
 refine vlpH hm (σ := Int) (τ := Unit) (fun g s => []) (fun g s => .c 0 (.sl none 35 (List.map c_Chunk p0)) (.c 1 (.sl none 35 (List.map c_Chunk p1)) (.c 5 (.sc (.int .i64 s)) .nil))) () (lx (.k3 .nil)) ?_ ?_
 rintro _ q0 x hm
 replace hm : M55_L0 fuel p0 p1 q0 = some x := hm
 unfold M55_L0 at hm
 refine v (vln ln23 rfl (v ?_))
 refine vi hm (fun hc0 hm => ?_) fun hc0 hm => ?_
 refine v (v (v (vq (by kernel_rfl) ?_)))
 refine vx hm el23 rfl rfl fun x0 _ hm => ?_
 refine va (.agg (c_Chunk x0)) ld63 rfl rfl ?_
 refine vx hm el23 rfl rfl fun x1 _ hm => ?_
 refine va (.agg (c_Chunk x1)) ld63 rfl rfl ?_
 refine vk W101 bd101 hm rfl rfl fun _ hm => ?_
 refine v ?_
 refine vi hm (fun hc1 hm => ?_) fun hc1 hm => ?_
 refine v (v ?_)
 refine vrt hm fun hm => ?_
 injection hm with hm; subst hm
 exact vr1 rfl
 refine v (v ?_)
 exact vgo hm () trivial (lx (.k3 .nil))
 refine v ?_
 exact vbk hm () trivial (lx (.k3 .nil))
 rintro _ r0 hm
 refine v (v ?_)
 injection hm with hm; subst hm
 exact vr1 rfl
theorem bd55 : bodied Try.prog 55 = true := by kernel_rfl
def M56_L0 (fuel : Nat) (p0 : List TVol) (p1 : List TVol) (q0 : Int) : Option (Lp (Int) (Bool)) :=
 if (decide (q0 < (p0.length : Int))) = true then ((ix p0 q0).bind fun x0 => (ix p1 q0).bind fun x1 => after (if (x0.Pool != x1.Pool) = true then (some (.brk true)) else if (x0.Epoch != x1.Epoch) = true then (some (.brk true)) else if (x0.State != x1.State) = true then (some (.brk true)) else some (.brk (x0.Files != x1.Files)) : Option (Lp (Bool) (Lp (Int) (Bool)))) fun j0 => if j0 = true then (some (.ret false)) else some (.go (IntKind.wrap .i64 (q0 + 1)))) else some (.brk q0)
def M56 (fuel : Nat) (p0 : List TVol) (p1 : List TVol) : Option (Bool) :=
 if ((p0.length : Int) != (p1.length : Int)) = true then (some false) else after (loopM (fun s => M56_L0 fuel p0 p1 s) fuel 0) fun r0 => some true
set_option maxHeartbeats 4000000 in
set_option maxRecDepth 100000 in
theorem W56 {fuel : Nat} {p0 : List TVol} {p1 : List TVol} {o : Bool} (h : Heap) (hm : M56 fuel p0 p1 = some o) :
 ACalls Try.prog 56 [.sl none 4 (List.map c_Vol p0), .sl none 4 (List.map c_Vol p1)] h (fun r h' => r = .sc (.bool o) ∧ h' = h) := by
 refine ACv 53 [.tmp 4] Try.func56 rfl rfl rfl rfl ?_
 unfold M56 at hm
 refine v (v (vln ln25 rfl (vln ln25 rfl (v ?_))))
 refine vi hm (fun hc4 hm => ?_) fun hc4 hm => ?_
 refine v (v ?_)
 injection hm with hm; subst hm
 exact vr1 rfl
 refine v (v ?_)
 refine vlpH hm (σ := Int) (τ := Unit) (fun g s => []) (fun g s => .c 0 (.sl none 4 (List.map c_Vol p0)) (.c 1 (.sl none 4 (List.map c_Vol p1)) (.c 5 (.sc (.int .i64 s)) .nil))) () (lx (.k3 .nil)) ?_ ?_
 rintro _ q0 x hm
 replace hm : M56_L0 fuel p0 p1 q0 = some x := hm
 unfold M56_L0 at hm
 refine v (vln ln25 rfl (v ?_))
 refine vi hm (fun hc0 hm => ?_) fun hc0 hm => ?_
 refine v (v (v ?_))
 refine vz [] mixed (fun hk => trivial) fun hk => ?_
 refine z_w 0 rfl (fun S' h' hi hB => o_mv (.sl _ _ _) rfl) ?_
 refine z_w 1 rfl (fun S' h' hi hB => o_mv (.sc (.int _ _)) rfl) ?_
 obtain ⟨x0, hx0, hm⟩ := Zc hm
 refine z_w 2 rfl (fun S' h' hi hB => o_ix hx0 el25 rfl rfl) ?_
 refine z_w 3 rfl (fun S' h' hi hB => o_ld (.agg (c_Vol x0)) ld40 rfl rfl) ?_
 refine z_w 4 rfl (fun S' h' hi hB => o_mv (.sl _ _ _) rfl) ?_
 refine z_w 5 rfl (fun S' h' hi hB => o_mv (.sc (.int _ _)) rfl) ?_
 obtain ⟨x1, hx1, hm⟩ := Zc hm
 refine z_w 6 rfl (fun S' h' hi hB => o_ix hx1 el25 rfl rfl) ?_
 refine z_w 7 rfl (fun S' h' hi hB => o_ld (.agg (c_Vol x1)) ld40 rfl rfl) ?_
 refine z_e2 8 9 rfl rfl (by kernel_rfl) ?_ ?_
 refine (a_alloc ([.sc (.int .i64 0), .sc (.int .i64 0), .sc (.int .i64 0), .sc (.int .i64 0)]) hk zr40 rfl rfl fun k173 hk0 => ⟨trivial, ?_⟩)
 refine z_e 9 rfl (by kernel_rfl) (a_alloc ([.sc (.int .i64 0), .sc (.int .i64 0), .sc (.int .i64 0), .sc (.int .i64 0)]) hk0 zr40 rfl rfl fun k176 hk1 => ⟨trivial, ?_⟩)
 refine z_e 10 rfl (by kernel_rfl) (a_store 1 (c_Vol x0) hk1 rfl rfl rfl rfl sz40 rfl rfl fun hk2 => ⟨trivial, ?_⟩)
 refine z_e 11 rfl (by kernel_rfl) (a_store 0 (c_Vol x1) hk2 rfl rfl rfl rfl sz40 rfl rfl fun hk3 => ⟨trivial, ?_⟩)
 refine z_nil (by kernel_rfl) (qk (f := .c 7 _ (.c 6 _ (.c 26 _ (.c 25 _ (.c 24 _ (.c 23 _ (.c 22 _ (.c 21 _ (.c 20 _ (.c 19 _ _)))))))))) hk3 rfl ?_)
 refine vs ?_
 refine vjnH hm (σ := Bool) (τ := Unit) (fun g s => [(some k176, .obj 40 (c_Vol x1)), (some k173, .obj 40 (c_Vol x0))]) (fun g s => .c 0 (.sl none 4 (List.map c_Vol p0)) (.c 1 (.sl none 4 (List.map c_Vol p1)) (.c 5 (.sc (.int .i64 q0)) (.c 52 (.sc (.bool s)) .nil)))) (fun x hm => ?_) ?_
 refine v (vl 1 _ ld3 rfl rfl rfl (vl 0 _ ld3 rfl rfl rfl ?_))
 refine vi hm (fun hb0 hm => ?_) fun hb0 hm => ?_
 rw [hb0]
 exact vgo hm () trivial (lx (.k4 .nil))
 rw [hb0]
 refine vl 1 _ ld3 rfl rfl rfl (vl 0 _ ld3 rfl rfl rfl ?_)
 refine vi hm (fun hb1 hm => ?_) fun hb1 hm => ?_
 rw [hb1]
 exact vgo hm () trivial (lx (.k4 .nil))
 rw [hb1]
 refine vl 1 _ ld3 rfl rfl rfl (vl 0 _ ld3 rfl rfl rfl ?_)
 refine vi hm (fun hb2 hm => ?_) fun hb2 hm => ?_
 rw [hb2]
 exact vgo hm () trivial (lx (.k4 .nil))
 rw [hb2]
 refine vl 1 _ ld3 rfl rfl rfl (vl 0 _ ld3 rfl rfl rfl ?_)
 exact vgo hm () trivial (lx (.k4 .nil))
 rintro _ j0 hm
 refine v ?_
 refine vi hm (fun hc1 hm => ?_) fun hc1 hm => ?_
 refine v (v ?_)
 refine vrt hm fun hm => ?_
 injection hm with hm; subst hm
 exact vr1 rfl
 refine v (v ?_)
 exact vgo hm () trivial (lxs [] rfl rfl (.k3 .nil))
 refine (a_alloc ([.sc (.int .i64 0), .sc (.int .i64 0), .sc (.int .i64 0), .sc (.int .i64 0)]) hk zr40 rfl rfl fun k192 hk4 => ⟨trivial, ?_⟩)
 refine z_e 8 rfl (by kernel_rfl) (a_alloc ([.sc (.int .i64 0), .sc (.int .i64 0), .sc (.int .i64 0), .sc (.int .i64 0)]) hk4 zr40 rfl rfl fun k195 hk5 => ⟨trivial, ?_⟩)
 refine z_e 10 rfl (by kernel_rfl) (a_store 0 (c_Vol x0) hk5 rfl rfl rfl rfl sz40 rfl rfl fun hk6 => ⟨trivial, ?_⟩)
 refine z_e 11 rfl (by kernel_rfl) (a_store 1 (c_Vol x1) hk6 rfl rfl rfl rfl sz40 rfl rfl fun hk7 => ⟨trivial, ?_⟩)
 refine z_nil (by kernel_rfl) (qk (f := .c 6 _ (.c 7 _ (.c 26 _ (.c 25 _ (.c 24 _ (.c 23 _ (.c 22 _ (.c 21 _ (.c 20 _ (.c 19 _ _)))))))))) hk7 rfl ?_)
 refine vs ?_
 refine vjnH hm (σ := Bool) (τ := Unit) (fun g s => [(some k195, .obj 40 (c_Vol x0)), (some k192, .obj 40 (c_Vol x1))]) (fun g s => .c 0 (.sl none 4 (List.map c_Vol p0)) (.c 1 (.sl none 4 (List.map c_Vol p1)) (.c 5 (.sc (.int .i64 q0)) (.c 52 (.sc (.bool s)) .nil)))) (fun x hm => ?_) ?_
 refine v (vl 0 _ ld3 rfl rfl rfl (vl 1 _ ld3 rfl rfl rfl ?_))
 refine vi hm (fun hb3 hm => ?_) fun hb3 hm => ?_
 rw [hb3]
 exact vgo hm () trivial (lx (.k4 .nil))
 rw [hb3]
 refine vl 0 _ ld3 rfl rfl rfl (vl 1 _ ld3 rfl rfl rfl ?_)
 refine vi hm (fun hb4 hm => ?_) fun hb4 hm => ?_
 rw [hb4]
 exact vgo hm () trivial (lx (.k4 .nil))
 rw [hb4]
 refine vl 0 _ ld3 rfl rfl rfl (vl 1 _ ld3 rfl rfl rfl ?_)
 refine vi hm (fun hb5 hm => ?_) fun hb5 hm => ?_
 rw [hb5]
 exact vgo hm () trivial (lx (.k4 .nil))
 rw [hb5]
 refine vl 0 _ ld3 rfl rfl rfl (vl 1 _ ld3 rfl rfl rfl ?_)
 exact vgo hm () trivial (lx (.k4 .nil))
 rintro _ j1 hm
 refine v ?_
 refine vi hm (fun hc2 hm => ?_) fun hc2 hm => ?_
 refine v (v ?_)
 refine vrt hm fun hm => ?_
 injection hm with hm; subst hm
 exact vr1 rfl
 refine v (v ?_)
 exact vgo hm () trivial (lxs [] rfl rfl (.k3 .nil))
 refine v ?_
 exact vbk hm () trivial (lx (.k3 .nil))
 rintro _ r0 hm
 refine v (v ?_)
 injection hm with hm; subst hm
 exact vr1 rfl
theorem bd56 : bodied Try.prog 56 = true := by kernel_rfl
def M127_L0 (fuel : Nat) (p0 : List Id32) (p1 : List Id32) (q0 : Int) : Option (Lp (Int) (Bool)) :=
 if (decide (q0 < (p0.length : Int))) = true then ((ix p0 q0).bind fun x0 => (ix p1 q0).bind fun x1 => if (!decide (x0 = x1)) = true then (some (.ret false)) else some (.go (IntKind.wrap .i64 (q0 + 1)))) else some (.brk q0)
def M127 (fuel : Nat) (p0 : List Id32) (p1 : List Id32) : Option (Bool) :=
 if ((p0.length : Int) != (p1.length : Int)) = true then (some false) else after (loopM (fun s => M127_L0 fuel p0 p1 s) fuel 0) fun r0 => some true
set_option maxHeartbeats 4000000 in
set_option maxRecDepth 100000 in
theorem W127 {fuel : Nat} {p0 : List Id32} {p1 : List Id32} {o : Bool} (h : Heap) (hm : M127 fuel p0 p1 = some o) :
 ACalls Try.prog 127 [.sl none 32 (List.map c_id p0), .sl none 32 (List.map c_id p1)] h (fun r h' => r = .sc (.bool o) ∧ h' = h) := by
 refine ACv 26 [.tmp 4] Try.func127 rfl rfl rfl rfl ?_
 unfold M127 at hm
 refine v (v (vln ln80 rfl (vln ln80 rfl (v ?_))))
 refine vi hm (fun hc4 hm => ?_) fun hc4 hm => ?_
 refine v (v ?_)
 injection hm with hm; subst hm
 exact vr1 rfl
 refine v (v ?_)
 refine vlpH hm (σ := Int) (τ := Unit) (fun g s => []) (fun g s => .c 0 (.sl none 32 (List.map c_id p0)) (.c 1 (.sl none 32 (List.map c_id p1)) (.c 5 (.sc (.int .i64 s)) .nil))) () (lx (.k3 .nil)) ?_ ?_
 rintro _ q0 x hm
 replace hm : M127_L0 fuel p0 p1 q0 = some x := hm
 unfold M127_L0 at hm
 refine v (vln ln80 rfl (v ?_))
 refine vi hm (fun hc0 hm => ?_) fun hc0 hm => ?_
 refine v (v (v (vq (by kernel_rfl) ?_)))
 refine vx hm el80 rfl rfl fun x0 _ hm => ?_
 refine va (.agg (c_id x0)) ld61 rfl rfl ?_
 refine vx hm el80 rfl rfl fun x1 _ hm => ?_
 refine va (.agg (c_id x1)) ld61 rfl rfl (vn (fun _ => o_idn eg61 u61 u5 ld5 rfl rfl) (v ?_))
 refine vi hm (fun hc1 hm => ?_) fun hc1 hm => ?_
 refine v (v ?_)
 refine vrt hm fun hm => ?_
 injection hm with hm; subst hm
 exact vr1 rfl
 refine v (v ?_)
 exact vgo hm () trivial (lx (.k3 .nil))
 refine v ?_
 exact vbk hm () trivial (lx (.k3 .nil))
 rintro _ r0 hm
 refine v (v ?_)
 injection hm with hm; subst hm
 exact vr1 rfl
theorem bd127 : bodied Try.prog 127 = true := by kernel_rfl
def M102_L0 (fuel : Nat) (p0 : TManifest) (p1 : TManifest) (q0 : Int) : Option (Lp (Int) (Bool)) :=
 if (decide (q0 < (p0.Parts.length : Int))) = true then ((ix p0.Parts q0).bind fun x0 => (ix p1.Parts q0).bind fun x1 => after (if (!(x0.Path.toList == x1.Path.toList)) = true then (some (.brk true)) else if (x0.Size != x1.Size) = true then (some (.brk true)) else (M127 fuel x0.Ids x1.Ids).bind fun y0 => some (.brk (!y0)) : Option (Lp (Bool) (Lp (Int) (Bool)))) fun j0 => if j0 = true then (some (.ret false)) else some (.go (IntKind.wrap .i64 (q0 + 1)))) else some (.brk q0)
def M102 (fuel : Nat) (p0 : TManifest) (p1 : TManifest) : Option (Bool) :=
 after (if (!(p0.Name.toList == p1.Name.toList)) = true then (some (.brk true)) else some (.brk ((p0.Parts.length : Int) != (p1.Parts.length : Int))) : Option (Lp (Bool) (Bool))) fun j0 => if j0 = true then (some false) else after (loopM (fun s => M102_L0 fuel p0 p1 s) fuel 0) fun r0 => some true
set_option maxHeartbeats 4000000 in
set_option maxRecDepth 100000 in
theorem W102 {fuel : Nat} {p0 : TManifest} {p1 : TManifest} {o : Bool} (h : Heap) (hm : M102 fuel p0 p1 = some o) :
 ACalls Try.prog 102 [.agg (c_Manifest p0), .agg (c_Manifest p1)] h (fun r h' => r = .sc (.bool o) ∧ h' = h) := by
 refine ACv 59 [.tmp 4] Try.func102 rfl rfl rfl rfl ?_
 unfold M102 at hm
 refine v ?_
 refine ve fun hk => a_box hk rfl rfl fun k2 hk3 => qk hk3 rfl ?_
 refine ve fun hk => a_box hk rfl rfl fun k5 hk6 => qk hk6 rfl ?_
 refine vs (vs ?_)
 refine vjnH hm (σ := Bool) (τ := Unit) (fun g s => [(some k5, .obj 57 (c_Manifest p1)), (some k2, .obj 57 (c_Manifest p0))]) (fun g s => .c 2 (.ptr k2 0) (.c 3 (.ptr k5 0) (.c 21 (.sc (.bool s)) .nil))) (fun x hm => ?_) ?_
 refine v (vl 1 _ ld9 rfl rfl rfl (vl 0 _ ld9 rfl rfl rfl (vn (fun _ => o_bs rfl rfl rfl trivial) ?_)))
 refine vi hm (fun hb0 hm => ?_) fun hb0 hm => ?_
 rw [hb0]
 exact vgo hm () trivial (lx (.k3 .nil))
 rw [hb0]
 refine vl 1 _ ld55 rfl rfl rfl (vln ln55 rfl (vl 0 _ ld55 rfl rfl rfl (vln ln55 rfl ?_)))
 exact vgo hm () trivial (lx (.k3 .nil))
 rintro _ j0 hm
 refine v ?_
 refine vi hm (fun hc0 hm => ?_) fun hc0 hm => ?_
 refine v (v ?_)
 injection hm with hm; subst hm
 exact vr1 rfl
 refine v (v ?_)
 refine vlpH hm (σ := Int) (τ := Unit) (fun g s => [(some k5, .obj 57 (c_Manifest p1)), (some k2, .obj 57 (c_Manifest p0))]) (fun g s => .c 2 (.ptr k2 0) (.c 3 (.ptr k5 0) (.c 5 (.sc (.int .i64 s)) .nil))) () (lx (.k3 .nil)) ?_ ?_
 rintro _ q0 x hm
 replace hm : M102_L0 fuel p0 p1 q0 = some x := hm
 unfold M102_L0 at hm
 refine v (vl 1 _ ld55 rfl rfl rfl (vln ln55 rfl (v ?_)))
 refine vi hm (fun hc1 hm => ?_) fun hc1 hm => ?_
 refine v (v (v ?_))
 refine vz [(1000000, some k2, .obj 57 (c_Manifest p0)), (1000000, some k5, .obj 57 (c_Manifest p1))] mixed (fun hk => ⟨fun _ => hp_at 1 hk rfl, fun _ => hp_at 0 hk rfl, trivial⟩) fun hk => ?_
 refine z_w 0 rfl (fun S' h' hi hB => Zh fd57_1 rfl rfl) ?_
 refine z_w 1 rfl (fun S' h' hi hB => Zg (.sl none 3 (List.map c_Part p0.Parts)) ld55 rfl (At.s (InvL.get 0 hi rfl (hB 1000000 (by kernel_rfl)))) rfl) ?_
 refine z_w 2 rfl (fun S' h' hi hB => o_mv (.sc (.int _ _)) rfl) ?_
 obtain ⟨x0, hx0, hm⟩ := Zc hm
 refine z_w 3 rfl (fun S' h' hi hB => o_ix hx0 el55 rfl rfl) ?_
 refine z_w 4 rfl (fun S' h' hi hB => o_ld (.agg (c_Part x0)) ld82 rfl rfl) ?_
 refine z_w 5 rfl (fun S' h' hi hB => Zh fd57_1 rfl rfl) ?_
 refine z_w 6 rfl (fun S' h' hi hB => Zg (.sl none 3 (List.map c_Part p1.Parts)) ld55 rfl (At.s (InvL.get 1 hi rfl (hB 1000000 (by kernel_rfl)))) rfl) ?_
 refine z_w 7 rfl (fun S' h' hi hB => o_mv (.sc (.int _ _)) rfl) ?_
 obtain ⟨x1, hx1, hm⟩ := Zc hm
 refine z_w 8 rfl (fun S' h' hi hB => o_ix hx1 el55 rfl rfl) ?_
 refine z_w 9 rfl (fun S' h' hi hB => o_ld (.agg (c_Part x1)) ld82 rfl rfl) ?_
 refine z_e2 10 11 rfl rfl (by kernel_rfl) ?_ ?_
 refine (a_alloc ([.sc (.string ByteArray.empty), .sc (.int .i64 0), .sc (.slice none 0 0)]) hk zr82 rfl rfl fun k191 hk0 => ⟨⟨fun _ => hp_at 2 hk0 rfl, fun _ => hp_at 1 hk0 rfl, trivial⟩, ?_⟩)
 refine z_e 11 rfl (by kernel_rfl) (a_alloc ([.sc (.string ByteArray.empty), .sc (.int .i64 0), .sc (.slice none 0 0)]) hk0 zr82 rfl rfl fun k194 hk1 => ⟨⟨fun _ => hp_at 3 hk1 rfl, fun _ => hp_at 2 hk1 rfl, trivial⟩, ?_⟩)
 refine z_e 12 rfl (by kernel_rfl) (a_store 1 (c_Part x0) hk1 rfl rfl rfl rfl sz82 rfl rfl fun hk2 => ⟨⟨fun _ => hp_at 3 hk2 rfl, fun _ => hp_at 2 hk2 rfl, trivial⟩, ?_⟩)
 refine z_e 13 rfl (by kernel_rfl) (a_store 0 (c_Part x1) hk2 rfl rfl rfl rfl sz82 rfl rfl fun hk4 => ⟨⟨fun _ => hp_at 3 hk4 rfl, fun _ => hp_at 2 hk4 rfl, trivial⟩, ?_⟩)
 refine z_nil (by kernel_rfl) (qk (f := .c 7 _ (.c 6 _ (.c 38 _ (.c 37 _ (.c 36 _ (.c 35 _ (.c 34 _ (.c 33 _ (.c 32 _ (.c 31 _ (.c 30 _ (.c 29 _ _)))))))))))) hk4 rfl ?_)
 refine vs ?_
 refine vjnH hm (σ := Bool) (τ := Unit) (fun g s => [(some k194, .obj 82 (c_Part x1)), (some k191, .obj 82 (c_Part x0)), (some k5, .obj 57 (c_Manifest p1)), (some k2, .obj 57 (c_Manifest p0))]) (fun g s => .c 2 (.ptr k2 0) (.c 3 (.ptr k5 0) (.c 5 (.sc (.int .i64 q0)) (.c 58 (.sc (.bool s)) .nil)))) (fun x hm => ?_) ?_
 refine v (vl 1 _ ld9 rfl rfl rfl (vl 0 _ ld9 rfl rfl rfl (vn (fun _ => o_bs rfl rfl rfl trivial) ?_)))
 refine vi hm (fun hb1 hm => ?_) fun hb1 hm => ?_
 rw [hb1]
 exact vgo hm () trivial (lx (.k4 .nil))
 rw [hb1]
 refine vl 1 _ ld3 rfl rfl rfl (vl 0 _ ld3 rfl rfl rfl ?_)
 refine vi hm (fun hb2 hm => ?_) fun hb2 hm => ?_
 rw [hb2]
 exact vgo hm () trivial (lx (.k4 .nil))
 rw [hb2]
 refine vl 1 _ ld80 rfl rfl rfl (vl 0 _ ld80 rfl rfl rfl ?_)
 refine vk W127 bd127 hm rfl rfl fun _ hm => ?_
 exact vgo hm () trivial (lx (.k4 .nil))
 rintro _ j1 hm
 refine v ?_
 refine vi hm (fun hc2 hm => ?_) fun hc2 hm => ?_
 refine v (v ?_)
 refine vrt hm fun hm => ?_
 injection hm with hm; subst hm
 exact vr1 rfl
 refine v (v ?_)
 exact vgo hm () trivial (lxs [2, 3] rfl rfl (.k3 .nil))
 refine (a_alloc ([.sc (.string ByteArray.empty), .sc (.int .i64 0), .sc (.slice none 0 0)]) hk zr82 rfl rfl fun k212 hk5 => ⟨⟨fun _ => hp_at 2 hk5 rfl, fun _ => hp_at 1 hk5 rfl, trivial⟩, ?_⟩)
 refine z_e 10 rfl (by kernel_rfl) (a_alloc ([.sc (.string ByteArray.empty), .sc (.int .i64 0), .sc (.slice none 0 0)]) hk5 zr82 rfl rfl fun k215 hk7 => ⟨⟨fun _ => hp_at 3 hk7 rfl, fun _ => hp_at 2 hk7 rfl, trivial⟩, ?_⟩)
 refine z_e 12 rfl (by kernel_rfl) (a_store 0 (c_Part x0) hk7 rfl rfl rfl rfl sz82 rfl rfl fun hk8 => ⟨⟨fun _ => hp_at 3 hk8 rfl, fun _ => hp_at 2 hk8 rfl, trivial⟩, ?_⟩)
 refine z_e 13 rfl (by kernel_rfl) (a_store 1 (c_Part x1) hk8 rfl rfl rfl rfl sz82 rfl rfl fun hk9 => ⟨⟨fun _ => hp_at 3 hk9 rfl, fun _ => hp_at 2 hk9 rfl, trivial⟩, ?_⟩)
 refine z_nil (by kernel_rfl) (qk (f := .c 6 _ (.c 7 _ (.c 38 _ (.c 37 _ (.c 36 _ (.c 35 _ (.c 34 _ (.c 33 _ (.c 32 _ (.c 31 _ (.c 30 _ (.c 29 _ _)))))))))))) hk9 rfl ?_)
 refine vs ?_
 refine vjnH hm (σ := Bool) (τ := Unit) (fun g s => [(some k215, .obj 82 (c_Part x0)), (some k212, .obj 82 (c_Part x1)), (some k5, .obj 57 (c_Manifest p1)), (some k2, .obj 57 (c_Manifest p0))]) (fun g s => .c 2 (.ptr k2 0) (.c 3 (.ptr k5 0) (.c 5 (.sc (.int .i64 q0)) (.c 58 (.sc (.bool s)) .nil)))) (fun x hm => ?_) ?_
 refine v (vl 0 _ ld9 rfl rfl rfl (vl 1 _ ld9 rfl rfl rfl (vn (fun _ => o_bs rfl rfl rfl trivial) ?_)))
 refine vi hm (fun hb3 hm => ?_) fun hb3 hm => ?_
 rw [hb3]
 exact vgo hm () trivial (lx (.k4 .nil))
 rw [hb3]
 refine vl 0 _ ld3 rfl rfl rfl (vl 1 _ ld3 rfl rfl rfl ?_)
 refine vi hm (fun hb4 hm => ?_) fun hb4 hm => ?_
 rw [hb4]
 exact vgo hm () trivial (lx (.k4 .nil))
 rw [hb4]
 refine vl 0 _ ld80 rfl rfl rfl (vl 1 _ ld80 rfl rfl rfl ?_)
 refine vk W127 bd127 hm rfl rfl fun _ hm => ?_
 exact vgo hm () trivial (lx (.k4 .nil))
 rintro _ j2 hm
 refine v ?_
 refine vi hm (fun hc3 hm => ?_) fun hc3 hm => ?_
 refine v (v ?_)
 refine vrt hm fun hm => ?_
 injection hm with hm; subst hm
 exact vr1 rfl
 refine v (v ?_)
 exact vgo hm () trivial (lxs [2, 3] rfl rfl (.k3 .nil))
 refine v ?_
 exact vbk hm () trivial (lx (.k3 .nil))
 rintro _ r0 hm
 refine v (v ?_)
 injection hm with hm; subst hm
 exact vr1 rfl
theorem bd102 : bodied Try.prog 102 = true := by kernel_rfl
def M57 (fuel : Nat) (p0 : TSnap) (p1 : TSnap) : Option (Bool) :=
 after (if (p0.Seq == p1.Seq) = true then ((M102 fuel p0.Man p1.Man).bind fun y0 => if y0 = true then ((M58 fuel p0.Locs p1.Locs).bind fun y1 => some (.brk y1)) else some (.brk false)) else some (.brk false) : Option (Lp (Bool) (Bool))) fun j0 => some j0
set_option maxHeartbeats 4000000 in
set_option maxRecDepth 100000 in
theorem W57 {fuel : Nat} {p0 : TSnap} {p1 : TSnap} {o : Bool} (h : Heap) (hm : M57 fuel p0 p1 = some o) :
 ACalls Try.prog 57 [.agg (c_Snap p0), .agg (c_Snap p1)] h (fun r h' => r = .sc (.bool o) ∧ h' = h) := by
 refine ACv 24 [.tmp 4] Try.func57 rfl rfl rfl rfl ?_
 unfold M57 at hm
 refine v ?_
 refine ve fun hk => a_box hk rfl rfl fun k2 hk3 => qk hk3 rfl ?_
 refine ve fun hk => a_box hk rfl rfl fun k5 hk6 => qk hk6 rfl ?_
 refine vs ?_
 refine vjnH hm (σ := Bool) (τ := Unit) (fun g s => [(some k5, .obj 60 (c_Snap p1)), (some k2, .obj 60 (c_Snap p0))]) (fun g s => .c 4 (.sc (.bool s)) .nil) (fun x hm => ?_) ?_
 refine v (vl 1 _ ld3 rfl rfl rfl (vl 0 _ ld3 rfl rfl rfl ?_))
 refine vi hm (fun hb0 hm => ?_) fun hb0 hm => ?_
 rw [hb0]
 refine vl 1 (.agg (c_Manifest p0.Man)) ld57 rfl rfl rfl (vl 0 (.agg (c_Manifest p1.Man)) ld57 rfl rfl rfl ?_)
 refine vk W102 bd102 hm rfl rfl fun _ hm => ?_
 refine vi hm (fun hb1 hm => ?_) fun hb1 hm => ?_
 rw [hb1]
 refine vl 1 _ ld58 rfl rfl rfl (vl 0 _ ld58 rfl rfl rfl ?_)
 refine vk W58 bd58 hm rfl rfl fun _ hm => ?_
 exact vgo hm () trivial (lx (.cons (ALe.refl _ _) .nil))
 rw [hb1]
 exact vgo hm () trivial (lx (.cons (ALe.refl _ _) .nil))
 rw [hb0]
 exact vgo hm () trivial (lx (.cons (ALe.refl _ _) .nil))
 rintro _ j0 hm
 refine v ?_
 injection hm with hm; subst hm
 exact vr1 rfl
theorem bd57 : bodied Try.prog 57 = true := by kernel_rfl
def M17_L0 (fuel : Nat) (p0 : TCatalog) (p1 : TCatalog) (q0 : Int) : Option (Lp (Int) (Bool)) :=
 if (decide (q0 < (p0.Snaps.length : Int))) = true then ((ix p0.Snaps q0).bind fun x0 => (ix p1.Snaps q0).bind fun x1 => (M57 fuel x0 x1).bind fun y0 => if (!y0) = true then (some (.ret false)) else some (.go (IntKind.wrap .i64 (q0 + 1)))) else some (.brk q0)
def M17_L2 (fuel : Nat) (p0 : TCatalog) (p1 : TCatalog) (q0 : Int) : Option (Lp (Int) (Bool)) :=
 if (decide (q0 < (p0.Exps.length : Int))) = true then ((ix p0.Exps q0).bind fun x0 => (ix p1.Exps q0).bind fun x1 => after (if (x0.Seq != x1.Seq) = true then (some (.brk true)) else if (x0.Of != x1.Of) = true then (some (.brk true)) else (M58 fuel x0.Locs x1.Locs).bind fun y0 => some (.brk (!y0)) : Option (Lp (Bool) (Lp (Int) (Bool)))) fun j0 => if j0 = true then (some (.ret false)) else some (.go (IntKind.wrap .i64 (q0 + 1)))) else some (.brk q0)
def M17 (fuel : Nat) (p0 : TCatalog) (p1 : TCatalog) : Option (Bool) :=
 after (if ((p0.Snaps.length : Int) != (p1.Snaps.length : Int)) = true then (some (.brk true)) else if ((p0.Exps.length : Int) != (p1.Exps.length : Int)) = true then (some (.brk true)) else (M55 fuel p0.Chunks p1.Chunks).bind fun y0 => if (!y0) = true then (some (.brk true)) else (M56 fuel p0.Vols p1.Vols).bind fun y1 => some (.brk (!y1)) : Option (Lp (Bool) (Bool))) fun j0 => if j0 = true then (some false) else after (loopM (fun s => M17_L0 fuel p0 p1 s) fuel 0) fun r0 => after (loopM (fun s => M17_L2 fuel p0 p1 s) fuel 0) fun r1 => some true
set_option maxHeartbeats 4000000 in
set_option maxRecDepth 100000 in
theorem W17 {fuel : Nat} {p0 : TCatalog} {p1 : TCatalog} {o : Bool} (h : Heap) (hm : M17 fuel p0 p1 = some o) :
 ACalls Try.prog 17 [.agg (c_Catalog p0), .agg (c_Catalog p1)] h (fun r h' => r = .sc (.bool o) ∧ h' = h) := by
 refine ACv 97 [.tmp 4] Try.func17 rfl rfl rfl rfl ?_
 unfold M17 at hm
 refine v ?_
 refine ve fun hk => a_box hk rfl rfl fun k2 hk3 => qk hk3 rfl ?_
 refine ve fun hk => a_box hk rfl rfl fun k5 hk6 => qk hk6 rfl ?_
 refine vs (vs ?_)
 refine vjnH hm (σ := Bool) (τ := Unit) (fun g s => [(some k5, .obj 27 (c_Catalog p1)), (some k2, .obj 27 (c_Catalog p0))]) (fun g s => .c 2 (.ptr k2 0) (.c 3 (.ptr k5 0) (.c 40 (.sc (.bool s)) .nil))) (fun x hm => ?_) ?_
 refine v (vl 1 _ ld22 rfl rfl rfl (vln ln22 rfl (vl 0 _ ld22 rfl rfl rfl (vln ln22 rfl ?_))))
 refine vi hm (fun hb0 hm => ?_) fun hb0 hm => ?_
 rw [hb0]
 exact vgo hm () trivial (lx (.k3 .nil))
 rw [hb0]
 refine vl 1 _ ld24 rfl rfl rfl (vln ln24 rfl (vl 0 _ ld24 rfl rfl rfl (vln ln24 rfl ?_)))
 refine vi hm (fun hb1 hm => ?_) fun hb1 hm => ?_
 rw [hb1]
 exact vgo hm () trivial (lx (.k3 .nil))
 rw [hb1]
 refine vl 1 _ ld23 rfl rfl rfl (vl 0 _ ld23 rfl rfl rfl ?_)
 refine vk W55 bd55 hm rfl rfl fun _ hm => ?_
 refine vi hm (fun hb2 hm => ?_) fun hb2 hm => ?_
 rw [hb2]
 exact vgo hm () trivial (lx (.k3 .nil))
 rw [hb2]
 refine vl 1 _ ld25 rfl rfl rfl (vl 0 _ ld25 rfl rfl rfl ?_)
 refine vk W56 bd56 hm rfl rfl fun _ hm => ?_
 exact vgo hm () trivial (lx (.k3 .nil))
 rintro _ j0 hm
 refine v ?_
 refine vi hm (fun hc0 hm => ?_) fun hc0 hm => ?_
 refine v (v ?_)
 injection hm with hm; subst hm
 exact vr1 rfl
 refine v (v ?_)
 refine vlpH hm (σ := Int) (τ := Unit) (fun g s => [(some k5, .obj 27 (c_Catalog p1)), (some k2, .obj 27 (c_Catalog p0))]) (fun g s => .c 2 (.ptr k2 0) (.c 3 (.ptr k5 0) (.c 5 (.sc (.int .i64 s)) .nil))) () (lx (.k3 .nil)) ?_ ?_
 rintro _ q0 x hm
 replace hm : M17_L0 fuel p0 p1 q0 = some x := hm
 unfold M17_L0 at hm
 refine v (vl 1 _ ld22 rfl rfl rfl (vln ln22 rfl (v ?_)))
 refine vi hm (fun hc1 hm => ?_) fun hc1 hm => ?_
 refine v (v (v (vq (by kernel_rfl) (vl 1 _ ld22 rfl rfl rfl ?_))))
 refine vx hm el22 rfl rfl fun x0 _ hm => ?_
 refine va (.agg (c_Snap x0)) ld60 rfl rfl (vl 0 _ ld22 rfl rfl rfl ?_)
 refine vx hm el22 rfl rfl fun x1 _ hm => ?_
 refine va (.agg (c_Snap x1)) ld60 rfl rfl ?_
 refine vk W57 bd57 hm rfl rfl fun _ hm => ?_
 refine v ?_
 refine vi hm (fun hc2 hm => ?_) fun hc2 hm => ?_
 refine v (v ?_)
 refine vrt hm fun hm => ?_
 injection hm with hm; subst hm
 exact vr1 rfl
 refine v (v ?_)
 exact vgo hm () trivial (lx (.k3 .nil))
 refine v ?_
 exact vbk hm () trivial (lx (.k3 .nil))
 rintro _ r0 hm
 refine v ?_
 refine vlpH hm (σ := Int) (τ := Unit) (fun g s => [(some k5, .obj 27 (c_Catalog p1)), (some k2, .obj 27 (c_Catalog p0))]) (fun g s => .c 2 (.ptr k2 0) (.c 3 (.ptr k5 0) (.c 6 (.sc (.int .i64 s)) .nil))) () (lx (.k3 .nil)) ?_ ?_
 rintro _ q1 x hm
 replace hm : M17_L2 fuel p0 p1 q1 = some x := hm
 unfold M17_L2 at hm
 refine v (vl 1 _ ld24 rfl rfl rfl (vln ln24 rfl (v ?_)))
 refine vi hm (fun hc3 hm => ?_) fun hc3 hm => ?_
 refine v (v (v ?_))
 refine vz [(1000000, some k2, .obj 27 (c_Catalog p0)), (1000000, some k5, .obj 27 (c_Catalog p1))] mixed (fun hk => ⟨fun _ => hp_at 1 hk rfl, fun _ => hp_at 0 hk rfl, trivial⟩) fun hk => ?_
 refine z_w 0 rfl (fun S' h' hi hB => Zh fd27_3 rfl rfl) ?_
 refine z_w 1 rfl (fun S' h' hi hB => Zg (.sl none 3 (List.map c_Exp p0.Exps)) ld24 rfl (At.s (InvL.get 0 hi rfl (hB 1000000 (by kernel_rfl)))) rfl) ?_
 refine z_w 2 rfl (fun S' h' hi hB => o_mv (.sc (.int _ _)) rfl) ?_
 obtain ⟨x2, hx0, hm⟩ := Zc hm
 refine z_w 3 rfl (fun S' h' hi hB => o_ix hx0 el24 rfl rfl) ?_
 refine z_w 4 rfl (fun S' h' hi hB => o_ld (.agg (c_Exp x2)) ld65 rfl rfl) ?_
 refine z_w 5 rfl (fun S' h' hi hB => Zh fd27_3 rfl rfl) ?_
 refine z_w 6 rfl (fun S' h' hi hB => Zg (.sl none 3 (List.map c_Exp p1.Exps)) ld24 rfl (At.s (InvL.get 1 hi rfl (hB 1000000 (by kernel_rfl)))) rfl) ?_
 refine z_w 7 rfl (fun S' h' hi hB => o_mv (.sc (.int _ _)) rfl) ?_
 obtain ⟨x3, hx1, hm⟩ := Zc hm
 refine z_w 8 rfl (fun S' h' hi hB => o_ix hx1 el24 rfl rfl) ?_
 refine z_w 9 rfl (fun S' h' hi hB => o_ld (.agg (c_Exp x3)) ld65 rfl rfl) ?_
 refine z_e2 10 11 rfl rfl (by kernel_rfl) ?_ ?_
 refine (a_alloc ([.sc (.int .i64 0), .sc (.int .i64 0), .sc (.slice none 0 0)]) hk zr65 rfl rfl fun k247 hk0 => ⟨⟨fun _ => hp_at 2 hk0 rfl, fun _ => hp_at 1 hk0 rfl, trivial⟩, ?_⟩)
 refine z_e 11 rfl (by kernel_rfl) (a_alloc ([.sc (.int .i64 0), .sc (.int .i64 0), .sc (.slice none 0 0)]) hk0 zr65 rfl rfl fun k250 hk1 => ⟨⟨fun _ => hp_at 3 hk1 rfl, fun _ => hp_at 2 hk1 rfl, trivial⟩, ?_⟩)
 refine z_e 12 rfl (by kernel_rfl) (a_store 1 (c_Exp x2) hk1 rfl rfl rfl rfl sz65 rfl rfl fun hk2 => ⟨⟨fun _ => hp_at 3 hk2 rfl, fun _ => hp_at 2 hk2 rfl, trivial⟩, ?_⟩)
 refine z_e 13 rfl (by kernel_rfl) (a_store 0 (c_Exp x3) hk2 rfl rfl rfl rfl sz65 rfl rfl fun hk4 => ⟨⟨fun _ => hp_at 3 hk4 rfl, fun _ => hp_at 2 hk4 rfl, trivial⟩, ?_⟩)
 refine z_nil (by kernel_rfl) (qk (f := .c 8 _ (.c 7 _ (.c 76 _ (.c 75 _ (.c 74 _ (.c 73 _ (.c 72 _ (.c 71 _ (.c 70 _ (.c 69 _ (.c 68 _ (.c 67 _ _)))))))))))) hk4 rfl ?_)
 refine vs ?_
 refine vjnH hm (σ := Bool) (τ := Unit) (fun g s => [(some k250, .obj 65 (c_Exp x3)), (some k247, .obj 65 (c_Exp x2)), (some k5, .obj 27 (c_Catalog p1)), (some k2, .obj 27 (c_Catalog p0))]) (fun g s => .c 2 (.ptr k2 0) (.c 3 (.ptr k5 0) (.c 6 (.sc (.int .i64 q1)) (.c 96 (.sc (.bool s)) .nil)))) (fun x hm => ?_) ?_
 refine v (vl 1 _ ld3 rfl rfl rfl (vl 0 _ ld3 rfl rfl rfl ?_))
 refine vi hm (fun hb3 hm => ?_) fun hb3 hm => ?_
 rw [hb3]
 exact vgo hm () trivial (lx (.k4 .nil))
 rw [hb3]
 refine vl 1 _ ld3 rfl rfl rfl (vl 0 _ ld3 rfl rfl rfl ?_)
 refine vi hm (fun hb4 hm => ?_) fun hb4 hm => ?_
 rw [hb4]
 exact vgo hm () trivial (lx (.k4 .nil))
 rw [hb4]
 refine vl 1 _ ld58 rfl rfl rfl (vl 0 _ ld58 rfl rfl rfl ?_)
 refine vk W58 bd58 hm rfl rfl fun _ hm => ?_
 exact vgo hm () trivial (lx (.k4 .nil))
 rintro _ j1 hm
 refine v ?_
 refine vi hm (fun hc4 hm => ?_) fun hc4 hm => ?_
 refine v (v ?_)
 refine vrt hm fun hm => ?_
 injection hm with hm; subst hm
 exact vr1 rfl
 refine v (v ?_)
 exact vgo hm () trivial (lxs [2, 3] rfl rfl (.k3 .nil))
 refine (a_alloc ([.sc (.int .i64 0), .sc (.int .i64 0), .sc (.slice none 0 0)]) hk zr65 rfl rfl fun k268 hk5 => ⟨⟨fun _ => hp_at 2 hk5 rfl, fun _ => hp_at 1 hk5 rfl, trivial⟩, ?_⟩)
 refine z_e 10 rfl (by kernel_rfl) (a_alloc ([.sc (.int .i64 0), .sc (.int .i64 0), .sc (.slice none 0 0)]) hk5 zr65 rfl rfl fun k271 hk7 => ⟨⟨fun _ => hp_at 3 hk7 rfl, fun _ => hp_at 2 hk7 rfl, trivial⟩, ?_⟩)
 refine z_e 12 rfl (by kernel_rfl) (a_store 0 (c_Exp x2) hk7 rfl rfl rfl rfl sz65 rfl rfl fun hk8 => ⟨⟨fun _ => hp_at 3 hk8 rfl, fun _ => hp_at 2 hk8 rfl, trivial⟩, ?_⟩)
 refine z_e 13 rfl (by kernel_rfl) (a_store 1 (c_Exp x3) hk8 rfl rfl rfl rfl sz65 rfl rfl fun hk9 => ⟨⟨fun _ => hp_at 3 hk9 rfl, fun _ => hp_at 2 hk9 rfl, trivial⟩, ?_⟩)
 refine z_nil (by kernel_rfl) (qk (f := .c 7 _ (.c 8 _ (.c 76 _ (.c 75 _ (.c 74 _ (.c 73 _ (.c 72 _ (.c 71 _ (.c 70 _ (.c 69 _ (.c 68 _ (.c 67 _ _)))))))))))) hk9 rfl ?_)
 refine vs ?_
 refine vjnH hm (σ := Bool) (τ := Unit) (fun g s => [(some k271, .obj 65 (c_Exp x2)), (some k268, .obj 65 (c_Exp x3)), (some k5, .obj 27 (c_Catalog p1)), (some k2, .obj 27 (c_Catalog p0))]) (fun g s => .c 2 (.ptr k2 0) (.c 3 (.ptr k5 0) (.c 6 (.sc (.int .i64 q1)) (.c 96 (.sc (.bool s)) .nil)))) (fun x hm => ?_) ?_
 refine v (vl 0 _ ld3 rfl rfl rfl (vl 1 _ ld3 rfl rfl rfl ?_))
 refine vi hm (fun hb5 hm => ?_) fun hb5 hm => ?_
 rw [hb5]
 exact vgo hm () trivial (lx (.k4 .nil))
 rw [hb5]
 refine vl 0 _ ld3 rfl rfl rfl (vl 1 _ ld3 rfl rfl rfl ?_)
 refine vi hm (fun hb6 hm => ?_) fun hb6 hm => ?_
 rw [hb6]
 exact vgo hm () trivial (lx (.k4 .nil))
 rw [hb6]
 refine vl 0 _ ld58 rfl rfl rfl (vl 1 _ ld58 rfl rfl rfl ?_)
 refine vk W58 bd58 hm rfl rfl fun _ hm => ?_
 exact vgo hm () trivial (lx (.k4 .nil))
 rintro _ j2 hm
 refine v ?_
 refine vi hm (fun hc5 hm => ?_) fun hc5 hm => ?_
 refine v (v ?_)
 refine vrt hm fun hm => ?_
 injection hm with hm; subst hm
 exact vr1 rfl
 refine v (v ?_)
 exact vgo hm () trivial (lxs [2, 3] rfl rfl (.k3 .nil))
 refine v ?_
 exact vbk hm () trivial (lx (.k3 .nil))
 rintro _ r1 hm
 refine v (v ?_)
 injection hm with hm; subst hm
 exact vr1 rfl
theorem bd17 : bodied Try.prog 17 = true := by kernel_rfl
def M18_L0 (fuel : Nat) (p0 : List Int) (p1 : List Int) (q0 : Int) : Option (Lp (Int) (Bool)) :=
 if (decide (q0 < (p0.length : Int))) = true then ((ix p0 q0).bind fun x0 => (ix p1 q0).bind fun x1 => if (x0 != x1) = true then (some (.ret false)) else some (.go (IntKind.wrap .i64 (q0 + 1)))) else some (.brk q0)
def M18 (fuel : Nat) (p0 : List Int) (p1 : List Int) : Option (Bool) :=
 if ((p0.length : Int) != (p1.length : Int)) = true then (some false) else after (loopM (fun s => M18_L0 fuel p0 p1 s) fuel 0) fun r0 => some true
set_option maxHeartbeats 4000000 in
set_option maxRecDepth 100000 in
theorem W18 {fuel : Nat} {p0 : List Int} {p1 : List Int} {o : Bool} (h : Heap) (hm : M18 fuel p0 p1 = some o) :
 ACalls Try.prog 18 [.sl none 1 (List.map c_i64 p0), .sl none 1 (List.map c_i64 p1)] h (fun r h' => r = .sc (.bool o) ∧ h' = h) := by
 refine ACv 26 [.tmp 4] Try.func18 rfl rfl rfl rfl ?_
 unfold M18 at hm
 refine v (v (vln ln28 rfl (vln ln28 rfl (v ?_))))
 refine vi hm (fun hc4 hm => ?_) fun hc4 hm => ?_
 refine v (v ?_)
 injection hm with hm; subst hm
 exact vr1 rfl
 refine v (v ?_)
 refine vlpH hm (σ := Int) (τ := Unit) (fun g s => []) (fun g s => .c 0 (.sl none 1 (List.map c_i64 p0)) (.c 1 (.sl none 1 (List.map c_i64 p1)) (.c 5 (.sc (.int .i64 s)) .nil))) () (lx (.k3 .nil)) ?_ ?_
 rintro _ q0 x hm
 replace hm : M18_L0 fuel p0 p1 q0 = some x := hm
 unfold M18_L0 at hm
 refine v (vln ln28 rfl (v ?_))
 refine vi hm (fun hc0 hm => ?_) fun hc0 hm => ?_
 refine v (v (v (vq (by kernel_rfl) ?_)))
 refine vx hm el28 rfl rfl fun _ _ hm => ?_
 refine vx hm el28 rfl rfl fun _ _ hm => ?_
 refine v ?_
 refine vi hm (fun hc1 hm => ?_) fun hc1 hm => ?_
 refine v (v ?_)
 refine vrt hm fun hm => ?_
 injection hm with hm; subst hm
 exact vr1 rfl
 refine v (v ?_)
 exact vgo hm () trivial (lx (.k3 .nil))
 refine v ?_
 exact vbk hm () trivial (lx (.k3 .nil))
 rintro _ r0 hm
 refine v (v ?_)
 injection hm with hm; subst hm
 exact vr1 rfl
theorem bd18 : bodied Try.prog 18 = true := by kernel_rfl
open Go.Vm
theorem any_loop {α ρ : Type} {l : List α} {F : Nat} {body : Int → Option (Lp Int ρ)} (q : α → Bool) (r : ρ) (hF : l.length < F) (hb : ∀ (i : Nat) (x : α), l[i]? = some x → x ∈ l → i < l.length → body (i : Int) = some (if q x then .ret r else .go ((i + 1 : Nat) : Int)))
    (he : body (l.length : Int) = some (.brk (l.length : Int))) : loopM body F 0 = some (if l.any q then .ret r else .brk (l.length : Int)) := by
  rw [loop_ff (s0 := (0 : Int)) (n := l.length) (F := F) (fun i : Nat => (i : Int)) (fun i => (l[i]?).any q) (fun _ => r) hF rfl (fun i hi _ => by
    rw [hb i l[i] (List.getElem?_eq_getElem hi) (List.getElem_mem hi) hi, List.getElem?_eq_getElem hi]; rfl) (fun _ => he), LF_all, range_any]
theorem m53 {F : Nat} {l : List TLoc} (hl : l.length ≤ 1000) : M53 F l = some l := by unfold M53; rw [app_some (by simp; omega)]; simp
theorem m100 {F : Nat} {l : List Int} (hl : l.length ≤ 1000) : M100 F l = some l := by unfold M100; rw [app_some (by simp; omega)]; simp
theorem go_loop {S ρ : Type} {body : S → Option (Lp S ρ)} {n F : Nat} {s0 : S} (emb : Nat → S) (hF : n < F) (h0 : s0 = emb 0) (hb : ∀ i, i < n → body (emb i) = some (.go (emb (i + 1)))) (he : body (emb n) = some (.brk (emb n))) :
    loopM body F s0 = some (.brk (emb n)) := by
  obtain ⟨s', h1, h2⟩ := loop_inv (body := body) (I := fun i s => s = emb i) (n := n) (fun i s hi hs => ⟨_, by rw [hs]; exact hb i hi, rfl⟩) (fun s hs => by rw [hs]; exact he) F 0 s0 (Nat.zero_le _) (by omega) h0
  rw [h2, h1]
theorem twin_loop {α ρ : Type} {l : List α} {F : Nat} {body : List α × Int → Option (Lp (List α × Int) ρ)} (hF : l.length < F)
    (hb : ∀ (i : Nat) (x : α), l[i]? = some x → x ∈ l → i < l.length → body (l.take i, (i : Int)) = some (.go (l.take i ++ [x], ((i + 1 : Nat) : Int)))) (he : body (l, (l.length : Int)) = some (.brk (l, (l.length : Int)))) :
    loopM body F ([], 0) = some (.brk (l, (l.length : Int))) := by
  have := go_loop (body := body) (s0 := (([] : List α), (0 : Int))) (n := l.length) (F := F) (fun i : Nat => (l.take i, (i : Int))) hF rfl (fun i hi => by
    rw [hb i l[i] (List.getElem?_eq_getElem hi) (List.getElem_mem hi) hi]
    simp) (by simpa using he)
  simpa using this
theorem m52 {F : Nat} {m : TManifest} (hF : 1000 ≤ F) (hp : m.Parts.length ≤ 10) (hi : ∀ p ∈ m.Parts, p.Ids.length ≤ 40) : M52 F m = some m := by
 unfold M52
 rw [twin_loop (l := m.Parts) (by omega) (fun i x hx hm hi' => by
  have := hi x hm
  unfold M52_L0
  rw [wr1 (by omega)]
  simp only [ix_nat, hx, Option.bind_some, Int.ofNat_lt, hi', decide_true, if_true]
  rw [app_some (by simp; omega)]
  simp only [Option.bind_some, List.nil_append]
  rw [app_some (by simp; omega)]
  rfl) (by unfold M52_L0; simp)]
 rfl
theorem m54 {F : Nat} {l : List TChunk} (hF : 1000 ≤ F) (hl : l.length ≤ 400) (hx : ∀ x ∈ l, x.Locs.length ≤ 300 ∧ x.Data.length ≤ 300) : M54 F l = some l := by
 unfold M54
 rw [twin_loop (l := l) (by omega) (fun i x hx' hm hi' => by
  have := hx x hm
  unfold M54_L0
  rw [wr1 (by omega)]
  simp only [ix_nat, hx', Option.bind_some, Int.ofNat_lt, hi', decide_true, if_true, m100 (F := F) (show x.Data.length ≤ 1000 by omega), m53 (F := F) (show x.Locs.length ≤ 1000 by omega)]
  rw [app_some (by simp; omega)]
  rfl) (by unfold M54_L0; simp)]
 rfl
theorem m14 {F : Nat} {c : TCatalog} (hF : 1000 ≤ F) (h : Sm c) : M14 F c = some c := by
 have hsn := h.sn
 have hex := h.ex
 have hvo := h.vo
 unfold M14
 rw [twin_loop (l := c.Snaps) (by omega) (fun i x hx hm hi' => by
  have h1 := h.sl x hm
  obtain ⟨-, h2, h3⟩ := h.man x hm
  unfold M14_L0
  rw [wr1 (by omega)]
  simp only [ix_nat, hx, Option.bind_some, Int.ofNat_lt, hi', decide_true, if_true, m52 hF h2 (fun p hp => (h3 p hp).2), m53 (F := F) (show x.Locs.length ≤ 1000 by omega)]
  rw [app_some (by simp; omega)]
  rfl) (by unfold M14_L0; simp)]
 rw [twin_loop (l := c.Exps) (by omega) (fun i x hx hm hi' => by
  have h1 := h.el x hm
  unfold M14_L2
  rw [wr1 (by omega)]
  simp only [ix_nat, hx, Option.bind_some, Int.ofNat_lt, hi', decide_true, if_true, m53 (F := F) (show x.Locs.length ≤ 1000 by omega)]
  rw [app_some (by simp; omega)]
  rfl) (by unfold M14_L2; simp)]
 simp only [after_brk, m54 hF h.ch h.cl, Option.bind_some]
 rw [app_some (by simp; omega)]
 rfl
open Go.Vm
def M16_L2 (fuel : Nat) (p0 : TCatalog) (p1 : Int) (p2 : Int) (p3 : List Int) (p4 : Int) (x0 : Int) (q0 : Int) : Option (Lp (Int) (Lp (Int) (Int × Int))) :=
 if (decide (q0 < (p0.Vols.length : Int))) = true then ((ix p0.Vols q0).bind fun x1 => after (if (x1.Pool == p1) = true then (if (q0 != p4) = true then (if (x1.State == x0) = true then ((ix p3 q0).bind fun x2 => some (.brk (decide (p2 ≤ x2)))) else some (.brk false)) else some (.brk false)) else some (.brk false) : Option (Lp (Bool) (Lp (Int) (Lp (Int) (Int × Int))))) fun j0 => if j0 = true then (some (.ret (.ret (q0, 0)))) else some (.go (IntKind.wrap .i64 (q0 + 1)))) else some (.brk q0)
def M16_L0 (fuel : Nat) (p0 : TCatalog) (p1 : Int) (p2 : Int) (p3 : List Int) (p4 : Int) (q0 : Int) : Option (Lp (Int) (Int × Int)) :=
 if (decide (q0 < (([2, 1] : List Int).length : Int))) = true then ((ix ([2, 1] : List Int) q0).bind fun x0 => after (loopM (fun s => M16_L2 fuel p0 p1 p2 p3 p4 x0 s) fuel 0) fun r0 => some (.go (IntKind.wrap .i64 (q0 + 1)))) else some (.brk q0)
def M16 (fuel : Nat) (p0 : TCatalog) (p1 : Int) (p2 : Int) (p3 : List Int) (p4 : Int) : Option (Int × Int) :=
 after ((M33 fuel p0).bind fun y0 => if (y0 != 0) = true then (some (.brk true)) else some (.brk ((p3.length : Int) != (p0.Vols.length : Int))) : Option (Lp (Bool) (Int × Int))) fun j0 => if j0 = true then (some (0, 1)) else after (loopM (fun s => M16_L0 fuel p0 p1 p2 p3 p4 s) fuel 0) fun r0 => some (0, 12)
set_option maxHeartbeats 4000000 in
set_option maxRecDepth 100000 in
theorem W16 {fuel : Nat} {p0 : TCatalog} {p1 : Int} {p2 : Int} {p3 : List Int} {p4 : Int} {o : Int × Int} (h : Heap) (hm : M16 fuel p0 p1 p2 p3 p4 = some o) :
 ACalls Try.prog 16 [.agg (c_Catalog p0), .sc (.int .i64 p1), .sc (.int .i64 p2), .sl none 1 (List.map c_i64 p3), .sc (.int .i64 p4)] h (fun r h' => r = .tup [.sc (.int .i64 o.1), .sc (.int .i64 o.2)] ∧ h' = h) := by
 refine ACv 67 [.tmp 10, .tmp 11] Try.func16 rfl rfl rfl rfl ?_
 unfold M16 at hm
 refine v ?_
 refine ve fun hk => a_box hk rfl rfl fun k2 hk3 => qk hk3 rfl ?_
 refine vs (vs ?_)
 refine vjnH hm (σ := Bool) (τ := Unit) (fun g s => [(some k2, .obj 27 (c_Catalog p0))]) (fun g s => .c 1 (.sc (.int .i64 p1)) (.c 2 (.sc (.int .i64 p2)) (.c 3 (.sl none 1 (List.map c_i64 p3)) (.c 4 (.sc (.int .i64 p4)) (.c 5 (.ptr k2 0) (.c 26 (.sc (.bool s)) .nil)))))) (fun x hm => ?_) ?_
 refine v (vl 0 (.agg (c_Catalog p0)) ld27 rfl rfl rfl ?_)
 refine vk W33 bd33 hm rfl rfl fun _ hm => ?_
 refine vi hm (fun hb0 hm => ?_) fun hb0 hm => ?_
 rw [hb0]
 exact vgo hm () trivial (lx (.k6 .nil))
 rw [hb0]
 refine vln ln28 rfl (vl 0 _ ld25 rfl rfl rfl (vln ln25 rfl ?_))
 exact vgo hm () trivial (lx (.k6 .nil))
 rintro _ j0 hm
 refine v ?_
 refine vi hm (fun hc0 hm => ?_) fun hc0 hm => ?_
 refine v (v ?_)
 cases hm
 exact vr2 rfl rfl
 refine v (v (vn (fun _ => o_lit (List.map c_i64 ([2, 1] : List Int)) et28 rfl rfl rfl rfl) (vln ln28 rfl ?_)))
 refine vlpH hm (σ := Int) (τ := Unit) (fun g s => [(some k2, .obj 27 (c_Catalog p0))]) (fun g s => .c 1 (.sc (.int .i64 p1)) (.c 2 (.sc (.int .i64 p2)) (.c 3 (.sl none 1 (List.map c_i64 p3)) (.c 4 (.sc (.int .i64 p4)) (.c 5 (.ptr k2 0) (.c 27 (.sl none 1 (List.map c_i64 ([2, 1] : List Int))) (.c 28 (.sc (.int .i64 (([2, 1] : List Int).length : Int))) (.c 29 (.sc (.int .i64 s)) .nil)))))))) () (lx (.k8 .nil)) ?_ ?_
 rintro _ q0 x hm
 replace hm : M16_L0 fuel p0 p1 p2 p3 p4 q0 = some x := hm
 unfold M16_L0 at hm
 refine v (v ?_)
 refine vi hm (fun hc1 hm => ?_) fun hc1 hm => ?_
 refine v (v (v ?_))
 refine vx hm el28 rfl rfl fun x0 _ hm => ?_
 refine v (vl 0 _ ld25 rfl rfl rfl (vln ln25 rfl ?_))
 refine vlpH hm (σ := Int) (τ := Unit) (fun g s => [(some k2, .obj 27 (c_Catalog p0))]) (fun g s => .c 1 (.sc (.int .i64 p1)) (.c 2 (.sc (.int .i64 p2)) (.c 3 (.sl none 1 (List.map c_i64 p3)) (.c 4 (.sc (.int .i64 p4)) (.c 5 (.ptr k2 0) (.c 13 (.sc (.int .i64 x0)) (.c 27 (.sl none 1 (List.map c_i64 ([2, 1] : List Int))) (.c 28 (.sc (.int .i64 (([2, 1] : List Int).length : Int))) (.c 29 (.sc (.int .i64 q0)) (.c 34 (.sl none 4 (List.map c_Vol p0.Vols)) (.c 35 (.sc (.int .i64 (p0.Vols.length : Int))) (.c 36 (.sc (.int .i64 s)) .nil)))))))))))) () (lx (.k12 .nil)) ?_ ?_
 rintro _ q1 x hm
 replace hm : M16_L2 fuel p0 p1 p2 p3 p4 x0 q1 = some x := hm
 unfold M16_L2 at hm
 refine v (v ?_)
 refine vi hm (fun hc2 hm => ?_) fun hc2 hm => ?_
 refine v (v (v ?_))
 refine vx hm el25 rfl rfl fun x1 _ hm => ?_
 refine va (.agg (c_Vol x1)) ld40 rfl rfl ?_
 refine ve fun hk => a_alloc ([.sc (.int .i64 0), .sc (.int .i64 0), .sc (.int .i64 0), .sc (.int .i64 0)]) hk zr40 rfl rfl fun k268 hk0 => qk hk0 rfl ?_
 refine ve fun hk => a_store 0 (c_Vol x1) hk rfl rfl rfl rfl sz40 rfl rfl fun hk1 => qk hk1 rfl ?_
 refine vs ?_
 refine vjnH hm (σ := Bool) (τ := Unit) (fun g s => [(some k268, .obj 40 (c_Vol x1)), (some k2, .obj 27 (c_Catalog p0))]) (fun g s => .c 1 (.sc (.int .i64 p1)) (.c 2 (.sc (.int .i64 p2)) (.c 3 (.sl none 1 (List.map c_i64 p3)) (.c 4 (.sc (.int .i64 p4)) (.c 5 (.ptr k2 0) (.c 13 (.sc (.int .i64 x0)) (.c 14 (.sc (.int .i64 q1)) (.c 27 (.sl none 1 (List.map c_i64 ([2, 1] : List Int))) (.c 28 (.sc (.int .i64 (([2, 1] : List Int).length : Int))) (.c 29 (.sc (.int .i64 q0)) (.c 34 (.sl none 4 (List.map c_Vol p0.Vols)) (.c 35 (.sc (.int .i64 (p0.Vols.length : Int))) (.c 36 (.sc (.int .i64 q1)) (.c 63 (.sc (.bool s)) .nil)))))))))))))) (fun x hm => ?_) ?_
 refine v (vl 0 _ ld3 rfl rfl rfl ?_)
 refine vi hm (fun hb1 hm => ?_) fun hb1 hm => ?_
 rw [hb1]
 refine vi hm (fun hb2 hm => ?_) fun hb2 hm => ?_
 rw [hb2]
 refine vl 0 _ ld3 rfl rfl rfl ?_
 refine vi hm (fun hb3 hm => ?_) fun hb3 hm => ?_
 rw [hb3]
 refine vx hm el28 rfl rfl fun _ _ hm => ?_
 exact vgo hm () trivial (lx (.k12 (.k2 .nil)))
 rw [hb3]
 exact vgo hm () trivial (lx (.k12 (.k2 .nil)))
 rw [hb2]
 exact vgo hm () trivial (lx (.k12 (.k2 .nil)))
 rw [hb1]
 exact vgo hm () trivial (lx (.k12 (.k2 .nil)))
 rintro _ j1 hm
 refine v ?_
 refine vi hm (fun hc3 hm => ?_) fun hc3 hm => ?_
 refine v (v ?_)
 refine vrt hm fun hm => ?_
 refine vrt hm fun hm => ?_
 cases hm
 exact vr2 rfl rfl
 refine v (v ?_)
 exact vgo hm () trivial (lxs [1] rfl rfl (.k12 .nil))
 refine v ?_
 exact vbk hm () trivial (lx (.k12 .nil))
 rintro _ r0 hm
 refine v ?_
 exact vgo hm () trivial (lx (.k8 .nil))
 refine v ?_
 exact vbk hm () trivial (lx (.k8 .nil))
 rintro _ r1 hm
 refine v (v ?_)
 cases hm
 exact vr2 rfl rfl
theorem bd16 : bodied Try.prog 16 = true := by kernel_rfl
def M37 (fuel : Nat) (p0 : TCatalog) (p1 : Int) : Option ((List TItem)) :=
 (M33 fuel p0).bind fun y0 => if (y0 != 0) = true then (some []) else (M78 fuel p0 (fun x0 x1 => M80 fuel x0 x1 p1)).bind fun y1 => some y1
set_option maxHeartbeats 4000000 in
set_option maxRecDepth 100000 in
theorem W37 {fuel : Nat} {p0 : TCatalog} {p1 : Int} {o : (List TItem)} (h : Heap) (hm : M37 fuel p0 p1 = some o) :
 ACalls Try.prog 37 [.agg (c_Catalog p0), .sc (.int .i64 p1)] h (fun r h' => r = .sl none 37 (List.map c_Item o) ∧ h' = h) := by
 refine ACv 11 [.tmp 4] Try.func37 rfl rfl rfl rfl ?_
 unfold M37 at hm
 refine v ?_
 refine ve fun hk => a_box hk rfl rfl fun k2 hk3 => qk hk3 rfl ?_
 refine ve fun hk => a_box hk rfl rfl fun k5 hk6 => qk hk6 rfl ?_
 refine v (vl 1 (.agg (c_Catalog p0)) ld27 rfl rfl rfl ?_)
 refine vk W33 bd33 hm rfl rfl fun _ hm => ?_
 refine v ?_
 refine vi hm (fun hc0 hm => ?_) fun hc0 hm => ?_
 refine v (v ?_)
 cases hm
 exact vr fun hk => Ret.of1 (.inl rfl) (rsT _ _ (.sc (.slice _ _ _)) rfl) (hp_sub (List.nil_sublist _) hk).1 (nil_lem _) ⟨rfl, rfl⟩
 refine v (v (vl 1 (.agg (c_Catalog p0)) ld27 rfl rfl rfl ?_))
 obtain ⟨_, hy0, hm⟩ := Zc hm
 refine vn (fun hk => o_call (W78 _ bd80 (fun _ _ o h0 hs ho => W80 _ (hs _ _ (Zd 0 hk rfl)) ho) hy0) rfl bd78 rfl) (v ?_)
 injection hm with hm; subst hm
 exact vr1 rfl
theorem bd37 : bodied Try.prog 37 = true := by kernel_rfl
def M20_L0 (fuel : Nat) (p0 : TCatalog) (y8 : (List TItem)) (q0 : Int) (q1 : Int) : Option (Lp (Int × Int) (Int)) :=
 if (decide (q1 < (y8.length : Int))) = true then ((ix y8 q1).bind fun x0 => after (if (x0.Kind != 1) = true then (some (.brk true)) else (M44 fuel p0 x0.Id).bind fun y0 => some (.brk y0) : Option (Lp (Bool) (Lp (Int × Int) (Int)))) fun j0 => after (if j0 = true then (some (.brk (IntKind.wrap .i64 (q0 + 1)))) else some (.brk q0) : Option (Lp (Int) (Lp (Int × Int) (Int)))) fun j1 => some (.go (j1, IntKind.wrap .i64 (q1 + 1)))) else some (.brk (q0, q1))
def M20 (fuel : Nat) (p0 : TCatalog) (p1 : Int) : Option (Int) :=
 (M37 fuel p0 p1).bind fun y8 => after (loopM (fun s => M20_L0 fuel p0 y8 s.1 s.2) fuel (0, 0)) fun ⟨r0, r1⟩ => some r0
set_option maxHeartbeats 4000000 in
set_option maxRecDepth 100000 in
theorem W20 {fuel : Nat} {p0 : TCatalog} {p1 : Int} {o : Int} (h : Heap) (hm : M20 fuel p0 p1 = some o) :
 ACalls Try.prog 20 [.agg (c_Catalog p0), .sc (.int .i64 p1)] h (fun r h' => r = .sc (.int .i64 o) ∧ h' = h) := by
 refine ACv 29 [.tmp 4] Try.func20 rfl rfl rfl rfl ?_
 unfold M20 at hm
 refine v ?_
 refine ve fun hk => a_box hk rfl rfl fun k2 hk3 => qk hk3 rfl ?_
 refine v (v (vl 0 (.agg (c_Catalog p0)) ld27 rfl rfl rfl ?_))
 refine vk W37 bd37 hm rfl rfl fun y8 hm => ?_
 refine vln ln70 rfl ?_
 refine vlpH hm (σ := Int × Int) (τ := Unit) (fun g s => [(some k2, .obj 27 (c_Catalog p0))]) (fun g s => .c 2 (.ptr k2 0) (.c 5 (.sc (.int .i64 s.1)) (.c 10 (.sl none 37 (List.map c_Item y8)) (.c 11 (.sc (.int .i64 (y8.length : Int))) (.c 12 (.sc (.int .i64 s.2)) .nil))))) () (lx (.k5 .nil)) ?_ ?_
 rintro _ ⟨q0, q1⟩ x hm
 replace hm : M20_L0 fuel p0 y8 q0 q1 = some x := hm
 unfold M20_L0 at hm
 refine v (v ?_)
 refine vi hm (fun hc0 hm => ?_) fun hc0 hm => ?_
 refine v (v (v ?_))
 refine vx hm el70 rfl rfl fun x0 _ hm => ?_
 refine va (.agg (c_Item x0)) ld99 rfl rfl ?_
 refine ve fun hk => a_alloc (([.sc (.int .i64 0)] : List AV) ++ c_id idZ ++ ([.sc (.int .i64 0), .sc (.int .i64 0), .sc (.int .i64 0), .sc (.int .i64 0)] : List AV)) hk zr99 rfl rfl fun k69 hk0 => qk hk0 rfl ?_
 refine ve fun hk => a_store 0 (c_Item x0) hk rfl rfl rfl rfl sz99 rfl rfl fun hk1 => qk hk1 rfl ?_
 refine vs ?_
 refine vjnH hm (σ := Bool) (τ := Unit) (fun g s => [(some k69, .obj 99 (c_Item x0)), (some k2, .obj 27 (c_Catalog p0))]) (fun g s => .c 2 (.ptr k2 0) (.c 5 (.sc (.int .i64 q0)) (.c 10 (.sl none 37 (List.map c_Item y8)) (.c 11 (.sc (.int .i64 (y8.length : Int))) (.c 12 (.sc (.int .i64 q1)) (.c 24 (.sc (.bool s)) .nil)))))) (fun x hm => ?_) ?_
 refine v (vl 0 _ ld3 rfl rfl rfl ?_)
 refine vi hm (fun hb0 hm => ?_) fun hb0 hm => ?_
 rw [hb0]
 exact vgo hm () trivial (lx (.k6 .nil))
 rw [hb0]
 refine vl 1 (.agg (c_Catalog p0)) ld27 rfl rfl rfl (vl 0 (.agg (c_id x0.Id)) ld61 rfl rfl rfl ?_)
 refine vk W44 bd44 hm rfl rfl fun _ hm => ?_
 exact vgo hm () trivial (lx (.k6 .nil))
 rintro _ j0 hm
 refine vjnH hm (σ := Int) (τ := Unit) (fun g s => [(some k69, .obj 99 (c_Item x0)), (some k2, .obj 27 (c_Catalog p0))]) (fun g s => .c 2 (.ptr k2 0) (.c 5 (.sc (.int .i64 s)) (.c 10 (.sl none 37 (List.map c_Item y8)) (.c 11 (.sc (.int .i64 (y8.length : Int))) (.c 12 (.sc (.int .i64 q1)) .nil))))) (fun x hm => ?_) ?_
 refine v ?_
 refine vi hm (fun hc1 hm => ?_) fun hc1 hm => ?_
 refine v ?_
 exact vgo hm () trivial (lx (.k5 .nil))
 refine v ?_
 exact vgo hm () trivial (lx (.k5 .nil))
 rintro _ j1 hm
 refine v ?_
 exact vgo hm () trivial (lxs [1] rfl rfl (.k5 .nil))
 refine v ?_
 exact vbk hm () trivial (lx (.k5 .nil))
 rintro _ ⟨r0, r1⟩ hm
 refine v (v ?_)
 injection hm with hm; subst hm
 exact vr1 rfl
theorem bd20 : bodied Try.prog 20 = true := by kernel_rfl
def M21_L0 (fuel : Nat) (p0 : TCatalog) (p1 : Int) (q0 : Int) (q1 : Int) (q2 : Int) : Option (Lp (Int × Int × Int) (Int)) :=
 if (decide (q2 < (p0.Vols.length : Int))) = true then (after ((ix p0.Vols q2).bind fun x0 => after (if (x0.Pool != p1) = true then (some (.brk true)) else some (.brk (x0.State != 2)) : Option (Lp (Bool) (Lp (Int × Int) (Lp (Int × Int × Int) (Int))))) fun j0 => if j0 = true then (some (.brk (q0, q1))) else (M20 fuel p0 q2).bind fun y0 => after (if (decide (q0 < 0)) = true then (some (.brk true)) else some (.brk (decide (y0 < q1))) : Option (Lp (Bool) (Lp (Int × Int) (Lp (Int × Int × Int) (Int))))) fun j1 => after (if j1 = true then (some (.brk (q2, y0))) else some (.brk (q0, q1)) : Option (Lp (Int × Int) (Lp (Int × Int) (Lp (Int × Int × Int) (Int))))) fun ⟨j2, j3⟩ => some (.brk (j2, j3)) : Option (Lp (Int × Int) (Lp (Int × Int × Int) (Int)))) fun ⟨j4, j5⟩ => some (.go (j4, j5, IntKind.wrap .i64 (q2 + 1)))) else some (.brk (q0, q1, q2))
def M21 (fuel : Nat) (p0 : TCatalog) (p1 : Int) : Option (Int) :=
 (M33 fuel p0).bind fun y7 => if (y7 != 0) = true then (some (-1)) else after (loopM (fun s => M21_L0 fuel p0 p1 s.1 s.2.1 s.2.2) fuel ((-1), 0, 0)) fun ⟨r0, r1, r2⟩ => some r0
set_option maxHeartbeats 4000000 in
set_option maxRecDepth 100000 in
theorem W21 {fuel : Nat} {p0 : TCatalog} {p1 : Int} {o : Int} (h : Heap) (hm : M21 fuel p0 p1 = some o) :
 ACalls Try.prog 21 [.agg (c_Catalog p0), .sc (.int .i64 p1)] h (fun r h' => r = .sc (.int .i64 o) ∧ h' = h) := by
 refine ACv 44 [.tmp 4] Try.func21 rfl rfl rfl rfl ?_
 unfold M21 at hm
 refine v ?_
 refine ve fun hk => a_box hk rfl rfl fun k2 hk3 => qk hk3 rfl ?_
 refine v (vl 0 (.agg (c_Catalog p0)) ld27 rfl rfl rfl ?_)
 refine vk W33 bd33 hm rfl rfl fun _ hm => ?_
 refine v ?_
 refine vi hm (fun hc9 hm => ?_) fun hc9 hm => ?_
 refine v (v ?_)
 cases hm
 exact vr1 rfl
 refine v (v (v (vl 0 _ ld25 rfl rfl rfl (vln ln25 rfl ?_))))
 refine vlpH hm (σ := Int × Int × Int) (τ := Unit) (fun g s => [(some k2, .obj 27 (c_Catalog p0))]) (fun g s => .c 1 (.sc (.int .i64 p1)) (.c 2 (.ptr k2 0) (.c 5 (.sc (.int .i64 s.1)) (.c 6 (.sc (.int .i64 s.2.1)) (.c 14 (.sl none 4 (List.map c_Vol p0.Vols)) (.c 15 (.sc (.int .i64 (p0.Vols.length : Int))) (.c 16 (.sc (.int .i64 s.2.2)) .nil))))))) () (lx (.k7 .nil)) ?_ ?_
 rintro _ ⟨q0, q1, q2⟩ x hm
 replace hm : M21_L0 fuel p0 p1 q0 q1 q2 = some x := hm
 unfold M21_L0 at hm
 refine v (v ?_)
 refine vi hm (fun hc0 hm => ?_) fun hc0 hm => ?_
 refine v (vs ?_)
 refine vjnH hm (σ := Int × Int) (τ := Unit) (fun g s => [(some k2, .obj 27 (c_Catalog p0))]) (fun g s => .c 1 (.sc (.int .i64 p1)) (.c 2 (.ptr k2 0) (.c 5 (.sc (.int .i64 s.1)) (.c 6 (.sc (.int .i64 s.2)) (.c 14 (.sl none 4 (List.map c_Vol p0.Vols)) (.c 15 (.sc (.int .i64 (p0.Vols.length : Int))) (.c 16 (.sc (.int .i64 q2)) .nil))))))) (fun x hm => ?_) ?_
 refine v (v ?_)
 refine vx hm el25 rfl rfl fun x0 _ hm => ?_
 refine va (.agg (c_Vol x0)) ld40 rfl rfl ?_
 refine ve fun hk => a_alloc ([.sc (.int .i64 0), .sc (.int .i64 0), .sc (.int .i64 0), .sc (.int .i64 0)]) hk zr40 rfl rfl fun k178 hk0 => qk hk0 rfl ?_
 refine ve fun hk => a_store 0 (c_Vol x0) hk rfl rfl rfl rfl sz40 rfl rfl fun hk1 => qk hk1 rfl ?_
 refine vs (vs ?_)
 refine vjnH hm (σ := Bool) (τ := Unit) (fun g s => [(some k178, .obj 40 (c_Vol x0)), (some k2, .obj 27 (c_Catalog p0))]) (fun g s => .c 1 (.sc (.int .i64 p1)) (.c 2 (.ptr k2 0) (.c 5 (.sc (.int .i64 q0)) (.c 6 (.sc (.int .i64 q1)) (.c 7 (.sc (.int .i64 q2)) (.c 14 (.sl none 4 (List.map c_Vol p0.Vols)) (.c 15 (.sc (.int .i64 (p0.Vols.length : Int))) (.c 16 (.sc (.int .i64 q2)) (.c 29 (.sc (.bool s)) .nil))))))))) (fun x hm => ?_) ?_
 refine v (vl 0 _ ld3 rfl rfl rfl ?_)
 refine vi hm (fun hb0 hm => ?_) fun hb0 hm => ?_
 rw [hb0]
 exact vgo hm () trivial (lx (.k9 .nil))
 rw [hb0]
 refine vl 0 _ ld3 rfl rfl rfl ?_
 exact vgo hm () trivial (lx (.k9 .nil))
 rintro _ j0 hm
 refine v ?_
 refine vi hm (fun hc1 hm => ?_) fun hc1 hm => ?_
 refine v ?_
 exact vgo hm () trivial (lxs [1] rfl rfl (.k7 .nil))
 refine v (v (vl 1 (.agg (c_Catalog p0)) ld27 rfl rfl rfl ?_))
 refine vk W20 bd20 hm rfl rfl fun y0 hm => ?_
 refine vs ?_
 refine vjnH hm (σ := Bool) (τ := Unit) (fun g s => [(some k178, .obj 40 (c_Vol x0)), (some k2, .obj 27 (c_Catalog p0))]) (fun g s => .c 1 (.sc (.int .i64 p1)) (.c 2 (.ptr k2 0) (.c 5 (.sc (.int .i64 q0)) (.c 6 (.sc (.int .i64 q1)) (.c 7 (.sc (.int .i64 q2)) (.c 9 (.sc (.int .i64 y0)) (.c 14 (.sl none 4 (List.map c_Vol p0.Vols)) (.c 15 (.sc (.int .i64 (p0.Vols.length : Int))) (.c 16 (.sc (.int .i64 q2)) (.c 39 (.sc (.bool s)) .nil)))))))))) (fun x hm => ?_) ?_
 refine v ?_
 refine vi hm (fun hb1 hm => ?_) fun hb1 hm => ?_
 rw [hb1]
 exact vgo hm () trivial (lx (.k10 .nil))
 rw [hb1]
 exact vgo hm () trivial (lx (.k10 .nil))
 rintro _ j1 hm
 refine vjnH hm (σ := Int × Int) (τ := Unit) (fun g s => [(some k178, .obj 40 (c_Vol x0)), (some k2, .obj 27 (c_Catalog p0))]) (fun g s => .c 1 (.sc (.int .i64 p1)) (.c 2 (.ptr k2 0) (.c 5 (.sc (.int .i64 s.1)) (.c 6 (.sc (.int .i64 s.2)) (.c 14 (.sl none 4 (List.map c_Vol p0.Vols)) (.c 15 (.sc (.int .i64 (p0.Vols.length : Int))) (.c 16 (.sc (.int .i64 q2)) .nil))))))) (fun x hm => ?_) ?_
 refine v ?_
 refine vi hm (fun hc2 hm => ?_) fun hc2 hm => ?_
 refine v ?_
 exact vgo hm () trivial (lx (.k7 .nil))
 refine v ?_
 exact vgo hm () trivial (lx (.k7 .nil))
 rintro _ ⟨j2, j3⟩ hm
 exact vgo hm () trivial (lxs [1] rfl rfl (.k7 .nil))
 rintro _ ⟨j4, j5⟩ hm
 refine v ?_
 exact vgo hm () trivial (lx (.k7 .nil))
 refine v ?_
 exact vbk hm () trivial (lx (.k7 .nil))
 rintro _ ⟨r0, r1, r2⟩ hm
 refine v (v ?_)
 injection hm with hm; subst hm
 exact vr1 rfl
theorem bd21 : bodied Try.prog 21 = true := by kernel_rfl
def M22_L0 (fuel : Nat) (p0 : TCatalog) (p1 : Int) (q0 : Int) (q1 : Int) : Option (Lp (Int × Int) (Int)) :=
 if (decide (q1 < (p0.Vols.length : Int))) = true then ((ix p0.Vols q1).bind fun x0 => after (if (x0.Pool == p1) = true then (some (.brk (x0.State != 3))) else some (.brk false) : Option (Lp (Bool) (Lp (Int × Int) (Int)))) fun j0 => after (if j0 = true then (some (.brk (IntKind.wrap .i64 (q0 + 1)))) else some (.brk q0) : Option (Lp (Int) (Lp (Int × Int) (Int)))) fun j1 => some (.go (j1, IntKind.wrap .i64 (q1 + 1)))) else some (.brk (q0, q1))
def M22 (fuel : Nat) (p0 : TCatalog) (p1 : Int) : Option (Int) :=
 (M33 fuel p0).bind fun y7 => if (y7 != 0) = true then (some 0) else after (loopM (fun s => M22_L0 fuel p0 p1 s.1 s.2) fuel (0, 0)) fun ⟨r0, r1⟩ => some r0
set_option maxHeartbeats 4000000 in
set_option maxRecDepth 100000 in
theorem W22 {fuel : Nat} {p0 : TCatalog} {p1 : Int} {o : Int} (h : Heap) (hm : M22 fuel p0 p1 = some o) :
 ACalls Try.prog 22 [.agg (c_Catalog p0), .sc (.int .i64 p1)] h (fun r h' => r = .sc (.int .i64 o) ∧ h' = h) := by
 refine ACv 31 [.tmp 4] Try.func22 rfl rfl rfl rfl ?_
 unfold M22 at hm
 refine v ?_
 refine ve fun hk => a_box hk rfl rfl fun k2 hk3 => qk hk3 rfl ?_
 refine v (vl 0 (.agg (c_Catalog p0)) ld27 rfl rfl rfl ?_)
 refine vk W33 bd33 hm rfl rfl fun _ hm => ?_
 refine v ?_
 refine vi hm (fun hc9 hm => ?_) fun hc9 hm => ?_
 refine v (v ?_)
 injection hm with hm; subst hm
 exact vr1 rfl
 refine v (v (v (vl 0 _ ld25 rfl rfl rfl (vln ln25 rfl ?_))))
 refine vlpH hm (σ := Int × Int) (τ := Unit) (fun g s => [(some k2, .obj 27 (c_Catalog p0))]) (fun g s => .c 1 (.sc (.int .i64 p1)) (.c 5 (.sc (.int .i64 s.1)) (.c 12 (.sl none 4 (List.map c_Vol p0.Vols)) (.c 13 (.sc (.int .i64 (p0.Vols.length : Int))) (.c 14 (.sc (.int .i64 s.2)) .nil))))) () (lx (.k5 .nil)) ?_ ?_
 rintro _ ⟨q0, q1⟩ x hm
 replace hm : M22_L0 fuel p0 p1 q0 q1 = some x := hm
 unfold M22_L0 at hm
 refine v (v ?_)
 refine vi hm (fun hc0 hm => ?_) fun hc0 hm => ?_
 refine v (v (v ?_))
 refine vx hm el25 rfl rfl fun x0 _ hm => ?_
 refine va (.agg (c_Vol x0)) ld40 rfl rfl ?_
 refine ve fun hk => a_alloc ([.sc (.int .i64 0), .sc (.int .i64 0), .sc (.int .i64 0), .sc (.int .i64 0)]) hk zr40 rfl rfl fun k65 hk0 => qk hk0 rfl ?_
 refine ve fun hk => a_store 0 (c_Vol x0) hk rfl rfl rfl rfl sz40 rfl rfl fun hk1 => qk hk1 rfl ?_
 refine vs ?_
 refine vjnH hm (σ := Bool) (τ := Unit) (fun g s => [(some k65, .obj 40 (c_Vol x0)), (some k2, .obj 27 (c_Catalog p0))]) (fun g s => .c 1 (.sc (.int .i64 p1)) (.c 5 (.sc (.int .i64 q0)) (.c 12 (.sl none 4 (List.map c_Vol p0.Vols)) (.c 13 (.sc (.int .i64 (p0.Vols.length : Int))) (.c 14 (.sc (.int .i64 q1)) (.c 26 (.sc (.bool s)) .nil)))))) (fun x hm => ?_) ?_
 refine v (vl 0 _ ld3 rfl rfl rfl ?_)
 refine vi hm (fun hb0 hm => ?_) fun hb0 hm => ?_
 rw [hb0]
 refine vl 0 _ ld3 rfl rfl rfl ?_
 exact vgo hm () trivial (lx (.k6 .nil))
 rw [hb0]
 exact vgo hm () trivial (lx (.k6 .nil))
 rintro _ j0 hm
 refine vjnH hm (σ := Int) (τ := Unit) (fun g s => [(some k65, .obj 40 (c_Vol x0)), (some k2, .obj 27 (c_Catalog p0))]) (fun g s => .c 1 (.sc (.int .i64 p1)) (.c 5 (.sc (.int .i64 s)) (.c 12 (.sl none 4 (List.map c_Vol p0.Vols)) (.c 13 (.sc (.int .i64 (p0.Vols.length : Int))) (.c 14 (.sc (.int .i64 q1)) .nil))))) (fun x hm => ?_) ?_
 refine v ?_
 refine vi hm (fun hc1 hm => ?_) fun hc1 hm => ?_
 refine v ?_
 exact vgo hm () trivial (lx (.k5 .nil))
 refine v ?_
 exact vgo hm () trivial (lx (.k5 .nil))
 rintro _ j1 hm
 refine v ?_
 exact vgo hm () trivial (lxs [1] rfl rfl (.k5 .nil))
 refine v ?_
 exact vbk hm () trivial (lx (.k5 .nil))
 rintro _ ⟨r0, r1⟩ hm
 refine v (v ?_)
 injection hm with hm; subst hm
 exact vr1 rfl
theorem bd22 : bodied Try.prog 22 = true := by kernel_rfl
def M30_L0 (fuel : Nat) (p0 : List Int) (q0 : List TVol) (q1 : Int) : Option (Lp ((List TVol) × Int) (TCatalog × Int)) :=
 if (decide (q1 < (p0.length : Int))) = true then ((ix p0 q1).bind fun x0 => (M68 fuel x0 0 1).bind fun y0 => if (!y0) = true then (some (.ret (({ Seq := 0, Snaps := [], Chunks := [], Exps := [], Vols := [] } : TCatalog), 1))) else (app q0 ([({ Pool := x0, Epoch := 0, State := 1, Files := 0 } : TVol)] : List TVol)).bind fun z0 => some (.go (z0, IntKind.wrap .i64 (q1 + 1)))) else some (.brk (q0, q1))
def M30 (fuel : Nat) (p0 : List Int) : Option (TCatalog × Int) :=
 (M68 fuel (p0.length : Int) 1 8).bind fun y7 => if (!y7) = true then (some (({ Seq := 0, Snaps := [], Chunks := [], Exps := [], Vols := [] } : TCatalog), 2)) else after (loopM (fun s => M30_L0 fuel p0 s.1 s.2) fuel ([], 0)) fun ⟨r0, r1⟩ => some (({ Seq := 0, Snaps := [], Chunks := [], Exps := [], Vols := r0 } : TCatalog), 0)
set_option maxHeartbeats 4000000 in
set_option maxRecDepth 100000 in
theorem W30 {fuel : Nat} {p0 : List Int} {o : TCatalog × Int} (h : Heap) (hm : M30 fuel p0 = some o) :
 ACalls Try.prog 30 [.sl none 1 (List.map c_i64 p0)] h (fun r h' => r = .tup [.agg (c_Catalog o.1), .sc (.int .i64 o.2)] ∧ h' = h) := by
 refine ACv 31 [.cell 2 27, .tmp 3] Try.func30 rfl rfl rfl rfl ?_
 unfold M30 at hm
 refine v ?_
 refine ve fun hk => a_alloc ([.sc (.int .i64 0), .sc (.slice none 0 0), .sc (.slice none 0 0), .sc (.slice none 0 0), .sc (.slice none 0 0)]) hk zr27 rfl rfl fun k2 hk3 => qk hk3 rfl ?_
 refine v (vln ln28 rfl ?_)
 refine vk W68 bd68 hm rfl rfl fun _ hm => ?_
 refine v ?_
 refine vi hm (fun hc9 hm => ?_) fun hc9 hm => ?_
 refine v (vn (fun _ => o_bld ([.sc (.int .i64 0), .sc (.slice none 0 0), .sc (.slice none 0 0), .sc (.slice none 0 0), .sc (.slice none 0 0)]) bt27 rfl) ?_)
 refine ve fun hk => a_store 0 ([.sc (.int .i64 0), .sc (.slice none 0 0), .sc (.slice none 0 0), .sc (.slice none 0 0), .sc (.slice none 0 0)]) hk rfl rfl rfl rfl sz27 rfl rfl fun hk0 => qk hk0 rfl ?_
 refine v ?_
 cases hm
 exact vr fun hk => Ret.of2 (.inl rfl) (rsC (.agg ([.sc (.int .i64 0), .sc (.slice none 0 0), .sc (.slice none 0 0), .sc (.slice none 0 0), .sc (.slice none 0 0)])) ld27 rfl (Zd 0 hk rfl) rfl) (rsT _ _ (.sc (.int _ _)) rfl) (hp_sub (List.nil_sublist _) hk).1 (ALe.agg (.cons (ALe.refl _ _) (.cons (nil_lem _) (.cons (nil_lem _) (.cons (nil_lem _) (.cons (nil_lem _) .nil)))))) (ALe.refl _ _) ⟨rfl, rfl⟩
 refine v (v ?_)
 refine ve fun hk => a_alloc ([.sc (.int .i64 0), .sc (.slice none 0 0), .sc (.slice none 0 0), .sc (.slice none 0 0), .sc (.slice none 0 0)]) hk zr27 rfl rfl fun k13 hk1 => qk hk1 rfl ?_
 refine v (vln ln28 rfl (vle (leo (.tok 40 4 (([] : List TVol).length * 4)) 1 ([.sc (.int .i64 0), .sc (.slice none 0 0), .sc (.slice none 0 0), .sc (.slice none 0 0), ow none 4 (List.map c_Vol [])]) rfl (.k4 (.cons (ow_nil (c := c_Vol) _ 4) .nil))) ?_))
 refine vlp hm (σ := (List TVol) × Int) (τ := Option Key) (fun g s => [(g, .tok 40 4 ((s.1 : List TVol).length * 4)), (some k13, .obj 27 ([.sc (.int .i64 0), .sc (.slice none 0 0), .sc (.slice none 0 0), .sc (.slice none 0 0), ow g 4 (List.map c_Vol s.1)])), (some k2, .obj 27 ([.sc (.int .i64 0), .sc (.slice none 0 0), .sc (.slice none 0 0), .sc (.slice none 0 0), .sc (.slice none 0 0)]))]) (fun g s => (g = none → s.1 = [])) (fun g s => .c 2 (.ptr k2 0) (.c 4 (.ptr k13 0) (.c 12 (.sl none 1 (List.map c_i64 p0)) (.c 13 (.sc (.int .i64 (p0.length : Int))) (.c 14 (.sc (.int .i64 s.2)) .nil))))) none (fun _ => rfl) (lx (.k5 .nil)) ?_ ?_
 rintro tg0 ⟨q0, q1⟩ x ot0 hm
 replace hm : M30_L0 fuel p0 q0 q1 = some x := hm
 unfold M30_L0 at hm
 refine v (v ?_)
 refine vi hm (fun hc0 hm => ?_) fun hc0 hm => ?_
 refine v (v (v ?_))
 refine vx hm el28 rfl rfl fun x0 _ hm => ?_
 refine v ?_
 refine vk W68 bd68 hm rfl rfl fun _ hm => ?_
 refine v ?_
 refine vi hm (fun hc1 hm => ?_) fun hc1 hm => ?_
 refine v (vn (fun _ => o_bld ([.sc (.int .i64 0), .sc (.slice none 0 0), .sc (.slice none 0 0), .sc (.slice none 0 0), .sc (.slice none 0 0)]) bt27 rfl) ?_)
 refine ve fun hk => a_store 2 ([.sc (.int .i64 0), .sc (.slice none 0 0), .sc (.slice none 0 0), .sc (.slice none 0 0), .sc (.slice none 0 0)]) hk rfl rfl rfl rfl sz27 rfl rfl fun hk2 => qk hk2 rfl ?_
 refine v ?_
 refine vrt hm fun hm => ?_
 cases hm
 exact vr fun hk => Ret.of2 (.inl rfl) (rsC (.agg ([.sc (.int .i64 0), .sc (.slice none 0 0), .sc (.slice none 0 0), .sc (.slice none 0 0), .sc (.slice none 0 0)])) ld27 rfl (Zd 2 hk rfl) rfl) (rsT _ _ (.sc (.int _ _)) rfl) (hp_sub (List.nil_sublist _) hk).1 (ALe.agg (.cons (ALe.refl _ _) (.cons (nil_lem _) (.cons (nil_lem _) (.cons (nil_lem _) (.cons (nil_lem _) .nil)))))) (ALe.refl _ _) ⟨rfl, rfl⟩
 refine v (v (vl 1 (ow tg0 4 (List.map c_Vol q0)) ld25 rfl rfl rfl (vn (fun _ => o_bld (c_Vol ({ Pool := x0, Epoch := 0, State := 1, Files := 0 } : TVol)) bt40 rfl) (vn (fun _ => o_lit (List.map c_Vol ([({ Pool := x0, Epoch := 0, State := 1, Files := 0 } : TVol)] : List TVol)) et25 rfl rfl rfl rfl) ?_))))
 obtain ⟨z0, hz0, hm⟩ := Zc hm
 refine ve fun hk => a_app (c := c_Vol) 0 hz0 et25 rfl rfl rfl ot0 hk rfl fun tg1 ot1 hk4 => qk hk4 rfl ?_
 refine ve fun hk => a_store 1 ([.sc (.int .i64 0), .sc (.slice none 0 0), .sc (.slice none 0 0), .sc (.slice none 0 0), ow tg1 4 (List.map c_Vol z0)]) hk rfl rfl (cellsOf_ow rfl) (all_ow _ _ _) sz25 rfl rfl fun hk5 => qk hk5 rfl ?_
 refine v ?_
 exact vgo hm tg1 ot1 (lx (.k5 .nil))
 refine v ?_
 exact vbk hm tg0 ot0 (lx (.k5 .nil))
 rintro tg2 ⟨r0, r1⟩ ot2 hm
 refine v (vl 1 (.agg ([.sc (.int .i64 0), .sc (.slice none 0 0), .sc (.slice none 0 0), .sc (.slice none 0 0), ow tg2 4 (List.map c_Vol r0)])) ld27 rfl rfl rfl ?_)
 refine ve fun hk => a_store 2 ([.sc (.int .i64 0), .sc (.slice none 0 0), .sc (.slice none 0 0), .sc (.slice none 0 0), ow tg2 4 (List.map c_Vol r0)]) hk rfl rfl rfl (by repeat (first | exact rfl | refine all_c (ocell_ow _ _ _) ?_ | refine all_c (ocell_aw _ _ _) ?_ | refine all_c rfl ?_)) sz27 rfl rfl fun hk6 => qk hk6 rfl ?_
 refine v ?_
 cases hm
 exact vr fun hk => Ret.of2 (.inl rfl) (rsC (.agg ([.sc (.int .i64 0), .sc (.slice none 0 0), .sc (.slice none 0 0), .sc (.slice none 0 0), ow tg2 4 (List.map c_Vol r0)])) ld27 rfl (Zd 2 hk rfl) rfl) (rsT _ _ (.sc (.int _ _)) rfl) (hp_sub (List.nil_sublist _) hk).1 (ALe.agg (.cons (ALe.refl _ _) (.cons (nil_lem _) (.cons (nil_lem _) (.cons (nil_lem _) (.cons ((own_frz0 _ 0 ot2 hk rfl)) .nil)))))) (ALe.refl _ _) ⟨rfl, rfl⟩
theorem bd30 : bodied Try.prog 30 = true := by kernel_rfl
def M23 (fuel : Nat) : Option (Bool) :=
 (M30 fuel ([1, 0, 0] : List Int)).bind fun y3 => (M16 fuel y3.1 0 5 ([9, 4, 5] : List Int) (-1)).bind fun y0 => after (if (y3.2 == 0) = true then (if (y0.2 == 0) = true then (if (y0.1 == 2) = true then ((M21 fuel y3.1 0).bind fun y1 => if (y1 == (-1)) = true then ((M22 fuel y3.1 0).bind fun y2 => some (.brk (y2 == 2))) else some (.brk false)) else some (.brk false)) else some (.brk false)) else some (.brk false) : Option (Lp (Bool) (Bool))) fun j0 => some j0
set_option maxHeartbeats 4000000 in
set_option maxRecDepth 100000 in
theorem W23 {fuel : Nat} {o : Bool} (h : Heap) (hm : M23 fuel = some o) :
 ACalls Try.prog 23 [] h (fun r h' => r = .sc (.bool o) ∧ h' = h) := by
 refine ACv 36 [.tmp 0] Try.func23 rfl rfl rfl rfl ?_
 unfold M23 at hm
 refine v (v (vn (fun _ => o_lit (List.map c_i64 ([1, 0, 0] : List Int)) et28 rfl rfl rfl rfl) ?_))
 refine vk W30 bd30 hm rfl rfl fun y3 hm => ?_
 refine ve fun hk => a_alloc ([.sc (.int .i64 0), .sc (.slice none 0 0), .sc (.slice none 0 0), .sc (.slice none 0 0), .sc (.slice none 0 0)]) hk zr27 rfl rfl fun k5 hk6 => qk hk6 rfl ?_
 refine ve fun hk => a_store 0 (c_Catalog y3.1) hk rfl rfl rfl rfl sz27 rfl rfl fun hk8 => qk hk8 rfl ?_
 refine v (vl 0 (.agg (c_Catalog y3.1)) ld27 rfl rfl rfl (vn (fun _ => o_lit (List.map c_i64 ([9, 4, 5] : List Int)) et28 rfl rfl rfl rfl) ?_))
 refine vk W16 bd16 hm rfl rfl fun _ hm => ?_
 refine vs ?_
 refine vjnH hm (σ := Bool) (τ := Unit) (fun g s => [(some k5, .obj 27 (c_Catalog y3.1))]) (fun g s => .c 0 (.sc (.bool s)) .nil) (fun x hm => ?_) ?_
 refine v ?_
 refine vi hm (fun hb0 hm => ?_) fun hb0 hm => ?_
 rw [hb0]
 refine vi hm (fun hb1 hm => ?_) fun hb1 hm => ?_
 rw [hb1]
 refine vi hm (fun hb2 hm => ?_) fun hb2 hm => ?_
 rw [hb2]
 refine vl 0 (.agg (c_Catalog y3.1)) ld27 rfl rfl rfl ?_
 refine vk W21 bd21 hm rfl rfl fun _ hm => ?_
 refine vi hm (fun hb3 hm => ?_) fun hb3 hm => ?_
 rw [hb3]
 refine vl 0 (.agg (c_Catalog y3.1)) ld27 rfl rfl rfl ?_
 refine vk W22 bd22 hm rfl rfl fun _ hm => ?_
 exact vgo hm () trivial (lx (.cons (ALe.refl _ _) .nil))
 rw [hb3]
 exact vgo hm () trivial (lx (.cons (ALe.refl _ _) .nil))
 rw [hb2]
 exact vgo hm () trivial (lx (.cons (ALe.refl _ _) .nil))
 rw [hb1]
 exact vgo hm () trivial (lx (.cons (ALe.refl _ _) .nil))
 rw [hb0]
 exact vgo hm () trivial (lx (.cons (ALe.refl _ _) .nil))
 rintro _ j0 hm
 refine v ?_
 injection hm with hm; subst hm
 exact vr1 rfl
theorem bd23 : bodied Try.prog 23 = true := by kernel_rfl
def M32_L0 (fuel : Nat) (p0 : List Int) (q0 : List TVol) (q1 : Int) : Option (Lp ((List TVol) × Int) (TCatalog)) :=
 if (decide (q1 < (p0.length : Int))) = true then ((ix p0 q1).bind fun x0 => (app q0 ([({ Pool := x0, Epoch := 0, State := 1, Files := 0 } : TVol)] : List TVol)).bind fun z0 => some (.go (z0, IntKind.wrap .i64 (q1 + 1)))) else some (.brk (q0, q1))
def M32 (fuel : Nat) (p0 : List Int) : Option (TCatalog) :=
 after (loopM (fun s => M32_L0 fuel p0 s.1 s.2) fuel ([], 0)) fun ⟨r0, r1⟩ => some ({ Seq := 0, Snaps := [], Chunks := [], Exps := [], Vols := r0 } : TCatalog)
set_option maxHeartbeats 4000000 in
set_option maxRecDepth 100000 in
theorem W32 {fuel : Nat} {p0 : List Int} {o : TCatalog} (h : Heap) (hm : M32 fuel p0 = some o) :
 ACalls Try.prog 32 [.sl none 1 (List.map c_i64 p0)] h (fun r h' => r = .agg (c_Catalog o) ∧ h' = h) := by
 refine ACv 22 [.cell 2 27] Try.func32 rfl rfl rfl rfl ?_
 unfold M32 at hm
 refine v ?_
 refine ve fun hk => a_alloc ([.sc (.int .i64 0), .sc (.slice none 0 0), .sc (.slice none 0 0), .sc (.slice none 0 0), .sc (.slice none 0 0)]) hk zr27 rfl rfl fun k2 hk3 => qk hk3 rfl ?_
 refine v ?_
 refine ve fun hk => a_alloc ([.sc (.int .i64 0), .sc (.slice none 0 0), .sc (.slice none 0 0), .sc (.slice none 0 0), .sc (.slice none 0 0)]) hk zr27 rfl rfl fun k6 hk7 => qk hk7 rfl ?_
 refine v (vle (leo (.tok 40 4 (([] : List TVol).length * 4)) 1 ([.sc (.int .i64 0), .sc (.slice none 0 0), .sc (.slice none 0 0), .sc (.slice none 0 0), ow none 4 (List.map c_Vol [])]) rfl (.k4 (.cons (ow_nil (c := c_Vol) _ 4) .nil))) ?_)
 refine vlp hm (σ := (List TVol) × Int) (τ := Option Key) (fun g s => [(g, .tok 40 4 ((s.1 : List TVol).length * 4)), (some k6, .obj 27 ([.sc (.int .i64 0), .sc (.slice none 0 0), .sc (.slice none 0 0), .sc (.slice none 0 0), ow g 4 (List.map c_Vol s.1)])), (some k2, .obj 27 ([.sc (.int .i64 0), .sc (.slice none 0 0), .sc (.slice none 0 0), .sc (.slice none 0 0), .sc (.slice none 0 0)]))]) (fun g s => (g = none → s.1 = [])) (fun g s => .c 0 (.sl none 1 (List.map c_i64 p0)) (.c 2 (.ptr k2 0) (.c 3 (.ptr k6 0) (.c 4 (.sc (.int .i64 s.2)) .nil)))) none (fun _ => rfl) (lx (.k4 .nil)) ?_ ?_
 rintro tg0 ⟨q0, q1⟩ x ot0 hm
 replace hm : M32_L0 fuel p0 q0 q1 = some x := hm
 unfold M32_L0 at hm
 refine v (vln ln28 rfl (v ?_))
 refine vi hm (fun hc0 hm => ?_) fun hc0 hm => ?_
 refine v (v (v ?_))
 refine vz [(10, some k6, .obj 27 ([.sc (.int .i64 0), .sc (.slice none 0 0), .sc (.slice none 0 0), .sc (.slice none 0 0), ow tg0 4 (List.map c_Vol q0)]))] mixed (fun hk => ⟨fun _ => hp_at 1 hk rfl, trivial⟩) fun hk => ?_
 refine z_w 0 rfl (fun S' h' hi hB => Zh fd27_4 rfl rfl) ?_
 refine z_w 1 rfl (fun S' h' hi hB => Zg (ow tg0 4 (List.map c_Vol q0)) ld25 rfl (At.s (InvL.get 0 hi rfl (hB 10 (by kernel_rfl)))) rfl) ?_
 refine z_w 2 rfl (fun S' h' hi hB => o_mv (.sl _ _ _) rfl) ?_
 refine z_w 3 rfl (fun S' h' hi hB => o_mv (.sc (.int _ _)) rfl) ?_
 obtain ⟨x0, hx0, hm⟩ := Zc hm
 refine z_w 4 rfl (fun S' h' hi hB => o_ix hx0 el28 rfl rfl) ?_
 refine z_w 5 rfl (fun S' h' hi hB => o_ld (.sc (.int .i64 x0)) ld3 rfl rfl) ?_
 refine z_w 6 rfl (fun S' h' hi hB => o_bld (c_Vol ({ Pool := x0, Epoch := 0, State := 1, Files := 0 } : TVol)) bt40 rfl) ?_
 refine z_w 7 rfl (fun S' h' hi hB => o_lit (List.map c_Vol ([({ Pool := x0, Epoch := 0, State := 1, Files := 0 } : TVol)] : List TVol)) et25 rfl rfl rfl rfl) ?_
 obtain ⟨z0, hz0, hm⟩ := Zc hm
 refine z_e 8 rfl (by kernel_rfl) (a_app (c := c_Vol) 0 hz0 et25 rfl rfl rfl ot0 hk rfl fun tg1 ot1 hk0 => ⟨⟨fun _ => hp_at 1 hk0 rfl, trivial⟩, ?_⟩)
 refine z_w 9 rfl (fun S' h' hi hB => Zh fd27_4 rfl rfl) ?_
 refine z_e 10 rfl (by kernel_rfl) (a_store 1 ([.sc (.int .i64 0), .sc (.slice none 0 0), .sc (.slice none 0 0), .sc (.slice none 0 0), ow tg1 4 (List.map c_Vol z0)]) hk0 rfl rfl (cellsOf_ow rfl) (all_ow _ _ _) sz25 rfl rfl fun hk1 => ⟨⟨fun e => absurd e (by decide), trivial⟩, ?_⟩)
 refine z_nil (by kernel_rfl) (qk (f := .c 20 _ (.c 19 _ (.c 18 _ (.c 17 _ (.c 16 _ (.c 15 _ (.c 14 _ (.c 13 _ (.c 12 _ (.c 11 _ _)))))))))) hk1 rfl ?_)
 refine v ?_
 exact vgo hm tg1 ot1 (lx (.k4 .nil))
 refine v ?_
 exact vbk hm tg0 ot0 (lx (.k4 .nil))
 rintro tg2 ⟨r0, r1⟩ ot2 hm
 refine v (vl 1 (.agg ([.sc (.int .i64 0), .sc (.slice none 0 0), .sc (.slice none 0 0), .sc (.slice none 0 0), ow tg2 4 (List.map c_Vol r0)])) ld27 rfl rfl rfl ?_)
 refine ve fun hk => a_store 2 ([.sc (.int .i64 0), .sc (.slice none 0 0), .sc (.slice none 0 0), .sc (.slice none 0 0), ow tg2 4 (List.map c_Vol r0)]) hk rfl rfl rfl (by repeat (first | exact rfl | refine all_c (ocell_ow _ _ _) ?_ | refine all_c (ocell_aw _ _ _) ?_ | refine all_c rfl ?_)) sz27 rfl rfl fun hk2 => qk hk2 rfl ?_
 refine v ?_
 cases hm
 exact vr fun hk => Ret.of1 (.inl rfl) (rsC (.agg ([.sc (.int .i64 0), .sc (.slice none 0 0), .sc (.slice none 0 0), .sc (.slice none 0 0), ow tg2 4 (List.map c_Vol r0)])) ld27 rfl (Zd 2 hk rfl) rfl) (hp_sub (List.nil_sublist _) hk).1 (ALe.agg (.cons (ALe.refl _ _) (.cons (nil_lem _) (.cons (nil_lem _) (.cons (nil_lem _) (.cons ((own_frz0 _ 0 ot2 hk rfl)) .nil)))))) ⟨rfl, rfl⟩
theorem bd32 : bodied Try.prog 32 = true := by kernel_rfl
end Go.Proofs.Ytoomgangpjcaoaa
