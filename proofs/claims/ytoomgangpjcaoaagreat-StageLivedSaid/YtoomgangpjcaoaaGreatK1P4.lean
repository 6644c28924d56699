import Derived.Test.YtoomgangpjcaoaaGreatK1P3
import Derived.Test.YtoomgangpjcaoaaGreatK1P1
import Derived.Lib.Bytealg
set_option linter.unusedSimpArgs false
set_option linter.unusedVariables false
namespace Go.Proofs.YtoomgangpjcaoaaGreat
open Go.Vm
theorem cmpF : CmpF Tryz.prog 190 := ⟨Tryz.f190, Tryz.func190, by kernel_rfl, by kernel_rfl, rfl, rfl⟩
set_option maxRecDepth 100000 in
theorem W182 {a b : AV} {xs ys : List Int} (h : Heap) (h1 : Byt Tryz.prog h a xs) (h2 : Byt Tryz.prog h b ys) : ACalls Tryz.prog 182 [a, b] h (fun r h' => r = .sc (.int .i64 (cmpI xs ys)) ∧ h' = h) := by
 refine ACalls_hp 8 [.tmp 4] Tryz.func182 rfl rfl rfl rfl ?_
 refine Zf fun K1 H1 => (Za (vC rfl (Zb (H1 _ _ (Zf fun K1 H1 => (Za (s_v (o_mv a rfl) (s_v (o_mv b rfl) (s_v (o_cmp cmpF rfl rfl h1 h2) (vC rfl (Zb (H1 _ _ (AW_ret ?_)))))))))))))
 exact Ret.one (.inl rfl) (Sub.refl _) (ALe.refl _ _) ⟨rfl, rfl⟩
theorem bd182 : bodied Tryz.prog 182 = true := by kernel_rfl
def M136 (fuel : Nat) (p0 : Id32) (p1 : Id32) : Option (Int) :=
 some (cmpI p0.1 p1.1)
set_option maxHeartbeats 4000000 in
set_option maxRecDepth 100000 in
theorem W136 {fuel : Nat} {p0 : Id32} {p1 : Id32} {o : Int} (h : Heap) (hm : M136 fuel p0 p1 = some o) :
 ACalls Tryz.prog 136 [.agg (c_id p0), .agg (c_id p1)] h (fun r h' => r = .sc (.int .i64 o) ∧ h' = h) := by
 refine ACv 8 [.tmp 4] Tryz.func136 rfl rfl rfl rfl ?_
 unfold M136 at hm
 refine v ?_
 refine ve fun hk => a_box hk rfl rfl fun k2 hk3 => qk hk3 rfl ?_
 refine ve fun hk => a_box hk rfl rfl fun k5 hk6 => qk hk6 rfl ?_
 refine v (vq (by kernel_rfl) (vn (fun _ => o_slv ar36 rfl) (vn (fun _ => o_slv ar36 rfl) (vn (fun hk => o_call (W182 _ (Byt.view (Zd 1 hk rfl) rfl) (Byt.view (Zd 0 hk rfl) rfl)) rfl bd182 rfl) (v ?_)))))
 cases hm
 exact vr1 rfl
theorem bd136 : bodied Tryz.prog 136 = true := by kernel_rfl
def M71 (fuel : Nat) (p0 : List TItem) : Option (List TItem) := app [] p0
set_option maxRecDepth 100000 in
theorem W71 {fuel : Nat} {p0 : List TItem} {o : List TItem} (h : Heap) (hm : M71 fuel p0 = some o) :
 ACalls Tryz.prog 71 [.sl none 37 (List.map c_Item p0)] h (fun r h' => ∃ t, (t = none → o = []) ∧ HOk h [(t, .tok 38 37 (o.length * 37))] ∧ r = ow t 37 (List.map c_Item o) ∧ h' = hp h [(t, .tok 38 37 (o.length * 37))]) := by
 refine ACalls_hp 8 [.tmp 2] Tryz.func71 rfl rfl rfl rfl ?_
 unfold M71 at hm
 refine Zf fun K1 H1 => (Za (s_v (o_as (.sc (.slice _ _ _)) rfl) (Zb (H1 _ _ (Zf fun K1 H1 => (Zf fun K2 H2 => (Za (vE rfl ?_))))))))
 refine s_op (AOp_eqnil rfl (by rw [el33]; rfl) (by rw [ev_fm]; exact rfl) (.inl ⟨_, _, _, rfl, fun b hb => ?_⟩))
 refine Zb (H2 _ _ ?_)
 refine AW_if' rfl (fun hc => ?_) (fun hc => ?_)
 have h0 : p0 = [] := by
   cases p0 with
   | nil => rfl
   | cons x l => have := hb (by simp); rw [this] at hc; cases hc
 subst h0
 obtain ⟨rfl, -⟩ := app_spec hm
 refine Zf fun K1 H1 => (Za (s_v (o_as (.sc (.slice _ _ _)) rfl) (Zb (H1 _ _ (AW_ret ?_)))))
 exact Ret.one (.inl rfl) (Sub.refl _) (ow_nil _ _) ⟨none, fun _ => rfl, HOk.none (HOk.nil _), rfl, rfl⟩
 refine Zl (H1 _ _ (Zf fun K1 H1 => (Za ?_)))
 refine s_op (a_lit0 (c := c_Item) (HOk.nil _) et33 fun hk => ?_)
 refine vE rfl ?_
 refine s_op (a_app (c := c_Item) 0 hm et33 rfl rfl rfl (fun _ => rfl) hk rfl fun tg ot hk => ?_)
 refine s_v (o_as (ow _ _ _) rfl) (Zb (H1 _ _ (AW_ret ?_)))
 exact Ret.one (.inl rfl) (Sub.refl _) (ALe.refl _ _) ⟨tg, ot, hk, rfl, rfl⟩
theorem bd71 : bodied Tryz.prog 71 = true := by kernel_rfl
def M79_L0 (fuel : Nat) (p0 : TCatalog) (q0 : Int) : Option (Lp (Int) (Bool)) :=
 if (decide (q0 < (p0.Chunks.length : Int))) = true then ((ix p0.Chunks q0).bind fun x0 => after (if (decide (0 < q0)) = true then ((ix p0.Chunks (IntKind.wrap .i64 (q0 - 1))).bind fun x1 => (M136 fuel x1.Id x0.Id).bind fun y0 => if (decide (0 ≤ y0)) = true then (some (.brk true)) else (M137 fuel p0 x0.Locs).bind fun y1 => if (!y1) = true then (some (.brk true)) else if (!x0.Staged) = true then (if (decide (0 < (x0.Data.length : Int))) = true then (some (.brk true)) else if ((x0.Locs.length : Int) == 0) = true then (some (.brk true)) else if x0.Staged = true then ((M57 fuel (x0.Data.length : Int) 1 64).bind fun y2 => some (.brk (!y2))) else some (.brk false)) else if x0.Staged = true then ((M57 fuel (x0.Data.length : Int) 1 64).bind fun y3 => some (.brk (!y3))) else some (.brk false)) else (M137 fuel p0 x0.Locs).bind fun y4 => if (!y4) = true then (some (.brk true)) else if (!x0.Staged) = true then (if (decide (0 < (x0.Data.length : Int))) = true then (some (.brk true)) else if ((x0.Locs.length : Int) == 0) = true then (some (.brk true)) else if x0.Staged = true then ((M57 fuel (x0.Data.length : Int) 1 64).bind fun y5 => some (.brk (!y5))) else some (.brk false)) else if x0.Staged = true then ((M57 fuel (x0.Data.length : Int) 1 64).bind fun y6 => some (.brk (!y6))) else some (.brk false) : Option (Lp (Bool) (Lp (Int) (Bool)))) fun j0 => if j0 = true then (some (.ret false)) else some (.go (IntKind.wrap .i64 (q0 + 1)))) else some (.brk q0)
def M79 (fuel : Nat) (p0 : TCatalog) : Option (Bool) :=
 after (loopM (fun s => M79_L0 fuel p0 s) fuel 0) fun r0 => some (decide ((p0.Chunks.length : Int) ≤ 200))
set_option maxHeartbeats 4000000 in
set_option maxRecDepth 100000 in
theorem W79 {fuel : Nat} {p0 : TCatalog} {o : Bool} (h : Heap) (hm : M79 fuel p0 = some o) :
 ACalls Tryz.prog 79 [.agg (c_Catalog p0)] h (fun r h' => r = .sc (.bool o) ∧ h' = h) := by
 refine ACv 68 [.tmp 2] Tryz.func79 rfl rfl rfl rfl ?_
 unfold M79 at hm
 refine v ?_
 refine ve fun hk => a_box hk rfl rfl fun k2 hk3 => qk hk3 rfl ?_
 refine v (vl 0 _ ld26 rfl rfl rfl (vln ln26 rfl ?_))
 refine vlpH hm (σ := Int) (τ := Unit) (fun g s => [(some k2, .obj 30 (c_Catalog p0))]) (fun g s => .c 1 (.ptr k2 0) (.c 6 (.sl none 35 (List.map c_Chunk p0.Chunks)) (.c 7 (.sc (.int .i64 (p0.Chunks.length : Int))) (.c 8 (.sc (.int .i64 s)) .nil)))) () (lx (.k4 .nil)) ?_ ?_
 rintro _ q0 x hm
 replace hm : M79_L0 fuel p0 q0 = some x := hm
 unfold M79_L0 at hm
 refine v (v ?_)
 refine vi hm (fun hc0 hm => ?_) fun hc0 hm => ?_
 refine v (v (v ?_))
 refine vx hm el26 rfl rfl fun x0 _ hm => ?_
 refine va (.agg (c_Chunk x0)) ld44 rfl rfl ?_
 refine ve fun hk => a_alloc (c_id idZ ++ ([.sc (.bool false), .sc (.slice none 0 0), .sc (.slice none 0 0)] : List AV)) hk zr44 rfl rfl fun k168 hk0 => qk hk0 rfl ?_
 refine ve fun hk => a_store 0 (c_Chunk x0) hk rfl rfl rfl rfl sz44 rfl rfl fun hk1 => qk hk1 rfl ?_
 refine vs ?_
 refine vjnH hm (σ := Bool) (τ := Unit) (fun g s => [(some k168, .obj 44 (c_Chunk x0)), (some k2, .obj 30 (c_Catalog p0))]) (fun g s => .c 1 (.ptr k2 0) (.c 6 (.sl none 35 (List.map c_Chunk p0.Chunks)) (.c 7 (.sc (.int .i64 (p0.Chunks.length : Int))) (.c 8 (.sc (.int .i64 q0)) (.c 62 (.sc (.bool s)) .nil))))) (fun x hm => ?_) ?_
 refine v (vq (by kernel_rfl) ?_)
 refine vi hm (fun hb0 hm => ?_) fun hb0 hm => ?_
 rw [hb0]
 refine vl 1 _ ld26 rfl rfl rfl ?_
 refine vx hm el26 rfl rfl fun x1 _ hm => ?_
 refine va (.agg (c_id x1.Id)) ld36 rfl rfl (vl 0 (.agg (c_id x0.Id)) ld36 rfl rfl rfl ?_)
 refine vk W136 bd136 hm rfl rfl fun _ hm => ?_
 refine vi hm (fun hb1 hm => ?_) fun hb1 hm => ?_
 rw [hb1]
 exact vgo hm () trivial (lx (.k5 .nil))
 rw [hb1]
 refine vl 1 (.agg (c_Catalog p0)) ld30 rfl rfl rfl (vl 0 _ ld42 rfl rfl rfl ?_)
 refine vk W137 bd137 hm rfl rfl fun _ hm => ?_
 refine vi hm (fun hb2 hm => ?_) fun hb2 hm => ?_
 rw [hb2]
 exact vgo hm () trivial (lx (.k5 .nil))
 rw [hb2]
 refine vl 0 _ ld4 rfl rfl rfl ?_
 refine vi hm (fun hb3 hm => ?_) fun hb3 hm => ?_
 rw [hb3]
 refine vl 0 _ ld41 rfl rfl rfl (vln ln41 rfl ?_)
 refine vi hm (fun hb4 hm => ?_) fun hb4 hm => ?_
 rw [hb4]
 exact vgo hm () trivial (lx (.k5 .nil))
 rw [hb4]
 refine vl 0 _ ld42 rfl rfl rfl (vln ln42 rfl ?_)
 refine vi hm (fun hb5 hm => ?_) fun hb5 hm => ?_
 rw [hb5]
 exact vgo hm () trivial (lx (.k5 .nil))
 rw [hb5]
 refine vl 0 _ ld4 rfl rfl rfl ?_
 refine vi hm (fun hb6 hm => ?_) fun hb6 hm => ?_
 rw [hb6]
 refine vl 0 _ ld41 rfl rfl rfl (vln ln41 rfl ?_)
 refine vk W57 bd57 hm rfl rfl fun _ hm => ?_
 exact vgo hm () trivial (lx (.k5 .nil))
 rw [hb6]
 exact vgo hm () trivial (lx (.k5 .nil))
 rw [hb3]
 refine vl 0 _ ld4 rfl rfl rfl ?_
 refine vi hm (fun hb7 hm => ?_) fun hb7 hm => ?_
 rw [hb7]
 refine vl 0 _ ld41 rfl rfl rfl (vln ln41 rfl ?_)
 refine vk W57 bd57 hm rfl rfl fun _ hm => ?_
 exact vgo hm () trivial (lx (.k5 .nil))
 rw [hb7]
 exact vgo hm () trivial (lx (.k5 .nil))
 rw [hb0]
 refine vl 1 (.agg (c_Catalog p0)) ld30 rfl rfl rfl (vl 0 _ ld42 rfl rfl rfl ?_)
 refine vk W137 bd137 hm rfl rfl fun _ hm => ?_
 refine vi hm (fun hb8 hm => ?_) fun hb8 hm => ?_
 rw [hb8]
 exact vgo hm () trivial (lx (.k5 .nil))
 rw [hb8]
 refine vl 0 _ ld4 rfl rfl rfl ?_
 refine vi hm (fun hb9 hm => ?_) fun hb9 hm => ?_
 rw [hb9]
 refine vl 0 _ ld41 rfl rfl rfl (vln ln41 rfl ?_)
 refine vi hm (fun hb10 hm => ?_) fun hb10 hm => ?_
 rw [hb10]
 exact vgo hm () trivial (lx (.k5 .nil))
 rw [hb10]
 refine vl 0 _ ld42 rfl rfl rfl (vln ln42 rfl ?_)
 refine vi hm (fun hb11 hm => ?_) fun hb11 hm => ?_
 rw [hb11]
 exact vgo hm () trivial (lx (.k5 .nil))
 rw [hb11]
 refine vl 0 _ ld4 rfl rfl rfl ?_
 refine vi hm (fun hb12 hm => ?_) fun hb12 hm => ?_
 rw [hb12]
 refine vl 0 _ ld41 rfl rfl rfl (vln ln41 rfl ?_)
 refine vk W57 bd57 hm rfl rfl fun _ hm => ?_
 exact vgo hm () trivial (lx (.k5 .nil))
 rw [hb12]
 exact vgo hm () trivial (lx (.k5 .nil))
 rw [hb9]
 refine vl 0 _ ld4 rfl rfl rfl ?_
 refine vi hm (fun hb13 hm => ?_) fun hb13 hm => ?_
 rw [hb13]
 refine vl 0 _ ld41 rfl rfl rfl (vln ln41 rfl ?_)
 refine vk W57 bd57 hm rfl rfl fun _ hm => ?_
 exact vgo hm () trivial (lx (.k5 .nil))
 rw [hb13]
 exact vgo hm () trivial (lx (.k5 .nil))
 rintro _ j0 hm
 refine v ?_
 refine vi hm (fun hc1 hm => ?_) fun hc1 hm => ?_
 refine v (v ?_)
 refine vrt hm fun hm => ?_
 injection hm with hm; subst hm
 exact vr1 rfl
 refine v (v ?_)
 exact vgo hm () trivial (lxs [1] rfl rfl (.k4 .nil))
 refine v ?_
 exact vbk hm () trivial (lx (.k4 .nil))
 rintro _ r0 hm
 refine v (vl 0 _ ld26 rfl rfl rfl (vln ln26 rfl (v ?_)))
 cases hm
 exact vr1 rfl
theorem bd79 : bodied Tryz.prog 79 = true := by kernel_rfl
def M172 (fuel : Nat) (p0 : TChunk) (p1 : Id32) : Option (Int) :=
 (M136 fuel p0.Id p1).bind fun y9 => some y9
set_option maxHeartbeats 4000000 in
set_option maxRecDepth 100000 in
theorem W172 {fuel : Nat} {p0 : TChunk} {p1 : Id32} {o : Int} (h : Heap) (hm : M172 fuel p0 p1 = some o) :
 ACalls Tryz.prog 172 [.agg (c_Chunk p0), .agg (c_id p1)] h (fun r h' => r = .sc (.int .i64 o) ∧ h' = h) := by
 refine ACv 9 [.tmp 4] Tryz.func172 rfl rfl rfl rfl ?_
 unfold M172 at hm
 refine v ?_
 refine ve fun hk => a_box hk rfl rfl fun k2 hk3 => qk hk3 rfl ?_
 refine ve fun hk => a_box hk rfl rfl fun k5 hk6 => qk hk6 rfl ?_
 refine v (vl 1 (.agg (c_id p0.Id)) ld36 rfl rfl rfl (vl 0 (.agg (c_id p1)) ld36 rfl rfl rfl ?_))
 refine vk W136 bd136 hm rfl rfl fun _ hm => ?_
 refine v ?_
 injection hm with hm; subst hm
 exact vr1 rfl
theorem bd172 : bodied Tryz.prog 172 = true := by kernel_rfl
def M116 (fuel : Nat) (p0 : List TChunk) (p1 : Id32) : Option (Int × Bool) :=
 (M171 fuel p0 p1 (fun x0 x1 => M172 fuel x0 x1)).bind fun y6 => some (y6.1, y6.2)
set_option maxHeartbeats 4000000 in
set_option maxRecDepth 100000 in
theorem W116 {fuel : Nat} {p0 : List TChunk} {p1 : Id32} {o : Int × Bool} (h : Heap) (hm : M116 fuel p0 p1 = some o) :
 ACalls Tryz.prog 116 [.sl none 35 (List.map c_Chunk p0), .agg (c_id p1)] h (fun r h' => r = .tup [.sc (.int .i64 o.1), .sc (.bool o.2)] ∧ h' = h) := by
 refine ACv 11 [.tmp 4, .tmp 5] Tryz.func116 rfl rfl rfl rfl ?_
 unfold M116 at hm
 refine v ?_
 refine ve fun hk => a_box hk rfl rfl fun k2 hk3 => qk hk3 rfl ?_
 refine v (vl 0 (.agg (c_id p1)) ld36 rfl rfl rfl ?_)
 obtain ⟨_, hy7, hm⟩ := Zc hm
 refine vn (fun _ => o_call (W171 _ bd172 (fun _ _ o h0 hs ho => W172 _ ho) hy7) rfl bd171 rfl) (v ?_)
 cases hm
 exact vr2 rfl rfl
theorem bd116 : bodied Tryz.prog 116 = true := by kernel_rfl
def M80_L4 (fuel : Nat) (p0 : TCatalog) (x0 : TPart) (q0 : Int) : Option (Lp (Int) (Lp (Int) (Lp ((List ByteArray) × Int) (Bool)))) :=
 if (decide (q0 < (x0.Ids.length : Int))) = true then ((ix x0.Ids q0).bind fun x1 => (M116 fuel p0.Chunks x1).bind fun y0 => if (!y0.2) = true then (some (.ret (.ret (.ret false)))) else some (.go (IntKind.wrap .i64 (q0 + 1)))) else some (.brk q0)
def M80_L2 (fuel : Nat) (p0 : TCatalog) (x0 : TSnap) (q0 : Int) : Option (Lp (Int) (Lp ((List ByteArray) × Int) (Bool))) :=
 if (decide (q0 < (x0.Man.Parts.length : Int))) = true then ((ix x0.Man.Parts q0).bind fun x1 => after (loopM (fun s => M80_L4 fuel p0 x1 s) fuel 0) fun r0 => some (.go (IntKind.wrap .i64 (q0 + 1)))) else some (.brk q0)
def M80_L0 (fuel : Nat) (p0 : TCatalog) (q0 : List ByteArray) (q1 : Int) : Option (Lp ((List ByteArray) × Int) (Bool)) :=
 if (decide (q1 < (p0.Snaps.length : Int))) = true then ((ix p0.Snaps q1).bind fun x0 => after ((M57 fuel x0.Seq 0 (IntKind.wrap .i64 (p0.Seq - 1))).bind fun y0 => if (!y0) = true then (some (.brk true)) else if (decide (0 < q1)) = true then ((ix p0.Snaps (IntKind.wrap .i64 (q1 - 1))).bind fun x1 => if (decide (x0.Seq ≤ x1.Seq)) = true then (some (.brk true)) else if ((q0 : List ByteArray).any fun z => x0.Man.Name == z) = true then (some (.brk true)) else (M100 fuel x0.Man).bind fun y1 => if (y1 != 0) = true then (some (.brk true)) else (M137 fuel p0 x0.Locs).bind fun y2 => some (.brk (!y2))) else if ((q0 : List ByteArray).any fun z => x0.Man.Name == z) = true then (some (.brk true)) else (M100 fuel x0.Man).bind fun y3 => if (y3 != 0) = true then (some (.brk true)) else (M137 fuel p0 x0.Locs).bind fun y4 => some (.brk (!y4)) : Option (Lp (Bool) (Lp ((List ByteArray) × Int) (Bool)))) fun j0 => if j0 = true then (some (.ret false)) else after (loopM (fun s => M80_L2 fuel p0 x0 s) fuel 0) fun r0 => some (.go (madd (q0 : List ByteArray) x0.Man.Name, IntKind.wrap .i64 (q1 + 1)))) else some (.brk (q0, q1))
def M80 (fuel : Nat) (p0 : TCatalog) : Option (Bool) :=
 after (loopM (fun s => M80_L0 fuel p0 s.1 s.2) fuel ([], 0)) fun ⟨r0, r1⟩ => some (decide ((p0.Snaps.length : Int) ≤ 8))
set_option maxHeartbeats 4000000 in
set_option maxRecDepth 100000 in
theorem W80 {fuel : Nat} {p0 : TCatalog} {o : Bool} (h : Heap) (hm : M80 fuel p0 = some o) :
 ACalls Tryz.prog 80 [.agg (c_Catalog p0)] h (fun r h' => r = .sc (.bool o) ∧ h' = h) := by
 refine ACv 99 [.tmp 2] Tryz.func80 rfl rfl rfl rfl ?_
 unfold M80 at hm
 refine v ?_
 refine ve fun hk => a_box hk rfl rfl fun k2 hk3 => qk hk3 rfl ?_
 refine v ?_
 refine ve fun hk => a_mkmap hk fun k6 hk7 => qk hk7 rfl ?_
 refine v (vl 1 _ ld25 rfl rfl rfl (vln ln25 rfl ?_))
 refine vlpH hm (σ := (List ByteArray) × Int) (τ := Unit) (fun g s => [(some k6, .mp (mset kS (s.1 : List ByteArray))), (some k2, .obj 30 (c_Catalog p0))]) (fun g s => .c 1 (.ptr k2 0) (.c 3 (.mpv k6) (.c 14 (.sl none 4 (List.map c_Snap p0.Snaps)) (.c 15 (.sc (.int .i64 (p0.Snaps.length : Int))) (.c 16 (.sc (.int .i64 s.2)) .nil))))) () (lx (.k5 .nil)) ?_ ?_
 rintro _ ⟨q0, q1⟩ x hm
 replace hm : M80_L0 fuel p0 q0 q1 = some x := hm
 unfold M80_L0 at hm
 refine v (v ?_)
 refine vi hm (fun hc0 hm => ?_) fun hc0 hm => ?_
 refine v (v (v ?_))
 refine vx hm el25 rfl rfl fun x0 _ hm => ?_
 refine va (.agg (c_Snap x0)) ld60 rfl rfl ?_
 refine ve fun hk => a_alloc ([.sc (.int .i64 0), .sc (.string ByteArray.empty), .sc (.slice none 0 0), .sc (.slice none 0 0)]) hk zr60 rfl rfl fun k540 hk0 => qk hk0 rfl ?_
 refine ve fun hk => a_store 0 (c_Snap x0) hk rfl rfl rfl rfl sz60 rfl rfl fun hk1 => qk hk1 rfl ?_
 refine vs (vs ?_)
 refine vjnH hm (σ := Bool) (τ := Unit) (fun g s => [(some k540, .obj 60 (c_Snap x0)), (some k6, .mp (mset kS (q0 : List ByteArray))), (some k2, .obj 30 (c_Catalog p0))]) (fun g s => .c 1 (.ptr k2 0) (.c 3 (.mpv k6) (.c 5 (.ptr k540 0) (.c 14 (.sl none 4 (List.map c_Snap p0.Snaps)) (.c 15 (.sc (.int .i64 (p0.Snaps.length : Int))) (.c 16 (.sc (.int .i64 q1)) (.c 63 (.sc (.bool s)) .nil))))))) (fun x hm => ?_) ?_
 refine v (vq (by kernel_rfl) (vl 0 _ ld3 rfl rfl rfl (vl 2 _ ld3 rfl rfl rfl ?_)))
 refine vk W57 bd57 hm rfl rfl fun _ hm => ?_
 refine vi hm (fun hb0 hm => ?_) fun hb0 hm => ?_
 rw [hb0]
 exact vgo hm () trivial (lx (.k7 .nil))
 rw [hb0]
 refine vi hm (fun hb1 hm => ?_) fun hb1 hm => ?_
 rw [hb1]
 refine vl 2 _ ld25 rfl rfl rfl ?_
 refine vx hm el25 rfl rfl fun _ _ hm => ?_
 refine vl 0 _ ld3 rfl rfl rfl ?_
 refine vi hm (fun hb2 hm => ?_) fun hb2 hm => ?_
 rw [hb2]
 exact vgo hm () trivial (lx (.k7 .nil))
 rw [hb2]
 refine vl 0 _ ld9 rfl rfl rfl (vn (fun hk => o_look um175 zb4 (KeyT.str u9) rfl rfl (Zd 1 hk rfl)) ?_)
 refine vi hm (fun hb3 hm => ?_) fun hb3 hm => ?_
 rw [hb3]
 exact vgo hm () trivial (lx (.k7 .nil))
 rw [hb3]
 refine vl 0 (.agg (c_Manifest x0.Man)) ld58 rfl rfl rfl ?_
 refine vk W100 bd100 hm rfl rfl fun _ hm => ?_
 refine vi hm (fun hb4 hm => ?_) fun hb4 hm => ?_
 rw [hb4]
 exact vgo hm () trivial (lx (.k7 .nil))
 rw [hb4]
 refine vl 2 (.agg (c_Catalog p0)) ld30 rfl rfl rfl (vl 0 _ ld42 rfl rfl rfl ?_)
 refine vk W137 bd137 hm rfl rfl fun _ hm => ?_
 exact vgo hm () trivial (lx (.k7 .nil))
 rw [hb1]
 refine vl 0 _ ld9 rfl rfl rfl (vn (fun hk => o_look um175 zb4 (KeyT.str u9) rfl rfl (Zd 1 hk rfl)) ?_)
 refine vi hm (fun hb5 hm => ?_) fun hb5 hm => ?_
 rw [hb5]
 exact vgo hm () trivial (lx (.k7 .nil))
 rw [hb5]
 refine vl 0 (.agg (c_Manifest x0.Man)) ld58 rfl rfl rfl ?_
 refine vk W100 bd100 hm rfl rfl fun _ hm => ?_
 refine vi hm (fun hb6 hm => ?_) fun hb6 hm => ?_
 rw [hb6]
 exact vgo hm () trivial (lx (.k7 .nil))
 rw [hb6]
 refine vl 2 (.agg (c_Catalog p0)) ld30 rfl rfl rfl (vl 0 _ ld42 rfl rfl rfl ?_)
 refine vk W137 bd137 hm rfl rfl fun _ hm => ?_
 exact vgo hm () trivial (lx (.k7 .nil))
 rintro _ j0 hm
 refine v ?_
 refine vi hm (fun hc1 hm => ?_) fun hc1 hm => ?_
 refine v (v ?_)
 refine vrt hm fun hm => ?_
 injection hm with hm; subst hm
 exact vr1 rfl
 refine v (v (vl 0 _ ld9 rfl rfl rfl ?_))
 refine ve fun hk => a_mset 1 hk um175 (KeyT.str u9) rfl rfl rfl rfl fun hk2 => qk hk2 rfl ?_
 refine v (vl 0 _ ld56 rfl rfl rfl (vln ln56 rfl ?_))
 refine vlpH hm (σ := Int) (τ := Unit) (fun g s => [(some k540, .obj 60 (c_Snap x0)), (some k6, .mp (mset kS (madd (q0 : List ByteArray) x0.Man.Name : List ByteArray))), (some k2, .obj 30 (c_Catalog p0))]) (fun g s => .c 1 (.ptr k2 0) (.c 3 (.mpv k6) (.c 14 (.sl none 4 (List.map c_Snap p0.Snaps)) (.c 15 (.sc (.int .i64 (p0.Snaps.length : Int))) (.c 16 (.sc (.int .i64 q1)) (.c 70 (.sl none 3 (List.map c_Part x0.Man.Parts)) (.c 71 (.sc (.int .i64 (x0.Man.Parts.length : Int))) (.c 72 (.sc (.int .i64 s)) .nil)))))))) () (lx (.k8 .nil)) ?_ ?_
 rintro _ q2 x hm
 replace hm : M80_L2 fuel p0 x0 q2 = some x := hm
 unfold M80_L2 at hm
 refine v (v ?_)
 refine vi hm (fun hc2 hm => ?_) fun hc2 hm => ?_
 refine v (v (v ?_))
 refine vx hm el56 rfl rfl fun x1 _ hm => ?_
 refine va (.agg (c_Part x1)) ld70 rfl rfl ?_
 refine ve fun hk => a_alloc ([.sc (.string ByteArray.empty), .sc (.int .i64 0), .sc (.slice none 0 0)]) hk zr70 rfl rfl fun k732 hk4 => qk hk4 rfl ?_
 refine ve fun hk => a_store 0 (c_Part x1) hk rfl rfl rfl rfl sz70 rfl rfl fun hk5 => qk hk5 rfl ?_
 refine v (vl 0 _ ld68 rfl rfl rfl (vln ln68 rfl ?_))
 refine vlpH hm (σ := Int) (τ := Unit) (fun g s => [(some k732, .obj 70 (c_Part x1)), (some k540, .obj 60 (c_Snap x0)), (some k6, .mp (mset kS (madd (q0 : List ByteArray) x0.Man.Name : List ByteArray))), (some k2, .obj 30 (c_Catalog p0))]) (fun g s => .c 1 (.ptr k2 0) (.c 3 (.mpv k6) (.c 14 (.sl none 4 (List.map c_Snap p0.Snaps)) (.c 15 (.sc (.int .i64 (p0.Snaps.length : Int))) (.c 16 (.sc (.int .i64 q1)) (.c 70 (.sl none 3 (List.map c_Part x0.Man.Parts)) (.c 71 (.sc (.int .i64 (x0.Man.Parts.length : Int))) (.c 72 (.sc (.int .i64 q2)) (.c 77 (.sl none 32 (List.map c_id x1.Ids)) (.c 78 (.sc (.int .i64 (x1.Ids.length : Int))) (.c 79 (.sc (.int .i64 s)) .nil))))))))))) () (lx (.k11 .nil)) ?_ ?_
 rintro _ q3 x hm
 replace hm : M80_L4 fuel p0 x1 q3 = some x := hm
 unfold M80_L4 at hm
 refine v (v ?_)
 refine vi hm (fun hc3 hm => ?_) fun hc3 hm => ?_
 refine v (v (v ?_))
 refine vx hm el68 rfl rfl fun x2 _ hm => ?_
 refine va (.agg (c_id x2)) ld36 rfl rfl ?_
 refine ve fun hk => a_alloc (c_id idZ) hk zr36 rfl rfl fun k780 hk6 => qk hk6 rfl ?_
 refine ve fun hk => a_store 0 (c_id x2) hk rfl rfl rfl rfl sz36 rfl rfl fun hk8 => qk hk8 rfl ?_
 refine v (vl 4 _ ld26 rfl rfl rfl (vl 0 (.agg (c_id x2)) ld36 rfl rfl rfl ?_))
 refine vk W116 bd116 hm rfl rfl fun _ hm => ?_
 refine v (v ?_)
 refine vi hm (fun hc4 hm => ?_) fun hc4 hm => ?_
 refine v (v ?_)
 refine vrt hm fun hm => ?_
 refine vrt hm fun hm => ?_
 refine vrt hm fun hm => ?_
 injection hm with hm; subst hm
 exact vr1 rfl
 refine v (v ?_)
 exact vgo hm () trivial (lxs [1, 2, 3, 4] rfl rfl (.k11 .nil))
 refine v ?_
 exact vbk hm () trivial (lx (.k11 .nil))
 rintro _ r0 hm
 refine v ?_
 exact vgo hm () trivial (lxs [1, 2, 3] rfl rfl (.k8 .nil))
 refine v ?_
 exact vbk hm () trivial (lx (.k8 .nil))
 rintro _ r1 hm
 refine v ?_
 exact vgo hm () trivial (lxs [1, 2] rfl rfl (.k5 .nil))
 refine v ?_
 exact vbk hm () trivial (lx (.k5 .nil))
 rintro _ ⟨r2, r3⟩ hm
 refine v (vl 1 _ ld25 rfl rfl rfl (vln ln25 rfl (v ?_)))
 cases hm
 exact vr1 rfl
theorem bd80 : bodied Tryz.prog 80 = true := by kernel_rfl
def M31 (fuel : Nat) (p0 : TCatalog) : Option (Int) :=
 after ((M57 fuel p0.Seq 0 1073741824).bind fun y0 => if y0 = true then ((M78 fuel p0.Vols).bind fun y1 => if y1 = true then ((M79 fuel p0).bind fun y2 => if y2 = true then ((M80 fuel p0).bind fun y3 => if y3 = true then ((M81 fuel p0).bind fun y4 => some (.brk y4)) else some (.brk false)) else some (.brk false)) else some (.brk false)) else some (.brk false) : Option (Lp (Bool) (Int))) fun j0 => if j0 = true then (some 0) else some 1
set_option maxHeartbeats 4000000 in
set_option maxRecDepth 100000 in
theorem W31 {fuel : Nat} {p0 : TCatalog} {o : Int} (h : Heap) (hm : M31 fuel p0 = some o) :
 ACalls Tryz.prog 31 [.agg (c_Catalog p0)] h (fun r h' => r = .sc (.int .i64 o) ∧ h' = h) := by
 refine ACv 23 [.tmp 2] Tryz.func31 rfl rfl rfl rfl ?_
 unfold M31 at hm
 refine v ?_
 refine ve fun hk => a_box hk rfl rfl fun k2 hk3 => qk hk3 rfl ?_
 refine vs (vs ?_)
 refine vjnH hm (σ := Bool) (τ := Unit) (fun g s => [(some k2, .obj 30 (c_Catalog p0))]) (fun g s => .c 22 (.sc (.bool s)) .nil) (fun x hm => ?_) ?_
 refine v (vl 0 _ ld3 rfl rfl rfl ?_)
 refine vk W57 bd57 hm rfl rfl fun _ hm => ?_
 refine vi hm (fun hb0 hm => ?_) fun hb0 hm => ?_
 rw [hb0]
 refine vl 0 _ ld28 rfl rfl rfl ?_
 refine vk W78 bd78 hm rfl rfl fun _ hm => ?_
 refine vi hm (fun hb1 hm => ?_) fun hb1 hm => ?_
 rw [hb1]
 refine vl 0 (.agg (c_Catalog p0)) ld30 rfl rfl rfl ?_
 refine vk W79 bd79 hm rfl rfl fun _ hm => ?_
 refine vi hm (fun hb2 hm => ?_) fun hb2 hm => ?_
 rw [hb2]
 refine vl 0 (.agg (c_Catalog p0)) ld30 rfl rfl rfl ?_
 refine vk W80 bd80 hm rfl rfl fun _ hm => ?_
 refine vi hm (fun hb3 hm => ?_) fun hb3 hm => ?_
 rw [hb3]
 refine vl 0 (.agg (c_Catalog p0)) ld30 rfl rfl rfl ?_
 refine vk W81 bd81 hm rfl rfl fun _ hm => ?_
 exact vgo hm () trivial (lx (.cons (ALe.refl _ _) .nil))
 rw [hb3]
 exact vgo hm () trivial (lx (.cons (ALe.refl _ _) .nil))
 rw [hb2]
 exact vgo hm () trivial (lx (.cons (ALe.refl _ _) .nil))
 rw [hb1]
 exact vgo hm () trivial (lx (.cons (ALe.refl _ _) .nil))
 rw [hb0]
 exact vgo hm () trivial (lx (.cons (ALe.refl _ _) .nil))
 rintro _ j0 hm
 refine v ?_
 refine vi hm (fun hc0 hm => ?_) fun hc0 hm => ?_
 refine v (v ?_)
 injection hm with hm; subst hm
 exact vr1 rfl
 refine v (v (v ?_))
 injection hm with hm; subst hm
 exact vr1 rfl
theorem bd31 : bodied Tryz.prog 31 = true := by kernel_rfl
open Go.Vm
def M109_L0 (fuel : Nat) (p0 : List TPart) (p1 : TPart → Option Bool) (q0 : Int) : Option (Lp (Int) (Int)) :=
 if (decide (q0 < (p0.length : Int))) = true then ((ix p0 q0).bind fun x0 => (p1 x0).bind fun y0 => if y0 = true then (some (.ret q0)) else some (.go (IntKind.wrap .i64 (q0 + 1)))) else some (.brk q0)
def M109 (fuel : Nat) (p0 : List TPart) (p1 : TPart → Option Bool) : Option (Int) :=
 after (loopM (fun s => M109_L0 fuel p0 p1 s) fuel 0) fun r0 => some (-1)
set_option maxHeartbeats 4000000 in
set_option maxRecDepth 100000 in
theorem W109 {fuel : Nat} {p0 : List TPart} {p1 : TPart → Option Bool} {o : Int} (h : Heap) {p1F : Nat} {p1C : List AV} (p1B : bodied Tryz.prog p1F = true) (p1H : ∀ x0 o h0, Sub h h0 → p1 x0 = some o → ACalls Tryz.prog p1F ([.agg (c_Part x0)] ++ p1C) h0 (fun r h' => r = .sc (.bool o) ∧ h' = h0)) (hm : M109 fuel p0 p1 = some o) :
 ACalls Tryz.prog 109 [.sl none 3 (List.map c_Part p0), .fn (.func p1F) p1C] h (fun r h' => r = .sc (.int .i64 o) ∧ h' = h) := by
 refine ACv 19 [.tmp 4] Tryz.func109 rfl rfl rfl rfl ?_
 unfold M109 at hm
 refine v (v (vln ln56 rfl ?_))
 refine vlpH hm (σ := Int) (τ := Unit) (fun g s => []) (fun g s => .c 0 (.sl none 3 (List.map c_Part p0)) (.c 1 (.fn (.func p1F) p1C) (.c 7 (.sc (.int .i64 (p0.length : Int))) (.c 8 (.sc (.int .i64 s)) .nil)))) () (lx (.k4 .nil)) ?_ ?_
 rintro _ q0 x hm
 replace hm : M109_L0 fuel p0 p1 q0 = some x := hm
 unfold M109_L0 at hm
 refine v (v ?_)
 refine vi hm (fun hc0 hm => ?_) fun hc0 hm => ?_
 refine v (v (v (v ?_)))
 refine vx hm el56 rfl rfl fun x1 _ hm => ?_
 refine va (.agg (c_Part x1)) ld70 rfl rfl ?_
 obtain ⟨_, hy0, hm⟩ := Zc hm
 refine vn (fun hk => o_call (p1H _ _ _ (hp_sub (List.nil_sublist _) hk).1 hy0) rfl p1B rfl) (v ?_)
 refine vi hm (fun hc1 hm => ?_) fun hc1 hm => ?_
 refine v (v ?_)
 refine vrt hm fun hm => ?_
 injection hm with hm; subst hm
 exact vr1 rfl
 refine v (v ?_)
 exact vgo hm () trivial (lx (.k4 .nil))
 refine v ?_
 exact vbk hm () trivial (lx (.k4 .nil))
 rintro _ r0 hm
 refine v (v ?_)
 cases hm
 exact vr1 rfl
theorem bd109 : bodied Tryz.prog 109 = true := by kernel_rfl
def M60 (fuel : Nat) (p0 : List TPart) (p1 : TPart → Option Bool) : Option (Bool) :=
 (M109 fuel p0 p1).bind fun y3 => some (decide (0 ≤ y3))
set_option maxHeartbeats 4000000 in
set_option maxRecDepth 100000 in
theorem W60 {fuel : Nat} {p0 : List TPart} {p1 : TPart → Option Bool} {o : Bool} (h : Heap) {p1F : Nat} {p1C : List AV} (p1B : bodied Tryz.prog p1F = true) (p1H : ∀ x0 o h0, Sub h h0 → p1 x0 = some o → ACalls Tryz.prog p1F ([.agg (c_Part x0)] ++ p1C) h0 (fun r h' => r = .sc (.bool o) ∧ h' = h0)) (hm : M60 fuel p0 p1 = some o) :
 ACalls Tryz.prog 60 [.sl none 3 (List.map c_Part p0), .fn (.func p1F) p1C] h (fun r h' => r = .sc (.bool o) ∧ h' = h) := by
 refine ACv 9 [.tmp 4] Tryz.func60 rfl rfl rfl rfl ?_
 unfold M60 at hm
 refine v (v ?_)
 obtain ⟨_, hy4, hm⟩ := Zc hm
 refine vn (fun hk => o_call (W109 _ p1B (fun x0 o h0 hs ho => p1H x0 o h0 ((hp_sub (List.nil_sublist _) hk).1.trans hs) ho) hy4) rfl bd109 rfl) (v ?_)
 cases hm
 exact vr1 rfl
theorem bd60 : bodied Tryz.prog 60 = true := by kernel_rfl
def M110_L0 (fuel : Nat) (p0 : List Id32) (p1 : Id32) (q0 : Int) : Option (Lp (Int) (Int)) :=
 if (decide (q0 < (p0.length : Int))) = true then ((ix p0 q0).bind fun x0 => if (decide (p1 = x0)) = true then (some (.ret q0)) else some (.go (IntKind.wrap .i64 (q0 + 1)))) else some (.brk q0)
def M110 (fuel : Nat) (p0 : List Id32) (p1 : Id32) : Option (Int) :=
 after (loopM (fun s => M110_L0 fuel p0 p1 s) fuel 0) fun r0 => some (-1)
set_option maxHeartbeats 4000000 in
set_option maxRecDepth 100000 in
theorem W110 {fuel : Nat} {p0 : List Id32} {p1 : Id32} {o : Int} (h : Heap) (hm : M110 fuel p0 p1 = some o) :
 ACalls Tryz.prog 110 [.sl none 32 (List.map c_id p0), .agg (c_id p1)] h (fun r h' => r = .sc (.int .i64 o) ∧ h' = h) := by
 refine ACv 19 [.tmp 4] Tryz.func110 rfl rfl rfl rfl ?_
 unfold M110 at hm
 refine v ?_
 refine ve fun hk => a_box hk rfl rfl fun k2 hk3 => qk hk3 rfl ?_
 refine v (vln ln68 rfl ?_)
 refine vlpH hm (σ := Int) (τ := Unit) (fun g s => [(some k2, .obj 36 (c_id p1))]) (fun g s => .c 0 (.sl none 32 (List.map c_id p0)) (.c 3 (.ptr k2 0) (.c 7 (.sc (.int .i64 (p0.length : Int))) (.c 8 (.sc (.int .i64 s)) .nil)))) () (lx (.k4 .nil)) ?_ ?_
 rintro _ q0 x hm
 replace hm : M110_L0 fuel p0 p1 q0 = some x := hm
 unfold M110_L0 at hm
 refine v (v ?_)
 refine vi hm (fun hc0 hm => ?_) fun hc0 hm => ?_
 refine v (v (v (v (vq (by kernel_rfl) (vl 0 (.agg (c_id p1)) ld36 rfl rfl rfl ?_)))))
 refine vx hm el68 rfl rfl fun x0 _ hm => ?_
 refine va (.agg (c_id x0)) ld36 rfl rfl (vn (fun _ => o_ide eg36 u36 u5 ld5 rfl rfl) (v ?_))
 refine vi hm (fun hc1 hm => ?_) fun hc1 hm => ?_
 refine v (v ?_)
 refine vrt hm fun hm => ?_
 injection hm with hm; subst hm
 exact vr1 rfl
 refine v (v ?_)
 exact vgo hm () trivial (lx (.k4 .nil))
 refine v ?_
 exact vbk hm () trivial (lx (.k4 .nil))
 rintro _ r0 hm
 refine v (v ?_)
 cases hm
 exact vr1 rfl
theorem bd110 : bodied Tryz.prog 110 = true := by kernel_rfl
def M62 (fuel : Nat) (p0 : List Id32) (p1 : Id32) : Option (Bool) :=
 (M110 fuel p0 p1).bind fun y6 => some (decide (0 ≤ y6))
set_option maxHeartbeats 4000000 in
set_option maxRecDepth 100000 in
theorem W62 {fuel : Nat} {p0 : List Id32} {p1 : Id32} {o : Bool} (h : Heap) (hm : M62 fuel p0 p1 = some o) :
 ACalls Tryz.prog 62 [.sl none 32 (List.map c_id p0), .agg (c_id p1)] h (fun r h' => r = .sc (.bool o) ∧ h' = h) := by
 refine ACv 9 [.tmp 4] Tryz.func62 rfl rfl rfl rfl ?_
 unfold M62 at hm
 refine v ?_
 refine ve fun hk => a_box hk rfl rfl fun k2 hk3 => qk hk3 rfl ?_
 refine v (vl 0 (.agg (c_id p1)) ld36 rfl rfl rfl ?_)
 refine vk W110 bd110 hm rfl rfl fun _ hm => ?_
 refine v ?_
 cases hm
 exact vr1 rfl
theorem bd62 : bodied Tryz.prog 62 = true := by kernel_rfl
def M61 (fuel : Nat) (p0 : TPart) (c0 : Id32) : Option (Bool) :=
 (M62 fuel p0.Ids c0).bind fun y6 => some y6
set_option maxHeartbeats 4000000 in
set_option maxRecDepth 100000 in
theorem W61 {fuel : Nat} {p0 : TPart} {c0 : Id32} {o : Bool} (h : Heap) {c0K : Key} (c0H : h c0K = some (.obj 36 (c_id c0))) (hm : M61 fuel p0 c0 = some o) :
 ACalls Tryz.prog 61 [.agg (c_Part p0), .ptr c0K 0] h (fun r h' => r = .sc (.bool o) ∧ h' = h) := by
 refine ACv 8 [.tmp 3] Tryz.func61 rfl rfl rfl rfl ?_
 unfold M61 at hm
 refine v ?_
 refine ve fun hk => a_box hk rfl rfl fun k2 hk3 => qk hk3 rfl ?_
 refine v (vl 0 _ ld68 rfl rfl rfl (vn (fun hk => Zg (.agg (c_id c0)) ld36 rfl (hp_base hk c0H) rfl) ?_))
 refine vk W62 bd62 hm rfl rfl fun _ hm => ?_
 refine v ?_
 injection hm with hm; subst hm
 exact vr1 rfl
theorem bd61 : bodied Tryz.prog 61 = true := by kernel_rfl
def M59 (fuel : Nat) (p0 : TSnap) (c0 : Id32) : Option (Bool) :=
 (M60 fuel p0.Man.Parts (fun x0 => M61 fuel x0 c0)).bind fun y6 => some y6
set_option maxHeartbeats 4000000 in
set_option maxRecDepth 100000 in
theorem W59 {fuel : Nat} {p0 : TSnap} {c0 : Id32} {o : Bool} (h : Heap) {c0K : Key} (c0H : h c0K = some (.obj 36 (c_id c0))) (hm : M59 fuel p0 c0 = some o) :
 ACalls Tryz.prog 59 [.agg (c_Snap p0), .ptr c0K 0] h (fun r h' => r = .sc (.bool o) ∧ h' = h) := by
 refine ACv 9 [.tmp 3] Tryz.func59 rfl rfl rfl rfl ?_
 unfold M59 at hm
 refine v ?_
 refine ve fun hk => a_box hk rfl rfl fun k2 hk3 => qk hk3 rfl ?_
 refine v (vl 0 _ ld56 rfl rfl rfl ?_)
 obtain ⟨_, hy7, hm⟩ := Zc hm
 refine vn (fun hk => o_call (W60 _ bd61 (fun _ o h0 hs ho => W61 _ (hs _ _ (hp_base hk c0H)) ho) hy7) rfl bd60 rfl) (v ?_)
 injection hm with hm; subst hm
 exact vr1 rfl
theorem bd59 : bodied Tryz.prog 59 = true := by kernel_rfl
def M22 (fuel : Nat) (p0 : TCatalog) (p1 : Id32) : Option (Bool) :=
 (M58 fuel p0.Snaps (fun x0 => M59 fuel x0 p1)).bind fun y9 => some y9
set_option maxHeartbeats 4000000 in
set_option maxRecDepth 100000 in
theorem W22 {fuel : Nat} {p0 : TCatalog} {p1 : Id32} {o : Bool} (h : Heap) (hm : M22 fuel p0 p1 = some o) :
 ACalls Tryz.prog 22 [.agg (c_Catalog p0), .agg (c_id p1)] h (fun r h' => r = .sc (.bool o) ∧ h' = h) := by
 refine ACv 9 [.tmp 4] Tryz.func22 rfl rfl rfl rfl ?_
 unfold M22 at hm
 refine v ?_
 refine ve fun hk => a_box hk rfl rfl fun k2 hk3 => qk hk3 rfl ?_
 refine ve fun hk => a_box hk rfl rfl fun k5 hk6 => qk hk6 rfl ?_
 refine v (vl 1 _ ld25 rfl rfl rfl ?_)
 obtain ⟨_, hy0, hm⟩ := Zc hm
 refine vn (fun hk => o_call (W58 _ bd59 (fun _ o h0 hs ho => W59 _ (hs _ _ (Zd 0 hk rfl)) ho) hy0) rfl bd58 rfl) (v ?_)
 injection hm with hm; subst hm
 exact vr1 rfl
theorem bd22 : bodied Tryz.prog 22 = true := by kernel_rfl
def M50_L0 (fuel : Nat) (p0 : TCatalog) (p1 : (List TLoc) → Bool → Option Bool) (q0 : List TItem) (q1 : Int) : Option (Lp ((List TItem) × Int) ((List TItem))) :=
 if (decide (q1 < (p0.Chunks.length : Int))) = true then ((ix p0.Chunks q1).bind fun x0 => (M22 fuel p0 x0.Id).bind fun y0 => (p1 x0.Locs y0).bind fun y1 => after (if y1 = true then ((app q0 ([({ Kind := 1, Id := x0.Id, Seq := 0, Of := 0, Off := 0, Len := 0 } : TItem)] : List TItem)).bind fun z0 => some (.brk z0)) else some (.brk q0) : Option (Lp ((List TItem)) (Lp ((List TItem) × Int) ((List TItem))))) fun j0 => some (.go (j0, IntKind.wrap .i64 (q1 + 1)))) else some (.brk (q0, q1))
def M50_L2 (fuel : Nat) (p0 : TCatalog) (p1 : (List TLoc) → Bool → Option Bool) (q0 : List TItem) (q1 : Int) : Option (Lp ((List TItem) × Int) ((List TItem))) :=
 if (decide (q1 < (p0.Snaps.length : Int))) = true then ((ix p0.Snaps q1).bind fun x0 => (p1 x0.Locs true).bind fun y0 => after (if y0 = true then ((app q0 ([({ Kind := 2, Id := idZ, Seq := x0.Seq, Of := 0, Off := 0, Len := 0 } : TItem)] : List TItem)).bind fun z0 => some (.brk z0)) else some (.brk q0) : Option (Lp ((List TItem)) (Lp ((List TItem) × Int) ((List TItem))))) fun j0 => some (.go (j0, IntKind.wrap .i64 (q1 + 1)))) else some (.brk (q0, q1))
def M50_L4 (fuel : Nat) (p0 : TCatalog) (p1 : (List TLoc) → Bool → Option Bool) (q0 : List TItem) (q1 : Int) : Option (Lp ((List TItem) × Int) ((List TItem))) :=
 if (decide (q1 < (p0.Exps.length : Int))) = true then ((ix p0.Exps q1).bind fun x0 => (p1 x0.Locs true).bind fun y0 => after (if y0 = true then ((app q0 ([({ Kind := 3, Id := idZ, Seq := x0.Seq, Of := x0.Of, Off := 0, Len := 0 } : TItem)] : List TItem)).bind fun z0 => some (.brk z0)) else some (.brk q0) : Option (Lp ((List TItem)) (Lp ((List TItem) × Int) ((List TItem))))) fun j0 => some (.go (j0, IntKind.wrap .i64 (q1 + 1)))) else some (.brk (q0, q1))
def M50 (fuel : Nat) (p0 : TCatalog) (p1 : (List TLoc) → Bool → Option Bool) : Option ((List TItem)) :=
 after (loopM (fun s => M50_L0 fuel p0 p1 s.1 s.2) fuel ([], 0)) fun ⟨r0, r1⟩ => after (loopM (fun s => M50_L2 fuel p0 p1 s.1 s.2) fuel (r0, 0)) fun ⟨r2, r3⟩ => after (loopM (fun s => M50_L4 fuel p0 p1 s.1 s.2) fuel (r2, 0)) fun ⟨r4, r5⟩ => some r4
set_option maxHeartbeats 4000000 in
set_option maxRecDepth 100000 in
theorem W50 {fuel : Nat} {p0 : TCatalog} {p1 : (List TLoc) → Bool → Option Bool} {o : (List TItem)} (h : Heap) {p1F : Nat} {p1C : List AV} (p1B : bodied Tryz.prog p1F = true) (p1H : ∀ x0 x1 o h0, Sub h h0 → p1 x0 x1 = some o → ACalls Tryz.prog p1F ([.sl none 4 (List.map c_Loc x0), .sc (.bool x1)] ++ p1C) h0 (fun r h' => r = .sc (.bool o) ∧ h' = h0)) (hm : M50 fuel p0 p1 = some o) :
 ACalls Tryz.prog 50 [.agg (c_Catalog p0), .fn (.func p1F) p1C] h (fun r h' => r = .sl none 37 (List.map c_Item o) ∧ h' = h) := by
 refine ACv 73 [.tmp 4] Tryz.func50 rfl rfl rfl rfl ?_
 unfold M50 at hm
 refine v ?_
 refine ve fun hk => a_box hk rfl rfl fun k2 hk3 => qk hk3 rfl ?_
 refine v (v (vl 0 _ ld26 rfl rfl rfl (vln ln26 rfl (vle (lno (.tok 38 37 (([] : List TItem).length * 37)) 5 (ow none 37 (List.map c_Item [])) (ow_nil _ _)) ?_))))
 refine vlp hm (σ := (List TItem) × Int) (τ := Option Key) (fun g s => [(g, .tok 38 37 ((s.1 : List TItem).length * 37)), (some k2, .obj 30 (c_Catalog p0))]) (fun g s => (g = none → s.1 = [])) (fun g s => .c 1 (.fn (.func p1F) p1C) (.c 2 (.ptr k2 0) (.c 5 (ow g 37 (List.map c_Item s.1)) (.c 13 (.sl none 35 (List.map c_Chunk p0.Chunks)) (.c 14 (.sc (.int .i64 (p0.Chunks.length : Int))) (.c 15 (.sc (.int .i64 s.2)) .nil)))))) none (fun _ => rfl) (lx (.k6 .nil)) ?_ ?_
 rintro tg0 ⟨q0, q1⟩ x ot0 hm
 replace hm : M50_L0 fuel p0 p1 q0 q1 = some x := hm
 unfold M50_L0 at hm
 refine v (v ?_)
 refine vi hm (fun hc0 hm => ?_) fun hc0 hm => ?_
 refine v (v (v ?_))
 refine vx hm el26 rfl rfl fun x2 _ hm => ?_
 refine va (.agg (c_Chunk x2)) ld44 rfl rfl ?_
 refine ve fun hk => a_alloc (c_id idZ ++ ([.sc (.bool false), .sc (.slice none 0 0), .sc (.slice none 0 0)] : List AV)) hk zr44 rfl rfl fun k128 hk0 => qk hk0 rfl ?_
 refine ve fun hk => a_store 0 (c_Chunk x2) hk rfl rfl rfl rfl sz44 rfl rfl fun hk1 => qk hk1 rfl ?_
 refine v (vq (by kernel_rfl) (vl 0 _ ld42 rfl rfl rfl (vl 2 (.agg (c_Catalog p0)) ld30 rfl rfl rfl (vl 0 (.agg (c_id x2.Id)) ld36 rfl rfl rfl ?_))))
 refine vk W22 bd22 hm rfl rfl fun _ hm => ?_
 obtain ⟨_, hy0, hm⟩ := Zc hm
 refine vn (fun hk => o_call (p1H _ _ _ _ (hp_sub (List.nil_sublist _) hk).1 hy0) rfl p1B rfl) ?_
 refine vjn hm (σ := (List TItem)) (τ := Option Key) (fun g s => [(some k128, .obj 44 (c_Chunk x2)), (g, .tok 38 37 ((s : List TItem).length * 37)), (some k2, .obj 30 (c_Catalog p0))]) (fun g s => (g = none → s = [])) (fun g s => .c 1 (.fn (.func p1F) p1C) (.c 2 (.ptr k2 0) (.c 5 (ow g 37 (List.map c_Item s)) (.c 13 (.sl none 35 (List.map c_Chunk p0.Chunks)) (.c 14 (.sc (.int .i64 (p0.Chunks.length : Int))) (.c 15 (.sc (.int .i64 q1)) .nil)))))) (fun x hm => ?_) ?_
 refine v ?_
 refine vi hm (fun hc1 hm => ?_) fun hc1 hm => ?_
 refine v (vl 0 (.agg (c_id x2.Id)) ld36 rfl rfl rfl (vn (fun _ => o_bld (c_Item ({ Kind := 1, Id := x2.Id, Seq := 0, Of := 0, Off := 0, Len := 0 } : TItem)) bt38 rfl) (vn (fun _ => o_lit (List.map c_Item ([({ Kind := 1, Id := x2.Id, Seq := 0, Of := 0, Off := 0, Len := 0 } : TItem)] : List TItem)) et33 rfl rfl rfl rfl) ?_)))
 obtain ⟨z0, hz0, hm⟩ := Zc hm
 refine ve fun hk => a_app (c := c_Item) 1 hz0 et33 rfl rfl rfl ot0 hk rfl fun tg1 ot1 hk2 => qk hk2 rfl ?_
 exact vgo hm tg1 ot1 (lx (.k6 .nil))
 refine v ?_
 exact vgo hm tg0 ot0 (lx (.k6 .nil))
 rintro tg2 j0 ot2 hm
 refine v ?_
 exact vgo hm tg2 ot2 (lxs [1, 2] rfl rfl (.k6 .nil))
 refine v ?_
 exact vbk hm tg0 ot0 (lx (.k6 .nil))
 rintro tg3 ⟨r0, r1⟩ ot3 hm
 refine v (vl 1 _ ld25 rfl rfl rfl (vln ln25 rfl ?_))
 refine vlp hm (σ := (List TItem) × Int) (τ := Option Key) (fun g s => [(g, .tok 38 37 ((s.1 : List TItem).length * 37)), (some k2, .obj 30 (c_Catalog p0))]) (fun g s => (g = none → s.1 = [])) (fun g s => .c 1 (.fn (.func p1F) p1C) (.c 2 (.ptr k2 0) (.c 5 (ow g 37 (List.map c_Item s.1)) (.c 35 (.sl none 4 (List.map c_Snap p0.Snaps)) (.c 36 (.sc (.int .i64 (p0.Snaps.length : Int))) (.c 37 (.sc (.int .i64 s.2)) .nil)))))) tg3 ot3 (lx (.k6 .nil)) ?_ ?_
 rintro tg4 ⟨q2, q3⟩ x ot4 hm
 replace hm : M50_L2 fuel p0 p1 q2 q3 = some x := hm
 unfold M50_L2 at hm
 refine v (v ?_)
 refine vi hm (fun hc2 hm => ?_) fun hc2 hm => ?_
 refine v (v (v ?_))
 refine vx hm el25 rfl rfl fun x3 _ hm => ?_
 refine va (.agg (c_Snap x3)) ld60 rfl rfl ?_
 refine ve fun hk => a_alloc ([.sc (.int .i64 0), .sc (.string ByteArray.empty), .sc (.slice none 0 0), .sc (.slice none 0 0)]) hk zr60 rfl rfl fun k234 hk4 => qk hk4 rfl ?_
 refine ve fun hk => a_store 0 (c_Snap x3) hk rfl rfl rfl rfl sz60 rfl rfl fun hk5 => qk hk5 rfl ?_
 refine v (vl 0 _ ld42 rfl rfl rfl ?_)
 obtain ⟨_, hy1, hm⟩ := Zc hm
 refine vn (fun hk => o_call (p1H _ _ _ _ (hp_sub (List.nil_sublist _) hk).1 hy1) rfl p1B rfl) ?_
 refine vjn hm (σ := (List TItem)) (τ := Option Key) (fun g s => [(some k234, .obj 60 (c_Snap x3)), (g, .tok 38 37 ((s : List TItem).length * 37)), (some k2, .obj 30 (c_Catalog p0))]) (fun g s => (g = none → s = [])) (fun g s => .c 1 (.fn (.func p1F) p1C) (.c 2 (.ptr k2 0) (.c 5 (ow g 37 (List.map c_Item s)) (.c 35 (.sl none 4 (List.map c_Snap p0.Snaps)) (.c 36 (.sc (.int .i64 (p0.Snaps.length : Int))) (.c 37 (.sc (.int .i64 q3)) .nil)))))) (fun x hm => ?_) ?_
 refine v ?_
 refine vi hm (fun hc3 hm => ?_) fun hc3 hm => ?_
 refine v (vl 0 _ ld3 rfl rfl rfl (vn (fun _ => o_bld (c_Item ({ Kind := 2, Id := idZ, Seq := x3.Seq, Of := 0, Off := 0, Len := 0 } : TItem)) bt38 rfl) (vn (fun _ => o_lit (List.map c_Item ([({ Kind := 2, Id := idZ, Seq := x3.Seq, Of := 0, Off := 0, Len := 0 } : TItem)] : List TItem)) et33 rfl rfl rfl rfl) ?_)))
 obtain ⟨z1, hz1, hm⟩ := Zc hm
 refine ve fun hk => a_app (c := c_Item) 1 hz1 et33 rfl rfl rfl ot4 hk rfl fun tg5 ot5 hk6 => qk hk6 rfl ?_
 exact vgo hm tg5 ot5 (lx (.k6 .nil))
 refine v ?_
 exact vgo hm tg4 ot4 (lx (.k6 .nil))
 rintro tg6 j1 ot6 hm
 refine v ?_
 exact vgo hm tg6 ot6 (lxs [1, 2] rfl rfl (.k6 .nil))
 refine v ?_
 exact vbk hm tg4 ot4 (lx (.k6 .nil))
 rintro tg7 ⟨r2, r3⟩ ot7 hm
 refine v (vl 1 _ ld27 rfl rfl rfl (vln ln27 rfl ?_))
 refine vlp hm (σ := (List TItem) × Int) (τ := Option Key) (fun g s => [(g, .tok 38 37 ((s.1 : List TItem).length * 37)), (some k2, .obj 30 (c_Catalog p0))]) (fun g s => (g = none → s.1 = [])) (fun g s => .c 1 (.fn (.func p1F) p1C) (.c 5 (ow g 37 (List.map c_Item s.1)) (.c 53 (.sl none 3 (List.map c_Exp p0.Exps)) (.c 54 (.sc (.int .i64 (p0.Exps.length : Int))) (.c 55 (.sc (.int .i64 s.2)) .nil))))) tg7 ot7 (lx (.k5 .nil)) ?_ ?_
 rintro tg8 ⟨q4, q5⟩ x ot8 hm
 replace hm : M50_L4 fuel p0 p1 q4 q5 = some x := hm
 unfold M50_L4 at hm
 refine v (v ?_)
 refine vi hm (fun hc4 hm => ?_) fun hc4 hm => ?_
 refine v (v (v ?_))
 refine vx hm el27 rfl rfl fun x4 _ hm => ?_
 refine va (.agg (c_Exp x4)) ld99 rfl rfl ?_
 refine ve fun hk => a_alloc ([.sc (.int .i64 0), .sc (.int .i64 0), .sc (.slice none 0 0)]) hk zr99 rfl rfl fun k338 hk7 => qk hk7 rfl ?_
 refine ve fun hk => a_store 0 (c_Exp x4) hk rfl rfl rfl rfl sz99 rfl rfl fun hk8 => qk hk8 rfl ?_
 refine v (vl 0 _ ld42 rfl rfl rfl ?_)
 obtain ⟨_, hy2, hm⟩ := Zc hm
 refine vn (fun hk => o_call (p1H _ _ _ _ (hp_sub (List.nil_sublist _) hk).1 hy2) rfl p1B rfl) ?_
 refine vjn hm (σ := (List TItem)) (τ := Option Key) (fun g s => [(some k338, .obj 99 (c_Exp x4)), (g, .tok 38 37 ((s : List TItem).length * 37)), (some k2, .obj 30 (c_Catalog p0))]) (fun g s => (g = none → s = [])) (fun g s => .c 1 (.fn (.func p1F) p1C) (.c 5 (ow g 37 (List.map c_Item s)) (.c 53 (.sl none 3 (List.map c_Exp p0.Exps)) (.c 54 (.sc (.int .i64 (p0.Exps.length : Int))) (.c 55 (.sc (.int .i64 q5)) .nil))))) (fun x hm => ?_) ?_
 refine v ?_
 refine vi hm (fun hc5 hm => ?_) fun hc5 hm => ?_
 refine v (vl 0 _ ld3 rfl rfl rfl (vl 0 _ ld3 rfl rfl rfl (vn (fun _ => o_bld (c_Item ({ Kind := 3, Id := idZ, Seq := x4.Seq, Of := x4.Of, Off := 0, Len := 0 } : TItem)) bt38 rfl) (vn (fun _ => o_lit (List.map c_Item ([({ Kind := 3, Id := idZ, Seq := x4.Seq, Of := x4.Of, Off := 0, Len := 0 } : TItem)] : List TItem)) et33 rfl rfl rfl rfl) ?_))))
 obtain ⟨z2, hz2, hm⟩ := Zc hm
 refine ve fun hk => a_app (c := c_Item) 1 hz2 et33 rfl rfl rfl ot8 hk rfl fun tg9 ot9 hk9 => qk hk9 rfl ?_
 exact vgo hm tg9 ot9 (lx (.k5 .nil))
 refine v ?_
 exact vgo hm tg8 ot8 (lx (.k5 .nil))
 rintro tg10 j2 ot10 hm
 refine v ?_
 exact vgo hm tg10 ot10 (lxs [1, 2] rfl rfl (.k5 .nil))
 refine v ?_
 exact vbk hm tg8 ot8 (lx (.k5 .nil))
 rintro tg11 ⟨r4, r5⟩ ot11 hm
 refine v (v ?_)
 injection hm with hm; subst hm
 exact vr fun hk => Ret.of1 (.inl rfl) (rsT _ _ (ow _ _ _) rfl) (hp_sub (List.nil_sublist _) hk).1 ((own_frz0 _ 0 ot11 hk rfl)) ⟨rfl, rfl⟩
theorem bd50 : bodied Tryz.prog 50 = true := by kernel_rfl
def M108_L0 (fuel : Nat) (p0 : List TLoc) (p1 : TLoc → Option Bool) (q0 : Int) : Option (Lp (Int) (Int)) :=
 if (decide (q0 < (p0.length : Int))) = true then ((ix p0 q0).bind fun x0 => (p1 x0).bind fun y0 => if y0 = true then (some (.ret q0)) else some (.go (IntKind.wrap .i64 (q0 + 1)))) else some (.brk q0)
def M108 (fuel : Nat) (p0 : List TLoc) (p1 : TLoc → Option Bool) : Option (Int) :=
 after (loopM (fun s => M108_L0 fuel p0 p1 s) fuel 0) fun r0 => some (-1)
set_option maxHeartbeats 4000000 in
set_option maxRecDepth 100000 in
theorem W108 {fuel : Nat} {p0 : List TLoc} {p1 : TLoc → Option Bool} {o : Int} (h : Heap) {p1F : Nat} {p1C : List AV} (p1B : bodied Tryz.prog p1F = true) (p1H : ∀ x0 o h0, Sub h h0 → p1 x0 = some o → ACalls Tryz.prog p1F ([.agg (c_Loc x0)] ++ p1C) h0 (fun r h' => r = .sc (.bool o) ∧ h' = h0)) (hm : M108 fuel p0 p1 = some o) :
 ACalls Tryz.prog 108 [.sl none 4 (List.map c_Loc p0), .fn (.func p1F) p1C] h (fun r h' => r = .sc (.int .i64 o) ∧ h' = h) := by
 refine ACv 19 [.tmp 4] Tryz.func108 rfl rfl rfl rfl ?_
 unfold M108 at hm
 refine v (v (vln ln42 rfl ?_))
 refine vlpH hm (σ := Int) (τ := Unit) (fun g s => []) (fun g s => .c 0 (.sl none 4 (List.map c_Loc p0)) (.c 1 (.fn (.func p1F) p1C) (.c 7 (.sc (.int .i64 (p0.length : Int))) (.c 8 (.sc (.int .i64 s)) .nil)))) () (lx (.k4 .nil)) ?_ ?_
 rintro _ q0 x hm
 replace hm : M108_L0 fuel p0 p1 q0 = some x := hm
 unfold M108_L0 at hm
 refine v (v ?_)
 refine vi hm (fun hc0 hm => ?_) fun hc0 hm => ?_
 refine v (v (v (v ?_)))
 refine vx hm el42 rfl rfl fun x1 _ hm => ?_
 refine va (.agg (c_Loc x1)) ld81 rfl rfl ?_
 obtain ⟨_, hy0, hm⟩ := Zc hm
 refine vn (fun hk => o_call (p1H _ _ _ (hp_sub (List.nil_sublist _) hk).1 hy0) rfl p1B rfl) (v ?_)
 refine vi hm (fun hc1 hm => ?_) fun hc1 hm => ?_
 refine v (v ?_)
 refine vrt hm fun hm => ?_
 injection hm with hm; subst hm
 exact vr1 rfl
 refine v (v ?_)
 exact vgo hm () trivial (lx (.k4 .nil))
 refine v ?_
 exact vbk hm () trivial (lx (.k4 .nil))
 rintro _ r0 hm
 refine v (v ?_)
 cases hm
 exact vr1 rfl
theorem bd108 : bodied Tryz.prog 108 = true := by kernel_rfl
def M55 (fuel : Nat) (p0 : List TLoc) (p1 : TLoc → Option Bool) : Option (Bool) :=
 (M108 fuel p0 p1).bind fun y3 => some (decide (0 ≤ y3))
set_option maxHeartbeats 4000000 in
set_option maxRecDepth 100000 in
theorem W55 {fuel : Nat} {p0 : List TLoc} {p1 : TLoc → Option Bool} {o : Bool} (h : Heap) {p1F : Nat} {p1C : List AV} (p1B : bodied Tryz.prog p1F = true) (p1H : ∀ x0 o h0, Sub h h0 → p1 x0 = some o → ACalls Tryz.prog p1F ([.agg (c_Loc x0)] ++ p1C) h0 (fun r h' => r = .sc (.bool o) ∧ h' = h0)) (hm : M55 fuel p0 p1 = some o) :
 ACalls Tryz.prog 55 [.sl none 4 (List.map c_Loc p0), .fn (.func p1F) p1C] h (fun r h' => r = .sc (.bool o) ∧ h' = h) := by
 refine ACv 9 [.tmp 4] Tryz.func55 rfl rfl rfl rfl ?_
 unfold M55 at hm
 refine v (v ?_)
 obtain ⟨_, hy4, hm⟩ := Zc hm
 refine vn (fun hk => o_call (W108 _ p1B (fun x0 o h0 hs ho => p1H x0 o h0 ((hp_sub (List.nil_sublist _) hk).1.trans hs) ho) hy4) rfl bd108 rfl) (v ?_)
 cases hm
 exact vr1 rfl
theorem bd55 : bodied Tryz.prog 55 = true := by kernel_rfl
def M111 (fuel : Nat) (p0 : TLoc) (c0 : Int) : Option (Bool) :=
 some (p0.Vol == c0)
set_option maxHeartbeats 4000000 in
set_option maxRecDepth 100000 in
theorem W111 {fuel : Nat} {p0 : TLoc} {c0 : Int} {o : Bool} (h : Heap) {c0K : Key} (c0H : h c0K = some (.obj 3 (c_i64 c0))) (hm : M111 fuel p0 c0 = some o) :
 ACalls Tryz.prog 111 [.agg (c_Loc p0), .ptr c0K 0] h (fun r h' => r = .sc (.bool o) ∧ h' = h) := by
 refine ACv 8 [.tmp 3] Tryz.func111 rfl rfl rfl rfl ?_
 unfold M111 at hm
 refine v ?_
 refine ve fun hk => a_box hk rfl rfl fun k2 hk3 => qk hk3 rfl ?_
 refine v (vl 0 _ ld3 rfl rfl rfl (vn (fun hk => Zg (.sc (.int .i64 c0)) ld3 rfl (hp_base hk c0H) rfl) (v ?_)))
 cases hm
 exact vr1 rfl
theorem bd111 : bodied Tryz.prog 111 = true := by kernel_rfl
def M64 (fuel : Nat) (p0 : List TLoc) (p1 : Int) : Option (Bool) :=
 (M55 fuel p0 (fun x0 => M111 fuel x0 p1)).bind fun y6 => some y6
set_option maxHeartbeats 4000000 in
set_option maxRecDepth 100000 in
theorem W64 {fuel : Nat} {p0 : List TLoc} {p1 : Int} {o : Bool} (h : Heap) (hm : M64 fuel p0 p1 = some o) :
 ACalls Tryz.prog 64 [.sl none 4 (List.map c_Loc p0), .sc (.int .i64 p1)] h (fun r h' => r = .sc (.bool o) ∧ h' = h) := by
 refine ACv 8 [.tmp 4] Tryz.func64 rfl rfl rfl rfl ?_
 unfold M64 at hm
 refine v ?_
 refine ve fun hk => a_box hk rfl rfl fun k2 hk3 => qk hk3 rfl ?_
 refine v ?_
 obtain ⟨_, hy7, hm⟩ := Zc hm
 refine vn (fun hk => o_call (W55 _ bd111 (fun _ o h0 hs ho => W111 _ (hs _ _ (Zd 0 hk rfl)) ho) hy7) rfl bd55 rfl) (v ?_)
 injection hm with hm; subst hm
 exact vr1 rfl
theorem bd64 : bodied Tryz.prog 64 = true := by kernel_rfl
def M63 (fuel : Nat) (p0 : List TLoc) (p1 : Bool) (c0 : Int) : Option (Bool) :=
 (M64 fuel p0 c0).bind fun y3 => some y3
set_option maxHeartbeats 4000000 in
set_option maxRecDepth 100000 in
theorem W63 {fuel : Nat} {p0 : List TLoc} {p1 : Bool} {c0 : Int} {o : Bool} (h : Heap) {c0K : Key} (c0H : h c0K = some (.obj 3 (c_i64 c0))) (hm : M63 fuel p0 p1 c0 = some o) :
 ACalls Tryz.prog 63 [.sl none 4 (List.map c_Loc p0), .sc (.bool p1), .ptr c0K 0] h (fun r h' => r = .sc (.bool o) ∧ h' = h) := by
 refine ACv 9 [.tmp 5] Tryz.func63 rfl rfl rfl rfl ?_
 unfold M63 at hm
 refine v (v (vn (fun _ => Zg (.sc (.int .i64 c0)) ld3 rfl c0H rfl) ?_))
 refine vk W64 bd64 hm rfl rfl fun _ hm => ?_
 refine v ?_
 injection hm with hm; subst hm
 exact vr1 rfl
theorem bd63 : bodied Tryz.prog 63 = true := by kernel_rfl
def M56 (fuel : Nat) (p0 : TLoc) (c0 : TCatalog) (c1 : Int) : Option (Bool) :=
 after ((M57 fuel p0.Vol 0 (IntKind.wrap .i64 ((c0.Vols.length : Int) - 1))).bind fun y0 => if y0 = true then ((ix c0.Vols p0.Vol).bind fun x0 => some (.brk (x0.Pool == c1))) else some (.brk false) : Option (Lp (Bool) (Bool))) fun j0 => some j0
set_option maxHeartbeats 4000000 in
set_option maxRecDepth 100000 in
theorem W56 {fuel : Nat} {p0 : TLoc} {c0 : TCatalog} {c1 : Int} {o : Bool} (h : Heap) {c0K : Key} (c0H : h c0K = some (.obj 30 (c_Catalog c0))) {c1K : Key} (c1H : h c1K = some (.obj 3 (c_i64 c1))) (hm : M56 fuel p0 c0 c1 = some o) :
 ACalls Tryz.prog 56 [.agg (c_Loc p0), .ptr c0K 0, .ptr c1K 0] h (fun r h' => r = .sc (.bool o) ∧ h' = h) := by
 refine ACv 23 [.tmp 4] Tryz.func56 rfl rfl rfl rfl ?_
 unfold M56 at hm
 refine v ?_
 refine ve fun hk => a_box hk rfl rfl fun k2 hk3 => qk hk3 rfl ?_
 refine vs ?_
 refine vjnH hm (σ := Bool) (τ := Unit) (fun g s => [(some k2, .obj 81 (c_Loc p0))]) (fun g s => .c 4 (.sc (.bool s)) .nil) (fun x hm => ?_) ?_
 refine v (vq (by kernel_rfl) (vl 0 _ ld3 rfl rfl rfl (vn (fun hk => Zg (.sl none 4 (List.map c_Vol c0.Vols)) ld28 rfl (hp_base hk c0H) rfl) (vln ln28 rfl ?_))))
 refine vk W57 bd57 hm rfl rfl fun _ hm => ?_
 refine vi hm (fun hb0 hm => ?_) fun hb0 hm => ?_
 rw [hb0]
 refine vn (fun hk => Zg (.sl none 4 (List.map c_Vol c0.Vols)) ld28 rfl (hp_base hk c0H) rfl) (vl 0 _ ld3 rfl rfl rfl ?_)
 refine vx hm el28 rfl rfl fun _ _ hm => ?_
 refine vn (fun hk => Zg (.sc (.int .i64 c1)) ld3 rfl (hp_base hk c1H) rfl) ?_
 exact vgo hm () trivial (lx (.cons (ALe.refl _ _) .nil))
 rw [hb0]
 exact vgo hm () trivial (lx (.cons (ALe.refl _ _) .nil))
 rintro _ j0 hm
 refine v ?_
 injection hm with hm; subst hm
 exact vr1 rfl
theorem bd56 : bodied Tryz.prog 56 = true := by kernel_rfl
def M21 (fuel : Nat) (p0 : TCatalog) (p1 : List TLoc) (p2 : Int) : Option (Bool) :=
 (M55 fuel p1 (fun x0 => M56 fuel x0 p0 p2)).bind fun y9 => some y9
set_option maxHeartbeats 4000000 in
set_option maxRecDepth 100000 in
theorem W21 {fuel : Nat} {p0 : TCatalog} {p1 : List TLoc} {p2 : Int} {o : Bool} (h : Heap) (hm : M21 fuel p0 p1 p2 = some o) :
 ACalls Tryz.prog 21 [.agg (c_Catalog p0), .sl none 4 (List.map c_Loc p1), .sc (.int .i64 p2)] h (fun r h' => r = .sc (.bool o) ∧ h' = h) := by
 refine ACv 10 [.tmp 6] Tryz.func21 rfl rfl rfl rfl ?_
 unfold M21 at hm
 refine v ?_
 refine ve fun hk => a_box hk rfl rfl fun k2 hk3 => qk hk3 rfl ?_
 refine ve fun hk => a_box hk rfl rfl fun k5 hk6 => qk hk6 rfl ?_
 refine v ?_
 obtain ⟨_, hy0, hm⟩ := Zc hm
 refine vn (fun hk => o_call (W55 _ bd56 (fun _ o h0 hs ho => W56 _ (hs _ _ (Zd 1 hk rfl)) (hs _ _ (Zd 0 hk rfl)) ho) hy0) rfl bd55 rfl) (v ?_)
 injection hm with hm; subst hm
 exact vr1 rfl
theorem bd21 : bodied Tryz.prog 21 = true := by kernel_rfl
def M53_L0 (fuel : Nat) (p0 : List TChunk) (p1 : TChunk → Option Bool) (q0 : Int) : Option (Lp (Int) (Int)) :=
 if (decide (q0 < (p0.length : Int))) = true then ((ix p0 q0).bind fun x0 => (p1 x0).bind fun y0 => if y0 = true then (some (.ret q0)) else some (.go (IntKind.wrap .i64 (q0 + 1)))) else some (.brk q0)
def M53 (fuel : Nat) (p0 : List TChunk) (p1 : TChunk → Option Bool) : Option (Int) :=
 after (loopM (fun s => M53_L0 fuel p0 p1 s) fuel 0) fun r0 => some (-1)
set_option maxHeartbeats 4000000 in
set_option maxRecDepth 100000 in
theorem W53 {fuel : Nat} {p0 : List TChunk} {p1 : TChunk → Option Bool} {o : Int} (h : Heap) {p1F : Nat} {p1C : List AV} (p1B : bodied Tryz.prog p1F = true) (p1H : ∀ x0 o h0, Sub h h0 → p1 x0 = some o → ACalls Tryz.prog p1F ([.agg (c_Chunk x0)] ++ p1C) h0 (fun r h' => r = .sc (.bool o) ∧ h' = h0)) (hm : M53 fuel p0 p1 = some o) :
 ACalls Tryz.prog 53 [.sl none 35 (List.map c_Chunk p0), .fn (.func p1F) p1C] h (fun r h' => r = .sc (.int .i64 o) ∧ h' = h) := by
 refine ACv 19 [.tmp 4] Tryz.func53 rfl rfl rfl rfl ?_
 unfold M53 at hm
 refine v (v (vln ln26 rfl ?_))
 refine vlpH hm (σ := Int) (τ := Unit) (fun g s => []) (fun g s => .c 0 (.sl none 35 (List.map c_Chunk p0)) (.c 1 (.fn (.func p1F) p1C) (.c 7 (.sc (.int .i64 (p0.length : Int))) (.c 8 (.sc (.int .i64 s)) .nil)))) () (lx (.k4 .nil)) ?_ ?_
 rintro _ q0 x hm
 replace hm : M53_L0 fuel p0 p1 q0 = some x := hm
 unfold M53_L0 at hm
 refine v (v ?_)
 refine vi hm (fun hc0 hm => ?_) fun hc0 hm => ?_
 refine v (v (v (v ?_)))
 refine vx hm el26 rfl rfl fun x1 _ hm => ?_
 refine va (.agg (c_Chunk x1)) ld44 rfl rfl ?_
 obtain ⟨_, hy0, hm⟩ := Zc hm
 refine vn (fun hk => o_call (p1H _ _ _ (hp_sub (List.nil_sublist _) hk).1 hy0) rfl p1B rfl) (v ?_)
 refine vi hm (fun hc1 hm => ?_) fun hc1 hm => ?_
 refine v (v ?_)
 refine vrt hm fun hm => ?_
 injection hm with hm; subst hm
 exact vr1 rfl
 refine v (v ?_)
 exact vgo hm () trivial (lx (.k4 .nil))
 refine v ?_
 exact vbk hm () trivial (lx (.k4 .nil))
 rintro _ r0 hm
 refine v (v ?_)
 cases hm
 exact vr1 rfl
theorem bd53 : bodied Tryz.prog 53 = true := by kernel_rfl
def M54 (fuel : Nat) (p0 : TChunk) (c0 : Id32) : Option (Bool) :=
 some (decide (p0.Id = c0))
set_option maxHeartbeats 4000000 in
set_option maxRecDepth 100000 in
theorem W54 {fuel : Nat} {p0 : TChunk} {c0 : Id32} {o : Bool} (h : Heap) {c0K : Key} (c0H : h c0K = some (.obj 36 (c_id c0))) (hm : M54 fuel p0 c0 = some o) :
 ACalls Tryz.prog 54 [.agg (c_Chunk p0), .ptr c0K 0] h (fun r h' => r = .sc (.bool o) ∧ h' = h) := by
 refine ACv 8 [.tmp 3] Tryz.func54 rfl rfl rfl rfl ?_
 unfold M54 at hm
 refine v ?_
 refine ve fun hk => a_box hk rfl rfl fun k2 hk3 => qk hk3 rfl ?_
 refine v (vl 0 (.agg (c_id p0.Id)) ld36 rfl rfl rfl (vn (fun hk => Zg (.agg (c_id c0)) ld36 rfl (hp_base hk c0H) rfl) (vn (fun _ => o_ide eg36 u36 u5 ld5 rfl rfl) (v ?_))))
 cases hm
 exact vr1 rfl
theorem bd54 : bodied Tryz.prog 54 = true := by kernel_rfl
def M20 (fuel : Nat) (p0 : TCatalog) (p1 : Id32) : Option (Int) :=
 (M53 fuel p0.Chunks (fun x0 => M54 fuel x0 p1)).bind fun y9 => some y9
set_option maxHeartbeats 4000000 in
set_option maxRecDepth 100000 in
theorem W20 {fuel : Nat} {p0 : TCatalog} {p1 : Id32} {o : Int} (h : Heap) (hm : M20 fuel p0 p1 = some o) :
 ACalls Tryz.prog 20 [.agg (c_Catalog p0), .agg (c_id p1)] h (fun r h' => r = .sc (.int .i64 o) ∧ h' = h) := by
 refine ACv 9 [.tmp 4] Tryz.func20 rfl rfl rfl rfl ?_
 unfold M20 at hm
 refine v ?_
 refine ve fun hk => a_box hk rfl rfl fun k2 hk3 => qk hk3 rfl ?_
 refine ve fun hk => a_box hk rfl rfl fun k5 hk6 => qk hk6 rfl ?_
 refine v (vl 1 _ ld26 rfl rfl rfl ?_)
 obtain ⟨_, hy0, hm⟩ := Zc hm
 refine vn (fun hk => o_call (W53 _ bd54 (fun _ o h0 hs ho => W54 _ (hs _ _ (Zd 0 hk rfl)) ho) hy0) rfl bd53 rfl) (v ?_)
 injection hm with hm; subst hm
 exact vr1 rfl
theorem bd20 : bodied Tryz.prog 20 = true := by kernel_rfl
def M51 (fuel : Nat) (p0 : List TLoc) (p1 : Bool) (c0 : TCatalog) (c1 : Int) : Option (Bool) :=
 after (if p1 = true then ((M21 fuel c0 p0 c1).bind fun y0 => if (!y0) = true then (if (c1 == 0) = true then (some (.brk true)) else (M21 fuel c0 p0 0).bind fun y1 => some (.brk y1)) else some (.brk false)) else some (.brk false) : Option (Lp (Bool) (Bool))) fun j0 => some j0
set_option maxHeartbeats 4000000 in
set_option maxRecDepth 100000 in
theorem W51 {fuel : Nat} {p0 : List TLoc} {p1 : Bool} {c0 : TCatalog} {c1 : Int} {o : Bool} (h : Heap) {c0K : Key} (c0H : h c0K = some (.obj 30 (c_Catalog c0))) {c1K : Key} (c1H : h c1K = some (.obj 3 (c_i64 c1))) (hm : M51 fuel p0 p1 c0 c1 = some o) :
 ACalls Tryz.prog 51 [.sl none 4 (List.map c_Loc p0), .sc (.bool p1), .ptr c0K 0, .ptr c1K 0] h (fun r h' => r = .sc (.bool o) ∧ h' = h) := by
 refine ACv 24 [.tmp 6] Tryz.func51 rfl rfl rfl rfl ?_
 unfold M51 at hm
 refine v (vs ?_)
 refine vjnH hm (σ := Bool) (τ := Unit) (fun g s => []) (fun g s => .c 6 (.sc (.bool s)) .nil) (fun x hm => ?_) ?_
 refine v ?_
 refine vi hm (fun hb0 hm => ?_) fun hb0 hm => ?_
 rw [hb0]
 refine vn (fun _ => Zg (.agg (c_Catalog c0)) ld30 rfl c0H rfl) (vn (fun _ => Zg (.sc (.int .i64 c1)) ld3 rfl c1H rfl) ?_)
 refine vk W21 bd21 hm rfl rfl fun _ hm => ?_
 refine vi hm (fun hb1 hm => ?_) fun hb1 hm => ?_
 rw [hb1]
 refine vn (fun _ => Zg (.sc (.int .i64 c1)) ld3 rfl c1H rfl) ?_
 refine vi hm (fun hb2 hm => ?_) fun hb2 hm => ?_
 rw [hb2]
 exact vgo hm () trivial (lx (.cons (ALe.refl _ _) .nil))
 rw [hb2]
 refine vn (fun _ => Zg (.agg (c_Catalog c0)) ld30 rfl c0H rfl) ?_
 refine vk W21 bd21 hm rfl rfl fun _ hm => ?_
 exact vgo hm () trivial (lx (.cons (ALe.refl _ _) .nil))
 rw [hb1]
 exact vgo hm () trivial (lx (.cons (ALe.refl _ _) .nil))
 rw [hb0]
 exact vgo hm () trivial (lx (.cons (ALe.refl _ _) .nil))
 rintro _ j0 hm
 refine v ?_
 injection hm with hm; subst hm
 exact vr1 rfl
theorem bd51 : bodied Tryz.prog 51 = true := by kernel_rfl
def M68 (fuel : Nat) (p0 : TLoc) (c0 : Int) : Option (Bool) :=
 some (p0.Vol == c0)
set_option maxHeartbeats 4000000 in
set_option maxRecDepth 100000 in
theorem W68 {fuel : Nat} {p0 : TLoc} {c0 : Int} {o : Bool} (h : Heap) {c0K : Key} (c0H : h c0K = some (.obj 3 (c_i64 c0))) (hm : M68 fuel p0 c0 = some o) :
 ACalls Tryz.prog 68 [.agg (c_Loc p0), .ptr c0K 0] h (fun r h' => r = .sc (.bool o) ∧ h' = h) := by
 refine ACv 8 [.tmp 3] Tryz.func68 rfl rfl rfl rfl ?_
 unfold M68 at hm
 refine v ?_
 refine ve fun hk => a_box hk rfl rfl fun k2 hk3 => qk hk3 rfl ?_
 refine v (vl 0 _ ld3 rfl rfl rfl (vn (fun hk => Zg (.sc (.int .i64 c0)) ld3 rfl (hp_base hk c0H) rfl) (v ?_)))
 cases hm
 exact vr1 rfl
theorem bd68 : bodied Tryz.prog 68 = true := by kernel_rfl
open Go.Vm Go.ChangeShapes Go.WideShapes
section
variable {H : Type} {enc : TypeId × Value → H} {W : World}
theorem ce3 : Tryz.prog.cellsOf 3 = 1 := by kernel_rfl
theorem rd3 : Rd enc Tryz.prog W 3 c_i64 gI := Rd_i64 u3
theorem rd22 : Rd enc Tryz.prog W 22 c_s_i64 (gL gI) := Rd.slice rd3 u22 ce3 (fun _ => rfl) (by decide)
theorem ce67 : Tryz.prog.cellsOf 67 = 5 := by kernel_rfl
theorem ce64 : Tryz.prog.cellsOf 64 = 1 := by kernel_rfl
theorem ce95 : Tryz.prog.cellsOf 95 = 2 := by kernel_rfl
theorem ce9 : Tryz.prog.cellsOf 9 = 1 := by kernel_rfl
theorem rd9 : Rd enc Tryz.prog W 9 c_str gT := Rd_str u9
theorem ce41 : Tryz.prog.cellsOf 41 = 1 := by kernel_rfl
theorem ce5 : Tryz.prog.cellsOf 5 = 1 := by kernel_rfl
theorem rd5 : Rd enc Tryz.prog W 5 c_u8 gB := Rd_u8 u5
theorem rd41 : Rd enc Tryz.prog W 41 c_s_u8 (gL gB) := Rd.slice rd5 u41 ce5 (fun _ => rfl) (by decide)
def g_File (x : TFile) : Prop := gT x.Path ∧ (gL gB) x.Data
theorem sn95 : strN Tryz.prog 95 = some 2 := by kernel_rfl
theorem rd95 : Rd enc Tryz.prog W 95 c_File g_File := by
 intro fuel cs x h
 obtain ⟨hl, hf⟩ := Rd.flds sn95 ce95 h
 obtain ⟨a0, g0, v0, w0⟩ := hf 0 0 1 tf95_0 ce9 rd9
 obtain ⟨a1, g1, v1, w1⟩ := hf 1 1 1 tf95_1 ce41 rd41
 obtain ⟨v, w⟩ := (Win.cons v0 w0 (Win.cons v1 w1 (Win.nil hl) rfl) rfl)
 exact ⟨⟨a0, a1⟩, ⟨g0, g1⟩, by simpa [c_File, c_str, c_s_u8] using v, by simpa using w⟩
theorem rd64 : Rd enc Tryz.prog W 64 c_s_File (gL g_File) := Rd.slice rd95 u64 ce95 (fun x => by simp [c_File, c_id]) (by decide)
theorem ce65 : Tryz.prog.cellsOf 65 = 1 := by kernel_rfl
theorem ce4 : Tryz.prog.cellsOf 4 = 1 := by kernel_rfl
theorem rd4 : Rd enc Tryz.prog W 4 c_bool gT := Rd_bool u4
theorem rd65 : Rd enc Tryz.prog W 65 c_s_bool (gL gT) := Rd.slice rd4 u65 ce4 (fun _ => rfl) (by decide)
def g_Act (x : TAct) : Prop := gI x.Do ∧ gI x.N ∧ gI x.Vol ∧ (gL g_File) x.Tree ∧ (gL gT) x.Pick
theorem sn67 : strN Tryz.prog 67 = some 5 := by kernel_rfl
theorem rd67 : Rd enc Tryz.prog W 67 c_Act g_Act := by
 intro fuel cs x h
 obtain ⟨hl, hf⟩ := Rd.flds sn67 ce67 h
 obtain ⟨a0, g0, v0, w0⟩ := hf 0 0 1 tf67_0 ce3 rd3
 obtain ⟨a1, g1, v1, w1⟩ := hf 1 1 1 tf67_1 ce3 rd3
 obtain ⟨a2, g2, v2, w2⟩ := hf 2 2 1 tf67_2 ce3 rd3
 obtain ⟨a3, g3, v3, w3⟩ := hf 3 3 1 tf67_3 ce64 rd64
 obtain ⟨a4, g4, v4, w4⟩ := hf 4 4 1 tf67_4 ce65 rd65
 obtain ⟨v, w⟩ := (Win.cons v0 w0 (Win.cons v1 w1 (Win.cons v2 w2 (Win.cons v3 w3 (Win.cons v4 w4 (Win.nil hl) rfl) rfl) rfl) rfl) rfl)
 exact ⟨⟨a0, a1, a2, a3, a4⟩, ⟨g0, g1, g2, g3, g4⟩, by simpa [c_Act, c_i64, c_i64, c_i64, c_s_File, c_s_bool] using v, by simpa using w⟩
theorem rd23 : Rd enc Tryz.prog W 23 c_s_Act (gL g_Act) := Rd.slice rd67 u23 ce67 (fun x => by simp [c_Act, c_id]) (by decide)
def g_Part (x : TPart) : Prop := gT x.Path ∧ gI x.Size ∧ (gL (fun x : Id32 => gL gB x.1)) x.Ids
def g_Manifest (x : TManifest) : Prop := gT x.Name ∧ (gL g_Part) x.Parts
def g_Loc (x : TLoc) : Prop := gI x.Vol ∧ gI x.File ∧ gI x.Off ∧ gI x.Len
def g_Snap (x : TSnap) : Prop := gI x.Seq ∧ g_Manifest x.Man ∧ (gL g_Loc) x.Locs
def g_Chunk (x : TChunk) : Prop := (fun x : Id32 => gL gB x.1) x.Id ∧ gT x.Staged ∧ (gL gB) x.Data ∧ (gL g_Loc) x.Locs
def g_Exp (x : TExp) : Prop := gI x.Seq ∧ gI x.Of ∧ (gL g_Loc) x.Locs
def g_Vol (x : TVol) : Prop := gI x.Pool ∧ gI x.Epoch ∧ gI x.State ∧ gI x.Files
def g_Catalog (x : TCatalog) : Prop := gI x.Seq ∧ (gL g_Snap) x.Snaps ∧ (gL g_Chunk) x.Chunks ∧ (gL g_Exp) x.Exps ∧ (gL g_Vol) x.Vols
theorem rr22 : Tryz.prog.readableRec 22 = true ∧ 22 < Tryz.prog.types.size := ⟨by kernel_rfl, of_decide_eq_true (by kernel_rfl)⟩
theorem rr23 : Tryz.prog.readableRec 23 = true ∧ 23 < Tryz.prog.types.size := ⟨by kernel_rfl, of_decide_eq_true (by kernel_rfl)⟩
theorem own0 : ownKnob Tryz.prog.godebug = none := by kernel_rfl
theorem laidOut0 : laidOutB Tryz.prog = true := by kernel_rfl
end
open Go.Vm
def inR (a b c : Int) : Bool := decide (b ≤ a) && decide (a ≤ c)
theorem m68 (F : Nat) (a b c : Int) : M57 F a b c = some (inR a b c) := by
 unfold M57 inR
 by_cases h : b ≤ a <;> simp [after, h]
theorem m59 (F : Nat) (a b c : Int) : M97 F a b c = some (inR a b c) := by
 unfold M97 inR
 by_cases h : b ≤ a <;> simp [after, h]
def aftB (a b : TLoc) : Bool := if a.Vol != b.Vol then decide (b.Vol < a.Vol) else if a.File != b.File then decide (b.File < a.File) else decide (b.Off < a.Off)
theorem m141 (F : Nat) (a b : TLoc) : M183 F a b = some (aftB a b) := by
 unfold M183 aftB
 split
 ·rfl
 ·split <;> rfl
def locB (c : TCatalog) (l : List TLoc) (i : Nat) : Bool := match l[i]? with
  | none => true
  | some x => inR x.Vol 0 ((c.Vols.length : Int) - 1) && (match c.Vols[x.Vol.toNat]? with | none => false | some v => v.State == 2 && inR x.File 1 v.Files) && inR x.Off 0 16777215 && inR x.Len 13 8013 &&
      (i == 0 || (match l[i - 1]? with | none => true | some y => aftB x y))
def locsB (c : TCatalog) (l : List TLoc) : Bool := decide (l.length ≤ 200) && !(List.range l.length).any fun i => !locB c l i
theorem m112 {F : Nat} {c : TCatalog} {l : List TLoc} (hF : 1000 ≤ F) (hv : c.Vols.length < 1000) : M137 F c l = some (locsB c l) := by
 unfold M137 locsB
 by_cases hl : 200 < (l.length : Int)
 ·rw [if_pos (by simpa using hl)]; simp; omega
 ·rw [if_neg (by simpa using hl)]
  rw [loop_ff (s0 := (0 : Int)) (n := l.length) (F := F) (fun i : Nat => (i : Int)) (fun i => !locB c l i) (fun _ => false) (by omega) rfl, LF_all]
  ·have : l.length ≤ 200 := by omega
   simp only [this, decide_true, Bool.true_and]
   split <;> rename_i h <;> simp [after, h]
  ·intro i hi _
   unfold M137_L0 locB
   have hx : l[i]? = some l[i] := List.getElem?_eq_getElem hi
   generalize l[i] = x at hx
   rw [wr (by omega) (by omega), wr1 (by omega)]
   simp only [ix_nat, hx, m68, m141, Option.bind_some, after_ite, after_brk, after_ret, bind_ite', Int.ofNat_lt, hi, decide_true, if_true]
   cases h1 : inR x.Vol 0 ((c.Vols.length : Int) - 1)
   ·simp [after]
   ·have h2 : 0 ≤ x.Vol ∧ x.Vol.toNat < c.Vols.length := by simp [inR] at h1; omega
    have h3 : c.Vols[x.Vol.toNat]? = some c.Vols[x.Vol.toNat] := List.getElem?_eq_getElem h2.2
    generalize c.Vols[x.Vol.toNat] = v at h3
    simp only [ix_pos _ h2.1, h3, Option.bind_some]
    by_cases h0 : i = 0
    ·subst h0
     simp [after]
     grind
    ·have h5 : l[i - 1]? = some l[i - 1] := List.getElem?_eq_getElem (by omega)
     generalize l[i - 1] = y at h5
     rw [wr_1 (by omega) (by omega)]
     simp [after, ix_nat, h5, h0, Nat.pos_of_ne_zero h0]
     grind
  ·intro _
   unfold M137_L0
   simp
open Go.Vm Go.Lib
def key : List Int → Int
 | [] => 0
 | a :: u => a * 256 ^ u.length + key u
theorem key_lt : ∀ {l : List Int}, gL gB l → 0 ≤ key l ∧ key l < 256 ^ l.length
 | [], _ => by simp [key]
 | a :: u, h => by
  have ⟨h1, h2⟩ := h a (by simp)
  have ⟨h3, h4⟩ := key_lt (l := u) fun x hx => h x (by simp [hx])
  have hp : (0 : Int) < 256 ^ u.length := Int.pow_pos (by decide)
  simp only [key, List.length_cons, Int.pow_succ]
  have : a * 256 ^ u.length ≤ 255 * 256 ^ u.length := Int.mul_le_mul_of_nonneg_right (by omega) (by omega)
  have : 0 ≤ a * 256 ^ u.length := Int.mul_nonneg h1 (by omega)
  omega
theorem key_cmp {a b : Int} {u v : List Int} (hl : u.length = v.length) (ha : gL gB (a :: u)) (hb : gL gB (b :: v)) :
    (a < b → key (a :: u) < key (b :: v)) ∧ (a = b → (key (a :: u) < key (b :: v) ↔ key u < key v) ∧ (key (a :: u) = key (b :: v) ↔ key u = key v)) := by
  have ⟨h3, h4⟩ := key_lt (l := u) fun x hx => ha x (by simp [hx])
  have ⟨h5, h6⟩ := key_lt (l := v) fun x hx => hb x (by simp [hx])
  simp only [key]
  rw [hl] at h4 ⊢
  generalize (256 : Int) ^ v.length = q at h4 h6
  constructor
  · intro h
    have : (a + 1) * q ≤ b * q := Int.mul_le_mul_of_nonneg_right (by omega) (by omega)
    rw [Int.add_mul] at this
    omega
  · rintro rfl
    omega
theorem key_inj : ∀ {a b : List Int}, a.length = b.length → gL gB a → gL gB b → key a = key b → a = b
 | [], [], _, _, _, _ => rfl
 | x :: u, y :: v, hl, ha, hb, h => by
  have hl' : u.length = v.length := by simpa using hl
  obtain ⟨h1, h2⟩ := key_cmp hl' ha hb
  obtain ⟨h3, -⟩ := key_cmp hl'.symm hb ha
  rcases Int.lt_trichotomy x y with q | q | q
  ·have := h1 q; omega
  ·subst q
   rw [key_inj hl' (fun z hz => ha z (by simp [hz])) (fun z hz => hb z (by simp [hz])) ((h2 rfl).2.1 h)]
  ·have := h3 q; omega
theorem bA_toList (xs : List Int) : (bA xs).data.toList = xs.map fun z => z.toNat.toUInt8 := by
 have : ∀ (xs : List Int) (acc : ByteArray), (xs.foldl (fun acc z => acc.push z.toNat.toUInt8) acc).data.toList = acc.data.toList ++ xs.map fun z => z.toNat.toUInt8 := by
  intro xs
  induction xs with
  | nil => simp
  | cons x xs ih => intro acc; rw [List.foldl_cons, ih]; simp [ByteArray.push]
 rw [bA, this]
 rfl
theorem u8_lt {a b : Int} (ha : gB a) (hb : gB b) : a.toNat.toUInt8 < b.toNat.toUInt8 ↔ a < b := by
 unfold gB at ha hb
 rw [UInt8.lt_iff_toNat_lt]
 simp only [Nat.toUInt8, UInt8.toNat_ofNat']
 omega
theorem cmpI_key : ∀ {a b : List Int}, a.length = b.length → gL gB a → gL gB b → compareBytes (a.map fun z => z.toNat.toUInt8) (b.map fun z => z.toNat.toUInt8) = if key a < key b then -1 else if key b < key a then 1 else 0
 | [], [], _, _, _ => by simp [compareBytes, key]
 | x :: u, y :: v, hl, ha, hb => by
  have hl' : u.length = v.length := by simpa using hl
  obtain ⟨h1, h2⟩ := key_cmp hl' ha hb
  obtain ⟨h3, h4⟩ := key_cmp hl'.symm hb ha
  have hx := ha x (by simp)
  have hy := hb y (by simp)
  simp only [List.map_cons, compareBytes, u8_lt hx hy, u8_lt hy hx]
  rcases Int.lt_trichotomy x y with q | q | q
  ·rw [if_pos q, if_pos (h1 q)]
  ·subst q
   rw [if_neg (by omega), if_neg (by omega), cmpI_key hl' (fun z hz => ha z (by simp [hz])) (fun z hz => hb z (by simp [hz]))]
   simp only [(h2 rfl).1, (h4 rfl).1]
  ·rw [if_neg (by omega), if_pos q, if_neg (by have := h3 q; omega), if_pos (h3 q)]
def gId (x : Id32) : Prop := gL gB x.1
def ky (x : Id32) : Int := key x.1
theorem ky_inj {a b : Id32} (ha : gId a) (hb : gId b) (h : ky a = ky b) : a = b := Subtype.ext (key_inj (by rw [a.2, b.2]) ha hb h)
theorem m111 (F : Nat) {a b : Id32} (ha : gId a) (hb : gId b) : M136 F a b = some (if ky a < ky b then -1 else if ky b < ky a then 1 else 0) := by
 unfold M136 cmpI ky
 rw [cmp_eq, bA_toList, bA_toList, cmpI_key (by rw [a.2, b.2]) ha hb]
theorem before_key : ∀ (n : Nat) {a b : List Int}, a.length = n → b.length = n → gL gB a → gL gB b →
    (match (List.range n).find? fun i => a.getD i 0 != b.getD i 0 with | none => false | some i => decide (a.getD i 0 < b.getD i 0)) = decide (key a < key b)
  | 0, [], [], _, _, _, _ => by simp [key]
  | n + 1, x :: u, y :: v, h1, h2, ha, hb => by
    have hl' : u.length = v.length := by simp at h1 h2; omega
    obtain ⟨k1, k2⟩ := key_cmp hl' ha hb
    obtain ⟨k3, k4⟩ := key_cmp hl'.symm hb ha
    have ih := before_key n (a := u) (b := v) (by simpa using h1) (by simpa using h2) (fun z hz => ha z (by simp [hz])) (fun z hz => hb z (by simp [hz]))
    rw [find_range_succ]
    simp only [List.getD_cons_zero, List.getD_cons_succ]
    by_cases q : x = y
    · subst q
      simp only [bne_self_eq_false, Bool.false_eq_true, if_false, (k2 rfl).1]
      rw [← ih]
      cases (List.range n).find? fun i => u.getD i 0 != v.getD i 0 with
      | none => rfl
      | some i => simp only [Option.map_some, List.getD_cons_succ]
    · have hne : (x != y) = true := by simpa using q
      simp only [hne, if_true, List.getD_cons_zero]
      rcases Int.lt_trichotomy x y with w | w | w
      · have := k1 w; simp [w, this]
      · exact absurd w q
      · have := k3 w
        simp; constructor <;> intro <;> omega
theorem before_loop {F : Nat} {a b : Id32} (body : Int → Option (Lp Int Bool)) (hF : 1000 ≤ F) (ha : gId a) (hb : gId b)
    (h : ∀ i : Nat, body i = if decide ((i : Int) < 32) = true then ((ix a.1 i).bind fun x48 => (ix b.1 i).bind fun x50 => if (x48 != x50) = true then ((ix a.1 i).bind fun x54 => (ix b.1 i).bind fun x56 => some (.ret (decide (x54 < x56)))) else some (.go (IntKind.wrap .i64 (i + 1)))) else some (.brk (i : Int))) :
    (after (loopM body F 0) fun _ => some false) = some (decide (ky a < ky b)) := by
  rw [loop_ff (s0 := (0 : Int)) (n := 32) (F := F) (fun i : Nat => (i : Int)) (fun i => a.1.getD i 0 != b.1.getD i 0) (fun i => decide (a.1.getD i 0 < b.1.getD i 0)) (by omega) rfl]
  · have := before_key 32 a.2 b.2 ha hb
    unfold ky
    rw [← this]
    unfold LF
    cases (List.range 32).find? fun i => a.1.getD i 0 != b.1.getD i 0 <;> rfl
  · intro i hi _
    rw [h, wr1 (by omega)]
    have h1 : a.1[i]? = some a.1[i] := List.getElem?_eq_getElem (by rw [a.2]; exact hi)
    have h2 : b.1[i]? = some b.1[i] := List.getElem?_eq_getElem (by rw [b.2]; exact hi)
    have h3 : (i : Int) < 32 := by omega
    simp [ix_nat, h1, h2, h3, List.getD]
    split <;> rfl
  · intro _
    rw [h]; simp
theorem m60 {F : Nat} {a b : Id32} (hF : 1000 ≤ F) (ha : gId a) (hb : gId b) : M147 F a b = some (decide (ky a < ky b)) := before_loop (M147_L0 F a b) hF ha hb fun _ => rfl
theorem m128 {F : Nat} {a b : Id32} (hF : 1000 ≤ F) (ha : gId a) (hb : gId b) : M167 F a b = some (decide (ky a < ky b)) := before_loop (M167_L0 F a b) hF ha hb fun _ => rfl
open Go.Vm
structure Sm (c : TCatalog) : Prop where
 g : g_Catalog c
 sn : c.Snaps.length ≤ 12
 ch : c.Chunks.length ≤ 400
 ex : c.Exps.length ≤ 300
 vo : c.Vols.length ≤ 20
 sl : ∀ s ∈ c.Snaps, s.Locs.length ≤ 300
 cl : ∀ x ∈ c.Chunks, x.Locs.length ≤ 300 ∧ x.Data.length ≤ 300
 el : ∀ x ∈ c.Exps, x.Locs.length ≤ 300
 man : ∀ s ∈ c.Snaps, s.Man.Name.size ≤ 100 ∧ s.Man.Parts.length ≤ 10 ∧ ∀ p ∈ s.Man.Parts, p.Path.size ≤ 100 ∧ p.Ids.length ≤ 40
theorem range_any {α : Type} (l : List α) (q : α → Bool) : ((List.range l.length).any fun i => (l[i]?).any q) = l.any q := by
 rw [Bool.eq_iff_iff]
 simp only [List.any_eq_true, List.mem_range]
 constructor
 ·rintro ⟨i, hi, h⟩
  rw [List.getElem?_eq_getElem hi] at h
  exact ⟨l[i], List.getElem_mem hi, by simpa using h⟩
 ·rintro ⟨x, hx, h⟩
  obtain ⟨i, hi, rfl⟩ := List.getElem_of_mem hx
  exact ⟨i, hi, by rw [List.getElem?_eq_getElem hi]; simpa using h⟩
def volB (v : TVol) : Bool := inR v.Pool 0 1 && inR v.Epoch 0 1048576 && ((v.State == 2 && inR v.Files 1 65535) || ((v.State == 1 || v.State == 3) && v.Files == 0))
theorem all_any {α : Type} (l : List α) (q : α → Bool) : (l.any fun x => !q x) = !l.all q := by simp [List.any_eq_not_all_not]
theorem m69 {F : Nat} {l : List TVol} (hF : 1000 ≤ F) (hl : l.length ≤ 20) : M78 F l = some (l.all volB && inR l.length 1 8) := by
 unfold M78
 rw [loop_ff (s0 := (0 : Int)) (n := l.length) (F := F) (fun i : Nat => (i : Int)) (fun i => (l[i]?).any fun v => !volB v) (fun _ => false) (by omega) rfl, LF_all, range_any, all_any]
 ·cases h : l.all volB <;> simp [after, m68]
 ·intro i hi _
  unfold M78_L0 volB
  have hx : l[i]? = some l[i] := List.getElem?_eq_getElem hi
  generalize l[i] = x at hx
  rw [wr1 (by omega)]
  simp only [ix_nat, hx, m68, Option.bind_some, after_ite, after_brk, after_ret, bind_ite', Int.ofNat_lt, hi, decide_true, if_true, Option.any_some]
  by_cases h2 : x.State = 2
  ·simp [h2]; grind
  ·by_cases h1 : x.State = 1
   ·simp [h1]; grind
   ·by_cases h3 : x.State = 3
    ·simp [h3]; grind
    ·simp [h1, h2, h3]
 ·intro _
  unfold M78_L0
  simp
theorem m61 {F : Nat} {c : TCatalog} {l : List TLoc} (hF : 1000 ≤ F) (hv : c.Vols.length < 1000) : M148 F c l = some (locsB c l) := by
 unfold M148 locsB
 by_cases hl : 200 < (l.length : Int)
 ·rw [if_pos (by simpa using hl)]; simp; omega
 ·rw [if_neg (by simpa using hl)]
  rw [loop_ff (s0 := (0 : Int)) (n := l.length) (F := F) (fun i : Nat => (i : Int)) (fun i => !locB c l i) (fun _ => false) (by omega) rfl, LF_all]
  ·have : l.length ≤ 200 := by omega
   simp only [this, decide_true, Bool.true_and]
   split <;> rename_i h <;> simp [after, h]
  ·intro i hi _
   unfold M148_L0 locB
   have hx : l[i]? = some l[i] := List.getElem?_eq_getElem hi
   generalize l[i] = x at hx
   rw [wr1 (by omega)]
   simp only [ix_nat, hx, m59, Option.bind_some, after_ite, after_brk, after_ret, bind_ite', Int.ofNat_lt, hi, decide_true, if_true]
   by_cases h1 : x.Vol < 0
   ·simp [h1, inR]
    try omega
   ·by_cases h2 : (c.Vols.length : Int) ≤ x.Vol
    ·simp [h1, h2, inR]; omega
    ·have h2' : 0 ≤ x.Vol ∧ x.Vol.toNat < c.Vols.length := by omega
     have h3 : c.Vols[x.Vol.toNat]? = some c.Vols[x.Vol.toNat] := List.getElem?_eq_getElem h2'.2
     generalize c.Vols[x.Vol.toNat] = v at h3
     have h4 : inR x.Vol 0 ((c.Vols.length : Int) - 1) = true := by simp [inR]; omega
     simp only [ix_pos _ h2'.1, h3, Option.bind_some, h1, h2, h4, Bool.true_and, decide_false]
     by_cases h0 : i = 0
     ·subst h0
      simp [after]
      grind
     ·have h5 : l[i - 1]? = some l[i - 1] := List.getElem?_eq_getElem (by omega)
      generalize l[i - 1] = y at h5
      rw [wr_1 (by omega) (by omega)]
      simp [after, ix_nat, h5, h0, Nat.pos_of_ne_zero h0, aftB]
      grind
  ·intro _
   unfold M148_L0
   simp
def chB (c : TCatalog) (i : Nat) : Bool := match c.Chunks[i]? with
 | none => true
 | some x => (i == 0 || (match c.Chunks[i - 1]? with | none => true | some y => decide (ky y.Id < ky x.Id))) && locsB c x.Locs && (if x.Staged then inR x.Data.length 1 64 else (!decide (0 < x.Data.length) && !(x.Locs.length == 0)))
theorem gch {c : TCatalog} (h : Sm c) {i : Nat} {x : TChunk} (hx : c.Chunks[i]? = some x) : gId x.Id := by
 have := h.g.2.2.1 x (List.mem_of_getElem? hx)
 exact this.1
theorem m70_body {F : Nat} {c : TCatalog} (hF : 1000 ≤ F) (h : Sm c) {i : Nat} (hi : i < c.Chunks.length) : M79_L0 F c i = some (if !chB c i then .ret false else .go ((i + 1 : Nat) : Int)) := by
 have hc := h.ch
 have hv := h.vo
 unfold M79_L0 chB
 have hx : c.Chunks[i]? = some c.Chunks[i] := List.getElem?_eq_getElem hi
 generalize c.Chunks[i] = x at hx
 have gx := gch h hx
 rw [wr1 (by omega)]
 simp only [ix_nat, hx, m68, m112 hF (show c.Vols.length < 1000 by omega), Option.bind_some, after_ite, after_brk, after_ret, bind_ite', Int.ofNat_lt, hi, decide_true, if_true]
 generalize x.Locs.length = nl
 generalize x.Data.length = nd
 by_cases h0 : i = 0
 ·subst h0
  cases hs : x.Staged <;> simp [after_ite, after_brk, after_ret, bind_ite'] <;> grind
 ·have h5 : c.Chunks[i - 1]? = some c.Chunks[i - 1] := List.getElem?_eq_getElem (by omega)
  generalize c.Chunks[i - 1] = y at h5
  have gy := gch h h5
  rw [wr_1 (by omega) (by omega)]
  by_cases hk : ky y.Id < ky x.Id
  ·have e : ¬ (0 ≤ if ky y.Id < ky x.Id then (-1 : Int) else if ky x.Id < ky y.Id then 1 else 0) := by rw [if_pos hk]; omega
   cases hs : x.Staged <;> simp [after_ite, after_brk, after_ret, bind_ite', ix_nat, h5, h0, Nat.pos_of_ne_zero h0, m111 F gy gx, e, hk] <;> grind
  ·have e : (0 ≤ if ky y.Id < ky x.Id then (-1 : Int) else if ky x.Id < ky y.Id then 1 else 0) := by rw [if_neg hk]; split <;> omega
   simp [after_ite, after_brk, after_ret, bind_ite', ix_nat, h5, h0, Nat.pos_of_ne_zero h0, m111 F gy gx, e, hk]
   try (intro hh; exfalso; split at hh <;> omega)
def chsB (c : TCatalog) : Bool := !(List.range c.Chunks.length).any fun i => !chB c i
theorem m70 {F : Nat} {c : TCatalog} (hF : 1000 ≤ F) (h : Sm c) : M79 F c = some (chsB c && decide (c.Chunks.length ≤ 200)) := by
 have hc := h.ch
 unfold M79 chsB
 rw [loop_ff (s0 := (0 : Int)) (n := c.Chunks.length) (F := F) (fun i : Nat => (i : Int)) (fun i => !chB c i) (fun _ => false) (by omega) rfl, LF_all]
 ·cases (List.range c.Chunks.length).any fun i => !chB c i <;> simp [after]; omega
 ·exact fun i hi _ => m70_body hF h hi
 ·intro _; unfold M79_L0; simp
theorem m19_L3 {F : Nat} {c : TCatalog} (hF : 1000 ≤ F) (h : Sm c) {i : Nat} (hi : i < c.Chunks.length) : M89_L3 F c i = some (if !chB c i then .ret false else .go ((i + 1 : Nat) : Int)) := by
 have hc := h.ch
 have hv := h.vo
 unfold M89_L3 chB
 have hx : c.Chunks[i]? = some c.Chunks[i] := List.getElem?_eq_getElem hi
 generalize c.Chunks[i] = x at hx
 have gx := gch h hx
 rw [wr1 (by omega)]
 simp only [ix_nat, hx, m59, m61 hF (show c.Vols.length < 1000 by omega), Option.bind_some, after_ite, after_brk, after_ret, bind_ite', Int.ofNat_lt, hi, decide_true, if_true]
 generalize x.Locs.length = nl
 generalize x.Data.length = nd
 by_cases h0 : i = 0
 ·subst h0
  cases hs : x.Staged <;> simp [after_ite, after_brk, after_ret, bind_ite'] <;> grind
 ·have h5 : c.Chunks[i - 1]? = some c.Chunks[i - 1] := List.getElem?_eq_getElem (by omega)
  generalize c.Chunks[i - 1] = y at h5
  have gy := gch h h5
  rw [wr_1 (by omega) (by omega)]
  by_cases hk : ky y.Id < ky x.Id
  ·cases hs : x.Staged <;> simp [after_ite, after_brk, after_ret, bind_ite', ix_nat, h5, h0, Nat.pos_of_ne_zero h0, m60 hF gy gx, hk] <;> grind
  ·simp [after_ite, after_brk, after_ret, bind_ite', ix_nat, h5, h0, Nat.pos_of_ne_zero h0, m60 hF gy gx, hk]
theorem m19_L0 {F : Nat} {c : TCatalog} (hF : 1000 ≤ F) (h : Sm c) {i : Nat} (hi : i < c.Vols.length) : M89_L0 F c i = some (if (c.Vols[i]?).any fun v => !volB v then .ret false else .go ((i + 1 : Nat) : Int)) := by
 have hv := h.vo
 unfold M89_L0 volB
 have hx : c.Vols[i]? = some c.Vols[i] := List.getElem?_eq_getElem hi
 generalize c.Vols[i] = x at hx
 rw [wr1 (by omega)]
 simp only [ix_nat, hx, m59, Option.bind_some, after_ite, after_brk, after_ret, bind_ite', Int.ofNat_lt, hi, decide_true, if_true, Option.any_some]
 by_cases h2 : x.State = 2
 ·simp [h2]; grind
 ·by_cases h1 : x.State = 1
  ·simp [h1]; grind
  ·by_cases h3 : x.State = 3
   ·simp [h3]; grind
   ·simp [h1, h2, h3]
open Go.Vm
theorem six_some {s : ByteArray} {i : Nat} (h : i < s.size) : ∃ z : Int, six s (i : Int) = some z := by
 unfold six
 rw [if_pos (Int.natCast_nonneg i), Int.toNat_natCast]
 have : s[i]? = some s[i] := getElem?_pos s i h
 rw [this]
 exact ⟨_, rfl⟩
def bad (s : ByteArray) (i : Nat) : Bool := (six s (i : Int)).any fun z => decide (z < 33) || decide (126 < z)
def nameB (s : ByteArray) : Bool := inR s.size 1 20 && !(List.range s.size).any (bad s)
theorem m115 {F : Nat} {s : ByteArray} (hF : 1000 ≤ F) : M164 F s = some (nameB s) := by
 unfold M164 nameB inR
 by_cases h1 : (s.size : Int) < 1
 ·have h2 : ¬ (1 : Int) ≤ s.size := by omega
  simp [after, h1, h2]
 ·by_cases h2 : 20 < (s.size : Int)
  ·have h3 : ¬ (s.size : Int) ≤ 20 := by omega
   simp [after, h1, h2, h3]
  ·rw [loop_ff (s0 := (0 : Int)) (n := s.size) (F := F) (fun i : Nat => (i : Int)) (bad s) (fun _ => false) (by omega) rfl, LF_all]
   ·have h3 : (s.size : Int) ≤ 20 := by omega
    have h4 : (1 : Int) ≤ s.size := by omega
    simp only [h1, h2, h3, h4]
    cases h : (List.range s.size).any (bad s) <;> simp [after]
   ·intro i hi _
    unfold M164_L0 bad
    obtain ⟨z, hz⟩ := six_some hi
    rw [wr1 (by omega)]
    simp only [hz, Option.bind_some, after_ite, after_brk, after_ret, bind_ite', Int.ofNat_lt, hi, decide_true, if_true, Option.any_some]
    grind
   ·intro _
    unfold M164_L0
    simp
theorem m104 {F : Nat} {s : ByteArray} (hF : 1000 ≤ F) (hs : s.size ≤ 100) : M140 F s = some (nameB s) := by
 unfold M140 nameB inR
 rw [loop_ff (s0 := (0 : Int)) (n := s.size) (F := F) (fun i : Nat => (i : Int)) (bad s) (fun _ => false) (by omega) rfl, LF_all]
 ·cases h : (List.range s.size).any (bad s)
  ·simp only [after_ite, after_brk, after_ret]
   by_cases h1 : (1 : Int) ≤ s.size <;> simp [after_brk, h1]
  ·simp [after]
 ·intro i hi _
  unfold M140_L0 bad
  obtain ⟨z, hz⟩ := six_some hi
  rw [wr1 (by omega)]
  simp only [hz, Option.bind_some, after_ite, after_brk, after_ret, bind_ite', Int.ofNat_lt, hi, decide_true, if_true, Option.any_some]
  grind
 ·intro _
  unfold M140_L0
  simp
def ordB (x y : TPart) : Bool := Op.bytesLess x.Path.toList y.Path.toList || x.Path.toList == y.Path.toList
def partB (x : TPart) : Bool := nameB x.Path && decide (0 ≤ x.Size) && decide (x.Size ≤ 200) && decide (x.Ids.length ≤ 25) && ((x.Ids.length == 0) == (x.Size == 0))
def paB (m : TManifest) (i : Nat) : Bool := match m.Parts[i]? with
 | none => true
 | some x => partB x && (i == 0 || (match m.Parts[i - 1]? with | none => true | some y => !ordB x y))
def manB (m : TManifest) : Bool := nameB m.Name && decide (m.Parts.length ≤ 6) && !(List.range m.Parts.length).any fun i => !paB m i
theorem len0 (n : Nat) : ((n : Int) == 0) = (n == 0) := by
 rw [Bool.eq_iff_iff]; simp
theorem m116 {F : Nat} {x : TPart} (hF : 1000 ≤ F) : M165 F x = some (partB x) := by
 unfold M165 partB
 simp only [m115 hF, Option.bind_some, after_ite, after_brk, len0]
 generalize nameB x.Path = a
 generalize x.Ids.length = n
 by_cases h1 : (n : Int) ≤ 25
 ·have h2 : n ≤ 25 := by omega
  simp only [h1, h2]
  grind
 ·have h2 : ¬ n ≤ 25 := by omega
  simp only [h1, h2]
  grind
theorem m73 {F : Nat} {m : TManifest} (hF : 1000 ≤ F) : M100 F m = some (if manB m then 0 else 1) := by
 unfold M100 manB
 simp only [m115 hF, Option.bind_some, after_ite, after_brk, bind_ite']
 cases hn : nameB m.Name
 ·simp
 ·by_cases hl : 6 < (m.Parts.length : Int)
  ·have : ¬ m.Parts.length ≤ 6 := by omega
   simp [hl, this]
  ·have h6 : m.Parts.length ≤ 6 := by omega
   rw [loop_ff (s0 := (0 : Int)) (n := m.Parts.length) (F := F) (fun i : Nat => (i : Int)) (fun i => !paB m i) (fun _ => 1) (by omega) rfl, LF_all]
   ·simp only [hl, h6]
    cases (List.range m.Parts.length).any fun i => !paB m i <;> simp [after]
   ·intro i hi _
    unfold M100_L0 paB
    have hx : m.Parts[i]? = some m.Parts[i] := List.getElem?_eq_getElem hi
    generalize m.Parts[i] = x at hx
    rw [wr1 (by omega)]
    simp only [ix_nat, hx, m116 hF, Option.bind_some, after_ite, after_brk, after_ret, bind_ite', Int.ofNat_lt, hi, decide_true, if_true]
    by_cases h0 : i = 0
    ·subst h0
     simp
     split <;> rfl
    ·have h5 : m.Parts[i - 1]? = some m.Parts[i - 1] := List.getElem?_eq_getElem (by omega)
     generalize m.Parts[i - 1] = y at h5
     rw [wr_1 (by omega) (by omega)]
     simp only [ix_nat, h5, Option.bind_some, after_brk]
     rw [show (Op.bytesLess x.Path.toList y.Path.toList || x.Path.toList == y.Path.toList) = ordB x y from rfl]
     have h7 : (0 : Int) < i := by omega
     simp only [h7, decide_true, if_true, h0]
     cases partB x <;> cases ordB x y <;> simp [h0]
   ·intro _; unfold M100_L0; simp
theorem m62 {F : Nat} {m : TManifest} (hF : 1000 ≤ F) (hm : m.Name.size ≤ 100) (hp : ∀ p ∈ m.Parts, p.Path.size ≤ 100) : M98 F m = some (manB m) := by
 unfold M98 manB
 simp only [m104 hF hm, Option.bind_some, after_ite, after_brk, bind_ite']
 cases hn : nameB m.Name
 ·simp
 ·by_cases hl : 6 < (m.Parts.length : Int)
  ·have : ¬ m.Parts.length ≤ 6 := by omega
   simp [hl, this]
  ·have h6 : m.Parts.length ≤ 6 := by omega
   rw [loop_ff (s0 := (0 : Int)) (n := m.Parts.length) (F := F) (fun i : Nat => (i : Int)) (fun i => !paB m i) (fun _ => false) (by omega) rfl, LF_all]
   ·simp only [hl, h6]
    cases (List.range m.Parts.length).any fun i => !paB m i <;> simp [after]
   ·intro i hi _
    unfold M98_L0 paB partB
    have hx : m.Parts[i]? = some m.Parts[i] := List.getElem?_eq_getElem hi
    have hpx := hp _ (List.mem_of_getElem? hx)
    generalize m.Parts[i] = x at hx hpx
    rw [wr1 (by omega)]
    simp only [ix_nat, hx, m104 hF hpx, Option.bind_some, after_ite, after_brk, after_ret, bind_ite', Int.ofNat_lt, hi, decide_true, if_true, len0]
    generalize nameB x.Path = a
    generalize x.Ids.length = n
    have hn : (25 < (n : Int)) = (25 < n) := by simp; omega
    simp only [hn]
    by_cases h0 : i = 0
    ·subst h0
     simp
     grind
    ·have h5 : m.Parts[i - 1]? = some m.Parts[i - 1] := List.getElem?_eq_getElem (by omega)
     generalize m.Parts[i - 1] = y at h5
     rw [wr_1 (by omega) (by omega)]
     simp only [ix_nat, h5, Option.bind_some, after_brk]
     rw [show (Op.bytesLess x.Path.toList y.Path.toList || x.Path.toList == y.Path.toList) = ordB x y from rfl]
     have h7 : (0 : Int) < i := by omega
     have h8 : (i == 0) = false := by simpa using h0
     simp only [h7, decide_true, if_true, h8, Bool.false_or]
     generalize ordB x y = o
     generalize ((n == 0) : Bool) = e0
     generalize (x.Size == 0 : Bool) = e1
     have e2 : decide (x.Size < 0) = !decide (0 ≤ x.Size) := by rw [← decide_not]; congr 1; simp
     have e3 : decide (200 < x.Size) = !decide (x.Size ≤ 200) := by rw [← decide_not]; congr 1; simp
     have e4 : decide (25 < n) = !decide (n ≤ 25) := by rw [← decide_not]; congr 1; simp
     rw [e2, e3, e4]
     generalize decide (0 ≤ x.Size) = f2
     generalize decide (x.Size ≤ 200) = f3
     generalize decide (n ≤ 25) = f4
     cases a <;> cases o <;> cases f2 <;> cases f3 <;> cases f4 <;> cases e0 <;> cases e1 <;> rfl
   ·intro _; unfold M98_L0; simp
open Go.Vm
theorem idx_loop {α : Type} {l : List α} (q : α → Bool) {F : Nat} {body : Int → Option (Lp Int Int)} (hF : l.length < F)
    (hb : ∀ i : Nat, i < l.length → body (i : Int) = some (if (l[i]?).any q then .ret (i : Int) else .go ((i + 1 : Nat) : Int))) (he : body (l.length : Int) = some (.brk (l.length : Int))) :
    (after (loopM body F 0) fun _ => some (-1)).bind (fun y => some (decide (0 ≤ y))) = some (l.any q) := by
  rw [loop_ff (s0 := (0 : Int)) (n := l.length) (F := F) (fun i : Nat => (i : Int)) (fun i => (l[i]?).any q) (fun i => (i : Int)) hF rfl (fun i hi _ => hb i hi) (fun _ => he), ← range_any]
  unfold LF
  cases h : (List.range l.length).find? fun i => (l[i]?).any q with
  | none =>
    have : (List.range l.length).any (fun i => (l[i]?).any q) = false := by
      rw [List.any_eq_false]
      exact fun x hx => by simpa using List.find?_eq_none.1 h x hx
    simp [after, this]
  | some i =>
    have : (List.range l.length).any (fun i => (l[i]?).any q) = true := List.any_eq_true.2 ⟨i, List.mem_of_find?_eq_some h, List.find?_some (p := fun i => (l[i]?).any q) h⟩
    simp [after, this]
theorem m89 {F : Nat} {l : List TSnap} {f : TSnap → Option Bool} (q : TSnap → Bool) (hF : l.length < F) (hl : l.length < 1000) (hf : ∀ x ∈ l, f x = some (q x)) : M58 F l f = some (l.any q) := by
 unfold M58 M103
 refine idx_loop q hF (fun i hi => ?_) (by unfold M103_L0; simp)
 unfold M103_L0
 have hx : l[i]? = some l[i] := List.getElem?_eq_getElem hi
 rw [wr1 (by omega)]
 simp only [ix_nat, hx, hf _ (List.getElem_mem hi), Option.bind_some, Int.ofNat_lt, hi, decide_true, if_true, Option.any_some]
 split <;> rfl
theorem m91 {F : Nat} {l : List TPart} {f : TPart → Option Bool} (q : TPart → Bool) (hF : l.length < F) (hl : l.length < 1000) (hf : ∀ x ∈ l, f x = some (q x)) : M60 F l f = some (l.any q) := by
 unfold M60 M109
 refine idx_loop q hF (fun i hi => ?_) (by unfold M109_L0; simp)
 unfold M109_L0
 have hx : l[i]? = some l[i] := List.getElem?_eq_getElem hi
 rw [wr1 (by omega)]
 simp only [ix_nat, hx, hf _ (List.getElem_mem hi), Option.bind_some, Int.ofNat_lt, hi, decide_true, if_true, Option.any_some]
 split <;> rfl
theorem m94 {F : Nat} {l : List TLoc} {f : TLoc → Option Bool} (q : TLoc → Bool) (hF : l.length < F) (hl : l.length < 1000) (hf : ∀ x ∈ l, f x = some (q x)) : M55 F l f = some (l.any q) := by
 unfold M55 M108
 refine idx_loop q hF (fun i hi => ?_) (by unfold M108_L0; simp)
 unfold M108_L0
 have hx : l[i]? = some l[i] := List.getElem?_eq_getElem hi
 rw [wr1 (by omega)]
 simp only [ix_nat, hx, hf _ (List.getElem_mem hi), Option.bind_some, Int.ofNat_lt, hi, decide_true, if_true, Option.any_some]
 split <;> rfl
theorem m93 {F : Nat} {l : List Id32} {d : Id32} (hF : l.length < F) (hl : l.length < 1000) : M62 F l d = some (l.any fun x => decide (d = x)) := by
 unfold M62 M110
 refine idx_loop (fun x => decide (d = x)) hF (fun i hi => ?_) (by unfold M110_L0; simp)
 unfold M110_L0
 have hx : l[i]? = some l[i] := List.getElem?_eq_getElem hi
 rw [wr1 (by omega)]
 simp only [ix_nat, hx, Option.bind_some, Int.ofNat_lt, hi, decide_true, if_true, Option.any_some]
 split <;> rfl
def usedB (c : TCatalog) (d : Id32) : Bool := c.Snaps.any fun s => s.Man.Parts.any fun p => p.Ids.any fun x => decide (d = x)
theorem m44 {F : Nat} {c : TCatalog} {d : Id32} (hF : 1000 ≤ F) (h : Sm c) : M22 F c d = some (usedB c d) := by
 have hs := h.sn
 unfold M22 usedB
 rw [m89 (fun s => s.Man.Parts.any fun p => p.Ids.any fun x => decide (d = x)) (by omega) (by omega)]
 ·rfl
 ·intro s hs'
  obtain ⟨h1, h2, h3⟩ := h.man s hs'
  unfold M59
  rw [m91 (fun p => p.Ids.any fun x => decide (d = x)) (by omega) (by omega)]
  ·rfl
  ·intro p hp
   unfold M61
   rw [m93 (by have := (h3 p hp).2; omega) (by have := (h3 p hp).2; omega)]
   rfl
def exA (c : TCatalog) (i : Nat) : Bool := match c.Exps[i]? with
 | none => true
 | some x => inR x.Seq 0 (c.Seq - 1) && (i == 0 || (match c.Exps[i - 1]? with | none => true | some y => decide (y.Seq < x.Seq))) && inR x.Of 0 (x.Seq - 1) && !(x.Locs.length == 0) && locsB c x.Locs
def exC (c : TCatalog) (i : Nat) : Bool := match c.Exps[i]? with
 | none => true
 | some x => !c.Snaps.any fun s => s.Seq == x.Of
theorem gex {c : TCatalog} (h : Sm c) {i : Nat} {x : TExp} (hx : c.Exps[i]? = some x) : gI x.Seq ∧ gI x.Of := by
 have := h.g.2.2.2.1 x (List.mem_of_getElem? hx)
 exact ⟨this.1, this.2.1⟩
theorem m72_L0 {F : Nat} {c : TCatalog} (hF : 1000 ≤ F) (h : Sm c) (hq : inR c.Seq 0 1073741824 = true) {i : Nat} (hi : i < c.Exps.length) :
    M81_L0 F c i = some (if !(exA c i && exC c i) then .ret false else .go ((i + 1 : Nat) : Int)) := by
  have hc := h.ex
  have hv := h.vo
  have hsn := h.sn
  unfold M81_L0 exA exC
  have hx : c.Exps[i]? = some c.Exps[i] := List.getElem?_eq_getElem hi
  generalize c.Exps[i] = x at hx
  have gx := gex h hx
  have hq' : 0 ≤ c.Seq ∧ c.Seq ≤ 1073741824 := by simpa [inR] using hq
  rw [wr1 (by omega), wr (n := c.Seq - 1) (by omega) (by omega)]
  have hm : M58 F c.Snaps (fun x0 => M138 F x0 x) = some (c.Snaps.any fun s => s.Seq == x.Of) := m89 (fun s => s.Seq == x.Of) (by omega) (by omega) (fun s _ => rfl)
  simp only [ix_nat, hx, hm, m68, m112 hF (show c.Vols.length < 1000 by omega), Option.bind_some, after_ite, after_brk, after_ret, bind_ite', Int.ofNat_lt, hi, decide_true, if_true, len0]
  generalize (x.Locs.length == 0) = nl
  generalize locsB c x.Locs = lb
  generalize (c.Snaps.any fun s => s.Seq == x.Of) = an
  cases h1 : inR x.Seq 0 (c.Seq - 1)
  · simp
  · have h1' : 0 ≤ x.Seq ∧ x.Seq ≤ c.Seq - 1 := by simpa [inR] using h1
    rw [wr (n := x.Seq - 1) (by omega) (by omega)]
    generalize inR x.Of 0 (x.Seq - 1) = ob
    by_cases h0 : i = 0
    · subst h0
      cases nl <;> cases lb <;> cases an <;> cases ob <;> simp
    · have h5 : c.Exps[i - 1]? = some c.Exps[i - 1] := List.getElem?_eq_getElem (by omega)
      generalize c.Exps[i - 1] = y at h5
      rw [wr_1 (by omega) (by omega)]
      have h7 : (0 : Int) < i := by omega
      have h8 : (i == 0) = false := by simpa using h0
      have e4 : decide (x.Seq ≤ y.Seq) = !decide (y.Seq < x.Seq) := by rw [← decide_not]; congr 1; simp
      simp only [ix_nat, h5, h7, h8, e4, Option.bind_some, decide_true, if_true, Bool.false_or]
      generalize decide (y.Seq < x.Seq) = od
      cases nl <;> cases lb <;> cases an <;> cases ob <;> cases od <;> simp [after_ite, after_brk]
def exsB (c : TCatalog) : Bool := !(List.range c.Exps.length).any fun i => !(exA c i && exC c i)
theorem m72 {F : Nat} {c : TCatalog} (hF : 1000 ≤ F) (h : Sm c) (hq : inR c.Seq 0 1073741824 = true) : M81 F c = some (exsB c && decide (c.Exps.length ≤ 200)) := by
 have hc := h.ex
 unfold M81 exsB
 rw [loop_ff (s0 := (0 : Int)) (n := c.Exps.length) (F := F) (fun i : Nat => (i : Int)) (fun i => !(exA c i && exC c i)) (fun _ => false) (by omega) rfl, LF_all]
 ·cases (List.range c.Exps.length).any fun i => !(exA c i && exC c i) <;> simp [after]; omega
 ·exact fun i hi _ => m72_L0 hF h hq hi
 ·intro _; unfold M81_L0; simp
theorem m19_L11 {F : Nat} {c : TCatalog} (hF : 1000 ≤ F) (h : Sm c) {i : Nat} (hi : i < c.Exps.length) :
    M89_L11 F c i = some (if !exA c i then .ret false else .go ((i + 1 : Nat) : Int)) := by
  have hc := h.ex
  have hv := h.vo
  unfold M89_L11 exA inR
  have hx : c.Exps[i]? = some c.Exps[i] := List.getElem?_eq_getElem hi
  generalize c.Exps[i] = x at hx
  rw [wr1 (by omega)]
  simp only [ix_nat, hx, m59, m61 hF (show c.Vols.length < 1000 by omega), Option.bind_some, after_ite, after_brk, after_ret, bind_ite', Int.ofNat_lt, hi, decide_true, if_true, len0]
  generalize (x.Locs.length == 0) = nl
  generalize locsB c x.Locs = lb
  have e1 : decide (x.Seq < 0) = !decide (0 ≤ x.Seq) := by rw [← decide_not]; congr 1; simp
  have e2 : decide (c.Seq ≤ x.Seq) = !decide (x.Seq ≤ c.Seq - 1) := by rw [← decide_not]; congr 1; simp; omega
  have e3 : decide (x.Of < 0) = !decide (0 ≤ x.Of) := by rw [← decide_not]; congr 1; simp
  have e5 : decide (x.Seq ≤ x.Of) = !decide (x.Of ≤ x.Seq - 1) := by rw [← decide_not]; congr 1; simp; omega
  rw [e1, e2, e3, e5]
  generalize decide (0 ≤ x.Seq) = d1
  generalize decide (x.Seq ≤ c.Seq - 1) = d2
  generalize decide (0 ≤ x.Of) = d3
  generalize decide (x.Of ≤ x.Seq - 1) = d5
  by_cases h0 : i = 0
  · subst h0
    cases nl <;> cases lb <;> cases d1 <;> cases d2 <;> cases d3 <;> cases d5 <;> simp
  · have h5 : c.Exps[i - 1]? = some c.Exps[i - 1] := List.getElem?_eq_getElem (by omega)
    generalize c.Exps[i - 1] = y at h5
    rw [wr_1 (by omega) (by omega)]
    have h7 : (0 : Int) < i := by omega
    have h8 : (i == 0) = false := by simpa using h0
    have e4 : decide (x.Seq ≤ y.Seq) = !decide (y.Seq < x.Seq) := by rw [← decide_not]; congr 1; simp
    simp only [ix_nat, h5, h7, h8, e4, Option.bind_some, decide_true, if_true, Bool.false_or]
    generalize decide (y.Seq < x.Seq) = od
    cases nl <;> cases lb <;> cases d1 <;> cases d2 <;> cases d3 <;> cases d5 <;> cases od <;> simp [after_ite, after_brk]
open Go.Vm
theorem half {a b : Nat} (h : a + b < 1000000000) : IntKind.wrap .i64 ((IntKind.wrap .u64 (IntKind.wrap .i64 ((a : Int) + b))).fdiv (2 ^ (min (1 : Int).toNat (IntKind.bits .u64)))) = (((a + b) / 2 : Nat) : Int) := by
 have e1 : IntKind.wrap .i64 ((a : Int) + b) = ((a + b : Nat) : Int) := by rw [wr (by omega) (by omega)]; omega
 have e2 : ∀ n : Nat, n < 1000000000 → IntKind.wrap .u64 (n : Int) = n := by
  intro n hn
  have e : IntKind.wrap .u64 (n : Int) = (n : Int) % 18446744073709551616 := rfl
  rw [e]; omega
 rw [e1, e2 _ h]
 have e3 : (2 : Int) ^ (min (1 : Int).toNat (IntKind.bits .u64)) = 2 := by decide
 rw [e3, Int.fdiv_eq_ediv_of_nonneg _ (by omega), wr (by omega) (by omega)]
 omega
def Ris (l : List TChunk) : Prop := (∀ x ∈ l, gId x.Id) ∧ ∀ (i j : Nat) (x y : TChunk), l[i]? = some x → l[j]? = some y → i < j → ky x.Id < ky y.Id
theorem ris_of {c : TCatalog} (h : Sm c) (hc : chsB c = true) : Ris c.Chunks := by
 refine ⟨fun x hx => (h.g.2.2.1 x hx).1, ?_⟩
 have hs : ∀ i x y, c.Chunks[i]? = some x → c.Chunks[i + 1]? = some y → ky x.Id < ky y.Id := by
  intro i x y hx hy
  have hi : i + 1 < c.Chunks.length := (List.getElem?_eq_some_iff.1 hy).1
  unfold chsB at hc
  simp only [Bool.not_eq_true', List.any_eq_false, List.mem_range] at hc
  have := hc (i + 1) hi
  unfold chB at this
  rw [hy, show i + 1 - 1 = i from rfl, hx] at this
  simp at this
  exact this.1
 intro i j x y hx hy hij
 obtain ⟨k, rfl⟩ : ∃ k, j = i + 1 + k := ⟨j - i - 1, by omega⟩
 clear hij
 induction k generalizing y with
 | zero => exact hs i x y hx hy
 | succ k ih =>
  have hk : i + 1 + k < c.Chunks.length := by have := (List.getElem?_eq_some_iff.1 hy).1; omega
  exact Int.lt_trans (ih _ (List.getElem?_eq_getElem hk)) (hs (i + 1 + k) _ _ (List.getElem?_eq_getElem hk) hy)
theorem bis {F : Nat} {l : List TChunk} {d : Id32} (hr : Ris l) (hd : gId d) (hl : l.length < 1000) : ∀ (G lo hi : Nat), lo ≤ hi → hi ≤ l.length → hi - lo < G →
    (∀ j x, l[j]? = some x → j < lo → ky x.Id < ky d) → (∀ j x, l[j]? = some x → hi ≤ j → ky d ≤ ky x.Id) →
    ∃ p : Nat, p ≤ l.length ∧ loopM (fun s => M171_L0 F l d (fun x0 x1 => M172 F x0 x1) s.1 s.2) G ((lo : Int), (hi : Int)) = some (.brk ((p : Int), (p : Int))) ∧
      (∀ j x, l[j]? = some x → j < p → ky x.Id < ky d) ∧ (∀ j x, l[j]? = some x → p ≤ j → ky d ≤ ky x.Id)
  | 0, _, _, _, _, h, _, _ => by omega
  | G + 1, lo, hi, h1, h2, h3, h4, h5 => by
    unfold loopM M171_L0
    by_cases hlt : lo < hi
    · have hm : (lo + hi) / 2 < l.length := by omega
      have hx : l[(lo + hi) / 2]? = some l[(lo + hi) / 2] := List.getElem?_eq_getElem hm
      generalize l[(lo + hi) / 2] = x at hx
      have gx := hr.1 x (List.mem_of_getElem? hx)
      have e : M172 F x d = some (if ky x.Id < ky d then -1 else if ky d < ky x.Id then 1 else 0) := by unfold M172; rw [m111 F gx hd]; rfl
      simp only [Int.ofNat_lt, hlt, decide_true, if_true, half (show lo + hi < 1000000000 by omega), ix_nat, hx, Option.bind_some, e]
      by_cases hk : ky x.Id < ky d
      · simp only [hk, if_true, show decide ((-1 : Int) < 0) = true from rfl, after_brk]
        rw [wr1 (by omega)]
        exact bis hr hd hl G ((lo + hi) / 2 + 1) hi (by omega) h2 (by omega) (fun j y hy hj => by
          rcases Nat.lt_or_ge j ((lo + hi) / 2) with q | q
          · exact Int.lt_trans (hr.2 _ _ _ _ hy hx q) hk
          · obtain rfl : j = (lo + hi) / 2 := by omega
            rw [hx] at hy; cases hy; exact hk) h5
      · have e2 : decide ((if ky x.Id < ky d then (-1 : Int) else if ky d < ky x.Id then 1 else 0) < 0) = false := by rw [if_neg hk]; split <;> rfl
        simp only [e2, Bool.false_eq_true, if_false, after_brk]
        exact bis hr hd hl G lo ((lo + hi) / 2) (by omega) (by omega) (by omega) h4 (fun j y hy hj => by
          rcases Nat.lt_or_ge ((lo + hi) / 2) j with q | q
          · have := hr.2 _ _ _ _ hx hy q; omega
          · obtain rfl : j = (lo + hi) / 2 := by omega
            rw [hx] at hy; cases hy; omega)
    · obtain rfl : lo = hi := by omega
      refine ⟨lo, h2, ?_, h4, h5⟩
      simp
def hasB (l : List TChunk) (d : Id32) : Bool := l.any fun x => decide (x.Id = d)
theorem m113 {F : Nat} {l : List TChunk} {d : Id32} (hF : 1000 ≤ F) (hr : Ris l) (hd : gId d) (hl : l.length < 1000) : ∃ p : Int, M116 F l d = some (p, hasB l d) := by
 unfold M116 M171
 obtain ⟨p, hp, e, h1, h2⟩ := bis (F := F) hr hd hl F 0 l.length (by omega) (Nat.le_refl _) (by omega) (fun j x _ hj => by omega) (fun j x hx hj => by have := (List.getElem?_eq_some_iff.1 hx).1; omega)
 rw [show ((0 : Int), (l.length : Int)) = (((0 : Nat) : Int), (l.length : Int)) from rfl, e]
 simp only [after_brk]
 refine ⟨p, ?_⟩
 by_cases hlt : p < l.length
 ·have hx : l[p]? = some l[p] := List.getElem?_eq_getElem hlt
  have hmem := List.getElem_mem hlt
  generalize l[p] = x at hx hmem
  have gx := hr.1 x hmem
  have e : M172 F x d = some (if ky x.Id < ky d then -1 else if ky d < ky x.Id then 1 else 0) := by unfold M172; rw [m111 F gx hd]; rfl
  simp only [Int.ofNat_lt, hlt, decide_true, if_true, ix_nat, hx, Option.bind_some, e, after_brk]
  have hge := h2 p x hx (Nat.le_refl _)
  have : hasB l d = ((if ky x.Id < ky d then (-1 : Int) else if ky d < ky x.Id then 1 else 0) == 0) := by
   rw [if_neg (by omega)]
   unfold hasB
   by_cases hk : ky d < ky x.Id
   ·rw [if_pos hk]
    rw [List.any_eq_false.2]
    ·rfl
    intro y hy
    obtain ⟨j, hj, rfl⟩ := List.getElem_of_mem hy
    have hy' : l[j]? = some l[j] := List.getElem?_eq_getElem hj
    simp only [decide_eq_true_eq]
    intro he
    rcases Nat.lt_or_ge j p with q | q
    ·have := h1 j _ hy' q
     rw [he] at this; omega
    ·rcases Nat.lt_or_ge p j with q2 | q2
     ·have := hr.2 _ _ _ _ hx hy' q2
      rw [he] at this; omega
     ·obtain rfl : j = p := by omega
      rw [hy'] at hx; cases hx
      rw [he] at hk; omega
   ·rw [if_neg hk]
    refine List.any_eq_true.2 ⟨x, hmem, ?_⟩
    simp only [decide_eq_true_eq]
    exact ky_inj gx hd (by omega)
  rw [this]
 ·have hn : ¬ ((p : Int) < (l.length : Int)) := by omega
  simp only [hn, decide_false, Bool.false_eq_true, if_false, after_brk, Option.bind_some]
  have : hasB l d = false := by
   unfold hasB
   refine List.any_eq_false.2 fun y hy => ?_
   obtain ⟨j, hj, rfl⟩ := List.getElem_of_mem hy
   have := h1 j _ (List.getElem?_eq_getElem hj) (by omega)
   simp only [decide_eq_true_eq]
   intro he
   rw [he] at this; omega
  rw [this]
theorem loop_br {ρ : Type} {body : Int → Option (Lp Int ρ)} {c : Nat → Bool} {n : Nat} (hb : ∀ i : Nat, i ≤ n → body (i : Int) = some (if c i then .go ((i + 1 : Nat) : Int) else .brk (i : Int))) (hn : c n = false) : ∀ (G k : Nat), k ≤ n → n - k < G →
    ∃ p : Nat, p ≤ n ∧ c p = false ∧ loopM body G (k : Int) = some (.brk (p : Int))
  | 0, _, _, h => by omega
  | G + 1, k, hk, h => by
    unfold loopM
    rw [hb k hk]
    cases hc : c k
    · exact ⟨k, hk, hc, by simp⟩
    · have : k ≠ n := by rintro rfl; rw [hn] at hc; cases hc
      obtain ⟨p, h1, h2, h3⟩ := loop_br hb hn G (k + 1) (by omega) (by omega)
      exact ⟨p, h1, h2, by simpa using h3⟩
theorem loop_inv {S ρ : Type} {body : S → Option (Lp S ρ)} {I : Nat → S → Prop} {n : Nat} (hb : ∀ i s, i < n → I i s → ∃ s', body s = some (.go s') ∧ I (i + 1) s') (he : ∀ s, I n s → body s = some (.brk s)) : ∀ (G k : Nat) (s : S), k ≤ n → n - k < G → I k s →
    ∃ s', I n s' ∧ loopM body G s = some (.brk s')
  | 0, _, _, _, h, _ => by omega
  | G + 1, k, s, hk, h, hi => by
    unfold loopM
    by_cases e : k = n
    · subst e
      rw [he s hi]
      exact ⟨s, hi, rfl⟩
    · obtain ⟨s', h1, h2⟩ := hb k s (by omega) hi
      rw [h1]
      exact loop_inv hb he G (k + 1) s' (by omega) (by omega) h2
theorem m105 {F : Nat} {l : List Id32} {d : Id32} (hF : 1000 ≤ F) (hl : l.length < 600) (gl : ∀ x ∈ l, gId x) (hd : gId d) :
    ∃ r, M106 F l d = some r ∧ (∀ x, x ∈ r.1 ↔ x ∈ l ∨ x = d) ∧ r.1.length ≤ l.length + 1 := by
  unfold M106
  obtain ⟨p, h1, h2, h3⟩ := loop_br (body := M106_L0 F l d) (n := l.length) (c := fun i => (l[i]?).any fun x => decide (ky x < ky d)) (fun i hi => by
    unfold M106_L0
    rw [wr1 (by omega)]
    by_cases hlt : i < l.length
    · have hx : l[i]? = some l[i] := List.getElem?_eq_getElem hlt
      simp only [Int.ofNat_lt, hlt, decide_true, if_true, ix_nat, hx, Option.bind_some, m128 hF (gl _ (List.getElem_mem hlt)) hd, after_brk, Option.any_some]
      split <;> rfl
    · have hx : l[i]? = none := List.getElem?_eq_none (by omega)
      simp [Int.ofNat_lt, hlt, hx, after_brk]) (by simp) F 0 (by omega) (by omega)
  rw [show (0 : Int) = ((0 : Nat) : Int) from rfl, h3]
  simp only [after_brk]
  have hins : (slc l 0 (p : Int)).bind (fun x84 => (app ([] : List Id32) x84).bind fun z86 => (app z86 ([d] : List Id32)).bind fun z92 => (slc l (p : Int) (l).length).bind fun x98 => (app z92 x98).bind fun z100 => some (z100, (p : Int), true))
      = some (l.take p ++ [d] ++ l.drop p, (p : Int), true) := by
    unfold slc
    rw [if_pos (by omega), if_pos (by omega)]
    simp only [Option.bind_some, Int.toNat_natCast]
    rw [app_some (by simp; omega)]
    simp only [Option.bind_some, List.nil_append]
    rw [app_some (by simp; omega)]
    simp only [Option.bind_some]
    rw [app_some (by simp; omega)]
    simp
  have hmem : ∀ x, x ∈ l.take p ++ [d] ++ l.drop p ↔ x ∈ l ∨ x = d := by
    intro x
    simp only [List.mem_append, List.mem_singleton]
    rw [show (x ∈ l ∨ x = d) ↔ ((x ∈ l.take p ∨ x ∈ l.drop p) ∨ x = d) from by rw [← List.mem_append, List.take_append_drop]]
    constructor
    · rintro ((h | h) | h) <;> simp [h]
    · rintro ((h | h) | h) <;> simp [h]
  by_cases hlt : p < l.length
  · have hx : l[p]? = some l[p] := List.getElem?_eq_getElem hlt
    simp only [Int.ofNat_lt, hlt, decide_true, if_true, ix_nat, hx, Option.bind_some, after_brk]
    by_cases he : l[p] = d
    · refine ⟨(l, (p : Int), false), by simp [he], fun x => ?_, by simp⟩
      constructor
      · exact .inl
      · rintro (h | rfl)
        · exact h
        · rw [← he]; exact List.getElem_mem hlt
    · rw [if_neg (by simpa using he)]
      exact ⟨_, hins, hmem, by simp; omega⟩
  · have hn : ¬ ((p : Int) < (l.length : Int)) := by omega
    simp only [hn, decide_false, Bool.false_eq_true, if_false, after_brk]
    exact ⟨_, hins, hmem, by simp; omega⟩
open Go.Vm
theorem toList_inj {a b : ByteArray} (h : a.toList = b.toList) : a = b := Go.WideShapes.bytes_inj (by rwa [Go.Lib.toList_data, Go.Lib.toList_data] at h)
theorem gsn {c : TCatalog} (h : Sm c) {s : TSnap} (hs : s ∈ c.Snaps) : gI s.Seq ∧ ∀ p ∈ s.Man.Parts, ∀ d ∈ p.Ids, gId d := by
 have := h.g.2.1 s hs
 exact ⟨this.1, fun p hp d hd => (this.2.1.2 p hp).2.2 d hd⟩
theorem m63 {F : Nat} {m : TManifest} (hF : 1000 ≤ F) (hp : m.Parts.length ≤ 10) (hi : ∀ p ∈ m.Parts, p.Ids.length ≤ 40) (hg : ∀ p ∈ m.Parts, ∀ d ∈ p.Ids, gId d) :
    ∃ ids, M49 F m = some ids ∧ (∀ x, x ∈ ids ↔ ∃ p ∈ m.Parts, x ∈ p.Ids) ∧ ids.length ≤ 400 := by
  unfold M49
  let I : Nat → List Id32 × Int → Prop := fun i s => s.2 = (i : Int) ∧ s.1.length ≤ 40 * i ∧ ∀ x, x ∈ s.1 ↔ ∃ p ∈ m.Parts.take i, x ∈ p.Ids
  obtain ⟨s, ⟨h1, h2, h3⟩, h4⟩ := loop_inv (body := fun s : List Id32 × Int => M49_L0 F m s.1 s.2) (I := I) (n := m.Parts.length) (fun i s hi' hI => by
      obtain ⟨l, q⟩ := s
      obtain ⟨rfl, hl, hm⟩ := hI
      simp only at hl hm
      have hx : m.Parts[i]? = some m.Parts[i] := List.getElem?_eq_getElem hi'
      have hmem := List.getElem_mem hi'
      have htk : m.Parts.take (i + 1) = m.Parts.take i ++ [m.Parts[i]] := by simp
      generalize m.Parts[i] = p at hx hmem htk
      have hpi := hi p hmem
      have hgp := hg p hmem
      have hgl : ∀ x ∈ l, gId x := fun x hx => by
        obtain ⟨p', hp', hx'⟩ := (hm x).1 hx
        exact hg p' (List.mem_of_mem_take hp') x hx'
      let J : Nat → List Id32 × Int → Prop := fun k s => s.2 = (k : Int) ∧ s.1.length ≤ 40 * i + k ∧ ∀ x, x ∈ s.1 ↔ (x ∈ l ∨ x ∈ p.Ids.take k)
      obtain ⟨t, ⟨j1, j2, j3⟩, j4⟩ := loop_inv (ρ := Lp (List Id32 × Int) (List Id32)) (body := fun s : List Id32 × Int => M49_L2 F m (i : Int) s.1 s.2) (I := J) (n := p.Ids.length) (fun k s hk hJ => by
          obtain ⟨u, q⟩ := s
          obtain ⟨rfl, hu, hv⟩ := hJ
          simp only at hu hv
          have hd : p.Ids[k]? = some p.Ids[k] := List.getElem?_eq_getElem hk
          have hdm := List.getElem_mem hk
          have hdk : p.Ids.take (k + 1) = p.Ids.take k ++ [p.Ids[k]] := by simp
          generalize p.Ids[k] = d at hd hdm hdk
          obtain ⟨r, r1, r2, r3⟩ := m105 (F := F) (l := u) (d := d) hF (by omega) (fun x hx => by
            rcases (hv x).1 hx with q | q
            · exact hgl x q
            · exact hgp x (List.mem_of_mem_take q)) (hgp d hdm)
          refine ⟨(r.1, ((k + 1 : Nat) : Int)), ?_, rfl, by simp only; omega, fun x => ?_⟩
          · unfold M49_L2
            rw [wr1 (by omega)]
            simp only [ix_nat, hx, Option.bind_some, Int.ofNat_lt, hk, decide_true, if_true, hd, r1]
          · simp only [r2, hv, hdk, List.mem_append, List.mem_singleton, or_assoc]) (fun s hs => by
          obtain ⟨u, q⟩ := s
          obtain ⟨rfl, -, -⟩ := hs
          unfold M49_L2
          simp [ix_nat, hx]) F 0 (l, 0) (by omega) (by omega) ⟨rfl, by simp only; omega, by simp⟩
      refine ⟨(t.1, ((i + 1 : Nat) : Int)), ?_, rfl, by simp only; omega, fun x => ?_⟩
      · unfold M49_L0
        rw [wr1 (by omega)]
        simp only [Int.ofNat_lt, hi', decide_true, if_true, j4, after_brk]
      · simp only [j3, hm, htk, List.take_length, List.mem_append, List.mem_singleton]
        constructor
        · rintro (⟨p', hp', hx'⟩ | hx')
          · exact ⟨p', .inl hp', hx'⟩
          · exact ⟨p, .inr rfl, hx'⟩
        · rintro ⟨p', hp' | rfl, hx'⟩
          · exact .inl ⟨p', hp', hx'⟩
          · exact .inr hx') (fun s hs => by
      obtain ⟨u, q⟩ := s
      obtain ⟨rfl, -, -⟩ := hs
      unfold M49_L0
      simp) F 0 ([], 0) (by omega) (by omega) ⟨rfl, by simp, by simp⟩
  rw [h4]
  exact ⟨s.1, by simp only [after_brk], by simpa using h3, by omega⟩
theorem m64 {F : Nat} {c : TCatalog} {d : Id32} (hF : 1000 ≤ F) (hl : c.Chunks.length < 1000) : ∃ n : Int, M88 F c d = some n ∧ (decide (n < 0)) = !hasB c.Chunks d := by
 have := idx_loop (l := c.Chunks) (fun x => decide (x.Id = d)) (F := F) (body := M88_L0 F c d) (by omega) (fun i hi => by
  unfold M88_L0
  have hx : c.Chunks[i]? = some c.Chunks[i] := List.getElem?_eq_getElem hi
  rw [wr1 (by omega)]
  simp only [ix_nat, hx, Option.bind_some, Int.ofNat_lt, hi, decide_true, if_true, Option.any_some]
  split <;> rfl) (by unfold M88_L0; simp)
 rw [show (after (loopM (M88_L0 F c d) F 0) fun _ => some (-1)) = M88 F c d from rfl] at this
 obtain ⟨n, h1, h2⟩ := Option.bind_eq_some_iff.1 this
 refine ⟨n, h1, ?_⟩
 have h3 := Option.some.inj h2
 unfold hasB
 rw [← h3, ← decide_not]
 congr 1
 simp
theorem m50 {F : Nat} {c : TCatalog} {i : Nat} {s : TSnap} (hF : 1000 ≤ F) (hl : c.Snaps.length < 1000) (hs : c.Snaps[i]? = some s) :
    ∃ n : Int, M149 F c s.Man.Name = some n ∧ (n != (i : Int)) = (c.Snaps.take i).any fun y => s.Man.Name == y.Man.Name := by
  have hi : i < c.Snaps.length := (List.getElem?_eq_some_iff.1 hs).1
  have hsi : c.Snaps[i] = s := by have := List.getElem?_eq_getElem hi; rw [hs] at this; exact (Option.some.inj this).symm
  unfold M149
  rw [loop_ff (s0 := (0 : Int)) (n := c.Snaps.length) (F := F) (fun i : Nat => (i : Int)) (fun i => (c.Snaps[i]?).any fun y => y.Man.Name.toList == s.Man.Name.toList) (fun i => (i : Int)) (by omega) rfl]
  · unfold LF
    have hp : ((c.Snaps[i]?).any fun y => y.Man.Name.toList == s.Man.Name.toList) = true := by rw [hs]; simp
    cases h : (List.range c.Snaps.length).find? fun i => (c.Snaps[i]?).any fun y => y.Man.Name.toList == s.Man.Name.toList with
    | none =>
      have := List.find?_eq_none.1 h i (List.mem_range.2 hi)
      exact absurd hp this
    | some k =>
      refine ⟨(k : Int), rfl, ?_⟩
      obtain ⟨hk1, hk2, hk3⟩ := List.find?_range_eq_some.1 h
      rw [Bool.eq_iff_iff]
      simp only [bne_iff_ne, ne_eq, List.any_eq_true]
      have hkl : k < c.Snaps.length := List.mem_range.1 hk2
      rw [List.getElem?_eq_getElem hkl] at hk1
      simp only [Option.any_some, beq_iff_eq] at hk1
      constructor
      · intro hne
        have hki : k < i := by
          rcases Nat.lt_or_ge k i with q | q
          · exact q
          · have := hk3 i (by omega)
            rw [hp] at this; cases this
        refine ⟨c.Snaps[k], ?_, ?_⟩
        · rw [List.mem_take_iff_getElem]
          exact ⟨k, by omega, rfl⟩
        · exact (bytes_beq _ _).2 (toList_inj hk1.symm)
      · rintro ⟨y, hy, he⟩ hc
        rw [List.mem_take_iff_getElem] at hy
        obtain ⟨j, hj, rfl⟩ := hy
        have := hk3 j (by omega)
        rw [List.getElem?_eq_getElem (by omega)] at this
        rw [(bytes_beq _ _).1 he] at this
        simp at this
  · intro j hj _
    unfold M149_L0
    have hx : c.Snaps[j]? = some c.Snaps[j] := List.getElem?_eq_getElem hj
    rw [wr1 (by omega)]
    simp only [ix_nat, hx, Option.bind_some, Int.ofNat_lt, hj, decide_true, if_true, Option.any_some]
    split <;> rfl
  · intro _; unfold M149_L0; simp
def plB (c : TCatalog) (m : TManifest) : Bool := m.Parts.all fun p => p.Ids.all fun d => hasB c.Chunks d
def snB (c : TCatalog) (i : Nat) : Bool := match c.Snaps[i]? with
 | none => true
 | some s => inR s.Seq 0 (c.Seq - 1) && (i == 0 || (match c.Snaps[i - 1]? with | none => true | some y => decide (y.Seq < s.Seq))) && !((c.Snaps.take i).any fun y => s.Man.Name == y.Man.Name) && manB s.Man && locsB c s.Locs
def snC (c : TCatalog) (i : Nat) : Bool := match c.Snaps[i]? with
 | none => true
 | some s => plB c s.Man
def snX (c : TCatalog) (i : Nat) : Bool := match c.Snaps[i]? with
 | none => true
 | some s => !c.Exps.any fun x => x.Of == s.Seq
def nmz (c : TCatalog) (i : Nat) : List ByteArray := (c.Snaps.take i).foldl (fun l s => madd l s.Man.Name) []
theorem nmz_any (c : TCatalog) (x : ByteArray) : ∀ i, ((nmz c i).any fun z => x == z) = (c.Snaps.take i).any fun y => x == y.Man.Name := by
 have : ∀ (l : List TSnap) (acc : List ByteArray), ((l.foldl (fun l s => madd l s.Man.Name) acc).any fun z => x == z) = ((acc.any fun z => x == z) || l.any fun y => x == y.Man.Name) := by
  intro l
  induction l with
  | nil => simp
  | cons s l ih =>
   intro acc
   rw [List.foldl_cons, ih, List.any_cons, ← Bool.or_assoc]
   congr 1
   unfold madd
   split
   ·rename_i h
    rw [Bool.eq_iff_iff]
    simp only [Bool.or_eq_true, List.any_eq_true] at h ⊢
    constructor
    ·exact .inl
    ·rintro (q | q)
     ·exact q
     ·obtain ⟨y, hy, he⟩ := h
      rw [(bytes_beq _ _).1 q, (bytes_beq _ _).1 he]
      exact ⟨y, hy, (bytes_beq _ _).2 rfl⟩
   ·simp
 intro i
 rw [nmz, this]
 simp
open Go.Vm
theorem m71_in {F : Nat} {c : TCatalog} {s : TSnap} (hF : 1000 ≤ F) (h : Sm c) (hr : Ris c.Chunks) (hs : s ∈ c.Snaps) :
    loopM (fun q => M80_L2 F c s q) F 0 = some (if !plB c s.Man then .ret (.ret false) else .brk (s.Man.Parts.length : Int)) := by
  obtain ⟨-, h2, h3⟩ := h.man s hs
  have hg := (gsn h hs).2
  have hc := h.ch
  rw [loop_ff (s0 := (0 : Int)) (n := s.Man.Parts.length) (F := F) (fun i : Nat => (i : Int)) (fun i => (s.Man.Parts[i]?).any fun p => !p.Ids.all fun d => hasB c.Chunks d) (fun _ => .ret false) (by omega) rfl, LF_all, range_any, all_any]
  · rfl
  · intro i hi _
    unfold M80_L2
    have hx : s.Man.Parts[i]? = some s.Man.Parts[i] := List.getElem?_eq_getElem hi
    have hm := List.getElem_mem hi
    generalize s.Man.Parts[i] = p at hx hm
    have h4 := (h3 p hm).2
    rw [wr1 (by omega)]
    simp only [ix_nat, hx, Option.bind_some, Int.ofNat_lt, hi, decide_true, if_true, Option.any_some]
    rw [loop_ff (s0 := (0 : Int)) (n := p.Ids.length) (F := F) (fun i : Nat => (i : Int)) (fun i => (p.Ids[i]?).any fun d => !hasB c.Chunks d) (fun _ => .ret (.ret false)) (by omega) rfl, LF_all, range_any, all_any]
    · cases p.Ids.all fun d => hasB c.Chunks d <;> simp [after]
    · intro k hk _
      unfold M80_L4
      have hd : p.Ids[k]? = some p.Ids[k] := List.getElem?_eq_getElem hk
      have hdm := List.getElem_mem hk
      generalize p.Ids[k] = d at hd hdm
      obtain ⟨z, hz⟩ := m113 (F := F) (l := c.Chunks) (d := d) hF hr (hg p hm d hdm) (by omega)
      rw [wr1 (by omega)]
      simp only [ix_nat, hd, Option.bind_some, Int.ofNat_lt, hk, decide_true, if_true, Option.any_some, hz]
      split <;> rfl
    · intro _; unfold M80_L4; simp
  · intro _; unfold M80_L2; simp
theorem nmz_succ {c : TCatalog} {i : Nat} {s : TSnap} (hx : c.Snaps[i]? = some s) : nmz c (i + 1) = madd (nmz c i) s.Man.Name := by
 unfold nmz
 have hi := (List.getElem?_eq_some_iff.1 hx)
 obtain ⟨hi, rfl⟩ := hi
 rw [List.take_succ_eq_append_getElem hi, List.foldl_append]
 rfl
theorem m71_L0 {F : Nat} {c : TCatalog} (hF : 1000 ≤ F) (h : Sm c) (hr : Ris c.Chunks) (hq : inR c.Seq 0 1073741824 = true) {i : Nat} (hi : i < c.Snaps.length) :
    M80_L0 F c (nmz c i) i = some (if !(snB c i && snC c i) then .ret false else .go (nmz c (i + 1), ((i + 1 : Nat) : Int))) := by
  have hv := h.vo
  have hsn := h.sn
  have hq' : 0 ≤ c.Seq ∧ c.Seq ≤ 1073741824 := by simpa [inR] using hq
  unfold M80_L0 snB snC
  have hx : c.Snaps[i]? = some c.Snaps[i] := List.getElem?_eq_getElem hi
  have hm := List.getElem_mem hi
  generalize c.Snaps[i] = x at hx hm
  rw [wr1 (by omega), wr (n := c.Seq - 1) (by omega) (by omega), nmz_succ hx]
  simp only [ix_nat, hx, m68, m73 hF, m112 hF (show c.Vols.length < 1000 by omega), Option.bind_some, after_ite, after_brk, after_ret, bind_ite', Int.ofNat_lt, hi, decide_true, if_true, nmz_any, m71_in hF h hr hm]
  generalize ((c.Snaps.take i).any fun y => x.Man.Name == y.Man.Name) = nb
  generalize locsB c x.Locs = lb
  generalize plB c x.Man = pb
  have e1 : ((if manB x.Man = true then (0 : Int) else 1) != 0) = !manB x.Man := by cases manB x.Man <;> rfl
  rw [e1]
  generalize manB x.Man = mb
  generalize inR x.Seq 0 (c.Seq - 1) = ib
  by_cases h0 : i = 0
  · subst h0
    cases nb <;> cases lb <;> cases pb <;> cases mb <;> cases ib <;> simp [after_brk, after_ret]
  · have h5 : c.Snaps[i - 1]? = some c.Snaps[i - 1] := List.getElem?_eq_getElem (by omega)
    generalize c.Snaps[i - 1] = y at h5
    rw [wr_1 (by omega) (by omega)]
    have h7 : (0 : Int) < i := by omega
    have h8 : (i == 0) = false := by simpa using h0
    have e4 : decide (x.Seq ≤ y.Seq) = !decide (y.Seq < x.Seq) := by rw [← decide_not]; congr 1; simp
    simp only [ix_nat, h5, h7, h8, e4, Option.bind_some, decide_true, if_true, Bool.false_or]
    generalize decide (y.Seq < x.Seq) = od
    cases nb <;> cases lb <;> cases pb <;> cases mb <;> cases ib <;> cases od <;> simp [after_brk, after_ret]
def snsB (c : TCatalog) : Bool := !(List.range c.Snaps.length).any fun i => !(snB c i && snC c i)
theorem m71 {F : Nat} {c : TCatalog} (hF : 1000 ≤ F) (h : Sm c) (hr : Ris c.Chunks) (hq : inR c.Seq 0 1073741824 = true) : M80 F c = some (snsB c && decide (c.Snaps.length ≤ 8)) := by
 have hc := h.sn
 unfold M80 snsB
 rw [loop_ff (s0 := (([] : List ByteArray), (0 : Int))) (n := c.Snaps.length) (F := F) (fun i : Nat => (nmz c i, (i : Int))) (fun i => !(snB c i && snC c i)) (fun _ => false) (by omega) rfl, LF_all]
 ·cases (List.range c.Snaps.length).any fun i => !(snB c i && snC c i) <;> simp [after]; omega
 ·exact fun i hi _ => m71_L0 hF h hr hq hi
 ·intro _; unfold M80_L0; simp
theorem m19_L5 {F : Nat} {c : TCatalog} (hF : 1000 ≤ F) (h : Sm c) {i : Nat} (hi : i < c.Snaps.length) :
    M89_L5 F c i = some (if !(snB c i && snC c i && snX c i) then .ret false else .go ((i + 1 : Nat) : Int)) := by
  have hv := h.vo
  have hsn := h.sn
  have hch := h.ch
  have hex := h.ex
  unfold M89_L5 snB snC snX inR
  have hx : c.Snaps[i]? = some c.Snaps[i] := List.getElem?_eq_getElem hi
  have hm := List.getElem_mem hi
  generalize c.Snaps[i] = x at hx hm
  obtain ⟨k1, k2, k3⟩ := h.man x hm
  obtain ⟨ids, i1, i2, i3⟩ := m63 (F := F) (m := x.Man) hF k2 (fun p hp => (k3 p hp).2) (gsn h hm).2
  obtain ⟨n, n1, n2⟩ := m50 (F := F) hF (by omega) hx
  rw [wr1 (by omega)]
  have l7 : loopM (fun s => M89_L7 F c ids s) F 0 = some (if !plB c x.Man then .ret (.ret false) else .brk (ids.length : Int)) := by
    rw [loop_ff (s0 := (0 : Int)) (n := ids.length) (F := F) (fun i : Nat => (i : Int)) (fun i => (ids[i]?).any fun d => !hasB c.Chunks d) (fun _ => .ret false) (by omega) rfl, LF_all, range_any, all_any]
    · have : plB c x.Man = ids.all fun d => hasB c.Chunks d := by
        rw [Bool.eq_iff_iff]
        simp only [plB, List.all_eq_true]
        constructor
        · intro q d hd
          obtain ⟨p, hp, hd'⟩ := (i2 d).1 hd
          exact q p hp d hd'
        · intro q p hp d hd
          exact q d ((i2 d).2 ⟨p, hp, hd⟩)
      rw [this]
    · intro k hk _
      unfold M89_L7
      have hd : ids[k]? = some ids[k] := List.getElem?_eq_getElem hk
      generalize ids[k] = d at hd
      obtain ⟨z, hz, hz2⟩ := m64 (F := F) (c := c) (d := d) hF (by omega)
      rw [wr1 (by omega)]
      simp only [ix_nat, hd, Option.bind_some, Int.ofNat_lt, hk, decide_true, if_true, Option.any_some, hz, hz2]
      split <;> rfl
    · intro _; unfold M89_L7; simp
  have l9 : loopM (fun s => M89_L9 F c x s) F 0 = some (if c.Exps.any fun y => y.Of == x.Seq then .ret (.ret false) else .brk (c.Exps.length : Int)) := by
    rw [loop_ff (s0 := (0 : Int)) (n := c.Exps.length) (F := F) (fun i : Nat => (i : Int)) (fun i => (c.Exps[i]?).any fun y => y.Of == x.Seq) (fun _ => .ret false) (by omega) rfl, LF_all, range_any]
    · intro k hk _
      unfold M89_L9
      have hd : c.Exps[k]? = some c.Exps[k] := List.getElem?_eq_getElem hk
      rw [wr1 (by omega)]
      simp only [ix_nat, hd, Option.bind_some, Int.ofNat_lt, hk, decide_true, if_true, Option.any_some]
      split <;> rfl
    · intro _; unfold M89_L9; simp
  simp only [ix_nat, hx, m62 hF k1 (fun p hp => (k3 p hp).1), m61 hF (show c.Vols.length < 1000 by omega), n1, n2, i1, l7, l9, Option.bind_some, after_ite, after_brk, after_ret, bind_ite', Int.ofNat_lt, hi, decide_true, if_true]
  generalize ((c.Snaps.take i).any fun y => x.Man.Name == y.Man.Name) = nb
  generalize locsB c x.Locs = lb
  generalize plB c x.Man = pb
  generalize (c.Exps.any fun y => y.Of == x.Seq) = xb
  generalize manB x.Man = mb
  have e1 : decide (x.Seq < 0) = !decide (0 ≤ x.Seq) := by rw [← decide_not]; congr 1; simp
  have e2 : decide (c.Seq ≤ x.Seq) = !decide (x.Seq ≤ c.Seq - 1) := by rw [← decide_not]; congr 1; simp; omega
  rw [e1, e2]
  generalize decide (0 ≤ x.Seq) = d1
  generalize decide (x.Seq ≤ c.Seq - 1) = d2
  by_cases h0 : i = 0
  · subst h0
    cases nb <;> cases lb <;> cases pb <;> cases mb <;> cases d1 <;> cases d2 <;> cases xb <;> simp [after_brk, after_ret]
  · have h5 : c.Snaps[i - 1]? = some c.Snaps[i - 1] := List.getElem?_eq_getElem (by omega)
    generalize c.Snaps[i - 1] = y at h5
    rw [wr_1 (by omega) (by omega)]
    have h7 : (0 : Int) < i := by omega
    have h8 : (i == 0) = false := by simpa using h0
    have e4 : decide (x.Seq ≤ y.Seq) = !decide (y.Seq < x.Seq) := by rw [← decide_not]; congr 1; simp
    simp only [ix_nat, h5, h7, h8, e4, Option.bind_some, decide_true, if_true, Bool.false_or]
    generalize decide (y.Seq < x.Seq) = od
    cases nb <;> cases lb <;> cases pb <;> cases mb <;> cases d1 <;> cases d2 <;> cases xb <;> cases od <;> simp [after_brk, after_ret]
def good (c : TCatalog) : Bool := inR c.Seq 0 1073741824 && (c.Vols.all volB && inR c.Vols.length 1 8) && (chsB c && decide (c.Chunks.length ≤ 200)) && (snsB c && decide (c.Snaps.length ≤ 8)) && (exsB c && decide (c.Exps.length ≤ 200))
theorem m33 {F : Nat} {c : TCatalog} (hF : 1000 ≤ F) (h : Sm c) : M31 F c = some (if good c then 0 else 1) := by
 have hv := h.vo
 unfold M31 good
 simp only [m68, m69 hF hv, m70 hF h, Option.bind_some, after_ite, after_brk, bind_ite']
 cases hq : inR c.Seq 0 1073741824
 ·simp
 ·cases hv' : (c.Vols.all volB && inR c.Vols.length 1 8)
  ·simp
  ·cases hc : chsB c
   ·simp
   ·have hr := ris_of h hc
    simp only [m71 hF h hr hq, m72 hF h hq, Option.bind_some, bind_ite', after_ite, after_brk]
    generalize decide (c.Chunks.length ≤ 200) = a
    generalize (snsB c && decide (c.Snaps.length ≤ 8)) = b
    generalize (exsB c && decide (c.Exps.length ≤ 200)) = d
    cases a <;> cases b <;> cases d <;> simp
theorem range_any_or {n : Nat} (p q : Nat → Bool) : ((List.range n).any fun i => !(p i && q i)) = (((List.range n).any fun i => !p i) || (List.range n).any fun i => !q i) := by
 rw [Bool.eq_iff_iff]
 simp only [Bool.or_eq_true, List.any_eq_true, Bool.not_eq_true', Bool.and_eq_false_iff]
 constructor
 ·rintro ⟨i, hi, q | q⟩
  ·exact .inl ⟨i, hi, q⟩
  ·exact .inr ⟨i, hi, q⟩
 ·rintro (⟨i, hi, q⟩ | ⟨i, hi, q⟩)
  ·exact ⟨i, hi, .inl q⟩
  ·exact ⟨i, hi, .inr q⟩
theorem cross (c : TCatalog) : ((List.range c.Snaps.length).any fun i => !snX c i) = (List.range c.Exps.length).any fun i => !exC c i := by
 have h1 : ((List.range c.Snaps.length).any fun i => !snX c i) = c.Snaps.any fun s => c.Exps.any fun x => x.Of == s.Seq := by
  refine Eq.trans ?_ (range_any c.Snaps _)
  congr 1
  funext i
  unfold snX
  cases c.Snaps[i]? <;> simp
 have h2 : ((List.range c.Exps.length).any fun i => !exC c i) = c.Exps.any fun x => c.Snaps.any fun s => s.Seq == x.Of := by
  refine Eq.trans ?_ (range_any c.Exps _)
  congr 1
  funext i
  unfold exC
  cases c.Exps[i]? <;> simp
 rw [h1, h2, Bool.eq_iff_iff]
 simp only [List.any_eq_true, beq_iff_eq]
 constructor
 ·rintro ⟨s, hs, x, hx, e⟩; exact ⟨x, hx, s, hs, e.symm⟩
 ·rintro ⟨x, hx, s, hs, e⟩; exact ⟨s, hs, x, hx, e.symm⟩
theorem m19 {F : Nat} {c : TCatalog} (hF : 1000 ≤ F) (h : Sm c) : M89 F c = some (good c) := by
 have hv := h.vo
 have hsn := h.sn
 have hch := h.ch
 have hex := h.ex
 have l0 : loopM (fun s => M89_L0 F c s) F 0 = some (if !c.Vols.all volB then .ret false else .brk (c.Vols.length : Int)) := by
  rw [loop_ff (s0 := (0 : Int)) (n := c.Vols.length) (F := F) (fun i : Nat => (i : Int)) (fun i => (c.Vols[i]?).any fun v => !volB v) (fun _ => false) (by omega) rfl, LF_all, range_any, all_any]
  ·exact fun i hi _ => m19_L0 hF h hi
  ·intro _; unfold M89_L0; simp
 have l3 : loopM (fun s => M89_L3 F c s) F 0 = some (if !chsB c then .ret false else .brk (c.Chunks.length : Int)) := by
  rw [loop_ff (s0 := (0 : Int)) (n := c.Chunks.length) (F := F) (fun i : Nat => (i : Int)) (fun i => !chB c i) (fun _ => false) (by omega) rfl, LF_all]
  ·unfold chsB; rw [Bool.not_not]
  ·exact fun i hi _ => m19_L3 hF h hi
  ·intro _; unfold M89_L3; simp
 have l5 : loopM (fun s => M89_L5 F c s) F 0 = some (if (List.range c.Snaps.length).any fun i => !(snB c i && snC c i && snX c i) then .ret false else .brk (c.Snaps.length : Int)) := by
  rw [loop_ff (s0 := (0 : Int)) (n := c.Snaps.length) (F := F) (fun i : Nat => (i : Int)) (fun i => !(snB c i && snC c i && snX c i)) (fun _ => false) (by omega) rfl, LF_all]
  ·exact fun i hi _ => m19_L5 hF h hi
  ·intro _; unfold M89_L5; simp
 have l11 : loopM (fun s => M89_L11 F c s) F 0 = some (if (List.range c.Exps.length).any fun i => !exA c i then .ret false else .brk (c.Exps.length : Int)) := by
  rw [loop_ff (s0 := (0 : Int)) (n := c.Exps.length) (F := F) (fun i : Nat => (i : Int)) (fun i => !exA c i) (fun _ => false) (by omega) rfl, LF_all]
  ·exact fun i hi _ => m19_L11 hF h hi
  ·intro _; unfold M89_L11; simp
 have hs : snsB c = !(List.range c.Snaps.length).any fun i => !(snB c i && snC c i) := rfl
 have he : exsB c = !(((List.range c.Exps.length).any fun i => !exA c i) || (List.range c.Exps.length).any fun i => !exC c i) := by unfold exsB; rw [range_any_or]
 unfold M89 good
 rw [range_any_or (fun i => snB c i && snC c i) (snX c), cross] at l5
 simp only [m59, l0, l3, l5, l11, hs, he, Option.bind_some, after_ite, after_brk, bind_ite']
 generalize ((List.range c.Snaps.length).any fun i => !(snB c i && snC c i)) = a1
 generalize ((List.range c.Exps.length).any fun i => !exA c i) = a2
 generalize ((List.range c.Exps.length).any fun i => !exC c i) = a3
 generalize c.Vols.all volB = a4
 generalize chsB c = a5
 generalize inR c.Seq 0 1073741824 = a6
 generalize inR c.Vols.length 1 8 = a7
 have f1 : decide (8 < (c.Snaps.length : Int)) = !decide (c.Snaps.length ≤ 8) := by rw [← decide_not]; congr 1; simp; omega
 have f2 : decide (200 < (c.Chunks.length : Int)) = !decide (c.Chunks.length ≤ 200) := by rw [← decide_not]; congr 1; simp; omega
 have f3 : decide (200 < (c.Exps.length : Int)) = !decide (c.Exps.length ≤ 200) := by rw [← decide_not]; congr 1; simp; omega
 rw [f1, f2, f3]
 generalize decide (c.Snaps.length ≤ 8) = b1
 generalize decide (c.Chunks.length ≤ 200) = b2
 generalize decide (c.Exps.length ≤ 200) = b3
 cases a6 <;> cases b1 <;> cases b2 <;> cases b3 <;> cases a7 <;> cases a4 <;> cases a5 <;> cases a1 <;> cases a2 <;> cases a3 <;> rfl
open Go.Vm
def M151 (fuel : Nat) (p0 : List TLoc) : Option ((List TLoc)) :=
 (app ([] : List TLoc) p0).bind fun z4 => some z4
set_option maxHeartbeats 4000000 in
set_option maxRecDepth 100000 in
theorem W151 {fuel : Nat} {p0 : List TLoc} {o : (List TLoc)} (h : Heap) (hm : M151 fuel p0 = some o) :
 ACalls Tryz.prog 151 [.sl none 4 (List.map c_Loc p0)] h (fun r h' => r = .sl none 4 (List.map c_Loc o) ∧ h' = h) := by
 refine ACv 7 [.tmp 2] Tryz.func151 rfl rfl rfl rfl ?_
 unfold M151 at hm
 refine v (v (v ?_))
 obtain ⟨z4, hz5, hm⟩ := Zc hm
 refine ve fun hk => a_app0 (c := c_Loc) hz5 et42 rfl rfl hk nofun rfl fun tg6 ot7 hk8 => qk hk8 rfl ?_
 refine v ?_
 injection hm with hm; subst hm
 exact vr fun hk => Ret.of1 (.inl rfl) (rsT _ _ (ow _ _ _) rfl) (hp_sub (List.nil_sublist _) hk).1 ((own_frz0 _ 0 ot7 hk rfl)) ⟨rfl, rfl⟩
theorem bd151 : bodied Tryz.prog 151 = true := by kernel_rfl
def M141 (fuel : Nat) (p0 : List Int) : Option ((List Int)) :=
 (app ([] : List Int) p0).bind fun z4 => some z4
set_option maxHeartbeats 4000000 in
set_option maxRecDepth 100000 in
theorem W141 {fuel : Nat} {p0 : List Int} {o : (List Int)} (h : Heap) (hm : M141 fuel p0 = some o) :
 ACalls Tryz.prog 141 [.sl none 1 (List.map c_u8 p0)] h (fun r h' => r = .sl none 1 (List.map c_u8 o) ∧ h' = h) := by
 refine ACv 7 [.tmp 2] Tryz.func141 rfl rfl rfl rfl ?_
 unfold M141 at hm
 refine v (v (v ?_))
 obtain ⟨z4, hz5, hm⟩ := Zc hm
 refine ve fun hk => a_app0 (c := c_u8) hz5 et41 rfl rfl hk nofun rfl fun tg6 ot7 hk8 => qk hk8 rfl ?_
 refine v ?_
 injection hm with hm; subst hm
 exact vr fun hk => Ret.of1 (.inl rfl) (rsT _ _ (ow _ _ _) rfl) (hp_sub (List.nil_sublist _) hk).1 ((own_frz0 _ 0 ot7 hk rfl)) ⟨rfl, rfl⟩
theorem bd141 : bodied Tryz.prog 141 = true := by kernel_rfl
def M150_L0 (fuel : Nat) (p0 : TManifest) (q0 : List TPart) (q1 : Int) : Option (Lp ((List TPart) × Int) (TManifest)) :=
 if (decide (q1 < (p0.Parts.length : Int))) = true then ((ix p0.Parts q1).bind fun x0 => (app ([] : List Id32) x0.Ids).bind fun z0 => (app q0 ([({ Path := x0.Path, Size := x0.Size, Ids := z0 } : TPart)] : List TPart)).bind fun z1 => some (.go (z1, IntKind.wrap .i64 (q1 + 1)))) else some (.brk (q0, q1))
def M150 (fuel : Nat) (p0 : TManifest) : Option (TManifest) :=
 after (loopM (fun s => M150_L0 fuel p0 s.1 s.2) fuel ([], 0)) fun ⟨r0, r1⟩ => some ({ Name := p0.Name, Parts := r0 } : TManifest)
set_option maxHeartbeats 4000000 in
set_option maxRecDepth 100000 in
theorem W150 {fuel : Nat} {p0 : TManifest} {o : TManifest} (h : Heap) (hm : M150 fuel p0 = some o) :
 ACalls Tryz.prog 150 [.agg (c_Manifest p0)] h (fun r h' => r = .agg (c_Manifest o) ∧ h' = h) := by
 refine ACv 31 [.cell 2 58] Tryz.func150 rfl rfl rfl rfl ?_
 unfold M150 at hm
 refine v ?_
 refine ve fun hk => a_box hk rfl rfl fun k2 hk3 => qk hk3 rfl ?_
 refine ve fun hk => a_alloc ([.sc (.string ByteArray.empty), .sc (.slice none 0 0)]) hk zr58 rfl rfl fun k5 hk6 => qk hk6 rfl ?_
 refine v (v (vle (lno (.tok 70 3 (([] : List TPart).length * 3)) 3 (ow none 3 (List.map c_Part [])) (ow_nil _ _)) ?_))
 refine vlp hm (σ := (List TPart) × Int) (τ := Option Key) (fun g s => [(g, .tok 70 3 ((s.1 : List TPart).length * 3)), (some k5, .obj 58 ([.sc (.string ByteArray.empty), .sc (.slice none 0 0)])), (some k2, .obj 58 (c_Manifest p0))]) (fun g s => (g = none → s.1 = [])) (fun g s => .c 1 (.ptr k2 0) (.c 2 (.ptr k5 0) (.c 3 (ow g 3 (List.map c_Part s.1)) (.c 4 (.sc (.int .i64 s.2)) .nil)))) none (fun _ => rfl) (lx (.k4 .nil)) ?_ ?_
 rintro tg0 ⟨q0, q1⟩ x ot0 hm
 replace hm : M150_L0 fuel p0 q0 q1 = some x := hm
 unfold M150_L0 at hm
 refine v (vl 2 _ ld56 rfl rfl rfl (vln ln56 rfl (v ?_)))
 refine vi hm (fun hc0 hm => ?_) fun hc0 hm => ?_
 refine v (v (v (vl 2 _ ld56 rfl rfl rfl ?_)))
 refine vx hm el56 rfl rfl fun x0 _ hm => ?_
 refine va (.agg (c_Part x0)) ld70 rfl rfl ?_
 refine ve fun hk => a_alloc ([.sc (.string ByteArray.empty), .sc (.int .i64 0), .sc (.slice none 0 0)]) hk zr70 rfl rfl fun k103 hk0 => qk hk0 rfl ?_
 refine ve fun hk => a_store 0 (c_Part x0) hk rfl rfl rfl rfl sz70 rfl rfl fun hk1 => qk hk1 rfl ?_
 refine v (v (vl 0 _ ld68 rfl rfl rfl ?_))
 obtain ⟨z0, hz0, hm⟩ := Zc hm
 refine ve fun hk => a_app0 (c := c_id) hz0 et68 rfl rfl hk nofun rfl fun tg1 ot1 hk2 => qk hk2 rfl ?_
 refine ve fun hk => a_store 1 ([.sc (.string x0.Path), .sc (.int .i64 x0.Size), ow tg1 32 (List.map c_id z0)]) hk rfl rfl (cellsOf_ow rfl) (all_ow _ _ _) sz68 rfl rfl fun hk4 => qk hk4 rfl ?_
 refine v (vl 1 (.agg ([.sc (.string x0.Path), .sc (.int .i64 x0.Size), ow tg1 32 (List.map c_id z0)])) ld70 rfl rfl rfl ?_)
 refine ve fun hk => AOp_sfz (t := 25) (.agg (c_Part ({ Path := x0.Path, Size := x0.Size, Ids := z0 } : TPart))) (hp_sub (.cons _ (.refl _)) hk).1 (ALe.agg (.k2 (.cons (own_frzE _ 0 ot1 hk rfl (.refl _)) .nil))) (a_v (o_lit (List.map c_Part ([({ Path := x0.Path, Size := x0.Size, Ids := z0 } : TPart)] : List TPart)) et56 rfl rfl rfl rfl) (qk ((hp_sub (.cons _ (.refl _)) hk).2) rfl ?_))
 obtain ⟨z1, hz1, hm⟩ := Zc hm
 refine ve fun hk => a_app (c := c_Part) 1 hz1 et56 rfl rfl rfl ot0 hk rfl fun tg2 ot2 hk5 => qk hk5 rfl ?_
 refine v ?_
 exact vgo hm tg2 ot2 (lxs [1, 2, 3] rfl rfl (.k4 .nil))
 refine v ?_
 exact vbk hm tg0 ot0 (lx (.k4 .nil))
 rintro tg3 ⟨r0, r1⟩ ot3 hm
 refine v ?_
 refine ve fun hk => a_store 2 ([.sc (.string p0.Name), ow tg3 3 (List.map c_Part r0)]) hk rfl rfl (cellsOf_ow rfl) (all_ow _ _ _) sz56 rfl rfl fun hk7 => qk hk7 rfl ?_
 refine v (vl 2 (.agg ([.sc (.string p0.Name), ow tg3 3 (List.map c_Part r0)])) ld58 rfl rfl rfl ?_)
 refine ve fun hk => a_store 1 ([.sc (.string p0.Name), ow tg3 3 (List.map c_Part r0)]) hk rfl rfl rfl (by repeat (first | exact rfl | refine all_c (ocell_ow _ _ _) ?_ | refine all_c (ocell_aw _ _ _) ?_ | refine all_c rfl ?_)) sz58 rfl rfl fun hk8 => qk hk8 rfl ?_
 refine v ?_
 cases hm
 exact vr fun hk => Ret.of1 (.inl rfl) (rsC (.agg ([.sc (.string p0.Name), ow tg3 3 (List.map c_Part r0)])) ld58 rfl (Zd 1 hk rfl) rfl) (hp_sub (List.nil_sublist _) hk).1 (ALe.agg (.cons (ALe.refl _ _) (.cons ((own_frz0 _ 0 ot3 hk rfl)) .nil))) ⟨rfl, rfl⟩
theorem bd150 : bodied Tryz.prog 150 = true := by kernel_rfl
def M152_L0 (fuel : Nat) (p0 : List TChunk) (q0 : List TChunk) (q1 : Int) : Option (Lp ((List TChunk) × Int) ((List TChunk))) :=
 if (decide (q1 < (p0.length : Int))) = true then ((ix p0 q1).bind fun x0 => (M141 fuel x0.Data).bind fun y0 => (M151 fuel x0.Locs).bind fun y1 => (app q0 ([{ { x0 with Data := y0 } with Locs := y1 }] : List TChunk)).bind fun z0 => some (.go (z0, IntKind.wrap .i64 (q1 + 1)))) else some (.brk (q0, q1))
def M152 (fuel : Nat) (p0 : List TChunk) : Option ((List TChunk)) :=
 after (loopM (fun s => M152_L0 fuel p0 s.1 s.2) fuel ([], 0)) fun ⟨r0, r1⟩ => some r0
set_option maxHeartbeats 4000000 in
set_option maxRecDepth 100000 in
theorem W152 {fuel : Nat} {p0 : List TChunk} {o : (List TChunk)} (h : Heap) (hm : M152 fuel p0 = some o) :
 ACalls Tryz.prog 152 [.sl none 35 (List.map c_Chunk p0)] h (fun r h' => r = .sl none 35 (List.map c_Chunk o) ∧ h' = h) := by
 refine ACv 29 [.tmp 2] Tryz.func152 rfl rfl rfl rfl ?_
 unfold M152 at hm
 refine v (v (v (vle (lno (.tok 44 35 (([] : List TChunk).length * 35)) 3 (ow none 35 (List.map c_Chunk [])) (ow_nil _ _)) ?_)))
 refine vlp hm (σ := (List TChunk) × Int) (τ := Option Key) (fun g s => [(g, .tok 44 35 ((s.1 : List TChunk).length * 35))]) (fun g s => (g = none → s.1 = [])) (fun g s => .c 0 (.sl none 35 (List.map c_Chunk p0)) (.c 3 (ow g 35 (List.map c_Chunk s.1)) (.c 4 (.sc (.int .i64 s.2)) .nil))) none (fun _ => rfl) (lx (.k3 .nil)) ?_ ?_
 rintro tg0 ⟨q0, q1⟩ x ot0 hm
 replace hm : M152_L0 fuel p0 q0 q1 = some x := hm
 unfold M152_L0 at hm
 refine v (vln ln26 rfl (v ?_))
 refine vi hm (fun hc0 hm => ?_) fun hc0 hm => ?_
 refine v (v (v ?_))
 refine vx hm el26 rfl rfl fun x0 _ hm => ?_
 refine va (.agg (c_Chunk x0)) ld44 rfl rfl ?_
 refine ve fun hk => a_alloc (c_id idZ ++ ([.sc (.bool false), .sc (.slice none 0 0), .sc (.slice none 0 0)] : List AV)) hk zr44 rfl rfl fun k109 hk0 => qk hk0 rfl ?_
 refine ve fun hk => a_store 0 (c_Chunk x0) hk rfl rfl rfl rfl sz44 rfl rfl fun hk1 => qk hk1 rfl ?_
 refine v ?_
 refine vz [(7, some k109, .obj 44 (c_Chunk x0))] mixed (fun hk => ⟨fun _ => hp_at 0 hk rfl, trivial⟩) fun hk => ?_
 refine z_w 0 rfl (fun S' h' hi hB => Zh fd44_2 rfl rfl) ?_
 refine z_w 1 rfl (fun S' h' hi hB => Zg (.sl none 1 (List.map c_u8 x0.Data)) ld41 rfl (At.s (InvL.get 0 hi rfl (hB 7 (by kernel_rfl)))) rfl) ?_
 obtain ⟨y0, hy0, hm⟩ := Zc hm
 refine z_w 2 rfl (fun S' h' hi hB => o_call (W141 _ hy0) rfl bd141 rfl) ?_
 refine z_w 3 rfl (fun S' h' hi hB => Zh fd44_3 rfl rfl) ?_
 refine z_w 4 rfl (fun S' h' hi hB => Zg (.sl none 4 (List.map c_Loc x0.Locs)) ld42 rfl (At.s (InvL.get 0 hi rfl (hB 7 (by kernel_rfl)))) rfl) ?_
 obtain ⟨y1, hy1, hm⟩ := Zc hm
 refine z_w 5 rfl (fun S' h' hi hB => o_call (W151 _ hy1) rfl bd151 rfl) ?_
 refine z_w 6 rfl (fun S' h' hi hB => Zh fd44_2 rfl rfl) ?_
 refine z_e 7 rfl (by kernel_rfl) (a_store 0 (c_Chunk { x0 with Data := y0 }) hk rfl rfl rfl rfl sz41 rfl rfl fun hk2 => ⟨⟨fun e => absurd e (by decide), trivial⟩, ?_⟩)
 refine z_w 8 rfl (fun S' h' hi hB => Zh fd44_3 rfl rfl) ?_
 refine z_e 9 rfl (by kernel_rfl) (a_store 0 (c_Chunk { { x0 with Data := y0 } with Locs := y1 }) hk2 rfl rfl rfl rfl sz42 rfl rfl fun hk3 => ⟨⟨fun e => absurd e (by decide), trivial⟩, ?_⟩)
 refine z_nil (by kernel_rfl) (qk (f := .c 23 _ (.c 22 _ (.c 21 _ (.c 20 _ (.c 19 _ (.c 18 _ (.c 17 _ (.c 16 _ _)))))))) hk3 rfl ?_)
 refine v (vl 0 (.agg (c_Chunk { { x0 with Data := y0 } with Locs := y1 })) ld44 rfl rfl rfl (vn (fun _ => o_lit (List.map c_Chunk ([{ { x0 with Data := y0 } with Locs := y1 }] : List TChunk)) et26 rfl rfl rfl rfl) ?_))
 obtain ⟨z0, hz0, hm⟩ := Zc hm
 refine ve fun hk => a_app (c := c_Chunk) 1 hz0 et26 rfl rfl rfl ot0 hk rfl fun tg1 ot1 hk4 => qk hk4 rfl ?_
 refine v ?_
 exact vgo hm tg1 ot1 (lxs [1] rfl rfl (.k3 .nil))
 refine v ?_
 exact vbk hm tg0 ot0 (lx (.k3 .nil))
 rintro tg2 ⟨r0, r1⟩ ot2 hm
 refine v (v ?_)
 injection hm with hm; subst hm
 exact vr fun hk => Ret.of1 (.inl rfl) (rsT _ _ (ow _ _ _) rfl) (hp_sub (List.nil_sublist _) hk).1 ((own_frz0 _ 0 ot2 hk rfl)) ⟨rfl, rfl⟩
theorem bd152 : bodied Tryz.prog 152 = true := by kernel_rfl
def M90_L0 (fuel : Nat) (p0 : TCatalog) (q0 : List TSnap) (q1 : Int) : Option (Lp ((List TSnap) × Int) (TCatalog)) :=
 if (decide (q1 < (p0.Snaps.length : Int))) = true then ((ix p0.Snaps q1).bind fun x0 => (M150 fuel x0.Man).bind fun y0 => (M151 fuel x0.Locs).bind fun y1 => (app q0 ([{ { x0 with Man := y0 } with Locs := y1 }] : List TSnap)).bind fun z0 => some (.go (z0, IntKind.wrap .i64 (q1 + 1)))) else some (.brk (q0, q1))
def M90_L2 (fuel : Nat) (p0 : TCatalog) (q0 : List TExp) (q1 : Int) : Option (Lp ((List TExp) × Int) (TCatalog)) :=
 if (decide (q1 < (p0.Exps.length : Int))) = true then ((ix p0.Exps q1).bind fun x0 => (M151 fuel x0.Locs).bind fun y0 => (app q0 ([{ x0 with Locs := y0 }] : List TExp)).bind fun z0 => some (.go (z0, IntKind.wrap .i64 (q1 + 1)))) else some (.brk (q0, q1))
def M90 (fuel : Nat) (p0 : TCatalog) : Option (TCatalog) :=
 after (loopM (fun s => M90_L0 fuel p0 s.1 s.2) fuel ([], 0)) fun ⟨r0, r1⟩ => after (loopM (fun s => M90_L2 fuel p0 s.1 s.2) fuel ([], 0)) fun ⟨r2, r3⟩ => (M152 fuel p0.Chunks).bind fun y0 => (app ([] : List TVol) p0.Vols).bind fun z0 => some ({ Seq := p0.Seq, Snaps := r0, Chunks := y0, Exps := r2, Vols := z0 } : TCatalog)
theorem bd90 : bodied Tryz.prog 90 = true := by kernel_rfl
end Go.Proofs.YtoomgangpjcaoaaGreat
