import Derived.Test.YtoomgangpjcaoaaK9P5
import Derived.Test.YtoomgangpjcaoaaK9P3
import Derived.Test.YtoomgangpjcaoaaK9P8
import Derived.Test.YtoomgangpjcaoaaK9P7
set_option linter.unusedSimpArgs false
set_option linter.unusedVariables false
namespace Go.Proofs.Ytoomgangpjcaoaa
open Go.Vm
def M129_L0 (fuel : Nat) (p0 : List TFile) (q0 : Int) : Option (Lp (Int) (Bool)) :=
 if (decide (q0 < (p0.length : Int))) = true then ((ix p0 q0).bind fun x0 => if (decide (200 < (x0.Data.length : Int))) = true then (some (.ret true)) else some (.go (IntKind.wrap .i64 (q0 + 1)))) else some (.brk q0)
def M129 (fuel : Nat) (p0 : List TFile) : Option (Bool) :=
 if (decide (6 < (p0.length : Int))) = true then (some true) else after (loopM (fun s => M129_L0 fuel p0 s) fuel 0) fun r0 => some false
set_option maxHeartbeats 4000000 in
set_option maxRecDepth 100000 in
theorem W129 {fuel : Nat} {p0 : List TFile} {o : Bool} (h : Heap) (hm : M129 fuel p0 = some o) :
 ACalls Try.prog 129 [.sl none 2 (List.map c_File p0)] h (fun r h' => r = .sc (.bool o) ∧ h' = h) := by
 refine ACv 20 [.tmp 2] Try.func129 rfl rfl rfl rfl ?_
 unfold M129 at hm
 refine v (v (vln ln100 rfl (v ?_)))
 refine vi hm (fun hc4 hm => ?_) fun hc4 hm => ?_
 refine v (v ?_)
 injection hm with hm; subst hm
 exact vr1 rfl
 refine v (v ?_)
 refine vlpH hm (σ := Int) (τ := Unit) (fun g s => []) (fun g s => .c 0 (.sl none 2 (List.map c_File p0)) (.c 3 (.sc (.int .i64 s)) .nil)) () (lx (.k2 .nil)) ?_ ?_
 rintro _ q0 x hm
 replace hm : M129_L0 fuel p0 q0 = some x := hm
 unfold M129_L0 at hm
 refine v (vln ln100 rfl (v ?_))
 refine vi hm (fun hc0 hm => ?_) fun hc0 hm => ?_
 refine v (v (v ?_))
 refine vx hm el100 rfl rfl fun _ _ hm => ?_
 refine vln ln52 rfl (v ?_)
 refine vi hm (fun hc1 hm => ?_) fun hc1 hm => ?_
 refine v (v ?_)
 refine vrt hm fun hm => ?_
 injection hm with hm; subst hm
 exact vr1 rfl
 refine v (v ?_)
 exact vgo hm () trivial (lx (.k2 .nil))
 refine v ?_
 exact vbk hm () trivial (lx (.k2 .nil))
 rintro _ r0 hm
 refine v (v ?_)
 injection hm with hm; subst hm
 exact vr1 rfl
theorem bd129 : bodied Try.prog 129 = true := by kernel_rfl
def M106_L0 (fuel : Nat) (p0 : List TFile) (q0 : Int) : Option (Lp (Int) ((List TFile) × Int)) :=
 if (decide (q0 < (p0.length : Int))) = true then ((ix p0 q0).bind fun x0 => (M104 fuel x0.Path).bind fun y0 => if (!y0) = true then (some (.ret ([], 1))) else some (.go (IntKind.wrap .i64 (q0 + 1)))) else some (.brk q0)
def M106_L4 (fuel : Nat) (p0 : List TFile) (q0 : List TFile) (q1 : Int) (q2 : Int) : Option (Lp (Int) (Lp ((List TFile) × Int) ((List TFile) × Int))) :=
 after (if (decide (q2 < (q0.length : Int))) = true then ((ix q0 q2).bind fun x0 => (ix p0 q1).bind fun x1 => some (.brk (Op.bytesLess x0.Path.toList x1.Path.toList))) else some (.brk false) : Option (Lp (Bool) (Lp (Int) (Lp ((List TFile) × Int) ((List TFile) × Int))))) fun j0 => if j0 = true then (some (.go (IntKind.wrap .i64 (q2 + 1)))) else some (.brk q2)
def M106_L2 (fuel : Nat) (p0 : List TFile) (q0 : List TFile) (q1 : Int) : Option (Lp ((List TFile) × Int) ((List TFile) × Int)) :=
 if (decide (q1 < (p0.length : Int))) = true then (after (loopM (fun s => M106_L4 fuel p0 q0 q1 s) fuel 0) fun r0 => after (if (decide (r0 < (q0.length : Int))) = true then ((ix q0 r0).bind fun x0 => (ix p0 q1).bind fun x1 => some (.brk (x0.Path.toList == x1.Path.toList))) else some (.brk false) : Option (Lp (Bool) (Lp ((List TFile) × Int) ((List TFile) × Int)))) fun j0 => if j0 = true then (some (.ret ([], 9))) else (slc q0 0 r0).bind fun x2 => (ix p0 q1).bind fun x3 => (ix p0 q1).bind fun x4 => (app ([] : List TFile) x2).bind fun z0 => (M100 fuel x4.Data).bind fun y0 => (app z0 ([({ Path := x3.Path, Data := y0 } : TFile)] : List TFile)).bind fun z1 => (slc q0 r0 (q0.length : Int)).bind fun x5 => (app z1 x5).bind fun z2 => some (.go (z2, IntKind.wrap .i64 (q1 + 1)))) else some (.brk (q0, q1))
def M106 (fuel : Nat) (p0 : List TFile) : Option ((List TFile) × Int) :=
 (M129 fuel p0).bind fun y4 => if y4 = true then (some ([], 2)) else after (loopM (fun s => M106_L0 fuel p0 s) fuel 0) fun r0 => after (loopM (fun s => M106_L2 fuel p0 s.1 s.2) fuel ([], 0)) fun ⟨r1, r2⟩ => some (r1, 0)
set_option maxHeartbeats 4000000 in
set_option maxRecDepth 100000 in
theorem W106 {fuel : Nat} {p0 : List TFile} {o : (List TFile) × Int} (h : Heap) (hm : M106 fuel p0 = some o) :
 ACalls Try.prog 106 [.sl none 2 (List.map c_File p0)] h (fun r h' => r = .tup [.sl none 2 (List.map c_File o.1), .sc (.int .i64 o.2)] ∧ h' = h) := by
 refine ACv 91 [.tmp 2, .tmp 3] Try.func106 rfl rfl rfl rfl ?_
 unfold M106 at hm
 refine v (v ?_)
 refine vk W129 bd129 hm rfl rfl fun _ hm => ?_
 refine v ?_
 refine vi hm (fun hc6 hm => ?_) fun hc6 hm => ?_
 refine v (v ?_)
 cases hm
 exact vr fun hk => Ret.of2 (.inl rfl) (rsT _ _ (.sc (.slice _ _ _)) rfl) (rsT _ _ (.sc (.int _ _)) rfl) (Sub.refl _) (nil_lem _) (ALe.refl _ _) ⟨rfl, rfl⟩
 refine v (v ?_)
 refine vlpH hm (σ := Int) (τ := Unit) (fun g s => []) (fun g s => .c 0 (.sl none 2 (List.map c_File p0)) (.c 4 (.sc (.int .i64 s)) .nil)) () (lx (.k2 .nil)) ?_ ?_
 rintro _ q0 x hm
 replace hm : M106_L0 fuel p0 q0 = some x := hm
 unfold M106_L0 at hm
 refine v (vln ln100 rfl (v ?_))
 refine vi hm (fun hc0 hm => ?_) fun hc0 hm => ?_
 refine v (v (v ?_))
 refine vx hm el100 rfl rfl fun _ _ hm => ?_
 refine vk W104 bd104 hm rfl rfl fun _ hm => ?_
 refine v ?_
 refine vi hm (fun hc1 hm => ?_) fun hc1 hm => ?_
 refine v (v ?_)
 refine vrt hm fun hm => ?_
 cases hm
 exact vr fun hk => Ret.of2 (.inl rfl) (rsT _ _ (.sc (.slice _ _ _)) rfl) (rsT _ _ (.sc (.int _ _)) rfl) (Sub.refl _) (nil_lem _) (ALe.refl _ _) ⟨rfl, rfl⟩
 refine v (v ?_)
 exact vgo hm () trivial (lx (.k2 .nil))
 refine v ?_
 exact vbk hm () trivial (lx (.k2 .nil))
 rintro _ r0 hm
 refine v (v (vle (lno (.tok 105 2 (([] : List TFile).length * 2)) 5 (ow none 2 (List.map c_File [])) (ow_nil _ _)) ?_))
 refine vlp hm (σ := (List TFile) × Int) (τ := Option Key) (fun g s => [(g, .tok 105 2 ((s.1 : List TFile).length * 2))]) (fun g s => (g = none → s.1 = [])) (fun g s => .c 0 (.sl none 2 (List.map c_File p0)) (.c 5 (ow g 2 (List.map c_File s.1)) (.c 6 (.sc (.int .i64 s.2)) .nil))) none (fun _ => rfl) (lx (.k3 .nil)) ?_ ?_
 rintro tg0 ⟨q1, q2⟩ x ot0 hm
 replace hm : M106_L2 fuel p0 q1 q2 = some x := hm
 unfold M106_L2 at hm
 refine v (vln ln100 rfl (v ?_))
 refine vi hm (fun hc2 hm => ?_) fun hc2 hm => ?_
 refine v (v (v (vs ?_)))
 refine vlpH hm (σ := Int) (τ := Unit) (fun g s => [(tg0, .tok 105 2 ((q1 : List TFile).length * 2))]) (fun g s => .c 0 (.sl none 2 (List.map c_File p0)) (.c 5 (ow tg0 2 (List.map c_File q1)) (.c 6 (.sc (.int .i64 q2)) (.c 7 (.sc (.int .i64 s)) .nil)))) () (lx (.k4 .nil)) ?_ ?_
 rintro _ q3 x hm
 replace hm : M106_L4 fuel p0 q1 q2 q3 = some x := hm
 unfold M106_L4 at hm
 refine vs (vs ?_)
 refine vjnH hm (σ := Bool) (τ := Unit) (fun g s => [(tg0, .tok 105 2 ((q1 : List TFile).length * 2))]) (fun g s => .c 0 (.sl none 2 (List.map c_File p0)) (.c 5 (ow tg0 2 (List.map c_File q1)) (.c 6 (.sc (.int .i64 q2)) (.c 7 (.sc (.int .i64 q3)) (.c 46 (.sc (.bool s)) .nil))))) (fun x hm => ?_) ?_
 refine v (vq (by kernel_rfl) (vn (fun _ => o_leno ln100 ot0 rfl) ?_))
 refine vi hm (fun hb0 hm => ?_) fun hb0 hm => ?_
 rw [hb0]
 obtain ⟨_, hx0, hm⟩ := Zc hm
 refine vn (fun _ => o_ixo hx0 el100 ot0 rfl rfl) ?_
 refine vx hm el100 rfl rfl fun _ _ hm => ?_
 refine vn (fun _ => o_bs rfl rfl rfl trivial) ?_
 exact vgo hm () trivial (lx (.k5 .nil))
 rw [hb0]
 exact vgo hm () trivial (lx (.k5 .nil))
 rintro _ j0 hm
 refine v ?_
 refine vi hm (fun hc3 hm => ?_) fun hc3 hm => ?_
 refine v (v (v ?_))
 exact vgo hm () trivial (lx (.k4 .nil))
 refine v ?_
 exact vbk hm () trivial (lx (.k4 .nil))
 rintro _ r1 hm
 refine vs (vs ?_)
 refine vjnH hm (σ := Bool) (τ := Unit) (fun g s => [(tg0, .tok 105 2 ((q1 : List TFile).length * 2))]) (fun g s => .c 0 (.sl none 2 (List.map c_File p0)) (.c 5 (ow tg0 2 (List.map c_File q1)) (.c 6 (.sc (.int .i64 q2)) (.c 7 (.sc (.int .i64 r1)) (.c 65 (.sc (.bool s)) .nil))))) (fun x hm => ?_) ?_
 refine v (vq (by kernel_rfl) (vn (fun _ => o_leno ln100 ot0 rfl) ?_))
 refine vi hm (fun hb1 hm => ?_) fun hb1 hm => ?_
 rw [hb1]
 obtain ⟨_, hx1, hm⟩ := Zc hm
 refine vn (fun _ => o_ixo hx1 el100 ot0 rfl rfl) ?_
 refine vx hm el100 rfl rfl fun _ _ hm => ?_
 refine vn (fun _ => o_bs rfl rfl rfl trivial) ?_
 exact vgo hm () trivial (lx (.k5 .nil))
 rw [hb1]
 exact vgo hm () trivial (lx (.k5 .nil))
 rintro _ j1 hm
 refine v ?_
 refine vi hm (fun hc4 hm => ?_) fun hc4 hm => ?_
 refine v (v ?_)
 refine vrt hm fun hm => ?_
 cases hm
 exact vr fun hk => Ret.of2 (.inl rfl) (rsT _ _ (.sc (.slice _ _ _)) rfl) (rsT _ _ (.sc (.int _ _)) rfl) (hp_sub (List.nil_sublist _) hk).1 (nil_lem _) (ALe.refl _ _) ⟨rfl, rfl⟩
 refine v (v (v ?_))
 refine vz [] mixed (fun hk => trivial) fun hk => ?_
 refine z_w 0 rfl (fun S' h' hi hB => o_mv (.sc (.slice _ _ _)) rfl) ?_
 refine z_w 1 rfl (fun S' h' hi hB => o_mv (ow _ _ _) rfl) ?_
 refine z_w 2 rfl (fun S' h' hi hB => o_mv (.sc (.int _ _)) rfl) ?_
 obtain ⟨_, hx2, hm⟩ := Zc hm
 refine z_w 3 rfl (fun S' h' hi hB => o_slco hx2 el100 rfl ot0 rfl rfl rfl) ?_
 refine z_w 5 rfl (fun S' h' hi hB => o_mv (.sl _ _ _) rfl) ?_
 refine z_w 6 rfl (fun S' h' hi hB => o_mv (.sc (.int _ _)) rfl) ?_
 obtain ⟨x0, hx3, hm⟩ := Zc hm
 refine z_w 7 rfl (fun S' h' hi hB => o_ix hx3 el100 rfl rfl) ?_
 refine z_w 8 rfl (fun S' h' hi hB => o_fl fd105_0 rfl rfl) ?_
 refine z_w 9 rfl (fun S' h' hi hB => o_ld (.sc (.string x0.Path)) ld9 rfl rfl) ?_
 refine z_w 10 rfl (fun S' h' hi hB => o_mv (.sl _ _ _) rfl) ?_
 refine z_w 11 rfl (fun S' h' hi hB => o_mv (.sc (.int _ _)) rfl) ?_
 obtain ⟨x1, hx4, hm⟩ := Zc hm
 refine z_w 12 rfl (fun S' h' hi hB => o_ix hx4 el100 rfl rfl) ?_
 refine z_w 13 rfl (fun S' h' hi hB => o_fl fd105_1 rfl rfl) ?_
 refine z_w 14 rfl (fun S' h' hi hB => o_ld (.sl none 1 (List.map c_u8 x1.Data)) ld52 rfl rfl) ?_
 obtain ⟨z0, hz0, hm⟩ := Zc hm
 refine z_e 4 rfl (by kernel_rfl) (a_app0 (c := c_File) hz0 et100 rfl rfl hk nofun (srcOf_own (slc_nil hx2 ot0)) fun tg1 ot1 hk0 => ⟨trivial, ?_⟩)
 obtain ⟨y0, hy0, hm⟩ := Zc hm
 refine z_w 15 rfl (fun S' h' hi hB => o_call (W100 _ hy0) rfl bd100 rfl) ?_
 refine z_w 16 rfl (fun S' h' hi hB => o_bld (c_File ({ Path := x0.Path, Data := y0 } : TFile)) bt105 rfl) ?_
 refine z_w 17 rfl (fun S' h' hi hB => o_lit (List.map c_File ([({ Path := x0.Path, Data := y0 } : TFile)] : List TFile)) et100 rfl rfl rfl rfl) ?_
 obtain ⟨z1, hz1, hm⟩ := Zc hm
 refine z_e 18 rfl (by kernel_rfl) (a_app (c := c_File) 0 hz1 et100 rfl rfl rfl ot1 hk0 rfl fun tg2 ot2 hk1 => ⟨trivial, ?_⟩)
 refine z_w 19 rfl (fun S' h' hi hB => o_as (ow _ _ _) rfl) ?_
 refine z_nil (by kernel_rfl) (qk (f := .c 8 _ (.c 84 _ (.c 83 _ (.c 82 _ (.c 81 _ (.c 70 _ (.c 80 _ (.c 79 _ (.c 78 _ (.c 77 _ (.c 76 _ (.c 75 _ (.c 74 _ (.c 73 _ (.c 72 _ (.c 71 _ (.c 69 _ (.c 68 _ (.c 67 _ (.c 66 _ _)))))))))))))))))))) hk1 rfl ?_)
 refine v ?_
 obtain ⟨_, hx5, hm⟩ := Zc hm
 refine vn (fun _ => o_slco hx5 el100 rfl ot0 rfl rfl rfl) ?_
 obtain ⟨z2, hz2, hm⟩ := Zc hm
 refine ve fun hk => a_app (c := c_File) 0 hz2 et100 rfl rfl rfl ot2 hk (srcOf_own (slc_nil hx5 ot0)) fun tg3 ot3 hk2 => qk hk2 rfl ?_
 refine v ?_
 exact vgo hm tg3 ot3 (lxs [0] rfl rfl (.k3 .nil))
 refine v ?_
 exact vbk hm tg0 ot0 (lx (.k3 .nil))
 rintro tg4 ⟨r2, r3⟩ ot4 hm
 refine v (v ?_)
 cases hm
 exact vr fun hk => Ret.of2 (.inl rfl) (rsT _ _ (ow _ _ _) rfl) (rsT _ _ (.sc (.int _ _)) rfl) (hp_sub (List.nil_sublist _) hk).1 ((own_frz0 _ 0 ot4 hk rfl)) (ALe.refl _ _) ⟨rfl, rfl⟩
theorem bd106 : bodied Try.prog 106 = true := by kernel_rfl
def M132 (fuel : Nat) : Option ((Ar 64)) :=
 some (⟨[1116352408, 1899447441, 3049323471, 3921009573, 961987163, 1508970993, 2453635748, 2870763221, 3624381080, 310598401, 607225278, 1426881987, 1925078388, 2162078206, 2614888103, 3248222580, 3835390401, 4022224774, 264347078, 604807628, 770255983, 1249150122, 1555081692, 1996064986, 2554220882, 2821834349, 2952996808, 3210313671, 3336571891, 3584528711, 113926993, 338241895, 666307205, 773529912, 1294757372, 1396182291, 1695183700, 1986661051, 2177026350, 2456956037, 2730485921, 2820302411, 3259730800, 3345764771, 3516065817, 3600352804, 4094571909, 275423344, 430227734, 506948616, 659060556, 883997877, 958139571, 1322822218, 1537002063, 1747873779, 1955562222, 2024104815, 2227730452, 2361852424, 2428436474, 2756734187, 3204031479, 3329325298], rfl⟩ : Ar 64)
set_option maxHeartbeats 4000000 in
set_option maxRecDepth 100000 in
theorem W132 {fuel : Nat} {o : (Ar 64)} (h : Heap) (hm : M132 fuel = some o) :
 ACalls Try.prog 132 [] h (fun r h' => r = .agg (c_arr64_u32 o) ∧ h' = h) := by
 refine ACv 2 [.cell 0 172] Try.func132 rfl rfl rfl rfl ?_
 unfold M132 at hm
 refine v ?_
 refine ve fun hk => a_alloc (c_arr64_u32 (arZ 64)) hk zr172 rfl rfl fun k2 hk3 => qk hk3 rfl ?_
 refine v (vn (fun _ => o_bldar [1116352408, 1899447441, 3049323471, 3921009573, 961987163, 1508970993, 2453635748, 2870763221, 3624381080, 310598401, 607225278, 1426881987, 1925078388, 2162078206, 2614888103, 3248222580, 3835390401, 4022224774, 264347078, 604807628, 770255983, 1249150122, 1555081692, 1996064986, 2554220882, 2821834349, 2952996808, 3210313671, 3336571891, 3584528711, 113926993, 338241895, 666307205, 773529912, 1294757372, 1396182291, 1695183700, 1986661051, 2177026350, 2456956037, 2730485921, 2820302411, 3259730800, 3345764771, 3516065817, 3600352804, 4094571909, 275423344, 430227734, 506948616, 659060556, 883997877, 958139571, 1322822218, 1537002063, 1747873779, 1955562222, 2024104815, 2227730452, 2361852424, 2428436474, 2756734187, 3204031479, 3329325298] rfl bta172 rfl rfl rfl) ?_)
 refine ve fun hk => a_store 0 (c_arr64_u32 (⟨[1116352408, 1899447441, 3049323471, 3921009573, 961987163, 1508970993, 2453635748, 2870763221, 3624381080, 310598401, 607225278, 1426881987, 1925078388, 2162078206, 2614888103, 3248222580, 3835390401, 4022224774, 264347078, 604807628, 770255983, 1249150122, 1555081692, 1996064986, 2554220882, 2821834349, 2952996808, 3210313671, 3336571891, 3584528711, 113926993, 338241895, 666307205, 773529912, 1294757372, 1396182291, 1695183700, 1986661051, 2177026350, 2456956037, 2730485921, 2820302411, 3259730800, 3345764771, 3516065817, 3600352804, 4094571909, 275423344, 430227734, 506948616, 659060556, 883997877, 958139571, 1322822218, 1537002063, 1747873779, 1955562222, 2024104815, 2227730452, 2361852424, 2428436474, 2756734187, 3204031479, 3329325298], rfl⟩ : Ar 64)) hk rfl rfl rfl rfl sz172 rfl rfl fun hk6 => qk hk6 rfl ?_
 refine v ?_
 cases hm
 exact vr fun hk => Ret.of1 (.inl rfl) (rsC (.agg (c_arr64_u32 (⟨[1116352408, 1899447441, 3049323471, 3921009573, 961987163, 1508970993, 2453635748, 2870763221, 3624381080, 310598401, 607225278, 1426881987, 1925078388, 2162078206, 2614888103, 3248222580, 3835390401, 4022224774, 264347078, 604807628, 770255983, 1249150122, 1555081692, 1996064986, 2554220882, 2821834349, 2952996808, 3210313671, 3336571891, 3584528711, 113926993, 338241895, 666307205, 773529912, 1294757372, 1396182291, 1695183700, 1986661051, 2177026350, 2456956037, 2730485921, 2820302411, 3259730800, 3345764771, 3516065817, 3600352804, 4094571909, 275423344, 430227734, 506948616, 659060556, 883997877, 958139571, 1322822218, 1537002063, 1747873779, 1955562222, 2024104815, 2227730452, 2361852424, 2428436474, 2756734187, 3204031479, 3329325298], rfl⟩ : Ar 64))) ld172 rfl (Zd 0 hk rfl) rfl) (hp_sub (List.nil_sublist _) hk).1 (ALe.refl _ _) ⟨rfl, rfl⟩
theorem bd132 : bodied Try.prog 132 = true := by kernel_rfl
def M133_L0 (fuel : Nat) (q0 : List Int) : Option (Lp ((List Int)) ((List Int))) :=
 if (((IntKind.wrap .i64 ((q0.length : Int) + 8)).tmod 64) != 0) = true then ((app q0 ([0] : List Int)).bind fun z0 => some (.go z0)) else some (.brk q0)
def M133_L2 (fuel : Nat) (p0 : List Int) (q0 : List Int) (q1 : Int) : Option (Lp ((List Int) × Int) ((List Int))) :=
 if (decide (0 ≤ q1)) = true then (grd (decide (0 ≤ (IntKind.wrap .u64 (8 * (IntKind.wrap .u64 q1))))) <| (app q0 ([IntKind.wrap .u8 ((IntKind.wrap .u64 ((IntKind.wrap .u64 (p0.length : Int)) * 8)).fdiv (2 ^ (min ((IntKind.wrap .u64 (8 * (IntKind.wrap .u64 q1))) : Int).toNat (IntKind.bits .u64))))] : List Int)).bind fun z0 => some (.go (z0, IntKind.wrap .i64 (q1 - 1)))) else some (.brk (q0, q1))
def M133 (fuel : Nat) (p0 : List Int) : Option ((List Int)) :=
 (app ([] : List Int) p0).bind fun z4 => (app z4 ([128] : List Int)).bind fun z0 => after (loopM (fun s => M133_L0 fuel s) fuel z0) fun r0 => after (loopM (fun s => M133_L2 fuel p0 s.1 s.2) fuel (r0, 7)) fun ⟨r1, r2⟩ => some r1
set_option maxHeartbeats 4000000 in
set_option maxRecDepth 100000 in
theorem W133 {fuel : Nat} {p0 : List Int} {o : (List Int)} (h : Heap) (hm : M133 fuel p0 = some o) :
 ACalls Try.prog 133 [.sl none 1 (List.map c_u8 p0)] h (fun r h' => r = .sl none 1 (List.map c_u8 o) ∧ h' = h) := by
 refine ACv 37 [.tmp 2] Try.func133 rfl rfl rfl rfl ?_
 unfold M133 at hm
 refine v (v (v ?_))
 obtain ⟨z4, hz5, hm⟩ := Zc hm
 refine ve fun hk => a_app0 (c := c_u8) hz5 et52 rfl rfl hk nofun rfl fun tg6 ot7 hk8 => qk hk8 rfl ?_
 refine vn (fun _ => o_lit (List.map c_u8 ([128] : List Int)) et52 rfl rfl rfl rfl) ?_
 obtain ⟨z0, hz0, hm⟩ := Zc hm
 refine ve fun hk => a_app (c := c_u8) 0 hz0 et52 rfl rfl rfl ot7 hk rfl fun tg0 ot0 hk0 => qk hk0 rfl ?_
 refine vs ?_
 refine vlp hm (σ := (List Int)) (τ := Option Key) (fun g s => [(g, .tok 5 1 ((s : List Int).length * 1))]) (fun g s => (g = none → s = [])) (fun g s => .c 0 (.sl none 1 (List.map c_u8 p0)) (.c 3 (ow g 1 (List.map c_u8 s)) .nil)) tg0 ot0 (lx (.k2 .nil)) ?_ ?_
 rintro tg1 q0 x ot1 hm
 replace hm : M133_L0 fuel q0 = some x := hm
 unfold M133_L0 at hm
 refine v (vn (fun _ => o_leno ln52 ot1 rfl) (v ?_))
 refine vi hm (fun hc0 hm => ?_) fun hc0 hm => ?_
 refine v (v (v (vn (fun _ => o_lit (List.map c_u8 ([0] : List Int)) et52 rfl rfl rfl rfl) ?_)))
 obtain ⟨z1, hz1, hm⟩ := Zc hm
 refine ve fun hk => a_app (c := c_u8) 0 hz1 et52 rfl rfl rfl ot1 hk rfl fun tg2 ot2 hk1 => qk hk1 rfl ?_
 exact vgo hm tg2 ot2 (lx (.k2 .nil))
 refine v ?_
 exact vbk hm tg1 ot1 (lx (.k2 .nil))
 rintro tg3 r0 ot3 hm
 refine v (vln ln52 rfl (v ?_))
 refine vlp hm (σ := (List Int) × Int) (τ := Option Key) (fun g s => [(g, .tok 5 1 ((s.1 : List Int).length * 1))]) (fun g s => (g = none → s.1 = [])) (fun g s => .c 3 (ow g 1 (List.map c_u8 s.1)) (.c 4 (.sc (.int .u64 (IntKind.wrap .u64 ((IntKind.wrap .u64 (p0.length : Int)) * 8)))) (.c 5 (.sc (.int .i64 s.2)) .nil))) tg3 ot3 (lx (.k3 .nil)) ?_ ?_
 rintro tg4 ⟨q1, q2⟩ x ot4 hm
 replace hm : M133_L2 fuel p0 q1 q2 = some x := hm
 unfold M133_L2 at hm
 refine v (v ?_)
 refine vi hm (fun hc1 hm => ?_) fun hc1 hm => ?_
 refine v (v (v ?_))
 refine vgr hm fun _ hm => ?_
 refine vn (fun _ => o_lit (List.map c_u8 ([IntKind.wrap .u8 ((IntKind.wrap .u64 ((IntKind.wrap .u64 (p0.length : Int)) * 8)).fdiv (2 ^ (min ((IntKind.wrap .u64 (8 * (IntKind.wrap .u64 q2))) : Int).toNat (IntKind.bits .u64))))] : List Int)) et52 rfl rfl rfl rfl) ?_
 obtain ⟨z2, hz2, hm⟩ := Zc hm
 refine ve fun hk => a_app (c := c_u8) 0 hz2 et52 rfl rfl rfl ot4 hk rfl fun tg5 ot5 hk2 => qk hk2 rfl ?_
 refine v ?_
 exact vgo hm tg5 ot5 (lx (.k3 .nil))
 refine v ?_
 exact vbk hm tg4 ot4 (lx (.k3 .nil))
 rintro tg7 ⟨r1, r2⟩ ot6 hm
 refine v (v ?_)
 injection hm with hm; subst hm
 exact vr fun hk => Ret.of1 (.inl rfl) (rsT _ _ (ow _ _ _) rfl) (hp_sub (List.nil_sublist _) hk).1 ((own_frz0 _ 0 ot6 hk rfl)) ⟨rfl, rfl⟩
theorem bd133 : bodied Try.prog 133 = true := by kernel_rfl
def M134 (fuel : Nat) (p0 : Int) (p1 : Int) : Option (Int) :=
 grd (decide (0 ≤ p1)) <| grd (decide (0 ≤ (IntKind.wrap .u64 (32 - p1)))) <| some (bitsV .or .u32 (p0.fdiv (2 ^ (min (p1 : Int).toNat (IntKind.bits .u32)))) (IntKind.wrap .u32 (p0 * 2 ^ (min ((IntKind.wrap .u64 (32 - p1)) : Int).toNat (IntKind.bits .u32)))))
set_option maxHeartbeats 4000000 in
set_option maxRecDepth 100000 in
theorem W134 {fuel : Nat} {p0 : Int} {p1 : Int} {o : Int} (h : Heap) (hm : M134 fuel p0 p1 = some o) :
 ACalls Try.prog 134 [.sc (.int .u32 p0), .sc (.int .u64 p1)] h (fun r h' => r = .sc (.int .u32 o) ∧ h' = h) := by
 refine ACv 13 [.tmp 4] Try.func134 rfl rfl rfl rfl ?_
 unfold M134 at hm
 refine v (v ?_)
 refine vgr hm fun _ hm => ?_
 refine vgr hm fun _ hm => ?_
 refine v ?_
 cases hm
 exact vr1 rfl
theorem bd134 : bodied Try.prog 134 = true := by kernel_rfl
def M108_L4 (fuel : Nat) (y0 : (List Int)) (q0 : Int) (q1 : Int) (q2 : Ar 64) (q3 : Int) : Option (Lp ((Ar 64) × Int) (Lp ((Ar 64)) (Lp ((Ar 64) × Int) (Lp ((Ar 8) × Int) (Id32))))) :=
 if (decide (q3 < 4)) = true then ((ix q2.1 q1).bind fun x0 => (ix y0 (IntKind.wrap .i64 ((IntKind.wrap .i64 (q0 + (IntKind.wrap .i64 (4 * q1)))) + q3))).bind fun x1 => (ix q2.1 q1).bind fun _ => some (.go (arU q2 q1.toNat (bitsV .or .u32 (IntKind.wrap .u32 (x0 * 2 ^ (min (8 : Int).toNat (IntKind.bits .u32)))) (IntKind.wrap .u32 x1)), IntKind.wrap .i64 (q3 + 1)))) else some (.brk (q2, q3))
def M108_L2 (fuel : Nat) (y0 : (List Int)) (q0 : Int) (q1 : Ar 64) (q2 : Int) : Option (Lp ((Ar 64) × Int) (Lp ((Ar 8) × Int) (Id32))) :=
 if (decide (q2 < 64)) = true then (after (if (decide (q2 < 16)) = true then (after (loopM (fun s => M108_L4 fuel y0 q0 q2 s.1 s.2) fuel (q1, 0)) fun ⟨r0, r1⟩ => some (.brk r0)) else (ix q1.1 (IntKind.wrap .i64 (q2 - 15))).bind fun x0 => (ix q1.1 (IntKind.wrap .i64 (q2 - 2))).bind fun x1 => (ix q1.1 (IntKind.wrap .i64 (q2 - 16))).bind fun x2 => (ix q1.1 (IntKind.wrap .i64 (q2 - 7))).bind fun x3 => (M134 fuel x0 7).bind fun y1 => (M134 fuel x0 18).bind fun y2 => (M134 fuel x1 17).bind fun y3 => (M134 fuel x1 19).bind fun y4 => (ix q1.1 q2).bind fun _ => some (.brk (arU q1 q2.toNat (IntKind.wrap .u32 ((IntKind.wrap .u32 ((IntKind.wrap .u32 (x2 + x3)) + (bitsV .xor .u32 (bitsV .xor .u32 y1 y2) (x0.fdiv (2 ^ (min (3 : Int).toNat (IntKind.bits .u32))))))) + (bitsV .xor .u32 (bitsV .xor .u32 y3 y4) (x1.fdiv (2 ^ (min (10 : Int).toNat (IntKind.bits .u32))))))))) : Option (Lp ((Ar 64)) (Lp ((Ar 64) × Int) (Lp ((Ar 8) × Int) (Id32))))) fun j0 => some (.go (j0, IntKind.wrap .i64 (q2 + 1)))) else some (.brk (q1, q2))
def M108_L6 (fuel : Nat) (y6 : (Ar 64)) (r0 : Ar 64) (q0 : Ar 8) (q1 : Int) : Option (Lp ((Ar 8) × Int) (Lp ((Ar 8) × Int) (Id32))) :=
 if (decide (q1 < 64)) = true then ((ix q0.1 0).bind fun x0 => (ix q0.1 4).bind fun x1 => (ix q0.1 7).bind fun x2 => (M134 fuel x1 6).bind fun y0 => (M134 fuel x1 11).bind fun y1 => (M134 fuel x1 25).bind fun y2 => (ix q0.1 5).bind fun x3 => (ix q0.1 6).bind fun x4 => (ix y6.1 q1).bind fun x5 => (ix r0.1 q1).bind fun x6 => (M134 fuel x0 2).bind fun y3 => (M134 fuel x0 13).bind fun y4 => (M134 fuel x0 22).bind fun y5 => (ix q0.1 1).bind fun x7 => (ix q0.1 2).bind fun x8 => (ix q0.1 1).bind fun x9 => (ix q0.1 2).bind fun x10 => (ix q0.1 0).bind fun x11 => (ix q0.1 1).bind fun x12 => (ix q0.1 2).bind fun x13 => (ix q0.1 3).bind fun x14 => (ix q0.1 4).bind fun x15 => (ix q0.1 5).bind fun x16 => (ix q0.1 6).bind fun x17 => some (.go ((⟨[IntKind.wrap .u32 ((IntKind.wrap .u32 ((IntKind.wrap .u32 ((IntKind.wrap .u32 ((IntKind.wrap .u32 (x2 + (bitsV .xor .u32 (bitsV .xor .u32 y0 y1) y2))) + (bitsV .xor .u32 (bitsV .and .u32 x1 x3) (bitsV .and .u32 (bitsV .xor .u32 (IntKind.max .u32) x1) x4)))) + x5)) + x6)) + (IntKind.wrap .u32 ((bitsV .xor .u32 (bitsV .xor .u32 y3 y4) y5) + (bitsV .xor .u32 (bitsV .xor .u32 (bitsV .and .u32 x0 x7) (bitsV .and .u32 x0 x8)) (bitsV .and .u32 x9 x10))))), x11, x12, x13, IntKind.wrap .u32 (x14 + (IntKind.wrap .u32 ((IntKind.wrap .u32 ((IntKind.wrap .u32 ((IntKind.wrap .u32 (x2 + (bitsV .xor .u32 (bitsV .xor .u32 y0 y1) y2))) + (bitsV .xor .u32 (bitsV .and .u32 x1 x3) (bitsV .and .u32 (bitsV .xor .u32 (IntKind.max .u32) x1) x4)))) + x5)) + x6))), x15, x16, x17], rfl⟩ : Ar 8), IntKind.wrap .i64 (q1 + 1)))) else some (.brk (q0, q1))
def M108_L8 (fuel : Nat) (r0 : Ar 8) (q0 : Ar 8) (q1 : Int) : Option (Lp ((Ar 8) × Int) (Lp ((Ar 8) × Int) (Id32))) :=
 if (decide (q1 < 8)) = true then ((ix q0.1 q1).bind fun x0 => (ix r0.1 q1).bind fun x1 => (ix q0.1 q1).bind fun _ => some (.go (arU q0 q1.toNat (IntKind.wrap .u32 (x0 + x1)), IntKind.wrap .i64 (q1 + 1)))) else some (.brk (q0, q1))
def M108_L0 (fuel : Nat) (y6 : (Ar 64)) (y0 : (List Int)) (q0 : Ar 8) (q1 : Int) : Option (Lp ((Ar 8) × Int) (Id32)) :=
 if (decide (q1 < (y0.length : Int))) = true then (after (loopM (fun s => M108_L2 fuel y0 q1 s.1 s.2) fuel ((arZ 64), 0)) fun ⟨r0, r1⟩ => after (loopM (fun s => M108_L6 fuel y6 r0 s.1 s.2) fuel (q0, 0)) fun ⟨r2, r3⟩ => after (loopM (fun s => M108_L8 fuel r2 s.1 s.2) fuel (q0, 0)) fun ⟨r4, r5⟩ => some (.go (r4, IntKind.wrap .i64 (q1 + 64)))) else some (.brk (q0, q1))
def M108_L10 (fuel : Nat) (r0 : Ar 8) (q0 : Id32) (q1 : Int) : Option (Lp (Id32 × Int) (Id32)) :=
 if (decide (q1 < 32)) = true then ((ix r0.1 (IntKind.wrap .i64 (q1.tdiv 4))).bind fun x0 => grd (decide (0 ≤ (IntKind.wrap .u64 (IntKind.wrap .i64 (24 - (IntKind.wrap .i64 (8 * (q1.tmod 4)))))))) <| (ix q0.1 q1).bind fun _ => some (.go (arU q0 q1.toNat (IntKind.wrap .u8 (x0.fdiv (2 ^ (min ((IntKind.wrap .u64 (IntKind.wrap .i64 (24 - (IntKind.wrap .i64 (8 * (q1.tmod 4)))))) : Int).toNat (IntKind.bits .u32))))), IntKind.wrap .i64 (q1 + 1)))) else some (.brk (q0, q1))
def M108 (fuel : Nat) (p0 : List Int) : Option (Id32) :=
 (M132 fuel).bind fun y6 => (M133 fuel p0).bind fun y0 => after (loopM (fun s => M108_L0 fuel y6 y0 s.1 s.2) fuel ((⟨[1779033703, 3144134277, 1013904242, 2773480762, 1359893119, 2600822924, 528734635, 1541459225], rfl⟩ : Ar 8), 0)) fun ⟨r0, r1⟩ => after (loopM (fun s => M108_L10 fuel r0 s.1 s.2) fuel (idZ, 0)) fun ⟨r2, r3⟩ => some r2
set_option maxHeartbeats 4000000 in
set_option maxRecDepth 100000 in
theorem W108 {fuel : Nat} {p0 : List Int} {o : Id32} (h : Heap) (hm : M108 fuel p0 = some o) :
 ACalls Try.prog 108 [.sl none 1 (List.map c_u8 p0)] h (fun r h' => r = .agg (c_id o) ∧ h' = h) := by
 refine ACv 208 [.cell 2 61] Try.func108 rfl rfl rfl rfl ?_
 unfold M108 at hm
 refine v ?_
 refine ve fun hk => a_alloc (c_id idZ) hk zr61 rfl rfl fun k2 hk3 => qk hk3 rfl ?_
 refine v ?_
 refine vk W132 bd132 hm rfl rfl fun y6 hm => ?_
 refine ve fun hk => a_alloc (c_arr64_u32 (arZ 64)) hk zr172 rfl rfl fun k8 hk9 => qk hk9 rfl ?_
 refine ve fun hk => a_store 0 (c_arr64_u32 y6) hk rfl rfl rfl rfl sz172 rfl rfl fun hk0 => qk hk0 rfl ?_
 refine v (vn (fun _ => o_bldar [1779033703, 3144134277, 1013904242, 2773480762, 1359893119, 2600822924, 528734635, 1541459225] rfl bta174 rfl rfl rfl) ?_)
 refine ve fun hk => a_alloc (c_arr8_u32 (arZ 8)) hk zr174 rfl rfl fun k13 hk1 => qk hk1 rfl ?_
 refine ve fun hk => a_store 0 (c_arr8_u32 (⟨[1779033703, 3144134277, 1013904242, 2773480762, 1359893119, 2600822924, 528734635, 1541459225], rfl⟩ : Ar 8)) hk rfl rfl rfl rfl sz174 rfl rfl fun hk2 => qk hk2 rfl ?_
 refine v ?_
 refine vk W133 bd133 hm rfl rfl fun y0 hm => ?_
 refine v ?_
 refine vlpH hm (σ := (Ar 8) × Int) (τ := Unit) (fun g s => [(some k13, .obj 174 (c_arr8_u32 s.1)), (some k8, .obj 172 (c_arr64_u32 y6)), (some k2, .obj 61 (c_id idZ))]) (fun g s => .c 2 (.ptr k2 0) (.c 3 (.ptr k8 0) (.c 4 (.ptr k13 0) (.c 5 (.sl none 1 (List.map c_u8 y0)) (.c 6 (.sc (.int .i64 s.2)) .nil))))) () (lx (.k5 .nil)) ?_ ?_
 rintro _ ⟨q0, q1⟩ x hm
 replace hm : M108_L0 fuel y6 y0 q0 q1 = some x := hm
 unfold M108_L0 at hm
 refine v (vln ln52 rfl (v ?_))
 refine vi hm (fun hc0 hm => ?_) fun hc0 hm => ?_
 refine v (v (v ?_))
 refine ve fun hk => a_alloc (c_arr64_u32 (arZ 64)) hk zr172 rfl rfl fun k1783 hk4 => qk hk4 rfl ?_
 refine v ?_
 refine vlpH hm (σ := (Ar 64) × Int) (τ := Unit) (fun g s => [(some k1783, .obj 172 (c_arr64_u32 s.1)), (some k13, .obj 174 (c_arr8_u32 q0)), (some k8, .obj 172 (c_arr64_u32 y6)), (some k2, .obj 61 (c_id idZ))]) (fun g s => .c 2 (.ptr k2 0) (.c 3 (.ptr k8 0) (.c 4 (.ptr k13 0) (.c 5 (.sl none 1 (List.map c_u8 y0)) (.c 6 (.sc (.int .i64 q1)) (.c 7 (.ptr k1783 0) (.c 8 (.sc (.int .i64 s.2)) .nil))))))) () (lx (.k7 .nil)) ?_ ?_
 rintro _ ⟨q2, q3⟩ x hm
 replace hm : M108_L2 fuel y0 q1 q2 q3 = some x := hm
 unfold M108_L2 at hm
 refine v (v ?_)
 refine vi hm (fun hc1 hm => ?_) fun hc1 hm => ?_
 refine v (vs ?_)
 refine vjnH hm (σ := (Ar 64)) (τ := Unit) (fun g s => [(some k1783, .obj 172 (c_arr64_u32 s)), (some k13, .obj 174 (c_arr8_u32 q0)), (some k8, .obj 172 (c_arr64_u32 y6)), (some k2, .obj 61 (c_id idZ))]) (fun g s => .c 2 (.ptr k2 0) (.c 3 (.ptr k8 0) (.c 4 (.ptr k13 0) (.c 5 (.sl none 1 (List.map c_u8 y0)) (.c 6 (.sc (.int .i64 q1)) (.c 7 (.ptr k1783 0) (.c 8 (.sc (.int .i64 q3)) .nil))))))) (fun x hm => ?_) ?_
 refine v (v (v ?_))
 refine vi hm (fun hc2 hm => ?_) fun hc2 hm => ?_
 refine v ?_
 refine vlpH hm (σ := (Ar 64) × Int) (τ := Unit) (fun g s => [(some k1783, .obj 172 (c_arr64_u32 s.1)), (some k13, .obj 174 (c_arr8_u32 q0)), (some k8, .obj 172 (c_arr64_u32 y6)), (some k2, .obj 61 (c_id idZ))]) (fun g s => .c 2 (.ptr k2 0) (.c 3 (.ptr k8 0) (.c 4 (.ptr k13 0) (.c 5 (.sl none 1 (List.map c_u8 y0)) (.c 6 (.sc (.int .i64 q1)) (.c 7 (.ptr k1783 0) (.c 8 (.sc (.int .i64 q3)) (.c 9 (.sc (.int .i64 s.2)) .nil)))))))) () (lx (.k8 .nil)) ?_ ?_
 rintro _ ⟨q4, q5⟩ x hm
 replace hm : M108_L4 fuel y0 q1 q3 q4 q5 = some x := hm
 unfold M108_L4 at hm
 refine v (v ?_)
 refine vi hm (fun hc3 hm => ?_) fun hc3 hm => ?_
 refine v (v (v ?_))
 refine vz [(17, some k1783, .obj 172 (c_arr64_u32 q4))] mixed (fun hk => ⟨fun _ => hp_at 0 hk rfl, trivial⟩) fun hk => ?_
 refine z_w 0 rfl (fun S' h' hi hB => o_mv (.sc (.int _ _)) rfl) ?_
 refine z_w 1 rfl (fun S' h' hi hB => o_mv (.sc (.int _ _)) rfl) ?_
 obtain ⟨x0, hx0, hm⟩ := Zc hm
 refine z_w 2 rfl (fun S' h' hi hB => o_ixarp (y := q4) hx0 ar172 rfl rfl) ?_
 refine z_w 3 rfl (fun S' h' hi hB => o_ldarp (y := q4) 0 hx0 ld171 rfl (At.s (InvL.get 0 hi rfl (hB 17 (by kernel_rfl)))) (take_cA _)) ?_
 refine z_w 4 rfl (fun S' h' hi hB => o_sh rfl rfl rfl (by decide)) ?_
 refine z_w 5 rfl (fun S' h' hi hB => o_mv (.sl _ _ _) rfl) ?_
 refine z_w 6 rfl (fun S' h' hi hB => o_mv (.sc (.int _ _)) rfl) ?_
 refine z_w 7 rfl (fun S' h' hi hB => o_mv (.sc (.int _ _)) rfl) ?_
 refine z_w 8 rfl (fun S' h' hi hB => o_bi rfl rfl rfl trivial) ?_
 refine z_w 9 rfl (fun S' h' hi hB => o_bi rfl rfl rfl trivial) ?_
 refine z_w 10 rfl (fun S' h' hi hB => o_mv (.sc (.int _ _)) rfl) ?_
 refine z_w 11 rfl (fun S' h' hi hB => o_bi rfl rfl rfl trivial) ?_
 obtain ⟨x1, hx1, hm⟩ := Zc hm
 refine z_w 12 rfl (fun S' h' hi hB => o_ix hx1 el52 rfl rfl) ?_
 refine z_w 13 rfl (fun S' h' hi hB => o_ld (.sc (.int .u8 x1)) ld5 rfl rfl) ?_
 refine z_w 14 rfl (fun S' h' hi hB => o_cv ti5 ti171 rfl) ?_
 refine z_w 15 rfl (fun S' h' hi hB => o_bi rfl rfl rfl trivial) ?_
 obtain ⟨_, hx2, hm⟩ := Zc hm
 refine z_w 16 rfl (fun S' h' hi hB => o_ixarp (y := q4) hx2 ar172 rfl rfl) ?_
 refine z_e 17 rfl (by kernel_rfl) (a_starp (y := q4) (v := bitsV .or .u32 (IntKind.wrap .u32 (x0 * 2 ^ (min (8 : Int).toNat (IntKind.bits .u32)))) (IntKind.wrap .u32 x1)) 0 hk hx2 rfl rfl rfl sz171 fun hk5 => ⟨⟨fun e => absurd e (by decide), trivial⟩, ?_⟩)
 refine z_nil (by kernel_rfl) (qk (f := .c 57 _ (.c 56 _ (.c 55 _ (.c 54 _ (.c 53 _ (.c 52 _ (.c 51 _ (.c 50 _ (.c 49 _ (.c 48 _ (.c 47 _ (.c 46 _ (.c 45 _ (.c 44 _ (.c 43 _ (.c 42 _ (.c 41 _ _))))))))))))))))) hk5 rfl ?_)
 refine v ?_
 exact vgo hm () trivial (lx (.k8 .nil))
 refine v ?_
 exact vbk hm () trivial (lx (.k8 .nil))
 rintro _ ⟨r0, r1⟩ hm
 refine v ?_
 exact vgo hm () trivial (lx (.k7 .nil))
 refine v (v (vq (by kernel_rfl) ?_))
 obtain ⟨x2, hx3, hm⟩ := Zc hm
 refine vn (fun _ => o_ixarp (y := q2) hx3 ar172 rfl rfl) (vn (fun hk => o_ldarp (y := q2) 0 hx3 ld171 rfl (Zd 0 hk rfl) (take_cA _)) ?_)
 obtain ⟨x3, hx4, hm⟩ := Zc hm
 refine vn (fun _ => o_ixarp (y := q2) hx4 ar172 rfl rfl) (vn (fun hk => o_ldarp (y := q2) 0 hx4 ld171 rfl (Zd 0 hk rfl) (take_cA _)) (v ?_))
 refine vz [(29, some k1783, .obj 172 (c_arr64_u32 q2))] mixed (fun hk => ⟨fun _ => hp_at 0 hk rfl, trivial⟩) fun hk => ?_
 refine z_w 0 rfl (fun S' h' hi hB => o_mv (.sc (.int _ _)) rfl) ?_
 refine z_w 1 rfl (fun S' h' hi hB => o_mv (.sc (.int _ _)) rfl) ?_
 refine z_w 2 rfl (fun S' h' hi hB => o_bi rfl rfl rfl trivial) ?_
 obtain ⟨x4, hx5, hm⟩ := Zc hm
 refine z_w 3 rfl (fun S' h' hi hB => o_ixarp (y := q2) hx5 ar172 rfl rfl) ?_
 refine z_w 4 rfl (fun S' h' hi hB => o_ldarp (y := q2) 0 hx5 ld171 rfl (At.s (InvL.get 0 hi rfl (hB 29 (by kernel_rfl)))) (take_cA _)) ?_
 refine z_w 5 rfl (fun S' h' hi hB => o_mv (.sc (.int _ _)) rfl) ?_
 refine z_w 6 rfl (fun S' h' hi hB => o_bi rfl rfl rfl trivial) ?_
 obtain ⟨x5, hx6, hm⟩ := Zc hm
 refine z_w 7 rfl (fun S' h' hi hB => o_ixarp (y := q2) hx6 ar172 rfl rfl) ?_
 refine z_w 8 rfl (fun S' h' hi hB => o_ldarp (y := q2) 0 hx6 ld171 rfl (At.s (InvL.get 0 hi rfl (hB 29 (by kernel_rfl)))) (take_cA _)) ?_
 refine z_w 9 rfl (fun S' h' hi hB => o_bi rfl rfl rfl trivial) ?_
 refine z_w 10 rfl (fun S' h' hi hB => o_mv (.sc (.int _ _)) rfl) ?_
 obtain ⟨y1, hy0, hm⟩ := Zc hm
 refine z_w 11 rfl (fun S' h' hi hB => o_call (W134 _ hy0) rfl bd134 rfl) ?_
 refine z_w 12 rfl (fun S' h' hi hB => o_mv (.sc (.int _ _)) rfl) ?_
 obtain ⟨y2, hy1, hm⟩ := Zc hm
 refine z_w 13 rfl (fun S' h' hi hB => o_call (W134 _ hy1) rfl bd134 rfl) ?_
 refine z_w 14 rfl (fun S' h' hi hB => o_bi rfl rfl rfl trivial) ?_
 refine z_w 15 rfl (fun S' h' hi hB => o_mv (.sc (.int _ _)) rfl) ?_
 refine z_w 16 rfl (fun S' h' hi hB => o_sh rfl rfl rfl (by decide)) ?_
 refine z_w 17 rfl (fun S' h' hi hB => o_bi rfl rfl rfl trivial) ?_
 refine z_w 18 rfl (fun S' h' hi hB => o_bi rfl rfl rfl trivial) ?_
 refine z_w 19 rfl (fun S' h' hi hB => o_mv (.sc (.int _ _)) rfl) ?_
 obtain ⟨y3, hy2, hm⟩ := Zc hm
 refine z_w 20 rfl (fun S' h' hi hB => o_call (W134 _ hy2) rfl bd134 rfl) ?_
 refine z_w 21 rfl (fun S' h' hi hB => o_mv (.sc (.int _ _)) rfl) ?_
 obtain ⟨y4, hy3, hm⟩ := Zc hm
 refine z_w 22 rfl (fun S' h' hi hB => o_call (W134 _ hy3) rfl bd134 rfl) ?_
 refine z_w 23 rfl (fun S' h' hi hB => o_bi rfl rfl rfl trivial) ?_
 refine z_w 24 rfl (fun S' h' hi hB => o_mv (.sc (.int _ _)) rfl) ?_
 refine z_w 25 rfl (fun S' h' hi hB => o_sh rfl rfl rfl (by decide)) ?_
 refine z_w 26 rfl (fun S' h' hi hB => o_bi rfl rfl rfl trivial) ?_
 refine z_w 27 rfl (fun S' h' hi hB => o_bi rfl rfl rfl trivial) ?_
 obtain ⟨_, hx7, hm⟩ := Zc hm
 refine z_w 28 rfl (fun S' h' hi hB => o_ixarp (y := q2) hx7 ar172 rfl rfl) ?_
 refine z_e 29 rfl (by kernel_rfl) (a_starp (y := q2) (v := IntKind.wrap .u32 ((IntKind.wrap .u32 ((IntKind.wrap .u32 (x4 + x5)) + (bitsV .xor .u32 (bitsV .xor .u32 y1 y2) (x2.fdiv (2 ^ (min (3 : Int).toNat (IntKind.bits .u32))))))) + (bitsV .xor .u32 (bitsV .xor .u32 y3 y4) (x3.fdiv (2 ^ (min (10 : Int).toNat (IntKind.bits .u32))))))) 0 hk hx7 rfl rfl rfl sz171 fun hk6 => ⟨⟨fun e => absurd e (by decide), trivial⟩, ?_⟩)
 refine z_nil (by kernel_rfl) (qk (f := .c 94 _ (.c 93 _ (.c 92 _ (.c 91 _ (.c 90 _ (.c 89 _ (.c 88 _ (.c 87 _ (.c 86 _ (.c 85 _ (.c 84 _ (.c 83 _ (.c 82 _ (.c 81 _ (.c 80 _ (.c 79 _ (.c 78 _ (.c 77 _ (.c 76 _ (.c 75 _ (.c 74 _ (.c 73 _ (.c 72 _ (.c 71 _ (.c 70 _ (.c 69 _ (.c 68 _ (.c 67 _ (.c 66 _ _))))))))))))))))))))))))))))) hk6 rfl ?_)
 exact vgo hm () trivial (lx (.k7 .nil))
 rintro _ j0 hm
 refine v ?_
 exact vgo hm () trivial (lx (.k7 .nil))
 refine v ?_
 exact vbk hm () trivial (lx (.k7 .nil))
 rintro _ ⟨r2, r3⟩ hm
 refine v (vl 1 (.agg (c_arr8_u32 q0)) ld174 rfl rfl rfl ?_)
 refine ve fun hk => a_alloc (c_arr8_u32 (arZ 8)) hk zr174 rfl rfl fun k2413 hk7 => qk hk7 rfl ?_
 refine ve fun hk => a_store 0 (c_arr8_u32 q0) hk rfl rfl rfl rfl sz174 rfl rfl fun hk8 => qk hk8 rfl ?_
 refine v ?_
 refine vlpH hm (σ := (Ar 8) × Int) (τ := Unit) (fun g s => [(some k2413, .obj 174 (c_arr8_u32 s.1)), (some k1783, .obj 172 (c_arr64_u32 r2)), (some k13, .obj 174 (c_arr8_u32 q0)), (some k8, .obj 172 (c_arr64_u32 y6)), (some k2, .obj 61 (c_id idZ))]) (fun g s => .c 2 (.ptr k2 0) (.c 3 (.ptr k8 0) (.c 4 (.ptr k13 0) (.c 5 (.sl none 1 (List.map c_u8 y0)) (.c 6 (.sc (.int .i64 q1)) (.c 7 (.ptr k1783 0) (.c 12 (.ptr k2413 0) (.c 13 (.sc (.int .i64 s.2)) .nil)))))))) () (lx (.k8 .nil)) ?_ ?_
 rintro _ ⟨q6, q7⟩ x hm
 replace hm : M108_L6 fuel y6 r2 q6 q7 = some x := hm
 unfold M108_L6 at hm
 refine v (v ?_)
 refine vi hm (fun hc4 hm => ?_) fun hc4 hm => ?_
 refine v (v (v (vq (by kernel_rfl) ?_)))
 obtain ⟨x6, hx8, hm⟩ := Zc hm
 refine vn (fun _ => o_ixarp (y := q6) hx8 ar174 rfl rfl) (vn (fun hk => o_ldarp (y := q6) 0 hx8 ld171 rfl (Zd 0 hk rfl) (take_cA _)) ?_)
 obtain ⟨x7, hx9, hm⟩ := Zc hm
 refine vn (fun _ => o_ixarp (y := q6) hx9 ar174 rfl rfl) (vn (fun hk => o_ldarp (y := q6) 0 hx9 ld171 rfl (Zd 0 hk rfl) (take_cA _)) (v (vq (by kernel_rfl) ?_)))
 obtain ⟨x8, hx10, hm⟩ := Zc hm
 refine vn (fun _ => o_ixarp (y := q6) hx10 ar174 rfl rfl) (vn (fun hk => o_ldarp (y := q6) 0 hx10 ld171 rfl (Zd 0 hk rfl) (take_cA _)) ?_)
 refine vk W134 bd134 hm rfl rfl fun y5 hm => ?_
 refine vk W134 bd134 hm rfl rfl fun y7 hm => ?_
 refine vk W134 bd134 hm rfl rfl fun y8 hm => ?_
 obtain ⟨x9, hx11, hm⟩ := Zc hm
 refine vn (fun _ => o_ixarp (y := q6) hx11 ar174 rfl rfl) (vn (fun hk => o_ldarp (y := q6) 0 hx11 ld171 rfl (Zd 0 hk rfl) (take_cA _)) (vn (fun _ => o_inv rfl rfl) ?_))
 obtain ⟨x10, hx12, hm⟩ := Zc hm
 refine vn (fun _ => o_ixarp (y := q6) hx12 ar174 rfl rfl) (vn (fun hk => o_ldarp (y := q6) 0 hx12 ld171 rfl (Zd 0 hk rfl) (take_cA _)) ?_)
 obtain ⟨x11, hx13, hm⟩ := Zc hm
 refine vn (fun _ => o_ixarp (y := y6) hx13 ar172 rfl rfl) (vn (fun hk => o_ldarp (y := y6) 0 hx13 ld171 rfl (Zd 3 hk rfl) (take_cA _)) ?_)
 obtain ⟨x12, hx14, hm⟩ := Zc hm
 refine vn (fun _ => o_ixarp (y := r2) hx14 ar172 rfl rfl) (vn (fun hk => o_ldarp (y := r2) 0 hx14 ld171 rfl (Zd 1 hk rfl) (take_cA _)) (v (vq (by kernel_rfl) ?_)))
 refine vk W134 bd134 hm rfl rfl fun y9 hm => ?_
 refine vk W134 bd134 hm rfl rfl fun y10 hm => ?_
 refine vk W134 bd134 hm rfl rfl fun y11 hm => ?_
 obtain ⟨x13, hx15, hm⟩ := Zc hm
 refine vn (fun _ => o_ixarp (y := q6) hx15 ar174 rfl rfl) (vn (fun hk => o_ldarp (y := q6) 0 hx15 ld171 rfl (Zd 0 hk rfl) (take_cA _)) ?_)
 obtain ⟨x14, hx16, hm⟩ := Zc hm
 refine vn (fun _ => o_ixarp (y := q6) hx16 ar174 rfl rfl) (vn (fun hk => o_ldarp (y := q6) 0 hx16 ld171 rfl (Zd 0 hk rfl) (take_cA _)) ?_)
 obtain ⟨x15, hx17, hm⟩ := Zc hm
 refine vn (fun _ => o_ixarp (y := q6) hx17 ar174 rfl rfl) (vn (fun hk => o_ldarp (y := q6) 0 hx17 ld171 rfl (Zd 0 hk rfl) (take_cA _)) ?_)
 obtain ⟨x16, hx18, hm⟩ := Zc hm
 refine vn (fun _ => o_ixarp (y := q6) hx18 ar174 rfl rfl) (vn (fun hk => o_ldarp (y := q6) 0 hx18 ld171 rfl (Zd 0 hk rfl) (take_cA _)) (v ?_))
 obtain ⟨x17, hx19, hm⟩ := Zc hm
 refine vn (fun _ => o_ixarp (y := q6) hx19 ar174 rfl rfl) (vn (fun hk => o_ldarp (y := q6) 0 hx19 ld171 rfl (Zd 0 hk rfl) (take_cA _)) ?_)
 obtain ⟨x18, hx20, hm⟩ := Zc hm
 refine vn (fun _ => o_ixarp (y := q6) hx20 ar174 rfl rfl) (vn (fun hk => o_ldarp (y := q6) 0 hx20 ld171 rfl (Zd 0 hk rfl) (take_cA _)) ?_)
 obtain ⟨x19, hx21, hm⟩ := Zc hm
 refine vn (fun _ => o_ixarp (y := q6) hx21 ar174 rfl rfl) (vn (fun hk => o_ldarp (y := q6) 0 hx21 ld171 rfl (Zd 0 hk rfl) (take_cA _)) ?_)
 obtain ⟨x20, hx22, hm⟩ := Zc hm
 refine vn (fun _ => o_ixarp (y := q6) hx22 ar174 rfl rfl) (vn (fun hk => o_ldarp (y := q6) 0 hx22 ld171 rfl (Zd 0 hk rfl) (take_cA _)) ?_)
 obtain ⟨x21, hx23, hm⟩ := Zc hm
 refine vn (fun _ => o_ixarp (y := q6) hx23 ar174 rfl rfl) (vn (fun hk => o_ldarp (y := q6) 0 hx23 ld171 rfl (Zd 0 hk rfl) (take_cA _)) ?_)
 obtain ⟨x22, hx24, hm⟩ := Zc hm
 refine vn (fun _ => o_ixarp (y := q6) hx24 ar174 rfl rfl) (vn (fun hk => o_ldarp (y := q6) 0 hx24 ld171 rfl (Zd 0 hk rfl) (take_cA _)) ?_)
 obtain ⟨x23, hx25, hm⟩ := Zc hm
 refine vn (fun _ => o_ixarp (y := q6) hx25 ar174 rfl rfl) (vn (fun hk => o_ldarp (y := q6) 0 hx25 ld171 rfl (Zd 0 hk rfl) (take_cA _)) (vn (fun _ => o_bldar [IntKind.wrap .u32 ((IntKind.wrap .u32 ((IntKind.wrap .u32 ((IntKind.wrap .u32 ((IntKind.wrap .u32 (x8 + (bitsV .xor .u32 (bitsV .xor .u32 y5 y7) y8))) + (bitsV .xor .u32 (bitsV .and .u32 x7 x9) (bitsV .and .u32 (bitsV .xor .u32 (IntKind.max .u32) x7) x10)))) + x11)) + x12)) + (IntKind.wrap .u32 ((bitsV .xor .u32 (bitsV .xor .u32 y9 y10) y11) + (bitsV .xor .u32 (bitsV .xor .u32 (bitsV .and .u32 x6 x13) (bitsV .and .u32 x6 x14)) (bitsV .and .u32 x15 x16))))), x17, x18, x19, IntKind.wrap .u32 (x20 + (IntKind.wrap .u32 ((IntKind.wrap .u32 ((IntKind.wrap .u32 ((IntKind.wrap .u32 (x8 + (bitsV .xor .u32 (bitsV .xor .u32 y5 y7) y8))) + (bitsV .xor .u32 (bitsV .and .u32 x7 x9) (bitsV .and .u32 (bitsV .xor .u32 (IntKind.max .u32) x7) x10)))) + x11)) + x12))), x21, x22, x23] rfl bta174 rfl rfl rfl) ?_))
 refine ve fun hk => a_store 0 (c_arr8_u32 (⟨[IntKind.wrap .u32 ((IntKind.wrap .u32 ((IntKind.wrap .u32 ((IntKind.wrap .u32 ((IntKind.wrap .u32 (x8 + (bitsV .xor .u32 (bitsV .xor .u32 y5 y7) y8))) + (bitsV .xor .u32 (bitsV .and .u32 x7 x9) (bitsV .and .u32 (bitsV .xor .u32 (IntKind.max .u32) x7) x10)))) + x11)) + x12)) + (IntKind.wrap .u32 ((bitsV .xor .u32 (bitsV .xor .u32 y9 y10) y11) + (bitsV .xor .u32 (bitsV .xor .u32 (bitsV .and .u32 x6 x13) (bitsV .and .u32 x6 x14)) (bitsV .and .u32 x15 x16))))), x17, x18, x19, IntKind.wrap .u32 (x20 + (IntKind.wrap .u32 ((IntKind.wrap .u32 ((IntKind.wrap .u32 ((IntKind.wrap .u32 (x8 + (bitsV .xor .u32 (bitsV .xor .u32 y5 y7) y8))) + (bitsV .xor .u32 (bitsV .and .u32 x7 x9) (bitsV .and .u32 (bitsV .xor .u32 (IntKind.max .u32) x7) x10)))) + x11)) + x12))), x21, x22, x23], rfl⟩ : Ar 8)) hk rfl rfl rfl rfl sz174 rfl rfl fun hk10 => qk hk10 rfl ?_
 refine v ?_
 exact vgo hm () trivial (lx (.k8 .nil))
 refine v ?_
 exact vbk hm () trivial (lx (.k8 .nil))
 rintro _ ⟨r4, r5⟩ hm
 refine v ?_
 refine vlpH hm (σ := (Ar 8) × Int) (τ := Unit) (fun g s => [(some k2413, .obj 174 (c_arr8_u32 r4)), (some k1783, .obj 172 (c_arr64_u32 r2)), (some k13, .obj 174 (c_arr8_u32 s.1)), (some k8, .obj 172 (c_arr64_u32 y6)), (some k2, .obj 61 (c_id idZ))]) (fun g s => .c 2 (.ptr k2 0) (.c 3 (.ptr k8 0) (.c 4 (.ptr k13 0) (.c 5 (.sl none 1 (List.map c_u8 y0)) (.c 6 (.sc (.int .i64 q1)) (.c 12 (.ptr k2413 0) (.c 18 (.sc (.int .i64 s.2)) .nil))))))) () (lx (.k7 .nil)) ?_ ?_
 rintro _ ⟨q8, q9⟩ x hm
 replace hm : M108_L8 fuel r4 q8 q9 = some x := hm
 unfold M108_L8 at hm
 refine v (v ?_)
 refine vi hm (fun hc5 hm => ?_) fun hc5 hm => ?_
 refine v (v (v ?_))
 refine vz [(8, some k13, .obj 174 (c_arr8_u32 q8)), (1000000, some k2413, .obj 174 (c_arr8_u32 r4))] mixed (fun hk => ⟨fun _ => hp_at 2 hk rfl, fun _ => hp_at 0 hk rfl, trivial⟩) fun hk => ?_
 refine z_w 0 rfl (fun S' h' hi hB => o_mv (.sc (.int _ _)) rfl) ?_
 obtain ⟨x24, hx26, hm⟩ := Zc hm
 refine z_w 1 rfl (fun S' h' hi hB => o_ixarp (y := q8) hx26 ar174 rfl rfl) ?_
 refine z_w 2 rfl (fun S' h' hi hB => o_ldarp (y := q8) 0 hx26 ld171 rfl (At.s (InvL.get 0 hi rfl (hB 8 (by kernel_rfl)))) (take_cA _)) ?_
 refine z_w 3 rfl (fun S' h' hi hB => o_mv (.sc (.int _ _)) rfl) ?_
 obtain ⟨x25, hx27, hm⟩ := Zc hm
 refine z_w 4 rfl (fun S' h' hi hB => o_ixarp (y := r4) hx27 ar174 rfl rfl) ?_
 refine z_w 5 rfl (fun S' h' hi hB => o_ldarp (y := r4) 0 hx27 ld171 rfl (At.s (InvL.get 1 hi rfl (hB 1000000 (by kernel_rfl)))) (take_cA _)) ?_
 refine z_w 6 rfl (fun S' h' hi hB => o_bi rfl rfl rfl trivial) ?_
 obtain ⟨_, hx28, hm⟩ := Zc hm
 refine z_w 7 rfl (fun S' h' hi hB => o_ixarp (y := q8) hx28 ar174 rfl rfl) ?_
 refine z_e 8 rfl (by kernel_rfl) (a_starp (y := q8) (v := IntKind.wrap .u32 (x24 + x25)) 2 hk hx28 rfl rfl rfl sz171 fun hk12 => ⟨⟨fun e => absurd e (by decide), fun _ => hp_at 0 hk12 rfl, trivial⟩, ?_⟩)
 refine z_nil (by kernel_rfl) (qk (f := .c 189 _ (.c 188 _ (.c 187 _ (.c 186 _ (.c 185 _ (.c 184 _ (.c 183 _ (.c 182 _ _)))))))) hk12 rfl ?_)
 refine v ?_
 exact vgo hm () trivial (lx (.k7 .nil))
 refine v ?_
 exact vbk hm () trivial (lx (.k7 .nil))
 rintro _ ⟨r6, r7⟩ hm
 refine v ?_
 exact vgo hm () trivial (lxs [2, 3, 4] rfl rfl (.k5 .nil))
 refine v ?_
 exact vbk hm () trivial (lx (.k5 .nil))
 rintro _ ⟨r8, r9⟩ hm
 refine v ?_
 refine ve fun hk => a_alloc (c_id idZ) hk zr61 rfl rfl fun k2657 hk13 => qk hk13 rfl ?_
 refine v ?_
 refine vlpH hm (σ := Id32 × Int) (τ := Unit) (fun g s => [(some k2657, .obj 61 (c_id s.1)), (some k13, .obj 174 (c_arr8_u32 r8)), (some k8, .obj 172 (c_arr64_u32 y6)), (some k2, .obj 61 (c_id idZ))]) (fun g s => .c 2 (.ptr k2 0) (.c 4 (.ptr k13 0) (.c 19 (.ptr k2657 0) (.c 20 (.sc (.int .i64 s.2)) .nil)))) () (lx (.k4 .nil)) ?_ ?_
 rintro _ ⟨q10, q11⟩ x hm
 replace hm : M108_L10 fuel r8 q10 q11 = some x := hm
 unfold M108_L10 at hm
 refine v (v ?_)
 refine vi hm (fun hc6 hm => ?_) fun hc6 hm => ?_
 refine v (v (v ?_))
 obtain ⟨x26, hx29, hm⟩ := Zc hm
 refine vn (fun _ => o_ixarp (y := r8) hx29 ar174 rfl rfl) (vn (fun hk => o_ldarp (y := r8) 0 hx29 ld171 rfl (Zd 1 hk rfl) (take_cA _)) ?_)
 refine vgr hm fun _ hm => ?_
 obtain ⟨_, hx30, hm⟩ := Zc hm
 refine vn (fun _ => o_ixidp hx30 ar61 rfl rfl) ?_
 refine ve fun hk => a_starp (y := q10) (v := IntKind.wrap .u8 (x26.fdiv (2 ^ (min ((IntKind.wrap .u64 (IntKind.wrap .i64 (24 - (IntKind.wrap .i64 (8 * (q11.tmod 4)))))) : Int).toNat (IntKind.bits .u32))))) 0 hk hx30 rfl rfl rfl sz5 fun hk15 => qk hk15 rfl ?_
 refine v ?_
 exact vgo hm () trivial (lx (.k4 .nil))
 refine v ?_
 exact vbk hm () trivial (lx (.k4 .nil))
 rintro _ ⟨r10, r11⟩ hm
 refine v (vl 0 (.agg (c_id r10)) ld61 rfl rfl rfl ?_)
 refine ve fun hk => a_store 3 (c_id r10) hk rfl rfl rfl rfl sz61 rfl rfl fun hk17 => qk hk17 rfl ?_
 refine v ?_
 injection hm with hm; subst hm
 exact vr fun hk => Ret.of1 (.inl rfl) (rsC (.agg (c_id r10)) ld61 rfl (Zd 3 hk rfl) rfl) (hp_sub (List.nil_sublist _) hk).1 (ALe.refl _ _) ⟨rfl, rfl⟩
theorem bd108 : bodied Try.prog 108 = true := by kernel_rfl
open Go.Vm
def M130_L0 (fuel : Nat) (p0 : List TFile) (q0 : Int) : Option (Lp (Int) (Int)) :=
 if (decide (q0 < (p0.length : Int))) = true then (after ((ix p0 q0).bind fun x0 => (M104 fuel x0.Path).bind fun y0 => if (!y0) = true then (some (.brk true)) else if (decide (0 < q0)) = true then ((ix p0 q0).bind fun x1 => (ix p0 (IntKind.wrap .i64 (q0 - 1))).bind fun x2 => some (.brk (Op.bytesLess x1.Path.toList x2.Path.toList || x1.Path.toList == x2.Path.toList))) else some (.brk false) : Option (Lp (Bool) (Lp (Int) (Int)))) fun j0 => if j0 = true then (some (.ret 1)) else some (.go (IntKind.wrap .i64 (q0 + 1)))) else some (.brk q0)
def M130 (fuel : Nat) (p0 : List TFile) : Option (Int) :=
 (M129 fuel p0).bind fun y4 => if y4 = true then (some 2) else after (loopM (fun s => M130_L0 fuel p0 s) fuel 0) fun r0 => some 0
set_option maxHeartbeats 4000000 in
set_option maxRecDepth 100000 in
theorem W130 {fuel : Nat} {p0 : List TFile} {o : Int} (h : Heap) (hm : M130 fuel p0 = some o) :
 ACalls Try.prog 130 [.sl none 2 (List.map c_File p0)] h (fun r h' => r = .sc (.int .i64 o) ∧ h' = h) := by
 refine ACv 37 [.tmp 2] Try.func130 rfl rfl rfl rfl ?_
 unfold M130 at hm
 refine v (v ?_)
 refine vk W129 bd129 hm rfl rfl fun _ hm => ?_
 refine v ?_
 refine vi hm (fun hc6 hm => ?_) fun hc6 hm => ?_
 refine v (v ?_)
 injection hm with hm; subst hm
 exact vr1 rfl
 refine v (v ?_)
 refine vlpH hm (σ := Int) (τ := Unit) (fun g s => []) (fun g s => .c 0 (.sl none 2 (List.map c_File p0)) (.c 3 (.sc (.int .i64 s)) .nil)) () (lx (.k2 .nil)) ?_ ?_
 rintro _ q0 x hm
 replace hm : M130_L0 fuel p0 q0 = some x := hm
 unfold M130_L0 at hm
 refine v (vln ln100 rfl (v ?_))
 refine vi hm (fun hc0 hm => ?_) fun hc0 hm => ?_
 refine v (v (vs ?_))
 refine vjnH hm (σ := Bool) (τ := Unit) (fun g s => []) (fun g s => .c 0 (.sl none 2 (List.map c_File p0)) (.c 3 (.sc (.int .i64 q0)) (.c 36 (.sc (.bool s)) .nil))) (fun x hm => ?_) ?_
 refine v (vq (by kernel_rfl) ?_)
 refine vx hm el100 rfl rfl fun _ _ hm => ?_
 refine vk W104 bd104 hm rfl rfl fun _ hm => ?_
 refine vi hm (fun hb0 hm => ?_) fun hb0 hm => ?_
 rw [hb0]
 exact vgo hm () trivial (lx (.k3 .nil))
 rw [hb0]
 refine vi hm (fun hb1 hm => ?_) fun hb1 hm => ?_
 rw [hb1]
 refine vx hm el100 rfl rfl fun _ _ hm => ?_
 refine vx hm el100 rfl rfl fun _ _ hm => ?_
 refine vn (fun _ => o_bs rfl rfl rfl trivial) ?_
 exact vgo hm () trivial (lx (.k3 .nil))
 rw [hb1]
 exact vgo hm () trivial (lx (.k3 .nil))
 rintro _ j0 hm
 refine v ?_
 refine vi hm (fun hc1 hm => ?_) fun hc1 hm => ?_
 refine v (v ?_)
 refine vrt hm fun hm => ?_
 injection hm with hm; subst hm
 exact vr1 rfl
 refine v (v ?_)
 exact vgo hm () trivial (lx (.k2 .nil))
 refine v ?_
 exact vbk hm () trivial (lx (.k2 .nil))
 rintro _ r0 hm
 refine v (v ?_)
 injection hm with hm; subst hm
 exact vr1 rfl
theorem bd130 : bodied Try.prog 130 = true := by kernel_rfl
def M145_L0 (fuel : Nat) (p0 : List Int) (q0 : Int) (q1 : Int) : Option (Lp (Int × Int) (Int)) :=
 if (decide (q1 < (p0.length : Int))) = true then ((ix p0 q1).bind fun x0 => after (if (decide (8 ≤ (IntKind.wrap .i64 (q1 + 1)))) = true then (if (((IntKind.wrap .u32 ((IntKind.wrap .u32 (q0 * 2)) + (IntKind.wrap .u32 ((IntKind.wrap .u32 ((IntKind.wrap .u32 x0) + 1)) * 2654435761)))).fdiv (2 ^ (min (28 : Int).toNat (IntKind.bits .u32)))) == 0) = true then (some (.brk true)) else some (.brk ((IntKind.wrap .i64 (q1 + 1)) == 64))) else some (.brk ((IntKind.wrap .i64 (q1 + 1)) == 64)) : Option (Lp (Bool) (Lp (Int × Int) (Int)))) fun j0 => if j0 = true then (some (.ret (IntKind.wrap .i64 (q1 + 1)))) else some (.go (IntKind.wrap .u32 ((IntKind.wrap .u32 (q0 * 2)) + (IntKind.wrap .u32 ((IntKind.wrap .u32 ((IntKind.wrap .u32 x0) + 1)) * 2654435761))), IntKind.wrap .i64 (q1 + 1)))) else some (.brk (q0, q1))
def M145 (fuel : Nat) (p0 : List Int) : Option (Int) :=
 after (loopM (fun s => M145_L0 fuel p0 s.1 s.2) fuel (0, 0)) fun ⟨r0, r1⟩ => some (p0.length : Int)
set_option maxHeartbeats 4000000 in
set_option maxRecDepth 100000 in
theorem W145 {fuel : Nat} {p0 : List Int} {o : Int} (h : Heap) (hm : M145 fuel p0 = some o) :
 ACalls Try.prog 145 [.sl none 1 (List.map c_u8 p0)] h (fun r h' => r = .sc (.int .i64 o) ∧ h' = h) := by
 refine ACv 38 [.tmp 2] Try.func145 rfl rfl rfl rfl ?_
 unfold M145 at hm
 refine v (v (v ?_))
 refine vlpH hm (σ := Int × Int) (τ := Unit) (fun g s => []) (fun g s => .c 0 (.sl none 1 (List.map c_u8 p0)) (.c 3 (.sc (.int .u32 s.1)) (.c 4 (.sc (.int .i64 s.2)) .nil))) () (lx (.k3 .nil)) ?_ ?_
 rintro _ ⟨q0, q1⟩ x hm
 replace hm : M145_L0 fuel p0 q0 q1 = some x := hm
 unfold M145_L0 at hm
 refine v (vln ln52 rfl (v ?_))
 refine vi hm (fun hc0 hm => ?_) fun hc0 hm => ?_
 refine v (v (v ?_))
 refine vx hm el52 rfl rfl fun x0 _ hm => ?_
 refine vs ?_
 refine vjnH hm (σ := Bool) (τ := Unit) (fun g s => []) (fun g s => .c 0 (.sl none 1 (List.map c_u8 p0)) (.c 3 (.sc (.int .u32 (IntKind.wrap .u32 ((IntKind.wrap .u32 (q0 * 2)) + (IntKind.wrap .u32 ((IntKind.wrap .u32 ((IntKind.wrap .u32 x0) + 1)) * 2654435761)))))) (.c 4 (.sc (.int .i64 q1)) (.c 33 (.sc (.bool s)) .nil)))) (fun x hm => ?_) ?_
 refine v ?_
 refine vi hm (fun hb0 hm => ?_) fun hb0 hm => ?_
 rw [hb0]
 refine vi hm (fun hb1 hm => ?_) fun hb1 hm => ?_
 rw [hb1]
 exact vgo hm () trivial (lx (.k4 .nil))
 rw [hb1]
 exact vgo hm () trivial (lx (.k4 .nil))
 rw [hb0]
 exact vgo hm () trivial (lx (.k4 .nil))
 rintro _ j0 hm
 refine v ?_
 refine vi hm (fun hc1 hm => ?_) fun hc1 hm => ?_
 refine v (v ?_)
 refine vrt hm fun hm => ?_
 cases hm
 exact vr1 rfl
 refine v (v ?_)
 exact vgo hm () trivial (lx (.k3 .nil))
 refine v ?_
 exact vbk hm () trivial (lx (.k3 .nil))
 rintro _ ⟨r0, r1⟩ hm
 refine v (vln ln52 rfl (v ?_))
 cases hm
 exact vr1 rfl
theorem bd145 : bodied Try.prog 145 = true := by kernel_rfl
def M131_L0 (fuel : Nat) (q0 : List (List Int)) (q1 : List Int) : Option (Lp ((List (List Int)) × (List Int)) ((List (List Int)))) :=
 if (decide (0 < (q1.length : Int))) = true then ((M145 fuel q1).bind fun y0 => (slc q1 0 y0).bind fun x0 => (M100 fuel x0).bind fun y1 => (app q0 ([y1] : List (List Int))).bind fun z0 => (slc q1 y0 (q1).length).bind fun x1 => some (.go (z0, x1))) else some (.brk (q0, q1))
def M131 (fuel : Nat) (p0 : List Int) : Option ((List (List Int))) :=
 after (loopM (fun s => M131_L0 fuel s.1 s.2) fuel ([], p0)) fun ⟨r0, r1⟩ => some r0
set_option maxHeartbeats 4000000 in
set_option maxRecDepth 100000 in
theorem W131 {fuel : Nat} {p0 : List Int} {o : (List (List Int))} (h : Heap) (hm : M131 fuel p0 = some o) :
 ACalls Try.prog 131 [.sl none 1 (List.map c_u8 p0)] h (fun r h' => r = .sl none 1 (List.map c_s_u8 o) ∧ h' = h) := by
 refine ACv 21 [.tmp 2] Try.func131 rfl rfl rfl rfl ?_
 unfold M131 at hm
 refine v (v (vs (vle (lno (.tok 52 1 (([] : List (List Int)).length * 1)) 3 (ow none 1 (List.map c_s_u8 [])) (ow_nil _ _)) ?_)))
 refine vlp hm (σ := (List (List Int)) × (List Int)) (τ := Option Key) (fun g s => [(g, .tok 52 1 ((s.1 : List (List Int)).length * 1))]) (fun g s => (g = none → s.1 = [])) (fun g s => .c 0 (.sl none 1 (List.map c_u8 s.2)) (.c 3 (ow g 1 (List.map c_s_u8 s.1)) .nil)) none (fun _ => rfl) (lx (.k2 .nil)) ?_ ?_
 rintro tg0 ⟨q0, q1⟩ x ot0 hm
 replace hm : M131_L0 fuel q0 q1 = some x := hm
 unfold M131_L0 at hm
 refine v (vln ln52 rfl (v ?_))
 refine vi hm (fun hc0 hm => ?_) fun hc0 hm => ?_
 refine v (v (v ?_))
 refine vk W145 bd145 hm rfl rfl fun _ hm => ?_
 refine v ?_
 obtain ⟨_, hx0, hm⟩ := Zc hm
 refine vn (fun _ => o_slc hx0 el52 rfl rfl rfl rfl) ?_
 refine vk W100 bd100 hm rfl rfl fun y0 hm => ?_
 refine vn (fun _ => o_lit (List.map c_s_u8 ([y0] : List (List Int))) et145 rfl rfl rfl rfl) ?_
 obtain ⟨z0, hz0, hm⟩ := Zc hm
 refine ve fun hk => a_app (c := c_s_u8) 0 hz0 et145 rfl rfl rfl ot0 hk rfl fun tg1 ot1 hk0 => qk hk0 rfl ?_
 refine v ?_
 obtain ⟨_, hx1, hm⟩ := Zc hm
 refine vn (fun _ => o_slc hx1 el52 rfl rfl rfl rfl) ?_
 exact vgo hm tg1 ot1 (lx (.k2 .nil))
 refine v ?_
 exact vbk hm tg0 ot0 (lx (.k2 .nil))
 rintro tg2 ⟨r0, r1⟩ ot2 hm
 refine v (v ?_)
 injection hm with hm; subst hm
 exact vr fun hk => Ret.of1 (.inl rfl) (rsT _ _ (ow _ _ _) rfl) (hp_sub (List.nil_sublist _) hk).1 ((own_frz0 _ 0 ot2 hk rfl)) ⟨rfl, rfl⟩
theorem bd131 : bodied Try.prog 131 = true := by kernel_rfl
def M107_L2 (fuel : Nat) (y0 : (List (List Int))) (q0 : List Id32) (q1 : List (List Int)) (q2 : List Id32) (q3 : Int) : Option (Lp ((List Id32) × (List (List Int)) × (List Id32) × Int) (Lp ((List TPart) × (List (List Int)) × (List Id32) × Int) (TManifest × (List (List Int)) × Int))) :=
 if (decide (q3 < (y0.length : Int))) = true then ((ix y0 q3).bind fun x0 => (M108 fuel x0).bind fun y1 => (app q0 ([y1] : List Id32)).bind fun z0 => (M105 fuel q2 y1).bind fun y2 => after (if y2.2.2 = true then ((slc q1 0 y2.2.1).bind fun x1 => (ix y0 q3).bind fun x2 => (app ([] : List (List Int)) x1).bind fun z1 => (app z1 ([x2] : List (List Int))).bind fun z2 => (slc q1 y2.2.1 (q1.length : Int)).bind fun x3 => (app z2 x3).bind fun z3 => some (.brk z3)) else some (.brk q1) : Option (Lp ((List (List Int))) (Lp ((List Id32) × (List (List Int)) × (List Id32) × Int) (Lp ((List TPart) × (List (List Int)) × (List Id32) × Int) (TManifest × (List (List Int)) × Int))))) fun j0 => some (.go (z0, j0, y2.1, IntKind.wrap .i64 (q3 + 1)))) else some (.brk (q0, q1, q2, q3))
def M107_L0 (fuel : Nat) (p1 : List TFile) (q0 : List TPart) (q1 : List (List Int)) (q2 : List Id32) (q3 : Int) : Option (Lp ((List TPart) × (List (List Int)) × (List Id32) × Int) (TManifest × (List (List Int)) × Int)) :=
 if (decide (q3 < (p1.length : Int))) = true then ((ix p1 q3).bind fun x0 => (ix p1 q3).bind fun x1 => (ix p1 q3).bind fun x2 => (M131 fuel x2.Data).bind fun y0 => after (loopM (fun s => M107_L2 fuel y0 s.1 s.2.1 s.2.2.1 s.2.2.2) fuel ([], q1, q2, 0)) fun ⟨r0, r1, r2, r3⟩ => (app q0 ([({ Path := x0.Path, Size := (x1.Data.length : Int), Ids := r0 } : TPart)] : List TPart)).bind fun z0 => some (.go (z0, r1, r2, IntKind.wrap .i64 (q3 + 1)))) else some (.brk (q0, q1, q2, q3))
def M107 (fuel : Nat) (p0 : ByteArray) (p1 : List TFile) : Option (TManifest × (List (List Int)) × Int) :=
 (M104 fuel p0).bind fun y7 => if (!y7) = true then (some (({ Name := ByteArray.empty, Parts := [] } : TManifest), [], 1)) else (M130 fuel p1).bind fun y0 => if (y0 != 0) = true then (some (({ Name := ByteArray.empty, Parts := [] } : TManifest), [], y0)) else after (loopM (fun s => M107_L0 fuel p1 s.1 s.2.1 s.2.2.1 s.2.2.2) fuel ([], [], [], 0)) fun ⟨r0, r1, r2, r3⟩ => some (({ Name := p0, Parts := r0 } : TManifest), r1, 0)
set_option maxHeartbeats 4000000 in
set_option maxRecDepth 100000 in
theorem W107 {fuel : Nat} {p0 : ByteArray} {p1 : List TFile} {o : TManifest × (List (List Int)) × Int} (h : Heap) (hm : M107 fuel p0 p1 = some o) :
 ACalls Try.prog 107 [.sc (.string p0), .sl none 2 (List.map c_File p1)] h (fun r h' => r = .tup [.agg (c_Manifest o.1), .sl none 1 (List.map c_s_u8 o.2.1), .sc (.int .i64 o.2.2)] ∧ h' = h) := by
 refine ACv 106 [.cell 4 57, .tmp 5, .tmp 6] Try.func107 rfl rfl rfl rfl ?_
 unfold M107 at hm
 refine v ?_
 refine ve fun hk => a_alloc ([.sc (.string ByteArray.empty), .sc (.slice none 0 0)]) hk zr57 rfl rfl fun k2 hk3 => qk hk3 rfl ?_
 refine v ?_
 refine vk W104 bd104 hm rfl rfl fun _ hm => ?_
 refine v ?_
 refine vi hm (fun hc9 hm => ?_) fun hc9 hm => ?_
 refine v (vn (fun _ => o_bld ([.sc (.string ByteArray.empty), .sc (.slice none 0 0)]) bt57 rfl) ?_)
 refine ve fun hk => a_store 0 ([.sc (.string ByteArray.empty), .sc (.slice none 0 0)]) hk rfl rfl rfl rfl sz57 rfl rfl fun hk0 => qk hk0 rfl ?_
 refine v ?_
 cases hm
 exact vr fun hk => Ret.of3 (.inl rfl) (rsC (.agg ([.sc (.string ByteArray.empty), .sc (.slice none 0 0)])) ld57 rfl (Zd 0 hk rfl) rfl) (rsT _ _ (.sc (.slice _ _ _)) rfl) (rsT _ _ (.sc (.int _ _)) rfl) (hp_sub (List.nil_sublist _) hk).1 (ALe.agg (.cons (ALe.refl _ _) (.cons (nil_lem _) .nil))) (nil_lem _) (ALe.refl _ _) ⟨rfl, rfl⟩
 refine v (v ?_)
 refine vk W130 bd130 hm rfl rfl fun _ hm => ?_
 refine v (v ?_)
 refine vi hm (fun hc0 hm => ?_) fun hc0 hm => ?_
 refine v (vn (fun _ => o_bld ([.sc (.string ByteArray.empty), .sc (.slice none 0 0)]) bt57 rfl) ?_)
 refine ve fun hk => a_store 0 ([.sc (.string ByteArray.empty), .sc (.slice none 0 0)]) hk rfl rfl rfl rfl sz57 rfl rfl fun hk1 => qk hk1 rfl ?_
 refine v ?_
 cases hm
 exact vr fun hk => Ret.of3 (.inl rfl) (rsC (.agg ([.sc (.string ByteArray.empty), .sc (.slice none 0 0)])) ld57 rfl (Zd 0 hk rfl) rfl) (rsT _ _ (.sc (.slice _ _ _)) rfl) (rsT _ _ (.sc (.int _ _)) rfl) (hp_sub (List.nil_sublist _) hk).1 (ALe.agg (.cons (ALe.refl _ _) (.cons (nil_lem _) .nil))) (nil_lem _) (ALe.refl _ _) ⟨rfl, rfl⟩
 refine v (v (vn (fun _ => o_bld ([.sc (.string p0), .sc (.slice none 0 0)]) bt57 rfl) ?_))
 refine ve fun hk => a_alloc ([.sc (.string ByteArray.empty), .sc (.slice none 0 0)]) hk zr57 rfl rfl fun k21 hk2 => qk hk2 rfl ?_
 refine ve fun hk => a_store 0 ([.sc (.string p0), .sc (.slice none 0 0)]) hk rfl rfl rfl rfl sz57 rfl rfl fun hk4 => qk hk4 rfl ?_
 refine v (v (v (vle (lno (.tok 52 1 (([] : List (List Int)).length * 1)) 10 (ow none 1 (List.map c_s_u8 [])) (ow_nil _ _)) (vle (leo (.tok 82 3 (([] : List TPart).length * 3)) 2 ([.sc (.string p0), ow none 3 (List.map c_Part [])]) rfl (.cons (ALe.refl _ _) (.cons (ow_nil (c := c_Part) _ 3) .nil))) ?_))))
 refine vlp hm (σ := (List TPart) × (List (List Int)) × (List Id32) × Int) (τ := Option Key × Option Key) (fun g s => [(g.1, .tok 82 3 ((s.1 : List TPart).length * 3)), (g.2, .tok 52 1 ((s.2.1 : List (List Int)).length * 1)), (some k21, .obj 57 ([.sc (.string p0), ow g.1 3 (List.map c_Part s.1)])), (some k2, .obj 57 ([.sc (.string ByteArray.empty), .sc (.slice none 0 0)]))]) (fun g s => (g.1 = none → s.1 = []) ∧ (g.2 = none → s.2.1 = [])) (fun g s => .c 1 (.sl none 2 (List.map c_File p1)) (.c 4 (.ptr k2 0) (.c 8 (.ptr k21 0) (.c 9 (.sl none 32 (List.map c_id s.2.2.1)) (.c 10 (ow g.2 1 (List.map c_s_u8 s.2.1)) (.c 11 (.sc (.int .i64 s.2.2.2)) .nil)))))) (none, none) (⟨(fun _ => rfl), (fun _ => rfl)⟩) (lx (.k3 (.cons (nil_lem _) (.k2 .nil)))) ?_ ?_
 rintro ⟨tg0, tg1⟩ ⟨q0, q1, q2, q3⟩ x ⟨ot0, ot1⟩ hm
 replace hm : M107_L0 fuel p1 q0 q1 q2 q3 = some x := hm
 unfold M107_L0 at hm
 refine v (vln ln100 rfl (v ?_))
 refine vi hm (fun hc1 hm => ?_) fun hc1 hm => ?_
 refine v (v (v ?_))
 refine vz [] mixed (fun hk => trivial) fun hk => ?_
 refine z_w 0 rfl (fun S' h' hi hB => o_mv (.sl _ _ _) rfl) ?_
 refine z_w 1 rfl (fun S' h' hi hB => o_mv (.sc (.int _ _)) rfl) ?_
 obtain ⟨x0, hx0, hm⟩ := Zc hm
 refine z_w 2 rfl (fun S' h' hi hB => o_ix hx0 el100 rfl rfl) ?_
 refine z_w 3 rfl (fun S' h' hi hB => o_fl fd105_0 rfl rfl) ?_
 refine z_w 4 rfl (fun S' h' hi hB => o_ld (.sc (.string x0.Path)) ld9 rfl rfl) ?_
 refine z_w 5 rfl (fun S' h' hi hB => o_mv (.sl _ _ _) rfl) ?_
 refine z_w 6 rfl (fun S' h' hi hB => o_mv (.sc (.int _ _)) rfl) ?_
 obtain ⟨x1, hx1, hm⟩ := Zc hm
 refine z_w 7 rfl (fun S' h' hi hB => o_ix hx1 el100 rfl rfl) ?_
 refine z_w 8 rfl (fun S' h' hi hB => o_fl fd105_1 rfl rfl) ?_
 refine z_w 9 rfl (fun S' h' hi hB => o_ld (.sl none 1 (List.map c_u8 x1.Data)) ld52 rfl rfl) ?_
 refine z_w 10 rfl (fun S' h' hi hB => o_lenm ln52 rfl) ?_
 refine z_w 11 rfl (fun S' h' hi hB => o_bld ([.sc (.string x0.Path), .sc (.int .i64 (x1.Data.length : Int)), .sc (.slice none 0 0)]) bt82 rfl) ?_
 refine z_e 12 rfl (by kernel_rfl) (a_alloc ([.sc (.string ByteArray.empty), .sc (.int .i64 0), .sc (.slice none 0 0)]) hk zr82 rfl rfl fun k2233 hk5 => ⟨trivial, ?_⟩)
 refine z_e 13 rfl (by kernel_rfl) (a_store 0 ([.sc (.string x0.Path), .sc (.int .i64 (x1.Data.length : Int)), .sc (.slice none 0 0)]) hk5 rfl rfl rfl rfl sz82 rfl rfl fun hk6 => ⟨trivial, ?_⟩)
 refine z_nil (by kernel_rfl) (qk (f := .c 12 _ (.c 49 _ (.c 48 _ (.c 47 _ (.c 46 _ (.c 45 _ (.c 44 _ (.c 43 _ (.c 42 _ (.c 41 _ (.c 40 _ (.c 39 _ (.c 38 _ _))))))))))))) hk6 rfl ?_)
 refine v ?_
 refine vx hm el100 rfl rfl fun _ _ hm => ?_
 refine vk W131 bd131 hm rfl rfl fun y0 hm => ?_
 refine v (vle (leo (.tok 61 32 (([] : List Id32).length * 32)) 1 ([.sc (.string x0.Path), .sc (.int .i64 (x1.Data.length : Int)), ow none 32 (List.map c_id [])]) rfl (.k2 (.cons (ow_nil (c := c_id) _ 32) .nil))) ?_)
 refine vlp hm (σ := (List Id32) × (List (List Int)) × (List Id32) × Int) (τ := Option Key × Option Key) (fun g s => [(g.1, .tok 61 32 ((s.1 : List Id32).length * 32)), (some k2233, .obj 82 ([.sc (.string x0.Path), .sc (.int .i64 (x1.Data.length : Int)), ow g.1 32 (List.map c_id s.1)])), (tg0, .tok 82 3 ((q0 : List TPart).length * 3)), (g.2, .tok 52 1 ((s.2.1 : List (List Int)).length * 1)), (some k21, .obj 57 ([.sc (.string p0), ow tg0 3 (List.map c_Part q0)])), (some k2, .obj 57 ([.sc (.string ByteArray.empty), .sc (.slice none 0 0)]))]) (fun g s => (g.1 = none → s.1 = []) ∧ (g.2 = none → s.2.1 = [])) (fun g s => .c 1 (.sl none 2 (List.map c_File p1)) (.c 4 (.ptr k2 0) (.c 8 (.ptr k21 0) (.c 9 (.sl none 32 (List.map c_id s.2.2.1)) (.c 10 (ow g.2 1 (List.map c_s_u8 s.2.1)) (.c 11 (.sc (.int .i64 q3)) (.c 12 (.ptr k2233 0) (.c 13 (.sl none 1 (List.map c_s_u8 y0)) (.c 14 (.sc (.int .i64 s.2.2.2)) .nil))))))))) (none, tg1) (⟨(fun _ => rfl), ot1⟩) (lx (.k9 .nil)) ?_ ?_
 rintro ⟨tg2, tg3⟩ ⟨q4, q5, q6, q7⟩ x ⟨ot2, ot3⟩ hm
 replace hm : M107_L2 fuel y0 q4 q5 q6 q7 = some x := hm
 unfold M107_L2 at hm
 refine v (vln ln145 rfl (v ?_))
 refine vi hm (fun hc2 hm => ?_) fun hc2 hm => ?_
 refine v (v (v ?_))
 refine vx hm el145 rfl rfl fun _ _ hm => ?_
 refine vk W108 bd108 hm rfl rfl fun y1 hm => ?_
 refine ve fun hk => a_alloc (c_id idZ) hk zr61 rfl rfl fun k2604 hk7 => qk hk7 rfl ?_
 refine ve fun hk => a_store 0 (c_id y1) hk rfl rfl rfl rfl sz61 rfl rfl fun hk8 => qk hk8 rfl ?_
 refine v (vl 2 (ow tg2 32 (List.map c_id q4)) ld80 rfl rfl rfl (vl 0 (.agg (c_id y1)) ld61 rfl rfl rfl (vn (fun _ => o_lit (List.map c_id ([y1] : List Id32)) et80 rfl rfl rfl rfl) ?_)))
 obtain ⟨z0, hz0, hm⟩ := Zc hm
 refine ve fun hk => a_app (c := c_id) 1 hz0 et80 rfl rfl rfl ot2 hk rfl fun tg4 ot4 hk9 => qk hk9 rfl ?_
 refine ve fun hk => a_store 2 ([.sc (.string x0.Path), .sc (.int .i64 (x1.Data.length : Int)), ow tg4 32 (List.map c_id z0)]) hk rfl rfl (cellsOf_ow rfl) (all_ow _ _ _) sz80 rfl rfl fun hk10 => qk hk10 rfl ?_
 refine v (vl 0 (.agg (c_id y1)) ld61 rfl rfl rfl ?_)
 refine vk W105 bd105 hm rfl rfl fun y2 hm => ?_
 refine v ?_
 refine vjn hm (σ := (List (List Int))) (τ := Option Key) (fun g s => [(some k2604, .obj 61 (c_id y1)), (tg4, .tok 61 32 ((z0 : List Id32).length * 32)), (some k2233, .obj 82 ([.sc (.string x0.Path), .sc (.int .i64 (x1.Data.length : Int)), ow tg4 32 (List.map c_id z0)])), (tg0, .tok 82 3 ((q0 : List TPart).length * 3)), (g, .tok 52 1 ((s : List (List Int)).length * 1)), (some k21, .obj 57 ([.sc (.string p0), ow tg0 3 (List.map c_Part q0)])), (some k2, .obj 57 ([.sc (.string ByteArray.empty), .sc (.slice none 0 0)]))]) (fun g s => (g = none → s = [])) (fun g s => .c 1 (.sl none 2 (List.map c_File p1)) (.c 4 (.ptr k2 0) (.c 8 (.ptr k21 0) (.c 10 (ow g 1 (List.map c_s_u8 s)) (.c 11 (.sc (.int .i64 q3)) (.c 12 (.ptr k2233 0) (.c 13 (.sl none 1 (List.map c_s_u8 y0)) (.c 14 (.sc (.int .i64 q7)) (.c 16 (.sl none 32 (List.map c_id y2.1)) .nil))))))))) (fun x hm => ?_) ?_
 refine v ?_
 refine vi hm (fun hc3 hm => ?_) fun hc3 hm => ?_
 refine v (v ?_)
 refine vz [] mixed (fun hk => trivial) fun hk => ?_
 refine z_w 0 rfl (fun S' h' hi hB => o_mv (.sc (.slice _ _ _)) rfl) ?_
 refine z_w 1 rfl (fun S' h' hi hB => o_mv (ow _ _ _) rfl) ?_
 refine z_w 2 rfl (fun S' h' hi hB => o_mv (.sc (.int _ _)) rfl) ?_
 obtain ⟨_, hx2, hm⟩ := Zc hm
 refine z_w 3 rfl (fun S' h' hi hB => o_slco hx2 el145 rfl ot3 rfl rfl rfl) ?_
 refine z_w 5 rfl (fun S' h' hi hB => o_mv (.sl _ _ _) rfl) ?_
 refine z_w 6 rfl (fun S' h' hi hB => o_mv (.sc (.int _ _)) rfl) ?_
 obtain ⟨x2, hx3, hm⟩ := Zc hm
 refine z_w 7 rfl (fun S' h' hi hB => o_ix hx3 el145 rfl rfl) ?_
 refine z_w 8 rfl (fun S' h' hi hB => o_ld (.sl none 1 (List.map c_u8 x2)) ld52 rfl rfl) ?_
 refine z_w 9 rfl (fun S' h' hi hB => o_lit (List.map c_s_u8 ([x2] : List (List Int))) et145 rfl rfl rfl rfl) ?_
 obtain ⟨z1, hz1, hm⟩ := Zc hm
 refine z_e 4 rfl (by kernel_rfl) (a_app0 (c := c_s_u8) hz1 et145 rfl rfl hk nofun (srcOf_own (slc_nil hx2 ot3)) fun tg5 ot5 hk12 => ⟨trivial, ?_⟩)
 obtain ⟨z2, hz2, hm⟩ := Zc hm
 refine z_e 10 rfl (by kernel_rfl) (a_app (c := c_s_u8) 0 hz2 et145 rfl rfl rfl ot5 hk12 rfl fun tg6 ot6 hk13 => ⟨trivial, ?_⟩)
 refine z_w 11 rfl (fun S' h' hi hB => o_as (ow _ _ _) rfl) ?_
 refine z_nil (by kernel_rfl) (qk (f := .c 19 _ (.c 91 _ (.c 85 _ (.c 90 _ (.c 89 _ (.c 88 _ (.c 87 _ (.c 86 _ (.c 84 _ (.c 83 _ (.c 82 _ (.c 81 _ _)))))))))))) hk13 rfl ?_)
 refine v ?_
 obtain ⟨_, hx4, hm⟩ := Zc hm
 refine vn (fun _ => o_slco hx4 el145 rfl ot3 rfl rfl rfl) ?_
 obtain ⟨z3, hz3, hm⟩ := Zc hm
 refine ve fun hk => a_app (c := c_s_u8) 0 hz3 et145 rfl rfl rfl ot6 hk (srcOf_own (slc_nil hx4 ot3)) fun tg7 ot7 hk14 => qk hk14 rfl ?_
 exact vgo hm tg7 ot7 (lxs [1, 2, 3, 4, 0, 6, 7] rfl rfl (.k9 .nil))
 refine v ?_
 exact vgo hm tg3 ot3 (lx (.k9 .nil))
 rintro tg8 j0 ot8 hm
 refine v (v ?_)
 exact vgo hm (tg4, tg8) ⟨ot4, ot8⟩ (lxs [1, 2, 3, 4, 5, 6] rfl rfl (.k9 .nil))
 refine v ?_
 exact vbk hm (tg2, tg3) ⟨ot2, ot3⟩ (lx (.k9 .nil))
 rintro ⟨tg9, tg10⟩ ⟨r0, r1, r2, r3⟩ ⟨ot9, ot10⟩ hm
 refine v (vl 4 (ow tg0 3 (List.map c_Part q0)) ld55 rfl rfl rfl (vl 1 (.agg ([.sc (.string x0.Path), .sc (.int .i64 (x1.Data.length : Int)), ow tg9 32 (List.map c_id r0)])) ld82 rfl rfl rfl ?_))
 refine ve fun hk => AOp_sfz (t := 100) (.agg (c_Part ({ Path := x0.Path, Size := (x1.Data.length : Int), Ids := r0 } : TPart))) (hp_sub (.cons _ (.refl _)) hk).1 (ALe.agg (.k2 (.cons (own_frzE _ 0 ot9 hk rfl (.refl _)) .nil))) (a_v (o_lit (List.map c_Part ([({ Path := x0.Path, Size := (x1.Data.length : Int), Ids := r0 } : TPart)] : List TPart)) et55 rfl rfl rfl rfl) (qk ((hp_sub (.cons _ (.refl _)) hk).2) rfl ?_))
 obtain ⟨z4, hz4, hm⟩ := Zc hm
 refine ve fun hk => a_app (c := c_Part) 1 hz4 et55 rfl rfl rfl ot0 hk rfl fun tg11 ot11 hk15 => qk hk15 rfl ?_
 refine ve fun hk => a_store 3 ([.sc (.string p0), ow tg11 3 (List.map c_Part z4)]) hk rfl rfl (cellsOf_ow rfl) (all_ow _ _ _) sz55 rfl rfl fun hk16 => qk hk16 rfl ?_
 refine v ?_
 exact vgo hm (tg11, tg10) ⟨ot11, ot10⟩ (lxs [1, 2, 3, 4] rfl rfl (.k6 .nil))
 refine v ?_
 exact vbk hm (tg0, tg1) ⟨ot0, ot1⟩ (lx (.k6 .nil))
 rintro ⟨tg12, tg13⟩ ⟨r4, r5, r6, r7⟩ ⟨ot12, ot13⟩ hm
 refine v (vl 2 (.agg ([.sc (.string p0), ow tg12 3 (List.map c_Part r4)])) ld57 rfl rfl rfl ?_)
 refine ve fun hk => a_store 3 ([.sc (.string p0), ow tg12 3 (List.map c_Part r4)]) hk rfl rfl rfl (by repeat (first | exact rfl | refine all_c (ocell_ow _ _ _) ?_ | refine all_c (ocell_aw _ _ _) ?_ | refine all_c rfl ?_)) sz57 rfl rfl fun hk17 => qk hk17 rfl ?_
 refine v ?_
 cases hm
 exact vr fun hk => Ret.of3 (.inl rfl) (rsC (.agg ([.sc (.string p0), ow tg12 3 (List.map c_Part r4)])) ld57 rfl (Zd 3 hk rfl) rfl) (rsT _ _ (ow _ _ _) rfl) (rsT _ _ (.sc (.int _ _)) rfl) (hp_sub (List.nil_sublist _) hk).1 (ALe.agg (.cons (ALe.refl _ _) (.cons ((own_frz0 _ 0 ot12 hk rfl)) .nil))) ((own_frz0 _ 1 ot13 hk rfl)) (ALe.refl _ _) ⟨rfl, rfl⟩
theorem bd107 : bodied Try.prog 107 = true := by kernel_rfl
def M66_L1 (fuel : Nat) (p0 : TCatalog) (y0 : TManifest × (List (List Int)) × Int) (q0 : List TChunk) (q1 : Int) : Option (Lp ((List TChunk) × Int) (TChange × Bool)) :=
 if (decide (q1 < (y0.2.1.length : Int))) = true then ((ix y0.2.1 q1).bind fun x0 => (M108 fuel x0).bind fun y1 => (M64 fuel p0 y1).bind fun y2 => after (if (decide (y2 < 0)) = true then ((ix y0.2.1 q1).bind fun x1 => (app q0 ([({ Id := y1, Staged := true, Data := x1, Locs := [] } : TChunk)] : List TChunk)).bind fun z0 => some (.brk z0)) else some (.brk q0) : Option (Lp ((List TChunk)) (Lp ((List TChunk) × Int) (TChange × Bool)))) fun j0 => some (.go (j0, IntKind.wrap .i64 (q1 + 1)))) else some (.brk (q0, q1))
def M66_L3 (fuel : Nat) (p0 : TCatalog) (p1 : TAct) (q0 : List TItem) (q1 : Int) (q2 : Int) : Option (Lp ((List TItem) × Int × Int) (TChange × Bool)) :=
 after (if (decide (q2 < (IntKind.wrap .i64 ((IntKind.wrap .i64 ((p0.Chunks.length : Int) + (p0.Snaps.length : Int))) + (p0.Exps.length : Int))))) = true then (some (.brk (decide ((q0.length : Int) < 64)))) else some (.brk false) : Option (Lp (Bool) (Lp ((List TItem) × Int × Int) (TChange × Bool)))) fun j0 => if j0 = true then (after (after (if (decide (q2 < (p1.Pick.length : Int))) = true then ((ix p1.Pick q2).bind fun x0 => some (.brk (!x0))) else some (.brk false) : Option (Lp (Bool) (Lp ((List TItem) × Int) (Lp ((List TItem) × Int × Int) (TChange × Bool))))) fun j1 => if j1 = true then (some (.brk (q0, q1))) else after (if (decide (q2 < (p0.Chunks.length : Int))) = true then ((ix p0.Chunks q2).bind fun x1 => some (.brk { { ({ Kind := 0, Id := idZ, Seq := 0, Of := 0, Off := q1, Len := 20 } : TItem) with Kind := 1 } with Id := x1.Id })) else after (if (decide (q2 < (IntKind.wrap .i64 ((p0.Chunks.length : Int) + (p0.Snaps.length : Int))))) = true then ((ix p0.Snaps (IntKind.wrap .i64 (q2 - (p0.Chunks.length : Int)))).bind fun x2 => some (.brk { { ({ Kind := 0, Id := idZ, Seq := 0, Of := 0, Off := q1, Len := 20 } : TItem) with Kind := 2 } with Seq := x2.Seq })) else (ix p0.Exps (IntKind.wrap .i64 ((IntKind.wrap .i64 (q2 - (p0.Chunks.length : Int))) - (p0.Snaps.length : Int)))).bind fun x3 => some (.brk { { { ({ Kind := 0, Id := idZ, Seq := 0, Of := 0, Off := q1, Len := 20 } : TItem) with Kind := 3 } with Seq := x3.Seq } with Of := x3.Of }) : Option (Lp (TItem) (Lp (TItem) (Lp ((List TItem) × Int) (Lp ((List TItem) × Int × Int) (TChange × Bool)))))) fun j2 => some (.brk j2) : Option (Lp (TItem) (Lp ((List TItem) × Int) (Lp ((List TItem) × Int × Int) (TChange × Bool))))) fun j3 => (app q0 ([j3] : List TItem)).bind fun z0 => some (.brk (z0, IntKind.wrap .i64 (q1 + 20))) : Option (Lp ((List TItem) × Int) (Lp ((List TItem) × Int × Int) (TChange × Bool)))) fun ⟨j4, j5⟩ => some (.go (j4, j5, IntKind.wrap .i64 (q2 + 1)))) else some (.brk (q0, q1, q2))
def M66 (fuel : Nat) (p0 : TCatalog) (p1 : TAct) : Option (TChange × Bool) :=
 (bstr ([IntKind.wrap .u8 (IntKind.wrap .u64 (97 + ((IntKind.wrap .u64 p1.N).tmod 5)))] : List Int)).bind fun st0 => grd (decide ((ByteArray.mk #[110]).size + st0.size ≤ 9223372036854775807)) <| after (if (decide (0 < (p0.Vols.length : Int))) = true then (grd ((IntKind.wrap .u64 (p0.Vols.length : Int)) != 0) <| some (.brk (IntKind.wrap .i64 ((IntKind.wrap .u64 p1.Vol).tmod (IntKind.wrap .u64 (p0.Vols.length : Int)))))) else some (.brk 0) : Option (Lp (Int) (TChange × Bool))) fun j0 => after (if (((IntKind.wrap .u64 p1.Do).tmod 8) == 0) = true then (some (.brk (((IntKind.wrap .u64 p1.Do).tmod 8) == 0))) else some (.brk (((IntKind.wrap .u64 p1.Do).tmod 8) == 1)) : Option (Lp (Bool) (TChange × Bool))) fun j1 => if j1 = true then ((M106 fuel p1.Tree).bind fun y0 => if (y0.2 != 0) = true then (some (({ Kind := 0, Snap := ({ Seq := 0, Man := ({ Name := ByteArray.empty, Parts := [] } : TManifest), Locs := [] } : TSnap), Chunks := [], Seq := 0, Vol := 0, Items := [] } : TChange), false)) else (M107 fuel ((ByteArray.mk #[110]) ++ st0) y0.1).bind fun y1 => after (loopM (fun s => M66_L1 fuel p0 y1 s.1 s.2) fuel ([], 0)) fun ⟨r0, r1⟩ => some (({ Kind := 1, Snap := ({ Seq := p0.Seq, Man := y1.1, Locs := [] } : TSnap), Chunks := r0, Seq := 0, Vol := 0, Items := [] } : TChange), true)) else after (if (((IntKind.wrap .u64 p1.Do).tmod 8) == 2) = true then (some (.brk (((IntKind.wrap .u64 p1.Do).tmod 8) == 2))) else some (.brk (((IntKind.wrap .u64 p1.Do).tmod 8) == 5)) : Option (Lp (Bool) (TChange × Bool))) fun j2 => if j2 = true then (if ((p0.Snaps.length : Int) == 0) = true then (some (({ Kind := 0, Snap := ({ Seq := 0, Man := ({ Name := ByteArray.empty, Parts := [] } : TManifest), Locs := [] } : TSnap), Chunks := [], Seq := 0, Vol := 0, Items := [] } : TChange), false)) else grd ((IntKind.wrap .u64 (p0.Snaps.length : Int)) != 0) <| (ix p0.Snaps (IntKind.wrap .i64 ((IntKind.wrap .u64 p1.N).tmod (IntKind.wrap .u64 (p0.Snaps.length : Int))))).bind fun x0 => if (((IntKind.wrap .u64 p1.Do).tmod 8) == 2) = true then (some (({ Kind := 2, Snap := ({ Seq := 0, Man := ({ Name := ByteArray.empty, Parts := [] } : TManifest), Locs := [] } : TSnap), Chunks := [], Seq := x0.Seq, Vol := 0, Items := [] } : TChange), true)) else some (({ Kind := 3, Snap := ({ Seq := 0, Man := ({ Name := ByteArray.empty, Parts := [] } : TManifest), Locs := [] } : TSnap), Chunks := [], Seq := 0, Vol := j0, Items := ([({ Kind := 3, Id := idZ, Seq := p0.Seq, Of := x0.Seq, Off := 13, Len := 17 } : TItem)] : List TItem) } : TChange), true)) else after (if (((IntKind.wrap .u64 p1.Do).tmod 8) == 3) = true then (some (.brk (((IntKind.wrap .u64 p1.Do).tmod 8) == 3))) else some (.brk (((IntKind.wrap .u64 p1.Do).tmod 8) == 4)) : Option (Lp (Bool) (TChange × Bool))) fun j3 => if j3 = true then (after (loopM (fun s => M66_L3 fuel p0 p1 s.1 s.2.1 s.2.2) fuel ([], 13, 0)) fun ⟨r2, r3, r4⟩ => some (({ Kind := 3, Snap := ({ Seq := 0, Man := ({ Name := ByteArray.empty, Parts := [] } : TManifest), Locs := [] } : TSnap), Chunks := [], Seq := 0, Vol := j0, Items := r2 } : TChange), decide (0 < (r2.length : Int)))) else if (((IntKind.wrap .u64 p1.Do).tmod 8) == 6) = true then (some (({ Kind := 4, Snap := ({ Seq := 0, Man := ({ Name := ByteArray.empty, Parts := [] } : TManifest), Locs := [] } : TSnap), Chunks := [], Seq := 0, Vol := j0, Items := [] } : TChange), true)) else some (({ Kind := 5, Snap := ({ Seq := 0, Man := ({ Name := ByteArray.empty, Parts := [] } : TManifest), Locs := [] } : TSnap), Chunks := [], Seq := 0, Vol := j0, Items := [] } : TChange), true)
set_option maxHeartbeats 4000000 in
set_option maxRecDepth 100000 in
theorem W66 {fuel : Nat} {p0 : TCatalog} {p1 : TAct} {o : TChange × Bool} (h : Heap) (hm : M66 fuel p0 p1 = some o) :
 ACalls Try.prog 66 [.agg (c_Catalog p0), .agg (c_Act p1)] h (fun r h' => r = .tup [.agg (c_Change o.1), .sc (.bool o.2)] ∧ h' = h) := by
 refine ACv 248 [.cell 4 107, .tmp 5] Try.func66 rfl rfl rfl rfl ?_
 unfold M66 at hm
 refine v ?_
 refine ve fun hk => a_box hk rfl rfl fun k2 hk3 => qk hk3 rfl ?_
 refine ve fun hk => a_box hk rfl rfl fun k5 hk6 => qk hk6 rfl ?_
 refine ve fun hk => a_alloc ([.sc (.int .i64 0), .sc (.int .i64 0), .sc (.string ByteArray.empty), .sc (.slice none 0 0), .sc (.slice none 0 0), .sc (.slice none 0 0), .sc (.int .i64 0), .sc (.int .i64 0), .sc (.slice none 0 0)]) hk zr107 rfl rfl fun k8 hk9 => qk hk9 rfl ?_
 refine v (vl 1 _ ld3 rfl rfl rfl (vn (fun _ => o_lit (List.map c_u8 ([IntKind.wrap .u8 (IntKind.wrap .u64 (97 + ((IntKind.wrap .u64 p1.N).tmod 5)))] : List Int)) et52 rfl rfl rfl rfl) ?_))
 obtain ⟨st0, hs0, hm⟩ := Zc hm
 refine vn (fun _ => o_bstr (c := c_u8) hs0 (fun _ => rfl) u52 u5 u9 rfl) ?_
 obtain ⟨hz0, hm⟩ := grd_of hm
 refine vn (fun _ => o_bs rfl rfl rfl (of_decide_eq_true hz0)) (v (v (vl 2 _ ld25 rfl rfl rfl (vln ln25 rfl ?_))))
 refine vjnH hm (σ := Int) (τ := Unit) (fun g s => [(some k8, .obj 107 ([.sc (.int .i64 0), .sc (.int .i64 0), .sc (.string ByteArray.empty), .sc (.slice none 0 0), .sc (.slice none 0 0), .sc (.slice none 0 0), .sc (.int .i64 0), .sc (.int .i64 0), .sc (.slice none 0 0)])), (some k5, .obj 103 (c_Act p1)), (some k2, .obj 27 (c_Catalog p0))]) (fun g s => .c 2 (.ptr k2 0) (.c 3 (.ptr k5 0) (.c 4 (.ptr k8 0) (.c 6 (.sc (.string ((ByteArray.mk #[110]) ++ st0))) (.c 7 (.sc (.int .i64 s)) .nil))))) (fun x hm => ?_) ?_
 refine v ?_
 refine vi hm (fun hc0 hm => ?_) fun hc0 hm => ?_
 refine v (vl 1 _ ld3 rfl rfl rfl (vl 2 _ ld25 rfl rfl rfl (vln ln25 rfl ?_)))
 refine vgr hm fun _ hm => ?_
 exact vgo hm () trivial (lx (.k5 .nil))
 refine v ?_
 exact vgo hm () trivial (lx (.k5 .nil))
 rintro _ j0 hm
 refine v (vl 1 _ ld3 rfl rfl rfl (v (v ?_)))
 refine vjnH hm (σ := Bool) (τ := Unit) (fun g s => [(some k8, .obj 107 ([.sc (.int .i64 0), .sc (.int .i64 0), .sc (.string ByteArray.empty), .sc (.slice none 0 0), .sc (.slice none 0 0), .sc (.slice none 0 0), .sc (.int .i64 0), .sc (.int .i64 0), .sc (.slice none 0 0)])), (some k5, .obj 103 (c_Act p1)), (some k2, .obj 27 (c_Catalog p0))]) (fun g s => .c 2 (.ptr k2 0) (.c 3 (.ptr k5 0) (.c 4 (.ptr k8 0) (.c 6 (.sc (.string ((ByteArray.mk #[110]) ++ st0))) (.c 7 (.sc (.int .i64 j0)) (.c 47 (.sc (.int .u64 ((IntKind.wrap .u64 p1.Do).tmod 8))) (.c 48 (.sc (.bool s)) .nil))))))) (fun x hm => ?_) ?_
 refine v ?_
 refine vi hm (fun hc1 hm => ?_) fun hc1 hm => ?_
 refine v ?_
 exact vgo hm () trivial (lx (.k7 .nil))
 refine v ?_
 exact vgo hm () trivial (lx (.k7 .nil))
 rintro _ j1 hm
 refine v ?_
 refine vi hm (fun hc2 hm => ?_) fun hc2 hm => ?_
 refine v (vl 1 _ ld100 rfl rfl rfl ?_)
 refine vk W106 bd106 hm rfl rfl fun _ hm => ?_
 refine v (v ?_)
 refine vi hm (fun hc3 hm => ?_) fun hc3 hm => ?_
 refine v (vn (fun _ => o_bld ([.sc (.int .i64 0), .sc (.int .i64 0), .sc (.string ByteArray.empty), .sc (.slice none 0 0), .sc (.slice none 0 0), .sc (.slice none 0 0), .sc (.int .i64 0), .sc (.int .i64 0), .sc (.slice none 0 0)]) bt107 rfl) ?_)
 refine ve fun hk => a_store 0 ([.sc (.int .i64 0), .sc (.int .i64 0), .sc (.string ByteArray.empty), .sc (.slice none 0 0), .sc (.slice none 0 0), .sc (.slice none 0 0), .sc (.int .i64 0), .sc (.int .i64 0), .sc (.slice none 0 0)]) hk rfl rfl rfl rfl sz107 rfl rfl fun hk0 => qk hk0 rfl ?_
 refine v ?_
 cases hm
 exact vr fun hk => Ret.of2 (.inl rfl) (rsC (.agg ([.sc (.int .i64 0), .sc (.int .i64 0), .sc (.string ByteArray.empty), .sc (.slice none 0 0), .sc (.slice none 0 0), .sc (.slice none 0 0), .sc (.int .i64 0), .sc (.int .i64 0), .sc (.slice none 0 0)])) ld107 rfl (Zd 0 hk rfl) rfl) (rsT _ _ (.sc (.bool _)) rfl) (hp_sub (List.nil_sublist _) hk).1 (ALe.agg (.k3 (.cons (nil_lem _) (.cons (nil_lem _) (.cons (nil_lem _) (.k2 (.cons (nil_lem _) .nil))))))) (ALe.refl _ _) ⟨rfl, rfl⟩
 refine v (v ?_)
 refine vk W107 bd107 hm rfl rfl fun y0 hm => ?_
 refine ve fun hk => a_alloc ([.sc (.string ByteArray.empty), .sc (.slice none 0 0)]) hk zr57 rfl rfl fun k44 hk1 => qk hk1 rfl ?_
 refine ve fun hk => a_store 0 (c_Manifest y0.1) hk rfl rfl rfl rfl sz57 rfl rfl fun hk2 => qk hk2 rfl ?_
 refine v (vl 3 _ ld3 rfl rfl rfl (vl 0 (.agg (c_Manifest y0.1)) ld57 rfl rfl rfl (vn (fun _ => o_bld (([.sc (.int .i64 p0.Seq)] : List AV) ++ c_Manifest y0.1 ++ ([.sc (.slice none 0 0)] : List AV)) bt60 rfl) (vn (fun _ => o_bld (([.sc (.int .i64 1), .sc (.int .i64 p0.Seq)] : List AV) ++ c_Manifest y0.1 ++ ([.sc (.slice none 0 0), .sc (.slice none 0 0), .sc (.int .i64 0), .sc (.int .i64 0), .sc (.slice none 0 0)] : List AV)) bt107 rfl) ?_))))
 refine ve fun hk => a_alloc ([.sc (.int .i64 0), .sc (.int .i64 0), .sc (.string ByteArray.empty), .sc (.slice none 0 0), .sc (.slice none 0 0), .sc (.slice none 0 0), .sc (.int .i64 0), .sc (.int .i64 0), .sc (.slice none 0 0)]) hk zr107 rfl rfl fun k49 hk4 => qk hk4 rfl ?_
 refine ve fun hk => a_store 0 (([.sc (.int .i64 1), .sc (.int .i64 p0.Seq)] : List AV) ++ c_Manifest y0.1 ++ ([.sc (.slice none 0 0), .sc (.slice none 0 0), .sc (.int .i64 0), .sc (.int .i64 0), .sc (.slice none 0 0)] : List AV)) hk rfl rfl rfl rfl sz107 rfl rfl fun hk5 => qk hk5 rfl ?_
 refine v (vle (leo (.tok 63 35 (([] : List TChunk).length * 35)) 1 (([.sc (.int .i64 1), .sc (.int .i64 p0.Seq)] : List AV) ++ c_Manifest y0.1 ++ ([.sc (.slice none 0 0), ow none 35 (List.map c_Chunk []), .sc (.int .i64 0), .sc (.int .i64 0), .sc (.slice none 0 0)] : List AV)) rfl (.k2 (ALeL.app 2 rfl (.cons (ALe.refl _ _) (.cons (ow_nil (c := c_Chunk) _ 35) (.k3 .nil)))))) ?_)
 refine vlp hm (σ := (List TChunk) × Int) (τ := Option Key) (fun g s => [(g, .tok 63 35 ((s.1 : List TChunk).length * 35)), (some k49, .obj 107 (([.sc (.int .i64 1), .sc (.int .i64 p0.Seq)] : List AV) ++ c_Manifest y0.1 ++ ([.sc (.slice none 0 0), ow g 35 (List.map c_Chunk s.1), .sc (.int .i64 0), .sc (.int .i64 0), .sc (.slice none 0 0)] : List AV))), (some k44, .obj 57 (c_Manifest y0.1)), (some k8, .obj 107 ([.sc (.int .i64 0), .sc (.int .i64 0), .sc (.string ByteArray.empty), .sc (.slice none 0 0), .sc (.slice none 0 0), .sc (.slice none 0 0), .sc (.int .i64 0), .sc (.int .i64 0), .sc (.slice none 0 0)])), (some k5, .obj 103 (c_Act p1)), (some k2, .obj 27 (c_Catalog p0))]) (fun g s => (g = none → s.1 = [])) (fun g s => .c 2 (.ptr k2 0) (.c 4 (.ptr k8 0) (.c 11 (.sl none 1 (List.map c_s_u8 y0.2.1)) (.c 13 (.ptr k49 0) (.c 14 (.sc (.int .i64 s.2)) .nil))))) none (fun _ => rfl) (lx (.k5 .nil)) ?_ ?_
 rintro tg0 ⟨q0, q1⟩ x ot0 hm
 replace hm : M66_L1 fuel p0 y0 q0 q1 = some x := hm
 unfold M66_L1 at hm
 refine v (vln ln145 rfl (v ?_))
 refine vi hm (fun hc4 hm => ?_) fun hc4 hm => ?_
 refine v (v (v ?_))
 refine vx hm el145 rfl rfl fun _ _ hm => ?_
 refine vk W108 bd108 hm rfl rfl fun y1 hm => ?_
 refine ve fun hk => a_alloc (c_id idZ) hk zr61 rfl rfl fun k255 hk7 => qk hk7 rfl ?_
 refine ve fun hk => a_store 0 (c_id y1) hk rfl rfl rfl rfl sz61 rfl rfl fun hk8 => qk hk8 rfl ?_
 refine v (vl 6 (.agg (c_Catalog p0)) ld27 rfl rfl rfl (vl 0 (.agg (c_id y1)) ld61 rfl rfl rfl ?_))
 refine vk W64 bd64 hm rfl rfl fun _ hm => ?_
 refine vjn hm (σ := (List TChunk)) (τ := Option Key) (fun g s => [(some k255, .obj 61 (c_id y1)), (g, .tok 63 35 ((s : List TChunk).length * 35)), (some k49, .obj 107 (([.sc (.int .i64 1), .sc (.int .i64 p0.Seq)] : List AV) ++ c_Manifest y0.1 ++ ([.sc (.slice none 0 0), ow g 35 (List.map c_Chunk s), .sc (.int .i64 0), .sc (.int .i64 0), .sc (.slice none 0 0)] : List AV))), (some k44, .obj 57 (c_Manifest y0.1)), (some k8, .obj 107 ([.sc (.int .i64 0), .sc (.int .i64 0), .sc (.string ByteArray.empty), .sc (.slice none 0 0), .sc (.slice none 0 0), .sc (.slice none 0 0), .sc (.int .i64 0), .sc (.int .i64 0), .sc (.slice none 0 0)])), (some k5, .obj 103 (c_Act p1)), (some k2, .obj 27 (c_Catalog p0))]) (fun g s => (g = none → s = [])) (fun g s => .c 2 (.ptr k2 0) (.c 4 (.ptr k8 0) (.c 11 (.sl none 1 (List.map c_s_u8 y0.2.1)) (.c 13 (.ptr k49 0) (.c 14 (.sc (.int .i64 q1)) .nil))))) (fun x hm => ?_) ?_
 refine v ?_
 refine vi hm (fun hc5 hm => ?_) fun hc5 hm => ?_
 refine v ?_
 refine vz [(11, some k49, .obj 107 (([.sc (.int .i64 1), .sc (.int .i64 p0.Seq)] : List AV) ++ c_Manifest y0.1 ++ ([.sc (.slice none 0 0), ow tg0 35 (List.map c_Chunk q0), .sc (.int .i64 0), .sc (.int .i64 0), .sc (.slice none 0 0)] : List AV))), (1000000, some k255, .obj 61 (c_id y1))] mixed (fun hk => ⟨fun _ => hp_at 2 hk rfl, fun _ => hp_at 0 hk rfl, trivial⟩) fun hk => ?_
 refine z_w 0 rfl (fun S' h' hi hB => Zh fd107_2 rfl rfl) ?_
 refine z_w 1 rfl (fun S' h' hi hB => Zg (ow tg0 35 (List.map c_Chunk q0)) ld23 rfl (At.s (InvL.get 0 hi rfl (hB 11 (by kernel_rfl)))) rfl) ?_
 refine z_w 2 rfl (fun S' h' hi hB => Zg (.agg (c_id y1)) ld61 rfl (At.s (InvL.get 1 hi rfl (hB 1000000 (by kernel_rfl)))) rfl) ?_
 refine z_w 3 rfl (fun S' h' hi hB => o_mv (.sl _ _ _) rfl) ?_
 refine z_w 4 rfl (fun S' h' hi hB => o_mv (.sc (.int _ _)) rfl) ?_
 obtain ⟨x0, hx0, hm⟩ := Zc hm
 refine z_w 5 rfl (fun S' h' hi hB => o_ix hx0 el145 rfl rfl) ?_
 refine z_w 6 rfl (fun S' h' hi hB => o_ld (.sl none 1 (List.map c_u8 x0)) ld52 rfl rfl) ?_
 refine z_w 7 rfl (fun S' h' hi hB => o_weak (y := .agg (c_Chunk ({ Id := y1, Staged := true, Data := x0, Locs := [] } : TChunk))) (o_bld (c_id y1 ++ ([.sc (.bool true), .sl none 1 (List.map c_u8 x0), .sc (.slice none 0 0)] : List AV)) bt63 rfl) (ALe.agg (ALeL.app 32 rfl (.k2 (.cons (nil_lem _) .nil))))) ?_
 refine z_w 8 rfl (fun S' h' hi hB => o_lit (List.map c_Chunk ([({ Id := y1, Staged := true, Data := x0, Locs := [] } : TChunk)] : List TChunk)) et23 rfl rfl rfl rfl) ?_
 obtain ⟨z0, hz1, hm⟩ := Zc hm
 refine z_e 9 rfl (by kernel_rfl) (a_app (c := c_Chunk) 1 hz1 et23 rfl rfl rfl ot0 hk rfl fun tg1 ot1 hk10 => ⟨⟨fun _ => hp_at 2 hk10 rfl, fun _ => hp_at 0 hk10 rfl, trivial⟩, ?_⟩)
 refine z_w 10 rfl (fun S' h' hi hB => Zh fd107_2 rfl rfl) ?_
 refine z_e 11 rfl (by kernel_rfl) (a_store 2 (([.sc (.int .i64 1), .sc (.int .i64 p0.Seq)] : List AV) ++ c_Manifest y0.1 ++ ([.sc (.slice none 0 0), ow tg1 35 (List.map c_Chunk z0), .sc (.int .i64 0), .sc (.int .i64 0), .sc (.slice none 0 0)] : List AV)) hk10 rfl rfl (cellsOf_ow rfl) (all_ow _ _ _) sz23 rfl rfl fun hk11 => ⟨⟨fun e => absurd e (by decide), fun _ => hp_at 0 hk11 rfl, trivial⟩, ?_⟩)
 refine z_nil (by kernel_rfl) (qk (f := .c 97 _ (.c 96 _ (.c 95 _ (.c 94 _ (.c 93 _ (.c 92 _ (.c 91 _ (.c 90 _ (.c 89 _ (.c 88 _ (.c 87 _ _))))))))))) hk11 rfl ?_)
 exact vgo hm tg1 ot1 (lx (.k5 .nil))
 refine v ?_
 exact vgo hm tg0 ot0 (lx (.k5 .nil))
 rintro tg2 j2 ot2 hm
 refine v ?_
 exact vgo hm tg2 ot2 (lxs [1, 2, 3, 4, 5, 6] rfl rfl (.k5 .nil))
 refine v ?_
 exact vbk hm tg0 ot0 (lx (.k5 .nil))
 rintro tg3 ⟨r0, r1⟩ ot3 hm
 refine v (vl 1 (.agg (([.sc (.int .i64 1), .sc (.int .i64 p0.Seq)] : List AV) ++ c_Manifest y0.1 ++ ([.sc (.slice none 0 0), ow tg3 35 (List.map c_Chunk r0), .sc (.int .i64 0), .sc (.int .i64 0), .sc (.slice none 0 0)] : List AV))) ld107 rfl rfl rfl ?_)
 refine ve fun hk => a_store 3 (([.sc (.int .i64 1), .sc (.int .i64 p0.Seq)] : List AV) ++ c_Manifest y0.1 ++ ([.sc (.slice none 0 0), ow tg3 35 (List.map c_Chunk r0), .sc (.int .i64 0), .sc (.int .i64 0), .sc (.slice none 0 0)] : List AV)) hk rfl rfl rfl (by repeat (first | exact rfl | refine all_c (ocell_ow _ _ _) ?_ | refine all_c (ocell_aw _ _ _) ?_ | refine all_c rfl ?_)) sz107 rfl rfl fun hk12 => qk hk12 rfl ?_
 refine v ?_
 cases hm
 exact vr fun hk => Ret.of2 (.inl rfl) (rsC (.agg (([.sc (.int .i64 1), .sc (.int .i64 p0.Seq)] : List AV) ++ c_Manifest y0.1 ++ ([.sc (.slice none 0 0), ow tg3 35 (List.map c_Chunk r0), .sc (.int .i64 0), .sc (.int .i64 0), .sc (.slice none 0 0)] : List AV))) ld107 rfl (Zd 3 hk rfl) rfl) (rsT _ _ (.sc (.bool _)) rfl) (hp_sub (List.nil_sublist _) hk).1 (ALe.agg (.k2 (ALeL.app 2 rfl (.cons (nil_lem _) (.cons ((own_frz0 _ 0 ot3 hk rfl)) (.k2 (.cons (nil_lem _) .nil))))))) (ALe.refl _ _) ⟨rfl, rfl⟩
 refine v ?_
 refine vjnH hm (σ := Bool) (τ := Unit) (fun g s => [(some k8, .obj 107 ([.sc (.int .i64 0), .sc (.int .i64 0), .sc (.string ByteArray.empty), .sc (.slice none 0 0), .sc (.slice none 0 0), .sc (.slice none 0 0), .sc (.int .i64 0), .sc (.int .i64 0), .sc (.slice none 0 0)])), (some k5, .obj 103 (c_Act p1)), (some k2, .obj 27 (c_Catalog p0))]) (fun g s => .c 2 (.ptr k2 0) (.c 3 (.ptr k5 0) (.c 4 (.ptr k8 0) (.c 7 (.sc (.int .i64 j0)) (.c 47 (.sc (.int .u64 ((IntKind.wrap .u64 p1.Do).tmod 8))) (.c 99 (.sc (.bool s)) .nil)))))) (fun x hm => ?_) ?_
 refine v ?_
 refine vi hm (fun hc6 hm => ?_) fun hc6 hm => ?_
 refine v ?_
 exact vgo hm () trivial (lx (.k6 .nil))
 refine v ?_
 exact vgo hm () trivial (lx (.k6 .nil))
 rintro _ j3 hm
 refine v ?_
 refine vi hm (fun hc7 hm => ?_) fun hc7 hm => ?_
 refine v (vl 2 _ ld22 rfl rfl rfl (vln ln22 rfl (v ?_)))
 refine vi hm (fun hc8 hm => ?_) fun hc8 hm => ?_
 refine v (vn (fun _ => o_bld ([.sc (.int .i64 0), .sc (.int .i64 0), .sc (.string ByteArray.empty), .sc (.slice none 0 0), .sc (.slice none 0 0), .sc (.slice none 0 0), .sc (.int .i64 0), .sc (.int .i64 0), .sc (.slice none 0 0)]) bt107 rfl) ?_)
 refine ve fun hk => a_store 0 ([.sc (.int .i64 0), .sc (.int .i64 0), .sc (.string ByteArray.empty), .sc (.slice none 0 0), .sc (.slice none 0 0), .sc (.slice none 0 0), .sc (.int .i64 0), .sc (.int .i64 0), .sc (.slice none 0 0)]) hk rfl rfl rfl rfl sz107 rfl rfl fun hk13 => qk hk13 rfl ?_
 refine v ?_
 cases hm
 exact vr fun hk => Ret.of2 (.inl rfl) (rsC (.agg ([.sc (.int .i64 0), .sc (.int .i64 0), .sc (.string ByteArray.empty), .sc (.slice none 0 0), .sc (.slice none 0 0), .sc (.slice none 0 0), .sc (.int .i64 0), .sc (.int .i64 0), .sc (.slice none 0 0)])) ld107 rfl (Zd 0 hk rfl) rfl) (rsT _ _ (.sc (.bool _)) rfl) (hp_sub (List.nil_sublist _) hk).1 (ALe.agg (.k3 (.cons (nil_lem _) (.cons (nil_lem _) (.cons (nil_lem _) (.k2 (.cons (nil_lem _) .nil))))))) (ALe.refl _ _) ⟨rfl, rfl⟩
 refine v (v ?_)
 refine vz [(1000000, some k2, .obj 27 (c_Catalog p0)), (1000000, some k5, .obj 103 (c_Act p1))] mixed (fun hk => ⟨fun _ => hp_at 2 hk rfl, fun _ => hp_at 1 hk rfl, trivial⟩) fun hk => ?_
 refine z_w 0 rfl (fun S' h' hi hB => Zh fd27_1 rfl rfl) ?_
 refine z_w 1 rfl (fun S' h' hi hB => Zg (.sl none 4 (List.map c_Snap p0.Snaps)) ld22 rfl (At.s (InvL.get 0 hi rfl (hB 1000000 (by kernel_rfl)))) rfl) ?_
 refine z_w 2 rfl (fun S' h' hi hB => Zh fd103_1 rfl rfl) ?_
 refine z_w 3 rfl (fun S' h' hi hB => Zg (.sc (.int .i64 p1.N)) ld3 rfl (At.s (InvL.get 1 hi rfl (hB 1000000 (by kernel_rfl)))) rfl) ?_
 refine z_w 4 rfl (fun S' h' hi hB => o_cv ti3 ti46 rfl) ?_
 refine z_w 5 rfl (fun S' h' hi hB => Zh fd27_1 rfl rfl) ?_
 refine z_w 6 rfl (fun S' h' hi hB => Zg (.sl none 4 (List.map c_Snap p0.Snaps)) ld22 rfl (At.s (InvL.get 0 hi rfl (hB 1000000 (by kernel_rfl)))) rfl) ?_
 refine z_w 7 rfl (fun S' h' hi hB => o_lenm ln22 rfl) ?_
 refine z_w 8 rfl (fun S' h' hi hB => o_cv ti3 ti46 rfl) ?_
 obtain ⟨hz2, hm⟩ := grd_of hm
 refine z_w 9 rfl (fun S' h' hi hB => o_bi rfl rfl rfl (bne_z hz2)) ?_
 refine z_w 10 rfl (fun S' h' hi hB => o_cv ti46 ti3 rfl) ?_
 obtain ⟨x1, hx1, hm⟩ := Zc hm
 refine z_w 11 rfl (fun S' h' hi hB => o_ix hx1 el22 rfl rfl) ?_
 refine z_w 12 rfl (fun S' h' hi hB => o_ld (.agg (c_Snap x1)) ld60 rfl rfl) ?_
 refine z_e 13 rfl (by kernel_rfl) (a_alloc ([.sc (.int .i64 0), .sc (.string ByteArray.empty), .sc (.slice none 0 0), .sc (.slice none 0 0)]) hk zr60 rfl rfl fun k329 hk14 => ⟨⟨fun _ => hp_at 3 hk14 rfl, fun _ => hp_at 2 hk14 rfl, trivial⟩, ?_⟩)
 refine z_e 14 rfl (by kernel_rfl) (a_store 0 (c_Snap x1) hk14 rfl rfl rfl rfl sz60 rfl rfl fun hk15 => ⟨⟨fun _ => hp_at 3 hk15 rfl, fun _ => hp_at 2 hk15 rfl, trivial⟩, ?_⟩)
 refine z_nil (by kernel_rfl) (qk (f := .c 16 _ (.c 119 _ (.c 118 _ (.c 117 _ (.c 116 _ (.c 115 _ (.c 114 _ (.c 113 _ (.c 112 _ (.c 111 _ (.c 110 _ (.c 109 _ (.c 108 _ (.c 107 _ _)))))))))))))) hk15 rfl ?_)
 refine v (vl 2 _ ld3 rfl rfl rfl (v ?_))
 refine vi hm (fun hc9 hm => ?_) fun hc9 hm => ?_
 refine v (vl 0 _ ld3 rfl rfl rfl (vn (fun _ => o_bld ([.sc (.int .i64 2), .sc (.int .i64 0), .sc (.string ByteArray.empty), .sc (.slice none 0 0), .sc (.slice none 0 0), .sc (.slice none 0 0), .sc (.int .i64 x1.Seq), .sc (.int .i64 0), .sc (.slice none 0 0)]) bt107 rfl) ?_))
 refine ve fun hk => a_store 1 ([.sc (.int .i64 2), .sc (.int .i64 0), .sc (.string ByteArray.empty), .sc (.slice none 0 0), .sc (.slice none 0 0), .sc (.slice none 0 0), .sc (.int .i64 x1.Seq), .sc (.int .i64 0), .sc (.slice none 0 0)]) hk rfl rfl rfl rfl sz107 rfl rfl fun hk16 => qk hk16 rfl ?_
 refine v ?_
 cases hm
 exact vr fun hk => Ret.of2 (.inl rfl) (rsC (.agg ([.sc (.int .i64 2), .sc (.int .i64 0), .sc (.string ByteArray.empty), .sc (.slice none 0 0), .sc (.slice none 0 0), .sc (.slice none 0 0), .sc (.int .i64 x1.Seq), .sc (.int .i64 0), .sc (.slice none 0 0)])) ld107 rfl (Zd 1 hk rfl) rfl) (rsT _ _ (.sc (.bool _)) rfl) (hp_sub (List.nil_sublist _) hk).1 (ALe.agg (.k3 (.cons (nil_lem _) (.cons (nil_lem _) (.cons (nil_lem _) (.k2 (.cons (nil_lem _) .nil))))))) (ALe.refl _ _) ⟨rfl, rfl⟩
 refine v (v (vl 3 _ ld3 rfl rfl rfl (vl 0 _ ld3 rfl rfl rfl (vn (fun _ => o_bld (c_Item ({ Kind := 3, Id := idZ, Seq := p0.Seq, Of := x1.Seq, Off := 13, Len := 17 } : TItem)) bt99 rfl) (vn (fun _ => o_lit (List.map c_Item ([({ Kind := 3, Id := idZ, Seq := p0.Seq, Of := x1.Seq, Off := 13, Len := 17 } : TItem)] : List TItem)) et70 rfl rfl rfl rfl) (vn (fun _ => o_bld ([.sc (.int .i64 3), .sc (.int .i64 0), .sc (.string ByteArray.empty), .sc (.slice none 0 0), .sc (.slice none 0 0), .sc (.slice none 0 0), .sc (.int .i64 0), .sc (.int .i64 j0), .sl none 37 (List.map c_Item ([({ Kind := 3, Id := idZ, Seq := p0.Seq, Of := x1.Seq, Off := 13, Len := 17 } : TItem)] : List TItem))]) bt107 rfl) ?_))))))
 refine ve fun hk => a_store 1 ([.sc (.int .i64 3), .sc (.int .i64 0), .sc (.string ByteArray.empty), .sc (.slice none 0 0), .sc (.slice none 0 0), .sc (.slice none 0 0), .sc (.int .i64 0), .sc (.int .i64 j0), .sl none 37 (List.map c_Item ([({ Kind := 3, Id := idZ, Seq := p0.Seq, Of := x1.Seq, Off := 13, Len := 17 } : TItem)] : List TItem))]) hk rfl rfl rfl rfl sz107 rfl rfl fun hk17 => qk hk17 rfl ?_
 refine v ?_
 cases hm
 exact vr fun hk => Ret.of2 (.inl rfl) (rsC (.agg ([.sc (.int .i64 3), .sc (.int .i64 0), .sc (.string ByteArray.empty), .sc (.slice none 0 0), .sc (.slice none 0 0), .sc (.slice none 0 0), .sc (.int .i64 0), .sc (.int .i64 j0), .sl none 37 (List.map c_Item ([({ Kind := 3, Id := idZ, Seq := p0.Seq, Of := x1.Seq, Off := 13, Len := 17 } : TItem)] : List TItem))])) ld107 rfl (Zd 1 hk rfl) rfl) (rsT _ _ (.sc (.bool _)) rfl) (hp_sub (List.nil_sublist _) hk).1 (ALe.agg (.k3 (.cons (nil_lem _) (.cons (nil_lem _) (.cons (nil_lem _) (.k3 .nil)))))) (ALe.refl _ _) ⟨rfl, rfl⟩
 refine v ?_
 refine vjnH hm (σ := Bool) (τ := Unit) (fun g s => [(some k8, .obj 107 ([.sc (.int .i64 0), .sc (.int .i64 0), .sc (.string ByteArray.empty), .sc (.slice none 0 0), .sc (.slice none 0 0), .sc (.slice none 0 0), .sc (.int .i64 0), .sc (.int .i64 0), .sc (.slice none 0 0)])), (some k5, .obj 103 (c_Act p1)), (some k2, .obj 27 (c_Catalog p0))]) (fun g s => .c 2 (.ptr k2 0) (.c 3 (.ptr k5 0) (.c 4 (.ptr k8 0) (.c 7 (.sc (.int .i64 j0)) (.c 47 (.sc (.int .u64 ((IntKind.wrap .u64 p1.Do).tmod 8))) (.c 136 (.sc (.bool s)) .nil)))))) (fun x hm => ?_) ?_
 refine v ?_
 refine vi hm (fun hc10 hm => ?_) fun hc10 hm => ?_
 refine v ?_
 exact vgo hm () trivial (lx (.k6 .nil))
 refine v ?_
 exact vgo hm () trivial (lx (.k6 .nil))
 rintro _ j4 hm
 refine v ?_
 refine vi hm (fun hc11 hm => ?_) fun hc11 hm => ?_
 refine v (v (v (vle (lno (.tok 99 37 (([] : List TItem).length * 37)) 17 (ow none 37 (List.map c_Item [])) (ow_nil _ _)) ?_)))
 refine vlp hm (σ := (List TItem) × Int × Int) (τ := Option Key) (fun g s => [(g, .tok 99 37 ((s.1 : List TItem).length * 37)), (some k8, .obj 107 ([.sc (.int .i64 0), .sc (.int .i64 0), .sc (.string ByteArray.empty), .sc (.slice none 0 0), .sc (.slice none 0 0), .sc (.slice none 0 0), .sc (.int .i64 0), .sc (.int .i64 0), .sc (.slice none 0 0)])), (some k5, .obj 103 (c_Act p1)), (some k2, .obj 27 (c_Catalog p0))]) (fun g s => (g = none → s.1 = [])) (fun g s => .c 2 (.ptr k2 0) (.c 3 (.ptr k5 0) (.c 4 (.ptr k8 0) (.c 7 (.sc (.int .i64 j0)) (.c 17 (ow g 37 (List.map c_Item s.1)) (.c 18 (.sc (.int .i64 s.2.1)) (.c 19 (.sc (.int .i64 s.2.2)) .nil))))))) none (fun _ => rfl) (lx (.k7 .nil)) ?_ ?_
 rintro tg4 ⟨q2, q3, q4⟩ x ot4 hm
 replace hm : M66_L3 fuel p0 p1 q2 q3 q4 = some x := hm
 unfold M66_L3 at hm
 refine vs (vs ?_)
 refine vjnH hm (σ := Bool) (τ := Unit) (fun g s => [(tg4, .tok 99 37 ((q2 : List TItem).length * 37)), (some k8, .obj 107 ([.sc (.int .i64 0), .sc (.int .i64 0), .sc (.string ByteArray.empty), .sc (.slice none 0 0), .sc (.slice none 0 0), .sc (.slice none 0 0), .sc (.int .i64 0), .sc (.int .i64 0), .sc (.slice none 0 0)])), (some k5, .obj 103 (c_Act p1)), (some k2, .obj 27 (c_Catalog p0))]) (fun g s => .c 2 (.ptr k2 0) (.c 3 (.ptr k5 0) (.c 4 (.ptr k8 0) (.c 7 (.sc (.int .i64 j0)) (.c 17 (ow tg4 37 (List.map c_Item q2)) (.c 18 (.sc (.int .i64 q3)) (.c 19 (.sc (.int .i64 q4)) (.c 156 (.sc (.bool s)) .nil)))))))) (fun x hm => ?_) ?_
 refine v (vl 3 _ ld23 rfl rfl rfl (vln ln23 rfl (vl 3 _ ld22 rfl rfl rfl (vln ln22 rfl (vl 3 _ ld24 rfl rfl rfl (vln ln24 rfl ?_))))))
 refine vi hm (fun hb0 hm => ?_) fun hb0 hm => ?_
 rw [hb0]
 refine vn (fun _ => o_leno ln70 ot4 rfl) ?_
 exact vgo hm () trivial (lx (.k8 .nil))
 rw [hb0]
 exact vgo hm () trivial (lx (.k8 .nil))
 rintro _ j5 hm
 refine v ?_
 refine vi hm (fun hc12 hm => ?_) fun hc12 hm => ?_
 refine v (vs ?_)
 refine vjn hm (σ := (List TItem) × Int) (τ := Option Key) (fun g s => [(g, .tok 99 37 ((s.1 : List TItem).length * 37)), (some k8, .obj 107 ([.sc (.int .i64 0), .sc (.int .i64 0), .sc (.string ByteArray.empty), .sc (.slice none 0 0), .sc (.slice none 0 0), .sc (.slice none 0 0), .sc (.int .i64 0), .sc (.int .i64 0), .sc (.slice none 0 0)])), (some k5, .obj 103 (c_Act p1)), (some k2, .obj 27 (c_Catalog p0))]) (fun g s => (g = none → s.1 = [])) (fun g s => .c 2 (.ptr k2 0) (.c 3 (.ptr k5 0) (.c 4 (.ptr k8 0) (.c 7 (.sc (.int .i64 j0)) (.c 17 (ow g 37 (List.map c_Item s.1)) (.c 18 (.sc (.int .i64 s.2)) (.c 19 (.sc (.int .i64 q4)) .nil))))))) (fun x hm => ?_) ?_
 refine v (vs (vs ?_))
 refine vjnH hm (σ := Bool) (τ := Unit) (fun g s => [(tg4, .tok 99 37 ((q2 : List TItem).length * 37)), (some k8, .obj 107 ([.sc (.int .i64 0), .sc (.int .i64 0), .sc (.string ByteArray.empty), .sc (.slice none 0 0), .sc (.slice none 0 0), .sc (.slice none 0 0), .sc (.int .i64 0), .sc (.int .i64 0), .sc (.slice none 0 0)])), (some k5, .obj 103 (c_Act p1)), (some k2, .obj 27 (c_Catalog p0))]) (fun g s => .c 2 (.ptr k2 0) (.c 3 (.ptr k5 0) (.c 4 (.ptr k8 0) (.c 7 (.sc (.int .i64 j0)) (.c 17 (ow tg4 37 (List.map c_Item q2)) (.c 18 (.sc (.int .i64 q3)) (.c 19 (.sc (.int .i64 q4)) (.c 171 (.sc (.bool s)) .nil)))))))) (fun x hm => ?_) ?_
 refine v (vl 2 _ ld101 rfl rfl rfl (vln ln101 rfl ?_))
 refine vi hm (fun hb1 hm => ?_) fun hb1 hm => ?_
 rw [hb1]
 refine vl 2 _ ld101 rfl rfl rfl ?_
 refine vx hm el101 rfl rfl fun _ _ hm => ?_
 exact vgo hm () trivial (lx (.k8 .nil))
 rw [hb1]
 exact vgo hm () trivial (lx (.k8 .nil))
 rintro _ j6 hm
 refine v ?_
 refine vi hm (fun hc13 hm => ?_) fun hc13 hm => ?_
 refine v ?_
 exact vgo hm tg4 ot4 (lx (.k7 .nil))
 refine v (v (vn (fun _ => o_bld (c_Item ({ Kind := 0, Id := idZ, Seq := 0, Of := 0, Off := q3, Len := 20 } : TItem)) bt99 rfl) ?_))
 refine ve fun hk => a_alloc (([.sc (.int .i64 0)] : List AV) ++ c_id idZ ++ ([.sc (.int .i64 0), .sc (.int .i64 0), .sc (.int .i64 0), .sc (.int .i64 0)] : List AV)) hk zr99 rfl rfl fun k1523 hk18 => qk hk18 rfl ?_
 refine ve fun hk => a_store 0 (c_Item ({ Kind := 0, Id := idZ, Seq := 0, Of := 0, Off := q3, Len := 20 } : TItem)) hk rfl rfl rfl rfl sz99 rfl rfl fun hk19 => qk hk19 rfl ?_
 refine v (v (vl 4 _ ld23 rfl rfl rfl (vln ln23 rfl ?_)))
 refine vjnH hm (σ := TItem) (τ := Unit) (fun g s => [(some k1523, .obj 99 (c_Item s)), (tg4, .tok 99 37 ((q2 : List TItem).length * 37)), (some k8, .obj 107 ([.sc (.int .i64 0), .sc (.int .i64 0), .sc (.string ByteArray.empty), .sc (.slice none 0 0), .sc (.slice none 0 0), .sc (.slice none 0 0), .sc (.int .i64 0), .sc (.int .i64 0), .sc (.slice none 0 0)])), (some k5, .obj 103 (c_Act p1)), (some k2, .obj 27 (c_Catalog p0))]) (fun g s => .c 2 (.ptr k2 0) (.c 3 (.ptr k5 0) (.c 4 (.ptr k8 0) (.c 7 (.sc (.int .i64 j0)) (.c 17 (ow tg4 37 (List.map c_Item q2)) (.c 18 (.sc (.int .i64 q3)) (.c 19 (.sc (.int .i64 q4)) (.c 20 (.ptr k1523 0) .nil)))))))) (fun x hm => ?_) ?_
 refine v ?_
 refine vi hm (fun hc14 hm => ?_) fun hc14 hm => ?_
 refine v ?_
 refine vz [(1000000, some k2, .obj 27 (c_Catalog p0)), (7, some k1523, .obj 99 (c_Item ({ Kind := 0, Id := idZ, Seq := 0, Of := 0, Off := q3, Len := 20 } : TItem)))] mixed (fun hk => ⟨fun _ => hp_at 4 hk rfl, fun _ => hp_at 0 hk rfl, trivial⟩) fun hk => ?_
 refine z_w 0 rfl (fun S' h' hi hB => Zh fd27_2 rfl rfl) ?_
 refine z_w 1 rfl (fun S' h' hi hB => Zg (.sl none 35 (List.map c_Chunk p0.Chunks)) ld23 rfl (At.s (InvL.get 0 hi rfl (hB 1000000 (by kernel_rfl)))) rfl) ?_
 refine z_w 2 rfl (fun S' h' hi hB => o_mv (.sc (.int _ _)) rfl) ?_
 obtain ⟨x2, hx2, hm⟩ := Zc hm
 refine z_w 3 rfl (fun S' h' hi hB => o_ix hx2 el23 rfl rfl) ?_
 refine z_w 4 rfl (fun S' h' hi hB => o_fl fd63_0 rfl rfl) ?_
 refine z_w 5 rfl (fun S' h' hi hB => o_ld (.agg (c_id x2.Id)) ld61 rfl rfl) ?_
 refine z_w 6 rfl (fun S' h' hi hB => Zh fd99_0 rfl rfl) ?_
 refine z_e 7 rfl (by kernel_rfl) (a_store 0 (c_Item { ({ Kind := 0, Id := idZ, Seq := 0, Of := 0, Off := q3, Len := 20 } : TItem) with Kind := 1 }) hk rfl rfl rfl rfl sz3 rfl rfl fun hk20 => ⟨⟨fun _ => hp_at 4 hk20 rfl, fun e => absurd e (by decide), trivial⟩, ?_⟩)
 refine z_w 8 rfl (fun S' h' hi hB => Zh fd99_1 rfl rfl) ?_
 refine z_e 9 rfl (by kernel_rfl) (a_store 0 (c_Item { { ({ Kind := 0, Id := idZ, Seq := 0, Of := 0, Off := q3, Len := 20 } : TItem) with Kind := 1 } with Id := x2.Id }) hk20 rfl rfl rfl rfl sz61 rfl rfl fun hk21 => ⟨⟨fun _ => hp_at 4 hk21 rfl, fun e => absurd e (by decide), trivial⟩, ?_⟩)
 refine z_nil (by kernel_rfl) (qk (f := .c 207 _ (.c 206 _ (.c 205 _ (.c 204 _ (.c 203 _ (.c 202 _ (.c 201 _ (.c 200 _ _)))))))) hk21 rfl ?_)
 exact vgo hm () trivial (lx (.k8 .nil))
 refine v (vl 4 _ ld23 rfl rfl rfl (vln ln23 rfl (vl 4 _ ld22 rfl rfl rfl (vln ln22 rfl ?_))))
 refine vjnH hm (σ := TItem) (τ := Unit) (fun g s => [(some k1523, .obj 99 (c_Item s)), (tg4, .tok 99 37 ((q2 : List TItem).length * 37)), (some k8, .obj 107 ([.sc (.int .i64 0), .sc (.int .i64 0), .sc (.string ByteArray.empty), .sc (.slice none 0 0), .sc (.slice none 0 0), .sc (.slice none 0 0), .sc (.int .i64 0), .sc (.int .i64 0), .sc (.slice none 0 0)])), (some k5, .obj 103 (c_Act p1)), (some k2, .obj 27 (c_Catalog p0))]) (fun g s => .c 2 (.ptr k2 0) (.c 3 (.ptr k5 0) (.c 4 (.ptr k8 0) (.c 7 (.sc (.int .i64 j0)) (.c 17 (ow tg4 37 (List.map c_Item q2)) (.c 18 (.sc (.int .i64 q3)) (.c 19 (.sc (.int .i64 q4)) (.c 20 (.ptr k1523 0) .nil)))))))) (fun x hm => ?_) ?_
 refine v ?_
 refine vi hm (fun hc15 hm => ?_) fun hc15 hm => ?_
 refine v ?_
 refine vz [(1000000, some k2, .obj 27 (c_Catalog p0)), (11, some k1523, .obj 99 (c_Item ({ Kind := 0, Id := idZ, Seq := 0, Of := 0, Off := q3, Len := 20 } : TItem)))] mixed (fun hk => ⟨fun _ => hp_at 4 hk rfl, fun _ => hp_at 0 hk rfl, trivial⟩) fun hk => ?_
 refine z_w 0 rfl (fun S' h' hi hB => Zh fd27_1 rfl rfl) ?_
 refine z_w 1 rfl (fun S' h' hi hB => Zg (.sl none 4 (List.map c_Snap p0.Snaps)) ld22 rfl (At.s (InvL.get 0 hi rfl (hB 1000000 (by kernel_rfl)))) rfl) ?_
 refine z_w 2 rfl (fun S' h' hi hB => o_mv (.sc (.int _ _)) rfl) ?_
 refine z_w 3 rfl (fun S' h' hi hB => Zh fd27_2 rfl rfl) ?_
 refine z_w 4 rfl (fun S' h' hi hB => Zg (.sl none 35 (List.map c_Chunk p0.Chunks)) ld23 rfl (At.s (InvL.get 0 hi rfl (hB 1000000 (by kernel_rfl)))) rfl) ?_
 refine z_w 5 rfl (fun S' h' hi hB => o_lenm ln23 rfl) ?_
 refine z_w 6 rfl (fun S' h' hi hB => o_bi rfl rfl rfl trivial) ?_
 obtain ⟨x3, hx3, hm⟩ := Zc hm
 refine z_w 7 rfl (fun S' h' hi hB => o_ix hx3 el22 rfl rfl) ?_
 refine z_w 8 rfl (fun S' h' hi hB => o_fl fd60_0 rfl rfl) ?_
 refine z_w 9 rfl (fun S' h' hi hB => o_ld (.sc (.int .i64 x3.Seq)) ld3 rfl rfl) ?_
 refine z_w 10 rfl (fun S' h' hi hB => Zh fd99_0 rfl rfl) ?_
 refine z_e 11 rfl (by kernel_rfl) (a_store 0 (c_Item { ({ Kind := 0, Id := idZ, Seq := 0, Of := 0, Off := q3, Len := 20 } : TItem) with Kind := 2 }) hk rfl rfl rfl rfl sz3 rfl rfl fun hk22 => ⟨⟨fun _ => hp_at 4 hk22 rfl, fun e => absurd e (by decide), trivial⟩, ?_⟩)
 refine z_w 12 rfl (fun S' h' hi hB => Zh fd99_2 rfl rfl) ?_
 refine z_e 13 rfl (by kernel_rfl) (a_store 0 (c_Item { { ({ Kind := 0, Id := idZ, Seq := 0, Of := 0, Off := q3, Len := 20 } : TItem) with Kind := 2 } with Seq := x3.Seq }) hk22 rfl rfl rfl rfl sz3 rfl rfl fun hk23 => ⟨⟨fun _ => hp_at 4 hk23 rfl, fun e => absurd e (by decide), trivial⟩, ?_⟩)
 refine z_nil (by kernel_rfl) (qk (f := .c 229 _ (.c 228 _ (.c 227 _ (.c 226 _ (.c 225 _ (.c 224 _ (.c 223 _ (.c 222 _ (.c 221 _ (.c 220 _ (.c 219 _ (.c 218 _ _)))))))))))) hk23 rfl ?_)
 exact vgo hm () trivial (lx (.k8 .nil))
 refine v (vl 4 _ ld24 rfl rfl rfl (vl 4 _ ld23 rfl rfl rfl (vln ln23 rfl (vl 4 _ ld22 rfl rfl rfl (vln ln22 rfl ?_)))))
 refine vx hm el24 rfl rfl fun x4 _ hm => ?_
 refine va (.agg (c_Exp x4)) ld65 rfl rfl ?_
 refine ve fun hk => a_alloc ([.sc (.int .i64 0), .sc (.int .i64 0), .sc (.slice none 0 0)]) hk zr65 rfl rfl fun k1631 hk24 => qk hk24 rfl ?_
 refine ve fun hk => a_store 0 (c_Exp x4) hk rfl rfl rfl rfl sz65 rfl rfl fun hk25 => qk hk25 rfl ?_
 refine v ?_
 refine vz [(1000000, some k1631, .obj 65 (c_Exp x4)), (5, some k1523, .obj 99 (c_Item ({ Kind := 0, Id := idZ, Seq := 0, Of := 0, Off := q3, Len := 20 } : TItem)))] mixed (fun hk => ⟨fun _ => hp_at 0 hk rfl, fun _ => hp_at 1 hk rfl, trivial⟩) fun hk => ?_
 refine z_w 0 rfl (fun S' h' hi hB => Zh fd65_0 rfl rfl) ?_
 refine z_w 1 rfl (fun S' h' hi hB => Zg (.sc (.int .i64 x4.Seq)) ld3 rfl (At.s (InvL.get 0 hi rfl (hB 1000000 (by kernel_rfl)))) rfl) ?_
 refine z_w 2 rfl (fun S' h' hi hB => Zh fd65_1 rfl rfl) ?_
 refine z_w 3 rfl (fun S' h' hi hB => Zg (.sc (.int .i64 x4.Of)) ld3 rfl (At.s (InvL.get 0 hi rfl (hB 1000000 (by kernel_rfl)))) rfl) ?_
 refine z_w 4 rfl (fun S' h' hi hB => Zh fd99_0 rfl rfl) ?_
 refine z_e 5 rfl (by kernel_rfl) (a_store 1 (c_Item { ({ Kind := 0, Id := idZ, Seq := 0, Of := 0, Off := q3, Len := 20 } : TItem) with Kind := 3 }) hk rfl rfl rfl rfl sz3 rfl rfl fun hk26 => ⟨⟨fun _ => hp_at 0 hk26 rfl, fun e => absurd e (by decide), trivial⟩, ?_⟩)
 refine z_w 6 rfl (fun S' h' hi hB => Zh fd99_2 rfl rfl) ?_
 refine z_e 7 rfl (by kernel_rfl) (a_store 1 (c_Item { { ({ Kind := 0, Id := idZ, Seq := 0, Of := 0, Off := q3, Len := 20 } : TItem) with Kind := 3 } with Seq := x4.Seq }) hk26 rfl rfl rfl rfl sz3 rfl rfl fun hk27 => ⟨⟨fun _ => hp_at 0 hk27 rfl, fun e => absurd e (by decide), trivial⟩, ?_⟩)
 refine z_w 8 rfl (fun S' h' hi hB => Zh fd99_3 rfl rfl) ?_
 refine z_e 9 rfl (by kernel_rfl) (a_store 1 (c_Item { { { ({ Kind := 0, Id := idZ, Seq := 0, Of := 0, Off := q3, Len := 20 } : TItem) with Kind := 3 } with Seq := x4.Seq } with Of := x4.Of }) hk27 rfl rfl rfl rfl sz3 rfl rfl fun hk28 => ⟨⟨fun _ => hp_at 0 hk28 rfl, fun e => absurd e (by decide), trivial⟩, ?_⟩)
 refine z_nil (by kernel_rfl) (qk (f := .c 193 _ (.c 192 _ (.c 191 _ (.c 190 _ (.c 189 _ (.c 188 _ (.c 187 _ _))))))) hk28 rfl ?_)
 exact vgo hm () trivial (lxs [1, 2, 3, 4, 5] rfl rfl (.k8 .nil))
 rintro _ j7 hm
 exact vgo hm () trivial (lx (.k8 .nil))
 rintro _ j8 hm
 refine v (vl 0 (.agg (c_Item j8)) ld99 rfl rfl rfl (vn (fun _ => o_lit (List.map c_Item ([j8] : List TItem)) et70 rfl rfl rfl rfl) ?_))
 obtain ⟨z1, hz3, hm⟩ := Zc hm
 refine ve fun hk => a_app (c := c_Item) 1 hz3 et70 rfl rfl rfl ot4 hk rfl fun tg5 ot5 hk29 => qk hk29 rfl ?_
 exact vgo hm tg5 ot5 (lxs [1, 2, 3, 4] rfl rfl (.k7 .nil))
 rintro tg6 ⟨j9, j10⟩ ot6 hm
 refine v ?_
 exact vgo hm tg6 ot6 (lx (.k7 .nil))
 refine v ?_
 exact vbk hm tg4 ot4 (lx (.k7 .nil))
 rintro tg7 ⟨r2, r3, r4⟩ ot7 hm
 refine v (vn (fun _ => o_bld ([.sc (.int .i64 3), .sc (.int .i64 0), .sc (.string ByteArray.empty), .sc (.slice none 0 0), .sc (.slice none 0 0), .sc (.slice none 0 0), .sc (.int .i64 0), .sc (.int .i64 j0), ow tg7 37 (List.map c_Item r2)]) bt107 (by cases tg7 <;> rfl)) (vn (fun _ => o_leno ln70 ot7 rfl) ?_))
 refine ve fun hk => a_store 1 ([.sc (.int .i64 3), .sc (.int .i64 0), .sc (.string ByteArray.empty), .sc (.slice none 0 0), .sc (.slice none 0 0), .sc (.slice none 0 0), .sc (.int .i64 0), .sc (.int .i64 j0), ow tg7 37 (List.map c_Item r2)]) hk rfl rfl rfl (by repeat (first | exact rfl | refine all_c (ocell_ow _ _ _) ?_ | refine all_c (ocell_aw _ _ _) ?_ | refine all_c rfl ?_)) sz107 rfl rfl fun hk30 => qk hk30 rfl ?_
 refine v ?_
 cases hm
 exact vr fun hk => Ret.of2 (.inl rfl) (rsC (.agg ([.sc (.int .i64 3), .sc (.int .i64 0), .sc (.string ByteArray.empty), .sc (.slice none 0 0), .sc (.slice none 0 0), .sc (.slice none 0 0), .sc (.int .i64 0), .sc (.int .i64 j0), ow tg7 37 (List.map c_Item r2)])) ld107 rfl (Zd 1 hk rfl) rfl) (rsT _ _ (.sc (.bool _)) rfl) (hp_sub (List.nil_sublist _) hk).1 (ALe.agg (.k3 (.cons (nil_lem _) (.cons (nil_lem _) (.cons (nil_lem _) (.k2 (.cons ((own_frz0 _ 0 ot7 hk rfl)) .nil))))))) (ALe.refl _ _) ⟨rfl, rfl⟩
 refine v (v ?_)
 refine vi hm (fun hc16 hm => ?_) fun hc16 hm => ?_
 refine v (vn (fun _ => o_bld ([.sc (.int .i64 4), .sc (.int .i64 0), .sc (.string ByteArray.empty), .sc (.slice none 0 0), .sc (.slice none 0 0), .sc (.slice none 0 0), .sc (.int .i64 0), .sc (.int .i64 j0), .sc (.slice none 0 0)]) bt107 rfl) ?_)
 refine ve fun hk => a_store 0 ([.sc (.int .i64 4), .sc (.int .i64 0), .sc (.string ByteArray.empty), .sc (.slice none 0 0), .sc (.slice none 0 0), .sc (.slice none 0 0), .sc (.int .i64 0), .sc (.int .i64 j0), .sc (.slice none 0 0)]) hk rfl rfl rfl rfl sz107 rfl rfl fun hk31 => qk hk31 rfl ?_
 refine v ?_
 cases hm
 exact vr fun hk => Ret.of2 (.inl rfl) (rsC (.agg ([.sc (.int .i64 4), .sc (.int .i64 0), .sc (.string ByteArray.empty), .sc (.slice none 0 0), .sc (.slice none 0 0), .sc (.slice none 0 0), .sc (.int .i64 0), .sc (.int .i64 j0), .sc (.slice none 0 0)])) ld107 rfl (Zd 0 hk rfl) rfl) (rsT _ _ (.sc (.bool _)) rfl) (hp_sub (List.nil_sublist _) hk).1 (ALe.agg (.k3 (.cons (nil_lem _) (.cons (nil_lem _) (.cons (nil_lem _) (.k2 (.cons (nil_lem _) .nil))))))) (ALe.refl _ _) ⟨rfl, rfl⟩
 refine v (v (vn (fun _ => o_bld ([.sc (.int .i64 5), .sc (.int .i64 0), .sc (.string ByteArray.empty), .sc (.slice none 0 0), .sc (.slice none 0 0), .sc (.slice none 0 0), .sc (.int .i64 0), .sc (.int .i64 j0), .sc (.slice none 0 0)]) bt107 rfl) ?_))
 refine ve fun hk => a_store 0 ([.sc (.int .i64 5), .sc (.int .i64 0), .sc (.string ByteArray.empty), .sc (.slice none 0 0), .sc (.slice none 0 0), .sc (.slice none 0 0), .sc (.int .i64 0), .sc (.int .i64 j0), .sc (.slice none 0 0)]) hk rfl rfl rfl rfl sz107 rfl rfl fun hk32 => qk hk32 rfl ?_
 refine v ?_
 cases hm
 exact vr fun hk => Ret.of2 (.inl rfl) (rsC (.agg ([.sc (.int .i64 5), .sc (.int .i64 0), .sc (.string ByteArray.empty), .sc (.slice none 0 0), .sc (.slice none 0 0), .sc (.slice none 0 0), .sc (.int .i64 0), .sc (.int .i64 j0), .sc (.slice none 0 0)])) ld107 rfl (Zd 0 hk rfl) rfl) (rsT _ _ (.sc (.bool _)) rfl) (hp_sub (List.nil_sublist _) hk).1 (ALe.agg (.k3 (.cons (nil_lem _) (.cons (nil_lem _) (.cons (nil_lem _) (.k2 (.cons (nil_lem _) .nil))))))) (ALe.refl _ _) ⟨rfl, rfl⟩
theorem bd66 : bodied Try.prog 66 = true := by kernel_rfl
open Go.Vm
def M27_L2 (fuel : Nat) (p0 : List TAct) (q0 : Int) (q1 : Int) : Option (Lp (Int) (Lp (Int) (Bool))) :=
 (ix p0 q0).bind fun x0 => if (decide (q1 < (x0.Tree.length : Int))) = true then (after ((ix p0 q0).bind fun x1 => (ix x1.Tree q1).bind fun x2 => if (decide (300 < (x2.Data.length : Int))) = true then (some (.brk true)) else (ix p0 q0).bind fun x3 => (ix x3.Tree q1).bind fun x4 => some (.brk (decide (50 < (x4.Path.size : Int)))) : Option (Lp (Bool) (Lp (Int) (Lp (Int) (Bool))))) fun j0 => if j0 = true then (some (.ret (.ret true))) else some (.go (IntKind.wrap .i64 (q1 + 1)))) else some (.brk q1)
def M27_L0 (fuel : Nat) (p0 : List TAct) (q0 : Int) : Option (Lp (Int) (Bool)) :=
 after (if (decide (q0 < (p0.length : Int))) = true then (some (.brk (decide (q0 < 30)))) else some (.brk false) : Option (Lp (Bool) (Lp (Int) (Bool)))) fun j0 => if j0 = true then (after ((ix p0 q0).bind fun x0 => if (decide (300 < (x0.Pick.length : Int))) = true then (some (.brk true)) else (ix p0 q0).bind fun x1 => some (.brk (decide (10 < (x1.Tree.length : Int)))) : Option (Lp (Bool) (Lp (Int) (Bool)))) fun j1 => if j1 = true then (some (.ret true)) else after (loopM (fun s => M27_L2 fuel p0 q0 s) fuel 0) fun r0 => some (.go (IntKind.wrap .i64 (q0 + 1)))) else some (.brk q0)
def M27 (fuel : Nat) (p0 : List TAct) : Option (Bool) :=
 if (decide (120 < (p0.length : Int))) = true then (some true) else after (loopM (fun s => M27_L0 fuel p0 s) fuel 0) fun r0 => some false
set_option maxHeartbeats 4000000 in
set_option maxRecDepth 100000 in
theorem W27 {fuel : Nat} {p0 : List TAct} {o : Bool} (h : Heap) (hm : M27 fuel p0 = some o) :
 ACalls Try.prog 27 [.sl none 5 (List.map c_Act p0)] h (fun r h' => r = .sc (.bool o) ∧ h' = h) := by
 refine ACv 68 [.tmp 2] Try.func27 rfl rfl rfl rfl ?_
 unfold M27 at hm
 refine v (v (vln ln42 rfl (v ?_)))
 refine vi hm (fun hc4 hm => ?_) fun hc4 hm => ?_
 refine v (v ?_)
 injection hm with hm; subst hm
 exact vr1 rfl
 refine v (v ?_)
 refine vlpH hm (σ := Int) (τ := Unit) (fun g s => []) (fun g s => .c 0 (.sl none 5 (List.map c_Act p0)) (.c 3 (.sc (.int .i64 s)) .nil)) () (lx (.k2 .nil)) ?_ ?_
 rintro _ q0 x hm
 replace hm : M27_L0 fuel p0 q0 = some x := hm
 unfold M27_L0 at hm
 refine vs (vs ?_)
 refine vjnH hm (σ := Bool) (τ := Unit) (fun g s => []) (fun g s => .c 0 (.sl none 5 (List.map c_Act p0)) (.c 3 (.sc (.int .i64 q0)) (.c 15 (.sc (.bool s)) .nil))) (fun x hm => ?_) ?_
 refine v (vln ln42 rfl ?_)
 refine vi hm (fun hb0 hm => ?_) fun hb0 hm => ?_
 rw [hb0]
 exact vgo hm () trivial (lx (.k3 .nil))
 rw [hb0]
 exact vgo hm () trivial (lx (.k3 .nil))
 rintro _ j0 hm
 refine v ?_
 refine vi hm (fun hc0 hm => ?_) fun hc0 hm => ?_
 refine v (v (vs (vs ?_)))
 refine vjnH hm (σ := Bool) (τ := Unit) (fun g s => []) (fun g s => .c 0 (.sl none 5 (List.map c_Act p0)) (.c 3 (.sc (.int .i64 q0)) (.c 33 (.sc (.bool s)) .nil))) (fun x hm => ?_) ?_
 refine v ?_
 refine vx hm el42 rfl rfl fun _ _ hm => ?_
 refine vln ln101 rfl ?_
 refine vi hm (fun hb1 hm => ?_) fun hb1 hm => ?_
 rw [hb1]
 exact vgo hm () trivial (lx (.k3 .nil))
 rw [hb1]
 refine vx hm el42 rfl rfl fun _ _ hm => ?_
 refine vln ln100 rfl ?_
 exact vgo hm () trivial (lx (.k3 .nil))
 rintro _ j1 hm
 refine v ?_
 refine vi hm (fun hc1 hm => ?_) fun hc1 hm => ?_
 refine v (v ?_)
 refine vrt hm fun hm => ?_
 injection hm with hm; subst hm
 exact vr1 rfl
 refine v (v ?_)
 refine vlpH hm (σ := Int) (τ := Unit) (fun g s => []) (fun g s => .c 0 (.sl none 5 (List.map c_Act p0)) (.c 3 (.sc (.int .i64 q0)) (.c 4 (.sc (.int .i64 s)) .nil))) () (lx (.k3 .nil)) ?_ ?_
 rintro _ q1 x hm
 replace hm : M27_L2 fuel p0 q0 q1 = some x := hm
 unfold M27_L2 at hm
 refine v ?_
 refine vx hm el42 rfl rfl fun _ _ hm => ?_
 refine vln ln100 rfl (v ?_)
 refine vi hm (fun hc2 hm => ?_) fun hc2 hm => ?_
 refine v (v (vs ?_))
 refine vjnH hm (σ := Bool) (τ := Unit) (fun g s => []) (fun g s => .c 0 (.sl none 5 (List.map c_Act p0)) (.c 3 (.sc (.int .i64 q0)) (.c 4 (.sc (.int .i64 q1)) (.c 67 (.sc (.bool s)) .nil)))) (fun x hm => ?_) ?_
 refine v ?_
 refine vx hm el42 rfl rfl fun _ _ hm => ?_
 refine vx hm el100 rfl rfl fun _ _ hm => ?_
 refine vln ln52 rfl ?_
 refine vi hm (fun hb2 hm => ?_) fun hb2 hm => ?_
 rw [hb2]
 exact vgo hm () trivial (lx (.k4 .nil))
 rw [hb2]
 refine vx hm el42 rfl rfl fun _ _ hm => ?_
 refine vx hm el100 rfl rfl fun _ _ hm => ?_
 refine vn (fun _ => o_lent ln9 rfl) ?_
 exact vgo hm () trivial (lx (.k4 .nil))
 rintro _ j2 hm
 refine v ?_
 refine vi hm (fun hc3 hm => ?_) fun hc3 hm => ?_
 refine v (v ?_)
 refine vrt hm fun hm => ?_
 refine vrt hm fun hm => ?_
 injection hm with hm; subst hm
 exact vr1 rfl
 refine v (v ?_)
 exact vgo hm () trivial (lx (.k3 .nil))
 refine v ?_
 exact vbk hm () trivial (lx (.k3 .nil))
 rintro _ r0 hm
 refine v ?_
 exact vgo hm () trivial (lx (.k2 .nil))
 refine v ?_
 exact vbk hm () trivial (lx (.k2 .nil))
 rintro _ r1 hm
 refine v (v ?_)
 injection hm with hm; subst hm
 exact vr1 rfl
theorem bd27 : bodied Try.prog 27 = true := by kernel_rfl
def M29_L0 (fuel : Nat) (p0 : List Int) (q0 : List Int) (q1 : Int) : Option (Lp ((List Int) × Int) ((List Int))) :=
 after (if (decide (q1 < (p0.length : Int))) = true then (some (.brk (decide (q1 < 8)))) else some (.brk false) : Option (Lp (Bool) (Lp ((List Int) × Int) ((List Int))))) fun j0 => if j0 = true then ((ix p0 q1).bind fun x0 => (app q0 ([bitsV .and .i64 x0 1] : List Int)).bind fun z0 => some (.go (z0, IntKind.wrap .i64 (q1 + 1)))) else some (.brk (q0, q1))
def M29 (fuel : Nat) (p0 : List Int) : Option ((List Int)) :=
 after (loopM (fun s => M29_L0 fuel p0 s.1 s.2) fuel ([], 0)) fun ⟨r0, r1⟩ => after (if ((r0.length : Int) == 0) = true then (some (.brk ([0] : List Int))) else some (.brk r0) : Option (Lp ((List Int)) ((List Int)))) fun j0 => some j0
set_option maxHeartbeats 4000000 in
set_option maxRecDepth 100000 in
theorem W29 {fuel : Nat} {p0 : List Int} {o : (List Int)} (h : Heap) (hm : M29 fuel p0 = some o) :
 ACalls Try.prog 29 [.sl none 1 (List.map c_i64 p0)] h (fun r h' => r = .sl none 1 (List.map c_i64 o) ∧ h' = h) := by
 refine ACv 28 [.tmp 2] Try.func29 rfl rfl rfl rfl ?_
 unfold M29 at hm
 refine v (v (v (vle (lno (.tok 3 1 (([] : List Int).length * 1)) 3 (ow none 1 (List.map c_i64 [])) (ow_nil _ _)) ?_)))
 refine vlp hm (σ := (List Int) × Int) (τ := Option Key) (fun g s => [(g, .tok 3 1 ((s.1 : List Int).length * 1))]) (fun g s => (g = none → s.1 = [])) (fun g s => .c 0 (.sl none 1 (List.map c_i64 p0)) (.c 3 (ow g 1 (List.map c_i64 s.1)) (.c 4 (.sc (.int .i64 s.2)) .nil))) none (fun _ => rfl) (lx (.k3 .nil)) ?_ ?_
 rintro tg0 ⟨q0, q1⟩ x ot0 hm
 replace hm : M29_L0 fuel p0 q0 q1 = some x := hm
 unfold M29_L0 at hm
 refine vs (vs ?_)
 refine vjnH hm (σ := Bool) (τ := Unit) (fun g s => [(tg0, .tok 3 1 ((q0 : List Int).length * 1))]) (fun g s => .c 0 (.sl none 1 (List.map c_i64 p0)) (.c 3 (ow tg0 1 (List.map c_i64 q0)) (.c 4 (.sc (.int .i64 q1)) (.c 12 (.sc (.bool s)) .nil)))) (fun x hm => ?_) ?_
 refine v (vln ln28 rfl ?_)
 refine vi hm (fun hb0 hm => ?_) fun hb0 hm => ?_
 rw [hb0]
 exact vgo hm () trivial (lx (.k4 .nil))
 rw [hb0]
 exact vgo hm () trivial (lx (.k4 .nil))
 rintro _ j0 hm
 refine v ?_
 refine vi hm (fun hc0 hm => ?_) fun hc0 hm => ?_
 refine v (v (v ?_))
 refine vx hm el28 rfl rfl fun x0 _ hm => ?_
 refine vn (fun _ => o_lit (List.map c_i64 ([bitsV .and .i64 x0 1] : List Int)) et28 rfl rfl rfl rfl) ?_
 obtain ⟨z0, hz0, hm⟩ := Zc hm
 refine ve fun hk => a_app (c := c_i64) 0 hz0 et28 rfl rfl rfl ot0 hk rfl fun tg1 ot1 hk0 => qk hk0 rfl ?_
 refine v ?_
 exact vgo hm tg1 ot1 (lx (.k3 .nil))
 refine v ?_
 exact vbk hm tg0 ot0 (lx (.k3 .nil))
 rintro tg2 ⟨r0, r1⟩ ot2 hm
 refine v (vn (fun _ => o_leno ln28 ot2 rfl) ?_)
 refine vjn hm (σ := (List Int)) (τ := Option Key) (fun g s => [(g, .tok 3 1 ((s : List Int).length * 1))]) (fun g s => (g = none → s = [])) (fun g s => .c 3 (ow g 1 (List.map c_i64 s)) .nil) (fun x hm => ?_) ?_
 refine v ?_
 refine vi hm (fun hc1 hm => ?_) fun hc1 hm => ?_
 refine v ?_
 refine ve fun hk => a_litg (c := c_i64) ([0] : List Int) hk et28 rfl rfl rfl rfl fun tg3 ot3 hk1 => qk hk1 rfl ?_
 exact vgo hm tg3 ot3 (lxs [0] rfl rfl (.cons (ALe.refl _ _) .nil))
 refine v ?_
 exact vgo hm tg2 ot2 (lx (.cons (ALe.refl _ _) .nil))
 rintro tg4 j1 ot4 hm
 refine v (v ?_)
 injection hm with hm; subst hm
 exact vr fun hk => Ret.of1 (.inl rfl) (rsT _ _ (ow _ _ _) rfl) (hp_sub (List.nil_sublist _) hk).1 ((own_frz0 _ 0 ot4 hk rfl)) ⟨rfl, rfl⟩
theorem bd29 : bodied Try.prog 29 = true := by kernel_rfl
def M28_L0 (fuel : Nat) (p1 : List TAct) (q0 : TCatalog) (q1 : Int) : Option (Lp (TCatalog × Int) (TCatalog)) :=
 after (if (decide (q1 < (p1.length : Int))) = true then (some (.brk (decide (q1 < 30)))) else some (.brk false) : Option (Lp (Bool) (Lp (TCatalog × Int) (TCatalog)))) fun j0 => if j0 = true then ((ix p1 q1).bind fun x0 => (M66 fuel q0 x0).bind fun y0 => after (if y0.2 = true then ((M67 fuel q0 y0.1).bind fun y1 => after (if (y1.2 == 0) = true then (some (.brk y1.1)) else some (.brk q0) : Option (Lp (TCatalog) (Lp (TCatalog) (Lp (TCatalog × Int) (TCatalog))))) fun j1 => some (.brk j1)) else some (.brk q0) : Option (Lp (TCatalog) (Lp (TCatalog × Int) (TCatalog)))) fun j2 => some (.go (j2, IntKind.wrap .i64 (q1 + 1)))) else some (.brk (q0, q1))
def M28 (fuel : Nat) (p0 : List Int) (p1 : List TAct) : Option (TCatalog) :=
 (M32 fuel p0).bind fun y6 => after (loopM (fun s => M28_L0 fuel p1 s.1 s.2) fuel (y6, 0)) fun ⟨r0, r1⟩ => some r0
set_option maxHeartbeats 4000000 in
set_option maxRecDepth 100000 in
theorem W28 {fuel : Nat} {p0 : List Int} {p1 : List TAct} {o : TCatalog} (h : Heap) (hm : M28 fuel p0 p1 = some o) :
 ACalls Try.prog 28 [.sl none 1 (List.map c_i64 p0), .sl none 5 (List.map c_Act p1)] h (fun r h' => r = .agg (c_Catalog o) ∧ h' = h) := by
 refine ACv 43 [.cell 4 27] Try.func28 rfl rfl rfl rfl ?_
 unfold M28 at hm
 refine v ?_
 refine ve fun hk => a_alloc ([.sc (.int .i64 0), .sc (.slice none 0 0), .sc (.slice none 0 0), .sc (.slice none 0 0), .sc (.slice none 0 0)]) hk zr27 rfl rfl fun k2 hk3 => qk hk3 rfl ?_
 refine v ?_
 refine vk W32 bd32 hm rfl rfl fun y6 hm => ?_
 refine ve fun hk => a_alloc ([.sc (.int .i64 0), .sc (.slice none 0 0), .sc (.slice none 0 0), .sc (.slice none 0 0), .sc (.slice none 0 0)]) hk zr27 rfl rfl fun k8 hk9 => qk hk9 rfl ?_
 refine ve fun hk => a_store 0 (c_Catalog y6) hk rfl rfl rfl rfl sz27 rfl rfl fun hk0 => qk hk0 rfl ?_
 refine v ?_
 refine vlpH hm (σ := TCatalog × Int) (τ := Unit) (fun g s => [(some k8, .obj 27 (c_Catalog s.1)), (some k2, .obj 27 ([.sc (.int .i64 0), .sc (.slice none 0 0), .sc (.slice none 0 0), .sc (.slice none 0 0), .sc (.slice none 0 0)]))]) (fun g s => .c 1 (.sl none 5 (List.map c_Act p1)) (.c 4 (.ptr k2 0) (.c 5 (.ptr k8 0) (.c 6 (.sc (.int .i64 s.2)) .nil)))) () (lx (.k4 .nil)) ?_ ?_
 rintro _ ⟨q0, q1⟩ x hm
 replace hm : M28_L0 fuel p1 q0 q1 = some x := hm
 unfold M28_L0 at hm
 refine vs (vs ?_)
 refine vjnH hm (σ := Bool) (τ := Unit) (fun g s => [(some k8, .obj 27 (c_Catalog q0)), (some k2, .obj 27 ([.sc (.int .i64 0), .sc (.slice none 0 0), .sc (.slice none 0 0), .sc (.slice none 0 0), .sc (.slice none 0 0)]))]) (fun g s => .c 1 (.sl none 5 (List.map c_Act p1)) (.c 4 (.ptr k2 0) (.c 5 (.ptr k8 0) (.c 6 (.sc (.int .i64 q1)) (.c 20 (.sc (.bool s)) .nil))))) (fun x hm => ?_) ?_
 refine v (vln ln42 rfl ?_)
 refine vi hm (fun hb0 hm => ?_) fun hb0 hm => ?_
 rw [hb0]
 exact vgo hm () trivial (lx (.k5 .nil))
 rw [hb0]
 exact vgo hm () trivial (lx (.k5 .nil))
 rintro _ j0 hm
 refine v ?_
 refine vi hm (fun hc0 hm => ?_) fun hc0 hm => ?_
 refine v (v (v ?_))
 refine vz [(1000000, some k8, .obj 27 (c_Catalog q0))] mixed (fun hk => ⟨fun _ => hp_at 0 hk rfl, trivial⟩) fun hk => ?_
 refine z_w 0 rfl (fun S' h' hi hB => Zg (.agg (c_Catalog q0)) ld27 rfl (At.s (InvL.get 0 hi rfl (hB 1000000 (by kernel_rfl)))) rfl) ?_
 refine z_w 1 rfl (fun S' h' hi hB => o_mv (.sl _ _ _) rfl) ?_
 refine z_w 2 rfl (fun S' h' hi hB => o_mv (.sc (.int _ _)) rfl) ?_
 obtain ⟨x0, hx0, hm⟩ := Zc hm
 refine z_w 3 rfl (fun S' h' hi hB => o_ix hx0 el42 rfl rfl) ?_
 refine z_w 4 rfl (fun S' h' hi hB => o_ld (.agg (c_Act x0)) ld103 rfl rfl) ?_
 obtain ⟨y0, hy0, hm⟩ := Zc hm
 refine z_w 5 rfl (fun S' h' hi hB => o_call (W66 _ hy0) rfl bd66 rfl) ?_
 refine z_w 6 rfl (fun S' h' hi hB => o_mv (.tup _) rfl) ?_
 refine z_w 7 rfl (fun S' h' hi hB => o_ex (.agg _) rfl rfl) ?_
 refine z_w 8 rfl (fun S' h' hi hB => o_ex (.sc (.bool _)) rfl rfl) ?_
 refine z_e 9 rfl (by kernel_rfl) (a_alloc ([.sc (.int .i64 0), .sc (.int .i64 0), .sc (.string ByteArray.empty), .sc (.slice none 0 0), .sc (.slice none 0 0), .sc (.slice none 0 0), .sc (.int .i64 0), .sc (.int .i64 0), .sc (.slice none 0 0)]) hk zr107 rfl rfl fun k155 hk1 => ⟨⟨fun _ => hp_at 1 hk1 rfl, trivial⟩, ?_⟩)
 refine z_e 10 rfl (by kernel_rfl) (a_store 0 (c_Change y0.1) hk1 rfl rfl rfl rfl sz107 rfl rfl fun hk2 => ⟨⟨fun _ => hp_at 1 hk2 rfl, trivial⟩, ?_⟩)
 refine z_w 11 rfl (fun S' h' hi hB => o_as (.sc (.bool _)) rfl) ?_
 refine z_nil (by kernel_rfl) (qk (f := .c 8 _ (.c 7 _ (.c 31 _ (.c 30 _ (.c 23 _ (.c 29 _ (.c 28 _ (.c 27 _ (.c 26 _ (.c 25 _ (.c 24 _ _))))))))))) hk2 rfl ?_)
 refine v ?_
 refine vjnH hm (σ := TCatalog) (τ := Unit) (fun g s => [(some k155, .obj 107 (c_Change y0.1)), (some k8, .obj 27 (c_Catalog s)), (some k2, .obj 27 ([.sc (.int .i64 0), .sc (.slice none 0 0), .sc (.slice none 0 0), .sc (.slice none 0 0), .sc (.slice none 0 0)]))]) (fun g s => .c 1 (.sl none 5 (List.map c_Act p1)) (.c 4 (.ptr k2 0) (.c 5 (.ptr k8 0) (.c 6 (.sc (.int .i64 q1)) .nil)))) (fun x hm => ?_) ?_
 refine v ?_
 refine vi hm (fun hc1 hm => ?_) fun hc1 hm => ?_
 refine v (vl 1 (.agg (c_Catalog q0)) ld27 rfl rfl rfl (vl 0 (.agg (c_Change y0.1)) ld107 rfl rfl rfl ?_))
 refine vk W67 bd67 hm rfl rfl fun y1 hm => ?_
 refine ve fun hk => a_alloc ([.sc (.int .i64 0), .sc (.slice none 0 0), .sc (.slice none 0 0), .sc (.slice none 0 0), .sc (.slice none 0 0)]) hk zr27 rfl rfl fun k180 hk4 => qk hk4 rfl ?_
 refine ve fun hk => a_store 0 (c_Catalog y1.1) hk rfl rfl rfl rfl sz27 rfl rfl fun hk5 => qk hk5 rfl ?_
 refine v ?_
 refine vjnH hm (σ := TCatalog) (τ := Unit) (fun g s => [(some k180, .obj 27 (c_Catalog y1.1)), (some k155, .obj 107 (c_Change y0.1)), (some k8, .obj 27 (c_Catalog s)), (some k2, .obj 27 ([.sc (.int .i64 0), .sc (.slice none 0 0), .sc (.slice none 0 0), .sc (.slice none 0 0), .sc (.slice none 0 0)]))]) (fun g s => .c 1 (.sl none 5 (List.map c_Act p1)) (.c 4 (.ptr k2 0) (.c 5 (.ptr k8 0) (.c 6 (.sc (.int .i64 q1)) .nil)))) (fun x hm => ?_) ?_
 refine v ?_
 refine vi hm (fun hc2 hm => ?_) fun hc2 hm => ?_
 refine v (vl 0 (.agg (c_Catalog y1.1)) ld27 rfl rfl rfl ?_)
 refine ve fun hk => a_store 2 (c_Catalog y1.1) hk rfl rfl rfl rfl sz27 rfl rfl fun hk6 => qk hk6 rfl ?_
 exact vgo hm () trivial (lx (.k4 .nil))
 refine v ?_
 exact vgo hm () trivial (lx (.k4 .nil))
 rintro _ j1 hm
 exact vgo hm () trivial (lxs [1, 2, 3] rfl rfl (.k4 .nil))
 refine v ?_
 exact vgo hm () trivial (lx (.k4 .nil))
 rintro _ j2 hm
 refine v ?_
 exact vgo hm () trivial (lxs [1, 2] rfl rfl (.k4 .nil))
 refine v ?_
 exact vbk hm () trivial (lx (.k4 .nil))
 rintro _ ⟨r0, r1⟩ hm
 refine v (vl 0 (.agg (c_Catalog r0)) ld27 rfl rfl rfl ?_)
 refine ve fun hk => a_store 1 (c_Catalog r0) hk rfl rfl rfl rfl sz27 rfl rfl fun hk7 => qk hk7 rfl ?_
 refine v ?_
 injection hm with hm; subst hm
 exact vr fun hk => Ret.of1 (.inl rfl) (rsC (.agg (c_Catalog r0)) ld27 rfl (Zd 1 hk rfl) rfl) (hp_sub (List.nil_sublist _) hk).1 (ALe.refl _ _) ⟨rfl, rfl⟩
theorem bd28 : bodied Try.prog 28 = true := by kernel_rfl
end Go.Proofs.Ytoomgangpjcaoaa
namespace Go.Vm
def T {α : Type} (m : Option α) (Q : α → Prop) : Prop := ∃ a, m = some a ∧ Q a
def L3 {σ ρ : Type} (G B : σ → Prop) (R : ρ → Prop) : Lp σ ρ → Prop
 | .go s => G s
 | .brk s => B s
 | .ret r => R r
section
variable {α β σ ρ : Type} {Q : β → Prop}
theorem T.some {a : β} (h : Q a) : T (some a) Q := ⟨a, rfl, h⟩
theorem T.mono {P : β → Prop} {m : Option β} (h : T m P) (k : ∀ a, P a → Q a) : T m Q := by obtain ⟨a, e, p⟩ := h; exact ⟨a, e, k a p⟩
theorem T.of {m : Option β} {a : β} (h : m = .some a) (hq : Q a) : T m Q := ⟨a, h, hq⟩
theorem T.bind {m : Option α} {k : α → Option β} (P : α → Prop) (h : T m P) (hk : ∀ a, P a → T (k a) Q) : T (m.bind k) Q := by
 obtain ⟨a, e, p⟩ := h
 rw [e]; exact hk a p
theorem T.bindEq {m : Option α} {k : α → Option β} {a : α} (h : m = .some a) (hk : T (k a) Q) : T (m.bind k) Q := by rw [h]; exact hk
theorem T.ite {c : Prop} [Decidable c] {a b : Option β} (h1 : c → T a Q) (h2 : ¬c → T b Q) : T (if c then a else b) Q := by
 by_cases h : c
 ·rw [if_pos h]; exact h1 h
 ·rw [if_neg h]; exact h2 h
theorem T.grd {b : Bool} {k : Option β} (hb : b = true) (h : T k Q) : T (grd b k) Q := by unfold Go.Vm.grd; rw [if_pos hb]; exact h
theorem T.ix {l : List α} {i : Int} {k : α → Option β} (h0 : 0 ≤ i) (h1 : i < l.length) (hk : ∀ x, l[i.toNat]? = Option.some x → x ∈ l → T (k x) Q) : T ((ix l i).bind k) Q := by
 have hx : l[i.toNat]? = Option.some l[i.toNat] := List.getElem?_eq_getElem (by omega)
 rw [ix_pos l h0, hx]
 exact hk _ hx (List.getElem_mem _)
theorem T.app {xs ys : List α} {k : List α → Option β} (h : xs.length + ys.length ≤ 1000000000) (hk : T (k (xs ++ ys)) Q) : T ((app xs ys).bind k) Q := by rw [app_some h]; exact hk
theorem T.slc {l : List α} {a b : Int} {k : List α → Option β} (h : 0 ≤ a ∧ a ≤ b ∧ b ≤ l.length) (hk : T (k ((l.take b.toNat).drop a.toNat)) Q) : T ((slc l a b).bind k) Q := by unfold Go.Vm.slc; rw [if_pos h]; exact hk
variable {R : ρ → Prop} {G B : σ → Prop}
theorem T.go {s : σ} (h : G s) : T (.some (Lp.go s)) (L3 G B R) := ⟨_, rfl, h⟩
theorem T.brk {s : σ} (h : B s) : T (.some (Lp.brk s)) (L3 G B R) := ⟨_, rfl, h⟩
theorem T.ret {r : ρ} (h : R r) : T (.some (Lp.ret r)) (L3 G B R) := ⟨_, rfl, h⟩
theorem T.after {m : Option (Lp σ ρ)} {k : σ → Option ρ} (h : T m (L3 (fun _ => False) (fun s => T (k s) R) R)) : T (after m k) R := by
 obtain ⟨a, e, p⟩ := h
 rw [e]
 cases a with
 | go s => exact p.elim
 | brk s => exact p
 | ret r => exact ⟨_, rfl, p⟩
theorem T.loopAt {step : σ → Option (Lp σ ρ)} (I : σ → Prop) (μ : σ → Nat) (hs : ∀ s, I s → T (step s) (L3 (fun s' => I s' ∧ μ s' < μ s) B R)) : ∀ (F : Nat) (s : σ), I s → μ s < F → T (loopM step F s) (L3 (fun _ => False) B R)
 | 0, _, _, h => by omega
 | F + 1, s, hi, hm => by
  obtain ⟨a, e, p⟩ := hs s hi
  unfold loopM
  rw [e]
  cases a with
  | go s' => exact T.loopAt I μ hs F s' p.1 (by have := p.2; omega)
  | brk s' => exact ⟨_, rfl, p⟩
  | ret r => exact ⟨_, rfl, p⟩
theorem T.loop {step : σ → Option (Lp σ ρ)} {F : Nat} {s0 : σ} {k : σ → Option ρ} (I : σ → Prop) (μ : σ → Nat) (B : σ → Prop) (hm : μ s0 < F) (h0 : I s0) (hs : ∀ s, I s → T (step s) (L3 (fun s' => I s' ∧ μ s' < μ s) B R)) (hk : ∀ s, B s → T (k s) R) :
    T (Go.Vm.after (loopM step F s0) k) R := T.after ((T.loopAt I μ hs F s0 h0 hm).mono fun a => by
      cases a with
      | go s => exact fun h => h.elim
      | brk s => exact hk s
      | ret r => exact id)
end
theorem ArL {n : Nat} (x : Ar n) : x.1.length = n := x.2
theorem wrU8 (n : Int) : 0 ≤ IntKind.wrap .u8 n ∧ IntKind.wrap .u8 n < 256 := by rw [wrap_u8_mod]; omega
theorem wrI (n : Int) : -9223372036854775808 ≤ IntKind.wrap .i64 n ∧ IntKind.wrap .i64 n < 9223372036854775808 := by
 have e : IntKind.wrap .i64 n = (if decide (n % 18446744073709551616 ≥ 9223372036854775808) = true then n % 18446744073709551616 - 18446744073709551616 else n % 18446744073709551616) := rfl
 rw [e]
 simp only [decide_eq_true_eq]
 split <;> omega
end Go.Vm
namespace Go.Proofs.Ytoomgangpjcaoaa
open Go.Vm
theorem t134 {F : Nat} {a b : Int} (hb : 0 ≤ b) : T (M134 F a b) fun _ => True := by
 unfold M134
 refine .grd (by simpa using hb) (.grd (by simpa using wru0 _) (.some trivial))
theorem t133 {F : Nat} {l : List Int} (hF : 1000 ≤ F) (hl : l.length ≤ 300) : T (M133 F l) fun r => r.length % 64 = 0 ∧ r.length ≤ l.length + 80 := by
 unfold M133
 refine .app (by simp; omega) (.app (by simp; omega) ?_)
 refine .loop (fun q => l.length + 1 ≤ q.length ∧ q.length ≤ (l.length + 72) / 64 * 64 - 8 + 0 ∧ l.length + 9 ≤ (l.length + 72) / 64 * 64) (fun q => (l.length + 72) / 64 * 64 - 8 - q.length) (fun q => (q.length + 8) % 64 = 0 ∧ q.length ≤ l.length + 64) (by simp; omega) (by simp; omega) (fun q hq => ?_) (fun q hq => ?_)
 ·unfold M133_L0
  rw [wr (by omega) (by omega), Int.tmod_eq_emod_of_nonneg (by omega)]
  refine .ite (fun hc => ?_) fun hc => ?_
  ·have : ((q.length : Int) + 8) % 64 ≠ 0 := by simpa using hc
   refine .app (by simp; omega) (.go ?_)
   simp only [List.length_append, List.length_singleton]
   omega
  ·have : ((q.length : Int) + 8) % 64 = 0 := by simpa using hc
   exact .brk (by omega)
 ·refine .loop (fun s => -1 ≤ s.2 ∧ s.2 ≤ 7 ∧ (s.1.length : Int) + s.2 = q.length + 7) (fun s => (s.2 + 1).toNat) (fun s => s.1.length = q.length + 8) (by simp; omega) (by simp) (fun s hs => ?_) (fun s hs => .some (by omega))
  obtain ⟨a, i⟩ := s
  unfold M133_L2
  simp only at hs ⊢
  refine .ite (fun hc => ?_) fun hc => ?_
  ·have hc := of_decide_eq_true hc
   rw [wr (n := i - 1) (by omega) (by omega)]
   refine .grd (by simpa using wru0 _) (.app (by simp; omega) (.go ?_))
   simp only [List.length_append, List.length_singleton]
   omega
  ·exact .brk (by simp only [decide_eq_true_eq] at hc; show a.length = _; omega)
theorem t108 {F : Nat} {d : List Int} (hF : 1000 ≤ F) (hl : d.length ≤ 300) : T (M108 F d) gId := by
 unfold M108
 refine .bind (fun _ => True) ⟨_, rfl, trivial⟩ fun y6 _ => ?_
 refine .bind _ (t133 hF hl) fun y hy => ?_
 refine .loop (fun s => 0 ≤ s.2 ∧ s.2 % 64 = 0 ∧ s.2 ≤ y.length) (fun s => (y.length - s.2).toNat) (fun _ => True) (by simp; omega) (by simp) (fun s hs => ?_) (fun s _ => ?_)
 ·obtain ⟨h, i⟩ := s
  unfold M108_L0
  simp only at hs ⊢
  refine .ite (fun hc => ?_) fun hc => .brk trivial
  have hc := of_decide_eq_true hc
  refine .loop (fun s => 0 ≤ s.2 ∧ s.2 ≤ 64) (fun s => (64 - s.2).toNat) (fun _ => True) (by simp; omega) (by simp) (fun s hs2 => ?_) (fun s _ => ?_)
  ·obtain ⟨w, j⟩ := s
   unfold M108_L2
   simp only at hs2 ⊢
   refine .ite (fun hc2 => ?_) fun hc2 => .brk trivial
   have hc2 := of_decide_eq_true hc2
   have fin : IntKind.wrap .i64 (j + 1) = j + 1 := wr (by omega) (by omega)
   refine .after (.ite (fun hc3 => ?_) fun hc3 => ?_)
   ·have hc3 := of_decide_eq_true hc3
    refine .loop (fun s => 0 ≤ s.2 ∧ s.2 ≤ 4) (fun s => (4 - s.2).toNat) (fun _ => True) (by simp; omega) (by simp) (fun s hs4 => ?_) (fun s _ => .brk (.go (by rw [fin]; simp only; omega)))
    obtain ⟨w, k⟩ := s
    unfold M108_L4
    simp only at hs4 ⊢
    refine .ite (fun hc4 => ?_) fun hc4 => .brk trivial
    have hc4 := of_decide_eq_true hc4
    rw [wr (n := 4 * j) (by omega) (by omega), wr (n := i + 4 * j) (by omega) (by omega), wr (n := i + 4 * j + k) (by omega) (by omega), wr (n := k + 1) (by omega) (by omega)]
    refine .ix (by omega) (by rw [ArL]; omega) fun _ _ _ => .ix (by omega) (by omega) fun _ _ _ => .ix (by omega) (by rw [ArL]; omega) fun _ _ _ => .go ?_
    simp only
    omega
   ·have hc3 : ¬ j < 16 := by simpa using hc3
    rw [wr (n := j - 15) (by omega) (by omega), wr (n := j - 2) (by omega) (by omega), wr (n := j - 16) (by omega) (by omega), wr (n := j - 7) (by omega) (by omega)]
    refine .ix (by omega) (by rw [ArL]; omega) fun _ _ _ => .ix (by omega) (by rw [ArL]; omega) fun _ _ _ => .ix (by omega) (by rw [ArL]; omega) fun _ _ _ => .ix (by omega) (by rw [ArL]; omega) fun _ _ _ => ?_
    refine .bind _ (t134 (by omega)) fun _ _ => .bind _ (t134 (by omega)) fun _ _ => .bind _ (t134 (by omega)) fun _ _ => .bind _ (t134 (by omega)) fun _ _ => ?_
    refine .ix (by omega) (by rw [ArL]; omega) fun _ _ _ => .brk (.go ?_)
    rw [fin]; simp only; omega
  ·refine .loop (fun s => 0 ≤ s.2 ∧ s.2 ≤ 64) (fun s => (64 - s.2).toNat) (fun _ => True) (by simp; omega) (by simp) (fun s hs2 => ?_) (fun s _ => ?_)
   ·obtain ⟨w, j⟩ := s
    unfold M108_L6
    simp only at hs2 ⊢
    refine .ite (fun hc2 => ?_) fun hc2 => .brk trivial
    have hc2 := of_decide_eq_true hc2
    have fin : IntKind.wrap .i64 (j + 1) = j + 1 := wr (by omega) (by omega)
    rw [fin]
    repeat' (first | exact trivial | refine T.bind _ (t134 (by omega)) fun _ _ => ?_ | refine T.ix (by omega) (by rw [ArL]; omega) fun _ _ _ => ?_)
    refine .go ?_
    simp only; omega
   ·refine .loop (fun s => 0 ≤ s.2 ∧ s.2 ≤ 8) (fun s => (8 - s.2).toNat) (fun _ => True) (by simp; omega) (by simp) (fun s hs2 => ?_) (fun s _ => ?_)
    ·obtain ⟨w, j⟩ := s
     unfold M108_L8
     simp only at hs2 ⊢
     refine .ite (fun hc2 => ?_) fun hc2 => .brk trivial
     have hc2 := of_decide_eq_true hc2
     rw [wr (n := j + 1) (by omega) (by omega)]
     refine .ix (by omega) (by rw [ArL]; omega) fun _ _ _ => .ix (by omega) (by rw [ArL]; omega) fun _ _ _ => .ix (by omega) (by rw [ArL]; omega) fun _ _ _ => .go ?_
     simp only; omega
    ·rw [wr (n := i + 64) (by omega) (by omega)]
     refine .go ?_
     simp only; omega
 ·refine .loop (fun s => 0 ≤ s.2 ∧ s.2 ≤ 32 ∧ gId s.1) (fun s => (32 - s.2).toNat) (fun s => gId s.1) (by simp; omega) ⟨by simp, by simp, ?_⟩ (fun s hs2 => ?_) (fun s hs => .some hs)
  ·intro x hx
   have : x = 0 := List.eq_of_mem_replicate hx
   subst this
   exact ⟨by omega, by omega⟩
  ·obtain ⟨w, j⟩ := s
   unfold M108_L10
   simp only at hs2 ⊢
   refine .ite (fun hc2 => ?_) fun hc2 => .brk hs2.2.2
   have hc2 := of_decide_eq_true hc2
   rw [wr (n := j + 1) (by omega) (by omega), Int.tdiv_eq_ediv_of_nonneg (by omega), wr (n := j / 4) (by omega) (by omega)]
   refine .ix (by omega) (by rw [ArL]; omega) fun _ _ _ => .grd (by simpa using wru0 _) (.ix (by omega) (by rw [ArL]; omega) fun _ _ _ => .go ⟨⟨?_, ?_, ?_⟩, ?_⟩)
   ·simp only; omega
   ·simp only; omega
   ·intro x hx
    rcases List.mem_or_eq_of_mem_set hx with h | rfl
    ·exact hs2.2.2 x h
    ·exact wrU8 _
   ·simp only; omega
end Go.Proofs.Ytoomgangpjcaoaa
