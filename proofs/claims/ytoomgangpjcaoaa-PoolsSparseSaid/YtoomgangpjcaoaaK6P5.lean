import Derived.Test.YtoomgangpjcaoaaK6P3
import Derived.Test.YtoomgangpjcaoaaK6P4
set_option linter.unusedSimpArgs false
set_option linter.unusedVariables false
namespace Go.Proofs.Ytoomgangpjcaoaa
open Go.Vm
def M16_L2 (fuel : Nat) (p0 : TCatalog) (p1 : Int) (p2 : Int) (p3 : List Int) (p4 : Int) (x0 : Int) (q0 : Int) : Option (Lp (Int) (Lp (Int) (Int × Int))) :=
 if (decide (q0 < (p0.Vols.length : Int))) = true then ((ix p0.Vols q0).bind fun x1 => after (if (x1.Pool == p1) = true then (if (q0 != p4) = true then (if (x1.State == x0) = true then ((ix p3 q0).bind fun x2 => some (.brk (decide (p2 ≤ x2)))) else some (.brk false)) else some (.brk false)) else some (.brk false) : Option (Lp (Bool) (Lp (Int) (Lp (Int) (Int × Int))))) fun j0 => if j0 = true then (some (.ret (.ret (q0, 0)))) else some (.go (IntKind.wrap .i64 (q0 + 1)))) else some (.brk q0)
def M16_L0 (fuel : Nat) (p0 : TCatalog) (p1 : Int) (p2 : Int) (p3 : List Int) (p4 : Int) (q0 : Int) : Option (Lp (Int) (Int × Int)) :=
 if (decide (q0 < (([2, 1] : List Int).length : Int))) = true then ((ix ([2, 1] : List Int) q0).bind fun x0 => after (loopM (fun s => M16_L2 fuel p0 p1 p2 p3 p4 x0 s) fuel 0) fun r0 => some (.go (IntKind.wrap .i64 (q0 + 1)))) else some (.brk q0)
def M16 (fuel : Nat) (p0 : TCatalog) (p1 : Int) (p2 : Int) (p3 : List Int) (p4 : Int) : Option (Int × Int) :=
 after ((M33 fuel p0).bind fun y0 => if (y0 != 0) = true then (some (.brk true)) else some (.brk ((p3.length : Int) != (p0.Vols.length : Int))) : Option (Lp (Bool) (Int × Int))) fun j0 => if j0 = true then (some (0, 1)) else after (loopM (fun s => M16_L0 fuel p0 p1 p2 p3 p4 s) fuel 0) fun r0 => some (0, 12)
set_option maxHeartbeats 4000000 in
set_option maxRecDepth 100000 in
theorem W16 {fuel : Nat} {p0 : TCatalog} {p1 : Int} {p2 : Int} {p3 : List Int} {p4 : Int} {o : Int × Int} (h : Heap) (hm : M16 fuel p0 p1 p2 p3 p4 = some o) :
 ACalls Try.prog 16 [.agg (c_Catalog p0), .sc (.int .i64 p1), .sc (.int .i64 p2), .sl none 1 (List.map c_i64 p3), .sc (.int .i64 p4)] h (fun r h' => r = .tup [.sc (.int .i64 o.1), .sc (.int .i64 o.2)] ∧ h' = h) := by
 refine ACv 67 [.tmp 10, .tmp 11] Try.func16 rfl rfl rfl rfl ?_
 unfold M16 at hm
 refine v ?_
 refine ve fun hk => a_box hk rfl rfl fun k2 hk3 => qk hk3 rfl ?_
 refine vs (vs ?_)
 refine vjnH hm (σ := Bool) (τ := Unit) (fun g s => [(some k2, .obj 27 (c_Catalog p0))]) (fun g s => .c 1 (.sc (.int .i64 p1)) (.c 2 (.sc (.int .i64 p2)) (.c 3 (.sl none 1 (List.map c_i64 p3)) (.c 4 (.sc (.int .i64 p4)) (.c 5 (.ptr k2 0) (.c 26 (.sc (.bool s)) .nil)))))) (fun x hm => ?_) ?_
 refine v (vl 0 (.agg (c_Catalog p0)) ld27 rfl rfl rfl ?_)
 refine vk W33 bd33 hm rfl rfl fun _ hm => ?_
 refine vi hm (fun hb0 hm => ?_) fun hb0 hm => ?_
 rw [hb0]
 exact vgo hm () trivial (lx (.k6 .nil))
 rw [hb0]
 refine vln ln28 rfl (vl 0 _ ld25 rfl rfl rfl (vln ln25 rfl ?_))
 exact vgo hm () trivial (lx (.k6 .nil))
 rintro _ j0 hm
 refine v ?_
 refine vi hm (fun hc0 hm => ?_) fun hc0 hm => ?_
 refine v (v ?_)
 cases hm
 exact vr2 rfl rfl
 refine v (v (vn (fun _ => o_lit (List.map c_i64 ([2, 1] : List Int)) et28 rfl rfl rfl rfl) (vln ln28 rfl ?_)))
 refine vlpH hm (σ := Int) (τ := Unit) (fun g s => [(some k2, .obj 27 (c_Catalog p0))]) (fun g s => .c 1 (.sc (.int .i64 p1)) (.c 2 (.sc (.int .i64 p2)) (.c 3 (.sl none 1 (List.map c_i64 p3)) (.c 4 (.sc (.int .i64 p4)) (.c 5 (.ptr k2 0) (.c 27 (.sl none 1 (List.map c_i64 ([2, 1] : List Int))) (.c 28 (.sc (.int .i64 (([2, 1] : List Int).length : Int))) (.c 29 (.sc (.int .i64 s)) .nil)))))))) () (lx (.k8 .nil)) ?_ ?_
 rintro _ q0 x hm
 replace hm : M16_L0 fuel p0 p1 p2 p3 p4 q0 = some x := hm
 unfold M16_L0 at hm
 refine v (v ?_)
 refine vi hm (fun hc1 hm => ?_) fun hc1 hm => ?_
 refine v (v (v ?_))
 refine vx hm el28 rfl rfl fun x0 _ hm => ?_
 refine v (vl 0 _ ld25 rfl rfl rfl (vln ln25 rfl ?_))
 refine vlpH hm (σ := Int) (τ := Unit) (fun g s => [(some k2, .obj 27 (c_Catalog p0))]) (fun g s => .c 1 (.sc (.int .i64 p1)) (.c 2 (.sc (.int .i64 p2)) (.c 3 (.sl none 1 (List.map c_i64 p3)) (.c 4 (.sc (.int .i64 p4)) (.c 5 (.ptr k2 0) (.c 13 (.sc (.int .i64 x0)) (.c 27 (.sl none 1 (List.map c_i64 ([2, 1] : List Int))) (.c 28 (.sc (.int .i64 (([2, 1] : List Int).length : Int))) (.c 29 (.sc (.int .i64 q0)) (.c 34 (.sl none 4 (List.map c_Vol p0.Vols)) (.c 35 (.sc (.int .i64 (p0.Vols.length : Int))) (.c 36 (.sc (.int .i64 s)) .nil)))))))))))) () (lx (.k12 .nil)) ?_ ?_
 rintro _ q1 x hm
 replace hm : M16_L2 fuel p0 p1 p2 p3 p4 x0 q1 = some x := hm
 unfold M16_L2 at hm
 refine v (v ?_)
 refine vi hm (fun hc2 hm => ?_) fun hc2 hm => ?_
 refine v (v (v ?_))
 refine vx hm el25 rfl rfl fun x1 _ hm => ?_
 refine va (.agg (c_Vol x1)) ld40 rfl rfl ?_
 refine ve fun hk => a_alloc ([.sc (.int .i64 0), .sc (.int .i64 0), .sc (.int .i64 0), .sc (.int .i64 0)]) hk zr40 rfl rfl fun k268 hk0 => qk hk0 rfl ?_
 refine ve fun hk => a_store 0 (c_Vol x1) hk rfl rfl rfl rfl sz40 rfl rfl fun hk1 => qk hk1 rfl ?_
 refine vs ?_
 refine vjnH hm (σ := Bool) (τ := Unit) (fun g s => [(some k268, .obj 40 (c_Vol x1)), (some k2, .obj 27 (c_Catalog p0))]) (fun g s => .c 1 (.sc (.int .i64 p1)) (.c 2 (.sc (.int .i64 p2)) (.c 3 (.sl none 1 (List.map c_i64 p3)) (.c 4 (.sc (.int .i64 p4)) (.c 5 (.ptr k2 0) (.c 13 (.sc (.int .i64 x0)) (.c 14 (.sc (.int .i64 q1)) (.c 27 (.sl none 1 (List.map c_i64 ([2, 1] : List Int))) (.c 28 (.sc (.int .i64 (([2, 1] : List Int).length : Int))) (.c 29 (.sc (.int .i64 q0)) (.c 34 (.sl none 4 (List.map c_Vol p0.Vols)) (.c 35 (.sc (.int .i64 (p0.Vols.length : Int))) (.c 36 (.sc (.int .i64 q1)) (.c 63 (.sc (.bool s)) .nil)))))))))))))) (fun x hm => ?_) ?_
 refine v (vl 0 _ ld3 rfl rfl rfl ?_)
 refine vi hm (fun hb1 hm => ?_) fun hb1 hm => ?_
 rw [hb1]
 refine vi hm (fun hb2 hm => ?_) fun hb2 hm => ?_
 rw [hb2]
 refine vl 0 _ ld3 rfl rfl rfl ?_
 refine vi hm (fun hb3 hm => ?_) fun hb3 hm => ?_
 rw [hb3]
 refine vx hm el28 rfl rfl fun _ _ hm => ?_
 exact vgo hm () trivial (lx (.k12 (.k2 .nil)))
 rw [hb3]
 exact vgo hm () trivial (lx (.k12 (.k2 .nil)))
 rw [hb2]
 exact vgo hm () trivial (lx (.k12 (.k2 .nil)))
 rw [hb1]
 exact vgo hm () trivial (lx (.k12 (.k2 .nil)))
 rintro _ j1 hm
 refine v ?_
 refine vi hm (fun hc3 hm => ?_) fun hc3 hm => ?_
 refine v (v ?_)
 refine vrt hm fun hm => ?_
 refine vrt hm fun hm => ?_
 cases hm
 exact vr2 rfl rfl
 refine v (v ?_)
 exact vgo hm () trivial (lxs [1] rfl rfl (.k12 .nil))
 refine v ?_
 exact vbk hm () trivial (lx (.k12 .nil))
 rintro _ r0 hm
 refine v ?_
 exact vgo hm () trivial (lx (.k8 .nil))
 refine v ?_
 exact vbk hm () trivial (lx (.k8 .nil))
 rintro _ r1 hm
 refine v (v ?_)
 cases hm
 exact vr2 rfl rfl
theorem bd16 : bodied Try.prog 16 = true := by kernel_rfl
def M37 (fuel : Nat) (p0 : TCatalog) (p1 : Int) : Option ((List TItem)) :=
 (M33 fuel p0).bind fun y0 => if (y0 != 0) = true then (some []) else (M78 fuel p0 (fun x0 x1 => M80 fuel x0 x1 p1)).bind fun y1 => some y1
set_option maxHeartbeats 4000000 in
set_option maxRecDepth 100000 in
theorem W37 {fuel : Nat} {p0 : TCatalog} {p1 : Int} {o : (List TItem)} (h : Heap) (hm : M37 fuel p0 p1 = some o) :
 ACalls Try.prog 37 [.agg (c_Catalog p0), .sc (.int .i64 p1)] h (fun r h' => r = .sl none 37 (List.map c_Item o) ∧ h' = h) := by
 refine ACv 11 [.tmp 4] Try.func37 rfl rfl rfl rfl ?_
 unfold M37 at hm
 refine v ?_
 refine ve fun hk => a_box hk rfl rfl fun k2 hk3 => qk hk3 rfl ?_
 refine ve fun hk => a_box hk rfl rfl fun k5 hk6 => qk hk6 rfl ?_
 refine v (vl 1 (.agg (c_Catalog p0)) ld27 rfl rfl rfl ?_)
 refine vk W33 bd33 hm rfl rfl fun _ hm => ?_
 refine v ?_
 refine vi hm (fun hc0 hm => ?_) fun hc0 hm => ?_
 refine v (v ?_)
 cases hm
 exact vr fun hk => Ret.of1 (.inl rfl) (rsT _ _ (.sc (.slice _ _ _)) rfl) (hp_sub (List.nil_sublist _) hk).1 (nil_lem _) ⟨rfl, rfl⟩
 refine v (v (vl 1 (.agg (c_Catalog p0)) ld27 rfl rfl rfl ?_))
 obtain ⟨_, hy0, hm⟩ := Zc hm
 refine vn (fun hk => o_call (W78 _ bd80 (fun _ _ o h0 hs ho => W80 _ (hs _ _ (Zd 0 hk rfl)) ho) hy0) rfl bd78 rfl) (v ?_)
 injection hm with hm; subst hm
 exact vr1 rfl
theorem bd37 : bodied Try.prog 37 = true := by kernel_rfl
def M20_L0 (fuel : Nat) (p0 : TCatalog) (y8 : (List TItem)) (q0 : Int) (q1 : Int) : Option (Lp (Int × Int) (Int)) :=
 if (decide (q1 < (y8.length : Int))) = true then ((ix y8 q1).bind fun x0 => after (if (x0.Kind != 1) = true then (some (.brk true)) else (M44 fuel p0 x0.Id).bind fun y0 => some (.brk y0) : Option (Lp (Bool) (Lp (Int × Int) (Int)))) fun j0 => after (if j0 = true then (some (.brk (IntKind.wrap .i64 (q0 + 1)))) else some (.brk q0) : Option (Lp (Int) (Lp (Int × Int) (Int)))) fun j1 => some (.go (j1, IntKind.wrap .i64 (q1 + 1)))) else some (.brk (q0, q1))
def M20 (fuel : Nat) (p0 : TCatalog) (p1 : Int) : Option (Int) :=
 (M37 fuel p0 p1).bind fun y8 => after (loopM (fun s => M20_L0 fuel p0 y8 s.1 s.2) fuel (0, 0)) fun ⟨r0, r1⟩ => some r0
set_option maxHeartbeats 4000000 in
set_option maxRecDepth 100000 in
theorem W20 {fuel : Nat} {p0 : TCatalog} {p1 : Int} {o : Int} (h : Heap) (hm : M20 fuel p0 p1 = some o) :
 ACalls Try.prog 20 [.agg (c_Catalog p0), .sc (.int .i64 p1)] h (fun r h' => r = .sc (.int .i64 o) ∧ h' = h) := by
 refine ACv 29 [.tmp 4] Try.func20 rfl rfl rfl rfl ?_
 unfold M20 at hm
 refine v ?_
 refine ve fun hk => a_box hk rfl rfl fun k2 hk3 => qk hk3 rfl ?_
 refine v (v (vl 0 (.agg (c_Catalog p0)) ld27 rfl rfl rfl ?_))
 refine vk W37 bd37 hm rfl rfl fun y8 hm => ?_
 refine vln ln70 rfl ?_
 refine vlpH hm (σ := Int × Int) (τ := Unit) (fun g s => [(some k2, .obj 27 (c_Catalog p0))]) (fun g s => .c 2 (.ptr k2 0) (.c 5 (.sc (.int .i64 s.1)) (.c 10 (.sl none 37 (List.map c_Item y8)) (.c 11 (.sc (.int .i64 (y8.length : Int))) (.c 12 (.sc (.int .i64 s.2)) .nil))))) () (lx (.k5 .nil)) ?_ ?_
 rintro _ ⟨q0, q1⟩ x hm
 replace hm : M20_L0 fuel p0 y8 q0 q1 = some x := hm
 unfold M20_L0 at hm
 refine v (v ?_)
 refine vi hm (fun hc0 hm => ?_) fun hc0 hm => ?_
 refine v (v (v ?_))
 refine vx hm el70 rfl rfl fun x0 _ hm => ?_
 refine va (.agg (c_Item x0)) ld99 rfl rfl ?_
 refine ve fun hk => a_alloc (([.sc (.int .i64 0)] : List AV) ++ c_id idZ ++ ([.sc (.int .i64 0), .sc (.int .i64 0), .sc (.int .i64 0), .sc (.int .i64 0)] : List AV)) hk zr99 rfl rfl fun k69 hk0 => qk hk0 rfl ?_
 refine ve fun hk => a_store 0 (c_Item x0) hk rfl rfl rfl rfl sz99 rfl rfl fun hk1 => qk hk1 rfl ?_
 refine vs ?_
 refine vjnH hm (σ := Bool) (τ := Unit) (fun g s => [(some k69, .obj 99 (c_Item x0)), (some k2, .obj 27 (c_Catalog p0))]) (fun g s => .c 2 (.ptr k2 0) (.c 5 (.sc (.int .i64 q0)) (.c 10 (.sl none 37 (List.map c_Item y8)) (.c 11 (.sc (.int .i64 (y8.length : Int))) (.c 12 (.sc (.int .i64 q1)) (.c 24 (.sc (.bool s)) .nil)))))) (fun x hm => ?_) ?_
 refine v (vl 0 _ ld3 rfl rfl rfl ?_)
 refine vi hm (fun hb0 hm => ?_) fun hb0 hm => ?_
 rw [hb0]
 exact vgo hm () trivial (lx (.k6 .nil))
 rw [hb0]
 refine vl 1 (.agg (c_Catalog p0)) ld27 rfl rfl rfl (vl 0 (.agg (c_id x0.Id)) ld61 rfl rfl rfl ?_)
 refine vk W44 bd44 hm rfl rfl fun _ hm => ?_
 exact vgo hm () trivial (lx (.k6 .nil))
 rintro _ j0 hm
 refine vjnH hm (σ := Int) (τ := Unit) (fun g s => [(some k69, .obj 99 (c_Item x0)), (some k2, .obj 27 (c_Catalog p0))]) (fun g s => .c 2 (.ptr k2 0) (.c 5 (.sc (.int .i64 s)) (.c 10 (.sl none 37 (List.map c_Item y8)) (.c 11 (.sc (.int .i64 (y8.length : Int))) (.c 12 (.sc (.int .i64 q1)) .nil))))) (fun x hm => ?_) ?_
 refine v ?_
 refine vi hm (fun hc1 hm => ?_) fun hc1 hm => ?_
 refine v ?_
 exact vgo hm () trivial (lx (.k5 .nil))
 refine v ?_
 exact vgo hm () trivial (lx (.k5 .nil))
 rintro _ j1 hm
 refine v ?_
 exact vgo hm () trivial (lxs [1] rfl rfl (.k5 .nil))
 refine v ?_
 exact vbk hm () trivial (lx (.k5 .nil))
 rintro _ ⟨r0, r1⟩ hm
 refine v (v ?_)
 injection hm with hm; subst hm
 exact vr1 rfl
theorem bd20 : bodied Try.prog 20 = true := by kernel_rfl
def M21_L0 (fuel : Nat) (p0 : TCatalog) (p1 : Int) (q0 : Int) (q1 : Int) (q2 : Int) : Option (Lp (Int × Int × Int) (Int)) :=
 if (decide (q2 < (p0.Vols.length : Int))) = true then (after ((ix p0.Vols q2).bind fun x0 => after (if (x0.Pool != p1) = true then (some (.brk true)) else some (.brk (x0.State != 2)) : Option (Lp (Bool) (Lp (Int × Int) (Lp (Int × Int × Int) (Int))))) fun j0 => if j0 = true then (some (.brk (q0, q1))) else (M20 fuel p0 q2).bind fun y0 => after (if (decide (q0 < 0)) = true then (some (.brk true)) else some (.brk (decide (y0 < q1))) : Option (Lp (Bool) (Lp (Int × Int) (Lp (Int × Int × Int) (Int))))) fun j1 => after (if j1 = true then (some (.brk (q2, y0))) else some (.brk (q0, q1)) : Option (Lp (Int × Int) (Lp (Int × Int) (Lp (Int × Int × Int) (Int))))) fun ⟨j2, j3⟩ => some (.brk (j2, j3)) : Option (Lp (Int × Int) (Lp (Int × Int × Int) (Int)))) fun ⟨j4, j5⟩ => some (.go (j4, j5, IntKind.wrap .i64 (q2 + 1)))) else some (.brk (q0, q1, q2))
def M21 (fuel : Nat) (p0 : TCatalog) (p1 : Int) : Option (Int) :=
 (M33 fuel p0).bind fun y7 => if (y7 != 0) = true then (some (-1)) else after (loopM (fun s => M21_L0 fuel p0 p1 s.1 s.2.1 s.2.2) fuel ((-1), 0, 0)) fun ⟨r0, r1, r2⟩ => some r0
set_option maxHeartbeats 4000000 in
set_option maxRecDepth 100000 in
theorem W21 {fuel : Nat} {p0 : TCatalog} {p1 : Int} {o : Int} (h : Heap) (hm : M21 fuel p0 p1 = some o) :
 ACalls Try.prog 21 [.agg (c_Catalog p0), .sc (.int .i64 p1)] h (fun r h' => r = .sc (.int .i64 o) ∧ h' = h) := by
 refine ACv 44 [.tmp 4] Try.func21 rfl rfl rfl rfl ?_
 unfold M21 at hm
 refine v ?_
 refine ve fun hk => a_box hk rfl rfl fun k2 hk3 => qk hk3 rfl ?_
 refine v (vl 0 (.agg (c_Catalog p0)) ld27 rfl rfl rfl ?_)
 refine vk W33 bd33 hm rfl rfl fun _ hm => ?_
 refine v ?_
 refine vi hm (fun hc9 hm => ?_) fun hc9 hm => ?_
 refine v (v ?_)
 cases hm
 exact vr1 rfl
 refine v (v (v (vl 0 _ ld25 rfl rfl rfl (vln ln25 rfl ?_))))
 refine vlpH hm (σ := Int × Int × Int) (τ := Unit) (fun g s => [(some k2, .obj 27 (c_Catalog p0))]) (fun g s => .c 1 (.sc (.int .i64 p1)) (.c 2 (.ptr k2 0) (.c 5 (.sc (.int .i64 s.1)) (.c 6 (.sc (.int .i64 s.2.1)) (.c 14 (.sl none 4 (List.map c_Vol p0.Vols)) (.c 15 (.sc (.int .i64 (p0.Vols.length : Int))) (.c 16 (.sc (.int .i64 s.2.2)) .nil))))))) () (lx (.k7 .nil)) ?_ ?_
 rintro _ ⟨q0, q1, q2⟩ x hm
 replace hm : M21_L0 fuel p0 p1 q0 q1 q2 = some x := hm
 unfold M21_L0 at hm
 refine v (v ?_)
 refine vi hm (fun hc0 hm => ?_) fun hc0 hm => ?_
 refine v (vs ?_)
 refine vjnH hm (σ := Int × Int) (τ := Unit) (fun g s => [(some k2, .obj 27 (c_Catalog p0))]) (fun g s => .c 1 (.sc (.int .i64 p1)) (.c 2 (.ptr k2 0) (.c 5 (.sc (.int .i64 s.1)) (.c 6 (.sc (.int .i64 s.2)) (.c 14 (.sl none 4 (List.map c_Vol p0.Vols)) (.c 15 (.sc (.int .i64 (p0.Vols.length : Int))) (.c 16 (.sc (.int .i64 q2)) .nil))))))) (fun x hm => ?_) ?_
 refine v (v ?_)
 refine vx hm el25 rfl rfl fun x0 _ hm => ?_
 refine va (.agg (c_Vol x0)) ld40 rfl rfl ?_
 refine ve fun hk => a_alloc ([.sc (.int .i64 0), .sc (.int .i64 0), .sc (.int .i64 0), .sc (.int .i64 0)]) hk zr40 rfl rfl fun k178 hk0 => qk hk0 rfl ?_
 refine ve fun hk => a_store 0 (c_Vol x0) hk rfl rfl rfl rfl sz40 rfl rfl fun hk1 => qk hk1 rfl ?_
 refine vs (vs ?_)
 refine vjnH hm (σ := Bool) (τ := Unit) (fun g s => [(some k178, .obj 40 (c_Vol x0)), (some k2, .obj 27 (c_Catalog p0))]) (fun g s => .c 1 (.sc (.int .i64 p1)) (.c 2 (.ptr k2 0) (.c 5 (.sc (.int .i64 q0)) (.c 6 (.sc (.int .i64 q1)) (.c 7 (.sc (.int .i64 q2)) (.c 14 (.sl none 4 (List.map c_Vol p0.Vols)) (.c 15 (.sc (.int .i64 (p0.Vols.length : Int))) (.c 16 (.sc (.int .i64 q2)) (.c 29 (.sc (.bool s)) .nil))))))))) (fun x hm => ?_) ?_
 refine v (vl 0 _ ld3 rfl rfl rfl ?_)
 refine vi hm (fun hb0 hm => ?_) fun hb0 hm => ?_
 rw [hb0]
 exact vgo hm () trivial (lx (.k9 .nil))
 rw [hb0]
 refine vl 0 _ ld3 rfl rfl rfl ?_
 exact vgo hm () trivial (lx (.k9 .nil))
 rintro _ j0 hm
 refine v ?_
 refine vi hm (fun hc1 hm => ?_) fun hc1 hm => ?_
 refine v ?_
 exact vgo hm () trivial (lxs [1] rfl rfl (.k7 .nil))
 refine v (v (vl 1 (.agg (c_Catalog p0)) ld27 rfl rfl rfl ?_))
 refine vk W20 bd20 hm rfl rfl fun y0 hm => ?_
 refine vs ?_
 refine vjnH hm (σ := Bool) (τ := Unit) (fun g s => [(some k178, .obj 40 (c_Vol x0)), (some k2, .obj 27 (c_Catalog p0))]) (fun g s => .c 1 (.sc (.int .i64 p1)) (.c 2 (.ptr k2 0) (.c 5 (.sc (.int .i64 q0)) (.c 6 (.sc (.int .i64 q1)) (.c 7 (.sc (.int .i64 q2)) (.c 9 (.sc (.int .i64 y0)) (.c 14 (.sl none 4 (List.map c_Vol p0.Vols)) (.c 15 (.sc (.int .i64 (p0.Vols.length : Int))) (.c 16 (.sc (.int .i64 q2)) (.c 39 (.sc (.bool s)) .nil)))))))))) (fun x hm => ?_) ?_
 refine v ?_
 refine vi hm (fun hb1 hm => ?_) fun hb1 hm => ?_
 rw [hb1]
 exact vgo hm () trivial (lx (.k10 .nil))
 rw [hb1]
 exact vgo hm () trivial (lx (.k10 .nil))
 rintro _ j1 hm
 refine vjnH hm (σ := Int × Int) (τ := Unit) (fun g s => [(some k178, .obj 40 (c_Vol x0)), (some k2, .obj 27 (c_Catalog p0))]) (fun g s => .c 1 (.sc (.int .i64 p1)) (.c 2 (.ptr k2 0) (.c 5 (.sc (.int .i64 s.1)) (.c 6 (.sc (.int .i64 s.2)) (.c 14 (.sl none 4 (List.map c_Vol p0.Vols)) (.c 15 (.sc (.int .i64 (p0.Vols.length : Int))) (.c 16 (.sc (.int .i64 q2)) .nil))))))) (fun x hm => ?_) ?_
 refine v ?_
 refine vi hm (fun hc2 hm => ?_) fun hc2 hm => ?_
 refine v ?_
 exact vgo hm () trivial (lx (.k7 .nil))
 refine v ?_
 exact vgo hm () trivial (lx (.k7 .nil))
 rintro _ ⟨j2, j3⟩ hm
 exact vgo hm () trivial (lxs [1] rfl rfl (.k7 .nil))
 rintro _ ⟨j4, j5⟩ hm
 refine v ?_
 exact vgo hm () trivial (lx (.k7 .nil))
 refine v ?_
 exact vbk hm () trivial (lx (.k7 .nil))
 rintro _ ⟨r0, r1, r2⟩ hm
 refine v (v ?_)
 injection hm with hm; subst hm
 exact vr1 rfl
theorem bd21 : bodied Try.prog 21 = true := by kernel_rfl
def M22_L0 (fuel : Nat) (p0 : TCatalog) (p1 : Int) (q0 : Int) (q1 : Int) : Option (Lp (Int × Int) (Int)) :=
 if (decide (q1 < (p0.Vols.length : Int))) = true then ((ix p0.Vols q1).bind fun x0 => after (if (x0.Pool == p1) = true then (some (.brk (x0.State != 3))) else some (.brk false) : Option (Lp (Bool) (Lp (Int × Int) (Int)))) fun j0 => after (if j0 = true then (some (.brk (IntKind.wrap .i64 (q0 + 1)))) else some (.brk q0) : Option (Lp (Int) (Lp (Int × Int) (Int)))) fun j1 => some (.go (j1, IntKind.wrap .i64 (q1 + 1)))) else some (.brk (q0, q1))
def M22 (fuel : Nat) (p0 : TCatalog) (p1 : Int) : Option (Int) :=
 (M33 fuel p0).bind fun y7 => if (y7 != 0) = true then (some 0) else after (loopM (fun s => M22_L0 fuel p0 p1 s.1 s.2) fuel (0, 0)) fun ⟨r0, r1⟩ => some r0
set_option maxHeartbeats 4000000 in
set_option maxRecDepth 100000 in
theorem W22 {fuel : Nat} {p0 : TCatalog} {p1 : Int} {o : Int} (h : Heap) (hm : M22 fuel p0 p1 = some o) :
 ACalls Try.prog 22 [.agg (c_Catalog p0), .sc (.int .i64 p1)] h (fun r h' => r = .sc (.int .i64 o) ∧ h' = h) := by
 refine ACv 31 [.tmp 4] Try.func22 rfl rfl rfl rfl ?_
 unfold M22 at hm
 refine v ?_
 refine ve fun hk => a_box hk rfl rfl fun k2 hk3 => qk hk3 rfl ?_
 refine v (vl 0 (.agg (c_Catalog p0)) ld27 rfl rfl rfl ?_)
 refine vk W33 bd33 hm rfl rfl fun _ hm => ?_
 refine v ?_
 refine vi hm (fun hc9 hm => ?_) fun hc9 hm => ?_
 refine v (v ?_)
 injection hm with hm; subst hm
 exact vr1 rfl
 refine v (v (v (vl 0 _ ld25 rfl rfl rfl (vln ln25 rfl ?_))))
 refine vlpH hm (σ := Int × Int) (τ := Unit) (fun g s => [(some k2, .obj 27 (c_Catalog p0))]) (fun g s => .c 1 (.sc (.int .i64 p1)) (.c 5 (.sc (.int .i64 s.1)) (.c 12 (.sl none 4 (List.map c_Vol p0.Vols)) (.c 13 (.sc (.int .i64 (p0.Vols.length : Int))) (.c 14 (.sc (.int .i64 s.2)) .nil))))) () (lx (.k5 .nil)) ?_ ?_
 rintro _ ⟨q0, q1⟩ x hm
 replace hm : M22_L0 fuel p0 p1 q0 q1 = some x := hm
 unfold M22_L0 at hm
 refine v (v ?_)
 refine vi hm (fun hc0 hm => ?_) fun hc0 hm => ?_
 refine v (v (v ?_))
 refine vx hm el25 rfl rfl fun x0 _ hm => ?_
 refine va (.agg (c_Vol x0)) ld40 rfl rfl ?_
 refine ve fun hk => a_alloc ([.sc (.int .i64 0), .sc (.int .i64 0), .sc (.int .i64 0), .sc (.int .i64 0)]) hk zr40 rfl rfl fun k65 hk0 => qk hk0 rfl ?_
 refine ve fun hk => a_store 0 (c_Vol x0) hk rfl rfl rfl rfl sz40 rfl rfl fun hk1 => qk hk1 rfl ?_
 refine vs ?_
 refine vjnH hm (σ := Bool) (τ := Unit) (fun g s => [(some k65, .obj 40 (c_Vol x0)), (some k2, .obj 27 (c_Catalog p0))]) (fun g s => .c 1 (.sc (.int .i64 p1)) (.c 5 (.sc (.int .i64 q0)) (.c 12 (.sl none 4 (List.map c_Vol p0.Vols)) (.c 13 (.sc (.int .i64 (p0.Vols.length : Int))) (.c 14 (.sc (.int .i64 q1)) (.c 26 (.sc (.bool s)) .nil)))))) (fun x hm => ?_) ?_
 refine v (vl 0 _ ld3 rfl rfl rfl ?_)
 refine vi hm (fun hb0 hm => ?_) fun hb0 hm => ?_
 rw [hb0]
 refine vl 0 _ ld3 rfl rfl rfl ?_
 exact vgo hm () trivial (lx (.k6 .nil))
 rw [hb0]
 exact vgo hm () trivial (lx (.k6 .nil))
 rintro _ j0 hm
 refine vjnH hm (σ := Int) (τ := Unit) (fun g s => [(some k65, .obj 40 (c_Vol x0)), (some k2, .obj 27 (c_Catalog p0))]) (fun g s => .c 1 (.sc (.int .i64 p1)) (.c 5 (.sc (.int .i64 s)) (.c 12 (.sl none 4 (List.map c_Vol p0.Vols)) (.c 13 (.sc (.int .i64 (p0.Vols.length : Int))) (.c 14 (.sc (.int .i64 q1)) .nil))))) (fun x hm => ?_) ?_
 refine v ?_
 refine vi hm (fun hc1 hm => ?_) fun hc1 hm => ?_
 refine v ?_
 exact vgo hm () trivial (lx (.k5 .nil))
 refine v ?_
 exact vgo hm () trivial (lx (.k5 .nil))
 rintro _ j1 hm
 refine v ?_
 exact vgo hm () trivial (lxs [1] rfl rfl (.k5 .nil))
 refine v ?_
 exact vbk hm () trivial (lx (.k5 .nil))
 rintro _ ⟨r0, r1⟩ hm
 refine v (v ?_)
 injection hm with hm; subst hm
 exact vr1 rfl
theorem bd22 : bodied Try.prog 22 = true := by kernel_rfl
def M30_L0 (fuel : Nat) (p0 : List Int) (q0 : List TVol) (q1 : Int) : Option (Lp ((List TVol) × Int) (TCatalog × Int)) :=
 if (decide (q1 < (p0.length : Int))) = true then ((ix p0 q1).bind fun x0 => (M68 fuel x0 0 1).bind fun y0 => if (!y0) = true then (some (.ret (({ Seq := 0, Snaps := [], Chunks := [], Exps := [], Vols := [] } : TCatalog), 1))) else (app q0 ([({ Pool := x0, Epoch := 0, State := 1, Files := 0 } : TVol)] : List TVol)).bind fun z0 => some (.go (z0, IntKind.wrap .i64 (q1 + 1)))) else some (.brk (q0, q1))
def M30 (fuel : Nat) (p0 : List Int) : Option (TCatalog × Int) :=
 (M68 fuel (p0.length : Int) 1 8).bind fun y7 => if (!y7) = true then (some (({ Seq := 0, Snaps := [], Chunks := [], Exps := [], Vols := [] } : TCatalog), 2)) else after (loopM (fun s => M30_L0 fuel p0 s.1 s.2) fuel ([], 0)) fun ⟨r0, r1⟩ => some (({ Seq := 0, Snaps := [], Chunks := [], Exps := [], Vols := r0 } : TCatalog), 0)
set_option maxHeartbeats 4000000 in
set_option maxRecDepth 100000 in
theorem W30 {fuel : Nat} {p0 : List Int} {o : TCatalog × Int} (h : Heap) (hm : M30 fuel p0 = some o) :
 ACalls Try.prog 30 [.sl none 1 (List.map c_i64 p0)] h (fun r h' => r = .tup [.agg (c_Catalog o.1), .sc (.int .i64 o.2)] ∧ h' = h) := by
 refine ACv 31 [.cell 2 27, .tmp 3] Try.func30 rfl rfl rfl rfl ?_
 unfold M30 at hm
 refine v ?_
 refine ve fun hk => a_alloc ([.sc (.int .i64 0), .sc (.slice none 0 0), .sc (.slice none 0 0), .sc (.slice none 0 0), .sc (.slice none 0 0)]) hk zr27 rfl rfl fun k2 hk3 => qk hk3 rfl ?_
 refine v (vln ln28 rfl ?_)
 refine vk W68 bd68 hm rfl rfl fun _ hm => ?_
 refine v ?_
 refine vi hm (fun hc9 hm => ?_) fun hc9 hm => ?_
 refine v (vn (fun _ => o_bld ([.sc (.int .i64 0), .sc (.slice none 0 0), .sc (.slice none 0 0), .sc (.slice none 0 0), .sc (.slice none 0 0)]) bt27 rfl) ?_)
 refine ve fun hk => a_store 0 ([.sc (.int .i64 0), .sc (.slice none 0 0), .sc (.slice none 0 0), .sc (.slice none 0 0), .sc (.slice none 0 0)]) hk rfl rfl rfl rfl sz27 rfl rfl fun hk0 => qk hk0 rfl ?_
 refine v ?_
 cases hm
 exact vr fun hk => Ret.of2 (.inl rfl) (rsC (.agg ([.sc (.int .i64 0), .sc (.slice none 0 0), .sc (.slice none 0 0), .sc (.slice none 0 0), .sc (.slice none 0 0)])) ld27 rfl (Zd 0 hk rfl) rfl) (rsT _ _ (.sc (.int _ _)) rfl) (hp_sub (List.nil_sublist _) hk).1 (ALe.agg (.cons (ALe.refl _ _) (.cons (nil_lem _) (.cons (nil_lem _) (.cons (nil_lem _) (.cons (nil_lem _) .nil)))))) (ALe.refl _ _) ⟨rfl, rfl⟩
 refine v (v ?_)
 refine ve fun hk => a_alloc ([.sc (.int .i64 0), .sc (.slice none 0 0), .sc (.slice none 0 0), .sc (.slice none 0 0), .sc (.slice none 0 0)]) hk zr27 rfl rfl fun k13 hk1 => qk hk1 rfl ?_
 refine v (vln ln28 rfl (vle (leo (.tok 40 4 (([] : List TVol).length * 4)) 1 ([.sc (.int .i64 0), .sc (.slice none 0 0), .sc (.slice none 0 0), .sc (.slice none 0 0), ow none 4 (List.map c_Vol [])]) rfl (.k4 (.cons (ow_nil (c := c_Vol) _ 4) .nil))) ?_))
 refine vlp hm (σ := (List TVol) × Int) (τ := Option Key) (fun g s => [(g, .tok 40 4 ((s.1 : List TVol).length * 4)), (some k13, .obj 27 ([.sc (.int .i64 0), .sc (.slice none 0 0), .sc (.slice none 0 0), .sc (.slice none 0 0), ow g 4 (List.map c_Vol s.1)])), (some k2, .obj 27 ([.sc (.int .i64 0), .sc (.slice none 0 0), .sc (.slice none 0 0), .sc (.slice none 0 0), .sc (.slice none 0 0)]))]) (fun g s => (g = none → s.1 = [])) (fun g s => .c 2 (.ptr k2 0) (.c 4 (.ptr k13 0) (.c 12 (.sl none 1 (List.map c_i64 p0)) (.c 13 (.sc (.int .i64 (p0.length : Int))) (.c 14 (.sc (.int .i64 s.2)) .nil))))) none (fun _ => rfl) (lx (.k5 .nil)) ?_ ?_
 rintro tg0 ⟨q0, q1⟩ x ot0 hm
 replace hm : M30_L0 fuel p0 q0 q1 = some x := hm
 unfold M30_L0 at hm
 refine v (v ?_)
 refine vi hm (fun hc0 hm => ?_) fun hc0 hm => ?_
 refine v (v (v ?_))
 refine vx hm el28 rfl rfl fun x0 _ hm => ?_
 refine v ?_
 refine vk W68 bd68 hm rfl rfl fun _ hm => ?_
 refine v ?_
 refine vi hm (fun hc1 hm => ?_) fun hc1 hm => ?_
 refine v (vn (fun _ => o_bld ([.sc (.int .i64 0), .sc (.slice none 0 0), .sc (.slice none 0 0), .sc (.slice none 0 0), .sc (.slice none 0 0)]) bt27 rfl) ?_)
 refine ve fun hk => a_store 2 ([.sc (.int .i64 0), .sc (.slice none 0 0), .sc (.slice none 0 0), .sc (.slice none 0 0), .sc (.slice none 0 0)]) hk rfl rfl rfl rfl sz27 rfl rfl fun hk2 => qk hk2 rfl ?_
 refine v ?_
 refine vrt hm fun hm => ?_
 cases hm
 exact vr fun hk => Ret.of2 (.inl rfl) (rsC (.agg ([.sc (.int .i64 0), .sc (.slice none 0 0), .sc (.slice none 0 0), .sc (.slice none 0 0), .sc (.slice none 0 0)])) ld27 rfl (Zd 2 hk rfl) rfl) (rsT _ _ (.sc (.int _ _)) rfl) (hp_sub (List.nil_sublist _) hk).1 (ALe.agg (.cons (ALe.refl _ _) (.cons (nil_lem _) (.cons (nil_lem _) (.cons (nil_lem _) (.cons (nil_lem _) .nil)))))) (ALe.refl _ _) ⟨rfl, rfl⟩
 refine v (v (vl 1 (ow tg0 4 (List.map c_Vol q0)) ld25 rfl rfl rfl (vn (fun _ => o_bld (c_Vol ({ Pool := x0, Epoch := 0, State := 1, Files := 0 } : TVol)) bt40 rfl) (vn (fun _ => o_lit (List.map c_Vol ([({ Pool := x0, Epoch := 0, State := 1, Files := 0 } : TVol)] : List TVol)) et25 rfl rfl rfl rfl) ?_))))
 obtain ⟨z0, hz0, hm⟩ := Zc hm
 refine ve fun hk => a_app (c := c_Vol) 0 hz0 et25 rfl rfl rfl ot0 hk rfl fun tg1 ot1 hk4 => qk hk4 rfl ?_
 refine ve fun hk => a_store 1 ([.sc (.int .i64 0), .sc (.slice none 0 0), .sc (.slice none 0 0), .sc (.slice none 0 0), ow tg1 4 (List.map c_Vol z0)]) hk rfl rfl (cellsOf_ow rfl) (all_ow _ _ _) sz25 rfl rfl fun hk5 => qk hk5 rfl ?_
 refine v ?_
 exact vgo hm tg1 ot1 (lx (.k5 .nil))
 refine v ?_
 exact vbk hm tg0 ot0 (lx (.k5 .nil))
 rintro tg2 ⟨r0, r1⟩ ot2 hm
 refine v (vl 1 (.agg ([.sc (.int .i64 0), .sc (.slice none 0 0), .sc (.slice none 0 0), .sc (.slice none 0 0), ow tg2 4 (List.map c_Vol r0)])) ld27 rfl rfl rfl ?_)
 refine ve fun hk => a_store 2 ([.sc (.int .i64 0), .sc (.slice none 0 0), .sc (.slice none 0 0), .sc (.slice none 0 0), ow tg2 4 (List.map c_Vol r0)]) hk rfl rfl rfl (by repeat (first | exact rfl | refine all_c (ocell_ow _ _ _) ?_ | refine all_c (ocell_aw _ _ _) ?_ | refine all_c rfl ?_)) sz27 rfl rfl fun hk6 => qk hk6 rfl ?_
 refine v ?_
 cases hm
 exact vr fun hk => Ret.of2 (.inl rfl) (rsC (.agg ([.sc (.int .i64 0), .sc (.slice none 0 0), .sc (.slice none 0 0), .sc (.slice none 0 0), ow tg2 4 (List.map c_Vol r0)])) ld27 rfl (Zd 2 hk rfl) rfl) (rsT _ _ (.sc (.int _ _)) rfl) (hp_sub (List.nil_sublist _) hk).1 (ALe.agg (.cons (ALe.refl _ _) (.cons (nil_lem _) (.cons (nil_lem _) (.cons (nil_lem _) (.cons ((own_frz0 _ 0 ot2 hk rfl)) .nil)))))) (ALe.refl _ _) ⟨rfl, rfl⟩
theorem bd30 : bodied Try.prog 30 = true := by kernel_rfl
def M23 (fuel : Nat) : Option (Bool) :=
 (M30 fuel ([1, 0, 0] : List Int)).bind fun y3 => (M16 fuel y3.1 0 5 ([9, 4, 5] : List Int) (-1)).bind fun y0 => after (if (y3.2 == 0) = true then (if (y0.2 == 0) = true then (if (y0.1 == 2) = true then ((M21 fuel y3.1 0).bind fun y1 => if (y1 == (-1)) = true then ((M22 fuel y3.1 0).bind fun y2 => some (.brk (y2 == 2))) else some (.brk false)) else some (.brk false)) else some (.brk false)) else some (.brk false) : Option (Lp (Bool) (Bool))) fun j0 => some j0
set_option maxHeartbeats 4000000 in
set_option maxRecDepth 100000 in
theorem W23 {fuel : Nat} {o : Bool} (h : Heap) (hm : M23 fuel = some o) :
 ACalls Try.prog 23 [] h (fun r h' => r = .sc (.bool o) ∧ h' = h) := by
 refine ACv 36 [.tmp 0] Try.func23 rfl rfl rfl rfl ?_
 unfold M23 at hm
 refine v (v (vn (fun _ => o_lit (List.map c_i64 ([1, 0, 0] : List Int)) et28 rfl rfl rfl rfl) ?_))
 refine vk W30 bd30 hm rfl rfl fun y3 hm => ?_
 refine ve fun hk => a_alloc ([.sc (.int .i64 0), .sc (.slice none 0 0), .sc (.slice none 0 0), .sc (.slice none 0 0), .sc (.slice none 0 0)]) hk zr27 rfl rfl fun k5 hk6 => qk hk6 rfl ?_
 refine ve fun hk => a_store 0 (c_Catalog y3.1) hk rfl rfl rfl rfl sz27 rfl rfl fun hk8 => qk hk8 rfl ?_
 refine v (vl 0 (.agg (c_Catalog y3.1)) ld27 rfl rfl rfl (vn (fun _ => o_lit (List.map c_i64 ([9, 4, 5] : List Int)) et28 rfl rfl rfl rfl) ?_))
 refine vk W16 bd16 hm rfl rfl fun _ hm => ?_
 refine vs ?_
 refine vjnH hm (σ := Bool) (τ := Unit) (fun g s => [(some k5, .obj 27 (c_Catalog y3.1))]) (fun g s => .c 0 (.sc (.bool s)) .nil) (fun x hm => ?_) ?_
 refine v ?_
 refine vi hm (fun hb0 hm => ?_) fun hb0 hm => ?_
 rw [hb0]
 refine vi hm (fun hb1 hm => ?_) fun hb1 hm => ?_
 rw [hb1]
 refine vi hm (fun hb2 hm => ?_) fun hb2 hm => ?_
 rw [hb2]
 refine vl 0 (.agg (c_Catalog y3.1)) ld27 rfl rfl rfl ?_
 refine vk W21 bd21 hm rfl rfl fun _ hm => ?_
 refine vi hm (fun hb3 hm => ?_) fun hb3 hm => ?_
 rw [hb3]
 refine vl 0 (.agg (c_Catalog y3.1)) ld27 rfl rfl rfl ?_
 refine vk W22 bd22 hm rfl rfl fun _ hm => ?_
 exact vgo hm () trivial (lx (.cons (ALe.refl _ _) .nil))
 rw [hb3]
 exact vgo hm () trivial (lx (.cons (ALe.refl _ _) .nil))
 rw [hb2]
 exact vgo hm () trivial (lx (.cons (ALe.refl _ _) .nil))
 rw [hb1]
 exact vgo hm () trivial (lx (.cons (ALe.refl _ _) .nil))
 rw [hb0]
 exact vgo hm () trivial (lx (.cons (ALe.refl _ _) .nil))
 rintro _ j0 hm
 refine v ?_
 injection hm with hm; subst hm
 exact vr1 rfl
theorem bd23 : bodied Try.prog 23 = true := by kernel_rfl
def M32_L0 (fuel : Nat) (p0 : List Int) (q0 : List TVol) (q1 : Int) : Option (Lp ((List TVol) × Int) (TCatalog)) :=
 if (decide (q1 < (p0.length : Int))) = true then ((ix p0 q1).bind fun x0 => (app q0 ([({ Pool := x0, Epoch := 0, State := 1, Files := 0 } : TVol)] : List TVol)).bind fun z0 => some (.go (z0, IntKind.wrap .i64 (q1 + 1)))) else some (.brk (q0, q1))
def M32 (fuel : Nat) (p0 : List Int) : Option (TCatalog) :=
 after (loopM (fun s => M32_L0 fuel p0 s.1 s.2) fuel ([], 0)) fun ⟨r0, r1⟩ => some ({ Seq := 0, Snaps := [], Chunks := [], Exps := [], Vols := r0 } : TCatalog)
set_option maxHeartbeats 4000000 in
set_option maxRecDepth 100000 in
theorem W32 {fuel : Nat} {p0 : List Int} {o : TCatalog} (h : Heap) (hm : M32 fuel p0 = some o) :
 ACalls Try.prog 32 [.sl none 1 (List.map c_i64 p0)] h (fun r h' => r = .agg (c_Catalog o) ∧ h' = h) := by
 refine ACv 22 [.cell 2 27] Try.func32 rfl rfl rfl rfl ?_
 unfold M32 at hm
 refine v ?_
 refine ve fun hk => a_alloc ([.sc (.int .i64 0), .sc (.slice none 0 0), .sc (.slice none 0 0), .sc (.slice none 0 0), .sc (.slice none 0 0)]) hk zr27 rfl rfl fun k2 hk3 => qk hk3 rfl ?_
 refine v ?_
 refine ve fun hk => a_alloc ([.sc (.int .i64 0), .sc (.slice none 0 0), .sc (.slice none 0 0), .sc (.slice none 0 0), .sc (.slice none 0 0)]) hk zr27 rfl rfl fun k6 hk7 => qk hk7 rfl ?_
 refine v (vle (leo (.tok 40 4 (([] : List TVol).length * 4)) 1 ([.sc (.int .i64 0), .sc (.slice none 0 0), .sc (.slice none 0 0), .sc (.slice none 0 0), ow none 4 (List.map c_Vol [])]) rfl (.k4 (.cons (ow_nil (c := c_Vol) _ 4) .nil))) ?_)
 refine vlp hm (σ := (List TVol) × Int) (τ := Option Key) (fun g s => [(g, .tok 40 4 ((s.1 : List TVol).length * 4)), (some k6, .obj 27 ([.sc (.int .i64 0), .sc (.slice none 0 0), .sc (.slice none 0 0), .sc (.slice none 0 0), ow g 4 (List.map c_Vol s.1)])), (some k2, .obj 27 ([.sc (.int .i64 0), .sc (.slice none 0 0), .sc (.slice none 0 0), .sc (.slice none 0 0), .sc (.slice none 0 0)]))]) (fun g s => (g = none → s.1 = [])) (fun g s => .c 0 (.sl none 1 (List.map c_i64 p0)) (.c 2 (.ptr k2 0) (.c 3 (.ptr k6 0) (.c 4 (.sc (.int .i64 s.2)) .nil)))) none (fun _ => rfl) (lx (.k4 .nil)) ?_ ?_
 rintro tg0 ⟨q0, q1⟩ x ot0 hm
 replace hm : M32_L0 fuel p0 q0 q1 = some x := hm
 unfold M32_L0 at hm
 refine v (vln ln28 rfl (v ?_))
 refine vi hm (fun hc0 hm => ?_) fun hc0 hm => ?_
 refine v (v (v ?_))
 refine vz [(10, some k6, .obj 27 ([.sc (.int .i64 0), .sc (.slice none 0 0), .sc (.slice none 0 0), .sc (.slice none 0 0), ow tg0 4 (List.map c_Vol q0)]))] mixed (fun hk => ⟨fun _ => hp_at 1 hk rfl, trivial⟩) fun hk => ?_
 refine z_w 0 rfl (fun S' h' hi hB => Zh fd27_4 rfl rfl) ?_
 refine z_w 1 rfl (fun S' h' hi hB => Zg (ow tg0 4 (List.map c_Vol q0)) ld25 rfl (At.s (InvL.get 0 hi rfl (hB 10 (by kernel_rfl)))) rfl) ?_
 refine z_w 2 rfl (fun S' h' hi hB => o_mv (.sl _ _ _) rfl) ?_
 refine z_w 3 rfl (fun S' h' hi hB => o_mv (.sc (.int _ _)) rfl) ?_
 obtain ⟨x0, hx0, hm⟩ := Zc hm
 refine z_w 4 rfl (fun S' h' hi hB => o_ix hx0 el28 rfl rfl) ?_
 refine z_w 5 rfl (fun S' h' hi hB => o_ld (.sc (.int .i64 x0)) ld3 rfl rfl) ?_
 refine z_w 6 rfl (fun S' h' hi hB => o_bld (c_Vol ({ Pool := x0, Epoch := 0, State := 1, Files := 0 } : TVol)) bt40 rfl) ?_
 refine z_w 7 rfl (fun S' h' hi hB => o_lit (List.map c_Vol ([({ Pool := x0, Epoch := 0, State := 1, Files := 0 } : TVol)] : List TVol)) et25 rfl rfl rfl rfl) ?_
 obtain ⟨z0, hz0, hm⟩ := Zc hm
 refine z_e 8 rfl (by kernel_rfl) (a_app (c := c_Vol) 0 hz0 et25 rfl rfl rfl ot0 hk rfl fun tg1 ot1 hk0 => ⟨⟨fun _ => hp_at 1 hk0 rfl, trivial⟩, ?_⟩)
 refine z_w 9 rfl (fun S' h' hi hB => Zh fd27_4 rfl rfl) ?_
 refine z_e 10 rfl (by kernel_rfl) (a_store 1 ([.sc (.int .i64 0), .sc (.slice none 0 0), .sc (.slice none 0 0), .sc (.slice none 0 0), ow tg1 4 (List.map c_Vol z0)]) hk0 rfl rfl (cellsOf_ow rfl) (all_ow _ _ _) sz25 rfl rfl fun hk1 => ⟨⟨fun e => absurd e (by decide), trivial⟩, ?_⟩)
 refine z_nil (by kernel_rfl) (qk (f := .c 20 _ (.c 19 _ (.c 18 _ (.c 17 _ (.c 16 _ (.c 15 _ (.c 14 _ (.c 13 _ (.c 12 _ (.c 11 _ _)))))))))) hk1 rfl ?_)
 refine v ?_
 exact vgo hm tg1 ot1 (lx (.k4 .nil))
 refine v ?_
 exact vbk hm tg0 ot0 (lx (.k4 .nil))
 rintro tg2 ⟨r0, r1⟩ ot2 hm
 refine v (vl 1 (.agg ([.sc (.int .i64 0), .sc (.slice none 0 0), .sc (.slice none 0 0), .sc (.slice none 0 0), ow tg2 4 (List.map c_Vol r0)])) ld27 rfl rfl rfl ?_)
 refine ve fun hk => a_store 2 ([.sc (.int .i64 0), .sc (.slice none 0 0), .sc (.slice none 0 0), .sc (.slice none 0 0), ow tg2 4 (List.map c_Vol r0)]) hk rfl rfl rfl (by repeat (first | exact rfl | refine all_c (ocell_ow _ _ _) ?_ | refine all_c (ocell_aw _ _ _) ?_ | refine all_c rfl ?_)) sz27 rfl rfl fun hk2 => qk hk2 rfl ?_
 refine v ?_
 cases hm
 exact vr fun hk => Ret.of1 (.inl rfl) (rsC (.agg ([.sc (.int .i64 0), .sc (.slice none 0 0), .sc (.slice none 0 0), .sc (.slice none 0 0), ow tg2 4 (List.map c_Vol r0)])) ld27 rfl (Zd 2 hk rfl) rfl) (hp_sub (List.nil_sublist _) hk).1 (ALe.agg (.cons (ALe.refl _ _) (.cons (nil_lem _) (.cons (nil_lem _) (.cons (nil_lem _) (.cons ((own_frz0 _ 0 ot2 hk rfl)) .nil)))))) ⟨rfl, rfl⟩
theorem bd32 : bodied Try.prog 32 = true := by kernel_rfl
open Go.Vm
def M65_L4 (fuel : Nat) (p0 : TCatalog) (p1 : Id32) (q0 : Int) (q1 : Int) (q2 : Int) : Option (Lp (Int) (Lp (Int) (Lp (Int) (Bool)))) :=
 (ix p0.Snaps q0).bind fun x0 => (ix x0.Man.Parts q1).bind fun x1 => if (decide (q2 < (x1.Ids.length : Int))) = true then ((ix p0.Snaps q0).bind fun x2 => (ix x2.Man.Parts q1).bind fun x3 => (ix x3.Ids q2).bind fun x4 => if (decide (x4 = p1)) = true then (some (.ret (.ret (.ret true)))) else some (.go (IntKind.wrap .i64 (q2 + 1)))) else some (.brk q2)
def M65_L2 (fuel : Nat) (p0 : TCatalog) (p1 : Id32) (q0 : Int) (q1 : Int) : Option (Lp (Int) (Lp (Int) (Bool))) :=
 (ix p0.Snaps q0).bind fun x0 => if (decide (q1 < (x0.Man.Parts.length : Int))) = true then (after (loopM (fun s => M65_L4 fuel p0 p1 q0 q1 s) fuel 0) fun r0 => some (.go (IntKind.wrap .i64 (q1 + 1)))) else some (.brk q1)
def M65_L0 (fuel : Nat) (p0 : TCatalog) (p1 : Id32) (q0 : Int) : Option (Lp (Int) (Bool)) :=
 if (decide (q0 < (p0.Snaps.length : Int))) = true then (after (loopM (fun s => M65_L2 fuel p0 p1 q0 s) fuel 0) fun r0 => some (.go (IntKind.wrap .i64 (q0 + 1)))) else some (.brk q0)
def M65 (fuel : Nat) (p0 : TCatalog) (p1 : Id32) : Option (Bool) :=
 after (loopM (fun s => M65_L0 fuel p0 p1 s) fuel 0) fun r0 => some false
set_option maxHeartbeats 4000000 in
set_option maxRecDepth 100000 in
theorem W65 {fuel : Nat} {p0 : TCatalog} {p1 : Id32} {o : Bool} (h : Heap) (hm : M65 fuel p0 p1 = some o) :
 ACalls Try.prog 65 [.agg (c_Catalog p0), .agg (c_id p1)] h (fun r h' => r = .sc (.bool o) ∧ h' = h) := by
 refine ACv 59 [.tmp 4] Try.func65 rfl rfl rfl rfl ?_
 unfold M65 at hm
 refine v ?_
 refine ve fun hk => a_box hk rfl rfl fun k2 hk3 => qk hk3 rfl ?_
 refine ve fun hk => a_box hk rfl rfl fun k5 hk6 => qk hk6 rfl ?_
 refine v ?_
 refine vlpH hm (σ := Int) (τ := Unit) (fun g s => [(some k5, .obj 61 (c_id p1)), (some k2, .obj 27 (c_Catalog p0))]) (fun g s => .c 2 (.ptr k2 0) (.c 3 (.ptr k5 0) (.c 5 (.sc (.int .i64 s)) .nil))) () (lx (.k3 .nil)) ?_ ?_
 rintro _ q0 x hm
 replace hm : M65_L0 fuel p0 p1 q0 = some x := hm
 unfold M65_L0 at hm
 refine v (vl 1 _ ld22 rfl rfl rfl (vln ln22 rfl (v ?_)))
 refine vi hm (fun hc0 hm => ?_) fun hc0 hm => ?_
 refine v (v (v ?_))
 refine vlpH hm (σ := Int) (τ := Unit) (fun g s => [(some k5, .obj 61 (c_id p1)), (some k2, .obj 27 (c_Catalog p0))]) (fun g s => .c 2 (.ptr k2 0) (.c 3 (.ptr k5 0) (.c 5 (.sc (.int .i64 q0)) (.c 6 (.sc (.int .i64 s)) .nil)))) () (lx (.k4 .nil)) ?_ ?_
 rintro _ q1 x hm
 replace hm : M65_L2 fuel p0 p1 q0 q1 = some x := hm
 unfold M65_L2 at hm
 refine v (vl 1 _ ld22 rfl rfl rfl ?_)
 refine vx hm el22 rfl rfl fun _ _ hm => ?_
 refine vln ln55 rfl (v ?_)
 refine vi hm (fun hc1 hm => ?_) fun hc1 hm => ?_
 refine v (v (v ?_))
 refine vlpH hm (σ := Int) (τ := Unit) (fun g s => [(some k5, .obj 61 (c_id p1)), (some k2, .obj 27 (c_Catalog p0))]) (fun g s => .c 2 (.ptr k2 0) (.c 3 (.ptr k5 0) (.c 5 (.sc (.int .i64 q0)) (.c 6 (.sc (.int .i64 q1)) (.c 7 (.sc (.int .i64 s)) .nil))))) () (lx (.k5 .nil)) ?_ ?_
 rintro _ q2 x hm
 replace hm : M65_L4 fuel p0 p1 q0 q1 q2 = some x := hm
 unfold M65_L4 at hm
 refine v (vl 1 _ ld22 rfl rfl rfl ?_)
 refine vx hm el22 rfl rfl fun _ _ hm => ?_
 refine vx hm el55 rfl rfl fun _ _ hm => ?_
 refine vln ln80 rfl (v ?_)
 refine vi hm (fun hc2 hm => ?_) fun hc2 hm => ?_
 refine v (v (v (vq (by kernel_rfl) (vl 1 _ ld22 rfl rfl rfl ?_))))
 refine vx hm el22 rfl rfl fun _ _ hm => ?_
 refine vx hm el55 rfl rfl fun _ _ hm => ?_
 refine vx hm el80 rfl rfl fun x0 _ hm => ?_
 refine va (.agg (c_id x0)) ld61 rfl rfl (vl 0 (.agg (c_id p1)) ld61 rfl rfl rfl (vn (fun _ => o_ide eg61 u61 u5 ld5 rfl rfl) (v ?_)))
 refine vi hm (fun hc3 hm => ?_) fun hc3 hm => ?_
 refine v (v ?_)
 refine vrt hm fun hm => ?_
 refine vrt hm fun hm => ?_
 refine vrt hm fun hm => ?_
 injection hm with hm; subst hm
 exact vr1 rfl
 refine v (v ?_)
 exact vgo hm () trivial (lx (.k5 .nil))
 refine v ?_
 exact vbk hm () trivial (lx (.k5 .nil))
 rintro _ r0 hm
 refine v ?_
 exact vgo hm () trivial (lx (.k4 .nil))
 refine v ?_
 exact vbk hm () trivial (lx (.k4 .nil))
 rintro _ r1 hm
 refine v ?_
 exact vgo hm () trivial (lx (.k3 .nil))
 refine v ?_
 exact vbk hm () trivial (lx (.k3 .nil))
 rintro _ r2 hm
 refine v (v ?_)
 injection hm with hm; subst hm
 exact vr1 rfl
theorem bd65 : bodied Try.prog 65 = true := by kernel_rfl
open Go.Vm
def onV (v : Int) (l : List TLoc) : Bool := l.any fun y => y.Vol == v
def it1 (x : TChunk) : TItem := { Kind := 1, Id := x.Id, Seq := 0, Of := 0, Off := 0, Len := 0 }
def it2 (x : TSnap) : TItem := { Kind := 2, Id := idZ, Seq := x.Seq, Of := 0, Off := 0, Len := 0 }
def it3 (x : TExp) : TItem := { Kind := 3, Id := idZ, Seq := x.Seq, Of := x.Of, Off := 0, Len := 0 }
def onL (c : TCatalog) (v : Int) : List TItem := (c.Chunks.filter fun x => onV v x.Locs).map it1 ++ (c.Snaps.filter fun x => onV v x.Locs).map it2 ++ (c.Exps.filter fun x => onV v x.Locs).map it3
theorem m80 {F : Nat} {l : List TLoc} {b : Bool} {v : Int} (hF : 1000 ≤ F) (hl : l.length ≤ 300) : M80 F l b v = some (onV v l) := by
 unfold M80 M81 onV
 have := m94 (F := F) (l := l) (f := fun x0 => M118 F x0 v) (fun y => y.Vol == v) (by omega) (by omega) (fun x _ => rfl)
 rw [this]
 rfl
theorem filt_loop {α β ρ : Type} {l : List α} {F : Nat} (acc0 : List β) (q : α → Bool) (it : α → β) {body : List β × Int → Option (Lp (List β × Int) ρ)} (hF : l.length < F)
    (hb : ∀ (i : Nat) (x : α), l[i]? = some x → x ∈ l → i < l.length → ∀ acc : List β, acc.length ≤ acc0.length + i → body (acc, (i : Int)) = some (.go (if q x then acc ++ [it x] else acc, ((i + 1 : Nat) : Int))))
    (he : ∀ acc, body (acc, (l.length : Int)) = some (.brk (acc, (l.length : Int)))) : loopM body F (acc0, 0) = some (.brk (acc0 ++ (l.filter q).map it, (l.length : Int))) := by
  have := go_loop (body := body) (s0 := (acc0, (0 : Int))) (n := l.length) (F := F) (fun i : Nat => (acc0 ++ ((l.take i).filter q).map it, (i : Int))) hF (by simp) (fun i hi => by
    have hlen : ((l.take i).filter q).length ≤ i := Nat.le_trans (List.length_filter_le _ _) (by rw [List.length_take]; omega)
    rw [hb i l[i] (List.getElem?_eq_getElem hi) (List.getElem_mem hi) hi _ (by rw [List.length_append, List.length_map]; omega)]
    rw [List.take_succ_eq_append_getElem hi, List.filter_append, List.map_append]
    cases hq : q l[i] <;> simp [List.filter, hq]) (he _)
  simpa using this
theorem cnt_loop {α ρ : Type} {l : List α} {F : Nat} (q : α → Bool) {body : Int × Int → Option (Lp (Int × Int) ρ)} (hF : l.length < F)
    (hb : ∀ (i : Nat) (x : α), l[i]? = some x → x ∈ l → i < l.length → ∀ k : Nat, k ≤ i → body ((k : Int), (i : Int)) = some (.go ((((if q x then k + 1 else k) : Nat) : Int), ((i + 1 : Nat) : Int))))
    (he : ∀ k, body (k, (l.length : Int)) = some (.brk (k, (l.length : Int)))) : loopM body F (0, 0) = some (.brk (((l.filter q).length : Int), (l.length : Int))) := by
  have := go_loop (body := body) (s0 := ((0 : Int), (0 : Int))) (n := l.length) (F := F) (fun i : Nat => ((((l.take i).filter q).length : Int), (i : Int))) hF (by simp) (fun i hi => by
    have hlen : ((l.take i).filter q).length ≤ i := Nat.le_trans (List.length_filter_le _ _) (by rw [List.length_take]; omega)
    rw [hb i l[i] (List.getElem?_eq_getElem hi) (List.getElem_mem hi) hi _ hlen]
    rw [List.take_succ_eq_append_getElem hi, List.filter_append]
    cases hq : q l[i] <;> simp [List.filter, hq]) (he _)
  simpa using this
theorem m78 {F : Nat} {c : TCatalog} {v : Int} (hF : 1000 ≤ F) (h : Sm c) : M78 F c (fun x0 x1 => M80 F x0 x1 v) = some (onL c v) := by
 have hsn := h.sn
 have hch := h.ch
 have hex := h.ex
 unfold M78
 rw [filt_loop (l := c.Chunks) [] (fun x => onV v x.Locs) it1 (by omega) (fun i x hx hm hi acc ha => by
  unfold M78_L0
  rw [wr1 (by omega)]
  simp only [ix_nat, hx, Option.bind_some, Int.ofNat_lt, hi, decide_true, if_true, m44 hF h, m80 hF (h.cl x hm).1]
  simp only [List.length_nil] at ha
  rw [app_some (by simp; omega)]
  cases onV v x.Locs <;> rfl) (fun acc => by unfold M78_L0; simp)]
 simp only [after_brk, List.nil_append]
 have l1 : ((c.Chunks.filter fun x => onV v x.Locs).map it1).length ≤ 400 := by rw [List.length_map]; exact Nat.le_trans (List.length_filter_le _ _) hch
 rw [filt_loop (l := c.Snaps) _ (fun x => onV v x.Locs) it2 (by omega) (fun i x hx hm hi acc ha => by
  unfold M78_L2
  rw [wr1 (by omega)]
  simp only [ix_nat, hx, Option.bind_some, Int.ofNat_lt, hi, decide_true, if_true, m80 hF (h.sl x hm)]
  rw [app_some (by simp; omega)]
  cases onV v x.Locs <;> rfl) (fun acc => by unfold M78_L2; simp)]
 simp only [after_brk]
 have l2 : ((c.Snaps.filter fun x => onV v x.Locs).map it2).length ≤ 12 := by rw [List.length_map]; exact Nat.le_trans (List.length_filter_le _ _) hsn
 rw [filt_loop (l := c.Exps) _ (fun x => onV v x.Locs) it3 (by omega) (fun i x hx hm hi acc ha => by
  unfold M78_L4
  rw [wr1 (by omega)]
  simp only [ix_nat, hx, Option.bind_some, Int.ofNat_lt, hi, decide_true, if_true, m80 hF (h.el x hm)]
  rw [List.length_append] at ha
  rw [app_some (by simp; omega)]
  cases onV v x.Locs <;> rfl) (fun acc => by unfold M78_L4; simp)]
 rfl
theorem m37 {F : Nat} {c : TCatalog} {v : Int} (hF : 1000 ≤ F) (h : Sm c) : M37 F c v = some (if good c then onL c v else []) := by
 unfold M37
 rw [m33 hF h, m78 hF h]
 cases good c <;> simp
theorem onL_len {c : TCatalog} {v : Int} (h : Sm c) : (onL c v).length ≤ 720 := by
 have hsn := h.sn
 have hch := h.ch
 have hex := h.ex
 unfold onL
 simp only [List.length_append, List.length_map]
 have h1 := List.length_filter_le (fun x : TChunk => onV v x.Locs) c.Chunks
 have h2 := List.length_filter_le (fun x : TSnap => onV v x.Locs) c.Snaps
 have h3 := List.length_filter_le (fun x : TExp => onV v x.Locs) c.Exps
 omega
def live (c : TCatalog) (v : Int) : Nat := ((onL c v).filter fun x => x.Kind != 1 || usedB c x.Id).length
theorem m20 {F : Nat} {c : TCatalog} {v : Int} (hF : 1000 ≤ F) (h : Sm c) : M20 F c v = some (if good c then (live c v : Int) else 0) := by
 unfold M20
 rw [m37 hF h]
 simp only [Option.bind_some]
 have hl := onL_len (v := v) h
 have hL : (if good c then onL c v else []).length ≤ 720 := by
  split
  ·exact hl
  ·simp
 rw [cnt_loop (l := if good c then onL c v else []) (F := F) (fun x => x.Kind != 1 || usedB c x.Id) (by omega) (fun i x hx hm hi k hk => by
  unfold M20_L0
  dsimp only
  rw [wr1 (i := i) (by omega), wr1 (i := k) (by omega)]
  simp only [ix_nat, hx, Option.bind_some, Int.ofNat_lt, hi, decide_true, if_true, m44 hF h]
  cases x.Kind != 1 <;> cases usedB c x.Id <;> rfl) (fun k => by unfold M20_L0; simp)]
 unfold live
 cases good c <;> simp [after]
theorem good_locs {c : TCatalog} (hg : good c = true) : (∀ x ∈ c.Chunks, locsB c x.Locs = true) ∧ (∀ x ∈ c.Snaps, locsB c x.Locs = true) ∧ (∀ x ∈ c.Exps, locsB c x.Locs = true) := by
 unfold good chsB snsB exsB at hg
 simp only [Bool.and_eq_true, Bool.not_eq_true', List.any_eq_false, List.mem_range] at hg
 obtain ⟨⟨⟨⟨-, -⟩, h1, -⟩, h2, -⟩, h3, -⟩ := hg
 refine ⟨fun x hx => ?_, fun x hx => ?_, fun x hx => ?_⟩
 ·obtain ⟨i, hi, rfl⟩ := List.getElem_of_mem hx
  have this : chB c i = true := by simpa using h1 i hi
  unfold chB at this
  rw [List.getElem?_eq_getElem hi] at this
  simp only [Bool.and_eq_true] at this
  exact this.1.2
 ·obtain ⟨i, hi, rfl⟩ := List.getElem_of_mem hx
  have this : snB c i = true ∧ snC c i = true := by simpa using h2 i hi
  replace this := this.1
  unfold snB at this
  rw [List.getElem?_eq_getElem hi] at this
  simp only [Bool.and_eq_true] at this
  exact this.2
 ·obtain ⟨i, hi, rfl⟩ := List.getElem_of_mem hx
  have this : exA c i = true ∧ exC c i = true := by simpa using h3 i hi
  replace this := this.1
  unfold exA at this
  rw [List.getElem?_eq_getElem hi] at this
  simp only [Bool.and_eq_true] at this
  exact this.2
theorem m65 {F : Nat} {c : TCatalog} {d : Id32} (hF : 1000 ≤ F) (h : Sm c) : M65 F c d = some (usedB c d) := by
 have hsn := h.sn
 unfold M65
 rw [any_loop (l := c.Snaps) (F := F) (fun s => s.Man.Parts.any fun p => p.Ids.any fun x => decide (d = x)) true (by omega) (fun i s hs hm hi => by
  obtain ⟨-, k2, k3⟩ := h.man s hm
  unfold M65_L0
  rw [wr1 (by omega), any_loop (l := s.Man.Parts) (F := F) (fun p => p.Ids.any fun x => decide (d = x)) (Lp.ret true) (by omega) (fun j p hp hm' hj => by
   have k4 := (k3 p hm').2
   unfold M65_L2
   rw [wr1 (by omega), any_loop (l := p.Ids) (F := F) (fun x => decide (d = x)) (Lp.ret (Lp.ret true)) (by omega) (fun k x hx _ hk => by
    unfold M65_L4
    rw [wr1 (by omega)]
    simp only [ix_nat, hs, hp, hx, Option.bind_some, Int.ofNat_lt, hk, decide_true, if_true, decide_eq_true_eq, eq_comm (a := x)]
    split <;> rfl) (by unfold M65_L4; simp [ix_nat, hs, hp])]
   simp only [ix_nat, hs, Option.bind_some, Int.ofNat_lt, hj, decide_true, if_true]
   cases p.Ids.any fun x => decide (d = x) <;> rfl) (by unfold M65_L2; simp [ix_nat, hs])]
  simp only [Int.ofNat_lt, hi, decide_true, if_true]
  cases s.Man.Parts.any fun p => p.Ids.any fun x => decide (d = x) <;> rfl) (by unfold M65_L0; simp)]
 unfold usedB
 cases c.Snaps.any fun s => s.Man.Parts.any fun p => p.Ids.any fun x => decide (d = x) <;> rfl
open Go.Vm
def spar (c : TCatalog) (p : Int) : Nat → Int
 | 0 => -1
 | i + 1 => match c.Vols[i]? with
  | none => spar c p i
  | some x => if x.Pool == p && x.State == 2 && (decide (spar c p i < 0) || decide (live c i < live c (spar c p i))) then (i : Int) else spar c p i
def lst (c : TCatalog) (s : Int) : Int := if s < 0 then 0 else (live c s : Int)
theorem m21 {F : Nat} {c : TCatalog} {p : Int} (hF : 1000 ≤ F) (h : Sm c) : M21 F c p = some (if good c then spar c p c.Vols.length else -1) := by
 have hvo := h.vo
 unfold M21
 rw [m33 hF h]
 cases hg : good c
 ·simp
 ·simp only [if_true, Option.bind_some]
  rw [if_neg (by simp), go_loop (s0 := ((-1 : Int), (0 : Int), (0 : Int))) (n := c.Vols.length) (F := F) (fun i : Nat => (spar c p i, lst c (spar c p i), (i : Int))) (by omega) rfl (fun i hi => by
   unfold M21_L0
   have hx : c.Vols[i]? = some c.Vols[i] := List.getElem?_eq_getElem hi
   generalize c.Vols[i] = x at hx
   have e : spar c p (i + 1) = if x.Pool == p && x.State == 2 && (decide (spar c p i < 0) || decide (live c i < live c (spar c p i))) then (i : Int) else spar c p i := by
    rw [spar, hx]
   dsimp only
   rw [wr1 (i := i) (by omega), e, m20 hF h, hg]
   simp only [ix_nat, hx, Option.bind_some, Int.ofNat_lt, hi, decide_true, if_true, bne]
   have l0 : lst c (i : Int) = (live c i : Int) := by unfold lst; rw [if_neg (by omega)]
   generalize spar c p i = s
   cases x.Pool == p
   ·simp [after]
   ·cases x.State == 2
    ·simp [after]
    ·by_cases hs : s < 0
     ·simp [after, hs, l0]
     ·have l1 : lst c s = (live c s : Int) := by unfold lst; rw [if_neg hs]
      by_cases hk : live c i < live c s
      ·simp [after, hs, l1, hk, l0]
      ·simp [after, hs, l1, hk, l0]) (by unfold M21_L0; simp)]
  rfl
def fits (c : TCatalog) (p need : Int) (r : List Int) (nt st : Int) (i : Nat) : Bool := match c.Vols[i]?, r[i]? with
 | some x, some z => x.Pool == p && (i : Int) != nt && x.State == st && decide (need ≤ z)
 | _, _ => false
set_option maxRecDepth 100000 in
theorem m23 : M23 1000 = some true := by decide +kernel
open Go.Vm
def fidx {α : Type} (l : List α) (q : α → Bool) : Int := match (List.range l.length).find? fun i => (l[i]?).any q with
 | none => -1
 | some i => (i : Int)
theorem fidx_loop {α : Type} {l : List α} (q : α → Bool) {F : Nat} {body : Int → Option (Lp Int Int)} (hF : l.length < F)
    (hb : ∀ (i : Nat) (x : α), l[i]? = some x → x ∈ l → i < l.length → body (i : Int) = some (if q x then .ret (i : Int) else .go ((i + 1 : Nat) : Int))) (he : body (l.length : Int) = some (.brk (l.length : Int))) :
    (after (loopM body F 0) fun _ => some (-1)) = some (fidx l q) := by
  rw [loop_ff (s0 := (0 : Int)) (n := l.length) (F := F) (fun i : Nat => (i : Int)) (fun i => (l[i]?).any q) (fun i => (i : Int)) hF rfl (fun i hi _ => by
    rw [hb i l[i] (List.getElem?_eq_getElem hi) (List.getElem_mem hi) hi, List.getElem?_eq_getElem hi]; rfl) (fun _ => he)]
  unfold LF fidx
  cases (List.range l.length).find? fun i => (l[i]?).any q <;> rfl
theorem m50f {F : Nat} {c : TCatalog} {nm : ByteArray} (hF : 1000 ≤ F) (hl : c.Snaps.length < 1000) : M50 F c nm = some (fidx c.Snaps fun s => s.Man.Name.toList == nm.toList) := by
 unfold M50
 refine fidx_loop _ (by omega) (fun i x hx hm hi => ?_) (by unfold M50_L0; simp)
 unfold M50_L0
 rw [wr1 (by omega)]
 simp only [ix_nat, hx, Option.bind_some, Int.ofNat_lt, hi, decide_true, if_true]
 cases x.Man.Name.toList == nm.toList <;> simp
def inP (c : TCatalog) (p : Int) (x : TLoc) : Bool := inR x.Vol 0 ((c.Vols.length : Int) - 1) && (c.Vols[x.Vol.toNat]?).any fun v => v.Pool == p
theorem m95 {F : Nat} {c : TCatalog} {p : Int} {x : TLoc} (hv : c.Vols.length < 1000) : M95 F x c p = some (inP c p x) := by
 unfold M95 inP
 rw [wr (by omega) (by omega), m68]
 simp only [Option.bind_some]
 cases h : inR x.Vol 0 ((c.Vols.length : Int) - 1)
 ·rfl
 ·have h' : 0 ≤ x.Vol ∧ x.Vol ≤ (c.Vols.length : Int) - 1 := by simpa [inR] using h
  have hi : x.Vol.toNat < c.Vols.length := by omega
  simp only [if_true, ix_pos _ h'.1, List.getElem?_eq_getElem hi, Option.bind_some, after_brk, Option.any_some, Bool.true_and]
theorem m46 {F : Nat} {c : TCatalog} {l : List TLoc} {p : Int} (hF : 1000 ≤ F) (hv : c.Vols.length < 1000) (hl : l.length ≤ 300) : M46 F c l p = some (l.any (inP c p)) := by
 unfold M46
 rw [m94 (F := F) (f := fun x0 => M95 F x0 c p) (inP c p) (by omega) (by omega) (fun x _ => m95 hv)]
 rfl
def newC (l : List Int) : TCatalog := { Seq := 0, Snaps := [], Chunks := [], Exps := [], Vols := l.map fun p => { Pool := p, Epoch := 0, State := 1, Files := 0 } }
theorem m32 {F : Nat} {l : List Int} (hF : 1000 ≤ F) (hl : l.length ≤ 100) : M32 F l = some (newC l) := by
  unfold M32
  rw [go_loop (s0 := (([] : List TVol), (0 : Int))) (n := l.length) (F := F) (fun i : Nat => ((l.take i).map fun p => ({ Pool := p, Epoch := 0, State := 1, Files := 0 } : TVol), (i : Int))) (by omega) (by simp) (fun i hi => by
      unfold M32_L0
      have hx : l[i]? = some l[i] := List.getElem?_eq_getElem hi
      rw [wr1 (by omega)]
      simp only [ix_nat, hx, Option.bind_some, Int.ofNat_lt, hi, decide_true, if_true]
      rw [app_some (by simp; omega), List.take_succ_eq_append_getElem hi, List.map_append]; rfl) (by unfold M32_L0; simp)]
  simp [newC, after]
def poolB (p : Int) : Bool := inR p 0 1
theorem newC_sm {l : List Int} (hl : l.length ≤ 8) (hg : gL gI l) : Sm (newC l) where
 g := by
  refine ⟨by simp [newC, gI], fun _ h => by simp [newC] at h, fun _ h => by simp [newC] at h, fun _ h => by simp [newC] at h, fun x hx => ?_⟩
  obtain ⟨p, hp, rfl⟩ := List.mem_map.1 hx
  exact ⟨hg p hp, by simp [gI], by simp [gI], by simp [gI]⟩
 sn := by simp [newC]
 ch := by simp [newC]
 ex := by simp [newC]
 vo := by simp [newC]; omega
 sl := by simp [newC]
 man := by simp [newC]
 cl := by simp [newC]
 el := by simp [newC]
theorem newC_good {l : List Int} (hl : inR l.length 1 8 = true) (hp : l.all poolB = true) : good (newC l) = true := by
 have h1 : (newC l).Vols.all volB = true := by
  rw [List.all_eq_true]
  intro x hx
  obtain ⟨p, hq, rfl⟩ := List.mem_map.1 hx
  have := List.all_eq_true.1 hp p hq
  simp only [poolB, inR, Bool.and_eq_true, decide_eq_true_eq] at this
  simp [volB, inR, this.1, this.2]
 have h2 : (newC l).Vols.length = l.length := by simp [newC]
 unfold good
 rw [h1, h2, hl]
 simp [newC, chsB, snsB, exsB, inR]
theorem snB_at {c : TCatalog} (hg : good c = true) {i : Nat} {s : TSnap} (hs : c.Snaps[i]? = some s) : snB c i = true ∧ plB c s.Man = true := by
 unfold good snsB at hg
 simp only [Bool.and_eq_true, Bool.not_eq_true', List.any_eq_false, List.mem_range] at hg
 obtain ⟨⟨⟨⟨-, -⟩, -, -⟩, h2, -⟩, -, -⟩ := hg
 have h := h2 i (List.getElem?_eq_some_iff.1 hs).1
 have h : snB c i = true ∧ snC c i = true := by simpa using h
 refine ⟨h.1, ?_⟩
 have := h.2
 unfold snC at this
 rw [hs] at this
 exact this
theorem chB_at {c : TCatalog} (hg : good c = true) {i : Nat} {x : TChunk} (hs : c.Chunks[i]? = some x) : chB c i = true := by
 unfold good chsB at hg
 simp only [Bool.and_eq_true, Bool.not_eq_true', List.any_eq_false, List.mem_range] at hg
 obtain ⟨⟨⟨⟨-, -⟩, h1, -⟩, -, -⟩, -, -⟩ := hg
 have h := h1 i (List.getElem?_eq_some_iff.1 hs).1
 simpa using h
open Go.Vm
def M54a_L0 (fuel : Nat) (p0 : List TChunk) (q0 : List TChunk) (q1 : Int) : Option (Lp ((List TChunk) × Int) ((List TChunk))) :=
 if (decide (q1 < (p0.length : Int))) = true then ((ix p0 q1).bind fun x0 => (M100 fuel x0.Data).bind fun y0 => (M53 fuel x0.Locs).bind fun y1 => (app q0 ([{ { x0 with Data := y0 } with Locs := y1 }] : List TChunk)).bind fun z0 => some (.go (z0, IntKind.wrap .i64 (q1 + 1)))) else some (.brk (q0, q1))
def M54a (fuel : Nat) (p0 : List TChunk) : Option ((List TChunk)) :=
 after (loopM (fun s => M54a_L0 fuel p0 s.1 s.2) fuel ([], 0)) fun ⟨r0, r1⟩ => some r0
set_option maxHeartbeats 4000000 in
set_option maxRecDepth 100000 in
theorem W54a {fuel : Nat} {p0 : List TChunk} {o : (List TChunk)} (h : Heap) (hm : M54a fuel p0 = some o) :
 ACalls Try.prog 54 [.sl none 35 (List.map c_Chunk p0)] h (fun r h' => ∃ g : AGh, AOk g 35 o.length ∧ HOk h [(g.t, .obj 63 (fl c_Chunk o g.sp))] ∧ r = aw g.t g.n g.cap ∧ h' = hp h [(g.t, .obj 63 (fl c_Chunk o g.sp))]) := by
 refine ACv 29 [.tmp 2] Try.func54 rfl rfl rfl rfl ?_
 unfold M54a at hm
 refine vs (v0 (vs (v0 (vs (vs (v0 (vle (lno (.obj 63 (fl c_Chunk ([] : List TChunk) g0.sp)) 3 (aw g0.t g0.n g0.cap) (ALe_nilA _)) ?_)))))))
 refine vlp hm (σ := (List TChunk) × Int) (τ := AGh) (fun g s => [(g.t, .obj 63 (fl c_Chunk (s.1 : List TChunk) g.sp))]) (fun g s => AOk g 35 (s.1 : List TChunk).length) (fun g s => .c 0 (.sl none 35 (List.map c_Chunk p0)) (.c 3 (aw g.t g.n g.cap) (.c 4 (.sc (.int .i64 s.2)) .nil))) g0 (AOk.g0 35) (lx (.k3 .nil)) ?_ ?_
 rintro ag0 ⟨q0, q1⟩ x ok0 hm
 replace hm : M54a_L0 fuel p0 q0 q1 = some x := hm
 unfold M54a_L0 at hm
 refine vs (vs (v0 (vln ln23 rfl (v0 ?_))))
 refine vi hm (fun hc0 hm => ?_) fun hc0 hm => ?_
 refine v0 (vs (v0 (vs (v0 ?_))))
 refine vx hm el23 rfl rfl fun x0 _ hm => ?_
 refine va (.agg (c_Chunk x0)) ld63 rfl rfl ?_
 refine ve fun hk => a_alloc (c_id idZ ++ ([.sc (.bool false), .sc (.slice none 0 0), .sc (.slice none 0 0)] : List AV)) hk zr63 rfl rfl fun k115 hk0 => qk hk0 rfl ?_
 refine ve fun hk => a_store 0 (c_Chunk x0) hk rfl rfl rfl rfl sz63 rfl rfl fun hk1 => qk hk1 rfl ?_
 refine vs (v0 ?_)
 refine vz [(7, some k115, .obj 63 (c_Chunk x0))] mixed (fun hk => ⟨fun _ => hp_at 0 hk rfl, trivial⟩) fun hk => ?_
 refine z_w 0 rfl (fun S' h' hi hB => Zh fd63_2 rfl rfl) ?_
 refine z_w 1 rfl (fun S' h' hi hB => Zg (.sl none 1 (List.map c_u8 x0.Data)) ld52 rfl (At.s (InvL.get 0 hi rfl (hB 7 (by kernel_rfl)))) rfl) ?_
 obtain ⟨y0, hy0, hm⟩ := Zc hm
 refine z_w 2 rfl (fun S' h' hi hB => o_call (W100 _ hy0) rfl bd100 rfl) ?_
 refine z_w 3 rfl (fun S' h' hi hB => Zh fd63_3 rfl rfl) ?_
 refine z_w 4 rfl (fun S' h' hi hB => Zg (.sl none 4 (List.map c_Loc x0.Locs)) ld58 rfl (At.s (InvL.get 0 hi rfl (hB 7 (by kernel_rfl)))) rfl) ?_
 obtain ⟨y1, hy1, hm⟩ := Zc hm
 refine z_w 5 rfl (fun S' h' hi hB => o_call (W53 _ hy1) rfl bd53 rfl) ?_
 refine z_w 6 rfl (fun S' h' hi hB => Zh fd63_2 rfl rfl) ?_
 refine z_e 7 rfl (by kernel_rfl) (a_store 0 (c_Chunk { x0 with Data := y0 }) hk rfl rfl rfl rfl sz52 rfl rfl fun hk2 => ⟨⟨fun e => absurd e (by decide), trivial⟩, ?_⟩)
 refine z_w 8 rfl (fun S' h' hi hB => Zh fd63_3 rfl rfl) ?_
 refine z_e 9 rfl (by kernel_rfl) (a_store 0 (c_Chunk { { x0 with Data := y0 } with Locs := y1 }) hk2 rfl rfl rfl rfl sz58 rfl rfl fun hk3 => ⟨⟨fun e => absurd e (by decide), trivial⟩, ?_⟩)
 refine z_nil (by kernel_rfl) (qk (f := .c 23 _ (.c 22 _ (.c 21 _ (.c 20 _ (.c 19 _ (.c 18 _ (.c 17 _ (.c 16 _ _)))))))) hk3 rfl ?_)
 refine v0 (vl 0 (.agg (c_Chunk { { x0 with Data := y0 } with Locs := y1 })) ld63 rfl rfl rfl (vn (fun _ => o_lit (List.map c_Chunk ([{ { x0 with Data := y0 } with Locs := y1 }] : List TChunk)) et23 rfl rfl rfl rfl) ?_))
 obtain ⟨z0, hz0, hm⟩ := Zc hm
 refine ve fun hk => a_appA (c := c_Chunk) 1 hz0 et23 rfl zr63 rfl cz_Chunk rfl rfl ok0 hk rfl fun ag1 ok1 hk4 => qk hk4 rfl ?_
 refine v0 ?_
 exact vgo hm ag1 ok1 (lxs [1] rfl rfl (.k3 .nil))
 refine v0 ?_
 exact vbk hm ag0 ok0 (lx (.k3 .nil))
 rintro ag2 ⟨r0, r1⟩ ot0 hm
 refine vs (v0 (v0 ?_))
 injection hm with hm; subst hm
 exact vr fun hk => Ret.one (.inl rfl) (hp_sub (h0 := h) (L' := [(ag2.t, .obj 63 (fl c_Chunk (r0 : List TChunk) ag2.sp))]) (.refl _) hk).1 (ALe.refl _ _) ⟨ag2, ot0, (hp_sub (h0 := h) (L' := [(ag2.t, .obj 63 (fl c_Chunk (r0 : List TChunk) ag2.sp))]) (.refl _) hk).2, rfl, rfl⟩
def M14d_L0 (fuel : Nat) (p0 : TCatalog) (q0 : List TSnap) (q1 : Int) : Option (Lp ((List TSnap) × Int) (TCatalog)) :=
 if (decide (q1 < (p0.Snaps.length : Int))) = true then ((ix p0.Snaps q1).bind fun x0 => (M52 fuel x0.Man).bind fun y0 => (M53 fuel x0.Locs).bind fun y1 => (app q0 ([{ { x0 with Man := y0 } with Locs := y1 }] : List TSnap)).bind fun z0 => some (.go (z0, IntKind.wrap .i64 (q1 + 1)))) else some (.brk (q0, q1))
def M14d_L2 (fuel : Nat) (p0 : TCatalog) (q0 : List TExp) (q1 : Int) : Option (Lp ((List TExp) × Int) (TCatalog)) :=
 if (decide (q1 < (p0.Exps.length : Int))) = true then ((ix p0.Exps q1).bind fun x0 => (M53 fuel x0.Locs).bind fun y0 => (app q0 ([{ x0 with Locs := y0 }] : List TExp)).bind fun z0 => some (.go (z0, IntKind.wrap .i64 (q1 + 1)))) else some (.brk (q0, q1))
def M14d (fuel : Nat) (p0 : TCatalog) : Option (TCatalog) :=
 after (loopM (fun s => M14d_L0 fuel p0 s.1 s.2) fuel ([], 0)) fun ⟨r0, r1⟩ => after (loopM (fun s => M14d_L2 fuel p0 s.1 s.2) fuel ([], 0)) fun ⟨r2, r3⟩ => (M54a fuel p0.Chunks).bind fun y0 => (app ([] : List TVol) p0.Vols).bind fun z0 => some ({ Seq := p0.Seq, Snaps := r0, Chunks := y0, Exps := r2, Vols := z0 } : TCatalog)
set_option maxHeartbeats 4000000 in
set_option maxRecDepth 100000 in
theorem W14d {fuel : Nat} {p0 : TCatalog} {o : TCatalog} (h : Heap) (hm : M14d fuel p0 = some o) :
 ACalls Try.prog 14 [.agg (c_Catalog p0)] h (fun r h' => ∃ g_Snaps : AGh, AOk g_Snaps 4 o.Snaps.length ∧ ∃ g_Chunks : AGh, AOk g_Chunks 35 o.Chunks.length ∧ ∃ g_Exps : AGh, AOk g_Exps 3 o.Exps.length ∧ ∃ g_Vols : AGh, AOk g_Vols 4 o.Vols.length ∧ HOk h [(g_Snaps.t, .obj 60 (fl c_Snap (o.Snaps : List TSnap) g_Snaps.sp)), (g_Chunks.t, .obj 63 (fl c_Chunk (o.Chunks : List TChunk) g_Chunks.sp)), (g_Exps.t, .obj 65 (fl c_Exp (o.Exps : List TExp) g_Exps.sp)), (g_Vols.t, .obj 40 (fl c_Vol (o.Vols : List TVol) g_Vols.sp))] ∧ r = .agg ([.sc (.int .i64 o.Seq), aw g_Snaps.t g_Snaps.n g_Snaps.cap, aw g_Chunks.t g_Chunks.n g_Chunks.cap, aw g_Exps.t g_Exps.n g_Exps.cap, aw g_Vols.t g_Vols.n g_Vols.cap]) ∧ h' = hp h [(g_Snaps.t, .obj 60 (fl c_Snap (o.Snaps : List TSnap) g_Snaps.sp)), (g_Chunks.t, .obj 63 (fl c_Chunk (o.Chunks : List TChunk) g_Chunks.sp)), (g_Exps.t, .obj 65 (fl c_Exp (o.Exps : List TExp) g_Exps.sp)), (g_Vols.t, .obj 40 (fl c_Vol (o.Vols : List TVol) g_Vols.sp))]) := by
 refine ACv 68 [.cell 2 27] Try.func14 rfl rfl rfl rfl ?_
 unfold M14d at hm
 refine vs (v0 ?_)
 refine ve fun hk => a_box hk rfl rfl fun k2 hk3 => qk hk3 rfl ?_
 refine ve fun hk => a_alloc ([.sc (.int .i64 0), .sc (.slice none 0 0), .sc (.slice none 0 0), .sc (.slice none 0 0), .sc (.slice none 0 0)]) hk zr27 rfl rfl fun k5 hk6 => qk hk6 rfl ?_
 refine vs (v0 (vs (vs (v0 (vle (lno (.obj 60 (fl c_Snap ([] : List TSnap) g0.sp)) 3 (aw g0.t g0.n g0.cap) (ALe_nilA _)) ?_)))))
 refine vlp hm (σ := (List TSnap) × Int) (τ := AGh) (fun g s => [(g.t, .obj 60 (fl c_Snap (s.1 : List TSnap) g.sp)), (some k5, .obj 27 ([.sc (.int .i64 0), .sc (.slice none 0 0), .sc (.slice none 0 0), .sc (.slice none 0 0), .sc (.slice none 0 0)])), (some k2, .obj 27 (c_Catalog p0))]) (fun g s => AOk g 4 (s.1 : List TSnap).length) (fun g s => .c 1 (.ptr k2 0) (.c 2 (.ptr k5 0) (.c 3 (aw g.t g.n g.cap) (.c 4 (.sc (.int .i64 s.2)) .nil)))) g0 (AOk.g0 4) (lx (.k4 .nil)) ?_ ?_
 rintro ag0 ⟨q0, q1⟩ x ok0 hm
 replace hm : M14d_L0 fuel p0 q0 q1 = some x := hm
 unfold M14d_L0 at hm
 refine vs (vs (v0 (vn (fun _ => Zh fd27_1 rfl rfl) (vl 2 _ ld22 rfl rfl rfl (vln ln22 rfl (v0 ?_))))))
 refine vi hm (fun hc0 hm => ?_) fun hc0 hm => ?_
 refine v0 (vs (v0 (vs (v0 (vn (fun _ => Zh fd27_1 rfl rfl) (vl 2 _ ld22 rfl rfl rfl ?_))))))
 refine vx hm el22 rfl rfl fun x0 _ hm => ?_
 refine va (.agg (c_Snap x0)) ld60 rfl rfl ?_
 refine ve fun hk => a_alloc ([.sc (.int .i64 0), .sc (.string ByteArray.empty), .sc (.slice none 0 0), .sc (.slice none 0 0)]) hk zr60 rfl rfl fun k121 hk0 => qk hk0 rfl ?_
 refine ve fun hk => a_store 0 (c_Snap x0) hk rfl rfl rfl rfl sz60 rfl rfl fun hk1 => qk hk1 rfl ?_
 refine vs (v0 ?_)
 refine vz [(7, some k121, .obj 60 (c_Snap x0))] mixed (fun hk => ⟨fun _ => hp_at 0 hk rfl, trivial⟩) fun hk => ?_
 refine z_w 0 rfl (fun S' h' hi hB => Zh fd60_1 rfl rfl) ?_
 refine z_w 1 rfl (fun S' h' hi hB => Zg (.agg (c_Manifest x0.Man)) ld57 rfl (At.s (InvL.get 0 hi rfl (hB 7 (by kernel_rfl)))) rfl) ?_
 obtain ⟨y0, hy0, hm⟩ := Zc hm
 refine z_w 2 rfl (fun S' h' hi hB => o_call (W52 _ hy0) rfl bd52 rfl) ?_
 refine z_w 3 rfl (fun S' h' hi hB => Zh fd60_2 rfl rfl) ?_
 refine z_w 4 rfl (fun S' h' hi hB => Zg (.sl none 4 (List.map c_Loc x0.Locs)) ld58 rfl (At.s (InvL.get 0 hi rfl (hB 7 (by kernel_rfl)))) rfl) ?_
 obtain ⟨y1, hy1, hm⟩ := Zc hm
 refine z_w 5 rfl (fun S' h' hi hB => o_call (W53 _ hy1) rfl bd53 rfl) ?_
 refine z_w 6 rfl (fun S' h' hi hB => Zh fd60_1 rfl rfl) ?_
 refine z_e 7 rfl (by kernel_rfl) (a_store 0 (c_Snap { x0 with Man := y0 }) hk rfl rfl rfl rfl sz57 rfl rfl fun hk2 => ⟨⟨fun e => absurd e (by decide), trivial⟩, ?_⟩)
 refine z_w 8 rfl (fun S' h' hi hB => Zh fd60_2 rfl rfl) ?_
 refine z_e 9 rfl (by kernel_rfl) (a_store 0 (c_Snap { { x0 with Man := y0 } with Locs := y1 }) hk2 rfl rfl rfl rfl sz58 rfl rfl fun hk4 => ⟨⟨fun e => absurd e (by decide), trivial⟩, ?_⟩)
 refine z_nil (by kernel_rfl) (qk (f := .c 29 _ (.c 28 _ (.c 27 _ (.c 26 _ (.c 25 _ (.c 24 _ (.c 23 _ (.c 22 _ _)))))))) hk4 rfl ?_)
 refine v0 (vl 0 (.agg (c_Snap { { x0 with Man := y0 } with Locs := y1 })) ld60 rfl rfl rfl (vn (fun _ => o_lit (List.map c_Snap ([{ { x0 with Man := y0 } with Locs := y1 }] : List TSnap)) et22 rfl rfl rfl rfl) ?_))
 obtain ⟨z0, hz0, hm⟩ := Zc hm
 refine ve fun hk => a_appA (c := c_Snap) 1 hz0 et22 rfl zr60 rfl cz_Snap rfl rfl ok0 hk rfl fun ag1 ok1 hk5 => qk hk5 rfl ?_
 refine v0 ?_
 exact vgo hm ag1 ok1 (lxs [1, 2, 3] rfl rfl (.k4 .nil))
 refine v0 ?_
 exact vbk hm ag0 ok0 (lx (.k4 .nil))
 rintro ag2 ⟨r0, r1⟩ ot0 hm
 refine vs (v0 (vs (vs (v0 (vle (lno (.obj 65 (fl c_Exp ([] : List TExp) g0.sp)) 6 (aw g0.t g0.n g0.cap) (ALe_nilA _)) ?_)))))
 refine vlp hm (σ := (List TExp) × Int) (τ := AGh) (fun g s => [(g.t, .obj 65 (fl c_Exp (s.1 : List TExp) g.sp)), (ag2.t, .obj 60 (fl c_Snap (r0 : List TSnap) ag2.sp)), (some k5, .obj 27 ([.sc (.int .i64 0), .sc (.slice none 0 0), .sc (.slice none 0 0), .sc (.slice none 0 0), .sc (.slice none 0 0)])), (some k2, .obj 27 (c_Catalog p0))]) (fun g s => AOk g 3 (s.1 : List TExp).length) (fun g s => .c 1 (.ptr k2 0) (.c 2 (.ptr k5 0) (.c 3 (aw ag2.t ag2.n ag2.cap) (.c 6 (aw g.t g.n g.cap) (.c 7 (.sc (.int .i64 s.2)) .nil))))) g0 (AOk.g0 3) (lx (.k5 .nil)) ?_ ?_
 rintro ag3 ⟨q2, q3⟩ x ok2 hm
 replace hm : M14d_L2 fuel p0 q2 q3 = some x := hm
 unfold M14d_L2 at hm
 refine vs (vs (v0 (vn (fun _ => Zh fd27_3 rfl rfl) (vl 3 _ ld24 rfl rfl rfl (vln ln24 rfl (v0 ?_))))))
 refine vi hm (fun hc1 hm => ?_) fun hc1 hm => ?_
 refine v0 (vs (v0 (vs (v0 (vn (fun _ => Zh fd27_3 rfl rfl) (vl 3 _ ld24 rfl rfl rfl ?_))))))
 refine vx hm el24 rfl rfl fun x1 _ hm => ?_
 refine va (.agg (c_Exp x1)) ld65 rfl rfl ?_
 refine ve fun hk => a_alloc ([.sc (.int .i64 0), .sc (.int .i64 0), .sc (.slice none 0 0)]) hk zr65 rfl rfl fun k235 hk7 => qk hk7 rfl ?_
 refine ve fun hk => a_store 0 (c_Exp x1) hk rfl rfl rfl rfl sz65 rfl rfl fun hk8 => qk hk8 rfl ?_
 refine vs (v0 (vn (fun _ => Zh fd65_2 rfl rfl) (vl 0 _ ld58 rfl rfl rfl ?_)))
 refine vk W53 bd53 hm rfl rfl fun y2 hm => ?_
 refine vn (fun _ => Zh fd65_2 rfl rfl) ?_
 refine ve fun hk => a_store 0 (c_Exp { x1 with Locs := y2 }) hk rfl rfl rfl rfl sz58 rfl rfl fun hk9 => qk hk9 rfl ?_
 refine v0 (vl 0 (.agg (c_Exp { x1 with Locs := y2 })) ld65 rfl rfl rfl (vn (fun _ => o_lit (List.map c_Exp ([{ x1 with Locs := y2 }] : List TExp)) et24 rfl rfl rfl rfl) ?_))
 obtain ⟨z1, hz1, hm⟩ := Zc hm
 refine ve fun hk => a_appA (c := c_Exp) 1 hz1 et24 rfl zr65 rfl cz_Exp rfl rfl ok2 hk rfl fun ag4 ok3 hk10 => qk hk10 rfl ?_
 refine v0 ?_
 exact vgo hm ag4 ok3 (lxs [1, 2, 3, 4] rfl rfl (.k5 .nil))
 refine v0 ?_
 exact vbk hm ag3 ok2 (lx (.k5 .nil))
 rintro ag5 ⟨r2, r3⟩ ot1 hm
 refine vs (v0 (vs (v0 ?_)))
 refine vz [(10, some k2, .obj 27 (c_Catalog p0))] mixed (fun hk => ⟨fun _ => hp_at 3 hk rfl, trivial⟩) fun hk => ?_
 refine z_w 0 rfl (fun S' h' hi hB => o_mv (aw _ _ _) rfl) ?_
 refine z_w 1 rfl (fun S' h' hi hB => Zh fd27_2 rfl rfl) ?_
 refine z_w 2 rfl (fun S' h' hi hB => Zg (.sl none 35 (List.map c_Chunk p0.Chunks)) ld23 rfl (At.s (InvL.get 0 hi rfl (hB 10 (by kernel_rfl)))) rfl) ?_
 refine z_w 4 rfl (fun S' h' hi hB => o_mv (aw _ _ _) rfl) ?_
 refine z_w 5 rfl (fun S' h' hi hB => o_mv (.sc (.slice _ _ _)) rfl) ?_
 refine z_w 6 rfl (fun S' h' hi hB => Zh fd27_4 rfl rfl) ?_
 refine z_w 7 rfl (fun S' h' hi hB => Zg (.sl none 4 (List.map c_Vol p0.Vols)) ld25 rfl (At.s (InvL.get 0 hi rfl (hB 10 (by kernel_rfl)))) rfl) ?_
 refine z_w 9 rfl (fun S' h' hi hB => Zh fd27_1 rfl rfl) ?_
 obtain ⟨_, hy2, hm⟩ := Zc hm
 refine z_e 3 rfl (by kernel_rfl) (a_call (W54a _ hy2) rfl bd54 rfl ?_)
 rintro x h' ⟨ag6, ok4, hk11, rfl, rfl⟩
 rw [hp_cat]
 refine ⟨⟨fun _ => hp_at 4 (HOk.co hk hk11) rfl, trivial⟩, ?_⟩
 obtain ⟨z2, hz2, hm⟩ := Zc hm
 refine z_e 8 rfl (by kernel_rfl) (a_appA0 (c := c_Vol) hz2 et25 rfl zr40 rfl cz_Vol rfl (HOk.co hk hk11) rfl fun ag7 ok5 hk12 => ⟨⟨fun _ => hp_at 5 hk12 rfl, trivial⟩, ?_⟩)
 refine z_e 10 rfl (by kernel_rfl) (a_store 5 ([.sc (.int .i64 p0.Seq), aw ag2.t ag2.n ag2.cap, .sl none 35 (List.map c_Chunk p0.Chunks), .sl none 3 (List.map c_Exp p0.Exps), .sl none 4 (List.map c_Vol p0.Vols)]) hk12 rfl rfl (cellsOf_aw rfl) (all_c (ocell_aw _ _ _) rfl) sz22 rfl rfl fun hk13 => ⟨⟨fun e => absurd e (by decide), trivial⟩, ?_⟩)
 refine z_w 11 rfl (fun S' h' hi hB => Zh fd27_2 rfl rfl) ?_
 refine z_e 12 rfl (by kernel_rfl) (a_store 5 ([.sc (.int .i64 p0.Seq), aw ag2.t ag2.n ag2.cap, aw ag6.t ag6.n ag6.cap, .sl none 3 (List.map c_Exp p0.Exps), .sl none 4 (List.map c_Vol p0.Vols)]) hk13 rfl rfl (cellsOf_aw rfl) (all_c (ocell_aw _ _ _) rfl) sz23 rfl rfl fun hk14 => ⟨⟨fun e => absurd e (by decide), trivial⟩, ?_⟩)
 refine z_w 13 rfl (fun S' h' hi hB => Zh fd27_3 rfl rfl) ?_
 refine z_e 14 rfl (by kernel_rfl) (a_store 5 ([.sc (.int .i64 p0.Seq), aw ag2.t ag2.n ag2.cap, aw ag6.t ag6.n ag6.cap, aw ag5.t ag5.n ag5.cap, .sl none 4 (List.map c_Vol p0.Vols)]) hk14 rfl rfl (cellsOf_aw rfl) (all_c (ocell_aw _ _ _) rfl) sz24 rfl rfl fun hk15 => ⟨⟨fun e => absurd e (by decide), trivial⟩, ?_⟩)
 refine z_w 15 rfl (fun S' h' hi hB => Zh fd27_4 rfl rfl) ?_
 refine z_e 16 rfl (by kernel_rfl) (a_store 5 ([.sc (.int .i64 p0.Seq), aw ag2.t ag2.n ag2.cap, aw ag6.t ag6.n ag6.cap, aw ag5.t ag5.n ag5.cap, aw ag7.t ag7.n ag7.cap]) hk15 rfl rfl (cellsOf_aw rfl) (all_c (ocell_aw _ _ _) rfl) sz25 rfl rfl fun hk16 => ⟨⟨fun e => absurd e (by decide), trivial⟩, ?_⟩)
 refine z_nil (by kernel_rfl) (qk (f := .c 66 _ (.c 65 _ (.c 64 _ (.c 62 _ (.c 57 _ (.c 63 _ (.c 61 _ (.c 60 _ (.c 59 _ (.c 58 _ (.c 56 _ (.c 55 _ (.c 54 _ _))))))))))))) hk16 rfl ?_)
 refine vs (v0 (vl 5 (.agg ([.sc (.int .i64 p0.Seq), aw ag2.t ag2.n ag2.cap, aw ag6.t ag6.n ag6.cap, aw ag5.t ag5.n ag5.cap, aw ag7.t ag7.n ag7.cap])) ld27 rfl rfl rfl ?_))
 refine ve fun hk => a_store 4 ([.sc (.int .i64 p0.Seq), aw ag2.t ag2.n ag2.cap, aw ag6.t ag6.n ag6.cap, aw ag5.t ag5.n ag5.cap, aw ag7.t ag7.n ag7.cap]) hk rfl rfl rfl (by repeat (first | exact rfl | refine all_c (ocell_ow _ _ _) ?_ | refine all_c (ocell_aw _ _ _) ?_ | refine all_c rfl ?_)) sz27 rfl rfl fun hk17 => qk hk17 rfl ?_
 refine v0 ?_
 cases hm
 exact vr fun hk => Ret.of1 (.inl rfl) (rsC (.agg ([.sc (.int .i64 p0.Seq), aw ag2.t ag2.n ag2.cap, aw ag6.t ag6.n ag6.cap, aw ag5.t ag5.n ag5.cap, aw ag7.t ag7.n ag7.cap])) ld27 rfl (Zd 4 hk rfl) rfl) (hp_pick hk [3, 1, 2, 0] rfl).2 (ALe.refl _ _) ⟨ag2, ot0, ag6, ok4, ag5, ot1, ag7, ok5, (hp_pick hk [3, 1, 2, 0] rfl).1, rfl, rfl⟩
def M148 (fuel : Nat) (p0 : TLoc) (p1 : TLoc) : Option (Bool) :=
 if (p0.Vol != p1.Vol) = true then (some (decide (p0.Vol < p1.Vol))) else if (p0.File != p1.File) = true then (some (decide (p0.File < p1.File))) else if (p0.Off != p1.Off) = true then (some (decide (p0.Off < p1.Off))) else some (decide (p0.Len < p1.Len))
set_option maxHeartbeats 4000000 in
set_option maxRecDepth 100000 in
theorem W148 {fuel : Nat} {p0 : TLoc} {p1 : TLoc} {o : Bool} (h : Heap) (hm : M148 fuel p0 p1 = some o) :
 ACalls Try.prog 148 [.agg (c_Loc p0), .agg (c_Loc p1)] h (fun r h' => r = .sc (.bool o) ∧ h' = h) := by
 refine ACv 40 [.tmp 4] Try.func148 rfl rfl rfl rfl ?_
 unfold M148 at hm
 refine v ?_
 refine ve fun hk => a_box hk rfl rfl fun k2 hk3 => qk hk3 rfl ?_
 refine ve fun hk => a_box hk rfl rfl fun k5 hk6 => qk hk6 rfl ?_
 refine v (vl 1 _ ld3 rfl rfl rfl (vl 0 _ ld3 rfl rfl rfl (v ?_)))
 refine vi hm (fun hc0 hm => ?_) fun hc0 hm => ?_
 refine v (vl 1 _ ld3 rfl rfl rfl (vl 0 _ ld3 rfl rfl rfl (v ?_)))
 cases hm
 exact vr1 rfl
 refine v (v (vl 1 _ ld3 rfl rfl rfl (vl 0 _ ld3 rfl rfl rfl (v ?_))))
 refine vi hm (fun hc1 hm => ?_) fun hc1 hm => ?_
 refine v (vl 1 _ ld3 rfl rfl rfl (vl 0 _ ld3 rfl rfl rfl (v ?_)))
 cases hm
 exact vr1 rfl
 refine v (v (vl 1 _ ld3 rfl rfl rfl (vl 0 _ ld3 rfl rfl rfl (v ?_))))
 refine vi hm (fun hc2 hm => ?_) fun hc2 hm => ?_
 refine v (vl 1 _ ld3 rfl rfl rfl (vl 0 _ ld3 rfl rfl rfl (v ?_)))
 cases hm
 exact vr1 rfl
 refine v (v (vl 1 _ ld3 rfl rfl rfl (vl 0 _ ld3 rfl rfl rfl (v ?_))))
 cases hm
 exact vr1 rfl
theorem bd148 : bodied Try.prog 148 = true := by kernel_rfl
def M146_L0 (fuel : Nat) (p0 : List TLoc) (p1 : TLoc) (q0 : Int) : Option (Lp (Int) ((List TLoc))) :=
 after (if (decide (q0 < (p0.length : Int))) = true then ((ix p0 q0).bind fun x0 => (M148 fuel x0 p1).bind fun y0 => some (.brk y0)) else some (.brk false) : Option (Lp (Bool) (Lp (Int) ((List TLoc))))) fun j0 => if j0 = true then (some (.go (IntKind.wrap .i64 (q0 + 1)))) else some (.brk q0)
def M146 (fuel : Nat) (p0 : List TLoc) (p1 : TLoc) : Option ((List TLoc)) :=
 after (loopM (fun s => M146_L0 fuel p0 p1 s) fuel 0) fun r0 => (slc p0 0 r0).bind fun x0 => (app ([] : List TLoc) x0).bind fun z0 => (app z0 ([p1] : List TLoc)).bind fun z1 => (slc p0 r0 (p0).length).bind fun x1 => (app z1 x1).bind fun z2 => some z2
set_option maxHeartbeats 4000000 in
set_option maxRecDepth 100000 in
theorem W146 {fuel : Nat} {p0 : List TLoc} {p1 : TLoc} {o : (List TLoc)} (h : Heap) (hm : M146 fuel p0 p1 = some o) :
 ACalls Try.prog 146 [.sl none 4 (List.map c_Loc p0), .agg (c_Loc p1)] h (fun r h' => r = .sl none 4 (List.map c_Loc o) ∧ h' = h) := by
 refine ACv 34 [.tmp 4] Try.func146 rfl rfl rfl rfl ?_
 unfold M146 at hm
 refine v ?_
 refine ve fun hk => a_box hk rfl rfl fun k2 hk3 => qk hk3 rfl ?_
 refine v (vs ?_)
 refine vlpH hm (σ := Int) (τ := Unit) (fun g s => [(some k2, .obj 77 (c_Loc p1))]) (fun g s => .c 0 (.sl none 4 (List.map c_Loc p0)) (.c 3 (.ptr k2 0) (.c 5 (.sc (.int .i64 s)) .nil))) () (lx (.k3 .nil)) ?_ ?_
 rintro _ q0 x hm
 replace hm : M146_L0 fuel p0 p1 q0 = some x := hm
 unfold M146_L0 at hm
 refine vs (vs ?_)
 refine vjnH hm (σ := Bool) (τ := Unit) (fun g s => [(some k2, .obj 77 (c_Loc p1))]) (fun g s => .c 0 (.sl none 4 (List.map c_Loc p0)) (.c 3 (.ptr k2 0) (.c 5 (.sc (.int .i64 q0)) (.c 18 (.sc (.bool s)) .nil)))) (fun x hm => ?_) ?_
 refine v (vq (by kernel_rfl) (vln ln58 rfl ?_))
 refine vi hm (fun hb0 hm => ?_) fun hb0 hm => ?_
 rw [hb0]
 refine vx hm el58 rfl rfl fun x0 _ hm => ?_
 refine va (.agg (c_Loc x0)) ld77 rfl rfl (vl 0 (.agg (c_Loc p1)) ld77 rfl rfl rfl ?_)
 refine vk W148 bd148 hm rfl rfl fun _ hm => ?_
 exact vgo hm () trivial (lx (.k4 .nil))
 rw [hb0]
 exact vgo hm () trivial (lx (.k4 .nil))
 rintro _ j0 hm
 refine v ?_
 refine vi hm (fun hc0 hm => ?_) fun hc0 hm => ?_
 refine v (v (v ?_))
 exact vgo hm () trivial (lx (.k3 .nil))
 refine v ?_
 exact vbk hm () trivial (lx (.k3 .nil))
 rintro _ r0 hm
 refine v (v ?_)
 refine vz [(1000000, some k2, .obj 77 (c_Loc p1))] mixed (fun hk => ⟨fun _ => hp_at 0 hk rfl, trivial⟩) fun hk => ?_
 refine z_w 0 rfl (fun S' h' hi hB => o_mv (.sc (.slice _ _ _)) rfl) ?_
 refine z_w 1 rfl (fun S' h' hi hB => o_mv (.sl _ _ _) rfl) ?_
 refine z_w 2 rfl (fun S' h' hi hB => o_mv (.sc (.int _ _)) rfl) ?_
 obtain ⟨_, hx0, hm⟩ := Zc hm
 refine z_w 3 rfl (fun S' h' hi hB => o_slc hx0 el58 rfl rfl rfl rfl) ?_
 refine z_w 5 rfl (fun S' h' hi hB => Zg (.agg (c_Loc p1)) ld77 rfl (At.s (InvL.get 0 hi rfl (hB 1000000 (by kernel_rfl)))) rfl) ?_
 refine z_w 6 rfl (fun S' h' hi hB => o_lit (List.map c_Loc ([p1] : List TLoc)) et58 rfl rfl rfl rfl) ?_
 obtain ⟨z0, hz0, hm⟩ := Zc hm
 refine z_e 4 rfl (by kernel_rfl) (a_app0 (c := c_Loc) hz0 et58 rfl rfl hk nofun rfl fun tg0 ot0 hk0 => ⟨⟨fun _ => hp_at 1 hk0 rfl, trivial⟩, ?_⟩)
 obtain ⟨z1, hz1, hm⟩ := Zc hm
 refine z_e 7 rfl (by kernel_rfl) (a_app (c := c_Loc) 0 hz1 et58 rfl rfl rfl ot0 hk0 rfl fun tg1 ot1 hk1 => ⟨⟨fun _ => hp_at 1 hk1 rfl, trivial⟩, ?_⟩)
 refine z_w 8 rfl (fun S' h' hi hB => o_as (ow _ _ _) rfl) ?_
 refine z_nil (by kernel_rfl) (qk (f := .c 6 _ (.c 28 _ (.c 25 _ (.c 27 _ (.c 26 _ (.c 24 _ (.c 23 _ (.c 22 _ (.c 21 _ _))))))))) hk1 rfl ?_)
 refine v ?_
 obtain ⟨_, hx1, hm⟩ := Zc hm
 refine vn (fun _ => o_slc hx1 el58 rfl rfl rfl rfl) ?_
 obtain ⟨z2, hz2, hm⟩ := Zc hm
 refine ve fun hk => a_app (c := c_Loc) 0 hz2 et58 rfl rfl rfl ot1 hk rfl fun tg2 ot2 hk2 => qk hk2 rfl ?_
 refine v ?_
 injection hm with hm; subst hm
 exact vr fun hk => Ret.of1 (.inl rfl) (rsT _ _ (ow _ _ _) rfl) (hp_sub (List.nil_sublist _) hk).1 ((own_frz0 _ 0 ot2 hk rfl)) ⟨rfl, rfl⟩
theorem bd146 : bodied Try.prog 146 = true := by kernel_rfl
def M139_L0 (fuel : Nat) (p0 : List TLoc) (p1 : Int) (q0 : List TLoc) (q1 : Int) : Option (Lp ((List TLoc) × Int) ((List TLoc))) :=
 if (decide (q1 < (p0.length : Int))) = true then ((ix p0 q1).bind fun x0 => after (if (x0.Vol != p1) = true then ((ix p0 q1).bind fun x1 => (app q0 ([x1] : List TLoc)).bind fun z0 => some (.brk z0)) else some (.brk q0) : Option (Lp ((List TLoc)) (Lp ((List TLoc) × Int) ((List TLoc))))) fun j0 => some (.go (j0, IntKind.wrap .i64 (q1 + 1)))) else some (.brk (q0, q1))
def M139 (fuel : Nat) (p0 : List TLoc) (p1 : Int) : Option ((List TLoc)) :=
 after (loopM (fun s => M139_L0 fuel p0 p1 s.1 s.2) fuel ([], 0)) fun ⟨r0, r1⟩ => some r0
set_option maxHeartbeats 4000000 in
set_option maxRecDepth 100000 in
theorem W139 {fuel : Nat} {p0 : List TLoc} {p1 : Int} {o : (List TLoc)} (h : Heap) (hm : M139 fuel p0 p1 = some o) :
 ACalls Try.prog 139 [.sl none 4 (List.map c_Loc p0), .sc (.int .i64 p1)] h (fun r h' => r = .sl none 4 (List.map c_Loc o) ∧ h' = h) := by
 refine ACv 28 [.tmp 4] Try.func139 rfl rfl rfl rfl ?_
 unfold M139 at hm
 refine v (v (v (vle (lno (.tok 77 4 (([] : List TLoc).length * 4)) 5 (ow none 4 (List.map c_Loc [])) (ow_nil _ _)) ?_)))
 refine vlp hm (σ := (List TLoc) × Int) (τ := Option Key) (fun g s => [(g, .tok 77 4 ((s.1 : List TLoc).length * 4))]) (fun g s => (g = none → s.1 = [])) (fun g s => .c 0 (.sl none 4 (List.map c_Loc p0)) (.c 1 (.sc (.int .i64 p1)) (.c 5 (ow g 4 (List.map c_Loc s.1)) (.c 6 (.sc (.int .i64 s.2)) .nil)))) none (fun _ => rfl) (lx (.k4 .nil)) ?_ ?_
 rintro tg0 ⟨q0, q1⟩ x ot0 hm
 replace hm : M139_L0 fuel p0 p1 q0 q1 = some x := hm
 unfold M139_L0 at hm
 refine v (vln ln58 rfl (v ?_))
 refine vi hm (fun hc0 hm => ?_) fun hc0 hm => ?_
 refine v (v (v ?_))
 refine vx hm el58 rfl rfl fun _ _ hm => ?_
 refine vjn hm (σ := (List TLoc)) (τ := Option Key) (fun g s => [(g, .tok 77 4 ((s : List TLoc).length * 4))]) (fun g s => (g = none → s = [])) (fun g s => .c 0 (.sl none 4 (List.map c_Loc p0)) (.c 1 (.sc (.int .i64 p1)) (.c 5 (ow g 4 (List.map c_Loc s)) (.c 6 (.sc (.int .i64 q1)) .nil)))) (fun x hm => ?_) ?_
 refine v ?_
 refine vi hm (fun hc1 hm => ?_) fun hc1 hm => ?_
 refine v ?_
 refine vx hm el58 rfl rfl fun x0 _ hm => ?_
 refine va (.agg (c_Loc x0)) ld77 rfl rfl (vn (fun _ => o_lit (List.map c_Loc ([x0] : List TLoc)) et58 rfl rfl rfl rfl) ?_)
 obtain ⟨z0, hz0, hm⟩ := Zc hm
 refine ve fun hk => a_app (c := c_Loc) 0 hz0 et58 rfl rfl rfl ot0 hk rfl fun tg1 ot1 hk0 => qk hk0 rfl ?_
 exact vgo hm tg1 ot1 (lx (.k4 .nil))
 refine v ?_
 exact vgo hm tg0 ot0 (lx (.k4 .nil))
 rintro tg2 j0 ot2 hm
 refine v ?_
 exact vgo hm tg2 ot2 (lx (.k4 .nil))
 refine v ?_
 exact vbk hm tg0 ot0 (lx (.k4 .nil))
 rintro tg3 ⟨r0, r1⟩ ot3 hm
 refine v (v ?_)
 injection hm with hm; subst hm
 exact vr fun hk => Ret.of1 (.inl rfl) (rsT _ _ (ow _ _ _) rfl) (hp_sub (List.nil_sublist _) hk).1 ((own_frz0 _ 0 ot3 hk rfl)) ⟨rfl, rfl⟩
theorem bd139 : bodied Try.prog 139 = true := by kernel_rfl
def M110 (fuel : Nat) (p0 : TChange) : Option (TChange) :=
 (M52 fuel p0.Snap.Man).bind fun y0 => (M53 fuel p0.Snap.Locs).bind fun y1 => (M54 fuel ({ { p0 with Snap := { p0.Snap with Man := y0 } } with Snap := { { p0 with Snap := { p0.Snap with Man := y0 } }.Snap with Locs := y1 } }.Chunks)).bind fun y2 => (app ([] : List TItem) ({ { p0 with Snap := { p0.Snap with Man := y0 } } with Snap := { { p0 with Snap := { p0.Snap with Man := y0 } }.Snap with Locs := y1 } }.Items)).bind fun z0 => some ({ Kind := { { { p0 with Snap := { p0.Snap with Man := y0 } } with Snap := { { p0 with Snap := { p0.Snap with Man := y0 } }.Snap with Locs := y1 } } with Chunks := y2 }.Kind, Snap := ({ Seq := ({ { { p0 with Snap := { p0.Snap with Man := y0 } } with Snap := { { p0 with Snap := { p0.Snap with Man := y0 } }.Snap with Locs := y1 } } with Chunks := y2 }.Snap).Seq, Man := ({ Name := (({ { { p0 with Snap := { p0.Snap with Man := y0 } } with Snap := { { p0 with Snap := { p0.Snap with Man := y0 } }.Snap with Locs := y1 } } with Chunks := y2 }.Snap).Man).Name, Parts := (({ { { p0 with Snap := { p0.Snap with Man := y0 } } with Snap := { { p0 with Snap := { p0.Snap with Man := y0 } }.Snap with Locs := y1 } } with Chunks := y2 }.Snap).Man).Parts } : TManifest), Locs := ({ { { p0 with Snap := { p0.Snap with Man := y0 } } with Snap := { { p0 with Snap := { p0.Snap with Man := y0 } }.Snap with Locs := y1 } } with Chunks := y2 }.Snap).Locs } : TSnap), Chunks := { { { p0 with Snap := { p0.Snap with Man := y0 } } with Snap := { { p0 with Snap := { p0.Snap with Man := y0 } }.Snap with Locs := y1 } } with Chunks := y2 }.Chunks, Seq := { { { p0 with Snap := { p0.Snap with Man := y0 } } with Snap := { { p0 with Snap := { p0.Snap with Man := y0 } }.Snap with Locs := y1 } } with Chunks := y2 }.Seq, Vol := { { { p0 with Snap := { p0.Snap with Man := y0 } } with Snap := { { p0 with Snap := { p0.Snap with Man := y0 } }.Snap with Locs := y1 } } with Chunks := y2 }.Vol, Items := z0 } : TChange)
set_option maxHeartbeats 4000000 in
set_option maxRecDepth 100000 in
theorem W110 {fuel : Nat} {p0 : TChange} {o : TChange} (h : Heap) (hm : M110 fuel p0 = some o) :
 ACalls Try.prog 110 [.agg (c_Change p0)] h (fun r h' => r = .agg (c_Change o) ∧ h' = h) := by
 refine ACv 26 [.cell 2 107] Try.func110 rfl rfl rfl rfl ?_
 unfold M110 at hm
 refine v ?_
 refine ve fun hk => a_box hk rfl rfl fun k2 hk3 => qk hk3 rfl ?_
 refine ve fun hk => a_alloc ([.sc (.int .i64 0), .sc (.int .i64 0), .sc (.string ByteArray.empty), .sc (.slice none 0 0), .sc (.slice none 0 0), .sc (.slice none 0 0), .sc (.int .i64 0), .sc (.int .i64 0), .sc (.slice none 0 0)]) hk zr107 rfl rfl fun k5 hk6 => qk hk6 rfl ?_
 refine v ?_
 refine vz [(10, some k2, .obj 107 (c_Change p0))] mixed (fun hk => ⟨fun _ => hp_at 1 hk rfl, trivial⟩) fun hk => ?_
 refine z_w 0 rfl (fun S' h' hi hB => Zh fd107_1 rfl rfl) ?_
 refine z_w 1 rfl (fun S' h' hi hB => Zh fd60_1 rfl rfl) ?_
 refine z_w 2 rfl (fun S' h' hi hB => Zg (.agg (c_Manifest p0.Snap.Man)) ld57 rfl (At.s (InvL.get 0 hi rfl (hB 10 (by kernel_rfl)))) rfl) ?_
 obtain ⟨y0, hy0, hm⟩ := Zc hm
 refine z_w 3 rfl (fun S' h' hi hB => o_call (W52 _ hy0) rfl bd52 rfl) ?_
 refine z_w 4 rfl (fun S' h' hi hB => Zh fd107_1 rfl rfl) ?_
 refine z_w 5 rfl (fun S' h' hi hB => Zh fd60_2 rfl rfl) ?_
 refine z_w 6 rfl (fun S' h' hi hB => Zg (.sl none 4 (List.map c_Loc p0.Snap.Locs)) ld58 rfl (At.s (InvL.get 0 hi rfl (hB 10 (by kernel_rfl)))) rfl) ?_
 obtain ⟨y1, hy1, hm⟩ := Zc hm
 refine z_w 7 rfl (fun S' h' hi hB => o_call (W53 _ hy1) rfl bd53 rfl) ?_
 refine z_w 8 rfl (fun S' h' hi hB => Zh fd107_1 rfl rfl) ?_
 refine z_w 9 rfl (fun S' h' hi hB => Zh fd60_1 rfl rfl) ?_
 refine z_e 10 rfl (by kernel_rfl) (a_store 1 (c_Change { p0 with Snap := { p0.Snap with Man := y0 } }) hk rfl rfl rfl rfl sz57 rfl rfl fun hk0 => ⟨⟨fun e => absurd e (by decide), trivial⟩, ?_⟩)
 refine z_w 11 rfl (fun S' h' hi hB => Zh fd107_1 rfl rfl) ?_
 refine z_w 12 rfl (fun S' h' hi hB => Zh fd60_2 rfl rfl) ?_
 refine z_e 13 rfl (by kernel_rfl) (a_store 1 (c_Change { { p0 with Snap := { p0.Snap with Man := y0 } } with Snap := { { p0 with Snap := { p0.Snap with Man := y0 } }.Snap with Locs := y1 } }) hk0 rfl rfl rfl rfl sz58 rfl rfl fun hk1 => ⟨⟨fun e => absurd e (by decide), trivial⟩, ?_⟩)
 refine z_nil (by kernel_rfl) (qk (f := .c 15 _ (.c 14 _ (.c 13 _ (.c 12 _ (.c 11 _ (.c 10 _ (.c 9 _ (.c 8 _ (.c 7 _ (.c 6 _ (.c 5 _ (.c 4 _ _)))))))))))) hk1 rfl ?_)
 refine v (v ?_)
 refine vz [(8, some k2, .obj 107 (c_Change { { p0 with Snap := { p0.Snap with Man := y0 } } with Snap := { { p0 with Snap := { p0.Snap with Man := y0 } }.Snap with Locs := y1 } }))] mixed (fun hk => ⟨fun _ => hp_at 1 hk rfl, trivial⟩) fun hk => ?_
 refine z_w 0 rfl (fun S' h' hi hB => Zh fd107_2 rfl rfl) ?_
 refine z_w 1 rfl (fun S' h' hi hB => Zg (.sl none 35 (List.map c_Chunk ({ { p0 with Snap := { p0.Snap with Man := y0 } } with Snap := { { p0 with Snap := { p0.Snap with Man := y0 } }.Snap with Locs := y1 } }.Chunks))) ld23 rfl (At.s (InvL.get 0 hi rfl (hB 8 (by kernel_rfl)))) rfl) ?_
 obtain ⟨y2, hy2, hm⟩ := Zc hm
 refine z_w 2 rfl (fun S' h' hi hB => o_call (W54 _ hy2) rfl bd54 rfl) ?_
 refine z_w 3 rfl (fun S' h' hi hB => o_mv (.sc (.slice _ _ _)) rfl) ?_
 refine z_w 4 rfl (fun S' h' hi hB => Zh fd107_5 rfl rfl) ?_
 refine z_w 5 rfl (fun S' h' hi hB => Zg (.sl none 37 (List.map c_Item ({ { p0 with Snap := { p0.Snap with Man := y0 } } with Snap := { { p0 with Snap := { p0.Snap with Man := y0 } }.Snap with Locs := y1 } }.Items))) ld70 rfl (At.s (InvL.get 0 hi rfl (hB 8 (by kernel_rfl)))) rfl) ?_
 refine z_w 7 rfl (fun S' h' hi hB => Zh fd107_2 rfl rfl) ?_
 obtain ⟨z0, hz0, hm⟩ := Zc hm
 refine z_e 6 rfl (by kernel_rfl) (a_app0 (c := c_Item) hz0 et70 rfl rfl hk nofun rfl fun tg0 ot0 hk2 => ⟨⟨fun _ => hp_at 2 hk2 rfl, trivial⟩, ?_⟩)
 refine z_e 8 rfl (by kernel_rfl) (a_store 2 (c_Change { { { p0 with Snap := { p0.Snap with Man := y0 } } with Snap := { { p0 with Snap := { p0.Snap with Man := y0 } }.Snap with Locs := y1 } } with Chunks := y2 }) hk2 rfl rfl rfl rfl sz23 rfl rfl fun hk4 => ⟨⟨fun e => absurd e (by decide), trivial⟩, ?_⟩)
 refine z_w 9 rfl (fun S' h' hi hB => Zh fd107_5 rfl rfl) ?_
 refine z_e 10 rfl (by kernel_rfl) (a_store 2 ([.sc (.int .i64 ({ { { p0 with Snap := { p0.Snap with Man := y0 } } with Snap := { { p0 with Snap := { p0.Snap with Man := y0 } }.Snap with Locs := y1 } } with Chunks := y2 }.Kind)), .sc (.int .i64 (({ { { p0 with Snap := { p0.Snap with Man := y0 } } with Snap := { { p0 with Snap := { p0.Snap with Man := y0 } }.Snap with Locs := y1 } } with Chunks := y2 }.Snap).Seq)), .sc (.string ((({ { { p0 with Snap := { p0.Snap with Man := y0 } } with Snap := { { p0 with Snap := { p0.Snap with Man := y0 } }.Snap with Locs := y1 } } with Chunks := y2 }.Snap).Man).Name)), .sl none 3 (List.map c_Part ((({ { { p0 with Snap := { p0.Snap with Man := y0 } } with Snap := { { p0 with Snap := { p0.Snap with Man := y0 } }.Snap with Locs := y1 } } with Chunks := y2 }.Snap).Man).Parts)), .sl none 4 (List.map c_Loc (({ { { p0 with Snap := { p0.Snap with Man := y0 } } with Snap := { { p0 with Snap := { p0.Snap with Man := y0 } }.Snap with Locs := y1 } } with Chunks := y2 }.Snap).Locs)), .sl none 35 (List.map c_Chunk ({ { { p0 with Snap := { p0.Snap with Man := y0 } } with Snap := { { p0 with Snap := { p0.Snap with Man := y0 } }.Snap with Locs := y1 } } with Chunks := y2 }.Chunks)), .sc (.int .i64 ({ { { p0 with Snap := { p0.Snap with Man := y0 } } with Snap := { { p0 with Snap := { p0.Snap with Man := y0 } }.Snap with Locs := y1 } } with Chunks := y2 }.Seq)), .sc (.int .i64 ({ { { p0 with Snap := { p0.Snap with Man := y0 } } with Snap := { { p0 with Snap := { p0.Snap with Man := y0 } }.Snap with Locs := y1 } } with Chunks := y2 }.Vol)), ow tg0 37 (List.map c_Item z0)]) hk4 rfl rfl (cellsOf_ow rfl) (all_ow _ _ _) sz70 rfl rfl fun hk5 => ⟨⟨fun e => absurd e (by decide), trivial⟩, ?_⟩)
 refine z_nil (by kernel_rfl) (qk (f := .c 24 _ (.c 22 _ (.c 23 _ (.c 21 _ (.c 20 _ (.c 19 _ (.c 18 _ (.c 17 _ (.c 16 _ _))))))))) hk5 rfl ?_)
 refine v (vl 2 (.agg ([.sc (.int .i64 ({ { { p0 with Snap := { p0.Snap with Man := y0 } } with Snap := { { p0 with Snap := { p0.Snap with Man := y0 } }.Snap with Locs := y1 } } with Chunks := y2 }.Kind)), .sc (.int .i64 (({ { { p0 with Snap := { p0.Snap with Man := y0 } } with Snap := { { p0 with Snap := { p0.Snap with Man := y0 } }.Snap with Locs := y1 } } with Chunks := y2 }.Snap).Seq)), .sc (.string ((({ { { p0 with Snap := { p0.Snap with Man := y0 } } with Snap := { { p0 with Snap := { p0.Snap with Man := y0 } }.Snap with Locs := y1 } } with Chunks := y2 }.Snap).Man).Name)), .sl none 3 (List.map c_Part ((({ { { p0 with Snap := { p0.Snap with Man := y0 } } with Snap := { { p0 with Snap := { p0.Snap with Man := y0 } }.Snap with Locs := y1 } } with Chunks := y2 }.Snap).Man).Parts)), .sl none 4 (List.map c_Loc (({ { { p0 with Snap := { p0.Snap with Man := y0 } } with Snap := { { p0 with Snap := { p0.Snap with Man := y0 } }.Snap with Locs := y1 } } with Chunks := y2 }.Snap).Locs)), .sl none 35 (List.map c_Chunk ({ { { p0 with Snap := { p0.Snap with Man := y0 } } with Snap := { { p0 with Snap := { p0.Snap with Man := y0 } }.Snap with Locs := y1 } } with Chunks := y2 }.Chunks)), .sc (.int .i64 ({ { { p0 with Snap := { p0.Snap with Man := y0 } } with Snap := { { p0 with Snap := { p0.Snap with Man := y0 } }.Snap with Locs := y1 } } with Chunks := y2 }.Seq)), .sc (.int .i64 ({ { { p0 with Snap := { p0.Snap with Man := y0 } } with Snap := { { p0 with Snap := { p0.Snap with Man := y0 } }.Snap with Locs := y1 } } with Chunks := y2 }.Vol)), ow tg0 37 (List.map c_Item z0)])) ld107 rfl rfl rfl ?_)
 refine ve fun hk => a_store 1 ([.sc (.int .i64 ({ { { p0 with Snap := { p0.Snap with Man := y0 } } with Snap := { { p0 with Snap := { p0.Snap with Man := y0 } }.Snap with Locs := y1 } } with Chunks := y2 }.Kind)), .sc (.int .i64 (({ { { p0 with Snap := { p0.Snap with Man := y0 } } with Snap := { { p0 with Snap := { p0.Snap with Man := y0 } }.Snap with Locs := y1 } } with Chunks := y2 }.Snap).Seq)), .sc (.string ((({ { { p0 with Snap := { p0.Snap with Man := y0 } } with Snap := { { p0 with Snap := { p0.Snap with Man := y0 } }.Snap with Locs := y1 } } with Chunks := y2 }.Snap).Man).Name)), .sl none 3 (List.map c_Part ((({ { { p0 with Snap := { p0.Snap with Man := y0 } } with Snap := { { p0 with Snap := { p0.Snap with Man := y0 } }.Snap with Locs := y1 } } with Chunks := y2 }.Snap).Man).Parts)), .sl none 4 (List.map c_Loc (({ { { p0 with Snap := { p0.Snap with Man := y0 } } with Snap := { { p0 with Snap := { p0.Snap with Man := y0 } }.Snap with Locs := y1 } } with Chunks := y2 }.Snap).Locs)), .sl none 35 (List.map c_Chunk ({ { { p0 with Snap := { p0.Snap with Man := y0 } } with Snap := { { p0 with Snap := { p0.Snap with Man := y0 } }.Snap with Locs := y1 } } with Chunks := y2 }.Chunks)), .sc (.int .i64 ({ { { p0 with Snap := { p0.Snap with Man := y0 } } with Snap := { { p0 with Snap := { p0.Snap with Man := y0 } }.Snap with Locs := y1 } } with Chunks := y2 }.Seq)), .sc (.int .i64 ({ { { p0 with Snap := { p0.Snap with Man := y0 } } with Snap := { { p0 with Snap := { p0.Snap with Man := y0 } }.Snap with Locs := y1 } } with Chunks := y2 }.Vol)), ow tg0 37 (List.map c_Item z0)]) hk rfl rfl rfl (by repeat (first | exact rfl | refine all_c (ocell_ow _ _ _) ?_ | refine all_c (ocell_aw _ _ _) ?_ | refine all_c rfl ?_)) sz107 rfl rfl fun hk7 => qk hk7 rfl ?_
 refine v ?_
 cases hm
 exact vr fun hk => Ret.of1 (.inl rfl) (rsC (.agg ([.sc (.int .i64 ({ { { p0 with Snap := { p0.Snap with Man := y0 } } with Snap := { { p0 with Snap := { p0.Snap with Man := y0 } }.Snap with Locs := y1 } } with Chunks := y2 }.Kind)), .sc (.int .i64 (({ { { p0 with Snap := { p0.Snap with Man := y0 } } with Snap := { { p0 with Snap := { p0.Snap with Man := y0 } }.Snap with Locs := y1 } } with Chunks := y2 }.Snap).Seq)), .sc (.string ((({ { { p0 with Snap := { p0.Snap with Man := y0 } } with Snap := { { p0 with Snap := { p0.Snap with Man := y0 } }.Snap with Locs := y1 } } with Chunks := y2 }.Snap).Man).Name)), .sl none 3 (List.map c_Part ((({ { { p0 with Snap := { p0.Snap with Man := y0 } } with Snap := { { p0 with Snap := { p0.Snap with Man := y0 } }.Snap with Locs := y1 } } with Chunks := y2 }.Snap).Man).Parts)), .sl none 4 (List.map c_Loc (({ { { p0 with Snap := { p0.Snap with Man := y0 } } with Snap := { { p0 with Snap := { p0.Snap with Man := y0 } }.Snap with Locs := y1 } } with Chunks := y2 }.Snap).Locs)), .sl none 35 (List.map c_Chunk ({ { { p0 with Snap := { p0.Snap with Man := y0 } } with Snap := { { p0 with Snap := { p0.Snap with Man := y0 } }.Snap with Locs := y1 } } with Chunks := y2 }.Chunks)), .sc (.int .i64 ({ { { p0 with Snap := { p0.Snap with Man := y0 } } with Snap := { { p0 with Snap := { p0.Snap with Man := y0 } }.Snap with Locs := y1 } } with Chunks := y2 }.Seq)), .sc (.int .i64 ({ { { p0 with Snap := { p0.Snap with Man := y0 } } with Snap := { { p0 with Snap := { p0.Snap with Man := y0 } }.Snap with Locs := y1 } } with Chunks := y2 }.Vol)), ow tg0 37 (List.map c_Item z0)])) ld107 rfl (Zd 1 hk rfl) rfl) (hp_sub (List.nil_sublist _) hk).1 (ALe.agg (.k8 (.cons ((own_frz0 _ 0 ot0 hk rfl)) .nil))) ⟨rfl, rfl⟩
theorem bd110 : bodied Try.prog 110 = true := by kernel_rfl
def M137 (fuel : Nat) (p0 : TCatalog) (p1 : Int) (p2 : Int) (p3 : Int) : Option (Bool) :=
 after (if (decide (0 ≤ p1)) = true then (if (decide (p1 < (p0.Vols.length : Int))) = true then ((ix p0.Vols p1).bind fun x0 => if (x0.State == p2) = true then (some (.brk true)) else (ix p0.Vols p1).bind fun x1 => some (.brk (x1.State == p3))) else some (.brk false)) else some (.brk false) : Option (Lp (Bool) (Bool))) fun j0 => some j0
set_option maxHeartbeats 4000000 in
set_option maxRecDepth 100000 in
theorem W137 {fuel : Nat} {p0 : TCatalog} {p1 : Int} {p2 : Int} {p3 : Int} {o : Bool} (h : Heap) {p0K : Key} {g_Snaps : AGh} (ok_Snaps : AOk g_Snaps 4 p0.Snaps.length) {g_Chunks : AGh} (ok_Chunks : AOk g_Chunks 35 p0.Chunks.length) {g_Exps : AGh} (ok_Exps : AOk g_Exps 3 p0.Exps.length) {g_Vols : AGh} (ok_Vols : AOk g_Vols 4 p0.Vols.length) (hk0 : HOk h [(some p0K, .obj 27 ([.sc (.int .i64 p0.Seq), aw g_Snaps.t g_Snaps.n g_Snaps.cap, aw g_Chunks.t g_Chunks.n g_Chunks.cap, aw g_Exps.t g_Exps.n g_Exps.cap, aw g_Vols.t g_Vols.n g_Vols.cap])), (g_Snaps.t, .obj 60 (fl c_Snap (p0.Snaps : List TSnap) g_Snaps.sp)), (g_Chunks.t, .obj 63 (fl c_Chunk (p0.Chunks : List TChunk) g_Chunks.sp)), (g_Exps.t, .obj 65 (fl c_Exp (p0.Exps : List TExp) g_Exps.sp)), (g_Vols.t, .obj 40 (fl c_Vol (p0.Vols : List TVol) g_Vols.sp))]) (hm : M137 fuel p0 p1 p2 p3 = some o) :
 ACalls Try.prog 137 [.ptr p0K 0, .sc (.int .i64 p1), .sc (.int .i64 p2), .sc (.int .i64 p3)] (hp h [(some p0K, .obj 27 ([.sc (.int .i64 p0.Seq), aw g_Snaps.t g_Snaps.n g_Snaps.cap, aw g_Chunks.t g_Chunks.n g_Chunks.cap, aw g_Exps.t g_Exps.n g_Exps.cap, aw g_Vols.t g_Vols.n g_Vols.cap])), (g_Snaps.t, .obj 60 (fl c_Snap (p0.Snaps : List TSnap) g_Snaps.sp)), (g_Chunks.t, .obj 63 (fl c_Chunk (p0.Chunks : List TChunk) g_Chunks.sp)), (g_Exps.t, .obj 65 (fl c_Exp (p0.Exps : List TExp) g_Exps.sp)), (g_Vols.t, .obj 40 (fl c_Vol (p0.Vols : List TVol) g_Vols.sp))]) (fun r h' => HOk h [(some p0K, .obj 27 ([.sc (.int .i64 p0.Seq), aw g_Snaps.t g_Snaps.n g_Snaps.cap, aw g_Chunks.t g_Chunks.n g_Chunks.cap, aw g_Exps.t g_Exps.n g_Exps.cap, aw g_Vols.t g_Vols.n g_Vols.cap])), (g_Snaps.t, .obj 60 (fl c_Snap (p0.Snaps : List TSnap) g_Snaps.sp)), (g_Chunks.t, .obj 63 (fl c_Chunk (p0.Chunks : List TChunk) g_Chunks.sp)), (g_Exps.t, .obj 65 (fl c_Exp (p0.Exps : List TExp) g_Exps.sp)), (g_Vols.t, .obj 40 (fl c_Vol (p0.Vols : List TVol) g_Vols.sp))] ∧ r = .sc (.bool o) ∧ h' = hp h [(some p0K, .obj 27 ([.sc (.int .i64 p0.Seq), aw g_Snaps.t g_Snaps.n g_Snaps.cap, aw g_Chunks.t g_Chunks.n g_Chunks.cap, aw g_Exps.t g_Exps.n g_Exps.cap, aw g_Vols.t g_Vols.n g_Vols.cap])), (g_Snaps.t, .obj 60 (fl c_Snap (p0.Snaps : List TSnap) g_Snaps.sp)), (g_Chunks.t, .obj 63 (fl c_Chunk (p0.Chunks : List TChunk) g_Chunks.sp)), (g_Exps.t, .obj 65 (fl c_Exp (p0.Exps : List TExp) g_Exps.sp)), (g_Vols.t, .obj 40 (fl c_Vol (p0.Vols : List TVol) g_Vols.sp))]) := by
 refine ACp hk0 44 [.tmp 8] Try.func137 rfl rfl rfl rfl ?_
 unfold M137 at hm
 refine vs (v0 (vs ?_))
 refine vjnH hm (σ := Bool) (τ := Unit) (fun g s => [(some p0K, .obj 27 ([.sc (.int .i64 p0.Seq), aw g_Snaps.t g_Snaps.n g_Snaps.cap, aw g_Chunks.t g_Chunks.n g_Chunks.cap, aw g_Exps.t g_Exps.n g_Exps.cap, aw g_Vols.t g_Vols.n g_Vols.cap])), (g_Snaps.t, .obj 60 (fl c_Snap (p0.Snaps : List TSnap) g_Snaps.sp)), (g_Chunks.t, .obj 63 (fl c_Chunk (p0.Chunks : List TChunk) g_Chunks.sp)), (g_Exps.t, .obj 65 (fl c_Exp (p0.Exps : List TExp) g_Exps.sp)), (g_Vols.t, .obj 40 (fl c_Vol (p0.Vols : List TVol) g_Vols.sp))]) (fun g s => .c 8 (.sc (.bool s)) .nil) (fun x hm => ?_) ?_
 refine v0 ?_
 refine vi hm (fun hb0 hm => ?_) fun hb0 hm => ?_
 rw [hb0]
 refine vn (fun _ => o_nil rfl) (vn (fun _ => Zh fd27_4 rfl rfl) (vl 0 (aw g_Vols.t g_Vols.n g_Vols.cap) ld25 rfl rfl rfl (vn (fun _ => o_lenA ln25 ok_Vols rfl) ?_)))
 refine vi hm (fun hb1 hm => ?_) fun hb1 hm => ?_
 rw [hb1]
 refine vn (fun _ => o_nil rfl) (vn (fun _ => Zh fd27_4 rfl rfl) (vl 0 (aw g_Vols.t g_Vols.n g_Vols.cap) ld25 rfl rfl rfl ?_))
 obtain ⟨x0, hx0, hm⟩ := Zc hm
 refine vn (fun _ => o_ixA hx0 el25 ok_Vols rfl rfl) (vn (fun _ => o_flA (AOk.ne ok_Vols hx0) fd40_2 rfl rfl) (vn (fun hk => o_ldA (fo := 2) (.sc (.int .i64 x0.State)) hx0 cz_Vol ok_Vols ld3 rfl (hp_at 4 hk rfl) (fun _ => rfl)) ?_))
 refine vi hm (fun hb2 hm => ?_) fun hb2 hm => ?_
 rw [hb2]
 exact vgo hm () trivial (lx (.cons (ALe.refl _ _) .nil))
 rw [hb2]
 refine vn (fun _ => o_nil rfl) (vn (fun _ => Zh fd27_4 rfl rfl) (vl 0 (aw g_Vols.t g_Vols.n g_Vols.cap) ld25 rfl rfl rfl ?_))
 obtain ⟨x1, hx1, hm⟩ := Zc hm
 refine vn (fun _ => o_ixA hx1 el25 ok_Vols rfl rfl) (vn (fun _ => o_flA (AOk.ne ok_Vols hx1) fd40_2 rfl rfl) (vn (fun hk => o_ldA (fo := 2) (.sc (.int .i64 x1.State)) hx1 cz_Vol ok_Vols ld3 rfl (hp_at 4 hk rfl) (fun _ => rfl)) ?_))
 exact vgo hm () trivial (lx (.cons (ALe.refl _ _) .nil))
 rw [hb1]
 exact vgo hm () trivial (lx (.cons (ALe.refl _ _) .nil))
 rw [hb0]
 exact vgo hm () trivial (lx (.cons (ALe.refl _ _) .nil))
 rintro _ j0 hm
 refine v0 ?_
 injection hm with hm; subst hm
 exact vr fun hk => Ret.of1 (.inl rfl) (rsT _ _ (.sc (.bool _)) rfl) (hp_pick hk [0, 1, 2, 3, 4] rfl).2 (ALe.refl _ _) ⟨(hp_pick hk [0, 1, 2, 3, 4] rfl).1, rfl, rfl⟩
theorem bd137 : bodied Try.prog 137 = true := by kernel_rfl
def M135a_L0 (fuel : Nat) (p0 : List TChunk) (p1 : TChunk) (q0 : Int) : Option (Lp (Int) ((List TChunk))) :=
 after (if (decide (q0 < (p0.length : Int))) = true then ((ix p0 q0).bind fun x0 => (M60 fuel x0.Id p1.Id).bind fun y0 => some (.brk y0)) else some (.brk false) : Option (Lp (Bool) (Lp (Int) ((List TChunk))))) fun j0 => if j0 = true then (some (.go (IntKind.wrap .i64 (q0 + 1)))) else some (.brk q0)
def M135a (fuel : Nat) (p0 : List TChunk) (p1 : TChunk) : Option ((List TChunk)) :=
 after (loopM (fun s => M135a_L0 fuel p0 p1 s) fuel 0) fun r0 => after (if (decide (r0 < (p0.length : Int))) = true then ((ix p0 r0).bind fun x0 => some (.brk (decide (x0.Id = p1.Id)))) else some (.brk false) : Option (Lp (Bool) ((List TChunk)))) fun j0 => if j0 = true then ((M54a fuel p0).bind fun y0 => (M100 fuel p1.Data).bind fun y1 => (ix y0 r0).bind fun x1 => (ix (y0.set r0.toNat ({ x1 with Staged := true })) r0).bind fun x2 => some ((y0.set r0.toNat ({ x1 with Staged := true })).set r0.toNat ({ x2 with Data := y1 }))) else (slc p0 0 r0).bind fun x3 => (app ([] : List TChunk) x3).bind fun z0 => (app z0 ([p1] : List TChunk)).bind fun z1 => (slc p0 r0 (p0).length).bind fun x4 => (app z1 x4).bind fun z2 => some z2
set_option maxHeartbeats 4000000 in
set_option maxRecDepth 100000 in
theorem W135a {fuel : Nat} {p0 : List TChunk} {p1 : TChunk} {o : (List TChunk)} (h : Heap) (hm : M135a fuel p0 p1 = some o) :
 ACalls Try.prog 135 [.sl none 35 (List.map c_Chunk p0), .agg (c_Chunk p1)] h (fun r h' => ∃ g : AGh, AOk g 35 o.length ∧ HOk h [(g.t, .obj 63 (fl c_Chunk o g.sp))] ∧ r = aw g.t g.n g.cap ∧ h' = hp h [(g.t, .obj 63 (fl c_Chunk o g.sp))]) := by
 refine ACv 65 [.tmp 4] Try.func135 rfl rfl rfl rfl ?_
 unfold M135a at hm
 refine vs (v0 ?_)
 refine ve fun hk => a_box hk rfl rfl fun k2 hk3 => qk hk3 rfl ?_
 refine vs (v0 (vs ?_))
 refine vlpH hm (σ := Int) (τ := Unit) (fun g s => [(some k2, .obj 63 (c_Chunk p1))]) (fun g s => .c 0 (.sl none 35 (List.map c_Chunk p0)) (.c 3 (.ptr k2 0) (.c 5 (.sc (.int .i64 s)) .nil))) () (lx (.k3 .nil)) ?_ ?_
 rintro _ q0 x hm
 replace hm : M135a_L0 fuel p0 p1 q0 = some x := hm
 unfold M135a_L0 at hm
 refine vs (vs ?_)
 refine vjnH hm (σ := Bool) (τ := Unit) (fun g s => [(some k2, .obj 63 (c_Chunk p1))]) (fun g s => .c 0 (.sl none 35 (List.map c_Chunk p0)) (.c 3 (.ptr k2 0) (.c 5 (.sc (.int .i64 q0)) (.c 21 (.sc (.bool s)) .nil)))) (fun x hm => ?_) ?_
 refine v0 (vq0 (by kernel_rfl) (vln ln23 rfl ?_))
 refine vi hm (fun hb0 hm => ?_) fun hb0 hm => ?_
 rw [hb0]
 refine vx hm el23 rfl rfl fun x0 _ hm => ?_
 refine vn (fun _ => o_fl fd63_0 rfl rfl) (va (.agg (c_id x0.Id)) ld61 rfl rfl (vn (fun _ => Zh fd63_0 rfl rfl) (vl 0 (.agg (c_id p1.Id)) ld61 rfl rfl rfl ?_)))
 refine vk W60 bd60 hm rfl rfl fun _ hm => ?_
 exact vgo hm () trivial (lx (.k4 .nil))
 rw [hb0]
 exact vgo hm () trivial (lx (.k4 .nil))
 rintro _ j0 hm
 refine v0 ?_
 refine vi hm (fun hc0 hm => ?_) fun hc0 hm => ?_
 refine v0 (v0 (v0 ?_))
 exact vgo hm () trivial (lx (.k3 .nil))
 refine v0 ?_
 exact vbk hm () trivial (lx (.k3 .nil))
 rintro _ r0 hm
 refine vs (vs ?_)
 refine vjnH hm (σ := Bool) (τ := Unit) (fun g s => [(some k2, .obj 63 (c_Chunk p1))]) (fun g s => .c 0 (.sl none 35 (List.map c_Chunk p0)) (.c 3 (.ptr k2 0) (.c 5 (.sc (.int .i64 r0)) (.c 37 (.sc (.bool s)) .nil)))) (fun x hm => ?_) ?_
 refine v0 (vq0 (by kernel_rfl) (vln ln23 rfl ?_))
 refine vi hm (fun hb1 hm => ?_) fun hb1 hm => ?_
 rw [hb1]
 refine vx hm el23 rfl rfl fun x1 _ hm => ?_
 refine vn (fun _ => o_fl fd63_0 rfl rfl) (va (.agg (c_id x1.Id)) ld61 rfl rfl (vn (fun _ => Zh fd63_0 rfl rfl) (vl 0 (.agg (c_id p1.Id)) ld61 rfl rfl rfl (vn (fun _ => o_ide eg61 u61 u5 ld5 rfl rfl) ?_))))
 exact vgo hm () trivial (lx (.k4 .nil))
 rw [hb1]
 exact vgo hm () trivial (lx (.k4 .nil))
 rintro _ j1 hm
 refine v0 ?_
 refine vi hm (fun hc1 hm => ?_) fun hc1 hm => ?_
 refine vs (v0 ?_)
 obtain ⟨y0, hy0, hm⟩ := Zc hm
 refine ve fun hk => a_call (W54a _ hy0) rfl bd54 rfl ?_
 rintro x h' ⟨ag0, ok0, hk0, rfl, rfl⟩
 refine qk (HOk.co hk hk0) (hp_cat _ _ _) ?_
 refine vs (v0 (vn (fun _ => Zh fd63_2 rfl rfl) (vl 1 _ ld52 rfl rfl rfl ?_)))
 refine vk W100 bd100 hm rfl rfl fun y1 hm => ?_
 obtain ⟨x2, hx0, hm⟩ := Zc hm
 refine vn (fun _ => o_ixA hx0 el23 ok0 rfl rfl) (vn (fun _ => o_flA (AOk.ne ok0 hx0) fd63_1 rfl rfl) ?_)
 refine ve fun hk => a_storeA (fo := 32) ({ x2 with Staged := true } : TChunk) 0 hk hx0 cz_Chunk ok0 rfl rfl rfl rfl (ALeL.refl _ _) sz4 rfl rfl fun hk1 => qk hk1 rfl ?_
 obtain ⟨x3, hx1, hm⟩ := Zc hm
 refine vn (fun _ => o_ixA hx1 el23 (AOk.set ok0) rfl rfl) (vn (fun _ => o_flA (AOk.ne (AOk.set ok0) hx1) fd63_2 rfl rfl) ?_)
 refine ve fun hk => a_storeA (fo := 33) ({ x3 with Data := y1 } : TChunk) 0 hk hx1 cz_Chunk (AOk.set ok0) rfl rfl rfl rfl (ALeL.refl _ _) sz52 rfl rfl fun hk2 => qk hk2 rfl ?_
 refine vs (v0 (v0 ?_))
 cases hm
 exact vr fun hk => Ret.one (.inl rfl) (hp_sub (h0 := h) (L' := [(ag0.t, .obj 63 (fl c_Chunk ((y0.set r0.toNat ({ x2 with Staged := true })).set r0.toNat ({ x3 with Data := y1 }) : List TChunk) ag0.sp))]) (.cons_cons _ (.cons _ (.refl _))) hk).1 (ALe.refl _ _) ⟨ag0, (AOk.set (AOk.set ok0)), (hp_sub (h0 := h) (L' := [(ag0.t, .obj 63 (fl c_Chunk ((y0.set r0.toNat ({ x2 with Staged := true })).set r0.toNat ({ x3 with Data := y1 }) : List TChunk) ag0.sp))]) (.cons_cons _ (.cons _ (.refl _))) hk).2, rfl, rfl⟩
 refine v0 (vs (v0 (vs (v0 ?_))))
 refine vz [(1000000, some k2, .obj 63 (c_Chunk p1))] mixed (fun hk => ⟨fun _ => hp_at 0 hk rfl, trivial⟩) fun hk => ?_
 refine z_w 0 rfl (fun S' h' hi hB => o_mv (.sc (.slice _ _ _)) rfl) ?_
 refine z_w 1 rfl (fun S' h' hi hB => o_mv (.sl _ _ _) rfl) ?_
 refine z_w 2 rfl (fun S' h' hi hB => o_mv (.sc (.int _ _)) rfl) ?_
 obtain ⟨_, hx2, hm⟩ := Zc hm
 refine z_w 3 rfl (fun S' h' hi hB => o_slc hx2 el23 rfl rfl rfl rfl) ?_
 refine z_w 5 rfl (fun S' h' hi hB => Zg (.agg (c_Chunk p1)) ld63 rfl (At.s (InvL.get 0 hi rfl (hB 1000000 (by kernel_rfl)))) rfl) ?_
 refine z_w 6 rfl (fun S' h' hi hB => o_lit (List.map c_Chunk ([p1] : List TChunk)) et23 rfl rfl rfl rfl) ?_
 obtain ⟨z0, hz0, hm⟩ := Zc hm
 refine z_e 4 rfl (by kernel_rfl) (a_appA0 (c := c_Chunk) hz0 et23 rfl zr63 rfl cz_Chunk rfl hk rfl fun ag1 ok1 hk4 => ⟨⟨fun _ => hp_at 1 hk4 rfl, trivial⟩, ?_⟩)
 obtain ⟨z1, hz1, hm⟩ := Zc hm
 refine z_e 7 rfl (by kernel_rfl) (a_appA (c := c_Chunk) 0 hz1 et23 rfl zr63 rfl cz_Chunk rfl rfl ok1 hk4 rfl fun ag2 ok2 hk5 => ⟨⟨fun _ => hp_at 1 hk5 rfl, trivial⟩, ?_⟩)
 refine z_w 8 rfl (fun S' h' hi hB => o_as (aw _ _ _) rfl) ?_
 refine z_nil (by kernel_rfl) (qk (f := .c 7 _ (.c 59 _ (.c 56 _ (.c 58 _ (.c 57 _ (.c 55 _ (.c 54 _ (.c 53 _ (.c 52 _ _))))))))) hk5 rfl ?_)
 refine vs (v0 ?_)
 obtain ⟨_, hx3, hm⟩ := Zc hm
 refine vn (fun _ => o_slc hx3 el23 rfl rfl rfl rfl) ?_
 obtain ⟨z2, hz2, hm⟩ := Zc hm
 refine ve fun hk => a_appA (c := c_Chunk) 0 hz2 et23 rfl zr63 rfl cz_Chunk rfl rfl ok2 hk rfl fun ag3 ok3 hk6 => qk hk6 rfl ?_
 refine v0 ?_
 injection hm with hm; subst hm
 exact vr fun hk => Ret.one (.inl rfl) (hp_sub (h0 := h) (L' := [(ag3.t, .obj 63 (fl c_Chunk (z2 : List TChunk) ag3.sp))]) (.cons_cons _ (.cons _ (.refl _))) hk).1 (ALe.refl _ _) ⟨ag3, ok3, (hp_sub (h0 := h) (L' := [(ag3.t, .obj 63 (fl c_Chunk (z2 : List TChunk) ag3.sp))]) (.cons_cons _ (.cons _ (.refl _))) hk).2, rfl, rfl⟩
theorem bd135 : bodied Try.prog 135 = true := by kernel_rfl
open Go.Vm
theorem m54a : @M54a = @M54 := rfl
theorem m14d {F : Nat} {c : TCatalog} (hF : 1000 ≤ F) (h : Sm c) : M14d F c = some c := by
 rw [← m14 (F := F) hF h]
 rfl
theorem wru {n : Nat} (h : n < 1000000000) : IntKind.wrap .u64 (n : Int) = n := by
 have e : IntKind.wrap .u64 (n : Int) = (n : Int) % 18446744073709551616 := rfl
 rw [e]; omega
theorem wru0 (p : Int) : 0 ≤ IntKind.wrap .u64 p := by
 have e : IntKind.wrap .u64 p = p % 18446744073709551616 := rfl
 rw [e]; omega
theorem idxW (p : Int) {n : Nat} (h0 : 0 < n) (hn : n < 1000000000) : ∃ j : Nat, j < n ∧ IntKind.wrap .i64 ((IntKind.wrap .u64 p).tmod (n : Int)) = (j : Int) := by
 have h1 := wru0 p
 generalize IntKind.wrap .u64 p = a at h1
 rw [Int.tmod_eq_emod_of_nonneg h1]
 have h2 : 0 ≤ a % (n : Int) := Int.emod_nonneg _ (by omega)
 have h3 : a % (n : Int) < n := Int.emod_lt_of_pos _ (by omega)
 refine ⟨(a % (n : Int)).toNat, by omega, ?_⟩
 rw [wr (by omega) (by omega)]
 omega
theorem mem_set {α : Type} {l : List α} {j : Nat} {x y : α} (h : y ∈ l.set j x) : y ∈ l ∨ y = x := by
 have := List.mem_or_eq_of_mem_set h
 exact this
open Go.Vm
structure Rng (c : TCatalog) : Prop where
 seq : 0 ≤ c.Seq ∧ c.Seq ≤ 1073741824
 sn : c.Snaps.length ≤ 8
 ch : c.Chunks.length ≤ 200
 ex : c.Exps.length ≤ 200
 vo : c.Vols.length ≤ 8
 s : ∀ s ∈ c.Snaps, 0 ≤ s.Seq ∧ s.Seq < c.Seq ∧ manB s.Man = true ∧ locsB c s.Locs = true
 k : ∀ x ∈ c.Chunks, x.Data.length ≤ 64 ∧ locsB c x.Locs = true
 e : ∀ x ∈ c.Exps, 0 ≤ x.Seq ∧ x.Seq < c.Seq ∧ 0 ≤ x.Of ∧ x.Of < c.Seq ∧ locsB c x.Locs = true
 v : ∀ x ∈ c.Vols, 0 ≤ x.Pool ∧ x.Pool ≤ 1 ∧ 0 ≤ x.Epoch ∧ x.Epoch ≤ 1048576 ∧ 1 ≤ x.State ∧ x.State ≤ 3 ∧ 0 ≤ x.Files ∧ x.Files ≤ 65535
theorem rng {c : TCatalog} (hg : good c = true) : Rng c := by
 obtain ⟨q1, q2, q3⟩ := good_locs hg
 have hg0 := hg
 unfold good at hg0
 simp only [Bool.and_eq_true, inR, decide_eq_true_eq] at hg0
 obtain ⟨⟨⟨⟨g1, g2, g3⟩, g4, g5⟩, g6, g7⟩, g8, g9⟩ := hg0
 refine ⟨g1, g7, g5, g9, by omega, fun s hs => ?_, fun x hx => ⟨?_, q1 x hx⟩, fun x hx => ?_, fun x hx => ?_⟩
 ·obtain ⟨i, hi, rfl⟩ := List.getElem_of_mem hs
  have := (snB_at hg (List.getElem?_eq_getElem hi)).1
  unfold snB at this
  rw [List.getElem?_eq_getElem hi] at this
  simp only [Bool.and_eq_true, inR, decide_eq_true_eq] at this
  obtain ⟨⟨⟨⟨h1, h2⟩, h3⟩, h4⟩, h5⟩ := this
  exact ⟨h1.1, by omega, h4, h5⟩
 ·obtain ⟨i, hi, rfl⟩ := List.getElem_of_mem hx
  have := chB_at hg (List.getElem?_eq_getElem hi)
  unfold chB at this
  rw [List.getElem?_eq_getElem hi] at this
  simp only [Bool.and_eq_true] at this
  have := this.2
  split at this
  ·simp only [inR, Bool.and_eq_true, decide_eq_true_eq] at this; omega
  ·simp only [Bool.and_eq_true, Bool.not_eq_true', decide_eq_false_iff_not] at this; omega
 ·obtain ⟨i, hi, rfl⟩ := List.getElem_of_mem hx
  unfold exsB at g8
  simp only [Bool.not_eq_true', List.any_eq_false, List.mem_range] at g8
  have := g8 i hi
  have this : exA c i = true ∧ exC c i = true := by simpa using this
  have := this.1
  unfold exA at this
  rw [List.getElem?_eq_getElem hi] at this
  simp only [Bool.and_eq_true, inR, decide_eq_true_eq] at this
  obtain ⟨⟨⟨⟨h1, h2⟩, h3⟩, h4⟩, h5⟩ := this
  exact ⟨h1.1, by omega, h3.1, by omega, h5⟩
 ·have hb := List.all_eq_true.1 g2 x hx
  unfold volB inR at hb
  simp only [Bool.and_eq_true, Bool.or_eq_true, decide_eq_true_eq, beq_iff_eq] at hb
  omega
theorem i1 : ((1 : Nat) : Int) = 1 := rfl
theorem i2 : ((2 : Nat) : Int) = 2 := rfl
theorem i4 : ((4 : Nat) : Int) = 4 := rfl
end Go.Proofs.Ytoomgangpjcaoaa
