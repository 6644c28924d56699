import Derived.Test.YtbbifdfldpfphaaGreatK3P4
import Derived.Test.YtbbifdfldpfphaaGreatK3P8
import Derived.Test.YtbbifdfldpfphaaGreatK3P7
import Derived.Test.YtbbifdfldpfphaaGreatK3P5
set_option linter.unusedSimpArgs false
set_option linter.unusedVariables false
set_option maxHeartbeats 4000000
set_option maxRecDepth 100000
namespace Go.Proofs.YtbbifdfldpfphaaGreat
open Go.Vm
def sE (m : Nat) (p0 : List dK) (q0 : Int) : Option (Lp (Int) (Int)) :=
 if (decide (q0 < (p0.length : Int))) = true then (after ((ix p0 q0).bind fun x0 => (xX m x0.Path).bind fun y0 => if (!y0) = true then (some (.brk true)) else if (decide (0 < q0)) = true then ((ix p0 q0).bind fun x1 => (ix p0 (IntKind.wrap .i64 (q0 - 1))).bind fun x2 => some (.brk (Op.bytesLess x1.Path.toList x2.Path.toList || x1.Path.toList == x2.Path.toList))) else some (.brk false) : Option (Lp (Bool) (Lp (Int) (Int)))) fun j0 => if j0 = true then (some (.ret 1)) else some (.go (IntKind.wrap .i64 (q0 + 1)))) else some (.brk q0)
def HW (m : Nat) (p0 : List dK) : Option (Int) :=
 (EZ m p0).bind fun y4 => if y4 = true then (some 2) else after (aY (fun s => sE m p0 s) m 0) fun r0 => some 0
theorem WE {u : Nat} {p0 : List dK} {o : Int} (h : aH) (m : HW u p0 = some o) :
 aP Tryz.prog 142 [.sl none 2 (List.map eE p0)] h (fun r h' => r = nZ o ∧ h' = h) := by
 refine fW 37 [.tmp 2] Tryz.func142 rfl rfl rfl rfl ?_
 unfold HW at m
 refine v (v ?_)
 refine vk R5 KW m rfl rfl fun _ m => ?_
 refine v ?_
 refine vi m (fun c6 m => ?_) fun c6 m => ?_
 refine v (v ?_)
 injection m with m; subst m
 exact eM rfl
 refine v (v ?_)
 refine eO m (σ := Int) (τ := Unit) (fun g s => []) (fun g s => .c 0 (.sl none 2 (List.map eE p0)) (.c 3 (nZ s) .nil)) () (lx (.k2 .nil)) ?_ ?_
 rintro _ q0 x m
 replace m : sE u p0 q0 = some x := m
 unfold sE at m
 refine v (dH uX rfl (v ?_))
 refine vi m (fun c0 m => ?_) fun c0 m => ?_
 refine v (v (vs ?_))
 refine cW m (σ := Bool) (τ := Unit) (fun g s => []) (fun g s => .c 0 (.sl none 2 (List.map eE p0)) (.c 3 (nZ q0) (.c 36 (.sc (.bool s)) .nil))) (fun x m => ?_) ?_
 refine v (vq (by kernel_rfl) ?_)
 refine vx m mQ rfl rfl fun _ _ m => ?_
 refine vk GU AO m rfl rfl fun _ m => ?_
 refine vi m (fun b0 m => ?_) fun b0 m => ?_
 rw [b0]
 exact bD m (lx (.k3 .nil))
 rw [b0]
 refine vi m (fun b1 m => ?_) fun b1 m => ?_
 rw [b1]
 refine vx m mQ rfl rfl fun _ _ m => ?_
 refine vx m mQ rfl rfl fun _ _ m => ?_
 refine vn (fun _ => wV rfl rfl rfl trivial) ?_
 exact bD m (lx (.k3 .nil))
 rw [b1]
 exact bD m (lx (.k3 .nil))
 rintro _ j0 m
 refine v ?_
 refine vi m (fun c1 m => ?_) fun c1 m => ?_
 refine v (v ?_)
 refine gA m fun m => ?_
 injection m with m; subst m
 exact eM rfl
 refine v (v ?_)
 exact bD m (lx (.k2 .nil))
 refine v ?_
 exact iS m (lx (.k2 .nil))
 rintro _ r0 m
 refine v (v ?_)
 injection m with m; subst m
 exact eM rfl
theorem SA : aU Tryz.prog 142 = true := by kernel_rfl
def sF (m : Nat) (p0 : List Int) (q0 : Int) (q1 : Int) : Option (Lp (Int × Int) (Int)) :=
 if (decide (q1 < (p0.length : Int))) = true then ((ix p0 q1).bind fun x0 => after (if (decide (8 ≤ (IntKind.wrap .i64 (q1 + 1)))) = true then (if (((IntKind.wrap .u32 ((IntKind.wrap .u32 (q0 * 2)) + (IntKind.wrap .u32 ((IntKind.wrap .u32 ((IntKind.wrap .u32 x0) + 1)) * 2654435761)))).fdiv (2 ^ (min (28 : Int).toNat (IntKind.bits .u32)))) == 0) = true then (some (.brk true)) else some (.brk ((IntKind.wrap .i64 (q1 + 1)) == 64))) else some (.brk ((IntKind.wrap .i64 (q1 + 1)) == 64)) : Option (Lp (Bool) (Lp (Int × Int) (Int)))) fun j0 => if j0 = true then (some (.ret (IntKind.wrap .i64 (q1 + 1)))) else some (.go (IntKind.wrap .u32 ((IntKind.wrap .u32 (q0 * 2)) + (IntKind.wrap .u32 ((IntKind.wrap .u32 ((IntKind.wrap .u32 x0) + 1)) * 2654435761))), IntKind.wrap .i64 (q1 + 1)))) else some (.brk (q0, q1))
def HX (m : Nat) (p0 : List Int) : Option (Int) :=
 after (aY (fun s => sF m p0 s.1 s.2) m (0, 0)) fun ⟨r0, r1⟩ => some (p0.length : Int)
theorem WF {u : Nat} {p0 : List Int} {o : Int} (h : aH) (m : HX u p0 = some o) :
 aP Tryz.prog 184 [.sl none 1 (List.map cZ p0)] h (fun r h' => r = nZ o ∧ h' = h) := by
 refine fW 38 [.tmp 2] Tryz.func184 rfl rfl rfl rfl ?_
 unfold HX at m
 refine v (v (v ?_))
 refine eO m (σ := Int × Int) (τ := Unit) (fun g s => []) (fun g s => .c 0 (.sl none 1 (List.map cZ p0)) (.c 3 (.sc (.int .u32 s.1)) (.c 4 (nZ s.2) .nil))) () (lx (.k3 .nil)) ?_ ?_
 rintro _ ⟨q0, q1⟩ x m
 replace m : sF u p0 q0 q1 = some x := m
 unfold sF at m
 refine v (dH jJ rfl (v ?_))
 refine vi m (fun c0 m => ?_) fun c0 m => ?_
 refine v (v (v ?_))
 refine vx m F7 rfl rfl fun x0 _ m => ?_
 refine vs ?_
 refine cW m (σ := Bool) (τ := Unit) (fun g s => []) (fun g s => .c 0 (.sl none 1 (List.map cZ p0)) (.c 3 (.sc (.int .u32 (IntKind.wrap .u32 ((IntKind.wrap .u32 (q0 * 2)) + (IntKind.wrap .u32 ((IntKind.wrap .u32 ((IntKind.wrap .u32 x0) + 1)) * 2654435761)))))) (.c 4 (nZ q1) (.c 33 (.sc (.bool s)) .nil)))) (fun x m => ?_) ?_
 refine v ?_
 refine vi m (fun b0 m => ?_) fun b0 m => ?_
 rw [b0]
 refine vi m (fun b1 m => ?_) fun b1 m => ?_
 rw [b1]
 exact bD m (lx (.k4 .nil))
 rw [b1]
 exact bD m (lx (.k4 .nil))
 rw [b0]
 exact bD m (lx (.k4 .nil))
 rintro _ j0 m
 refine v ?_
 refine vi m (fun c1 m => ?_) fun c1 m => ?_
 refine v (v ?_)
 refine gA m fun m => ?_
 cases m
 exact eM rfl
 refine v (v ?_)
 exact bD m (lx (.k3 .nil))
 refine v ?_
 exact iS m (lx (.k3 .nil))
 rintro _ ⟨r0, r1⟩ m
 refine v (dH jJ rfl (v ?_))
 cases m
 exact eM rfl
theorem SB : aU Tryz.prog 184 = true := by kernel_rfl
def sG (m : Nat) (q0 : List (List Int)) (q1 : List Int) : Option (Lp ((List (List Int)) × (List Int)) ((List (List Int)))) :=
 if (decide (0 < (q1.length : Int))) = true then ((HX m q1).bind fun y0 => (slc q1 0 y0).bind fun x0 => (vA m x0).bind fun y1 => (app q0 ([y1] : List (List Int))).bind fun z0 => (slc q1 y0 (q1).length).bind fun x1 => some (.go (z0, x1))) else some (.brk (q0, q1))
def HY (m : Nat) (p0 : List Int) : Option ((List (List Int))) :=
 after (aY (fun s => sG m s.1 s.2) m ([], p0)) fun ⟨r0, r1⟩ => some r0
theorem WG {w : Nat} {p0 : List Int} {o : (List (List Int))} (h : aH) (m : HY w p0 = some o) :
 aP Tryz.prog 143 [.sl none 1 (List.map cZ p0)] h (fun r h' => r = .sl none 1 (List.map fY o) ∧ h' = h) := by
 refine fW 21 [.tmp 2] Tryz.func143 rfl rfl rfl rfl ?_
 unfold HY at m
 refine v (v (vs (oO (B4 (.tok 41 1 (([] : List (List Int)).length * 1)) 3 (ow none 1 (List.map fY [])) (hM _ _)) ?_)))
 refine lT m (σ := (List (List Int)) × (List Int)) (τ := Option bZ) (fun g s => [(g, .tok 41 1 ((s.1 : List (List Int)).length * 1))]) (fun g s => (g = none → s.1 = [])) (fun g s => .c 0 (.sl none 1 (List.map cZ s.2)) (.c 3 (ow g 1 (List.map fY s.1)) .nil)) none (fun _ => rfl) (lx (.k2 .nil)) ?_ ?_
 rintro tg0 ⟨q0, q1⟩ x t0 m
 replace m : sG w q0 q1 = some x := m
 unfold sG at m
 refine v (dH jJ rfl (v ?_))
 refine vi m (fun c0 m => ?_) fun c0 m => ?_
 refine v (v (v ?_))
 refine vk WF SB m rfl rfl fun _ m => ?_
 refine v ?_
 obtain ⟨_, X0, m⟩ := aC m
 refine vn (fun _ => mZ X0 F7 rfl rfl rfl rfl) ?_
 refine vk G2 AX m rfl rfl fun y0 m => ?_
 refine vn (fun _ => eH (List.map fY ([y0] : List (List Int))) v9 rfl rfl rfl rfl) ?_
 obtain ⟨z0, Z0, m⟩ := aC m
 refine ve fun u => eS (c := fY) 0 Z0 v9 rfl rfl rfl t0 u rfl fun tg1 t1 K0 => qk K0 rfl ?_
 refine v ?_
 obtain ⟨_, X1, m⟩ := aC m
 refine vn (fun _ => mZ X1 F7 rfl rfl rfl rfl) ?_
 exact fH m tg1 t1 (lx (.k2 .nil))
 refine v ?_
 exact lD m tg0 t0 (lx (.k2 .nil))
 rintro tg2 ⟨r0, r1⟩ t2 m
 refine v (v ?_)
 injection m with m; subst m
 exact vr fun u => dY.of1 (.inl rfl) (fL _ _ (ow _ _ _) rfl) (aV (List.nil_sublist _) u).1 ((eG _ 0 t2 u rfl)) ⟨rfl, rfl⟩
theorem SC : aU Tryz.prog 143 = true := by kernel_rfl
def yW (m : Nat) (y0 : (List (List Int))) (q0 : List bP) (q1 : List (List Int)) (q2 : List bP) (q3 : Int) : Option (Lp ((List bP) × (List (List Int)) × (List bP) × Int) (Lp ((List dV) × (List (List Int)) × (List bP) × Int) (a9 × (List (List Int)) × Int))) :=
 if (decide (q3 < (y0.length : Int))) = true then ((ix y0 q3).bind fun x0 => (OL m x0).bind fun y1 => (app q0 ([y1] : List bP)).bind fun z0 => (AP m q2 y1).bind fun y2 => after (if y2.2.2 = true then ((slc q1 0 y2.2.1).bind fun x1 => (ix y0 q3).bind fun x2 => (app ([] : List (List Int)) x1).bind fun z1 => (app z1 ([x2] : List (List Int))).bind fun z2 => (slc q1 y2.2.1 (q1.length : Int)).bind fun x3 => (app z2 x3).bind fun z3 => some (.brk z3)) else some (.brk q1) : Option (Lp ((List (List Int))) (Lp ((List bP) × (List (List Int)) × (List bP) × Int) (Lp ((List dV) × (List (List Int)) × (List bP) × Int) (a9 × (List (List Int)) × Int))))) fun j0 => some (.go (z0, j0, y2.1, IntKind.wrap .i64 (q3 + 1)))) else some (.brk (q0, q1, q2, q3))
def yX (m : Nat) (p1 : List dK) (q0 : List dV) (q1 : List (List Int)) (q2 : List bP) (q3 : Int) : Option (Lp ((List dV) × (List (List Int)) × (List bP) × Int) (a9 × (List (List Int)) × Int)) :=
 if (decide (q3 < (p1.length : Int))) = true then ((ix p1 q3).bind fun x0 => (ix p1 q3).bind fun x1 => (ix p1 q3).bind fun x2 => (HY m x2.Data).bind fun y0 => after (aY (fun s => yW m y0 s.1 s.2.1 s.2.2.1 s.2.2.2) m ([], q1, q2, 0)) fun ⟨r0, r1, r2, r3⟩ => (app q0 ([({ Path := x0.Path, Size := (x1.Data.length : Int), Ids := r0 } : dV)] : List dV)).bind fun z0 => some (.go (z0, r1, r2, IntKind.wrap .i64 (q3 + 1)))) else some (.brk (q0, q1, q2, q3))
def SD (m : Nat) (p0 : ByteArray) (p1 : List dK) : Option (a9 × (List (List Int)) × Int) :=
 (xX m p0).bind fun y7 => if (!y7) = true then (some (({ Name := ByteArray.empty, Parts := [] } : a9), [], 1)) else (HW m p1).bind fun y0 => if (y0 != 0) = true then (some (({ Name := ByteArray.empty, Parts := [] } : a9), [], y0)) else after (aY (fun s => yX m p1 s.1 s.2.1 s.2.2.1 s.2.2.2) m ([], [], [], 0)) fun ⟨r0, r1, r2, r3⟩ => some (({ Name := p0, Parts := r0 } : a9), r1, 0)
theorem W86 {w : Nat} {p0 : ByteArray} {p1 : List dK} {o : a9 × (List (List Int)) × Int} (h : aH) (m : SD w p0 p1 = some o) :
 aP Tryz.prog 86 [.sc (.string p0), .sl none 2 (List.map eE p1)] h (fun r h' => r = .tup [.agg (bC o.1), .sl none 1 (List.map fY o.2.1), nZ o.2.2] ∧ h' = h) := by
 refine fW 106 [.cell 4 58, .tmp 5, .tmp 6] Tryz.func86 rfl rfl rfl rfl ?_
 unfold SD at m
 refine v ?_
 refine ve fun u => bE ([.sc (.string ByteArray.empty), sZ]) u GA rfl rfl fun k2 K3 => qk K3 rfl ?_
 refine v ?_
 refine vk GU AO m rfl rfl fun _ m => ?_
 refine v ?_
 refine vi m (fun c9 m => ?_) fun c9 m => ?_
 refine v (vn (fun _ => eV ([.sc (.string ByteArray.empty), sZ]) I6 rfl) ?_)
 refine ve fun u => aL 0 ([.sc (.string ByteArray.empty), sZ]) u rfl rfl rfl rfl uW rfl rfl fun K0 => qk K0 rfl ?_
 refine v ?_
 cases m
 exact vr fun u => dY.of3 (.inl rfl) (n3 (.agg ([.sc (.string ByteArray.empty), sZ])) lH rfl (bB 0 u rfl) rfl) (fL _ _ (.sc (.slice _ _ _)) rfl) (fL _ _ (.sc (.int _ _)) rfl) (aV (List.nil_sublist _) u).1 (aX.agg (.cons (aX.refl _ _) (.cons (aS _) .nil))) (aS _) (aX.refl _ _) ⟨rfl, rfl⟩
 refine v (v ?_)
 refine vk WE SA m rfl rfl fun _ m => ?_
 refine v (v ?_)
 refine vi m (fun c0 m => ?_) fun c0 m => ?_
 refine v (vn (fun _ => eV ([.sc (.string ByteArray.empty), sZ]) I6 rfl) ?_)
 refine ve fun u => aL 0 ([.sc (.string ByteArray.empty), sZ]) u rfl rfl rfl rfl uW rfl rfl fun K1 => qk K1 rfl ?_
 refine v ?_
 cases m
 exact vr fun u => dY.of3 (.inl rfl) (n3 (.agg ([.sc (.string ByteArray.empty), sZ])) lH rfl (bB 0 u rfl) rfl) (fL _ _ (.sc (.slice _ _ _)) rfl) (fL _ _ (.sc (.int _ _)) rfl) (aV (List.nil_sublist _) u).1 (aX.agg (.cons (aX.refl _ _) (.cons (aS _) .nil))) (aS _) (aX.refl _ _) ⟨rfl, rfl⟩
 refine v (v (vn (fun _ => eV ([.sc (.string p0), sZ]) I6 rfl) ?_))
 refine ve fun u => bE ([.sc (.string ByteArray.empty), sZ]) u GA rfl rfl fun k21 K2 => qk K2 rfl ?_
 refine ve fun u => aL 0 ([.sc (.string p0), sZ]) u rfl rfl rfl rfl uW rfl rfl fun K4 => qk K4 rfl ?_
 refine v (v (v (oO (B4 (.tok 41 1 (([] : List (List Int)).length * 1)) 10 (ow none 1 (List.map fY [])) (hM _ _)) (oO (PJ (.tok 70 3 (([] : List dV).length * 3)) 2 ([.sc (.string p0), ow none 3 (List.map bV [])]) rfl (.cons (aX.refl _ _) (.cons (hM (c := bV) _ 3) .nil))) ?_))))
 refine lT m (σ := (List dV) × (List (List Int)) × (List bP) × Int) (τ := Option bZ × Option bZ) (fun g s => [(g.1, .tok 70 3 ((s.1 : List dV).length * 3)), (g.2, .tok 41 1 ((s.2.1 : List (List Int)).length * 1)), (some k21, .obj 58 ([.sc (.string p0), ow g.1 3 (List.map bV s.1)])), (some k2, .obj 58 ([.sc (.string ByteArray.empty), sZ]))]) (fun g s => (g.1 = none → s.1 = []) ∧ (g.2 = none → s.2.1 = [])) (fun g s => .c 1 (.sl none 2 (List.map eE p1)) (.c 4 (.ptr k2 0) (.c 8 (.ptr k21 0) (.c 9 (.sl none 32 (List.map bF s.2.2.1)) (.c 10 (ow g.2 1 (List.map fY s.2.1)) (.c 11 (nZ s.2.2.2) .nil)))))) (none, none) (⟨(fun _ => rfl), (fun _ => rfl)⟩) (lx (.k3 (.cons (aS _) (.k2 .nil)))) ?_ ?_
 rintro ⟨tg0, tg1⟩ ⟨q0, q1, q2, q3⟩ x ⟨t0, t1⟩ m
 replace m : yX w p1 q0 q1 q2 q3 = some x := m
 unfold yX at m
 refine v (dH uX rfl (v ?_))
 refine vi m (fun c1 m => ?_) fun c1 m => ?_
 refine v (v (v ?_))
 refine vz [] mixed (fun u => trivial) fun u => ?_
 refine aM 0 rfl (fun _ _ _ _ => bN (.sl _ _ _) rfl) ?_
 refine aM 1 rfl (fun _ _ _ _ => bN (.sc (.int _ _)) rfl) ?_
 obtain ⟨x0, X0, m⟩ := aC m
 refine aM 2 rfl (fun _ _ _ _ => mL X0 mQ rfl rfl) ?_
 refine aM 3 rfl (fun _ _ _ _ => mM GH rfl rfl) ?_
 refine aM 4 rfl (fun _ _ _ _ => mW (.sc (.string x0.Path)) uP rfl rfl) ?_
 refine aM 5 rfl (fun _ _ _ _ => bN (.sl _ _ _) rfl) ?_
 refine aM 6 rfl (fun _ _ _ _ => bN (.sc (.int _ _)) rfl) ?_
 obtain ⟨x1, X1, m⟩ := aC m
 refine aM 7 rfl (fun _ _ _ _ => mL X1 mQ rfl rfl) ?_
 refine aM 8 rfl (fun _ _ _ _ => mM GI rfl rfl) ?_
 refine aM 9 rfl (fun _ _ _ _ => mW (.sl none 1 (List.map cZ x1.Data)) jR rfl rfl) ?_
 refine aM 10 rfl (fun _ _ _ _ => qB jJ rfl) ?_
 refine aM 11 rfl (fun _ _ _ _ => eV ([.sc (.string x0.Path), nZ (x1.Data.length : Int), sZ]) TP rfl) ?_
 refine eX 12 rfl (by kernel_rfl) (bE ([.sc (.string ByteArray.empty), nZ 0, sZ]) u CC rfl rfl fun k2233 K5 => ⟨trivial, ?_⟩)
 refine eX 13 rfl (by kernel_rfl) (aL 0 ([.sc (.string x0.Path), nZ (x1.Data.length : Int), sZ]) K5 rfl rfl rfl rfl EJ rfl rfl fun K6 => ⟨trivial, ?_⟩)
 refine dL (by kernel_rfl) (qk (f := .c 12 _ (.c 49 _ (.c 48 _ (.c 47 _ (.c 46 _ (.c 45 _ (.c 44 _ (.c 43 _ (.c 42 _ (.c 41 _ (.c 40 _ (.c 39 _ (.c 38 _ _))))))))))))) K6 rfl ?_)
 refine v ?_
 refine vx m mQ rfl rfl fun _ _ m => ?_
 refine vk WG SC m rfl rfl fun y0 m => ?_
 refine v (oO (PJ (.tok 36 32 (([] : List bP).length * 32)) 1 ([.sc (.string x0.Path), nZ (x1.Data.length : Int), ow none 32 (List.map bF [])]) rfl (.k2 (.cons (hM (c := bF) _ 32) .nil))) ?_)
 refine lT m (σ := (List bP) × (List (List Int)) × (List bP) × Int) (τ := Option bZ × Option bZ) (fun g s => [(g.1, .tok 36 32 ((s.1 : List bP).length * 32)), (some k2233, .obj 70 ([.sc (.string x0.Path), nZ (x1.Data.length : Int), ow g.1 32 (List.map bF s.1)])), (tg0, .tok 70 3 ((q0 : List dV).length * 3)), (g.2, .tok 41 1 ((s.2.1 : List (List Int)).length * 1)), (some k21, .obj 58 ([.sc (.string p0), ow tg0 3 (List.map bV q0)])), (some k2, .obj 58 ([.sc (.string ByteArray.empty), sZ]))]) (fun g s => (g.1 = none → s.1 = []) ∧ (g.2 = none → s.2.1 = [])) (fun g s => .c 1 (.sl none 2 (List.map eE p1)) (.c 4 (.ptr k2 0) (.c 8 (.ptr k21 0) (.c 9 (.sl none 32 (List.map bF s.2.2.1)) (.c 10 (ow g.2 1 (List.map fY s.2.1)) (.c 11 (nZ q3) (.c 12 (.ptr k2233 0) (.c 13 (.sl none 1 (List.map fY y0)) (.c 14 (nZ s.2.2.2) .nil))))))))) (none, tg1) (⟨(fun _ => rfl), t1⟩) (lx (.k9 .nil)) ?_ ?_
 rintro ⟨tg2, tg3⟩ ⟨q4, q5, q6, q7⟩ x ⟨t2, t3⟩ m
 replace m : yW w y0 q4 q5 q6 q7 = some x := m
 unfold yW at m
 refine v (dH J8 rfl (v ?_))
 refine vi m (fun c2 m => ?_) fun c2 m => ?_
 refine v (v (v ?_))
 refine vx m v8 rfl rfl fun _ _ m => ?_
 refine vk YE R9 m rfl rfl fun y1 m => ?_
 refine ve fun u => bE (bF iY) u EH rfl rfl fun k2604 K7 => qk K7 rfl ?_
 refine ve fun u => aL 0 (bF y1) u rfl rfl rfl rfl EF rfl rfl fun K8 => qk K8 rfl ?_
 refine v (vl 2 (ow tg2 32 (List.map bF q4)) rM rfl rfl rfl (vl 0 (.agg (bF y1)) fV rfl rfl rfl (vn (fun _ => eH (List.map bF ([y1] : List bP)) xV rfl rfl rfl rfl) ?_)))
 obtain ⟨z0, Z0, m⟩ := aC m
 refine ve fun u => eS (c := bF) 1 Z0 xV rfl rfl rfl t2 u rfl fun tg4 t4 K9 => qk K9 rfl ?_
 refine ve fun u => aL 2 ([.sc (.string x0.Path), nZ (x1.Data.length : Int), ow tg4 32 (List.map bF z0)]) u rfl rfl (hO rfl) (mY _ _ _) ME rfl rfl fun K10 => qk K10 rfl ?_
 refine v (vl 0 (.agg (bF y1)) fV rfl rfl rfl ?_)
 refine vk QF KI m rfl rfl fun y2 m => ?_
 refine v ?_
 refine pX m (σ := (List (List Int))) (τ := Option bZ) (fun g s => [(some k2604, .obj 36 (bF y1)), (tg4, .tok 36 32 ((z0 : List bP).length * 32)), (some k2233, .obj 70 ([.sc (.string x0.Path), nZ (x1.Data.length : Int), ow tg4 32 (List.map bF z0)])), (tg0, .tok 70 3 ((q0 : List dV).length * 3)), (g, .tok 41 1 ((s : List (List Int)).length * 1)), (some k21, .obj 58 ([.sc (.string p0), ow tg0 3 (List.map bV q0)])), (some k2, .obj 58 ([.sc (.string ByteArray.empty), sZ]))]) (fun g s => (g = none → s = [])) (fun g s => .c 1 (.sl none 2 (List.map eE p1)) (.c 4 (.ptr k2 0) (.c 8 (.ptr k21 0) (.c 10 (ow g 1 (List.map fY s)) (.c 11 (nZ q3) (.c 12 (.ptr k2233 0) (.c 13 (.sl none 1 (List.map fY y0)) (.c 14 (nZ q7) (.c 16 (.sl none 32 (List.map bF y2.1)) .nil))))))))) (fun x m => ?_) ?_
 refine v ?_
 refine vi m (fun c3 m => ?_) fun c3 m => ?_
 refine v (v ?_)
 refine vz [] mixed (fun u => trivial) fun u => ?_
 refine aM 0 rfl (fun _ _ _ _ => bN (.sc (.slice _ _ _)) rfl) ?_
 refine aM 1 rfl (fun _ _ _ _ => bN (ow _ _ _) rfl) ?_
 refine aM 2 rfl (fun _ _ _ _ => bN (.sc (.int _ _)) rfl) ?_
 obtain ⟨_, X2, m⟩ := aC m
 refine aM 3 rfl (fun _ _ _ _ => xI X2 v8 rfl t3 rfl rfl rfl) ?_
 refine aM 5 rfl (fun _ _ _ _ => bN (.sl _ _ _) rfl) ?_
 refine aM 6 rfl (fun _ _ _ _ => bN (.sc (.int _ _)) rfl) ?_
 obtain ⟨x2, X3, m⟩ := aC m
 refine aM 7 rfl (fun _ _ _ _ => mL X3 v8 rfl rfl) ?_
 refine aM 8 rfl (fun _ _ _ _ => mW (.sl none 1 (List.map cZ x2)) jR rfl rfl) ?_
 refine aM 9 rfl (fun _ _ _ _ => eH (List.map fY ([x2] : List (List Int))) v9 rfl rfl rfl rfl) ?_
 obtain ⟨z1, Z1, m⟩ := aC m
 refine eX 4 rfl (by kernel_rfl) (lY (c := fY) Z1 v9 rfl rfl u nofun (lL (o6 X2 t3)) fun tg5 t5 K12 => ⟨trivial, ?_⟩)
 obtain ⟨z2, Z2, m⟩ := aC m
 refine eX 10 rfl (by kernel_rfl) (eS (c := fY) 0 Z2 v9 rfl rfl rfl t5 K12 rfl fun tg6 t6 K13 => ⟨trivial, ?_⟩)
 refine aM 11 rfl (fun _ _ _ _ => gU (ow _ _ _) rfl) ?_
 refine dL (by kernel_rfl) (qk (f := .c 19 _ (.c 91 _ (.c 85 _ (.c 90 _ (.c 89 _ (.c 88 _ (.c 87 _ (.c 86 _ (.c 84 _ (.c 83 _ (.c 82 _ (.c 81 _ _)))))))))))) K13 rfl ?_)
 refine v ?_
 obtain ⟨_, X4, m⟩ := aC m
 refine vn (fun _ => xI X4 v8 rfl t3 rfl rfl rfl) ?_
 obtain ⟨z3, Z3, m⟩ := aC m
 refine ve fun u => eS (c := fY) 0 Z3 v9 rfl rfl rfl t6 u (lL (o6 X4 t3)) fun tg7 t7 K14 => qk K14 rfl ?_
 exact fH m tg7 t7 (kR [1, 2, 3, 4, 0, 6, 7] rfl rfl (.k9 .nil))
 refine v ?_
 exact fH m tg3 t3 (lx (.k9 .nil))
 rintro tg8 j0 t8 m
 refine v (v ?_)
 exact fH m (tg4, tg8) ⟨t4, t8⟩ (kR [1, 2, 3, 4, 5, 6] rfl rfl (.k9 .nil))
 refine v ?_
 exact lD m (tg2, tg3) ⟨t2, t3⟩ (lx (.k9 .nil))
 rintro ⟨tg9, tg10⟩ ⟨r0, r1, r2, r3⟩ ⟨t9, t10⟩ m
 refine v (vl 4 (ow tg0 3 (List.map bV q0)) lG rfl rfl rfl (vl 1 (.agg ([.sc (.string x0.Path), nZ (x1.Data.length : Int), ow tg9 32 (List.map bF r0)])) AJ rfl rfl rfl ?_))
 refine ve fun u => xM (t := 100) (.agg (bV ({ Path := x0.Path, Size := (x1.Data.length : Int), Ids := r0 } : dV))) (aV (.cons _ (.refl _)) u).1 (aX.agg (.k2 (.cons (kF _ 0 t9 u rfl (.refl _)) .nil))) (XM (eH (List.map bV ([({ Path := x0.Path, Size := (x1.Data.length : Int), Ids := r0 } : dV)] : List dV)) EI rfl rfl rfl rfl) (qk ((aV (.cons _ (.refl _)) u).2) rfl ?_))
 obtain ⟨z4, Z4, m⟩ := aC m
 refine ve fun u => eS (c := bV) 1 Z4 EI rfl rfl rfl t0 u rfl fun tg11 t11 K15 => qk K15 rfl ?_
 refine ve fun u => aL 3 ([.sc (.string p0), ow tg11 3 (List.map bV z4)]) u rfl rfl (hO rfl) (mY _ _ _) LZ rfl rfl fun K16 => qk K16 rfl ?_
 refine v ?_
 exact fH m (tg11, tg10) ⟨t11, t10⟩ (kR [1, 2, 3, 4] rfl rfl (.k6 .nil))
 refine v ?_
 exact lD m (tg0, tg1) ⟨t0, t1⟩ (lx (.k6 .nil))
 rintro ⟨tg12, tg13⟩ ⟨r4, r5, r6, r7⟩ ⟨t12, t13⟩ m
 refine v (vl 2 (.agg ([.sc (.string p0), ow tg12 3 (List.map bV r4)])) lH rfl rfl rfl ?_)
 refine ve fun u => aL 3 ([.sc (.string p0), ow tg12 3 (List.map bV r4)]) u rfl rfl rfl (by repeat (first | exact rfl | refine cK (gG _ _ _) ?_ | refine cK (bX _ _ _) ?_ | refine cK rfl ?_)) uW rfl rfl fun K17 => qk K17 rfl ?_
 refine v ?_
 cases m
 exact vr fun u => dY.of3 (.inl rfl) (n3 (.agg ([.sc (.string p0), ow tg12 3 (List.map bV r4)])) lH rfl (bB 3 u rfl) rfl) (fL _ _ (ow _ _ _) rfl) (fL _ _ (.sc (.int _ _)) rfl) (aV (List.nil_sublist _) u).1 (aX.agg (.cons (aX.refl _ _) (.cons ((eG _ 0 t12 u rfl)) .nil))) ((eG _ 1 t13 u rfl)) (aX.refl _ _) ⟨rfl, rfl⟩
theorem WH : aU Tryz.prog 86 = true := by kernel_rfl
def yY (m : Nat) (p0 : aB) (y0 : a9 × (List (List Int)) × Int) (q0 : List aA) (q1 : Int) : Option (Lp ((List aA) × Int) (a8 × Bool)) :=
 if (decide (q1 < (y0.2.1.length : Int))) = true then ((ix y0.2.1 q1).bind fun x0 => (OL m x0).bind fun y1 => (ID m p0 y1).bind fun y2 => after (if (decide (y2 < 0)) = true then ((ix y0.2.1 q1).bind fun x1 => (app q0 ([({ Id := y1, Staged := true, Data := x1, Locs := [] } : aA)] : List aA)).bind fun z0 => some (.brk z0)) else some (.brk q0) : Option (Lp ((List aA)) (Lp ((List aA) × Int) (a8 × Bool)))) fun j0 => some (.go (j0, IntKind.wrap .i64 (q1 + 1)))) else some (.brk (q0, q1))
def yZ (m : Nat) (p0 : aB) (p1 : lM) (q0 : List bQ) (q1 : Int) (q2 : Int) : Option (Lp ((List bQ) × Int × Int) (a8 × Bool)) :=
 after (if (decide (q2 < (IntKind.wrap .i64 ((IntKind.wrap .i64 ((p0.Chunks.length : Int) + (p0.Snaps.length : Int))) + (p0.Exps.length : Int))))) = true then (some (.brk (decide ((q0.length : Int) < 64)))) else some (.brk false) : Option (Lp (Bool) (Lp ((List bQ) × Int × Int) (a8 × Bool)))) fun j0 => if j0 = true then (after (after (if (decide (q2 < (p1.Pick.length : Int))) = true then ((ix p1.Pick q2).bind fun x0 => some (.brk (!x0))) else some (.brk false) : Option (Lp (Bool) (Lp ((List bQ) × Int) (Lp ((List bQ) × Int × Int) (a8 × Bool))))) fun j1 => if j1 = true then (some (.brk (q0, q1))) else after (if (decide (q2 < (p0.Chunks.length : Int))) = true then ((ix p0.Chunks q2).bind fun x1 => some (.brk { { ({ Kind := 0, Id := iY, Seq := 0, Of := 0, Off := q1, Len := 20 } : bQ) with Kind := 1 } with Id := x1.Id })) else after (if (decide (q2 < (IntKind.wrap .i64 ((p0.Chunks.length : Int) + (p0.Snaps.length : Int))))) = true then ((ix p0.Snaps (IntKind.wrap .i64 (q2 - (p0.Chunks.length : Int)))).bind fun x2 => some (.brk { { ({ Kind := 0, Id := iY, Seq := 0, Of := 0, Off := q1, Len := 20 } : bQ) with Kind := 2 } with Seq := x2.Seq })) else (ix p0.Exps (IntKind.wrap .i64 ((IntKind.wrap .i64 (q2 - (p0.Chunks.length : Int))) - (p0.Snaps.length : Int)))).bind fun x3 => some (.brk { { { ({ Kind := 0, Id := iY, Seq := 0, Of := 0, Off := q1, Len := 20 } : bQ) with Kind := 3 } with Seq := x3.Seq } with Of := x3.Of }) : Option (Lp (bQ) (Lp (bQ) (Lp ((List bQ) × Int) (Lp ((List bQ) × Int × Int) (a8 × Bool)))))) fun j2 => some (.brk j2) : Option (Lp (bQ) (Lp ((List bQ) × Int) (Lp ((List bQ) × Int × Int) (a8 × Bool))))) fun j3 => (app q0 ([j3] : List bQ)).bind fun z0 => some (.brk (z0, IntKind.wrap .i64 (q1 + 20))) : Option (Lp ((List bQ) × Int) (Lp ((List bQ) × Int × Int) (a8 × Bool)))) fun ⟨j4, j5⟩ => some (.go (j4, j5, IntKind.wrap .i64 (q2 + 1)))) else some (.brk (q0, q1, q2))
def SE (m : Nat) (p0 : aB) (p1 : lM) : Option (a8 × Bool) :=
 (FY ([IntKind.wrap .u8 (IntKind.wrap .u64 (97 + ((IntKind.wrap .u64 p1.N).tmod 5)))] : List Int)).bind fun st0 => grd (decide ((ByteArray.mk #[110]).size + st0.size ≤ 9223372036854775807)) <| after (if (decide (0 < (p0.Vols.length : Int))) = true then (grd ((IntKind.wrap .u64 (p0.Vols.length : Int)) != 0) <| some (.brk (IntKind.wrap .i64 ((IntKind.wrap .u64 p1.Vol).tmod (IntKind.wrap .u64 (p0.Vols.length : Int)))))) else some (.brk 0) : Option (Lp (Int) (a8 × Bool))) fun j0 => after (if (((IntKind.wrap .u64 p1.Do).tmod 8) == 0) = true then (some (.brk (((IntKind.wrap .u64 p1.Do).tmod 8) == 0))) else some (.brk (((IntKind.wrap .u64 p1.Do).tmod 8) == 1)) : Option (Lp (Bool) (a8 × Bool))) fun j1 => if j1 = true then ((R6 m p1.Tree).bind fun y0 => if (y0.2 != 0) = true then (some (({ Kind := 0, Snap := ({ Seq := 0, Man := ({ Name := ByteArray.empty, Parts := [] } : a9), Locs := [] } : aE), Chunks := [], Seq := 0, Vol := 0, Items := [] } : a8), false)) else (SD m ((ByteArray.mk #[110]) ++ st0) y0.1).bind fun y1 => after (aY (fun s => yY m p0 y1 s.1 s.2) m ([], 0)) fun ⟨r0, r1⟩ => some (({ Kind := 1, Snap := ({ Seq := p0.Seq, Man := y1.1, Locs := [] } : aE), Chunks := r0, Seq := 0, Vol := 0, Items := [] } : a8), true)) else after (if (((IntKind.wrap .u64 p1.Do).tmod 8) == 2) = true then (some (.brk (((IntKind.wrap .u64 p1.Do).tmod 8) == 2))) else some (.brk (((IntKind.wrap .u64 p1.Do).tmod 8) == 5)) : Option (Lp (Bool) (a8 × Bool))) fun j2 => if j2 = true then (if ((p0.Snaps.length : Int) == 0) = true then (some (({ Kind := 0, Snap := ({ Seq := 0, Man := ({ Name := ByteArray.empty, Parts := [] } : a9), Locs := [] } : aE), Chunks := [], Seq := 0, Vol := 0, Items := [] } : a8), false)) else grd ((IntKind.wrap .u64 (p0.Snaps.length : Int)) != 0) <| (ix p0.Snaps (IntKind.wrap .i64 ((IntKind.wrap .u64 p1.N).tmod (IntKind.wrap .u64 (p0.Snaps.length : Int))))).bind fun x0 => if (((IntKind.wrap .u64 p1.Do).tmod 8) == 2) = true then (some (({ Kind := 2, Snap := ({ Seq := 0, Man := ({ Name := ByteArray.empty, Parts := [] } : a9), Locs := [] } : aE), Chunks := [], Seq := x0.Seq, Vol := 0, Items := [] } : a8), true)) else some (({ Kind := 3, Snap := ({ Seq := 0, Man := ({ Name := ByteArray.empty, Parts := [] } : a9), Locs := [] } : aE), Chunks := [], Seq := 0, Vol := j0, Items := ([({ Kind := 3, Id := iY, Seq := p0.Seq, Of := x0.Seq, Off := 13, Len := 17 } : bQ)] : List bQ) } : a8), true)) else after (if (((IntKind.wrap .u64 p1.Do).tmod 8) == 3) = true then (some (.brk (((IntKind.wrap .u64 p1.Do).tmod 8) == 3))) else some (.brk (((IntKind.wrap .u64 p1.Do).tmod 8) == 4)) : Option (Lp (Bool) (a8 × Bool))) fun j3 => if j3 = true then (after (aY (fun s => yZ m p0 p1 s.1 s.2.1 s.2.2) m ([], 13, 0)) fun ⟨r2, r3, r4⟩ => some (({ Kind := 3, Snap := ({ Seq := 0, Man := ({ Name := ByteArray.empty, Parts := [] } : a9), Locs := [] } : aE), Chunks := [], Seq := 0, Vol := j0, Items := r2 } : a8), decide (0 < (r2.length : Int)))) else if (((IntKind.wrap .u64 p1.Do).tmod 8) == 6) = true then (some (({ Kind := 4, Snap := ({ Seq := 0, Man := ({ Name := ByteArray.empty, Parts := [] } : a9), Locs := [] } : aE), Chunks := [], Seq := 0, Vol := j0, Items := [] } : a8), true)) else some (({ Kind := 5, Snap := ({ Seq := 0, Man := ({ Name := ByteArray.empty, Parts := [] } : a9), Locs := [] } : aE), Chunks := [], Seq := 0, Vol := j0, Items := [] } : a8), true)
theorem W35 {w : Nat} {p0 : aB} {p1 : lM} {o : a8 × Bool} (h : aH) (m : SE w p0 p1 = some o) :
 aP Tryz.prog 35 [.agg (aF p0), .agg (fG p1)] h (fun r h' => r = .tup [.agg (aG o.1), .sc (.bool o.2)] ∧ h' = h) := by
 refine fW 248 [.cell 4 62, .tmp 5] Tryz.func35 rfl rfl rfl rfl ?_
 unfold SE at m
 refine v ?_
 refine ve fun u => cQ u rfl rfl fun k2 K3 => qk K3 rfl ?_
 refine ve fun u => cQ u rfl rfl fun k5 K6 => qk K6 rfl ?_
 refine ve fun u => bE ([nZ 0, nZ 0, .sc (.string ByteArray.empty), sZ, sZ, sZ, nZ 0, nZ 0, sZ]) u GB rfl rfl fun k8 K9 => qk K9 rfl ?_
 refine v (vl 1 _ cG rfl rfl rfl (vn (fun _ => eH (List.map cZ ([IntKind.wrap .u8 (IntKind.wrap .u64 (97 + ((IntKind.wrap .u64 p1.N).tmod 5)))] : List Int)) hU rfl rfl rfl rfl) ?_))
 obtain ⟨st0, hs0, m⟩ := aC m
 refine vn (fun _ => LN (c := cZ) hs0 (fun _ => rfl) XR u5 u9 rfl) ?_
 obtain ⟨Z0, m⟩ := lX m
 refine vn (fun _ => wV rfl rfl rfl (of_decide_eq_true Z0)) (v (v (vl 2 _ fZ rfl rfl rfl (dH qG rfl ?_))))
 refine cW m (σ := Int) (τ := Unit) (fun g s => [(some k8, .obj 62 ([nZ 0, nZ 0, .sc (.string ByteArray.empty), sZ, sZ, sZ, nZ 0, nZ 0, sZ])), (some k5, .obj 67 (fG p1)), (some k2, .obj 30 (aF p0))]) (fun g s => .c 2 (.ptr k2 0) (.c 3 (.ptr k5 0) (.c 4 (.ptr k8 0) (.c 6 (.sc (.string ((ByteArray.mk #[110]) ++ st0))) (.c 7 (nZ s) .nil))))) (fun x m => ?_) ?_
 refine v ?_
 refine vi m (fun c0 m => ?_) fun c0 m => ?_
 refine v (vl 1 _ cG rfl rfl rfl (vl 2 _ fZ rfl rfl rfl (dH qG rfl ?_)))
 refine J7 m fun _ m => ?_
 exact bD m (lx (.k5 .nil))
 refine v ?_
 exact bD m (lx (.k5 .nil))
 rintro _ j0 m
 refine v (vl 1 _ cG rfl rfl rfl (v (v ?_)))
 refine cW m (σ := Bool) (τ := Unit) (fun g s => [(some k8, .obj 62 ([nZ 0, nZ 0, .sc (.string ByteArray.empty), sZ, sZ, sZ, nZ 0, nZ 0, sZ])), (some k5, .obj 67 (fG p1)), (some k2, .obj 30 (aF p0))]) (fun g s => .c 2 (.ptr k2 0) (.c 3 (.ptr k5 0) (.c 4 (.ptr k8 0) (.c 6 (.sc (.string ((ByteArray.mk #[110]) ++ st0))) (.c 7 (nZ j0) (.c 47 (.sc (.int .u64 ((IntKind.wrap .u64 p1.Do).tmod 8))) (.c 48 (.sc (.bool s)) .nil))))))) (fun x m => ?_) ?_
 refine v ?_
 refine vi m (fun c1 m => ?_) fun c1 m => ?_
 refine v ?_
 exact bD m (lx (.k7 .nil))
 refine v ?_
 exact bD m (lx (.k7 .nil))
 rintro _ j1 m
 refine v ?_
 refine vi m (fun c2 m => ?_) fun c2 m => ?_
 refine v (vl 1 _ TM rfl rfl rfl ?_)
 refine vk W85 WB m rfl rfl fun _ m => ?_
 refine v (v ?_)
 refine vi m (fun c3 m => ?_) fun c3 m => ?_
 refine v (vn (fun _ => eV ([nZ 0, nZ 0, .sc (.string ByteArray.empty), sZ, sZ, sZ, nZ 0, nZ 0, sZ]) tC rfl) ?_)
 refine ve fun u => aL 0 ([nZ 0, nZ 0, .sc (.string ByteArray.empty), sZ, sZ, sZ, nZ 0, nZ 0, sZ]) u rfl rfl rfl rfl rL rfl rfl fun K0 => qk K0 rfl ?_
 refine v ?_
 cases m
 exact vr fun u => dY.of2 (.inl rfl) (n3 (.agg ([nZ 0, nZ 0, .sc (.string ByteArray.empty), sZ, sZ, sZ, nZ 0, nZ 0, sZ])) mP rfl (bB 0 u rfl) rfl) (fL _ _ (.sc (.bool _)) rfl) (aV (List.nil_sublist _) u).1 (aX.agg (.k3 (.cons (aS _) (.cons (aS _) (.cons (aS _) (.k2 (.cons (aS _) .nil))))))) (aX.refl _ _) ⟨rfl, rfl⟩
 refine v (v ?_)
 refine vk W86 WH m rfl rfl fun y0 m => ?_
 refine ve fun u => bE ([.sc (.string ByteArray.empty), sZ]) u GA rfl rfl fun k44 K1 => qk K1 rfl ?_
 refine ve fun u => aL 0 (bC y0.1) u rfl rfl rfl rfl uW rfl rfl fun K2 => qk K2 rfl ?_
 refine v (vl 3 _ cG rfl rfl rfl (vl 0 (.agg (bC y0.1)) lH rfl rfl rfl (vn (fun _ => eV (([nZ p0.Seq] : List AV) ++ bC y0.1 ++ ([sZ] : List AV)) L0 rfl) (vn (fun _ => eV (([nZ 1, nZ p0.Seq] : List AV) ++ bC y0.1 ++ ([sZ, sZ, nZ 0, nZ 0, sZ] : List AV)) tC rfl) ?_))))
 refine ve fun u => bE ([nZ 0, nZ 0, .sc (.string ByteArray.empty), sZ, sZ, sZ, nZ 0, nZ 0, sZ]) u GB rfl rfl fun k49 K4 => qk K4 rfl ?_
 refine ve fun u => aL 0 (([nZ 1, nZ p0.Seq] : List AV) ++ bC y0.1 ++ ([sZ, sZ, nZ 0, nZ 0, sZ] : List AV)) u rfl rfl rfl rfl rL rfl rfl fun K5 => qk K5 rfl ?_
 refine v (oO (PJ (.tok 44 35 (([] : List aA).length * 35)) 1 (([nZ 1, nZ p0.Seq] : List AV) ++ bC y0.1 ++ ([sZ, ow none 35 (List.map aD []), nZ 0, nZ 0, sZ] : List AV)) rfl (.k2 (cO.app 2 rfl (.cons (aX.refl _ _) (.cons (hM (c := aD) _ 35) (.k3 .nil)))))) ?_)
 refine lT m (σ := (List aA) × Int) (τ := Option bZ) (fun g s => [(g, .tok 44 35 ((s.1 : List aA).length * 35)), (some k49, .obj 62 (([nZ 1, nZ p0.Seq] : List AV) ++ bC y0.1 ++ ([sZ, ow g 35 (List.map aD s.1), nZ 0, nZ 0, sZ] : List AV))), (some k44, .obj 58 (bC y0.1)), (some k8, .obj 62 ([nZ 0, nZ 0, .sc (.string ByteArray.empty), sZ, sZ, sZ, nZ 0, nZ 0, sZ])), (some k5, .obj 67 (fG p1)), (some k2, .obj 30 (aF p0))]) (fun g s => (g = none → s.1 = [])) (fun g s => .c 2 (.ptr k2 0) (.c 4 (.ptr k8 0) (.c 11 (.sl none 1 (List.map fY y0.2.1)) (.c 13 (.ptr k49 0) (.c 14 (nZ s.2) .nil))))) none (fun _ => rfl) (lx (.k5 .nil)) ?_ ?_
 rintro tg0 ⟨q0, q1⟩ x t0 m
 replace m : yY w p0 y0 q0 q1 = some x := m
 unfold yY at m
 refine v (dH J8 rfl (v ?_))
 refine vi m (fun c4 m => ?_) fun c4 m => ?_
 refine v (v (v ?_))
 refine vx m v8 rfl rfl fun _ _ m => ?_
 refine vk YE R9 m rfl rfl fun y1 m => ?_
 refine ve fun u => bE (bF iY) u EH rfl rfl fun k255 K7 => qk K7 rfl ?_
 refine ve fun u => aL 0 (bF y1) u rfl rfl rfl rfl EF rfl rfl fun K8 => qk K8 rfl ?_
 refine v (vl 6 (.agg (aF p0)) eK rfl rfl rfl (vl 0 (.agg (bF y1)) fV rfl rfl rfl ?_))
 refine vk S2 JF m rfl rfl fun _ m => ?_
 refine pX m (σ := (List aA)) (τ := Option bZ) (fun g s => [(some k255, .obj 36 (bF y1)), (g, .tok 44 35 ((s : List aA).length * 35)), (some k49, .obj 62 (([nZ 1, nZ p0.Seq] : List AV) ++ bC y0.1 ++ ([sZ, ow g 35 (List.map aD s), nZ 0, nZ 0, sZ] : List AV))), (some k44, .obj 58 (bC y0.1)), (some k8, .obj 62 ([nZ 0, nZ 0, .sc (.string ByteArray.empty), sZ, sZ, sZ, nZ 0, nZ 0, sZ])), (some k5, .obj 67 (fG p1)), (some k2, .obj 30 (aF p0))]) (fun g s => (g = none → s = [])) (fun g s => .c 2 (.ptr k2 0) (.c 4 (.ptr k8 0) (.c 11 (.sl none 1 (List.map fY y0.2.1)) (.c 13 (.ptr k49 0) (.c 14 (nZ q1) .nil))))) (fun x m => ?_) ?_
 refine v ?_
 refine vi m (fun c5 m => ?_) fun c5 m => ?_
 refine v ?_
 refine vz [(11, some k49, .obj 62 (([nZ 1, nZ p0.Seq] : List AV) ++ bC y0.1 ++ ([sZ, ow tg0 35 (List.map aD q0), nZ 0, nZ 0, sZ] : List AV))), (1000000, some k255, .obj 36 (bF y1))] mixed (fun u => ⟨fun _ => aO 2 u rfl, fun _ => aO 0 u rfl, trivial⟩) fun u => ?_
 refine aM 0 rfl (fun _ _ _ _ => aJ kL rfl rfl) ?_
 refine aM 1 rfl (fun _ _ hi hB => bH (ow tg0 35 (List.map aD q0)) eF rfl (At.s (bR.get 0 hi rfl (hB 11 (by kernel_rfl)))) rfl) ?_
 refine aM 2 rfl (fun _ _ hi hB => bH (.agg (bF y1)) fV rfl (At.s (bR.get 1 hi rfl (hB 1000000 (by kernel_rfl)))) rfl) ?_
 refine aM 3 rfl (fun _ _ _ _ => bN (.sl _ _ _) rfl) ?_
 refine aM 4 rfl (fun _ _ _ _ => bN (.sc (.int _ _)) rfl) ?_
 obtain ⟨x0, X0, m⟩ := aC m
 refine aM 5 rfl (fun _ _ _ _ => mL X0 v8 rfl rfl) ?_
 refine aM 6 rfl (fun _ _ _ _ => mW (.sl none 1 (List.map cZ x0)) jR rfl rfl) ?_
 refine aM 7 rfl (fun _ _ _ _ => iD (y := .agg (aD ({ Id := y1, Staged := true, Data := x0, Locs := [] } : aA))) (eV (bF y1 ++ ([.sc (.bool true), .sl none 1 (List.map cZ x0), sZ] : List AV)) PP rfl) (aX.agg (cO.app 32 rfl (.k2 (.cons (aS _) .nil))))) ?_
 refine aM 8 rfl (fun _ _ _ _ => eH (List.map aD ([({ Id := y1, Staged := true, Data := x0, Locs := [] } : aA)] : List aA)) jP rfl rfl rfl rfl) ?_
 obtain ⟨z0, Z1, m⟩ := aC m
 refine eX 9 rfl (by kernel_rfl) (eS (c := aD) 1 Z1 jP rfl rfl rfl t0 u rfl fun tg1 t1 K10 => ⟨⟨fun _ => aO 2 K10 rfl, fun _ => aO 0 K10 rfl, trivial⟩, ?_⟩)
 refine aM 10 rfl (fun _ _ _ _ => aJ kL rfl rfl) ?_
 refine eX 11 rfl (by kernel_rfl) (aL 2 (([nZ 1, nZ p0.Seq] : List AV) ++ bC y0.1 ++ ([sZ, ow tg1 35 (List.map aD z0), nZ 0, nZ 0, sZ] : List AV)) K10 rfl rfl (hO rfl) (mY _ _ _) xO rfl rfl fun K11 => ⟨⟨fun e => absurd e (by decide), fun _ => aO 0 K11 rfl, trivial⟩, ?_⟩)
 refine dL (by kernel_rfl) (qk (f := .c 97 _ (.c 96 _ (.c 95 _ (.c 94 _ (.c 93 _ (.c 92 _ (.c 91 _ (.c 90 _ (.c 89 _ (.c 88 _ (.c 87 _ _))))))))))) K11 rfl ?_)
 exact fH m tg1 t1 (lx (.k5 .nil))
 refine v ?_
 exact fH m tg0 t0 (lx (.k5 .nil))
 rintro tg2 j2 t2 m
 refine v ?_
 exact fH m tg2 t2 (kR [1, 2, 3, 4, 5, 6] rfl rfl (.k5 .nil))
 refine v ?_
 exact lD m tg0 t0 (lx (.k5 .nil))
 rintro tg3 ⟨r0, r1⟩ t3 m
 refine v (vl 1 (.agg (([nZ 1, nZ p0.Seq] : List AV) ++ bC y0.1 ++ ([sZ, ow tg3 35 (List.map aD r0), nZ 0, nZ 0, sZ] : List AV))) mP rfl rfl rfl ?_)
 refine ve fun u => aL 3 (([nZ 1, nZ p0.Seq] : List AV) ++ bC y0.1 ++ ([sZ, ow tg3 35 (List.map aD r0), nZ 0, nZ 0, sZ] : List AV)) u rfl rfl rfl (by repeat (first | exact rfl | refine cK (gG _ _ _) ?_ | refine cK (bX _ _ _) ?_ | refine cK rfl ?_)) rL rfl rfl fun K12 => qk K12 rfl ?_
 refine v ?_
 cases m
 exact vr fun u => dY.of2 (.inl rfl) (n3 (.agg (([nZ 1, nZ p0.Seq] : List AV) ++ bC y0.1 ++ ([sZ, ow tg3 35 (List.map aD r0), nZ 0, nZ 0, sZ] : List AV))) mP rfl (bB 3 u rfl) rfl) (fL _ _ (.sc (.bool _)) rfl) (aV (List.nil_sublist _) u).1 (aX.agg (.k2 (cO.app 2 rfl (.cons (aS _) (.cons ((eG _ 0 t3 u rfl)) (.k2 (.cons (aS _) .nil))))))) (aX.refl _ _) ⟨rfl, rfl⟩
 refine v ?_
 refine cW m (σ := Bool) (τ := Unit) (fun g s => [(some k8, .obj 62 ([nZ 0, nZ 0, .sc (.string ByteArray.empty), sZ, sZ, sZ, nZ 0, nZ 0, sZ])), (some k5, .obj 67 (fG p1)), (some k2, .obj 30 (aF p0))]) (fun g s => .c 2 (.ptr k2 0) (.c 3 (.ptr k5 0) (.c 4 (.ptr k8 0) (.c 7 (nZ j0) (.c 47 (.sc (.int .u64 ((IntKind.wrap .u64 p1.Do).tmod 8))) (.c 99 (.sc (.bool s)) .nil)))))) (fun x m => ?_) ?_
 refine v ?_
 refine vi m (fun c6 m => ?_) fun c6 m => ?_
 refine v ?_
 exact bD m (lx (.k6 .nil))
 refine v ?_
 exact bD m (lx (.k6 .nil))
 rintro _ j3 m
 refine v ?_
 refine vi m (fun c7 m => ?_) fun c7 m => ?_
 refine v (vl 2 _ fK rfl rfl rfl (dH kH rfl (v ?_)))
 refine vi m (fun c8 m => ?_) fun c8 m => ?_
 refine v (vn (fun _ => eV ([nZ 0, nZ 0, .sc (.string ByteArray.empty), sZ, sZ, sZ, nZ 0, nZ 0, sZ]) tC rfl) ?_)
 refine ve fun u => aL 0 ([nZ 0, nZ 0, .sc (.string ByteArray.empty), sZ, sZ, sZ, nZ 0, nZ 0, sZ]) u rfl rfl rfl rfl rL rfl rfl fun K13 => qk K13 rfl ?_
 refine v ?_
 cases m
 exact vr fun u => dY.of2 (.inl rfl) (n3 (.agg ([nZ 0, nZ 0, .sc (.string ByteArray.empty), sZ, sZ, sZ, nZ 0, nZ 0, sZ])) mP rfl (bB 0 u rfl) rfl) (fL _ _ (.sc (.bool _)) rfl) (aV (List.nil_sublist _) u).1 (aX.agg (.k3 (.cons (aS _) (.cons (aS _) (.cons (aS _) (.k2 (.cons (aS _) .nil))))))) (aX.refl _ _) ⟨rfl, rfl⟩
 refine v (v ?_)
 refine vz [(1000000, some k2, .obj 30 (aF p0)), (1000000, some k5, .obj 67 (fG p1))] mixed (fun u => ⟨fun _ => aO 2 u rfl, fun _ => aO 1 u rfl, trivial⟩) fun u => ?_
 refine aM 0 rfl (fun _ _ _ _ => aJ eP rfl rfl) ?_
 refine aM 1 rfl (fun _ _ hi hB => bH (.sl none 4 (List.map aN p0.Snaps)) fK rfl (At.s (bR.get 0 hi rfl (hB 1000000 (by kernel_rfl)))) rfl) ?_
 refine aM 2 rfl (fun _ _ _ _ => aJ L9 rfl rfl) ?_
 refine aM 3 rfl (fun _ _ hi hB => bH (nZ p1.N) cG rfl (At.s (bR.get 1 hi rfl (hB 1000000 (by kernel_rfl)))) rfl) ?_
 refine aM 4 rfl (fun _ _ _ _ => EA PK L7 rfl) ?_
 refine aM 5 rfl (fun _ _ _ _ => aJ eP rfl rfl) ?_
 refine aM 6 rfl (fun _ _ hi hB => bH (.sl none 4 (List.map aN p0.Snaps)) fK rfl (At.s (bR.get 0 hi rfl (hB 1000000 (by kernel_rfl)))) rfl) ?_
 refine aM 7 rfl (fun _ _ _ _ => qB kH rfl) ?_
 refine aM 8 rfl (fun _ _ _ _ => EA PK L7 rfl) ?_
 obtain ⟨Z2, m⟩ := lX m
 refine aM 9 rfl (fun _ _ _ _ => lJ rfl rfl rfl (OZ Z2)) ?_
 refine aM 10 rfl (fun _ _ _ _ => EA L7 PK rfl) ?_
 obtain ⟨x1, X1, m⟩ := aC m
 refine aM 11 rfl (fun _ _ _ _ => mL X1 kJ rfl rfl) ?_
 refine aM 12 rfl (fun _ _ _ _ => mW (.agg (aN x1)) AI rfl rfl) ?_
 refine eX 13 rfl (by kernel_rfl) (bE ([nZ 0, .sc (.string ByteArray.empty), sZ, sZ]) u xT rfl rfl fun k329 K14 => ⟨⟨fun _ => aO 3 K14 rfl, fun _ => aO 2 K14 rfl, trivial⟩, ?_⟩)
 refine eX 14 rfl (by kernel_rfl) (aL 0 (aN x1) K14 rfl rfl rfl rfl I7 rfl rfl fun K15 => ⟨⟨fun _ => aO 3 K15 rfl, fun _ => aO 2 K15 rfl, trivial⟩, ?_⟩)
 refine dL (by kernel_rfl) (qk (f := .c 16 _ (.c 119 _ (.c 118 _ (.c 117 _ (.c 116 _ (.c 115 _ (.c 114 _ (.c 113 _ (.c 112 _ (.c 111 _ (.c 110 _ (.c 109 _ (.c 108 _ (.c 107 _ _)))))))))))))) K15 rfl ?_)
 refine v (vl 2 _ cG rfl rfl rfl (v ?_))
 refine vi m (fun c9 m => ?_) fun c9 m => ?_
 refine v (vl 0 _ cG rfl rfl rfl (vn (fun _ => eV ([nZ 2, nZ 0, .sc (.string ByteArray.empty), sZ, sZ, sZ, nZ x1.Seq, nZ 0, sZ]) tC rfl) ?_))
 refine ve fun u => aL 1 ([nZ 2, nZ 0, .sc (.string ByteArray.empty), sZ, sZ, sZ, nZ x1.Seq, nZ 0, sZ]) u rfl rfl rfl rfl rL rfl rfl fun K16 => qk K16 rfl ?_
 refine v ?_
 cases m
 exact vr fun u => dY.of2 (.inl rfl) (n3 (.agg ([nZ 2, nZ 0, .sc (.string ByteArray.empty), sZ, sZ, sZ, nZ x1.Seq, nZ 0, sZ])) mP rfl (bB 1 u rfl) rfl) (fL _ _ (.sc (.bool _)) rfl) (aV (List.nil_sublist _) u).1 (aX.agg (.k3 (.cons (aS _) (.cons (aS _) (.cons (aS _) (.k2 (.cons (aS _) .nil))))))) (aX.refl _ _) ⟨rfl, rfl⟩
 refine v (v (vl 3 _ cG rfl rfl rfl (vl 0 _ cG rfl rfl rfl (vn (fun _ => eV (bM ({ Kind := 3, Id := iY, Seq := p0.Seq, Of := x1.Seq, Off := 13, Len := 17 } : bQ)) PN rfl) (vn (fun _ => eH (List.map bM ([({ Kind := 3, Id := iY, Seq := p0.Seq, Of := x1.Seq, Off := 13, Len := 17 } : bQ)] : List bQ)) I5 rfl rfl rfl rfl) (vn (fun _ => eV ([nZ 3, nZ 0, .sc (.string ByteArray.empty), sZ, sZ, sZ, nZ 0, nZ j0, .sl none 37 (List.map bM ([({ Kind := 3, Id := iY, Seq := p0.Seq, Of := x1.Seq, Off := 13, Len := 17 } : bQ)] : List bQ))]) tC rfl) ?_))))))
 refine ve fun u => aL 1 ([nZ 3, nZ 0, .sc (.string ByteArray.empty), sZ, sZ, sZ, nZ 0, nZ j0, .sl none 37 (List.map bM ([({ Kind := 3, Id := iY, Seq := p0.Seq, Of := x1.Seq, Off := 13, Len := 17 } : bQ)] : List bQ))]) u rfl rfl rfl rfl rL rfl rfl fun K17 => qk K17 rfl ?_
 refine v ?_
 cases m
 exact vr fun u => dY.of2 (.inl rfl) (n3 (.agg ([nZ 3, nZ 0, .sc (.string ByteArray.empty), sZ, sZ, sZ, nZ 0, nZ j0, .sl none 37 (List.map bM ([({ Kind := 3, Id := iY, Seq := p0.Seq, Of := x1.Seq, Off := 13, Len := 17 } : bQ)] : List bQ))])) mP rfl (bB 1 u rfl) rfl) (fL _ _ (.sc (.bool _)) rfl) (aV (List.nil_sublist _) u).1 (aX.agg (.k3 (.cons (aS _) (.cons (aS _) (.cons (aS _) (.k3 .nil)))))) (aX.refl _ _) ⟨rfl, rfl⟩
 refine v ?_
 refine cW m (σ := Bool) (τ := Unit) (fun g s => [(some k8, .obj 62 ([nZ 0, nZ 0, .sc (.string ByteArray.empty), sZ, sZ, sZ, nZ 0, nZ 0, sZ])), (some k5, .obj 67 (fG p1)), (some k2, .obj 30 (aF p0))]) (fun g s => .c 2 (.ptr k2 0) (.c 3 (.ptr k5 0) (.c 4 (.ptr k8 0) (.c 7 (nZ j0) (.c 47 (.sc (.int .u64 ((IntKind.wrap .u64 p1.Do).tmod 8))) (.c 136 (.sc (.bool s)) .nil)))))) (fun x m => ?_) ?_
 refine v ?_
 refine vi m (fun c10 m => ?_) fun c10 m => ?_
 refine v ?_
 exact bD m (lx (.k6 .nil))
 refine v ?_
 exact bD m (lx (.k6 .nil))
 rintro _ j4 m
 refine v ?_
 refine vi m (fun c11 m => ?_) fun c11 m => ?_
 refine v (v (v (oO (B4 (.tok 38 37 (([] : List bQ).length * 37)) 17 (ow none 37 (List.map bM [])) (hM _ _)) ?_)))
 refine lT m (σ := (List bQ) × Int × Int) (τ := Option bZ) (fun g s => [(g, .tok 38 37 ((s.1 : List bQ).length * 37)), (some k8, .obj 62 ([nZ 0, nZ 0, .sc (.string ByteArray.empty), sZ, sZ, sZ, nZ 0, nZ 0, sZ])), (some k5, .obj 67 (fG p1)), (some k2, .obj 30 (aF p0))]) (fun g s => (g = none → s.1 = [])) (fun g s => .c 2 (.ptr k2 0) (.c 3 (.ptr k5 0) (.c 4 (.ptr k8 0) (.c 7 (nZ j0) (.c 17 (ow g 37 (List.map bM s.1)) (.c 18 (nZ s.2.1) (.c 19 (nZ s.2.2) .nil))))))) none (fun _ => rfl) (lx (.k7 .nil)) ?_ ?_
 rintro tg4 ⟨q2, q3, q4⟩ x t4 m
 replace m : yZ w p0 p1 q2 q3 q4 = some x := m
 unfold yZ at m
 refine vs (vs ?_)
 refine cW m (σ := Bool) (τ := Unit) (fun g s => [(tg4, .tok 38 37 ((q2 : List bQ).length * 37)), (some k8, .obj 62 ([nZ 0, nZ 0, .sc (.string ByteArray.empty), sZ, sZ, sZ, nZ 0, nZ 0, sZ])), (some k5, .obj 67 (fG p1)), (some k2, .obj 30 (aF p0))]) (fun g s => .c 2 (.ptr k2 0) (.c 3 (.ptr k5 0) (.c 4 (.ptr k8 0) (.c 7 (nZ j0) (.c 17 (ow tg4 37 (List.map bM q2)) (.c 18 (nZ q3) (.c 19 (nZ q4) (.c 156 (.sc (.bool s)) .nil)))))))) (fun x m => ?_) ?_
 refine v (vl 3 _ eF rfl rfl rfl (dH hS rfl (vl 3 _ fK rfl rfl rfl (dH kH rfl (vl 3 _ iK rfl rfl rfl (dH o7 rfl ?_))))))
 refine vi m (fun b0 m => ?_) fun b0 m => ?_
 rw [b0]
 refine vn (fun _ => qC oI t4 rfl) ?_
 exact bD m (lx (.k8 .nil))
 rw [b0]
 exact bD m (lx (.k8 .nil))
 rintro _ j5 m
 refine v ?_
 refine vi m (fun c12 m => ?_) fun c12 m => ?_
 refine v (vs ?_)
 refine pX m (σ := (List bQ) × Int) (τ := Option bZ) (fun g s => [(g, .tok 38 37 ((s.1 : List bQ).length * 37)), (some k8, .obj 62 ([nZ 0, nZ 0, .sc (.string ByteArray.empty), sZ, sZ, sZ, nZ 0, nZ 0, sZ])), (some k5, .obj 67 (fG p1)), (some k2, .obj 30 (aF p0))]) (fun g s => (g = none → s.1 = [])) (fun g s => .c 2 (.ptr k2 0) (.c 3 (.ptr k5 0) (.c 4 (.ptr k8 0) (.c 7 (nZ j0) (.c 17 (ow g 37 (List.map bM s.1)) (.c 18 (nZ s.2) (.c 19 (nZ q4) .nil))))))) (fun x m => ?_) ?_
 refine v (vs (vs ?_))
 refine cW m (σ := Bool) (τ := Unit) (fun g s => [(tg4, .tok 38 37 ((q2 : List bQ).length * 37)), (some k8, .obj 62 ([nZ 0, nZ 0, .sc (.string ByteArray.empty), sZ, sZ, sZ, nZ 0, nZ 0, sZ])), (some k5, .obj 67 (fG p1)), (some k2, .obj 30 (aF p0))]) (fun g s => .c 2 (.ptr k2 0) (.c 3 (.ptr k5 0) (.c 4 (.ptr k8 0) (.c 7 (nZ j0) (.c 17 (ow tg4 37 (List.map bM q2)) (.c 18 (nZ q3) (.c 19 (nZ q4) (.c 171 (.sc (.bool s)) .nil)))))))) (fun x m => ?_) ?_
 refine v (vl 2 _ PS rfl rfl rfl (dH PR rfl ?_))
 refine vi m (fun b1 m => ?_) fun b1 m => ?_
 rw [b1]
 refine vl 2 _ PS rfl rfl rfl ?_
 refine vx m TN rfl rfl fun _ _ m => ?_
 exact bD m (lx (.k8 .nil))
 rw [b1]
 exact bD m (lx (.k8 .nil))
 rintro _ j6 m
 refine v ?_
 refine vi m (fun c13 m => ?_) fun c13 m => ?_
 refine v ?_
 exact fH m tg4 t4 (lx (.k7 .nil))
 refine v (v (vn (fun _ => eV (bM ({ Kind := 0, Id := iY, Seq := 0, Of := 0, Off := q3, Len := 20 } : bQ)) PN rfl) ?_))
 refine ve fun u => bE (([nZ 0] : List AV) ++ bF iY ++ ([nZ 0, nZ 0, nZ 0, nZ 0] : List AV)) u PO rfl rfl fun k1523 K18 => qk K18 rfl ?_
 refine ve fun u => aL 0 (bM ({ Kind := 0, Id := iY, Seq := 0, Of := 0, Off := q3, Len := 20 } : bQ)) u rfl rfl rfl rfl PM rfl rfl fun K19 => qk K19 rfl ?_
 refine v (v (vl 4 _ eF rfl rfl rfl (dH hS rfl ?_)))
 refine cW m (σ := bQ) (τ := Unit) (fun g s => [(some k1523, .obj 38 (bM s)), (tg4, .tok 38 37 ((q2 : List bQ).length * 37)), (some k8, .obj 62 ([nZ 0, nZ 0, .sc (.string ByteArray.empty), sZ, sZ, sZ, nZ 0, nZ 0, sZ])), (some k5, .obj 67 (fG p1)), (some k2, .obj 30 (aF p0))]) (fun g s => .c 2 (.ptr k2 0) (.c 3 (.ptr k5 0) (.c 4 (.ptr k8 0) (.c 7 (nZ j0) (.c 17 (ow tg4 37 (List.map bM q2)) (.c 18 (nZ q3) (.c 19 (nZ q4) (.c 20 (.ptr k1523 0) .nil)))))))) (fun x m => ?_) ?_
 refine v ?_
 refine vi m (fun c14 m => ?_) fun c14 m => ?_
 refine v ?_
 refine vz [(1000000, some k2, .obj 30 (aF p0)), (7, some k1523, .obj 38 (bM ({ Kind := 0, Id := iY, Seq := 0, Of := 0, Off := q3, Len := 20 } : bQ)))] mixed (fun u => ⟨fun _ => aO 4 u rfl, fun _ => aO 0 u rfl, trivial⟩) fun u => ?_
 refine aM 0 rfl (fun _ _ _ _ => aJ eL rfl rfl) ?_
 refine aM 1 rfl (fun _ _ hi hB => bH (.sl none 35 (List.map aD p0.Chunks)) eF rfl (At.s (bR.get 0 hi rfl (hB 1000000 (by kernel_rfl)))) rfl) ?_
 refine aM 2 rfl (fun _ _ _ _ => bN (.sc (.int _ _)) rfl) ?_
 obtain ⟨x2, X2, m⟩ := aC m
 refine aM 3 rfl (fun _ _ _ _ => mL X2 eW rfl rfl) ?_
 refine aM 4 rfl (fun _ _ _ _ => mM m9 rfl rfl) ?_
 refine aM 5 rfl (fun _ _ _ _ => mW (.agg (bF x2.Id)) fV rfl rfl) ?_
 refine aM 6 rfl (fun _ _ _ _ => aJ l4 rfl rfl) ?_
 refine eX 7 rfl (by kernel_rfl) (aL 0 (bM { ({ Kind := 0, Id := iY, Seq := 0, Of := 0, Off := q3, Len := 20 } : bQ) with Kind := 1 }) u rfl rfl rfl rfl xN rfl rfl fun K20 => ⟨⟨fun _ => aO 4 K20 rfl, fun e => absurd e (by decide), trivial⟩, ?_⟩)
 refine aM 8 rfl (fun _ _ _ _ => aJ xQ rfl rfl) ?_
 refine eX 9 rfl (by kernel_rfl) (aL 0 (bM { { ({ Kind := 0, Id := iY, Seq := 0, Of := 0, Off := q3, Len := 20 } : bQ) with Kind := 1 } with Id := x2.Id }) K20 rfl rfl rfl rfl EF rfl rfl fun K21 => ⟨⟨fun _ => aO 4 K21 rfl, fun e => absurd e (by decide), trivial⟩, ?_⟩)
 refine dL (by kernel_rfl) (qk (f := .c 207 _ (.c 206 _ (.c 205 _ (.c 204 _ (.c 203 _ (.c 202 _ (.c 201 _ (.c 200 _ _)))))))) K21 rfl ?_)
 exact bD m (lx (.k8 .nil))
 refine v (vl 4 _ eF rfl rfl rfl (dH hS rfl (vl 4 _ fK rfl rfl rfl (dH kH rfl ?_))))
 refine cW m (σ := bQ) (τ := Unit) (fun g s => [(some k1523, .obj 38 (bM s)), (tg4, .tok 38 37 ((q2 : List bQ).length * 37)), (some k8, .obj 62 ([nZ 0, nZ 0, .sc (.string ByteArray.empty), sZ, sZ, sZ, nZ 0, nZ 0, sZ])), (some k5, .obj 67 (fG p1)), (some k2, .obj 30 (aF p0))]) (fun g s => .c 2 (.ptr k2 0) (.c 3 (.ptr k5 0) (.c 4 (.ptr k8 0) (.c 7 (nZ j0) (.c 17 (ow tg4 37 (List.map bM q2)) (.c 18 (nZ q3) (.c 19 (nZ q4) (.c 20 (.ptr k1523 0) .nil)))))))) (fun x m => ?_) ?_
 refine v ?_
 refine vi m (fun c15 m => ?_) fun c15 m => ?_
 refine v ?_
 refine vz [(1000000, some k2, .obj 30 (aF p0)), (11, some k1523, .obj 38 (bM ({ Kind := 0, Id := iY, Seq := 0, Of := 0, Off := q3, Len := 20 } : bQ)))] mixed (fun u => ⟨fun _ => aO 4 u rfl, fun _ => aO 0 u rfl, trivial⟩) fun u => ?_
 refine aM 0 rfl (fun _ _ _ _ => aJ eP rfl rfl) ?_
 refine aM 1 rfl (fun _ _ hi hB => bH (.sl none 4 (List.map aN p0.Snaps)) fK rfl (At.s (bR.get 0 hi rfl (hB 1000000 (by kernel_rfl)))) rfl) ?_
 refine aM 2 rfl (fun _ _ _ _ => bN (.sc (.int _ _)) rfl) ?_
 refine aM 3 rfl (fun _ _ _ _ => aJ eL rfl rfl) ?_
 refine aM 4 rfl (fun _ _ hi hB => bH (.sl none 35 (List.map aD p0.Chunks)) eF rfl (At.s (bR.get 0 hi rfl (hB 1000000 (by kernel_rfl)))) rfl) ?_
 refine aM 5 rfl (fun _ _ _ _ => qB hS rfl) ?_
 refine aM 6 rfl (fun _ _ _ _ => lJ rfl rfl rfl trivial) ?_
 obtain ⟨x3, X3, m⟩ := aC m
 refine aM 7 rfl (fun _ _ _ _ => mL X3 kJ rfl rfl) ?_
 refine aM 8 rfl (fun _ _ _ _ => mM qI rfl rfl) ?_
 refine aM 9 rfl (fun _ _ _ _ => mW (nZ x3.Seq) cG rfl rfl) ?_
 refine aM 10 rfl (fun _ _ _ _ => aJ l4 rfl rfl) ?_
 refine eX 11 rfl (by kernel_rfl) (aL 0 (bM { ({ Kind := 0, Id := iY, Seq := 0, Of := 0, Off := q3, Len := 20 } : bQ) with Kind := 2 }) u rfl rfl rfl rfl xN rfl rfl fun K22 => ⟨⟨fun _ => aO 4 K22 rfl, fun e => absurd e (by decide), trivial⟩, ?_⟩)
 refine aM 12 rfl (fun _ _ _ _ => aJ lE rfl rfl) ?_
 refine eX 13 rfl (by kernel_rfl) (aL 0 (bM { { ({ Kind := 0, Id := iY, Seq := 0, Of := 0, Off := q3, Len := 20 } : bQ) with Kind := 2 } with Seq := x3.Seq }) K22 rfl rfl rfl rfl xN rfl rfl fun K23 => ⟨⟨fun _ => aO 4 K23 rfl, fun e => absurd e (by decide), trivial⟩, ?_⟩)
 refine dL (by kernel_rfl) (qk (f := .c 229 _ (.c 228 _ (.c 227 _ (.c 226 _ (.c 225 _ (.c 224 _ (.c 223 _ (.c 222 _ (.c 221 _ (.c 220 _ (.c 219 _ (.c 218 _ _)))))))))))) K23 rfl ?_)
 exact bD m (lx (.k8 .nil))
 refine v (vl 4 _ iK rfl rfl rfl (vl 4 _ eF rfl rfl rfl (dH hS rfl (vl 4 _ fK rfl rfl rfl (dH kH rfl ?_)))))
 refine vx m jQ rfl rfl fun x4 _ m => ?_
 refine va (.agg (aR x4)) tD rfl rfl ?_
 refine ve fun u => bE ([nZ 0, nZ 0, sZ]) u qJ rfl rfl fun k1631 K24 => qk K24 rfl ?_
 refine ve fun u => aL 0 (aR x4) u rfl rfl rfl rfl CD rfl rfl fun K25 => qk K25 rfl ?_
 refine v ?_
 refine vz [(1000000, some k1631, .obj 99 (aR x4)), (5, some k1523, .obj 38 (bM ({ Kind := 0, Id := iY, Seq := 0, Of := 0, Off := q3, Len := 20 } : bQ)))] mixed (fun u => ⟨fun _ => aO 0 u rfl, fun _ => aO 1 u rfl, trivial⟩) fun u => ?_
 refine aM 0 rfl (fun _ _ _ _ => aJ CE rfl rfl) ?_
 refine aM 1 rfl (fun _ _ hi hB => bH (nZ x4.Seq) cG rfl (At.s (bR.get 0 hi rfl (hB 1000000 (by kernel_rfl)))) rfl) ?_
 refine aM 2 rfl (fun _ _ _ _ => aJ MH rfl rfl) ?_
 refine aM 3 rfl (fun _ _ hi hB => bH (nZ x4.Of) cG rfl (At.s (bR.get 0 hi rfl (hB 1000000 (by kernel_rfl)))) rfl) ?_
 refine aM 4 rfl (fun _ _ _ _ => aJ l4 rfl rfl) ?_
 refine eX 5 rfl (by kernel_rfl) (aL 1 (bM { ({ Kind := 0, Id := iY, Seq := 0, Of := 0, Off := q3, Len := 20 } : bQ) with Kind := 3 }) u rfl rfl rfl rfl xN rfl rfl fun K26 => ⟨⟨fun _ => aO 0 K26 rfl, fun e => absurd e (by decide), trivial⟩, ?_⟩)
 refine aM 6 rfl (fun _ _ _ _ => aJ lE rfl rfl) ?_
 refine eX 7 rfl (by kernel_rfl) (aL 1 (bM { { ({ Kind := 0, Id := iY, Seq := 0, Of := 0, Off := q3, Len := 20 } : bQ) with Kind := 3 } with Seq := x4.Seq }) K26 rfl rfl rfl rfl xN rfl rfl fun K27 => ⟨⟨fun _ => aO 0 K27 rfl, fun e => absurd e (by decide), trivial⟩, ?_⟩)
 refine aM 8 rfl (fun _ _ _ _ => aJ xR rfl rfl) ?_
 refine eX 9 rfl (by kernel_rfl) (aL 1 (bM { { { ({ Kind := 0, Id := iY, Seq := 0, Of := 0, Off := q3, Len := 20 } : bQ) with Kind := 3 } with Seq := x4.Seq } with Of := x4.Of }) K27 rfl rfl rfl rfl xN rfl rfl fun K28 => ⟨⟨fun _ => aO 0 K28 rfl, fun e => absurd e (by decide), trivial⟩, ?_⟩)
 refine dL (by kernel_rfl) (qk (f := .c 193 _ (.c 192 _ (.c 191 _ (.c 190 _ (.c 189 _ (.c 188 _ (.c 187 _ _))))))) K28 rfl ?_)
 exact bD m (kR [1, 2, 3, 4, 5] rfl rfl (.k8 .nil))
 rintro _ j7 m
 exact bD m (lx (.k8 .nil))
 rintro _ j8 m
 refine v (vl 0 (.agg (bM j8)) F4 rfl rfl rfl (vn (fun _ => eH (List.map bM ([j8] : List bQ)) I5 rfl rfl rfl rfl) ?_))
 obtain ⟨z1, Z3, m⟩ := aC m
 refine ve fun u => eS (c := bM) 1 Z3 I5 rfl rfl rfl t4 u rfl fun tg5 t5 K29 => qk K29 rfl ?_
 exact fH m tg5 t5 (kR [1, 2, 3, 4] rfl rfl (.k7 .nil))
 rintro tg6 ⟨j9, j10⟩ t6 m
 refine v ?_
 exact fH m tg6 t6 (lx (.k7 .nil))
 refine v ?_
 exact lD m tg4 t4 (lx (.k7 .nil))
 rintro tg7 ⟨r2, r3, r4⟩ t7 m
 refine v (vn (fun _ => eV ([nZ 3, nZ 0, .sc (.string ByteArray.empty), sZ, sZ, sZ, nZ 0, nZ j0, ow tg7 37 (List.map bM r2)]) tC (by cases tg7 <;> rfl)) (vn (fun _ => qC oI t7 rfl) ?_))
 refine ve fun u => aL 1 ([nZ 3, nZ 0, .sc (.string ByteArray.empty), sZ, sZ, sZ, nZ 0, nZ j0, ow tg7 37 (List.map bM r2)]) u rfl rfl rfl (by repeat (first | exact rfl | refine cK (gG _ _ _) ?_ | refine cK (bX _ _ _) ?_ | refine cK rfl ?_)) rL rfl rfl fun K30 => qk K30 rfl ?_
 refine v ?_
 cases m
 exact vr fun u => dY.of2 (.inl rfl) (n3 (.agg ([nZ 3, nZ 0, .sc (.string ByteArray.empty), sZ, sZ, sZ, nZ 0, nZ j0, ow tg7 37 (List.map bM r2)])) mP rfl (bB 1 u rfl) rfl) (fL _ _ (.sc (.bool _)) rfl) (aV (List.nil_sublist _) u).1 (aX.agg (.k3 (.cons (aS _) (.cons (aS _) (.cons (aS _) (.k2 (.cons ((eG _ 0 t7 u rfl)) .nil))))))) (aX.refl _ _) ⟨rfl, rfl⟩
 refine v (v ?_)
 refine vi m (fun c16 m => ?_) fun c16 m => ?_
 refine v (vn (fun _ => eV ([nZ 4, nZ 0, .sc (.string ByteArray.empty), sZ, sZ, sZ, nZ 0, nZ j0, sZ]) tC rfl) ?_)
 refine ve fun u => aL 0 ([nZ 4, nZ 0, .sc (.string ByteArray.empty), sZ, sZ, sZ, nZ 0, nZ j0, sZ]) u rfl rfl rfl rfl rL rfl rfl fun K31 => qk K31 rfl ?_
 refine v ?_
 cases m
 exact vr fun u => dY.of2 (.inl rfl) (n3 (.agg ([nZ 4, nZ 0, .sc (.string ByteArray.empty), sZ, sZ, sZ, nZ 0, nZ j0, sZ])) mP rfl (bB 0 u rfl) rfl) (fL _ _ (.sc (.bool _)) rfl) (aV (List.nil_sublist _) u).1 (aX.agg (.k3 (.cons (aS _) (.cons (aS _) (.cons (aS _) (.k2 (.cons (aS _) .nil))))))) (aX.refl _ _) ⟨rfl, rfl⟩
 refine v (v (vn (fun _ => eV ([nZ 5, nZ 0, .sc (.string ByteArray.empty), sZ, sZ, sZ, nZ 0, nZ j0, sZ]) tC rfl) ?_))
 refine ve fun u => aL 0 ([nZ 5, nZ 0, .sc (.string ByteArray.empty), sZ, sZ, sZ, nZ 0, nZ j0, sZ]) u rfl rfl rfl rfl rL rfl rfl fun K32 => qk K32 rfl ?_
 refine v ?_
 cases m
 exact vr fun u => dY.of2 (.inl rfl) (n3 (.agg ([nZ 5, nZ 0, .sc (.string ByteArray.empty), sZ, sZ, sZ, nZ 0, nZ j0, sZ])) mP rfl (bB 0 u rfl) rfl) (fL _ _ (.sc (.bool _)) rfl) (aV (List.nil_sublist _) u).1 (aX.agg (.k3 (.cons (aS _) (.cons (aS _) (.cons (aS _) (.k2 (.cons (aS _) .nil))))))) (aX.refl _ _) ⟨rfl, rfl⟩
theorem WI : aU Tryz.prog 35 = true := by kernel_rfl
open Go.Vm
def zA (m : Nat) (p0 : List lM) (q0 : Int) (q1 : Int) : Option (Lp (Int) (Lp (Int) (Bool))) :=
 (ix p0 q0).bind fun x0 => if (decide (q1 < (x0.Tree.length : Int))) = true then (after ((ix p0 q0).bind fun x1 => (ix x1.Tree q1).bind fun x2 => if (decide (300 < (x2.Data.length : Int))) = true then (some (.brk true)) else (ix p0 q0).bind fun x3 => (ix x3.Tree q1).bind fun x4 => some (.brk (decide (50 < (x4.Path.size : Int)))) : Option (Lp (Bool) (Lp (Int) (Lp (Int) (Bool))))) fun j0 => if j0 = true then (some (.ret (.ret true))) else some (.go (IntKind.wrap .i64 (q1 + 1)))) else some (.brk q1)
def zB (m : Nat) (p0 : List lM) (q0 : Int) : Option (Lp (Int) (Bool)) :=
 after (if (decide (q0 < (p0.length : Int))) = true then (some (.brk (decide (q0 < 30)))) else some (.brk false) : Option (Lp (Bool) (Lp (Int) (Bool)))) fun j0 => if j0 = true then (after ((ix p0 q0).bind fun x0 => if (decide (300 < (x0.Pick.length : Int))) = true then (some (.brk true)) else (ix p0 q0).bind fun x1 => some (.brk (decide (10 < (x1.Tree.length : Int)))) : Option (Lp (Bool) (Lp (Int) (Bool)))) fun j1 => if j1 = true then (some (.ret true)) else after (aY (fun s => zA m p0 q0 s) m 0) fun r0 => some (.go (IntKind.wrap .i64 (q0 + 1)))) else some (.brk q0)
def SG (m : Nat) (p0 : List lM) : Option (Bool) :=
 if (decide (120 < (p0.length : Int))) = true then (some true) else after (aY (fun s => zB m p0 s) m 0) fun r0 => some false
theorem W14 {u : Nat} {p0 : List lM} {o : Bool} (h : aH) (m : SG u p0 = some o) :
 aP Tryz.prog 14 [.sl none 5 (List.map fG p0)] h (fun r h' => r = .sc (.bool o) ∧ h' = h) := by
 refine fW 68 [.tmp 2] Tryz.func14 rfl rfl rfl rfl ?_
 unfold SG at m
 refine v (v (dH LU rfl (v ?_)))
 refine vi m (fun c4 m => ?_) fun c4 m => ?_
 refine v (v ?_)
 injection m with m; subst m
 exact eM rfl
 refine v (v ?_)
 refine eO m (σ := Int) (τ := Unit) (fun g s => []) (fun g s => .c 0 (.sl none 5 (List.map fG p0)) (.c 3 (nZ s) .nil)) () (lx (.k2 .nil)) ?_ ?_
 rintro _ q0 x m
 replace m : zB u p0 q0 = some x := m
 unfold zB at m
 refine vs (vs ?_)
 refine cW m (σ := Bool) (τ := Unit) (fun g s => []) (fun g s => .c 0 (.sl none 5 (List.map fG p0)) (.c 3 (nZ q0) (.c 15 (.sc (.bool s)) .nil))) (fun x m => ?_) ?_
 refine v (dH LU rfl ?_)
 refine vi m (fun b0 m => ?_) fun b0 m => ?_
 rw [b0]
 exact bD m (lx (.k3 .nil))
 rw [b0]
 exact bD m (lx (.k3 .nil))
 rintro _ j0 m
 refine v ?_
 refine vi m (fun c0 m => ?_) fun c0 m => ?_
 refine v (v (vs (vs ?_)))
 refine cW m (σ := Bool) (τ := Unit) (fun g s => []) (fun g s => .c 0 (.sl none 5 (List.map fG p0)) (.c 3 (nZ q0) (.c 33 (.sc (.bool s)) .nil))) (fun x m => ?_) ?_
 refine v ?_
 refine vx m EE rfl rfl fun _ _ m => ?_
 refine dH PR rfl ?_
 refine vi m (fun b1 m => ?_) fun b1 m => ?_
 rw [b1]
 exact bD m (lx (.k3 .nil))
 rw [b1]
 refine vx m EE rfl rfl fun _ _ m => ?_
 refine dH uX rfl ?_
 exact bD m (lx (.k3 .nil))
 rintro _ j1 m
 refine v ?_
 refine vi m (fun c1 m => ?_) fun c1 m => ?_
 refine v (v ?_)
 refine gA m fun m => ?_
 injection m with m; subst m
 exact eM rfl
 refine v (v ?_)
 refine eO m (σ := Int) (τ := Unit) (fun g s => []) (fun g s => .c 0 (.sl none 5 (List.map fG p0)) (.c 3 (nZ q0) (.c 4 (nZ s) .nil))) () (lx (.k3 .nil)) ?_ ?_
 rintro _ q1 x m
 replace m : zA u p0 q0 q1 = some x := m
 unfold zA at m
 refine v ?_
 refine vx m EE rfl rfl fun _ _ m => ?_
 refine dH uX rfl (v ?_)
 refine vi m (fun c2 m => ?_) fun c2 m => ?_
 refine v (v (vs ?_))
 refine cW m (σ := Bool) (τ := Unit) (fun g s => []) (fun g s => .c 0 (.sl none 5 (List.map fG p0)) (.c 3 (nZ q0) (.c 4 (nZ q1) (.c 67 (.sc (.bool s)) .nil)))) (fun x m => ?_) ?_
 refine v ?_
 refine vx m EE rfl rfl fun _ _ m => ?_
 refine vx m mQ rfl rfl fun _ _ m => ?_
 refine dH jJ rfl ?_
 refine vi m (fun b2 m => ?_) fun b2 m => ?_
 rw [b2]
 exact bD m (lx (.k4 .nil))
 rw [b2]
 refine vx m EE rfl rfl fun _ _ m => ?_
 refine vx m mQ rfl rfl fun _ _ m => ?_
 refine vn (fun _ => lW I2 rfl) ?_
 exact bD m (lx (.k4 .nil))
 rintro _ j2 m
 refine v ?_
 refine vi m (fun c3 m => ?_) fun c3 m => ?_
 refine v (v ?_)
 refine gA m fun m => ?_
 refine gA m fun m => ?_
 injection m with m; subst m
 exact eM rfl
 refine v (v ?_)
 exact bD m (lx (.k3 .nil))
 refine v ?_
 exact iS m (lx (.k3 .nil))
 rintro _ r0 m
 refine v ?_
 exact bD m (lx (.k2 .nil))
 refine v ?_
 exact iS m (lx (.k2 .nil))
 rintro _ r1 m
 refine v (v ?_)
 injection m with m; subst m
 exact eM rfl
theorem WJ : aU Tryz.prog 14 = true := by kernel_rfl
def zC (m : Nat) (p0 : List Int) (q0 : List Int) (q1 : Int) : Option (Lp ((List Int) × Int) ((List Int))) :=
 after (if (decide (q1 < (p0.length : Int))) = true then (some (.brk (decide (q1 < 8)))) else some (.brk false) : Option (Lp (Bool) (Lp ((List Int) × Int) ((List Int))))) fun j0 => if j0 = true then ((ix p0 q1).bind fun x0 => (app q0 ([bW .and .i64 x0 1] : List Int)).bind fun z0 => some (.go (z0, IntKind.wrap .i64 (q1 + 1)))) else some (.brk (q0, q1))
def SH (m : Nat) (p0 : List Int) : Option ((List Int)) :=
 after (aY (fun s => zC m p0 s.1 s.2) m ([], 0)) fun ⟨r0, r1⟩ => after (if ((r0.length : Int) == 0) = true then (some (.brk ([0] : List Int))) else some (.brk r0) : Option (Lp ((List Int)) ((List Int)))) fun j0 => some j0
theorem W16 {w : Nat} {p0 : List Int} {o : (List Int)} (h : aH) (m : SH w p0 = some o) :
 aP Tryz.prog 16 [.sl none 1 (List.map gQ p0)] h (fun r h' => r = .sl none 1 (List.map gQ o) ∧ h' = h) := by
 refine fW 28 [.tmp 2] Tryz.func16 rfl rfl rfl rfl ?_
 unfold SH at m
 refine v (v (v (oO (B4 (.tok 3 1 (([] : List Int).length * 1)) 3 (ow none 1 (List.map gQ [])) (hM _ _)) ?_)))
 refine lT m (σ := (List Int) × Int) (τ := Option bZ) (fun g s => [(g, .tok 3 1 ((s.1 : List Int).length * 1))]) (fun g s => (g = none → s.1 = [])) (fun g s => .c 0 (.sl none 1 (List.map gQ p0)) (.c 3 (ow g 1 (List.map gQ s.1)) (.c 4 (nZ s.2) .nil))) none (fun _ => rfl) (lx (.k3 .nil)) ?_ ?_
 rintro tg0 ⟨q0, q1⟩ x t0 m
 replace m : zC w p0 q0 q1 = some x := m
 unfold zC at m
 refine vs (vs ?_)
 refine cW m (σ := Bool) (τ := Unit) (fun g s => [(tg0, .tok 3 1 ((q0 : List Int).length * 1))]) (fun g s => .c 0 (.sl none 1 (List.map gQ p0)) (.c 3 (ow tg0 1 (List.map gQ q0)) (.c 4 (nZ q1) (.c 12 (.sc (.bool s)) .nil)))) (fun x m => ?_) ?_
 refine v (dH ED rfl ?_)
 refine vi m (fun b0 m => ?_) fun b0 m => ?_
 rw [b0]
 exact bD m (lx (.k4 .nil))
 rw [b0]
 exact bD m (lx (.k4 .nil))
 rintro _ j0 m
 refine v ?_
 refine vi m (fun c0 m => ?_) fun c0 m => ?_
 refine v (v (v ?_))
 refine vx m LT rfl rfl fun x0 _ m => ?_
 refine vn (fun _ => eH (List.map gQ ([bW .and .i64 x0 1] : List Int)) I3 rfl rfl rfl rfl) ?_
 obtain ⟨z0, Z0, m⟩ := aC m
 refine ve fun u => eS (c := gQ) 0 Z0 I3 rfl rfl rfl t0 u rfl fun tg1 t1 K0 => qk K0 rfl ?_
 refine v ?_
 exact fH m tg1 t1 (lx (.k3 .nil))
 refine v ?_
 exact lD m tg0 t0 (lx (.k3 .nil))
 rintro tg2 ⟨r0, r1⟩ t2 m
 refine v (vn (fun _ => qC ED t2 rfl) ?_)
 refine pX m (σ := (List Int)) (τ := Option bZ) (fun g s => [(g, .tok 3 1 ((s : List Int).length * 1))]) (fun g s => (g = none → s = [])) (fun g s => .c 3 (ow g 1 (List.map gQ s)) .nil) (fun x m => ?_) ?_
 refine v ?_
 refine vi m (fun c1 m => ?_) fun c1 m => ?_
 refine v ?_
 refine ve fun u => BT (c := gQ) ([0] : List Int) u I3 rfl rfl rfl rfl fun tg3 t3 K1 => qk K1 rfl ?_
 exact fH m tg3 t3 (kR [0] rfl rfl (.cons (aX.refl _ _) .nil))
 refine v ?_
 exact fH m tg2 t2 (lx (.cons (aX.refl _ _) .nil))
 rintro tg4 j1 t4 m
 refine v (v ?_)
 injection m with m; subst m
 exact vr fun u => dY.of1 (.inl rfl) (fL _ _ (ow _ _ _) rfl) (aV (List.nil_sublist _) u).1 ((eG _ 0 t4 u rfl)) ⟨rfl, rfl⟩
theorem WK : aU Tryz.prog 16 = true := by kernel_rfl
def zD (m : Nat) (p1 : List lM) (q0 : aB) (q1 : Int) : Option (Lp (aB × Int) (aB)) :=
 after (if (decide (q1 < (p1.length : Int))) = true then (some (.brk (decide (q1 < 30)))) else some (.brk false) : Option (Lp (Bool) (Lp (aB × Int) (aB)))) fun j0 => if j0 = true then ((ix p1 q1).bind fun x0 => (SE m q0 x0).bind fun y0 => after (if y0.2 = true then ((R4 m q0 y0.1).bind fun y1 => after (if (y1.2 == 0) = true then (some (.brk y1.1)) else some (.brk q0) : Option (Lp (aB) (Lp (aB) (Lp (aB × Int) (aB))))) fun j1 => some (.brk j1)) else some (.brk q0) : Option (Lp (aB) (Lp (aB × Int) (aB)))) fun j2 => some (.go (j2, IntKind.wrap .i64 (q1 + 1)))) else some (.brk (q0, q1))
def SI (m : Nat) (p0 : List Int) (p1 : List lM) : Option (aB) :=
 (QV m p0).bind fun y6 => after (aY (fun s => zD m p1 s.1 s.2) m (y6, 0)) fun ⟨r0, r1⟩ => some r0
theorem W15 {w : Nat} {p0 : List Int} {p1 : List lM} {o : aB} (h : aH) (m : SI w p0 p1 = some o) :
 aP Tryz.prog 15 [.sl none 1 (List.map gQ p0), .sl none 5 (List.map fG p1)] h (fun r h' => r = .agg (aF o) ∧ h' = h) := by
 refine fW 43 [.cell 4 30] Tryz.func15 rfl rfl rfl rfl ?_
 unfold SI at m
 refine v ?_
 refine ve fun u => bE ([nZ 0, sZ, sZ, sZ, sZ]) u mO rfl rfl fun k2 K3 => qk K3 rfl ?_
 refine v ?_
 refine vk ZO U9 m rfl rfl fun y6 m => ?_
 refine ve fun u => bE ([nZ 0, sZ, sZ, sZ, sZ]) u mO rfl rfl fun k8 K9 => qk K9 rfl ?_
 refine ve fun u => aL 0 (aF y6) u rfl rfl rfl rfl jF rfl rfl fun K0 => qk K0 rfl ?_
 refine v ?_
 refine eO m (σ := aB × Int) (τ := Unit) (fun g s => [(some k8, .obj 30 (aF s.1)), (some k2, .obj 30 ([nZ 0, sZ, sZ, sZ, sZ]))]) (fun g s => .c 1 (.sl none 5 (List.map fG p1)) (.c 4 (.ptr k2 0) (.c 5 (.ptr k8 0) (.c 6 (nZ s.2) .nil)))) () (lx (.k4 .nil)) ?_ ?_
 rintro _ ⟨q0, q1⟩ x m
 replace m : zD w p1 q0 q1 = some x := m
 unfold zD at m
 refine vs (vs ?_)
 refine cW m (σ := Bool) (τ := Unit) (fun g s => [(some k8, .obj 30 (aF q0)), (some k2, .obj 30 ([nZ 0, sZ, sZ, sZ, sZ]))]) (fun g s => .c 1 (.sl none 5 (List.map fG p1)) (.c 4 (.ptr k2 0) (.c 5 (.ptr k8 0) (.c 6 (nZ q1) (.c 20 (.sc (.bool s)) .nil))))) (fun x m => ?_) ?_
 refine v (dH LU rfl ?_)
 refine vi m (fun b0 m => ?_) fun b0 m => ?_
 rw [b0]
 exact bD m (lx (.k5 .nil))
 rw [b0]
 exact bD m (lx (.k5 .nil))
 rintro _ j0 m
 refine v ?_
 refine vi m (fun c0 m => ?_) fun c0 m => ?_
 refine v (v (v ?_))
 refine vz [(1000000, some k8, .obj 30 (aF q0))] mixed (fun u => ⟨fun _ => aO 0 u rfl, trivial⟩) fun u => ?_
 refine aM 0 rfl (fun _ _ hi hB => bH (.agg (aF q0)) eK rfl (At.s (bR.get 0 hi rfl (hB 1000000 (by kernel_rfl)))) rfl) ?_
 refine aM 1 rfl (fun _ _ _ _ => bN (.sl _ _ _) rfl) ?_
 refine aM 2 rfl (fun _ _ _ _ => bN (.sc (.int _ _)) rfl) ?_
 obtain ⟨x0, X0, m⟩ := aC m
 refine aM 3 rfl (fun _ _ _ _ => mL X0 EE rfl rfl) ?_
 refine aM 4 rfl (fun _ _ _ _ => mW (.agg (fG x0)) TO rfl rfl) ?_
 obtain ⟨y0, Y0, m⟩ := aC m
 refine aM 5 rfl (fun _ _ _ _ => cE (W35 _ Y0) rfl WI rfl) ?_
 refine aM 6 rfl (fun _ _ _ _ => bN (.tup _) rfl) ?_
 refine aM 7 rfl (fun _ _ _ _ => OX (.agg _) rfl rfl) ?_
 refine aM 8 rfl (fun _ _ _ _ => OX (.sc (.bool _)) rfl rfl) ?_
 refine eX 9 rfl (by kernel_rfl) (bE ([nZ 0, nZ 0, .sc (.string ByteArray.empty), sZ, sZ, sZ, nZ 0, nZ 0, sZ]) u GB rfl rfl fun k155 K1 => ⟨⟨fun _ => aO 1 K1 rfl, trivial⟩, ?_⟩)
 refine eX 10 rfl (by kernel_rfl) (aL 0 (aG y0.1) K1 rfl rfl rfl rfl rL rfl rfl fun K2 => ⟨⟨fun _ => aO 1 K2 rfl, trivial⟩, ?_⟩)
 refine aM 11 rfl (fun _ _ _ _ => gU (.sc (.bool _)) rfl) ?_
 refine dL (by kernel_rfl) (qk (f := .c 8 _ (.c 7 _ (.c 31 _ (.c 30 _ (.c 23 _ (.c 29 _ (.c 28 _ (.c 27 _ (.c 26 _ (.c 25 _ (.c 24 _ _))))))))))) K2 rfl ?_)
 refine v ?_
 refine cW m (σ := aB) (τ := Unit) (fun g s => [(some k155, .obj 62 (aG y0.1)), (some k8, .obj 30 (aF s)), (some k2, .obj 30 ([nZ 0, sZ, sZ, sZ, sZ]))]) (fun g s => .c 1 (.sl none 5 (List.map fG p1)) (.c 4 (.ptr k2 0) (.c 5 (.ptr k8 0) (.c 6 (nZ q1) .nil)))) (fun x m => ?_) ?_
 refine v ?_
 refine vi m (fun c1 m => ?_) fun c1 m => ?_
 refine v (vl 1 (.agg (aF q0)) eK rfl rfl rfl (vl 0 (.agg (aG y0.1)) mP rfl rfl rfl ?_))
 refine vk W36 WA m rfl rfl fun y1 m => ?_
 refine ve fun u => bE ([nZ 0, sZ, sZ, sZ, sZ]) u mO rfl rfl fun k180 K4 => qk K4 rfl ?_
 refine ve fun u => aL 0 (aF y1.1) u rfl rfl rfl rfl jF rfl rfl fun K5 => qk K5 rfl ?_
 refine v ?_
 refine cW m (σ := aB) (τ := Unit) (fun g s => [(some k180, .obj 30 (aF y1.1)), (some k155, .obj 62 (aG y0.1)), (some k8, .obj 30 (aF s)), (some k2, .obj 30 ([nZ 0, sZ, sZ, sZ, sZ]))]) (fun g s => .c 1 (.sl none 5 (List.map fG p1)) (.c 4 (.ptr k2 0) (.c 5 (.ptr k8 0) (.c 6 (nZ q1) .nil)))) (fun x m => ?_) ?_
 refine v ?_
 refine vi m (fun c2 m => ?_) fun c2 m => ?_
 refine v (vl 0 (.agg (aF y1.1)) eK rfl rfl rfl ?_)
 refine ve fun u => aL 2 (aF y1.1) u rfl rfl rfl rfl jF rfl rfl fun K6 => qk K6 rfl ?_
 exact bD m (lx (.k4 .nil))
 refine v ?_
 exact bD m (lx (.k4 .nil))
 rintro _ j1 m
 exact bD m (kR [1, 2, 3] rfl rfl (.k4 .nil))
 refine v ?_
 exact bD m (lx (.k4 .nil))
 rintro _ j2 m
 refine v ?_
 exact bD m (kR [1, 2] rfl rfl (.k4 .nil))
 refine v ?_
 exact iS m (lx (.k4 .nil))
 rintro _ ⟨r0, r1⟩ m
 refine v (vl 0 (.agg (aF r0)) eK rfl rfl rfl ?_)
 refine ve fun u => aL 1 (aF r0) u rfl rfl rfl rfl jF rfl rfl fun K7 => qk K7 rfl ?_
 refine v ?_
 injection m with m; subst m
 exact vr fun u => dY.of1 (.inl rfl) (n3 (.agg (aF r0)) eK rfl (bB 1 u rfl) rfl) (aV (List.nil_sublist _) u).1 (aX.refl _ _) ⟨rfl, rfl⟩
theorem WL : aU Tryz.prog 15 = true := by kernel_rfl
end Go.Proofs.YtbbifdfldpfphaaGreat
namespace Go.Vm
def T {α : Type} (m : Option α) (Q : α → Prop) : Prop := ∃ a, m = some a ∧ Q a
def L3 {σ ρ : Type} (G B : σ → Prop) (R : ρ → Prop) : Lp σ ρ → Prop
 | .go s => G s
 | .brk s => B s
 | .ret r => R r
section
variable {α β σ ρ : Type} {Q : β → Prop}
theorem T.some {a : β} (h : Q a) : T (some a) Q := ⟨a, rfl, h⟩
theorem T.mono {P : β → Prop} {m : Option β} (h : T m P) (k : ∀ a, P a → Q a) : T m Q := by obtain ⟨a, e, p⟩ := h; exact ⟨a, e, k a p⟩
theorem T.of {m : Option β} {a : β} (h : m = .some a) (hq : Q a) : T m Q := ⟨a, h, hq⟩
theorem T.bind {m : Option α} {k : α → Option β} (P : α → Prop) (h : T m P) (hk : ∀ a, P a → T (k a) Q) : T (m.bind k) Q := by
 obtain ⟨a, e, p⟩ := h
 rw [e]; exact hk a p
theorem T.bindEq {m : Option α} {k : α → Option β} {a : α} (h : m = .some a) (hk : T (k a) Q) : T (m.bind k) Q := by rw [h]; exact hk
theorem T.ite {c : Prop} [Decidable c] {a b : Option β} (h1 : c → T a Q) (h2 : ¬c → T b Q) : T (if c then a else b) Q := by
 by_cases h : c
 ·rw [if_pos h]; exact h1 h
 ·rw [if_neg h]; exact h2 h
theorem T.grd {b : Bool} {k : Option β} (hb : b = true) (h : T k Q) : T (grd b k) Q := by unfold Go.Vm.grd; rw [if_pos hb]; exact h
theorem T.ix {l : List α} {i : Int} {k : α → Option β} (h0 : 0 ≤ i) (h1 : i < l.length) (hk : ∀ x, l[i.toNat]? = Option.some x → x ∈ l → T (k x) Q) : T ((ix l i).bind k) Q := by
 have hx : l[i.toNat]? = Option.some l[i.toNat] := List.getElem?_eq_getElem (by omega)
 rw [tJ l h0, hx]
 exact hk _ hx (List.getElem_mem _)
theorem T.app {xs ys : List α} {k : List α → Option β} (h : xs.length + ys.length ≤ 1000000000) (hk : T (k (xs ++ ys)) Q) : T ((app xs ys).bind k) Q := by rw [dR h]; exact hk
theorem T.slc {l : List α} {a b : Int} {k : List α → Option β} (h : 0 ≤ a ∧ a ≤ b ∧ b ≤ l.length) (hk : T (k ((l.take b.toNat).drop a.toNat)) Q) : T ((slc l a b).bind k) Q := by unfold Go.Vm.slc; rw [if_pos h]; exact hk
variable {R : ρ → Prop} {G B : σ → Prop}
theorem T.go {s : σ} (h : G s) : T (.some (Lp.go s)) (L3 G B R) := ⟨_, rfl, h⟩
theorem T.brk {s : σ} (h : B s) : T (.some (Lp.brk s)) (L3 G B R) := ⟨_, rfl, h⟩
theorem T.ret {r : ρ} (h : R r) : T (.some (Lp.ret r)) (L3 G B R) := ⟨_, rfl, h⟩
theorem T.after {m : Option (Lp σ ρ)} {k : σ → Option ρ} (h : T m (L3 (fun _ => False) (fun s => T (k s) R) R)) : T (after m k) R := by
 obtain ⟨a, e, p⟩ := h
 rw [e]
 cases a with
 | go s => exact p.elim
 | brk s => exact p
 | ret r => exact ⟨_, rfl, p⟩
theorem T.loopAt {step : σ → Option (Lp σ ρ)} (I : σ → Prop) (μ : σ → Nat) (hs : ∀ s, I s → T (step s) (L3 (fun s' => I s' ∧ μ s' < μ s) B R)) : ∀ (F : Nat) (s : σ), I s → μ s < F → T (aY step F s) (L3 (fun _ => False) B R)
 | 0, _, _, h => by omega
 | F + 1, s, hi, hm => by
  obtain ⟨a, e, p⟩ := hs s hi
  unfold aY
  rw [e]
  cases a with
  | go s' => exact T.loopAt I μ hs F s' p.1 (by have := p.2; omega)
  | brk s' => exact ⟨_, rfl, p⟩
  | ret r => exact ⟨_, rfl, p⟩
theorem T.loop {step : σ → Option (Lp σ ρ)} {F : Nat} {s0 : σ} {k : σ → Option ρ} (I : σ → Prop) (μ : σ → Nat) (B : σ → Prop) (hm : μ s0 < F) (h0 : I s0) (hs : ∀ s, I s → T (step s) (L3 (fun s' => I s' ∧ μ s' < μ s) B R)) (hk : ∀ s, B s → T (k s) R) :
    T (Go.Vm.after (aY step F s0) k) R := T.after ((T.loopAt I μ hs F s0 h0 hm).mono fun a => by
      cases a with
      | go s => exact fun h => h.elim
      | brk s => exact hk s
      | ret r => exact id)
end
theorem E2 {n : Nat} (x : Ar n) : x.1.length = n := x.2
theorem SJ (n : Int) : 0 ≤ IntKind.wrap .u8 n ∧ IntKind.wrap .u8 n < 256 := by rw [zW]; omega
theorem wrI (n : Int) : -9223372036854775808 ≤ IntKind.wrap .i64 n ∧ IntKind.wrap .i64 n < 9223372036854775808 := by
 have e : IntKind.wrap .i64 n = (if decide (n % 18446744073709551616 ≥ 9223372036854775808) = true then n % 18446744073709551616 - 18446744073709551616 else n % 18446744073709551616) := rfl
 rw [e]
 simp only [decide_eq_true_eq]
 split <;> omega
end Go.Vm
namespace Go.Proofs.YtbbifdfldpfphaaGreat
open Go.Vm
theorem HZ {F : Nat} {a b : Int} (hb : 0 ≤ b) : T (pW F a b) fun _ => True := by
 unfold pW
 refine .grd (by simpa using hb) (.grd (by simpa using JZ _) (.some trivial))
theorem WM {F : Nat} {l : List Int} (hF : 1000 ≤ F) (hl : l.length ≤ 300) : T (HU F l) fun r => r.length % 64 = 0 ∧ r.length ≤ l.length + 80 := by
 unfold HU
 refine .app (by simp; omega) (.app (by simp; omega) ?_)
 refine .loop (fun q => l.length + 1 ≤ q.length ∧ q.length ≤ (l.length + 72) / 64 * 64 - 8 + 0 ∧ l.length + 9 ≤ (l.length + 72) / 64 * 64) (fun q => (l.length + 72) / 64 * 64 - 8 - q.length) (fun q => (q.length + 8) % 64 = 0 ∧ q.length ≤ l.length + 64) (by simp; omega) (by simp; omega) (fun q hq => ?_) (fun q hq => ?_)
 ·unfold sB
  rw [wr (by omega) (by omega), Int.tmod_eq_emod_of_nonneg (by omega)]
  refine .ite (fun hc => ?_) fun hc => ?_
  ·have : ((q.length : Int) + 8) % 64 ≠ 0 := by simpa using hc
   refine .app (by simp; omega) (.go ?_)
   simp only [List.length_append, List.length_singleton]
   omega
  ·have : ((q.length : Int) + 8) % 64 = 0 := by simpa using hc
   exact .brk (by omega)
 ·refine .loop (fun s => -1 ≤ s.2 ∧ s.2 ≤ 7 ∧ (s.1.length : Int) + s.2 = q.length + 7) (fun s => (s.2 + 1).toNat) (fun s => s.1.length = q.length + 8) (by simp; omega) (by simp) (fun s hs => ?_) (fun s hs => .some (by omega))
  obtain ⟨a, i⟩ := s
  unfold sC
  simp only at hs ⊢
  refine .ite (fun hc => ?_) fun hc => ?_
  ·have hc := of_decide_eq_true hc
   rw [wr (n := i - 1) (by omega) (by omega)]
   refine .grd (by simpa using JZ _) (.app (by simp; omega) (.go ?_))
   simp only [List.length_append, List.length_singleton]
   omega
  ·exact .brk (by simp only [decide_eq_true_eq] at hc; show a.length = _; omega)
theorem SK {F : Nat} {d : List Int} (hF : 1000 ≤ F) (hl : d.length ≤ 300) : T (OL F d) mS := by
 unfold OL
 refine .bind (fun _ => True) ⟨_, rfl, trivial⟩ fun y6 _ => ?_
 refine .bind _ (WM hF hl) fun y hy => ?_
 refine .loop (fun s => 0 ≤ s.2 ∧ s.2 % 64 = 0 ∧ s.2 ≤ y.length) (fun s => (y.length - s.2).toNat) (fun _ => True) (by simp; omega) (by simp) (fun s hs => ?_) (fun s _ => ?_)
 ·obtain ⟨h, i⟩ := s
  unfold yV
  simp only at hs ⊢
  refine .ite (fun hc => ?_) fun hc => .brk trivial
  have hc := of_decide_eq_true hc
  refine .loop (fun s => 0 ≤ s.2 ∧ s.2 ≤ 64) (fun s => (64 - s.2).toNat) (fun _ => True) (by simp; omega) (by simp) (fun s hs2 => ?_) (fun s _ => ?_)
  ·obtain ⟨w, j⟩ := s
   unfold yS
   simp only at hs2 ⊢
   refine .ite (fun hc2 => ?_) fun hc2 => .brk trivial
   have hc2 := of_decide_eq_true hc2
   have fin : IntKind.wrap .i64 (j + 1) = j + 1 := wr (by omega) (by omega)
   refine .after (.ite (fun hc3 => ?_) fun hc3 => ?_)
   ·have hc3 := of_decide_eq_true hc3
    refine .loop (fun s => 0 ≤ s.2 ∧ s.2 ≤ 4) (fun s => (4 - s.2).toNat) (fun _ => True) (by simp; omega) (by simp) (fun s hs4 => ?_) (fun s _ => .brk (.go (by rw [fin]; simp only; omega)))
    obtain ⟨w, k⟩ := s
    unfold yR
    simp only at hs4 ⊢
    refine .ite (fun hc4 => ?_) fun hc4 => .brk trivial
    have hc4 := of_decide_eq_true hc4
    rw [wr (n := 4 * j) (by omega) (by omega), wr (n := i + 4 * j) (by omega) (by omega), wr (n := i + 4 * j + k) (by omega) (by omega), wr (n := k + 1) (by omega) (by omega)]
    refine .ix (by omega) (by rw [E2]; omega) fun _ _ _ => .ix (by omega) (by omega) fun _ _ _ => .ix (by omega) (by rw [E2]; omega) fun _ _ _ => .go ?_
    simp only
    omega
   ·have hc3 : ¬ j < 16 := by simpa using hc3
    rw [wr (n := j - 15) (by omega) (by omega), wr (n := j - 2) (by omega) (by omega), wr (n := j - 16) (by omega) (by omega), wr (n := j - 7) (by omega) (by omega)]
    refine .ix (by omega) (by rw [E2]; omega) fun _ _ _ => .ix (by omega) (by rw [E2]; omega) fun _ _ _ => .ix (by omega) (by rw [E2]; omega) fun _ _ _ => .ix (by omega) (by rw [E2]; omega) fun _ _ _ => ?_
    refine .bind _ (HZ (by omega)) fun _ _ => .bind _ (HZ (by omega)) fun _ _ => .bind _ (HZ (by omega)) fun _ _ => .bind _ (HZ (by omega)) fun _ _ => ?_
    refine .ix (by omega) (by rw [E2]; omega) fun _ _ _ => .brk (.go ?_)
    rw [fin]; simp only; omega
  ·refine .loop (fun s => 0 ≤ s.2 ∧ s.2 ≤ 64) (fun s => (64 - s.2).toNat) (fun _ => True) (by simp; omega) (by simp) (fun s hs2 => ?_) (fun s _ => ?_)
   ·obtain ⟨w, j⟩ := s
    unfold yT
    simp only at hs2 ⊢
    refine .ite (fun hc2 => ?_) fun hc2 => .brk trivial
    have hc2 := of_decide_eq_true hc2
    have fin : IntKind.wrap .i64 (j + 1) = j + 1 := wr (by omega) (by omega)
    rw [fin]
    repeat' (first | exact trivial | refine T.bind _ (HZ (by omega)) fun _ _ => ?_ | refine T.ix (by omega) (by rw [E2]; omega) fun _ _ _ => ?_)
    refine .go ?_
    simp only; omega
   ·refine .loop (fun s => 0 ≤ s.2 ∧ s.2 ≤ 8) (fun s => (8 - s.2).toNat) (fun _ => True) (by simp; omega) (by simp) (fun s hs2 => ?_) (fun s _ => ?_)
    ·obtain ⟨w, j⟩ := s
     unfold yU
     simp only at hs2 ⊢
     refine .ite (fun hc2 => ?_) fun hc2 => .brk trivial
     have hc2 := of_decide_eq_true hc2
     rw [wr (n := j + 1) (by omega) (by omega)]
     refine .ix (by omega) (by rw [E2]; omega) fun _ _ _ => .ix (by omega) (by rw [E2]; omega) fun _ _ _ => .ix (by omega) (by rw [E2]; omega) fun _ _ _ => .go ?_
     simp only; omega
    ·rw [wr (n := i + 64) (by omega) (by omega)]
     refine .go ?_
     simp only; omega
 ·refine .loop (fun s => 0 ≤ s.2 ∧ s.2 ≤ 32 ∧ mS s.1) (fun s => (32 - s.2).toNat) (fun s => mS s.1) (by simp; omega) ⟨by simp, by simp, ?_⟩ (fun s hs2 => ?_) (fun s hs => .some hs)
  ·intro x hx
   have : x = 0 := List.eq_of_mem_replicate hx
   subst this
   exact ⟨by omega, by omega⟩
  ·obtain ⟨w, j⟩ := s
   unfold sD
   simp only at hs2 ⊢
   refine .ite (fun hc2 => ?_) fun hc2 => .brk hs2.2.2
   have hc2 := of_decide_eq_true hc2
   rw [wr (n := j + 1) (by omega) (by omega), Int.tdiv_eq_ediv_of_nonneg (by omega), wr (n := j / 4) (by omega) (by omega)]
   refine .ix (by omega) (by rw [E2]; omega) fun _ _ _ => .grd (by simpa using JZ _) (.ix (by omega) (by rw [E2]; omega) fun _ _ _ => .go ⟨⟨?_, ?_, ?_⟩, ?_⟩)
   ·simp only; omega
   ·simp only; omega
   ·intro x hx
    rcases List.mem_or_eq_of_mem_set hx with h | rfl
    ·exact hs2.2.2 x h
    ·exact SJ _
   ·simp only; omega
end Go.Proofs.YtbbifdfldpfphaaGreat
namespace Go.Vm
section
variable {α β ρ : Type} {Q : β → Prop}
theorem T.ins {l : List α} {r : Int} {y : α} {k : List α → Option β} (h : 0 ≤ r ∧ r ≤ l.length) (hl : l.length ≤ 1000000) (hk : ∀ z : List α, z.length = l.length + 1 → (∀ x ∈ z, x ∈ l ∨ x = y) → T (k z) Q) :
    T ((Go.Vm.slc l 0 r).bind fun x => (Go.Vm.app ([] : List α) x).bind fun z => (Go.Vm.app z ([y] : List α)).bind fun z2 => (Go.Vm.slc l r l.length).bind fun x2 => (Go.Vm.app z2 x2).bind k) Q := by
  refine .slc (by omega) (.app (by simp; omega) (.app (by simp; omega) (.slc (by omega) (.app (by simp; omega) (hk _ (by simp; omega) fun x hx => ?_)))))
  simp only [List.mem_append, List.mem_singleton] at hx
  rcases hx with ((h | h) | h) | h
  · simp at h
  · exact .inl (List.mem_of_mem_take (List.mem_of_mem_drop h))
  · exact .inr h
  · exact .inl (List.mem_of_mem_take (List.mem_of_mem_drop h))
theorem T.scan {Q : ρ → Prop} {l : List α} {F : Nat} {body : Int → Option (Lp Int ρ)} {g : α → Option (Lp Bool (Lp Int ρ))} {k : Int → Option ρ} (hF : l.length < F) (hl : l.length < 1000000)
    (hb : ∀ i, body i = Go.Vm.after (if decide (i < (l.length : Int)) = true then (Go.Vm.ix l i).bind g else Option.some (.brk false)) fun j => if j = true then Option.some (.go (IntKind.wrap .i64 (i + 1))) else Option.some (.brk i))
    (hg : ∀ x ∈ l, T (g x) (L3 (fun _ => False) (fun _ => True) (fun _ => False))) (hk : ∀ r : Int, 0 ≤ r ∧ r ≤ l.length → T (k r) Q) : T (Go.Vm.after (aY body F 0) k) Q := by
  refine .loop (fun i => 0 ≤ i ∧ i ≤ l.length) (fun i => (l.length - i).toNat) (fun i => 0 ≤ i ∧ i ≤ l.length) (by omega) (by omega) (fun i hi => ?_) (fun i hi => hk i hi)
  rw [hb]
  refine .after (.ite (fun hc => ?_) fun hc => .brk ?_)
  · have hc := of_decide_eq_true hc
    refine .ix (by omega) (by omega) fun x _ hx => (hg x hx).mono fun a ha => ?_
    cases a with
    | go s => exact ha
    | ret s => exact ha.elim
    | brk s =>
      refine T.ite (fun _ => .go ?_) fun _ => .brk hi
      rw [wr (by omega) (by omega)]
      omega
  · exact T.ite (fun h => by cases h) fun _ => .brk hi
end
end Go.Vm
namespace Go.Proofs.YtbbifdfldpfphaaGreat
open Go.Vm
def S8 (f : dK) : Prop := f.Path.size ≤ 100 ∧ gL gB f.Data
def NT (f : dK) : Prop := S8 f ∧ f.Data.length ≤ 200
theorem SL {F : Nat} {l : List dK} (hF : 1000 ≤ F) : T (EZ F l) fun b => b = false → l.length ≤ 6 ∧ ∀ x ∈ l, x.Data.length ≤ 200 := by
 unfold EZ
 refine .ite (fun hc => .some fun h => by cases h) fun hc => ?_
 have hc : l.length ≤ 6 := by simp at hc; omega
 rw [nD (l := l) (fun x => decide (200 < (x.Data.length : Int))) true (by omega) (fun i x hx _ hi => by
  unfold pV
  rw [iW (by omega)]
  simp only [bT, hx, Option.bind_some, Int.ofNat_lt, hi, decide_true, if_true]
  split <;> rfl) (by unfold pV; simp)]
 cases h : l.any fun x => decide (200 < (x.Data.length : Int))
 ·refine .some fun _ => ⟨hc, fun x hx => ?_⟩
  have := List.any_eq_false.1 h x hx
  simp at this
  omega
 ·exact .some fun h => by cases h
theorem WN {F : Nat} {l : List dK} (hF : 1000 ≤ F) (ho : ∀ f ∈ l, S8 f) : T (R6 F l) fun r => r.2 = 0 → r.1.length ≤ 6 ∧ ∀ f ∈ r.1, NT f := by
  unfold R6
  refine .bind _ (SL hF) fun b hb => .ite (fun _ => .some fun h => by simp at h) fun hc => ?_
  obtain ⟨hn, hd⟩ := hb (by simpa using hc)
  refine .loop (fun i => 0 ≤ i ∧ i ≤ l.length) (fun i => (l.length - i).toNat) (fun _ => True) (by omega) (by omega) (fun i hi => ?_) (fun i _ => ?_)
  · unfold yO
    refine .ite (fun hc => ?_) fun hc => .brk trivial
    have hc := of_decide_eq_true hc
    refine .ix (by omega) (by omega) fun x _ hx => .bindEq (GY hF (ho x hx).1) (.ite (fun _ => .ret fun h => by simp at h) fun _ => .go ?_)
    rw [wr (by omega) (by omega)]
    omega
  · refine .loop (fun s => 0 ≤ s.2 ∧ s.2 ≤ l.length ∧ (s.1.length : Int) = s.2 ∧ ∀ f ∈ s.1, NT f) (fun s => (l.length - s.2).toNat) (fun s => s.1.length ≤ 6 ∧ ∀ f ∈ s.1, NT f) (by simp; omega) (by simp) (fun s hs => ?_) (fun s hs => .some fun _ => hs)
    obtain ⟨q, i⟩ := s
    simp only at hs
    unfold yQ
    refine .ite (fun hc => ?_) fun hc => .brk ⟨by simp only; omega, hs.2.2.2⟩
    have hc := of_decide_eq_true hc
    simp only at hc
    refine .loop (fun j => 0 ≤ j ∧ j ≤ q.length) (fun j => (q.length - j).toNat) (fun j => 0 ≤ j ∧ j ≤ q.length) (by omega) (by omega) (fun j hj => ?_) (fun j hj => ?_)
    · unfold yP
      have fin : j < q.length → 0 ≤ IntKind.wrap .i64 (j + 1) ∧ IntKind.wrap .i64 (j + 1) ≤ q.length ∧ (q.length - IntKind.wrap .i64 (j + 1)).toNat < (q.length - j).toNat := fun h => by
        rw [wr (by omega) (by omega)]; omega
      refine .after (.ite (fun hc2 => ?_) fun hc2 => .brk (T.ite (fun h => by cases h) fun _ => .brk hj))
      have hc2 := of_decide_eq_true hc2
      have := fin hc2
      refine .ix (by omega) (by omega) fun x _ hx => .ix (by omega) (by omega) fun y _ hy => .brk (T.ite (fun _ => .go (by omega)) fun _ => .brk hj)
    · have rest : T (if (false : Bool) = true then some (.ret ([], 9)) else (slc q 0 j).bind fun x494 => (ix l i).bind fun x496 => (ix l i).bind fun x498 => (app ([] : List dK) x494).bind fun z500 => (vA F x498.Data).bind fun y506 => (app z500 ([({ Path := x496.Path, Data := y506 } : dK)] : List dK)).bind fun z508 => (slc q j (q.length : Int)).bind fun x513 => (app z508 x513).bind fun z515 => some (.go (z515, IntKind.wrap .i64 (i + 1))))
          (L3 (fun s' : List dK × Int => (0 ≤ s'.2 ∧ s'.2 ≤ l.length ∧ (s'.1.length : Int) = s'.2 ∧ ∀ f ∈ s'.1, NT f) ∧ (l.length - s'.2).toNat < (l.length - i).toNat) (fun s => s.1.length ≤ 6 ∧ ∀ f ∈ s.1, NT f) (fun r : List dK × Int => r.2 = 0 → r.1.length ≤ 6 ∧ ∀ f ∈ r.1, NT f)) := by
        refine T.ite (fun h => by cases h) fun _ => ?_
        rw [wr (n := i + 1) (by omega) (by omega)]
        refine .slc (by omega) (.ix (by omega) (by omega) fun x _ hx => .ix (by omega) (by omega) fun y _ hy => .app (by simp; omega) (.bindEq (JK (by have := hd y hy; omega)) (.app (by simp; omega) (.slc (by omega) (.app (by simp; omega) (.go ?_))))))
        refine ⟨⟨by simp only; omega, by simp only; omega, by simp; omega, fun f hf => ?_⟩, by simp only; omega⟩
        simp only [List.mem_append, List.mem_singleton] at hf
        rcases hf with ((h | h) | h) | h
        · simp at h
        · exact hs.2.2.2 f (List.mem_of_mem_take (List.mem_of_mem_drop h))
        · subst h
          exact ⟨⟨(ho x hx).1, (ho y hy).2⟩, hd y hy⟩
        · exact hs.2.2.2 f (List.mem_of_mem_take (List.mem_of_mem_drop h))
      refine .after (.ite (fun hc2 => ?_) fun hc2 => .brk rest)
      have hc2 := of_decide_eq_true hc2
      refine .ix (by omega) (by omega) fun x _ hx => .ix (by omega) (by omega) fun y _ hy => .brk ?_
      cases x.Path.toList == y.Path.toList
      · exact rest
      · exact .ret fun h => by simp at h
theorem WO {F : Nat} {l : List Int} (hF : 1000 ≤ F) (h0 : 0 < l.length) (hl : l.length ≤ 300) : T (HX F l) fun k => 0 < k ∧ k ≤ l.length ∧ (8 ≤ k ∨ k = l.length) := by
 unfold HX
 refine .loop (fun s => 0 ≤ s.2 ∧ s.2 ≤ l.length) (fun s => (l.length - s.2).toNat) (fun _ => True) (by simp; omega) (by simp) (fun s hs => ?_) (fun s _ => .some (by omega))
 obtain ⟨h, i⟩ := s
 simp only at hs
 unfold sF
 refine .ite (fun hc => ?_) fun hc => .brk trivial
 have hc := of_decide_eq_true hc
 simp only at hc
 rw [wr (n := i + 1) (by omega) (by omega)]
 have k2 : (8 ≤ i + 1) ∨ ¬ (8 ≤ i + 1) := by omega
 have e64 : (i + 1 == 64) = decide (i + 1 = 64) := rfl
 refine .ix (by omega) (by omega) fun x _ hx => .after (.ite (fun hc2 => ?_) fun hc2 => ?_)
 ·have hc2 := of_decide_eq_true hc2
  refine .ite (fun _ => .brk (T.ite (fun _ => .ret (by omega)) fun h => absurd rfl h)) fun _ => .brk (T.ite (fun _ => .ret (by omega)) fun _ => .go (by simp only; omega))
 ·refine .brk (T.ite (fun h => .ret ?_) fun _ => .go (by simp only; omega))
  have : i + 1 = 64 := by simpa using h
  omega
theorem WP {F : Nat} {l : List Int} (hF : 1000 ≤ F) (hl : l.length ≤ 200) (gl : gL gB l) : T (HY F l) fun r => r.length ≤ 25 ∧ ∀ x ∈ r, x.length ≤ 300 ∧ gL gB x := by
 unfold HY
 refine .loop (fun s => s.2.length ≤ l.length ∧ gL gB s.2 ∧ (8 * s.1.length + s.2.length ≤ l.length ∨ (s.2.length = 0 ∧ 8 * s.1.length ≤ l.length + 7)) ∧ ∀ x ∈ s.1, x.length ≤ 300 ∧ gL gB x) (fun s => s.2.length) (fun s => s.1.length ≤ 25 ∧ ∀ x ∈ s.1, x.length ≤ 300 ∧ gL gB x) (by simp; omega) (by simp [gl]) (fun s hs => ?_) (fun s hs => .some hs)
 obtain ⟨q, d⟩ := s
 simp only at hs
 obtain ⟨s1, s2, s3, s4⟩ := hs
 unfold sG
 refine .ite (fun hc => ?_) fun hc => .brk ⟨by simp only; omega, s4⟩
 have hc := of_decide_eq_true hc
 simp only at hc
 refine .bind _ (WO hF (by simp only; omega) (by simp only; omega)) fun k hk => .slc (by omega) (.bindEq (JK (by simp; omega)) (.app (by simp; omega) (.slc (by simp only at hk ⊢; omega) (.go ?_))))
 simp only at hk ⊢
 refine ⟨⟨by simp; omega, fun x hx => s2 x (List.mem_of_mem_take (List.mem_of_mem_drop hx)), by simp; omega, fun x hx => ?_⟩, by simp; omega⟩
 rcases List.mem_append.1 hx with h | h
 ·exact s4 x h
 ·rw [List.mem_singleton] at h
  subst h
  exact ⟨by simp; omega, fun y hy => s2 y (List.mem_of_mem_take (List.mem_of_mem_drop hy))⟩
theorem WQ {F : Nat} {l : List dK} (hF : 1000 ≤ F) (ho : ∀ f ∈ l, S8 f) : T (HW F l) fun _ => True := by
 unfold HW
 refine .bind _ (SL hF) fun b hb => .ite (fun _ => .some trivial) fun hc => ?_
 obtain ⟨hn, hd⟩ := hb (by simpa using hc)
 refine .loop (fun i => 0 ≤ i ∧ i ≤ l.length) (fun i => (l.length - i).toNat) (fun _ => True) (by omega) (by omega) (fun i hi => ?_) (fun i _ => .some trivial)
 unfold sE
 refine .ite (fun hc => ?_) fun hc => .brk trivial
 have hc := of_decide_eq_true hc
 rw [wr (n := i + 1) (by omega) (by omega)]
 have fin : ∀ b : Bool, T (if b = true then (some (.ret 1) : Option (Lp Int Int)) else some (.go (i + 1))) (L3 (fun s' => (0 ≤ s' ∧ s' ≤ l.length) ∧ (l.length - s').toNat < (l.length - i).toNat) (fun _ => True) (fun _ => True)) := fun b => T.ite (fun _ => .ret trivial) fun _ => .go (by omega)
 refine .after (.ix (by omega) (by omega) fun x _ hx => .bindEq (GY hF (ho x hx).1) (.ite (fun _ => .brk (fin _)) fun _ => .ite (fun h => ?_) fun _ => .brk (fin _)))
 have h := of_decide_eq_true h
 rw [wr (by omega) (by omega)]
 exact .ix (by omega) (by omega) fun _ _ _ => .ix (by omega) (by omega) fun _ _ _ => .brk (fin _)
theorem WR {F : Nat} {l : List bP} {d : bP} (hF : 1000 ≤ F) (hl : l.length < 900) (gl : ∀ x ∈ l, mS x) (hd : mS d) :
    T (AP F l d) fun r => 0 ≤ r.2.1 ∧ r.2.1 ≤ l.length ∧ r.1.length = l.length + (if r.2.2 = true then 1 else 0) ∧ ∀ x ∈ r.1, mS x := by
  unfold AP
  refine T.scan (by omega) (by omega) (fun _ => rfl) (fun x hx => .bindEq (QR hF (gl x hx) hd) (.brk trivial)) fun r hr => ?_
  have rest : T ((slc l 0 r).bind fun x84 => (app ([] : List bP) x84).bind fun z86 => (app z86 ([d] : List bP)).bind fun z92 => (slc l r (l).length).bind fun x98 => (app z92 x98).bind fun z100 => some (z100, r, true))
      fun r => 0 ≤ r.2.1 ∧ r.2.1 ≤ l.length ∧ r.1.length = l.length + (if r.2.2 = true then 1 else 0) ∧ ∀ x ∈ r.1, mS x := by
    refine .ins hr (by omega) fun z h1 h2 => .some ⟨hr.1, hr.2, h1, fun x hx => ?_⟩
    rcases h2 x hx with h | rfl
    · exact gl x h
    · exact hd
  refine .after (.ite (fun hc => ?_) fun _ => .brk (T.ite (fun h => by cases h) fun _ => rest))
  have hc := of_decide_eq_true hc
  refine .ix (by omega) (by omega) fun x _ hx => .brk ?_
  refine T.ite (fun _ => .some ?_) fun _ => rest
  exact ⟨hr.1, hr.2, rfl, gl⟩
open Go.Vm
def DW (m : a9) : Prop := m.Name.size ≤ 100 ∧ m.Parts.length ≤ 10 ∧ (∀ p ∈ m.Parts, p.Path.size ≤ 100 ∧ p.Ids.length ≤ 40) ∧ tL m
def H3 (l : List (List Int)) (n : Nat) : Prop := l.length ≤ n ∧ ∀ x ∈ l, x.length ≤ 300 ∧ gL gB x
structure KX (c : a8) : Prop where
 seq : gI c.Snap.Seq
 man : DW c.Snap.Man
 locs : c.Snap.Locs = []
 cn : c.Chunks.length ≤ 160
 ch : ∀ x ∈ c.Chunks, mS x.Id ∧ x.Data.length ≤ 300 ∧ gL gB x.Data ∧ x.Locs = []
 sq : gI c.Seq
 vol : gI c.Vol
 it : c.Items.length ≤ 64
 iti : ∀ x ∈ c.Items, gI x.Seq ∧ gI x.Of ∧ gI x.Off ∧ gI x.Len
theorem NU : DW { Name := ByteArray.empty, Parts := [] } := ⟨by decide, by simp, by simp, trivial, fun _ h => by simp at h⟩
theorem WS {F : Nat} {nm : ByteArray} {fs : List dK} (hF : 1000 ≤ F) (hn : nm.size ≤ 100) (h6 : fs.length ≤ 6) (ho : ∀ f ∈ fs, NT f) : T (SD F nm fs) fun r => DW r.1 ∧ H3 r.2.1 150 := by
 unfold SD
 refine .bindEq (GY hF hn) (.ite (fun _ => .some ⟨NU, by simp, by simp⟩) fun _ => .bind _ (WQ hF fun f hf => (ho f hf).1) fun y _ => .ite (fun _ => .some ⟨NU, by simp, by simp⟩) fun _ => ?_)
 refine .loop (fun s => 0 ≤ s.2.2.2 ∧ s.2.2.2 ≤ fs.length ∧ (s.1.length : Int) = s.2.2.2 ∧ (∀ p ∈ s.1, (p.Path.size ≤ 100 ∧ p.Ids.length ≤ 40) ∧ CJ p) ∧ (s.2.1.length : Int) ≤ 25 * s.2.2.2 ∧ (∀ x ∈ s.2.1, x.length ≤ 300 ∧ gL gB x) ∧ s.2.2.1.length = s.2.1.length ∧ ∀ x ∈ s.2.2.1, mS x)
  (fun s => (fs.length - s.2.2.2).toNat) (fun s => (s.1.length ≤ 6 ∧ ∀ p ∈ s.1, (p.Path.size ≤ 100 ∧ p.Ids.length ≤ 40) ∧ CJ p) ∧ H3 s.2.1 150) (by simp; omega) (by simp) (fun s hs => ?_) (fun s hs => ?_)
 ·obtain ⟨ps, ds, ids, i⟩ := s
  simp only at hs
  obtain ⟨s1, s2, s3, s4, s5, s6, s7, s8⟩ := hs
  unfold yX
  refine .ite (fun hc => ?_) fun hc => .brk ⟨⟨by simp only; omega, s4⟩, by simp only; omega, s6⟩
  have hc := of_decide_eq_true hc
  simp only at hc
  rw [wr (n := i + 1) (by omega) (by omega)]
  refine .ix (by omega) (by omega) fun x e hx => .ix (by omega) (by omega) fun x2 e2 hx2 => .ix (by omega) (by omega) fun x3 e3 hx3 => .bind _ (WP hF (ho x3 hx3).2 (ho x3 hx3).1.2) fun y hy => ?_
  obtain ⟨y1, y2⟩ := hy
  refine .loop (fun s => 0 ≤ s.2.2.2 ∧ s.2.2.2 ≤ y.length ∧ (s.1.length : Int) = s.2.2.2 ∧ (∀ d ∈ s.1, mS d) ∧ (s.2.1.length : Int) ≤ 25 * i + s.2.2.2 ∧ (∀ x ∈ s.2.1, x.length ≤ 300 ∧ gL gB x) ∧ s.2.2.1.length = s.2.1.length ∧ ∀ x ∈ s.2.2.1, mS x)
   (fun s => (y.length - s.2.2.2).toNat) (fun s => (s.1.length ≤ 25 ∧ (∀ d ∈ s.1, mS d)) ∧ (s.2.1.length : Int) ≤ 25 * i + 25 ∧ (∀ x ∈ s.2.1, x.length ≤ 300 ∧ gL gB x) ∧ s.2.2.1.length = s.2.1.length ∧ ∀ x ∈ s.2.2.1, mS x) (by simp; omega) ⟨by simp, by simp, by simp, by simp, by simp only; omega, s6, s7, s8⟩ (fun s hs => ?_) (fun s hs => ?_)
  ·obtain ⟨q, ds, ids, j⟩ := s
   simp only at hs
   obtain ⟨r1, r2, r3, r4, r5, r6, r7, r8⟩ := hs
   unfold yW
   refine .ite (fun hc2 => ?_) fun hc2 => .brk ⟨⟨by simp only; omega, r4⟩, by simp only; omega, r6, r7, r8⟩
   have hc2 := of_decide_eq_true hc2
   simp only at hc2
   rw [wr (n := j + 1) (by omega) (by omega)]
   refine .ix (by omega) (by omega) fun z _ hz => .bind _ (SK hF (y2 z hz).1) fun d hd => .app (by simp; omega) (.bind _ (WR hF (by simp only; omega) r8 hd) fun r hr => ?_)
   obtain ⟨q1, q2, q3, q4⟩ := hr
   simp only at q2 q3
   have hq : ∀ a ∈ q ++ [d], mS a := fun a ha => by
    rcases List.mem_append.1 ha with h | h
    ·exact r4 a h
    ·rw [List.mem_singleton] at h; exact h ▸ hd
   refine .after (.ite (fun hi => ?_) fun hi => .brk (.go ?_))
   ·rw [if_pos hi] at q3
    refine .slc (by simp only; omega) (.ix (by omega) (by omega) fun z2 _ hz2 => .app (by simp; omega) (.app (by simp; omega) (.slc (by simp only; omega) (.app (by simp; omega) (.brk (.go ?_))))))
    refine ⟨⟨by simp only; omega, by simp only; omega, by simp; omega, hq, by simp; omega, fun a ha => ?_, by simp; omega, q4⟩, by simp only; omega⟩
    simp only [List.mem_append, List.mem_singleton] at ha
    rcases ha with ((h | h) | h) | h
    ·simp at h
    ·exact r6 a (List.mem_of_mem_take (List.mem_of_mem_drop h))
    ·exact h ▸ y2 z2 hz2
    ·exact r6 a (List.mem_of_mem_take (List.mem_of_mem_drop h))
   ·rw [if_neg hi] at q3
    exact ⟨⟨by simp only; omega, by simp only; omega, by simp; omega, hq, by simp only; omega, r6, by simp only; omega, q4⟩, by simp only; omega⟩
  ·obtain ⟨q, ds2, ids2, j⟩ := s
   simp only at hs
   obtain ⟨⟨a1, a2⟩, a3, a4, a5, a6⟩ := hs
   refine .app (by simp; omega) (.go ?_)
   refine ⟨⟨by simp only; omega, by simp only; omega, by simp; omega, fun p hp => ?_, by simp only; omega, a4, a5, a6⟩, by simp only; omega⟩
   rcases List.mem_append.1 hp with h | h
   ·exact s4 p h
   ·rw [List.mem_singleton] at h
    subst h
    have := (ho x2 hx2).2
    exact ⟨⟨(ho x hx).1.1, by simp only; omega⟩, trivial, by simp only [gI]; omega, a2⟩
 ·obtain ⟨ps, ds, ids, i⟩ := s
  exact .some ⟨⟨hn, by have := hs.1.1; simp only at this ⊢; omega, fun p hp => (hs.1.2 p hp).1, trivial, fun p hp => (hs.1.2 p hp).2⟩, hs.2⟩
theorem SM (n : Int) : ∃ b, FY [IntKind.wrap .u8 n] = some b ∧ b.size = 1 := by
 have h := SJ n
 refine ⟨_, by unfold FY; rw [if_pos (by simp; omega)], ?_⟩
 rfl
structure Ok (c : aB) : Prop where
 sm : Sm c
 rg : YA c
theorem uJ (n : Int) : gI (IntKind.wrap .i64 n) := wrI n
theorem CY {k s : Int} {v : Int} (hs : gI s) (hv : gI v) {l : List bQ} (h6 : l.length ≤ 64) (hl : ∀ x ∈ l, gI x.Seq ∧ gI x.Of ∧ gI x.Off ∧ gI x.Len) :
    KX { Kind := k, Snap := { Seq := 0, Man := { Name := ByteArray.empty, Parts := [] }, Locs := [] }, Chunks := [], Seq := s, Vol := v, Items := l } :=
  ⟨by simp [gI], NU, rfl, by simp, by simp, hs, hv, h6, hl⟩
theorem t66 {F : Nat} {c : aB} {a : lM} (hF : 1000 ≤ F) (hc : Ok c) (ho : ∀ f ∈ a.Tree, S8 f) : T (SE F c a) fun r => KX r.1 := by
  have g0 : gI 0 := by simp [gI]
  have c1 := hc.rg.ch
  have c2 := hc.rg.sn
  have c3 := hc.rg.ex
  have c4 := hc.rg.vo
  have gq := hc.sm.g.1
  unfold SE
  obtain ⟨b, hb, hb1⟩ := SM (IntKind.wrap .u64 (97 + ((IntKind.wrap .u64 a.N).tmod 5)))
  rw [hb]
  have e1 : (ByteArray.mk #[110]).size = 1 := rfl
  have e2 : ((ByteArray.mk #[110]) ++ b).size = 2 := by rw [ByteArray.size_append, e1, hb1]
  have gv : ∀ j : Int, gI j → ∀ (k : Int → Option (a8 × Bool)), (∀ j, gI j → T (k j) fun r => KX r.1) → T (k j) fun r => KX r.1 := fun j h k hk => hk j h
  refine .bindEq rfl (.grd (by rw [e1, hb1]; rfl) ?_)
  refine .after (T.mono (P := L3 (fun _ => False) gI (fun _ => False)) (.ite (fun h => ?_) fun _ => .brk g0) fun j hj => ?_)
  · have h := of_decide_eq_true h
    refine .grd ?_ (.brk (uJ _))
    rw [S7 (by omega)]
    simp
    intro h2
    rw [h2] at h
    simp at h
  cases j with
  | go s => exact hj
  | ret s => exact hj.elim
  | brk v =>
  replace hj : gI v := hj
  refine T.after (T.mono (P := L3 (fun _ => False) (fun _ => True) (fun _ => False)) (.ite (fun _ => .brk trivial) fun _ => .brk trivial) fun j hj2 => ?_)
  cases j with
  | go s => exact hj2
  | ret s => exact hj2.elim
  | brk v2 =>
  refine T.ite (fun _ => ?_) fun _ => ?_
  · refine .bind _ (WN hF ho) fun y hy => .ite (fun _ => .some (CY g0 g0 (by simp) (by simp))) fun h0 => ?_
    obtain ⟨y1, y2⟩ := hy (by simpa using h0)
    refine .bind _ (WS hF (by omega) y1 y2) fun m hm => ?_
    obtain ⟨m1, m2, m3⟩ := hm
    refine .loop (fun s => 0 ≤ s.2 ∧ s.2 ≤ m.2.1.length ∧ (s.1.length : Int) ≤ s.2 ∧ ∀ x ∈ s.1, mS x.Id ∧ x.Data.length ≤ 300 ∧ gL gB x.Data ∧ x.Locs = []) (fun s => (m.2.1.length - s.2).toNat) (fun s => s.1.length ≤ 160 ∧ ∀ x ∈ s.1, mS x.Id ∧ x.Data.length ≤ 300 ∧ gL gB x.Data ∧ x.Locs = []) (by simp; omega) (by simp) (fun s hs => ?_) (fun s hs => ?_)
    · obtain ⟨q, i⟩ := s
      simp only at hs
      unfold yY
      refine .ite (fun h => ?_) fun _ => .brk ⟨by simp only; omega, hs.2.2.2⟩
      have h := of_decide_eq_true h
      simp only at h
      rw [wr (n := i + 1) (by omega) (by omega)]
      obtain ⟨n, hn, _⟩ := U2 (F := F) (c := c) (d := iY) hF (by omega)
      refine .ix (by omega) (by omega) fun x _ hx => .bind _ (SK hF (m3 x hx).1) fun d hd => ?_
      obtain ⟨n, hn, _⟩ := U2 (F := F) (c := c) (d := d) hF (by omega)
      refine .bindEq hn (.after (.ite (fun _ => .ix (by omega) (by omega) fun x2 _ hx2 => .app (by simp; omega) (.brk (.go ?_))) fun _ => .brk (.go ⟨⟨by simp only; omega, by simp only; omega, by simp only; omega, hs.2.2.2⟩, by simp only; omega⟩)))
      refine ⟨⟨by simp only; omega, by simp only; omega, by simp; omega, fun y hy => ?_⟩, by simp only; omega⟩
      rcases List.mem_append.1 hy with h | h
      · exact hs.2.2.2 y h
      · rw [List.mem_singleton] at h
        subst h
        exact ⟨hd, (m3 x2 hx2).1, (m3 x2 hx2).2, rfl⟩
    · obtain ⟨q, i⟩ := s
      exact .some ⟨gq, m1, rfl, hs.1, hs.2, g0, g0, by simp, by simp⟩
  · refine T.after (T.mono (P := L3 (fun _ => False) (fun _ => True) (fun _ => False)) (.ite (fun _ => .brk trivial) fun _ => .brk trivial) fun j hj2 => ?_)
    cases j with
    | go s => exact hj2
    | ret s => exact hj2.elim
    | brk v3 =>
    refine T.ite (fun _ => ?_) fun _ => ?_
    · refine .ite (fun _ => .some (CY g0 g0 (by simp) (by simp))) fun h0 => ?_
      have h0 : 0 < c.Snaps.length := by
        have : ¬ ((c.Snaps.length : Int) = 0) := by simpa using h0
        omega
      obtain ⟨k, hk, ek⟩ := RY a.N h0 (by omega)
      rw [S7 (by omega), ek]
      refine .grd (by simp; intro h; rw [h] at h0; simp at h0) (.ix (by omega) (by omega) fun x _ hx => ?_)
      have gx := hc.sm.g.2.1 x hx
      refine .ite (fun _ => .some (CY gx.1 g0 (by simp) (by simp))) fun _ => .some (CY g0 hj (by simp) fun y hy => ?_)
      rw [List.mem_singleton] at hy
      subst hy
      exact ⟨gq, gx.1, by simp [gI], by simp [gI]⟩
    · refine T.after (T.mono (P := L3 (fun _ => False) (fun _ => True) (fun _ => False)) (.ite (fun _ => .brk trivial) fun _ => .brk trivial) fun j hj2 => ?_)
      cases j with
      | go s => exact hj2
      | ret s => exact hj2.elim
      | brk v4 =>
      refine T.ite (fun _ => ?_) fun _ => .ite (fun _ => .some (CY g0 hj (by simp) (by simp))) fun _ => .some (CY g0 hj (by simp) (by simp))
      have w1 : IntKind.wrap .i64 ((c.Chunks.length : Int) + (c.Snaps.length : Int)) = (c.Chunks.length : Int) + (c.Snaps.length : Int) := wr (by omega) (by omega)
      have w2 : IntKind.wrap .i64 ((c.Chunks.length : Int) + (c.Snaps.length : Int) + (c.Exps.length : Int)) = (c.Chunks.length : Int) + (c.Snaps.length : Int) + (c.Exps.length : Int) := wr (by omega) (by omega)
      refine .loop (fun s => 0 ≤ s.2.2 ∧ s.2.2 ≤ 420 ∧ s.1.length ≤ 64 ∧ (∀ x ∈ s.1, gI x.Seq ∧ gI x.Of ∧ gI x.Off ∧ gI x.Len) ∧ gI s.2.1) (fun s => (420 - s.2.2).toNat) (fun s => s.1.length ≤ 64 ∧ ∀ x ∈ s.1, gI x.Seq ∧ gI x.Of ∧ gI x.Off ∧ gI x.Len) (by simp; omega) (by simp [gI]) (fun s hs => ?_) (fun s hs => ?_)
      · obtain ⟨q, o, i⟩ := s
        simp only at hs
        obtain ⟨s1, s2, s3, s4, s5⟩ := hs
        unfold yZ
        simp only [w1, w2]
        refine .after (.ite (fun h => .brk (T.ite (fun h2 => ?_) fun _ => .brk ⟨s3, s4⟩)) fun _ => .brk (T.ite (fun h => by cases h) fun _ => .brk ⟨s3, s4⟩))
        have h := of_decide_eq_true h
        have h2 := of_decide_eq_true h2
        rw [wr (n := i + 1) (by omega) (by omega)]
        have put : ∀ y : bQ, (gI y.Seq ∧ gI y.Of ∧ gI y.Off ∧ gI y.Len) → T ((app q ([y] : List bQ)).bind fun z1648 => some (.brk (z1648, IntKind.wrap .i64 (o + 20))) : Option (Lp (List bQ × Int) (Lp (List bQ × Int × Int) (a8 × Bool))))
            (L3 (fun _ => False) (fun s => s.1.length ≤ 64 ∧ (∀ x ∈ s.1, gI x.Seq ∧ gI x.Of ∧ gI x.Off ∧ gI x.Len) ∧ gI s.2) (fun _ => False)) := fun y hy => by
          refine .app (by simp; omega) (.brk ⟨by simp; omega, fun x hx => ?_, uJ _⟩)
          rcases List.mem_append.1 hx with h | h
          · exact s4 x h
          · rw [List.mem_singleton] at h
            exact h ▸ hy
        have g20 : gI 20 := by simp [gI]
        refine .after (T.mono (P := L3 (fun _ => False) (fun s => s.1.length ≤ 64 ∧ (∀ x ∈ s.1, gI x.Seq ∧ gI x.Of ∧ gI x.Off ∧ gI x.Len) ∧ gI s.2) (fun _ => False)) (.after ?_) fun j hj3 => ?_)
        · have mid : T (after (if (decide (i < (c.Chunks.length : Int))) = true then ((ix c.Chunks i).bind fun x1596 => some (.brk { { ({ Kind := 0, Id := iY, Seq := 0, Of := 0, Off := o, Len := 20 } : bQ) with Kind := 1 } with Id := x1596.Id })) else after (if (decide (i < (c.Chunks.length : Int) + (c.Snaps.length : Int))) = true then ((ix c.Snaps (IntKind.wrap .i64 (i - (c.Chunks.length : Int)))).bind fun x1629 => some (.brk { { ({ Kind := 0, Id := iY, Seq := 0, Of := 0, Off := o, Len := 20 } : bQ) with Kind := 2 } with Seq := x1629.Seq })) else (ix c.Exps (IntKind.wrap .i64 ((IntKind.wrap .i64 (i - (c.Chunks.length : Int))) - (c.Snaps.length : Int)))).bind fun x1634 => some (.brk { { { ({ Kind := 0, Id := iY, Seq := 0, Of := 0, Off := o, Len := 20 } : bQ) with Kind := 3 } with Seq := x1634.Seq } with Of := x1634.Of }) : Option (Lp (bQ) (Lp (bQ) (Lp ((List bQ) × Int) (Lp ((List bQ) × Int × Int) (a8 × Bool)))))) fun j1623 => some (.brk j1623) : Option (Lp (bQ) (Lp ((List bQ) × Int) (Lp ((List bQ) × Int × Int) (a8 × Bool))))) fun j1590 => (app q ([j1590] : List bQ)).bind fun z1648 => some (.brk (z1648, IntKind.wrap .i64 (o + 20))) : Option (Lp ((List bQ) × Int) (Lp ((List bQ) × Int × Int) (a8 × Bool))))
              (L3 (fun _ => False) (fun s => s.1.length ≤ 64 ∧ (∀ x ∈ s.1, gI x.Seq ∧ gI x.Of ∧ gI x.Off ∧ gI x.Len) ∧ gI s.2) (fun _ => False)) := by
            refine .after (.ite (fun h3 => ?_) fun h3 => .after (.ite (fun h4 => ?_) fun h4 => ?_))
            · have h3 := of_decide_eq_true h3
              exact .ix (by omega) (by omega) fun x _ _ => .brk (put _ ⟨g0, g0, s5, g20⟩)
            · have h4 := of_decide_eq_true h4
              have h3 : ¬ (i < (c.Chunks.length : Int)) := by simpa using h3
              rw [wr (n := i - (c.Chunks.length : Int)) (by omega) (by omega)]
              exact .ix (by omega) (by omega) fun x _ hx => .brk (.brk (put _ ⟨(hc.sm.g.2.1 x hx).1, g0, s5, g20⟩))
            · have h4 : ¬ (i < (c.Chunks.length : Int) + (c.Snaps.length : Int)) := by simpa using h4
              rw [wr (n := i - (c.Chunks.length : Int)) (by omega) (by omega), wr (n := i - (c.Chunks.length : Int) - (c.Snaps.length : Int)) (by omega) (by omega)]
              exact .ix (by omega) (by omega) fun x _ hx => .brk (.brk (put _ ⟨(hc.sm.g.2.2.2.1 x hx).1, (hc.sm.g.2.2.2.1 x hx).2.1, s5, g20⟩))
          refine .ite (fun h3 => ?_) fun _ => .brk (T.ite (fun h => by cases h) fun _ => mid)
          have h3 := of_decide_eq_true h3
          exact .ix (by omega) (by omega) fun x _ _ => .brk (T.ite (fun _ => .brk ⟨s3, s4, s5⟩) fun _ => mid)
        · cases j with
          | go s => exact hj3
          | ret s => exact hj3.elim
          | brk s =>
            obtain ⟨q2, o2⟩ := s
            exact .go ⟨⟨by simp only; omega, by simp only; omega, hj3.1, hj3.2.1, hj3.2.2⟩, by simp only; omega⟩
      · obtain ⟨q, o, i⟩ := s
        exact .some (CY g0 hj hs.1 hs.2)
open Go.Vm
def uK (n : Nat) (l : List bI) : Prop := l.length ≤ n ∧ gL tM l
def zE (n : Nat) (s : aE) : Prop := gI s.Seq ∧ DW s.Man ∧ uK n s.Locs
def jH (n : Nat) (x : aA) : Prop := mS x.Id ∧ x.Data.length ≤ 300 ∧ gL gB x.Data ∧ uK n x.Locs
def CZ (n : Nat) (x : aI) : Prop := gI x.Seq ∧ gI x.Of ∧ uK n x.Locs
structure Md (n m : Nat) (q : Int) (s : List aE) (k : List aA) (e : List aI) (v : List aK) : Prop where
 q : gI q
 sn : s.length ≤ 9
 s : ∀ x ∈ s, zE n x
 kn : k.length ≤ 360
 k : ∀ x ∈ k, jH n x
 en : e.length ≤ m
 e : ∀ x ∈ e, CZ n x
 vn : v.length ≤ 8
 v : ∀ x ∈ v, n4 x
theorem uK.mono {n n' : Nat} {l : List bI} (h : uK n l) (hn : n ≤ n') : uK n' l := ⟨Nat.le_trans h.1 hn, h.2⟩
theorem zE.mono {n n' : Nat} {x : aE} (h : zE n x) (hn : n ≤ n') : zE n' x := ⟨h.1, h.2.1, h.2.2.mono hn⟩
theorem jH.mono {n n' : Nat} {x : aA} (h : jH n x) (hn : n ≤ n') : jH n' x := ⟨h.1, h.2.1, h.2.2.1, h.2.2.2.mono hn⟩
theorem CZ.mono {n n' : Nat} {x : aI} (h : CZ n x) (hn : n ≤ n') : CZ n' x := ⟨h.1, h.2.1, h.2.2.mono hn⟩
theorem Md.mono {n m n' m' : Nat} {q : Int} {s : List aE} {k : List aA} {e : List aI} {v : List aK} (h : Md n m q s k e v) (hn : n ≤ n') (hm : m ≤ m') : Md n' m' q s k e v :=
 ⟨h.q, h.sn, fun x hx => (h.s x hx).mono hn, h.kn, fun x hx => (h.k x hx).mono hn, Nat.le_trans h.en hm, fun x hx => (h.e x hx).mono hn, h.vn, h.v⟩
theorem Md.sm {n m : Nat} {q : Int} {s : List aE} {k : List aA} {e : List aI} {v : List aK} (h : Md n m q s k e v) (hn : n ≤ 300) (hm : m ≤ 300) : Sm { Seq := q, Snaps := s, Chunks := k, Exps := e, Vols := v } where
 g := ⟨h.q, fun x hx => ⟨(h.s x hx).1, (h.s x hx).2.1.2.2.2, (h.s x hx).2.2.2⟩, fun x hx => ⟨(h.k x hx).1, trivial, (h.k x hx).2.2.1, (h.k x hx).2.2.2.2⟩, fun x hx => ⟨(h.e x hx).1, (h.e x hx).2.1, (h.e x hx).2.2.2⟩, h.v⟩
 sn := Nat.le_trans h.sn (by omega)
 ch := Nat.le_trans h.kn (by omega)
 ex := Nat.le_trans h.en hm
 vo := Nat.le_trans h.vn (by omega)
 sl := fun x hx => Nat.le_trans (h.s x hx).2.2.1 hn
 cl := fun x hx => ⟨Nat.le_trans (h.k x hx).2.2.2.1 hn, (h.k x hx).2.1⟩
 el := fun x hx => Nat.le_trans (h.e x hx).2.2.1 hn
 man := fun x hx => ⟨(h.s x hx).2.1.1, (h.s x hx).2.1.2.1, (h.s x hx).2.1.2.2.1⟩
theorem qY {c : aB} {l : List bI} (h : gR c l = true) : l.length ≤ 200 := by
 unfold gR at h
 simp only [Bool.and_eq_true, decide_eq_true_eq] at h
 exact h.1
theorem Ok.md {c : aB} (h : Ok c) : Md 200 200 c.Seq c.Snaps c.Chunks c.Exps c.Vols where
 q := h.sm.g.1
 sn := Nat.le_trans h.rg.sn (by omega)
 s := fun x hx => ⟨(h.sm.g.2.1 x hx).1, ⟨(h.sm.man x hx).1, (h.sm.man x hx).2.1, (h.sm.man x hx).2.2, (h.sm.g.2.1 x hx).2.1⟩, qY (h.rg.s x hx).2.2.2, (h.sm.g.2.1 x hx).2.2⟩
 kn := Nat.le_trans h.rg.ch (by omega)
 k := fun x hx => ⟨(h.sm.g.2.2.1 x hx).1, (h.sm.cl x hx).2, (h.sm.g.2.2.1 x hx).2.2.1, qY (h.rg.k x hx).2, (h.sm.g.2.2.1 x hx).2.2.2⟩
 en := h.rg.ex
 e := fun x hx => ⟨(h.sm.g.2.2.2.1 x hx).1, (h.sm.g.2.2.2.1 x hx).2.1, qY (h.rg.e x hx).2.2.2.2, (h.sm.g.2.2.2.1 x hx).2.2⟩
 vn := h.rg.vo
 v := h.sm.g.2.2.2.2
theorem YF {F : Nat} {c : aB} {d : bP} (hF : 1000 ≤ F) (hl : c.Chunks.length < 1000) : T (ID F c d) fun n => n < c.Chunks.length := by
 unfold ID
 refine .loop (fun i => 0 ≤ i ∧ i ≤ c.Chunks.length) (fun i => (c.Chunks.length - i).toNat) (fun _ => True) (by omega) (by omega) (fun i hi => ?_) (fun i _ => .some (by omega))
 unfold nB
 refine .ite (fun hc => ?_) fun _ => .brk trivial
 have hc := of_decide_eq_true hc
 rw [wr (by omega) (by omega)]
 exact .ix (by omega) (by omega) fun x _ _ => .ite (fun _ => .ret hc) fun _ => .go (by omega)
theorem WT {F : Nat} {a b : bI} : T (HP F a b) fun _ => True := by
 unfold HP
 exact .ite (fun _ => .some trivial) fun _ => .ite (fun _ => .some trivial) fun _ => .ite (fun _ => .some trivial) fun _ => .some trivial
theorem NV {F n : Nat} {l : List bI} {x : bI} (hF : 1000 ≤ F) (h : uK n l) (hn : n ≤ 300) (hx : tM x) : T (CV F l x) fun r => uK (n + 1) r := by
 have h1 := h.1
 unfold CV
 refine T.scan (by omega) (by omega) (fun _ => rfl) (fun y _ => .bind _ WT fun _ _ => .brk trivial) fun r hr => ?_
 refine .ins hr (by omega) fun z z1 z2 => .some ⟨by omega, fun y hy => ?_⟩
 rcases z2 y hy with h2 | rfl
 ·exact h.2 y h2
 ·exact hx
theorem NW {F n : Nat} {l : List bI} {v : Int} (hF : 1000 ≤ F) (h : uK n l) (hn : n ≤ 300) : T (CW F l v) fun r => uK n r := by
 have h1 := h.1
 unfold CW
 refine .loop (fun s => 0 ≤ s.2 ∧ s.2 ≤ l.length ∧ (s.1.length : Int) ≤ s.2 ∧ gL tM s.1) (fun s => (l.length - s.2).toNat) (fun s => uK n s.1) (by simp; omega) ⟨by simp, by simp, by simp, fun _ h => by simp at h⟩ (fun s hs => ?_) (fun s hs => .some hs)
 obtain ⟨q, i⟩ := s
 simp only at hs
 unfold rT
 refine .ite (fun hc => ?_) fun _ => .brk ⟨by simp only; omega, hs.2.2.2⟩
 have hc := of_decide_eq_true hc
 simp only at hc
 rw [wr (n := i + 1) (by omega) (by omega)]
 refine .ix (by omega) (by omega) fun x _ hx => .after (.ite (fun _ => .ix (by omega) (by omega) fun y _ hy => .app (by simp; omega) (.brk (.go ?_))) fun _ => .brk (.go ⟨⟨by simp only; omega, by simp only; omega, by simp only; omega, hs.2.2.2⟩, by simp only; omega⟩))
 refine ⟨⟨by simp only; omega, by simp only; omega, by simp; omega, fun z hz => ?_⟩, by simp only; omega⟩
 rcases List.mem_append.1 hz with h2 | h2
 ·exact hs.2.2.2 z h2
 ·rw [List.mem_singleton] at h2
  exact h2 ▸ h.2 y hy
theorem NX {F : Nat} {c : aB} {i a b : Int} : T (CX F c i a b) fun r => r = true → 0 ≤ i ∧ i < c.Vols.length := by
 unfold CX
 refine .after (.ite (fun h0 => .ite (fun h1 => ?_) fun _ => .brk (.some fun h => by cases h)) fun _ => .brk (.some fun h => by cases h))
 have h0 := of_decide_eq_true h0
 have h1 := of_decide_eq_true h1
 exact .ix (by omega) (by omega) fun x _ hx => .ite (fun _ => .brk (.some fun _ => ⟨h0, h1⟩)) fun _ => .ix (by omega) (by omega) fun y _ _ => .brk (.some fun _ => ⟨h0, h1⟩)
theorem SN {F n m : Nat} {q : Int} {s : List aE} {k : List aA} {e : List aI} {v : List aK} {z : Int} (hF : 1000 ≤ F) (h : Md n m q s k e v) (hn : n ≤ 300) (hm : m ≤ 300) :
    T (EY F { Seq := q, Snaps := s, Chunks := k, Exps := e, Vols := v } z) fun r => Md n m q r.2.1 r.2.2 e v := by
  have h1 := h.sn
  have h2 := h.kn
  unfold EY
  refine .loop (fun s' => 0 ≤ s'.2 ∧ s'.2 ≤ s.length ∧ (s'.1.length : Int) ≤ s'.2 ∧ ∀ x ∈ s'.1, zE n x) (fun s' => (s.length - s'.2).toNat) (fun s' => s'.1.length ≤ 9 ∧ ∀ x ∈ s'.1, zE n x) (by simp; omega) (by simp) (fun s' hs => ?_) (fun s' hs => ?_)
  · obtain ⟨a, i⟩ := s'
    simp only at hs
    unfold rU
    refine .ite (fun hc => ?_) fun _ => .brk ⟨by simp only; omega, hs.2.2.2⟩
    have hc := of_decide_eq_true hc
    simp only at hc
    rw [wr (n := i + 1) (by omega) (by omega)]
    refine .ix (by omega) (by simp only; omega) fun x _ hx => .after (.ite (fun _ => .ix (by omega) (by simp only; omega) fun y _ hy => .app (by simp; omega) (.brk (.go ?_))) fun _ => .brk (.go ⟨⟨by simp only; omega, by simp only; omega, by simp only; omega, hs.2.2.2⟩, by simp only; omega⟩))
    refine ⟨⟨by simp only; omega, by simp only; omega, by simp; omega, fun w hw => ?_⟩, by simp only; omega⟩
    rcases List.mem_append.1 hw with h3 | h3
    · exact hs.2.2.2 w h3
    · rw [List.mem_singleton] at h3
      exact h3 ▸ h.s y hy
  · obtain ⟨a, i0⟩ := s'
    have M1 : Md n m q a k e v := ⟨h.q, hs.1, hs.2, h.kn, h.k, h.en, h.e, h.vn, h.v⟩
    refine .ite (fun _ => .some h) fun _ => ?_
    refine .loop (fun s' => 0 ≤ s'.2 ∧ s'.2 ≤ k.length ∧ (s'.1.length : Int) ≤ s'.2 ∧ ∀ x ∈ s'.1, jH n x) (fun s' => (k.length - s'.2).toNat) (fun s' => s'.1.length ≤ 360 ∧ ∀ x ∈ s'.1, jH n x) (by simp; omega) (by simp) (fun s' hs2 => ?_) (fun s' hs2 => .some ⟨h.q, hs.1, hs.2, hs2.1, hs2.2, h.en, h.e, h.vn, h.v⟩)
    obtain ⟨b, i⟩ := s'
    simp only at hs2
    unfold rV
    refine .ite (fun hc => ?_) fun _ => .brk ⟨by simp only; omega, hs2.2.2.2⟩
    have hc := of_decide_eq_true hc
    simp only at hc
    rw [wr (n := i + 1) (by omega) (by omega)]
    have put : ∀ y : aA, jH n y → T ((app b ([y] : List aA)).bind fun z490 => some (.brk z490) : Option (Lp (List aA) (Lp (List aA × Int) (Bool × List aE × List aA))))
        (L3 (fun _ => False) (fun b' : List aA => b'.length ≤ b.length + 1 ∧ ∀ x ∈ b', jH n x) (fun b' : Lp (List aA × Int) (Bool × List aE × List aA) => ∃ s, b' = .brk s ∧ s.1.length ≤ 360 ∧ ∀ x ∈ s.1, jH n x)) := fun y hy => by
      refine .app (by simp; omega) (.brk ⟨by simp, fun x hx => ?_⟩)
      rcases List.mem_append.1 hx with h3 | h3
      · exact hs2.2.2.2 x h3
      · rw [List.mem_singleton] at h3
        exact h3 ▸ hy
    refine .after (T.mono (P := L3 (fun _ => False) (fun b' : List aA => b'.length ≤ b.length + 1 ∧ ∀ x ∈ b', jH n x) (fun b' : Lp (List aA × Int) (Bool × List aE × List aA) => ∃ s, b' = .brk s ∧ s.1.length ≤ 360 ∧ ∀ x ∈ s.1, jH n x)) (.ix (by omega) (by simp only; omega) fun x _ hx => .bindEq (XZ hF (M1.sm hn hm)) (.after ?_)) fun j hj => ?_)
    · have gx := h.k x hx
      refine .ite (fun _ => .ite (fun _ => .ret (show b.length ≤ b.length + 1 ∧ _ from ⟨by omega, hs2.2.2.2⟩)) fun _ => .brk (put _ ⟨gx.1, by simp, fun _ h => by simp at h, gx.2.2.2⟩)) fun _ => .brk (put _ gx)
    · cases j with
      | go s => exact hj
      | ret s =>
        obtain ⟨s', rfl, h3⟩ := hj
        exact h3
      | brk b' =>
        have := hj.1
        exact .go ⟨⟨by simp only; omega, by simp only; omega, by simp only; omega, hj.2⟩, by simp only; omega⟩
open Go.Vm
section
variable {n m : Nat} {q : Int} {s : List aE} {k : List aA} {e : List aI} {v : List aK}
theorem Md.setK (h : Md n m q s k e v) {i : Nat} {x : aA} (hx : jH n x) : Md n m q s (k.set i x) e v :=
 ⟨h.q, h.sn, h.s, by simp [h.kn], fun y hy => (iX hy).elim (h.k y) fun e => e ▸ hx, h.en, h.e, h.vn, h.v⟩
theorem Md.setS (h : Md n m q s k e v) {i : Nat} {x : aE} (hx : zE n x) : Md n m q (s.set i x) k e v :=
 ⟨h.q, by simp [h.sn], fun y hy => (iX hy).elim (h.s y) fun e => e ▸ hx, h.kn, h.k, h.en, h.e, h.vn, h.v⟩
theorem Md.setE (h : Md n m q s k e v) {i : Nat} {x : aI} (hx : CZ n x) : Md n m q s k (e.set i x) v :=
 ⟨h.q, h.sn, h.s, h.kn, h.k, by simp [h.en], fun y hy => (iX hy).elim (h.e y) fun e => e ▸ hx, h.vn, h.v⟩
theorem Md.setV (h : Md n m q s k e v) {i : Nat} {x : aK} (hx : n4 x) : Md n m q s k e (v.set i x) :=
 ⟨h.q, h.sn, h.s, h.kn, h.k, h.en, h.e, by simp [h.vn], fun y hy => (iX hy).elim (h.v y) fun e => e ▸ hx⟩
end
theorem WU {F n m : Nat} {q : Int} {s : List aE} {k : List aA} {e : List aI} {v : List aK} {it : bQ} {lc : bI} (hF : 1000 ≤ F) (h : Md n m q s k e v) (hn : n < 300) (hm : m < 300) (hl : tM lc) (h1 : gI it.Seq) (h2 : gI it.Of) :
    T (HT F { Seq := q, Snaps := s, Chunks := k, Exps := e, Vols := v } it lc) fun r => Md (n + 1) (m + 1) r.2.1 r.2.2.1 r.2.2.2.1 r.2.2.2.2 v := by
  have hsn := h.sn
  have hkn := h.kn
  have hen := h.en
  have H : Md (n + 1) (m + 1) q s k e v := h.mono (by omega) (by omega)
  have H1 : Md (n + 1) m q s k e v := h.mono (by omega) (by omega)
  unfold HT
  refine .after (T.mono (P := L3 (fun _ => False) (fun j => Md (n + 1) (m + 1) j.1 s j.2.1 j.2.2 v) fun r => Md (n + 1) (m + 1) r.2.1 r.2.2.1 r.2.2.2.1 r.2.2.2.2 v) (.ite (fun _ => ?_) fun _ => .ite (fun _ => ?_) fun _ => ?_) fun j hj => ?_)
  · refine .bind _ (YF hF (by simp only; omega)) fun y hy => .ite (fun _ => .ret H) fun hc => ?_
    have hc : ¬ (y < 0) := by simpa using hc
    simp only at hy
    refine .ix (by omega) (by simp only; omega) fun x _ hx => .bind _ (NV hF (h.k x hx).2.2.2 (by omega) hl) fun z hz => .ix (by omega) (by simp only; omega) fun x2 _ hx2 => .brk ?_
    exact H.setK ⟨(h.k x2 hx2).1, (h.k x2 hx2).2.1, (h.k x2 hx2).2.2.1, hz⟩
  · refine .loop (fun i => 0 ≤ i ∧ i ≤ s.length) (fun i => (s.length - i).toNat) (fun _ => True) (by omega) (by omega) (fun i hi => ?_) (fun _ _ => .ret H)
    unfold rW
    refine .ite (fun hc => ?_) fun _ => .brk trivial
    have hc := of_decide_eq_true hc
    simp only at hc
    rw [wr (n := i + 1) (by omega) (by omega)]
    refine .ix (by omega) (by simp only; omega) fun x _ hx => .ite (fun _ => ?_) fun _ => .go (by omega)
    refine .ix (by omega) (by simp only; omega) fun x _ hx => .bind _ (NV hF (h.s x hx).2.2 (by omega) hl) fun z hz => .ix (by omega) (by simp only; omega) fun x2 _ hx2 => .ret ?_
    exact H.setS (x := { x2 with Locs := z }) ⟨(h.s x2 hx2).1, (h.s x2 hx2).2.1, hz⟩
  · refine T.scan (by simp only; omega) (by simp only; omega) (fun _ => rfl) (fun y _ => .brk trivial) fun r hr => ?_
    simp only at hr
    have rest : T ((slc e 0 r).bind fun x441 => (app ([] : List aI) x441).bind fun z443 => (app z443 ([({ Seq := it.Seq, Of := it.Of, Locs := ([lc] : List bI) } : aI)] : List aI)).bind fun z451 => (slc e r (e).length).bind fun x459 => (app z451 x459).bind fun z461 => after (if (decide (q ≤ it.Seq)) = true then (some (.brk (decide (it.Seq < 4611686018427387904)))) else some (.brk false) : Option (Lp (Bool) (Lp (Int × (List aA) × (List aI)) (Bool × Int × (List aE) × (List aA) × (List aI))))) fun j471 => after (if j471 = true then (some (.brk (IntKind.wrap .i64 (it.Seq + 1)))) else some (.brk q) : Option (Lp (Int) (Lp (Int × (List aA) × (List aI)) (Bool × Int × (List aE) × (List aA) × (List aI))))) fun j476 => some (.brk (j476, k, z461)))
        (L3 (fun _ => False) (fun j => Md (n + 1) (m + 1) j.1 s j.2.1 j.2.2 v) fun r => Md (n + 1) (m + 1) r.2.1 r.2.2.1 r.2.2.2.1 r.2.2.2.2 v) := by
      refine .ins (by omega) (by omega) fun z z1 z2 => ?_
      have fin : ∀ q' : Int, gI q' → Md (n + 1) (m + 1) q' s k z v := fun q' hq => ⟨hq, H.sn, H.s, H.kn, H.k, by omega, fun x hx => by
        rcases z2 x hx with h3 | rfl
        · exact H.e x h3
        · exact ⟨h1, h2, by simp, fun y hy => by rw [List.mem_singleton] at hy; exact hy ▸ hl⟩, H.vn, H.v⟩
      have fin2 : ∀ b : Bool, T (after (if b = true then (some (.brk (IntKind.wrap .i64 (it.Seq + 1)))) else some (.brk q) : Option (Lp (Int) (Lp (Int × (List aA) × (List aI)) (Bool × Int × (List aE) × (List aA) × (List aI))))) fun j476 => some (.brk (j476, k, z)))
          (L3 (fun _ => False) (fun j => Md (n + 1) (m + 1) j.1 s j.2.1 j.2.2 v) fun r => Md (n + 1) (m + 1) r.2.1 r.2.2.1 r.2.2.2.1 r.2.2.2.2 v) := fun b => .after (.ite (fun _ => .brk (.brk (fin _ (uJ _)))) fun _ => .brk (.brk (fin _ h.q)))
      exact .after (.ite (fun _ => .brk (fin2 _)) fun _ => .brk (fin2 _))
    refine .after (.ite (fun hc => ?_) fun _ => .brk (T.ite (fun h => by cases h) fun _ => rest))
    have hc := of_decide_eq_true hc
    simp only at hc
    refine .ix (by omega) (by simp only; omega) fun x _ hx => .brk (T.ite (fun _ => ?_) fun _ => rest)
    refine .ix (by omega) (by simp only; omega) fun x _ hx => .bind _ (NV hF (h.e x hx).2.2 (by omega) hl) fun z hz => .ix (by omega) (by simp only; omega) fun x2 _ hx2 => .ret ?_
    exact H.setE (x := { x2 with Locs := z }) ⟨(h.e x2 hx2).1, (h.e x2 hx2).2.1, hz⟩
  · cases j with
    | go _ => exact hj
    | brk j => exact .some hj
    | ret r => exact hj
theorem WV {F n : Nat} {k : List aA} {x : aA} (hF : 1000 ≤ F) (hk : k.length ≤ 390) (h : ∀ y ∈ k, jH n y) (hx : jH n x) (hn : n ≤ 300) : T (BB F k x) fun r => r.length ≤ k.length + 1 ∧ ∀ y ∈ r, jH n y := by
 unfold BB
 refine T.scan (by omega) (by omega) (fun _ => rfl) (fun y hy => .bindEq (UV hF (h y hy).1 hx.1) (.brk trivial)) fun r hr => ?_
 have rest : T ((slc k 0 r).bind fun x104 => (app ([] : List aA) x104).bind fun z106 => (app z106 ([x] : List aA)).bind fun z114 => (slc k r (k).length).bind fun x122 => (app z114 x122).bind fun z124 => some z124) fun r => r.length ≤ k.length + 1 ∧ ∀ y ∈ r, jH n y :=
  .ins hr (by omega) fun z z1 z2 => .some ⟨by omega, fun y hy => by
   rcases z2 y hy with h3 | rfl
   ·exact h y h3
   ·exact hx⟩
 refine .after (.ite (fun hc => ?_) fun _ => .brk (T.ite (fun h => by cases h) fun _ => rest))
 have hc := of_decide_eq_true hc
 refine .ix (by omega) (by omega) fun y _ hy => .brk (T.ite (fun _ => ?_) fun _ => rest)
 rw [V6]
 refine .bindEq (U6 hF (by omega) fun y hy => ⟨Nat.le_trans (h y hy).2.2.2.1 hn, (h y hy).2.1⟩) (.bindEq (JK (by have := hx.2.1; omega)) (.ix (by omega) (by omega) fun y2 _ hy2 => .ix (by omega) (by simp; omega) fun y3 _ hy3 => .some ⟨by simp, fun w hw => ?_⟩))
 have g2 := h y2 hy2
 have g2' : jH n { y2 with Staged := true } := g2
 have g3 : jH n y3 := by
  rcases iX hy3 with h4 | rfl
  ·exact h y3 h4
  ·exact g2'
 rcases iX hw with h3 | rfl
 ·rcases iX h3 with h4 | rfl
  ·exact h w h4
  ·exact g2'
 ·exact ⟨g3.1, hx.2.1, hx.2.2.1, g3.2.2.2⟩
theorem WW {F : Nat} {c : a8} (hF : 1000 ≤ F) (h : KX c) : T (OI F c) KX := by
 unfold OI
 have h1 := h.cn
 have h2 := h.it
 refine .bindEq (XX hF h.man.2.1 fun p hp => (h.man.2.2.1 p hp).2) (.bindEq (S6 (by rw [h.locs]; simp)) (.bindEq (U6 hF (by simp only; omega) fun y hy => ⟨by rw [(h.ch y hy).2.2.2]; simp, (h.ch y hy).2.1⟩) (.app (by simp; omega) (.some ?_))))
 exact ⟨h.seq, h.man, h.locs, h.cn, h.ch, h.sq, h.vol, by simpa using h.it, by simpa using h.iti⟩
open Go.Vm
abbrev NY := Int × Int × (List aE) × (List aA) × (List aI) × (List aK)
def Po (r : NY) : Prop := r.1 = 0 → Md 264 264 r.2.1 r.2.2.1 r.2.2.2.1 r.2.2.2.2.1 r.2.2.2.2.2
theorem C0 {n : Int} {x : Int × (List aE) × (List aA) × (List aI) × (List aK)} (h : n ≠ 0) : Po (n, x) := fun h0 => absurd h0 h
theorem WX {F : Nat} {c : aB} {d : a8} (hF : 1000 ≤ F) (ok : Ok c) (hd : KX d) : T (OJ F c d) Po := by
  have H := ok.md
  have H2 : Md 264 264 c.Seq c.Snaps c.Chunks c.Exps c.Vols := H.mono (by omega) (by omega)
  have c1 := ok.rg.ch
  have c2 := ok.rg.sn
  have c3 := ok.rg.ex
  have c4 := ok.rg.vo
  have dn := hd.cn
  have di := hd.it
  have gvol : gI d.Vol := hd.vol
  unfold OJ
  refine .after (T.mono (P := L3 (fun _ => False) (fun j => Md 264 264 j.1 j.2.1 j.2.2.1 j.2.2.2.1 j.2.2.2.2) Po) (.ite (fun _ => ?_) fun _ => ?_) fun j hj => ?_)
  · have k1 : ∀ b : Bool, T (after (aY (fun s => uH F d s.1 s.2) F (b, 0)) fun ⟨r8267, r8268⟩ => if (!r8267) = true then (some (.ret (1, c.Seq, c.Snaps, c.Chunks, c.Exps, c.Vols))) else (u6 F ({ Seq := c.Seq, Snaps := c.Snaps, Chunks := c.Chunks, Exps := c.Exps, Vols := c.Vols } : aB) d.Snap.Man.Name).bind fun y8276 => if (decide (0 ≤ y8276)) = true then (some (.ret (9, c.Seq, c.Snaps, c.Chunks, c.Exps, c.Vols))) else (app c.Snaps ([d.Snap] : List aE)).bind fun z8291 => after (aY (fun s => uI F d s.1 s.2) F (c.Chunks, 0)) fun ⟨r8375, r8376⟩ => some (.brk (IntKind.wrap .i64 (c.Seq + 1), z8291, r8375, c.Exps, c.Vols)))
        (L3 (fun _ => False) (fun j => Md 264 264 j.1 j.2.1 j.2.2.1 j.2.2.2.1 j.2.2.2.2) Po) := fun b => by
      refine .loop (fun s => 0 ≤ s.2 ∧ s.2 ≤ d.Chunks.length) (fun s => (d.Chunks.length - s.2).toNat) (fun _ => True) (by simp; omega) (by simp) (fun s hs => ?_) (fun s _ => ?_)
      · obtain ⟨b, i⟩ := s
        simp only at hs
        unfold uH
        refine .ite (fun hc => ?_) fun _ => .brk trivial
        have hc := of_decide_eq_true hc
        simp only at hc
        rw [wr (n := i + 1) (by omega) (by omega)]
        refine .after (.ite (fun _ => .ix (by omega) (by omega) fun x _ _ => .ite (fun _ => .ix (by omega) (by omega) fun y _ _ => .brk (.go (by first | omega | (simp only; omega)))) fun _ => .brk (.go (by first | omega | (simp only; omega)))) fun _ => .brk (.go (by first | omega | (simp only; omega))))
      · obtain ⟨b, i⟩ := s
        refine .ite (fun _ => .ret (C0 (by decide))) fun _ => .bindEq (VB hF (by first | omega | (simp only; omega))) (.ite (fun _ => .ret (C0 (by decide))) fun _ => .app (by simp; omega) ?_)
        refine .loop (fun s => 0 ≤ s.2 ∧ s.2 ≤ d.Chunks.length ∧ (s.1.length : Int) ≤ c.Chunks.length + s.2 ∧ ∀ x ∈ s.1, jH 200 x) (fun s => (d.Chunks.length - s.2).toNat) (fun s => s.1.length ≤ 360 ∧ ∀ x ∈ s.1, jH 200 x) (by simp; omega) ⟨by simp, by simp, by simp, H.k⟩ (fun s hs => ?_) (fun s hs => ?_)
        · obtain ⟨q, i⟩ := s
          simp only at hs
          unfold uI
          refine .ite (fun hc => ?_) fun _ => .brk ⟨by first | omega | (simp only; omega), hs.2.2.2⟩
          have hc := of_decide_eq_true hc
          simp only at hc
          rw [wr (n := i + 1) (by omega) (by omega)]
          refine .ix (by omega) (by omega) fun x _ hx => ?_
          have gx := hd.ch x hx
          refine .bind _ (WV hF (by first | omega | (simp only; omega)) hs.2.2.2 ⟨gx.1, gx.2.1, gx.2.2.1, by rw [gx.2.2.2]; exact ⟨by simp, fun _ h => by simp at h⟩⟩ (by omega)) fun y hy => .go ⟨⟨by first | omega | (simp only; omega), by first | omega | (simp only; omega), ?_, hy.2⟩, by first | omega | (simp only; omega)⟩
          have := hy.1
          simp only at this ⊢
          omega
        · obtain ⟨q, i⟩ := s
          refine .some ?_
          refine ⟨uJ _, by simp; omega, fun x hx => ?_, hs.1, fun x hx => (hs.2 x hx).mono (by omega), H2.en, H2.e, H2.vn, H2.v⟩
          rcases List.mem_append.1 hx with h | h
          · exact H2.s x h
          · rw [List.mem_singleton] at h
            subst h
            exact ⟨hd.seq, hd.man, by rw [hd.locs]; exact ⟨by simp, fun _ h => by simp at h⟩⟩
    exact .after (.ite (fun _ => .brk (k1 _)) fun _ => .brk (k1 _))
  · refine .after (T.mono (P := L3 (fun _ => False) (fun j => Md 264 264 j.1 j.2.1 j.2.2.1 j.2.2.2.1 j.2.2.2.2) (L3 (fun _ => False) (fun j => Md 264 264 j.1 j.2.1 j.2.2.1 j.2.2.2.1 j.2.2.2.2) Po)) (.ite (fun _ => ?_) fun _ => ?_) fun j hj => ?_)
    · refine .bind _ (SN hF H (by omega) (by omega)) fun y hy => .ite (fun _ => .ret (show Po _ from C0 (by decide))) fun _ => .brk (hy.mono (by omega) (by omega))
    · refine .after (T.mono (P := L3 (fun _ => False) (fun j => Md 264 264 j.1 j.2.1 j.2.2.1 j.2.2.2.1 j.2.2.2.2) (L3 (fun _ => False) (fun j => Md 264 264 j.1 j.2.1 j.2.2.1 j.2.2.2.1 j.2.2.2.2) (L3 (fun _ => False) (fun j => Md 264 264 j.1 j.2.1 j.2.2.1 j.2.2.2.1 j.2.2.2.2) Po))) (.ite (fun _ => ?_) fun _ => ?_) fun j hj => ?_)
      · have H137 := NX (F := F) (c := { Seq := c.Seq, Snaps := c.Snaps, Chunks := c.Chunks, Exps := c.Exps, Vols := c.Vols }) (i := d.Vol) (a := 1) (b := 2)
        refine .after (T.mono (P := L3 (fun _ => False) (fun b => b = true → 0 ≤ d.Vol ∧ d.Vol < c.Vols.length) (fun _ => False)) (.bind _ H137 fun y hy => .ite (fun hc => .ite (fun _ => .brk fun _ => hy hc) fun _ => .brk fun h => by cases h) fun _ => .brk fun h => by cases h) fun j hj => ?_)
        cases j with
        | go _ => exact hj
        | ret _ => exact hj.elim
        | brk b =>
        replace hj : b = true → 0 ≤ d.Vol ∧ d.Vol < c.Vols.length := hj
        refine T.loop (fun s => 0 ≤ s.2 ∧ s.2 ≤ d.Items.length ∧ (s.1 = true → 0 ≤ d.Vol ∧ d.Vol < c.Vols.length)) (fun s => (d.Items.length - s.2).toNat) (fun s => s.1 = true → 0 ≤ d.Vol ∧ d.Vol < c.Vols.length) (by simp; omega) ⟨by simp, by simp, hj⟩ (fun s hs => ?_) (fun s hs => ?_)
        · obtain ⟨b, i⟩ := s
          simp only at hs
          unfold yL
          refine .ite (fun hc => ?_) fun _ => .brk hs.2.2
          have hc := of_decide_eq_true hc
          simp only at hc
          rw [wr (n := i + 1) (by omega) (by omega)]
          have fin : ∀ b' : Bool, (b' = true → 0 ≤ d.Vol ∧ d.Vol < c.Vols.length) → T (some (.go (b', i + 1)) : Option (Lp (Bool × Int) (Lp (Int × List aE × List aA × List aI × List aK) (Lp (Int × List aE × List aA × List aI × List aK) (Lp (Int × List aE × List aA × List aI × List aK) NY)))))
            (L3 (fun s' => (0 ≤ s'.2 ∧ s'.2 ≤ d.Items.length ∧ (s'.1 = true → 0 ≤ d.Vol ∧ d.Vol < c.Vols.length)) ∧ (d.Items.length - s'.2).toNat < (d.Items.length - i).toNat) (fun s => s.1 = true → 0 ≤ d.Vol ∧ d.Vol < c.Vols.length) (L3 (fun _ => False) (fun j => Md 264 264 j.1 j.2.1 j.2.2.1 j.2.2.2.1 j.2.2.2.2) (L3 (fun _ => False) (fun j => Md 264 264 j.1 j.2.1 j.2.2.1 j.2.2.2.1 j.2.2.2.2) (L3 (fun _ => False) (fun j => Md 264 264 j.1 j.2.1 j.2.2.1 j.2.2.2.1 j.2.2.2.2) Po)))) := fun b' hb' => .go ⟨⟨by first | omega | (simp only; omega), by first | omega | (simp only; omega), hb'⟩, by first | omega | (simp only; omega)⟩
          refine .after (.ite (fun hb => ?_) fun _ => .brk (fin _ fun h => by cases h))
          exact .ix (by omega) (by omega) fun x _ _ => .ite (fun _ => .ix (by omega) (by omega) fun y _ _ => .brk (fin _ fun _ => hs.2.2 hb)) fun _ => .brk (fin _ fun h => by cases h)
        · obtain ⟨b, i0⟩ := s
          refine .ite (fun _ => .ret (show Po _ from C0 (by decide))) fun hb => ?_
          have hv := hs (by simpa using hb)
          refine .ix hv.1 hv.2 fun x _ hx => ?_
          have gx := ok.sm.g.2.2.2.2 x hx
          have gx1 : n4 { x with State := 2 } := ⟨gx.1, gx.2.1, (by show gI _; simp [gI]), gx.2.2.2⟩
          have gx2 : n4 { ({ x with State := 2 } : aK) with Files := IntKind.wrap .i64 (x.Files + 1) } := ⟨gx.1, gx.2.1, (by show gI _; simp [gI]), uJ _⟩
          have HV : Md 200 200 c.Seq c.Snaps c.Chunks c.Exps ((c.Vols.set d.Vol.toNat { x with State := 2 }).set d.Vol.toNat { ({ x with State := 2 } : aK) with Files := IntKind.wrap .i64 (x.Files + 1) }) := (H.setV gx1).setV gx2
          generalize hV : (c.Vols.set d.Vol.toNat { x with State := 2 }).set d.Vol.toNat { ({ x with State := 2 } : aK) with Files := IntKind.wrap .i64 (x.Files + 1) } = V at HV
          refine T.loop (fun s => 0 ≤ s.2.2.2.2 ∧ s.2.2.2.2 ≤ d.Items.length ∧ Md (200 + s.2.2.2.2.toNat) (200 + s.2.2.2.2.toNat) s.1 s.2.1 s.2.2.1 s.2.2.2.1 V) (fun s => (d.Items.length - s.2.2.2.2).toNat) (fun s => Md 264 264 s.1 s.2.1 s.2.2.1 s.2.2.2.1 V) (by simp; omega) ⟨by simp, by simp, HV⟩ (fun s hs => ?_) (fun s hs => ?_)
          · obtain ⟨q, s, k, e, i⟩ := s
            simp only at hs
            unfold yM
            refine .ite (fun hc => ?_) fun _ => .brk (hs.2.2.mono (by first | omega | (simp only; omega)) (by first | omega | (simp only; omega)))
            have hc := of_decide_eq_true hc
            simp only at hc
            simp only [hV]
            rw [wr (n := i + 1) (by omega) (by omega)]
            refine .ix (by omega) (by omega) fun x1 _ hx1 => .ix (by omega) (by omega) fun x2 _ hx2 => .ix (by omega) (by omega) fun x3 _ hx3 => ?_
            have d1 := hd.iti x1 hx1
            have d2 := hd.iti x2 hx2
            have d3 := hd.iti x3 hx3
            refine .bind _ (WU hF hs.2.2 (by omega) (by omega) ⟨gvol, uJ _, d2.2.2.1, d3.2.2.2⟩ d1.1 d1.2.1) fun y hy => .ite (fun _ => .ret (show Po _ from C0 (by decide))) fun _ => .go ⟨⟨by first | omega | (simp only; omega), by first | omega | (simp only; omega), ?_⟩, by first | omega | (simp only; omega)⟩
            exact hy.mono (by first | omega | (simp only; omega)) (by first | omega | (simp only; omega))
          · obtain ⟨q, s, k, e, i0⟩ := s
            simp only at hs
            refine T.loop (fun s' => 0 ≤ s'.2.2 ∧ s'.2.2 ≤ d.Items.length ∧ Md 264 264 q s'.1 s'.2.1 e V) (fun s' => (d.Items.length - s'.2.2).toNat) (fun s' => Md 264 264 q s'.1 s'.2.1 e V) (by simp; omega) ⟨by simp, by simp, hs⟩ (fun s' hs2 => ?_) (fun s' hs2 => ?_)
            · obtain ⟨s, k, i⟩ := s'
              simp only at hs2
              unfold yN
              refine .ite (fun hc => ?_) fun _ => .brk hs2.2.2
              have hc := of_decide_eq_true hc
              simp only at hc
              simp only [hV]
              rw [wr (n := i + 1) (by omega) (by omega)]
              refine .ix (by omega) (by omega) fun x1 _ _ => .after (.ite (fun _ => .ix (by omega) (by omega) fun x2 _ _ => .bind _ (SN hF hs2.2.2 (by omega) (by omega)) fun y hy => .brk (.go ⟨⟨by first | omega | (simp only; omega), by first | omega | (simp only; omega), hy⟩, by first | omega | (simp only; omega)⟩)) fun _ => .brk (.go ⟨⟨by first | omega | (simp only; omega), by first | omega | (simp only; omega), hs2.2.2⟩, by first | omega | (simp only; omega)⟩))
            · obtain ⟨s, k, i1⟩ := s'
              simp only at hs2
              simp only [hV]
              refine .after (T.mono (P := L3 (fun _ => False) (fun k' => Md 264 264 q s k' e V) (fun _ => False)) (.ite (fun _ => ?_) fun _ => .brk hs2) fun j hj2 => ?_)
              · refine T.loop (fun s' => 0 ≤ s'.2 ∧ s'.2 ≤ d.Items.length ∧ Md 264 264 q s s'.1 e V) (fun s' => (d.Items.length - s'.2).toNat) (fun s' => Md 264 264 q s s'.1 e V) (by simp; omega) ⟨by simp, by simp, hs2⟩ (fun s' hs3 => ?_) (fun s' hs3 => .brk hs3)
                obtain ⟨k, i⟩ := s'
                simp only at hs3
                unfold rX
                refine .ite (fun hc => ?_) fun _ => .brk hs3.2.2
                have hc := of_decide_eq_true hc
                simp only at hc
                simp only [hV]
                rw [wr (n := i + 1) (by omega) (by omega)]
                have hk := hs3.2.2.kn
                refine .ix (by omega) (by omega) fun x1 _ _ => .after (.ite (fun _ => .ix (by omega) (by omega) fun x2 _ _ => .bind _ (YF hF (by first | omega | (simp only; omega))) fun y hy => .after (.ite (fun h0 => ?_) fun _ => .brk (.brk (.go ⟨⟨by first | omega | (simp only; omega), by first | omega | (simp only; omega), hs3.2.2⟩, by first | omega | (simp only; omega)⟩)))) fun _ => .brk (.go ⟨⟨by first | omega | (simp only; omega), by first | omega | (simp only; omega), hs3.2.2⟩, by first | omega | (simp only; omega)⟩))
                have h0 := of_decide_eq_true h0
                simp only at hy
                refine .ix (by omega) (by omega) fun z _ hz => .ix (by omega) (by simp; omega) fun z2 _ hz2 => .brk (.brk (.go ⟨⟨by first | omega | (simp only; omega), by first | omega | (simp only; omega), ?_⟩, by first | omega | (simp only; omega)⟩))
                have gz := hs3.2.2.k z hz
                have gz1 : jH 264 { z with Staged := false } := gz
                have gz2 : jH 264 z2 := (iX hz2).elim (hs3.2.2.k z2) fun e => e ▸ gz1
                exact (hs3.2.2.setK gz1).setK (x := { z2 with Data := [] }) ⟨gz2.1, by simp, fun _ h => by simp at h, gz2.2.2.2⟩
              · cases j with
                | go _ => exact hj2
                | ret _ => exact hj2.elim
                | brk k' => exact .brk hj2
      · refine .after (T.mono (P := L3 (fun _ => False) (fun j => Md 264 264 c.Seq j.1 j.2.1 j.2.2.1 j.2.2.2) (L3 (fun _ => False) (fun j => Md 264 264 j.1 j.2.1 j.2.2.1 j.2.2.2.1 j.2.2.2.2) (L3 (fun _ => False) (fun j => Md 264 264 j.1 j.2.1 j.2.2.1 j.2.2.2.1 j.2.2.2.2) (L3 (fun _ => False) (fun j => Md 264 264 j.1 j.2.1 j.2.2.1 j.2.2.2.1 j.2.2.2.2) Po)))) (.ite (fun _ => ?_) fun _ => ?_) fun j hj => ?_)
        · refine .bind _ NX fun y hy => .ite (fun _ => .ret (show Po _ from C0 (by decide))) fun hb => ?_
          have hv := hy (by simpa using hb)
          refine .ix hv.1 hv.2 fun x _ hx => ?_
          have gx := ok.sm.g.2.2.2.2 x hx
          have gx1 : n4 { x with State := 3 } := ⟨gx.1, gx.2.1, (by show gI _; simp [gI]), gx.2.2.2⟩
          refine .ix hv.1 (by simp; exact hv.2) fun x2 _ hx2 => ?_
          have gx2 : n4 x2 := (iX hx2).elim (ok.sm.g.2.2.2.2 x2) fun e => e ▸ gx1
          have gx3 : n4 { x2 with Files := 0 } := ⟨gx2.1, gx2.2.1, gx2.2.2.1, (by show gI _; simp [gI])⟩
          have HV : Md 200 200 c.Seq c.Snaps c.Chunks c.Exps ((c.Vols.set d.Vol.toNat { x with State := 3 }).set d.Vol.toNat { x2 with Files := 0 }) := (H.setV gx1).setV gx3
          refine T.loop (fun s => 0 ≤ s.2 ∧ s.2 ≤ c.Chunks.length ∧ (s.1.length : Int) ≤ s.2 ∧ ∀ x ∈ s.1, jH 200 x) (fun s => (c.Chunks.length - s.2).toNat) (fun s => s.1.length ≤ 360 ∧ ∀ x ∈ s.1, jH 200 x) (by simp; omega) (by simp) (fun s hs => ?_) (fun s hs => ?_)
          · obtain ⟨q, i⟩ := s
            simp only at hs
            unfold rY
            refine .ite (fun hc => ?_) fun _ => .brk ⟨by first | omega | (simp only; omega), hs.2.2.2⟩
            have hc := of_decide_eq_true hc
            simp only at hc
            rw [wr (n := i + 1) (by omega) (by omega)]
            refine .ix (by omega) (by omega) fun x1 _ hx1 => .bind _ (NW hF (H.k x1 hx1).2.2.2 (by omega)) fun y hy => ?_
            have put : ∀ b : Bool, T (after (if b = true then ((app q ([{ x1 with Locs := y }] : List aA)).bind fun z16059 => some (.brk z16059)) else some (.brk q) : Option (Lp (List aA) (Lp (List aA × Int) (Lp (List aE × List aA × List aI × List aK) (Lp (Int × List aE × List aA × List aI × List aK) (Lp (Int × List aE × List aA × List aI × List aK) (Lp (Int × List aE × List aA × List aI × List aK) NY))))))) fun j16055 => some (.go (j16055, i + 1)))
                (L3 (fun s' => (0 ≤ s'.2 ∧ s'.2 ≤ c.Chunks.length ∧ (s'.1.length : Int) ≤ s'.2 ∧ ∀ x ∈ s'.1, jH 200 x) ∧ (c.Chunks.length - s'.2).toNat < (c.Chunks.length - i).toNat) (fun s => s.1.length ≤ 360 ∧ ∀ x ∈ s.1, jH 200 x) (L3 (fun _ => False) (fun j => Md 264 264 c.Seq j.1 j.2.1 j.2.2.1 j.2.2.2) (L3 (fun _ => False) (fun j => Md 264 264 j.1 j.2.1 j.2.2.1 j.2.2.2.1 j.2.2.2.2) (L3 (fun _ => False) (fun j => Md 264 264 j.1 j.2.1 j.2.2.1 j.2.2.2.1 j.2.2.2.2) (L3 (fun _ => False) (fun j => Md 264 264 j.1 j.2.1 j.2.2.1 j.2.2.2.1 j.2.2.2.2) Po))))) := fun b => by
              refine .after (.ite (fun _ => .app (by simp; omega) (.brk (.go ⟨⟨by first | omega | (simp only; omega), by first | omega | (simp only; omega), by simp; omega, fun w hw => ?_⟩, by first | omega | (simp only; omega)⟩))) fun _ => .brk (.go ⟨⟨by first | omega | (simp only; omega), by first | omega | (simp only; omega), by first | omega | (simp only; omega), hs.2.2.2⟩, by first | omega | (simp only; omega)⟩))
              rcases List.mem_append.1 hw with h | h
              · exact hs.2.2.2 w h
              · rw [List.mem_singleton] at h
                subst h
                exact ⟨(H.k x1 hx1).1, (H.k x1 hx1).2.1, (H.k x1 hx1).2.2.1, hy⟩
            exact .after (.ite (fun _ => .brk (put _)) fun _ => .brk (put _))
          · obtain ⟨k, i0⟩ := s
            simp only at hs
            refine T.loop (fun s => 0 ≤ s.2 ∧ s.2 ≤ c.Snaps.length ∧ s.1.length = c.Snaps.length ∧ ∀ x ∈ s.1, zE 200 x) (fun s => (c.Snaps.length - s.2).toNat) (fun s => s.1.length ≤ 9 ∧ ∀ x ∈ s.1, zE 200 x) (by simp; omega) ⟨by simp, by simp, rfl, H.s⟩ (fun s hs2 => ?_) (fun s hs2 => ?_)
            · obtain ⟨q, i⟩ := s
              simp only at hs2
              unfold rZ
              refine .ite (fun hc => ?_) fun _ => .brk ⟨by first | omega | (simp only; omega), hs2.2.2.2⟩
              have hc := of_decide_eq_true hc
              simp only at hc
              rw [wr (n := i + 1) (by omega) (by omega)]
              refine .ix (by omega) (by omega) fun x1 _ hx1 => .bind _ (NW hF (hs2.2.2.2 x1 hx1).2.2 (by omega)) fun y hy => .ix (by omega) (by omega) fun x2 _ hx2 => .go ⟨⟨by first | omega | (simp only; omega), by first | omega | (simp only; omega), by simp; exact hs2.2.2.1, fun w hw => ?_⟩, by first | omega | (simp only; omega)⟩
              rcases iX hw with h | rfl
              · exact hs2.2.2.2 w h
              · exact ⟨(hs2.2.2.2 x2 hx2).1, (hs2.2.2.2 x2 hx2).2.1, hy⟩
            · obtain ⟨s, i1⟩ := s
              simp only at hs2
              refine T.loop (fun s => 0 ≤ s.2 ∧ s.2 ≤ c.Exps.length ∧ (s.1.length : Int) ≤ s.2 ∧ ∀ x ∈ s.1, CZ 200 x) (fun s => (c.Exps.length - s.2).toNat) (fun s => s.1.length ≤ 200 ∧ ∀ x ∈ s.1, CZ 200 x) (by simp; omega) (by simp) (fun s hs3 => ?_) (fun s hs3 => ?_)
              · obtain ⟨q, i⟩ := s
                simp only at hs3
                unfold sA
                refine .ite (fun hc => ?_) fun _ => .brk ⟨by first | omega | (simp only; omega), hs3.2.2.2⟩
                have hc := of_decide_eq_true hc
                simp only at hc
                rw [wr (n := i + 1) (by omega) (by omega)]
                refine .ix (by omega) (by omega) fun x1 _ hx1 => .bind _ (NW hF (H.e x1 hx1).2.2 (by omega)) fun y hy => ?_
                refine .after (.ite (fun _ => .app (by simp; omega) (.brk (.go ⟨⟨by first | omega | (simp only; omega), by first | omega | (simp only; omega), by simp; omega, fun w hw => ?_⟩, by first | omega | (simp only; omega)⟩))) fun _ => .brk (.go ⟨⟨by first | omega | (simp only; omega), by first | omega | (simp only; omega), by first | omega | (simp only; omega), hs3.2.2.2⟩, by first | omega | (simp only; omega)⟩))
                rcases List.mem_append.1 hw with h | h
                · exact hs3.2.2.2 w h
                · rw [List.mem_singleton] at h
                  subst h
                  exact ⟨(H.e x1 hx1).1, (H.e x1 hx1).2.1, hy⟩
              · obtain ⟨e, i2⟩ := s
                simp only at hs3
                exact .brk (Md.mono (n := 200) (m := 200) ⟨H.q, hs2.1, hs2.2, hs.1, hs.2, hs3.1, hs3.2, HV.vn, HV.v⟩ (by omega) (by omega))
        · refine .after (T.mono (P := L3 (fun _ => False) (fun v' => Md 264 264 c.Seq c.Snaps c.Chunks c.Exps v') (L3 (fun _ => False) (fun j => Md 264 264 c.Seq j.1 j.2.1 j.2.2.1 j.2.2.2) (L3 (fun _ => False) (fun j => Md 264 264 j.1 j.2.1 j.2.2.1 j.2.2.2.1 j.2.2.2.2) (L3 (fun _ => False) (fun j => Md 264 264 j.1 j.2.1 j.2.2.1 j.2.2.2.1 j.2.2.2.2) (L3 (fun _ => False) (fun j => Md 264 264 j.1 j.2.1 j.2.2.1 j.2.2.2.1 j.2.2.2.2) Po))))) (.ite (fun _ => ?_) fun _ => .brk H2) fun j hj => ?_)
          · refine .bind _ NX fun y hy => .ite (fun _ => .ret (show Po _ from C0 (by decide))) fun hb => ?_
            have hv := hy (by simpa using hb)
            refine .ix hv.1 hv.2 fun x _ hx => .ix hv.1 hv.2 fun x1 _ hx1 => ?_
            have gx := ok.sm.g.2.2.2.2 x1 hx1
            have gx1 : n4 { x1 with State := 1 } := ⟨gx.1, gx.2.1, (by show gI _; simp [gI]), gx.2.2.2⟩
            refine .ix hv.1 (by simp; exact hv.2) fun x2 _ hx2 => .brk ?_
            have gx2 : n4 x2 := (iX hx2).elim (ok.sm.g.2.2.2.2 x2) fun e => e ▸ gx1
            exact (H2.setV gx1).setV (x := { x2 with Epoch := IntKind.wrap .i64 (x.Epoch + 1) }) ⟨gx2.1, uJ _, gx2.2.2.1, gx2.2.2.2⟩
          · cases j with
            | go _ => exact hj
            | brk j => exact .brk hj
            | ret r => exact hj
        · cases j with
          | go _ => exact hj
          | brk j => exact .brk hj
          | ret r => exact hj
      · cases j with
        | go _ => exact hj
        | brk j => exact .brk hj
        | ret r => exact hj
    · cases j with
      | go _ => exact hj
      | brk j => exact .brk hj
      | ret r => exact hj
  · cases j with
    | go _ => exact hj
    | brk j => exact .some fun _ => hj
    | ret r => exact hj
end Go.Proofs.YtbbifdfldpfphaaGreat
