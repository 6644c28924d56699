import Derived.Test.YtbbifdfldpfphaaGreatK3P3
import Derived.Test.YtbbifdfldpfphaaGreatK3P1
import Derived.Lib.Bytealg
set_option linter.unusedSimpArgs false
set_option linter.unusedVariables false
set_option maxHeartbeats 4000000
set_option maxRecDepth 100000
namespace Go.Proofs.YtbbifdfldpfphaaGreat
open Go.Vm
def DI (m : Nat) (p0 : Int) (p1 : Int) (p2 : Int) : Option (Bool) :=
 after (if (decide (p1 ≤ p0)) = true then (some (.brk (decide (p0 ≤ p2)))) else some (.brk false) : Option (Lp (Bool) (Bool))) fun j4 => some j4
theorem IC {u : Nat} {p0 : Int} {p1 : Int} {p2 : Int} {o : Bool} (h : aH) (m : DI u p0 p1 p2 = some o) :
 aP Tryz.prog 97 [nZ p0, nZ p1, nZ p2] h (fun r h' => r = .sc (.bool o) ∧ h' = h) := by
 refine fW 15 [.tmp 6] Tryz.func97 rfl rfl rfl rfl ?_
 unfold DI at m
 refine v (vs ?_)
 refine cW m (σ := Bool) (τ := Unit) (fun g s => []) (fun g s => .c 6 (.sc (.bool s)) .nil) (fun x m => ?_) ?_
 refine v ?_
 refine vi m (fun b5 m => ?_) fun b5 m => ?_
 rw [b5]
 exact bD m (lx (.cons (aX.refl _ _) .nil))
 rw [b5]
 exact bD m (lx (.cons (aX.refl _ _) .nil))
 rintro _ j4 m
 refine v ?_
 injection m with m; subst m
 exact eM rfl
theorem u1 : aU Tryz.prog 97 = true := by kernel_rfl
def rQ (m : Nat) (p0 : bP) (p1 : bP) (q0 : Int) : Option (Lp (Int) (Bool)) :=
 if (decide (q0 < 32)) = true then ((ix p0.1 q0).bind fun x0 => (ix p1.1 q0).bind fun x1 => if (x0 != x1) = true then ((ix p0.1 q0).bind fun x2 => (ix p1.1 q0).bind fun x3 => some (.ret (decide (x2 < x3)))) else some (.go (IntKind.wrap .i64 (q0 + 1)))) else some (.brk q0)
def GT (m : Nat) (p0 : bP) (p1 : bP) : Option (Bool) :=
 after (aY (fun s => rQ m p0 p1 s) m 0) fun r0 => some false
theorem QC {w : Nat} {p0 : bP} {p1 : bP} {o : Bool} (h : aH) (m : GT w p0 p1 = some o) :
 aP Tryz.prog 147 [.agg (bF p0), .agg (bF p1)] h (fun r h' => r = .sc (.bool o) ∧ h' = h) := by
 refine fW 24 [.tmp 4] Tryz.func147 rfl rfl rfl rfl ?_
 unfold GT at m
 refine v ?_
 refine ve fun u => cQ u rfl rfl fun k2 K3 => qk K3 rfl ?_
 refine ve fun u => cQ u rfl rfl fun k5 K6 => qk K6 rfl ?_
 refine v ?_
 refine eO m (σ := Int) (τ := Unit) (fun g s => [(some k5, .obj 36 (bF p1)), (some k2, .obj 36 (bF p0))]) (fun g s => .c 2 (.ptr k2 0) (.c 3 (.ptr k5 0) (.c 5 (nZ s) .nil))) () (lx (.k3 .nil)) ?_ ?_
 rintro _ q0 x m
 replace m : rQ w p0 p1 q0 = some x := m
 unfold rQ at m
 refine v (v ?_)
 refine vi m (fun c0 m => ?_) fun c0 m => ?_
 refine v (v (v (vq (by kernel_rfl) ?_)))
 obtain ⟨_, X0, m⟩ := aC m
 refine vn (fun _ => jO X0 o8 rfl rfl) (vn (fun u => kX 0 X0 B9 rfl (bB 1 u rfl) rfl) ?_)
 obtain ⟨_, X1, m⟩ := aC m
 refine vn (fun _ => jO X1 o8 rfl rfl) (vn (fun u => kX 0 X1 B9 rfl (bB 0 u rfl) rfl) (v ?_))
 refine vi m (fun c1 m => ?_) fun c1 m => ?_
 refine v (vq (by kernel_rfl) ?_)
 obtain ⟨_, X2, m⟩ := aC m
 refine vn (fun _ => jO X2 o8 rfl rfl) (vn (fun u => kX 0 X2 B9 rfl (bB 1 u rfl) rfl) ?_)
 obtain ⟨_, X3, m⟩ := aC m
 refine vn (fun _ => jO X3 o8 rfl rfl) (vn (fun u => kX 0 X3 B9 rfl (bB 0 u rfl) rfl) (v ?_))
 refine gA m fun m => ?_
 cases m
 exact eM rfl
 refine v (v ?_)
 exact bD m (lx (.k3 .nil))
 refine v ?_
 exact iS m (lx (.k3 .nil))
 rintro _ r0 m
 refine v (v ?_)
 injection m with m; subst m
 exact eM rfl
theorem KH : aU Tryz.prog 147 = true := by kernel_rfl
def pH (m : Nat) (p0 : aB) (p1 : List bI) (q0 : Int) : Option (Lp (Int) (Bool)) :=
 if (decide (q0 < (p1.length : Int))) = true then ((ix p1 q0).bind fun x0 => after (if (decide (x0.Vol < 0)) = true then (some (.brk true)) else if (decide ((p0.Vols.length : Int) ≤ x0.Vol)) = true then (some (.brk true)) else (ix p0.Vols x0.Vol).bind fun x1 => if (x1.State != 2) = true then (some (.brk true)) else (ix p0.Vols x0.Vol).bind fun x2 => (DI m x0.File 1 x2.Files).bind fun y0 => if (!y0) = true then (some (.brk true)) else (DI m x0.Off 0 16777215).bind fun y1 => if (!y1) = true then (some (.brk true)) else (DI m x0.Len 13 8013).bind fun y2 => some (.brk (!y2)) : Option (Lp (Bool) (Lp (Int) (Bool)))) fun j0 => if j0 = true then (some (.ret false)) else after (if (decide (0 < q0)) = true then ((ix p1 (IntKind.wrap .i64 (q0 - 1))).bind fun x3 => after (if (decide (x3.Vol < x0.Vol)) = true then (some (.brk (!true))) else if (x3.Vol == x0.Vol) = true then (if (decide (x3.File < x0.File)) = true then (some (.brk (!true))) else if (x3.File == x0.File) = true then (some (.brk (!(decide (x3.Off < x0.Off))))) else some (.brk (!false))) else some (.brk (!false)) : Option (Lp (Bool) (Lp (Unit) (Lp (Int) (Bool))))) fun j1 => if j1 = true then (some (.ret (.ret false))) else some (.brk ())) else some (.brk ()) : Option (Lp (Unit) (Lp (Int) (Bool)))) fun _ => some (.go (IntKind.wrap .i64 (q0 + 1)))) else some (.brk q0)
def u2 (m : Nat) (p0 : aB) (p1 : List bI) : Option (Bool) :=
 if (decide (200 < (p1.length : Int))) = true then (some false) else after (aY (fun s => pH m p0 p1 s) m 0) fun r0 => some true
theorem EP {w : Nat} {p0 : aB} {p1 : List bI} {o : Bool} (h : aH) (m : u2 w p0 p1 = some o) :
 aP Tryz.prog 148 [.agg (aF p0), .sl none 4 (List.map aQ p1)] h (fun r h' => r = .sc (.bool o) ∧ h' = h) := by
 refine fW 108 [.tmp 4] Tryz.func148 rfl rfl rfl rfl ?_
 unfold u2 at m
 refine v ?_
 refine ve fun u => cQ u rfl rfl fun k2 K3 => qk K3 rfl ?_
 refine v (dH iF rfl (v ?_))
 refine vi m (fun c7 m => ?_) fun c7 m => ?_
 refine v (v ?_)
 injection m with m; subst m
 exact eM rfl
 refine v (v ?_)
 refine eO m (σ := Int) (τ := Unit) (fun g s => [(some k2, .obj 30 (aF p0))]) (fun g s => .c 1 (.sl none 4 (List.map aQ p1)) (.c 2 (.ptr k2 0) (.c 5 (nZ s) .nil))) () (lx (.k3 .nil)) ?_ ?_
 rintro _ q0 x m
 replace m : pH w p0 p1 q0 = some x := m
 unfold pH at m
 refine v (dH iF rfl (v ?_))
 refine vi m (fun c0 m => ?_) fun c0 m => ?_
 refine v (v (v ?_))
 refine vx m m7 rfl rfl fun x0 _ m => ?_
 refine va (.agg (aQ x0)) nA rfl rfl ?_
 refine ve fun u => bE ([nZ 0, nZ 0, nZ 0, nZ 0]) u EK rfl rfl fun k202 K0 => qk K0 rfl ?_
 refine ve fun u => aL 0 (aQ x0) u rfl rfl rfl rfl GG rfl rfl fun K1 => qk K1 rfl ?_
 refine vs (vs ?_)
 refine cW m (σ := Bool) (τ := Unit) (fun g s => [(some k202, .obj 81 (aQ x0)), (some k2, .obj 30 (aF p0))]) (fun g s => .c 1 (.sl none 4 (List.map aQ p1)) (.c 2 (.ptr k2 0) (.c 5 (nZ q0) (.c 6 (.ptr k202 0) (.c 66 (.sc (.bool s)) .nil))))) (fun x m => ?_) ?_
 refine v (vq (by kernel_rfl) (vl 0 _ cG rfl rfl rfl ?_))
 refine vi m (fun b0 m => ?_) fun b0 m => ?_
 rw [b0]
 exact bD m (lx (.k5 .nil))
 rw [b0]
 refine vl 0 _ cG rfl rfl rfl (vl 1 _ fZ rfl rfl rfl (dH qG rfl ?_))
 refine vi m (fun b1 m => ?_) fun b1 m => ?_
 rw [b1]
 exact bD m (lx (.k5 .nil))
 rw [b1]
 refine vl 1 _ fZ rfl rfl rfl (vl 0 _ cG rfl rfl rfl ?_)
 refine vx m i9 rfl rfl fun _ _ m => ?_
 refine vi m (fun b2 m => ?_) fun b2 m => ?_
 rw [b2]
 exact bD m (lx (.k5 .nil))
 rw [b2]
 refine vl 0 _ cG rfl rfl rfl (vl 1 _ fZ rfl rfl rfl (vl 0 _ cG rfl rfl rfl ?_))
 refine vx m i9 rfl rfl fun _ _ m => ?_
 refine vk IC u1 m rfl rfl fun _ m => ?_
 refine vi m (fun b3 m => ?_) fun b3 m => ?_
 rw [b3]
 exact bD m (lx (.k5 .nil))
 rw [b3]
 refine vl 0 _ cG rfl rfl rfl ?_
 refine vk IC u1 m rfl rfl fun _ m => ?_
 refine vi m (fun b4 m => ?_) fun b4 m => ?_
 rw [b4]
 exact bD m (lx (.k5 .nil))
 rw [b4]
 refine vl 0 _ cG rfl rfl rfl ?_
 refine vk IC u1 m rfl rfl fun _ m => ?_
 exact bD m (lx (.k5 .nil))
 rintro _ j0 m
 refine v ?_
 refine vi m (fun c1 m => ?_) fun c1 m => ?_
 refine v (v ?_)
 refine gA m fun m => ?_
 injection m with m; subst m
 exact eM rfl
 refine v (v ?_)
 refine cW m (σ := Unit) (τ := Unit) (fun g s => [(some k202, .obj 81 (aQ x0)), (some k2, .obj 30 (aF p0))]) (fun g s => .c 1 (.sl none 4 (List.map aQ p1)) (.c 2 (.ptr k2 0) (.c 5 (nZ q0) .nil))) (fun x m => ?_) ?_
 refine v ?_
 refine vi m (fun c2 m => ?_) fun c2 m => ?_
 refine v ?_
 refine vx m m7 rfl rfl fun x1 _ m => ?_
 refine va (.agg (aQ x1)) nA rfl rfl ?_
 refine ve fun u => bE ([nZ 0, nZ 0, nZ 0, nZ 0]) u EK rfl rfl fun k268 K2 => qk K2 rfl ?_
 refine ve fun u => aL 0 (aQ x1) u rfl rfl rfl rfl GG rfl rfl fun K4 => qk K4 rfl ?_
 refine vs ?_
 refine cW m (σ := Bool) (τ := Unit) (fun g s => [(some k268, .obj 81 (aQ x1)), (some k202, .obj 81 (aQ x0)), (some k2, .obj 30 (aF p0))]) (fun g s => .c 1 (.sl none 4 (List.map aQ p1)) (.c 2 (.ptr k2 0) (.c 5 (nZ q0) (.c 107 (.sc (.bool s)) .nil)))) (fun x m => ?_) ?_
 refine v (vl 0 _ cG rfl rfl rfl (vl 1 _ cG rfl rfl rfl ?_))
 refine vi m (fun b5 m => ?_) fun b5 m => ?_
 rw [b5]
 exact bD m (lx (.k4 .nil))
 rw [b5]
 refine vl 0 _ cG rfl rfl rfl (vl 1 _ cG rfl rfl rfl ?_)
 refine vi m (fun b6 m => ?_) fun b6 m => ?_
 rw [b6]
 refine vl 0 _ cG rfl rfl rfl (vl 1 _ cG rfl rfl rfl ?_)
 refine vi m (fun b7 m => ?_) fun b7 m => ?_
 rw [b7]
 exact bD m (lx (.k4 .nil))
 rw [b7]
 refine vl 0 _ cG rfl rfl rfl (vl 1 _ cG rfl rfl rfl ?_)
 refine vi m (fun b8 m => ?_) fun b8 m => ?_
 rw [b8]
 refine vl 0 _ cG rfl rfl rfl (vl 1 _ cG rfl rfl rfl ?_)
 exact bD m (lx (.k4 .nil))
 rw [b8]
 exact bD m (lx (.k4 .nil))
 rw [b6]
 exact bD m (lx (.k4 .nil))
 rintro _ j1 m
 refine v ?_
 refine vi m (fun c3 m => ?_) fun c3 m => ?_
 refine v (v ?_)
 refine gA m fun m => ?_
 refine gA m fun m => ?_
 injection m with m; subst m
 exact eM rfl
 refine v ?_
 exact bD m (kR [1, 2] rfl rfl (.k3 .nil))
 refine v ?_
 exact bD m (lx (.k3 .nil))
 rintro _ _ m
 refine v ?_
 exact bD m (kR [1] rfl rfl (.k3 .nil))
 refine v ?_
 exact iS m (lx (.k3 .nil))
 rintro _ r0 m
 refine v (v ?_)
 injection m with m; subst m
 exact eM rfl
theorem wB : aU Tryz.prog 148 = true := by kernel_rfl
def pI (m : Nat) (p0 : ByteArray) (q0 : Int) : Option (Lp (Int) (Bool)) :=
 if (decide (q0 < (p0.size : Int))) = true then (after ((IQ p0 q0).bind fun x0 => if (decide (x0 < 33)) = true then (some (.brk true)) else (IQ p0 q0).bind fun x1 => some (.brk (decide (126 < x1))) : Option (Lp (Bool) (Lp (Int) (Bool)))) fun j0 => if j0 = true then (some (.ret false)) else some (.go (IntKind.wrap .i64 (q0 + 1)))) else some (.brk q0)
def xX (m : Nat) (p0 : ByteArray) : Option (Bool) :=
 after (aY (fun s => pI m p0 s) m 0) fun r0 => after (if (decide (1 ≤ (p0.size : Int))) = true then (some (.brk (decide ((p0.size : Int) ≤ 20)))) else some (.brk false) : Option (Lp (Bool) (Bool))) fun j0 => some j0
theorem GU {u : Nat} {p0 : ByteArray} {o : Bool} (h : aH) (m : xX u p0 = some o) :
 aP Tryz.prog 140 [.sc (.string p0)] h (fun r h' => r = .sc (.bool o) ∧ h' = h) := by
 refine fW 28 [.tmp 2] Tryz.func140 rfl rfl rfl rfl ?_
 unfold xX at m
 refine v (v ?_)
 refine eO m (σ := Int) (τ := Unit) (fun g s => []) (fun g s => .c 0 (.sc (.string p0)) (.c 3 (nZ s) .nil)) () (lx (.k2 .nil)) ?_ ?_
 rintro _ q0 x m
 replace m : pI u p0 q0 = some x := m
 unfold pI at m
 refine v (vn (fun _ => lW I2 rfl) (v ?_))
 refine vi m (fun c0 m => ?_) fun c0 m => ?_
 refine v (v (vs ?_))
 refine cW m (σ := Bool) (τ := Unit) (fun g s => []) (fun g s => .c 0 (.sc (.string p0)) (.c 3 (nZ q0) (.c 19 (.sc (.bool s)) .nil))) (fun x m => ?_) ?_
 refine v ?_
 obtain ⟨_, X0, m⟩ := aC m
 refine vn (fun _ => DA X0 u9 rfl rfl) ?_
 refine vi m (fun b0 m => ?_) fun b0 m => ?_
 rw [b0]
 exact bD m (lx (.k3 .nil))
 rw [b0]
 obtain ⟨_, X1, m⟩ := aC m
 refine vn (fun _ => DA X1 u9 rfl rfl) ?_
 exact bD m (lx (.k3 .nil))
 rintro _ j0 m
 refine v ?_
 refine vi m (fun c1 m => ?_) fun c1 m => ?_
 refine v (v ?_)
 refine gA m fun m => ?_
 injection m with m; subst m
 exact eM rfl
 refine v (v ?_)
 exact bD m (lx (.k2 .nil))
 refine v ?_
 exact iS m (lx (.k2 .nil))
 rintro _ r0 m
 refine vs ?_
 refine cW m (σ := Bool) (τ := Unit) (fun g s => []) (fun g s => .c 2 (.sc (.bool s)) .nil) (fun x m => ?_) ?_
 refine v (vn (fun _ => lW I2 rfl) ?_)
 refine vi m (fun b1 m => ?_) fun b1 m => ?_
 rw [b1]
 refine vn (fun _ => lW I2 rfl) ?_
 exact bD m (lx (.cons (aX.refl _ _) .nil))
 rw [b1]
 exact bD m (lx (.cons (aX.refl _ _) .nil))
 rintro _ j1 m
 refine v ?_
 injection m with m; subst m
 exact eM rfl
theorem AO : aU Tryz.prog 140 = true := by kernel_rfl
def tK (m : Nat) (p0 : a9) (q0 : Int) : Option (Lp (Int) (Bool)) :=
 if (decide (q0 < (p0.Parts.length : Int))) = true then ((ix p0.Parts q0).bind fun x0 => after ((xX m x0.Path).bind fun y0 => if (!y0) = true then (some (.brk true)) else if (decide (0 < q0)) = true then ((ix p0.Parts (IntKind.wrap .i64 (q0 - 1))).bind fun x1 => if (Op.bytesLess x0.Path.toList x1.Path.toList || x0.Path.toList == x1.Path.toList) = true then (some (.brk true)) else if (decide (x0.Size < 0)) = true then (some (.brk true)) else if (decide (200 < x0.Size)) = true then (some (.brk true)) else if (decide (25 < (x0.Ids.length : Int))) = true then (some (.brk true)) else some (.brk (((x0.Ids.length : Int) == 0) != (x0.Size == 0)))) else if (decide (x0.Size < 0)) = true then (some (.brk true)) else if (decide (200 < x0.Size)) = true then (some (.brk true)) else if (decide (25 < (x0.Ids.length : Int))) = true then (some (.brk true)) else some (.brk (((x0.Ids.length : Int) == 0) != (x0.Size == 0))) : Option (Lp (Bool) (Lp (Int) (Bool)))) fun j0 => if j0 = true then (some (.ret false)) else some (.go (IntKind.wrap .i64 (q0 + 1)))) else some (.brk q0)
def OE (m : Nat) (p0 : a9) : Option (Bool) :=
 after ((xX m p0.Name).bind fun y0 => if (!y0) = true then (some (.brk true)) else some (.brk (decide (6 < (p0.Parts.length : Int)))) : Option (Lp (Bool) (Bool))) fun j0 => if j0 = true then (some false) else after (aY (fun s => tK m p0 s) m 0) fun r0 => some true
theorem XS {w : Nat} {p0 : a9} {o : Bool} (h : aH) (m : OE w p0 = some o) :
 aP Tryz.prog 98 [.agg (bC p0)] h (fun r h' => r = .sc (.bool o) ∧ h' = h) := by
 refine fW 73 [.tmp 2] Tryz.func98 rfl rfl rfl rfl ?_
 unfold OE at m
 refine v ?_
 refine ve fun u => cQ u rfl rfl fun k2 K3 => qk K3 rfl ?_
 refine vs (vs ?_)
 refine cW m (σ := Bool) (τ := Unit) (fun g s => [(some k2, .obj 58 (bC p0))]) (fun g s => .c 1 (.ptr k2 0) (.c 14 (.sc (.bool s)) .nil)) (fun x m => ?_) ?_
 refine v (vl 0 _ uP rfl rfl rfl ?_)
 refine vk GU AO m rfl rfl fun _ m => ?_
 refine vi m (fun b0 m => ?_) fun b0 m => ?_
 rw [b0]
 exact bD m (lx (.k2 .nil))
 rw [b0]
 refine vl 0 _ lG rfl rfl rfl (dH rK rfl ?_)
 exact bD m (lx (.k2 .nil))
 rintro _ j0 m
 refine v ?_
 refine vi m (fun c0 m => ?_) fun c0 m => ?_
 refine v (v ?_)
 injection m with m; subst m
 exact eM rfl
 refine v (v ?_)
 refine eO m (σ := Int) (τ := Unit) (fun g s => [(some k2, .obj 58 (bC p0))]) (fun g s => .c 1 (.ptr k2 0) (.c 3 (nZ s) .nil)) () (lx (.k2 .nil)) ?_ ?_
 rintro _ q0 x m
 replace m : tK w p0 q0 = some x := m
 unfold tK at m
 refine v (vl 0 _ lG rfl rfl rfl (dH rK rfl (v ?_)))
 refine vi m (fun c1 m => ?_) fun c1 m => ?_
 refine v (v (v (vl 0 _ lG rfl rfl rfl ?_)))
 refine vx m o9 rfl rfl fun x0 _ m => ?_
 refine va (.agg (bV x0)) AJ rfl rfl ?_
 refine ve fun u => bE ([.sc (.string ByteArray.empty), nZ 0, sZ]) u CC rfl rfl fun k112 K0 => qk K0 rfl ?_
 refine ve fun u => aL 0 (bV x0) u rfl rfl rfl rfl EJ rfl rfl fun K1 => qk K1 rfl ?_
 refine vs ?_
 refine cW m (σ := Bool) (τ := Unit) (fun g s => [(some k112, .obj 70 (bV x0)), (some k2, .obj 58 (bC p0))]) (fun g s => .c 1 (.ptr k2 0) (.c 3 (nZ q0) (.c 72 (.sc (.bool s)) .nil))) (fun x m => ?_) ?_
 refine v (vq (by kernel_rfl) (vl 0 _ uP rfl rfl rfl ?_))
 refine vk GU AO m rfl rfl fun _ m => ?_
 refine vi m (fun b1 m => ?_) fun b1 m => ?_
 rw [b1]
 exact bD m (lx (.k3 .nil))
 rw [b1]
 refine vi m (fun b2 m => ?_) fun b2 m => ?_
 rw [b2]
 refine vl 0 _ uP rfl rfl rfl (vl 1 _ lG rfl rfl rfl ?_)
 refine vx m o9 rfl rfl fun _ _ m => ?_
 refine vn (fun _ => wV rfl rfl rfl trivial) ?_
 refine vi m (fun b3 m => ?_) fun b3 m => ?_
 rw [b3]
 exact bD m (lx (.k3 .nil))
 rw [b3]
 refine vl 0 _ cG rfl rfl rfl ?_
 refine vi m (fun b4 m => ?_) fun b4 m => ?_
 rw [b4]
 exact bD m (lx (.k3 .nil))
 rw [b4]
 refine vl 0 _ cG rfl rfl rfl ?_
 refine vi m (fun b5 m => ?_) fun b5 m => ?_
 rw [b5]
 exact bD m (lx (.k3 .nil))
 rw [b5]
 refine vl 0 _ rM rfl rfl rfl (dH pA rfl ?_)
 refine vi m (fun b6 m => ?_) fun b6 m => ?_
 rw [b6]
 exact bD m (lx (.k3 .nil))
 rw [b6]
 refine vl 0 _ rM rfl rfl rfl (dH pA rfl (vl 0 _ cG rfl rfl rfl (vn (fun _ => LH u4 rfl rfl rfl) ?_)))
 exact bD m (lx (.k3 .nil))
 rw [b2]
 refine vl 0 _ cG rfl rfl rfl ?_
 refine vi m (fun b7 m => ?_) fun b7 m => ?_
 rw [b7]
 exact bD m (lx (.k3 .nil))
 rw [b7]
 refine vl 0 _ cG rfl rfl rfl ?_
 refine vi m (fun b8 m => ?_) fun b8 m => ?_
 rw [b8]
 exact bD m (lx (.k3 .nil))
 rw [b8]
 refine vl 0 _ rM rfl rfl rfl (dH pA rfl ?_)
 refine vi m (fun b9 m => ?_) fun b9 m => ?_
 rw [b9]
 exact bD m (lx (.k3 .nil))
 rw [b9]
 refine vl 0 _ rM rfl rfl rfl (dH pA rfl (vl 0 _ cG rfl rfl rfl (vn (fun _ => LH u4 rfl rfl rfl) ?_)))
 exact bD m (lx (.k3 .nil))
 rintro _ j1 m
 refine v ?_
 refine vi m (fun c2 m => ?_) fun c2 m => ?_
 refine v (v ?_)
 refine gA m fun m => ?_
 injection m with m; subst m
 exact eM rfl
 refine v (v ?_)
 exact bD m (kR [1] rfl rfl (.k2 .nil))
 refine v ?_
 exact iS m (lx (.k2 .nil))
 rintro _ r0 m
 refine v (v ?_)
 injection m with m; subst m
 exact eM rfl
theorem QD : aU Tryz.prog 98 = true := by kernel_rfl
def rR (m : Nat) (p0 : bP) (p1 : bP) (q0 : Int) : Option (Lp (Int) (Bool)) :=
 if (decide (q0 < 32)) = true then ((ix p0.1 q0).bind fun x0 => (ix p1.1 q0).bind fun x1 => if (x0 != x1) = true then ((ix p0.1 q0).bind fun x2 => (ix p1.1 q0).bind fun x3 => some (.ret (decide (x2 < x3)))) else some (.go (IntKind.wrap .i64 (q0 + 1)))) else some (.brk q0)
def JE (m : Nat) (p0 : bP) (p1 : bP) : Option (Bool) :=
 after (aY (fun s => rR m p0 p1 s) m 0) fun r0 => some false
theorem T9 {w : Nat} {p0 : bP} {p1 : bP} {o : Bool} (h : aH) (m : JE w p0 p1 = some o) :
 aP Tryz.prog 167 [.agg (bF p0), .agg (bF p1)] h (fun r h' => r = .sc (.bool o) ∧ h' = h) := by
 refine fW 24 [.tmp 4] Tryz.func167 rfl rfl rfl rfl ?_
 unfold JE at m
 refine v ?_
 refine ve fun u => cQ u rfl rfl fun k2 K3 => qk K3 rfl ?_
 refine ve fun u => cQ u rfl rfl fun k5 K6 => qk K6 rfl ?_
 refine v ?_
 refine eO m (σ := Int) (τ := Unit) (fun g s => [(some k5, .obj 36 (bF p1)), (some k2, .obj 36 (bF p0))]) (fun g s => .c 2 (.ptr k2 0) (.c 3 (.ptr k5 0) (.c 5 (nZ s) .nil))) () (lx (.k3 .nil)) ?_ ?_
 rintro _ q0 x m
 replace m : rR w p0 p1 q0 = some x := m
 unfold rR at m
 refine v (v ?_)
 refine vi m (fun c0 m => ?_) fun c0 m => ?_
 refine v (v (v (vq (by kernel_rfl) ?_)))
 obtain ⟨_, X0, m⟩ := aC m
 refine vn (fun _ => jO X0 o8 rfl rfl) (vn (fun u => kX 0 X0 B9 rfl (bB 1 u rfl) rfl) ?_)
 obtain ⟨_, X1, m⟩ := aC m
 refine vn (fun _ => jO X1 o8 rfl rfl) (vn (fun u => kX 0 X1 B9 rfl (bB 0 u rfl) rfl) (v ?_))
 refine vi m (fun c1 m => ?_) fun c1 m => ?_
 refine v (vq (by kernel_rfl) ?_)
 obtain ⟨_, X2, m⟩ := aC m
 refine vn (fun _ => jO X2 o8 rfl rfl) (vn (fun u => kX 0 X2 B9 rfl (bB 1 u rfl) rfl) ?_)
 obtain ⟨_, X3, m⟩ := aC m
 refine vn (fun _ => jO X3 o8 rfl rfl) (vn (fun u => kX 0 X3 B9 rfl (bB 0 u rfl) rfl) (v ?_))
 refine gA m fun m => ?_
 cases m
 exact eM rfl
 refine v (v ?_)
 exact bD m (lx (.k3 .nil))
 refine v ?_
 exact iS m (lx (.k3 .nil))
 rintro _ r0 m
 refine v (v ?_)
 injection m with m; subst m
 exact eM rfl
theorem QE : aU Tryz.prog 167 = true := by kernel_rfl
def pJ (m : Nat) (p0 : List bP) (p1 : bP) (q0 : Int) : Option (Lp (Int) ((List bP) × Int × Bool)) :=
 after (if (decide (q0 < (p0.length : Int))) = true then ((ix p0 q0).bind fun x0 => (JE m x0 p1).bind fun y0 => some (.brk y0)) else some (.brk false) : Option (Lp (Bool) (Lp (Int) ((List bP) × Int × Bool)))) fun j0 => if j0 = true then (some (.go (IntKind.wrap .i64 (q0 + 1)))) else some (.brk q0)
def AP (m : Nat) (p0 : List bP) (p1 : bP) : Option ((List bP) × Int × Bool) :=
 after (aY (fun s => pJ m p0 p1 s) m 0) fun r0 => after (if (decide (r0 < (p0.length : Int))) = true then ((ix p0 r0).bind fun x0 => some (.brk (decide (x0 = p1)))) else some (.brk false) : Option (Lp (Bool) ((List bP) × Int × Bool))) fun j0 => if j0 = true then (some (p0, r0, false)) else (slc p0 0 r0).bind fun x1 => (app ([] : List bP) x1).bind fun z0 => (app z0 ([p1] : List bP)).bind fun z1 => (slc p0 r0 (p0).length).bind fun x2 => (app z1 x2).bind fun z2 => some (z2, r0, true)
theorem QF {w : Nat} {p0 : List bP} {p1 : bP} {o : (List bP) × Int × Bool} (h : aH) (m : AP w p0 p1 = some o) :
 aP Tryz.prog 106 [.sl none 32 (List.map bF p0), .agg (bF p1)] h (fun r h' => r = .tup [.sl none 32 (List.map bF o.1), nZ o.2.1, .sc (.bool o.2.2)] ∧ h' = h) := by
 refine fW 51 [.tmp 4, .tmp 5, .tmp 6] Tryz.func106 rfl rfl rfl rfl ?_
 unfold AP at m
 refine v ?_
 refine ve fun u => cQ u rfl rfl fun k2 K3 => qk K3 rfl ?_
 refine v (vs ?_)
 refine eO m (σ := Int) (τ := Unit) (fun g s => [(some k2, .obj 36 (bF p1))]) (fun g s => .c 0 (.sl none 32 (List.map bF p0)) (.c 3 (.ptr k2 0) (.c 7 (nZ s) .nil))) () (lx (.k3 .nil)) ?_ ?_
 rintro _ q0 x m
 replace m : pJ w p0 p1 q0 = some x := m
 unfold pJ at m
 refine vs (vs ?_)
 refine cW m (σ := Bool) (τ := Unit) (fun g s => [(some k2, .obj 36 (bF p1))]) (fun g s => .c 0 (.sl none 32 (List.map bF p0)) (.c 3 (.ptr k2 0) (.c 7 (nZ q0) (.c 20 (.sc (.bool s)) .nil)))) (fun x m => ?_) ?_
 refine v (vq (by kernel_rfl) (dH pA rfl ?_))
 refine vi m (fun b0 m => ?_) fun b0 m => ?_
 rw [b0]
 refine vx m uY rfl rfl fun x0 _ m => ?_
 refine va (.agg (bF x0)) fV rfl rfl (vl 0 (.agg (bF p1)) fV rfl rfl rfl ?_)
 refine vk T9 QE m rfl rfl fun _ m => ?_
 exact bD m (lx (.k4 .nil))
 rw [b0]
 exact bD m (lx (.k4 .nil))
 rintro _ j0 m
 refine v ?_
 refine vi m (fun c0 m => ?_) fun c0 m => ?_
 refine v (v (v ?_))
 exact bD m (lx (.k3 .nil))
 refine v ?_
 exact iS m (lx (.k3 .nil))
 rintro _ r0 m
 refine vs (vs ?_)
 refine cW m (σ := Bool) (τ := Unit) (fun g s => [(some k2, .obj 36 (bF p1))]) (fun g s => .c 0 (.sl none 32 (List.map bF p0)) (.c 3 (.ptr k2 0) (.c 7 (nZ r0) (.c 34 (.sc (.bool s)) .nil)))) (fun x m => ?_) ?_
 refine v (vq (by kernel_rfl) (dH pA rfl ?_))
 refine vi m (fun b1 m => ?_) fun b1 m => ?_
 rw [b1]
 refine vx m uY rfl rfl fun x1 _ m => ?_
 refine va (.agg (bF x1)) fV rfl rfl (vl 0 (.agg (bF p1)) fV rfl rfl rfl (vn (fun _ => vU EG OB u5 B9 rfl rfl) ?_))
 exact bD m (lx (.k4 .nil))
 rw [b1]
 exact bD m (lx (.k4 .nil))
 rintro _ j1 m
 refine v ?_
 refine vi m (fun c1 m => ?_) fun c1 m => ?_
 refine v (v ?_)
 cases m
 exact vr fun u => dY.of3 (.inl rfl) (fL _ _ (.sl _ _ _) rfl) (fL _ _ (.sc (.int _ _)) rfl) (fL _ _ (.sc (.bool _)) rfl) (aV (List.nil_sublist _) u).1 (aX.refl _ _) (aX.refl _ _) (aX.refl _ _) ⟨rfl, rfl⟩
 refine v (v (v ?_))
 refine vz [(1000000, some k2, .obj 36 (bF p1))] mixed (fun u => ⟨fun _ => aO 0 u rfl, trivial⟩) fun u => ?_
 refine aM 0 rfl (fun _ _ _ _ => bN (.sc (.slice _ _ _)) rfl) ?_
 refine aM 1 rfl (fun _ _ _ _ => bN (.sl _ _ _) rfl) ?_
 refine aM 2 rfl (fun _ _ _ _ => bN (.sc (.int _ _)) rfl) ?_
 obtain ⟨_, X0, m⟩ := aC m
 refine aM 3 rfl (fun _ _ _ _ => mZ X0 uY rfl rfl rfl rfl) ?_
 refine aM 5 rfl (fun _ _ hi hB => bH (.agg (bF p1)) fV rfl (At.s (bR.get 0 hi rfl (hB 1000000 (by kernel_rfl)))) rfl) ?_
 refine aM 6 rfl (fun _ _ _ _ => eH (List.map bF ([p1] : List bP)) xV rfl rfl rfl rfl) ?_
 obtain ⟨z0, Z0, m⟩ := aC m
 refine eX 4 rfl (by kernel_rfl) (lY (c := bF) Z0 xV rfl rfl u nofun rfl fun tg0 t0 K0 => ⟨⟨fun _ => aO 1 K0 rfl, trivial⟩, ?_⟩)
 obtain ⟨z1, Z1, m⟩ := aC m
 refine eX 7 rfl (by kernel_rfl) (eS (c := bF) 0 Z1 xV rfl rfl rfl t0 K0 rfl fun tg1 t1 K1 => ⟨⟨fun _ => aO 1 K1 rfl, trivial⟩, ?_⟩)
 refine aM 8 rfl (fun _ _ _ _ => gU (ow _ _ _) rfl) ?_
 refine dL (by kernel_rfl) (qk (f := .c 8 _ (.c 44 _ (.c 41 _ (.c 43 _ (.c 42 _ (.c 40 _ (.c 39 _ (.c 38 _ (.c 37 _ _))))))))) K1 rfl ?_)
 refine v ?_
 obtain ⟨_, X1, m⟩ := aC m
 refine vn (fun _ => mZ X1 uY rfl rfl rfl rfl) ?_
 obtain ⟨z2, Z2, m⟩ := aC m
 refine ve fun u => eS (c := bF) 0 Z2 xV rfl rfl rfl t1 u rfl fun tg2 t2 K2 => qk K2 rfl ?_
 refine v ?_
 cases m
 exact vr fun u => dY.of3 (.inl rfl) (fL _ _ (ow _ _ _) rfl) (fL _ _ (.sc (.int _ _)) rfl) (fL _ _ (.sc (.bool _)) rfl) (aV (List.nil_sublist _) u).1 ((eG _ 0 t2 u rfl)) (aX.refl _ _) (aX.refl _ _) ⟨rfl, rfl⟩
theorem KI : aU Tryz.prog 106 = true := by kernel_rfl
def qO (m : Nat) (p0 : a9) (q0 : Int) (q1 : List bP) (q2 : Int) : Option (Lp ((List bP) × Int) (Lp ((List bP) × Int) ((List bP)))) :=
 (ix p0.Parts q0).bind fun x0 => if (decide (q2 < (x0.Ids.length : Int))) = true then ((ix p0.Parts q0).bind fun x1 => (ix x1.Ids q2).bind fun x2 => (AP m q1 x2).bind fun y0 => some (.go (y0.1, IntKind.wrap .i64 (q2 + 1)))) else some (.brk (q1, q2))
def qP (m : Nat) (p0 : a9) (q0 : List bP) (q1 : Int) : Option (Lp ((List bP) × Int) ((List bP))) :=
 if (decide (q1 < (p0.Parts.length : Int))) = true then (after (aY (fun s => qO m p0 q1 s.1 s.2) m (q0, 0)) fun ⟨r0, r1⟩ => some (.go (r0, IntKind.wrap .i64 (q1 + 1)))) else some (.brk (q0, q1))
def QG (m : Nat) (p0 : a9) : Option ((List bP)) :=
 after (aY (fun s => qP m p0 s.1 s.2) m ([], 0)) fun ⟨r0, r1⟩ => some r0
theorem YS {w : Nat} {p0 : a9} {o : (List bP)} (h : aH) (m : QG w p0 = some o) :
 aP Tryz.prog 49 [.agg (bC p0)] h (fun r h' => r = .sl none 32 (List.map bF o) ∧ h' = h) := by
 refine fW 40 [.tmp 2] Tryz.func49 rfl rfl rfl rfl ?_
 unfold QG at m
 refine v ?_
 refine ve fun u => cQ u rfl rfl fun k2 K3 => qk K3 rfl ?_
 refine v (v ?_)
 refine eO m (σ := (List bP) × Int) (τ := Unit) (fun g s => [(some k2, .obj 58 (bC p0))]) (fun g s => .c 1 (.ptr k2 0) (.c 3 (.sl none 32 (List.map bF s.1)) (.c 4 (nZ s.2) .nil))) () (lx (.cons (aX.refl _ _) (.cons (aS _) (.cons (aX.refl _ _) .nil)))) ?_ ?_
 rintro _ ⟨q0, q1⟩ x m
 replace m : qP w p0 q0 q1 = some x := m
 unfold qP at m
 refine v (vl 0 _ lG rfl rfl rfl (dH rK rfl (v ?_)))
 refine vi m (fun c0 m => ?_) fun c0 m => ?_
 refine v (v (v ?_))
 refine eO m (σ := (List bP) × Int) (τ := Unit) (fun g s => [(some k2, .obj 58 (bC p0))]) (fun g s => .c 1 (.ptr k2 0) (.c 3 (.sl none 32 (List.map bF s.1)) (.c 4 (nZ q1) (.c 5 (nZ s.2) .nil)))) () (lx (.k4 .nil)) ?_ ?_
 rintro _ ⟨q2, q3⟩ x m
 replace m : qO w p0 q1 q2 q3 = some x := m
 unfold qO at m
 refine v (vl 0 _ lG rfl rfl rfl ?_)
 refine vx m o9 rfl rfl fun _ _ m => ?_
 refine dH pA rfl (v ?_)
 refine vi m (fun c1 m => ?_) fun c1 m => ?_
 refine v (v (v (vl 0 _ lG rfl rfl rfl ?_)))
 refine vx m o9 rfl rfl fun _ _ m => ?_
 refine vx m uY rfl rfl fun x0 _ m => ?_
 refine va (.agg (bF x0)) fV rfl rfl ?_
 refine vk QF KI m rfl rfl fun _ m => ?_
 refine v ?_
 exact bD m (lx (.k4 .nil))
 refine v ?_
 exact iS m (lx (.k4 .nil))
 rintro _ ⟨r0, r1⟩ m
 refine v ?_
 exact bD m (lx (.k3 .nil))
 refine v ?_
 exact iS m (lx (.k3 .nil))
 rintro _ ⟨r2, r3⟩ m
 refine v (v ?_)
 injection m with m; subst m
 exact eM rfl
theorem UA : aU Tryz.prog 49 = true := by kernel_rfl
def nB (m : Nat) (p0 : aB) (p1 : bP) (q0 : Int) : Option (Lp (Int) (Int)) :=
 if (decide (q0 < (p0.Chunks.length : Int))) = true then ((ix p0.Chunks q0).bind fun x0 => if (decide (x0.Id = p1)) = true then (some (.ret q0)) else some (.go (IntKind.wrap .i64 (q0 + 1)))) else some (.brk q0)
def ID (m : Nat) (p0 : aB) (p1 : bP) : Option (Int) :=
 after (aY (fun s => nB m p0 p1 s) m 0) fun r0 => some (-1)
theorem S2 {w : Nat} {p0 : aB} {p1 : bP} {o : Int} (h : aH) (m : ID w p0 p1 = some o) :
 aP Tryz.prog 88 [.agg (aF p0), .agg (bF p1)] h (fun r h' => r = nZ o ∧ h' = h) := by
 refine fW 22 [.tmp 4] Tryz.func88 rfl rfl rfl rfl ?_
 unfold ID at m
 refine v ?_
 refine ve fun u => cQ u rfl rfl fun k2 K3 => qk K3 rfl ?_
 refine ve fun u => cQ u rfl rfl fun k5 K6 => qk K6 rfl ?_
 refine v ?_
 refine eO m (σ := Int) (τ := Unit) (fun g s => [(some k5, .obj 36 (bF p1)), (some k2, .obj 30 (aF p0))]) (fun g s => .c 2 (.ptr k2 0) (.c 3 (.ptr k5 0) (.c 5 (nZ s) .nil))) () (lx (.k3 .nil)) ?_ ?_
 rintro _ q0 x m
 replace m : nB w p0 p1 q0 = some x := m
 unfold nB at m
 refine v (vl 1 _ eF rfl rfl rfl (dH hS rfl (v ?_)))
 refine vi m (fun c0 m => ?_) fun c0 m => ?_
 refine v (v (v (vq (by kernel_rfl) (vl 1 _ eF rfl rfl rfl ?_))))
 refine vx m eW rfl rfl fun x0 _ m => ?_
 refine va (.agg (bF x0.Id)) fV rfl rfl (vl 0 (.agg (bF p1)) fV rfl rfl rfl (vn (fun _ => vU EG OB u5 B9 rfl rfl) (v ?_)))
 refine vi m (fun c1 m => ?_) fun c1 m => ?_
 refine v (v ?_)
 refine gA m fun m => ?_
 injection m with m; subst m
 exact eM rfl
 refine v (v ?_)
 exact bD m (lx (.k3 .nil))
 refine v ?_
 exact iS m (lx (.k3 .nil))
 rintro _ r0 m
 refine v (v ?_)
 cases m
 exact eM rfl
theorem JF : aU Tryz.prog 88 = true := by kernel_rfl
def mC (m : Nat) (p0 : aB) (p1 : ByteArray) (q0 : Int) : Option (Lp (Int) (Int)) :=
 if (decide (q0 < (p0.Snaps.length : Int))) = true then ((ix p0.Snaps q0).bind fun x0 => if (x0.Man.Name.toList == p1.toList) = true then (some (.ret q0)) else some (.go (IntKind.wrap .i64 (q0 + 1)))) else some (.brk q0)
def u6 (m : Nat) (p0 : aB) (p1 : ByteArray) : Option (Int) :=
 after (aY (fun s => mC m p0 p1 s) m 0) fun r0 => some (-1)
theorem MN {w : Nat} {p0 : aB} {p1 : ByteArray} {o : Int} (h : aH) (m : u6 w p0 p1 = some o) :
 aP Tryz.prog 149 [.agg (aF p0), .sc (.string p1)] h (fun r h' => r = nZ o ∧ h' = h) := by
 refine fW 23 [.tmp 4] Tryz.func149 rfl rfl rfl rfl ?_
 unfold u6 at m
 refine v ?_
 refine ve fun u => cQ u rfl rfl fun k2 K3 => qk K3 rfl ?_
 refine v ?_
 refine eO m (σ := Int) (τ := Unit) (fun g s => [(some k2, .obj 30 (aF p0))]) (fun g s => .c 1 (.sc (.string p1)) (.c 2 (.ptr k2 0) (.c 5 (nZ s) .nil))) () (lx (.k3 .nil)) ?_ ?_
 rintro _ q0 x m
 replace m : mC w p0 p1 q0 = some x := m
 unfold mC at m
 refine v (vl 0 _ fK rfl rfl rfl (dH kH rfl (v ?_)))
 refine vi m (fun c0 m => ?_) fun c0 m => ?_
 refine v (v (v (vl 0 _ fK rfl rfl rfl ?_)))
 refine vx m kJ rfl rfl fun _ _ m => ?_
 refine vn (fun _ => wV rfl rfl rfl trivial) (v ?_)
 refine vi m (fun c1 m => ?_) fun c1 m => ?_
 refine v (v ?_)
 refine gA m fun m => ?_
 injection m with m; subst m
 exact eM rfl
 refine v (v ?_)
 exact bD m (lx (.k3 .nil))
 refine v ?_
 exact iS m (lx (.k3 .nil))
 rintro _ r0 m
 refine v (v ?_)
 cases m
 exact eM rfl
theorem GV : aU Tryz.prog 149 = true := by kernel_rfl
def oJ (m : Nat) (p0 : aB) (q0 : Int) : Option (Lp (Int) (Bool)) :=
 if (decide (q0 < (p0.Vols.length : Int))) = true then ((ix p0.Vols q0).bind fun x0 => after ((DI m x0.Pool 0 1).bind fun y0 => if (!y0) = true then (some (.brk true)) else (DI m x0.Epoch 0 1048576).bind fun y1 => some (.brk (!y1)) : Option (Lp (Bool) (Lp (Int) (Bool)))) fun j0 => if j0 = true then (some (.ret false)) else after (if (x0.State == 1) = true then (some (.brk (x0.State == 1))) else some (.brk (x0.State == 3)) : Option (Lp (Bool) (Lp (Int) (Bool)))) fun j1 => after (if j1 = true then (if (x0.Files != 0) = true then (some (.ret (.ret false))) else some (.brk ())) else if (x0.State == 2) = true then ((DI m x0.Files 1 65535).bind fun y2 => if (!y2) = true then (some (.ret (.ret false))) else some (.brk ())) else some (.ret (.ret false)) : Option (Lp (Unit) (Lp (Int) (Bool)))) fun _ => some (.go (IntKind.wrap .i64 (q0 + 1)))) else some (.brk q0)
def oK (m : Nat) (p0 : aB) (q0 : Int) : Option (Lp (Int) (Bool)) :=
 if (decide (q0 < (p0.Chunks.length : Int))) = true then ((ix p0.Chunks q0).bind fun x0 => after (if (decide (0 < q0)) = true then ((ix p0.Chunks (IntKind.wrap .i64 (q0 - 1))).bind fun x1 => (GT m x1.Id x0.Id).bind fun y0 => if (!y0) = true then (some (.brk true)) else (u2 m p0 x0.Locs).bind fun y1 => if (!y1) = true then (some (.brk true)) else if x0.Staged = true then ((DI m (x0.Data.length : Int) 1 64).bind fun y2 => if (!y2) = true then (some (.brk true)) else if (!x0.Staged) = true then (if (decide (0 < (x0.Data.length : Int))) = true then (some (.brk true)) else some (.brk ((x0.Locs.length : Int) == 0))) else some (.brk false)) else if (!x0.Staged) = true then (if (decide (0 < (x0.Data.length : Int))) = true then (some (.brk true)) else some (.brk ((x0.Locs.length : Int) == 0))) else some (.brk false)) else (u2 m p0 x0.Locs).bind fun y3 => if (!y3) = true then (some (.brk true)) else if x0.Staged = true then ((DI m (x0.Data.length : Int) 1 64).bind fun y4 => if (!y4) = true then (some (.brk true)) else if (!x0.Staged) = true then (if (decide (0 < (x0.Data.length : Int))) = true then (some (.brk true)) else some (.brk ((x0.Locs.length : Int) == 0))) else some (.brk false)) else if (!x0.Staged) = true then (if (decide (0 < (x0.Data.length : Int))) = true then (some (.brk true)) else some (.brk ((x0.Locs.length : Int) == 0))) else some (.brk false) : Option (Lp (Bool) (Lp (Int) (Bool)))) fun j0 => if j0 = true then (some (.ret false)) else some (.go (IntKind.wrap .i64 (q0 + 1)))) else some (.brk q0)
def qQ (m : Nat) (p0 : aB) (y0 : (List bP)) (q0 : Int) : Option (Lp (Int) (Lp (Int) (Bool))) :=
 if (decide (q0 < (y0.length : Int))) = true then ((ix y0 q0).bind fun x0 => (ID m p0 x0).bind fun y1 => if (decide (y1 < 0)) = true then (some (.ret (.ret false))) else some (.go (IntKind.wrap .i64 (q0 + 1)))) else some (.brk q0)
def qR (m : Nat) (p0 : aB) (x0 : aE) (q0 : Int) : Option (Lp (Int) (Lp (Int) (Bool))) :=
 if (decide (q0 < (p0.Exps.length : Int))) = true then ((ix p0.Exps q0).bind fun x1 => if (x1.Of == x0.Seq) = true then (some (.ret (.ret false))) else some (.go (IntKind.wrap .i64 (q0 + 1)))) else some (.brk q0)
def oL (m : Nat) (p0 : aB) (q0 : Int) : Option (Lp (Int) (Bool)) :=
 if (decide (q0 < (p0.Snaps.length : Int))) = true then ((ix p0.Snaps q0).bind fun x0 => after (if (decide (x0.Seq < 0)) = true then (some (.brk true)) else if (decide (p0.Seq ≤ x0.Seq)) = true then (some (.brk true)) else if (decide (0 < q0)) = true then ((ix p0.Snaps (IntKind.wrap .i64 (q0 - 1))).bind fun x1 => if (decide (x0.Seq ≤ x1.Seq)) = true then (some (.brk true)) else (OE m x0.Man).bind fun y0 => if (!y0) = true then (some (.brk true)) else (u2 m p0 x0.Locs).bind fun y1 => if (!y1) = true then (some (.brk true)) else (u6 m p0 x0.Man.Name).bind fun y2 => some (.brk (y2 != q0))) else (OE m x0.Man).bind fun y3 => if (!y3) = true then (some (.brk true)) else (u2 m p0 x0.Locs).bind fun y4 => if (!y4) = true then (some (.brk true)) else (u6 m p0 x0.Man.Name).bind fun y5 => some (.brk (y5 != q0)) : Option (Lp (Bool) (Lp (Int) (Bool)))) fun j0 => if j0 = true then (some (.ret false)) else (QG m x0.Man).bind fun y6 => after (aY (fun s => qQ m p0 y6 s) m 0) fun r0 => after (aY (fun s => qR m p0 x0 s) m 0) fun r1 => some (.go (IntKind.wrap .i64 (q0 + 1)))) else some (.brk q0)
def mD (m : Nat) (p0 : aB) (q0 : Int) : Option (Lp (Int) (Bool)) :=
 if (decide (q0 < (p0.Exps.length : Int))) = true then ((ix p0.Exps q0).bind fun x0 => after (if (decide (x0.Seq < 0)) = true then (some (.brk true)) else if (decide (p0.Seq ≤ x0.Seq)) = true then (some (.brk true)) else if (decide (0 < q0)) = true then ((ix p0.Exps (IntKind.wrap .i64 (q0 - 1))).bind fun x1 => if (decide (x0.Seq ≤ x1.Seq)) = true then (some (.brk true)) else if (decide (x0.Of < 0)) = true then (some (.brk true)) else if (decide (x0.Seq ≤ x0.Of)) = true then (some (.brk true)) else (u2 m p0 x0.Locs).bind fun y0 => if (!y0) = true then (some (.brk true)) else some (.brk ((x0.Locs.length : Int) == 0))) else if (decide (x0.Of < 0)) = true then (some (.brk true)) else if (decide (x0.Seq ≤ x0.Of)) = true then (some (.brk true)) else (u2 m p0 x0.Locs).bind fun y1 => if (!y1) = true then (some (.brk true)) else some (.brk ((x0.Locs.length : Int) == 0)) : Option (Lp (Bool) (Lp (Int) (Bool)))) fun j0 => if j0 = true then (some (.ret false)) else some (.go (IntKind.wrap .i64 (q0 + 1)))) else some (.brk q0)
def MO (m : Nat) (p0 : aB) : Option (Bool) :=
 after ((DI m p0.Seq 0 1073741824).bind fun y0 => if (!y0) = true then (some (.brk true)) else if (decide (8 < (p0.Snaps.length : Int))) = true then (some (.brk true)) else if (decide (200 < (p0.Chunks.length : Int))) = true then (some (.brk true)) else if (decide (200 < (p0.Exps.length : Int))) = true then (some (.brk true)) else (DI m (p0.Vols.length : Int) 1 8).bind fun y1 => some (.brk (!y1)) : Option (Lp (Bool) (Bool))) fun j0 => if j0 = true then (some false) else after (aY (fun s => oJ m p0 s) m 0) fun r0 => after (aY (fun s => oK m p0 s) m 0) fun r1 => after (aY (fun s => oL m p0 s) m 0) fun r2 => after (aY (fun s => mD m p0 s) m 0) fun r3 => some true
theorem XT {w : Nat} {p0 : aB} {o : Bool} (h : aH) (m : MO w p0 = some o) :
 aP Tryz.prog 89 [.agg (aF p0)] h (fun r h' => r = .sc (.bool o) ∧ h' = h) := by
 refine fW 296 [.tmp 2] Tryz.func89 rfl rfl rfl rfl ?_
 unfold MO at m
 refine v ?_
 refine ve fun u => cQ u rfl rfl fun k2 K3 => qk K3 rfl ?_
 refine vs (vs ?_)
 refine cW m (σ := Bool) (τ := Unit) (fun g s => [(some k2, .obj 30 (aF p0))]) (fun g s => .c 1 (.ptr k2 0) (.c 42 (.sc (.bool s)) .nil)) (fun x m => ?_) ?_
 refine v (vl 0 _ cG rfl rfl rfl ?_)
 refine vk IC u1 m rfl rfl fun _ m => ?_
 refine vi m (fun b0 m => ?_) fun b0 m => ?_
 rw [b0]
 exact bD m (lx (.k2 .nil))
 rw [b0]
 refine vl 0 _ fK rfl rfl rfl (dH kH rfl ?_)
 refine vi m (fun b1 m => ?_) fun b1 m => ?_
 rw [b1]
 exact bD m (lx (.k2 .nil))
 rw [b1]
 refine vl 0 _ eF rfl rfl rfl (dH hS rfl ?_)
 refine vi m (fun b2 m => ?_) fun b2 m => ?_
 rw [b2]
 exact bD m (lx (.k2 .nil))
 rw [b2]
 refine vl 0 _ iK rfl rfl rfl (dH o7 rfl ?_)
 refine vi m (fun b3 m => ?_) fun b3 m => ?_
 rw [b3]
 exact bD m (lx (.k2 .nil))
 rw [b3]
 refine vl 0 _ fZ rfl rfl rfl (dH qG rfl ?_)
 refine vk IC u1 m rfl rfl fun _ m => ?_
 exact bD m (lx (.k2 .nil))
 rintro _ j0 m
 refine v ?_
 refine vi m (fun c0 m => ?_) fun c0 m => ?_
 refine v (v ?_)
 injection m with m; subst m
 exact eM rfl
 refine v (v ?_)
 refine eO m (σ := Int) (τ := Unit) (fun g s => [(some k2, .obj 30 (aF p0))]) (fun g s => .c 1 (.ptr k2 0) (.c 3 (nZ s) .nil)) () (lx (.k2 .nil)) ?_ ?_
 rintro _ q0 x m
 replace m : oJ w p0 q0 = some x := m
 unfold oJ at m
 refine v (vl 0 _ fZ rfl rfl rfl (dH qG rfl (v ?_)))
 refine vi m (fun c1 m => ?_) fun c1 m => ?_
 refine v (v (v (vl 0 _ fZ rfl rfl rfl ?_)))
 refine vx m i9 rfl rfl fun x0 _ m => ?_
 refine va (.agg (aT x0)) LV rfl rfl ?_
 refine ve fun u => bE ([nZ 0, nZ 0, nZ 0, nZ 0]) u F8 rfl rfl fun k156 K0 => qk K0 rfl ?_
 refine ve fun u => aL 0 (aT x0) u rfl rfl rfl rfl LW rfl rfl fun K1 => qk K1 rfl ?_
 refine vs (vs ?_)
 refine cW m (σ := Bool) (τ := Unit) (fun g s => [(some k156, .obj 49 (aT x0)), (some k2, .obj 30 (aF p0))]) (fun g s => .c 1 (.ptr k2 0) (.c 3 (nZ q0) (.c 4 (.ptr k156 0) (.c 64 (.sc (.bool s)) .nil)))) (fun x m => ?_) ?_
 refine v (vl 0 _ cG rfl rfl rfl ?_)
 refine vk IC u1 m rfl rfl fun _ m => ?_
 refine vi m (fun b4 m => ?_) fun b4 m => ?_
 rw [b4]
 exact bD m (lx (.k4 .nil))
 rw [b4]
 refine vl 0 _ cG rfl rfl rfl ?_
 refine vk IC u1 m rfl rfl fun _ m => ?_
 exact bD m (lx (.k4 .nil))
 rintro _ j1 m
 refine v ?_
 refine vi m (fun c2 m => ?_) fun c2 m => ?_
 refine v (v ?_)
 refine gA m fun m => ?_
 injection m with m; subst m
 exact eM rfl
 refine v (v (vl 0 _ cG rfl rfl rfl (v (v ?_))))
 refine cW m (σ := Bool) (τ := Unit) (fun g s => [(some k156, .obj 49 (aT x0)), (some k2, .obj 30 (aF p0))]) (fun g s => .c 1 (.ptr k2 0) (.c 3 (nZ q0) (.c 4 (.ptr k156 0) (.c 66 (nZ x0.State) (.c 67 (.sc (.bool s)) .nil))))) (fun x m => ?_) ?_
 refine v ?_
 refine vi m (fun c3 m => ?_) fun c3 m => ?_
 refine v ?_
 exact bD m (lx (.k5 .nil))
 refine v ?_
 exact bD m (lx (.k5 .nil))
 rintro _ j2 m
 refine cW m (σ := Unit) (τ := Unit) (fun g s => [(some k156, .obj 49 (aT x0)), (some k2, .obj 30 (aF p0))]) (fun g s => .c 1 (.ptr k2 0) (.c 3 (nZ q0) .nil)) (fun x m => ?_) ?_
 refine v ?_
 refine vi m (fun c4 m => ?_) fun c4 m => ?_
 refine v (vl 0 _ cG rfl rfl rfl (v ?_))
 refine vi m (fun c5 m => ?_) fun c5 m => ?_
 refine v (v ?_)
 refine gA m fun m => ?_
 refine gA m fun m => ?_
 injection m with m; subst m
 exact eM rfl
 refine v ?_
 exact bD m (lx (.k2 .nil))
 refine v (v ?_)
 refine vi m (fun c6 m => ?_) fun c6 m => ?_
 refine v (vl 0 _ cG rfl rfl rfl ?_)
 refine vk IC u1 m rfl rfl fun _ m => ?_
 refine v ?_
 refine vi m (fun c7 m => ?_) fun c7 m => ?_
 refine v (v ?_)
 refine gA m fun m => ?_
 refine gA m fun m => ?_
 injection m with m; subst m
 exact eM rfl
 refine v ?_
 exact bD m (lx (.k2 .nil))
 refine v (v ?_)
 refine gA m fun m => ?_
 refine gA m fun m => ?_
 injection m with m; subst m
 exact eM rfl
 rintro _ _ m
 refine v ?_
 exact bD m (kR [1] rfl rfl (.k2 .nil))
 refine v ?_
 exact iS m (lx (.k2 .nil))
 rintro _ r0 m
 refine v ?_
 refine eO m (σ := Int) (τ := Unit) (fun g s => [(some k2, .obj 30 (aF p0))]) (fun g s => .c 1 (.ptr k2 0) (.c 5 (nZ s) .nil)) () (lx (.k2 .nil)) ?_ ?_
 rintro _ q1 x m
 replace m : oK w p0 q1 = some x := m
 unfold oK at m
 refine v (vl 0 _ eF rfl rfl rfl (dH hS rfl (v ?_)))
 refine vi m (fun c8 m => ?_) fun c8 m => ?_
 refine v (v (v (vl 0 _ eF rfl rfl rfl ?_)))
 refine vx m eW rfl rfl fun x1 _ m => ?_
 refine va (.agg (aD x1)) lF rfl rfl ?_
 refine ve fun u => bE (bF iY ++ ([.sc (.bool false), sZ, sZ] : List AV)) u l6 rfl rfl fun k364 K2 => qk K2 rfl ?_
 refine ve fun u => aL 0 (aD x1) u rfl rfl rfl rfl uV rfl rfl fun K4 => qk K4 rfl ?_
 refine vs ?_
 refine cW m (σ := Bool) (τ := Unit) (fun g s => [(some k364, .obj 44 (aD x1)), (some k2, .obj 30 (aF p0))]) (fun g s => .c 1 (.ptr k2 0) (.c 5 (nZ q1) (.c 140 (.sc (.bool s)) .nil))) (fun x m => ?_) ?_
 refine v (vq (by kernel_rfl) ?_)
 refine vi m (fun b5 m => ?_) fun b5 m => ?_
 rw [b5]
 refine vl 1 _ eF rfl rfl rfl ?_
 refine vx m eW rfl rfl fun x2 _ m => ?_
 refine va (.agg (bF x2.Id)) fV rfl rfl (vl 0 (.agg (bF x1.Id)) fV rfl rfl rfl ?_)
 refine vk QC KH m rfl rfl fun _ m => ?_
 refine vi m (fun b6 m => ?_) fun b6 m => ?_
 rw [b6]
 exact bD m (lx (.k3 .nil))
 rw [b6]
 refine vl 1 (.agg (aF p0)) eK rfl rfl rfl (vl 0 _ fE rfl rfl rfl ?_)
 refine vk EP wB m rfl rfl fun _ m => ?_
 refine vi m (fun b7 m => ?_) fun b7 m => ?_
 rw [b7]
 exact bD m (lx (.k3 .nil))
 rw [b7]
 refine vl 0 _ BG rfl rfl rfl ?_
 refine vi m (fun b8 m => ?_) fun b8 m => ?_
 rw [b8]
 refine vl 0 _ jR rfl rfl rfl (dH jJ rfl ?_)
 refine vk IC u1 m rfl rfl fun _ m => ?_
 refine vi m (fun b9 m => ?_) fun b9 m => ?_
 rw [b9]
 exact bD m (lx (.k3 .nil))
 rw [b9]
 refine vl 0 _ BG rfl rfl rfl ?_
 refine vi m (fun b10 m => ?_) fun b10 m => ?_
 rw [b10]
 refine vl 0 _ jR rfl rfl rfl (dH jJ rfl ?_)
 refine vi m (fun b11 m => ?_) fun b11 m => ?_
 rw [b11]
 exact bD m (lx (.k3 .nil))
 rw [b11]
 refine vl 0 _ fE rfl rfl rfl (dH iF rfl ?_)
 exact bD m (lx (.k3 .nil))
 rw [b10]
 exact bD m (lx (.k3 .nil))
 rw [b8]
 refine vl 0 _ BG rfl rfl rfl ?_
 refine vi m (fun b12 m => ?_) fun b12 m => ?_
 rw [b12]
 refine vl 0 _ jR rfl rfl rfl (dH jJ rfl ?_)
 refine vi m (fun b13 m => ?_) fun b13 m => ?_
 rw [b13]
 exact bD m (lx (.k3 .nil))
 rw [b13]
 refine vl 0 _ fE rfl rfl rfl (dH iF rfl ?_)
 exact bD m (lx (.k3 .nil))
 rw [b12]
 exact bD m (lx (.k3 .nil))
 rw [b5]
 refine vl 1 (.agg (aF p0)) eK rfl rfl rfl (vl 0 _ fE rfl rfl rfl ?_)
 refine vk EP wB m rfl rfl fun _ m => ?_
 refine vi m (fun b14 m => ?_) fun b14 m => ?_
 rw [b14]
 exact bD m (lx (.k3 .nil))
 rw [b14]
 refine vl 0 _ BG rfl rfl rfl ?_
 refine vi m (fun b15 m => ?_) fun b15 m => ?_
 rw [b15]
 refine vl 0 _ jR rfl rfl rfl (dH jJ rfl ?_)
 refine vk IC u1 m rfl rfl fun _ m => ?_
 refine vi m (fun b16 m => ?_) fun b16 m => ?_
 rw [b16]
 exact bD m (lx (.k3 .nil))
 rw [b16]
 refine vl 0 _ BG rfl rfl rfl ?_
 refine vi m (fun b17 m => ?_) fun b17 m => ?_
 rw [b17]
 refine vl 0 _ jR rfl rfl rfl (dH jJ rfl ?_)
 refine vi m (fun b22 m => ?_) fun b22 m => ?_
 rw [b22]
 exact bD m (lx (.k3 .nil))
 rw [b22]
 refine vl 0 _ fE rfl rfl rfl (dH iF rfl ?_)
 exact bD m (lx (.k3 .nil))
 rw [b17]
 exact bD m (lx (.k3 .nil))
 rw [b15]
 refine vl 0 _ BG rfl rfl rfl ?_
 refine vi m (fun b23 m => ?_) fun b23 m => ?_
 rw [b23]
 refine vl 0 _ jR rfl rfl rfl (dH jJ rfl ?_)
 refine vi m (fun b24 m => ?_) fun b24 m => ?_
 rw [b24]
 exact bD m (lx (.k3 .nil))
 rw [b24]
 refine vl 0 _ fE rfl rfl rfl (dH iF rfl ?_)
 exact bD m (lx (.k3 .nil))
 rw [b23]
 exact bD m (lx (.k3 .nil))
 rintro _ j3 m
 refine v ?_
 refine vi m (fun c9 m => ?_) fun c9 m => ?_
 refine v (v ?_)
 refine gA m fun m => ?_
 injection m with m; subst m
 exact eM rfl
 refine v (v ?_)
 exact bD m (kR [1] rfl rfl (.k2 .nil))
 refine v ?_
 exact iS m (lx (.k2 .nil))
 rintro _ r1 m
 refine v ?_
 refine eO m (σ := Int) (τ := Unit) (fun g s => [(some k2, .obj 30 (aF p0))]) (fun g s => .c 1 (.ptr k2 0) (.c 7 (nZ s) .nil)) () (lx (.k2 .nil)) ?_ ?_
 rintro _ q2 x m
 replace m : oL w p0 q2 = some x := m
 unfold oL at m
 refine v (vl 0 _ fK rfl rfl rfl (dH kH rfl (v ?_)))
 refine vi m (fun c10 m => ?_) fun c10 m => ?_
 refine v (v (v (vl 0 _ fK rfl rfl rfl ?_)))
 refine vx m kJ rfl rfl fun x3 _ m => ?_
 refine va (.agg (aN x3)) AI rfl rfl ?_
 refine ve fun u => bE ([nZ 0, .sc (.string ByteArray.empty), sZ, sZ]) u xT rfl rfl fun k707 K5 => qk K5 rfl ?_
 refine ve fun u => aL 0 (aN x3) u rfl rfl rfl rfl I7 rfl rfl fun K6 => qk K6 rfl ?_
 refine vs (vs ?_)
 refine cW m (σ := Bool) (τ := Unit) (fun g s => [(some k707, .obj 60 (aN x3)), (some k2, .obj 30 (aF p0))]) (fun g s => .c 1 (.ptr k2 0) (.c 7 (nZ q2) (.c 8 (.ptr k707 0) (.c 200 (.sc (.bool s)) .nil)))) (fun x m => ?_) ?_
 refine v (vq (by kernel_rfl) (vl 0 _ cG rfl rfl rfl ?_))
 refine vi m (fun b25 m => ?_) fun b25 m => ?_
 rw [b25]
 exact bD m (lx (.k4 .nil))
 rw [b25]
 refine vl 0 _ cG rfl rfl rfl (vl 1 _ cG rfl rfl rfl ?_)
 refine vi m (fun b26 m => ?_) fun b26 m => ?_
 rw [b26]
 exact bD m (lx (.k4 .nil))
 rw [b26]
 refine vi m (fun b27 m => ?_) fun b27 m => ?_
 rw [b27]
 refine vl 0 _ cG rfl rfl rfl (vl 1 _ fK rfl rfl rfl ?_)
 refine vx m kJ rfl rfl fun _ _ m => ?_
 refine vi m (fun b28 m => ?_) fun b28 m => ?_
 rw [b28]
 exact bD m (lx (.k4 .nil))
 rw [b28]
 refine vl 0 (.agg (bC x3.Man)) lH rfl rfl rfl ?_
 refine vk XS QD m rfl rfl fun _ m => ?_
 refine vi m (fun b29 m => ?_) fun b29 m => ?_
 rw [b29]
 exact bD m (lx (.k4 .nil))
 rw [b29]
 refine vl 1 (.agg (aF p0)) eK rfl rfl rfl (vl 0 _ fE rfl rfl rfl ?_)
 refine vk EP wB m rfl rfl fun _ m => ?_
 refine vi m (fun b30 m => ?_) fun b30 m => ?_
 rw [b30]
 exact bD m (lx (.k4 .nil))
 rw [b30]
 refine vl 1 (.agg (aF p0)) eK rfl rfl rfl (vl 0 _ uP rfl rfl rfl ?_)
 refine vk MN GV m rfl rfl fun _ m => ?_
 exact bD m (lx (.k4 .nil))
 rw [b27]
 refine vl 0 (.agg (bC x3.Man)) lH rfl rfl rfl ?_
 refine vk XS QD m rfl rfl fun _ m => ?_
 refine vi m (fun b31 m => ?_) fun b31 m => ?_
 rw [b31]
 exact bD m (lx (.k4 .nil))
 rw [b31]
 refine vl 1 (.agg (aF p0)) eK rfl rfl rfl (vl 0 _ fE rfl rfl rfl ?_)
 refine vk EP wB m rfl rfl fun _ m => ?_
 refine vi m (fun b32 m => ?_) fun b32 m => ?_
 rw [b32]
 exact bD m (lx (.k4 .nil))
 rw [b32]
 refine vl 1 (.agg (aF p0)) eK rfl rfl rfl (vl 0 _ uP rfl rfl rfl ?_)
 refine vk MN GV m rfl rfl fun _ m => ?_
 exact bD m (lx (.k4 .nil))
 rintro _ j4 m
 refine v ?_
 refine vi m (fun c11 m => ?_) fun c11 m => ?_
 refine v (v ?_)
 refine gA m fun m => ?_
 injection m with m; subst m
 exact eM rfl
 refine v (v (vl 0 (.agg (bC x3.Man)) lH rfl rfl rfl ?_))
 refine vk YS UA m rfl rfl fun y0 m => ?_
 refine v ?_
 refine eO m (σ := Int) (τ := Unit) (fun g s => [(some k707, .obj 60 (aN x3)), (some k2, .obj 30 (aF p0))]) (fun g s => .c 1 (.ptr k2 0) (.c 7 (nZ q2) (.c 8 (.ptr k707 0) (.c 9 (.sl none 32 (List.map bF y0)) (.c 10 (nZ s) .nil))))) () (lx (.k5 .nil)) ?_ ?_
 rintro _ q3 x m
 replace m : qQ w p0 y0 q3 = some x := m
 unfold qQ at m
 refine v (dH pA rfl (v ?_))
 refine vi m (fun c12 m => ?_) fun c12 m => ?_
 refine v (v (v (vq (by kernel_rfl) (vl 1 (.agg (aF p0)) eK rfl rfl rfl ?_))))
 refine vx m uY rfl rfl fun x4 _ m => ?_
 refine va (.agg (bF x4)) fV rfl rfl ?_
 refine vk S2 JF m rfl rfl fun _ m => ?_
 refine v ?_
 refine vi m (fun c13 m => ?_) fun c13 m => ?_
 refine v (v ?_)
 refine gA m fun m => ?_
 refine gA m fun m => ?_
 injection m with m; subst m
 exact eM rfl
 refine v (v ?_)
 exact bD m (lx (.k5 .nil))
 refine v ?_
 exact iS m (lx (.k5 .nil))
 rintro _ r2 m
 refine v ?_
 refine eO m (σ := Int) (τ := Unit) (fun g s => [(some k707, .obj 60 (aN x3)), (some k2, .obj 30 (aF p0))]) (fun g s => .c 1 (.ptr k2 0) (.c 7 (nZ q2) (.c 8 (.ptr k707 0) (.c 11 (nZ s) .nil)))) () (lx (.k4 .nil)) ?_ ?_
 rintro _ q4 x m
 replace m : qR w p0 x3 q4 = some x := m
 unfold qR at m
 refine v (vl 1 _ iK rfl rfl rfl (dH o7 rfl (v ?_)))
 refine vi m (fun c14 m => ?_) fun c14 m => ?_
 refine v (v (v (vq (by kernel_rfl) (vl 1 _ iK rfl rfl rfl ?_))))
 refine vx m jQ rfl rfl fun _ _ m => ?_
 refine vl 0 _ cG rfl rfl rfl (v ?_)
 refine vi m (fun c15 m => ?_) fun c15 m => ?_
 refine v (v ?_)
 refine gA m fun m => ?_
 refine gA m fun m => ?_
 injection m with m; subst m
 exact eM rfl
 refine v (v ?_)
 exact bD m (lx (.k4 .nil))
 refine v ?_
 exact iS m (lx (.k4 .nil))
 rintro _ r3 m
 refine v ?_
 exact bD m (kR [1] rfl rfl (.k2 .nil))
 refine v ?_
 exact iS m (lx (.k2 .nil))
 rintro _ r4 m
 refine v ?_
 refine eO m (σ := Int) (τ := Unit) (fun g s => [(some k2, .obj 30 (aF p0))]) (fun g s => .c 1 (.ptr k2 0) (.c 12 (nZ s) .nil)) () (lx (.k2 .nil)) ?_ ?_
 rintro _ q5 x m
 replace m : mD w p0 q5 = some x := m
 unfold mD at m
 refine v (vl 0 _ iK rfl rfl rfl (dH o7 rfl (v ?_)))
 refine vi m (fun c16 m => ?_) fun c16 m => ?_
 refine v (v (v (vl 0 _ iK rfl rfl rfl ?_)))
 refine vx m jQ rfl rfl fun x5 _ m => ?_
 refine va (.agg (aR x5)) tD rfl rfl ?_
 refine ve fun u => bE ([nZ 0, nZ 0, sZ]) u qJ rfl rfl fun k941 K7 => qk K7 rfl ?_
 refine ve fun u => aL 0 (aR x5) u rfl rfl rfl rfl CD rfl rfl fun K8 => qk K8 rfl ?_
 refine vs ?_
 refine cW m (σ := Bool) (τ := Unit) (fun g s => [(some k941, .obj 99 (aR x5)), (some k2, .obj 30 (aF p0))]) (fun g s => .c 1 (.ptr k2 0) (.c 12 (nZ q5) (.c 295 (.sc (.bool s)) .nil))) (fun x m => ?_) ?_
 refine v (vq (by kernel_rfl) (vl 0 _ cG rfl rfl rfl ?_))
 refine vi m (fun b33 m => ?_) fun b33 m => ?_
 rw [b33]
 exact bD m (lx (.k3 .nil))
 rw [b33]
 refine vl 0 _ cG rfl rfl rfl (vl 1 _ cG rfl rfl rfl ?_)
 refine vi m (fun b34 m => ?_) fun b34 m => ?_
 rw [b34]
 exact bD m (lx (.k3 .nil))
 rw [b34]
 refine vi m (fun b35 m => ?_) fun b35 m => ?_
 rw [b35]
 refine vl 0 _ cG rfl rfl rfl (vl 1 _ iK rfl rfl rfl ?_)
 refine vx m jQ rfl rfl fun _ _ m => ?_
 refine vi m (fun b36 m => ?_) fun b36 m => ?_
 rw [b36]
 exact bD m (lx (.k3 .nil))
 rw [b36]
 refine vl 0 _ cG rfl rfl rfl ?_
 refine vi m (fun b37 m => ?_) fun b37 m => ?_
 rw [b37]
 exact bD m (lx (.k3 .nil))
 rw [b37]
 refine vl 0 _ cG rfl rfl rfl (vl 0 _ cG rfl rfl rfl ?_)
 refine vi m (fun b38 m => ?_) fun b38 m => ?_
 rw [b38]
 exact bD m (lx (.k3 .nil))
 rw [b38]
 refine vl 1 (.agg (aF p0)) eK rfl rfl rfl (vl 0 _ fE rfl rfl rfl ?_)
 refine vk EP wB m rfl rfl fun _ m => ?_
 refine vi m (fun b39 m => ?_) fun b39 m => ?_
 rw [b39]
 exact bD m (lx (.k3 .nil))
 rw [b39]
 refine vl 0 _ fE rfl rfl rfl (dH iF rfl ?_)
 exact bD m (lx (.k3 .nil))
 rw [b35]
 refine vl 0 _ cG rfl rfl rfl ?_
 refine vi m (fun b40 m => ?_) fun b40 m => ?_
 rw [b40]
 exact bD m (lx (.k3 .nil))
 rw [b40]
 refine vl 0 _ cG rfl rfl rfl (vl 0 _ cG rfl rfl rfl ?_)
 refine vi m (fun b41 m => ?_) fun b41 m => ?_
 rw [b41]
 exact bD m (lx (.k3 .nil))
 rw [b41]
 refine vl 1 (.agg (aF p0)) eK rfl rfl rfl (vl 0 _ fE rfl rfl rfl ?_)
 refine vk EP wB m rfl rfl fun _ m => ?_
 refine vi m (fun b42 m => ?_) fun b42 m => ?_
 rw [b42]
 exact bD m (lx (.k3 .nil))
 rw [b42]
 refine vl 0 _ fE rfl rfl rfl (dH iF rfl ?_)
 exact bD m (lx (.k3 .nil))
 rintro _ j5 m
 refine v ?_
 refine vi m (fun c17 m => ?_) fun c17 m => ?_
 refine v (v ?_)
 refine gA m fun m => ?_
 injection m with m; subst m
 exact eM rfl
 refine v (v ?_)
 exact bD m (kR [1] rfl rfl (.k2 .nil))
 refine v ?_
 exact iS m (lx (.k2 .nil))
 rintro _ r5 m
 refine v (v ?_)
 injection m with m; subst m
 exact eM rfl
theorem QH : aU Tryz.prog 89 = true := by kernel_rfl
open Go.Vm
theorem QI : aU Tryz.prog 108 = true := by kernel_rfl
def MP (m : Nat) (p0 : aE) (c0 : ByteArray) : Option (Bool) :=
 some (p0.Man.Name.toList == c0.toList)
theorem UB {w : Nat} {p0 : aE} {c0 : ByteArray} {o : Bool} (h : aH) {c0K : bZ} (c0H : h c0K = some (.obj 9 (F1 c0))) (m : MP w p0 c0 = some o) :
 aP Tryz.prog 104 [.agg (aN p0), .ptr c0K 0] h (fun r h' => r = .sc (.bool o) ∧ h' = h) := by
 refine fW 9 [.tmp 3] Tryz.func104 rfl rfl rfl rfl ?_
 unfold MP at m
 refine v ?_
 refine ve fun u => cQ u rfl rfl fun k2 K3 => qk K3 rfl ?_
 refine v (vl 0 _ uP rfl rfl rfl (vn (fun u => bH (.sc (.string c0)) uP rfl (oY u c0H) rfl) (vn (fun _ => wV rfl rfl rfl trivial) (v ?_))))
 cases m
 exact eM rfl
theorem QJ : aU Tryz.prog 104 = true := by kernel_rfl
def UC (m : Nat) (p0 : aB) (p1 : ByteArray) : Option (Int) :=
 (GS m p0.Snaps (fun x0 => MP m x0 p1)).bind fun y9 => some y9
theorem YT {w : Nat} {p0 : aB} {p1 : ByteArray} {o : Int} (h : aH) (m : UC w p0 p1 = some o) :
 aP Tryz.prog 46 [.agg (aF p0), .sc (.string p1)] h (fun r h' => r = nZ o ∧ h' = h) := by
 refine fW 9 [.tmp 4] Tryz.func46 rfl rfl rfl rfl ?_
 unfold UC at m
 refine v ?_
 refine ve fun u => cQ u rfl rfl fun k2 K3 => qk K3 rfl ?_
 refine ve fun u => cQ u rfl rfl fun k5 K6 => qk K6 rfl ?_
 refine v (vl 1 _ fK rfl rfl rfl ?_)
 obtain ⟨_, Y0, m⟩ := aC m
 refine vn (fun u => cE (P2 _ QJ (fun _ o h0 hs ho => UB _ (hs _ _ (bB 0 u rfl)) ho) Y0) rfl KC rfl) (v ?_)
 injection m with m; subst m
 exact eM rfl
theorem UD : aU Tryz.prog 46 = true := by kernel_rfl
def CH (m : Nat) (p0 : List aA) (p1 : aA → Option Bool) (q0 : Int) : Option (Lp (Int) (Int)) :=
 if (decide (q0 < (p0.length : Int))) = true then ((ix p0 q0).bind fun x0 => (p1 x0).bind fun y0 => if y0 = true then (some (.ret q0)) else some (.go (IntKind.wrap .i64 (q0 + 1)))) else some (.brk q0)
def UE (m : Nat) (p0 : List aA) (p1 : aA → Option Bool) : Option (Int) :=
 after (aY (fun s => CH m p0 p1 s) m 0) fun r0 => some (-1)
theorem YU {w : Nat} {p0 : List aA} {p1 : aA → Option Bool} {o : Int} (h : aH) {p1F : Nat} {p1C : List AV} (p1B : aU Tryz.prog p1F = true) (p1H : ∀ x0 o h0, gX h h0 → p1 x0 = some o → aP Tryz.prog p1F ([.agg (aD x0)] ++ p1C) h0 (fun r h' => r = .sc (.bool o) ∧ h' = h0)) (m : UE w p0 p1 = some o) :
 aP Tryz.prog 53 [.sl none 35 (List.map aD p0), .fn (.func p1F) p1C] h (fun r h' => r = nZ o ∧ h' = h) := by
 refine fW 19 [.tmp 4] Tryz.func53 rfl rfl rfl rfl ?_
 unfold UE at m
 refine v (v (dH hS rfl ?_))
 refine eO m (σ := Int) (τ := Unit) (fun g s => []) (fun g s => .c 0 (.sl none 35 (List.map aD p0)) (.c 1 (.fn (.func p1F) p1C) (.c 7 (nZ (p0.length : Int)) (.c 8 (nZ s) .nil)))) () (lx (.k4 .nil)) ?_ ?_
 rintro _ q0 x m
 replace m : CH w p0 p1 q0 = some x := m
 unfold CH at m
 refine v (v ?_)
 refine vi m (fun c0 m => ?_) fun c0 m => ?_
 refine v (v (v (v ?_)))
 refine vx m eW rfl rfl fun x1 _ m => ?_
 refine va (.agg (aD x1)) lF rfl rfl ?_
 obtain ⟨_, Y0, m⟩ := aC m
 refine vn (fun u => cE (p1H _ _ _ (aV (List.nil_sublist _) u).1 Y0) rfl p1B rfl) (v ?_)
 refine vi m (fun c1 m => ?_) fun c1 m => ?_
 refine v (v ?_)
 refine gA m fun m => ?_
 injection m with m; subst m
 exact eM rfl
 refine v (v ?_)
 exact bD m (lx (.k4 .nil))
 refine v ?_
 exact iS m (lx (.k4 .nil))
 rintro _ r0 m
 refine v (v ?_)
 cases m
 exact eM rfl
theorem QL : aU Tryz.prog 53 = true := by kernel_rfl
open Go.Vm Go.ChangeShapes Go.WideShapes
section
variable {H : Type} {enc : TypeId × Value → H} {W : World}
theorem S3 : Tryz.prog.cellsOf 3 = 1 := by kernel_rfl
theorem S4 : Rd enc Tryz.prog W 3 gQ gI := LK u3
theorem UF : Rd enc Tryz.prog W 22 I0 (gL gI) := Rd.slice S4 XO S3 (fun _ => rfl) (by decide)
theorem QM : Tryz.prog.cellsOf 67 = 5 := by kernel_rfl
theorem UG : Tryz.prog.cellsOf 64 = 1 := by kernel_rfl
theorem QN : Tryz.prog.cellsOf 95 = 2 := by kernel_rfl
theorem YV : Tryz.prog.cellsOf 9 = 1 := by kernel_rfl
theorem YW : Rd enc Tryz.prog W 9 F1 gT := LL u9
theorem UH : Tryz.prog.cellsOf 41 = 1 := by kernel_rfl
theorem YX : Tryz.prog.cellsOf 5 = 1 := by kernel_rfl
theorem YY : Rd enc Tryz.prog W 5 cZ gB := PA u5
theorem UI : Rd enc Tryz.prog W 41 fY (gL gB) := Rd.slice YY XR YX (fun _ => rfl) (by decide)
def CI (x : dK) : Prop := gT x.Path ∧ (gL gB) x.Data
theorem UJ : IV Tryz.prog 95 = some 2 := by kernel_rfl
theorem UK : Rd enc Tryz.prog W 95 eE CI := by
 intro fuel cs x h
 obtain ⟨hl, hf⟩ := Rd.flds UJ QN h
 obtain ⟨a0, g0, v0, w0⟩ := hf 0 0 1 MF YV YW
 obtain ⟨a1, g1, v1, w1⟩ := hf 1 1 1 MG UH UI
 obtain ⟨v, w⟩ := (BU.cons v0 w0 (BU.cons v1 w1 (BU.nil hl) rfl) rfl)
 exact ⟨⟨a0, a1⟩, ⟨g0, g1⟩, by simpa [eE, F1, fY] using v, by simpa using w⟩
theorem UL : Rd enc Tryz.prog W 64 AF (gL CI) := Rd.slice UK u64 QN (fun x => by simp [eE, bF]) (by decide)
theorem UM : Tryz.prog.cellsOf 65 = 1 := by kernel_rfl
theorem YZ : Tryz.prog.cellsOf 4 = 1 := by kernel_rfl
theorem ZA : Rd enc Tryz.prog W 4 B8 gT := IU u4
theorem UN : Rd enc Tryz.prog W 65 AH (gL gT) := Rd.slice ZA YL YZ (fun _ => rfl) (by decide)
def DJ (x : lM) : Prop := gI x.Do ∧ gI x.N ∧ gI x.Vol ∧ (gL CI) x.Tree ∧ (gL gT) x.Pick
theorem UO : IV Tryz.prog 67 = some 5 := by kernel_rfl
theorem UP : Rd enc Tryz.prog W 67 fG DJ := by
 intro fuel cs x h
 obtain ⟨hl, hf⟩ := Rd.flds UO QM h
 obtain ⟨a0, g0, v0, w0⟩ := hf 0 0 1 L8 S3 S4
 obtain ⟨a1, g1, v1, w1⟩ := hf 1 1 1 MA S3 S4
 obtain ⟨a2, g2, v2, w2⟩ := hf 2 2 1 MB S3 S4
 obtain ⟨a3, g3, v3, w3⟩ := hf 3 3 1 MC UG UL
 obtain ⟨a4, g4, v4, w4⟩ := hf 4 4 1 MD UM UN
 obtain ⟨v, w⟩ := (BU.cons v0 w0 (BU.cons v1 w1 (BU.cons v2 w2 (BU.cons v3 w3 (BU.cons v4 w4 (BU.nil hl) rfl) rfl) rfl) rfl) rfl)
 exact ⟨⟨a0, a1, a2, a3, a4⟩, ⟨g0, g1, g2, g3, g4⟩, by simpa [fG, gQ, gQ, gQ, AF, AH] using v, by simpa using w⟩
theorem UQ : Rd enc Tryz.prog W 23 I1 (gL DJ) := Rd.slice UP XP QM (fun x => by simp [fG, bF]) (by decide)
def CJ (x : dV) : Prop := gT x.Path ∧ gI x.Size ∧ (gL (fun x : bP => gL gB x.1)) x.Ids
def tL (x : a9) : Prop := gT x.Name ∧ (gL CJ) x.Parts
def tM (x : bI) : Prop := gI x.Vol ∧ gI x.File ∧ gI x.Off ∧ gI x.Len
def MQ (x : aE) : Prop := gI x.Seq ∧ tL x.Man ∧ (gL tM) x.Locs
def JG (x : aA) : Prop := (fun x : bP => gL gB x.1) x.Id ∧ gT x.Staged ∧ (gL gB) x.Data ∧ (gL tM) x.Locs
def QO (x : aI) : Prop := gI x.Seq ∧ gI x.Of ∧ (gL tM) x.Locs
def n4 (x : aK) : Prop := gI x.Pool ∧ gI x.Epoch ∧ gI x.State ∧ gI x.Files
def EQ (x : aB) : Prop := gI x.Seq ∧ (gL MQ) x.Snaps ∧ (gL JG) x.Chunks ∧ (gL QO) x.Exps ∧ (gL n4) x.Vols
theorem ZB : Tryz.prog.readableRec 3 = true ∧ 3 < Tryz.prog.types.size := ⟨by kernel_rfl, of_decide_eq_true (by kernel_rfl)⟩
theorem UR : Tryz.prog.readableRec 22 = true ∧ 22 < Tryz.prog.types.size := ⟨by kernel_rfl, of_decide_eq_true (by kernel_rfl)⟩
theorem US : Tryz.prog.readableRec 23 = true ∧ 23 < Tryz.prog.types.size := ⟨by kernel_rfl, of_decide_eq_true (by kernel_rfl)⟩
theorem UT : ownKnob Tryz.prog.godebug = none := by kernel_rfl
theorem GW : laidOutB Tryz.prog = true := by kernel_rfl
end
open Go.Vm
def gJ (a b c : Int) : Bool := decide (b ≤ a) && decide (a ≤ c)
theorem MR (F : Nat) (a b c : Int) : tF F a b c = some (gJ a b c) := by
 unfold tF gJ
 by_cases h : b ≤ a <;> simp [after, h]
theorem QP (F : Nat) (a b c : Int) : DI F a b c = some (gJ a b c) := by
 unfold DI gJ
 by_cases h : b ≤ a <;> simp [after, h]
def tN (a b : bI) : Bool := if a.Vol != b.Vol then decide (b.Vol < a.Vol) else if a.File != b.File then decide (b.File < a.File) else decide (b.Off < a.Off)
theorem UU (F : Nat) (a b : bI) : GP F a b = some (tN a b) := by
 unfold GP tN
 split
 ·rfl
 ·split <;> rfl
def ER (c : aB) (l : List bI) (i : Nat) : Bool := match l[i]? with
  | none => true
  | some x => gJ x.Vol 0 ((c.Vols.length : Int) - 1) && (match c.Vols[x.Vol.toNat]? with | none => false | some v => v.State == 2 && gJ x.File 1 v.Files) && gJ x.Off 0 16777215 && gJ x.Len 13 8013 &&
      (i == 0 || (match l[i - 1]? with | none => true | some y => tN x y))
def gR (c : aB) (l : List bI) : Bool := decide (l.length ≤ 200) && !(List.range l.length).any fun i => !ER c l i
theorem MS {F : Nat} {c : aB} {l : List bI} (hF : 1000 ≤ F) (hv : c.Vols.length < 1000) : uZ F c l = some (gR c l) := by
 unfold uZ gR
 by_cases hl : 200 < (l.length : Int)
 ·rw [if_pos (by simpa using hl)]; simp; omega
 ·rw [if_neg (by simpa using hl)]
  rw [eQ (s0 := (0 : Int)) (n := l.length) (F := F) (fun i : Nat => (i : Int)) (fun i => !ER c l i) (fun _ => false) (by omega) rfl, gF]
  ·have : l.length ≤ 200 := by omega
   simp only [this, decide_true, Bool.true_and]
   split <;> rename_i h <;> simp [after, h]
  ·intro i hi _
   unfold pC ER
   have hx : l[i]? = some l[i] := List.getElem?_eq_getElem hi
   generalize l[i] = x at hx
   rw [wr (by omega) (by omega), iW (by omega)]
   simp only [bT, hx, MR, UU, Option.bind_some, cH, aW, cY, dA, Int.ofNat_lt, hi, decide_true, if_true]
   cases h1 : gJ x.Vol 0 ((c.Vols.length : Int) - 1)
   ·simp [after]
   ·have h2 : 0 ≤ x.Vol ∧ x.Vol.toNat < c.Vols.length := by simp [gJ] at h1; omega
    have h3 : c.Vols[x.Vol.toNat]? = some c.Vols[x.Vol.toNat] := List.getElem?_eq_getElem h2.2
    generalize c.Vols[x.Vol.toNat] = v at h3
    simp only [tJ _ h2.1, h3, Option.bind_some]
    by_cases h0 : i = 0
    ·subst h0
     simp [after]
     grind
    ·have h5 : l[i - 1]? = some l[i - 1] := List.getElem?_eq_getElem (by omega)
     generalize l[i - 1] = y at h5
     rw [u0 (by omega) (by omega)]
     simp [after, bT, h5, h0, Nat.pos_of_ne_zero h0]
     grind
  ·intro _
   unfold pC
   simp
open Go.Vm Go.Lib
def key : List Int → Int
 | [] => 0
 | a :: u => a * 256 ^ u.length + key u
theorem CK : ∀ {l : List Int}, gL gB l → 0 ≤ key l ∧ key l < 256 ^ l.length
 | [], _ => by simp [key]
 | a :: u, h => by
  have ⟨h1, h2⟩ := h a (by simp)
  have ⟨h3, h4⟩ := CK (l := u) fun x hx => h x (by simp [hx])
  have hp : (0 : Int) < 256 ^ u.length := Int.pow_pos (by decide)
  simp only [key, List.length_cons, Int.pow_succ]
  have : a * 256 ^ u.length ≤ 255 * 256 ^ u.length := Int.mul_le_mul_of_nonneg_right (by omega) (by omega)
  have : 0 ≤ a * 256 ^ u.length := Int.mul_nonneg h1 (by omega)
  omega
theorem nN {a b : Int} {u v : List Int} (hl : u.length = v.length) (ha : gL gB (a :: u)) (hb : gL gB (b :: v)) :
    (a < b → key (a :: u) < key (b :: v)) ∧ (a = b → (key (a :: u) < key (b :: v) ↔ key u < key v) ∧ (key (a :: u) = key (b :: v) ↔ key u = key v)) := by
  have ⟨h3, h4⟩ := CK (l := u) fun x hx => ha x (by simp [hx])
  have ⟨h5, h6⟩ := CK (l := v) fun x hx => hb x (by simp [hx])
  simp only [key]
  rw [hl] at h4 ⊢
  generalize (256 : Int) ^ v.length = q at h4 h6
  constructor
  · intro h
    have : (a + 1) * q ≤ b * q := Int.mul_le_mul_of_nonneg_right (by omega) (by omega)
    rw [Int.add_mul] at this
    omega
  · rintro rfl
    omega
theorem DK : ∀ {a b : List Int}, a.length = b.length → gL gB a → gL gB b → key a = key b → a = b
 | [], [], _, _, _, _ => rfl
 | x :: u, y :: v, hl, ha, hb, h => by
  have hl' : u.length = v.length := by simpa using hl
  obtain ⟨h1, h2⟩ := nN hl' ha hb
  obtain ⟨h3, -⟩ := nN hl'.symm hb ha
  rcases Int.lt_trichotomy x y with q | q | q
  ·have := h1 q; omega
  ·subst q
   rw [DK hl' (fun z hz => ha z (by simp [hz])) (fun z hz => hb z (by simp [hz])) ((h2 rfl).2.1 h)]
  ·have := h3 q; omega
theorem wC (xs : List Int) : (bA xs).data.toList = xs.map fun z => z.toNat.toUInt8 := by
 have : ∀ (xs : List Int) (acc : ByteArray), (xs.foldl (fun acc z => acc.push z.toNat.toUInt8) acc).data.toList = acc.data.toList ++ xs.map fun z => z.toNat.toUInt8 := by
  intro xs
  induction xs with
  | nil => simp
  | cons x xs ih => intro acc; rw [List.foldl_cons, ih]; simp [ByteArray.push]
 rw [bA, this]
 rfl
theorem KJ {a b : Int} (ha : gB a) (hb : gB b) : a.toNat.toUInt8 < b.toNat.toUInt8 ↔ a < b := by
 unfold gB at ha hb
 rw [UInt8.lt_iff_toNat_lt]
 simp only [Nat.toUInt8, UInt8.toNat_ofNat']
 omega
theorem AQ : ∀ {a b : List Int}, a.length = b.length → gL gB a → gL gB b → compareBytes (a.map fun z => z.toNat.toUInt8) (b.map fun z => z.toNat.toUInt8) = if key a < key b then -1 else if key b < key a then 1 else 0
 | [], [], _, _, _ => by simp [compareBytes, key]
 | x :: u, y :: v, hl, ha, hb => by
  have hl' : u.length = v.length := by simpa using hl
  obtain ⟨h1, h2⟩ := nN hl' ha hb
  obtain ⟨h3, h4⟩ := nN hl'.symm hb ha
  have hx := ha x (by simp)
  have hy := hb y (by simp)
  simp only [List.map_cons, compareBytes, KJ hx hy, KJ hy hx]
  rcases Int.lt_trichotomy x y with q | q | q
  ·rw [if_pos q, if_pos (h1 q)]
  ·subst q
   rw [if_neg (by omega), if_neg (by omega), AQ hl' (fun z hz => ha z (by simp [hz])) (fun z hz => hb z (by simp [hz]))]
   simp only [(h2 rfl).1, (h4 rfl).1]
  ·rw [if_neg (by omega), if_pos q, if_neg (by have := h3 q; omega), if_pos (h3 q)]
def mS (x : bP) : Prop := gL gB x.1
def ky (x : bP) : Int := key x.1
theorem MT {a b : bP} (ha : mS a) (hb : mS b) (h : ky a = ky b) : a = b := Subtype.ext (DK (by rw [a.2, b.2]) ha hb h)
theorem JH (F : Nat) {a b : bP} (ha : mS a) (hb : mS b) : EN F a b = some (if ky a < ky b then -1 else if ky b < ky a then 1 else 0) := by
 unfold EN BV ky
 rw [cmp_eq, wC, wC, AQ (by rw [a.2, b.2]) ha hb]
theorem tO : ∀ (n : Nat) {a b : List Int}, a.length = n → b.length = n → gL gB a → gL gB b →
    (match (List.range n).find? fun i => a.getD i 0 != b.getD i 0 with | none => false | some i => decide (a.getD i 0 < b.getD i 0)) = decide (key a < key b)
  | 0, [], [], _, _, _, _ => by simp [key]
  | n + 1, x :: u, y :: v, h1, h2, ha, hb => by
    have hl' : u.length = v.length := by simp at h1 h2; omega
    obtain ⟨k1, k2⟩ := nN hl' ha hb
    obtain ⟨k3, k4⟩ := nN hl'.symm hb ha
    have ih := tO n (a := u) (b := v) (by simpa using h1) (by simpa using h2) (fun z hz => ha z (by simp [hz])) (fun z hz => hb z (by simp [hz]))
    rw [find_range_succ]
    simp only [List.getD_cons_zero, List.getD_cons_succ]
    by_cases q : x = y
    · subst q
      simp only [bne_self_eq_false, Bool.false_eq_true, if_false, (k2 rfl).1]
      rw [← ih]
      cases (List.range n).find? fun i => u.getD i 0 != v.getD i 0 with
      | none => rfl
      | some i => simp only [Option.map_some, List.getD_cons_succ]
    · have hne : (x != y) = true := by simpa using q
      simp only [hne, if_true, List.getD_cons_zero]
      rcases Int.lt_trichotomy x y with w | w | w
      · have := k1 w; simp [w, this]
      · exact absurd w q
      · have := k3 w
        simp; constructor <;> intro <;> omega
theorem rB {F : Nat} {a b : bP} (body : Int → Option (Lp Int Bool)) (hF : 1000 ≤ F) (ha : mS a) (hb : mS b)
    (h : ∀ i : Nat, body i = if decide ((i : Int) < 32) = true then ((ix a.1 i).bind fun x48 => (ix b.1 i).bind fun x50 => if (x48 != x50) = true then ((ix a.1 i).bind fun x54 => (ix b.1 i).bind fun x56 => some (.ret (decide (x54 < x56)))) else some (.go (IntKind.wrap .i64 (i + 1)))) else some (.brk (i : Int))) :
    (after (aY body F 0) fun _ => some false) = some (decide (ky a < ky b)) := by
  rw [eQ (s0 := (0 : Int)) (n := 32) (F := F) (fun i : Nat => (i : Int)) (fun i => a.1.getD i 0 != b.1.getD i 0) (fun i => decide (a.1.getD i 0 < b.1.getD i 0)) (by omega) rfl]
  · have := tO 32 a.2 b.2 ha hb
    unfold ky
    rw [← this]
    unfold LF
    cases (List.range 32).find? fun i => a.1.getD i 0 != b.1.getD i 0 <;> rfl
  · intro i hi _
    rw [h, iW (by omega)]
    have h1 : a.1[i]? = some a.1[i] := List.getElem?_eq_getElem (by rw [a.2]; exact hi)
    have h2 : b.1[i]? = some b.1[i] := List.getElem?_eq_getElem (by rw [b.2]; exact hi)
    have h3 : (i : Int) < 32 := by omega
    simp [bT, h1, h2, h3, List.getD]
    split <;> rfl
  · intro _
    rw [h]; simp
theorem UV {F : Nat} {a b : bP} (hF : 1000 ≤ F) (ha : mS a) (hb : mS b) : GT F a b = some (decide (ky a < ky b)) := rB (rQ F a b) hF ha hb fun _ => rfl
theorem QR {F : Nat} {a b : bP} (hF : 1000 ≤ F) (ha : mS a) (hb : mS b) : JE F a b = some (decide (ky a < ky b)) := rB (rR F a b) hF ha hb fun _ => rfl
open Go.Vm
structure Sm (c : aB) : Prop where
 g : EQ c
 sn : c.Snaps.length ≤ 12
 ch : c.Chunks.length ≤ 400
 ex : c.Exps.length ≤ 300
 vo : c.Vols.length ≤ 20
 sl : ∀ s ∈ c.Snaps, s.Locs.length ≤ 300
 cl : ∀ x ∈ c.Chunks, x.Locs.length ≤ 300 ∧ x.Data.length ≤ 300
 el : ∀ x ∈ c.Exps, x.Locs.length ≤ 300
 man : ∀ s ∈ c.Snaps, s.Man.Name.size ≤ 100 ∧ s.Man.Parts.length ≤ 10 ∧ ∀ p ∈ s.Man.Parts, p.Path.size ≤ 100 ∧ p.Ids.length ≤ 40
theorem gK {α : Type} (l : List α) (q : α → Bool) : ((List.range l.length).any fun i => (l[i]?).any q) = l.any q := by
 rw [Bool.eq_iff_iff]
 simp only [List.any_eq_true, List.mem_range]
 constructor
 ·rintro ⟨i, hi, h⟩
  rw [List.getElem?_eq_getElem hi] at h
  exact ⟨l[i], List.getElem_mem hi, by simpa using h⟩
 ·rintro ⟨x, hx, h⟩
  obtain ⟨i, hi, rfl⟩ := List.getElem_of_mem hx
  exact ⟨i, hi, by rw [List.getElem?_eq_getElem hi]; simpa using h⟩
def mR (v : aK) : Bool := gJ v.Pool 0 1 && gJ v.Epoch 0 1048576 && ((v.State == 2 && gJ v.Files 1 65535) || ((v.State == 1 || v.State == 3) && v.Files == 0))
theorem pK {α : Type} (l : List α) (q : α → Bool) : (l.any fun x => !q x) = !l.all q := by simp [List.any_eq_not_all_not]
theorem ZC {F : Nat} {l : List aK} (hF : 1000 ≤ F) (hl : l.length ≤ 20) : PX F l = some (l.all mR && gJ l.length 1 8) := by
 unfold PX
 rw [eQ (s0 := (0 : Int)) (n := l.length) (F := F) (fun i : Nat => (i : Int)) (fun i => (l[i]?).any fun v => !mR v) (fun _ => false) (by omega) rfl, gF, gK, pK]
 ·cases h : l.all mR <;> simp [after, MR]
 ·intro i hi _
  unfold tG mR
  have hx : l[i]? = some l[i] := List.getElem?_eq_getElem hi
  generalize l[i] = x at hx
  rw [iW (by omega)]
  simp only [bT, hx, MR, Option.bind_some, cH, aW, cY, dA, Int.ofNat_lt, hi, decide_true, if_true, Option.any_some]
  by_cases h2 : x.State = 2
  ·simp [h2]; grind
  ·by_cases h1 : x.State = 1
   ·simp [h1]; grind
   ·by_cases h3 : x.State = 3
    ·simp [h3]; grind
    ·simp [h1, h2, h3]
 ·intro _
  unfold tG
  simp
theorem UW {F : Nat} {c : aB} {l : List bI} (hF : 1000 ≤ F) (hv : c.Vols.length < 1000) : u2 F c l = some (gR c l) := by
 unfold u2 gR
 by_cases hl : 200 < (l.length : Int)
 ·rw [if_pos (by simpa using hl)]; simp; omega
 ·rw [if_neg (by simpa using hl)]
  rw [eQ (s0 := (0 : Int)) (n := l.length) (F := F) (fun i : Nat => (i : Int)) (fun i => !ER c l i) (fun _ => false) (by omega) rfl, gF]
  ·have : l.length ≤ 200 := by omega
   simp only [this, decide_true, Bool.true_and]
   split <;> rename_i h <;> simp [after, h]
  ·intro i hi _
   unfold pH ER
   have hx : l[i]? = some l[i] := List.getElem?_eq_getElem hi
   generalize l[i] = x at hx
   rw [iW (by omega)]
   simp only [bT, hx, QP, Option.bind_some, cH, aW, cY, dA, Int.ofNat_lt, hi, decide_true, if_true]
   by_cases h1 : x.Vol < 0
   ·simp [h1, gJ]
    try omega
   ·by_cases h2 : (c.Vols.length : Int) ≤ x.Vol
    ·simp [h1, h2, gJ]; omega
    ·have h2' : 0 ≤ x.Vol ∧ x.Vol.toNat < c.Vols.length := by omega
     have h3 : c.Vols[x.Vol.toNat]? = some c.Vols[x.Vol.toNat] := List.getElem?_eq_getElem h2'.2
     generalize c.Vols[x.Vol.toNat] = v at h3
     have h4 : gJ x.Vol 0 ((c.Vols.length : Int) - 1) = true := by simp [gJ]; omega
     simp only [tJ _ h2'.1, h3, Option.bind_some, h1, h2, h4, Bool.true_and, decide_false]
     by_cases h0 : i = 0
     ·subst h0
      simp [after]
      grind
     ·have h5 : l[i - 1]? = some l[i - 1] := List.getElem?_eq_getElem (by omega)
      generalize l[i - 1] = y at h5
      rw [u0 (by omega) (by omega)]
      simp [after, bT, h5, h0, Nat.pos_of_ne_zero h0, tN]
      grind
  ·intro _
   unfold pH
   simp
def DL (c : aB) (i : Nat) : Bool := match c.Chunks[i]? with
 | none => true
 | some x => (i == 0 || (match c.Chunks[i - 1]? with | none => true | some y => decide (ky y.Id < ky x.Id))) && gR c x.Locs && (if x.Staged then gJ x.Data.length 1 64 else (!decide (0 < x.Data.length) && !(x.Locs.length == 0)))
theorem S5 {c : aB} (h : Sm c) {i : Nat} {x : aA} (hx : c.Chunks[i]? = some x) : mS x.Id := by
 have := h.g.2.2.1 x (List.mem_of_getElem? hx)
 exact this.1
theorem GX {F : Nat} {c : aB} (hF : 1000 ≤ F) (h : Sm c) {i : Nat} (hi : i < c.Chunks.length) : qL F c i = some (if !DL c i then .ret false else .go ((i + 1 : Nat) : Int)) := by
 have hc := h.ch
 have hv := h.vo
 unfold qL DL
 have hx : c.Chunks[i]? = some c.Chunks[i] := List.getElem?_eq_getElem hi
 generalize c.Chunks[i] = x at hx
 have gx := S5 h hx
 rw [iW (by omega)]
 simp only [bT, hx, MR, MS hF (show c.Vols.length < 1000 by omega), Option.bind_some, cH, aW, cY, dA, Int.ofNat_lt, hi, decide_true, if_true]
 generalize x.Locs.length = nl
 generalize x.Data.length = nd
 by_cases h0 : i = 0
 ·subst h0
  cases hs : x.Staged <;> simp [cH, aW, cY, dA] <;> grind
 ·have h5 : c.Chunks[i - 1]? = some c.Chunks[i - 1] := List.getElem?_eq_getElem (by omega)
  generalize c.Chunks[i - 1] = y at h5
  have gy := S5 h h5
  rw [u0 (by omega) (by omega)]
  by_cases hk : ky y.Id < ky x.Id
  ·have e : ¬ (0 ≤ if ky y.Id < ky x.Id then (-1 : Int) else if ky x.Id < ky y.Id then 1 else 0) := by rw [if_pos hk]; omega
   cases hs : x.Staged <;> simp [cH, aW, cY, dA, bT, h5, h0, Nat.pos_of_ne_zero h0, JH F gy gx, e, hk] <;> grind
  ·have e : (0 ≤ if ky y.Id < ky x.Id then (-1 : Int) else if ky x.Id < ky y.Id then 1 else 0) := by rw [if_neg hk]; split <;> omega
   simp [cH, aW, cY, dA, bT, h5, h0, Nat.pos_of_ne_zero h0, JH F gy gx, e, hk]
   try (intro hh; exfalso; split at hh <;> omega)
def qS (c : aB) : Bool := !(List.range c.Chunks.length).any fun i => !DL c i
theorem ZD {F : Nat} {c : aB} (hF : 1000 ≤ F) (h : Sm c) : P7 F c = some (qS c && decide (c.Chunks.length ≤ 200)) := by
 have hc := h.ch
 unfold P7 qS
 rw [eQ (s0 := (0 : Int)) (n := c.Chunks.length) (F := F) (fun i : Nat => (i : Int)) (fun i => !DL c i) (fun _ => false) (by omega) rfl, gF]
 ·cases (List.range c.Chunks.length).any fun i => !DL c i <;> simp [after]; omega
 ·exact fun i hi _ => GX hF h hi
 ·intro _; unfold qL; simp
theorem MU {F : Nat} {c : aB} (hF : 1000 ≤ F) (h : Sm c) {i : Nat} (hi : i < c.Chunks.length) : oK F c i = some (if !DL c i then .ret false else .go ((i + 1 : Nat) : Int)) := by
 have hc := h.ch
 have hv := h.vo
 unfold oK DL
 have hx : c.Chunks[i]? = some c.Chunks[i] := List.getElem?_eq_getElem hi
 generalize c.Chunks[i] = x at hx
 have gx := S5 h hx
 rw [iW (by omega)]
 simp only [bT, hx, QP, UW hF (show c.Vols.length < 1000 by omega), Option.bind_some, cH, aW, cY, dA, Int.ofNat_lt, hi, decide_true, if_true]
 generalize x.Locs.length = nl
 generalize x.Data.length = nd
 by_cases h0 : i = 0
 ·subst h0
  cases hs : x.Staged <;> simp [cH, aW, cY, dA] <;> grind
 ·have h5 : c.Chunks[i - 1]? = some c.Chunks[i - 1] := List.getElem?_eq_getElem (by omega)
  generalize c.Chunks[i - 1] = y at h5
  have gy := S5 h h5
  rw [u0 (by omega) (by omega)]
  by_cases hk : ky y.Id < ky x.Id
  ·cases hs : x.Staged <;> simp [cH, aW, cY, dA, bT, h5, h0, Nat.pos_of_ne_zero h0, UV hF gy gx, hk] <;> grind
  ·simp [cH, aW, cY, dA, bT, h5, h0, Nat.pos_of_ne_zero h0, UV hF gy gx, hk]
theorem MV {F : Nat} {c : aB} (hF : 1000 ≤ F) (h : Sm c) {i : Nat} (hi : i < c.Vols.length) : oJ F c i = some (if (c.Vols[i]?).any fun v => !mR v then .ret false else .go ((i + 1 : Nat) : Int)) := by
 have hv := h.vo
 unfold oJ mR
 have hx : c.Vols[i]? = some c.Vols[i] := List.getElem?_eq_getElem hi
 generalize c.Vols[i] = x at hx
 rw [iW (by omega)]
 simp only [bT, hx, QP, Option.bind_some, cH, aW, cY, dA, Int.ofNat_lt, hi, decide_true, if_true, Option.any_some]
 by_cases h2 : x.State = 2
 ·simp [h2]; grind
 ·by_cases h1 : x.State = 1
  ·simp [h1]; grind
  ·by_cases h3 : x.State = 3
   ·simp [h3]; grind
   ·simp [h1, h2, h3]
open Go.Vm
theorem AR {s : ByteArray} {i : Nat} (h : i < s.size) : ∃ z : Int, IQ s (i : Int) = some z := by
 unfold IQ
 rw [if_pos (Int.natCast_nonneg i), Int.toNat_natCast]
 have : s[i]? = some s[i] := getElem?_pos s i h
 rw [this]
 exact ⟨_, rfl⟩
def MW (s : ByteArray) (i : Nat) : Bool := (IQ s (i : Int)).any fun z => decide (z < 33) || decide (126 < z)
def n5 (s : ByteArray) : Bool := gJ s.size 1 20 && !(List.range s.size).any (MW s)
theorem QS {F : Nat} {s : ByteArray} (hF : 1000 ≤ F) : EM F s = some (n5 s) := by
 unfold EM n5 gJ
 by_cases h1 : (s.size : Int) < 1
 ·have h2 : ¬ (1 : Int) ≤ s.size := by omega
  simp [after, h1, h2]
 ·by_cases h2 : 20 < (s.size : Int)
  ·have h3 : ¬ (s.size : Int) ≤ 20 := by omega
   simp [after, h1, h2, h3]
  ·rw [eQ (s0 := (0 : Int)) (n := s.size) (F := F) (fun i : Nat => (i : Int)) (MW s) (fun _ => false) (by omega) rfl, gF]
   ·have h3 : (s.size : Int) ≤ 20 := by omega
    have h4 : (1 : Int) ≤ s.size := by omega
    simp only [h1, h2, h3, h4]
    cases h : (List.range s.size).any (MW s) <;> simp [after]
   ·intro i hi _
    unfold pD MW
    obtain ⟨z, hz⟩ := AR hi
    rw [iW (by omega)]
    simp only [hz, Option.bind_some, cH, aW, cY, dA, Int.ofNat_lt, hi, decide_true, if_true, Option.any_some]
    grind
   ·intro _
    unfold pD
    simp
theorem GY {F : Nat} {s : ByteArray} (hF : 1000 ≤ F) (hs : s.size ≤ 100) : xX F s = some (n5 s) := by
 unfold xX n5 gJ
 rw [eQ (s0 := (0 : Int)) (n := s.size) (F := F) (fun i : Nat => (i : Int)) (MW s) (fun _ => false) (by omega) rfl, gF]
 ·cases h : (List.range s.size).any (MW s)
  ·simp only [cH, aW, cY]
   by_cases h1 : (1 : Int) ≤ s.size <;> simp [aW, h1]
  ·simp [after]
 ·intro i hi _
  unfold pI MW
  obtain ⟨z, hz⟩ := AR hi
  rw [iW (by omega)]
  simp only [hz, Option.bind_some, cH, aW, cY, dA, Int.ofNat_lt, hi, decide_true, if_true, Option.any_some]
  grind
 ·intro _
  unfold pI
  simp
def GZ (x y : dV) : Bool := Op.bytesLess x.Path.toList y.Path.toList || x.Path.toList == y.Path.toList
def AS (x : dV) : Bool := n5 x.Path && decide (0 ≤ x.Size) && decide (x.Size ≤ 200) && decide (x.Ids.length ≤ 25) && ((x.Ids.length == 0) == (x.Size == 0))
def MX (m : a9) (i : Nat) : Bool := match m.Parts[i]? with
 | none => true
 | some x => AS x && (i == 0 || (match m.Parts[i - 1]? with | none => true | some y => !GZ x y))
def qT (m : a9) : Bool := n5 m.Name && decide (m.Parts.length ≤ 6) && !(List.range m.Parts.length).any fun i => !MX m i
theorem FQ (n : Nat) : ((n : Int) == 0) = (n == 0) := by
 rw [Bool.eq_iff_iff]; simp
theorem UX {F : Nat} {x : dV} (hF : 1000 ≤ F) : GQ F x = some (AS x) := by
 unfold GQ AS
 simp only [QS hF, Option.bind_some, cH, aW, FQ]
 generalize n5 x.Path = a
 generalize x.Ids.length = n
 by_cases h1 : (n : Int) ≤ 25
 ·have h2 : n ≤ 25 := by omega
  simp only [h1, h2]
  grind
 ·have h2 : ¬ n ≤ 25 := by omega
  simp only [h1, h2]
  grind
theorem ZE {F : Nat} {m : a9} (hF : 1000 ≤ F) : AL F m = some (if qT m then 0 else 1) := by
 unfold AL qT
 simp only [QS hF, Option.bind_some, cH, aW, dA]
 cases hn : n5 m.Name
 ·simp
 ·by_cases hl : 6 < (m.Parts.length : Int)
  ·have : ¬ m.Parts.length ≤ 6 := by omega
   simp [hl, this]
  ·have h6 : m.Parts.length ≤ 6 := by omega
   rw [eQ (s0 := (0 : Int)) (n := m.Parts.length) (F := F) (fun i : Nat => (i : Int)) (fun i => !MX m i) (fun _ => 1) (by omega) rfl, gF]
   ·simp only [hl, h6]
    cases (List.range m.Parts.length).any fun i => !MX m i <;> simp [after]
   ·intro i hi _
    unfold pE MX
    have hx : m.Parts[i]? = some m.Parts[i] := List.getElem?_eq_getElem hi
    generalize m.Parts[i] = x at hx
    rw [iW (by omega)]
    simp only [bT, hx, UX hF, Option.bind_some, cH, aW, cY, dA, Int.ofNat_lt, hi, decide_true, if_true]
    by_cases h0 : i = 0
    ·subst h0
     simp
     split <;> rfl
    ·have h5 : m.Parts[i - 1]? = some m.Parts[i - 1] := List.getElem?_eq_getElem (by omega)
     generalize m.Parts[i - 1] = y at h5
     rw [u0 (by omega) (by omega)]
     simp only [bT, h5, Option.bind_some, aW]
     rw [show (Op.bytesLess x.Path.toList y.Path.toList || x.Path.toList == y.Path.toList) = GZ x y from rfl]
     have h7 : (0 : Int) < i := by omega
     simp only [h7, decide_true, if_true, h0]
     cases AS x <;> cases GZ x y <;> simp [h0]
   ·intro _; unfold pE; simp
theorem ZF {F : Nat} {m : a9} (hF : 1000 ≤ F) (hm : m.Name.size ≤ 100) (hp : ∀ p ∈ m.Parts, p.Path.size ≤ 100) : OE F m = some (qT m) := by
 unfold OE qT
 simp only [GY hF hm, Option.bind_some, cH, aW, dA]
 cases hn : n5 m.Name
 ·simp
 ·by_cases hl : 6 < (m.Parts.length : Int)
  ·have : ¬ m.Parts.length ≤ 6 := by omega
   simp [hl, this]
  ·have h6 : m.Parts.length ≤ 6 := by omega
   rw [eQ (s0 := (0 : Int)) (n := m.Parts.length) (F := F) (fun i : Nat => (i : Int)) (fun i => !MX m i) (fun _ => false) (by omega) rfl, gF]
   ·simp only [hl, h6]
    cases (List.range m.Parts.length).any fun i => !MX m i <;> simp [after]
   ·intro i hi _
    unfold tK MX AS
    have hx : m.Parts[i]? = some m.Parts[i] := List.getElem?_eq_getElem hi
    have hpx := hp _ (List.mem_of_getElem? hx)
    generalize m.Parts[i] = x at hx hpx
    rw [iW (by omega)]
    simp only [bT, hx, GY hF hpx, Option.bind_some, cH, aW, cY, dA, Int.ofNat_lt, hi, decide_true, if_true, FQ]
    generalize n5 x.Path = a
    generalize x.Ids.length = n
    have hn : (25 < (n : Int)) = (25 < n) := by simp; omega
    simp only [hn]
    by_cases h0 : i = 0
    ·subst h0
     simp
     grind
    ·have h5 : m.Parts[i - 1]? = some m.Parts[i - 1] := List.getElem?_eq_getElem (by omega)
     generalize m.Parts[i - 1] = y at h5
     rw [u0 (by omega) (by omega)]
     simp only [bT, h5, Option.bind_some, aW]
     rw [show (Op.bytesLess x.Path.toList y.Path.toList || x.Path.toList == y.Path.toList) = GZ x y from rfl]
     have h7 : (0 : Int) < i := by omega
     have h8 : (i == 0) = false := by simpa using h0
     simp only [h7, decide_true, if_true, h8, Bool.false_or]
     generalize GZ x y = o
     generalize ((n == 0) : Bool) = e0
     generalize (x.Size == 0 : Bool) = e1
     have e2 : decide (x.Size < 0) = !decide (0 ≤ x.Size) := by rw [← decide_not]; congr 1; simp
     have e3 : decide (200 < x.Size) = !decide (x.Size ≤ 200) := by rw [← decide_not]; congr 1; simp
     have e4 : decide (25 < n) = !decide (n ≤ 25) := by rw [← decide_not]; congr 1; simp
     rw [e2, e3, e4]
     generalize decide (0 ≤ x.Size) = f2
     generalize decide (x.Size ≤ 200) = f3
     generalize decide (n ≤ 25) = f4
     cases a <;> cases o <;> cases f2 <;> cases f3 <;> cases f4 <;> cases e0 <;> cases e1 <;> rfl
   ·intro _; unfold tK; simp
open Go.Vm
theorem AT {α : Type} {l : List α} (q : α → Bool) {F : Nat} {body : Int → Option (Lp Int Int)} (hF : l.length < F)
    (hb : ∀ i : Nat, i < l.length → body (i : Int) = some (if (l[i]?).any q then .ret (i : Int) else .go ((i + 1 : Nat) : Int))) (he : body (l.length : Int) = some (.brk (l.length : Int))) :
    (after (aY body F 0) fun _ => some (-1)).bind (fun y => some (decide (0 ≤ y))) = some (l.any q) := by
  rw [eQ (s0 := (0 : Int)) (n := l.length) (F := F) (fun i : Nat => (i : Int)) (fun i => (l[i]?).any q) (fun i => (i : Int)) hF rfl (fun i hi _ => hb i hi) (fun _ => he), ← gK]
  unfold LF
  cases h : (List.range l.length).find? fun i => (l[i]?).any q with
  | none =>
    have : (List.range l.length).any (fun i => (l[i]?).any q) = false := by
      rw [List.any_eq_false]
      exact fun x hx => by simpa using List.find?_eq_none.1 h x hx
    simp [after, this]
  | some i =>
    have : (List.range l.length).any (fun i => (l[i]?).any q) = true := List.any_eq_true.2 ⟨i, List.mem_of_find?_eq_some h, List.find?_some (p := fun i => (l[i]?).any q) h⟩
    simp [after, this]
theorem ZG {F : Nat} {l : List aE} {f : aE → Option Bool} (q : aE → Bool) (hF : l.length < F) (hl : l.length < 1000) (hf : ∀ x ∈ l, f x = some (q x)) : OD F l f = some (l.any q) := by
 unfold OD GS
 refine AT q hF (fun i hi => ?_) (by unfold pG; simp)
 unfold pG
 have hx : l[i]? = some l[i] := List.getElem?_eq_getElem hi
 rw [iW (by omega)]
 simp only [bT, hx, hf _ (List.getElem_mem hi), Option.bind_some, Int.ofNat_lt, hi, decide_true, if_true, Option.any_some]
 split <;> rfl
def wD (c : aB) (d : bP) : Bool := c.Snaps.any fun s => s.Man.Parts.any fun p => p.Ids.any fun x => decide (d = x)
def uN (c : aB) (i : Nat) : Bool := match c.Exps[i]? with
 | none => true
 | some x => gJ x.Seq 0 (c.Seq - 1) && (i == 0 || (match c.Exps[i - 1]? with | none => true | some y => decide (y.Seq < x.Seq))) && gJ x.Of 0 (x.Seq - 1) && !(x.Locs.length == 0) && gR c x.Locs
def ES (c : aB) (i : Nat) : Bool := match c.Exps[i]? with
 | none => true
 | some x => !c.Snaps.any fun s => s.Seq == x.Of
theorem ZH {c : aB} (h : Sm c) {i : Nat} {x : aI} (hx : c.Exps[i]? = some x) : gI x.Seq ∧ gI x.Of := by
 have := h.g.2.2.2.1 x (List.mem_of_getElem? hx)
 exact ⟨this.1, this.2.1⟩
theorem MY {F : Nat} {c : aB} (hF : 1000 ≤ F) (h : Sm c) (hq : gJ c.Seq 0 1073741824 = true) {i : Nat} (hi : i < c.Exps.length) :
    qK F c i = some (if !(uN c i && ES c i) then .ret false else .go ((i + 1 : Nat) : Int)) := by
  have hc := h.ex
  have hv := h.vo
  have hsn := h.sn
  unfold qK uN ES
  have hx : c.Exps[i]? = some c.Exps[i] := List.getElem?_eq_getElem hi
  generalize c.Exps[i] = x at hx
  have gx := ZH h hx
  have hq' : 0 ≤ c.Seq ∧ c.Seq ≤ 1073741824 := by simpa [gJ] using hq
  rw [iW (by omega), wr (n := c.Seq - 1) (by omega) (by omega)]
  have hm : OD F c.Snaps (fun x0 => JC F x0 x) = some (c.Snaps.any fun s => s.Seq == x.Of) := ZG (fun s => s.Seq == x.Of) (by omega) (by omega) (fun s _ => rfl)
  simp only [bT, hx, hm, MR, MS hF (show c.Vols.length < 1000 by omega), Option.bind_some, cH, aW, cY, dA, Int.ofNat_lt, hi, decide_true, if_true, FQ]
  generalize (x.Locs.length == 0) = nl
  generalize gR c x.Locs = lb
  generalize (c.Snaps.any fun s => s.Seq == x.Of) = an
  cases h1 : gJ x.Seq 0 (c.Seq - 1)
  · simp
  · have h1' : 0 ≤ x.Seq ∧ x.Seq ≤ c.Seq - 1 := by simpa [gJ] using h1
    rw [wr (n := x.Seq - 1) (by omega) (by omega)]
    generalize gJ x.Of 0 (x.Seq - 1) = ob
    by_cases h0 : i = 0
    · subst h0
      cases nl <;> cases lb <;> cases an <;> cases ob <;> simp
    · have h5 : c.Exps[i - 1]? = some c.Exps[i - 1] := List.getElem?_eq_getElem (by omega)
      generalize c.Exps[i - 1] = y at h5
      rw [u0 (by omega) (by omega)]
      have h7 : (0 : Int) < i := by omega
      have h8 : (i == 0) = false := by simpa using h0
      have e4 : decide (x.Seq ≤ y.Seq) = !decide (y.Seq < x.Seq) := by rw [← decide_not]; congr 1; simp
      simp only [bT, h5, h7, h8, e4, Option.bind_some, decide_true, if_true, Bool.false_or]
      generalize decide (y.Seq < x.Seq) = od
      cases nl <;> cases lb <;> cases an <;> cases ob <;> cases od <;> simp [cH, aW]
def u7 (c : aB) : Bool := !(List.range c.Exps.length).any fun i => !(uN c i && ES c i)
theorem ZI {F : Nat} {c : aB} (hF : 1000 ≤ F) (h : Sm c) (hq : gJ c.Seq 0 1073741824 = true) : P4 F c = some (u7 c && decide (c.Exps.length ≤ 200)) := by
 have hc := h.ex
 unfold P4 u7
 rw [eQ (s0 := (0 : Int)) (n := c.Exps.length) (F := F) (fun i : Nat => (i : Int)) (fun i => !(uN c i && ES c i)) (fun _ => false) (by omega) rfl, gF]
 ·cases (List.range c.Exps.length).any fun i => !(uN c i && ES c i) <;> simp [after]; omega
 ·exact fun i hi _ => MY hF h hq hi
 ·intro _; unfold qK; simp
theorem JI {F : Nat} {c : aB} (hF : 1000 ≤ F) (h : Sm c) {i : Nat} (hi : i < c.Exps.length) :
    mD F c i = some (if !uN c i then .ret false else .go ((i + 1 : Nat) : Int)) := by
  have hc := h.ex
  have hv := h.vo
  unfold mD uN gJ
  have hx : c.Exps[i]? = some c.Exps[i] := List.getElem?_eq_getElem hi
  generalize c.Exps[i] = x at hx
  rw [iW (by omega)]
  simp only [bT, hx, QP, UW hF (show c.Vols.length < 1000 by omega), Option.bind_some, cH, aW, cY, dA, Int.ofNat_lt, hi, decide_true, if_true, FQ]
  generalize (x.Locs.length == 0) = nl
  generalize gR c x.Locs = lb
  have e1 : decide (x.Seq < 0) = !decide (0 ≤ x.Seq) := by rw [← decide_not]; congr 1; simp
  have e2 : decide (c.Seq ≤ x.Seq) = !decide (x.Seq ≤ c.Seq - 1) := by rw [← decide_not]; congr 1; simp; omega
  have e3 : decide (x.Of < 0) = !decide (0 ≤ x.Of) := by rw [← decide_not]; congr 1; simp
  have e5 : decide (x.Seq ≤ x.Of) = !decide (x.Of ≤ x.Seq - 1) := by rw [← decide_not]; congr 1; simp; omega
  rw [e1, e2, e3, e5]
  generalize decide (0 ≤ x.Seq) = d1
  generalize decide (x.Seq ≤ c.Seq - 1) = d2
  generalize decide (0 ≤ x.Of) = d3
  generalize decide (x.Of ≤ x.Seq - 1) = d5
  by_cases h0 : i = 0
  · subst h0
    cases nl <;> cases lb <;> cases d1 <;> cases d2 <;> cases d3 <;> cases d5 <;> simp
  · have h5 : c.Exps[i - 1]? = some c.Exps[i - 1] := List.getElem?_eq_getElem (by omega)
    generalize c.Exps[i - 1] = y at h5
    rw [u0 (by omega) (by omega)]
    have h7 : (0 : Int) < i := by omega
    have h8 : (i == 0) = false := by simpa using h0
    have e4 : decide (x.Seq ≤ y.Seq) = !decide (y.Seq < x.Seq) := by rw [← decide_not]; congr 1; simp
    simp only [bT, h5, h7, h8, e4, Option.bind_some, decide_true, if_true, Bool.false_or]
    generalize decide (y.Seq < x.Seq) = od
    cases nl <;> cases lb <;> cases d1 <;> cases d2 <;> cases d3 <;> cases d5 <;> cases od <;> simp [cH, aW]
open Go.Vm
theorem UY {a b : Nat} (h : a + b < 1000000000) : IntKind.wrap .i64 ((IntKind.wrap .u64 (IntKind.wrap .i64 ((a : Int) + b))).fdiv (2 ^ (min (1 : Int).toNat (IntKind.bits .u64)))) = (((a + b) / 2 : Nat) : Int) := by
 have e1 : IntKind.wrap .i64 ((a : Int) + b) = ((a + b : Nat) : Int) := by rw [wr (by omega) (by omega)]; omega
 have e2 : ∀ n : Nat, n < 1000000000 → IntKind.wrap .u64 (n : Int) = n := by
  intro n hn
  have e : IntKind.wrap .u64 (n : Int) = (n : Int) % 18446744073709551616 := rfl
  rw [e]; omega
 rw [e1, e2 _ h]
 have e3 : (2 : Int) ^ (min (1 : Int).toNat (IntKind.bits .u64)) = 2 := by decide
 rw [e3, Int.fdiv_eq_ediv_of_nonneg _ (by omega), wr (by omega) (by omega)]
 omega
def OF (l : List aA) : Prop := (∀ x ∈ l, mS x.Id) ∧ ∀ (i j : Nat) (x y : aA), l[i]? = some x → l[j]? = some y → i < j → ky x.Id < ky y.Id
theorem MZ {c : aB} (h : Sm c) (hc : qS c = true) : OF c.Chunks := by
 refine ⟨fun x hx => (h.g.2.2.1 x hx).1, ?_⟩
 have hs : ∀ i x y, c.Chunks[i]? = some x → c.Chunks[i + 1]? = some y → ky x.Id < ky y.Id := by
  intro i x y hx hy
  have hi : i + 1 < c.Chunks.length := (List.getElem?_eq_some_iff.1 hy).1
  unfold qS at hc
  simp only [Bool.not_eq_true', List.any_eq_false, List.mem_range] at hc
  have := hc (i + 1) hi
  unfold DL at this
  rw [hy, show i + 1 - 1 = i from rfl, hx] at this
  simp at this
  exact this.1
 intro i j x y hx hy hij
 obtain ⟨k, rfl⟩ : ∃ k, j = i + 1 + k := ⟨j - i - 1, by omega⟩
 clear hij
 induction k generalizing y with
 | zero => exact hs i x y hx hy
 | succ k ih =>
  have hk : i + 1 + k < c.Chunks.length := by have := (List.getElem?_eq_some_iff.1 hy).1; omega
  exact Int.lt_trans (ih _ (List.getElem?_eq_getElem hk)) (hs (i + 1 + k) _ _ (List.getElem?_eq_getElem hk) hy)
theorem UZ {F : Nat} {l : List aA} {d : bP} (hr : OF l) (hd : mS d) (hl : l.length < 1000) : ∀ (G lo hi : Nat), lo ≤ hi → hi ≤ l.length → hi - lo < G →
    (∀ j x, l[j]? = some x → j < lo → ky x.Id < ky d) → (∀ j x, l[j]? = some x → hi ≤ j → ky d ≤ ky x.Id) →
    ∃ p : Nat, p ≤ l.length ∧ aY (fun s => pF F l d (fun x0 x1 => AM F x0 x1) s.1 s.2) G ((lo : Int), (hi : Int)) = some (.brk ((p : Int), (p : Int))) ∧
      (∀ j x, l[j]? = some x → j < p → ky x.Id < ky d) ∧ (∀ j x, l[j]? = some x → p ≤ j → ky d ≤ ky x.Id)
  | 0, _, _, _, _, h, _, _ => by omega
  | G + 1, lo, hi, h1, h2, h3, h4, h5 => by
    unfold aY pF
    by_cases hlt : lo < hi
    · have hm : (lo + hi) / 2 < l.length := by omega
      have hx : l[(lo + hi) / 2]? = some l[(lo + hi) / 2] := List.getElem?_eq_getElem hm
      generalize l[(lo + hi) / 2] = x at hx
      have gx := hr.1 x (List.mem_of_getElem? hx)
      have e : AM F x d = some (if ky x.Id < ky d then -1 else if ky d < ky x.Id then 1 else 0) := by unfold AM; rw [JH F gx hd]; rfl
      simp only [Int.ofNat_lt, hlt, decide_true, if_true, UY (show lo + hi < 1000000000 by omega), bT, hx, Option.bind_some, e]
      by_cases hk : ky x.Id < ky d
      · simp only [hk, if_true, show decide ((-1 : Int) < 0) = true from rfl, aW]
        rw [iW (by omega)]
        exact UZ hr hd hl G ((lo + hi) / 2 + 1) hi (by omega) h2 (by omega) (fun j y hy hj => by
          rcases Nat.lt_or_ge j ((lo + hi) / 2) with q | q
          · exact Int.lt_trans (hr.2 _ _ _ _ hy hx q) hk
          · obtain rfl : j = (lo + hi) / 2 := by omega
            rw [hx] at hy; cases hy; exact hk) h5
      · have e2 : decide ((if ky x.Id < ky d then (-1 : Int) else if ky d < ky x.Id then 1 else 0) < 0) = false := by rw [if_neg hk]; split <;> rfl
        simp only [e2, Bool.false_eq_true, if_false, aW]
        exact UZ hr hd hl G lo ((lo + hi) / 2) (by omega) (by omega) (by omega) h4 (fun j y hy hj => by
          rcases Nat.lt_or_ge ((lo + hi) / 2) j with q | q
          · have := hr.2 _ _ _ _ hx hy q; omega
          · obtain rfl : j = (lo + hi) / 2 := by omega
            rw [hx] at hy; cases hy; omega)
    · obtain rfl : lo = hi := by omega
      refine ⟨lo, h2, ?_, h4, h5⟩
      simp
def qU (l : List aA) (d : bP) : Bool := l.any fun x => decide (x.Id = d)
theorem U0 {F : Nat} {l : List aA} {d : bP} (hF : 1000 ≤ F) (hr : OF l) (hd : mS d) (hl : l.length < 1000) : ∃ p : Int, EO F l d = some (p, qU l d) := by
 unfold EO JA
 obtain ⟨p, hp, e, h1, h2⟩ := UZ (F := F) hr hd hl F 0 l.length (by omega) (Nat.le_refl _) (by omega) (fun j x _ hj => by omega) (fun j x hx hj => by have := (List.getElem?_eq_some_iff.1 hx).1; omega)
 rw [show ((0 : Int), (l.length : Int)) = (((0 : Nat) : Int), (l.length : Int)) from rfl, e]
 simp only [aW]
 refine ⟨p, ?_⟩
 by_cases hlt : p < l.length
 ·have hx : l[p]? = some l[p] := List.getElem?_eq_getElem hlt
  have hmem := List.getElem_mem hlt
  generalize l[p] = x at hx hmem
  have gx := hr.1 x hmem
  have e : AM F x d = some (if ky x.Id < ky d then -1 else if ky d < ky x.Id then 1 else 0) := by unfold AM; rw [JH F gx hd]; rfl
  simp only [Int.ofNat_lt, hlt, decide_true, if_true, bT, hx, Option.bind_some, e, aW]
  have hge := h2 p x hx (Nat.le_refl _)
  have : qU l d = ((if ky x.Id < ky d then (-1 : Int) else if ky d < ky x.Id then 1 else 0) == 0) := by
   rw [if_neg (by omega)]
   unfold qU
   by_cases hk : ky d < ky x.Id
   ·rw [if_pos hk]
    rw [List.any_eq_false.2]
    ·rfl
    intro y hy
    obtain ⟨j, hj, rfl⟩ := List.getElem_of_mem hy
    have hy' : l[j]? = some l[j] := List.getElem?_eq_getElem hj
    simp only [decide_eq_true_eq]
    intro he
    rcases Nat.lt_or_ge j p with q | q
    ·have := h1 j _ hy' q
     rw [he] at this; omega
    ·rcases Nat.lt_or_ge p j with q2 | q2
     ·have := hr.2 _ _ _ _ hx hy' q2
      rw [he] at this; omega
     ·obtain rfl : j = p := by omega
      rw [hy'] at hx; cases hx
      rw [he] at hk; omega
   ·rw [if_neg hk]
    refine List.any_eq_true.2 ⟨x, hmem, ?_⟩
    simp only [decide_eq_true_eq]
    exact MT gx hd (by omega)
  rw [this]
 ·have hn : ¬ ((p : Int) < (l.length : Int)) := by omega
  simp only [hn, decide_false, Bool.false_eq_true, if_false, aW, Option.bind_some]
  have : qU l d = false := by
   unfold qU
   refine List.any_eq_false.2 fun y hy => ?_
   obtain ⟨j, hj, rfl⟩ := List.getElem_of_mem hy
   have := h1 j _ (List.getElem?_eq_getElem hj) (by omega)
   simp only [decide_eq_true_eq]
   intro he
   rw [he] at this; omega
  rw [this]
theorem DM {ρ : Type} {body : Int → Option (Lp Int ρ)} {c : Nat → Bool} {n : Nat} (hb : ∀ i : Nat, i ≤ n → body (i : Int) = some (if c i then .go ((i + 1 : Nat) : Int) else .brk (i : Int))) (hn : c n = false) : ∀ (G k : Nat), k ≤ n → n - k < G →
    ∃ p : Nat, p ≤ n ∧ c p = false ∧ aY body G (k : Int) = some (.brk (p : Int))
  | 0, _, _, h => by omega
  | G + 1, k, hk, h => by
    unfold aY
    rw [hb k hk]
    cases hc : c k
    · exact ⟨k, hk, hc, by simp⟩
    · have : k ≠ n := by rintro rfl; rw [hn] at hc; cases hc
      obtain ⟨p, h1, h2, h3⟩ := DM hb hn G (k + 1) (by omega) (by omega)
      exact ⟨p, h1, h2, by simpa using h3⟩
theorem nC {S ρ : Type} {body : S → Option (Lp S ρ)} {I : Nat → S → Prop} {n : Nat} (hb : ∀ i s, i < n → I i s → ∃ s', body s = some (.go s') ∧ I (i + 1) s') (he : ∀ s, I n s → body s = some (.brk s)) : ∀ (G k : Nat) (s : S), k ≤ n → n - k < G → I k s →
    ∃ s', I n s' ∧ aY body G s = some (.brk s')
  | 0, _, _, _, h, _ => by omega
  | G + 1, k, s, hk, h, hi => by
    unfold aY
    by_cases e : k = n
    · subst e
      rw [he s hi]
      exact ⟨s, hi, rfl⟩
    · obtain ⟨s', h1, h2⟩ := hb k s (by omega) hi
      rw [h1]
      exact nC hb he G (k + 1) s' (by omega) (by omega) h2
theorem U1 {F : Nat} {l : List bP} {d : bP} (hF : 1000 ≤ F) (hl : l.length < 600) (gl : ∀ x ∈ l, mS x) (hd : mS d) :
    ∃ r, AP F l d = some r ∧ (∀ x, x ∈ r.1 ↔ x ∈ l ∨ x = d) ∧ r.1.length ≤ l.length + 1 := by
  unfold AP
  obtain ⟨p, h1, h2, h3⟩ := DM (body := pJ F l d) (n := l.length) (c := fun i => (l[i]?).any fun x => decide (ky x < ky d)) (fun i hi => by
    unfold pJ
    rw [iW (by omega)]
    by_cases hlt : i < l.length
    · have hx : l[i]? = some l[i] := List.getElem?_eq_getElem hlt
      simp only [Int.ofNat_lt, hlt, decide_true, if_true, bT, hx, Option.bind_some, QR hF (gl _ (List.getElem_mem hlt)) hd, aW, Option.any_some]
      split <;> rfl
    · have hx : l[i]? = none := List.getElem?_eq_none (by omega)
      simp [Int.ofNat_lt, hlt, hx, aW]) (by simp) F 0 (by omega) (by omega)
  rw [show (0 : Int) = ((0 : Nat) : Int) from rfl, h3]
  simp only [aW]
  have hins : (slc l 0 (p : Int)).bind (fun x84 => (app ([] : List bP) x84).bind fun z86 => (app z86 ([d] : List bP)).bind fun z92 => (slc l (p : Int) (l).length).bind fun x98 => (app z92 x98).bind fun z100 => some (z100, (p : Int), true))
      = some (l.take p ++ [d] ++ l.drop p, (p : Int), true) := by
    unfold slc
    rw [if_pos (by omega), if_pos (by omega)]
    simp only [Option.bind_some, Int.toNat_natCast]
    rw [dR (by simp; omega)]
    simp only [Option.bind_some, List.nil_append]
    rw [dR (by simp; omega)]
    simp only [Option.bind_some]
    rw [dR (by simp; omega)]
    simp
  have hmem : ∀ x, x ∈ l.take p ++ [d] ++ l.drop p ↔ x ∈ l ∨ x = d := by
    intro x
    simp only [List.mem_append, List.mem_singleton]
    rw [show (x ∈ l ∨ x = d) ↔ ((x ∈ l.take p ∨ x ∈ l.drop p) ∨ x = d) from by rw [← List.mem_append, List.take_append_drop]]
    constructor
    · rintro ((h | h) | h) <;> simp [h]
    · rintro ((h | h) | h) <;> simp [h]
  by_cases hlt : p < l.length
  · have hx : l[p]? = some l[p] := List.getElem?_eq_getElem hlt
    simp only [Int.ofNat_lt, hlt, decide_true, if_true, bT, hx, Option.bind_some, aW]
    by_cases he : l[p] = d
    · refine ⟨(l, (p : Int), false), by simp [he], fun x => ?_, by simp⟩
      constructor
      · exact .inl
      · rintro (h | rfl)
        · exact h
        · rw [← he]; exact List.getElem_mem hlt
    · rw [if_neg (by simpa using he)]
      exact ⟨_, hins, hmem, by simp; omega⟩
  · have hn : ¬ ((p : Int) < (l.length : Int)) := by omega
    simp only [hn, decide_false, Bool.false_eq_true, if_false, aW]
    exact ⟨_, hins, hmem, by simp; omega⟩
open Go.Vm
theorem CL {a b : ByteArray} (h : a.toList = b.toList) : a = b := Go.WideShapes.bytes_inj (by rwa [Go.Lib.toList_data, Go.Lib.toList_data] at h)
theorem XU {c : aB} (h : Sm c) {s : aE} (hs : s ∈ c.Snaps) : gI s.Seq ∧ ∀ p ∈ s.Man.Parts, ∀ d ∈ p.Ids, mS d := by
 have := h.g.2.1 s hs
 exact ⟨this.1, fun p hp d hd => (this.2.1.2 p hp).2.2 d hd⟩
theorem ZJ {F : Nat} {m : a9} (hF : 1000 ≤ F) (hp : m.Parts.length ≤ 10) (hi : ∀ p ∈ m.Parts, p.Ids.length ≤ 40) (hg : ∀ p ∈ m.Parts, ∀ d ∈ p.Ids, mS d) :
    ∃ ids, QG F m = some ids ∧ (∀ x, x ∈ ids ↔ ∃ p ∈ m.Parts, x ∈ p.Ids) ∧ ids.length ≤ 400 := by
  unfold QG
  let I : Nat → List bP × Int → Prop := fun i s => s.2 = (i : Int) ∧ s.1.length ≤ 40 * i ∧ ∀ x, x ∈ s.1 ↔ ∃ p ∈ m.Parts.take i, x ∈ p.Ids
  obtain ⟨s, ⟨h1, h2, h3⟩, h4⟩ := nC (body := fun s : List bP × Int => qP F m s.1 s.2) (I := I) (n := m.Parts.length) (fun i s hi' hI => by
      obtain ⟨l, q⟩ := s
      obtain ⟨rfl, hl, hm⟩ := hI
      simp only at hl hm
      have hx : m.Parts[i]? = some m.Parts[i] := List.getElem?_eq_getElem hi'
      have hmem := List.getElem_mem hi'
      have htk : m.Parts.take (i + 1) = m.Parts.take i ++ [m.Parts[i]] := by simp
      generalize m.Parts[i] = p at hx hmem htk
      have hpi := hi p hmem
      have hgp := hg p hmem
      have hgl : ∀ x ∈ l, mS x := fun x hx => by
        obtain ⟨p', hp', hx'⟩ := (hm x).1 hx
        exact hg p' (List.mem_of_mem_take hp') x hx'
      let J : Nat → List bP × Int → Prop := fun k s => s.2 = (k : Int) ∧ s.1.length ≤ 40 * i + k ∧ ∀ x, x ∈ s.1 ↔ (x ∈ l ∨ x ∈ p.Ids.take k)
      obtain ⟨t, ⟨j1, j2, j3⟩, j4⟩ := nC (ρ := Lp (List bP × Int) (List bP)) (body := fun s : List bP × Int => qO F m (i : Int) s.1 s.2) (I := J) (n := p.Ids.length) (fun k s hk hJ => by
          obtain ⟨u, q⟩ := s
          obtain ⟨rfl, hu, hv⟩ := hJ
          simp only at hu hv
          have hd : p.Ids[k]? = some p.Ids[k] := List.getElem?_eq_getElem hk
          have hdm := List.getElem_mem hk
          have hdk : p.Ids.take (k + 1) = p.Ids.take k ++ [p.Ids[k]] := by simp
          generalize p.Ids[k] = d at hd hdm hdk
          obtain ⟨r, r1, r2, r3⟩ := U1 (F := F) (l := u) (d := d) hF (by omega) (fun x hx => by
            rcases (hv x).1 hx with q | q
            · exact hgl x q
            · exact hgp x (List.mem_of_mem_take q)) (hgp d hdm)
          refine ⟨(r.1, ((k + 1 : Nat) : Int)), ?_, rfl, by simp only; omega, fun x => ?_⟩
          · unfold qO
            rw [iW (by omega)]
            simp only [bT, hx, Option.bind_some, Int.ofNat_lt, hk, decide_true, if_true, hd, r1]
          · simp only [r2, hv, hdk, List.mem_append, List.mem_singleton, or_assoc]) (fun s hs => by
          obtain ⟨u, q⟩ := s
          obtain ⟨rfl, -, -⟩ := hs
          unfold qO
          simp [bT, hx]) F 0 (l, 0) (by omega) (by omega) ⟨rfl, by simp only; omega, by simp⟩
      refine ⟨(t.1, ((i + 1 : Nat) : Int)), ?_, rfl, by simp only; omega, fun x => ?_⟩
      · unfold qP
        rw [iW (by omega)]
        simp only [Int.ofNat_lt, hi', decide_true, if_true, j4, aW]
      · simp only [j3, hm, htk, List.take_length, List.mem_append, List.mem_singleton]
        constructor
        · rintro (⟨p', hp', hx'⟩ | hx')
          · exact ⟨p', .inl hp', hx'⟩
          · exact ⟨p, .inr rfl, hx'⟩
        · rintro ⟨p', hp' | rfl, hx'⟩
          · exact .inl ⟨p', hp', hx'⟩
          · exact .inr hx') (fun s hs => by
      obtain ⟨u, q⟩ := s
      obtain ⟨rfl, -, -⟩ := hs
      unfold qP
      simp) F 0 ([], 0) (by omega) (by omega) ⟨rfl, by simp, by simp⟩
  rw [h4]
  exact ⟨s.1, by simp only [aW], by simpa using h3, by omega⟩
theorem U2 {F : Nat} {c : aB} {d : bP} (hF : 1000 ≤ F) (hl : c.Chunks.length < 1000) : ∃ n : Int, ID F c d = some n ∧ (decide (n < 0)) = !qU c.Chunks d := by
 have := AT (l := c.Chunks) (fun x => decide (x.Id = d)) (F := F) (body := nB F c d) (by omega) (fun i hi => by
  unfold nB
  have hx : c.Chunks[i]? = some c.Chunks[i] := List.getElem?_eq_getElem hi
  rw [iW (by omega)]
  simp only [bT, hx, Option.bind_some, Int.ofNat_lt, hi, decide_true, if_true, Option.any_some]
  split <;> rfl) (by unfold nB; simp)
 rw [show (after (aY (nB F c d) F 0) fun _ => some (-1)) = ID F c d from rfl] at this
 obtain ⟨n, h1, h2⟩ := Option.bind_eq_some_iff.1 this
 refine ⟨n, h1, ?_⟩
 have h3 := Option.some.inj h2
 unfold qU
 rw [← h3, ← decide_not]
 congr 1
 simp
theorem ZK {F : Nat} {c : aB} {i : Nat} {s : aE} (hF : 1000 ≤ F) (hl : c.Snaps.length < 1000) (hs : c.Snaps[i]? = some s) :
    ∃ n : Int, u6 F c s.Man.Name = some n ∧ (n != (i : Int)) = (c.Snaps.take i).any fun y => s.Man.Name == y.Man.Name := by
  have hi : i < c.Snaps.length := (List.getElem?_eq_some_iff.1 hs).1
  have hsi : c.Snaps[i] = s := by have := List.getElem?_eq_getElem hi; rw [hs] at this; exact (Option.some.inj this).symm
  unfold u6
  rw [eQ (s0 := (0 : Int)) (n := c.Snaps.length) (F := F) (fun i : Nat => (i : Int)) (fun i => (c.Snaps[i]?).any fun y => y.Man.Name.toList == s.Man.Name.toList) (fun i => (i : Int)) (by omega) rfl]
  · unfold LF
    have hp : ((c.Snaps[i]?).any fun y => y.Man.Name.toList == s.Man.Name.toList) = true := by rw [hs]; simp
    cases h : (List.range c.Snaps.length).find? fun i => (c.Snaps[i]?).any fun y => y.Man.Name.toList == s.Man.Name.toList with
    | none =>
      have := List.find?_eq_none.1 h i (List.mem_range.2 hi)
      exact absurd hp this
    | some k =>
      refine ⟨(k : Int), rfl, ?_⟩
      obtain ⟨hk1, hk2, hk3⟩ := List.find?_range_eq_some.1 h
      rw [Bool.eq_iff_iff]
      simp only [bne_iff_ne, ne_eq, List.any_eq_true]
      have hkl : k < c.Snaps.length := List.mem_range.1 hk2
      rw [List.getElem?_eq_getElem hkl] at hk1
      simp only [Option.any_some, beq_iff_eq] at hk1
      constructor
      · intro hne
        have hki : k < i := by
          rcases Nat.lt_or_ge k i with q | q
          · exact q
          · have := hk3 i (by omega)
            rw [hp] at this; cases this
        refine ⟨c.Snaps[k], ?_, ?_⟩
        · rw [List.mem_take_iff_getElem]
          exact ⟨k, by omega, rfl⟩
        · exact (i6 _ _).2 (CL hk1.symm)
      · rintro ⟨y, hy, he⟩ hc
        rw [List.mem_take_iff_getElem] at hy
        obtain ⟨j, hj, rfl⟩ := hy
        have := hk3 j (by omega)
        rw [List.getElem?_eq_getElem (by omega)] at this
        rw [(i6 _ _).1 he] at this
        simp at this
  · intro j hj _
    unfold mC
    have hx : c.Snaps[j]? = some c.Snaps[j] := List.getElem?_eq_getElem hj
    rw [iW (by omega)]
    simp only [bT, hx, Option.bind_some, Int.ofNat_lt, hj, decide_true, if_true, Option.any_some]
    split <;> rfl
  · intro _; unfold mC; simp
def E6 (c : aB) (m : a9) : Bool := m.Parts.all fun p => p.Ids.all fun d => qU c.Chunks d
def zI (c : aB) (i : Nat) : Bool := match c.Snaps[i]? with
 | none => true
 | some s => gJ s.Seq 0 (c.Seq - 1) && (i == 0 || (match c.Snaps[i - 1]? with | none => true | some y => decide (y.Seq < s.Seq))) && !((c.Snaps.take i).any fun y => s.Man.Name == y.Man.Name) && qT s.Man && gR c s.Locs
def BH (c : aB) (i : Nat) : Bool := match c.Snaps[i]? with
 | none => true
 | some s => E6 c s.Man
def KK (c : aB) (i : Nat) : Bool := match c.Snaps[i]? with
 | none => true
 | some s => !c.Exps.any fun x => x.Of == s.Seq
def KL (c : aB) (i : Nat) : List ByteArray := (c.Snaps.take i).foldl (fun l s => oH l s.Man.Name) []
theorem JJ (c : aB) (x : ByteArray) : ∀ i, ((KL c i).any fun z => x == z) = (c.Snaps.take i).any fun y => x == y.Man.Name := by
 have : ∀ (l : List aE) (acc : List ByteArray), ((l.foldl (fun l s => oH l s.Man.Name) acc).any fun z => x == z) = ((acc.any fun z => x == z) || l.any fun y => x == y.Man.Name) := by
  intro l
  induction l with
  | nil => simp
  | cons s l ih =>
   intro acc
   rw [List.foldl_cons, ih, List.any_cons, ← Bool.or_assoc]
   congr 1
   unfold oH
   split
   ·rename_i h
    rw [Bool.eq_iff_iff]
    simp only [Bool.or_eq_true, List.any_eq_true] at h ⊢
    constructor
    ·exact .inl
    ·rintro (q | q)
     ·exact q
     ·obtain ⟨y, hy, he⟩ := h
      rw [(i6 _ _).1 q, (i6 _ _).1 he]
      exact ⟨y, hy, (i6 _ _).2 rfl⟩
   ·simp
 intro i
 rw [KL, this]
 simp
open Go.Vm
theorem M0 {F : Nat} {c : aB} {s : aE} (hF : 1000 ≤ F) (h : Sm c) (hr : OF c.Chunks) (hs : s ∈ c.Snaps) :
    aY (fun q => qM F c s q) F 0 = some (if !E6 c s.Man then .ret (.ret false) else .brk (s.Man.Parts.length : Int)) := by
  obtain ⟨-, h2, h3⟩ := h.man s hs
  have hg := (XU h hs).2
  have hc := h.ch
  rw [eQ (s0 := (0 : Int)) (n := s.Man.Parts.length) (F := F) (fun i : Nat => (i : Int)) (fun i => (s.Man.Parts[i]?).any fun p => !p.Ids.all fun d => qU c.Chunks d) (fun _ => .ret false) (by omega) rfl, gF, gK, pK]
  · rfl
  · intro i hi _
    unfold qM
    have hx : s.Man.Parts[i]? = some s.Man.Parts[i] := List.getElem?_eq_getElem hi
    have hm := List.getElem_mem hi
    generalize s.Man.Parts[i] = p at hx hm
    have h4 := (h3 p hm).2
    rw [iW (by omega)]
    simp only [bT, hx, Option.bind_some, Int.ofNat_lt, hi, decide_true, if_true, Option.any_some]
    rw [eQ (s0 := (0 : Int)) (n := p.Ids.length) (F := F) (fun i : Nat => (i : Int)) (fun i => (p.Ids[i]?).any fun d => !qU c.Chunks d) (fun _ => .ret (.ret false)) (by omega) rfl, gF, gK, pK]
    · cases p.Ids.all fun d => qU c.Chunks d <;> simp [after]
    · intro k hk _
      unfold tH
      have hd : p.Ids[k]? = some p.Ids[k] := List.getElem?_eq_getElem hk
      have hdm := List.getElem_mem hk
      generalize p.Ids[k] = d at hd hdm
      obtain ⟨z, hz⟩ := U0 (F := F) (l := c.Chunks) (d := d) hF hr (hg p hm d hdm) (by omega)
      rw [iW (by omega)]
      simp only [bT, hd, Option.bind_some, Int.ofNat_lt, hk, decide_true, if_true, Option.any_some, hz]
      split <;> rfl
    · intro _; unfold tH; simp
  · intro _; unfold qM; simp
theorem G0 {c : aB} {i : Nat} {s : aE} (hx : c.Snaps[i]? = some s) : KL c (i + 1) = oH (KL c i) s.Man.Name := by
 unfold KL
 have hi := (List.getElem?_eq_some_iff.1 hx)
 obtain ⟨hi, rfl⟩ := hi
 rw [List.take_succ_eq_append_getElem hi, List.foldl_append]
 rfl
theorem M2 {F : Nat} {c : aB} (hF : 1000 ≤ F) (h : Sm c) (hr : OF c.Chunks) (hq : gJ c.Seq 0 1073741824 = true) {i : Nat} (hi : i < c.Snaps.length) :
    qN F c (KL c i) i = some (if !(zI c i && BH c i) then .ret false else .go (KL c (i + 1), ((i + 1 : Nat) : Int))) := by
  have hv := h.vo
  have hsn := h.sn
  have hq' : 0 ≤ c.Seq ∧ c.Seq ≤ 1073741824 := by simpa [gJ] using hq
  unfold qN zI BH
  have hx : c.Snaps[i]? = some c.Snaps[i] := List.getElem?_eq_getElem hi
  have hm := List.getElem_mem hi
  generalize c.Snaps[i] = x at hx hm
  rw [iW (by omega), wr (n := c.Seq - 1) (by omega) (by omega), G0 hx]
  simp only [bT, hx, MR, ZE hF, MS hF (show c.Vols.length < 1000 by omega), Option.bind_some, cH, aW, cY, dA, Int.ofNat_lt, hi, decide_true, if_true, JJ, M0 hF h hr hm]
  generalize ((c.Snaps.take i).any fun y => x.Man.Name == y.Man.Name) = nb
  generalize gR c x.Locs = lb
  generalize E6 c x.Man = pb
  have e1 : ((if qT x.Man = true then (0 : Int) else 1) != 0) = !qT x.Man := by cases qT x.Man <;> rfl
  rw [e1]
  generalize qT x.Man = mb
  generalize gJ x.Seq 0 (c.Seq - 1) = ib
  by_cases h0 : i = 0
  · subst h0
    cases nb <;> cases lb <;> cases pb <;> cases mb <;> cases ib <;> simp [aW, cY]
  · have h5 : c.Snaps[i - 1]? = some c.Snaps[i - 1] := List.getElem?_eq_getElem (by omega)
    generalize c.Snaps[i - 1] = y at h5
    rw [u0 (by omega) (by omega)]
    have h7 : (0 : Int) < i := by omega
    have h8 : (i == 0) = false := by simpa using h0
    have e4 : decide (x.Seq ≤ y.Seq) = !decide (y.Seq < x.Seq) := by rw [← decide_not]; congr 1; simp
    simp only [bT, h5, h7, h8, e4, Option.bind_some, decide_true, if_true, Bool.false_or]
    generalize decide (y.Seq < x.Seq) = od
    cases nb <;> cases lb <;> cases pb <;> cases mb <;> cases ib <;> cases od <;> simp [aW, cY]
def xY (c : aB) : Bool := !(List.range c.Snaps.length).any fun i => !(zI c i && BH c i)
theorem ZL {F : Nat} {c : aB} (hF : 1000 ≤ F) (h : Sm c) (hr : OF c.Chunks) (hq : gJ c.Seq 0 1073741824 = true) : QA F c = some (xY c && decide (c.Snaps.length ≤ 8)) := by
 have hc := h.sn
 unfold QA xY
 rw [eQ (s0 := (([] : List ByteArray), (0 : Int))) (n := c.Snaps.length) (F := F) (fun i : Nat => (KL c i, (i : Int))) (fun i => !(zI c i && BH c i)) (fun _ => false) (by omega) rfl, gF]
 ·cases (List.range c.Snaps.length).any fun i => !(zI c i && BH c i) <;> simp [after]; omega
 ·exact fun i hi _ => M2 hF h hr hq hi
 ·intro _; unfold qN; simp
theorem M3 {F : Nat} {c : aB} (hF : 1000 ≤ F) (h : Sm c) {i : Nat} (hi : i < c.Snaps.length) :
    oL F c i = some (if !(zI c i && BH c i && KK c i) then .ret false else .go ((i + 1 : Nat) : Int)) := by
  have hv := h.vo
  have hsn := h.sn
  have hch := h.ch
  have hex := h.ex
  unfold oL zI BH KK gJ
  have hx : c.Snaps[i]? = some c.Snaps[i] := List.getElem?_eq_getElem hi
  have hm := List.getElem_mem hi
  generalize c.Snaps[i] = x at hx hm
  obtain ⟨k1, k2, k3⟩ := h.man x hm
  obtain ⟨ids, i1, i2, i3⟩ := ZJ (F := F) (m := x.Man) hF k2 (fun p hp => (k3 p hp).2) (XU h hm).2
  obtain ⟨n, n1, n2⟩ := ZK (F := F) hF (by omega) hx
  rw [iW (by omega)]
  have l7 : aY (fun s => qQ F c ids s) F 0 = some (if !E6 c x.Man then .ret (.ret false) else .brk (ids.length : Int)) := by
    rw [eQ (s0 := (0 : Int)) (n := ids.length) (F := F) (fun i : Nat => (i : Int)) (fun i => (ids[i]?).any fun d => !qU c.Chunks d) (fun _ => .ret false) (by omega) rfl, gF, gK, pK]
    · have : E6 c x.Man = ids.all fun d => qU c.Chunks d := by
        rw [Bool.eq_iff_iff]
        simp only [E6, List.all_eq_true]
        constructor
        · intro q d hd
          obtain ⟨p, hp, hd'⟩ := (i2 d).1 hd
          exact q p hp d hd'
        · intro q p hp d hd
          exact q d ((i2 d).2 ⟨p, hp, hd⟩)
      rw [this]
    · intro k hk _
      unfold qQ
      have hd : ids[k]? = some ids[k] := List.getElem?_eq_getElem hk
      generalize ids[k] = d at hd
      obtain ⟨z, hz, hz2⟩ := U2 (F := F) (c := c) (d := d) hF (by omega)
      rw [iW (by omega)]
      simp only [bT, hd, Option.bind_some, Int.ofNat_lt, hk, decide_true, if_true, Option.any_some, hz, hz2]
      split <;> rfl
    · intro _; unfold qQ; simp
  have l9 : aY (fun s => qR F c x s) F 0 = some (if c.Exps.any fun y => y.Of == x.Seq then .ret (.ret false) else .brk (c.Exps.length : Int)) := by
    rw [eQ (s0 := (0 : Int)) (n := c.Exps.length) (F := F) (fun i : Nat => (i : Int)) (fun i => (c.Exps[i]?).any fun y => y.Of == x.Seq) (fun _ => .ret false) (by omega) rfl, gF, gK]
    · intro k hk _
      unfold qR
      have hd : c.Exps[k]? = some c.Exps[k] := List.getElem?_eq_getElem hk
      rw [iW (by omega)]
      simp only [bT, hd, Option.bind_some, Int.ofNat_lt, hk, decide_true, if_true, Option.any_some]
      split <;> rfl
    · intro _; unfold qR; simp
  simp only [bT, hx, ZF hF k1 (fun p hp => (k3 p hp).1), UW hF (show c.Vols.length < 1000 by omega), n1, n2, i1, l7, l9, Option.bind_some, cH, aW, cY, dA, Int.ofNat_lt, hi, decide_true, if_true]
  generalize ((c.Snaps.take i).any fun y => x.Man.Name == y.Man.Name) = nb
  generalize gR c x.Locs = lb
  generalize E6 c x.Man = pb
  generalize (c.Exps.any fun y => y.Of == x.Seq) = xb
  generalize qT x.Man = mb
  have e1 : decide (x.Seq < 0) = !decide (0 ≤ x.Seq) := by rw [← decide_not]; congr 1; simp
  have e2 : decide (c.Seq ≤ x.Seq) = !decide (x.Seq ≤ c.Seq - 1) := by rw [← decide_not]; congr 1; simp; omega
  rw [e1, e2]
  generalize decide (0 ≤ x.Seq) = d1
  generalize decide (x.Seq ≤ c.Seq - 1) = d2
  by_cases h0 : i = 0
  · subst h0
    cases nb <;> cases lb <;> cases pb <;> cases mb <;> cases d1 <;> cases d2 <;> cases xb <;> simp [aW, cY]
  · have h5 : c.Snaps[i - 1]? = some c.Snaps[i - 1] := List.getElem?_eq_getElem (by omega)
    generalize c.Snaps[i - 1] = y at h5
    rw [u0 (by omega) (by omega)]
    have h7 : (0 : Int) < i := by omega
    have h8 : (i == 0) = false := by simpa using h0
    have e4 : decide (x.Seq ≤ y.Seq) = !decide (y.Seq < x.Seq) := by rw [← decide_not]; congr 1; simp
    simp only [bT, h5, h7, h8, e4, Option.bind_some, decide_true, if_true, Bool.false_or]
    generalize decide (y.Seq < x.Seq) = od
    cases nb <;> cases lb <;> cases pb <;> cases mb <;> cases d1 <;> cases d2 <;> cases xb <;> cases od <;> simp [aW, cY]
def iO (c : aB) : Bool := gJ c.Seq 0 1073741824 && (c.Vols.all mR && gJ c.Vols.length 1 8) && (qS c && decide (c.Chunks.length ≤ 200)) && (xY c && decide (c.Snaps.length ≤ 8)) && (u7 c && decide (c.Exps.length ≤ 200))
theorem U3 {F : Nat} {c : aB} (hF : 1000 ≤ F) (h : Sm c) : MK F c = some (if iO c then 0 else 1) := by
 have hv := h.vo
 unfold MK iO
 simp only [MR, ZC hF hv, ZD hF h, Option.bind_some, cH, aW, dA]
 cases hq : gJ c.Seq 0 1073741824
 ·simp
 ·cases hv' : (c.Vols.all mR && gJ c.Vols.length 1 8)
  ·simp
  ·cases hc : qS c
   ·simp
   ·have hr := MZ h hc
    simp only [ZL hF h hr hq, ZI hF h hq, Option.bind_some, dA, cH, aW]
    generalize decide (c.Chunks.length ≤ 200) = a
    generalize (xY c && decide (c.Snaps.length ≤ 8)) = b
    generalize (u7 c && decide (c.Exps.length ≤ 200)) = d
    cases a <;> cases b <;> cases d <;> simp
theorem pL {n : Nat} (p q : Nat → Bool) : ((List.range n).any fun i => !(p i && q i)) = (((List.range n).any fun i => !p i) || (List.range n).any fun i => !q i) := by
 rw [Bool.eq_iff_iff]
 simp only [Bool.or_eq_true, List.any_eq_true, Bool.not_eq_true', Bool.and_eq_false_iff]
 constructor
 ·rintro ⟨i, hi, q | q⟩
  ·exact .inl ⟨i, hi, q⟩
  ·exact .inr ⟨i, hi, q⟩
 ·rintro (⟨i, hi, q⟩ | ⟨i, hi, q⟩)
  ·exact ⟨i, hi, .inl q⟩
  ·exact ⟨i, hi, .inr q⟩
theorem QT (c : aB) : ((List.range c.Snaps.length).any fun i => !KK c i) = (List.range c.Exps.length).any fun i => !ES c i := by
 have h1 : ((List.range c.Snaps.length).any fun i => !KK c i) = c.Snaps.any fun s => c.Exps.any fun x => x.Of == s.Seq := by
  refine Eq.trans ?_ (gK c.Snaps _)
  congr 1
  funext i
  unfold KK
  cases c.Snaps[i]? <;> simp
 have h2 : ((List.range c.Exps.length).any fun i => !ES c i) = c.Exps.any fun x => c.Snaps.any fun s => s.Seq == x.Of := by
  refine Eq.trans ?_ (gK c.Exps _)
  congr 1
  funext i
  unfold ES
  cases c.Exps[i]? <;> simp
 rw [h1, h2, Bool.eq_iff_iff]
 simp only [List.any_eq_true, beq_iff_eq]
 constructor
 ·rintro ⟨s, hs, x, hx, e⟩; exact ⟨x, hx, s, hs, e.symm⟩
 ·rintro ⟨x, hx, s, hs, e⟩; exact ⟨s, hs, x, hx, e.symm⟩
theorem XV {F : Nat} {c : aB} (hF : 1000 ≤ F) (h : Sm c) : MO F c = some (iO c) := by
 have hv := h.vo
 have hsn := h.sn
 have hch := h.ch
 have hex := h.ex
 have l0 : aY (fun s => oJ F c s) F 0 = some (if !c.Vols.all mR then .ret false else .brk (c.Vols.length : Int)) := by
  rw [eQ (s0 := (0 : Int)) (n := c.Vols.length) (F := F) (fun i : Nat => (i : Int)) (fun i => (c.Vols[i]?).any fun v => !mR v) (fun _ => false) (by omega) rfl, gF, gK, pK]
  ·exact fun i hi _ => MV hF h hi
  ·intro _; unfold oJ; simp
 have l3 : aY (fun s => oK F c s) F 0 = some (if !qS c then .ret false else .brk (c.Chunks.length : Int)) := by
  rw [eQ (s0 := (0 : Int)) (n := c.Chunks.length) (F := F) (fun i : Nat => (i : Int)) (fun i => !DL c i) (fun _ => false) (by omega) rfl, gF]
  ·unfold qS; rw [Bool.not_not]
  ·exact fun i hi _ => MU hF h hi
  ·intro _; unfold oK; simp
 have l5 : aY (fun s => oL F c s) F 0 = some (if (List.range c.Snaps.length).any fun i => !(zI c i && BH c i && KK c i) then .ret false else .brk (c.Snaps.length : Int)) := by
  rw [eQ (s0 := (0 : Int)) (n := c.Snaps.length) (F := F) (fun i : Nat => (i : Int)) (fun i => !(zI c i && BH c i && KK c i)) (fun _ => false) (by omega) rfl, gF]
  ·exact fun i hi _ => M3 hF h hi
  ·intro _; unfold oL; simp
 have l11 : aY (fun s => mD F c s) F 0 = some (if (List.range c.Exps.length).any fun i => !uN c i then .ret false else .brk (c.Exps.length : Int)) := by
  rw [eQ (s0 := (0 : Int)) (n := c.Exps.length) (F := F) (fun i : Nat => (i : Int)) (fun i => !uN c i) (fun _ => false) (by omega) rfl, gF]
  ·exact fun i hi _ => JI hF h hi
  ·intro _; unfold mD; simp
 have hs : xY c = !(List.range c.Snaps.length).any fun i => !(zI c i && BH c i) := rfl
 have he : u7 c = !(((List.range c.Exps.length).any fun i => !uN c i) || (List.range c.Exps.length).any fun i => !ES c i) := by unfold u7; rw [pL]
 unfold MO iO
 rw [pL (fun i => zI c i && BH c i) (KK c), QT] at l5
 simp only [QP, l0, l3, l5, l11, hs, he, Option.bind_some, cH, aW, dA]
 generalize ((List.range c.Snaps.length).any fun i => !(zI c i && BH c i)) = a1
 generalize ((List.range c.Exps.length).any fun i => !uN c i) = a2
 generalize ((List.range c.Exps.length).any fun i => !ES c i) = a3
 generalize c.Vols.all mR = a4
 generalize qS c = a5
 generalize gJ c.Seq 0 1073741824 = a6
 generalize gJ c.Vols.length 1 8 = a7
 have f1 : decide (8 < (c.Snaps.length : Int)) = !decide (c.Snaps.length ≤ 8) := by rw [← decide_not]; congr 1; simp; omega
 have f2 : decide (200 < (c.Chunks.length : Int)) = !decide (c.Chunks.length ≤ 200) := by rw [← decide_not]; congr 1; simp; omega
 have f3 : decide (200 < (c.Exps.length : Int)) = !decide (c.Exps.length ≤ 200) := by rw [← decide_not]; congr 1; simp; omega
 rw [f1, f2, f3]
 generalize decide (c.Snaps.length ≤ 8) = b1
 generalize decide (c.Chunks.length ≤ 200) = b2
 generalize decide (c.Exps.length ≤ 200) = b3
 cases a6 <;> cases b1 <;> cases b2 <;> cases b3 <;> cases a7 <;> cases a4 <;> cases a5 <;> cases a1 <;> cases a2 <;> cases a3 <;> rfl
open Go.Vm
def tP (m : Nat) (p0 : List bI) : Option ((List bI)) :=
 (app ([] : List bI) p0).bind fun z4 => some z4
theorem G1 {w : Nat} {p0 : List bI} {o : (List bI)} (h : aH) (m : tP w p0 = some o) :
 aP Tryz.prog 151 [.sl none 4 (List.map aQ p0)] h (fun r h' => r = .sl none 4 (List.map aQ o) ∧ h' = h) := by
 refine fW 7 [.tmp 2] Tryz.func151 rfl rfl rfl rfl ?_
 unfold tP at m
 refine v (v (v ?_))
 obtain ⟨z4, Z5, m⟩ := aC m
 refine ve fun u => lY (c := aQ) Z5 uU rfl rfl u nofun rfl fun tg6 t7 K8 => qk K8 rfl ?_
 refine v ?_
 injection m with m; subst m
 exact vr fun u => dY.of1 (.inl rfl) (fL _ _ (ow _ _ _) rfl) (aV (List.nil_sublist _) u).1 ((eG _ 0 t7 u rfl)) ⟨rfl, rfl⟩
theorem AU : aU Tryz.prog 151 = true := by kernel_rfl
def vA (m : Nat) (p0 : List Int) : Option ((List Int)) :=
 (app ([] : List Int) p0).bind fun z4 => some z4
theorem G2 {w : Nat} {p0 : List Int} {o : (List Int)} (h : aH) (m : vA w p0 = some o) :
 aP Tryz.prog 141 [.sl none 1 (List.map cZ p0)] h (fun r h' => r = .sl none 1 (List.map cZ o) ∧ h' = h) := by
 refine fW 7 [.tmp 2] Tryz.func141 rfl rfl rfl rfl ?_
 unfold vA at m
 refine v (v (v ?_))
 obtain ⟨z4, Z5, m⟩ := aC m
 refine ve fun u => lY (c := cZ) Z5 hU rfl rfl u nofun rfl fun tg6 t7 K8 => qk K8 rfl ?_
 refine v ?_
 injection m with m; subst m
 exact vr fun u => dY.of1 (.inl rfl) (fL _ _ (ow _ _ _) rfl) (aV (List.nil_sublist _) u).1 ((eG _ 0 t7 u rfl)) ⟨rfl, rfl⟩
theorem AX : aU Tryz.prog 141 = true := by kernel_rfl
def pM (m : Nat) (p0 : a9) (q0 : List dV) (q1 : Int) : Option (Lp ((List dV) × Int) (a9)) :=
 if (decide (q1 < (p0.Parts.length : Int))) = true then ((ix p0.Parts q1).bind fun x0 => (app ([] : List bP) x0.Ids).bind fun z0 => (app q0 ([({ Path := x0.Path, Size := x0.Size, Ids := z0 } : dV)] : List dV)).bind fun z1 => some (.go (z1, IntKind.wrap .i64 (q1 + 1)))) else some (.brk (q0, q1))
def CM (m : Nat) (p0 : a9) : Option (a9) :=
 after (aY (fun s => pM m p0 s.1 s.2) m ([], 0)) fun ⟨r0, r1⟩ => some ({ Name := p0.Name, Parts := r0 } : a9)
theorem QU {w : Nat} {p0 : a9} {o : a9} (h : aH) (m : CM w p0 = some o) :
 aP Tryz.prog 150 [.agg (bC p0)] h (fun r h' => r = .agg (bC o) ∧ h' = h) := by
 refine fW 31 [.cell 2 58] Tryz.func150 rfl rfl rfl rfl ?_
 unfold CM at m
 refine v ?_
 refine ve fun u => cQ u rfl rfl fun k2 K3 => qk K3 rfl ?_
 refine ve fun u => bE ([.sc (.string ByteArray.empty), sZ]) u GA rfl rfl fun k5 K6 => qk K6 rfl ?_
 refine v (v (oO (B4 (.tok 70 3 (([] : List dV).length * 3)) 3 (ow none 3 (List.map bV [])) (hM _ _)) ?_))
 refine lT m (σ := (List dV) × Int) (τ := Option bZ) (fun g s => [(g, .tok 70 3 ((s.1 : List dV).length * 3)), (some k5, .obj 58 ([.sc (.string ByteArray.empty), sZ])), (some k2, .obj 58 (bC p0))]) (fun g s => (g = none → s.1 = [])) (fun g s => .c 1 (.ptr k2 0) (.c 2 (.ptr k5 0) (.c 3 (ow g 3 (List.map bV s.1)) (.c 4 (nZ s.2) .nil)))) none (fun _ => rfl) (lx (.k4 .nil)) ?_ ?_
 rintro tg0 ⟨q0, q1⟩ x t0 m
 replace m : pM w p0 q0 q1 = some x := m
 unfold pM at m
 refine v (vl 2 _ lG rfl rfl rfl (dH rK rfl (v ?_)))
 refine vi m (fun c0 m => ?_) fun c0 m => ?_
 refine v (v (v (vl 2 _ lG rfl rfl rfl ?_)))
 refine vx m o9 rfl rfl fun x0 _ m => ?_
 refine va (.agg (bV x0)) AJ rfl rfl ?_
 refine ve fun u => bE ([.sc (.string ByteArray.empty), nZ 0, sZ]) u CC rfl rfl fun k103 K0 => qk K0 rfl ?_
 refine ve fun u => aL 0 (bV x0) u rfl rfl rfl rfl EJ rfl rfl fun K1 => qk K1 rfl ?_
 refine v (v (vl 0 _ rM rfl rfl rfl ?_))
 obtain ⟨z0, Z0, m⟩ := aC m
 refine ve fun u => lY (c := bF) Z0 xV rfl rfl u nofun rfl fun tg1 t1 K2 => qk K2 rfl ?_
 refine ve fun u => aL 1 ([.sc (.string x0.Path), nZ x0.Size, ow tg1 32 (List.map bF z0)]) u rfl rfl (hO rfl) (mY _ _ _) ME rfl rfl fun K4 => qk K4 rfl ?_
 refine v (vl 1 (.agg ([.sc (.string x0.Path), nZ x0.Size, ow tg1 32 (List.map bF z0)])) AJ rfl rfl rfl ?_)
 refine ve fun u => xM (t := 25) (.agg (bV ({ Path := x0.Path, Size := x0.Size, Ids := z0 } : dV))) (aV (.cons _ (.refl _)) u).1 (aX.agg (.k2 (.cons (kF _ 0 t1 u rfl (.refl _)) .nil))) (XM (eH (List.map bV ([({ Path := x0.Path, Size := x0.Size, Ids := z0 } : dV)] : List dV)) EI rfl rfl rfl rfl) (qk ((aV (.cons _ (.refl _)) u).2) rfl ?_))
 obtain ⟨z1, Z1, m⟩ := aC m
 refine ve fun u => eS (c := bV) 1 Z1 EI rfl rfl rfl t0 u rfl fun tg2 t2 K5 => qk K5 rfl ?_
 refine v ?_
 exact fH m tg2 t2 (kR [1, 2, 3] rfl rfl (.k4 .nil))
 refine v ?_
 exact lD m tg0 t0 (lx (.k4 .nil))
 rintro tg3 ⟨r0, r1⟩ t3 m
 refine v ?_
 refine ve fun u => aL 2 ([.sc (.string p0.Name), ow tg3 3 (List.map bV r0)]) u rfl rfl (hO rfl) (mY _ _ _) LZ rfl rfl fun K7 => qk K7 rfl ?_
 refine v (vl 2 (.agg ([.sc (.string p0.Name), ow tg3 3 (List.map bV r0)])) lH rfl rfl rfl ?_)
 refine ve fun u => aL 1 ([.sc (.string p0.Name), ow tg3 3 (List.map bV r0)]) u rfl rfl rfl (by repeat (first | exact rfl | refine cK (gG _ _ _) ?_ | refine cK (bX _ _ _) ?_ | refine cK rfl ?_)) uW rfl rfl fun K8 => qk K8 rfl ?_
 refine v ?_
 cases m
 exact vr fun u => dY.of1 (.inl rfl) (n3 (.agg ([.sc (.string p0.Name), ow tg3 3 (List.map bV r0)])) lH rfl (bB 1 u rfl) rfl) (aV (List.nil_sublist _) u).1 (aX.agg (.cons (aX.refl _ _) (.cons ((eG _ 0 t3 u rfl)) .nil))) ⟨rfl, rfl⟩
theorem KM : aU Tryz.prog 150 = true := by kernel_rfl
def pN (m : Nat) (p0 : List aA) (q0 : List aA) (q1 : Int) : Option (Lp ((List aA) × Int) ((List aA))) :=
 if (decide (q1 < (p0.length : Int))) = true then ((ix p0 q1).bind fun x0 => (vA m x0.Data).bind fun y0 => (tP m x0.Locs).bind fun y1 => (app q0 ([{ { x0 with Data := y0 } with Locs := y1 }] : List aA)).bind fun z0 => some (.go (z0, IntKind.wrap .i64 (q1 + 1)))) else some (.brk (q0, q1))
def CN (m : Nat) (p0 : List aA) : Option ((List aA)) :=
 after (aY (fun s => pN m p0 s.1 s.2) m ([], 0)) fun ⟨r0, r1⟩ => some r0
theorem U4 {w : Nat} {p0 : List aA} {o : (List aA)} (h : aH) (m : CN w p0 = some o) :
 aP Tryz.prog 152 [.sl none 35 (List.map aD p0)] h (fun r h' => r = .sl none 35 (List.map aD o) ∧ h' = h) := by
 refine fW 29 [.tmp 2] Tryz.func152 rfl rfl rfl rfl ?_
 unfold CN at m
 refine v (v (v (oO (B4 (.tok 44 35 (([] : List aA).length * 35)) 3 (ow none 35 (List.map aD [])) (hM _ _)) ?_)))
 refine lT m (σ := (List aA) × Int) (τ := Option bZ) (fun g s => [(g, .tok 44 35 ((s.1 : List aA).length * 35))]) (fun g s => (g = none → s.1 = [])) (fun g s => .c 0 (.sl none 35 (List.map aD p0)) (.c 3 (ow g 35 (List.map aD s.1)) (.c 4 (nZ s.2) .nil))) none (fun _ => rfl) (lx (.k3 .nil)) ?_ ?_
 rintro tg0 ⟨q0, q1⟩ x t0 m
 replace m : pN w p0 q0 q1 = some x := m
 unfold pN at m
 refine v (dH hS rfl (v ?_))
 refine vi m (fun c0 m => ?_) fun c0 m => ?_
 refine v (v (v ?_))
 refine vx m eW rfl rfl fun x0 _ m => ?_
 refine va (.agg (aD x0)) lF rfl rfl ?_
 refine ve fun u => bE (bF iY ++ ([.sc (.bool false), sZ, sZ] : List AV)) u l6 rfl rfl fun k109 K0 => qk K0 rfl ?_
 refine ve fun u => aL 0 (aD x0) u rfl rfl rfl rfl uV rfl rfl fun K1 => qk K1 rfl ?_
 refine v ?_
 refine vz [(7, some k109, .obj 44 (aD x0))] mixed (fun u => ⟨fun _ => aO 0 u rfl, trivial⟩) fun u => ?_
 refine aM 0 rfl (fun _ _ _ _ => aJ iU rfl rfl) ?_
 refine aM 1 rfl (fun _ _ hi hB => bH (.sl none 1 (List.map cZ x0.Data)) jR rfl (At.s (bR.get 0 hi rfl (hB 7 (by kernel_rfl)))) rfl) ?_
 obtain ⟨y0, Y0, m⟩ := aC m
 refine aM 2 rfl (fun _ _ _ _ => cE (G2 _ Y0) rfl AX rfl) ?_
 refine aM 3 rfl (fun _ _ _ _ => aJ iL rfl rfl) ?_
 refine aM 4 rfl (fun _ _ hi hB => bH (.sl none 4 (List.map aQ x0.Locs)) fE rfl (At.s (bR.get 0 hi rfl (hB 7 (by kernel_rfl)))) rfl) ?_
 obtain ⟨y1, Y1, m⟩ := aC m
 refine aM 5 rfl (fun _ _ _ _ => cE (G1 _ Y1) rfl AU rfl) ?_
 refine aM 6 rfl (fun _ _ _ _ => aJ iU rfl rfl) ?_
 refine eX 7 rfl (by kernel_rfl) (aL 0 (aD { x0 with Data := y0 }) u rfl rfl rfl rfl CB rfl rfl fun K2 => ⟨⟨fun e => absurd e (by decide), trivial⟩, ?_⟩)
 refine aM 8 rfl (fun _ _ _ _ => aJ iL rfl rfl) ?_
 refine eX 9 rfl (by kernel_rfl) (aL 0 (aD { { x0 with Data := y0 } with Locs := y1 }) K2 rfl rfl rfl rfl m8 rfl rfl fun K3 => ⟨⟨fun e => absurd e (by decide), trivial⟩, ?_⟩)
 refine dL (by kernel_rfl) (qk (f := .c 23 _ (.c 22 _ (.c 21 _ (.c 20 _ (.c 19 _ (.c 18 _ (.c 17 _ (.c 16 _ _)))))))) K3 rfl ?_)
 refine v (vl 0 (.agg (aD { { x0 with Data := y0 } with Locs := y1 })) lF rfl rfl rfl (vn (fun _ => eH (List.map aD ([{ { x0 with Data := y0 } with Locs := y1 }] : List aA)) jP rfl rfl rfl rfl) ?_))
 obtain ⟨z0, Z0, m⟩ := aC m
 refine ve fun u => eS (c := aD) 1 Z0 jP rfl rfl rfl t0 u rfl fun tg1 t1 K4 => qk K4 rfl ?_
 refine v ?_
 exact fH m tg1 t1 (kR [1] rfl rfl (.k3 .nil))
 refine v ?_
 exact lD m tg0 t0 (lx (.k3 .nil))
 rintro tg2 ⟨r0, r1⟩ t2 m
 refine v (v ?_)
 injection m with m; subst m
 exact vr fun u => dY.of1 (.inl rfl) (fL _ _ (ow _ _ _) rfl) (aV (List.nil_sublist _) u).1 ((eG _ 0 t2 u rfl)) ⟨rfl, rfl⟩
theorem G3 : aU Tryz.prog 152 = true := by kernel_rfl
def CO (m : Nat) (p0 : aB) (q0 : List aE) (q1 : Int) : Option (Lp ((List aE) × Int) (aB)) :=
 if (decide (q1 < (p0.Snaps.length : Int))) = true then ((ix p0.Snaps q1).bind fun x0 => (CM m x0.Man).bind fun y0 => (tP m x0.Locs).bind fun y1 => (app q0 ([{ { x0 with Man := y0 } with Locs := y1 }] : List aE)).bind fun z0 => some (.go (z0, IntKind.wrap .i64 (q1 + 1)))) else some (.brk (q0, q1))
def CP (m : Nat) (p0 : aB) (q0 : List aI) (q1 : Int) : Option (Lp ((List aI) × Int) (aB)) :=
 if (decide (q1 < (p0.Exps.length : Int))) = true then ((ix p0.Exps q1).bind fun x0 => (tP m x0.Locs).bind fun y0 => (app q0 ([{ x0 with Locs := y0 }] : List aI)).bind fun z0 => some (.go (z0, IntKind.wrap .i64 (q1 + 1)))) else some (.brk (q0, q1))
def XW (m : Nat) (p0 : aB) : Option (aB) :=
 after (aY (fun s => CO m p0 s.1 s.2) m ([], 0)) fun ⟨r0, r1⟩ => after (aY (fun s => CP m p0 s.1 s.2) m ([], 0)) fun ⟨r2, r3⟩ => (CN m p0.Chunks).bind fun y0 => (app ([] : List aK) p0.Vols).bind fun z0 => some ({ Seq := p0.Seq, Snaps := r0, Chunks := y0, Exps := r2, Vols := z0 } : aB)
theorem U5 : aU Tryz.prog 90 = true := by kernel_rfl
open Go.Vm
theorem nD {α ρ : Type} {l : List α} {F : Nat} {body : Int → Option (Lp Int ρ)} (q : α → Bool) (r : ρ) (hF : l.length < F) (hb : ∀ (i : Nat) (x : α), l[i]? = some x → x ∈ l → i < l.length → body (i : Int) = some (if q x then .ret r else .go ((i + 1 : Nat) : Int)))
    (he : body (l.length : Int) = some (.brk (l.length : Int))) : aY body F 0 = some (if l.any q then .ret r else .brk (l.length : Int)) := by
  rw [eQ (s0 := (0 : Int)) (n := l.length) (F := F) (fun i : Nat => (i : Int)) (fun i => (l[i]?).any q) (fun _ => r) hF rfl (fun i hi _ => by
    rw [hb i l[i] (List.getElem?_eq_getElem hi) (List.getElem_mem hi) hi, List.getElem?_eq_getElem hi]; rfl) (fun _ => he), gF, gK]
theorem S6 {F : Nat} {l : List bI} (hl : l.length ≤ 1000) : tP F l = some l := by unfold tP; rw [dR (by simp; omega)]; simp
theorem JK {F : Nat} {l : List Int} (hl : l.length ≤ 1000) : vA F l = some l := by unfold vA; rw [dR (by simp; omega)]; simp
theorem nO {S ρ : Type} {body : S → Option (Lp S ρ)} {n F : Nat} {s0 : S} (emb : Nat → S) (hF : n < F) (h0 : s0 = emb 0) (hb : ∀ i, i < n → body (emb i) = some (.go (emb (i + 1)))) (he : body (emb n) = some (.brk (emb n))) :
    aY body F s0 = some (.brk (emb n)) := by
  obtain ⟨s', h1, h2⟩ := nC (body := body) (I := fun i s => s = emb i) (n := n) (fun i s hi hs => ⟨_, by rw [hs]; exact hb i hi, rfl⟩) (fun s hs => by rw [hs]; exact he) F 0 s0 (Nat.zero_le _) (by omega) h0
  rw [h2, h1]
theorem nP {α ρ : Type} {l : List α} {F : Nat} {body : List α × Int → Option (Lp (List α × Int) ρ)} (hF : l.length < F)
    (hb : ∀ (i : Nat) (x : α), l[i]? = some x → x ∈ l → i < l.length → body (l.take i, (i : Int)) = some (.go (l.take i ++ [x], ((i + 1 : Nat) : Int)))) (he : body (l, (l.length : Int)) = some (.brk (l, (l.length : Int)))) :
    aY body F ([], 0) = some (.brk (l, (l.length : Int))) := by
  have := nO (body := body) (s0 := (([] : List α), (0 : Int))) (n := l.length) (F := F) (fun i : Nat => (l.take i, (i : Int))) hF rfl (fun i hi => by
    rw [hb i l[i] (List.getElem?_eq_getElem hi) (List.getElem_mem hi) hi]
    simp) (by simpa using he)
  simpa using this
theorem XX {F : Nat} {m : a9} (hF : 1000 ≤ F) (hp : m.Parts.length ≤ 10) (hi : ∀ p ∈ m.Parts, p.Ids.length ≤ 40) : CM F m = some m := by
 unfold CM
 rw [nP (l := m.Parts) (by omega) (fun i x hx hm hi' => by
  have := hi x hm
  unfold pM
  rw [iW (by omega)]
  simp only [bT, hx, Option.bind_some, Int.ofNat_lt, hi', decide_true, if_true]
  rw [dR (by simp; omega)]
  simp only [Option.bind_some, List.nil_append]
  rw [dR (by simp; omega)]
  rfl) (by unfold pM; simp)]
 rfl
theorem U6 {F : Nat} {l : List aA} (hF : 1000 ≤ F) (hl : l.length ≤ 400) (hx : ∀ x ∈ l, x.Locs.length ≤ 300 ∧ x.Data.length ≤ 300) : CN F l = some l := by
 unfold CN
 rw [nP (l := l) (by omega) (fun i x hx' hm hi' => by
  have := hx x hm
  unfold pN
  rw [iW (by omega)]
  simp only [bT, hx', Option.bind_some, Int.ofNat_lt, hi', decide_true, if_true, JK (F := F) (show x.Data.length ≤ 1000 by omega), S6 (F := F) (show x.Locs.length ≤ 1000 by omega)]
  rw [dR (by simp; omega)]
  rfl) (by unfold pN; simp)]
 rfl
theorem ZM {F : Nat} {c : aB} (hF : 1000 ≤ F) (h : Sm c) : XW F c = some c := by
 have hsn := h.sn
 have hex := h.ex
 have hvo := h.vo
 unfold XW
 rw [nP (l := c.Snaps) (by omega) (fun i x hx hm hi' => by
  have h1 := h.sl x hm
  obtain ⟨-, h2, h3⟩ := h.man x hm
  unfold CO
  rw [iW (by omega)]
  simp only [bT, hx, Option.bind_some, Int.ofNat_lt, hi', decide_true, if_true, XX hF h2 (fun p hp => (h3 p hp).2), S6 (F := F) (show x.Locs.length ≤ 1000 by omega)]
  rw [dR (by simp; omega)]
  rfl) (by unfold CO; simp)]
 rw [nP (l := c.Exps) (by omega) (fun i x hx hm hi' => by
  have h1 := h.el x hm
  unfold CP
  rw [iW (by omega)]
  simp only [bT, hx, Option.bind_some, Int.ofNat_lt, hi', decide_true, if_true, S6 (F := F) (show x.Locs.length ≤ 1000 by omega)]
  rw [dR (by simp; omega)]
  rfl) (by unfold CP; simp)]
 simp only [aW, U6 hF h.ch h.cl, Option.bind_some]
 rw [dR (by simp; omega)]
 rfl
open Go.Vm
def CQ (m : Nat) (p0 : List Int) (q0 : List aK) (q1 : Int) : Option (Lp ((List aK) × Int) (aB × Int)) :=
 if (decide (q1 < (p0.length : Int))) = true then ((ix p0 q1).bind fun x0 => (tF m x0 0 1).bind fun y0 => if (!y0) = true then (some (.ret (({ Seq := 0, Snaps := [], Chunks := [], Exps := [], Vols := [] } : aB), 1))) else (app q0 ([({ Pool := x0, Epoch := 0, State := 1, Files := 0 } : aK)] : List aK)).bind fun z0 => some (.go (z0, IntKind.wrap .i64 (q1 + 1)))) else some (.brk (q0, q1))
def U7 (m : Nat) (p0 : List Int) : Option (aB × Int) :=
 (tF m (p0.length : Int) 1 8).bind fun y7 => if (!y7) = true then (some (({ Seq := 0, Snaps := [], Chunks := [], Exps := [], Vols := [] } : aB), 2)) else after (aY (fun s => CQ m p0 s.1 s.2) m ([], 0)) fun ⟨r0, r1⟩ => some (({ Seq := 0, Snaps := [], Chunks := [], Exps := [], Vols := r0 } : aB), 0)
theorem ZN {w : Nat} {p0 : List Int} {o : aB × Int} (h : aH) (m : U7 w p0 = some o) :
 aP Tryz.prog 32 [.sl none 1 (List.map gQ p0)] h (fun r h' => r = .tup [.agg (aF o.1), nZ o.2] ∧ h' = h) := by
 refine fW 31 [.cell 2 30, .tmp 3] Tryz.func32 rfl rfl rfl rfl ?_
 unfold U7 at m
 refine v ?_
 refine ve fun u => bE ([nZ 0, sZ, sZ, sZ, sZ]) u mO rfl rfl fun k2 K3 => qk K3 rfl ?_
 refine v (dH ED rfl ?_)
 refine vk xW mB m rfl rfl fun _ m => ?_
 refine v ?_
 refine vi m (fun c9 m => ?_) fun c9 m => ?_
 refine v (vn (fun _ => eV ([nZ 0, sZ, sZ, sZ, sZ]) xP rfl) ?_)
 refine ve fun u => aL 0 ([nZ 0, sZ, sZ, sZ, sZ]) u rfl rfl rfl rfl jF rfl rfl fun K0 => qk K0 rfl ?_
 refine v ?_
 cases m
 exact vr fun u => dY.of2 (.inl rfl) (n3 (.agg ([nZ 0, sZ, sZ, sZ, sZ])) eK rfl (bB 0 u rfl) rfl) (fL _ _ (.sc (.int _ _)) rfl) (aV (List.nil_sublist _) u).1 (aX.agg (.cons (aX.refl _ _) (.cons (aS _) (.cons (aS _) (.cons (aS _) (.cons (aS _) .nil)))))) (aX.refl _ _) ⟨rfl, rfl⟩
 refine v (v ?_)
 refine ve fun u => bE ([nZ 0, sZ, sZ, sZ, sZ]) u mO rfl rfl fun k13 K1 => qk K1 rfl ?_
 refine v (dH ED rfl (oO (PJ (.tok 49 4 (([] : List aK).length * 4)) 1 ([nZ 0, sZ, sZ, sZ, ow none 4 (List.map aT [])]) rfl (.k4 (.cons (hM (c := aT) _ 4) .nil))) ?_))
 refine lT m (σ := (List aK) × Int) (τ := Option bZ) (fun g s => [(g, .tok 49 4 ((s.1 : List aK).length * 4)), (some k13, .obj 30 ([nZ 0, sZ, sZ, sZ, ow g 4 (List.map aT s.1)])), (some k2, .obj 30 ([nZ 0, sZ, sZ, sZ, sZ]))]) (fun g s => (g = none → s.1 = [])) (fun g s => .c 2 (.ptr k2 0) (.c 4 (.ptr k13 0) (.c 12 (.sl none 1 (List.map gQ p0)) (.c 13 (nZ (p0.length : Int)) (.c 14 (nZ s.2) .nil))))) none (fun _ => rfl) (lx (.k5 .nil)) ?_ ?_
 rintro tg0 ⟨q0, q1⟩ x t0 m
 replace m : CQ w p0 q0 q1 = some x := m
 unfold CQ at m
 refine v (v ?_)
 refine vi m (fun c0 m => ?_) fun c0 m => ?_
 refine v (v (v ?_))
 refine vx m LT rfl rfl fun x0 _ m => ?_
 refine v ?_
 refine vk xW mB m rfl rfl fun _ m => ?_
 refine v ?_
 refine vi m (fun c1 m => ?_) fun c1 m => ?_
 refine v (vn (fun _ => eV ([nZ 0, sZ, sZ, sZ, sZ]) xP rfl) ?_)
 refine ve fun u => aL 2 ([nZ 0, sZ, sZ, sZ, sZ]) u rfl rfl rfl rfl jF rfl rfl fun K2 => qk K2 rfl ?_
 refine v ?_
 refine gA m fun m => ?_
 cases m
 exact vr fun u => dY.of2 (.inl rfl) (n3 (.agg ([nZ 0, sZ, sZ, sZ, sZ])) eK rfl (bB 2 u rfl) rfl) (fL _ _ (.sc (.int _ _)) rfl) (aV (List.nil_sublist _) u).1 (aX.agg (.cons (aX.refl _ _) (.cons (aS _) (.cons (aS _) (.cons (aS _) (.cons (aS _) .nil)))))) (aX.refl _ _) ⟨rfl, rfl⟩
 refine v (v (vl 1 (ow tg0 4 (List.map aT q0)) fZ rfl rfl rfl (vn (fun _ => eV (aT ({ Pool := x0, Epoch := 0, State := 1, Files := 0 } : aK)) PQ rfl) (vn (fun _ => eH (List.map aT ([({ Pool := x0, Epoch := 0, State := 1, Files := 0 } : aK)] : List aK)) CA rfl rfl rfl rfl) ?_))))
 obtain ⟨z0, Z0, m⟩ := aC m
 refine ve fun u => eS (c := aT) 0 Z0 CA rfl rfl rfl t0 u rfl fun tg1 t1 K4 => qk K4 rfl ?_
 refine ve fun u => aL 1 ([nZ 0, sZ, sZ, sZ, ow tg1 4 (List.map aT z0)]) u rfl rfl (hO rfl) (mY _ _ _) I4 rfl rfl fun K5 => qk K5 rfl ?_
 refine v ?_
 exact fH m tg1 t1 (lx (.k5 .nil))
 refine v ?_
 exact lD m tg0 t0 (lx (.k5 .nil))
 rintro tg2 ⟨r0, r1⟩ t2 m
 refine v (vl 1 (.agg ([nZ 0, sZ, sZ, sZ, ow tg2 4 (List.map aT r0)])) eK rfl rfl rfl ?_)
 refine ve fun u => aL 2 ([nZ 0, sZ, sZ, sZ, ow tg2 4 (List.map aT r0)]) u rfl rfl rfl (by repeat (first | exact rfl | refine cK (gG _ _ _) ?_ | refine cK (bX _ _ _) ?_ | refine cK rfl ?_)) jF rfl rfl fun K6 => qk K6 rfl ?_
 refine v ?_
 cases m
 exact vr fun u => dY.of2 (.inl rfl) (n3 (.agg ([nZ 0, sZ, sZ, sZ, ow tg2 4 (List.map aT r0)])) eK rfl (bB 2 u rfl) rfl) (fL _ _ (.sc (.int _ _)) rfl) (aV (List.nil_sublist _) u).1 (aX.agg (.cons (aX.refl _ _) (.cons (aS _) (.cons (aS _) (.cons (aS _) (.cons ((eG _ 0 t2 u rfl)) .nil)))))) (aX.refl _ _) ⟨rfl, rfl⟩
theorem U8 : aU Tryz.prog 32 = true := by kernel_rfl
def tQ (m : Nat) (p0 : List Int) (q0 : List aK) (q1 : Int) : Option (Lp ((List aK) × Int) (aB)) :=
 if (decide (q1 < (p0.length : Int))) = true then ((ix p0 q1).bind fun x0 => (app q0 ([({ Pool := x0, Epoch := 0, State := 1, Files := 0 } : aK)] : List aK)).bind fun z0 => some (.go (z0, IntKind.wrap .i64 (q1 + 1)))) else some (.brk (q0, q1))
def QV (m : Nat) (p0 : List Int) : Option (aB) :=
 after (aY (fun s => tQ m p0 s.1 s.2) m ([], 0)) fun ⟨r0, r1⟩ => some ({ Seq := 0, Snaps := [], Chunks := [], Exps := [], Vols := r0 } : aB)
theorem ZO {w : Nat} {p0 : List Int} {o : aB} (h : aH) (m : QV w p0 = some o) :
 aP Tryz.prog 33 [.sl none 1 (List.map gQ p0)] h (fun r h' => r = .agg (aF o) ∧ h' = h) := by
 refine fW 22 [.cell 2 30] Tryz.func33 rfl rfl rfl rfl ?_
 unfold QV at m
 refine v ?_
 refine ve fun u => bE ([nZ 0, sZ, sZ, sZ, sZ]) u mO rfl rfl fun k2 K3 => qk K3 rfl ?_
 refine v ?_
 refine ve fun u => bE ([nZ 0, sZ, sZ, sZ, sZ]) u mO rfl rfl fun k6 K7 => qk K7 rfl ?_
 refine v (oO (PJ (.tok 49 4 (([] : List aK).length * 4)) 1 ([nZ 0, sZ, sZ, sZ, ow none 4 (List.map aT [])]) rfl (.k4 (.cons (hM (c := aT) _ 4) .nil))) ?_)
 refine lT m (σ := (List aK) × Int) (τ := Option bZ) (fun g s => [(g, .tok 49 4 ((s.1 : List aK).length * 4)), (some k6, .obj 30 ([nZ 0, sZ, sZ, sZ, ow g 4 (List.map aT s.1)])), (some k2, .obj 30 ([nZ 0, sZ, sZ, sZ, sZ]))]) (fun g s => (g = none → s.1 = [])) (fun g s => .c 0 (.sl none 1 (List.map gQ p0)) (.c 2 (.ptr k2 0) (.c 3 (.ptr k6 0) (.c 4 (nZ s.2) .nil)))) none (fun _ => rfl) (lx (.k4 .nil)) ?_ ?_
 rintro tg0 ⟨q0, q1⟩ x t0 m
 replace m : tQ w p0 q0 q1 = some x := m
 unfold tQ at m
 refine v (dH ED rfl (v ?_))
 refine vi m (fun c0 m => ?_) fun c0 m => ?_
 refine v (v (v ?_))
 refine vz [(10, some k6, .obj 30 ([nZ 0, sZ, sZ, sZ, ow tg0 4 (List.map aT q0)]))] mixed (fun u => ⟨fun _ => aO 1 u rfl, trivial⟩) fun u => ?_
 refine aM 0 rfl (fun _ _ _ _ => aJ fI rfl rfl) ?_
 refine aM 1 rfl (fun _ _ hi hB => bH (ow tg0 4 (List.map aT q0)) fZ rfl (At.s (bR.get 0 hi rfl (hB 10 (by kernel_rfl)))) rfl) ?_
 refine aM 2 rfl (fun _ _ _ _ => bN (.sl _ _ _) rfl) ?_
 refine aM 3 rfl (fun _ _ _ _ => bN (.sc (.int _ _)) rfl) ?_
 obtain ⟨x0, X0, m⟩ := aC m
 refine aM 4 rfl (fun _ _ _ _ => mL X0 LT rfl rfl) ?_
 refine aM 5 rfl (fun _ _ _ _ => mW (nZ x0) cG rfl rfl) ?_
 refine aM 6 rfl (fun _ _ _ _ => eV (aT ({ Pool := x0, Epoch := 0, State := 1, Files := 0 } : aK)) PQ rfl) ?_
 refine aM 7 rfl (fun _ _ _ _ => eH (List.map aT ([({ Pool := x0, Epoch := 0, State := 1, Files := 0 } : aK)] : List aK)) CA rfl rfl rfl rfl) ?_
 obtain ⟨z0, Z0, m⟩ := aC m
 refine eX 8 rfl (by kernel_rfl) (eS (c := aT) 0 Z0 CA rfl rfl rfl t0 u rfl fun tg1 t1 K0 => ⟨⟨fun _ => aO 1 K0 rfl, trivial⟩, ?_⟩)
 refine aM 9 rfl (fun _ _ _ _ => aJ fI rfl rfl) ?_
 refine eX 10 rfl (by kernel_rfl) (aL 1 ([nZ 0, sZ, sZ, sZ, ow tg1 4 (List.map aT z0)]) K0 rfl rfl (hO rfl) (mY _ _ _) I4 rfl rfl fun K1 => ⟨⟨fun e => absurd e (by decide), trivial⟩, ?_⟩)
 refine dL (by kernel_rfl) (qk (f := .c 20 _ (.c 19 _ (.c 18 _ (.c 17 _ (.c 16 _ (.c 15 _ (.c 14 _ (.c 13 _ (.c 12 _ (.c 11 _ _)))))))))) K1 rfl ?_)
 refine v ?_
 exact fH m tg1 t1 (lx (.k4 .nil))
 refine v ?_
 exact lD m tg0 t0 (lx (.k4 .nil))
 rintro tg2 ⟨r0, r1⟩ t2 m
 refine v (vl 1 (.agg ([nZ 0, sZ, sZ, sZ, ow tg2 4 (List.map aT r0)])) eK rfl rfl rfl ?_)
 refine ve fun u => aL 2 ([nZ 0, sZ, sZ, sZ, ow tg2 4 (List.map aT r0)]) u rfl rfl rfl (by repeat (first | exact rfl | refine cK (gG _ _ _) ?_ | refine cK (bX _ _ _) ?_ | refine cK rfl ?_)) jF rfl rfl fun K2 => qk K2 rfl ?_
 refine v ?_
 cases m
 exact vr fun u => dY.of1 (.inl rfl) (n3 (.agg ([nZ 0, sZ, sZ, sZ, ow tg2 4 (List.map aT r0)])) eK rfl (bB 2 u rfl) rfl) (aV (List.nil_sublist _) u).1 (aX.agg (.cons (aX.refl _ _) (.cons (aS _) (.cons (aS _) (.cons (aS _) (.cons ((eG _ 0 t2 u rfl)) .nil)))))) ⟨rfl, rfl⟩
theorem U9 : aU Tryz.prog 33 = true := by kernel_rfl
open Go.Vm
def tT (m : Nat) (p0 : aB) (p1 : bP) (q0 : Int) (q1 : Int) (q2 : Int) : Option (Lp (Int) (Lp (Int) (Lp (Int) (Bool)))) :=
 (ix p0.Snaps q0).bind fun x0 => (ix x0.Man.Parts q1).bind fun x1 => if (decide (q2 < (x1.Ids.length : Int))) = true then ((ix p0.Snaps q0).bind fun x2 => (ix x2.Man.Parts q1).bind fun x3 => (ix x3.Ids q2).bind fun x4 => if (decide (x4 = p1)) = true then (some (.ret (.ret (.ret true)))) else some (.go (IntKind.wrap .i64 (q2 + 1)))) else some (.brk q2)
def tU (m : Nat) (p0 : aB) (p1 : bP) (q0 : Int) (q1 : Int) : Option (Lp (Int) (Lp (Int) (Bool))) :=
 (ix p0.Snaps q0).bind fun x0 => if (decide (q1 < (x0.Man.Parts.length : Int))) = true then (after (aY (fun s => tT m p0 p1 q0 q1 s) m 0) fun r0 => some (.go (IntKind.wrap .i64 (q1 + 1)))) else some (.brk q1)
def tV (m : Nat) (p0 : aB) (p1 : bP) (q0 : Int) : Option (Lp (Int) (Bool)) :=
 if (decide (q0 < (p0.Snaps.length : Int))) = true then (after (aY (fun s => tU m p0 p1 q0 s) m 0) fun r0 => some (.go (IntKind.wrap .i64 (q0 + 1)))) else some (.brk q0)
def OH (m : Nat) (p0 : aB) (p1 : bP) : Option (Bool) :=
 after (aY (fun s => tV m p0 p1 s) m 0) fun r0 => some false
theorem XY {w : Nat} {p0 : aB} {p1 : bP} {o : Bool} (h : aH) (m : OH w p0 p1 = some o) :
 aP Tryz.prog 38 [.agg (aF p0), .agg (bF p1)] h (fun r h' => r = .sc (.bool o) ∧ h' = h) := by
 refine fW 59 [.tmp 4] Tryz.func38 rfl rfl rfl rfl ?_
 unfold OH at m
 refine v ?_
 refine ve fun u => cQ u rfl rfl fun k2 K3 => qk K3 rfl ?_
 refine ve fun u => cQ u rfl rfl fun k5 K6 => qk K6 rfl ?_
 refine v ?_
 refine eO m (σ := Int) (τ := Unit) (fun g s => [(some k5, .obj 36 (bF p1)), (some k2, .obj 30 (aF p0))]) (fun g s => .c 2 (.ptr k2 0) (.c 3 (.ptr k5 0) (.c 5 (nZ s) .nil))) () (lx (.k3 .nil)) ?_ ?_
 rintro _ q0 x m
 replace m : tV w p0 p1 q0 = some x := m
 unfold tV at m
 refine v (vl 1 _ fK rfl rfl rfl (dH kH rfl (v ?_)))
 refine vi m (fun c0 m => ?_) fun c0 m => ?_
 refine v (v (v ?_))
 refine eO m (σ := Int) (τ := Unit) (fun g s => [(some k5, .obj 36 (bF p1)), (some k2, .obj 30 (aF p0))]) (fun g s => .c 2 (.ptr k2 0) (.c 3 (.ptr k5 0) (.c 5 (nZ q0) (.c 6 (nZ s) .nil)))) () (lx (.k4 .nil)) ?_ ?_
 rintro _ q1 x m
 replace m : tU w p0 p1 q0 q1 = some x := m
 unfold tU at m
 refine v (vl 1 _ fK rfl rfl rfl ?_)
 refine vx m kJ rfl rfl fun _ _ m => ?_
 refine dH rK rfl (v ?_)
 refine vi m (fun c1 m => ?_) fun c1 m => ?_
 refine v (v (v ?_))
 refine eO m (σ := Int) (τ := Unit) (fun g s => [(some k5, .obj 36 (bF p1)), (some k2, .obj 30 (aF p0))]) (fun g s => .c 2 (.ptr k2 0) (.c 3 (.ptr k5 0) (.c 5 (nZ q0) (.c 6 (nZ q1) (.c 7 (nZ s) .nil))))) () (lx (.k5 .nil)) ?_ ?_
 rintro _ q2 x m
 replace m : tT w p0 p1 q0 q1 q2 = some x := m
 unfold tT at m
 refine v (vl 1 _ fK rfl rfl rfl ?_)
 refine vx m kJ rfl rfl fun _ _ m => ?_
 refine vx m o9 rfl rfl fun _ _ m => ?_
 refine dH pA rfl (v ?_)
 refine vi m (fun c2 m => ?_) fun c2 m => ?_
 refine v (v (v (vq (by kernel_rfl) (vl 1 _ fK rfl rfl rfl ?_))))
 refine vx m kJ rfl rfl fun _ _ m => ?_
 refine vx m o9 rfl rfl fun _ _ m => ?_
 refine vx m uY rfl rfl fun x0 _ m => ?_
 refine va (.agg (bF x0)) fV rfl rfl (vl 0 (.agg (bF p1)) fV rfl rfl rfl (vn (fun _ => vU EG OB u5 B9 rfl rfl) (v ?_)))
 refine vi m (fun c3 m => ?_) fun c3 m => ?_
 refine v (v ?_)
 refine gA m fun m => ?_
 refine gA m fun m => ?_
 refine gA m fun m => ?_
 injection m with m; subst m
 exact eM rfl
 refine v (v ?_)
 exact bD m (lx (.k5 .nil))
 refine v ?_
 exact iS m (lx (.k5 .nil))
 rintro _ r0 m
 refine v ?_
 exact bD m (lx (.k4 .nil))
 refine v ?_
 exact iS m (lx (.k4 .nil))
 rintro _ r1 m
 refine v ?_
 exact bD m (lx (.k3 .nil))
 refine v ?_
 exact iS m (lx (.k3 .nil))
 rintro _ r2 m
 refine v (v ?_)
 injection m with m; subst m
 exact eM rfl
theorem QW : aU Tryz.prog 38 = true := by kernel_rfl
end Go.Proofs.YtbbifdfldpfphaaGreat
