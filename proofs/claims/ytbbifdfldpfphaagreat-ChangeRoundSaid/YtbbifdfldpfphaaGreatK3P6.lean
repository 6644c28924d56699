import Derived.Test.YtbbifdfldpfphaaGreatK3P4
import Derived.Test.YtbbifdfldpfphaaGreatK3P5
import Derived.Test.YtbbifdfldpfphaaGreatK3P3
set_option linter.unusedSimpArgs false
set_option linter.unusedVariables false
set_option maxHeartbeats 4000000
set_option maxRecDepth 100000
namespace Go.Proofs.YtbbifdfldpfphaaGreat
open Go.Vm
def pQ (m : Nat) (p0 : List aA) (p1 : aA → Option Bool) (q0 : Int) : Option (Lp (Int) (Int)) :=
 if (decide (q0 < (p0.length : Int))) = true then ((ix p0 q0).bind fun x0 => (p1 x0).bind fun y0 => if y0 = true then (some (.ret q0)) else some (.go (IntKind.wrap .i64 (q0 + 1)))) else some (.brk q0)
def HG (m : Nat) (p0 : List aA) (p1 : aA → Option Bool) : Option (Int) :=
 after (aY (fun s => pQ m p0 p1 s) m 0) fun r0 => some (-1)
theorem VL {w : Nat} {p0 : List aA} {p1 : aA → Option Bool} {o : Int} (h : aH) {g_p0 : dD} (ok_p0 : bJ g_p0 35 p0.length) (K0 : bS h [(g_p0.t, .obj 44 (fl aD (p0 : List aA) g_p0.sp))]) {p1F : Nat} {p1C : List AV} (p1B : aU Tryz.prog p1F = true) (p1H : ∀ x0 o h0, gX h h0 → p1 x0 = some o → aP Tryz.prog p1F ([.agg (aD x0)] ++ p1C) h0 (fun r h' => r = .sc (.bool o) ∧ h' = h0)) (m : HG w p0 p1 = some o) :
 aP Tryz.prog 53 [aZ g_p0, .fn (.func p1F) p1C] (hp h [(g_p0.t, .obj 44 (fl aD (p0 : List aA) g_p0.sp))]) (fun r h' => r = nZ o ∧ h' = hp h [(g_p0.t, .obj 44 (fl aD (p0 : List aA) g_p0.sp))]) := by
 refine AE K0 19 [.tmp 4] Tryz.func53 rfl rfl rfl rfl ?_
 unfold HG at m
 refine vs (v0 (vs (vs (v0 (vn (fun _ => eY hS ok_p0 rfl) ?_)))))
 refine eO m (σ := Int) (τ := Unit) (fun g s => [(g_p0.t, .obj 44 (fl aD (p0 : List aA) g_p0.sp))]) (fun g s => .c 0 (aZ g_p0) (.c 1 (.fn (.func p1F) p1C) (.c 7 (nZ (p0.length : Int)) (.c 8 (nZ s) .nil)))) () (lx (.k4 .nil)) ?_ ?_
 rintro _ q0 x m
 replace m : pQ w p0 p1 q0 = some x := m
 unfold pQ at m
 refine vs (v0 (vs (v0 ?_)))
 refine vi m (fun c0 m => ?_) fun c0 m => ?_
 refine v0 (vs (v0 (vs (v0 (vs (v0 ?_))))))
 obtain ⟨x1, X0, m⟩ := aC m
 refine vn (fun _ => dE X0 eW ok_p0 rfl rfl) (vn (fun u => eZ (fo := 0) (.agg (aD x1)) X0 cM ok_p0 lF rfl (aO 0 u rfl) (fun _ => rfl)) ?_)
 obtain ⟨_, Y0, m⟩ := aC m
 refine vn (fun u => cE (p1H _ _ _ (aV (List.nil_sublist _) u).1 Y0) rfl p1B rfl) (v0 ?_)
 refine vi m (fun c1 m => ?_) fun c1 m => ?_
 refine vs (v0 (v0 ?_))
 refine gA m fun m => ?_
 injection m with m; subst m
 exact vr fun u => dY.of1 (.inl rfl) (fL _ _ (.sc (.int _ _)) rfl) (bO u [0] rfl).2 (aX.refl _ _) ⟨rfl, rfl⟩
 refine v0 (v0 ?_)
 exact bD m (lx (.k4 .nil))
 refine v0 ?_
 exact iS m (lx (.k4 .nil))
 rintro _ r0 m
 refine vs (v0 (v0 ?_))
 cases m
 exact vr fun u => dY.of1 (.inl rfl) (fL _ _ (.sc (.int _ _)) rfl) (bO u [0] rfl).2 (aX.refl _ _) ⟨rfl, rfl⟩
def nI (m : Nat) (p0 : List aI) (p1 : aI → Option Bool) (q0 : Int) : Option (Lp (Int) (Int)) :=
 if (decide (q0 < (p0.length : Int))) = true then ((ix p0 q0).bind fun x0 => (p1 x0).bind fun y0 => if y0 = true then (some (.ret q0)) else some (.go (IntKind.wrap .i64 (q0 + 1)))) else some (.brk q0)
def A7 (m : Nat) (p0 : List aI) (p1 : aI → Option Bool) : Option (Int) :=
 after (aY (fun s => nI m p0 p1 s) m 0) fun r0 => some (-1)
theorem Q4 {w : Nat} {p0 : List aI} {p1 : aI → Option Bool} {o : Int} (h : aH) {g_p0 : dD} (ok_p0 : bJ g_p0 3 p0.length) (K0 : bS h [(g_p0.t, .obj 99 (fl aR (p0 : List aI) g_p0.sp))]) {p1F : Nat} {p1C : List AV} (p1B : aU Tryz.prog p1F = true) (p1H : ∀ x0 o h0, gX h h0 → p1 x0 = some o → aP Tryz.prog p1F ([.agg (aR x0)] ++ p1C) h0 (fun r h' => r = .sc (.bool o) ∧ h' = h0)) (m : A7 w p0 p1 = some o) :
 aP Tryz.prog 181 [aZ g_p0, .fn (.func p1F) p1C] (hp h [(g_p0.t, .obj 99 (fl aR (p0 : List aI) g_p0.sp))]) (fun r h' => r = nZ o ∧ h' = hp h [(g_p0.t, .obj 99 (fl aR (p0 : List aI) g_p0.sp))]) := by
 refine AE K0 19 [.tmp 4] Tryz.func181 rfl rfl rfl rfl ?_
 unfold A7 at m
 refine vs (v0 (vs (vs (v0 (vn (fun _ => eY o7 ok_p0 rfl) ?_)))))
 refine eO m (σ := Int) (τ := Unit) (fun g s => [(g_p0.t, .obj 99 (fl aR (p0 : List aI) g_p0.sp))]) (fun g s => .c 0 (aZ g_p0) (.c 1 (.fn (.func p1F) p1C) (.c 7 (nZ (p0.length : Int)) (.c 8 (nZ s) .nil)))) () (lx (.k4 .nil)) ?_ ?_
 rintro _ q0 x m
 replace m : nI w p0 p1 q0 = some x := m
 unfold nI at m
 refine vs (v0 (vs (v0 ?_)))
 refine vi m (fun c0 m => ?_) fun c0 m => ?_
 refine v0 (vs (v0 (vs (v0 (vs (v0 ?_))))))
 obtain ⟨x1, X0, m⟩ := aC m
 refine vn (fun _ => dE X0 jQ ok_p0 rfl rfl) (vn (fun u => eZ (fo := 0) (.agg (aR x1)) X0 fB ok_p0 tD rfl (aO 0 u rfl) (fun _ => rfl)) ?_)
 obtain ⟨_, Y0, m⟩ := aC m
 refine vn (fun u => cE (p1H _ _ _ (aV (List.nil_sublist _) u).1 Y0) rfl p1B rfl) (v0 ?_)
 refine vi m (fun c1 m => ?_) fun c1 m => ?_
 refine vs (v0 (v0 ?_))
 refine gA m fun m => ?_
 injection m with m; subst m
 exact vr fun u => dY.of1 (.inl rfl) (fL _ _ (.sc (.int _ _)) rfl) (bO u [0] rfl).2 (aX.refl _ _) ⟨rfl, rfl⟩
 refine v0 (v0 ?_)
 exact bD m (lx (.k4 .nil))
 refine v0 ?_
 exact iS m (lx (.k4 .nil))
 rintro _ r0 m
 refine vs (v0 (v0 ?_))
 cases m
 exact vr fun u => dY.of1 (.inl rfl) (fL _ _ (.sc (.int _ _)) rfl) (bO u [0] rfl).2 (aX.refl _ _) ⟨rfl, rfl⟩
theorem Q5 : aU Tryz.prog 181 = true := by kernel_rfl
def JS (m : Nat) (p0 : bI) (c0 : a8) : Option (Bool) :=
 some (p0.Vol == c0.Vol)
theorem VM {w : Nat} {p0 : bI} {c0 : a8} {o : Bool} (h : aH) {c0K : bZ} (c0H : h c0K = some (.obj 62 (aG c0))) (m : JS w p0 c0 = some o) :
 aP Tryz.prog 127 [.agg (aQ p0), .ptr c0K 0] h (fun r h' => r = .sc (.bool o) ∧ h' = h) := by
 refine fW 9 [.tmp 3] Tryz.func127 rfl rfl rfl rfl ?_
 unfold JS at m
 refine v ?_
 refine ve fun u => cQ u rfl rfl fun k2 K3 => qk K3 rfl ?_
 refine v (vl 0 _ cG rfl rfl rfl (vn (fun u => bH (nZ c0.Vol) cG rfl (oY u c0H) rfl) (v ?_)))
 cases m
 exact eM rfl
theorem Q6 : aU Tryz.prog 127 = true := by kernel_rfl
def uA (m : Nat) (p0 : List bI) (c0 : a8) : Option ((List bI)) :=
 (G6 m p0 (fun x0 => JS m x0 c0)).bind fun y3 => some y3
theorem HH {w : Nat} {p0 : List bI} {c0 : a8} {o : (List bI)} (h : aH) {g_p0 : dD} (ok_p0 : bJ g_p0 4 p0.length) (K0 : bS h [h9 g_p0 p0]) {c0K : bZ} (c0H : h c0K = some (.obj 62 (aG c0))) (m : uA w p0 c0 = some o) :
 aP Tryz.prog 126 [aZ g_p0, .ptr c0K 0] (hp h [h9 g_p0 p0]) (fun r h' => ∃ g : dD, bJ g 4 o.length ∧ bS h [(g.t, .obj 81 (fl aQ o g.sp))] ∧ r = aZ g ∧ h' = hp h [(g.t, .obj 81 (fl aQ o g.sp))]) := by
 refine AE K0 7 [.tmp 3] Tryz.func126 rfl rfl rfl rfl ?_
 unfold uA at m
 refine vs (v0 (vs (v0 ?_)))
 obtain ⟨y3, Y4, m⟩ := aC m
 refine ve fun u => dX ((bK u [0] rfl rfl).1.trans (dM h [h9 g_p0 p0] []).symm) (cV (VE (hp h []) ok_p0 (dG [h9 g_p0 p0] [] (bK u [0] rfl rfl).2).2 Q6 (fun _ o h0 hs ho => VM _ (hs _ _ (oY (dG [h9 g_p0 p0] [] (bK u [0] rfl rfl).2).1 c0H)) ho) Y4) rfl VF rfl ?_)
 rintro x h' ⟨ag5, O6, K7, rfl, rfl⟩
 have K8 := bK (L' := [h9 ag5 y3]) (eU (dG [h9 g_p0 p0] [] (bK u [0] rfl rfl).2).1 K7) [0] rfl rfl
 refine qk K8.2 ((dM h [h9 ag5 y3] []).trans K8.1) ?_
 refine v0 ?_
 injection m with m; subst m
 exact vr fun u => dY.one (.inl rfl) (aV (h0 := h) (L' := [h9 ag5 y3]) (.refl _) u).1 (aX.refl _ _) ⟨ag5, O6, (aV (h0 := h) (L' := [h9 ag5 y3]) (.refl _) u).2, rfl, rfl⟩
theorem HI : aU Tryz.prog 126 = true := by kernel_rfl
def HJ (m : Nat) (p0 : aA) : Option (Bool) :=
 after (if (!p0.Staged) = true then (some (.brk ((p0.Locs.length : Int) == 0))) else some (.brk false) : Option (Lp (Bool) (Bool))) fun j7 => some j7
theorem VO {w : Nat} {p0 : aA} {o : Bool} (h : aH) (m : HJ w p0 = some o) :
 aP Tryz.prog 129 [.agg (aD p0)] h (fun r h' => r = .sc (.bool o) ∧ h' = h) := by
 refine fW 12 [.tmp 2] Tryz.func129 rfl rfl rfl rfl ?_
 unfold HJ at m
 refine v ?_
 refine ve fun u => cQ u rfl rfl fun k2 K3 => qk K3 rfl ?_
 refine vs ?_
 refine cW m (σ := Bool) (τ := Unit) (fun g s => [(some k2, .obj 44 (aD p0))]) (fun g s => .c 2 (.sc (.bool s)) .nil) (fun x m => ?_) ?_
 refine v (vl 0 _ BG rfl rfl rfl ?_)
 refine vi m (fun b8 m => ?_) fun b8 m => ?_
 rw [b8]
 refine vl 0 _ fE rfl rfl rfl (dH iF rfl ?_)
 exact bD m (lx (.cons (aX.refl _ _) .nil))
 rw [b8]
 exact bD m (lx (.cons (aX.refl _ _) .nil))
 rintro _ j7 m
 refine v ?_
 injection m with m; subst m
 exact eM rfl
theorem Q7 : aU Tryz.prog 129 = true := by kernel_rfl
def lQ (m : Nat) (p1 : aA → Option Bool) (q0 : List aA) (q1 : Int) (q2 : Int) : Option (Lp ((List aA) × Int × Int) ((List aA))) :=
 if (decide (q2 < (q0.length : Int))) = true then ((ix q0 q2).bind fun x0 => (p1 x0).bind fun y0 => after (if (!y0) = true then ((ix q0 q1).bind fun _ => some (.brk (q0.set q1.toNat (x0), IntKind.wrap .i64 (q1 + 1)))) else some (.brk (q0, q1)) : Option (Lp ((List aA) × Int) (Lp ((List aA) × Int × Int) ((List aA))))) fun ⟨j0, j1⟩ => some (.go (j0, j1, IntKind.wrap .i64 (q2 + 1)))) else some (.brk (q0, q1, q2))
def A8 (m : Nat) (p0 : List aA) (p1 : aA → Option Bool) : Option ((List aA)) :=
 (HG m p0 p1).bind fun y3 => if (y3 == (-1)) = true then (some p0) else after (aY (fun s => lQ m p1 s.1 s.2.1 s.2.2) m (p0, y3, IntKind.wrap .i64 (y3 + 1))) fun ⟨r0, r1, r2⟩ => grd (decide (0 ≤ r1) && decide (r1 < (r0.length : Int))) <| grd (decide (0 ≤ r1) && decide (r1 ≤ (r0.length : Int))) <| some (r0.take r1.toNat)
theorem Q8 {w : Nat} {p0 : List aA} {p1 : aA → Option Bool} {o : (List aA)} (h : aH) {g_p0 : dD} (ok_p0 : bJ g_p0 35 p0.length) (K0 : bS h [(g_p0.t, .obj 44 (fl aD (p0 : List aA) g_p0.sp))]) {p1F : Nat} {p1C : List AV} (p1B : aU Tryz.prog p1F = true) (p1H : ∀ x0 o h0, gX h h0 → p1 x0 = some o → aP Tryz.prog p1F ([.agg (aD x0)] ++ p1C) h0 (fun r h' => r = .sc (.bool o) ∧ h' = h0)) (m : A8 w p0 p1 = some o) :
 aP Tryz.prog 128 [aZ g_p0, .fn (.func p1F) p1C] (hp h [(g_p0.t, .obj 44 (fl aD (p0 : List aA) g_p0.sp))]) (fun r h' => ∃ g : dD, bJ g 35 o.length ∧ bS h [(g.t, .obj 44 (fl aD o g.sp))] ∧ r = aZ g ∧ h' = hp h [(g.t, .obj 44 (fl aD o g.sp))]) := by
 refine AE K0 42 [.tmp 4] Tryz.func128 rfl rfl rfl rfl ?_
 unfold A8 at m
 refine vs (v0 (vs (v0 ?_)))
 obtain ⟨_, Y4, m⟩ := aC m
 refine ve fun u => dX ((bK u [0] rfl rfl).1.trans (dM h [(g_p0.t, .obj 44 (fl aD (p0 : List aA) g_p0.sp))] []).symm) (cV (VL (hp h []) ok_p0 (dG [(g_p0.t, .obj 44 (fl aD (p0 : List aA) g_p0.sp))] [] (bK u [0] rfl rfl).2).2 p1B (fun x0 o h0 hs ho => p1H x0 o h0 ((aV (List.nil_sublist _) (dG [(g_p0.t, .obj 44 (fl aD (p0 : List aA) g_p0.sp))] [] (bK u [0] rfl rfl).2).1).1.trans hs) ho) Y4) rfl QL rfl ?_)
 rintro x h' ⟨rfl, rfl⟩
 refine qk u ((dM h [(g_p0.t, .obj 44 (fl aD (p0 : List aA) g_p0.sp))] []).trans (bK u [0] rfl rfl).1.symm) ?_
 refine vs (vs (v0 (v0 ?_)))
 refine vi m (fun c7 m => ?_) fun c7 m => ?_
 refine vs (v0 (v0 ?_))
 injection m with m; subst m
 exact vr fun u => dY.one (.inl rfl) (aV (h0 := h) (L' := [(g_p0.t, .obj 44 (fl aD (p0 : List aA) g_p0.sp))]) (.refl _) u).1 (aX.refl _ _) ⟨g_p0, ok_p0, (aV (h0 := h) (L' := [(g_p0.t, .obj 44 (fl aD (p0 : List aA) g_p0.sp))]) (.refl _) u).2, rfl, rfl⟩
 refine v0 (vs (vs (v0 ?_)))
 refine lT m (σ := (List aA) × Int × Int) (τ := dD) (fun g s => [(g.t, .obj 44 (fl aD (s.1 : List aA) g.sp))]) (fun g s => bJ g 35 (s.1 : List aA).length) (fun g s => .c 0 (aZ g) (.c 1 (.fn (.func p1F) p1C) (.c 5 (nZ s.2.1) (.c 6 (nZ s.2.2) .nil)))) g_p0 ok_p0 (lx (.k4 .nil)) ?_ ?_
 rintro ag0 ⟨q0, q1, q2⟩ x O0 m
 replace m : lQ w p1 q0 q1 q2 = some x := m
 unfold lQ at m
 refine vs (vs (v0 (vn (fun _ => eY hS O0 rfl) (v0 ?_))))
 refine vi m (fun c0 m => ?_) fun c0 m => ?_
 refine v0 (vs (v0 (vs (v0 ?_))))
 obtain ⟨x1, X0, m⟩ := aC m
 refine vn (fun _ => dE X0 eW O0 rfl rfl) (vn (fun u => eZ (fo := 0) (.agg (aD x1)) X0 cM O0 lF rfl (aO 0 u rfl) (fun _ => rfl)) ?_)
 refine ve fun u => bE (bF iY ++ ([.sc (.bool false), sZ, sZ] : List AV)) u l6 rfl rfl fun k86 K1 => qk K1 rfl ?_
 refine ve fun u => aL 0 (aD x1) u rfl rfl rfl rfl uV rfl rfl fun K2 => qk K2 rfl ?_
 refine vs (v0 (vl 0 (.agg (aD x1)) lF rfl rfl rfl ?_))
 obtain ⟨_, Y0, m⟩ := aC m
 refine vn (fun u => cE (p1H _ _ _ (aV (List.nil_sublist _) u).1 Y0) rfl p1B rfl) ?_
 refine pX m (σ := (List aA) × Int) (τ := dD) (fun g s => [(some k86, .obj 44 (aD x1)), (g.t, .obj 44 (fl aD (s.1 : List aA) g.sp))]) (fun g s => bJ g 35 (s.1 : List aA).length) (fun g s => .c 0 (aZ g) (.c 1 (.fn (.func p1F) p1C) (.c 5 (nZ s.2) (.c 6 (nZ q2) .nil)))) (fun x m => ?_) ?_
 refine v0 ?_
 refine vi m (fun c1 m => ?_) fun c1 m => ?_
 refine vs (v0 (vl 0 (.agg (aD x1)) lF rfl rfl rfl ?_))
 obtain ⟨_, X1, m⟩ := aC m
 refine vn (fun _ => dE X1 eW O0 rfl rfl) ?_
 refine ve fun u => cR (fo := 0) (x1 : aA) 1 u X1 cM O0 rfl rfl rfl rfl (cO.refl _ _) uV rfl rfl fun K3 => qk K3 rfl ?_
 refine v0 ?_
 exact fH m ag0 (bJ.set O0) (lx (.k4 .nil))
 refine v0 ?_
 exact fH m ag0 O0 (lx (.k4 .nil))
 rintro ag1 ⟨j0, j1⟩ O1 m
 refine v0 ?_
 exact fH m ag1 O1 (kR [1] rfl rfl (.k4 .nil))
 refine v0 ?_
 exact lD m ag0 O0 (lx (.k4 .nil))
 rintro ag2 ⟨r0, r1, r2⟩ t0 m
 refine vs (v0 ?_)
 obtain ⟨Z0, m⟩ := lX m
 refine vn (fun _ => B6 Z0 eW t0 rfl rfl) ?_
 refine ve fun u => F0 0 u Z0 cM t0 XQ l6 rfl rfl rfl rfl fun sp0 O2 K4 => qk K4 rfl ?_
 refine vs (v0 ?_)
 obtain ⟨Z1, m⟩ := lX m
 refine vn (fun _ => B7 Z1 t0 eW rfl rfl) (v0 ?_)
 cases m
 exact vr fun u => dY.one (.inl rfl) (aV (h0 := h) (L' := [((⟨ag2.t, r1.toNat, ag2.cap, sp0⟩ : dD).t, .obj 44 (fl aD (r0.take r1.toNat : List aA) (⟨ag2.t, r1.toNat, ag2.cap, sp0⟩ : dD).sp))]) (.refl _) u).1 (aX.refl _ _) ⟨(⟨ag2.t, r1.toNat, ag2.cap, sp0⟩ : dD), O2, (aV (h0 := h) (L' := [((⟨ag2.t, r1.toNat, ag2.cap, sp0⟩ : dD).t, .obj 44 (fl aD (r0.take r1.toNat : List aA) (⟨ag2.t, r1.toNat, ag2.cap, sp0⟩ : dD).sp))]) (.refl _) u).2, rfl, rfl⟩
theorem Q9 : aU Tryz.prog 128 = true := by kernel_rfl
def JT (m : Nat) (p0 : aI) : Option (Bool) :=
 some ((p0.Locs.length : Int) == 0)
theorem VP {w : Nat} {p0 : aI} {o : Bool} (h : aH) (m : JT w p0 = some o) :
 aP Tryz.prog 131 [.agg (aR p0)] h (fun r h' => r = .sc (.bool o) ∧ h' = h) := by
 refine fW 7 [.tmp 2] Tryz.func131 rfl rfl rfl rfl ?_
 unfold JT at m
 refine v ?_
 refine ve fun u => cQ u rfl rfl fun k2 K3 => qk K3 rfl ?_
 refine v (vl 0 _ fE rfl rfl rfl (dH iF rfl (v ?_)))
 cases m
 exact eM rfl
theorem RA : aU Tryz.prog 131 = true := by kernel_rfl
def lR (m : Nat) (p1 : aI → Option Bool) (q0 : List aI) (q1 : Int) (q2 : Int) : Option (Lp ((List aI) × Int × Int) ((List aI))) :=
 if (decide (q2 < (q0.length : Int))) = true then ((ix q0 q2).bind fun x0 => (p1 x0).bind fun y0 => after (if (!y0) = true then ((ix q0 q1).bind fun _ => some (.brk (q0.set q1.toNat (x0), IntKind.wrap .i64 (q1 + 1)))) else some (.brk (q0, q1)) : Option (Lp ((List aI) × Int) (Lp ((List aI) × Int × Int) ((List aI))))) fun ⟨j0, j1⟩ => some (.go (j0, j1, IntKind.wrap .i64 (q2 + 1)))) else some (.brk (q0, q1, q2))
def A9 (m : Nat) (p0 : List aI) (p1 : aI → Option Bool) : Option ((List aI)) :=
 (A7 m p0 p1).bind fun y3 => if (y3 == (-1)) = true then (some p0) else after (aY (fun s => lR m p1 s.1 s.2.1 s.2.2) m (p0, y3, IntKind.wrap .i64 (y3 + 1))) fun ⟨r0, r1, r2⟩ => grd (decide (0 ≤ r1) && decide (r1 < (r0.length : Int))) <| grd (decide (0 ≤ r1) && decide (r1 ≤ (r0.length : Int))) <| some (r0.take r1.toNat)
theorem RB {w : Nat} {p0 : List aI} {p1 : aI → Option Bool} {o : (List aI)} (h : aH) {g_p0 : dD} (ok_p0 : bJ g_p0 3 p0.length) (K0 : bS h [(g_p0.t, .obj 99 (fl aR (p0 : List aI) g_p0.sp))]) {p1F : Nat} {p1C : List AV} (p1B : aU Tryz.prog p1F = true) (p1H : ∀ x0 o h0, gX h h0 → p1 x0 = some o → aP Tryz.prog p1F ([.agg (aR x0)] ++ p1C) h0 (fun r h' => r = .sc (.bool o) ∧ h' = h0)) (m : A9 w p0 p1 = some o) :
 aP Tryz.prog 130 [aZ g_p0, .fn (.func p1F) p1C] (hp h [(g_p0.t, .obj 99 (fl aR (p0 : List aI) g_p0.sp))]) (fun r h' => ∃ g : dD, bJ g 3 o.length ∧ bS h [(g.t, .obj 99 (fl aR o g.sp))] ∧ r = aZ g ∧ h' = hp h [(g.t, .obj 99 (fl aR o g.sp))]) := by
 refine AE K0 42 [.tmp 4] Tryz.func130 rfl rfl rfl rfl ?_
 unfold A9 at m
 refine vs (v0 (vs (v0 ?_)))
 obtain ⟨_, Y4, m⟩ := aC m
 refine ve fun u => dX ((bK u [0] rfl rfl).1.trans (dM h [(g_p0.t, .obj 99 (fl aR (p0 : List aI) g_p0.sp))] []).symm) (cV (Q4 (hp h []) ok_p0 (dG [(g_p0.t, .obj 99 (fl aR (p0 : List aI) g_p0.sp))] [] (bK u [0] rfl rfl).2).2 p1B (fun x0 o h0 hs ho => p1H x0 o h0 ((aV (List.nil_sublist _) (dG [(g_p0.t, .obj 99 (fl aR (p0 : List aI) g_p0.sp))] [] (bK u [0] rfl rfl).2).1).1.trans hs) ho) Y4) rfl Q5 rfl ?_)
 rintro x h' ⟨rfl, rfl⟩
 refine qk u ((dM h [(g_p0.t, .obj 99 (fl aR (p0 : List aI) g_p0.sp))] []).trans (bK u [0] rfl rfl).1.symm) ?_
 refine vs (vs (v0 (v0 ?_)))
 refine vi m (fun c7 m => ?_) fun c7 m => ?_
 refine vs (v0 (v0 ?_))
 injection m with m; subst m
 exact vr fun u => dY.one (.inl rfl) (aV (h0 := h) (L' := [(g_p0.t, .obj 99 (fl aR (p0 : List aI) g_p0.sp))]) (.refl _) u).1 (aX.refl _ _) ⟨g_p0, ok_p0, (aV (h0 := h) (L' := [(g_p0.t, .obj 99 (fl aR (p0 : List aI) g_p0.sp))]) (.refl _) u).2, rfl, rfl⟩
 refine v0 (vs (vs (v0 ?_)))
 refine lT m (σ := (List aI) × Int × Int) (τ := dD) (fun g s => [(g.t, .obj 99 (fl aR (s.1 : List aI) g.sp))]) (fun g s => bJ g 3 (s.1 : List aI).length) (fun g s => .c 0 (aZ g) (.c 1 (.fn (.func p1F) p1C) (.c 5 (nZ s.2.1) (.c 6 (nZ s.2.2) .nil)))) g_p0 ok_p0 (lx (.k4 .nil)) ?_ ?_
 rintro ag0 ⟨q0, q1, q2⟩ x O0 m
 replace m : lR w p1 q0 q1 q2 = some x := m
 unfold lR at m
 refine vs (vs (v0 (vn (fun _ => eY o7 O0 rfl) (v0 ?_))))
 refine vi m (fun c0 m => ?_) fun c0 m => ?_
 refine v0 (vs (v0 (vs (v0 ?_))))
 obtain ⟨x1, X0, m⟩ := aC m
 refine vn (fun _ => dE X0 jQ O0 rfl rfl) (vn (fun u => eZ (fo := 0) (.agg (aR x1)) X0 fB O0 tD rfl (aO 0 u rfl) (fun _ => rfl)) ?_)
 refine ve fun u => bE ([nZ 0, nZ 0, sZ]) u qJ rfl rfl fun k86 K1 => qk K1 rfl ?_
 refine ve fun u => aL 0 (aR x1) u rfl rfl rfl rfl CD rfl rfl fun K2 => qk K2 rfl ?_
 refine vs (v0 (vl 0 (.agg (aR x1)) tD rfl rfl rfl ?_))
 obtain ⟨_, Y0, m⟩ := aC m
 refine vn (fun u => cE (p1H _ _ _ (aV (List.nil_sublist _) u).1 Y0) rfl p1B rfl) ?_
 refine pX m (σ := (List aI) × Int) (τ := dD) (fun g s => [(some k86, .obj 99 (aR x1)), (g.t, .obj 99 (fl aR (s.1 : List aI) g.sp))]) (fun g s => bJ g 3 (s.1 : List aI).length) (fun g s => .c 0 (aZ g) (.c 1 (.fn (.func p1F) p1C) (.c 5 (nZ s.2) (.c 6 (nZ q2) .nil)))) (fun x m => ?_) ?_
 refine v0 ?_
 refine vi m (fun c1 m => ?_) fun c1 m => ?_
 refine vs (v0 (vl 0 (.agg (aR x1)) tD rfl rfl rfl ?_))
 obtain ⟨_, X1, m⟩ := aC m
 refine vn (fun _ => dE X1 jQ O0 rfl rfl) ?_
 refine ve fun u => cR (fo := 0) (x1 : aI) 1 u X1 fB O0 rfl rfl rfl rfl (cO.refl _ _) CD rfl rfl fun K3 => qk K3 rfl ?_
 refine v0 ?_
 exact fH m ag0 (bJ.set O0) (lx (.k4 .nil))
 refine v0 ?_
 exact fH m ag0 O0 (lx (.k4 .nil))
 rintro ag1 ⟨j0, j1⟩ O1 m
 refine v0 ?_
 exact fH m ag1 O1 (kR [1] rfl rfl (.k4 .nil))
 refine v0 ?_
 exact lD m ag0 O0 (lx (.k4 .nil))
 rintro ag2 ⟨r0, r1, r2⟩ t0 m
 refine vs (v0 ?_)
 obtain ⟨Z0, m⟩ := lX m
 refine vn (fun _ => B6 Z0 jQ t0 rfl rfl) ?_
 refine ve fun u => F0 0 u Z0 fB t0 YJ qJ rfl rfl rfl rfl fun sp0 O2 K4 => qk K4 rfl ?_
 refine vs (v0 ?_)
 obtain ⟨Z1, m⟩ := lX m
 refine vn (fun _ => B7 Z1 t0 jQ rfl rfl) (v0 ?_)
 cases m
 exact vr fun u => dY.one (.inl rfl) (aV (h0 := h) (L' := [((⟨ag2.t, r1.toNat, ag2.cap, sp0⟩ : dD).t, .obj 99 (fl aR (r0.take r1.toNat : List aI) (⟨ag2.t, r1.toNat, ag2.cap, sp0⟩ : dD).sp))]) (.refl _) u).1 (aX.refl _ _) ⟨(⟨ag2.t, r1.toNat, ag2.cap, sp0⟩ : dD), O2, (aV (h0 := h) (L' := [((⟨ag2.t, r1.toNat, ag2.cap, sp0⟩ : dD).t, .obj 99 (fl aR (r0.take r1.toNat : List aI) (⟨ag2.t, r1.toNat, ag2.cap, sp0⟩ : dD).sp))]) (.refl _) u).2, rfl, rfl⟩
theorem RC : aU Tryz.prog 130 = true := by kernel_rfl
def uB (m : Nat) (p0 : aB) (p1 : a8) (q0 : List aE) (q1 : Int) : Option (Lp ((List aE) × Int) (Int × (List aE) × (List aA) × (List aI) × (List aK))) :=
 if (decide (q1 < (p0.Snaps.length : Int))) = true then ((ix q0 q1).bind fun x0 => (uA m x0.Locs p1).bind fun y0 => (ix q0 q1).bind fun x1 => some (.go (q0.set q1.toNat ({ x1 with Locs := y0 }), IntKind.wrap .i64 (q1 + 1)))) else some (.brk (q0, q1))
def uC (m : Nat) (p0 : aB) (p1 : a8) (q0 : List aA) (q1 : Int) : Option (Lp ((List aA) × Int) (Int × (List aE) × (List aA) × (List aI) × (List aK))) :=
 if (decide (q1 < (p0.Chunks.length : Int))) = true then ((ix q0 q1).bind fun x0 => (uA m x0.Locs p1).bind fun y0 => (ix q0 q1).bind fun x1 => some (.go (q0.set q1.toNat ({ x1 with Locs := y0 }), IntKind.wrap .i64 (q1 + 1)))) else some (.brk (q0, q1))
def uD (m : Nat) (p0 : aB) (p1 : a8) (q0 : List aI) (q1 : Int) : Option (Lp ((List aI) × Int) (Int × (List aE) × (List aA) × (List aI) × (List aK))) :=
 if (decide (q1 < (p0.Exps.length : Int))) = true then ((ix q0 q1).bind fun x0 => (uA m x0.Locs p1).bind fun y0 => (ix q0 q1).bind fun x1 => some (.go (q0.set q1.toNat ({ x1 with Locs := y0 }), IntKind.wrap .i64 (q1 + 1)))) else some (.brk (q0, q1))
def RD (m : Nat) (p0 : aB) (p1 : a8) : Option (Int × (List aE) × (List aA) × (List aI) × (List aK)) :=
 after (if (decide (p1.Vol < 0)) = true then (some (.brk true)) else if (decide ((p0.Vols.length : Int) ≤ p1.Vol)) = true then (some (.brk true)) else (ix p0.Vols p1.Vol).bind fun x1 => some (.brk (x1.State != 2)) : Option (Lp (Bool) (Int × (List aE) × (List aA) × (List aI) × (List aK)))) fun j0 => if j0 = true then (some (1, p0.Snaps, p0.Chunks, p0.Exps, p0.Vols)) else (ix p0.Vols p1.Vol).bind fun x2 => (ix (p0.Vols.set p1.Vol.toNat ({ x2 with State := 3 })) p1.Vol).bind fun x3 => after (aY (fun s => uB m p0 p1 s.1 s.2) m (p0.Snaps, 0)) fun ⟨r0, r1⟩ => after (aY (fun s => uC m p0 p1 s.1 s.2) m (p0.Chunks, 0)) fun ⟨r2, r3⟩ => after (aY (fun s => uD m p0 p1 s.1 s.2) m (p0.Exps, 0)) fun ⟨r4, r5⟩ => (A8 m r2 (fun x0 => HJ m x0)).bind fun y0 => (A9 m r4 (fun x0 => JT m x0)).bind fun y1 => some (0, r0, y0, y1, (p0.Vols.set p1.Vol.toNat ({ x2 with State := 3 })).set p1.Vol.toNat ({ x3 with Files := 0 }))
theorem ZX {w : Nat} {p0 : aB} {p1 : a8} {o : Int × (List aE) × (List aA) × (List aI) × (List aK)} (h : aH) {p0K : bZ} {gS : dS} (ok_Snaps : oP aE.Locs 4 4 gS (p0.Snaps : List aE)) {gC : dS} (oC : oP aA.Locs 35 4 gC (p0.Chunks : List aA)) {gE : dS} (oE : oP aI.Locs 3 4 gE (p0.Exps : List aI)) {gV : dD} (oV : bJ gV 4 p0.Vols.length) (K0 : bS h ([OC p0K p0.Seq gS.a gC.a gE.a gV, cX gS p0.Snaps, bY gC p0.Chunks, dC gE p0.Exps, bL gV p0.Vols] ++ ((dI gS p0.Snaps) ++ ((cD gC p0.Chunks) ++ (dF gE p0.Exps))))) (m : RD w p0 p1 = some o) :
 aP Tryz.prog 75 [.ptr p0K 0, .agg (aG p1)] (hp h ([OC p0K p0.Seq gS.a gC.a gE.a gV, cX gS p0.Snaps, bY gC p0.Chunks, dC gE p0.Exps, bL gV p0.Vols] ++ ((dI gS p0.Snaps) ++ ((cD gC p0.Chunks) ++ (dF gE p0.Exps))))) (fun r h' => ∃ g_Snaps' : dD, bJ g_Snaps' 4 (o.2.1 : List aE).length ∧ ∃ g_Chunks' : dD, bJ g_Chunks' 35 (o.2.2.1 : List aA).length ∧ ∃ g_Exps' : dD, bJ g_Exps' 3 (o.2.2.2.1 : List aI).length ∧ ∃ g_Vols' : dD, bJ g_Vols' 4 (o.2.2.2.2 : List aK).length ∧ bS h [OC p0K p0.Seq g_Snaps' g_Chunks' g_Exps' g_Vols', cJ g_Snaps' o.2.1, cF g_Chunks' o.2.2.1, eC g_Exps' o.2.2.2.1, bL g_Vols' o.2.2.2.2] ∧ r = nZ o.1 ∧ h' = hp h [OC p0K p0.Seq g_Snaps' g_Chunks' g_Exps' g_Vols', cJ g_Snaps' o.2.1, cF g_Chunks' o.2.2.1, eC g_Exps' o.2.2.2.1, bL g_Vols' o.2.2.2.2]) := by
 refine AE K0 145 [.tmp 4] Tryz.func75 rfl rfl rfl rfl ?_
 unfold RD at m
 refine vs (v0 ?_)
 refine ve fun u => cQ u rfl rfl fun k2 K3 => qk K3 rfl ?_
 refine vs (vs ?_)
 refine cW m (σ := Bool) (τ := Unit) (fun g s => ([(some k2, .obj 62 (aG p1)), OC p0K p0.Seq gS.a gC.a gE.a gV, cX gS p0.Snaps, bY gC p0.Chunks, dC gE p0.Exps, bL gV p0.Vols] ++ ((dI gS p0.Snaps) ++ ((cD gC p0.Chunks) ++ (dF gE p0.Exps))))) (fun g s => .c 0 (.ptr p0K 0) (.c 3 (.ptr k2 0) (.c 33 (.sc (.bool s)) .nil))) (fun x m => ?_) ?_
 refine v0 (AK (by kernel_rfl) (vn (fun _ => aJ fJ rfl rfl) (vl 0 _ cG rfl rfl rfl ?_)))
 refine vi m (fun b0 m => ?_) fun b0 m => ?_
 rw [b0]
 exact bD m (lx (.k3 .nil))
 rw [b0]
 refine vn (fun _ => aJ fJ rfl rfl) (vl 0 _ cG rfl rfl rfl (vn (fun _ => bU rfl) (vn (fun _ => aJ fI rfl rfl) (vl 1 (aZ gV) fZ rfl rfl rfl (vn (fun _ => eY qG oV rfl) ?_)))))
 refine vi m (fun b1 m => ?_) fun b1 m => ?_
 rw [b1]
 exact bD m (lx (.k3 .nil))
 rw [b1]
 refine vn (fun _ => bU rfl) (vn (fun _ => aJ fI rfl rfl) (vl 1 (aZ gV) fZ rfl rfl rfl (vn (fun _ => aJ fJ rfl rfl) (vl 0 _ cG rfl rfl rfl ?_))))
 obtain ⟨x1, X0, m⟩ := aC m
 refine vn (fun _ => dE X0 i9 oV rfl rfl) (vn (fun _ => dJ (bJ.ne oV X0) l8 rfl rfl) (vn (fun u => eZ (fo := 2) (nZ x1.State) X0 eJ oV cG rfl (aO 5 u rfl) (fun _ => rfl)) ?_))
 exact bD m (lx (.k3 .nil))
 rintro _ j0 m
 refine v0 ?_
 refine vi m (fun c0 m => ?_) fun c0 m => ?_
 refine vs (v0 (v0 ?_))
 cases m
 refine NA (JP (L' := ([(some k2, .obj 62 (aG p1)), OC p0K p0.Seq gS.a gC.a gE.a gV, cJ gS.a p0.Snaps, bY gC p0.Chunks, dC gE p0.Exps, bL gV p0.Vols] ++ ((cD gC p0.Chunks) ++ (dF gE p0.Exps)))) [[_], [_], [_], [_], [_], [_], _, _, _] rfl 2 6 iT yE ok_Snaps.k rfl rfl (by decide) rfl) ?_
 refine NA (JP (L' := ([(some k2, .obj 62 (aG p1)), OC p0K p0.Seq gS.a gC.a gE.a gV, cJ gS.a p0.Snaps, cF gC.a p0.Chunks, dC gE p0.Exps, bL gV p0.Vols] ++ (dF gE p0.Exps))) [[_], [_], [_], [_], [_], [_], _, _] rfl 3 6 iT tZ oC.k rfl rfl (by decide) rfl) ?_
 refine NA (JP (L' := [(some k2, .obj 62 (aG p1)), OC p0K p0.Seq gS.a gC.a gE.a gV, cJ gS.a p0.Snaps, cF gC.a p0.Chunks, eC gE.a p0.Exps, bL gV p0.Vols]) [[_], [_], [_], [_], [_], [_], _] rfl 4 6 iT CT oE.k rfl rfl (by decide) rfl) ?_
 exact vr fun u => dY.of1 (.inl rfl) (fL _ _ (.sc (.int _ _)) rfl) (bO u [1, 2, 3, 4, 5] rfl).2 (aX.refl _ _) ⟨gS.a, ok_Snaps.k.a, gC.a, oC.k.a, gE.a, oE.k.a, gV, oV, (bO u [1, 2, 3, 4, 5] rfl).1, rfl, rfl⟩
 refine v0 (vs (v0 ?_))
 refine vz [(1000000, some p0K, .obj 30 ([nZ p0.Seq, aZ gS.a, aZ gC.a, aZ gE.a, aZ gV])), (1000000, some k2, .obj 62 (aG p1))] mixed (fun u => ⟨fun _ => aO 1 u rfl, fun _ => aO 0 u rfl, trivial⟩) fun u => ?_
 refine aM 0 rfl (fun _ _ _ _ => bN (.ptr _ _) rfl) ?_
 refine aM 1 rfl (fun _ _ _ _ => bU rfl) ?_
 refine aM 2 rfl (fun _ _ _ _ => aJ fI rfl rfl) ?_
 refine aM 3 rfl (fun _ _ hi hB => bH (aZ gV) fZ rfl (At.s (bR.get 0 hi rfl (hB 1000000 (by kernel_rfl)))) rfl) ?_
 refine aM 4 rfl (fun _ _ _ _ => aJ fJ rfl rfl) ?_
 refine aM 5 rfl (fun _ _ hi hB => bH (nZ p1.Vol) cG rfl (At.s (bR.get 1 hi rfl (hB 1000000 (by kernel_rfl)))) rfl) ?_
 refine aM 6 rfl (fun _ _ _ _ => bN (.ptr _ _) rfl) ?_
 refine aM 7 rfl (fun _ _ _ _ => bU rfl) ?_
 refine aM 8 rfl (fun _ _ _ _ => aJ fI rfl rfl) ?_
 refine aM 9 rfl (fun _ _ hi hB => bH (aZ gV) fZ rfl (At.s (bR.get 0 hi rfl (hB 1000000 (by kernel_rfl)))) rfl) ?_
 refine aM 10 rfl (fun _ _ _ _ => aJ fJ rfl rfl) ?_
 refine aM 11 rfl (fun _ _ hi hB => bH (nZ p1.Vol) cG rfl (At.s (bR.get 1 hi rfl (hB 1000000 (by kernel_rfl)))) rfl) ?_
 obtain ⟨x2, X1, m⟩ := aC m
 refine aM 12 rfl (fun _ _ _ _ => dE X1 i9 oV rfl rfl) ?_
 refine aM 13 rfl (fun _ _ _ _ => dJ (bJ.ne oV X1) l8 rfl rfl) ?_
 refine eX 14 rfl (by kernel_rfl) (cR (fo := 2) ({ x2 with State := 3 } : aK) 5 u X1 eJ oV rfl rfl rfl rfl (cO.refl _ _) xN rfl rfl fun K1 => ⟨⟨fun _ => aO 1 K1 rfl, fun _ => aO 0 K1 rfl, trivial⟩, ?_⟩)
 obtain ⟨x3, X2, m⟩ := aC m
 refine aM 15 rfl (fun _ _ _ _ => dE X2 i9 (bJ.set oV) rfl rfl) ?_
 refine aM 16 rfl (fun _ _ _ _ => dJ (bJ.ne (bJ.set oV) X2) tA rfl rfl) ?_
 refine eX 17 rfl (by kernel_rfl) (cR (fo := 3) ({ x3 with Files := 0 } : aK) 5 K1 X2 eJ (bJ.set oV) rfl rfl rfl rfl (cO.refl _ _) xN rfl rfl fun K2 => ⟨⟨fun _ => aO 1 K2 rfl, fun _ => aO 0 K2 rfl, trivial⟩, ?_⟩)
 refine dL (by kernel_rfl) (qk (f := .c 49 _ (.c 48 _ (.c 47 _ (.c 46 _ (.c 45 _ (.c 44 _ (.c 43 _ (.c 42 _ (.c 41 _ (.c 40 _ (.c 39 _ (.c 38 _ (.c 37 _ (.c 36 _ (.c 35 _ (.c 34 _ _)))))))))))))))) K2 rfl ?_)
 refine vs (v0 (vs (vs (v0 (vn (fun _ => bU rfl) (vn (fun _ => aJ eP rfl rfl) (vl 1 (aZ gS.a) fK rfl rfl rfl (vn (fun _ => eY kH ok_Snaps.k.a rfl) ?_))))))))
 refine lT m (σ := (List aE) × Int) (τ := dS) (fun g s => ([(some k2, .obj 62 (aG p1)), OC p0K p0.Seq g.a gC.a gE.a gV, cX g s.1, bY gC p0.Chunks, dC gE p0.Exps, bL gV ((p0.Vols.set p1.Vol.toNat ({ x2 with State := 3 })).set p1.Vol.toNat ({ x3 with Files := 0 }))] ++ ((dI g s.1) ++ ((cD gC p0.Chunks) ++ (dF gE p0.Exps))))) (fun g s => oP aE.Locs 4 4 g (s.1 : List aE)) (fun g s => .c 0 (.ptr p0K 0) (.c 5 (.fn (.func 126) [.ptr k2 0]) (.c 55 (nZ (p0.Snaps.length : Int)) (.c 56 (nZ s.2) .nil)))) gS ok_Snaps (lx (.k4 .nil)) ?_ ?_
 rintro ng0 ⟨q0, q1⟩ x O0 m
 replace m : uB w p0 p1 q0 q1 = some x := m
 unfold uB at m
 refine vs (v0 (vs (v0 ?_)))
 refine vi m (fun c1 m => ?_) fun c1 m => ?_
 refine v0 (vs (v0 (vs (v0 (v0 ?_)))))
 refine vz [(1000000, some p0K, .obj 30 ([nZ p0.Seq, aZ ng0.a, aZ gC.a, aZ gE.a, aZ gV])), (17, ng0.a.t, .obj 60 (fl kZ (zg (q0 : List aE) ng0.gs) ng0.a.sp))] mixed (fun u => ⟨fun _ => aO 1 u rfl, fun _ => aO 2 u rfl, trivial⟩) fun u => ?_
 refine aM 0 rfl (fun _ _ _ _ => bN (.ptr _ _) rfl) ?_
 refine aM 1 rfl (fun _ _ _ _ => bU rfl) ?_
 refine aM 2 rfl (fun _ _ _ _ => aJ eP rfl rfl) ?_
 refine aM 3 rfl (fun _ _ hi hB => bH (aZ ng0.a) fK rfl (At.s (bR.get 0 hi rfl (hB 1000000 (by kernel_rfl)))) rfl) ?_
 refine aM 4 rfl (fun _ _ _ _ => bN (.sc (.int _ _)) rfl) ?_
 refine aM 5 rfl (fun _ _ _ _ => bN (.fn _ _) rfl) ?_
 refine aM 6 rfl (fun _ _ _ _ => bN (.ptr _ _) rfl) ?_
 refine aM 7 rfl (fun _ _ _ _ => bU rfl) ?_
 refine aM 8 rfl (fun _ _ _ _ => aJ eP rfl rfl) ?_
 refine aM 9 rfl (fun _ _ hi hB => bH (aZ ng0.a) fK rfl (At.s (bR.get 0 hi rfl (hB 1000000 (by kernel_rfl)))) rfl) ?_
 refine aM 10 rfl (fun _ _ _ _ => bN (.sc (.int _ _)) rfl) ?_
 obtain ⟨x4, X3, m⟩ := aC m
 refine aM 11 rfl (fun _ _ _ _ => dE (O0.k.ix X3) kJ O0.k.z rfl rfl) ?_
 refine aM 12 rfl (fun _ _ _ _ => dJ (bJ.ne O0.k.z (O0.k.ix X3)) iV rfl rfl) ?_
 obtain ⟨gv0, hg0, ga0, gn0⟩ := O0.gx X3
 refine aM 13 rfl (fun _ _ hi hB => iD (eZ (fo := 3) (awO aQ 4 (gx ng0.gs q1.toNat) x4.Locs) (O0.k.ix X3) lP O0.k.z fE rfl (bR.get 1 hi rfl (hB 17 (by kernel_rfl))) (fun _ => rfl)) (aX.of_eq (congrArg (fun z => awO aQ 4 z x4.Locs) hg0))) ?_
 obtain ⟨y0, Y0, m⟩ := aC m
 refine eX 14 rfl (by kernel_rfl) ?_
 have ho0 := yA (R := ([(some k2, .obj 62 (aG p1)), OC p0K p0.Seq ng0.a gC.a gE.a gV, cX ng0 q0, bY gC p0.Chunks, dC gE p0.Exps, bL gV ((p0.Vols.set p1.Vol.toNat ({ x2 with State := 3 })).set p1.Vol.toNat ({ x3 with Files := 0 }))] ++ ((kO 81 aQ ((nl aE.Locs (zg (q0 : List aE) ng0.gs)).eraseIdx q1.toNat)) ++ ((cD gC p0.Chunks) ++ (dF gE p0.Exps))))) u [[_], [_], [_], [_], [_], [_], _, _, _] rfl 6 rfl gn0 rfl
 have ho1 := dG [(gv0.t, .obj 81 (fl aQ (x4.Locs : List bI) gv0.sp))] _ ho0.2
 refine dX (ho0.1.trans (dM h [(gv0.t, .obj 81 (fl aQ (x4.Locs : List bI) gv0.sp))] _).symm) (cV (HH _ ga0 ho1.2 (bB 0 ho1.1 rfl) Y0) rfl HI rfl ?_)
 rintro x h' ⟨ag0, O1, K4, rfl, rfl⟩
 refine mN (dM h [h9 ag0 y0] _) ?_
 refine ⟨⟨fun _ => aO 2 (eU ho1.1 K4) rfl, fun _ => aO 3 (eU ho1.1 K4) rfl, trivial⟩, ?_⟩
 obtain ⟨x5, X4, m⟩ := aC m
 refine aM 15 rfl (fun _ _ _ _ => dE (O0.k.ix X4) kJ O0.k.z rfl rfl) ?_
 refine aM 16 rfl (fun _ _ _ _ => dJ (bJ.ne O0.k.z (O0.k.ix X4)) iV rfl rfl) ?_
 refine eX 17 rfl (by kernel_rfl) (cR (fo := 3) (x' := (({ x5 with Locs := y0 } : aE), some ag0)) 3 (eU ho1.1 K4) (O0.k.ix X4) lP O0.k.z rfl rfl (cI rfl) (cK (bX _ _ _) rfl) (cO.refl _ _) m8 rfl rfl ?_)
 intro K5
 have O2 := O0.setL (x' := ({ x5 with Locs := y0 } : aE)) X4 ag0 O1
 have hr0 := wE (L' := (ag0.t, .obj 81 (fl aQ (y0 : List bI) ag0.sp)) :: (([(some k2, .obj 62 (aG p1)), OC p0K p0.Seq ng0.a gC.a gE.a gV, (ng0.a.t, .obj 60 (fl kZ (((zg (q0 : List aE) ng0.gs)).set q1.toNat (({ x5 with Locs := y0 } : aE), some ag0)) ng0.a.sp)), bY gC p0.Chunks, dC gE p0.Exps, bL gV ((p0.Vols.set p1.Vol.toNat ({ x2 with State := 3 })).set p1.Vol.toNat ({ x3 with Files := 0 }))] : HL) ++ ((kO 81 aQ ((nl aE.Locs (zg (q0 : List aE) ng0.gs)).eraseIdx q1.toNat)) ++ ((cD gC p0.Chunks) ++ (dF gE p0.Exps))))) K5 [[_], [_], [_], [_], [_], [_], [_], _, _, _] rfl [0, 1, 2, 3, 4, 5, 6, 7, 8, 9] rfl rfl
 have hj0 := qX (L' := ([(some k2, .obj 62 (aG p1)), OC p0K p0.Seq ((⟨ng0.a, ng0.gs.set q1.toNat (some ag0)⟩ : dS).a) gC.a gE.a gV, cX (⟨ng0.a, ng0.gs.set q1.toNat (some ag0)⟩ : dS) (q0.set q1.toNat ({ x5 with Locs := y0 })), bY gC p0.Chunks, dC gE p0.Exps, bL gV ((p0.Vols.set p1.Vol.toNat ({ x2 with State := 3 })).set p1.Vol.toNat ({ x3 with Files := 0 }))] ++ ((dI (⟨ng0.a, ng0.gs.set q1.toNat (some ag0)⟩ : dS) (q0.set q1.toNat ({ x5 with Locs := y0 }))) ++ ((cD gC p0.Chunks) ++ (dF gE p0.Exps))))) [[_], [_], [_], [_], [_], [_], _, _, _] rfl 6 (zs := nl aE.Locs (zg (q0 : List aE) ng0.gs)) (j := q1.toNat) (aE.Locs ({ x5 with Locs := y0 } : aE), some ag0) (jW (O0.k.nlat X4)) rfl hr0.2 (by rw [← (O0.k.setL (x' := ({ x5 with Locs := y0 } : aE)) X4 ag0 O1).2.2, (O0.k.setL (x' := ({ x5 with Locs := y0 } : aE)) X4 ag0 O1).2.1]; rfl)
 refine mN (hr0.1.trans hj0.1) ?_
 refine ⟨⟨fun _ => aO 1 hj0.2 rfl, fun e => absurd e (by decide), trivial⟩, ?_⟩
 refine dL (by kernel_rfl) (qk (f := .c 75 _ (.c 74 _ (.c 73 _ (.c 72 _ (.c 71 _ (.c 70 _ (.c 69 _ (.c 68 _ (.c 67 _ (.c 66 _ (.c 65 _ (.c 64 _ (.c 63 _ (.c 62 _ (.c 61 _ (.c 60 _ (.c 59 _ _))))))))))))))))) hj0.2 rfl ?_)
 refine v0 ?_
 exact fH m (⟨ng0.a, ng0.gs.set q1.toNat (some ag0)⟩ : dS) O2 (lx (.k4 .nil))
 refine v0 ?_
 exact lD m ng0 O0 (lx (.k4 .nil))
 rintro ng1 ⟨r0, r1⟩ t0 m
 refine vs (vs (v0 (vn (fun _ => bU rfl) (vn (fun _ => aJ eL rfl rfl) (vl 1 (aZ gC.a) eF rfl rfl rfl (vn (fun _ => eY hS oC.k.a rfl) ?_))))))
 refine lT m (σ := (List aA) × Int) (τ := dS) (fun g s => ([(some k2, .obj 62 (aG p1)), OC p0K p0.Seq ng1.a g.a gE.a gV, cX ng1 r0, bY g s.1, dC gE p0.Exps, bL gV ((p0.Vols.set p1.Vol.toNat ({ x2 with State := 3 })).set p1.Vol.toNat ({ x3 with Files := 0 }))] ++ ((dI ng1 r0) ++ ((cD g s.1) ++ (dF gE p0.Exps))))) (fun g s => oP aA.Locs 35 4 g (s.1 : List aA)) (fun g s => .c 0 (.ptr p0K 0) (.c 5 (.fn (.func 126) [.ptr k2 0]) (.c 81 (nZ (p0.Chunks.length : Int)) (.c 82 (nZ s.2) .nil)))) gC oC (lx (.k4 .nil)) ?_ ?_
 rintro ng2 ⟨q2, q3⟩ x O3 m
 replace m : uC w p0 p1 q2 q3 = some x := m
 unfold uC at m
 refine vs (v0 (vs (v0 ?_)))
 refine vi m (fun c2 m => ?_) fun c2 m => ?_
 refine v0 (vs (v0 (vs (v0 (v0 ?_)))))
 refine vz [(1000000, some p0K, .obj 30 ([nZ p0.Seq, aZ ng1.a, aZ ng2.a, aZ gE.a, aZ gV])), (17, ng2.a.t, .obj 44 (fl jG (zg (q2 : List aA) ng2.gs) ng2.a.sp))] mixed (fun u => ⟨fun _ => aO 1 u rfl, fun _ => aO 3 u rfl, trivial⟩) fun u => ?_
 refine aM 0 rfl (fun _ _ _ _ => bN (.ptr _ _) rfl) ?_
 refine aM 1 rfl (fun _ _ _ _ => bU rfl) ?_
 refine aM 2 rfl (fun _ _ _ _ => aJ eL rfl rfl) ?_
 refine aM 3 rfl (fun _ _ hi hB => bH (aZ ng2.a) eF rfl (At.s (bR.get 0 hi rfl (hB 1000000 (by kernel_rfl)))) rfl) ?_
 refine aM 4 rfl (fun _ _ _ _ => bN (.sc (.int _ _)) rfl) ?_
 refine aM 5 rfl (fun _ _ _ _ => bN (.fn _ _) rfl) ?_
 refine aM 6 rfl (fun _ _ _ _ => bN (.ptr _ _) rfl) ?_
 refine aM 7 rfl (fun _ _ _ _ => bU rfl) ?_
 refine aM 8 rfl (fun _ _ _ _ => aJ eL rfl rfl) ?_
 refine aM 9 rfl (fun _ _ hi hB => bH (aZ ng2.a) eF rfl (At.s (bR.get 0 hi rfl (hB 1000000 (by kernel_rfl)))) rfl) ?_
 refine aM 10 rfl (fun _ _ _ _ => bN (.sc (.int _ _)) rfl) ?_
 obtain ⟨x6, X5, m⟩ := aC m
 refine aM 11 rfl (fun _ _ _ _ => dE (O3.k.ix X5) eW O3.k.z rfl rfl) ?_
 refine aM 12 rfl (fun _ _ _ _ => dJ (bJ.ne O3.k.z (O3.k.ix X5)) iL rfl rfl) ?_
 obtain ⟨gv1, hg1, ga1, gn1⟩ := O3.gx X5
 refine aM 13 rfl (fun _ _ hi hB => iD (eZ (fo := 34) (awO aQ 4 (gx ng2.gs q3.toNat) x6.Locs) (O3.k.ix X5) jX O3.k.z fE rfl (bR.get 1 hi rfl (hB 17 (by kernel_rfl))) (fun _ => rfl)) (aX.of_eq (congrArg (fun z => awO aQ 4 z x6.Locs) hg1))) ?_
 obtain ⟨y1, Y1, m⟩ := aC m
 refine eX 14 rfl (by kernel_rfl) ?_
 have ho2 := yA (R := ([(some k2, .obj 62 (aG p1)), OC p0K p0.Seq ng1.a ng2.a gE.a gV, cX ng1 r0, bY ng2 q2, dC gE p0.Exps, bL gV ((p0.Vols.set p1.Vol.toNat ({ x2 with State := 3 })).set p1.Vol.toNat ({ x3 with Files := 0 }))] ++ ((dI ng1 r0) ++ ((kO 81 aQ ((nl aA.Locs (zg (q2 : List aA) ng2.gs)).eraseIdx q3.toNat)) ++ (dF gE p0.Exps))))) u [[_], [_], [_], [_], [_], [_], _, _, _] rfl 7 rfl gn1 rfl
 have ho3 := dG [(gv1.t, .obj 81 (fl aQ (x6.Locs : List bI) gv1.sp))] _ ho2.2
 refine dX (ho2.1.trans (dM h [(gv1.t, .obj 81 (fl aQ (x6.Locs : List bI) gv1.sp))] _).symm) (cV (HH _ ga1 ho3.2 (bB 0 ho3.1 rfl) Y1) rfl HI rfl ?_)
 rintro x h' ⟨ag1, O4, K6, rfl, rfl⟩
 refine mN (dM h [h9 ag1 y1] _) ?_
 refine ⟨⟨fun _ => aO 2 (eU ho3.1 K6) rfl, fun _ => aO 4 (eU ho3.1 K6) rfl, trivial⟩, ?_⟩
 obtain ⟨x7, X6, m⟩ := aC m
 refine aM 15 rfl (fun _ _ _ _ => dE (O3.k.ix X6) eW O3.k.z rfl rfl) ?_
 refine aM 16 rfl (fun _ _ _ _ => dJ (bJ.ne O3.k.z (O3.k.ix X6)) iL rfl rfl) ?_
 refine eX 17 rfl (by kernel_rfl) (cR (fo := 34) (x' := (({ x7 with Locs := y1 } : aA), some ag1)) 4 (eU ho3.1 K6) (O3.k.ix X6) jX O3.k.z rfl rfl (cI rfl) (cK (bX _ _ _) rfl) (cO.refl _ _) m8 rfl rfl ?_)
 intro K7
 have O5 := O3.setL (x' := ({ x7 with Locs := y1 } : aA)) X6 ag1 O4
 have hr1 := wE (L' := (ag1.t, .obj 81 (fl aQ (y1 : List bI) ag1.sp)) :: (([(some k2, .obj 62 (aG p1)), OC p0K p0.Seq ng1.a ng2.a gE.a gV, cX ng1 r0, (ng2.a.t, .obj 44 (fl jG (((zg (q2 : List aA) ng2.gs)).set q3.toNat (({ x7 with Locs := y1 } : aA), some ag1)) ng2.a.sp)), dC gE p0.Exps, bL gV ((p0.Vols.set p1.Vol.toNat ({ x2 with State := 3 })).set p1.Vol.toNat ({ x3 with Files := 0 }))] : HL) ++ ((dI ng1 r0) ++ ((kO 81 aQ ((nl aA.Locs (zg (q2 : List aA) ng2.gs)).eraseIdx q3.toNat)) ++ (dF gE p0.Exps))))) K7 [[_], [_], [_], [_], [_], [_], [_], _, _, _] rfl [0, 1, 2, 3, 4, 5, 6, 7, 8, 9] rfl rfl
 have hj1 := qX (L' := ([(some k2, .obj 62 (aG p1)), OC p0K p0.Seq ng1.a ((⟨ng2.a, ng2.gs.set q3.toNat (some ag1)⟩ : dS).a) gE.a gV, cX ng1 r0, bY (⟨ng2.a, ng2.gs.set q3.toNat (some ag1)⟩ : dS) (q2.set q3.toNat ({ x7 with Locs := y1 })), dC gE p0.Exps, bL gV ((p0.Vols.set p1.Vol.toNat ({ x2 with State := 3 })).set p1.Vol.toNat ({ x3 with Files := 0 }))] ++ ((dI ng1 r0) ++ ((cD (⟨ng2.a, ng2.gs.set q3.toNat (some ag1)⟩ : dS) (q2.set q3.toNat ({ x7 with Locs := y1 }))) ++ (dF gE p0.Exps))))) [[_], [_], [_], [_], [_], [_], _, _, _] rfl 7 (zs := nl aA.Locs (zg (q2 : List aA) ng2.gs)) (j := q3.toNat) (aA.Locs ({ x7 with Locs := y1 } : aA), some ag1) (jW (O3.k.nlat X6)) rfl hr1.2 (by rw [← (O3.k.setL (x' := ({ x7 with Locs := y1 } : aA)) X6 ag1 O4).2.2, (O3.k.setL (x' := ({ x7 with Locs := y1 } : aA)) X6 ag1 O4).2.1]; rfl)
 refine mN (hr1.1.trans hj1.1) ?_
 refine ⟨⟨fun _ => aO 1 hj1.2 rfl, fun e => absurd e (by decide), trivial⟩, ?_⟩
 refine dL (by kernel_rfl) (qk (f := .c 101 _ (.c 100 _ (.c 99 _ (.c 98 _ (.c 97 _ (.c 96 _ (.c 95 _ (.c 94 _ (.c 93 _ (.c 92 _ (.c 91 _ (.c 90 _ (.c 89 _ (.c 88 _ (.c 87 _ (.c 86 _ (.c 85 _ _))))))))))))))))) hj1.2 rfl ?_)
 refine v0 ?_
 exact fH m (⟨ng2.a, ng2.gs.set q3.toNat (some ag1)⟩ : dS) O5 (lx (.k4 .nil))
 refine v0 ?_
 exact lD m ng2 O3 (lx (.k4 .nil))
 rintro ng3 ⟨r2, r3⟩ t1 m
 refine vs (vs (v0 (vn (fun _ => bU rfl) (vn (fun _ => aJ fC rfl rfl) (vl 1 (aZ gE.a) iK rfl rfl rfl (vn (fun _ => eY o7 oE.k.a rfl) ?_))))))
 refine lT m (σ := (List aI) × Int) (τ := dS) (fun g s => ([(some k2, .obj 62 (aG p1)), OC p0K p0.Seq ng1.a ng3.a g.a gV, cX ng1 r0, bY ng3 r2, dC g s.1, bL gV ((p0.Vols.set p1.Vol.toNat ({ x2 with State := 3 })).set p1.Vol.toNat ({ x3 with Files := 0 }))] ++ ((dI ng1 r0) ++ ((cD ng3 r2) ++ (dF g s.1))))) (fun g s => oP aI.Locs 3 4 g (s.1 : List aI)) (fun g s => .c 0 (.ptr p0K 0) (.c 5 (.fn (.func 126) [.ptr k2 0]) (.c 107 (nZ (p0.Exps.length : Int)) (.c 108 (nZ s.2) .nil)))) gE oE (lx (.k4 .nil)) ?_ ?_
 rintro ng4 ⟨q4, q5⟩ x O6 m
 replace m : uD w p0 p1 q4 q5 = some x := m
 unfold uD at m
 refine vs (v0 (vs (v0 ?_)))
 refine vi m (fun c3 m => ?_) fun c3 m => ?_
 refine v0 (vs (v0 (vs (v0 (v0 ?_)))))
 refine vz [(1000000, some p0K, .obj 30 ([nZ p0.Seq, aZ ng1.a, aZ ng3.a, aZ ng4.a, aZ gV])), (17, ng4.a.t, .obj 99 (fl nH (zg (q4 : List aI) ng4.gs) ng4.a.sp))] mixed (fun u => ⟨fun _ => aO 1 u rfl, fun _ => aO 4 u rfl, trivial⟩) fun u => ?_
 refine aM 0 rfl (fun _ _ _ _ => bN (.ptr _ _) rfl) ?_
 refine aM 1 rfl (fun _ _ _ _ => bU rfl) ?_
 refine aM 2 rfl (fun _ _ _ _ => aJ fC rfl rfl) ?_
 refine aM 3 rfl (fun _ _ hi hB => bH (aZ ng4.a) iK rfl (At.s (bR.get 0 hi rfl (hB 1000000 (by kernel_rfl)))) rfl) ?_
 refine aM 4 rfl (fun _ _ _ _ => bN (.sc (.int _ _)) rfl) ?_
 refine aM 5 rfl (fun _ _ _ _ => bN (.fn _ _) rfl) ?_
 refine aM 6 rfl (fun _ _ _ _ => bN (.ptr _ _) rfl) ?_
 refine aM 7 rfl (fun _ _ _ _ => bU rfl) ?_
 refine aM 8 rfl (fun _ _ _ _ => aJ fC rfl rfl) ?_
 refine aM 9 rfl (fun _ _ hi hB => bH (aZ ng4.a) iK rfl (At.s (bR.get 0 hi rfl (hB 1000000 (by kernel_rfl)))) rfl) ?_
 refine aM 10 rfl (fun _ _ _ _ => bN (.sc (.int _ _)) rfl) ?_
 obtain ⟨x8, X7, m⟩ := aC m
 refine aM 11 rfl (fun _ _ _ _ => dE (O6.k.ix X7) jQ O6.k.z rfl rfl) ?_
 refine aM 12 rfl (fun _ _ _ _ => dJ (bJ.ne O6.k.z (O6.k.ix X7)) kM rfl rfl) ?_
 obtain ⟨gv2, hg2, ga2, gn2⟩ := O6.gx X7
 refine aM 13 rfl (fun _ _ hi hB => iD (eZ (fo := 2) (awO aQ 4 (gx ng4.gs q5.toNat) x8.Locs) (O6.k.ix X7) rS O6.k.z fE rfl (bR.get 1 hi rfl (hB 17 (by kernel_rfl))) (fun _ => rfl)) (aX.of_eq (congrArg (fun z => awO aQ 4 z x8.Locs) hg2))) ?_
 obtain ⟨y2, Y2, m⟩ := aC m
 refine eX 14 rfl (by kernel_rfl) ?_
 have ho4 := yA (R := ([(some k2, .obj 62 (aG p1)), OC p0K p0.Seq ng1.a ng3.a ng4.a gV, cX ng1 r0, bY ng3 r2, dC ng4 q4, bL gV ((p0.Vols.set p1.Vol.toNat ({ x2 with State := 3 })).set p1.Vol.toNat ({ x3 with Files := 0 }))] ++ ((dI ng1 r0) ++ ((cD ng3 r2) ++ (kO 81 aQ ((nl aI.Locs (zg (q4 : List aI) ng4.gs)).eraseIdx q5.toNat)))))) u [[_], [_], [_], [_], [_], [_], _, _, _] rfl 8 rfl gn2 rfl
 have ho5 := dG [(gv2.t, .obj 81 (fl aQ (x8.Locs : List bI) gv2.sp))] _ ho4.2
 refine dX (ho4.1.trans (dM h [(gv2.t, .obj 81 (fl aQ (x8.Locs : List bI) gv2.sp))] _).symm) (cV (HH _ ga2 ho5.2 (bB 0 ho5.1 rfl) Y2) rfl HI rfl ?_)
 rintro x h' ⟨ag2, O7, K8, rfl, rfl⟩
 refine mN (dM h [h9 ag2 y2] _) ?_
 refine ⟨⟨fun _ => aO 2 (eU ho5.1 K8) rfl, fun _ => aO 5 (eU ho5.1 K8) rfl, trivial⟩, ?_⟩
 obtain ⟨x9, X8, m⟩ := aC m
 refine aM 15 rfl (fun _ _ _ _ => dE (O6.k.ix X8) jQ O6.k.z rfl rfl) ?_
 refine aM 16 rfl (fun _ _ _ _ => dJ (bJ.ne O6.k.z (O6.k.ix X8)) kM rfl rfl) ?_
 refine eX 17 rfl (by kernel_rfl) (cR (fo := 2) (x' := (({ x9 with Locs := y2 } : aI), some ag2)) 5 (eU ho5.1 K8) (O6.k.ix X8) rS O6.k.z rfl rfl (cI rfl) (cK (bX _ _ _) rfl) (cO.refl _ _) m8 rfl rfl ?_)
 intro K9
 have O8 := O6.setL (x' := ({ x9 with Locs := y2 } : aI)) X8 ag2 O7
 have hr2 := wE (L' := (ag2.t, .obj 81 (fl aQ (y2 : List bI) ag2.sp)) :: (([(some k2, .obj 62 (aG p1)), OC p0K p0.Seq ng1.a ng3.a ng4.a gV, cX ng1 r0, bY ng3 r2, (ng4.a.t, .obj 99 (fl nH (((zg (q4 : List aI) ng4.gs)).set q5.toNat (({ x9 with Locs := y2 } : aI), some ag2)) ng4.a.sp)), bL gV ((p0.Vols.set p1.Vol.toNat ({ x2 with State := 3 })).set p1.Vol.toNat ({ x3 with Files := 0 }))] : HL) ++ ((dI ng1 r0) ++ ((cD ng3 r2) ++ (kO 81 aQ ((nl aI.Locs (zg (q4 : List aI) ng4.gs)).eraseIdx q5.toNat)))))) K9 [[_], [_], [_], [_], [_], [_], [_], _, _, _] rfl [0, 1, 2, 3, 4, 5, 6, 7, 8, 9] rfl rfl
 have hj2 := qX (L' := ([(some k2, .obj 62 (aG p1)), OC p0K p0.Seq ng1.a ng3.a ((⟨ng4.a, ng4.gs.set q5.toNat (some ag2)⟩ : dS).a) gV, cX ng1 r0, bY ng3 r2, dC (⟨ng4.a, ng4.gs.set q5.toNat (some ag2)⟩ : dS) (q4.set q5.toNat ({ x9 with Locs := y2 })), bL gV ((p0.Vols.set p1.Vol.toNat ({ x2 with State := 3 })).set p1.Vol.toNat ({ x3 with Files := 0 }))] ++ ((dI ng1 r0) ++ ((cD ng3 r2) ++ (dF (⟨ng4.a, ng4.gs.set q5.toNat (some ag2)⟩ : dS) (q4.set q5.toNat ({ x9 with Locs := y2 }))))))) [[_], [_], [_], [_], [_], [_], _, _, _] rfl 8 (zs := nl aI.Locs (zg (q4 : List aI) ng4.gs)) (j := q5.toNat) (aI.Locs ({ x9 with Locs := y2 } : aI), some ag2) (jW (O6.k.nlat X8)) rfl hr2.2 (by rw [← (O6.k.setL (x' := ({ x9 with Locs := y2 } : aI)) X8 ag2 O7).2.2, (O6.k.setL (x' := ({ x9 with Locs := y2 } : aI)) X8 ag2 O7).2.1]; rfl)
 refine mN (hr2.1.trans hj2.1) ?_
 refine ⟨⟨fun _ => aO 1 hj2.2 rfl, fun e => absurd e (by decide), trivial⟩, ?_⟩
 refine dL (by kernel_rfl) (qk (f := .c 127 _ (.c 126 _ (.c 125 _ (.c 124 _ (.c 123 _ (.c 122 _ (.c 121 _ (.c 120 _ (.c 119 _ (.c 118 _ (.c 117 _ (.c 116 _ (.c 115 _ (.c 114 _ (.c 113 _ (.c 112 _ (.c 111 _ _))))))))))))))))) hj2.2 rfl ?_)
 refine v0 ?_
 exact fH m (⟨ng4.a, ng4.gs.set q5.toNat (some ag2)⟩ : dS) O8 (lx (.k4 .nil))
 refine v0 ?_
 exact lD m ng4 O6 (lx (.k4 .nil))
 rintro ng5 ⟨r4, r5⟩ t2 m
 refine vs (oO (JP (L' := ([(some k2, .obj 62 (aG p1)), OC p0K p0.Seq ng1.a ng3.a ng5.a gV, cJ ng1.a r0, bY ng3 r2, dC ng5 r4, bL gV ((p0.Vols.set p1.Vol.toNat ({ x2 with State := 3 })).set p1.Vol.toNat ({ x3 with Files := 0 }))] ++ ((cD ng3 r2) ++ (dF ng5 r4)))) [[_], [_], [_], [_], [_], [_], _, _, _] rfl 2 6 iT yE t0.k rfl rfl (by decide) rfl) (oO (JP (L' := ([(some k2, .obj 62 (aG p1)), OC p0K p0.Seq ng1.a ng3.a ng5.a gV, cJ ng1.a r0, cF ng3.a r2, dC ng5 r4, bL gV ((p0.Vols.set p1.Vol.toNat ({ x2 with State := 3 })).set p1.Vol.toNat ({ x3 with Files := 0 }))] ++ (dF ng5 r4))) [[_], [_], [_], [_], [_], [_], _, _] rfl 3 6 iT tZ t1.k rfl rfl (by decide) rfl) (oO (JP (L' := [(some k2, .obj 62 (aG p1)), OC p0K p0.Seq ng1.a ng3.a ng5.a gV, cJ ng1.a r0, cF ng3.a r2, eC ng5.a r4, bL gV ((p0.Vols.set p1.Vol.toNat ({ x2 with State := 3 })).set p1.Vol.toNat ({ x3 with Files := 0 }))]) [[_], [_], [_], [_], [_], [_], _] rfl 4 6 iT CT t2.k rfl rfl (by decide) rfl) (v0 (vn (fun _ => bU rfl) (vn (fun _ => aJ eL rfl rfl) (vl 1 (aZ ng3.a) eF rfl rfl rfl ?_)))))))
 obtain ⟨y3, Y3, m⟩ := aC m
 refine ve fun u => dX ((bK u [3, 0, 1, 2, 4, 5] rfl rfl).1.trans (dM h [cF ng3.a r2] [(some k2, .obj 62 (aG p1)), OC p0K p0.Seq ng1.a ng3.a ng5.a gV, cJ ng1.a r0, eC ng5.a r4, bL gV ((p0.Vols.set p1.Vol.toNat ({ x2 with State := 3 })).set p1.Vol.toNat ({ x3 with Files := 0 }))]).symm) (cV (Q8 (hp h [(some k2, .obj 62 (aG p1)), OC p0K p0.Seq ng1.a ng3.a ng5.a gV, cJ ng1.a r0, eC ng5.a r4, bL gV ((p0.Vols.set p1.Vol.toNat ({ x2 with State := 3 })).set p1.Vol.toNat ({ x3 with Files := 0 }))]) t1.k.a (dG [cF ng3.a r2] [(some k2, .obj 62 (aG p1)), OC p0K p0.Seq ng1.a ng3.a ng5.a gV, cJ ng1.a r0, eC ng5.a r4, bL gV ((p0.Vols.set p1.Vol.toNat ({ x2 with State := 3 })).set p1.Vol.toNat ({ x3 with Files := 0 }))] (bK u [3, 0, 1, 2, 4, 5] rfl rfl).2).2 Q7 (fun x0 o h0 hs ho => VO _ ho) Y3) rfl Q9 rfl ?_)
 rintro x h' ⟨ag3, O9, K10, rfl, rfl⟩
 have K11 := bK (L' := [(some k2, .obj 62 (aG p1)), (some p0K, .obj 30 ([nZ p0.Seq, aZ ng1.a, aZ ng3.a, aZ ng5.a, aZ gV])), cJ ng1.a r0, cF ag3 y3, eC ng5.a r4, bL gV ((p0.Vols.set p1.Vol.toNat ({ x2 with State := 3 })).set p1.Vol.toNat ({ x3 with Files := 0 }))]) (eU (dG [cF ng3.a r2] [(some k2, .obj 62 (aG p1)), OC p0K p0.Seq ng1.a ng3.a ng5.a gV, cJ ng1.a r0, eC ng5.a r4, bL gV ((p0.Vols.set p1.Vol.toNat ({ x2 with State := 3 })).set p1.Vol.toNat ({ x3 with Files := 0 }))] (bK u [3, 0, 1, 2, 4, 5] rfl rfl).2).1 K10) [1, 2, 3, 0, 4, 5] rfl rfl
 refine qk K11.2 ((dM h [cF ag3 y3] [(some k2, .obj 62 (aG p1)), OC p0K p0.Seq ng1.a ng3.a ng5.a gV, cJ ng1.a r0, eC ng5.a r4, bL gV ((p0.Vols.set p1.Vol.toNat ({ x2 with State := 3 })).set p1.Vol.toNat ({ x3 with Files := 0 }))]).trans K11.1) ?_
 refine vn (fun _ => bU rfl) (vn (fun _ => aJ eL rfl rfl) ?_)
 refine ve fun u => aL 1 ([nZ p0.Seq, aZ ng1.a, aZ ag3, aZ ng5.a, aZ gV]) u rfl rfl (cI rfl) (cK (bX _ _ _) rfl) xO rfl rfl fun K12 => qk K12 rfl ?_
 refine vs (v0 (vn (fun _ => bU rfl) (vn (fun _ => aJ fC rfl rfl) (vl 1 (aZ ng5.a) iK rfl rfl rfl ?_))))
 obtain ⟨y4, Y4, m⟩ := aC m
 refine ve fun u => dX ((bK u [4, 0, 1, 2, 3, 5] rfl rfl).1.trans (dM h [eC ng5.a r4] [(some k2, .obj 62 (aG p1)), OC p0K p0.Seq ng1.a ag3 ng5.a gV, cJ ng1.a r0, cF ag3 y3, bL gV ((p0.Vols.set p1.Vol.toNat ({ x2 with State := 3 })).set p1.Vol.toNat ({ x3 with Files := 0 }))]).symm) (cV (RB (hp h [(some k2, .obj 62 (aG p1)), OC p0K p0.Seq ng1.a ag3 ng5.a gV, cJ ng1.a r0, cF ag3 y3, bL gV ((p0.Vols.set p1.Vol.toNat ({ x2 with State := 3 })).set p1.Vol.toNat ({ x3 with Files := 0 }))]) t2.k.a (dG [eC ng5.a r4] [(some k2, .obj 62 (aG p1)), OC p0K p0.Seq ng1.a ag3 ng5.a gV, cJ ng1.a r0, cF ag3 y3, bL gV ((p0.Vols.set p1.Vol.toNat ({ x2 with State := 3 })).set p1.Vol.toNat ({ x3 with Files := 0 }))] (bK u [4, 0, 1, 2, 3, 5] rfl rfl).2).2 RA (fun x0 o h0 hs ho => VP _ ho) Y4) rfl RC rfl ?_)
 rintro x h' ⟨ag4, O10, K13, rfl, rfl⟩
 have K14 := bK (L' := [(some k2, .obj 62 (aG p1)), (some p0K, .obj 30 ([nZ p0.Seq, aZ ng1.a, aZ ag3, aZ ng5.a, aZ gV])), cJ ng1.a r0, cF ag3 y3, eC ag4 y4, bL gV ((p0.Vols.set p1.Vol.toNat ({ x2 with State := 3 })).set p1.Vol.toNat ({ x3 with Files := 0 }))]) (eU (dG [eC ng5.a r4] [(some k2, .obj 62 (aG p1)), OC p0K p0.Seq ng1.a ag3 ng5.a gV, cJ ng1.a r0, cF ag3 y3, bL gV ((p0.Vols.set p1.Vol.toNat ({ x2 with State := 3 })).set p1.Vol.toNat ({ x3 with Files := 0 }))] (bK u [4, 0, 1, 2, 3, 5] rfl rfl).2).1 K13) [1, 2, 3, 4, 0, 5] rfl rfl
 refine qk K14.2 ((dM h [eC ag4 y4] [(some k2, .obj 62 (aG p1)), OC p0K p0.Seq ng1.a ag3 ng5.a gV, cJ ng1.a r0, cF ag3 y3, bL gV ((p0.Vols.set p1.Vol.toNat ({ x2 with State := 3 })).set p1.Vol.toNat ({ x3 with Files := 0 }))]).trans K14.1) ?_
 refine vn (fun _ => bU rfl) (vn (fun _ => aJ fC rfl rfl) ?_)
 refine ve fun u => aL 1 ([nZ p0.Seq, aZ ng1.a, aZ ag3, aZ ag4, aZ gV]) u rfl rfl (cI rfl) (cK (bX _ _ _) rfl) F3 rfl rfl fun K15 => qk K15 rfl ?_
 refine vs (v0 (v0 ?_))
 cases m
 exact vr fun u => dY.of1 (.inl rfl) (fL _ _ (.sc (.int _ _)) rfl) (bO u [1, 2, 3, 4, 5] rfl).2 (aX.refl _ _) ⟨ng1.a, t0.k.a, ag3, O9, ag4, O10, gV, (bJ.set (bJ.set oV)), (bO u [1, 2, 3, 4, 5] rfl).1, rfl, rfl⟩
theorem VQ : aU Tryz.prog 75 = true := by kernel_rfl
open Go.Vm
def JU (m : Nat) (p0 : List bP) : Option (List bP) := app [] p0
theorem VS {w : Nat} {p0 : List bP} {o : List bP} (h : aH) (m : JU w p0 = some o) :
 aP Tryz.prog 170 [.sl none 32 (List.map bF p0)] h (fun r h' => ∃ t, (t = none → o = []) ∧ bS h [(t, .tok 36 32 (o.length * 32))] ∧ r = ow t 32 (List.map bF o) ∧ h' = hp h [(t, .tok 36 32 (o.length * 32))]) := by
 refine iA 8 [.tmp 2] Tryz.func170 rfl rfl rfl rfl ?_
 unfold JU at m
 refine fU fun K1 H1 => dW (oN (gU (.sc (.slice _ _ _)) rfl) (e9 (H1 _ _ (fU fun K1 H1 => fU fun K2 H2 => dW (vE rfl ?_)))))
 refine jE (iM rfl (by rw [uY]; rfl) (by rw [bG]; exact rfl) (.inl ⟨_, _, _, rfl, fun b hb => ?_⟩))
 refine e9 (H2 _ _ ?_)
 refine lA rfl (fun hc => ?_) (fun hc => ?_)
 have h0 : p0 = [] := by
   cases p0 with
   | nil => rfl
   | cons x l => have := hb (by simp); rw [this] at hc; cases hc
 subst h0
 obtain ⟨rfl, -⟩ := hH m
 refine fU fun K1 H1 => dW (oN (gU (.sc (.slice _ _ _)) rfl) (e9 (H1 _ _ (gN ?_))))
 exact dY.one (.inl rfl) (gX.refl _) (hM _ _) ⟨none, fun _ => rfl, bS.none (bS.nil _), rfl, rfl⟩
 refine jM (H1 _ _ (fU fun K1 H1 => dW ?_))
 refine jE (FM (c := bF) (bS.nil _) xV fun u => ?_)
 refine vE rfl ?_
 refine jE (eS (c := bF) 0 m xV rfl rfl rfl (fun _ => rfl) u rfl fun tg ot u => ?_)
 refine oN (gU (ow _ _ _) rfl) (e9 (H1 _ _ (gN ?_)))
 exact dY.one (.inl rfl) (gX.refl _) (aX.refl _ _) ⟨tg, ot, u, rfl, rfl⟩
theorem RE : aU Tryz.prog 170 = true := by kernel_rfl
def DQ (m : Nat) (p0 : List dV) : Option (List dV) := app [] p0
theorem RF {w : Nat} {p0 : List dV} {o : List dV} (h : aH) (m : DQ w p0 = some o) :
 aP Tryz.prog 169 [.sl none 3 (List.map bV p0)] h (fun r h' => ∃ g : dD, bJ g 3 o.length ∧ bS h [(g.t, .obj 70 (fl bV o g.sp))] ∧ r = aZ g ∧ h' = hp h [(g.t, .obj 70 (fl bV o g.sp))]) := by
 refine iA 8 [.tmp 2] Tryz.func169 rfl rfl rfl rfl ?_
 unfold DQ at m
 refine fU fun K1 H1 => dW (oN (gU (.sc (.slice _ _ _)) rfl) (e9 (H1 _ _ (fU fun K1 H1 => fU fun K2 H2 => dW (vE rfl ?_)))))
 refine jE (iM rfl (by rw [o9]; rfl) (by rw [bG]; exact rfl) (.inl ⟨_, _, _, rfl, fun b hb => ?_⟩))
 refine e9 (H2 _ _ ?_)
 refine lA rfl (fun hc => ?_) (fun hc => ?_)
 have h0 : p0 = [] := by
   cases p0 with
   | nil => rfl
   | cons x l => have := hb (by simp); rw [this] at hc; cases hc
 subst h0
 obtain ⟨rfl, -⟩ := hH m
 refine fU fun K1 H1 => dW (oN (gU (.sc (.slice _ _ _)) rfl) (e9 (H1 _ _ (gN ?_))))
 exact dY.one (.inl rfl) (gX.refl _) (fP _) ⟨g0, bJ.g0 _, bS.none (bS.nil _), rfl, rfl⟩
 refine jM (H1 _ _ (fU fun K1 H1 => dW ?_))
 refine jE (nM (c := bV) (bS.nil _) EI fun u => ?_)
 refine vE rfl ?_
 refine jE (fR (c := bV) 0 m EI rfl CC rfl rP rfl rfl (bJ.g0 _) u rfl fun g ok u => ?_)
 refine oN (gU (aw _ _ _) rfl) (e9 (H1 _ _ (gN ?_)))
 exact dY.one (.inl rfl) (gX.refl _) (aX.refl _ _) ⟨g, ok, u, rfl, rfl⟩
theorem RG : aU Tryz.prog 169 = true := by kernel_rfl
def pR (m : Nat) (y9 : (List dV)) (q0 : List dV) (q1 : Int) : Option (Lp ((List dV) × Int) (a9)) :=
 if (decide (q1 < (y9.length : Int))) = true then ((ix q0 q1).bind fun x0 => (JU m x0.Ids).bind fun y0 => (ix q0 q1).bind fun x1 => some (.go (q0.set q1.toNat ({ x1 with Ids := y0 }), IntKind.wrap .i64 (q1 + 1)))) else some (.brk (q0, q1))
def EW (m : Nat) (p0 : a9) : Option (a9) :=
 (DQ m p0.Parts).bind fun y9 => after (aY (fun s => pR m y9 s.1 s.2) m (y9, 0)) fun ⟨r0, r1⟩ => some ({ Name := p0.Name, Parts := r0 } : a9)
theorem RH {w : Nat} {p0 : a9} {o : a9} (h : aH) (m : EW w p0 = some o) :
 aP Tryz.prog 115 [.agg (bC p0)] h (fun r h' => r = .agg (bC o) ∧ h' = h) := by
 refine fW 28 [.cell 2 58] Tryz.func115 rfl rfl rfl rfl ?_
 unfold EW at m
 refine vs (v0 ?_)
 refine ve fun u => cQ u rfl rfl fun k2 K3 => qk K3 rfl ?_
 refine ve fun u => bE ([.sc (.string ByteArray.empty), sZ]) u GA rfl rfl fun k5 K6 => qk K6 rfl ?_
 refine vs (v0 (vn (fun _ => aJ tB rfl rfl) (vl 1 _ lG rfl rfl rfl ?_)))
 obtain ⟨y9, Y0, m⟩ := aC m
 refine ve fun u => cV (RF _ Y0) rfl RG rfl ?_
 rintro x h' ⟨ag0, O0, K0, rfl, rfl⟩
 refine qk (bS.co u K0) (gO _ _ _) ?_
 refine vn (fun _ => aJ tB rfl rfl) ?_
 refine ve fun u => aL 2 ([.sc (.string p0.Name), aZ ag0]) u rfl rfl (cI rfl) (cK (bX _ _ _) rfl) LZ rfl rfl fun K1 => qk K1 rfl ?_
 refine vs (vs (v0 (vn (fun _ => aJ tB rfl rfl) (vl 2 (aZ ag0) lG rfl rfl rfl (vn (fun _ => eY rK O0 rfl) ?_)))))
 refine lT m (σ := (List dV) × Int) (τ := dD) (fun g s => [(g.t, .obj 70 (fl bV (s.1 : List dV) g.sp)), (some k5, .obj 58 ([.sc (.string ByteArray.empty), sZ])), (some k2, .obj 58 ([.sc (.string p0.Name), aZ g]))]) (fun g s => bJ g 3 (s.1 : List dV).length) (fun g s => .c 1 (.ptr k2 0) (.c 2 (.ptr k5 0) (.c 10 (nZ (y9.length : Int)) (.c 11 (nZ s.2) .nil)))) ag0 O0 (lx (.k4 .nil)) ?_ ?_
 rintro ag1 ⟨q0, q1⟩ x O1 m
 replace m : pR w y9 q0 q1 = some x := m
 unfold pR at m
 refine vs (v0 (vs (v0 ?_)))
 refine vi m (fun c0 m => ?_) fun c0 m => ?_
 refine v0 (vs (v0 (vs (v0 (v0 ?_)))))
 refine vz [(1000000, some k2, .obj 58 ([.sc (.string p0.Name), aZ ag1])), (12, ag1.t, .obj 70 (fl bV (q0 : List dV) ag1.sp))] mixed (fun u => ⟨fun _ => aO 2 u rfl, fun _ => aO 0 u rfl, trivial⟩) fun u => ?_
 refine aM 0 rfl (fun _ _ _ _ => aJ tB rfl rfl) ?_
 refine aM 1 rfl (fun _ _ hi hB => bH (aZ ag1) lG rfl (At.s (bR.get 0 hi rfl (hB 1000000 (by kernel_rfl)))) rfl) ?_
 refine aM 2 rfl (fun _ _ _ _ => bN (.sc (.int _ _)) rfl) ?_
 refine aM 3 rfl (fun _ _ _ _ => aJ tB rfl rfl) ?_
 refine aM 4 rfl (fun _ _ hi hB => bH (aZ ag1) lG rfl (At.s (bR.get 0 hi rfl (hB 1000000 (by kernel_rfl)))) rfl) ?_
 refine aM 5 rfl (fun _ _ _ _ => bN (.sc (.int _ _)) rfl) ?_
 obtain ⟨x0, X0, m⟩ := aC m
 refine aM 6 rfl (fun _ _ _ _ => dE X0 o9 O1 rfl rfl) ?_
 refine aM 7 rfl (fun _ _ _ _ => dJ (bJ.ne O1 X0) GD rfl rfl) ?_
 refine aM 8 rfl (fun _ _ hi hB => eZ (fo := 2) (.sl none 32 (List.map bF x0.Ids)) X0 rP O1 rM rfl (bR.get 1 hi rfl (hB 12 (by kernel_rfl))) (fun _ => rfl)) ?_
 obtain ⟨y0, Y1, m⟩ := aC m
 refine eX 9 rfl (by kernel_rfl) (cV (VS _ Y1) rfl RE rfl ?_)
 rintro x h' ⟨tg0, t0, K2, rfl, rfl⟩
 rw [gO]
 refine ⟨⟨fun _ => aO 3 (bS.co u K2) rfl, fun _ => aO 1 (bS.co u K2) rfl, trivial⟩, ?_⟩
 obtain ⟨x1, X1, m⟩ := aC m
 refine aM 10 rfl (fun _ _ _ _ => dE X1 o9 O1 rfl rfl) ?_
 refine aM 11 rfl (fun _ _ _ _ => dJ (bJ.ne O1 X1) GD rfl rfl) ?_
 refine eX 12 rfl (by kernel_rfl) (sW (s := 23) (.sl none 32 (List.map bF y0)) (aV (.cons _ (.refl _)) (bS.co u K2)).1 (Fz.ale (aV (.cons _ (.refl _)) (bS.co u K2)).1 (kF _ 0 t0 (bS.co u K2) rfl (.refl _))) (cR (fo := 2) ({ x1 with Ids := y0 } : dV) 0 ((aV (.cons _ (.refl _)) (bS.co u K2)).2) X1 rP O1 rfl rfl rfl rfl (cO.refl _ _) ME rfl rfl fun K4 => ⟨⟨fun _ => aO 2 K4 rfl, fun e => absurd e (by decide), trivial⟩, ?_⟩))
 refine dL (by kernel_rfl) (qk (f := .c 25 _ (.c 24 _ (.c 23 _ (.c 22 _ (.c 21 _ (.c 20 _ (.c 19 _ (.c 18 _ (.c 17 _ (.c 16 _ (.c 15 _ (.c 14 _ _)))))))))))) K4 rfl ?_)
 refine v0 ?_
 exact fH m ag1 (bJ.set O1) (lx (.k4 .nil))
 refine v0 ?_
 exact lD m ag1 O1 (lx (.k4 .nil))
 rintro ag2 ⟨r0, r1⟩ t1 m
 refine vs (v0 (vl 2 (.agg ([.sc (.string p0.Name), aZ ag2])) lH rfl rfl rfl ?_))
 refine ve fun u => aL 1 ([.sc (.string p0.Name), aZ ag2]) u rfl rfl rfl (by repeat (first | exact rfl | refine cK (gG _ _ _) ?_ | refine cK (bX _ _ _) ?_ | refine cK (wF _ _ _ _) ?_ | refine cK rfl ?_)) uW rfl rfl fun K5 => qk K5 rfl ?_
 refine v0 ?_
 cases m
 refine TJ fun u => ?_
 obtain ⟨K7, le0⟩ := gY.fzO (n := 28) (f := _) 0 0 ([.sc (.string p0.Name), .sl none 3 (List.map bV r0)]) u rfl (.cons (Fz.refl _ _ _) (.cons (Fz.aw 0 rP t1 u rfl (.refl _)) .nil))
 exact IB.mk le0 (dY.of1 (.inl rfl) (n3 (.agg (bC ({ Name := p0.Name, Parts := r0 } : a9))) lH rfl (bB 0 K7 rfl) rfl) (aV (List.nil_sublist _) K7).1 (aX.refl _ _) ⟨rfl, rfl⟩)
theorem KP : aU Tryz.prog 115 = true := by kernel_rfl
def NJ (m : Nat) (p0 : aA) : Option (Bool) :=
 after (if (!p0.Staged) = true then (some (.brk true)) else some (.brk (decide (0 < (p0.Locs.length : Int)))) : Option (Lp (Bool) (Bool))) fun j7 => some j7
theorem VT {w : Nat} {p0 : aA} {o : Bool} (h : aH) (m : NJ w p0 = some o) :
 aP Tryz.prog 168 [.agg (aD p0)] h (fun r h' => r = .sc (.bool o) ∧ h' = h) := by
 refine fW 12 [.tmp 2] Tryz.func168 rfl rfl rfl rfl ?_
 unfold NJ at m
 refine v ?_
 refine ve fun u => cQ u rfl rfl fun k2 K3 => qk K3 rfl ?_
 refine vs ?_
 refine cW m (σ := Bool) (τ := Unit) (fun g s => [(some k2, .obj 44 (aD p0))]) (fun g s => .c 2 (.sc (.bool s)) .nil) (fun x m => ?_) ?_
 refine v (vl 0 _ BG rfl rfl rfl ?_)
 refine vi m (fun b8 m => ?_) fun b8 m => ?_
 rw [b8]
 exact bD m (lx (.cons (aX.refl _ _) .nil))
 rw [b8]
 refine vl 0 _ fE rfl rfl rfl (dH iF rfl ?_)
 exact bD m (lx (.cons (aX.refl _ _) .nil))
 rintro _ j7 m
 refine v ?_
 injection m with m; subst m
 exact eM rfl
theorem RI : aU Tryz.prog 168 = true := by kernel_rfl
def JV (m : Nat) (p0 : List aA) (p1 : aA → Option Bool) : Option (Bool) :=
 (UE m p0 p1).bind fun y3 => some (decide (0 ≤ y3))
theorem RJ {w : Nat} {p0 : List aA} {p1 : aA → Option Bool} {o : Bool} (h : aH) {p1F : Nat} {p1C : List AV} (p1B : aU Tryz.prog p1F = true) (p1H : ∀ x0 o h0, gX h h0 → p1 x0 = some o → aP Tryz.prog p1F ([.agg (aD x0)] ++ p1C) h0 (fun r h' => r = .sc (.bool o) ∧ h' = h0)) (m : JV w p0 p1 = some o) :
 aP Tryz.prog 159 [.sl none 35 (List.map aD p0), .fn (.func p1F) p1C] h (fun r h' => r = .sc (.bool o) ∧ h' = h) := by
 refine fW 9 [.tmp 4] Tryz.func159 rfl rfl rfl rfl ?_
 unfold JV at m
 refine v (v ?_)
 obtain ⟨_, Y4, m⟩ := aC m
 refine vn (fun u => cE (YU _ p1B (fun x0 o h0 hs ho => p1H x0 o h0 ((aV (List.nil_sublist _) u).1.trans hs) ho) Y4) rfl QL rfl) (v ?_)
 cases m
 exact eM rfl
theorem KR : aU Tryz.prog 159 = true := by kernel_rfl
def JW (m : Nat) (p0 : List aA) : Option (Bool) :=
 (JV m p0 (fun x0 => NJ m x0)).bind fun y3 => some (!y3)
theorem RK {u : Nat} {p0 : List aA} {o : Bool} (h : aH) (m : JW u p0 = some o) :
 aP Tryz.prog 114 [.sl none 35 (List.map aD p0)] h (fun r h' => r = .sc (.bool o) ∧ h' = h) := by
 refine fW 6 [.tmp 2] Tryz.func114 rfl rfl rfl rfl ?_
 unfold JW at m
 refine v (v ?_)
 obtain ⟨_, Y4, m⟩ := aC m
 refine vn (fun _ => cE (RJ _ RI (fun _ o h0 hs ho => VT _ ho) Y4) rfl KR rfl) (v ?_)
 cases m
 exact eM rfl
theorem KS : aU Tryz.prog 114 = true := by kernel_rfl
def CU (m : Nat) (p1 : a8) (q0 : List aA) (q1 : Int) : Option (Lp ((List aA) × Int) (Int × Int × (List aE) × (List aA))) :=
 if (decide (q1 < (p1.Chunks.length : Int))) = true then ((ix p1.Chunks q1).bind fun x0 => (EO m q0 x0.Id).bind fun y0 => after (if (!y0.2) = true then ((A4 q0 y0.1 (({ Id := x0.Id, Staged := false, Data := [], Locs := [] } : aA) : aA)).bind fun y1 => some (.brk y1)) else some (.brk q0) : Option (Lp ((List aA)) (Lp ((List aA) × Int) (Int × Int × (List aE) × (List aA))))) fun j0 => (MJ m x0.Data).bind fun y2 => (ix j0 y0.1).bind fun x1 => (ix (j0.set y0.1.toNat ({ x1 with Staged := true })) y0.1).bind fun x2 => some (.go ((j0.set y0.1.toNat ({ x1 with Staged := true })).set y0.1.toNat ({ x2 with Data := y2 }), IntKind.wrap .i64 (q1 + 1)))) else some (.brk (q0, q1))
def VU (m : Nat) (p0 : aB) (p1 : a8) : Option (Int × Int × (List aE) × (List aA)) :=
 after (if (p1.Snap.Seq != p0.Seq) = true then (some (.brk true)) else if (decide (0 < (p1.Snap.Locs.length : Int))) = true then (some (.brk true)) else (JW m p1.Chunks).bind fun y0 => some (.brk (!y0)) : Option (Lp (Bool) (Int × Int × (List aE) × (List aA)))) fun j0 => if j0 = true then (some (1, p0.Seq, p0.Snaps, p0.Chunks)) else (UC m ({ Seq := p0.Seq, Snaps := p0.Snaps, Chunks := p0.Chunks, Exps := p0.Exps, Vols := p0.Vols } : aB) p1.Snap.Man.Name).bind fun y1 => if (decide (0 ≤ y1)) = true then (some (9, p0.Seq, p0.Snaps, p0.Chunks)) else (EW m p1.Snap.Man).bind fun y2 => (app p0.Snaps ([({ Seq := p1.Snap.Seq, Man := y2, Locs := [] } : aE)] : List aE)).bind fun z0 => after (aY (fun s => CU m p1 s.1 s.2) m (p0.Chunks, 0)) fun ⟨r0, r1⟩ => some (0, IntKind.wrap .i64 (p0.Seq + 1), z0, r0)
theorem ZY {w : Nat} {p0 : aB} {p1 : a8} {o : Int × Int × (List aE) × (List aA)} (h : aH) {p0K : bZ} {gS : dD} (ok_Snaps : bJ gS 4 p0.Snaps.length) {gC : dD} (oC : bJ gC 35 p0.Chunks.length) {gE : dD} (oE : bJ gE 3 p0.Exps.length) {gV : dD} (oV : bJ gV 4 p0.Vols.length) (K0 : bS h [OC p0K p0.Seq gS gC gE gV, cJ gS p0.Snaps, cF gC p0.Chunks, eC gE p0.Exps, bL gV p0.Vols]) (m : VU w p0 p1 = some o) :
 aP Tryz.prog 72 [.ptr p0K 0, .agg (aG p1)] (hp h [OC p0K p0.Seq gS gC gE gV, cJ gS p0.Snaps, cF gC p0.Chunks, eC gE p0.Exps, bL gV p0.Vols]) (fun r h' => ∃ g_Snaps' : dD, bJ g_Snaps' 4 (o.2.2.1 : List aE).length ∧ ∃ g_Chunks' : dD, bJ g_Chunks' 35 (o.2.2.2 : List aA).length ∧ bS h [OC p0K o.2.1 g_Snaps' g_Chunks' gE gV, cJ g_Snaps' o.2.2.1, cF g_Chunks' o.2.2.2, eC gE p0.Exps, bL gV p0.Vols] ∧ r = nZ o.1 ∧ h' = hp h [OC p0K o.2.1 g_Snaps' g_Chunks' gE gV, cJ g_Snaps' o.2.2.1, cF g_Chunks' o.2.2.2, eC gE p0.Exps, bL gV p0.Vols]) := by
 refine AE K0 115 [.tmp 4] Tryz.func72 rfl rfl rfl rfl ?_
 unfold VU at m
 refine vs (v0 ?_)
 refine ve fun u => cQ u rfl rfl fun k2 K3 => qk K3 rfl ?_
 refine vs (v0 (vs ?_))
 refine cW m (σ := Bool) (τ := Unit) (fun g s => [(some k2, .obj 62 (aG p1)), OC p0K p0.Seq gS gC gE gV, cJ gS p0.Snaps, cF gC p0.Chunks, eC gE p0.Exps, bL gV p0.Vols]) (fun g s => .c 0 (.ptr p0K 0) (.c 3 (.ptr k2 0) (.c 9 (.sc (.bool s)) .nil))) (fun x m => ?_) ?_
 refine v0 (AK (by kernel_rfl) (vn (fun _ => aJ jA rfl rfl) (vn (fun _ => aJ qI rfl rfl) (vl 0 _ cG rfl rfl rfl (vn (fun _ => bU rfl) (vn (fun _ => aJ m6 rfl rfl) (vl 1 _ cG rfl rfl rfl ?_)))))))
 refine vi m (fun b0 m => ?_) fun b0 m => ?_
 rw [b0]
 exact bD m (lx (.k3 .nil))
 rw [b0]
 refine vn (fun _ => aJ jA rfl rfl) (vn (fun _ => aJ iV rfl rfl) (vl 0 _ fE rfl rfl rfl (dH iF rfl ?_)))
 refine vi m (fun b1 m => ?_) fun b1 m => ?_
 rw [b1]
 exact bD m (lx (.k3 .nil))
 rw [b1]
 refine vn (fun _ => aJ kL rfl rfl) (vl 0 _ eF rfl rfl rfl ?_)
 refine vk RK KS m rfl rfl fun _ m => ?_
 exact bD m (lx (.k3 .nil))
 rintro _ j0 m
 refine v0 ?_
 refine vi m (fun c0 m => ?_) fun c0 m => ?_
 refine vs (v0 (v0 ?_))
 cases m
 exact vr fun u => dY.of1 (.inl rfl) (fL _ _ (.sc (.int _ _)) rfl) (bO u [1, 2, 3, 4, 5] rfl).2 (aX.refl _ _) ⟨gS, ok_Snaps, gC, oC, (bO u [1, 2, 3, 4, 5] rfl).1, rfl, rfl⟩
 refine vs (v0 (AK (by kernel_rfl) (vn (fun _ => bU rfl) (vl 1 (.agg ([nZ p0.Seq, aZ gS, aZ gC, aZ gE, aZ gV])) eK rfl rfl rfl (vn (fun _ => aJ jA rfl rfl) (vn (fun _ => aJ mA rfl rfl) (vn (fun _ => aJ F9 rfl rfl) (vl 0 _ uP rfl rfl rfl ?_))))))))
 obtain ⟨_, Y0, m⟩ := aC m
 refine vn (fun u => cE (f8 (.cons (Br.agg (.cons (Br.refl _ _) (.cons (Br.aw 2 e8 ok_Snaps u rfl) (.cons (Br.aw 3 cM oC u rfl) (.cons (Br.aw 4 fB oE u rfl) (.cons (Br.aw 5 eJ oV u rfl) .nil)))))) (.cons (Br.refl _ _) .nil)) rfl (YT _ Y0)) rfl UD rfl) (v0 ?_)
 refine vi m (fun c1 m => ?_) fun c1 m => ?_
 refine vs (v0 (v0 ?_))
 cases m
 exact vr fun u => dY.of1 (.inl rfl) (fL _ _ (.sc (.int _ _)) rfl) (bO u [1, 2, 3, 4, 5] rfl).2 (aX.refl _ _) ⟨gS, ok_Snaps, gC, oC, (bO u [1, 2, 3, 4, 5] rfl).1, rfl, rfl⟩
 refine v0 (vs (v0 (vn (fun _ => bU rfl) (vn (fun _ => aJ m6 rfl rfl) (vl 1 _ cG rfl rfl rfl (vn (fun _ => bU rfl) (vn (fun _ => aJ m6 rfl rfl) ?_)))))))
 refine ve fun u => aL 1 ([nZ (IntKind.wrap .i64 (p0.Seq + 1)), aZ gS, aZ gC, aZ gE, aZ gV]) u rfl rfl rfl rfl xN rfl rfl fun K1 => qk K1 rfl ?_
 refine vs (v0 ?_)
 refine vz [(17, some p0K, .obj 30 ([nZ (IntKind.wrap .i64 (p0.Seq + 1)), aZ gS, aZ gC, aZ gE, aZ gV])), (1000000, some k2, .obj 62 (aG p1))] mixed (fun u => ⟨fun _ => aO 1 u rfl, fun _ => aO 0 u rfl, trivial⟩) fun u => ?_
 refine aM 0 rfl (fun _ _ _ _ => bN (.ptr _ _) rfl) ?_
 refine aM 1 rfl (fun _ _ _ _ => bN (.ptr _ _) rfl) ?_
 refine aM 2 rfl (fun _ _ _ _ => bU rfl) ?_
 refine aM 3 rfl (fun _ _ _ _ => aJ eP rfl rfl) ?_
 refine aM 4 rfl (fun _ _ hi hB => bH (aZ gS) fK rfl (At.s (bR.get 0 hi rfl (hB 17 (by kernel_rfl)))) rfl) ?_
 refine aM 5 rfl (fun _ _ _ _ => aJ jA rfl rfl) ?_
 refine aM 6 rfl (fun _ _ _ _ => aJ qI rfl rfl) ?_
 refine aM 7 rfl (fun _ _ hi hB => bH (nZ p1.Snap.Seq) cG rfl (At.s (bR.get 1 hi rfl (hB 1000000 (by kernel_rfl)))) rfl) ?_
 refine aM 8 rfl (fun _ _ _ _ => aJ jA rfl rfl) ?_
 refine aM 9 rfl (fun _ _ _ _ => aJ mA rfl rfl) ?_
 refine aM 10 rfl (fun _ _ hi hB => bH (.agg (bC p1.Snap.Man)) lH rfl (At.s (bR.get 1 hi rfl (hB 1000000 (by kernel_rfl)))) rfl) ?_
 obtain ⟨y0, Y1, m⟩ := aC m
 refine aM 11 rfl (fun _ _ _ _ => cE (RH _ Y1) rfl KP rfl) ?_
 refine aM 12 rfl (fun _ _ _ _ => iD (y := .agg (aN ({ Seq := p1.Snap.Seq, Man := y0, Locs := [] } : aE))) (eV (([nZ p1.Snap.Seq] : List AV) ++ bC y0 ++ ([sZ] : List AV)) L0 rfl) (aX.agg (.cons (aX.refl _ _) (cO.app 2 rfl (.cons (aS _) .nil))))) ?_
 refine aM 13 rfl (fun _ _ _ _ => eH (List.map aN ([({ Seq := p1.Snap.Seq, Man := y0, Locs := [] } : aE)] : List aE)) uS rfl rfl rfl rfl) ?_
 obtain ⟨z0, Z0, m⟩ := aC m
 refine eX 14 rfl (by kernel_rfl) (fR (c := aN) 2 Z0 uS rfl xT rfl e8 rfl rfl ok_Snaps u rfl fun ag0 O0 K2 => ⟨⟨fun _ => aO 1 K2 rfl, fun _ => aO 0 K2 rfl, trivial⟩, ?_⟩)
 refine aM 15 rfl (fun _ _ _ _ => bU rfl) ?_
 refine aM 16 rfl (fun _ _ _ _ => aJ eP rfl rfl) ?_
 refine eX 17 rfl (by kernel_rfl) (aL 1 ([nZ (IntKind.wrap .i64 (p0.Seq + 1)), aZ ag0, aZ gC, aZ gE, aZ gV]) K2 rfl rfl (cI rfl) (cK (bX _ _ _) rfl) F2 rfl rfl fun K4 => ⟨⟨fun e => absurd e (by decide), fun _ => aO 0 K4 rfl, trivial⟩, ?_⟩)
 refine dL (by kernel_rfl) (qk (f := .c 64 _ (.c 63 _ (.c 62 _ (.c 61 _ (.c 60 _ (.c 59 _ (.c 58 _ (.c 57 _ (.c 56 _ (.c 55 _ (.c 54 _ (.c 53 _ (.c 52 _ (.c 51 _ (.c 50 _ (.c 49 _ (.c 48 _ _))))))))))))))))) K4 rfl ?_)
 refine vs (vs (v0 (vn (fun _ => aJ kL rfl rfl) (vl 0 _ eF rfl rfl rfl (dH hS rfl ?_)))))
 refine lT m (σ := (List aA) × Int) (τ := dD) (fun g s => [(some k2, .obj 62 (aG p1)), OC p0K (IntKind.wrap .i64 (p0.Seq + 1)) ag0 g gE gV, cJ ag0 z0, cF g s.1, eC gE p0.Exps, bL gV p0.Vols]) (fun g s => bJ g 35 (s.1 : List aA).length) (fun g s => .c 0 (.ptr p0K 0) (.c 66 (.sl none 35 (List.map aD p1.Chunks)) (.c 67 (nZ (p1.Chunks.length : Int)) (.c 68 (nZ s.2) .nil)))) gC oC (lx (.k4 .nil)) ?_ ?_
 rintro ag1 ⟨q0, q1⟩ x O1 m
 replace m : CU w p1 q0 q1 = some x := m
 unfold CU at m
 refine vs (v0 (vs (v0 ?_)))
 refine vi m (fun c2 m => ?_) fun c2 m => ?_
 refine v0 (vs (v0 (vs (v0 ?_))))
 refine vx m eW rfl rfl fun x0 _ m => ?_
 refine va (.agg (aD x0)) lF rfl rfl ?_
 refine ve fun u => bE (bF iY ++ ([.sc (.bool false), sZ, sZ] : List AV)) u l6 rfl rfl fun k228 K5 => qk K5 rfl ?_
 refine ve fun u => aL 0 (aD x0) u rfl rfl rfl rfl uV rfl rfl fun K6 => qk K6 rfl ?_
 refine vs (v0 (AK (by kernel_rfl) (vn (fun _ => bU rfl) (vn (fun _ => aJ eL rfl rfl) (vl 2 (aZ ag1) eF rfl rfl rfl (vn (fun _ => aJ m9 rfl rfl) (vl 0 (.agg (bF x0.Id)) fV rfl rfl rfl ?_)))))))
 obtain ⟨y1, Y2, m⟩ := aC m
 refine vn (fun u => cE (f8 (.cons (Br.aw 4 cM O1 u rfl) (.cons (Br.refl _ _) .nil)) rfl (P9 _ Y2)) rfl KE rfl) (vs (vs (v0 ?_)))
 refine pX m (σ := (List aA)) (τ := dD) (fun g s => [(some k228, .obj 44 (aD x0)), (some k2, .obj 62 (aG p1)), OC p0K (IntKind.wrap .i64 (p0.Seq + 1)) ag0 g gE gV, cJ ag0 z0, cF g s, eC gE p0.Exps, bL gV p0.Vols]) (fun g s => bJ g 35 (s : List aA).length) (fun g s => .c 0 (.ptr p0K 0) (.c 6 (.ptr k228 0) (.c 7 (nZ y1.1) (.c 66 (.sl none 35 (List.map aD p1.Chunks)) (.c 67 (nZ (p1.Chunks.length : Int)) (.c 68 (nZ q1) .nil)))))) (fun x m => ?_) ?_
 refine v0 ?_
 refine vi m (fun c3 m => ?_) fun c3 m => ?_
 refine v0 ?_
 refine vz [(13, some p0K, .obj 30 ([nZ (IntKind.wrap .i64 (p0.Seq + 1)), aZ ag0, aZ ag1, aZ gE, aZ gV])), (1000000, some k228, .obj 44 (aD x0))] mixed (fun u => ⟨fun _ => aO 2 u rfl, fun _ => aO 0 u rfl, trivial⟩) fun u => ?_
 refine aM 0 rfl (fun _ _ _ _ => bN (.ptr _ _) rfl) ?_
 refine aM 1 rfl (fun _ _ _ _ => bN (.ptr _ _) rfl) ?_
 refine aM 2 rfl (fun _ _ _ _ => bU rfl) ?_
 refine aM 3 rfl (fun _ _ _ _ => aJ eL rfl rfl) ?_
 refine aM 4 rfl (fun _ _ hi hB => bH (aZ ag1) eF rfl (At.s (bR.get 0 hi rfl (hB 13 (by kernel_rfl)))) rfl) ?_
 refine aM 5 rfl (fun _ _ _ _ => bN (.sc (.int _ _)) rfl) ?_
 refine aM 6 rfl (fun _ _ _ _ => aJ m9 rfl rfl) ?_
 refine aM 7 rfl (fun _ _ hi hB => bH (.agg (bF x0.Id)) fV rfl (At.s (bR.get 1 hi rfl (hB 1000000 (by kernel_rfl)))) rfl) ?_
 refine aM 8 rfl (fun _ _ _ _ => iD (y := .agg (aD ({ Id := x0.Id, Staged := false, Data := [], Locs := [] } : aA))) (eV (bF x0.Id ++ ([.sc (.bool false), sZ, sZ] : List AV)) PP rfl) (aX.agg (cO.app 32 rfl (.cons (aX.refl _ _) (.cons (aS _) (.cons (aS _) .nil)))))) ?_
 refine aM 9 rfl (fun _ _ _ _ => eH (List.map aD ([({ Id := x0.Id, Staged := false, Data := [], Locs := [] } : aA)] : List aA)) jP rfl rfl rfl rfl) ?_
 obtain ⟨y2, Y3, m⟩ := aC m
 refine eX 10 rfl (by kernel_rfl) ?_
 have ho0 := nG (A := [cF ag1 q0]) (R := [(some k228, .obj 44 (aD x0)), (some k2, .obj 62 (aG p1)), OC p0K (IntKind.wrap .i64 (p0.Seq + 1)) ag0 ag1 gE gV, cJ ag0 z0, eC gE p0.Exps, bL gV p0.Vols]) u [[_], [_], [_], [_], [_], [_], [_]] rfl [4] [0, 1, 2, 3, 5, 6] rfl rfl rfl
 refine dX ho0.1 (cV (VI cM _ O1 ho0.2.2 Y3) rfl Q1 rfl ?_)
 rintro x h' ⟨ag2, O2, K7, rfl, rfl⟩
 have K8 := mK (L' := [(some k228, .obj 44 (aD x0)), (some k2, .obj 62 (aG p1)), (some p0K, .obj 30 ([nZ (IntKind.wrap .i64 (p0.Seq + 1)), aZ ag0, aZ ag1, aZ gE, aZ gV])), cJ ag0 z0, cF ag2 y2, eC gE p0.Exps, bL gV p0.Vols]) ho0.2.1 K7 [[_]] [[_], [_], [_], [_], [_], [_]] rfl rfl [1, 2, 3, 4, 0, 5, 6] rfl rfl
 refine mN K8.1 ?_
 refine ⟨⟨fun _ => aO 2 K8.2 rfl, fun _ => aO 0 K8.2 rfl, trivial⟩, ?_⟩
 refine aM 11 rfl (fun _ _ _ _ => bU rfl) ?_
 refine aM 12 rfl (fun _ _ _ _ => aJ eL rfl rfl) ?_
 refine eX 13 rfl (by kernel_rfl) (aL 2 ([nZ (IntKind.wrap .i64 (p0.Seq + 1)), aZ ag0, aZ ag2, aZ gE, aZ gV]) K8.2 rfl rfl (cI rfl) (cK (bX _ _ _) rfl) xO rfl rfl fun K9 => ⟨⟨fun e => absurd e (by decide), fun _ => aO 0 K9 rfl, trivial⟩, ?_⟩)
 refine dL (by kernel_rfl) (qk (f := .c 96 _ (.c 95 _ (.c 94 _ (.c 93 _ (.c 92 _ (.c 91 _ (.c 90 _ (.c 89 _ (.c 88 _ (.c 87 _ (.c 86 _ (.c 85 _ (.c 84 _ _))))))))))))) K9 rfl ?_)
 exact fH m ag2 O2 (lx (.k6 .nil))
 refine v0 ?_
 exact fH m ag1 O1 (lx (.k6 .nil))
 rintro ag3 j1 O3 m
 refine v0 ?_
 refine vz [(1000000, some p0K, .obj 30 ([nZ (IntKind.wrap .i64 (p0.Seq + 1)), aZ ag0, aZ ag3, aZ gE, aZ gV])), (1000000, some k228, .obj 44 (aD x0))] mixed (fun u => ⟨fun _ => aO 2 u rfl, fun _ => aO 0 u rfl, trivial⟩) fun u => ?_
 refine aM 0 rfl (fun _ _ _ _ => bN (.ptr _ _) rfl) ?_
 refine aM 1 rfl (fun _ _ _ _ => bU rfl) ?_
 refine aM 2 rfl (fun _ _ _ _ => aJ eL rfl rfl) ?_
 refine aM 3 rfl (fun _ _ hi hB => bH (aZ ag3) eF rfl (At.s (bR.get 0 hi rfl (hB 1000000 (by kernel_rfl)))) rfl) ?_
 refine aM 4 rfl (fun _ _ _ _ => bN (.sc (.int _ _)) rfl) ?_
 refine aM 5 rfl (fun _ _ _ _ => bN (.ptr _ _) rfl) ?_
 refine aM 6 rfl (fun _ _ _ _ => bU rfl) ?_
 refine aM 7 rfl (fun _ _ _ _ => aJ eL rfl rfl) ?_
 refine aM 8 rfl (fun _ _ hi hB => bH (aZ ag3) eF rfl (At.s (bR.get 0 hi rfl (hB 1000000 (by kernel_rfl)))) rfl) ?_
 refine aM 9 rfl (fun _ _ _ _ => bN (.sc (.int _ _)) rfl) ?_
 refine aM 10 rfl (fun _ _ _ _ => aJ iU rfl rfl) ?_
 refine aM 11 rfl (fun _ _ hi hB => bH (.sl none 1 (List.map cZ x0.Data)) jR rfl (At.s (bR.get 1 hi rfl (hB 1000000 (by kernel_rfl)))) rfl) ?_
 obtain ⟨y3, Y4, m⟩ := aC m
 refine eX 12 rfl (by kernel_rfl) (cV (S1 _ Y4) rfl JD rfl ?_)
 rintro x h' ⟨tg0, t0, K10, rfl, rfl⟩
 rw [gO]
 refine ⟨⟨fun _ => aO 3 (bS.co u K10) rfl, fun _ => aO 1 (bS.co u K10) rfl, trivial⟩, ?_⟩
 obtain ⟨x1, X0, m⟩ := aC m
 refine aM 13 rfl (fun _ _ _ _ => dE X0 eW O3 rfl rfl) ?_
 refine aM 14 rfl (fun _ _ _ _ => dJ (bJ.ne O3 X0) qH rfl rfl) ?_
 refine eX 15 rfl (by kernel_rfl) (cR (fo := 32) ({ x1 with Staged := true } : aA) 5 (bS.co u K10) X0 cM O3 rfl rfl rfl rfl (cO.refl _ _) SZ rfl rfl fun K11 => ⟨⟨fun _ => aO 3 K11 rfl, fun _ => aO 1 K11 rfl, trivial⟩, ?_⟩)
 obtain ⟨x2, X1, m⟩ := aC m
 refine aM 16 rfl (fun _ _ _ _ => dE X1 eW (bJ.set O3) rfl rfl) ?_
 refine aM 17 rfl (fun _ _ _ _ => dJ (bJ.ne (bJ.set O3) X1) iU rfl rfl) ?_
 refine eX 18 rfl (by kernel_rfl) (sW (s := 109) (.sl none 1 (List.map cZ y3)) (aV (.cons _ (.refl _)) K11).1 (Fz.ale (aV (.cons _ (.refl _)) K11).1 (kF _ 0 t0 K11 rfl (.refl _))) (cR (fo := 33) ({ x2 with Data := y3 } : aA) 4 ((aV (.cons _ (.refl _)) K11).2) X1 cM (bJ.set O3) rfl rfl rfl rfl (cO.refl _ _) CB rfl rfl fun K12 => ⟨⟨fun _ => aO 2 K12 rfl, fun _ => aO 0 K12 rfl, trivial⟩, ?_⟩))
 refine dL (by kernel_rfl) (qk (f := .c 113 _ (.c 112 _ (.c 111 _ (.c 110 _ (.c 109 _ (.c 108 _ (.c 107 _ (.c 106 _ (.c 105 _ (.c 104 _ (.c 103 _ (.c 102 _ (.c 101 _ (.c 100 _ (.c 99 _ (.c 98 _ (.c 97 _ _))))))))))))))))) K12 rfl ?_)
 refine v0 ?_
 exact fH m ag3 (bJ.set (bJ.set O3)) (kR [1, 2, 3, 4, 5, 6] rfl rfl (.k4 .nil))
 refine v0 ?_
 exact lD m ag1 O1 (lx (.k4 .nil))
 rintro ag4 ⟨r0, r1⟩ t1 m
 refine vs (v0 (v0 ?_))
 cases m
 exact vr fun u => dY.of1 (.inl rfl) (fL _ _ (.sc (.int _ _)) rfl) (bO u [1, 2, 3, 4, 5] rfl).2 (aX.refl _ _) ⟨ag0, O0, ag4, t1, (bO u [1, 2, 3, 4, 5] rfl).1, rfl, rfl⟩
theorem VV : aU Tryz.prog 72 = true := by kernel_rfl
open Go.Vm
def DR (m : Nat) (p0 : List aE) : Option (List aE) := app [] p0
theorem RL {w : Nat} {p0 : List aE} {o : List aE} (h : aH) (m : DR w p0 = some o) :
 aP Tryz.prog 132 [.sl none 4 (List.map aN p0)] h (fun r h' => ∃ g : dD, bJ g 4 o.length ∧ bS h [(g.t, .obj 60 (fl aN o g.sp))] ∧ r = aZ g ∧ h' = hp h [(g.t, .obj 60 (fl aN o g.sp))]) := by
 refine iA 8 [.tmp 2] Tryz.func132 rfl rfl rfl rfl ?_
 unfold DR at m
 refine fU fun K1 H1 => dW (oN (gU (.sc (.slice _ _ _)) rfl) (e9 (H1 _ _ (fU fun K1 H1 => fU fun K2 H2 => dW (vE rfl ?_)))))
 refine jE (iM rfl (by rw [kJ]; rfl) (by rw [bG]; exact rfl) (.inl ⟨_, _, _, rfl, fun b hb => ?_⟩))
 refine e9 (H2 _ _ ?_)
 refine lA rfl (fun hc => ?_) (fun hc => ?_)
 have h0 : p0 = [] := by
   cases p0 with
   | nil => rfl
   | cons x l => have := hb (by simp); rw [this] at hc; cases hc
 subst h0
 obtain ⟨rfl, -⟩ := hH m
 refine fU fun K1 H1 => dW (oN (gU (.sc (.slice _ _ _)) rfl) (e9 (H1 _ _ (gN ?_))))
 exact dY.one (.inl rfl) (gX.refl _) (fP _) ⟨g0, bJ.g0 _, bS.none (bS.nil _), rfl, rfl⟩
 refine jM (H1 _ _ (fU fun K1 H1 => dW ?_))
 refine jE (nM (c := aN) (bS.nil _) uS fun u => ?_)
 refine vE rfl ?_
 refine jE (fR (c := aN) 0 m uS rfl xT rfl e8 rfl rfl (bJ.g0 _) u rfl fun g ok u => ?_)
 refine oN (gU (aw _ _ _) rfl) (e9 (H1 _ _ (gN ?_)))
 exact dY.one (.inl rfl) (gX.refl _) (aX.refl _ _) ⟨g, ok, u, rfl, rfl⟩
theorem RM : aU Tryz.prog 132 = true := by kernel_rfl
def DS (m : Nat) (p0 : List aA) : Option (List aA) := app [] p0
theorem RN {w : Nat} {p0 : List aA} {o : List aA} (h : aH) (m : DS w p0 = some o) :
 aP Tryz.prog 133 [.sl none 35 (List.map aD p0)] h (fun r h' => ∃ g : dD, bJ g 35 o.length ∧ bS h [(g.t, .obj 44 (fl aD o g.sp))] ∧ r = aZ g ∧ h' = hp h [(g.t, .obj 44 (fl aD o g.sp))]) := by
 refine iA 8 [.tmp 2] Tryz.func133 rfl rfl rfl rfl ?_
 unfold DS at m
 refine fU fun K1 H1 => dW (oN (gU (.sc (.slice _ _ _)) rfl) (e9 (H1 _ _ (fU fun K1 H1 => fU fun K2 H2 => dW (vE rfl ?_)))))
 refine jE (iM rfl (by rw [eW]; rfl) (by rw [bG]; exact rfl) (.inl ⟨_, _, _, rfl, fun b hb => ?_⟩))
 refine e9 (H2 _ _ ?_)
 refine lA rfl (fun hc => ?_) (fun hc => ?_)
 have h0 : p0 = [] := by
   cases p0 with
   | nil => rfl
   | cons x l => have := hb (by simp); rw [this] at hc; cases hc
 subst h0
 obtain ⟨rfl, -⟩ := hH m
 refine fU fun K1 H1 => dW (oN (gU (.sc (.slice _ _ _)) rfl) (e9 (H1 _ _ (gN ?_))))
 exact dY.one (.inl rfl) (gX.refl _) (fP _) ⟨g0, bJ.g0 _, bS.none (bS.nil _), rfl, rfl⟩
 refine jM (H1 _ _ (fU fun K1 H1 => dW ?_))
 refine jE (nM (c := aD) (bS.nil _) jP fun u => ?_)
 refine vE rfl ?_
 refine jE (fR (c := aD) 0 m jP rfl l6 rfl cM rfl rfl (bJ.g0 _) u rfl fun g ok u => ?_)
 refine oN (gU (aw _ _ _) rfl) (e9 (H1 _ _ (gN ?_)))
 exact dY.one (.inl rfl) (gX.refl _) (aX.refl _ _) ⟨g, ok, u, rfl, rfl⟩
theorem RO : aU Tryz.prog 133 = true := by kernel_rfl
def DT (m : Nat) (p0 : List aI) : Option (List aI) := app [] p0
theorem RP {w : Nat} {p0 : List aI} {o : List aI} (h : aH) (m : DT w p0 = some o) :
 aP Tryz.prog 134 [.sl none 3 (List.map aR p0)] h (fun r h' => ∃ g : dD, bJ g 3 o.length ∧ bS h [(g.t, .obj 99 (fl aR o g.sp))] ∧ r = aZ g ∧ h' = hp h [(g.t, .obj 99 (fl aR o g.sp))]) := by
 refine iA 8 [.tmp 2] Tryz.func134 rfl rfl rfl rfl ?_
 unfold DT at m
 refine fU fun K1 H1 => dW (oN (gU (.sc (.slice _ _ _)) rfl) (e9 (H1 _ _ (fU fun K1 H1 => fU fun K2 H2 => dW (vE rfl ?_)))))
 refine jE (iM rfl (by rw [jQ]; rfl) (by rw [bG]; exact rfl) (.inl ⟨_, _, _, rfl, fun b hb => ?_⟩))
 refine e9 (H2 _ _ ?_)
 refine lA rfl (fun hc => ?_) (fun hc => ?_)
 have h0 : p0 = [] := by
   cases p0 with
   | nil => rfl
   | cons x l => have := hb (by simp); rw [this] at hc; cases hc
 subst h0
 obtain ⟨rfl, -⟩ := hH m
 refine fU fun K1 H1 => dW (oN (gU (.sc (.slice _ _ _)) rfl) (e9 (H1 _ _ (gN ?_))))
 exact dY.one (.inl rfl) (gX.refl _) (fP _) ⟨g0, bJ.g0 _, bS.none (bS.nil _), rfl, rfl⟩
 refine jM (H1 _ _ (fU fun K1 H1 => dW ?_))
 refine jE (nM (c := aR) (bS.nil _) uT fun u => ?_)
 refine vE rfl ?_
 refine jE (fR (c := aR) 0 m uT rfl qJ rfl fB rfl rfl (bJ.g0 _) u rfl fun g ok u => ?_)
 refine oN (gU (aw _ _ _) rfl) (e9 (H1 _ _ (gN ?_)))
 exact dY.one (.inl rfl) (gX.refl _) (aX.refl _ _) ⟨g, ok, u, rfl, rfl⟩
theorem RQ : aU Tryz.prog 134 = true := by kernel_rfl
def DU (m : Nat) (p0 : List aK) : Option (List aK) := app [] p0
theorem RR {w : Nat} {p0 : List aK} {o : List aK} (h : aH) (m : DU w p0 = some o) :
 aP Tryz.prog 135 [.sl none 4 (List.map aT p0)] h (fun r h' => ∃ g : dD, bJ g 4 o.length ∧ bS h [(g.t, .obj 49 (fl aT o g.sp))] ∧ r = aZ g ∧ h' = hp h [(g.t, .obj 49 (fl aT o g.sp))]) := by
 refine iA 8 [.tmp 2] Tryz.func135 rfl rfl rfl rfl ?_
 unfold DU at m
 refine fU fun K1 H1 => dW (oN (gU (.sc (.slice _ _ _)) rfl) (e9 (H1 _ _ (fU fun K1 H1 => fU fun K2 H2 => dW (vE rfl ?_)))))
 refine jE (iM rfl (by rw [i9]; rfl) (by rw [bG]; exact rfl) (.inl ⟨_, _, _, rfl, fun b hb => ?_⟩))
 refine e9 (H2 _ _ ?_)
 refine lA rfl (fun hc => ?_) (fun hc => ?_)
 have h0 : p0 = [] := by
   cases p0 with
   | nil => rfl
   | cons x l => have := hb (by simp); rw [this] at hc; cases hc
 subst h0
 obtain ⟨rfl, -⟩ := hH m
 refine fU fun K1 H1 => dW (oN (gU (.sc (.slice _ _ _)) rfl) (e9 (H1 _ _ (gN ?_))))
 exact dY.one (.inl rfl) (gX.refl _) (fP _) ⟨g0, bJ.g0 _, bS.none (bS.nil _), rfl, rfl⟩
 refine jM (H1 _ _ (fU fun K1 H1 => dW ?_))
 refine jE (nM (c := aT) (bS.nil _) CA fun u => ?_)
 refine vE rfl ?_
 refine jE (fR (c := aT) 0 m CA rfl F8 rfl eJ rfl rfl (bJ.g0 _) u rfl fun g ok u => ?_)
 refine oN (gU (aw _ _ _) rfl) (e9 (H1 _ _ (gN ?_)))
 exact dY.one (.inl rfl) (gX.refl _) (aX.refl _ _) ⟨g, ok, u, rfl, rfl⟩
theorem RS : aU Tryz.prog 135 = true := by kernel_rfl
def pS (m : Nat) (y0 : (List aE)) (q0 : List aE) (q1 : Int) : Option (Lp ((List aE) × Int) (aB)) :=
 if (decide (q1 < (y0.length : Int))) = true then ((ix q0 q1).bind fun x0 => (EW m x0.Man).bind fun y1 => (A0 m x0.Locs).bind fun y2 => some (.go ((q0.set q1.toNat ({ x0 with Man := y1 })).set q1.toNat ({ ({ x0 with Man := y1 } : aE) with Locs := y2 }), IntKind.wrap .i64 (q1 + 1)))) else some (.brk (q0, q1))
def pT (m : Nat) (y0 : (List aA)) (q0 : List aA) (q1 : Int) : Option (Lp ((List aA) × Int) (aB)) :=
 if (decide (q1 < (y0.length : Int))) = true then ((ix q0 q1).bind fun x0 => (MJ m x0.Data).bind fun y1 => (A0 m x0.Locs).bind fun y2 => some (.go ((q0.set q1.toNat ({ x0 with Data := y1 })).set q1.toNat ({ ({ x0 with Data := y1 } : aA) with Locs := y2 }), IntKind.wrap .i64 (q1 + 1)))) else some (.brk (q0, q1))
def pU (m : Nat) (y0 : (List aI)) (q0 : List aI) (q1 : Int) : Option (Lp ((List aI) × Int) (aB)) :=
 if (decide (q1 < (y0.length : Int))) = true then ((ix q0 q1).bind fun x0 => (A0 m x0.Locs).bind fun y1 => (ix q0 q1).bind fun x1 => some (.go (q0.set q1.toNat ({ x1 with Locs := y1 }), IntKind.wrap .i64 (q1 + 1)))) else some (.brk (q0, q1))
def HK (m : Nat) (p0 : aB) : Option (aB) :=
 (DR m p0.Snaps).bind fun y0 => (DS m p0.Chunks).bind fun y1 => (DT m p0.Exps).bind fun y2 => (DU m p0.Vols).bind fun y3 => after (aY (fun s => pS m y0 s.1 s.2) m (y0, 0)) fun ⟨r0, r1⟩ => after (aY (fun s => pT m y1 s.1 s.2) m (y1, 0)) fun ⟨r2, r3⟩ => after (aY (fun s => pU m y2 s.1 s.2) m (y2, 0)) fun ⟨r4, r5⟩ => some ({ Seq := p0.Seq, Snaps := r0, Chunks := r2, Exps := r4, Vols := y3 } : aB)
theorem VW {w : Nat} {p0 : aB} {o : aB} (h : aH) (m : HK w p0 = some o) :
 aP Tryz.prog 77 [.agg (aF p0)] h (fun r h' => ∃ gS : dS, oP aE.Locs 4 4 gS (o.Snaps : List aE) ∧ ∃ gC : dS, oP aA.Locs 35 4 gC (o.Chunks : List aA) ∧ ∃ gE : dS, oP aI.Locs 3 4 gE (o.Exps : List aI) ∧ ∃ gV : dD, bJ gV 4 o.Vols.length ∧ bS h ([cX gS o.Snaps, bY gC o.Chunks, dC gE o.Exps, bL gV o.Vols] ++ ((dI gS o.Snaps) ++ ((cD gC o.Chunks) ++ (dF gE o.Exps)))) ∧ r = .agg ([nZ o.Seq, aZ gS.a, aZ gC.a, aZ gE.a, aZ gV]) ∧ h' = hp h ([cX gS o.Snaps, bY gC o.Chunks, dC gE o.Exps, bL gV o.Vols] ++ ((dI gS o.Snaps) ++ ((cD gC o.Chunks) ++ (dF gE o.Exps))))) := by
 refine fW 98 [.cell 2 30] Tryz.func77 rfl rfl rfl rfl ?_
 unfold HK at m
 refine vs (v0 ?_)
 refine ve fun u => cQ u rfl rfl fun k2 K3 => qk K3 rfl ?_
 refine ve fun u => bE ([nZ 0, sZ, sZ, sZ, sZ]) u mO rfl rfl fun k5 K6 => qk K6 rfl ?_
 refine vs (v0 ?_)
 refine vz [(13, some k2, .obj 30 (aF p0))] mixed (fun u => ⟨fun _ => aO 1 u rfl, trivial⟩) fun u => ?_
 refine aM 0 rfl (fun _ _ _ _ => aJ eP rfl rfl) ?_
 refine aM 1 rfl (fun _ _ hi hB => bH (.sl none 4 (List.map aN p0.Snaps)) fK rfl (At.s (bR.get 0 hi rfl (hB 13 (by kernel_rfl)))) rfl) ?_
 refine aM 3 rfl (fun _ _ _ _ => aJ eL rfl rfl) ?_
 refine aM 4 rfl (fun _ _ hi hB => bH (.sl none 35 (List.map aD p0.Chunks)) eF rfl (At.s (bR.get 0 hi rfl (hB 13 (by kernel_rfl)))) rfl) ?_
 refine aM 6 rfl (fun _ _ _ _ => aJ fC rfl rfl) ?_
 refine aM 7 rfl (fun _ _ hi hB => bH (.sl none 3 (List.map aR p0.Exps)) iK rfl (At.s (bR.get 0 hi rfl (hB 13 (by kernel_rfl)))) rfl) ?_
 refine aM 9 rfl (fun _ _ _ _ => aJ fI rfl rfl) ?_
 refine aM 10 rfl (fun _ _ hi hB => bH (.sl none 4 (List.map aT p0.Vols)) fZ rfl (At.s (bR.get 0 hi rfl (hB 13 (by kernel_rfl)))) rfl) ?_
 obtain ⟨y0, Y0, m⟩ := aC m
 refine eX 2 rfl (by kernel_rfl) (cV (RL _ Y0) rfl RM rfl ?_)
 rintro x h' ⟨ag0, O0, K0, rfl, rfl⟩
 rw [gO]
 refine ⟨⟨fun _ => aO 2 (bS.co u K0) rfl, trivial⟩, ?_⟩
 refine aM 12 rfl (fun _ _ _ _ => aJ eP rfl rfl) ?_
 obtain ⟨y1, Y1, m⟩ := aC m
 refine eX 5 rfl (by kernel_rfl) (cV (RN _ Y1) rfl RO rfl ?_)
 rintro x h' ⟨ag1, O1, K1, rfl, rfl⟩
 rw [gO]
 refine ⟨⟨fun _ => aO 3 (bS.co (bS.co u K0) K1) rfl, trivial⟩, ?_⟩
 obtain ⟨y2, Y2, m⟩ := aC m
 refine eX 8 rfl (by kernel_rfl) (cV (RP _ Y2) rfl RQ rfl ?_)
 rintro x h' ⟨ag2, O2, K2, rfl, rfl⟩
 rw [gO]
 refine ⟨⟨fun _ => aO 4 (bS.co (bS.co (bS.co u K0) K1) K2) rfl, trivial⟩, ?_⟩
 obtain ⟨y3, Y3, m⟩ := aC m
 refine eX 11 rfl (by kernel_rfl) (cV (RR _ Y3) rfl RS rfl ?_)
 rintro x h' ⟨ag3, O3, K4, rfl, rfl⟩
 rw [gO]
 refine ⟨⟨fun _ => aO 5 (bS.co (bS.co (bS.co (bS.co u K0) K1) K2) K4) rfl, trivial⟩, ?_⟩
 refine eX 13 rfl (by kernel_rfl) (aL 5 ([nZ p0.Seq, aZ ag0, .sl none 35 (List.map aD p0.Chunks), .sl none 3 (List.map aR p0.Exps), .sl none 4 (List.map aT p0.Vols)]) (bS.co (bS.co (bS.co (bS.co u K0) K1) K2) K4) rfl rfl (cI rfl) (cK (bX _ _ _) rfl) F2 rfl rfl fun K5 => ⟨⟨fun e => absurd e (by decide), trivial⟩, ?_⟩)
 refine aM 14 rfl (fun _ _ _ _ => aJ eL rfl rfl) ?_
 refine eX 15 rfl (by kernel_rfl) (aL 5 ([nZ p0.Seq, aZ ag0, aZ ag1, .sl none 3 (List.map aR p0.Exps), .sl none 4 (List.map aT p0.Vols)]) K5 rfl rfl (cI rfl) (cK (bX _ _ _) rfl) xO rfl rfl fun K7 => ⟨⟨fun e => absurd e (by decide), trivial⟩, ?_⟩)
 refine aM 16 rfl (fun _ _ _ _ => aJ fC rfl rfl) ?_
 refine eX 17 rfl (by kernel_rfl) (aL 5 ([nZ p0.Seq, aZ ag0, aZ ag1, aZ ag2, .sl none 4 (List.map aT p0.Vols)]) K7 rfl rfl (cI rfl) (cK (bX _ _ _) rfl) F3 rfl rfl fun K8 => ⟨⟨fun e => absurd e (by decide), trivial⟩, ?_⟩)
 refine aM 18 rfl (fun _ _ _ _ => aJ fI rfl rfl) ?_
 refine eX 19 rfl (by kernel_rfl) (aL 5 ([nZ p0.Seq, aZ ag0, aZ ag1, aZ ag2, aZ ag3]) K8 rfl rfl (cI rfl) (cK (bX _ _ _) rfl) I4 rfl rfl fun K9 => ⟨⟨fun e => absurd e (by decide), trivial⟩, ?_⟩)
 refine dL (by kernel_rfl) (qk (f := .c 23 _ (.c 22 _ (.c 21 _ (.c 19 _ (.c 16 _ (.c 13 _ (.c 20 _ (.c 10 _ (.c 18 _ (.c 17 _ (.c 15 _ (.c 14 _ (.c 12 _ (.c 11 _ (.c 9 _ (.c 8 _ _)))))))))))))))) K9 rfl ?_)
 refine vs (vs (oO (VG (L' := ([bL ag3 y3, dC (⟨ag2, List.replicate (y2 : List aI).length none⟩ : dS) y2, cF ag1 y1, cJ ag0 y0, (some k5, .obj 30 ([nZ 0, sZ, sZ, sZ, sZ])), OC k2 p0.Seq ag0 ag1 ((⟨ag2, List.replicate (y2 : List aI).length none⟩ : dS).a) ag3] ++ (dF (⟨ag2, List.replicate (y2 : List aI).length none⟩ : dS) y2))) (fun _ => rfl) [[_], [_], [_], [_], [_], [_]] rfl 1 rfl rfl) (oO (VG (L' := ([bL ag3 y3, dC (⟨ag2, List.replicate (y2 : List aI).length none⟩ : dS) y2, bY (⟨ag1, List.replicate (y1 : List aA).length none⟩ : dS) y1, cJ ag0 y0, (some k5, .obj 30 ([nZ 0, sZ, sZ, sZ, sZ])), OC k2 p0.Seq ag0 ((⟨ag1, List.replicate (y1 : List aA).length none⟩ : dS).a) ((⟨ag2, List.replicate (y2 : List aI).length none⟩ : dS).a) ag3] ++ ((dF (⟨ag2, List.replicate (y2 : List aI).length none⟩ : dS) y2) ++ (cD (⟨ag1, List.replicate (y1 : List aA).length none⟩ : dS) y1)))) (fun _ => rfl) [[_], [_], [_], [_], [_], [_], _] rfl 2 rfl rfl) (oO (VG (L' := ([bL ag3 y3, dC (⟨ag2, List.replicate (y2 : List aI).length none⟩ : dS) y2, bY (⟨ag1, List.replicate (y1 : List aA).length none⟩ : dS) y1, cX (⟨ag0, List.replicate (y0 : List aE).length none⟩ : dS) y0, (some k5, .obj 30 ([nZ 0, sZ, sZ, sZ, sZ])), OC k2 p0.Seq ((⟨ag0, List.replicate (y0 : List aE).length none⟩ : dS).a) ((⟨ag1, List.replicate (y1 : List aA).length none⟩ : dS).a) ((⟨ag2, List.replicate (y2 : List aI).length none⟩ : dS).a) ag3] ++ ((dF (⟨ag2, List.replicate (y2 : List aI).length none⟩ : dS) y2) ++ ((cD (⟨ag1, List.replicate (y1 : List aA).length none⟩ : dS) y1) ++ (dI (⟨ag0, List.replicate (y0 : List aE).length none⟩ : dS) y0))))) (fun _ => rfl) [[_], [_], [_], [_], [_], [_], _, _] rfl 3 rfl rfl) (v0 (vn (fun _ => aJ eP rfl rfl) (vl 5 (aw (⟨ag0, List.replicate (y0 : List aE).length none⟩ : dS).a.t (⟨ag0, List.replicate (y0 : List aE).length none⟩ : dS).a.n (⟨ag0, List.replicate (y0 : List aE).length none⟩ : dS).a.cap) fK rfl rfl rfl (vn (fun _ => eY kH ((yB.zero (l := aE.Locs) (szi := 4) O0).k.a) rfl) ?_))))))))
 refine NC m (σ := (List aE) × Int) (τ := dS) (fun g s => ([bL ag3 y3, dC (⟨ag2, List.replicate (y2 : List aI).length none⟩ : dS) y2, bY (⟨ag1, List.replicate (y1 : List aA).length none⟩ : dS) y1, cX g s.1, (some k5, .obj 30 ([nZ 0, sZ, sZ, sZ, sZ])), OC k2 p0.Seq g.a ((⟨ag1, List.replicate (y1 : List aA).length none⟩ : dS).a) ((⟨ag2, List.replicate (y2 : List aI).length none⟩ : dS).a) ag3] ++ ((dF (⟨ag2, List.replicate (y2 : List aI).length none⟩ : dS) y2) ++ ((cD (⟨ag1, List.replicate (y1 : List aA).length none⟩ : dS) y1) ++ (dI g s.1))))) (fun g s => yB aE.Locs 4 4 g (s.1 : List aE) s.2.toNat (y0 : List aE).length) (fun g s => oP aE.Locs 4 4 g (s.1 : List aE)) (fun g s => .c 1 (.ptr k2 0) (.c 2 (.ptr k5 0) (.c 26 (nZ (y0.length : Int)) (.c 27 (nZ s.2) .nil)))) (⟨ag0, List.replicate (y0 : List aE).length none⟩ : dS) (yB.zero (l := aE.Locs) (szi := 4) O0) (lx (.k4 .nil)) ?_ ?_
 rintro ng0 ⟨q0, q1⟩ x O4 m
 replace m : pS w y0 q0 q1 = some x := m
 unfold pS at m
 refine vs (v0 (vs (v0 ?_)))
 refine vi m (fun c0 m => ?_) fun c0 m => ?_
 refine v0 (vs (v0 (vs (v0 (vs (v0 (vn (fun _ => aJ eP rfl rfl) (vl 5 (aZ ng0.a) fK rfl rfl rfl ?_))))))))
 obtain ⟨x0, X0, m⟩ := aC m
 refine vn (fun _ => dE (O4.k.ix X0) kJ O4.k.z rfl rfl) (oO (HD (L' := ([bL ag3 y3, dC (⟨ag2, List.replicate (y2 : List aI).length none⟩ : dS) y2, bY (⟨ag1, List.replicate (y1 : List aA).length none⟩ : dS) y1, cX ng0 q0, (some k5, .obj 30 ([nZ 0, sZ, sZ, sZ, sZ])), OC k2 p0.Seq ng0.a ((⟨ag1, List.replicate (y1 : List aA).length none⟩ : dS).a) ((⟨ag2, List.replicate (y2 : List aI).length none⟩ : dS).a) ag3] ++ ((dF (⟨ag2, List.replicate (y2 : List aI).length none⟩ : dS) y2) ++ ((cD (⟨ag1, List.replicate (y1 : List aA).length none⟩ : dS) y1) ++ (kO 81 aQ ((nl aE.Locs (zg (q0 : List aE) ng0.gs)).eraseIdx q1.toNat)))))) [[_], [_], [_], [_], [_], [_], _, _, _] rfl 8 (q1.toNat) rfl rfl) (v0 ?_))
 refine vz [(14, ng0.a.t, .obj 60 (fl kZ (zg (q0 : List aE) ng0.gs) ng0.a.sp))] mixed (fun u => ⟨fun _ => aO 3 u rfl, trivial⟩) fun u => ?_
 refine aM 0 rfl (fun _ _ _ _ => bN (vV _ _) rfl) ?_
 refine aM 1 rfl (fun _ _ _ _ => bN (vV _ _) rfl) ?_
 refine aM 2 rfl (fun _ _ _ _ => bN (vV _ _) rfl) ?_
 refine aM 3 rfl (fun _ _ _ _ => i7 (bJ.ne O4.k.z (O4.k.ix X0)) rfl) ?_
 refine aM 4 rfl (fun _ _ _ _ => dJ (bJ.ne O4.k.z (O4.k.ix X0)) mA rfl rfl) ?_
 refine aM 5 rfl (fun _ _ hi hB => eZ (fo := 1) (.agg (bC x0.Man)) (O4.k.ix X0) lP O4.k.z lH rfl (bR.get 0 hi rfl (hB 14 (by kernel_rfl))) (fun _ => rfl)) ?_
 obtain ⟨y4, Y4, m⟩ := aC m
 refine aM 6 rfl (fun _ _ _ _ => cE (RH _ Y4) rfl KP rfl) ?_
 refine aM 7 rfl (fun _ _ _ _ => bN (vV _ _) rfl) ?_
 refine aM 8 rfl (fun _ _ _ _ => i7 (bJ.ne O4.k.z (O4.k.ix X0)) rfl) ?_
 refine aM 9 rfl (fun _ _ _ _ => dJ (bJ.ne O4.k.z (O4.k.ix X0)) iV rfl rfl) ?_
 refine aM 10 rfl (fun _ _ hi hB => iD (eZ (fo := 3) (awO aQ 4 (gx ng0.gs q1.toNat) x0.Locs) (O4.k.ix X0) lP O4.k.z fE rfl (bR.get 0 hi rfl (hB 14 (by kernel_rfl))) (fun _ => rfl)) (aX.of_eq (congrArg (fun z => awO aQ 4 z x0.Locs) (O4.post _ (Nat.le_refl _))))) ?_
 obtain ⟨y5, Y5, m⟩ := aC m
 refine eX 11 rfl (by kernel_rfl) (cV (M7 _ Y5) rfl M8 rfl ?_)
 rintro x h' ⟨ag4, O5, K10, rfl, rfl⟩
 rw [gO]
 refine ⟨⟨fun _ => aO 4 (bS.co u K10) rfl, trivial⟩, ?_⟩
 refine aM 12 rfl (fun _ _ _ _ => i7 (bJ.ne O4.k.z (O4.k.ix X0)) rfl) ?_
 refine aM 13 rfl (fun _ _ _ _ => dJ (bJ.ne O4.k.z (O4.k.ix X0)) mA rfl rfl) ?_
 refine eX 14 rfl (by kernel_rfl) (cR (fo := 1) (x' := (({ x0 with Man := y4 } : aE), (gx ng0.gs q1.toNat))) 4 (bS.co u K10) (O4.k.ix X0) lP O4.k.z rfl rfl rfl rfl (cO.refl _ _) uW rfl rfl ?_)
 intro K11
 have hs0 : rN aE.Locs 4 4 ng0 (q0 : List aE) := O4.k
 have hn0 : hp h _ = hp h ([h9 ag4 y5, bL ag3 y3, dC (⟨ag2, List.replicate (y2 : List aI).length none⟩ : dS) y2, bY (⟨ag1, List.replicate (y1 : List aA).length none⟩ : dS) y1, cX ng0 (q0.set q1.toNat ({ x0 with Man := y4 })), (some k5, .obj 30 ([nZ 0, sZ, sZ, sZ, sZ])), OC k2 p0.Seq ng0.a ((⟨ag1, List.replicate (y1 : List aA).length none⟩ : dS).a) ((⟨ag2, List.replicate (y2 : List aI).length none⟩ : dS).a) ag3] ++ ((dF (⟨ag2, List.replicate (y2 : List aI).length none⟩ : dS) y2) ++ ((cD (⟨ag1, List.replicate (y1 : List aA).length none⟩ : dS) y1) ++ (kO 81 aQ ((nl aE.Locs (zg (q0.set q1.toNat ({ x0 with Man := y4 }) : List aE) ng0.gs)).eraseIdx q1.toNat))))) ∧ bS h ([h9 ag4 y5, bL ag3 y3, dC (⟨ag2, List.replicate (y2 : List aI).length none⟩ : dS) y2, bY (⟨ag1, List.replicate (y1 : List aA).length none⟩ : dS) y1, cX ng0 (q0.set q1.toNat ({ x0 with Man := y4 })), (some k5, .obj 30 ([nZ 0, sZ, sZ, sZ, sZ])), OC k2 p0.Seq ng0.a ((⟨ag1, List.replicate (y1 : List aA).length none⟩ : dS).a) ((⟨ag2, List.replicate (y2 : List aI).length none⟩ : dS).a) ag3] ++ ((dF (⟨ag2, List.replicate (y2 : List aI).length none⟩ : dS) y2) ++ ((cD (⟨ag1, List.replicate (y1 : List aA).length none⟩ : dS) y1) ++ (kO 81 aQ ((nl aE.Locs (zg (q0.set q1.toNat ({ x0 with Man := y4 }) : List aE) ng0.gs)).eraseIdx q1.toNat))))) := YC (L := _) K11 (by unfold cX; (try unfold dI); rw [(hs0.set (x' := ({ x0 with Man := y4 } : aE)) X0 rfl).2.2, ← (hs0.set (x' := ({ x0 with Man := y4 } : aE)) X0 rfl).2.1]; first | done | rfl)
 refine mN hn0.1 ?_
 refine ⟨⟨fun e => absurd e (by decide), trivial⟩, ?_⟩
 refine aM 15 rfl (fun _ _ _ _ => i7 (bJ.ne ((O4.set (x' := ({ x0 with Man := y4 } : aE)) X0 rfl).k.z) ((O4.set (x' := ({ x0 with Man := y4 } : aE)) X0 rfl).k.ix (eN (x' := ({ x0 with Man := y4 } : aE)) X0))) rfl) ?_
 refine aM 16 rfl (fun _ _ _ _ => dJ (bJ.ne ((O4.set (x' := ({ x0 with Man := y4 } : aE)) X0 rfl).k.z) ((O4.set (x' := ({ x0 with Man := y4 } : aE)) X0 rfl).k.ix (eN (x' := ({ x0 with Man := y4 } : aE)) X0))) iV rfl rfl) ?_
 refine eX 17 rfl (by kernel_rfl) (cR (fo := 3) (x' := (({ ({ x0 with Man := y4 } : aE) with Locs := y5 } : aE), some ag4)) 4 hn0.2 ((O4.set (x' := ({ x0 with Man := y4 } : aE)) X0 rfl).k.ix (eN (x' := ({ x0 with Man := y4 } : aE)) X0)) lP ((O4.set (x' := ({ x0 with Man := y4 } : aE)) X0 rfl).k.z) rfl rfl (cI rfl) (cK (bX _ _ _) rfl) (cO.refl _ _) m8 rfl rfl ?_)
 intro K12
 have O6 := (O4.set (x' := ({ x0 with Man := y4 } : aE)) X0 rfl).step (x' := ({ ({ x0 with Man := y4 } : aE) with Locs := y5 } : aE)) (eN (x' := ({ x0 with Man := y4 } : aE)) X0) ag4 O5
 have hr0 := wE (L' := (ag4.t, .obj 81 (fl aQ (y5 : List bI) ag4.sp)) :: (([bL ag3 y3, dC (⟨ag2, List.replicate (y2 : List aI).length none⟩ : dS) y2, bY (⟨ag1, List.replicate (y1 : List aA).length none⟩ : dS) y1, (ng0.a.t, .obj 60 (fl kZ (((zg (q0.set q1.toNat ({ x0 with Man := y4 }) : List aE) ng0.gs)).set q1.toNat (({ ({ x0 with Man := y4 } : aE) with Locs := y5 } : aE), some ag4)) ng0.a.sp)), (some k5, .obj 30 ([nZ 0, sZ, sZ, sZ, sZ])), OC k2 p0.Seq ng0.a ((⟨ag1, List.replicate (y1 : List aA).length none⟩ : dS).a) ((⟨ag2, List.replicate (y2 : List aI).length none⟩ : dS).a) ag3] : HL) ++ ((dF (⟨ag2, List.replicate (y2 : List aI).length none⟩ : dS) y2) ++ ((cD (⟨ag1, List.replicate (y1 : List aA).length none⟩ : dS) y1) ++ (kO 81 aQ ((nl aE.Locs (zg (q0.set q1.toNat ({ x0 with Man := y4 }) : List aE) ng0.gs)).eraseIdx q1.toNat)))))) K12 [[_], [_], [_], [_], [_], [_], [_], _, _, _] rfl [0, 1, 2, 3, 4, 5, 6, 7, 8, 9] rfl rfl
 have hj0 := qX (L' := ([bL ag3 y3, dC (⟨ag2, List.replicate (y2 : List aI).length none⟩ : dS) y2, bY (⟨ag1, List.replicate (y1 : List aA).length none⟩ : dS) y1, cX (⟨ng0.a, ng0.gs.set q1.toNat (some ag4)⟩ : dS) ((q0.set q1.toNat ({ x0 with Man := y4 })).set q1.toNat ({ ({ x0 with Man := y4 } : aE) with Locs := y5 })), (some k5, .obj 30 ([nZ 0, sZ, sZ, sZ, sZ])), OC k2 p0.Seq ((⟨ng0.a, ng0.gs.set q1.toNat (some ag4)⟩ : dS).a) ((⟨ag1, List.replicate (y1 : List aA).length none⟩ : dS).a) ((⟨ag2, List.replicate (y2 : List aI).length none⟩ : dS).a) ag3] ++ ((dF (⟨ag2, List.replicate (y2 : List aI).length none⟩ : dS) y2) ++ ((cD (⟨ag1, List.replicate (y1 : List aA).length none⟩ : dS) y1) ++ (dI (⟨ng0.a, ng0.gs.set q1.toNat (some ag4)⟩ : dS) ((q0.set q1.toNat ({ x0 with Man := y4 })).set q1.toNat ({ ({ x0 with Man := y4 } : aE) with Locs := y5 }))))))) [[_], [_], [_], [_], [_], [_], _, _, _] rfl 8 (zs := nl aE.Locs (zg (q0.set q1.toNat ({ x0 with Man := y4 }) : List aE) ng0.gs)) (j := q1.toNat) (aE.Locs ({ ({ x0 with Man := y4 } : aE) with Locs := y5 } : aE), some ag4) (jW ((O4.set (x' := ({ x0 with Man := y4 } : aE)) X0 rfl).k.nlat (eN (x' := ({ x0 with Man := y4 } : aE)) X0))) rfl hr0.2 (by rw [← ((O4.set (x' := ({ x0 with Man := y4 } : aE)) X0 rfl).k.setL (x' := ({ ({ x0 with Man := y4 } : aE) with Locs := y5 } : aE)) (eN (x' := ({ x0 with Man := y4 } : aE)) X0) ag4 O5).2.2, ((O4.set (x' := ({ x0 with Man := y4 } : aE)) X0 rfl).k.setL (x' := ({ ({ x0 with Man := y4 } : aE) with Locs := y5 } : aE)) (eN (x' := ({ x0 with Man := y4 } : aE)) X0) ag4 O5).2.1]; rfl)
 refine mN (hr0.1.trans hj0.1) ?_
 refine ⟨⟨fun e => absurd e (by decide), trivial⟩, ?_⟩
 refine dL (by kernel_rfl) (qk (f := .c 49 _ (.c 48 _ (.c 47 _ (.c 46 _ (.c 45 _ (.c 44 _ (.c 43 _ (.c 42 _ (.c 41 _ (.c 40 _ (.c 39 _ (.c 38 _ (.c 37 _ (.c 36 _ (.c 35 _ (.c 34 _ _)))))))))))))))) hj0.2 rfl ?_)
 refine v0 ?_
 exact fH m (⟨ng0.a, ng0.gs.set q1.toNat (some ag4)⟩ : dS) O6 (lx (.k4 .nil))
 refine v0 ?_
 exact lD m ng0 (O4.all c0) (lx (.k4 .nil))
 rintro ng1 ⟨r0, r1⟩ t0 m
 refine vs (vs (v0 (vn (fun _ => aJ eL rfl rfl) (vl 5 (aw (⟨ag1, List.replicate (y1 : List aA).length none⟩ : dS).a.t (⟨ag1, List.replicate (y1 : List aA).length none⟩ : dS).a.n (⟨ag1, List.replicate (y1 : List aA).length none⟩ : dS).a.cap) eF rfl rfl rfl (vn (fun _ => eY hS ((yB.zero (l := aA.Locs) (szi := 4) O1).k.a) rfl) ?_)))))
 refine NC m (σ := (List aA) × Int) (τ := dS) (fun g s => ([bL ag3 y3, dC (⟨ag2, List.replicate (y2 : List aI).length none⟩ : dS) y2, bY g s.1, cX ng1 r0, (some k5, .obj 30 ([nZ 0, sZ, sZ, sZ, sZ])), OC k2 p0.Seq ng1.a g.a ((⟨ag2, List.replicate (y2 : List aI).length none⟩ : dS).a) ag3] ++ ((dF (⟨ag2, List.replicate (y2 : List aI).length none⟩ : dS) y2) ++ ((cD g s.1) ++ (dI ng1 r0))))) (fun g s => yB aA.Locs 35 4 g (s.1 : List aA) s.2.toNat (y1 : List aA).length) (fun g s => oP aA.Locs 35 4 g (s.1 : List aA)) (fun g s => .c 1 (.ptr k2 0) (.c 2 (.ptr k5 0) (.c 53 (nZ (y1.length : Int)) (.c 54 (nZ s.2) .nil)))) (⟨ag1, List.replicate (y1 : List aA).length none⟩ : dS) (yB.zero (l := aA.Locs) (szi := 4) O1) (lx (.k4 .nil)) ?_ ?_
 rintro ng2 ⟨q2, q3⟩ x O7 m
 replace m : pT w y1 q2 q3 = some x := m
 unfold pT at m
 refine vs (v0 (vs (v0 ?_)))
 refine vi m (fun c1 m => ?_) fun c1 m => ?_
 refine v0 (vs (v0 (vs (v0 (vs (v0 (vn (fun _ => aJ eL rfl rfl) (vl 5 (aZ ng2.a) eF rfl rfl rfl ?_))))))))
 obtain ⟨x1, X1, m⟩ := aC m
 refine vn (fun _ => dE (O7.k.ix X1) eW O7.k.z rfl rfl) (oO (HD (L' := ([bL ag3 y3, dC (⟨ag2, List.replicate (y2 : List aI).length none⟩ : dS) y2, bY ng2 q2, cX ng1 r0, (some k5, .obj 30 ([nZ 0, sZ, sZ, sZ, sZ])), OC k2 p0.Seq ng1.a ng2.a ((⟨ag2, List.replicate (y2 : List aI).length none⟩ : dS).a) ag3] ++ ((dF (⟨ag2, List.replicate (y2 : List aI).length none⟩ : dS) y2) ++ ((kO 81 aQ ((nl aA.Locs (zg (q2 : List aA) ng2.gs)).eraseIdx q3.toNat)) ++ (dI ng1 r0))))) [[_], [_], [_], [_], [_], [_], _, _, _] rfl 7 (q3.toNat) rfl rfl) (v0 ?_))
 refine vz [(14, ng2.a.t, .obj 44 (fl jG (zg (q2 : List aA) ng2.gs) ng2.a.sp))] mixed (fun u => ⟨fun _ => aO 2 u rfl, trivial⟩) fun u => ?_
 refine aM 0 rfl (fun _ _ _ _ => bN (vV _ _) rfl) ?_
 refine aM 1 rfl (fun _ _ _ _ => bN (vV _ _) rfl) ?_
 refine aM 2 rfl (fun _ _ _ _ => bN (vV _ _) rfl) ?_
 refine aM 3 rfl (fun _ _ _ _ => i7 (bJ.ne O7.k.z (O7.k.ix X1)) rfl) ?_
 refine aM 4 rfl (fun _ _ _ _ => dJ (bJ.ne O7.k.z (O7.k.ix X1)) iU rfl rfl) ?_
 refine aM 5 rfl (fun _ _ hi hB => eZ (fo := 33) (.sl none 1 (List.map cZ x1.Data)) (O7.k.ix X1) jX O7.k.z jR rfl (bR.get 0 hi rfl (hB 14 (by kernel_rfl))) (fun _ => rfl)) ?_
 refine aM 7 rfl (fun _ _ _ _ => bN (vV _ _) rfl) ?_
 refine aM 8 rfl (fun _ _ _ _ => i7 (bJ.ne O7.k.z (O7.k.ix X1)) rfl) ?_
 refine aM 9 rfl (fun _ _ _ _ => dJ (bJ.ne O7.k.z (O7.k.ix X1)) iL rfl rfl) ?_
 refine aM 10 rfl (fun _ _ hi hB => iD (eZ (fo := 34) (awO aQ 4 (gx ng2.gs q3.toNat) x1.Locs) (O7.k.ix X1) jX O7.k.z fE rfl (bR.get 0 hi rfl (hB 14 (by kernel_rfl))) (fun _ => rfl)) (aX.of_eq (congrArg (fun z => awO aQ 4 z x1.Locs) (O7.post _ (Nat.le_refl _))))) ?_
 obtain ⟨y6, Y6, m⟩ := aC m
 refine eX 6 rfl (by kernel_rfl) (cV (S1 _ Y6) rfl JD rfl ?_)
 rintro x h' ⟨tg0, t1, K13, rfl, rfl⟩
 rw [gO]
 refine ⟨⟨fun _ => aO 3 (bS.co u K13) rfl, trivial⟩, ?_⟩
 obtain ⟨y7, Y7, m⟩ := aC m
 refine eX 11 rfl (by kernel_rfl) (cV (M7 _ Y7) rfl M8 rfl ?_)
 rintro x h' ⟨ag5, O8, K14, rfl, rfl⟩
 rw [gO]
 refine ⟨⟨fun _ => aO 4 (bS.co (bS.co u K13) K14) rfl, trivial⟩, ?_⟩
 refine aM 12 rfl (fun _ _ _ _ => i7 (bJ.ne O7.k.z (O7.k.ix X1)) rfl) ?_
 refine aM 13 rfl (fun _ _ _ _ => dJ (bJ.ne O7.k.z (O7.k.ix X1)) iU rfl rfl) ?_
 refine eX 14 rfl (by kernel_rfl) (sW (s := 67) (.sl none 1 (List.map cZ y6)) (aV (.cons_cons _ (.cons _ (.refl _))) (bS.co (bS.co u K13) K14)).1 (Fz.ale (aV (.cons_cons _ (.cons _ (.refl _))) (bS.co (bS.co u K13) K14)).1 (kF _ 1 t1 (bS.co (bS.co u K13) K14) rfl (.refl _))) (cR (fo := 33) (x' := (({ x1 with Data := y6 } : aA), (gx ng2.gs q3.toNat))) 3 ((aV (.cons_cons _ (.cons _ (.refl _))) (bS.co (bS.co u K13) K14)).2) (O7.k.ix X1) jX O7.k.z rfl rfl rfl rfl (cO.refl _ _) CB rfl rfl ?_))
 intro K15
 have hs1 : rN aA.Locs 35 4 ng2 (q2 : List aA) := O7.k
 have hn1 : hp h _ = hp h ([h9 ag5 y7, bL ag3 y3, dC (⟨ag2, List.replicate (y2 : List aI).length none⟩ : dS) y2, bY ng2 (q2.set q3.toNat ({ x1 with Data := y6 })), cX ng1 r0, (some k5, .obj 30 ([nZ 0, sZ, sZ, sZ, sZ])), OC k2 p0.Seq ng1.a ng2.a ((⟨ag2, List.replicate (y2 : List aI).length none⟩ : dS).a) ag3] ++ ((dF (⟨ag2, List.replicate (y2 : List aI).length none⟩ : dS) y2) ++ ((kO 81 aQ ((nl aA.Locs (zg (q2.set q3.toNat ({ x1 with Data := y6 }) : List aA) ng2.gs)).eraseIdx q3.toNat)) ++ (dI ng1 r0)))) ∧ bS h ([h9 ag5 y7, bL ag3 y3, dC (⟨ag2, List.replicate (y2 : List aI).length none⟩ : dS) y2, bY ng2 (q2.set q3.toNat ({ x1 with Data := y6 })), cX ng1 r0, (some k5, .obj 30 ([nZ 0, sZ, sZ, sZ, sZ])), OC k2 p0.Seq ng1.a ng2.a ((⟨ag2, List.replicate (y2 : List aI).length none⟩ : dS).a) ag3] ++ ((dF (⟨ag2, List.replicate (y2 : List aI).length none⟩ : dS) y2) ++ ((kO 81 aQ ((nl aA.Locs (zg (q2.set q3.toNat ({ x1 with Data := y6 }) : List aA) ng2.gs)).eraseIdx q3.toNat)) ++ (dI ng1 r0)))) := YC (L := _) K15 (by unfold bY; (try unfold cD); rw [(hs1.set (x' := ({ x1 with Data := y6 } : aA)) X1 rfl).2.2, ← (hs1.set (x' := ({ x1 with Data := y6 } : aA)) X1 rfl).2.1]; first | done | rfl)
 refine mN hn1.1 ?_
 refine ⟨⟨fun e => absurd e (by decide), trivial⟩, ?_⟩
 refine aM 15 rfl (fun _ _ _ _ => i7 (bJ.ne ((O7.set (x' := ({ x1 with Data := y6 } : aA)) X1 rfl).k.z) ((O7.set (x' := ({ x1 with Data := y6 } : aA)) X1 rfl).k.ix (eN (x' := ({ x1 with Data := y6 } : aA)) X1))) rfl) ?_
 refine aM 16 rfl (fun _ _ _ _ => dJ (bJ.ne ((O7.set (x' := ({ x1 with Data := y6 } : aA)) X1 rfl).k.z) ((O7.set (x' := ({ x1 with Data := y6 } : aA)) X1 rfl).k.ix (eN (x' := ({ x1 with Data := y6 } : aA)) X1))) iL rfl rfl) ?_
 refine eX 17 rfl (by kernel_rfl) (cR (fo := 34) (x' := (({ ({ x1 with Data := y6 } : aA) with Locs := y7 } : aA), some ag5)) 3 hn1.2 ((O7.set (x' := ({ x1 with Data := y6 } : aA)) X1 rfl).k.ix (eN (x' := ({ x1 with Data := y6 } : aA)) X1)) jX ((O7.set (x' := ({ x1 with Data := y6 } : aA)) X1 rfl).k.z) rfl rfl (cI rfl) (cK (bX _ _ _) rfl) (cO.refl _ _) m8 rfl rfl ?_)
 intro K16
 have O9 := (O7.set (x' := ({ x1 with Data := y6 } : aA)) X1 rfl).step (x' := ({ ({ x1 with Data := y6 } : aA) with Locs := y7 } : aA)) (eN (x' := ({ x1 with Data := y6 } : aA)) X1) ag5 O8
 have hr1 := wE (L' := (ag5.t, .obj 81 (fl aQ (y7 : List bI) ag5.sp)) :: (([bL ag3 y3, dC (⟨ag2, List.replicate (y2 : List aI).length none⟩ : dS) y2, (ng2.a.t, .obj 44 (fl jG (((zg (q2.set q3.toNat ({ x1 with Data := y6 }) : List aA) ng2.gs)).set q3.toNat (({ ({ x1 with Data := y6 } : aA) with Locs := y7 } : aA), some ag5)) ng2.a.sp)), cX ng1 r0, (some k5, .obj 30 ([nZ 0, sZ, sZ, sZ, sZ])), OC k2 p0.Seq ng1.a ng2.a ((⟨ag2, List.replicate (y2 : List aI).length none⟩ : dS).a) ag3] : HL) ++ ((dF (⟨ag2, List.replicate (y2 : List aI).length none⟩ : dS) y2) ++ ((kO 81 aQ ((nl aA.Locs (zg (q2.set q3.toNat ({ x1 with Data := y6 }) : List aA) ng2.gs)).eraseIdx q3.toNat)) ++ (dI ng1 r0))))) K16 [[_], [_], [_], [_], [_], [_], [_], _, _, _] rfl [0, 1, 2, 3, 4, 5, 6, 7, 8, 9] rfl rfl
 have hj1 := qX (L' := ([bL ag3 y3, dC (⟨ag2, List.replicate (y2 : List aI).length none⟩ : dS) y2, bY (⟨ng2.a, ng2.gs.set q3.toNat (some ag5)⟩ : dS) ((q2.set q3.toNat ({ x1 with Data := y6 })).set q3.toNat ({ ({ x1 with Data := y6 } : aA) with Locs := y7 })), cX ng1 r0, (some k5, .obj 30 ([nZ 0, sZ, sZ, sZ, sZ])), OC k2 p0.Seq ng1.a ((⟨ng2.a, ng2.gs.set q3.toNat (some ag5)⟩ : dS).a) ((⟨ag2, List.replicate (y2 : List aI).length none⟩ : dS).a) ag3] ++ ((dF (⟨ag2, List.replicate (y2 : List aI).length none⟩ : dS) y2) ++ ((cD (⟨ng2.a, ng2.gs.set q3.toNat (some ag5)⟩ : dS) ((q2.set q3.toNat ({ x1 with Data := y6 })).set q3.toNat ({ ({ x1 with Data := y6 } : aA) with Locs := y7 }))) ++ (dI ng1 r0))))) [[_], [_], [_], [_], [_], [_], _, _, _] rfl 7 (zs := nl aA.Locs (zg (q2.set q3.toNat ({ x1 with Data := y6 }) : List aA) ng2.gs)) (j := q3.toNat) (aA.Locs ({ ({ x1 with Data := y6 } : aA) with Locs := y7 } : aA), some ag5) (jW ((O7.set (x' := ({ x1 with Data := y6 } : aA)) X1 rfl).k.nlat (eN (x' := ({ x1 with Data := y6 } : aA)) X1))) rfl hr1.2 (by rw [← ((O7.set (x' := ({ x1 with Data := y6 } : aA)) X1 rfl).k.setL (x' := ({ ({ x1 with Data := y6 } : aA) with Locs := y7 } : aA)) (eN (x' := ({ x1 with Data := y6 } : aA)) X1) ag5 O8).2.2, ((O7.set (x' := ({ x1 with Data := y6 } : aA)) X1 rfl).k.setL (x' := ({ ({ x1 with Data := y6 } : aA) with Locs := y7 } : aA)) (eN (x' := ({ x1 with Data := y6 } : aA)) X1) ag5 O8).2.1]; rfl)
 refine mN (hr1.1.trans hj1.1) ?_
 refine ⟨⟨fun e => absurd e (by decide), trivial⟩, ?_⟩
 refine dL (by kernel_rfl) (qk (f := .c 76 _ (.c 75 _ (.c 74 _ (.c 73 _ (.c 72 _ (.c 67 _ (.c 71 _ (.c 70 _ (.c 69 _ (.c 68 _ (.c 66 _ (.c 65 _ (.c 64 _ (.c 63 _ (.c 62 _ (.c 61 _ _)))))))))))))))) hj1.2 rfl ?_)
 refine v0 ?_
 exact fH m (⟨ng2.a, ng2.gs.set q3.toNat (some ag5)⟩ : dS) O9 (lx (.k4 .nil))
 refine v0 ?_
 exact lD m ng2 (O7.all c1) (lx (.k4 .nil))
 rintro ng3 ⟨r2, r3⟩ t2 m
 refine vs (vs (v0 (vn (fun _ => aJ fC rfl rfl) (vl 5 (aw (⟨ag2, List.replicate (y2 : List aI).length none⟩ : dS).a.t (⟨ag2, List.replicate (y2 : List aI).length none⟩ : dS).a.n (⟨ag2, List.replicate (y2 : List aI).length none⟩ : dS).a.cap) iK rfl rfl rfl (vn (fun _ => eY o7 ((yB.zero (l := aI.Locs) (szi := 4) O2).k.a) rfl) ?_)))))
 refine NC m (σ := (List aI) × Int) (τ := dS) (fun g s => ([bL ag3 y3, dC g s.1, bY ng3 r2, cX ng1 r0, (some k5, .obj 30 ([nZ 0, sZ, sZ, sZ, sZ])), OC k2 p0.Seq ng1.a ng3.a g.a ag3] ++ ((dF g s.1) ++ ((cD ng3 r2) ++ (dI ng1 r0))))) (fun g s => yB aI.Locs 3 4 g (s.1 : List aI) s.2.toNat (y2 : List aI).length) (fun g s => oP aI.Locs 3 4 g (s.1 : List aI)) (fun g s => .c 1 (.ptr k2 0) (.c 2 (.ptr k5 0) (.c 80 (nZ (y2.length : Int)) (.c 81 (nZ s.2) .nil)))) (⟨ag2, List.replicate (y2 : List aI).length none⟩ : dS) (yB.zero (l := aI.Locs) (szi := 4) O2) (lx (.k4 .nil)) ?_ ?_
 rintro ng4 ⟨q4, q5⟩ x O10 m
 replace m : pU w y2 q4 q5 = some x := m
 unfold pU at m
 refine vs (v0 (vs (v0 ?_)))
 refine vi m (fun c2 m => ?_) fun c2 m => ?_
 refine v0 (vs (v0 (vs (v0 (oO (HD (L' := ([bL ag3 y3, dC ng4 q4, bY ng3 r2, cX ng1 r0, (some k5, .obj 30 ([nZ 0, sZ, sZ, sZ, sZ])), OC k2 p0.Seq ng1.a ng3.a ng4.a ag3] ++ ((kO 81 aQ ((nl aI.Locs (zg (q4 : List aI) ng4.gs)).eraseIdx q5.toNat)) ++ ((cD ng3 r2) ++ (dI ng1 r0))))) [[_], [_], [_], [_], [_], [_], _, _, _] rfl 6 (q5.toNat) rfl rfl) (v0 ?_))))))
 refine vz [(1000000, some k2, .obj 30 ([nZ p0.Seq, aZ ng1.a, aZ ng3.a, aZ ng4.a, aZ ag3])), (12, ng4.a.t, .obj 99 (fl nH (zg (q4 : List aI) ng4.gs) ng4.a.sp))] mixed (fun u => ⟨fun _ => aO 5 u rfl, fun _ => aO 1 u rfl, trivial⟩) fun u => ?_
 refine aM 0 rfl (fun _ _ _ _ => aJ fC rfl rfl) ?_
 refine aM 1 rfl (fun _ _ hi hB => bH (aZ ng4.a) iK rfl (At.s (bR.get 0 hi rfl (hB 1000000 (by kernel_rfl)))) rfl) ?_
 refine aM 2 rfl (fun _ _ _ _ => bN (.sc (.int _ _)) rfl) ?_
 refine aM 3 rfl (fun _ _ _ _ => aJ fC rfl rfl) ?_
 refine aM 4 rfl (fun _ _ hi hB => bH (aZ ng4.a) iK rfl (At.s (bR.get 0 hi rfl (hB 1000000 (by kernel_rfl)))) rfl) ?_
 refine aM 5 rfl (fun _ _ _ _ => bN (.sc (.int _ _)) rfl) ?_
 obtain ⟨x2, X2, m⟩ := aC m
 refine aM 6 rfl (fun _ _ _ _ => dE (O10.k.ix X2) jQ O10.k.z rfl rfl) ?_
 refine aM 7 rfl (fun _ _ _ _ => dJ (bJ.ne O10.k.z (O10.k.ix X2)) kM rfl rfl) ?_
 refine aM 8 rfl (fun _ _ hi hB => iD (eZ (fo := 2) (awO aQ 4 (gx ng4.gs q5.toNat) x2.Locs) (O10.k.ix X2) rS O10.k.z fE rfl (bR.get 1 hi rfl (hB 12 (by kernel_rfl))) (fun _ => rfl)) (aX.of_eq (congrArg (fun z => awO aQ 4 z x2.Locs) (O10.post _ (Nat.le_refl _))))) ?_
 obtain ⟨y8, Y8, m⟩ := aC m
 refine eX 9 rfl (by kernel_rfl) (cV (M7 _ Y8) rfl M8 rfl ?_)
 rintro x h' ⟨ag6, O11, K17, rfl, rfl⟩
 rw [gO]
 refine ⟨⟨fun _ => aO 6 (bS.co u K17) rfl, fun _ => aO 2 (bS.co u K17) rfl, trivial⟩, ?_⟩
 obtain ⟨x3, X3, m⟩ := aC m
 refine aM 10 rfl (fun _ _ _ _ => dE (O10.k.ix X3) jQ O10.k.z rfl rfl) ?_
 refine aM 11 rfl (fun _ _ _ _ => dJ (bJ.ne O10.k.z (O10.k.ix X3)) kM rfl rfl) ?_
 refine eX 12 rfl (by kernel_rfl) (cR (fo := 2) (x' := (({ x3 with Locs := y8 } : aI), some ag6)) 2 (bS.co u K17) (O10.k.ix X3) rS O10.k.z rfl rfl (cI rfl) (cK (bX _ _ _) rfl) (cO.refl _ _) m8 rfl rfl ?_)
 intro K18
 have O12 := O10.step (x' := ({ x3 with Locs := y8 } : aI)) X3 ag6 O11
 have hr2 := wE (L' := (ag6.t, .obj 81 (fl aQ (y8 : List bI) ag6.sp)) :: (([bL ag3 y3, (ng4.a.t, .obj 99 (fl nH (((zg (q4 : List aI) ng4.gs)).set q5.toNat (({ x3 with Locs := y8 } : aI), some ag6)) ng4.a.sp)), bY ng3 r2, cX ng1 r0, (some k5, .obj 30 ([nZ 0, sZ, sZ, sZ, sZ])), OC k2 p0.Seq ng1.a ng3.a ng4.a ag3] : HL) ++ ((kO 81 aQ ((nl aI.Locs (zg (q4 : List aI) ng4.gs)).eraseIdx q5.toNat)) ++ ((cD ng3 r2) ++ (dI ng1 r0))))) K18 [[_], [_], [_], [_], [_], [_], [_], _, _, _] rfl [0, 1, 2, 3, 4, 5, 6, 7, 8, 9] rfl rfl
 have hj2 := qX (L' := ([bL ag3 y3, dC (⟨ng4.a, ng4.gs.set q5.toNat (some ag6)⟩ : dS) (q4.set q5.toNat ({ x3 with Locs := y8 })), bY ng3 r2, cX ng1 r0, (some k5, .obj 30 ([nZ 0, sZ, sZ, sZ, sZ])), OC k2 p0.Seq ng1.a ng3.a ((⟨ng4.a, ng4.gs.set q5.toNat (some ag6)⟩ : dS).a) ag3] ++ ((dF (⟨ng4.a, ng4.gs.set q5.toNat (some ag6)⟩ : dS) (q4.set q5.toNat ({ x3 with Locs := y8 }))) ++ ((cD ng3 r2) ++ (dI ng1 r0))))) [[_], [_], [_], [_], [_], [_], _, _, _] rfl 6 (zs := nl aI.Locs (zg (q4 : List aI) ng4.gs)) (j := q5.toNat) (aI.Locs ({ x3 with Locs := y8 } : aI), some ag6) (jW (O10.k.nlat X3)) rfl hr2.2 (by rw [← (O10.k.setL (x' := ({ x3 with Locs := y8 } : aI)) X3 ag6 O11).2.2, (O10.k.setL (x' := ({ x3 with Locs := y8 } : aI)) X3 ag6 O11).2.1]; rfl)
 refine mN (hr2.1.trans hj2.1) ?_
 refine ⟨⟨fun _ => aO 5 hj2.2 rfl, fun e => absurd e (by decide), trivial⟩, ?_⟩
 refine dL (by kernel_rfl) (qk (f := .c 95 _ (.c 94 _ (.c 93 _ (.c 92 _ (.c 91 _ (.c 90 _ (.c 89 _ (.c 88 _ (.c 87 _ (.c 86 _ (.c 85 _ (.c 84 _ _)))))))))))) hj2.2 rfl ?_)
 refine v0 ?_
 exact fH m (⟨ng4.a, ng4.gs.set q5.toNat (some ag6)⟩ : dS) O12 (lx (.k4 .nil))
 refine v0 ?_
 exact lD m ng4 (O10.all c2) (lx (.k4 .nil))
 rintro ng5 ⟨r4, r5⟩ t3 m
 refine vs (v0 (vl 5 (.agg ([nZ p0.Seq, aZ ng1.a, aZ ng3.a, aZ ng5.a, aZ ag3])) eK rfl rfl rfl ?_))
 refine ve fun u => aL 4 ([nZ p0.Seq, aZ ng1.a, aZ ng3.a, aZ ng5.a, aZ ag3]) u rfl rfl rfl (by repeat (first | exact rfl | refine cK (gG _ _ _) ?_ | refine cK (bX _ _ _) ?_ | refine cK (wF _ _ _ _) ?_ | refine cK rfl ?_)) jF rfl rfl fun K19 => qk K19 rfl ?_
 refine v0 ?_
 cases m
 exact vr fun u => dY.of1 (.inl rfl) (n3 (.agg ([nZ p0.Seq, aZ ng1.a, aZ ng3.a, aZ ng5.a, aZ ag3])) eK rfl (bB 4 u rfl) rfl) (KN (L' := ([cX ng1 r0, bY ng3 r2, dC ng5 r4, bL ag3 y3] ++ ((dI ng1 r0) ++ ((cD ng3 r2) ++ (dF ng5 r4))))) u [[_], [_], [_], [_], [_], [_], _, _, _] rfl [3, 2, 1, 0, 8, 7, 6] rfl rfl).2 (aX.refl _ _) ⟨ng1, t0, ng3, t2, ng5, t3, ag3, O3, (KN (L' := ([cX ng1 r0, bY ng3 r2, dC ng5 r4, bL ag3 y3] ++ ((dI ng1 r0) ++ ((cD ng3 r2) ++ (dF ng5 r4))))) u [[_], [_], [_], [_], [_], [_], _, _, _] rfl [3, 2, 1, 0, 8, 7, 6] rfl rfl).1, rfl, rfl⟩
theorem VX : aU Tryz.prog 77 = true := by kernel_rfl
end Go.Proofs.YtbbifdfldpfphaaGreat
namespace Go.Vm
def oM (l : List (Int × Nat)) : List (Value × Value) := l.map fun x => (.int .i64 x.1, .func (.func x.2) #[] #[])
theorem mG (x : Int) : ∀ (l : List (Int × Nat)) (ents : List MapEntry) (i : Nat), ents.map (fun e => (e.key, e.val)) = oM l →
    (∀ e, l.find? (fun e => e.1 == x) = some e → ∃ j, Instr.findNow (.int .i64) (.int .i64 x) ents i = some (some (j, .func (.func e.2) #[] #[]))) ∧
    (l.find? (fun e => e.1 == x) = none → Instr.findNow (.int .i64) (.int .i64 x) ents i = some none)
  | [], [], i, _ => ⟨fun e h => by simp at h, fun _ => rfl⟩
  | [], _ :: _, _, h => by simp [oM] at h
  | _ :: _, [], _, h => by simp [oM] at h
  | y :: l, e :: ents, i, h => by
    simp only [List.map_cons, oM, List.cons.injEq, Prod.mk.injEq] at h
    obtain ⟨⟨h1, h2⟩, h3⟩ := h
    obtain ⟨ih1, ih2⟩ := mG x l ents (i + 1) h3
    have hn : Instr.findNow (.int .i64) (.int .i64 x) (e :: ents) i = (if (y.1 == x) = true then some (some (i, e.val)) else Instr.findNow (.int .i64) (.int .i64 x) ents (i + 1)) := by
      simp only [Instr.findNow, h1, Instr.sameNow, if_true]
      by_cases q : x = y.1
      · subst q; simp
      · have q1 : (x == y.1) = false := by simpa using q
        have q2 : (y.1 == x) = false := by simpa using Ne.symm q
        rw [q1, q2]; simp
    rw [hn]
    simp only [List.find?_cons]
    cases q : (y.1 == x)
    · exact ⟨fun e' he => by obtain ⟨j, hj⟩ := ih1 e' (by simpa using he); exact ⟨j, by simpa using hj⟩, fun he => by simpa using ih2 (by simpa using he)⟩
    · exact ⟨fun e' he => by simp at he; subst he; exact ⟨i, by simp [h2]⟩, fun he => by simp at he⟩
section
variable {P : Program} {h h0 : aH} {L : HL} {n : Nat} {kvs : KV} {ty : TypeId} {pos : String} {dP : Array Edge}
theorem DV {l : List (Int × Nat)} {x : Int} {dst : Option Tmp} {t kt et : TypeId} {m y : Operand} {q : bZ} {z : Value} (ht : P.underlying t = some (.map kt et)) (hz : (P.info? et).bind (·.zero) = some z) (hkt : P.underlying kt = some (.int .i64))
    (hm : dN n kvs m = .mpv q) (hy : dN n kvs y = .sc (.int .i64 x)) (hq : h q = some (.mp (oM l))) :
    eI P ⟨dst, .lookup t m y true, ty, pos, dP, none⟩ (match l.find? (fun e => e.1 == x) with | some e => .tup [.fn (.func e.2) [], .sc (.bool true)] | none => .tup [.any, .sc (.bool false)]) (fm n kvs) h := by
  refine eR (x := match l.find? (fun e => e.1 == x) with | some e => .tup [.fn (.func e.2) [], .sc (.bool true)] | none => .tup [.any, .sc (.bool false)]) (fun E w ac r hv => ?_) ⟨rfl, rfl⟩
  have vm := hv m (by simp [Op.operands])
  have vy := hv y (by simp [Op.operands])
  rw [bG, hm] at vm; rw [bG, hy] at vy
  simp only [VR] at vm vy
  obtain ⟨g, hg, em⟩ := vm
  obtain ⟨g', ents, clk, e1, e2, e3⟩ := r.mp q _ hq
  rw [hg] at e1; cases e1
  have hck := fun b => lZ (P := P) hkt 9999 x b w
  obtain ⟨f1, f2⟩ := mG x l ents.toList 0 e3
  have hz1 : (zeroValue et).run P w = .ok z w := by
    cases hi : P.info? et with
    | none => rw [hi] at hz; simp at hz
    | some i =>
      rw [hi] at hz
      simp at hz
      simp [zeroValue, typeInfo, hi, hz]
  have hgo : (getObj g).run P w = .ok (.map ents clk) w := by simp [getObj, Sem.run, e2]
  simp only [execOp, em, vy, Instr.lookup, Sem.run_bind, run_underlying ht, Result.andThen_ok, hgo, Sem.run_pure, hck, Instr.findKey, run_underlying hkt]
  cases ha : l.find? (fun e => e.1 == x) with
  | some e =>
    obtain ⟨j, a1⟩ := f1 e ha
    refine ⟨.tuple #[.func (.func e.2) #[] #[], .bool true], by simp [a1], ?_⟩
    simp only [VR]
    exact ⟨_, rfl, by simp [cL, VR]⟩
  | none =>
    have a1 := f2 ha
    refine ⟨.tuple #[z, .bool false], by simp [a1, hz1], ?_⟩
    simp only [VR]
    exact ⟨_, rfl, by simp [cL, VR]⟩
theorem uE {K : AV → aH → Prop} {l : List (Int × Nat)} {x : Int} {f : Nat} {dst : Option Tmp} {t kt et : TypeId} {m y v : Operand} {q : bZ} (i : Nat) (hk : bS h0 L) (ht : P.underlying t = some (.map kt et)) (hkt : P.underlying kt = some (.int .i64))
    (hm : dN n kvs m = .mpv q) (hy : dN n kvs y = .sc (.int .i64 x)) (hv : dN n kvs v = .fn (.func f) []) (hi : L[i]? = some (some q, .mp (oM l))) (hnew : l.find? (fun e => e.1 == x) = none)
    (k : bS h0 (L.set i (some q, .mp (oM (l ++ [(x, f)])))) → K (.sc undef) (hp h0 (L.set i (some q, .mp (oM (l ++ [(x, f)])))))) :
    iB P ⟨dst, .insert t m y v, ty, pos, dP, none⟩ K (fm n kvs) (hp h0 L) := by
  intro E w a r hva Nx Qx hn
  have vm := hva m (by simp [Op.operands])
  have vy := hva y (by simp [Op.operands])
  have vv := hva v (by simp [Op.operands])
  rw [bG, hm] at vm; rw [bG, hy] at vy; rw [bG, hv] at vv
  simp only [VR] at vm vy vv
  obtain ⟨g, hg, em⟩ := vm
  obtain ⟨cs, ev, hcs⟩ := vv
  have hc0 : cs = #[] := by
    have : cs.toList = [] := by
      cases hh : cs.toList with
      | nil => rfl
      | cons a b => rw [hh] at hcs; simp only [cL] at hcs
    simpa using this
  subst hc0
  obtain ⟨g', ents, clk, e1, e2, e3⟩ := r.mp q _ (bB i hk hi)
  rw [hg] at e1; cases e1
  have hq := bB i hk hi
  have hck := fun b => lZ (P := P) hkt 9999 x b w
  obtain ⟨f1, f2⟩ := mG x l ents.toList 0 e3
  have hf := f2 hnew
  have hgo : (getObj g).run P w = .ok (.map ents clk) w := by simp [getObj, Sem.run, e2]
  have hglt := (Array.getElem?_eq_some_iff.1 e2).1
  obtain ⟨h1, h2, _⟩ := iC (e' := .mp (oM (l ++ [(x, f)]))) i hk hi (.inl rfl)
  have hes : (ents.push { key := .int .i64 x, val := .func (.func f) #[] #[], born := clk }).toList.map (fun e => (e.key, e.val)) = oM (l ++ [(x, f)]) := by
    simp only [Array.toList_push, List.map_append, e3, oM, List.map_cons, List.map_nil]
  have hfind : (Instr.findKey kt (.int .i64 x) ents.toList).run P w = .ok none w := by
    simp only [Instr.findKey, Sem.run_bind, run_underlying hkt, Result.andThen_ok, hf, Sem.run_pure]
  have hrun : (execOp a.eval ⟨dst, .insert t m y v, ty, pos, dP, none⟩).run P w = .ok .skip { w with heap := w.heap.setIfInBounds g (.map (ents.push { key := .int .i64 x, val := .func (.func f) #[] #[], born := clk }) (clk + 1)) } := by
    simp only [execOp, em, vy, ev, Instr.mapUpdate, Sem.run_bind, run_underlying ht, Result.andThen_ok, hgo, hck, hfind]
    simp [setObj, Sem.run, e2]
  obtain ⟨k1, r1⟩ := r.set_mp hq hg (ents.push { key := .int .i64 x, val := .func (.func f) #[] #[], born := clk }) (clk + 1) (w' := { w with heap := w.heap.setIfInBounds g (.map (ents.push { key := .int .i64 x, val := .func (.func f) #[] #[], born := clk }) (clk + 1)) }) (by simp [hglt]) (fun g' hg' => by simp [Ne.symm hg']) (by simp) rfl rfl rfl
  unfold Oper.wp
  rw [hrun]
  rw [hes, h1] at r1
  exact hn (.sc undef) undef _ E _ k1 r1 (by simp only [VR]) (k h2)
end
theorem JX (args : List AV) : fm args.length (xL 0 args).k = args := by
 apply List.ext_getElem?
 intro i
 rw [mU, B5]
 have e := qA 0 0 args i
 rw [Nat.zero_add, List.replicate_zero, List.append_nil] at e
 by_cases h : i < args.length
 ·rw [if_pos h, e, List.getElem?_eq_getElem h]
  simp [List.getD, h]
 ·rw [if_neg h, List.getElem?_eq_none (by omega)]
theorem wG {P : Program} {f : FuncId} {args : List AV} {Q : AV → aH → Prop} {H H' : aH} (le : gY (fm args.length (xL 0 args).k) H' (fm args.length (xL 0 args).k) H) (hc : aP P f args H' Q) : aP P f args H Q := by
 rw [JX] at le
 intro E w vs r v
 obtain ⟨E1, k1, r1, v1⟩ := le E w _ r v
 refine (hc E1 w vs r1 v1).mono ?_
 rintro e w' ⟨v', E', x, h', rfl, k, r', vx, q⟩
 exact ⟨v', E', x, h', rfl, k1.trans k, r', vx, q⟩
theorem nJ {P : Program} {f : FuncId} {args : List AV} {Q Q' : AV → aH → Prop} {H : aH} (hc : aP P f args H Q) (hq : ∀ r h', Q r h' → Q' r h') : aP P f args H Q' := hc.mono hq
end Go.Vm
namespace Go.Proofs.YtbbifdfldpfphaaGreat
open Go.Vm
def mH : List (Int × Nat) := [(1, 72), (2, 73), (3, 74), (4, 75), (5, 76)]
def nK (m : Nat) (f : Nat) (d : aB) (x : a8) : Option (aB × Int) :=
 if f = 72 then (VU m d x).bind fun o => some ({ d with Seq := o.2.1, Snaps := o.2.2.1, Chunks := o.2.2.2 }, o.1)
 else if f = 75 then (RD m d x).bind fun o => some ({ d with Snaps := o.2.1, Chunks := o.2.2.1, Exps := o.2.2.2.1, Vols := o.2.2.2.2 }, o.1)
 else if f = 76 then (Q0 m d x).bind fun o => some ({ d with Vols := o.2 }, o.1)
 else none
def NK (m : Nat) (p0 : aB) (p1 : a8) : Option (aB × Int) :=
 match mH.find? (fun e => e.1 == p1.Kind) with
 | none => some (i8, 1)
 | some e => (MK m p0).bind fun y => if (y != 0) = true then some (i8, 1) else (HK m p0).bind fun d =>
 after ((nK m e.2 d p1).bind fun s => some (.brk s) : Option (Lp (aB × Int) (aB × Int))) fun s => if (s.2 != 0) = true then some (i8, s.2) else (MK m s.1).bind fun y2 => if (y2 != 0) = true then some (i8, 1) else some (s.1, 0)
abbrev HM (k : bZ) (d : aB) (a b c : dS) (v : dD) : HL := [OC k d.Seq a.a b.a c.a v, cX a d.Snaps, bY b d.Chunks, dC c d.Exps, bL v d.Vols] ++ ((dI a d.Snaps) ++ ((cD b d.Chunks) ++ (dF c d.Exps)))
abbrev HN (k : bZ) (d : aB) (a b c v : dD) : HL := [OC k d.Seq a b c v, cJ a d.Snaps, cF b d.Chunks, eC c d.Exps, bL v d.Vols]
theorem VY {h : aH} {k : bZ} {d : aB} {a b c : dS} {v : dD} (oa : oP aE.Locs 4 4 a d.Snaps) (ob : oP aA.Locs 35 4 b d.Chunks) (oc : oP aI.Locs 3 4 c d.Exps) (m : bS h (HM k d a b c v)) {n : Nat} {f : FR} :
 bS h (HN k d a.a b.a c.a v) ∧ gY (fm n f.k) (hp h (HN k d a.a b.a c.a v)) (fm n f.k) (hp h (HM k d a b c v)) := by
 obtain ⟨k1, l1⟩ := JP (ty := 81) (n := n) (f := f) (h0 := h) (L' := [OC k d.Seq a.a b.a c.a v, cJ a.a d.Snaps, bY b d.Chunks, dC c d.Exps, bL v d.Vols] ++ ((cD b d.Chunks) ++ (dF c d.Exps))) [[_], [_], [_], [_], [_], _, _, _] rfl 1 5 iT yE oa.k rfl rfl (by decide) rfl m
 obtain ⟨k2, l2⟩ := JP (ty := 81) (n := n) (f := f) (h0 := h) (L' := [OC k d.Seq a.a b.a c.a v, cJ a.a d.Snaps, cF b.a d.Chunks, dC c d.Exps, bL v d.Vols] ++ (dF c d.Exps)) [[_], [_], [_], [_], [_], _, _] rfl 2 5 iT tZ ob.k rfl rfl (by decide) rfl k1
 obtain ⟨k3, l3⟩ := JP (ty := 81) (n := n) (f := f) (h0 := h) (L' := HN k d a.a b.a c.a v) [[_], [_], [_], [_], [_], _] rfl 3 5 iT CT oc.k rfl rfl (by decide) rfl k2
 exact ⟨k3, (l1.trans l2).trans l3⟩
theorem NL {w : Nat} {f : Nat} {d : aB} {x : a8} {s : aB × Int} (h : aH) {k : bZ} {a b c : dS} {v : dD} (oa : oP aE.Locs 4 4 a d.Snaps) (ob : oP aA.Locs 35 4 b d.Chunks) (oc : oP aI.Locs 3 4 c d.Exps) (ov : bJ v 4 d.Vols.length) (u : bS h (HM k d a b c v)) (m : nK w f d x = some s) :
 aP Tryz.prog f [.ptr k 0, .agg (aG x)] (hp h (HM k d a b c v)) (fun r h' => ∃ a' b' c' v' : dD, bJ a' 4 s.1.Snaps.length ∧ bJ b' 35 s.1.Chunks.length ∧ bJ c' 3 s.1.Exps.length ∧ bJ v' 4 s.1.Vols.length ∧ bS h (HN k s.1 a' b' c' v') ∧ r = nZ s.2 ∧ h' = hp h (HN k s.1 a' b' c' v')) := by
 obtain ⟨kp, lp⟩ := VY oa ob oc u (n := [AV.ptr k 0, AV.agg (aG x)].length) (f := xL 0 [AV.ptr k 0, AV.agg (aG x)])
 unfold nK at m
 split at m
 rename_i e; subst e
 obtain ⟨o, ho, m⟩ := aC m
 cases m
 refine wG lp (nJ (ZY (p0 := d) h oa.k.a ob.k.a oc.k.a ov kp ho) ?_)
 rintro r h' ⟨a', oa', b', ob', hk', e1, e2⟩
 exact ⟨a', b', c.a, v, oa', ob', oc.k.a, ov, hk', e1, e2⟩
 split at m
 rename_i e; subst e
 obtain ⟨o, ho, m⟩ := aC m
 cases m
 refine nJ (ZX (p0 := d) h oa ob oc ov u ho) ?_
 rintro r h' ⟨a', oa', b', ob', c', oc', v', ov', hk', e1, e2⟩
 exact ⟨a', b', c', v', oa', ob', oc', ov', hk', e1, e2⟩
 split at m
 rename_i e; subst e
 obtain ⟨o, ho, m⟩ := aC m
 cases m
 refine wG lp (nJ (ZW (p0 := d) h oa.k.a ob.k.a oc.k.a ov kp ho) ?_)
 rintro r h' ⟨v', ov', hk', e1, e2⟩
 exact ⟨a.a, b.a, c.a, v', oa.k.a, ob.k.a, oc.k.a, ov', hk', e1, e2⟩
 cases m
theorem JY {f : Nat} {u : Nat} {d : aB} {x : a8} {s : aB × Int} (m : nK u f d x = some s) : aU Tryz.prog f = true := by
 unfold nK at m
 split at m
 rename_i e; subst e; exact VV
 split at m
 rename_i e; subst e; exact VQ
 split at m
 rename_i e; subst e; exact VH
 cases m
theorem VZ {j : Nat} {p0 : aB} {p1 : a8} {o : aB × Int} (h : aH) (m : NK j p0 p1 = some o) :
 aP Tryz.prog 29 [.agg (aF p0), .agg (aG p1)] h (fun r h' => r = .tup [.agg (aF o.1), nZ o.2] ∧ h' = h) := by
 refine fW 44 [.cell 4 30, .tmp 5] Tryz.func29 rfl rfl rfl rfl ?_
 unfold NK at m
 repeat refine vs ?_
 refine v0 ?_
 refine ve fun u => cQ u rfl rfl fun k2 K3 => qk K3 rfl ?_
 refine ve fun u => cQ u rfl rfl fun k3 K3 => qk K3 rfl ?_
 refine ve fun u => bE ([nZ 0, sZ, sZ, sZ, sZ]) u mO rfl rfl fun k4 K9 => qk K9 rfl ?_
 repeat refine vs ?_
 refine v0 ?_
 refine ve fun u => DB u fun km K3 => qk K3 rfl ?_
 refine ve fun u => uE (l := []) 0 u tE u3 rfl rfl rfl rfl rfl fun K3 => qk K3 rfl ?_
 refine ve fun u => uE 0 u tE u3 rfl rfl rfl rfl rfl fun K3 => qk K3 rfl ?_
 refine ve fun u => uE 0 u tE u3 rfl rfl rfl rfl rfl fun K3 => qk K3 rfl ?_
 refine ve fun u => uE 0 u tE u3 rfl rfl rfl rfl rfl fun K3 => qk K3 rfl ?_
 refine ve fun u => uE 0 u tE u3 rfl rfl rfl rfl rfl fun K3 => qk K3 rfl ?_
 repeat refine vs ?_
 refine v0 (vn (fun _ => aJ xU rfl rfl) (vl 2 _ cG rfl rfl rfl ?_))
 have hz : (Tryz.prog.info? 117).bind (·.zero) = some (.nilFunc) := by kernel_rfl
 cases hf : mH.find? (fun e => e.1 == p1.Kind) with
 | none =>
 rw [hf] at m
 refine vn (fun u => iD (DV (l := mH) tE hz u3 rfl rfl (bB 0 u rfl)) (aX.of_eq (y := .tup [.any, .sc (.bool false)]) (by rw [hf]))) ?_
 repeat refine vs ?_
 refine v0 (v0 ?_)
 repeat refine vs ?_
 refine v0 (vn (fun _ => eV ([nZ 0, sZ, sZ, sZ, sZ]) xP rfl) ?_)
 refine ve fun u => aL 1 ([nZ 0, sZ, sZ, sZ, sZ]) u rfl rfl rfl rfl jF rfl rfl fun K0 => qk K0 rfl ?_
 refine v0 ?_
 cases m
 exact vr fun u => dY.of2 (.inl rfl) (n3 (.agg ([nZ 0, sZ, sZ, sZ, sZ])) eK rfl (bB 1 u rfl) rfl) (fL _ _ (.sc (.int _ _)) rfl) (aV (List.nil_sublist _) u).1 (aX.agg (.cons (aX.refl _ _) (.cons (aS _) (.cons (aS _) (.cons (aS _) (.cons (aS _) .nil)))))) (aX.refl _ _) ⟨rfl, rfl⟩
 | some e =>
 rw [hf] at m
 refine vn (fun u => iD (DV (l := mH) tE hz u3 rfl rfl (bB 0 u rfl)) (aX.of_eq (y := .tup [.fn (.func e.2) [], .sc (.bool true)]) (by rw [hf]))) ?_
 repeat refine vs ?_
 refine v0 (vl 3 (.agg (aF p0)) eK rfl rfl rfl ?_)
 refine vk T5 ML m rfl rfl fun _ m => ?_
 refine v0 ?_
 refine vi m (fun hc m => ?_) fun hc m => ?_
 repeat refine vs ?_
 refine v0 (vn (fun _ => eV ([nZ 0, sZ, sZ, sZ, sZ]) xP rfl) ?_)
 refine ve fun u => aL 1 ([nZ 0, sZ, sZ, sZ, sZ]) u rfl rfl rfl rfl jF rfl rfl fun K0 => qk K0 rfl ?_
 refine v0 ?_
 cases m
 exact vr fun u => dY.of2 (.inl rfl) (n3 (.agg ([nZ 0, sZ, sZ, sZ, sZ])) eK rfl (bB 1 u rfl) rfl) (fL _ _ (.sc (.int _ _)) rfl) (aV (List.nil_sublist _) u).1 (aX.agg (.cons (aX.refl _ _) (.cons (aS _) (.cons (aS _) (.cons (aS _) (.cons (aS _) .nil)))))) (aX.refl _ _) ⟨rfl, rfl⟩
 refine v0 ?_
 repeat refine vs ?_
 refine v0 (vl 3 (.agg (aF p0)) eK rfl rfl rfl ?_)
 obtain ⟨d, Y0, m⟩ := aC m
 refine ve fun u => cV (VW _ Y0) rfl VX rfl ?_
 rintro x h' ⟨gs, oks, gc, okc, ge, oke, gv, okv, K1, rfl, rfl⟩
 have w := mK (L' := [cX gs d.Snaps, bY gc d.Chunks, dC ge d.Exps, bL gv d.Vols, (some km, .mp (oM mH)), (some k4, .obj 30 ([nZ 0, sZ, sZ, sZ, sZ])), (some k3, .obj 62 (aG p1)), (some k2, .obj 30 (aF p0))] ++ ((dI gs d.Snaps) ++ ((cD gc d.Chunks) ++ (dF ge d.Exps)))) u K1 [[_], [_], [_], [_], _, _, _] [[_], [_], [_], [_]] rfl rfl [0, 1, 2, 3, 7, 8, 9, 10, 4, 5, 6] rfl rfl
 refine qk w.2 w.1 ?_
 refine ve fun u => bE ([nZ 0, sZ, sZ, sZ, sZ]) u mO rfl rfl fun k9 K2 => qk K2 rfl ?_
 refine ve fun u => aL 0 ([nZ d.Seq, aZ gs.a, aZ gc.a, aZ ge.a, aZ gv]) u rfl rfl rfl (by repeat (first | exact rfl | refine cK (bX _ _ _) ?_ | refine cK rfl ?_)) jF rfl rfl fun K4 => qk K4 rfl ?_
 repeat refine vs ?_
 refine pX m (σ := aB × Int) (τ := dD × dD × dD × dD) (fun g s => [OC k9 s.1.Seq g.1 g.2.1 g.2.2.1 g.2.2.2, cJ g.1 s.1.Snaps, cF g.2.1 s.1.Chunks, eC g.2.2.1 s.1.Exps, bL g.2.2.2 s.1.Vols, (some km, .mp (oM mH)), (some k4, .obj 30 ([nZ 0, sZ, sZ, sZ, sZ])), (some k3, .obj 62 (aG p1)), (some k2, .obj 30 (aF p0))]) (fun g s => bJ g.1 4 s.1.Snaps.length ∧ bJ g.2.1 35 s.1.Chunks.length ∧ bJ g.2.2.1 3 s.1.Exps.length ∧ bJ g.2.2.2 4 s.1.Vols.length) (fun g s => .c 4 (.ptr k4 0) (.c 9 (.ptr k9 0) (.c 10 (nZ s.2) .nil))) (fun x m => ?_) ?_
 refine v0 (vl 7 (.agg (aG p1)) mP rfl rfl rfl ?_)
 obtain ⟨s, hs, m⟩ := aC m
 refine ve fun u => ?_
 have pq := nG (A := HM k9 d gs gc ge gv) (R := [(some km, .mp (oM mH)), (some k4, .obj 30 ([nZ 0, sZ, sZ, sZ, sZ])), (some k3, .obj 62 (aG p1)), (some k2, .obj 30 (aF p0))]) u [[_], [_], [_], [_], [_], [_], [_], [_], [_], _, _, _] rfl [0, 1, 2, 3, 4, 9, 10, 11] [5, 6, 7, 8] rfl rfl rfl
 refine dX pq.1 (cV (NL _ oks okc oke okv pq.2.2 hs) rfl (JY hs) rfl ?_)
 rintro r h' ⟨a', b', c', v', oa, ob, oc, ov, hk', rfl, rfl⟩
 have hq2 := mK (L' := [OC k9 s.1.Seq a' b' c' v', cJ a' s.1.Snaps, cF b' s.1.Chunks, eC c' s.1.Exps, bL v' s.1.Vols, (some km, .mp (oM mH)), (some k4, .obj 30 ([nZ 0, sZ, sZ, sZ, sZ])), (some k3, .obj 62 (aG p1)), (some k2, .obj 30 (aF p0))]) pq.2.1 hk' [[_], [_], [_], [_], [_]] [[_], [_], [_], [_]] rfl rfl [0, 1, 2, 3, 4, 5, 6, 7, 8] rfl rfl
 refine qk hq2.2 hq2.1 ?_
 exact fH m (a', b', c', v') ⟨oa, ob, oc, ov⟩ (lx (.k3 .nil))
 rintro ⟨a', b', c', v'⟩ ⟨dd, ee⟩ ⟨oa, ob, oc, ov⟩ m
 repeat refine vs ?_
 refine v0 ?_
 repeat refine vs ?_
 refine v0 (v0 ?_)
 refine vi m (fun hc m => ?_) fun hc m => ?_
 repeat refine vs ?_
 refine v0 (vn (fun _ => eV ([nZ 0, sZ, sZ, sZ, sZ]) xP rfl) ?_)
 refine ve fun u => aL 6 ([nZ 0, sZ, sZ, sZ, sZ]) u rfl rfl rfl rfl jF rfl rfl fun K0 => qk K0 rfl ?_
 refine v0 ?_
 cases m
 exact vr fun u => dY.of2 (.inl rfl) (n3 (.agg ([nZ 0, sZ, sZ, sZ, sZ])) eK rfl (bB 6 u rfl) rfl) (fL _ _ (.sc (.int _ _)) rfl) (aV (List.nil_sublist _) u).1 (aX.agg (.cons (aX.refl _ _) (.cons (aS _) (.cons (aS _) (.cons (aS _) (.cons (aS _) .nil)))))) (aX.refl _ _) ⟨rfl, rfl⟩
 repeat refine vs ?_
 refine v0 (vl 0 (.agg ([nZ dd.Seq, aZ a', aZ b', aZ c', aZ v'])) eK rfl rfl rfl ?_)
 obtain ⟨_, Y1, m⟩ := aC m
 refine vn (fun u => cE (f8 (.cons (Br.agg (.cons (Br.refl _ _) (.cons (Br.aw 1 e8 oa u rfl) (.cons (Br.aw 2 cM ob u rfl) (.cons (Br.aw 3 fB oc u rfl) (.cons (Br.aw 4 eJ ov u rfl) .nil)))))) .nil) rfl (T5 _ Y1)) rfl ML rfl) (v0 ?_)
 refine vi m (fun c0 m => ?_) fun c0 m => ?_
 repeat refine vs ?_
 refine v0 (vn (fun _ => eV ([nZ 0, sZ, sZ, sZ, sZ]) xP rfl) ?_)
 refine ve fun u => aL 6 ([nZ 0, sZ, sZ, sZ, sZ]) u rfl rfl rfl rfl jF rfl rfl fun K0 => qk K0 rfl ?_
 refine v0 ?_
 cases m
 exact vr fun u => dY.of2 (.inl rfl) (n3 (.agg ([nZ 0, sZ, sZ, sZ, sZ])) eK rfl (bB 6 u rfl) rfl) (fL _ _ (.sc (.int _ _)) rfl) (aV (List.nil_sublist _) u).1 (aX.agg (.cons (aX.refl _ _) (.cons (aS _) (.cons (aS _) (.cons (aS _) (.cons (aS _) .nil)))))) (aX.refl _ _) ⟨rfl, rfl⟩
 refine v0 ?_
 repeat refine vs ?_
 refine v0 (vl 0 (.agg ([nZ dd.Seq, aZ a', aZ b', aZ c', aZ v'])) eK rfl rfl rfl ?_)
 refine ve fun u => aL 6 ([nZ dd.Seq, aZ a', aZ b', aZ c', aZ v']) u rfl rfl rfl (by repeat (first | exact rfl | refine cK (bX _ _ _) ?_ | refine cK rfl ?_)) jF rfl rfl fun K5 => qk K5 rfl ?_
 refine v0 ?_
 cases m
 refine TJ fun u => ?_
 obtain ⟨K6, le0⟩ := gY.fzO (n := 44) (f := _) 1 5 ([nZ dd.Seq, .sl none 4 (List.map aN dd.Snaps), aZ b', aZ c', aZ v']) u rfl (.cons (Fz.refl _ _ _) (.cons (Fz.aw 1 e8 oa u rfl (.refl _)) (.cons (Fz.refl _ _ _) (.cons (Fz.refl _ _ _) (.cons (Fz.refl _ _ _) .nil)))))
 obtain ⟨K7, le1⟩ := gY.fzO (n := 44) (f := _) 1 4 ([nZ dd.Seq, .sl none 4 (List.map aN dd.Snaps), .sl none 35 (List.map aD dd.Chunks), aZ c', aZ v']) K6 rfl (.cons (Fz.refl _ _ _) (.cons (Fz.refl _ _ _) (.cons (Fz.aw 1 cM ob K6 rfl (.refl _)) (.cons (Fz.refl _ _ _) (.cons (Fz.refl _ _ _) .nil)))))
 obtain ⟨K8, le2⟩ := gY.fzO (n := 44) (f := _) 1 3 ([nZ dd.Seq, .sl none 4 (List.map aN dd.Snaps), .sl none 35 (List.map aD dd.Chunks), .sl none 3 (List.map aR dd.Exps), aZ v']) K7 rfl (.cons (Fz.refl _ _ _) (.cons (Fz.refl _ _ _) (.cons (Fz.refl _ _ _) (.cons (Fz.aw 1 fB oc K7 rfl (.refl _)) (.cons (Fz.refl _ _ _) .nil)))))
 obtain ⟨K82, le3⟩ := gY.fzO (n := 44) (f := _) 1 2 ([nZ dd.Seq, .sl none 4 (List.map aN dd.Snaps), .sl none 35 (List.map aD dd.Chunks), .sl none 3 (List.map aR dd.Exps), .sl none 4 (List.map aT dd.Vols)]) K8 rfl (.cons (Fz.refl _ _ _) (.cons (Fz.refl _ _ _) (.cons (Fz.refl _ _ _) (.cons (Fz.refl _ _ _) (.cons (Fz.aw 1 eJ ov K8 rfl (.refl _)) .nil)))))
 exact IB.mk (gY.trans (gY.trans (gY.trans le0 le1) le2) le3) (dY.of2 (.inl rfl) (n3 (.agg (aF dd)) eK rfl (bB 2 K82 rfl) rfl) (fL _ _ (.sc (.int _ _)) rfl) (aV (List.nil_sublist _) K82).1 (aX.refl _ _) (aX.refl _ _) ⟨rfl, rfl⟩)
theorem NM : aU Tryz.prog 29 = true := by kernel_rfl
open Go.Vm
theorem kP {α ρ : Type} {l : List α} (f : α → α) {F : Nat} {body : List α × Int → Option (Lp (List α × Int) ρ)} (hF : l.length < F)
    (hb : ∀ (cur : List α) (i : Nat) (x : α), cur.length = l.length → cur[i]? = some x → x ∈ l → i < l.length → body (cur, (i : Int)) = some (.go (cur.set i (f x), ((i + 1 : Nat) : Int))))
    (he : ∀ cur : List α, cur.length = l.length → body (cur, (l.length : Int)) = some (.brk (cur, (l.length : Int)))) :
    aY body F (l, 0) = some (.brk (l.map f, (l.length : Int))) := by
  have len : ∀ i, ((l.take i).map f ++ l.drop i).length = l.length := fun i => by simp; omega
  have := nO (body := body) (s0 := (l, (0 : Int))) (n := l.length) (F := F) (fun i : Nat => ((l.take i).map f ++ l.drop i, (i : Int))) hF (by simp) (fun i hi => by
    have hx : ((l.take i).map f ++ l.drop i)[i]? = some l[i] := by
      rw [List.getElem?_append_right (by simp; omega)]
      simp [Nat.min_eq_left (Nat.le_of_lt hi)]
    rw [hb _ i l[i] (len i) hx (List.getElem_mem hi) hi]
    congr 4
    rw [List.take_succ_eq_append_getElem hi, List.drop_eq_getElem_cons hi, List.set_append_right _ _ (by simp; omega), List.length_map, List.length_take, Nat.min_eq_left (Nat.le_of_lt hi), Nat.sub_self, List.set_cons_zero, List.map_append]
    simp only [List.map_cons, List.map_nil, List.append_assoc, List.cons_append, List.nil_append]) (he _ (len _))
  simpa using this
theorem EX {F : Nat} {m : a9} (hF : 1000 ≤ F) (hp : m.Parts.length ≤ 10) (hi : ∀ p ∈ m.Parts, p.Ids.length ≤ 40) : EW F m = some m := by
 unfold EW DQ
 rw [dR (by simp; omega)]
 simp only [Option.bind_some, List.nil_append]
 rw [kP (l := m.Parts) id (by omega) (fun cur i x hc hx hm hi' => by
  have := hi x hm
  unfold pR JU
  rw [iW (by omega)]
  simp only [bT, hx, Option.bind_some, Int.ofNat_lt, hi', decide_true, if_true]
  rw [dR (by simp; omega)]
  rfl) (fun cur hc => by unfold pR; simp)]
 simp [aW]
theorem V0 {F : Nat} {c : aB} (hF : 1000 ≤ F) (h : Sm c) : HK F c = some c := by
 have hsn := h.sn
 have hex := h.ex
 have hvo := h.vo
 have hch := h.ch
 unfold HK DR DS DT DU
 rw [dR (by simp; omega), dR (by simp; omega), dR (by simp; omega), dR (by simp; omega)]
 simp only [Option.bind_some, List.nil_append]
 rw [kP (l := c.Snaps) id (by omega) (fun cur i x hc hx hm hi => by
  have h1 := h.sl x hm
  obtain ⟨-, h2, h3⟩ := h.man x hm
  unfold pS A0
  rw [iW (by omega)]
  simp only [bT, hx, Option.bind_some, Int.ofNat_lt, hi, decide_true, if_true, EX hF h2 (fun p hp => (h3 p hp).2)]
  rw [dR (by simp; omega)]
  simp [List.set_set]) (fun cur hc => by unfold pS; simp)]
 simp only [aW]
 rw [kP (l := c.Chunks) id (by omega) (fun cur i x hc hx hm hi => by
  have h1 := h.cl x hm
  unfold pT A0 MJ
  have e1 : app [] x.Data = some x.Data := by rw [dR (by simp; omega)]; rfl
  rw [iW (by omega)]
  simp only [bT, hx, Option.bind_some, Int.ofNat_lt, hi, decide_true, if_true, e1]
  rw [dR (by simp; omega)]
  simp [List.set_set]) (fun cur hc => by unfold pT; simp)]
 simp only [aW]
 rw [kP (l := c.Exps) id (by omega) (fun cur i x hc hx hm hi => by
  have h1 := h.el x hm
  unfold pU A0
  rw [iW (by omega)]
  simp only [bT, hx, Option.bind_some, Int.ofNat_lt, hi, decide_true, if_true]
  rw [dR (by simp; omega)]
  simp) (fun cur hc => by unfold pU; simp)]
 simp [aW]
theorem V1 {F : Nat} {l : List aA} {f : aA → Option Bool} (q : aA → Bool) (hF : 1000 ≤ F) (hl : l.length ≤ 400) (hf : ∀ x ∈ l, f x = some (q x)) : A8 F l f = some (l.filter fun x => !q x) := by
 have h119 : HG F l f = some (vB l q) := by
  unfold HG
  refine nQ q (by omega) (fun i x hx hm hi => ?_) (by unfold pQ; simp)
  unfold pQ
  rw [iW (by omega)]
  simp only [bT, hx, hf x hm, Option.bind_some, Int.ofNat_lt, hi, decide_true, if_true]
  split <;> rfl
 unfold A8
 rw [h119]
 simp only [Option.bind_some]
 cases ha : l.any q with
 | false =>
  rw [qW ha]
  simp only [beq_self_eq_true, if_true]
  rw [List.filter_eq_self.2 fun x hx => by simpa using List.any_eq_false.1 ha x hx]
 | true =>
  obtain ⟨i, x, h1, h2, h3, h4⟩ := qV ha
  rw [h1]
  have hn : ((i : Int) == -1) = false := by simp
  have hil := (List.getElem?_eq_some_iff.1 h2).1
  rw [hn, iW (by omega)]
  simp only [Bool.false_eq_true, if_false]
  obtain ⟨cur, w, e1, e2, e3, e4⟩ := tW (l := l) (q := q) (F := F) (body := fun s => lQ F f s.1 s.2.1 s.2.2) (by omega) h2 h3 h4 (fun cur w r x hc hw hr hx hm => by
   unfold lQ
   simp only
   rw [iW (i := r) (by omega), iW (i := w) (by omega)]
   have hcw : cur[w]? = some cur[w] := List.getElem?_eq_getElem (by omega)
   simp only [bT, hx, hf x hm, Option.bind_some, hc, Int.ofNat_lt, hr, decide_true, if_true, hcw, Int.toNat_natCast]
   cases q x <;> rfl) (fun cur w hc => by unfold lQ; simp [hc])
  rw [e1]
  simp only [aW]
  have g1 : (decide ((0 : Int) ≤ (w : Int)) && decide ((w : Int) < (cur.length : Int))) = true := by simp; omega
  have g2 : (decide ((0 : Int) ≤ (w : Int)) && decide ((w : Int) ≤ (cur.length : Int))) = true := by simp; omega
  simp only [grd, g1, g2, if_true, Int.toNat_natCast, e4]
theorem V2 {F : Nat} {l : List aI} {f : aI → Option Bool} (q : aI → Bool) (hF : 1000 ≤ F) (hl : l.length ≤ 400) (hf : ∀ x ∈ l, f x = some (q x)) : A9 F l f = some (l.filter fun x => !q x) := by
 have h119 : A7 F l f = some (vB l q) := by
  unfold A7
  refine nQ q (by omega) (fun i x hx hm hi => ?_) (by unfold nI; simp)
  unfold nI
  rw [iW (by omega)]
  simp only [bT, hx, hf x hm, Option.bind_some, Int.ofNat_lt, hi, decide_true, if_true]
  split <;> rfl
 unfold A9
 rw [h119]
 simp only [Option.bind_some]
 cases ha : l.any q with
 | false =>
  rw [qW ha]
  simp only [beq_self_eq_true, if_true]
  rw [List.filter_eq_self.2 fun x hx => by simpa using List.any_eq_false.1 ha x hx]
 | true =>
  obtain ⟨i, x, h1, h2, h3, h4⟩ := qV ha
  rw [h1]
  have hn : ((i : Int) == -1) = false := by simp
  have hil := (List.getElem?_eq_some_iff.1 h2).1
  rw [hn, iW (by omega)]
  simp only [Bool.false_eq_true, if_false]
  obtain ⟨cur, w, e1, e2, e3, e4⟩ := tW (l := l) (q := q) (F := F) (body := fun s => lR F f s.1 s.2.1 s.2.2) (by omega) h2 h3 h4 (fun cur w r x hc hw hr hx hm => by
   unfold lR
   simp only
   rw [iW (i := r) (by omega), iW (i := w) (by omega)]
   have hcw : cur[w]? = some cur[w] := List.getElem?_eq_getElem (by omega)
   simp only [bT, hx, hf x hm, Option.bind_some, hc, Int.ofNat_lt, hr, decide_true, if_true, hcw, Int.toNat_natCast]
   cases q x <;> rfl) (fun cur w hc => by unfold lR; simp [hc])
  rw [e1]
  simp only [aW]
  have g1 : (decide ((0 : Int) ≤ (w : Int)) && decide ((w : Int) < (cur.length : Int))) = true := by simp; omega
  have g2 : (decide ((0 : Int) ≤ (w : Int)) && decide ((w : Int) ≤ (cur.length : Int))) = true := by simp; omega
  simp only [grd, g1, g2, if_true, Int.toNat_natCast, e4]
def lf (v : Int) (l : List bI) : List bI := l.filter fun y => !(y.Vol == v)
def RT (v : Int) (s : aE) : aE := { s with Locs := lf v s.Locs }
def yG (v : Int) (s : aA) : aA := { s with Locs := lf v s.Locs }
def NN (v : Int) (s : aI) : aI := { s with Locs := lf v s.Locs }
def wH (y : aA) : Bool := !y.Staged && ((y.Locs.length : Int) == 0)
def ret (c : aB) (v : Int) (x : aK) : aB :=
 { Seq := c.Seq, Snaps := c.Snaps.map (RT v), Chunks := (c.Chunks.map (yG v)).filter fun y => !wH y, Exps := (c.Exps.map (NN v)).filter fun y => !((y.Locs.length : Int) == 0), Vols := c.Vols.set v.toNat { x with State := 3, Files := 0 } }
theorem NO {F : Nat} {l : List bI} {d : a8} (hF : 1000 ≤ F) (hl : l.length ≤ 300) : uA F l d = some (lf d.Vol l) := by
 unfold uA
 rw [ZV (f := fun x0 => JS F x0 d) (fun x => x.Vol == d.Vol) hF hl (fun x _ => rfl)]
 rfl
theorem ZZ {F : Nat} {c : aB} {d : a8} {x : aK} (hF : 1000 ≤ F) (h : Sm c) (h0 : 0 ≤ d.Vol) (hx : c.Vols[d.Vol.toNat]? = some x) :
    RD F c d = some (if x.State = 2 then (0, (ret c d.Vol x).Snaps, (ret c d.Vol x).Chunks, (ret c d.Vol x).Exps, (ret c d.Vol x).Vols) else (1, c.Snaps, c.Chunks, c.Exps, c.Vols)) := by
  have hsn := h.sn
  have hex := h.ex
  have hvo := h.vo
  have hch := h.ch
  have hlt := (List.getElem?_eq_some_iff.1 hx).1
  have hx2 : (c.Vols.set d.Vol.toNat { x with State := 3 })[d.Vol.toNat]? = some { x with State := 3 } := by
    rw [List.getElem?_set_self hlt]
  unfold RD
  rw [show decide (d.Vol < 0) = false from decide_eq_false (by omega), show decide ((c.Vols.length : Int) ≤ d.Vol) = false from decide_eq_false (by omega)]
  simp only [Bool.false_eq_true, if_false, tJ _ h0, hx, hx2, Option.bind_some, aW]
  by_cases e : x.State = 2
  · rw [if_neg (by simp [e]), if_pos e]
    rw [kP (l := c.Snaps) (RT d.Vol) (by omega) (fun cur i x hc hx hm hi => by
      unfold uB
      rw [iW (by omega)]
      simp only [bT, hx, Option.bind_some, Int.ofNat_lt, hi, decide_true, if_true, NO hF (h.sl x hm)]
      rfl) (fun cur hc => by unfold uB; simp)]
    simp only [aW]
    rw [kP (l := c.Chunks) (yG d.Vol) (by omega) (fun cur i x hc hx hm hi => by
      unfold uC
      rw [iW (by omega)]
      simp only [bT, hx, Option.bind_some, Int.ofNat_lt, hi, decide_true, if_true, NO hF (h.cl x hm).1]
      rfl) (fun cur hc => by unfold uC; simp)]
    simp only [aW]
    rw [kP (l := c.Exps) (NN d.Vol) (by omega) (fun cur i x hc hx hm hi => by
      unfold uD
      rw [iW (by omega)]
      simp only [bT, hx, Option.bind_some, Int.ofNat_lt, hi, decide_true, if_true, NO hF (h.el x hm)]
      rfl) (fun cur hc => by unfold uD; simp)]
    simp only [aW]
    rw [V1 (f := fun x0 => HJ F x0) wH hF (by simpa using hch) (fun y _ => by
      unfold HJ wH
      cases y.Staged <;> rfl), V2 (f := fun x0 => JT F x0) (fun y => (y.Locs.length : Int) == 0) hF (by rw [List.length_map]; omega) (fun y _ => rfl)]
    simp only [Option.bind_some, List.set_set]
    rfl
  · rw [if_pos (by simpa using e), if_neg e]
def zT (c : aB) (v : Int) (x : aK) : aB := { c with Vols := c.Vols.set v.toNat { x with State := 1, Epoch := x.Epoch + 1 } }
theorem Z7 {F : Nat} {c : aB} {d : a8} {x : aK} (h0 : 0 ≤ d.Vol) (hx : c.Vols[d.Vol.toNat]? = some x) (he : 0 ≤ x.Epoch ∧ x.Epoch ≤ 1048576) :
    Q0 F c d = some (if x.State = 3 then (0, (zT c d.Vol x).Vols) else (1, c.Vols)) := by
  have hlt := (List.getElem?_eq_some_iff.1 hx).1
  have hx2 : (c.Vols.set d.Vol.toNat { x with State := 1 })[d.Vol.toNat]? = some { x with State := 1 } := by
    rw [List.getElem?_set_self hlt]
  unfold Q0
  rw [show decide (d.Vol < 0) = false from decide_eq_false (by omega), show decide ((c.Vols.length : Int) ≤ d.Vol) = false from decide_eq_false (by omega)]
  simp only [Bool.false_eq_true, if_false, tJ _ h0, hx, hx2, Option.bind_some, aW]
  by_cases e : x.State = 3
  · rw [if_neg (by simp [e]), if_pos e, wr (by omega) (by omega)]
    simp only [List.set_set]
    rfl
  · rw [if_pos (by simpa using e), if_neg e]
theorem YD {F : Nat} {c : aB} {d : a8} {k : Nat} {e : aB} {n : Int} (hF : 1000 ≤ F) (h : Sm c) (hg : iO c = true) (hk : mH.find? (fun e => e.1 == d.Kind) = some (d.Kind, k)) (hd : nK F k c d = some (e, n)) (hs : n = 0 → Sm e) :
    NK F c d = some (if n = 0 then (if iO e = true then (e, 0) else (i8, 1)) else (i8, n)) := by
  unfold NK
  rw [hk]
  simp only [U3 hF h, hg, if_true, Option.bind_some, V0 hF h, hd, aW]
  by_cases e0 : n = 0
  · rw [if_neg (by decide), if_neg (by simp [e0]), U3 hF (hs e0), if_pos e0]
    simp only [Option.bind_some]
    cases iO e <;> rfl
  · rw [if_neg (by decide), if_pos (by simpa using e0), if_neg e0]
end Go.Proofs.YtbbifdfldpfphaaGreat
