import Derived.Test.YtbbifdfldpfphaaGreatK3P4
import Derived.Test.YtbbifdfldpfphaaGreatK3P5
set_option linter.unusedSimpArgs false
set_option linter.unusedVariables false
set_option maxHeartbeats 4000000
set_option maxRecDepth 100000
namespace Go.Proofs.YtbbifdfldpfphaaGreat
open Go.Vm
def uF (m : Nat) (p0 : List aA) (q0 : List aA) (q1 : Int) : Option (Lp ((List aA) × Int) ((List aA))) :=
 if (decide (q1 < (p0.length : Int))) = true then ((ix p0 q1).bind fun x0 => (vA m x0.Data).bind fun y0 => (tP m x0.Locs).bind fun y1 => (app q0 ([{ { x0 with Data := y0 } with Locs := y1 }] : List aA)).bind fun z0 => some (.go (z0, IntKind.wrap .i64 (q1 + 1)))) else some (.brk (q0, q1))
def BA (m : Nat) (p0 : List aA) : Option ((List aA)) :=
 after (aY (fun s => uF m p0 s.1 s.2) m ([], 0)) fun ⟨r0, r1⟩ => some r0
theorem KT {w : Nat} {p0 : List aA} {o : (List aA)} (h : aH) (m : BA w p0 = some o) :
 aP Tryz.prog 152 [.sl none 35 (List.map aD p0)] h (fun r h' => ∃ g : dD, bJ g 35 o.length ∧ bS h [(g.t, .obj 44 (fl aD o g.sp))] ∧ r = aZ g ∧ h' = hp h [(g.t, .obj 44 (fl aD o g.sp))]) := by
 refine fW 29 [.tmp 2] Tryz.func152 rfl rfl rfl rfl ?_
 unfold BA at m
 refine vs (v0 (vs (v0 (vs (vs (v0 (oO (B4 (.obj 44 (fl aD ([] : List aA) g0.sp)) 3 (aZ g0) (fP _)) ?_)))))))
 refine lT m (σ := (List aA) × Int) (τ := dD) (fun g s => [(g.t, .obj 44 (fl aD (s.1 : List aA) g.sp))]) (fun g s => bJ g 35 (s.1 : List aA).length) (fun g s => .c 0 (.sl none 35 (List.map aD p0)) (.c 3 (aZ g) (.c 4 (nZ s.2) .nil))) g0 (bJ.g0 35) (lx (.k3 .nil)) ?_ ?_
 rintro ag0 ⟨q0, q1⟩ x O0 m
 replace m : uF w p0 q0 q1 = some x := m
 unfold uF at m
 refine vs (vs (v0 (dH hS rfl (v0 ?_))))
 refine vi m (fun c0 m => ?_) fun c0 m => ?_
 refine v0 (vs (v0 (vs (v0 ?_))))
 refine vx m eW rfl rfl fun x0 _ m => ?_
 refine va (.agg (aD x0)) lF rfl rfl ?_
 refine ve fun u => bE (bF iY ++ ([.sc (.bool false), sZ, sZ] : List AV)) u l6 rfl rfl fun k115 K0 => qk K0 rfl ?_
 refine ve fun u => aL 0 (aD x0) u rfl rfl rfl rfl uV rfl rfl fun K1 => qk K1 rfl ?_
 refine vs (v0 ?_)
 refine vz [(7, some k115, .obj 44 (aD x0))] mixed (fun u => ⟨fun _ => aO 0 u rfl, trivial⟩) fun u => ?_
 refine aM 0 rfl (fun _ _ _ _ => aJ iU rfl rfl) ?_
 refine aM 1 rfl (fun _ _ hi hB => bH (.sl none 1 (List.map cZ x0.Data)) jR rfl (At.s (bR.get 0 hi rfl (hB 7 (by kernel_rfl)))) rfl) ?_
 obtain ⟨y0, Y0, m⟩ := aC m
 refine aM 2 rfl (fun _ _ _ _ => cE (G2 _ Y0) rfl AX rfl) ?_
 refine aM 3 rfl (fun _ _ _ _ => aJ iL rfl rfl) ?_
 refine aM 4 rfl (fun _ _ hi hB => bH (.sl none 4 (List.map aQ x0.Locs)) fE rfl (At.s (bR.get 0 hi rfl (hB 7 (by kernel_rfl)))) rfl) ?_
 obtain ⟨y1, Y1, m⟩ := aC m
 refine aM 5 rfl (fun _ _ _ _ => cE (G1 _ Y1) rfl AU rfl) ?_
 refine aM 6 rfl (fun _ _ _ _ => aJ iU rfl rfl) ?_
 refine eX 7 rfl (by kernel_rfl) (aL 0 (aD { x0 with Data := y0 }) u rfl rfl rfl rfl CB rfl rfl fun K2 => ⟨⟨fun e => absurd e (by decide), trivial⟩, ?_⟩)
 refine aM 8 rfl (fun _ _ _ _ => aJ iL rfl rfl) ?_
 refine eX 9 rfl (by kernel_rfl) (aL 0 (aD { { x0 with Data := y0 } with Locs := y1 }) K2 rfl rfl rfl rfl m8 rfl rfl fun K3 => ⟨⟨fun e => absurd e (by decide), trivial⟩, ?_⟩)
 refine dL (by kernel_rfl) (qk (f := .c 23 _ (.c 22 _ (.c 21 _ (.c 20 _ (.c 19 _ (.c 18 _ (.c 17 _ (.c 16 _ _)))))))) K3 rfl ?_)
 refine v0 (vl 0 (.agg (aD { { x0 with Data := y0 } with Locs := y1 })) lF rfl rfl rfl (vn (fun _ => eH (List.map aD ([{ { x0 with Data := y0 } with Locs := y1 }] : List aA)) jP rfl rfl rfl rfl) ?_))
 obtain ⟨z0, Z0, m⟩ := aC m
 refine ve fun u => fR (c := aD) 1 Z0 jP rfl l6 rfl cM rfl rfl O0 u rfl fun ag1 O1 K4 => qk K4 rfl ?_
 refine v0 ?_
 exact fH m ag1 O1 (kR [1] rfl rfl (.k3 .nil))
 refine v0 ?_
 exact lD m ag0 O0 (lx (.k3 .nil))
 rintro ag2 ⟨r0, r1⟩ t0 m
 refine vs (v0 (v0 ?_))
 injection m with m; subst m
 exact vr fun u => dY.one (.inl rfl) (aV (h0 := h) (L' := [(ag2.t, .obj 44 (fl aD (r0 : List aA) ag2.sp))]) (.refl _) u).1 (aX.refl _ _) ⟨ag2, t0, (aV (h0 := h) (L' := [(ag2.t, .obj 44 (fl aD (r0 : List aA) ag2.sp))]) (.refl _) u).2, rfl, rfl⟩
def yH (m : Nat) (p0 : aB) (q0 : List aE) (q1 : Int) : Option (Lp ((List aE) × Int) (aB)) :=
 if (decide (q1 < (p0.Snaps.length : Int))) = true then ((ix p0.Snaps q1).bind fun x0 => (CM m x0.Man).bind fun y0 => (tP m x0.Locs).bind fun y1 => (app q0 ([{ { x0 with Man := y0 } with Locs := y1 }] : List aE)).bind fun z0 => some (.go (z0, IntKind.wrap .i64 (q1 + 1)))) else some (.brk (q0, q1))
def yI (m : Nat) (p0 : aB) (q0 : List aI) (q1 : Int) : Option (Lp ((List aI) × Int) (aB)) :=
 if (decide (q1 < (p0.Exps.length : Int))) = true then ((ix p0.Exps q1).bind fun x0 => (tP m x0.Locs).bind fun y0 => (app q0 ([{ x0 with Locs := y0 }] : List aI)).bind fun z0 => some (.go (z0, IntKind.wrap .i64 (q1 + 1)))) else some (.brk (q0, q1))
def HO (m : Nat) (p0 : aB) : Option (aB) :=
 after (aY (fun s => yH m p0 s.1 s.2) m ([], 0)) fun ⟨r0, r1⟩ => after (aY (fun s => yI m p0 s.1 s.2) m ([], 0)) fun ⟨r2, r3⟩ => (BA m p0.Chunks).bind fun y0 => (app ([] : List aK) p0.Vols).bind fun z0 => some ({ Seq := p0.Seq, Snaps := r0, Chunks := y0, Exps := r2, Vols := z0 } : aB)
theorem V3 {w : Nat} {p0 : aB} {o : aB} (h : aH) (m : HO w p0 = some o) :
 aP Tryz.prog 90 [.agg (aF p0)] h (fun r h' => ∃ gS : dD, bJ gS 4 o.Snaps.length ∧ ∃ gC : dD, bJ gC 35 o.Chunks.length ∧ ∃ gE : dD, bJ gE 3 o.Exps.length ∧ ∃ gV : dD, bJ gV 4 o.Vols.length ∧ bS h [(gS.t, .obj 60 (fl aN (o.Snaps : List aE) gS.sp)), (gC.t, .obj 44 (fl aD (o.Chunks : List aA) gC.sp)), (gE.t, .obj 99 (fl aR (o.Exps : List aI) gE.sp)), (gV.t, .obj 49 (fl aT (o.Vols : List aK) gV.sp))] ∧ r = .agg ([nZ o.Seq, aZ gS, aZ gC, aZ gE, aZ gV]) ∧ h' = hp h [(gS.t, .obj 60 (fl aN (o.Snaps : List aE) gS.sp)), (gC.t, .obj 44 (fl aD (o.Chunks : List aA) gC.sp)), (gE.t, .obj 99 (fl aR (o.Exps : List aI) gE.sp)), (gV.t, .obj 49 (fl aT (o.Vols : List aK) gV.sp))]) := by
 refine fW 68 [.cell 2 30] Tryz.func90 rfl rfl rfl rfl ?_
 unfold HO at m
 refine vs (v0 ?_)
 refine ve fun u => cQ u rfl rfl fun k2 K3 => qk K3 rfl ?_
 refine ve fun u => bE ([nZ 0, sZ, sZ, sZ, sZ]) u mO rfl rfl fun k5 K6 => qk K6 rfl ?_
 refine vs (v0 (vs (vs (v0 (oO (B4 (.obj 60 (fl aN ([] : List aE) g0.sp)) 3 (aZ g0) (fP _)) ?_)))))
 refine lT m (σ := (List aE) × Int) (τ := dD) (fun g s => [(g.t, .obj 60 (fl aN (s.1 : List aE) g.sp)), (some k5, .obj 30 ([nZ 0, sZ, sZ, sZ, sZ])), (some k2, .obj 30 (aF p0))]) (fun g s => bJ g 4 (s.1 : List aE).length) (fun g s => .c 1 (.ptr k2 0) (.c 2 (.ptr k5 0) (.c 3 (aZ g) (.c 4 (nZ s.2) .nil)))) g0 (bJ.g0 4) (lx (.k4 .nil)) ?_ ?_
 rintro ag0 ⟨q0, q1⟩ x O0 m
 replace m : yH w p0 q0 q1 = some x := m
 unfold yH at m
 refine vs (vs (v0 (vn (fun _ => aJ eP rfl rfl) (vl 2 _ fK rfl rfl rfl (dH kH rfl (v0 ?_))))))
 refine vi m (fun c0 m => ?_) fun c0 m => ?_
 refine v0 (vs (v0 (vs (v0 (vn (fun _ => aJ eP rfl rfl) (vl 2 _ fK rfl rfl rfl ?_))))))
 refine vx m kJ rfl rfl fun x0 _ m => ?_
 refine va (.agg (aN x0)) AI rfl rfl ?_
 refine ve fun u => bE ([nZ 0, .sc (.string ByteArray.empty), sZ, sZ]) u xT rfl rfl fun k121 K0 => qk K0 rfl ?_
 refine ve fun u => aL 0 (aN x0) u rfl rfl rfl rfl I7 rfl rfl fun K1 => qk K1 rfl ?_
 refine vs (v0 ?_)
 refine vz [(7, some k121, .obj 60 (aN x0))] mixed (fun u => ⟨fun _ => aO 0 u rfl, trivial⟩) fun u => ?_
 refine aM 0 rfl (fun _ _ _ _ => aJ mA rfl rfl) ?_
 refine aM 1 rfl (fun _ _ hi hB => bH (.agg (bC x0.Man)) lH rfl (At.s (bR.get 0 hi rfl (hB 7 (by kernel_rfl)))) rfl) ?_
 obtain ⟨y0, Y0, m⟩ := aC m
 refine aM 2 rfl (fun _ _ _ _ => cE (QU _ Y0) rfl KM rfl) ?_
 refine aM 3 rfl (fun _ _ _ _ => aJ iV rfl rfl) ?_
 refine aM 4 rfl (fun _ _ hi hB => bH (.sl none 4 (List.map aQ x0.Locs)) fE rfl (At.s (bR.get 0 hi rfl (hB 7 (by kernel_rfl)))) rfl) ?_
 obtain ⟨y1, Y1, m⟩ := aC m
 refine aM 5 rfl (fun _ _ _ _ => cE (G1 _ Y1) rfl AU rfl) ?_
 refine aM 6 rfl (fun _ _ _ _ => aJ mA rfl rfl) ?_
 refine eX 7 rfl (by kernel_rfl) (aL 0 (aN { x0 with Man := y0 }) u rfl rfl rfl rfl uW rfl rfl fun K2 => ⟨⟨fun e => absurd e (by decide), trivial⟩, ?_⟩)
 refine aM 8 rfl (fun _ _ _ _ => aJ iV rfl rfl) ?_
 refine eX 9 rfl (by kernel_rfl) (aL 0 (aN { { x0 with Man := y0 } with Locs := y1 }) K2 rfl rfl rfl rfl m8 rfl rfl fun K4 => ⟨⟨fun e => absurd e (by decide), trivial⟩, ?_⟩)
 refine dL (by kernel_rfl) (qk (f := .c 29 _ (.c 28 _ (.c 27 _ (.c 26 _ (.c 25 _ (.c 24 _ (.c 23 _ (.c 22 _ _)))))))) K4 rfl ?_)
 refine v0 (vl 0 (.agg (aN { { x0 with Man := y0 } with Locs := y1 })) AI rfl rfl rfl (vn (fun _ => eH (List.map aN ([{ { x0 with Man := y0 } with Locs := y1 }] : List aE)) uS rfl rfl rfl rfl) ?_))
 obtain ⟨z0, Z0, m⟩ := aC m
 refine ve fun u => fR (c := aN) 1 Z0 uS rfl xT rfl e8 rfl rfl O0 u rfl fun ag1 O1 K5 => qk K5 rfl ?_
 refine v0 ?_
 exact fH m ag1 O1 (kR [1, 2, 3] rfl rfl (.k4 .nil))
 refine v0 ?_
 exact lD m ag0 O0 (lx (.k4 .nil))
 rintro ag2 ⟨r0, r1⟩ t0 m
 refine vs (v0 (vs (vs (v0 (oO (B4 (.obj 99 (fl aR ([] : List aI) g0.sp)) 6 (aZ g0) (fP _)) ?_)))))
 refine lT m (σ := (List aI) × Int) (τ := dD) (fun g s => [(g.t, .obj 99 (fl aR (s.1 : List aI) g.sp)), (ag2.t, .obj 60 (fl aN (r0 : List aE) ag2.sp)), (some k5, .obj 30 ([nZ 0, sZ, sZ, sZ, sZ])), (some k2, .obj 30 (aF p0))]) (fun g s => bJ g 3 (s.1 : List aI).length) (fun g s => .c 1 (.ptr k2 0) (.c 2 (.ptr k5 0) (.c 3 (aZ ag2) (.c 6 (aZ g) (.c 7 (nZ s.2) .nil))))) g0 (bJ.g0 3) (lx (.k5 .nil)) ?_ ?_
 rintro ag3 ⟨q2, q3⟩ x O2 m
 replace m : yI w p0 q2 q3 = some x := m
 unfold yI at m
 refine vs (vs (v0 (vn (fun _ => aJ fC rfl rfl) (vl 3 _ iK rfl rfl rfl (dH o7 rfl (v0 ?_))))))
 refine vi m (fun c1 m => ?_) fun c1 m => ?_
 refine v0 (vs (v0 (vs (v0 (vn (fun _ => aJ fC rfl rfl) (vl 3 _ iK rfl rfl rfl ?_))))))
 refine vx m jQ rfl rfl fun x1 _ m => ?_
 refine va (.agg (aR x1)) tD rfl rfl ?_
 refine ve fun u => bE ([nZ 0, nZ 0, sZ]) u qJ rfl rfl fun k235 K7 => qk K7 rfl ?_
 refine ve fun u => aL 0 (aR x1) u rfl rfl rfl rfl CD rfl rfl fun K8 => qk K8 rfl ?_
 refine vs (v0 (vn (fun _ => aJ kM rfl rfl) (vl 0 _ fE rfl rfl rfl ?_)))
 refine vk G1 AU m rfl rfl fun y2 m => ?_
 refine vn (fun _ => aJ kM rfl rfl) ?_
 refine ve fun u => aL 0 (aR { x1 with Locs := y2 }) u rfl rfl rfl rfl m8 rfl rfl fun K9 => qk K9 rfl ?_
 refine v0 (vl 0 (.agg (aR { x1 with Locs := y2 })) tD rfl rfl rfl (vn (fun _ => eH (List.map aR ([{ x1 with Locs := y2 }] : List aI)) uT rfl rfl rfl rfl) ?_))
 obtain ⟨z1, Z1, m⟩ := aC m
 refine ve fun u => fR (c := aR) 1 Z1 uT rfl qJ rfl fB rfl rfl O2 u rfl fun ag4 O3 K10 => qk K10 rfl ?_
 refine v0 ?_
 exact fH m ag4 O3 (kR [1, 2, 3, 4] rfl rfl (.k5 .nil))
 refine v0 ?_
 exact lD m ag3 O2 (lx (.k5 .nil))
 rintro ag5 ⟨r2, r3⟩ t1 m
 refine vs (v0 (vs (v0 ?_)))
 refine vz [(10, some k2, .obj 30 (aF p0))] mixed (fun u => ⟨fun _ => aO 3 u rfl, trivial⟩) fun u => ?_
 refine aM 0 rfl (fun _ _ _ _ => bN (aw _ _ _) rfl) ?_
 refine aM 1 rfl (fun _ _ _ _ => aJ eL rfl rfl) ?_
 refine aM 2 rfl (fun _ _ hi hB => bH (.sl none 35 (List.map aD p0.Chunks)) eF rfl (At.s (bR.get 0 hi rfl (hB 10 (by kernel_rfl)))) rfl) ?_
 refine aM 4 rfl (fun _ _ _ _ => bN (aw _ _ _) rfl) ?_
 refine aM 5 rfl (fun _ _ _ _ => bN (.sc (.slice _ _ _)) rfl) ?_
 refine aM 6 rfl (fun _ _ _ _ => aJ fI rfl rfl) ?_
 refine aM 7 rfl (fun _ _ hi hB => bH (.sl none 4 (List.map aT p0.Vols)) fZ rfl (At.s (bR.get 0 hi rfl (hB 10 (by kernel_rfl)))) rfl) ?_
 refine aM 9 rfl (fun _ _ _ _ => aJ eP rfl rfl) ?_
 obtain ⟨_, Y2, m⟩ := aC m
 refine eX 3 rfl (by kernel_rfl) (cV (KT _ Y2) rfl G3 rfl ?_)
 rintro x h' ⟨ag6, O4, K11, rfl, rfl⟩
 rw [gO]
 refine ⟨⟨fun _ => aO 4 (bS.co u K11) rfl, trivial⟩, ?_⟩
 obtain ⟨z2, Z2, m⟩ := aC m
 refine eX 8 rfl (by kernel_rfl) (xD (c := aT) Z2 CA rfl F8 rfl eJ rfl (bS.co u K11) rfl fun ag7 O5 K12 => ⟨⟨fun _ => aO 5 K12 rfl, trivial⟩, ?_⟩)
 refine eX 10 rfl (by kernel_rfl) (aL 5 ([nZ p0.Seq, aZ ag2, .sl none 35 (List.map aD p0.Chunks), .sl none 3 (List.map aR p0.Exps), .sl none 4 (List.map aT p0.Vols)]) K12 rfl rfl (cI rfl) (cK (bX _ _ _) rfl) F2 rfl rfl fun K13 => ⟨⟨fun e => absurd e (by decide), trivial⟩, ?_⟩)
 refine aM 11 rfl (fun _ _ _ _ => aJ eL rfl rfl) ?_
 refine eX 12 rfl (by kernel_rfl) (aL 5 ([nZ p0.Seq, aZ ag2, aZ ag6, .sl none 3 (List.map aR p0.Exps), .sl none 4 (List.map aT p0.Vols)]) K13 rfl rfl (cI rfl) (cK (bX _ _ _) rfl) xO rfl rfl fun K14 => ⟨⟨fun e => absurd e (by decide), trivial⟩, ?_⟩)
 refine aM 13 rfl (fun _ _ _ _ => aJ fC rfl rfl) ?_
 refine eX 14 rfl (by kernel_rfl) (aL 5 ([nZ p0.Seq, aZ ag2, aZ ag6, aZ ag5, .sl none 4 (List.map aT p0.Vols)]) K14 rfl rfl (cI rfl) (cK (bX _ _ _) rfl) F3 rfl rfl fun K15 => ⟨⟨fun e => absurd e (by decide), trivial⟩, ?_⟩)
 refine aM 15 rfl (fun _ _ _ _ => aJ fI rfl rfl) ?_
 refine eX 16 rfl (by kernel_rfl) (aL 5 ([nZ p0.Seq, aZ ag2, aZ ag6, aZ ag5, aZ ag7]) K15 rfl rfl (cI rfl) (cK (bX _ _ _) rfl) I4 rfl rfl fun K16 => ⟨⟨fun e => absurd e (by decide), trivial⟩, ?_⟩)
 refine dL (by kernel_rfl) (qk (f := .c 66 _ (.c 65 _ (.c 64 _ (.c 62 _ (.c 57 _ (.c 63 _ (.c 61 _ (.c 60 _ (.c 59 _ (.c 58 _ (.c 56 _ (.c 55 _ (.c 54 _ _))))))))))))) K16 rfl ?_)
 refine vs (v0 (vl 5 (.agg ([nZ p0.Seq, aZ ag2, aZ ag6, aZ ag5, aZ ag7])) eK rfl rfl rfl ?_))
 refine ve fun u => aL 4 ([nZ p0.Seq, aZ ag2, aZ ag6, aZ ag5, aZ ag7]) u rfl rfl rfl (by repeat (first | exact rfl | refine cK (gG _ _ _) ?_ | refine cK (bX _ _ _) ?_ | refine cK rfl ?_)) jF rfl rfl fun K17 => qk K17 rfl ?_
 refine v0 ?_
 cases m
 exact vr fun u => dY.of1 (.inl rfl) (n3 (.agg ([nZ p0.Seq, aZ ag2, aZ ag6, aZ ag5, aZ ag7])) eK rfl (bB 4 u rfl) rfl) (bO u [3, 1, 2, 0] rfl).2 (aX.refl _ _) ⟨ag2, t0, ag6, O4, ag5, t1, ag7, O5, (bO u [3, 1, 2, 0] rfl).1, rfl, rfl⟩
def HP (m : Nat) (p0 : bI) (p1 : bI) : Option (Bool) :=
 if (p0.Vol != p1.Vol) = true then (some (decide (p0.Vol < p1.Vol))) else if (p0.File != p1.File) = true then (some (decide (p0.File < p1.File))) else if (p0.Off != p1.Off) = true then (some (decide (p0.Off < p1.Off))) else some (decide (p0.Len < p1.Len))
theorem V4 {w : Nat} {p0 : bI} {p1 : bI} {o : Bool} (h : aH) (m : HP w p0 p1 = some o) :
 aP Tryz.prog 191 [.agg (aQ p0), .agg (aQ p1)] h (fun r h' => r = .sc (.bool o) ∧ h' = h) := by
 refine fW 40 [.tmp 4] Tryz.func191 rfl rfl rfl rfl ?_
 unfold HP at m
 refine v ?_
 refine ve fun u => cQ u rfl rfl fun k2 K3 => qk K3 rfl ?_
 refine ve fun u => cQ u rfl rfl fun k5 K6 => qk K6 rfl ?_
 refine v (vl 1 _ cG rfl rfl rfl (vl 0 _ cG rfl rfl rfl (v ?_)))
 refine vi m (fun c0 m => ?_) fun c0 m => ?_
 refine v (vl 1 _ cG rfl rfl rfl (vl 0 _ cG rfl rfl rfl (v ?_)))
 cases m
 exact eM rfl
 refine v (v (vl 1 _ cG rfl rfl rfl (vl 0 _ cG rfl rfl rfl (v ?_))))
 refine vi m (fun c1 m => ?_) fun c1 m => ?_
 refine v (vl 1 _ cG rfl rfl rfl (vl 0 _ cG rfl rfl rfl (v ?_)))
 cases m
 exact eM rfl
 refine v (v (vl 1 _ cG rfl rfl rfl (vl 0 _ cG rfl rfl rfl (v ?_))))
 refine vi m (fun c2 m => ?_) fun c2 m => ?_
 refine v (vl 1 _ cG rfl rfl rfl (vl 0 _ cG rfl rfl rfl (v ?_)))
 cases m
 exact eM rfl
 refine v (v (vl 1 _ cG rfl rfl rfl (vl 0 _ cG rfl rfl rfl (v ?_))))
 cases m
 exact eM rfl
theorem RU : aU Tryz.prog 191 = true := by kernel_rfl
def yJ (m : Nat) (p0 : List bI) (p1 : bI) (q0 : Int) : Option (Lp (Int) ((List bI))) :=
 after (if (decide (q0 < (p0.length : Int))) = true then ((ix p0 q0).bind fun x0 => (HP m x0 p1).bind fun y0 => some (.brk y0)) else some (.brk false) : Option (Lp (Bool) (Lp (Int) ((List bI))))) fun j0 => if j0 = true then (some (.go (IntKind.wrap .i64 (q0 + 1)))) else some (.brk q0)
def CV (m : Nat) (p0 : List bI) (p1 : bI) : Option ((List bI)) :=
 after (aY (fun s => yJ m p0 p1 s) m 0) fun r0 => (slc p0 0 r0).bind fun x0 => (app ([] : List bI) x0).bind fun z0 => (app z0 ([p1] : List bI)).bind fun z1 => (slc p0 r0 (p0).length).bind fun x1 => (app z1 x1).bind fun z2 => some z2
theorem NP {w : Nat} {p0 : List bI} {p1 : bI} {o : (List bI)} (h : aH) (m : CV w p0 p1 = some o) :
 aP Tryz.prog 185 [.sl none 4 (List.map aQ p0), .agg (aQ p1)] h (fun r h' => r = .sl none 4 (List.map aQ o) ∧ h' = h) := by
 refine fW 34 [.tmp 4] Tryz.func185 rfl rfl rfl rfl ?_
 unfold CV at m
 refine v ?_
 refine ve fun u => cQ u rfl rfl fun k2 K3 => qk K3 rfl ?_
 refine v (vs ?_)
 refine eO m (σ := Int) (τ := Unit) (fun g s => [(some k2, .obj 81 (aQ p1))]) (fun g s => .c 0 (.sl none 4 (List.map aQ p0)) (.c 3 (.ptr k2 0) (.c 5 (nZ s) .nil))) () (lx (.k3 .nil)) ?_ ?_
 rintro _ q0 x m
 replace m : yJ w p0 p1 q0 = some x := m
 unfold yJ at m
 refine vs (vs ?_)
 refine cW m (σ := Bool) (τ := Unit) (fun g s => [(some k2, .obj 81 (aQ p1))]) (fun g s => .c 0 (.sl none 4 (List.map aQ p0)) (.c 3 (.ptr k2 0) (.c 5 (nZ q0) (.c 18 (.sc (.bool s)) .nil)))) (fun x m => ?_) ?_
 refine v (vq (by kernel_rfl) (dH iF rfl ?_))
 refine vi m (fun b0 m => ?_) fun b0 m => ?_
 rw [b0]
 refine vx m m7 rfl rfl fun x0 _ m => ?_
 refine va (.agg (aQ x0)) nA rfl rfl (vl 0 (.agg (aQ p1)) nA rfl rfl rfl ?_)
 refine vk V4 RU m rfl rfl fun _ m => ?_
 exact bD m (lx (.k4 .nil))
 rw [b0]
 exact bD m (lx (.k4 .nil))
 rintro _ j0 m
 refine v ?_
 refine vi m (fun c0 m => ?_) fun c0 m => ?_
 refine v (v (v ?_))
 exact bD m (lx (.k3 .nil))
 refine v ?_
 exact iS m (lx (.k3 .nil))
 rintro _ r0 m
 refine v (v ?_)
 refine vz [(1000000, some k2, .obj 81 (aQ p1))] mixed (fun u => ⟨fun _ => aO 0 u rfl, trivial⟩) fun u => ?_
 refine aM 0 rfl (fun _ _ _ _ => bN (.sc (.slice _ _ _)) rfl) ?_
 refine aM 1 rfl (fun _ _ _ _ => bN (.sl _ _ _) rfl) ?_
 refine aM 2 rfl (fun _ _ _ _ => bN (.sc (.int _ _)) rfl) ?_
 obtain ⟨_, X0, m⟩ := aC m
 refine aM 3 rfl (fun _ _ _ _ => mZ X0 m7 rfl rfl rfl rfl) ?_
 refine aM 5 rfl (fun _ _ hi hB => bH (.agg (aQ p1)) nA rfl (At.s (bR.get 0 hi rfl (hB 1000000 (by kernel_rfl)))) rfl) ?_
 refine aM 6 rfl (fun _ _ _ _ => eH (List.map aQ ([p1] : List bI)) uU rfl rfl rfl rfl) ?_
 obtain ⟨z0, Z0, m⟩ := aC m
 refine eX 4 rfl (by kernel_rfl) (lY (c := aQ) Z0 uU rfl rfl u nofun rfl fun tg0 t0 K0 => ⟨⟨fun _ => aO 1 K0 rfl, trivial⟩, ?_⟩)
 obtain ⟨z1, Z1, m⟩ := aC m
 refine eX 7 rfl (by kernel_rfl) (eS (c := aQ) 0 Z1 uU rfl rfl rfl t0 K0 rfl fun tg1 t1 K1 => ⟨⟨fun _ => aO 1 K1 rfl, trivial⟩, ?_⟩)
 refine aM 8 rfl (fun _ _ _ _ => gU (ow _ _ _) rfl) ?_
 refine dL (by kernel_rfl) (qk (f := .c 6 _ (.c 28 _ (.c 25 _ (.c 27 _ (.c 26 _ (.c 24 _ (.c 23 _ (.c 22 _ (.c 21 _ _))))))))) K1 rfl ?_)
 refine v ?_
 obtain ⟨_, X1, m⟩ := aC m
 refine vn (fun _ => mZ X1 m7 rfl rfl rfl rfl) ?_
 obtain ⟨z2, Z2, m⟩ := aC m
 refine ve fun u => eS (c := aQ) 0 Z2 uU rfl rfl rfl t1 u rfl fun tg2 t2 K2 => qk K2 rfl ?_
 refine v ?_
 injection m with m; subst m
 exact vr fun u => dY.of1 (.inl rfl) (fL _ _ (ow _ _ _) rfl) (aV (List.nil_sublist _) u).1 ((eG _ 0 t2 u rfl)) ⟨rfl, rfl⟩
theorem HQ : aU Tryz.prog 185 = true := by kernel_rfl
def rT (m : Nat) (p0 : List bI) (p1 : Int) (q0 : List bI) (q1 : Int) : Option (Lp ((List bI) × Int) ((List bI))) :=
 if (decide (q1 < (p0.length : Int))) = true then ((ix p0 q1).bind fun x0 => after (if (x0.Vol != p1) = true then ((ix p0 q1).bind fun x1 => (app q0 ([x1] : List bI)).bind fun z0 => some (.brk z0)) else some (.brk q0) : Option (Lp ((List bI)) (Lp ((List bI) × Int) ((List bI))))) fun j0 => some (.go (j0, IntKind.wrap .i64 (q1 + 1)))) else some (.brk (q0, q1))
def CW (m : Nat) (p0 : List bI) (p1 : Int) : Option ((List bI)) :=
 after (aY (fun s => rT m p0 p1 s.1 s.2) m ([], 0)) fun ⟨r0, r1⟩ => some r0
theorem NQ {w : Nat} {p0 : List bI} {p1 : Int} {o : (List bI)} (h : aH) (m : CW w p0 p1 = some o) :
 aP Tryz.prog 157 [.sl none 4 (List.map aQ p0), nZ p1] h (fun r h' => r = .sl none 4 (List.map aQ o) ∧ h' = h) := by
 refine fW 28 [.tmp 4] Tryz.func157 rfl rfl rfl rfl ?_
 unfold CW at m
 refine v (v (v (oO (B4 (.tok 81 4 (([] : List bI).length * 4)) 5 (ow none 4 (List.map aQ [])) (hM _ _)) ?_)))
 refine lT m (σ := (List bI) × Int) (τ := Option bZ) (fun g s => [(g, .tok 81 4 ((s.1 : List bI).length * 4))]) (fun g s => (g = none → s.1 = [])) (fun g s => .c 0 (.sl none 4 (List.map aQ p0)) (.c 1 (nZ p1) (.c 5 (ow g 4 (List.map aQ s.1)) (.c 6 (nZ s.2) .nil)))) none (fun _ => rfl) (lx (.k4 .nil)) ?_ ?_
 rintro tg0 ⟨q0, q1⟩ x t0 m
 replace m : rT w p0 p1 q0 q1 = some x := m
 unfold rT at m
 refine v (dH iF rfl (v ?_))
 refine vi m (fun c0 m => ?_) fun c0 m => ?_
 refine v (v (v ?_))
 refine vx m m7 rfl rfl fun _ _ m => ?_
 refine pX m (σ := (List bI)) (τ := Option bZ) (fun g s => [(g, .tok 81 4 ((s : List bI).length * 4))]) (fun g s => (g = none → s = [])) (fun g s => .c 0 (.sl none 4 (List.map aQ p0)) (.c 1 (nZ p1) (.c 5 (ow g 4 (List.map aQ s)) (.c 6 (nZ q1) .nil)))) (fun x m => ?_) ?_
 refine v ?_
 refine vi m (fun c1 m => ?_) fun c1 m => ?_
 refine v ?_
 refine vx m m7 rfl rfl fun x0 _ m => ?_
 refine va (.agg (aQ x0)) nA rfl rfl (vn (fun _ => eH (List.map aQ ([x0] : List bI)) uU rfl rfl rfl rfl) ?_)
 obtain ⟨z0, Z0, m⟩ := aC m
 refine ve fun u => eS (c := aQ) 0 Z0 uU rfl rfl rfl t0 u rfl fun tg1 t1 K0 => qk K0 rfl ?_
 exact fH m tg1 t1 (lx (.k4 .nil))
 refine v ?_
 exact fH m tg0 t0 (lx (.k4 .nil))
 rintro tg2 j0 t2 m
 refine v ?_
 exact fH m tg2 t2 (lx (.k4 .nil))
 refine v ?_
 exact lD m tg0 t0 (lx (.k4 .nil))
 rintro tg3 ⟨r0, r1⟩ t3 m
 refine v (v ?_)
 injection m with m; subst m
 exact vr fun u => dY.of1 (.inl rfl) (fL _ _ (ow _ _ _) rfl) (aV (List.nil_sublist _) u).1 ((eG _ 0 t3 u rfl)) ⟨rfl, rfl⟩
theorem HR : aU Tryz.prog 157 = true := by kernel_rfl
def OI (m : Nat) (p0 : a8) : Option (a8) :=
 (CM m p0.Snap.Man).bind fun y0 => (tP m p0.Snap.Locs).bind fun y1 => (CN m ({ { p0 with Snap := { p0.Snap with Man := y0 } } with Snap := { { p0 with Snap := { p0.Snap with Man := y0 } }.Snap with Locs := y1 } }.Chunks)).bind fun y2 => (app ([] : List bQ) ({ { p0 with Snap := { p0.Snap with Man := y0 } } with Snap := { { p0 with Snap := { p0.Snap with Man := y0 } }.Snap with Locs := y1 } }.Items)).bind fun z0 => some ({ Kind := { { { p0 with Snap := { p0.Snap with Man := y0 } } with Snap := { { p0 with Snap := { p0.Snap with Man := y0 } }.Snap with Locs := y1 } } with Chunks := y2 }.Kind, Snap := ({ Seq := ({ { { p0 with Snap := { p0.Snap with Man := y0 } } with Snap := { { p0 with Snap := { p0.Snap with Man := y0 } }.Snap with Locs := y1 } } with Chunks := y2 }.Snap).Seq, Man := ({ Name := (({ { { p0 with Snap := { p0.Snap with Man := y0 } } with Snap := { { p0 with Snap := { p0.Snap with Man := y0 } }.Snap with Locs := y1 } } with Chunks := y2 }.Snap).Man).Name, Parts := (({ { { p0 with Snap := { p0.Snap with Man := y0 } } with Snap := { { p0 with Snap := { p0.Snap with Man := y0 } }.Snap with Locs := y1 } } with Chunks := y2 }.Snap).Man).Parts } : a9), Locs := ({ { { p0 with Snap := { p0.Snap with Man := y0 } } with Snap := { { p0 with Snap := { p0.Snap with Man := y0 } }.Snap with Locs := y1 } } with Chunks := y2 }.Snap).Locs } : aE), Chunks := { { { p0 with Snap := { p0.Snap with Man := y0 } } with Snap := { { p0 with Snap := { p0.Snap with Man := y0 } }.Snap with Locs := y1 } } with Chunks := y2 }.Chunks, Seq := { { { p0 with Snap := { p0.Snap with Man := y0 } } with Snap := { { p0 with Snap := { p0.Snap with Man := y0 } }.Snap with Locs := y1 } } with Chunks := y2 }.Seq, Vol := { { { p0 with Snap := { p0.Snap with Man := y0 } } with Snap := { { p0 with Snap := { p0.Snap with Man := y0 } }.Snap with Locs := y1 } } with Chunks := y2 }.Vol, Items := z0 } : a8)
theorem Z8 {w : Nat} {p0 : a8} {o : a8} (h : aH) (m : OI w p0 = some o) :
 aP Tryz.prog 92 [.agg (aG p0)] h (fun r h' => r = .agg (aG o) ∧ h' = h) := by
 refine fW 26 [.cell 2 62] Tryz.func92 rfl rfl rfl rfl ?_
 unfold OI at m
 refine v ?_
 refine ve fun u => cQ u rfl rfl fun k2 K3 => qk K3 rfl ?_
 refine ve fun u => bE ([nZ 0, nZ 0, .sc (.string ByteArray.empty), sZ, sZ, sZ, nZ 0, nZ 0, sZ]) u GB rfl rfl fun k5 K6 => qk K6 rfl ?_
 refine v ?_
 refine vz [(10, some k2, .obj 62 (aG p0))] mixed (fun u => ⟨fun _ => aO 1 u rfl, trivial⟩) fun u => ?_
 refine aM 0 rfl (fun _ _ _ _ => aJ jA rfl rfl) ?_
 refine aM 1 rfl (fun _ _ _ _ => aJ mA rfl rfl) ?_
 refine aM 2 rfl (fun _ _ hi hB => bH (.agg (bC p0.Snap.Man)) lH rfl (At.s (bR.get 0 hi rfl (hB 10 (by kernel_rfl)))) rfl) ?_
 obtain ⟨y0, Y0, m⟩ := aC m
 refine aM 3 rfl (fun _ _ _ _ => cE (QU _ Y0) rfl KM rfl) ?_
 refine aM 4 rfl (fun _ _ _ _ => aJ jA rfl rfl) ?_
 refine aM 5 rfl (fun _ _ _ _ => aJ iV rfl rfl) ?_
 refine aM 6 rfl (fun _ _ hi hB => bH (.sl none 4 (List.map aQ p0.Snap.Locs)) fE rfl (At.s (bR.get 0 hi rfl (hB 10 (by kernel_rfl)))) rfl) ?_
 obtain ⟨y1, Y1, m⟩ := aC m
 refine aM 7 rfl (fun _ _ _ _ => cE (G1 _ Y1) rfl AU rfl) ?_
 refine aM 8 rfl (fun _ _ _ _ => aJ jA rfl rfl) ?_
 refine aM 9 rfl (fun _ _ _ _ => aJ mA rfl rfl) ?_
 refine eX 10 rfl (by kernel_rfl) (aL 1 (aG { p0 with Snap := { p0.Snap with Man := y0 } }) u rfl rfl rfl rfl uW rfl rfl fun K0 => ⟨⟨fun e => absurd e (by decide), trivial⟩, ?_⟩)
 refine aM 11 rfl (fun _ _ _ _ => aJ jA rfl rfl) ?_
 refine aM 12 rfl (fun _ _ _ _ => aJ iV rfl rfl) ?_
 refine eX 13 rfl (by kernel_rfl) (aL 1 (aG { { p0 with Snap := { p0.Snap with Man := y0 } } with Snap := { { p0 with Snap := { p0.Snap with Man := y0 } }.Snap with Locs := y1 } }) K0 rfl rfl rfl rfl m8 rfl rfl fun K1 => ⟨⟨fun e => absurd e (by decide), trivial⟩, ?_⟩)
 refine dL (by kernel_rfl) (qk (f := .c 15 _ (.c 14 _ (.c 13 _ (.c 12 _ (.c 11 _ (.c 10 _ (.c 9 _ (.c 8 _ (.c 7 _ (.c 6 _ (.c 5 _ (.c 4 _ _)))))))))))) K1 rfl ?_)
 refine v (v ?_)
 refine vz [(8, some k2, .obj 62 (aG { { p0 with Snap := { p0.Snap with Man := y0 } } with Snap := { { p0 with Snap := { p0.Snap with Man := y0 } }.Snap with Locs := y1 } }))] mixed (fun u => ⟨fun _ => aO 1 u rfl, trivial⟩) fun u => ?_
 refine aM 0 rfl (fun _ _ _ _ => aJ kL rfl rfl) ?_
 refine aM 1 rfl (fun _ _ hi hB => bH (.sl none 35 (List.map aD ({ { p0 with Snap := { p0.Snap with Man := y0 } } with Snap := { { p0 with Snap := { p0.Snap with Man := y0 } }.Snap with Locs := y1 } }.Chunks))) eF rfl (At.s (bR.get 0 hi rfl (hB 8 (by kernel_rfl)))) rfl) ?_
 obtain ⟨y2, Y2, m⟩ := aC m
 refine aM 2 rfl (fun _ _ _ _ => cE (U4 _ Y2) rfl G3 rfl) ?_
 refine aM 3 rfl (fun _ _ _ _ => bN (.sc (.slice _ _ _)) rfl) ?_
 refine aM 4 rfl (fun _ _ _ _ => aJ hX rfl rfl) ?_
 refine aM 5 rfl (fun _ _ hi hB => bH (.sl none 37 (List.map bM ({ { p0 with Snap := { p0.Snap with Man := y0 } } with Snap := { { p0 with Snap := { p0.Snap with Man := y0 } }.Snap with Locs := y1 } }.Items))) kK rfl (At.s (bR.get 0 hi rfl (hB 8 (by kernel_rfl)))) rfl) ?_
 refine aM 7 rfl (fun _ _ _ _ => aJ kL rfl rfl) ?_
 obtain ⟨z0, Z0, m⟩ := aC m
 refine eX 6 rfl (by kernel_rfl) (lY (c := bM) Z0 I5 rfl rfl u nofun rfl fun tg0 t0 K2 => ⟨⟨fun _ => aO 2 K2 rfl, trivial⟩, ?_⟩)
 refine eX 8 rfl (by kernel_rfl) (aL 2 (aG { { { p0 with Snap := { p0.Snap with Man := y0 } } with Snap := { { p0 with Snap := { p0.Snap with Man := y0 } }.Snap with Locs := y1 } } with Chunks := y2 }) K2 rfl rfl rfl rfl xO rfl rfl fun K4 => ⟨⟨fun e => absurd e (by decide), trivial⟩, ?_⟩)
 refine aM 9 rfl (fun _ _ _ _ => aJ hX rfl rfl) ?_
 refine eX 10 rfl (by kernel_rfl) (aL 2 ([nZ ({ { { p0 with Snap := { p0.Snap with Man := y0 } } with Snap := { { p0 with Snap := { p0.Snap with Man := y0 } }.Snap with Locs := y1 } } with Chunks := y2 }.Kind), nZ (({ { { p0 with Snap := { p0.Snap with Man := y0 } } with Snap := { { p0 with Snap := { p0.Snap with Man := y0 } }.Snap with Locs := y1 } } with Chunks := y2 }.Snap).Seq), .sc (.string ((({ { { p0 with Snap := { p0.Snap with Man := y0 } } with Snap := { { p0 with Snap := { p0.Snap with Man := y0 } }.Snap with Locs := y1 } } with Chunks := y2 }.Snap).Man).Name)), .sl none 3 (List.map bV ((({ { { p0 with Snap := { p0.Snap with Man := y0 } } with Snap := { { p0 with Snap := { p0.Snap with Man := y0 } }.Snap with Locs := y1 } } with Chunks := y2 }.Snap).Man).Parts)), .sl none 4 (List.map aQ (({ { { p0 with Snap := { p0.Snap with Man := y0 } } with Snap := { { p0 with Snap := { p0.Snap with Man := y0 } }.Snap with Locs := y1 } } with Chunks := y2 }.Snap).Locs)), .sl none 35 (List.map aD ({ { { p0 with Snap := { p0.Snap with Man := y0 } } with Snap := { { p0 with Snap := { p0.Snap with Man := y0 } }.Snap with Locs := y1 } } with Chunks := y2 }.Chunks)), nZ ({ { { p0 with Snap := { p0.Snap with Man := y0 } } with Snap := { { p0 with Snap := { p0.Snap with Man := y0 } }.Snap with Locs := y1 } } with Chunks := y2 }.Seq), nZ ({ { { p0 with Snap := { p0.Snap with Man := y0 } } with Snap := { { p0 with Snap := { p0.Snap with Man := y0 } }.Snap with Locs := y1 } } with Chunks := y2 }.Vol), ow tg0 37 (List.map bM z0)]) K4 rfl rfl (hO rfl) (mY _ _ _) TL rfl rfl fun K5 => ⟨⟨fun e => absurd e (by decide), trivial⟩, ?_⟩)
 refine dL (by kernel_rfl) (qk (f := .c 24 _ (.c 22 _ (.c 23 _ (.c 21 _ (.c 20 _ (.c 19 _ (.c 18 _ (.c 17 _ (.c 16 _ _))))))))) K5 rfl ?_)
 refine v (vl 2 (.agg ([nZ ({ { { p0 with Snap := { p0.Snap with Man := y0 } } with Snap := { { p0 with Snap := { p0.Snap with Man := y0 } }.Snap with Locs := y1 } } with Chunks := y2 }.Kind), nZ (({ { { p0 with Snap := { p0.Snap with Man := y0 } } with Snap := { { p0 with Snap := { p0.Snap with Man := y0 } }.Snap with Locs := y1 } } with Chunks := y2 }.Snap).Seq), .sc (.string ((({ { { p0 with Snap := { p0.Snap with Man := y0 } } with Snap := { { p0 with Snap := { p0.Snap with Man := y0 } }.Snap with Locs := y1 } } with Chunks := y2 }.Snap).Man).Name)), .sl none 3 (List.map bV ((({ { { p0 with Snap := { p0.Snap with Man := y0 } } with Snap := { { p0 with Snap := { p0.Snap with Man := y0 } }.Snap with Locs := y1 } } with Chunks := y2 }.Snap).Man).Parts)), .sl none 4 (List.map aQ (({ { { p0 with Snap := { p0.Snap with Man := y0 } } with Snap := { { p0 with Snap := { p0.Snap with Man := y0 } }.Snap with Locs := y1 } } with Chunks := y2 }.Snap).Locs)), .sl none 35 (List.map aD ({ { { p0 with Snap := { p0.Snap with Man := y0 } } with Snap := { { p0 with Snap := { p0.Snap with Man := y0 } }.Snap with Locs := y1 } } with Chunks := y2 }.Chunks)), nZ ({ { { p0 with Snap := { p0.Snap with Man := y0 } } with Snap := { { p0 with Snap := { p0.Snap with Man := y0 } }.Snap with Locs := y1 } } with Chunks := y2 }.Seq), nZ ({ { { p0 with Snap := { p0.Snap with Man := y0 } } with Snap := { { p0 with Snap := { p0.Snap with Man := y0 } }.Snap with Locs := y1 } } with Chunks := y2 }.Vol), ow tg0 37 (List.map bM z0)])) mP rfl rfl rfl ?_)
 refine ve fun u => aL 1 ([nZ ({ { { p0 with Snap := { p0.Snap with Man := y0 } } with Snap := { { p0 with Snap := { p0.Snap with Man := y0 } }.Snap with Locs := y1 } } with Chunks := y2 }.Kind), nZ (({ { { p0 with Snap := { p0.Snap with Man := y0 } } with Snap := { { p0 with Snap := { p0.Snap with Man := y0 } }.Snap with Locs := y1 } } with Chunks := y2 }.Snap).Seq), .sc (.string ((({ { { p0 with Snap := { p0.Snap with Man := y0 } } with Snap := { { p0 with Snap := { p0.Snap with Man := y0 } }.Snap with Locs := y1 } } with Chunks := y2 }.Snap).Man).Name)), .sl none 3 (List.map bV ((({ { { p0 with Snap := { p0.Snap with Man := y0 } } with Snap := { { p0 with Snap := { p0.Snap with Man := y0 } }.Snap with Locs := y1 } } with Chunks := y2 }.Snap).Man).Parts)), .sl none 4 (List.map aQ (({ { { p0 with Snap := { p0.Snap with Man := y0 } } with Snap := { { p0 with Snap := { p0.Snap with Man := y0 } }.Snap with Locs := y1 } } with Chunks := y2 }.Snap).Locs)), .sl none 35 (List.map aD ({ { { p0 with Snap := { p0.Snap with Man := y0 } } with Snap := { { p0 with Snap := { p0.Snap with Man := y0 } }.Snap with Locs := y1 } } with Chunks := y2 }.Chunks)), nZ ({ { { p0 with Snap := { p0.Snap with Man := y0 } } with Snap := { { p0 with Snap := { p0.Snap with Man := y0 } }.Snap with Locs := y1 } } with Chunks := y2 }.Seq), nZ ({ { { p0 with Snap := { p0.Snap with Man := y0 } } with Snap := { { p0 with Snap := { p0.Snap with Man := y0 } }.Snap with Locs := y1 } } with Chunks := y2 }.Vol), ow tg0 37 (List.map bM z0)]) u rfl rfl rfl (by repeat (first | exact rfl | refine cK (gG _ _ _) ?_ | refine cK (bX _ _ _) ?_ | refine cK rfl ?_)) rL rfl rfl fun K7 => qk K7 rfl ?_
 refine v ?_
 cases m
 exact vr fun u => dY.of1 (.inl rfl) (n3 (.agg ([nZ ({ { { p0 with Snap := { p0.Snap with Man := y0 } } with Snap := { { p0 with Snap := { p0.Snap with Man := y0 } }.Snap with Locs := y1 } } with Chunks := y2 }.Kind), nZ (({ { { p0 with Snap := { p0.Snap with Man := y0 } } with Snap := { { p0 with Snap := { p0.Snap with Man := y0 } }.Snap with Locs := y1 } } with Chunks := y2 }.Snap).Seq), .sc (.string ((({ { { p0 with Snap := { p0.Snap with Man := y0 } } with Snap := { { p0 with Snap := { p0.Snap with Man := y0 } }.Snap with Locs := y1 } } with Chunks := y2 }.Snap).Man).Name)), .sl none 3 (List.map bV ((({ { { p0 with Snap := { p0.Snap with Man := y0 } } with Snap := { { p0 with Snap := { p0.Snap with Man := y0 } }.Snap with Locs := y1 } } with Chunks := y2 }.Snap).Man).Parts)), .sl none 4 (List.map aQ (({ { { p0 with Snap := { p0.Snap with Man := y0 } } with Snap := { { p0 with Snap := { p0.Snap with Man := y0 } }.Snap with Locs := y1 } } with Chunks := y2 }.Snap).Locs)), .sl none 35 (List.map aD ({ { { p0 with Snap := { p0.Snap with Man := y0 } } with Snap := { { p0 with Snap := { p0.Snap with Man := y0 } }.Snap with Locs := y1 } } with Chunks := y2 }.Chunks)), nZ ({ { { p0 with Snap := { p0.Snap with Man := y0 } } with Snap := { { p0 with Snap := { p0.Snap with Man := y0 } }.Snap with Locs := y1 } } with Chunks := y2 }.Seq), nZ ({ { { p0 with Snap := { p0.Snap with Man := y0 } } with Snap := { { p0 with Snap := { p0.Snap with Man := y0 } }.Snap with Locs := y1 } } with Chunks := y2 }.Vol), ow tg0 37 (List.map bM z0)])) mP rfl (bB 1 u rfl) rfl) (aV (List.nil_sublist _) u).1 (aX.agg (.k8 (.cons ((eG _ 0 t0 u rfl)) .nil))) ⟨rfl, rfl⟩
theorem V5 : aU Tryz.prog 92 = true := by kernel_rfl
def CX (m : Nat) (p0 : aB) (p1 : Int) (p2 : Int) (p3 : Int) : Option (Bool) :=
 after (if (decide (0 ≤ p1)) = true then (if (decide (p1 < (p0.Vols.length : Int))) = true then ((ix p0.Vols p1).bind fun x0 => if (x0.State == p2) = true then (some (.brk true)) else (ix p0.Vols p1).bind fun x1 => some (.brk (x1.State == p3))) else some (.brk false)) else some (.brk false) : Option (Lp (Bool) (Bool))) fun j0 => some j0
theorem NR {w : Nat} {p0 : aB} {p1 : Int} {p2 : Int} {p3 : Int} {o : Bool} (h : aH) {p0K : bZ} {gS : dD} (ok_Snaps : bJ gS 4 p0.Snaps.length) {gC : dD} (oC : bJ gC 35 p0.Chunks.length) {gE : dD} (oE : bJ gE 3 p0.Exps.length) {gV : dD} (oV : bJ gV 4 p0.Vols.length) (K0 : bS h [(some p0K, .obj 30 ([nZ p0.Seq, aZ gS, aZ gC, aZ gE, aZ gV])), (gS.t, .obj 60 (fl aN (p0.Snaps : List aE) gS.sp)), (gC.t, .obj 44 (fl aD (p0.Chunks : List aA) gC.sp)), (gE.t, .obj 99 (fl aR (p0.Exps : List aI) gE.sp)), (gV.t, .obj 49 (fl aT (p0.Vols : List aK) gV.sp))]) (m : CX w p0 p1 p2 p3 = some o) :
 aP Tryz.prog 155 [.ptr p0K 0, nZ p1, nZ p2, nZ p3] (hp h [(some p0K, .obj 30 ([nZ p0.Seq, aZ gS, aZ gC, aZ gE, aZ gV])), (gS.t, .obj 60 (fl aN (p0.Snaps : List aE) gS.sp)), (gC.t, .obj 44 (fl aD (p0.Chunks : List aA) gC.sp)), (gE.t, .obj 99 (fl aR (p0.Exps : List aI) gE.sp)), (gV.t, .obj 49 (fl aT (p0.Vols : List aK) gV.sp))]) (fun r h' => bS h [(some p0K, .obj 30 ([nZ p0.Seq, aZ gS, aZ gC, aZ gE, aZ gV])), (gS.t, .obj 60 (fl aN (p0.Snaps : List aE) gS.sp)), (gC.t, .obj 44 (fl aD (p0.Chunks : List aA) gC.sp)), (gE.t, .obj 99 (fl aR (p0.Exps : List aI) gE.sp)), (gV.t, .obj 49 (fl aT (p0.Vols : List aK) gV.sp))] ∧ r = .sc (.bool o) ∧ h' = hp h [(some p0K, .obj 30 ([nZ p0.Seq, aZ gS, aZ gC, aZ gE, aZ gV])), (gS.t, .obj 60 (fl aN (p0.Snaps : List aE) gS.sp)), (gC.t, .obj 44 (fl aD (p0.Chunks : List aA) gC.sp)), (gE.t, .obj 99 (fl aR (p0.Exps : List aI) gE.sp)), (gV.t, .obj 49 (fl aT (p0.Vols : List aK) gV.sp))]) := by
 refine AE K0 44 [.tmp 8] Tryz.func155 rfl rfl rfl rfl ?_
 unfold CX at m
 refine vs (v0 (vs ?_))
 refine cW m (σ := Bool) (τ := Unit) (fun g s => [(some p0K, .obj 30 ([nZ p0.Seq, aZ gS, aZ gC, aZ gE, aZ gV])), (gS.t, .obj 60 (fl aN (p0.Snaps : List aE) gS.sp)), (gC.t, .obj 44 (fl aD (p0.Chunks : List aA) gC.sp)), (gE.t, .obj 99 (fl aR (p0.Exps : List aI) gE.sp)), (gV.t, .obj 49 (fl aT (p0.Vols : List aK) gV.sp))]) (fun g s => .c 8 (.sc (.bool s)) .nil) (fun x m => ?_) ?_
 refine v0 ?_
 refine vi m (fun b0 m => ?_) fun b0 m => ?_
 rw [b0]
 refine vn (fun _ => bU rfl) (vn (fun _ => aJ fI rfl rfl) (vl 0 (aZ gV) fZ rfl rfl rfl (vn (fun _ => eY qG oV rfl) ?_)))
 refine vi m (fun b1 m => ?_) fun b1 m => ?_
 rw [b1]
 refine vn (fun _ => bU rfl) (vn (fun _ => aJ fI rfl rfl) (vl 0 (aZ gV) fZ rfl rfl rfl ?_))
 obtain ⟨x0, X0, m⟩ := aC m
 refine vn (fun _ => dE X0 i9 oV rfl rfl) (vn (fun _ => dJ (bJ.ne oV X0) l8 rfl rfl) (vn (fun u => eZ (fo := 2) (nZ x0.State) X0 eJ oV cG rfl (aO 4 u rfl) (fun _ => rfl)) ?_))
 refine vi m (fun b2 m => ?_) fun b2 m => ?_
 rw [b2]
 exact bD m (lx (.cons (aX.refl _ _) .nil))
 rw [b2]
 refine vn (fun _ => bU rfl) (vn (fun _ => aJ fI rfl rfl) (vl 0 (aZ gV) fZ rfl rfl rfl ?_))
 obtain ⟨x1, X1, m⟩ := aC m
 refine vn (fun _ => dE X1 i9 oV rfl rfl) (vn (fun _ => dJ (bJ.ne oV X1) l8 rfl rfl) (vn (fun u => eZ (fo := 2) (nZ x1.State) X1 eJ oV cG rfl (aO 4 u rfl) (fun _ => rfl)) ?_))
 exact bD m (lx (.cons (aX.refl _ _) .nil))
 rw [b1]
 exact bD m (lx (.cons (aX.refl _ _) .nil))
 rw [b0]
 exact bD m (lx (.cons (aX.refl _ _) .nil))
 rintro _ j0 m
 refine v0 ?_
 injection m with m; subst m
 exact vr fun u => dY.of1 (.inl rfl) (fL _ _ (.sc (.bool _)) rfl) (bO u [0, 1, 2, 3, 4] rfl).2 (aX.refl _ _) ⟨(bO u [0, 1, 2, 3, 4] rfl).1, rfl, rfl⟩
theorem HS : aU Tryz.prog 155 = true := by kernel_rfl
def uG (m : Nat) (p0 : List aA) (p1 : aA) (q0 : Int) : Option (Lp (Int) ((List aA))) :=
 after (if (decide (q0 < (p0.length : Int))) = true then ((ix p0 q0).bind fun x0 => (GT m x0.Id p1.Id).bind fun y0 => some (.brk y0)) else some (.brk false) : Option (Lp (Bool) (Lp (Int) ((List aA))))) fun j0 => if j0 = true then (some (.go (IntKind.wrap .i64 (q0 + 1)))) else some (.brk q0)
def BB (m : Nat) (p0 : List aA) (p1 : aA) : Option ((List aA)) :=
 after (aY (fun s => uG m p0 p1 s) m 0) fun r0 => after (if (decide (r0 < (p0.length : Int))) = true then ((ix p0 r0).bind fun x0 => some (.brk (decide (x0.Id = p1.Id)))) else some (.brk false) : Option (Lp (Bool) ((List aA)))) fun j0 => if j0 = true then ((BA m p0).bind fun y0 => (vA m p1.Data).bind fun y1 => (ix y0 r0).bind fun x1 => (ix (y0.set r0.toNat ({ x1 with Staged := true })) r0).bind fun x2 => some ((y0.set r0.toNat ({ x1 with Staged := true })).set r0.toNat ({ x2 with Data := y1 }))) else (slc p0 0 r0).bind fun x3 => (app ([] : List aA) x3).bind fun z0 => (app z0 ([p1] : List aA)).bind fun z1 => (slc p0 r0 (p0).length).bind fun x4 => (app z1 x4).bind fun z2 => some z2
theorem RW {w : Nat} {p0 : List aA} {p1 : aA} {o : (List aA)} (h : aH) (m : BB w p0 p1 = some o) :
 aP Tryz.prog 153 [.sl none 35 (List.map aD p0), .agg (aD p1)] h (fun r h' => ∃ g : dD, bJ g 35 o.length ∧ bS h [(g.t, .obj 44 (fl aD o g.sp))] ∧ r = aZ g ∧ h' = hp h [(g.t, .obj 44 (fl aD o g.sp))]) := by
 refine fW 65 [.tmp 4] Tryz.func153 rfl rfl rfl rfl ?_
 unfold BB at m
 refine vs (v0 ?_)
 refine ve fun u => cQ u rfl rfl fun k2 K3 => qk K3 rfl ?_
 refine vs (v0 (vs ?_))
 refine eO m (σ := Int) (τ := Unit) (fun g s => [(some k2, .obj 44 (aD p1))]) (fun g s => .c 0 (.sl none 35 (List.map aD p0)) (.c 3 (.ptr k2 0) (.c 5 (nZ s) .nil))) () (lx (.k3 .nil)) ?_ ?_
 rintro _ q0 x m
 replace m : uG w p0 p1 q0 = some x := m
 unfold uG at m
 refine vs (vs ?_)
 refine cW m (σ := Bool) (τ := Unit) (fun g s => [(some k2, .obj 44 (aD p1))]) (fun g s => .c 0 (.sl none 35 (List.map aD p0)) (.c 3 (.ptr k2 0) (.c 5 (nZ q0) (.c 21 (.sc (.bool s)) .nil)))) (fun x m => ?_) ?_
 refine v0 (AK (by kernel_rfl) (dH hS rfl ?_))
 refine vi m (fun b0 m => ?_) fun b0 m => ?_
 rw [b0]
 refine vx m eW rfl rfl fun x0 _ m => ?_
 refine vn (fun _ => mM m9 rfl rfl) (va (.agg (bF x0.Id)) fV rfl rfl (vn (fun _ => aJ m9 rfl rfl) (vl 0 (.agg (bF p1.Id)) fV rfl rfl rfl ?_)))
 refine vk QC KH m rfl rfl fun _ m => ?_
 exact bD m (lx (.k4 .nil))
 rw [b0]
 exact bD m (lx (.k4 .nil))
 rintro _ j0 m
 refine v0 ?_
 refine vi m (fun c0 m => ?_) fun c0 m => ?_
 refine v0 (v0 (v0 ?_))
 exact bD m (lx (.k3 .nil))
 refine v0 ?_
 exact iS m (lx (.k3 .nil))
 rintro _ r0 m
 refine vs (vs ?_)
 refine cW m (σ := Bool) (τ := Unit) (fun g s => [(some k2, .obj 44 (aD p1))]) (fun g s => .c 0 (.sl none 35 (List.map aD p0)) (.c 3 (.ptr k2 0) (.c 5 (nZ r0) (.c 37 (.sc (.bool s)) .nil)))) (fun x m => ?_) ?_
 refine v0 (AK (by kernel_rfl) (dH hS rfl ?_))
 refine vi m (fun b1 m => ?_) fun b1 m => ?_
 rw [b1]
 refine vx m eW rfl rfl fun x1 _ m => ?_
 refine vn (fun _ => mM m9 rfl rfl) (va (.agg (bF x1.Id)) fV rfl rfl (vn (fun _ => aJ m9 rfl rfl) (vl 0 (.agg (bF p1.Id)) fV rfl rfl rfl (vn (fun _ => vU EG OB u5 B9 rfl rfl) ?_))))
 exact bD m (lx (.k4 .nil))
 rw [b1]
 exact bD m (lx (.k4 .nil))
 rintro _ j1 m
 refine v0 ?_
 refine vi m (fun c1 m => ?_) fun c1 m => ?_
 refine vs (v0 ?_)
 obtain ⟨y0, Y0, m⟩ := aC m
 refine ve fun u => cV (KT _ Y0) rfl G3 rfl ?_
 rintro x h' ⟨ag0, O0, K0, rfl, rfl⟩
 refine qk (bS.co u K0) (gO _ _ _) ?_
 refine vs (v0 (vn (fun _ => aJ iU rfl rfl) (vl 1 _ jR rfl rfl rfl ?_)))
 refine vk G2 AX m rfl rfl fun y1 m => ?_
 obtain ⟨x2, X0, m⟩ := aC m
 refine vn (fun _ => dE X0 eW O0 rfl rfl) (vn (fun _ => dJ (bJ.ne O0 X0) qH rfl rfl) ?_)
 refine ve fun u => cR (fo := 32) ({ x2 with Staged := true } : aA) 0 u X0 cM O0 rfl rfl rfl rfl (cO.refl _ _) SZ rfl rfl fun K1 => qk K1 rfl ?_
 obtain ⟨x3, X1, m⟩ := aC m
 refine vn (fun _ => dE X1 eW (bJ.set O0) rfl rfl) (vn (fun _ => dJ (bJ.ne (bJ.set O0) X1) iU rfl rfl) ?_)
 refine ve fun u => cR (fo := 33) ({ x3 with Data := y1 } : aA) 0 u X1 cM (bJ.set O0) rfl rfl rfl rfl (cO.refl _ _) CB rfl rfl fun K2 => qk K2 rfl ?_
 refine vs (v0 (v0 ?_))
 cases m
 exact vr fun u => dY.one (.inl rfl) (aV (h0 := h) (L' := [(ag0.t, .obj 44 (fl aD ((y0.set r0.toNat ({ x2 with Staged := true })).set r0.toNat ({ x3 with Data := y1 }) : List aA) ag0.sp))]) (.cons_cons _ (.cons _ (.refl _))) u).1 (aX.refl _ _) ⟨ag0, (bJ.set (bJ.set O0)), (aV (h0 := h) (L' := [(ag0.t, .obj 44 (fl aD ((y0.set r0.toNat ({ x2 with Staged := true })).set r0.toNat ({ x3 with Data := y1 }) : List aA) ag0.sp))]) (.cons_cons _ (.cons _ (.refl _))) u).2, rfl, rfl⟩
 refine v0 (vs (v0 (vs (v0 ?_))))
 refine vz [(1000000, some k2, .obj 44 (aD p1))] mixed (fun u => ⟨fun _ => aO 0 u rfl, trivial⟩) fun u => ?_
 refine aM 0 rfl (fun _ _ _ _ => bN (.sc (.slice _ _ _)) rfl) ?_
 refine aM 1 rfl (fun _ _ _ _ => bN (.sl _ _ _) rfl) ?_
 refine aM 2 rfl (fun _ _ _ _ => bN (.sc (.int _ _)) rfl) ?_
 obtain ⟨_, X2, m⟩ := aC m
 refine aM 3 rfl (fun _ _ _ _ => mZ X2 eW rfl rfl rfl rfl) ?_
 refine aM 5 rfl (fun _ _ hi hB => bH (.agg (aD p1)) lF rfl (At.s (bR.get 0 hi rfl (hB 1000000 (by kernel_rfl)))) rfl) ?_
 refine aM 6 rfl (fun _ _ _ _ => eH (List.map aD ([p1] : List aA)) jP rfl rfl rfl rfl) ?_
 obtain ⟨z0, Z0, m⟩ := aC m
 refine eX 4 rfl (by kernel_rfl) (xD (c := aD) Z0 jP rfl l6 rfl cM rfl u rfl fun ag1 O1 K4 => ⟨⟨fun _ => aO 1 K4 rfl, trivial⟩, ?_⟩)
 obtain ⟨z1, Z1, m⟩ := aC m
 refine eX 7 rfl (by kernel_rfl) (fR (c := aD) 0 Z1 jP rfl l6 rfl cM rfl rfl O1 K4 rfl fun ag2 O2 K5 => ⟨⟨fun _ => aO 1 K5 rfl, trivial⟩, ?_⟩)
 refine aM 8 rfl (fun _ _ _ _ => gU (aw _ _ _) rfl) ?_
 refine dL (by kernel_rfl) (qk (f := .c 7 _ (.c 59 _ (.c 56 _ (.c 58 _ (.c 57 _ (.c 55 _ (.c 54 _ (.c 53 _ (.c 52 _ _))))))))) K5 rfl ?_)
 refine vs (v0 ?_)
 obtain ⟨_, X3, m⟩ := aC m
 refine vn (fun _ => mZ X3 eW rfl rfl rfl rfl) ?_
 obtain ⟨z2, Z2, m⟩ := aC m
 refine ve fun u => fR (c := aD) 0 Z2 jP rfl l6 rfl cM rfl rfl O2 u rfl fun ag3 O3 K6 => qk K6 rfl ?_
 refine v0 ?_
 injection m with m; subst m
 exact vr fun u => dY.one (.inl rfl) (aV (h0 := h) (L' := [(ag3.t, .obj 44 (fl aD (z2 : List aA) ag3.sp))]) (.cons_cons _ (.cons _ (.refl _))) u).1 (aX.refl _ _) ⟨ag3, O3, (aV (h0 := h) (L' := [(ag3.t, .obj 44 (fl aD (z2 : List aA) ag3.sp))]) (.cons_cons _ (.cons _ (.refl _))) u).2, rfl, rfl⟩
theorem RX : aU Tryz.prog 153 = true := by kernel_rfl
open Go.Vm
theorem V6 : @BA = @CN := rfl
theorem V7 {F : Nat} {c : aB} (hF : 1000 ≤ F) (h : Sm c) : HO F c = some c := by
 rw [← ZM (F := F) hF h]
 rfl
theorem S7 {n : Nat} (h : n < 1000000000) : IntKind.wrap .u64 (n : Int) = n := by
 have e : IntKind.wrap .u64 (n : Int) = (n : Int) % 18446744073709551616 := rfl
 rw [e]; omega
theorem JZ (p : Int) : 0 ≤ IntKind.wrap .u64 p := by
 have e : IntKind.wrap .u64 p = p % 18446744073709551616 := rfl
 rw [e]; omega
theorem RY (p : Int) {n : Nat} (h0 : 0 < n) (hn : n < 1000000000) : ∃ j : Nat, j < n ∧ IntKind.wrap .i64 ((IntKind.wrap .u64 p).tmod (n : Int)) = (j : Int) := by
 have h1 := JZ p
 generalize IntKind.wrap .u64 p = a at h1
 rw [Int.tmod_eq_emod_of_nonneg h1]
 have h2 : 0 ≤ a % (n : Int) := Int.emod_nonneg _ (by omega)
 have h3 : a % (n : Int) < n := Int.emod_lt_of_pos _ (by omega)
 refine ⟨(a % (n : Int)).toNat, by omega, ?_⟩
 rw [wr (by omega) (by omega)]
 omega
theorem iX {α : Type} {l : List α} {j : Nat} {x y : α} (h : y ∈ l.set j x) : y ∈ l ∨ y = x := by
 have := List.mem_or_eq_of_mem_set h
 exact this
open Go.Vm
def rU (m : Nat) (p0 : aB) (p1 : Int) (q0 : List aE) (q1 : Int) : Option (Lp ((List aE) × Int) (Bool × (List aE) × (List aA))) :=
 if (decide (q1 < (p0.Snaps.length : Int))) = true then ((ix p0.Snaps q1).bind fun x0 => after (if (x0.Seq != p1) = true then ((ix p0.Snaps q1).bind fun x1 => (app q0 ([x1] : List aE)).bind fun z0 => some (.brk z0)) else some (.brk q0) : Option (Lp ((List aE)) (Lp ((List aE) × Int) (Bool × (List aE) × (List aA))))) fun j0 => some (.go (j0, IntKind.wrap .i64 (q1 + 1)))) else some (.brk (q0, q1))
def rV (m : Nat) (p0 : aB) (r0 : List aE) (q0 : List aA) (q1 : Int) : Option (Lp ((List aA) × Int) (Bool × (List aE) × (List aA))) :=
 if (decide (q1 < (p0.Chunks.length : Int))) = true then (after ((ix p0.Chunks q1).bind fun x0 => (OH m ({ Seq := p0.Seq, Snaps := r0, Chunks := p0.Chunks, Exps := p0.Exps, Vols := p0.Vols } : aB) x0.Id).bind fun y0 => after (if (!y0) = true then (if ((({ { x0 with Staged := false } with Data := ([] : List Int) }.Locs).length : Int) == 0) = true then (some (.ret (.brk q0))) else some (.brk { { x0 with Staged := false } with Data := ([] : List Int) })) else some (.brk x0) : Option (Lp (aA) (Lp ((List aA)) (Lp ((List aA) × Int) (Bool × (List aE) × (List aA)))))) fun j0 => (app q0 ([j0] : List aA)).bind fun z0 => some (.brk z0) : Option (Lp ((List aA)) (Lp ((List aA) × Int) (Bool × (List aE) × (List aA))))) fun j1 => some (.go (j1, IntKind.wrap .i64 (q1 + 1)))) else some (.brk (q0, q1))
def EY (m : Nat) (p0 : aB) (p1 : Int) : Option (Bool × (List aE) × (List aA)) :=
 after (aY (fun s => rU m p0 p1 s.1 s.2) m ([], 0)) fun ⟨r0, r1⟩ => if ((r0.length : Int) == (p0.Snaps.length : Int)) = true then (some (false, p0.Snaps, p0.Chunks)) else after (aY (fun s => rV m p0 r0 s.1 s.2) m ([], 0)) fun ⟨r2, r3⟩ => some (true, r0, r2)
theorem RZ {w : Nat} {p0 : aB} {p1 : Int} {o : Bool × (List aE) × (List aA)} (h : aH) {p0K : bZ} {gS : dD} (ok_Snaps : bJ gS 4 p0.Snaps.length) {gC : dD} (oC : bJ gC 35 p0.Chunks.length) {gE : dD} (oE : bJ gE 3 p0.Exps.length) {gV : dD} (oV : bJ gV 4 p0.Vols.length) (K0 : bS h [(some p0K, .obj 30 ([nZ p0.Seq, aZ gS, aZ gC, aZ gE, aZ gV])), (gS.t, .obj 60 (fl aN (p0.Snaps : List aE) gS.sp)), (gC.t, .obj 44 (fl aD (p0.Chunks : List aA) gC.sp)), (gE.t, .obj 99 (fl aR (p0.Exps : List aI) gE.sp)), (gV.t, .obj 49 (fl aT (p0.Vols : List aK) gV.sp))]) (m : EY w p0 p1 = some o) :
 aP Tryz.prog 154 [.ptr p0K 0, nZ p1] (hp h [(some p0K, .obj 30 ([nZ p0.Seq, aZ gS, aZ gC, aZ gE, aZ gV])), (gS.t, .obj 60 (fl aN (p0.Snaps : List aE) gS.sp)), (gC.t, .obj 44 (fl aD (p0.Chunks : List aA) gC.sp)), (gE.t, .obj 99 (fl aR (p0.Exps : List aI) gE.sp)), (gV.t, .obj 49 (fl aT (p0.Vols : List aK) gV.sp))]) (fun r h' => ∃ g_Snaps' : dD, bJ g_Snaps' 4 (o.2.1 : List aE).length ∧ ∃ g_Chunks' : dD, bJ g_Chunks' 35 (o.2.2 : List aA).length ∧ bS h [(some p0K, .obj 30 ([nZ p0.Seq, aZ g_Snaps', aZ g_Chunks', aZ gE, aZ gV])), (g_Snaps'.t, .obj 60 (fl aN (o.2.1 : List aE) g_Snaps'.sp)), (g_Chunks'.t, .obj 44 (fl aD (o.2.2 : List aA) g_Chunks'.sp)), (gE.t, .obj 99 (fl aR (p0.Exps : List aI) gE.sp)), (gV.t, .obj 49 (fl aT (p0.Vols : List aK) gV.sp))] ∧ r = .sc (.bool o.1) ∧ h' = hp h [(some p0K, .obj 30 ([nZ p0.Seq, aZ g_Snaps', aZ g_Chunks', aZ gE, aZ gV])), (g_Snaps'.t, .obj 60 (fl aN (o.2.1 : List aE) g_Snaps'.sp)), (g_Chunks'.t, .obj 44 (fl aD (o.2.2 : List aA) g_Chunks'.sp)), (gE.t, .obj 99 (fl aR (p0.Exps : List aI) gE.sp)), (gV.t, .obj 49 (fl aT (p0.Vols : List aK) gV.sp))]) := by
 refine AE K0 88 [.tmp 4] Tryz.func154 rfl rfl rfl rfl ?_
 unfold EY at m
 refine vs (v0 (vs (v0 (vs (vs (v0 (oO (B4 (.obj 60 (fl aN ([] : List aE) g0.sp)) 5 (aZ g0) (fP _)) ?_)))))))
 refine lT m (σ := (List aE) × Int) (τ := dD) (fun g s => [(g.t, .obj 60 (fl aN (s.1 : List aE) g.sp)), (some p0K, .obj 30 ([nZ p0.Seq, aZ gS, aZ gC, aZ gE, aZ gV])), (gS.t, .obj 60 (fl aN (p0.Snaps : List aE) gS.sp)), (gC.t, .obj 44 (fl aD (p0.Chunks : List aA) gC.sp)), (gE.t, .obj 99 (fl aR (p0.Exps : List aI) gE.sp)), (gV.t, .obj 49 (fl aT (p0.Vols : List aK) gV.sp))]) (fun g s => bJ g 4 (s.1 : List aE).length) (fun g s => .c 0 (.ptr p0K 0) (.c 1 (nZ p1) (.c 5 (aZ g) (.c 6 (nZ s.2) .nil)))) g0 (bJ.g0 4) (lx (.k4 .nil)) ?_ ?_
 rintro ag0 ⟨q0, q1⟩ x O0 m
 replace m : rU w p0 p1 q0 q1 = some x := m
 unfold rU at m
 refine vs (vs (v0 (vn (fun _ => bU rfl) (vn (fun _ => aJ eP rfl rfl) (vl 1 (aZ gS) fK rfl rfl rfl (vn (fun _ => eY kH ok_Snaps rfl) (v0 ?_)))))))
 refine vi m (fun c0 m => ?_) fun c0 m => ?_
 refine v0 (vs (v0 (vs (v0 (vn (fun _ => bU rfl) (vn (fun _ => aJ eP rfl rfl) (vl 1 (aZ gS) fK rfl rfl rfl ?_)))))))
 obtain ⟨x0, X0, m⟩ := aC m
 refine vn (fun _ => dE X0 kJ ok_Snaps rfl rfl) (vn (fun _ => dJ (bJ.ne ok_Snaps X0) qI rfl rfl) (vn (fun u => eZ (fo := 0) (nZ x0.Seq) X0 e8 ok_Snaps cG rfl (aO 2 u rfl) (fun _ => rfl)) ?_))
 refine pX m (σ := (List aE)) (τ := dD) (fun g s => [(g.t, .obj 60 (fl aN (s : List aE) g.sp)), (some p0K, .obj 30 ([nZ p0.Seq, aZ gS, aZ gC, aZ gE, aZ gV])), (gS.t, .obj 60 (fl aN (p0.Snaps : List aE) gS.sp)), (gC.t, .obj 44 (fl aD (p0.Chunks : List aA) gC.sp)), (gE.t, .obj 99 (fl aR (p0.Exps : List aI) gE.sp)), (gV.t, .obj 49 (fl aT (p0.Vols : List aK) gV.sp))]) (fun g s => bJ g 4 (s : List aE).length) (fun g s => .c 0 (.ptr p0K 0) (.c 1 (nZ p1) (.c 5 (aZ g) (.c 6 (nZ q1) .nil)))) (fun x m => ?_) ?_
 refine v0 ?_
 refine vi m (fun c1 m => ?_) fun c1 m => ?_
 refine v0 (vn (fun _ => bU rfl) (vn (fun _ => aJ eP rfl rfl) (vl 1 (aZ gS) fK rfl rfl rfl ?_)))
 obtain ⟨x1, X1, m⟩ := aC m
 refine vn (fun _ => dE X1 kJ ok_Snaps rfl rfl) (vn (fun u => eZ (fo := 0) (.agg (aN x1)) X1 e8 ok_Snaps AI rfl (aO 2 u rfl) (fun _ => rfl)) (vn (fun _ => eH (List.map aN ([x1] : List aE)) uS rfl rfl rfl rfl) ?_))
 obtain ⟨z0, Z0, m⟩ := aC m
 refine ve fun u => fR (c := aN) 0 Z0 uS rfl xT rfl e8 rfl rfl O0 u rfl fun ag1 O1 K1 => qk K1 rfl ?_
 exact fH m ag1 O1 (lx (.k4 .nil))
 refine v0 ?_
 exact fH m ag0 O0 (lx (.k4 .nil))
 rintro ag2 j0 O2 m
 refine v0 ?_
 exact fH m ag2 O2 (lx (.k4 .nil))
 refine v0 ?_
 exact lD m ag0 O0 (lx (.k4 .nil))
 rintro ag3 ⟨r0, r1⟩ t0 m
 refine vs (vs (v0 (vn (fun _ => eY kH t0 rfl) (vn (fun _ => bU rfl) (vn (fun _ => aJ eP rfl rfl) (vl 1 (aZ gS) fK rfl rfl rfl (vn (fun _ => eY kH ok_Snaps rfl) (v0 ?_))))))))
 refine vi m (fun c2 m => ?_) fun c2 m => ?_
 refine vs (v0 (v0 ?_))
 cases m
 exact vr fun u => dY.of1 (.inl rfl) (fL _ _ (.sc (.bool _)) rfl) (bO u [1, 2, 3, 4, 5] rfl).2 (aX.refl _ _) ⟨gS, ok_Snaps, gC, oC, (bO u [1, 2, 3, 4, 5] rfl).1, rfl, rfl⟩
 refine v0 (vs (v0 (vn (fun _ => bU rfl) (vn (fun _ => aJ eP rfl rfl) ?_))))
 refine ve fun u => aL 1 ([nZ p0.Seq, aZ ag3, aZ gC, aZ gE, aZ gV]) u rfl rfl (cI rfl) (cK (bX _ _ _) rfl) F2 rfl rfl fun K2 => qk K2 rfl ?_
 refine vs (v0 (vs (vs (v0 (oO (B4 (.obj 44 (fl aD ([] : List aA) g0.sp)) 7 (aZ g0) (fP _)) ?_)))))
 refine lT m (σ := (List aA) × Int) (τ := dD) (fun g s => [(g.t, .obj 44 (fl aD (s.1 : List aA) g.sp)), (ag3.t, .obj 60 (fl aN (r0 : List aE) ag3.sp)), (some p0K, .obj 30 ([nZ p0.Seq, aZ ag3, aZ gC, aZ gE, aZ gV])), (gS.t, .obj 60 (fl aN (p0.Snaps : List aE) gS.sp)), (gC.t, .obj 44 (fl aD (p0.Chunks : List aA) gC.sp)), (gE.t, .obj 99 (fl aR (p0.Exps : List aI) gE.sp)), (gV.t, .obj 49 (fl aT (p0.Vols : List aK) gV.sp))]) (fun g s => bJ g 35 (s.1 : List aA).length) (fun g s => .c 0 (.ptr p0K 0) (.c 7 (aZ g) (.c 8 (nZ s.2) .nil))) g0 (bJ.g0 35) (lx (.k3 .nil)) ?_ ?_
 rintro ag4 ⟨q2, q3⟩ x O3 m
 replace m : rV w p0 r0 q2 q3 = some x := m
 unfold rV at m
 refine vs (vs (v0 (vn (fun _ => bU rfl) (vn (fun _ => aJ eL rfl rfl) (vl 2 (aZ gC) eF rfl rfl rfl (vn (fun _ => eY hS oC rfl) (v0 ?_)))))))
 refine vi m (fun c3 m => ?_) fun c3 m => ?_
 refine v0 (vs ?_)
 refine pX m (σ := (List aA)) (τ := dD) (fun g s => [(g.t, .obj 44 (fl aD (s : List aA) g.sp)), (ag3.t, .obj 60 (fl aN (r0 : List aE) ag3.sp)), (some p0K, .obj 30 ([nZ p0.Seq, aZ ag3, aZ gC, aZ gE, aZ gV])), (gS.t, .obj 60 (fl aN (p0.Snaps : List aE) gS.sp)), (gC.t, .obj 44 (fl aD (p0.Chunks : List aA) gC.sp)), (gE.t, .obj 99 (fl aR (p0.Exps : List aI) gE.sp)), (gV.t, .obj 49 (fl aT (p0.Vols : List aK) gV.sp))]) (fun g s => bJ g 35 (s : List aA).length) (fun g s => .c 0 (.ptr p0K 0) (.c 7 (aZ g) (.c 8 (nZ q3) .nil))) (fun x m => ?_) ?_
 refine v0 (vs (v0 (vn (fun _ => bU rfl) (vn (fun _ => aJ eL rfl rfl) (vl 2 (aZ gC) eF rfl rfl rfl ?_)))))
 obtain ⟨x2, X2, m⟩ := aC m
 refine vn (fun _ => dE X2 eW oC rfl rfl) (vn (fun u => eZ (fo := 0) (.agg (aD x2)) X2 cM oC lF rfl (aO 4 u rfl) (fun _ => rfl)) ?_)
 refine ve fun u => bE (bF iY ++ ([.sc (.bool false), sZ, sZ] : List AV)) u l6 rfl rfl fun k465 K3 => qk K3 rfl ?_
 refine ve fun u => aL 0 (aD x2) u rfl rfl rfl rfl uV rfl rfl fun K4 => qk K4 rfl ?_
 refine vs (vs (v0 (AK (by kernel_rfl) (vn (fun _ => bU rfl) (vl 3 (.agg ([nZ p0.Seq, aZ ag3, aZ gC, aZ gE, aZ gV])) eK rfl rfl rfl (vn (fun _ => aJ m9 rfl rfl) (vl 0 (.agg (bF x2.Id)) fV rfl rfl rfl ?_)))))))
 obtain ⟨_, Y0, m⟩ := aC m
 refine vn (fun u => cE (f8 (.cons (Br.agg (.cons (Br.refl _ _) (.cons (Br.aw 2 e8 t0 u rfl) (.cons (Br.aw 5 cM oC u rfl) (.cons (Br.aw 6 fB oE u rfl) (.cons (Br.aw 7 eJ oV u rfl) .nil)))))) (.cons (Br.refl _ _) .nil)) rfl (XY _ Y0)) rfl QW rfl) ?_
 refine cW m (σ := aA) (τ := Unit) (fun g s => [(some k465, .obj 44 (aD s)), (ag4.t, .obj 44 (fl aD (q2 : List aA) ag4.sp)), (ag3.t, .obj 60 (fl aN (r0 : List aE) ag3.sp)), (some p0K, .obj 30 ([nZ p0.Seq, aZ ag3, aZ gC, aZ gE, aZ gV])), (gS.t, .obj 60 (fl aN (p0.Snaps : List aE) gS.sp)), (gC.t, .obj 44 (fl aD (p0.Chunks : List aA) gC.sp)), (gE.t, .obj 99 (fl aR (p0.Exps : List aI) gE.sp)), (gV.t, .obj 49 (fl aT (p0.Vols : List aK) gV.sp))]) (fun g s => .c 0 (.ptr p0K 0) (.c 7 (aZ ag4) (.c 8 (nZ q3) (.c 9 (.ptr k465 0) .nil)))) (fun x m => ?_) ?_
 refine v0 ?_
 refine vi m (fun c4 m => ?_) fun c4 m => ?_
 refine vs (v0 (vn (fun _ => aJ qH rfl rfl) ?_))
 refine ve fun u => aL 0 (aD { x2 with Staged := false }) u rfl rfl rfl rfl SZ rfl rfl fun K5 => qk K5 rfl ?_
 refine vn (fun _ => aJ iU rfl rfl) ?_
 refine ve fun u => AB 0 (aD { { x2 with Staged := false } with Data := ([] : List Int) }) u rfl rfl rfl rfl (.cons (aS _) .nil) CB rfl rfl fun K6 => qk K6 rfl ?_
 refine vs (v0 (vn (fun _ => aJ iL rfl rfl) (vl 0 _ fE rfl rfl rfl (dH iF rfl (v0 ?_)))))
 refine vi m (fun c5 m => ?_) fun c5 m => ?_
 refine v0 ?_
 refine YH m rfl fun m => ?_
 exact fH m ag4 O3 (kR [1, 2, 3, 4, 5, 6, 7] rfl rfl (.k3 .nil))
 refine v0 ?_
 exact bD m (lx (.k4 .nil))
 refine v0 ?_
 exact bD m (lx (.k4 .nil))
 rintro _ j1 m
 refine v0 (vl 0 (.agg (aD j1)) lF rfl rfl rfl (vn (fun _ => eH (List.map aD ([j1] : List aA)) jP rfl rfl rfl rfl) ?_))
 obtain ⟨z1, Z1, m⟩ := aC m
 refine ve fun u => fR (c := aD) 1 Z1 jP rfl l6 rfl cM rfl rfl O3 u rfl fun ag5 O4 K7 => qk K7 rfl ?_
 exact fH m ag5 O4 (kR [1, 2, 3, 4, 5, 6, 7] rfl rfl (.k3 .nil))
 rintro ag6 j2 O5 m
 refine v0 ?_
 exact fH m ag6 O5 (lx (.k3 .nil))
 refine v0 ?_
 exact lD m ag4 O3 (lx (.k3 .nil))
 rintro ag7 ⟨r2, r3⟩ t1 m
 refine vs (v0 (vn (fun _ => bU rfl) (vn (fun _ => aJ eL rfl rfl) ?_)))
 refine ve fun u => aL 2 ([nZ p0.Seq, aZ ag3, aZ ag7, aZ gE, aZ gV]) u rfl rfl (cI rfl) (cK (bX _ _ _) rfl) xO rfl rfl fun K8 => qk K8 rfl ?_
 refine vs (v0 (v0 ?_))
 cases m
 exact vr fun u => dY.of1 (.inl rfl) (fL _ _ (.sc (.bool _)) rfl) (bO u [2, 1, 0, 5, 6] rfl).2 (aX.refl _ _) ⟨ag3, t0, ag7, t1, (bO u [2, 1, 0, 5, 6] rfl).1, rfl, rfl⟩
theorem KU : aU Tryz.prog 154 = true := by kernel_rfl
def rW (m : Nat) (p0 : aB) (p1 : bQ) (p2 : bI) (q0 : Int) : Option (Lp (Int) (Lp (Int × (List aA) × (List aI)) (Bool × Int × (List aE) × (List aA) × (List aI)))) :=
 if (decide (q0 < (p0.Snaps.length : Int))) = true then ((ix p0.Snaps q0).bind fun x0 => if (x0.Seq == p1.Seq) = true then ((ix p0.Snaps q0).bind fun x1 => (CV m x1.Locs p2).bind fun y0 => (ix p0.Snaps q0).bind fun x2 => some (.ret (.ret (true, p0.Seq, p0.Snaps.set q0.toNat ({ x2 with Locs := y0 }), p0.Chunks, p0.Exps)))) else some (.go (IntKind.wrap .i64 (q0 + 1)))) else some (.brk q0)
def yK (m : Nat) (p0 : aB) (p1 : bQ) (q0 : Int) : Option (Lp (Int) (Lp (Int × (List aA) × (List aI)) (Bool × Int × (List aE) × (List aA) × (List aI)))) :=
 after (if (decide (q0 < (p0.Exps.length : Int))) = true then ((ix p0.Exps q0).bind fun x0 => some (.brk (decide (x0.Seq < p1.Seq)))) else some (.brk false) : Option (Lp (Bool) (Lp (Int) (Lp (Int × (List aA) × (List aI)) (Bool × Int × (List aE) × (List aA) × (List aI)))))) fun j0 => if j0 = true then (some (.go (IntKind.wrap .i64 (q0 + 1)))) else some (.brk q0)
def HT (m : Nat) (p0 : aB) (p1 : bQ) (p2 : bI) : Option (Bool × Int × (List aE) × (List aA) × (List aI)) :=
 after (if (p1.Kind == 1) = true then ((ID m ({ Seq := p0.Seq, Snaps := p0.Snaps, Chunks := p0.Chunks, Exps := p0.Exps, Vols := p0.Vols } : aB) p1.Id).bind fun y0 => if (decide (y0 < 0)) = true then (some (.ret (false, p0.Seq, p0.Snaps, p0.Chunks, p0.Exps))) else (ix p0.Chunks y0).bind fun x0 => (CV m x0.Locs p2).bind fun y1 => (ix p0.Chunks y0).bind fun x1 => some (.brk (p0.Seq, p0.Chunks.set y0.toNat ({ x1 with Locs := y1 }), p0.Exps))) else if (p1.Kind == 2) = true then (after (aY (fun s => rW m p0 p1 p2 s) m 0) fun r0 => some (.ret (false, p0.Seq, p0.Snaps, p0.Chunks, p0.Exps))) else after (aY (fun s => yK m p0 p1 s) m 0) fun r1 => after (if (decide (r1 < (p0.Exps.length : Int))) = true then ((ix p0.Exps r1).bind fun x2 => some (.brk (x2.Seq == p1.Seq))) else some (.brk false) : Option (Lp (Bool) (Lp (Int × (List aA) × (List aI)) (Bool × Int × (List aE) × (List aA) × (List aI))))) fun j0 => if j0 = true then ((ix p0.Exps r1).bind fun x3 => (CV m x3.Locs p2).bind fun y2 => (ix p0.Exps r1).bind fun x4 => some (.ret (true, p0.Seq, p0.Snaps, p0.Chunks, p0.Exps.set r1.toNat ({ x4 with Locs := y2 })))) else (slc p0.Exps 0 r1).bind fun x5 => (app ([] : List aI) x5).bind fun z0 => (app z0 ([({ Seq := p1.Seq, Of := p1.Of, Locs := ([p2] : List bI) } : aI)] : List aI)).bind fun z1 => (slc p0.Exps r1 (p0.Exps).length).bind fun x6 => (app z1 x6).bind fun z2 => after (if (decide (p0.Seq ≤ p1.Seq)) = true then (some (.brk (decide (p1.Seq < 4611686018427387904)))) else some (.brk false) : Option (Lp (Bool) (Lp (Int × (List aA) × (List aI)) (Bool × Int × (List aE) × (List aA) × (List aI))))) fun j1 => after (if j1 = true then (some (.brk (IntKind.wrap .i64 (p1.Seq + 1)))) else some (.brk p0.Seq) : Option (Lp (Int) (Lp (Int × (List aA) × (List aI)) (Bool × Int × (List aE) × (List aA) × (List aI))))) fun j2 => some (.brk (j2, p0.Chunks, z2)) : Option (Lp (Int × (List aA) × (List aI)) (Bool × Int × (List aE) × (List aA) × (List aI)))) fun ⟨j3, j4, j5⟩ => some (true, j3, p0.Snaps, j4, j5)
theorem V8 {w : Nat} {p0 : aB} {p1 : bQ} {p2 : bI} {o : Bool × Int × (List aE) × (List aA) × (List aI)} (h : aH) {p0K : bZ} {gS : dD} (ok_Snaps : bJ gS 4 p0.Snaps.length) {gC : dD} (oC : bJ gC 35 p0.Chunks.length) {gE : dD} (oE : bJ gE 3 p0.Exps.length) {gV : dD} (oV : bJ gV 4 p0.Vols.length) (K0 : bS h [(some p0K, .obj 30 ([nZ p0.Seq, aZ gS, aZ gC, aZ gE, aZ gV])), (gS.t, .obj 60 (fl aN (p0.Snaps : List aE) gS.sp)), (gC.t, .obj 44 (fl aD (p0.Chunks : List aA) gC.sp)), (gE.t, .obj 99 (fl aR (p0.Exps : List aI) gE.sp)), (gV.t, .obj 49 (fl aT (p0.Vols : List aK) gV.sp))]) (m : HT w p0 p1 p2 = some o) :
 aP Tryz.prog 156 [.ptr p0K 0, .agg (bM p1), .agg (aQ p2)] (hp h [(some p0K, .obj 30 ([nZ p0.Seq, aZ gS, aZ gC, aZ gE, aZ gV])), (gS.t, .obj 60 (fl aN (p0.Snaps : List aE) gS.sp)), (gC.t, .obj 44 (fl aD (p0.Chunks : List aA) gC.sp)), (gE.t, .obj 99 (fl aR (p0.Exps : List aI) gE.sp)), (gV.t, .obj 49 (fl aT (p0.Vols : List aK) gV.sp))]) (fun r h' => ∃ g_Snaps' : dD, bJ g_Snaps' 4 (o.2.2.1 : List aE).length ∧ ∃ g_Chunks' : dD, bJ g_Chunks' 35 (o.2.2.2.1 : List aA).length ∧ ∃ g_Exps' : dD, bJ g_Exps' 3 (o.2.2.2.2 : List aI).length ∧ bS h [(some p0K, .obj 30 ([nZ o.2.1, aZ g_Snaps', aZ g_Chunks', aZ g_Exps', aZ gV])), (g_Snaps'.t, .obj 60 (fl aN (o.2.2.1 : List aE) g_Snaps'.sp)), (g_Chunks'.t, .obj 44 (fl aD (o.2.2.2.1 : List aA) g_Chunks'.sp)), (g_Exps'.t, .obj 99 (fl aR (o.2.2.2.2 : List aI) g_Exps'.sp)), (gV.t, .obj 49 (fl aT (p0.Vols : List aK) gV.sp))] ∧ r = .sc (.bool o.1) ∧ h' = hp h [(some p0K, .obj 30 ([nZ o.2.1, aZ g_Snaps', aZ g_Chunks', aZ g_Exps', aZ gV])), (g_Snaps'.t, .obj 60 (fl aN (o.2.2.1 : List aE) g_Snaps'.sp)), (g_Chunks'.t, .obj 44 (fl aD (o.2.2.2.1 : List aA) g_Chunks'.sp)), (g_Exps'.t, .obj 99 (fl aR (o.2.2.2.2 : List aI) g_Exps'.sp)), (gV.t, .obj 49 (fl aT (p0.Vols : List aK) gV.sp))]) := by
 refine AE K0 184 [.tmp 6] Tryz.func156 rfl rfl rfl rfl ?_
 unfold HT at m
 refine vs (v0 ?_)
 refine ve fun u => cQ u rfl rfl fun k2 K3 => qk K3 rfl ?_
 refine ve fun u => cQ u rfl rfl fun k5 K6 => qk K6 rfl ?_
 refine vs (vs (v0 (vn (fun _ => aJ l4 rfl rfl) (vl 1 _ cG rfl rfl rfl (v0 (vs (v0 ?_)))))))
 refine pX m (σ := Int × (List aA) × (List aI)) (τ := dD × dD) (fun g s => [(some k5, .obj 81 (aQ p2)), (some k2, .obj 38 (bM p1)), (some p0K, .obj 30 ([nZ s.1, aZ gS, aZ g.1, aZ g.2, aZ gV])), (gS.t, .obj 60 (fl aN (p0.Snaps : List aE) gS.sp)), (g.1.t, .obj 44 (fl aD (s.2.1 : List aA) g.1.sp)), (g.2.t, .obj 99 (fl aR (s.2.2 : List aI) g.2.sp)), (gV.t, .obj 49 (fl aT (p0.Vols : List aK) gV.sp))]) (fun g s => bJ g.1 35 (s.2.1 : List aA).length ∧ bJ g.2 3 (s.2.2 : List aI).length) (fun g s => .nil) (fun x m => ?_) ?_
 refine v0 ?_
 refine vi m (fun c0 m => ?_) fun c0 m => ?_
 refine vs (v0 (AK (by kernel_rfl) (vn (fun _ => bU rfl) (vl 2 (.agg ([nZ p0.Seq, aZ gS, aZ gC, aZ gE, aZ gV])) eK rfl rfl rfl (vn (fun _ => aJ xQ rfl rfl) (vl 1 (.agg (bF p1.Id)) fV rfl rfl rfl ?_))))))
 obtain ⟨_, Y0, m⟩ := aC m
 refine vn (fun u => cE (f8 (.cons (Br.agg (.cons (Br.refl _ _) (.cons (Br.aw 3 e8 ok_Snaps u rfl) (.cons (Br.aw 4 cM oC u rfl) (.cons (Br.aw 5 fB oE u rfl) (.cons (Br.aw 6 eJ oV u rfl) .nil)))))) (.cons (Br.refl _ _) .nil)) rfl (S2 _ Y0)) rfl JF rfl) (vs (vs (v0 (v0 ?_))))
 refine vi m (fun c1 m => ?_) fun c1 m => ?_
 refine vs (v0 (v0 ?_))
 refine gA m fun m => ?_
 cases m
 exact vr fun u => dY.of1 (.inl rfl) (fL _ _ (.sc (.bool _)) rfl) (bO u [2, 3, 4, 5, 6] rfl).2 (aX.refl _ _) ⟨gS, ok_Snaps, gC, oC, gE, oE, (bO u [2, 3, 4, 5, 6] rfl).1, rfl, rfl⟩
 refine v0 (v0 ?_)
 refine vz [(1000000, some p0K, .obj 30 ([nZ p0.Seq, aZ gS, aZ gC, aZ gE, aZ gV])), (17, gC.t, .obj 44 (fl aD (p0.Chunks : List aA) gC.sp)), (1000000, some k5, .obj 81 (aQ p2))] mixed (fun u => ⟨fun _ => aO 2 u rfl, fun _ => aO 4 u rfl, fun _ => aO 0 u rfl, trivial⟩) fun u => ?_
 refine aM 0 rfl (fun _ _ _ _ => bN (.ptr _ _) rfl) ?_
 refine aM 1 rfl (fun _ _ _ _ => bU rfl) ?_
 refine aM 2 rfl (fun _ _ _ _ => aJ eL rfl rfl) ?_
 refine aM 3 rfl (fun _ _ hi hB => bH (aZ gC) eF rfl (At.s (bR.get 0 hi rfl (hB 1000000 (by kernel_rfl)))) rfl) ?_
 refine aM 4 rfl (fun _ _ _ _ => bN (.sc (.int _ _)) rfl) ?_
 refine aM 5 rfl (fun _ _ _ _ => bN (.ptr _ _) rfl) ?_
 refine aM 6 rfl (fun _ _ _ _ => bU rfl) ?_
 refine aM 7 rfl (fun _ _ _ _ => aJ eL rfl rfl) ?_
 refine aM 8 rfl (fun _ _ hi hB => bH (aZ gC) eF rfl (At.s (bR.get 0 hi rfl (hB 1000000 (by kernel_rfl)))) rfl) ?_
 refine aM 9 rfl (fun _ _ _ _ => bN (.sc (.int _ _)) rfl) ?_
 obtain ⟨x0, X0, m⟩ := aC m
 refine aM 10 rfl (fun _ _ _ _ => dE X0 eW oC rfl rfl) ?_
 refine aM 11 rfl (fun _ _ _ _ => dJ (bJ.ne oC X0) iL rfl rfl) ?_
 refine aM 12 rfl (fun _ _ hi hB => eZ (fo := 34) (.sl none 4 (List.map aQ x0.Locs)) X0 cM oC fE rfl (bR.get 1 hi rfl (hB 17 (by kernel_rfl))) (fun _ => rfl)) ?_
 refine aM 13 rfl (fun _ _ hi hB => bH (.agg (aQ p2)) nA rfl (At.s (bR.get 2 hi rfl (hB 1000000 (by kernel_rfl)))) rfl) ?_
 obtain ⟨y0, Y1, m⟩ := aC m
 refine aM 14 rfl (fun _ _ _ _ => cE (NP _ Y1) rfl HQ rfl) ?_
 obtain ⟨x1, X1, m⟩ := aC m
 refine aM 15 rfl (fun _ _ _ _ => dE X1 eW oC rfl rfl) ?_
 refine aM 16 rfl (fun _ _ _ _ => dJ (bJ.ne oC X1) iL rfl rfl) ?_
 refine eX 17 rfl (by kernel_rfl) (cR (fo := 34) ({ x1 with Locs := y0 } : aA) 4 u X1 cM oC rfl rfl rfl rfl (cO.refl _ _) m8 rfl rfl fun K1 => ⟨⟨fun _ => aO 2 K1 rfl, fun e => absurd e (by decide), fun _ => aO 0 K1 rfl, trivial⟩, ?_⟩)
 refine dL (by kernel_rfl) (qk (f := .c 144 _ (.c 143 _ (.c 142 _ (.c 141 _ (.c 140 _ (.c 139 _ (.c 138 _ (.c 137 _ (.c 136 _ (.c 135 _ (.c 134 _ (.c 133 _ (.c 132 _ (.c 131 _ (.c 130 _ (.c 129 _ (.c 128 _ _))))))))))))))))) K1 rfl ?_)
 exact fH m (gC, gE) ⟨(bJ.set oC), oE⟩ (lx .nil)
 refine vs (v0 (v0 ?_))
 refine vi m (fun c2 m => ?_) fun c2 m => ?_
 refine vs (vs (v0 ?_))
 refine eO m (σ := Int) (τ := Unit) (fun g s => [(some k5, .obj 81 (aQ p2)), (some k2, .obj 38 (bM p1)), (some p0K, .obj 30 ([nZ p0.Seq, aZ gS, aZ gC, aZ gE, aZ gV])), (gS.t, .obj 60 (fl aN (p0.Snaps : List aE) gS.sp)), (gC.t, .obj 44 (fl aD (p0.Chunks : List aA) gC.sp)), (gE.t, .obj 99 (fl aR (p0.Exps : List aI) gE.sp)), (gV.t, .obj 49 (fl aT (p0.Vols : List aK) gV.sp))]) (fun g s => .c 0 (.ptr p0K 0) (.c 4 (.ptr k2 0) (.c 5 (.ptr k5 0) (.c 8 (nZ s) .nil)))) () (lx (.k4 .nil)) ?_ ?_
 rintro _ q0 x m
 replace m : rW w p0 p1 p2 q0 = some x := m
 unfold rW at m
 refine vs (vs (v0 (vn (fun _ => bU rfl) (vn (fun _ => aJ eP rfl rfl) (vl 2 (aZ gS) fK rfl rfl rfl (vn (fun _ => eY kH ok_Snaps rfl) (v0 ?_)))))))
 refine vi m (fun c3 m => ?_) fun c3 m => ?_
 refine v0 (vs (v0 (vs (v0 (AK (by kernel_rfl) (vn (fun _ => bU rfl) (vn (fun _ => aJ eP rfl rfl) (vl 2 (aZ gS) fK rfl rfl rfl ?_))))))))
 obtain ⟨x2, X2, m⟩ := aC m
 refine vn (fun _ => dE X2 kJ ok_Snaps rfl rfl) (vn (fun _ => dJ (bJ.ne ok_Snaps X2) qI rfl rfl) (vn (fun u => eZ (fo := 0) (nZ x2.Seq) X2 e8 ok_Snaps cG rfl (aO 3 u rfl) (fun _ => rfl)) (vn (fun _ => aJ lE rfl rfl) (vl 1 _ cG rfl rfl rfl (v0 ?_)))))
 refine vi m (fun c4 m => ?_) fun c4 m => ?_
 refine vs (v0 ?_)
 refine vz [(1000000, some p0K, .obj 30 ([nZ p0.Seq, aZ gS, aZ gC, aZ gE, aZ gV])), (17, gS.t, .obj 60 (fl aN (p0.Snaps : List aE) gS.sp)), (1000000, some k5, .obj 81 (aQ p2))] mixed (fun u => ⟨fun _ => aO 2 u rfl, fun _ => aO 3 u rfl, fun _ => aO 0 u rfl, trivial⟩) fun u => ?_
 refine aM 0 rfl (fun _ _ _ _ => bN (.ptr _ _) rfl) ?_
 refine aM 1 rfl (fun _ _ _ _ => bU rfl) ?_
 refine aM 2 rfl (fun _ _ _ _ => aJ eP rfl rfl) ?_
 refine aM 3 rfl (fun _ _ hi hB => bH (aZ gS) fK rfl (At.s (bR.get 0 hi rfl (hB 1000000 (by kernel_rfl)))) rfl) ?_
 refine aM 4 rfl (fun _ _ _ _ => bN (.sc (.int _ _)) rfl) ?_
 refine aM 5 rfl (fun _ _ _ _ => bN (.ptr _ _) rfl) ?_
 refine aM 6 rfl (fun _ _ _ _ => bU rfl) ?_
 refine aM 7 rfl (fun _ _ _ _ => aJ eP rfl rfl) ?_
 refine aM 8 rfl (fun _ _ hi hB => bH (aZ gS) fK rfl (At.s (bR.get 0 hi rfl (hB 1000000 (by kernel_rfl)))) rfl) ?_
 refine aM 9 rfl (fun _ _ _ _ => bN (.sc (.int _ _)) rfl) ?_
 obtain ⟨x3, X3, m⟩ := aC m
 refine aM 10 rfl (fun _ _ _ _ => dE X3 kJ ok_Snaps rfl rfl) ?_
 refine aM 11 rfl (fun _ _ _ _ => dJ (bJ.ne ok_Snaps X3) iV rfl rfl) ?_
 refine aM 12 rfl (fun _ _ hi hB => eZ (fo := 3) (.sl none 4 (List.map aQ x3.Locs)) X3 e8 ok_Snaps fE rfl (bR.get 1 hi rfl (hB 17 (by kernel_rfl))) (fun _ => rfl)) ?_
 refine aM 13 rfl (fun _ _ hi hB => bH (.agg (aQ p2)) nA rfl (At.s (bR.get 2 hi rfl (hB 1000000 (by kernel_rfl)))) rfl) ?_
 obtain ⟨y1, Y2, m⟩ := aC m
 refine aM 14 rfl (fun _ _ _ _ => cE (NP _ Y2) rfl HQ rfl) ?_
 obtain ⟨x4, X4, m⟩ := aC m
 refine aM 15 rfl (fun _ _ _ _ => dE X4 kJ ok_Snaps rfl rfl) ?_
 refine aM 16 rfl (fun _ _ _ _ => dJ (bJ.ne ok_Snaps X4) iV rfl rfl) ?_
 refine eX 17 rfl (by kernel_rfl) (cR (fo := 3) ({ x4 with Locs := y1 } : aE) 3 u X4 e8 ok_Snaps rfl rfl rfl rfl (cO.refl _ _) m8 rfl rfl fun K2 => ⟨⟨fun _ => aO 2 K2 rfl, fun e => absurd e (by decide), fun _ => aO 0 K2 rfl, trivial⟩, ?_⟩)
 refine dL (by kernel_rfl) (qk (f := .c 183 _ (.c 182 _ (.c 181 _ (.c 180 _ (.c 179 _ (.c 178 _ (.c 177 _ (.c 176 _ (.c 175 _ (.c 174 _ (.c 173 _ (.c 172 _ (.c 171 _ (.c 170 _ (.c 169 _ (.c 168 _ (.c 167 _ _))))))))))))))))) K2 rfl ?_)
 refine vs (v0 (v0 ?_))
 refine gA m fun m => ?_
 refine gA m fun m => ?_
 cases m
 exact vr fun u => dY.of1 (.inl rfl) (fL _ _ (.sc (.bool _)) rfl) (bO u [2, 3, 4, 5, 6] rfl).2 (aX.refl _ _) ⟨gS, (bJ.set ok_Snaps), gC, oC, gE, oE, (bO u [2, 3, 4, 5, 6] rfl).1, rfl, rfl⟩
 refine v0 (v0 ?_)
 exact bD m (lx (.k4 .nil))
 refine v0 ?_
 exact iS m (lx (.k4 .nil))
 rintro _ r0 m
 refine vs (v0 (v0 ?_))
 refine gA m fun m => ?_
 cases m
 exact vr fun u => dY.of1 (.inl rfl) (fL _ _ (.sc (.bool _)) rfl) (bO u [2, 3, 4, 5, 6] rfl).2 (aX.refl _ _) ⟨gS, ok_Snaps, gC, oC, gE, oE, (bO u [2, 3, 4, 5, 6] rfl).1, rfl, rfl⟩
 refine vs (v0 (vs ?_))
 refine eO m (σ := Int) (τ := Unit) (fun g s => [(some k5, .obj 81 (aQ p2)), (some k2, .obj 38 (bM p1)), (some p0K, .obj 30 ([nZ p0.Seq, aZ gS, aZ gC, aZ gE, aZ gV])), (gS.t, .obj 60 (fl aN (p0.Snaps : List aE) gS.sp)), (gC.t, .obj 44 (fl aD (p0.Chunks : List aA) gC.sp)), (gE.t, .obj 99 (fl aR (p0.Exps : List aI) gE.sp)), (gV.t, .obj 49 (fl aT (p0.Vols : List aK) gV.sp))]) (fun g s => .c 0 (.ptr p0K 0) (.c 4 (.ptr k2 0) (.c 5 (.ptr k5 0) (.c 9 (nZ s) .nil)))) () (lx (.k4 .nil)) ?_ ?_
 rintro _ q1 x m
 replace m : yK w p0 p1 q1 = some x := m
 unfold yK at m
 refine vs (vs ?_)
 refine cW m (σ := Bool) (τ := Unit) (fun g s => [(some k5, .obj 81 (aQ p2)), (some k2, .obj 38 (bM p1)), (some p0K, .obj 30 ([nZ p0.Seq, aZ gS, aZ gC, aZ gE, aZ gV])), (gS.t, .obj 60 (fl aN (p0.Snaps : List aE) gS.sp)), (gC.t, .obj 44 (fl aD (p0.Chunks : List aA) gC.sp)), (gE.t, .obj 99 (fl aR (p0.Exps : List aI) gE.sp)), (gV.t, .obj 49 (fl aT (p0.Vols : List aK) gV.sp))]) (fun g s => .c 0 (.ptr p0K 0) (.c 4 (.ptr k2 0) (.c 5 (.ptr k5 0) (.c 9 (nZ q1) (.c 32 (.sc (.bool s)) .nil))))) (fun x m => ?_) ?_
 refine v0 (AK (by kernel_rfl) (vn (fun _ => bU rfl) (vn (fun _ => aJ fC rfl rfl) (vl 2 (aZ gE) iK rfl rfl rfl (vn (fun _ => eY o7 oE rfl) ?_)))))
 refine vi m (fun b0 m => ?_) fun b0 m => ?_
 rw [b0]
 refine vn (fun _ => bU rfl) (vn (fun _ => aJ fC rfl rfl) (vl 2 (aZ gE) iK rfl rfl rfl ?_))
 obtain ⟨x5, X5, m⟩ := aC m
 refine vn (fun _ => dE X5 jQ oE rfl rfl) (vn (fun _ => dJ (bJ.ne oE X5) CE rfl rfl) (vn (fun u => eZ (fo := 0) (nZ x5.Seq) X5 fB oE cG rfl (aO 5 u rfl) (fun _ => rfl)) (vn (fun _ => aJ lE rfl rfl) (vl 1 _ cG rfl rfl rfl ?_))))
 exact bD m (lx (.k5 .nil))
 rw [b0]
 exact bD m (lx (.k5 .nil))
 rintro _ j0 m
 refine v0 ?_
 refine vi m (fun c5 m => ?_) fun c5 m => ?_
 refine v0 (v0 (v0 ?_))
 exact bD m (lx (.k4 .nil))
 refine v0 ?_
 exact iS m (lx (.k4 .nil))
 rintro _ r1 m
 refine vs (vs ?_)
 refine cW m (σ := Bool) (τ := Unit) (fun g s => [(some k5, .obj 81 (aQ p2)), (some k2, .obj 38 (bM p1)), (some p0K, .obj 30 ([nZ p0.Seq, aZ gS, aZ gC, aZ gE, aZ gV])), (gS.t, .obj 60 (fl aN (p0.Snaps : List aE) gS.sp)), (gC.t, .obj 44 (fl aD (p0.Chunks : List aA) gC.sp)), (gE.t, .obj 99 (fl aR (p0.Exps : List aI) gE.sp)), (gV.t, .obj 49 (fl aT (p0.Vols : List aK) gV.sp))]) (fun g s => .c 0 (.ptr p0K 0) (.c 4 (.ptr k2 0) (.c 5 (.ptr k5 0) (.c 9 (nZ r1) (.c 54 (.sc (.bool s)) .nil))))) (fun x m => ?_) ?_
 refine v0 (AK (by kernel_rfl) (vn (fun _ => bU rfl) (vn (fun _ => aJ fC rfl rfl) (vl 2 (aZ gE) iK rfl rfl rfl (vn (fun _ => eY o7 oE rfl) ?_)))))
 refine vi m (fun b1 m => ?_) fun b1 m => ?_
 rw [b1]
 refine vn (fun _ => bU rfl) (vn (fun _ => aJ fC rfl rfl) (vl 2 (aZ gE) iK rfl rfl rfl ?_))
 obtain ⟨x6, X6, m⟩ := aC m
 refine vn (fun _ => dE X6 jQ oE rfl rfl) (vn (fun _ => dJ (bJ.ne oE X6) CE rfl rfl) (vn (fun u => eZ (fo := 0) (nZ x6.Seq) X6 fB oE cG rfl (aO 5 u rfl) (fun _ => rfl)) (vn (fun _ => aJ lE rfl rfl) (vl 1 _ cG rfl rfl rfl ?_))))
 exact bD m (lx (.k5 .nil))
 rw [b1]
 exact bD m (lx (.k5 .nil))
 rintro _ j1 m
 refine v0 ?_
 refine vi m (fun c6 m => ?_) fun c6 m => ?_
 refine vs (v0 ?_)
 refine vz [(1000000, some p0K, .obj 30 ([nZ p0.Seq, aZ gS, aZ gC, aZ gE, aZ gV])), (17, gE.t, .obj 99 (fl aR (p0.Exps : List aI) gE.sp)), (1000000, some k5, .obj 81 (aQ p2))] mixed (fun u => ⟨fun _ => aO 2 u rfl, fun _ => aO 5 u rfl, fun _ => aO 0 u rfl, trivial⟩) fun u => ?_
 refine aM 0 rfl (fun _ _ _ _ => bN (.ptr _ _) rfl) ?_
 refine aM 1 rfl (fun _ _ _ _ => bU rfl) ?_
 refine aM 2 rfl (fun _ _ _ _ => aJ fC rfl rfl) ?_
 refine aM 3 rfl (fun _ _ hi hB => bH (aZ gE) iK rfl (At.s (bR.get 0 hi rfl (hB 1000000 (by kernel_rfl)))) rfl) ?_
 refine aM 4 rfl (fun _ _ _ _ => bN (.sc (.int _ _)) rfl) ?_
 refine aM 5 rfl (fun _ _ _ _ => bN (.ptr _ _) rfl) ?_
 refine aM 6 rfl (fun _ _ _ _ => bU rfl) ?_
 refine aM 7 rfl (fun _ _ _ _ => aJ fC rfl rfl) ?_
 refine aM 8 rfl (fun _ _ hi hB => bH (aZ gE) iK rfl (At.s (bR.get 0 hi rfl (hB 1000000 (by kernel_rfl)))) rfl) ?_
 refine aM 9 rfl (fun _ _ _ _ => bN (.sc (.int _ _)) rfl) ?_
 obtain ⟨x7, X7, m⟩ := aC m
 refine aM 10 rfl (fun _ _ _ _ => dE X7 jQ oE rfl rfl) ?_
 refine aM 11 rfl (fun _ _ _ _ => dJ (bJ.ne oE X7) kM rfl rfl) ?_
 refine aM 12 rfl (fun _ _ hi hB => eZ (fo := 2) (.sl none 4 (List.map aQ x7.Locs)) X7 fB oE fE rfl (bR.get 1 hi rfl (hB 17 (by kernel_rfl))) (fun _ => rfl)) ?_
 refine aM 13 rfl (fun _ _ hi hB => bH (.agg (aQ p2)) nA rfl (At.s (bR.get 2 hi rfl (hB 1000000 (by kernel_rfl)))) rfl) ?_
 obtain ⟨y2, Y3, m⟩ := aC m
 refine aM 14 rfl (fun _ _ _ _ => cE (NP _ Y3) rfl HQ rfl) ?_
 obtain ⟨x8, X8, m⟩ := aC m
 refine aM 15 rfl (fun _ _ _ _ => dE X8 jQ oE rfl rfl) ?_
 refine aM 16 rfl (fun _ _ _ _ => dJ (bJ.ne oE X8) kM rfl rfl) ?_
 refine eX 17 rfl (by kernel_rfl) (cR (fo := 2) ({ x8 with Locs := y2 } : aI) 5 u X8 fB oE rfl rfl rfl rfl (cO.refl _ _) m8 rfl rfl fun K4 => ⟨⟨fun _ => aO 2 K4 rfl, fun e => absurd e (by decide), fun _ => aO 0 K4 rfl, trivial⟩, ?_⟩)
 refine dL (by kernel_rfl) (qk (f := .c 71 _ (.c 70 _ (.c 69 _ (.c 68 _ (.c 67 _ (.c 66 _ (.c 65 _ (.c 64 _ (.c 63 _ (.c 62 _ (.c 61 _ (.c 60 _ (.c 59 _ (.c 58 _ (.c 57 _ (.c 56 _ (.c 55 _ _))))))))))))))))) K4 rfl ?_)
 refine vs (v0 (v0 ?_))
 refine gA m fun m => ?_
 cases m
 exact vr fun u => dY.of1 (.inl rfl) (fL _ _ (.sc (.bool _)) rfl) (bO u [2, 3, 4, 5, 6] rfl).2 (aX.refl _ _) ⟨gS, ok_Snaps, gC, oC, gE, (bJ.set oE), (bO u [2, 3, 4, 5, 6] rfl).1, rfl, rfl⟩
 refine v0 (vs (v0 (vs (oO (fun u => gY.fzO (n := 184) (f := _) 5 2 ([nZ p0.Seq, aZ gS, aZ gC, .sl none 3 (List.map aR p0.Exps), aZ gV]) u rfl (.cons (Fz.refl _ _ _) (.cons (Fz.refl _ _ _) (.cons (Fz.refl _ _ _) (.cons (Fz.aw 5 fB oE u rfl (.refl _)) (.cons (Fz.refl _ _ _) .nil)))))) (v0 ?_)))))
 refine vz [(1000000, some p0K, .obj 30 ([nZ p0.Seq, aZ gS, aZ gC, .sl none 3 (List.map aR p0.Exps), aZ gV])), (1000000, some k2, .obj 38 (bM p1)), (1000000, some k5, .obj 81 (aQ p2))] mixed (fun u => ⟨fun _ => aO 2 u rfl, fun _ => aO 1 u rfl, fun _ => aO 0 u rfl, trivial⟩) fun u => ?_
 refine aM 0 rfl (fun _ _ _ _ => bN (.sc (.slice _ _ _)) rfl) ?_
 refine aM 1 rfl (fun _ _ _ _ => bN (.ptr _ _) rfl) ?_
 refine aM 2 rfl (fun _ _ _ _ => bU rfl) ?_
 refine aM 3 rfl (fun _ _ _ _ => aJ fC rfl rfl) ?_
 refine aM 4 rfl (fun _ _ hi hB => bH (.sl none 3 (List.map aR p0.Exps)) iK rfl (At.s (bR.get 0 hi rfl (hB 1000000 (by kernel_rfl)))) rfl) ?_
 refine aM 5 rfl (fun _ _ _ _ => bN (.sc (.int _ _)) rfl) ?_
 obtain ⟨_, X9, m⟩ := aC m
 refine aM 6 rfl (fun _ _ _ _ => mZ X9 jQ rfl rfl rfl rfl) ?_
 refine aM 8 rfl (fun _ _ _ _ => aJ lE rfl rfl) ?_
 refine aM 9 rfl (fun _ _ hi hB => bH (nZ p1.Seq) cG rfl (At.s (bR.get 1 hi rfl (hB 1000000 (by kernel_rfl)))) rfl) ?_
 refine aM 10 rfl (fun _ _ _ _ => aJ xR rfl rfl) ?_
 refine aM 11 rfl (fun _ _ hi hB => bH (nZ p1.Of) cG rfl (At.s (bR.get 1 hi rfl (hB 1000000 (by kernel_rfl)))) rfl) ?_
 refine aM 12 rfl (fun _ _ hi hB => bH (.agg (aQ p2)) nA rfl (At.s (bR.get 2 hi rfl (hB 1000000 (by kernel_rfl)))) rfl) ?_
 refine aM 13 rfl (fun _ _ _ _ => eH (List.map aQ ([p2] : List bI)) uU rfl rfl rfl rfl) ?_
 refine aM 14 rfl (fun _ _ _ _ => eV (aR ({ Seq := p1.Seq, Of := p1.Of, Locs := ([p2] : List bI) } : aI)) TS rfl) ?_
 refine aM 15 rfl (fun _ _ _ _ => eH (List.map aR ([({ Seq := p1.Seq, Of := p1.Of, Locs := ([p2] : List bI) } : aI)] : List aI)) uT rfl rfl rfl rfl) ?_
 obtain ⟨z0, Z0, m⟩ := aC m
 refine eX 7 rfl (by kernel_rfl) (xD (c := aR) Z0 uT rfl qJ rfl fB rfl u rfl fun ag0 O0 K5 => ⟨⟨fun _ => aO 3 K5 rfl, fun _ => aO 2 K5 rfl, fun _ => aO 1 K5 rfl, trivial⟩, ?_⟩)
 obtain ⟨z1, Z1, m⟩ := aC m
 refine eX 16 rfl (by kernel_rfl) (fR (c := aR) 0 Z1 uT rfl qJ rfl fB rfl rfl O0 K5 rfl fun ag1 O1 K7 => ⟨⟨fun _ => aO 3 K7 rfl, fun _ => aO 2 K7 rfl, fun _ => aO 1 K7 rfl, trivial⟩, ?_⟩)
 refine aM 17 rfl (fun _ _ _ _ => gU (aw _ _ _) rfl) ?_
 refine dL (by kernel_rfl) (qk (f := .c 10 _ (.c 88 _ (.c 79 _ (.c 87 _ (.c 86 _ (.c 85 _ (.c 84 _ (.c 83 _ (.c 82 _ (.c 81 _ (.c 80 _ (.c 78 _ (.c 77 _ (.c 76 _ (.c 75 _ (.c 74 _ (.c 73 _ (.c 72 _ _)))))))))))))))))) K7 rfl ?_)
 refine vs (v0 (vn (fun _ => bU rfl) (vn (fun _ => aJ fC rfl rfl) (vl 3 _ iK rfl rfl rfl ?_))))
 obtain ⟨_, X10, m⟩ := aC m
 refine vn (fun _ => mZ X10 jQ rfl rfl rfl rfl) ?_
 obtain ⟨z2, Z2, m⟩ := aC m
 refine ve fun u => fR (c := aR) 0 Z2 uT rfl qJ rfl fB rfl rfl O1 u rfl fun ag2 O2 K8 => qk K8 rfl ?_
 refine vn (fun _ => bU rfl) (vn (fun _ => aJ fC rfl rfl) ?_)
 refine ve fun u => aL 3 ([nZ p0.Seq, aZ gS, aZ gC, aZ ag2, aZ gV]) u rfl rfl (cI rfl) (cK (bX _ _ _) rfl) F3 rfl rfl fun K9 => qk K9 rfl ?_
 refine vs ?_
 refine cW m (σ := Bool) (τ := Unit) (fun g s => [(ag2.t, .obj 99 (fl aR (z2 : List aI) ag2.sp)), (some k5, .obj 81 (aQ p2)), (some k2, .obj 38 (bM p1)), (some p0K, .obj 30 ([nZ p0.Seq, aZ gS, aZ gC, aZ ag2, aZ gV])), (gS.t, .obj 60 (fl aN (p0.Snaps : List aE) gS.sp)), (gC.t, .obj 44 (fl aD (p0.Chunks : List aA) gC.sp)), (gV.t, .obj 49 (fl aT (p0.Vols : List aK) gV.sp))]) (fun g s => .c 0 (.ptr p0K 0) (.c 4 (.ptr k2 0) (.c 111 (.sc (.bool s)) .nil))) (fun x m => ?_) ?_
 refine v0 (AK (by kernel_rfl) (vn (fun _ => aJ lE rfl rfl) (vl 2 _ cG rfl rfl rfl (vn (fun _ => bU rfl) (vn (fun _ => aJ m6 rfl rfl) (vl 3 _ cG rfl rfl rfl ?_))))))
 refine vi m (fun b2 m => ?_) fun b2 m => ?_
 rw [b2]
 refine vn (fun _ => aJ lE rfl rfl) (vl 2 _ cG rfl rfl rfl ?_)
 exact bD m (lx (.k3 .nil))
 rw [b2]
 exact bD m (lx (.k3 .nil))
 rintro _ j2 m
 refine cW m (σ := Int) (τ := Unit) (fun g s => [(ag2.t, .obj 99 (fl aR (z2 : List aI) ag2.sp)), (some k5, .obj 81 (aQ p2)), (some k2, .obj 38 (bM p1)), (some p0K, .obj 30 ([nZ s, aZ gS, aZ gC, aZ ag2, aZ gV])), (gS.t, .obj 60 (fl aN (p0.Snaps : List aE) gS.sp)), (gC.t, .obj 44 (fl aD (p0.Chunks : List aA) gC.sp)), (gV.t, .obj 49 (fl aT (p0.Vols : List aK) gV.sp))]) (fun g s => .nil) (fun x m => ?_) ?_
 refine v0 ?_
 refine vi m (fun c7 m => ?_) fun c7 m => ?_
 refine v0 (vn (fun _ => aJ lE rfl rfl) (vl 2 _ cG rfl rfl rfl (vn (fun _ => bU rfl) (vn (fun _ => aJ m6 rfl rfl) ?_))))
 refine ve fun u => aL 3 ([nZ (IntKind.wrap .i64 (p1.Seq + 1)), aZ gS, aZ gC, aZ ag2, aZ gV]) u rfl rfl rfl rfl xN rfl rfl fun K10 => qk K10 rfl ?_
 exact bD m (lx .nil)
 refine v0 ?_
 exact bD m (lx .nil)
 rintro _ j3 m
 exact fH m (gC, ag2) ⟨oC, O2⟩ (kR [1, 2, 3, 4, 5, 0, 6] rfl rfl .nil)
 rintro ⟨ag3, ag4⟩ ⟨j4, j5, j6⟩ ⟨O3, O4⟩ m
 refine vs (v0 (v0 ?_))
 cases m
 exact vr fun u => dY.of1 (.inl rfl) (fL _ _ (.sc (.bool _)) rfl) (bO u [2, 3, 4, 5, 6] rfl).2 (aX.refl _ _) ⟨gS, ok_Snaps, ag3, O3, ag4, O4, (bO u [2, 3, 4, 5, 6] rfl).1, rfl, rfl⟩
theorem R0 : aU Tryz.prog 156 = true := by kernel_rfl
end Go.Proofs.YtbbifdfldpfphaaGreat
