import Derived.Test.YtoomgangpjcaoaaK5P2
set_option linter.unusedSimpArgs false
set_option linter.unusedVariables false
namespace Go.Proofs.Ytoomgangpjcaoaa
open Go.Vm
def M59 (fuel : Nat) (p0 : Int) (p1 : Int) (p2 : Int) : Option (Bool) :=
 after (if (decide (p1 ≤ p0)) = true then (some (.brk (decide (p0 ≤ p2)))) else some (.brk false) : Option (Lp (Bool) (Bool))) fun j4 => some j4
set_option maxHeartbeats 4000000 in
set_option maxRecDepth 100000 in
theorem W59 {fuel : Nat} {p0 : Int} {p1 : Int} {p2 : Int} {o : Bool} (h : Heap) (hm : M59 fuel p0 p1 p2 = some o) :
 ACalls Try.prog 59 [.sc (.int .i64 p0), .sc (.int .i64 p1), .sc (.int .i64 p2)] h (fun r h' => r = .sc (.bool o) ∧ h' = h) := by
 refine ACalls_hp 15 [.tmp 6] Try.func59 rfl rfl rfl rfl ?_
 unfold M59 at hm
 refine Zf fun K1 H1 => (Za (vD rfl (Zb (H1 _ _ (Zf fun K2 H2 => ?_)))))
 refine AW_joinH (n := 15) (h := h) hm (σ := Bool) (τ := Unit) (fun g s => []) (fun g s => kp (k0) 6 (.sc (.bool s))) (fun x hm => ?_) ?_
 refine Za (vA rfl (vA rfl (vF rfl rfl rfl (vB rfl ?_))))
 rcases Bool.eq_false_or_eq_true (decide (p1 ≤ p0)) with hb5 | hb5
 have hm := Zi hm hb5
 refine sg_y rfl rfl hb5 (vA rfl (sg_y rfl rfl hb5 (vA rfl (sg_y rfl rfl hb5 (vF rfl rfl rfl (s_v (Zm (.sc (.bool _)) rfl hb5 rfl) (vD rfl (Zb ?_))))))))
 cases hm
 exact ⟨rfl, (), HOk.nil _, LeF.s (.cons (ALe.refl _ _) .nil)⟩
 have hm := Zj hm hb5
 refine Zo rfl rfl hb5 (Zo rfl rfl hb5 (Zo rfl rfl hb5 (s_v (Zn (.sc (.bool _)) rfl hb5 rfl) (vD rfl (Zb ?_)))))
 cases hm
 exact ⟨rfl, (), HOk.nil _, LeF.s (.cons (ALe.refl _ _) .nil)⟩
 rintro _ j4 fr' h' hk6 hm le
 refine H2 _ _ (le.aw ?_)
 refine AW_ret ?_
 have hmo := Option.some.inj hm; subst hmo
 exact Ret.of1 (.inl rfl) (rsT _ _ (.sc (.bool _)) rfl) (Sub.refl _) (ALe.refl _ _) ⟨rfl, rfl⟩
theorem bd59 : bodied Try.prog 59 = true := by kernel_rfl
def M60_L0 (fuel : Nat) (p0 : Id32) (p1 : Id32) (q0 : Int) : Option (Lp (Int) (Bool)) :=
 if (decide (q0 < 32)) = true then ((ix p0.1 q0).bind fun x0 => (ix p1.1 q0).bind fun x1 => if (x0 != x1) = true then ((ix p0.1 q0).bind fun x2 => (ix p1.1 q0).bind fun x3 => some (.ret (decide (x2 < x3)))) else some (.go (IntKind.wrap .i64 (q0 + 1)))) else some (.brk q0)
def M60 (fuel : Nat) (p0 : Id32) (p1 : Id32) : Option (Bool) :=
 after (loopM (fun s => M60_L0 fuel p0 p1 s) fuel 0) fun r0 => some false
set_option maxHeartbeats 4000000 in
set_option maxRecDepth 100000 in
theorem W60 {fuel : Nat} {p0 : Id32} {p1 : Id32} {o : Bool} (h : Heap) (hm : M60 fuel p0 p1 = some o) :
 ACalls Try.prog 60 [.agg (c_id p0), .agg (c_id p1)] h (fun r h' => r = .sc (.bool o) ∧ h' = h) := by
 refine ACalls_hp 24 [.tmp 4] Try.func60 rfl rfl rfl rfl ?_
 unfold M60 at hm
 refine Zf fun K1 H1 => (Za ?_)
 refine s_op (a_box (HOk.nil _) rfl rfl fun k2 hk3 => ?_)
 refine s_op (a_box hk3 rfl rfl fun k5 hk6 => ?_)
 refine vD rfl (Zb (H1 _ _ (Zf fun K8 H8 => (Zf fun K9 H9 => (Za (vC rfl (Zb (H9 _ _ ?_))))))))
 refine AW_loopH (n := 24) (h := h) hm (σ := Int) (τ := Unit) (fun g s => [(some k5, .obj 61 (c_id p1)), (some k2, .obj 61 (c_id p0))]) (fun g s => kp (kp (kp (k0) 5 (.sc (.int .i64 s))) 3 (.ptr k5 0)) 2 (.ptr k2 0)) () hk6 (LeF.s (.k3 .nil)) ?_ ?_
 rintro _ q0 x hk0 hm
 replace hm : M60_L0 fuel p0 p1 q0 = some x := hm
 unfold M60_L0 at hm
 refine Zf fun K0 H2 => (Zf fun K2 H3 => (Za (vA rfl (vF rfl rfl rfl (Zb (H3 _ _ ?_))))))
 refine AW_if' rfl (fun hc0 => ?_) (fun hc0 => ?_)
 have hm := Zi hm hc0
 refine Zl (H2 _ _ (Zf fun K3 H4 => (AW_block (Zf fun K4 H5 => ?_))))
 refine AW_rq mixed (by kernel_rfl) ?_
 refine wA rfl ?_
 obtain ⟨x0, hx0, hm⟩ := Zc hm
 refine q_v (o_ixidp hx0 ar61 rfl rfl) (q_v (o_ldidp 0 hx0 ld5 rfl (Zd 1 hk0 rfl) rfl) (wA rfl ?_))
 obtain ⟨x1, hx1, hm⟩ := Zc hm
 refine q_v (o_ixidp hx1 ar61 rfl rfl) (q_v (o_ldidp 0 hx1 ld5 rfl (Zd 0 hk0 rfl) rfl) (wF rfl rfl rfl (q_nil (H5 _ _ ?_))))
 refine AW_if' rfl (fun hc1 => ?_) (fun hc1 => ?_)
 have hm := Zi hm hc1
 refine Zf fun K5 H6 => ?_
 refine AW_rq mixed (by kernel_rfl) ?_
 refine wA rfl ?_
 obtain ⟨x2, hx2, hm⟩ := Zc hm
 refine q_v (o_ixidp hx2 ar61 rfl rfl) (q_v (o_ldidp 0 hx2 ld5 rfl (Zd 1 hk0 rfl) rfl) (wA rfl ?_))
 obtain ⟨x3, hx3, hm⟩ := Zc hm
 refine q_v (o_ixidp hx3 ar61 rfl rfl) (q_v (o_ldidp 0 hx3 ld5 rfl (Zd 0 hk0 rfl) rfl) (wF rfl rfl rfl (wD rfl (q_nil (H6 _ _ (AW_ret ?_))))))
 cases hm
 refine ⟨⟨nofun, nofun⟩, fun he => ?_⟩
 subst he
 exact Ret.of1 (.inl rfl) (rsT _ _ (.sc (.bool _)) rfl) (hp_sub (List.nil_sublist _) hk0).1 (ALe.refl _ _) ⟨rfl, rfl⟩
 have hm := Zj hm hc1
 refine Zl (H4 _ _ (Za (vA rfl (vF rfl rfl rfl (vC rfl (Zb ?_))))))
 cases hm
 exact ⟨rfl, (), hk0, LeF.s (.k3 .nil)⟩
 have hm := Zj hm hc0
 refine AW_exit ?_
 refine Seq_exit ?_
 cases hm
 exact ⟨rfl, (), hk0, LeF.s (.k3 .nil)⟩
 rintro _ r0 fr' h' hk1 hm le
 refine H8 _ _ (le.aw ?_)
 refine Zf fun K6 H7 => (Za (vD rfl (Zb (H7 _ _ (AW_ret ?_)))))
 have hmo := Option.some.inj hm; subst hmo
 exact Ret.of1 (.inl rfl) (rsT _ _ (.sc (.bool _)) rfl) (hp_sub (List.nil_sublist _) hk1).1 (ALe.refl _ _) ⟨rfl, rfl⟩
theorem bd60 : bodied Try.prog 60 = true := by kernel_rfl
def M61_L0 (fuel : Nat) (p0 : TCatalog) (p1 : List TLoc) (q0 : Int) : Option (Lp (Int) (Bool)) :=
 if (decide (q0 < (p1.length : Int))) = true then ((ix p1 q0).bind fun x0 => after (if (decide (x0.Vol < 0)) = true then (some (.brk true)) else if (decide ((p0.Vols.length : Int) ≤ x0.Vol)) = true then (some (.brk true)) else (ix p0.Vols x0.Vol).bind fun x1 => if (x1.State != 2) = true then (some (.brk true)) else (ix p0.Vols x0.Vol).bind fun x2 => (M59 fuel x0.File 1 x2.Files).bind fun y0 => if (!y0) = true then (some (.brk true)) else (M59 fuel x0.Off 0 16777215).bind fun y1 => if (!y1) = true then (some (.brk true)) else (M59 fuel x0.Len 13 8013).bind fun y2 => some (.brk (!y2)) : Option (Lp (Bool) (Lp (Int) (Bool)))) fun j0 => if j0 = true then (some (.ret false)) else after (if (decide (0 < q0)) = true then ((ix p1 (IntKind.wrap .i64 (q0 - 1))).bind fun x3 => after (if (decide (x3.Vol < x0.Vol)) = true then (some (.brk (!true))) else if (x3.Vol == x0.Vol) = true then (if (decide (x3.File < x0.File)) = true then (some (.brk (!true))) else if (x3.File == x0.File) = true then (some (.brk (!(decide (x3.Off < x0.Off))))) else some (.brk (!false))) else some (.brk (!false)) : Option (Lp (Bool) (Lp (Unit) (Lp (Int) (Bool))))) fun j1 => if j1 = true then (some (.ret (.ret false))) else some (.brk ())) else some (.brk ()) : Option (Lp (Unit) (Lp (Int) (Bool)))) fun _ => some (.go (IntKind.wrap .i64 (q0 + 1)))) else some (.brk q0)
def M61 (fuel : Nat) (p0 : TCatalog) (p1 : List TLoc) : Option (Bool) :=
 if (decide (200 < (p1.length : Int))) = true then (some false) else after (loopM (fun s => M61_L0 fuel p0 p1 s) fuel 0) fun r0 => some true
set_option maxHeartbeats 4000000 in
set_option maxRecDepth 100000 in
theorem W61 {fuel : Nat} {p0 : TCatalog} {p1 : List TLoc} {o : Bool} (h : Heap) (hm : M61 fuel p0 p1 = some o) :
 ACalls Try.prog 61 [.agg (c_Catalog p0), .sl none 4 (List.map c_Loc p1)] h (fun r h' => r = .sc (.bool o) ∧ h' = h) := by
 refine ACalls_hp 108 [.tmp 4] Try.func61 rfl rfl rfl rfl ?_
 unfold M61 at hm
 refine Zf fun K1 H1 => (Za ?_)
 refine s_op (a_box (HOk.nil _) rfl rfl fun k2 hk3 => ?_)
 refine vD rfl (Zb (H1 _ _ (Zf fun K5 H5 => (Zf fun K6 H6 => (Za (vE rfl (s_v (o_lenm ln58 rfl) (vF rfl rfl rfl (Zb (H6 _ _ ?_))))))))))
 refine AW_if' rfl (fun hc7 => ?_) (fun hc7 => ?_)
 have hm := Zi hm hc7
 refine Zf fun K8 H8 => (Za (vD rfl (Zb (H8 _ _ (AW_ret ?_)))))
 have hmo := Option.some.inj hm; subst hmo
 exact Ret.of1 (.inl rfl) (rsT _ _ (.sc (.bool _)) rfl) (hp_sub (List.nil_sublist _) hk3).1 (ALe.refl _ _) ⟨rfl, rfl⟩
 have hm := Zj hm hc7
 refine Zl (H5 _ _ (Zf fun K9 H9 => (Zf fun K0 H2 => (Za (vC rfl (Zb (H2 _ _ ?_)))))))
 refine AW_loopH (n := 108) (h := h) hm (σ := Int) (τ := Unit) (fun g s => [(some k2, .obj 27 (c_Catalog p0))]) (fun g s => kp (kp (kp (k0) 5 (.sc (.int .i64 s))) 2 (.ptr k2 0)) 1 (.sl none 4 (List.map c_Loc p1))) () hk3 (LeF.s (.k3 .nil)) ?_ ?_
 rintro _ q0 x hk0 hm
 replace hm : M61_L0 fuel p0 p1 q0 = some x := hm
 unfold M61_L0 at hm
 refine Zf fun K2 H3 => (Zf fun K3 H4 => (Za (vA rfl (vE rfl (s_v (o_lenm ln58 rfl) (vF rfl rfl rfl (Zb (H4 _ _ ?_))))))))
 refine AW_if' rfl (fun hc0 => ?_) (fun hc0 => ?_)
 have hm := Zi hm hc0
 refine Zl (H3 _ _ (Zf fun K4 H7 => (AW_block (Zf fun K7 H11 => (Za (vE rfl (vA rfl ?_)))))))
 obtain ⟨x0, hx0, hm⟩ := Zc hm
 refine s_v (o_ix hx0 el58 rfl rfl) (s_v (o_ld (.agg (c_Loc x0)) ld77 rfl rfl) ?_)
 refine s_op (a_alloc ([.sc (.int .i64 0), .sc (.int .i64 0), .sc (.int .i64 0), .sc (.int .i64 0)]) hk0 zr77 rfl rfl fun k203 hk1 => ?_)
 refine s_op (a_store 0 (c_Loc x0) hk1 rfl rfl rfl rfl sz77 rfl rfl fun hk2 => ?_)
 refine Zb (H11 _ _ (Zf fun K11 H12 => (Zf fun K12 H13 => ?_)))
 refine AW_joinH (n := 108) (h := h) hm (σ := Bool) (τ := Unit) (fun g s => [(some k203, .obj 77 (c_Loc x0)), (some k2, .obj 27 (c_Catalog p0))]) (fun g s => kp (kp (kp (kp (kp (k0) 66 (.sc (.bool s))) 6 (.ptr k203 0)) 5 (.sc (.int .i64 q0))) 2 (.ptr k2 0)) 1 (.sl none 4 (List.map c_Loc p1))) (fun x hm => ?_) ?_
 refine AW_rq mixed (by kernel_rfl) ?_
 refine q_v (Zh fd77_0 rfl rfl) (q_v (Zg (.sc (.int .i64 x0.Vol)) ld3 rfl (Zd 0 hk2 rfl) rfl) (wF rfl rfl rfl (wB rfl ?_)))
 rcases Bool.eq_false_or_eq_true (decide (x0.Vol < 0)) with hb0 | hb0
 have hm := Zi hm hb0
 refine Ze rfl rfl hb0 (Ze rfl rfl hb0 (Ze rfl rfl hb0 (Ze rfl rfl hb0 (Ze rfl rfl hb0 (Ze rfl rfl hb0 (q_v (Zm (.sc (.bool _)) rfl hb0 rfl) (wB rfl (Ze rfl rfl rfl (Ze rfl rfl rfl (Ze rfl rfl rfl (Ze rfl rfl rfl (Ze rfl rfl rfl (Ze rfl rfl rfl (Ze rfl rfl rfl (Ze rfl rfl rfl ?_)))))))))))))))
 refine q_v (Zm (.sc (.bool _)) rfl rfl rfl) (wB rfl (Ze rfl rfl rfl (Ze rfl rfl rfl (Ze rfl rfl rfl (Ze rfl rfl rfl (Ze rfl rfl rfl (Ze rfl rfl rfl (Ze rfl rfl rfl (Ze rfl rfl rfl (Ze rfl rfl rfl (Ze rfl rfl rfl (Ze rfl rfl rfl (q_v (Zm (.sc (.bool _)) rfl rfl rfl) (wB rfl (Ze rfl rfl rfl ?_)))))))))))))))
 refine Ze rfl rfl rfl (Ze rfl rfl rfl (Ze rfl rfl rfl (q_v (Zm (.sc (.bool _)) rfl rfl rfl) (wB rfl (Ze rfl rfl rfl (Ze rfl rfl rfl (Ze rfl rfl rfl (Ze rfl rfl rfl (q_v (Zm (.sc (.bool _)) rfl rfl rfl) (q_nil ?_))))))))))
 cases hm
 exact ⟨rfl, (), hk2, LeF.s (.k5 .nil)⟩
 have hm := Zj hm hb0
 refine Zk rfl rfl hb0 (q_v (Zh fd77_0 rfl rfl) (Zk rfl rfl hb0 (q_v (Zg (.sc (.int .i64 x0.Vol)) ld3 rfl (Zd 0 hk2 rfl) rfl) (Zk rfl rfl hb0 (q_v (Zh fd27_4 rfl rfl) (Zk rfl rfl hb0 (q_v (Zg (.sl none 4 (List.map c_Vol p0.Vols)) ld25 rfl (Zd 1 hk2 rfl) rfl) (Zk rfl rfl hb0 (q_v (o_lenm ln25 rfl) (Zk rfl rfl hb0 (wF rfl rfl rfl (q_v (Zn (.sc (.bool _)) rfl hb0 rfl) (wB rfl ?_)))))))))))))
 rcases Bool.eq_false_or_eq_true (decide ((p0.Vols.length : Int) ≤ x0.Vol)) with hb1 | hb1
 have hm := Zi hm hb1
 refine Ze rfl rfl hb1 (Ze rfl rfl hb1 (Ze rfl rfl hb1 (Ze rfl rfl hb1 (Ze rfl rfl hb1 (Ze rfl rfl hb1 (Ze rfl rfl hb1 (Ze rfl rfl hb1 (q_v (Zm (.sc (.bool _)) rfl hb1 rfl) (wB rfl (Ze rfl rfl rfl (Ze rfl rfl rfl (Ze rfl rfl rfl (Ze rfl rfl rfl (Ze rfl rfl rfl (Ze rfl rfl rfl ?_)))))))))))))))
 refine Ze rfl rfl rfl (Ze rfl rfl rfl (Ze rfl rfl rfl (Ze rfl rfl rfl (Ze rfl rfl rfl (q_v (Zm (.sc (.bool _)) rfl rfl rfl) (wB rfl (Ze rfl rfl rfl (Ze rfl rfl rfl (Ze rfl rfl rfl (Ze rfl rfl rfl (q_v (Zm (.sc (.bool _)) rfl rfl rfl) (wB rfl (Ze rfl rfl rfl (Ze rfl rfl rfl (Ze rfl rfl rfl ?_)))))))))))))))
 refine Ze rfl rfl rfl (q_v (Zm (.sc (.bool _)) rfl rfl rfl) (q_nil ?_))
 cases hm
 exact ⟨rfl, (), hk2, LeF.s (.k5 .nil)⟩
 have hm := Zj hm hb1
 refine Zk rfl rfl hb1 (q_v (Zh fd27_4 rfl rfl) (Zk rfl rfl hb1 (q_v (Zg (.sl none 4 (List.map c_Vol p0.Vols)) ld25 rfl (Zd 1 hk2 rfl) rfl) (Zk rfl rfl hb1 (q_v (Zh fd77_0 rfl rfl) (Zk rfl rfl hb1 (q_v (Zg (.sc (.int .i64 x0.Vol)) ld3 rfl (Zd 0 hk2 rfl) rfl) (Zk rfl rfl hb1 ?_))))))))
 obtain ⟨x1, hx1, hm⟩ := Zc hm
 refine q_v (o_ix hx1 el25 rfl rfl) (Zk rfl rfl hb1 (q_v (o_fl fd40_2 rfl rfl) (Zk rfl rfl hb1 (q_v (o_ld (.sc (.int .i64 x1.State)) ld3 rfl rfl) (Zk rfl rfl hb1 (wF rfl rfl rfl (q_v (Zn (.sc (.bool _)) rfl hb1 rfl) (wB rfl ?_))))))))
 rcases Bool.eq_false_or_eq_true (x1.State != 2) with hb2 | hb2
 have hm := Zi hm hb2
 refine Ze rfl rfl hb2 (Ze rfl rfl hb2 (Ze rfl rfl hb2 (Ze rfl rfl hb2 (Ze rfl rfl hb2 (Ze rfl rfl hb2 (Ze rfl rfl hb2 (Ze rfl rfl hb2 (Ze rfl rfl hb2 (Ze rfl rfl hb2 (Ze rfl rfl hb2 (q_v (Zm (.sc (.bool _)) rfl hb2 rfl) (wB rfl (Ze rfl rfl rfl (Ze rfl rfl rfl (Ze rfl rfl rfl ?_)))))))))))))))
 refine Ze rfl rfl rfl (q_v (Zm (.sc (.bool _)) rfl rfl rfl) (wB rfl (Ze rfl rfl rfl (Ze rfl rfl rfl (Ze rfl rfl rfl (Ze rfl rfl rfl (q_v (Zm (.sc (.bool _)) rfl rfl rfl) (q_nil ?_))))))))
 cases hm
 exact ⟨rfl, (), hk2, LeF.s (.k5 .nil)⟩
 have hm := Zj hm hb2
 refine Zk rfl rfl hb2 (q_v (Zh fd77_1 rfl rfl) (Zk rfl rfl hb2 (q_v (Zg (.sc (.int .i64 x0.File)) ld3 rfl (Zd 0 hk2 rfl) rfl) (Zk rfl rfl hb2 (q_v (Zh fd27_4 rfl rfl) (Zk rfl rfl hb2 (q_v (Zg (.sl none 4 (List.map c_Vol p0.Vols)) ld25 rfl (Zd 1 hk2 rfl) rfl) (Zk rfl rfl hb2 (q_v (Zh fd77_0 rfl rfl) (Zk rfl rfl hb2 (q_v (Zg (.sc (.int .i64 x0.Vol)) ld3 rfl (Zd 0 hk2 rfl) rfl) (Zk rfl rfl hb2 ?_))))))))))))
 obtain ⟨x2, hx2, hm⟩ := Zc hm
 refine q_v (o_ix hx2 el25 rfl rfl) (Zk rfl rfl hb2 (q_v (o_fl fd40_3 rfl rfl) (Zk rfl rfl hb2 (q_v (o_ld (.sc (.int .i64 x2.Files)) ld3 rfl rfl) (Zk rfl rfl hb2 ?_)))))
 obtain ⟨y0, hy0, hm⟩ := Zc hm
 refine q_v (o_call (W59 _ hy0) rfl bd59 rfl) (Zk rfl rfl hb2 (q_v (o_not rfl) (q_v (Zn (.sc (.bool _)) rfl hb2 rfl) (wB rfl ?_))))
 rcases Bool.eq_false_or_eq_true (!y0) with hb3 | hb3
 have hm := Zi hm hb3
 refine Ze rfl rfl hb3 (Ze rfl rfl hb3 (Ze rfl rfl hb3 (Ze rfl rfl hb3 (q_v (Zm (.sc (.bool _)) rfl hb3 rfl) (wB rfl (Ze rfl rfl rfl (Ze rfl rfl rfl (Ze rfl rfl rfl (Ze rfl rfl rfl (q_v (Zm (.sc (.bool _)) rfl rfl rfl) (q_nil ?_)))))))))))
 cases hm
 exact ⟨rfl, (), hk2, LeF.s (.k5 .nil)⟩
 have hm := Zj hm hb3
 refine Zk rfl rfl hb3 (q_v (Zh fd77_2 rfl rfl) (Zk rfl rfl hb3 (q_v (Zg (.sc (.int .i64 x0.Off)) ld3 rfl (Zd 0 hk2 rfl) rfl) (Zk rfl rfl hb3 ?_))))
 obtain ⟨y1, hy1, hm⟩ := Zc hm
 refine q_v (o_call (W59 _ hy1) rfl bd59 rfl) (Zk rfl rfl hb3 (q_v (o_not rfl) (q_v (Zn (.sc (.bool _)) rfl hb3 rfl) (wB rfl ?_))))
 rcases Bool.eq_false_or_eq_true (!y1) with hb4 | hb4
 have hm := Zi hm hb4
 refine Ze rfl rfl hb4 (Ze rfl rfl hb4 (Ze rfl rfl hb4 (Ze rfl rfl hb4 (q_v (Zm (.sc (.bool _)) rfl hb4 rfl) (q_nil ?_)))))
 cases hm
 exact ⟨rfl, (), hk2, LeF.s (.k5 .nil)⟩
 have hm := Zj hm hb4
 refine Zk rfl rfl hb4 (q_v (Zh fd77_3 rfl rfl) (Zk rfl rfl hb4 (q_v (Zg (.sc (.int .i64 x0.Len)) ld3 rfl (Zd 0 hk2 rfl) rfl) (Zk rfl rfl hb4 ?_))))
 obtain ⟨y2, hy2, hm⟩ := Zc hm
 refine q_v (o_call (W59 _ hy2) rfl bd59 rfl) (Zk rfl rfl hb4 (q_v (o_not rfl) (q_v (Zn (.sc (.bool _)) rfl hb4 rfl) (q_nil ?_))))
 cases hm
 exact ⟨rfl, (), hk2, LeF.s (.k5 .nil)⟩
 rintro _ j0 fr' h' hk4 hm le
 refine H13 _ _ (le.aw ?_)
 refine AW_if' rfl (fun hc1 => ?_) (fun hc1 => ?_)
 have hm := Zi hm hc1
 refine Zf fun K13 H14 => (Za (vD rfl (Zb (H14 _ _ (AW_ret ?_)))))
 cases hm
 refine ⟨⟨nofun, nofun⟩, fun he => ?_⟩
 subst he
 exact Ret.of1 (.inl rfl) (rsT _ _ (.sc (.bool _)) rfl) (hp_sub (List.nil_sublist _) hk4).1 (ALe.refl _ _) ⟨rfl, rfl⟩
 have hm := Zj hm hc1
 refine Zl (H12 _ _ (Zf fun K14 H15 => (Za (vA rfl (vF rfl rfl rfl (Zb (H15 _ _ ?_)))))))
 refine AW_joinH (n := 108) (h := h) hm (σ := Unit) (τ := Unit) (fun g s => [(some k203, .obj 77 (c_Loc x0)), (some k2, .obj 27 (c_Catalog p0))]) (fun g s => kp (kp (kp (k0) 5 (.sc (.int .i64 q0))) 2 (.ptr k2 0)) 1 (.sl none 4 (List.map c_Loc p1))) (fun x hm => ?_) ?_
 refine AW_if' rfl (fun hc2 => ?_) (fun hc2 => ?_)
 have hm := Zi hm hc2
 refine Zf fun K15 H16 => (Za (vE rfl (vA rfl (vF rfl rfl rfl ?_))))
 obtain ⟨x3, hx3, hm⟩ := Zc hm
 refine s_v (o_ix hx3 el58 rfl rfl) (s_v (o_ld (.agg (c_Loc x3)) ld77 rfl rfl) ?_)
 refine s_op (a_alloc ([.sc (.int .i64 0), .sc (.int .i64 0), .sc (.int .i64 0), .sc (.int .i64 0)]) hk4 zr77 rfl rfl fun k269 hk5 => ?_)
 refine s_op (a_store 0 (c_Loc x3) hk5 rfl rfl rfl rfl sz77 rfl rfl fun hk6 => ?_)
 refine Zb (H16 _ _ (Zf fun K16 H17 => ?_))
 refine AW_joinH (n := 108) (h := h) hm (σ := Bool) (τ := Unit) (fun g s => [(some k269, .obj 77 (c_Loc x3)), (some k203, .obj 77 (c_Loc x0)), (some k2, .obj 27 (c_Catalog p0))]) (fun g s => kp (kp (kp (kp (k0) 107 (.sc (.bool s))) 5 (.sc (.int .i64 q0))) 2 (.ptr k2 0)) 1 (.sl none 4 (List.map c_Loc p1))) (fun x hm => ?_) ?_
 refine Za (s_v (Zh fd77_0 rfl rfl) (s_v (Zg (.sc (.int .i64 x3.Vol)) ld3 rfl (Zd 0 hk6 rfl) rfl) (s_v (Zh fd77_0 rfl rfl) (s_v (Zg (.sc (.int .i64 x0.Vol)) ld3 rfl (Zd 1 hk6 rfl) rfl) (vF rfl rfl rfl (vB rfl ?_))))))
 rcases Bool.eq_false_or_eq_true (decide (x3.Vol < x0.Vol)) with hb5 | hb5
 have hm := Zi hm hb5
 refine Zo rfl rfl hb5 (Zo rfl rfl hb5 (Zo rfl rfl hb5 (Zo rfl rfl hb5 (Zo rfl rfl hb5 (Zo rfl rfl hb5 (sg_u rfl rfl (sg_u rfl rfl (sg_u rfl rfl (sg_u rfl rfl (sg_u rfl rfl (sg_u rfl rfl (sg_u rfl rfl (sg_u rfl rfl (sg_u rfl rfl (sg_u rfl rfl ?_)))))))))))))))
 refine sg_u rfl rfl (sg_u rfl rfl (sg_u rfl rfl (sg_u rfl rfl (sg_u rfl rfl (sg_u rfl rfl (sg_u rfl rfl (sg_u rfl rfl (sg_u rfl rfl (Zo rfl rfl hb5 (s_v (Zm (.sc (.bool _)) rfl hb5 rfl) (s_v (o_not rfl) (Zb ?_))))))))))))
 cases hm
 exact ⟨rfl, (), hk6, LeF.s (.k4 .nil)⟩
 have hm := Zj hm hb5
 refine sg_y rfl rfl hb5 (s_v (Zh fd77_0 rfl rfl) (sg_y rfl rfl hb5 (s_v (Zg (.sc (.int .i64 x3.Vol)) ld3 rfl (Zd 0 hk6 rfl) rfl) (sg_y rfl rfl hb5 (s_v (Zh fd77_0 rfl rfl) (sg_y rfl rfl hb5 (s_v (Zg (.sc (.int .i64 x0.Vol)) ld3 rfl (Zd 1 hk6 rfl) rfl) (sg_y rfl rfl hb5 (vF rfl rfl rfl (sg_y rfl rfl hb5 (vB rfl ?_)))))))))))
 rcases Bool.eq_false_or_eq_true (x3.Vol == x0.Vol) with hb6 | hb6
 have hm := Zi hm hb6
 refine sg_y rfl rfl hb6 (s_v (Zh fd77_1 rfl rfl) (sg_y rfl rfl hb6 (s_v (Zg (.sc (.int .i64 x3.File)) ld3 rfl (Zd 0 hk6 rfl) rfl) (sg_y rfl rfl hb6 (s_v (Zh fd77_1 rfl rfl) (sg_y rfl rfl hb6 (s_v (Zg (.sc (.int .i64 x0.File)) ld3 rfl (Zd 1 hk6 rfl) rfl) (sg_y rfl rfl hb6 (vF rfl rfl rfl (sg_y rfl rfl hb6 (vB rfl ?_)))))))))))
 rcases Bool.eq_false_or_eq_true (decide (x3.File < x0.File)) with hb7 | hb7
 have hm := Zi hm hb7
 refine Zo rfl rfl hb7 (Zo rfl rfl hb7 (Zo rfl rfl hb7 (Zo rfl rfl hb7 (Zo rfl rfl hb7 (Zo rfl rfl hb7 (sg_u rfl rfl (sg_u rfl rfl (sg_u rfl rfl (sg_u rfl rfl (sg_u rfl rfl (Zo rfl rfl hb7 (sg_y rfl rfl hb6 (s_v (Zm (.sc (.bool _)) rfl hb7 rfl) (sg_y rfl rfl hb5 (s_v (Zm (.sc (.bool _)) rfl hb6 rfl) ?_)))))))))))))))
 refine s_v (Zn (.sc (.bool _)) rfl hb5 rfl) (s_v (o_not rfl) (Zb ?_))
 cases hm
 exact ⟨rfl, (), hk6, LeF.s (.k4 .nil)⟩
 have hm := Zj hm hb7
 refine sg_y rfl rfl hb7 (s_v (Zh fd77_1 rfl rfl) (sg_y rfl rfl hb7 (s_v (Zg (.sc (.int .i64 x3.File)) ld3 rfl (Zd 0 hk6 rfl) rfl) (sg_y rfl rfl hb7 (s_v (Zh fd77_1 rfl rfl) (sg_y rfl rfl hb7 (s_v (Zg (.sc (.int .i64 x0.File)) ld3 rfl (Zd 1 hk6 rfl) rfl) (sg_y rfl rfl hb7 (vF rfl rfl rfl (sg_y rfl rfl hb7 (vB rfl ?_)))))))))))
 rcases Bool.eq_false_or_eq_true (x3.File == x0.File) with hb8 | hb8
 have hm := Zi hm hb8
 refine sg_y rfl rfl hb8 (s_v (Zh fd77_2 rfl rfl) (sg_y rfl rfl hb8 (s_v (Zg (.sc (.int .i64 x3.Off)) ld3 rfl (Zd 0 hk6 rfl) rfl) (sg_y rfl rfl hb8 (s_v (Zh fd77_2 rfl rfl) (sg_y rfl rfl hb8 (s_v (Zg (.sc (.int .i64 x0.Off)) ld3 rfl (Zd 1 hk6 rfl) rfl) (sg_y rfl rfl hb8 (vF rfl rfl rfl (sg_y rfl rfl hb7 (s_v (Zm (.sc (.bool _)) rfl hb8 rfl) (sg_y rfl rfl hb6 (s_v (Zn (.sc (.bool _)) rfl hb7 rfl) (sg_y rfl rfl hb5 (s_v (Zm (.sc (.bool _)) rfl hb6 rfl) ?_)))))))))))))))
 refine s_v (Zn (.sc (.bool _)) rfl hb5 rfl) (s_v (o_not rfl) (Zb ?_))
 cases hm
 exact ⟨rfl, (), hk6, LeF.s (.k4 .nil)⟩
 have hm := Zj hm hb8
 refine Zo rfl rfl hb8 (Zo rfl rfl hb8 (Zo rfl rfl hb8 (Zo rfl rfl hb8 (Zo rfl rfl hb8 (sg_y rfl rfl hb7 (s_v (Zn (.sc (.bool _)) rfl hb8 rfl) (sg_y rfl rfl hb6 (s_v (Zn (.sc (.bool _)) rfl hb7 rfl) (sg_y rfl rfl hb5 (s_v (Zm (.sc (.bool _)) rfl hb6 rfl) (s_v (Zn (.sc (.bool _)) rfl hb5 rfl) (s_v (o_not rfl) (Zb ?_)))))))))))))
 cases hm
 exact ⟨rfl, (), hk6, LeF.s (.k4 .nil)⟩
 have hm := Zj hm hb6
 refine Zo rfl rfl hb6 (Zo rfl rfl hb6 (Zo rfl rfl hb6 (Zo rfl rfl hb6 (Zo rfl rfl hb6 (Zo rfl rfl hb6 (sg_u rfl rfl (sg_u rfl rfl (sg_u rfl rfl (sg_u rfl rfl (sg_u rfl rfl (sg_u rfl rfl (sg_u rfl rfl (sg_u rfl rfl (sg_u rfl rfl (sg_u rfl rfl ?_)))))))))))))))
 refine sg_u rfl rfl (sg_u rfl rfl (Zo rfl rfl hb6 (sg_y rfl rfl hb5 (s_v (Zn (.sc (.bool _)) rfl hb6 rfl) (s_v (Zn (.sc (.bool _)) rfl hb5 rfl) (s_v (o_not rfl) (Zb ?_)))))))
 cases hm
 exact ⟨rfl, (), hk6, LeF.s (.k4 .nil)⟩
 rintro _ j1 fr' h' hk7 hm le
 refine H17 _ _ (le.aw ?_)
 refine AW_if' rfl (fun hc3 => ?_) (fun hc3 => ?_)
 have hm := Zi hm hc3
 refine Zf fun K17 H18 => (Za (vD rfl (Zb (H18 _ _ (AW_ret ?_)))))
 cases hm
 refine ⟨nofun, fun he => ?_⟩
 subst he
 refine ⟨⟨nofun, nofun⟩, fun he => ?_⟩
 subst he
 exact Ret.of1 (.inl rfl) (rsT _ _ (.sc (.bool _)) rfl) (hp_sub (List.nil_sublist _) hk7).1 (ALe.refl _ _) ⟨rfl, rfl⟩
 have hm := Zj hm hc3
 refine Zl ?_
 cases hm
 exact ⟨rfl, (), (hp_sub (.cons _ (.refl _)) hk7).2, LeF.fm ((hp_sub (.cons _ (.refl _)) hk7).1) (.k3 .nil)⟩
 have hm := Zj hm hc2
 refine Zl ?_
 cases hm
 exact ⟨rfl, (), hk4, LeF.s (.k3 .nil)⟩
 rintro _ _ fr' h' hk8 hm le
 refine H7 _ _ (le.aw ?_)
 refine Za (vA rfl (vF rfl rfl rfl (vC rfl (Zb ?_))))
 cases hm
 exact ⟨rfl, (), (hp_sub (.cons _ (.refl _)) hk8).2, LeF.fm ((hp_sub (.cons _ (.refl _)) hk8).1) (.k3 .nil)⟩
 have hm := Zj hm hc0
 refine AW_exit ?_
 refine Seq_exit ?_
 cases hm
 exact ⟨rfl, (), hk0, LeF.s (.k3 .nil)⟩
 rintro _ r0 fr' h' hk9 hm le
 refine H9 _ _ (le.aw ?_)
 refine Zf fun K18 H19 => (Za (vD rfl (Zb (H19 _ _ (AW_ret ?_)))))
 have hmo := Option.some.inj hm; subst hmo
 exact Ret.of1 (.inl rfl) (rsT _ _ (.sc (.bool _)) rfl) (hp_sub (List.nil_sublist _) hk9).1 (ALe.refl _ _) ⟨rfl, rfl⟩
theorem bd61 : bodied Try.prog 61 = true := by kernel_rfl
def M104_L0 (fuel : Nat) (p0 : ByteArray) (q0 : Int) : Option (Lp (Int) (Bool)) :=
 if (decide (q0 < (p0.size : Int))) = true then (after ((six p0 q0).bind fun x0 => if (decide (x0 < 33)) = true then (some (.brk true)) else (six p0 q0).bind fun x1 => some (.brk (decide (126 < x1))) : Option (Lp (Bool) (Lp (Int) (Bool)))) fun j0 => if j0 = true then (some (.ret false)) else some (.go (IntKind.wrap .i64 (q0 + 1)))) else some (.brk q0)
def M104 (fuel : Nat) (p0 : ByteArray) : Option (Bool) :=
 after (loopM (fun s => M104_L0 fuel p0 s) fuel 0) fun r0 => after (if (decide (1 ≤ (p0.size : Int))) = true then (some (.brk (decide ((p0.size : Int) ≤ 20)))) else some (.brk false) : Option (Lp (Bool) (Bool))) fun j0 => some j0
set_option maxHeartbeats 4000000 in
set_option maxRecDepth 100000 in
theorem W104 {fuel : Nat} {p0 : ByteArray} {o : Bool} (h : Heap) (hm : M104 fuel p0 = some o) :
 ACalls Try.prog 104 [.sc (.string p0)] h (fun r h' => r = .sc (.bool o) ∧ h' = h) := by
 refine ACalls_hp 28 [.tmp 2] Try.func104 rfl rfl rfl rfl ?_
 unfold M104 at hm
 refine Zf fun K1 H1 => (Za (vD rfl (Zb (H1 _ _ (Zf fun K2 H2 => (Zf fun K3 H3 => (Za (vC rfl (Zb (H3 _ _ ?_))))))))))
 refine AW_loopH (n := 28) (h := h) hm (σ := Int) (τ := Unit) (fun g s => []) (fun g s => kp (kp (k0) 3 (.sc (.int .i64 s))) 0 (.sc (.string p0))) () (HOk.nil _) (LeF.s (.k2 .nil)) ?_ ?_
 rintro _ q0 x hk0 hm
 replace hm : M104_L0 fuel p0 q0 = some x := hm
 unfold M104_L0 at hm
 refine Zf fun K0 H4 => (Zf fun K4 H5 => (Za (vA rfl (s_v (o_mv (.sc (.string _)) rfl) (s_v (o_lent ln9 rfl) (vF rfl rfl rfl (Zb (H5 _ _ ?_))))))))
 refine AW_if' rfl (fun hc0 => ?_) (fun hc0 => ?_)
 have hm := Zi hm hc0
 refine Zl (H4 _ _ (Zf fun K5 H6 => (AW_block (Zf fun K6 H7 => ?_))))
 refine AW_joinH (n := 28) (h := h) hm (σ := Bool) (τ := Unit) (fun g s => []) (fun g s => kp (kp (kp (k0) 19 (.sc (.bool s))) 3 (.sc (.int .i64 q0))) 0 (.sc (.string p0))) (fun x hm => ?_) ?_
 refine Za (s_v (o_mv (.sc (.string _)) rfl) (vA rfl ?_))
 obtain ⟨x0, hx0, hm⟩ := Zc hm
 refine s_v (o_six hx0 u9 rfl rfl) (vF rfl rfl rfl (vB rfl ?_))
 rcases Bool.eq_false_or_eq_true (decide (x0 < 33)) with hb0 | hb0
 have hm := Zi hm hb0
 refine Zo rfl rfl hb0 (Zo rfl rfl hb0 (Zo rfl rfl hb0 (Zo rfl rfl hb0 (s_v (Zm (.sc (.bool _)) rfl hb0 rfl) (Zb ?_)))))
 cases hm
 exact ⟨rfl, (), hk0, LeF.s (.k3 .nil)⟩
 have hm := Zj hm hb0
 refine sg_y rfl rfl hb0 (s_v (o_mv (.sc (.string _)) rfl) (sg_y rfl rfl hb0 (vA rfl (sg_y rfl rfl hb0 ?_))))
 obtain ⟨x1, hx1, hm⟩ := Zc hm
 refine s_v (o_six hx1 u9 rfl rfl) (sg_y rfl rfl hb0 (vF rfl rfl rfl (s_v (Zn (.sc (.bool _)) rfl hb0 rfl) (Zb ?_))))
 cases hm
 exact ⟨rfl, (), hk0, LeF.s (.k3 .nil)⟩
 rintro _ j0 fr' h' hk1 hm le
 refine H7 _ _ (le.aw ?_)
 refine AW_if' rfl (fun hc1 => ?_) (fun hc1 => ?_)
 have hm := Zi hm hc1
 refine Zf fun K7 H8 => (Za (vD rfl (Zb (H8 _ _ (AW_ret ?_)))))
 cases hm
 refine ⟨⟨nofun, nofun⟩, fun he => ?_⟩
 subst he
 exact Ret.of1 (.inl rfl) (rsT _ _ (.sc (.bool _)) rfl) (Sub.refl _) (ALe.refl _ _) ⟨rfl, rfl⟩
 have hm := Zj hm hc1
 refine Zl (H6 _ _ (Za (vA rfl (vF rfl rfl rfl (vC rfl (Zb ?_))))))
 cases hm
 exact ⟨rfl, (), hk1, LeF.s (.k2 .nil)⟩
 have hm := Zj hm hc0
 refine AW_exit ?_
 refine Seq_exit ?_
 cases hm
 exact ⟨rfl, (), hk0, LeF.s (.k2 .nil)⟩
 rintro _ r0 fr' h' hk2 hm le
 refine H2 _ _ (le.aw ?_)
 refine Zf fun K8 H9 => ?_
 refine AW_joinH (n := 28) (h := h) hm (σ := Bool) (τ := Unit) (fun g s => []) (fun g s => kp (k0) 2 (.sc (.bool s))) (fun x hm => ?_) ?_
 refine Za (s_v (o_mv (.sc (.string _)) rfl) (s_v (o_lent ln9 rfl) (vF rfl rfl rfl (vB rfl ?_))))
 rcases Bool.eq_false_or_eq_true (decide (1 ≤ (p0.size : Int))) with hb1 | hb1
 have hm := Zi hm hb1
 refine sg_y rfl rfl hb1 (s_v (o_mv (.sc (.string _)) rfl) (sg_y rfl rfl hb1 (s_v (o_lent ln9 rfl) (sg_y rfl rfl hb1 (vF rfl rfl rfl (s_v (Zm (.sc (.bool _)) rfl hb1 rfl) (vD rfl (Zb ?_))))))))
 cases hm
 exact ⟨rfl, (), hk2, LeF.s (.cons (ALe.refl _ _) .nil)⟩
 have hm := Zj hm hb1
 refine Zo rfl rfl hb1 (Zo rfl rfl hb1 (Zo rfl rfl hb1 (s_v (Zn (.sc (.bool _)) rfl hb1 rfl) (vD rfl (Zb ?_)))))
 cases hm
 exact ⟨rfl, (), hk2, LeF.s (.cons (ALe.refl _ _) .nil)⟩
 rintro _ j1 fr' h' hk3 hm le
 refine H9 _ _ (le.aw ?_)
 refine AW_ret ?_
 have hmo := Option.some.inj hm; subst hmo
 exact Ret.of1 (.inl rfl) (rsT _ _ (.sc (.bool _)) rfl) (Sub.refl _) (ALe.refl _ _) ⟨rfl, rfl⟩
theorem bd104 : bodied Try.prog 104 = true := by kernel_rfl
def M62_L0 (fuel : Nat) (p0 : TManifest) (q0 : Int) : Option (Lp (Int) (Bool)) :=
 if (decide (q0 < (p0.Parts.length : Int))) = true then ((ix p0.Parts q0).bind fun x0 => after ((M104 fuel x0.Path).bind fun y0 => if (!y0) = true then (some (.brk true)) else if (decide (0 < q0)) = true then ((ix p0.Parts (IntKind.wrap .i64 (q0 - 1))).bind fun x1 => if (Op.bytesLess x0.Path.toList x1.Path.toList || x0.Path.toList == x1.Path.toList) = true then (some (.brk true)) else if (decide (x0.Size < 0)) = true then (some (.brk true)) else if (decide (200 < x0.Size)) = true then (some (.brk true)) else if (decide (25 < (x0.Ids.length : Int))) = true then (some (.brk true)) else some (.brk (((x0.Ids.length : Int) == 0) != (x0.Size == 0)))) else if (decide (x0.Size < 0)) = true then (some (.brk true)) else if (decide (200 < x0.Size)) = true then (some (.brk true)) else if (decide (25 < (x0.Ids.length : Int))) = true then (some (.brk true)) else some (.brk (((x0.Ids.length : Int) == 0) != (x0.Size == 0))) : Option (Lp (Bool) (Lp (Int) (Bool)))) fun j0 => if j0 = true then (some (.ret false)) else some (.go (IntKind.wrap .i64 (q0 + 1)))) else some (.brk q0)
def M62 (fuel : Nat) (p0 : TManifest) : Option (Bool) :=
 after ((M104 fuel p0.Name).bind fun y0 => if (!y0) = true then (some (.brk true)) else some (.brk (decide (6 < (p0.Parts.length : Int)))) : Option (Lp (Bool) (Bool))) fun j0 => if j0 = true then (some false) else after (loopM (fun s => M62_L0 fuel p0 s) fuel 0) fun r0 => some true
set_option maxHeartbeats 4000000 in
set_option maxRecDepth 100000 in
theorem W62 {fuel : Nat} {p0 : TManifest} {o : Bool} (h : Heap) (hm : M62 fuel p0 = some o) :
 ACalls Try.prog 62 [.agg (c_Manifest p0)] h (fun r h' => r = .sc (.bool o) ∧ h' = h) := by
 refine ACalls_hp 73 [.tmp 2] Try.func62 rfl rfl rfl rfl ?_
 unfold M62 at hm
 refine Zf fun K1 H1 => (Za ?_)
 refine s_op (a_box (HOk.nil _) rfl rfl fun k2 hk3 => ?_)
 refine vD rfl (Zb (H1 _ _ (Zf fun K5 H5 => (Zf fun K6 H6 => ?_))))
 refine AW_joinH (n := 73) (h := h) hm (σ := Bool) (τ := Unit) (fun g s => [(some k2, .obj 57 (c_Manifest p0))]) (fun g s => kp (kp (k0) 14 (.sc (.bool s))) 1 (.ptr k2 0)) (fun x hm => ?_) ?_
 refine Za (s_v (Zh fd57_0 rfl rfl) (s_v (Zg (.sc (.string p0.Name)) ld9 rfl (Zd 0 hk3 rfl) rfl) ?_))
 obtain ⟨y0, hy0, hm⟩ := Zc hm
 refine s_v (o_call (W104 _ hy0) rfl bd104 rfl) (s_v (o_not rfl) (vB rfl ?_))
 rcases Bool.eq_false_or_eq_true (!y0) with hb0 | hb0
 have hm := Zi hm hb0
 refine Zo rfl rfl hb0 (Zo rfl rfl hb0 (Zo rfl rfl hb0 (Zo rfl rfl hb0 (s_v (Zm (.sc (.bool _)) rfl hb0 rfl) (Zb ?_)))))
 cases hm
 exact ⟨rfl, (), hk3, LeF.s (.k2 .nil)⟩
 have hm := Zj hm hb0
 refine sg_y rfl rfl hb0 (s_v (Zh fd57_1 rfl rfl) (sg_y rfl rfl hb0 (s_v (Zg (.sl none 3 (List.map c_Part p0.Parts)) ld55 rfl (Zd 0 hk3 rfl) rfl) (sg_y rfl rfl hb0 (s_v (o_lenm ln55 rfl) (sg_y rfl rfl hb0 (vF rfl rfl rfl (s_v (Zn (.sc (.bool _)) rfl hb0 rfl) (Zb ?_)))))))))
 cases hm
 exact ⟨rfl, (), hk3, LeF.s (.k2 .nil)⟩
 rintro _ j0 fr' h' hk0 hm le
 refine H6 _ _ (le.aw ?_)
 refine AW_if' rfl (fun hc0 => ?_) (fun hc0 => ?_)
 have hm := Zi hm hc0
 refine Zf fun K0 H2 => (Za (vD rfl (Zb (H2 _ _ (AW_ret ?_)))))
 have hmo := Option.some.inj hm; subst hmo
 exact Ret.of1 (.inl rfl) (rsT _ _ (.sc (.bool _)) rfl) (hp_sub (List.nil_sublist _) hk0).1 (ALe.refl _ _) ⟨rfl, rfl⟩
 have hm := Zj hm hc0
 refine Zl (H5 _ _ (Zf fun K2 H3 => (Zf fun K3 H4 => (Za (vC rfl (Zb (H4 _ _ ?_)))))))
 refine AW_loopH (n := 73) (h := h) hm (σ := Int) (τ := Unit) (fun g s => [(some k2, .obj 57 (c_Manifest p0))]) (fun g s => kp (kp (k0) 3 (.sc (.int .i64 s))) 1 (.ptr k2 0)) () hk0 (LeF.s (.k2 .nil)) ?_ ?_
 rintro _ q0 x hk1 hm
 replace hm : M62_L0 fuel p0 q0 = some x := hm
 unfold M62_L0 at hm
 refine Zf fun K4 H7 => (Zf fun K7 H8 => (Za (vA rfl (s_v (Zh fd57_1 rfl rfl) (s_v (Zg (.sl none 3 (List.map c_Part p0.Parts)) ld55 rfl (Zd 0 hk1 rfl) rfl) (s_v (o_lenm ln55 rfl) (vF rfl rfl rfl (Zb (H8 _ _ ?_)))))))))
 refine AW_if' rfl (fun hc1 => ?_) (fun hc1 => ?_)
 have hm := Zi hm hc1
 refine Zl (H7 _ _ (Zf fun K8 H9 => (AW_block (Zf fun K9 H10 => (Za (s_v (Zh fd57_1 rfl rfl) (s_v (Zg (.sl none 3 (List.map c_Part p0.Parts)) ld55 rfl (Zd 0 hk1 rfl) rfl) (vA rfl ?_))))))))
 obtain ⟨x0, hx0, hm⟩ := Zc hm
 refine s_v (o_ix hx0 el55 rfl rfl) (s_v (o_ld (.agg (c_Part x0)) ld82 rfl rfl) ?_)
 refine s_op (a_alloc ([.sc (.string ByteArray.empty), .sc (.int .i64 0), .sc (.slice none 0 0)]) hk1 zr82 rfl rfl fun k113 hk2 => ?_)
 refine s_op (a_store 0 (c_Part x0) hk2 rfl rfl rfl rfl sz82 rfl rfl fun hk4 => ?_)
 refine Zb (H10 _ _ (Zf fun K10 H11 => ?_))
 refine AW_joinH (n := 73) (h := h) hm (σ := Bool) (τ := Unit) (fun g s => [(some k113, .obj 82 (c_Part x0)), (some k2, .obj 57 (c_Manifest p0))]) (fun g s => kp (kp (kp (k0) 72 (.sc (.bool s))) 3 (.sc (.int .i64 q0))) 1 (.ptr k2 0)) (fun x hm => ?_) ?_
 refine AW_rq mixed (by kernel_rfl) ?_
 refine q_v (Zh fd82_0 rfl rfl) (q_v (Zg (.sc (.string x0.Path)) ld9 rfl (Zd 0 hk4 rfl) rfl) ?_)
 obtain ⟨y1, hy1, hm⟩ := Zc hm
 refine q_v (o_call (W104 _ hy1) rfl bd104 rfl) (q_v (o_not rfl) (wB rfl ?_))
 rcases Bool.eq_false_or_eq_true (!y1) with hb1 | hb1
 have hm := Zi hm hb1
 refine Ze rfl rfl hb1 (Ze rfl rfl hb1 (Ze rfl rfl hb1 (qg_u rfl rfl (qg_u rfl rfl (qg_u rfl rfl (qg_u rfl rfl (qg_u rfl rfl (qg_u rfl rfl (qg_u rfl rfl (qg_u rfl rfl (qg_u rfl rfl (qg_u rfl rfl (Ze rfl rfl hb1 (q_v (Zm (.sc (.bool _)) rfl hb1 rfl) (wB rfl ?_)))))))))))))))
 refine Ze rfl rfl rfl (Ze rfl rfl rfl (Ze rfl rfl rfl (q_v (Zm (.sc (.bool _)) rfl rfl rfl) (wB rfl (Ze rfl rfl rfl (Ze rfl rfl rfl (Ze rfl rfl rfl (q_v (Zm (.sc (.bool _)) rfl rfl rfl) (wB rfl (Ze rfl rfl rfl (Ze rfl rfl rfl (Ze rfl rfl rfl (Ze rfl rfl rfl (q_v (Zm (.sc (.bool _)) rfl rfl rfl) (wB rfl ?_)))))))))))))))
 refine Ze rfl rfl rfl (Ze rfl rfl rfl (Ze rfl rfl rfl (Ze rfl rfl rfl (Ze rfl rfl rfl (Ze rfl rfl rfl (Ze rfl rfl rfl (Ze rfl rfl rfl (q_v (Zm (.sc (.bool _)) rfl rfl rfl) (q_nil ?_)))))))))
 cases hm
 exact ⟨rfl, (), hk4, LeF.s (.k3 .nil)⟩
 have hm := Zj hm hb1
 refine Zk rfl rfl hb1 (wA rfl (Zk rfl rfl hb1 (wF rfl rfl rfl (Zk rfl rfl hb1 (wB rfl ?_)))))
 rcases Bool.eq_false_or_eq_true (decide (0 < q0)) with hb2 | hb2
 have hm := Zi hm hb2
 refine Zk rfl rfl hb2 (q_v (Zh fd82_0 rfl rfl) (Zk rfl rfl hb2 (q_v (Zg (.sc (.string x0.Path)) ld9 rfl (Zd 0 hk4 rfl) rfl) (Zk rfl rfl hb2 (q_v (Zh fd57_1 rfl rfl) (Zk rfl rfl hb2 (q_v (Zg (.sl none 3 (List.map c_Part p0.Parts)) ld55 rfl (Zd 1 hk4 rfl) rfl) (Zk rfl rfl hb2 (wA rfl (Zk rfl rfl hb2 (wF rfl rfl rfl (Zk rfl rfl hb2 ?_))))))))))))
 obtain ⟨x1, hx1, hm⟩ := Zc hm
 refine q_v (o_ix hx1 el55 rfl rfl) (Zk rfl rfl hb2 (q_v (o_fl fd82_0 rfl rfl) (Zk rfl rfl hb2 (q_v (o_ld (.sc (.string x1.Path)) ld9 rfl rfl) (Zk rfl rfl hb2 (q_v (o_bs rfl rfl rfl trivial) (Zk rfl rfl hb1 (q_v (Zm (.sc (.bool _)) rfl hb2 rfl) (q_v (Zn (.sc (.bool _)) rfl hb1 rfl) (wB rfl ?_))))))))))
 rcases Bool.eq_false_or_eq_true (Op.bytesLess x0.Path.toList x1.Path.toList || x0.Path.toList == x1.Path.toList) with hb3 | hb3
 have hm := Zi hm hb3
 refine Ze rfl rfl hb3 (Ze rfl rfl hb3 (Ze rfl rfl hb3 (q_v (Zm (.sc (.bool _)) rfl hb3 rfl) (wB rfl (Ze rfl rfl rfl (Ze rfl rfl rfl (Ze rfl rfl rfl (q_v (Zm (.sc (.bool _)) rfl rfl rfl) (wB rfl (Ze rfl rfl rfl (Ze rfl rfl rfl (Ze rfl rfl rfl (Ze rfl rfl rfl (q_v (Zm (.sc (.bool _)) rfl rfl rfl) (wB rfl ?_)))))))))))))))
 refine Ze rfl rfl rfl (Ze rfl rfl rfl (Ze rfl rfl rfl (Ze rfl rfl rfl (Ze rfl rfl rfl (Ze rfl rfl rfl (Ze rfl rfl rfl (Ze rfl rfl rfl (q_v (Zm (.sc (.bool _)) rfl rfl rfl) (q_nil ?_)))))))))
 cases hm
 exact ⟨rfl, (), hk4, LeF.s (.k3 .nil)⟩
 have hm := Zj hm hb3
 refine Zk rfl rfl hb3 (q_v (Zh fd82_1 rfl rfl) (Zk rfl rfl hb3 (q_v (Zg (.sc (.int .i64 x0.Size)) ld3 rfl (Zd 0 hk4 rfl) rfl) (Zk rfl rfl hb3 (wF rfl rfl rfl (q_v (Zn (.sc (.bool _)) rfl hb3 rfl) (wB rfl ?_)))))))
 rcases Bool.eq_false_or_eq_true (decide (x0.Size < 0)) with hb4 | hb4
 have hm := Zi hm hb4
 refine Ze rfl rfl hb4 (Ze rfl rfl hb4 (Ze rfl rfl hb4 (q_v (Zm (.sc (.bool _)) rfl hb4 rfl) (wB rfl (Ze rfl rfl rfl (Ze rfl rfl rfl (Ze rfl rfl rfl (Ze rfl rfl rfl (q_v (Zm (.sc (.bool _)) rfl rfl rfl) (wB rfl (Ze rfl rfl rfl (Ze rfl rfl rfl (Ze rfl rfl rfl (Ze rfl rfl rfl (Ze rfl rfl rfl ?_)))))))))))))))
 refine Ze rfl rfl rfl (Ze rfl rfl rfl (Ze rfl rfl rfl (q_v (Zm (.sc (.bool _)) rfl rfl rfl) (q_nil ?_))))
 cases hm
 exact ⟨rfl, (), hk4, LeF.s (.k3 .nil)⟩
 have hm := Zj hm hb4
 refine Zk rfl rfl hb4 (q_v (Zh fd82_1 rfl rfl) (Zk rfl rfl hb4 (q_v (Zg (.sc (.int .i64 x0.Size)) ld3 rfl (Zd 0 hk4 rfl) rfl) (Zk rfl rfl hb4 (wF rfl rfl rfl (q_v (Zn (.sc (.bool _)) rfl hb4 rfl) (wB rfl ?_)))))))
 rcases Bool.eq_false_or_eq_true (decide (200 < x0.Size)) with hb5 | hb5
 have hm := Zi hm hb5
 refine Ze rfl rfl hb5 (Ze rfl rfl hb5 (Ze rfl rfl hb5 (Ze rfl rfl hb5 (q_v (Zm (.sc (.bool _)) rfl hb5 rfl) (wB rfl (Ze rfl rfl rfl (Ze rfl rfl rfl (Ze rfl rfl rfl (Ze rfl rfl rfl (Ze rfl rfl rfl (Ze rfl rfl rfl (Ze rfl rfl rfl (Ze rfl rfl rfl (q_v (Zm (.sc (.bool _)) rfl rfl rfl) (q_nil ?_)))))))))))))))
 cases hm
 exact ⟨rfl, (), hk4, LeF.s (.k3 .nil)⟩
 have hm := Zj hm hb5
 refine Zk rfl rfl hb5 (q_v (Zh fd82_2 rfl rfl) (Zk rfl rfl hb5 (q_v (Zg (.sl none 32 (List.map c_id x0.Ids)) ld80 rfl (Zd 0 hk4 rfl) rfl) (Zk rfl rfl hb5 (q_v (o_lenm ln80 rfl) (Zk rfl rfl hb5 (wF rfl rfl rfl (q_v (Zn (.sc (.bool _)) rfl hb5 rfl) (wB rfl ?_)))))))))
 rcases Bool.eq_false_or_eq_true (decide (25 < (x0.Ids.length : Int))) with hb6 | hb6
 have hm := Zi hm hb6
 refine Ze rfl rfl hb6 (Ze rfl rfl hb6 (Ze rfl rfl hb6 (Ze rfl rfl hb6 (Ze rfl rfl hb6 (Ze rfl rfl hb6 (Ze rfl rfl hb6 (Ze rfl rfl hb6 (q_v (Zm (.sc (.bool _)) rfl hb6 rfl) (q_nil ?_)))))))))
 cases hm
 exact ⟨rfl, (), hk4, LeF.s (.k3 .nil)⟩
 have hm := Zj hm hb6
 refine Zk rfl rfl hb6 (q_v (Zh fd82_2 rfl rfl) (Zk rfl rfl hb6 (q_v (Zg (.sl none 32 (List.map c_id x0.Ids)) ld80 rfl (Zd 0 hk4 rfl) rfl) (Zk rfl rfl hb6 (q_v (o_lenm ln80 rfl) (Zk rfl rfl hb6 (wF rfl rfl rfl (Zk rfl rfl hb6 (q_v (Zh fd82_1 rfl rfl) (Zk rfl rfl hb6 (q_v (Zg (.sc (.int .i64 x0.Size)) ld3 rfl (Zd 0 hk4 rfl) rfl) (Zk rfl rfl hb6 (wF rfl rfl rfl (Zk rfl rfl hb6 (q_v (o_bb u4 rfl rfl rfl) ?_)))))))))))))))
 refine q_v (Zn (.sc (.bool _)) rfl hb6 rfl) (q_nil ?_)
 cases hm
 exact ⟨rfl, (), hk4, LeF.s (.k3 .nil)⟩
 have hm := Zj hm hb2
 refine Ze rfl rfl hb2 (Ze rfl rfl hb2 (Ze rfl rfl hb2 (Ze rfl rfl hb2 (Ze rfl rfl hb2 (Ze rfl rfl hb2 (Ze rfl rfl hb2 (Ze rfl rfl hb2 (Ze rfl rfl hb2 (Ze rfl rfl hb2 (Zk rfl rfl hb1 (q_v (Zn (.sc (.bool _)) rfl hb2 rfl) (q_v (Zn (.sc (.bool _)) rfl hb1 rfl) (wB rfl (Zk rfl rfl rfl (q_v (Zh fd82_1 rfl rfl) ?_)))))))))))))))
 refine Zk rfl rfl rfl (q_v (Zg (.sc (.int .i64 x0.Size)) ld3 rfl (Zd 0 hk4 rfl) rfl) (Zk rfl rfl rfl (wF rfl rfl rfl (q_v (Zn (.sc (.bool _)) rfl rfl rfl) (wB rfl ?_)))))
 rcases Bool.eq_false_or_eq_true (decide (x0.Size < 0)) with hb7 | hb7
 have hm := Zi hm hb7
 refine Ze rfl rfl hb7 (Ze rfl rfl hb7 (Ze rfl rfl hb7 (q_v (Zm (.sc (.bool _)) rfl hb7 rfl) (wB rfl (Ze rfl rfl rfl (Ze rfl rfl rfl (Ze rfl rfl rfl (Ze rfl rfl rfl (q_v (Zm (.sc (.bool _)) rfl rfl rfl) (wB rfl (Ze rfl rfl rfl (Ze rfl rfl rfl (Ze rfl rfl rfl (Ze rfl rfl rfl (Ze rfl rfl rfl ?_)))))))))))))))
 refine Ze rfl rfl rfl (Ze rfl rfl rfl (Ze rfl rfl rfl (q_v (Zm (.sc (.bool _)) rfl rfl rfl) (q_nil ?_))))
 cases hm
 exact ⟨rfl, (), hk4, LeF.s (.k3 .nil)⟩
 have hm := Zj hm hb7
 refine Zk rfl rfl hb7 (q_v (Zh fd82_1 rfl rfl) (Zk rfl rfl hb7 (q_v (Zg (.sc (.int .i64 x0.Size)) ld3 rfl (Zd 0 hk4 rfl) rfl) (Zk rfl rfl hb7 (wF rfl rfl rfl (q_v (Zn (.sc (.bool _)) rfl hb7 rfl) (wB rfl ?_)))))))
 rcases Bool.eq_false_or_eq_true (decide (200 < x0.Size)) with hb8 | hb8
 have hm := Zi hm hb8
 refine Ze rfl rfl hb8 (Ze rfl rfl hb8 (Ze rfl rfl hb8 (Ze rfl rfl hb8 (q_v (Zm (.sc (.bool _)) rfl hb8 rfl) (wB rfl (Ze rfl rfl rfl (Ze rfl rfl rfl (Ze rfl rfl rfl (Ze rfl rfl rfl (Ze rfl rfl rfl (Ze rfl rfl rfl (Ze rfl rfl rfl (Ze rfl rfl rfl (q_v (Zm (.sc (.bool _)) rfl rfl rfl) (q_nil ?_)))))))))))))))
 cases hm
 exact ⟨rfl, (), hk4, LeF.s (.k3 .nil)⟩
 have hm := Zj hm hb8
 refine Zk rfl rfl hb8 (q_v (Zh fd82_2 rfl rfl) (Zk rfl rfl hb8 (q_v (Zg (.sl none 32 (List.map c_id x0.Ids)) ld80 rfl (Zd 0 hk4 rfl) rfl) (Zk rfl rfl hb8 (q_v (o_lenm ln80 rfl) (Zk rfl rfl hb8 (wF rfl rfl rfl (q_v (Zn (.sc (.bool _)) rfl hb8 rfl) (wB rfl ?_)))))))))
 rcases Bool.eq_false_or_eq_true (decide (25 < (x0.Ids.length : Int))) with hb9 | hb9
 have hm := Zi hm hb9
 refine Ze rfl rfl hb9 (Ze rfl rfl hb9 (Ze rfl rfl hb9 (Ze rfl rfl hb9 (Ze rfl rfl hb9 (Ze rfl rfl hb9 (Ze rfl rfl hb9 (Ze rfl rfl hb9 (q_v (Zm (.sc (.bool _)) rfl hb9 rfl) (q_nil ?_)))))))))
 cases hm
 exact ⟨rfl, (), hk4, LeF.s (.k3 .nil)⟩
 have hm := Zj hm hb9
 refine Zk rfl rfl hb9 (q_v (Zh fd82_2 rfl rfl) (Zk rfl rfl hb9 (q_v (Zg (.sl none 32 (List.map c_id x0.Ids)) ld80 rfl (Zd 0 hk4 rfl) rfl) (Zk rfl rfl hb9 (q_v (o_lenm ln80 rfl) (Zk rfl rfl hb9 (wF rfl rfl rfl (Zk rfl rfl hb9 (q_v (Zh fd82_1 rfl rfl) (Zk rfl rfl hb9 (q_v (Zg (.sc (.int .i64 x0.Size)) ld3 rfl (Zd 0 hk4 rfl) rfl) (Zk rfl rfl hb9 (wF rfl rfl rfl (Zk rfl rfl hb9 (q_v (o_bb u4 rfl rfl rfl) ?_)))))))))))))))
 refine q_v (Zn (.sc (.bool _)) rfl hb9 rfl) (q_nil ?_)
 cases hm
 exact ⟨rfl, (), hk4, LeF.s (.k3 .nil)⟩
 rintro _ j1 fr' h' hk5 hm le
 refine H11 _ _ (le.aw ?_)
 refine AW_if' rfl (fun hc2 => ?_) (fun hc2 => ?_)
 have hm := Zi hm hc2
 refine Zf fun K11 H12 => (Za (vD rfl (Zb (H12 _ _ (AW_ret ?_)))))
 cases hm
 refine ⟨⟨nofun, nofun⟩, fun he => ?_⟩
 subst he
 exact Ret.of1 (.inl rfl) (rsT _ _ (.sc (.bool _)) rfl) (hp_sub (List.nil_sublist _) hk5).1 (ALe.refl _ _) ⟨rfl, rfl⟩
 have hm := Zj hm hc2
 refine Zl (H9 _ _ (Za (vA rfl (vF rfl rfl rfl (vC rfl (Zb ?_))))))
 cases hm
 exact ⟨rfl, (), (hp_sub (.cons _ (.refl _)) hk5).2, LeF.fm ((hp_sub (.cons _ (.refl _)) hk5).1) (.k2 .nil)⟩
 have hm := Zj hm hc1
 refine AW_exit ?_
 refine Seq_exit ?_
 cases hm
 exact ⟨rfl, (), hk1, LeF.s (.k2 .nil)⟩
 rintro _ r0 fr' h' hk6 hm le
 refine H3 _ _ (le.aw ?_)
 refine Zf fun K12 H13 => (Za (vD rfl (Zb (H13 _ _ (AW_ret ?_)))))
 have hmo := Option.some.inj hm; subst hmo
 exact Ret.of1 (.inl rfl) (rsT _ _ (.sc (.bool _)) rfl) (hp_sub (List.nil_sublist _) hk6).1 (ALe.refl _ _) ⟨rfl, rfl⟩
theorem bd62 : bodied Try.prog 62 = true := by kernel_rfl
def M128_L0 (fuel : Nat) (p0 : Id32) (p1 : Id32) (q0 : Int) : Option (Lp (Int) (Bool)) :=
 if (decide (q0 < 32)) = true then ((ix p0.1 q0).bind fun x0 => (ix p1.1 q0).bind fun x1 => if (x0 != x1) = true then ((ix p0.1 q0).bind fun x2 => (ix p1.1 q0).bind fun x3 => some (.ret (decide (x2 < x3)))) else some (.go (IntKind.wrap .i64 (q0 + 1)))) else some (.brk q0)
def M128 (fuel : Nat) (p0 : Id32) (p1 : Id32) : Option (Bool) :=
 after (loopM (fun s => M128_L0 fuel p0 p1 s) fuel 0) fun r0 => some false
set_option maxHeartbeats 4000000 in
set_option maxRecDepth 100000 in
theorem W128 {fuel : Nat} {p0 : Id32} {p1 : Id32} {o : Bool} (h : Heap) (hm : M128 fuel p0 p1 = some o) :
 ACalls Try.prog 128 [.agg (c_id p0), .agg (c_id p1)] h (fun r h' => r = .sc (.bool o) ∧ h' = h) := by
 refine ACalls_hp 24 [.tmp 4] Try.func128 rfl rfl rfl rfl ?_
 unfold M128 at hm
 refine Zf fun K1 H1 => (Za ?_)
 refine s_op (a_box (HOk.nil _) rfl rfl fun k2 hk3 => ?_)
 refine s_op (a_box hk3 rfl rfl fun k5 hk6 => ?_)
 refine vD rfl (Zb (H1 _ _ (Zf fun K8 H8 => (Zf fun K9 H9 => (Za (vC rfl (Zb (H9 _ _ ?_))))))))
 refine AW_loopH (n := 24) (h := h) hm (σ := Int) (τ := Unit) (fun g s => [(some k5, .obj 61 (c_id p1)), (some k2, .obj 61 (c_id p0))]) (fun g s => kp (kp (kp (k0) 5 (.sc (.int .i64 s))) 3 (.ptr k5 0)) 2 (.ptr k2 0)) () hk6 (LeF.s (.k3 .nil)) ?_ ?_
 rintro _ q0 x hk0 hm
 replace hm : M128_L0 fuel p0 p1 q0 = some x := hm
 unfold M128_L0 at hm
 refine Zf fun K0 H2 => (Zf fun K2 H3 => (Za (vA rfl (vF rfl rfl rfl (Zb (H3 _ _ ?_))))))
 refine AW_if' rfl (fun hc0 => ?_) (fun hc0 => ?_)
 have hm := Zi hm hc0
 refine Zl (H2 _ _ (Zf fun K3 H4 => (AW_block (Zf fun K4 H5 => ?_))))
 refine AW_rq mixed (by kernel_rfl) ?_
 refine wA rfl ?_
 obtain ⟨x0, hx0, hm⟩ := Zc hm
 refine q_v (o_ixidp hx0 ar61 rfl rfl) (q_v (o_ldidp 0 hx0 ld5 rfl (Zd 1 hk0 rfl) rfl) (wA rfl ?_))
 obtain ⟨x1, hx1, hm⟩ := Zc hm
 refine q_v (o_ixidp hx1 ar61 rfl rfl) (q_v (o_ldidp 0 hx1 ld5 rfl (Zd 0 hk0 rfl) rfl) (wF rfl rfl rfl (q_nil (H5 _ _ ?_))))
 refine AW_if' rfl (fun hc1 => ?_) (fun hc1 => ?_)
 have hm := Zi hm hc1
 refine Zf fun K5 H6 => ?_
 refine AW_rq mixed (by kernel_rfl) ?_
 refine wA rfl ?_
 obtain ⟨x2, hx2, hm⟩ := Zc hm
 refine q_v (o_ixidp hx2 ar61 rfl rfl) (q_v (o_ldidp 0 hx2 ld5 rfl (Zd 1 hk0 rfl) rfl) (wA rfl ?_))
 obtain ⟨x3, hx3, hm⟩ := Zc hm
 refine q_v (o_ixidp hx3 ar61 rfl rfl) (q_v (o_ldidp 0 hx3 ld5 rfl (Zd 0 hk0 rfl) rfl) (wF rfl rfl rfl (wD rfl (q_nil (H6 _ _ (AW_ret ?_))))))
 cases hm
 refine ⟨⟨nofun, nofun⟩, fun he => ?_⟩
 subst he
 exact Ret.of1 (.inl rfl) (rsT _ _ (.sc (.bool _)) rfl) (hp_sub (List.nil_sublist _) hk0).1 (ALe.refl _ _) ⟨rfl, rfl⟩
 have hm := Zj hm hc1
 refine Zl (H4 _ _ (Za (vA rfl (vF rfl rfl rfl (vC rfl (Zb ?_))))))
 cases hm
 exact ⟨rfl, (), hk0, LeF.s (.k3 .nil)⟩
 have hm := Zj hm hc0
 refine AW_exit ?_
 refine Seq_exit ?_
 cases hm
 exact ⟨rfl, (), hk0, LeF.s (.k3 .nil)⟩
 rintro _ r0 fr' h' hk1 hm le
 refine H8 _ _ (le.aw ?_)
 refine Zf fun K6 H7 => (Za (vD rfl (Zb (H7 _ _ (AW_ret ?_)))))
 have hmo := Option.some.inj hm; subst hmo
 exact Ret.of1 (.inl rfl) (rsT _ _ (.sc (.bool _)) rfl) (hp_sub (List.nil_sublist _) hk1).1 (ALe.refl _ _) ⟨rfl, rfl⟩
theorem bd128 : bodied Try.prog 128 = true := by kernel_rfl
def M105_L0 (fuel : Nat) (p0 : List Id32) (p1 : Id32) (q0 : Int) : Option (Lp (Int) ((List Id32) × Int × Bool)) :=
 after (if (decide (q0 < (p0.length : Int))) = true then ((ix p0 q0).bind fun x0 => (M128 fuel x0 p1).bind fun y0 => some (.brk y0)) else some (.brk false) : Option (Lp (Bool) (Lp (Int) ((List Id32) × Int × Bool)))) fun j0 => if j0 = true then (some (.go (IntKind.wrap .i64 (q0 + 1)))) else some (.brk q0)
def M105 (fuel : Nat) (p0 : List Id32) (p1 : Id32) : Option ((List Id32) × Int × Bool) :=
 after (loopM (fun s => M105_L0 fuel p0 p1 s) fuel 0) fun r0 => after (if (decide (r0 < (p0.length : Int))) = true then ((ix p0 r0).bind fun x0 => some (.brk (decide (x0 = p1)))) else some (.brk false) : Option (Lp (Bool) ((List Id32) × Int × Bool))) fun j0 => if j0 = true then (some (p0, r0, false)) else (slc p0 0 r0).bind fun x1 => (app ([] : List Id32) x1).bind fun z0 => (app z0 ([p1] : List Id32)).bind fun z1 => (slc p0 r0 (p0).length).bind fun x2 => (app z1 x2).bind fun z2 => some (z2, r0, true)
set_option maxHeartbeats 4000000 in
set_option maxRecDepth 100000 in
theorem W105 {fuel : Nat} {p0 : List Id32} {p1 : Id32} {o : (List Id32) × Int × Bool} (h : Heap) (hm : M105 fuel p0 p1 = some o) :
 ACalls Try.prog 105 [.sl none 32 (List.map c_id p0), .agg (c_id p1)] h (fun r h' => r = .tup [.sl none 32 (List.map c_id o.1), .sc (.int .i64 o.2.1), .sc (.bool o.2.2)] ∧ h' = h) := by
 refine ACalls_hp 51 [.tmp 4, .tmp 5, .tmp 6] Try.func105 rfl rfl rfl rfl ?_
 unfold M105 at hm
 refine Zf fun K1 H1 => (Za ?_)
 refine s_op (a_box (HOk.nil _) rfl rfl fun k2 hk3 => ?_)
 refine s_v (o_as (.sc (.slice _ _ _)) rfl) (vC rfl (vD rfl (Zb (H1 _ _ (Zf fun K5 H5 => (Za (vC rfl (Zb (H5 _ _ (Zf fun K6 H6 => ?_))))))))))
 refine AW_loopH (n := 51) (h := h) hm (σ := Int) (τ := Unit) (fun g s => [(some k2, .obj 61 (c_id p1))]) (fun g s => kp (kp (kp (k0) 7 (.sc (.int .i64 s))) 3 (.ptr k2 0)) 0 (.sl none 32 (List.map c_id p0))) () hk3 (LeF.s (.k3 .nil)) ?_ ?_
 rintro _ q0 x hk0 hm
 replace hm : M105_L0 fuel p0 p1 q0 = some x := hm
 unfold M105_L0 at hm
 refine Zf fun K0 H2 => (Zf fun K2 H3 => ?_)
 refine AW_joinH (n := 51) (h := h) hm (σ := Bool) (τ := Unit) (fun g s => [(some k2, .obj 61 (c_id p1))]) (fun g s => kp (kp (kp (kp (k0) 20 (.sc (.bool s))) 7 (.sc (.int .i64 q0))) 3 (.ptr k2 0)) 0 (.sl none 32 (List.map c_id p0))) (fun x hm => ?_) ?_
 refine AW_rq mixed (by kernel_rfl) ?_
 refine wA rfl (wE rfl (q_v (o_lenm ln80 rfl) (wF rfl rfl rfl (wB rfl ?_))))
 rcases Bool.eq_false_or_eq_true (decide (q0 < (p0.length : Int))) with hb0 | hb0
 have hm := Zi hm hb0
 refine Zk rfl rfl hb0 (wE rfl (Zk rfl rfl hb0 (wA rfl (Zk rfl rfl hb0 ?_))))
 obtain ⟨x0, hx0, hm⟩ := Zc hm
 refine q_v (o_ix hx0 el80 rfl rfl) (Zk rfl rfl hb0 (q_v (o_ld (.agg (c_id x0)) ld61 rfl rfl) (Zk rfl rfl hb0 (q_v (Zg (.agg (c_id p1)) ld61 rfl (Zd 0 hk0 rfl) rfl) (Zk rfl rfl hb0 ?_)))))
 obtain ⟨y0, hy0, hm⟩ := Zc hm
 refine q_v (o_call (W128 _ hy0) rfl bd128 rfl) (q_v (Zm (.sc (.bool _)) rfl hb0 rfl) (q_nil ?_))
 cases hm
 exact ⟨rfl, (), hk0, LeF.s (.k4 .nil)⟩
 have hm := Zj hm hb0
 refine Ze rfl rfl hb0 (Ze rfl rfl hb0 (Ze rfl rfl hb0 (Ze rfl rfl hb0 (Ze rfl rfl hb0 (Ze rfl rfl hb0 (q_v (Zn (.sc (.bool _)) rfl hb0 rfl) (q_nil ?_)))))))
 cases hm
 exact ⟨rfl, (), hk0, LeF.s (.k4 .nil)⟩
 rintro _ j0 fr' h' hk1 hm le
 refine H3 _ _ (le.aw ?_)
 refine AW_if' rfl (fun hc0 => ?_) (fun hc0 => ?_)
 have hm := Zi hm hc0
 refine Zl (H2 _ _ (AW_block (Za (vA rfl (vF rfl rfl rfl (vC rfl (Zb ?_)))))))
 cases hm
 exact ⟨rfl, (), hk1, LeF.s (.k3 .nil)⟩
 have hm := Zj hm hc0
 refine AW_exit ?_
 refine Seq_exit ?_
 cases hm
 exact ⟨rfl, (), hk1, LeF.s (.k3 .nil)⟩
 rintro _ r0 fr' h' hk2 hm le
 refine H6 _ _ (le.aw ?_)
 refine Zf fun K3 H4 => (Zf fun K4 H7 => ?_)
 refine AW_joinH (n := 51) (h := h) hm (σ := Bool) (τ := Unit) (fun g s => [(some k2, .obj 61 (c_id p1))]) (fun g s => kp (kp (kp (kp (k0) 34 (.sc (.bool s))) 7 (.sc (.int .i64 r0))) 3 (.ptr k2 0)) 0 (.sl none 32 (List.map c_id p0))) (fun x hm => ?_) ?_
 refine AW_rq mixed (by kernel_rfl) ?_
 refine wA rfl (wE rfl (q_v (o_lenm ln80 rfl) (wF rfl rfl rfl (wB rfl ?_))))
 rcases Bool.eq_false_or_eq_true (decide (r0 < (p0.length : Int))) with hb1 | hb1
 have hm := Zi hm hb1
 refine Zk rfl rfl hb1 (wE rfl (Zk rfl rfl hb1 (wA rfl (Zk rfl rfl hb1 ?_))))
 obtain ⟨x1, hx1, hm⟩ := Zc hm
 refine q_v (o_ix hx1 el80 rfl rfl) (Zk rfl rfl hb1 (q_v (o_ld (.agg (c_id x1)) ld61 rfl rfl) (Zk rfl rfl hb1 (q_v (Zg (.agg (c_id p1)) ld61 rfl (Zd 0 hk2 rfl) rfl) (Zk rfl rfl hb1 (q_v (o_ide eg61 u61 u5 ld5 rfl rfl) (q_v (Zm (.sc (.bool _)) rfl hb1 rfl) (q_nil ?_))))))))
 cases hm
 exact ⟨rfl, (), hk2, LeF.s (.k4 .nil)⟩
 have hm := Zj hm hb1
 refine Ze rfl rfl hb1 (Ze rfl rfl hb1 (Ze rfl rfl hb1 (Ze rfl rfl hb1 (Ze rfl rfl hb1 (Ze rfl rfl hb1 (q_v (Zn (.sc (.bool _)) rfl hb1 rfl) (q_nil ?_)))))))
 cases hm
 exact ⟨rfl, (), hk2, LeF.s (.k4 .nil)⟩
 rintro _ j1 fr' h' hk4 hm le
 refine H7 _ _ (le.aw ?_)
 refine AW_if' rfl (fun hc1 => ?_) (fun hc1 => ?_)
 have hm := Zi hm hc1
 refine Zf fun K7 H8 => (Za (vE rfl (vA rfl (s_v (o_as (.sl _ _ _) rfl) (vC rfl (vD rfl (Zb (H8 _ _ (AW_ret ?_)))))))))
 have hmo := Option.some.inj hm; subst hmo
 exact Ret.of3 (.inl rfl) (rsT _ _ (.sl _ _ _) rfl) (rsT _ _ (.sc (.int _ _)) rfl) (rsT _ _ (.sc (.bool _)) rfl) (hp_sub (List.nil_sublist _) hk4).1 (ALe.refl _ _) (ALe.refl _ _) (ALe.refl _ _) ⟨rfl, rfl⟩
 have hm := Zj hm hc1
 refine Zl (H4 _ _ (Zf fun K8 H9 => (Za (s_v (o_as (.sc (.slice _ _ _)) rfl) (Zb (H9 _ _ (Zf fun K9 H70 => ?_)))))))
 refine AW_zreg [(1000000, some k2, .obj 61 (c_id p1))] mixed (⟨fun _ => hp_at 0 hk4 rfl, trivial⟩) ?_
 refine z_w 0 rfl (fun S' h' hi hB => o_mv (.sc (.slice _ _ _)) rfl) ?_
 refine z_w 1 rfl (fun S' h' hi hB => o_mv (.sl _ _ _) rfl) ?_
 refine z_w 2 rfl (fun S' h' hi hB => o_mv (.sc (.int _ _)) rfl) ?_
 obtain ⟨x2, hx2, hm⟩ := Zc hm
 refine z_w 3 rfl (fun S' h' hi hB => o_slc hx2 el80 rfl rfl rfl rfl) ?_
 refine z_w 5 rfl (fun S' h' hi hB => Zg (.agg (c_id p1)) ld61 rfl (At.s (InvL.get 0 hi rfl (hB 1000000 (by kernel_rfl)))) rfl) ?_
 refine z_w 6 rfl (fun S' h' hi hB => o_lit (List.map c_id ([p1] : List Id32)) et80 rfl rfl rfl rfl) ?_
 obtain ⟨z0, hz0, hm⟩ := Zc hm
 refine z_e 4 rfl (by kernel_rfl) (a_app0 (c := c_id) hz0 et80 rfl rfl hk4 nofun rfl fun tg0 ot0 hk5 => ⟨⟨fun _ => hp_at 1 hk5 rfl, trivial⟩, ?_⟩)
 obtain ⟨z1, hz1, hm⟩ := Zc hm
 refine z_e 7 rfl (by kernel_rfl) (a_app (c := c_id) 0 hz1 et80 rfl rfl rfl ot0 hk5 rfl fun tg1 ot1 hk6 => ⟨⟨fun _ => hp_at 1 hk6 rfl, trivial⟩, ?_⟩)
 refine z_w 8 rfl (fun S' h' hi hB => o_as (ow _ _ _) rfl) ?_
 refine z_nil (by kernel_rfl) ?_
 refine H70 _ _ (Zf fun K97 H97 => (Za (s_v (o_mv (ow _ _ _) rfl) (vE rfl (vA rfl ?_)))))
 obtain ⟨x3, hx3, hm⟩ := Zc hm
 refine s_v (o_slc hx3 el80 rfl rfl rfl rfl) ?_
 obtain ⟨z2, hz2, hm⟩ := Zc hm
 refine s_op (a_app (c := c_id) 0 hz2 et80 rfl rfl rfl ot1 hk6 rfl fun tg2 ot2 hk7 => ?_)
 refine vA rfl (s_v (o_as (ow _ _ _) rfl) (vC rfl (vD rfl (Zb (H97 _ _ (AW_ret ?_))))))
 have hmo := Option.some.inj hm; subst hmo
 exact Ret.of3 (.inl rfl) (rsT _ _ (ow _ _ _) rfl) (rsT _ _ (.sc (.int _ _)) rfl) (rsT _ _ (.sc (.bool _)) rfl) (hp_sub (List.nil_sublist _) hk7).1 ((own_frz0 _ 0 ot2 hk7 rfl)) (ALe.refl _ _) (ALe.refl _ _) ⟨rfl, rfl⟩
theorem bd105 : bodied Try.prog 105 = true := by kernel_rfl
def M63_L2 (fuel : Nat) (p0 : TManifest) (q0 : Int) (q1 : List Id32) (q2 : Int) : Option (Lp ((List Id32) × Int) (Lp ((List Id32) × Int) ((List Id32)))) :=
 (ix p0.Parts q0).bind fun x0 => if (decide (q2 < (x0.Ids.length : Int))) = true then ((ix p0.Parts q0).bind fun x1 => (ix x1.Ids q2).bind fun x2 => (M105 fuel q1 x2).bind fun y0 => some (.go (y0.1, IntKind.wrap .i64 (q2 + 1)))) else some (.brk (q1, q2))
def M63_L0 (fuel : Nat) (p0 : TManifest) (q0 : List Id32) (q1 : Int) : Option (Lp ((List Id32) × Int) ((List Id32))) :=
 if (decide (q1 < (p0.Parts.length : Int))) = true then (after (loopM (fun s => M63_L2 fuel p0 q1 s.1 s.2) fuel (q0, 0)) fun ⟨r0, r1⟩ => some (.go (r0, IntKind.wrap .i64 (q1 + 1)))) else some (.brk (q0, q1))
def M63 (fuel : Nat) (p0 : TManifest) : Option ((List Id32)) :=
 after (loopM (fun s => M63_L0 fuel p0 s.1 s.2) fuel ([], 0)) fun ⟨r0, r1⟩ => some r0
set_option maxHeartbeats 4000000 in
set_option maxRecDepth 100000 in
theorem W63 {fuel : Nat} {p0 : TManifest} {o : (List Id32)} (h : Heap) (hm : M63 fuel p0 = some o) :
 ACalls Try.prog 63 [.agg (c_Manifest p0)] h (fun r h' => r = .sl none 32 (List.map c_id o) ∧ h' = h) := by
 refine ACalls_hp 40 [.tmp 2] Try.func63 rfl rfl rfl rfl ?_
 unfold M63 at hm
 refine Zf fun K1 H1 => (Za ?_)
 refine s_op (a_box (HOk.nil _) rfl rfl fun k2 hk3 => ?_)
 refine s_v (o_as (.sc (.slice _ _ _)) rfl) (Zb (H1 _ _ (Zf fun K5 H5 => (Za (s_v (o_as (.sc (.slice _ _ _)) rfl) (Zb (H5 _ _ (Zf fun K6 H6 => (Zf fun K7 H7 => (Za (vC rfl (Zb (H7 _ _ ?_)))))))))))))
 refine AW_loopH (n := 40) (h := h) hm (σ := (List Id32) × Int) (τ := Unit) (fun g s => [(some k2, .obj 57 (c_Manifest p0))]) (fun g s => kp (kp (kp (k0) 4 (.sc (.int .i64 s.2))) 3 (.sl none 32 (List.map c_id s.1))) 1 (.ptr k2 0)) () hk3 (LeF.s (.cons (ALe.refl _ _) (.cons (nil_lem _) (.cons (ALe.refl _ _) .nil)))) ?_ ?_
 rintro _ ⟨q0, q1⟩ x hk0 hm
 replace hm : M63_L0 fuel p0 q0 q1 = some x := hm
 unfold M63_L0 at hm
 refine Zf fun K0 H2 => (Zf fun K2 H3 => (Za (vA rfl (s_v (Zh fd57_1 rfl rfl) (s_v (Zg (.sl none 3 (List.map c_Part p0.Parts)) ld55 rfl (Zd 0 hk0 rfl) rfl) (s_v (o_lenm ln55 rfl) (vF rfl rfl rfl (Zb (H3 _ _ ?_)))))))))
 refine AW_if' rfl (fun hc0 => ?_) (fun hc0 => ?_)
 have hm := Zi hm hc0
 refine Zl (H2 _ _ (Zf fun K3 H4 => (AW_block (Zf fun K4 H8 => (Za (vC rfl (Zb (H8 _ _ ?_))))))))
 refine AW_loopH (n := 40) (h := h) hm (σ := (List Id32) × Int) (τ := Unit) (fun g s => [(some k2, .obj 57 (c_Manifest p0))]) (fun g s => kp (kp (kp (kp (k0) 5 (.sc (.int .i64 s.2))) 4 (.sc (.int .i64 q1))) 3 (.sl none 32 (List.map c_id s.1))) 1 (.ptr k2 0)) () hk0 (LeF.s (.k4 .nil)) ?_ ?_
 rintro _ ⟨q2, q3⟩ x hk1 hm
 replace hm : M63_L2 fuel p0 q1 q2 q3 = some x := hm
 unfold M63_L2 at hm
 refine Zf fun K8 H9 => (Zf fun K9 H10 => (Za (vA rfl (s_v (Zh fd57_1 rfl rfl) (s_v (Zg (.sl none 3 (List.map c_Part p0.Parts)) ld55 rfl (Zd 0 hk1 rfl) rfl) (vA rfl ?_))))))
 obtain ⟨x0, hx0, hm⟩ := Zc hm
 refine s_v (o_ix hx0 el55 rfl rfl) (s_v (o_fl fd82_2 rfl rfl) (s_v (o_ld (.sl none 32 (List.map c_id x0.Ids)) ld80 rfl rfl) (s_v (o_lenm ln80 rfl) (vF rfl rfl rfl (Zb (H10 _ _ ?_))))))
 refine AW_if' rfl (fun hc1 => ?_) (fun hc1 => ?_)
 have hm := Zi hm hc1
 refine Zl (H9 _ _ (Zf fun K10 H11 => (AW_block (Za (vE rfl (s_v (Zh fd57_1 rfl rfl) (s_v (Zg (.sl none 3 (List.map c_Part p0.Parts)) ld55 rfl (Zd 0 hk1 rfl) rfl) (vA rfl ?_))))))))
 obtain ⟨x1, hx1, hm⟩ := Zc hm
 refine s_v (o_ix hx1 el55 rfl rfl) (s_v (o_fl fd82_2 rfl rfl) (s_v (o_ld (.sl none 32 (List.map c_id x1.Ids)) ld80 rfl rfl) (vA rfl ?_)))
 obtain ⟨x2, hx2, hm⟩ := Zc hm
 refine s_v (o_ix hx2 el80 rfl rfl) (s_v (o_ld (.agg (c_id x2)) ld61 rfl rfl) ?_)
 obtain ⟨y0, hy0, hm⟩ := Zc hm
 refine s_v (o_call (W105 _ hy0) rfl bd105 rfl) (s_v (o_mv (.tup _) rfl) (s_v (o_ex (.sl _ _ _) rfl rfl) (s_v (o_ex (.sc (.int _ _)) rfl rfl) (s_v (o_ex (.sc (.bool _)) rfl rfl) (s_v (o_as (.sl _ _ _) rfl) (Zb (H11 _ _ (Za (vA rfl (vF rfl rfl rfl (vC rfl (Zb ?_))))))))))))
 cases hm
 exact ⟨rfl, (), hk1, LeF.s (.k4 .nil)⟩
 have hm := Zj hm hc1
 refine AW_exit ?_
 refine Seq_exit ?_
 cases hm
 exact ⟨rfl, (), hk1, LeF.s (.k4 .nil)⟩
 rintro _ ⟨r0, r1⟩ fr' h' hk2 hm le
 refine H4 _ _ (le.aw ?_)
 refine Za (vA rfl (vF rfl rfl rfl (vC rfl (Zb ?_))))
 cases hm
 exact ⟨rfl, (), hk2, LeF.s (.k3 .nil)⟩
 have hm := Zj hm hc0
 refine AW_exit ?_
 refine Seq_exit ?_
 cases hm
 exact ⟨rfl, (), hk0, LeF.s (.k3 .nil)⟩
 rintro _ ⟨r2, r3⟩ fr' h' hk4 hm le
 refine H6 _ _ (le.aw ?_)
 refine Zf fun K11 H12 => (Za (vE rfl (s_v (o_as (.sl _ _ _) rfl) (Zb (H12 _ _ (AW_ret ?_))))))
 have hmo := Option.some.inj hm; subst hmo
 exact Ret.of1 (.inl rfl) (rsT _ _ (.sl _ _ _) rfl) (hp_sub (List.nil_sublist _) hk4).1 (ALe.refl _ _) ⟨rfl, rfl⟩
theorem bd63 : bodied Try.prog 63 = true := by kernel_rfl
def M64_L0 (fuel : Nat) (p0 : TCatalog) (p1 : Id32) (q0 : Int) : Option (Lp (Int) (Int)) :=
 if (decide (q0 < (p0.Chunks.length : Int))) = true then ((ix p0.Chunks q0).bind fun x0 => if (decide (x0.Id = p1)) = true then (some (.ret q0)) else some (.go (IntKind.wrap .i64 (q0 + 1)))) else some (.brk q0)
def M64 (fuel : Nat) (p0 : TCatalog) (p1 : Id32) : Option (Int) :=
 after (loopM (fun s => M64_L0 fuel p0 p1 s) fuel 0) fun r0 => some (-1)
set_option maxHeartbeats 4000000 in
set_option maxRecDepth 100000 in
theorem W64 {fuel : Nat} {p0 : TCatalog} {p1 : Id32} {o : Int} (h : Heap) (hm : M64 fuel p0 p1 = some o) :
 ACalls Try.prog 64 [.agg (c_Catalog p0), .agg (c_id p1)] h (fun r h' => r = .sc (.int .i64 o) ∧ h' = h) := by
 refine ACalls_hp 22 [.tmp 4] Try.func64 rfl rfl rfl rfl ?_
 unfold M64 at hm
 refine Zf fun K1 H1 => (Za ?_)
 refine s_op (a_box (HOk.nil _) rfl rfl fun k2 hk3 => ?_)
 refine s_op (a_box hk3 rfl rfl fun k5 hk6 => ?_)
 refine vC rfl (Zb (H1 _ _ (Zf fun K8 H8 => (Zf fun K9 H9 => (Za (vC rfl (Zb (H9 _ _ ?_))))))))
 refine AW_loopH (n := 22) (h := h) hm (σ := Int) (τ := Unit) (fun g s => [(some k5, .obj 61 (c_id p1)), (some k2, .obj 27 (c_Catalog p0))]) (fun g s => kp (kp (kp (k0) 5 (.sc (.int .i64 s))) 3 (.ptr k5 0)) 2 (.ptr k2 0)) () hk6 (LeF.s (.k3 .nil)) ?_ ?_
 rintro _ q0 x hk0 hm
 replace hm : M64_L0 fuel p0 p1 q0 = some x := hm
 unfold M64_L0 at hm
 refine Zf fun K0 H2 => (Zf fun K2 H3 => (Za (vA rfl (s_v (Zh fd27_2 rfl rfl) (s_v (Zg (.sl none 35 (List.map c_Chunk p0.Chunks)) ld23 rfl (Zd 1 hk0 rfl) rfl) (s_v (o_lenm ln23 rfl) (vF rfl rfl rfl (Zb (H3 _ _ ?_)))))))))
 refine AW_if' rfl (fun hc0 => ?_) (fun hc0 => ?_)
 have hm := Zi hm hc0
 refine Zl (H2 _ _ (Zf fun K3 H4 => (AW_block (Zf fun K4 H5 => ?_))))
 refine AW_rq mixed (by kernel_rfl) ?_
 refine q_v (Zh fd27_2 rfl rfl) (q_v (Zg (.sl none 35 (List.map c_Chunk p0.Chunks)) ld23 rfl (Zd 1 hk0 rfl) rfl) (wA rfl ?_))
 obtain ⟨x0, hx0, hm⟩ := Zc hm
 refine q_v (o_ix hx0 el23 rfl rfl) (q_v (o_fl fd63_0 rfl rfl) (q_v (o_ld (.agg (c_id x0.Id)) ld61 rfl rfl) (q_v (Zg (.agg (c_id p1)) ld61 rfl (Zd 0 hk0 rfl) rfl) (q_v (o_ide eg61 u61 u5 ld5 rfl rfl) (q_nil (H5 _ _ ?_))))))
 refine AW_if' rfl (fun hc1 => ?_) (fun hc1 => ?_)
 have hm := Zi hm hc1
 refine Zf fun K5 H6 => (Za (vA rfl (vC rfl (Zb (H6 _ _ (AW_ret ?_))))))
 cases hm
 refine ⟨⟨nofun, nofun⟩, fun he => ?_⟩
 subst he
 exact Ret.of1 (.inl rfl) (rsT _ _ (.sc (.int _ _)) rfl) (hp_sub (List.nil_sublist _) hk0).1 (ALe.refl _ _) ⟨rfl, rfl⟩
 have hm := Zj hm hc1
 refine Zl (H4 _ _ (Za (vA rfl (vF rfl rfl rfl (vC rfl (Zb ?_))))))
 cases hm
 exact ⟨rfl, (), hk0, LeF.s (.k3 .nil)⟩
 have hm := Zj hm hc0
 refine AW_exit ?_
 refine Seq_exit ?_
 cases hm
 exact ⟨rfl, (), hk0, LeF.s (.k3 .nil)⟩
 rintro _ r0 fr' h' hk1 hm le
 refine H8 _ _ (le.aw ?_)
 refine Zf fun K6 H7 => (Za (vC rfl (Zb (H7 _ _ (AW_ret ?_)))))
 have hmo := Option.some.inj hm; subst hmo
 exact Ret.of1 (.inl rfl) (rsT _ _ (.sc (.int _ _)) rfl) (hp_sub (List.nil_sublist _) hk1).1 (ALe.refl _ _) ⟨rfl, rfl⟩
theorem bd64 : bodied Try.prog 64 = true := by kernel_rfl
def M50_L0 (fuel : Nat) (p0 : TCatalog) (p1 : ByteArray) (q0 : Int) : Option (Lp (Int) (Int)) :=
 if (decide (q0 < (p0.Snaps.length : Int))) = true then ((ix p0.Snaps q0).bind fun x0 => if (x0.Man.Name.toList == p1.toList) = true then (some (.ret q0)) else some (.go (IntKind.wrap .i64 (q0 + 1)))) else some (.brk q0)
def M50 (fuel : Nat) (p0 : TCatalog) (p1 : ByteArray) : Option (Int) :=
 after (loopM (fun s => M50_L0 fuel p0 p1 s) fuel 0) fun r0 => some (-1)
set_option maxHeartbeats 4000000 in
set_option maxRecDepth 100000 in
theorem W50 {fuel : Nat} {p0 : TCatalog} {p1 : ByteArray} {o : Int} (h : Heap) (hm : M50 fuel p0 p1 = some o) :
 ACalls Try.prog 50 [.agg (c_Catalog p0), .sc (.string p1)] h (fun r h' => r = .sc (.int .i64 o) ∧ h' = h) := by
 refine ACalls_hp 23 [.tmp 4] Try.func50 rfl rfl rfl rfl ?_
 unfold M50 at hm
 refine Zf fun K1 H1 => (Za ?_)
 refine s_op (a_box (HOk.nil _) rfl rfl fun k2 hk3 => ?_)
 refine vC rfl (Zb (H1 _ _ (Zf fun K5 H5 => (Zf fun K6 H6 => (Za (vC rfl (Zb (H6 _ _ ?_))))))))
 refine AW_loopH (n := 23) (h := h) hm (σ := Int) (τ := Unit) (fun g s => [(some k2, .obj 27 (c_Catalog p0))]) (fun g s => kp (kp (kp (k0) 5 (.sc (.int .i64 s))) 2 (.ptr k2 0)) 1 (.sc (.string p1))) () hk3 (LeF.s (.k3 .nil)) ?_ ?_
 rintro _ q0 x hk0 hm
 replace hm : M50_L0 fuel p0 p1 q0 = some x := hm
 unfold M50_L0 at hm
 refine Zf fun K0 H2 => (Zf fun K2 H3 => (Za (vA rfl (s_v (Zh fd27_1 rfl rfl) (s_v (Zg (.sl none 4 (List.map c_Snap p0.Snaps)) ld22 rfl (Zd 0 hk0 rfl) rfl) (s_v (o_lenm ln22 rfl) (vF rfl rfl rfl (Zb (H3 _ _ ?_)))))))))
 refine AW_if' rfl (fun hc0 => ?_) (fun hc0 => ?_)
 have hm := Zi hm hc0
 refine Zl (H2 _ _ (Zf fun K3 H4 => (AW_block (Zf fun K4 H7 => (Za (s_v (Zh fd27_1 rfl rfl) (s_v (Zg (.sl none 4 (List.map c_Snap p0.Snaps)) ld22 rfl (Zd 0 hk0 rfl) rfl) (vA rfl ?_))))))))
 obtain ⟨x0, hx0, hm⟩ := Zc hm
 refine s_v (o_ix hx0 el22 rfl rfl) (s_v (o_fl fd60_1 rfl rfl) (s_v (o_fl fd57_0 rfl rfl) (s_v (o_ld (.sc (.string x0.Man.Name)) ld9 rfl rfl) (s_v (o_mv (.sc (.string _)) rfl) (s_v (o_bs rfl rfl rfl trivial) (Zb (H7 _ _ ?_)))))))
 refine AW_if' rfl (fun hc1 => ?_) (fun hc1 => ?_)
 have hm := Zi hm hc1
 refine Zf fun K7 H8 => (Za (vA rfl (vC rfl (Zb (H8 _ _ (AW_ret ?_))))))
 cases hm
 refine ⟨⟨nofun, nofun⟩, fun he => ?_⟩
 subst he
 exact Ret.of1 (.inl rfl) (rsT _ _ (.sc (.int _ _)) rfl) (hp_sub (List.nil_sublist _) hk0).1 (ALe.refl _ _) ⟨rfl, rfl⟩
 have hm := Zj hm hc1
 refine Zl (H4 _ _ (Za (vA rfl (vF rfl rfl rfl (vC rfl (Zb ?_))))))
 cases hm
 exact ⟨rfl, (), hk0, LeF.s (.k3 .nil)⟩
 have hm := Zj hm hc0
 refine AW_exit ?_
 refine Seq_exit ?_
 cases hm
 exact ⟨rfl, (), hk0, LeF.s (.k3 .nil)⟩
 rintro _ r0 fr' h' hk1 hm le
 refine H5 _ _ (le.aw ?_)
 refine Zf fun K8 H9 => (Za (vC rfl (Zb (H9 _ _ (AW_ret ?_)))))
 have hmo := Option.some.inj hm; subst hmo
 exact Ret.of1 (.inl rfl) (rsT _ _ (.sc (.int _ _)) rfl) (hp_sub (List.nil_sublist _) hk1).1 (ALe.refl _ _) ⟨rfl, rfl⟩
theorem bd50 : bodied Try.prog 50 = true := by kernel_rfl
def M19_L0 (fuel : Nat) (p0 : TCatalog) (q0 : Int) : Option (Lp (Int) (Bool)) :=
 if (decide (q0 < (p0.Vols.length : Int))) = true then ((ix p0.Vols q0).bind fun x0 => after ((M59 fuel x0.Pool 0 1).bind fun y0 => if (!y0) = true then (some (.brk true)) else (M59 fuel x0.Epoch 0 1048576).bind fun y1 => some (.brk (!y1)) : Option (Lp (Bool) (Lp (Int) (Bool)))) fun j0 => if j0 = true then (some (.ret false)) else after (if (x0.State == 1) = true then (some (.brk (x0.State == 1))) else some (.brk (x0.State == 3)) : Option (Lp (Bool) (Lp (Int) (Bool)))) fun j1 => after (if j1 = true then (if (x0.Files != 0) = true then (some (.ret (.ret false))) else some (.brk ())) else if (x0.State == 2) = true then ((M59 fuel x0.Files 1 65535).bind fun y2 => if (!y2) = true then (some (.ret (.ret false))) else some (.brk ())) else some (.ret (.ret false)) : Option (Lp (Unit) (Lp (Int) (Bool)))) fun _ => some (.go (IntKind.wrap .i64 (q0 + 1)))) else some (.brk q0)
def M19_L3 (fuel : Nat) (p0 : TCatalog) (q0 : Int) : Option (Lp (Int) (Bool)) :=
 if (decide (q0 < (p0.Chunks.length : Int))) = true then ((ix p0.Chunks q0).bind fun x0 => after (if (decide (0 < q0)) = true then ((ix p0.Chunks (IntKind.wrap .i64 (q0 - 1))).bind fun x1 => (M60 fuel x1.Id x0.Id).bind fun y0 => if (!y0) = true then (some (.brk true)) else (M61 fuel p0 x0.Locs).bind fun y1 => if (!y1) = true then (some (.brk true)) else if x0.Staged = true then ((M59 fuel (x0.Data.length : Int) 1 64).bind fun y2 => if (!y2) = true then (some (.brk true)) else if (!x0.Staged) = true then (if (decide (0 < (x0.Data.length : Int))) = true then (some (.brk true)) else some (.brk ((x0.Locs.length : Int) == 0))) else some (.brk false)) else if (!x0.Staged) = true then (if (decide (0 < (x0.Data.length : Int))) = true then (some (.brk true)) else some (.brk ((x0.Locs.length : Int) == 0))) else some (.brk false)) else (M61 fuel p0 x0.Locs).bind fun y3 => if (!y3) = true then (some (.brk true)) else if x0.Staged = true then ((M59 fuel (x0.Data.length : Int) 1 64).bind fun y4 => if (!y4) = true then (some (.brk true)) else if (!x0.Staged) = true then (if (decide (0 < (x0.Data.length : Int))) = true then (some (.brk true)) else some (.brk ((x0.Locs.length : Int) == 0))) else some (.brk false)) else if (!x0.Staged) = true then (if (decide (0 < (x0.Data.length : Int))) = true then (some (.brk true)) else some (.brk ((x0.Locs.length : Int) == 0))) else some (.brk false) : Option (Lp (Bool) (Lp (Int) (Bool)))) fun j0 => if j0 = true then (some (.ret false)) else some (.go (IntKind.wrap .i64 (q0 + 1)))) else some (.brk q0)
def M19_L7 (fuel : Nat) (p0 : TCatalog) (y0 : (List Id32)) (q0 : Int) : Option (Lp (Int) (Lp (Int) (Bool))) :=
 if (decide (q0 < (y0.length : Int))) = true then ((ix y0 q0).bind fun x0 => (M64 fuel p0 x0).bind fun y1 => if (decide (y1 < 0)) = true then (some (.ret (.ret false))) else some (.go (IntKind.wrap .i64 (q0 + 1)))) else some (.brk q0)
def M19_L9 (fuel : Nat) (p0 : TCatalog) (x0 : TSnap) (q0 : Int) : Option (Lp (Int) (Lp (Int) (Bool))) :=
 if (decide (q0 < (p0.Exps.length : Int))) = true then ((ix p0.Exps q0).bind fun x1 => if (x1.Of == x0.Seq) = true then (some (.ret (.ret false))) else some (.go (IntKind.wrap .i64 (q0 + 1)))) else some (.brk q0)
def M19_L5 (fuel : Nat) (p0 : TCatalog) (q0 : Int) : Option (Lp (Int) (Bool)) :=
 if (decide (q0 < (p0.Snaps.length : Int))) = true then ((ix p0.Snaps q0).bind fun x0 => after (if (decide (x0.Seq < 0)) = true then (some (.brk true)) else if (decide (p0.Seq ≤ x0.Seq)) = true then (some (.brk true)) else if (decide (0 < q0)) = true then ((ix p0.Snaps (IntKind.wrap .i64 (q0 - 1))).bind fun x1 => if (decide (x0.Seq ≤ x1.Seq)) = true then (some (.brk true)) else (M62 fuel x0.Man).bind fun y0 => if (!y0) = true then (some (.brk true)) else (M61 fuel p0 x0.Locs).bind fun y1 => if (!y1) = true then (some (.brk true)) else (M50 fuel p0 x0.Man.Name).bind fun y2 => some (.brk (y2 != q0))) else (M62 fuel x0.Man).bind fun y3 => if (!y3) = true then (some (.brk true)) else (M61 fuel p0 x0.Locs).bind fun y4 => if (!y4) = true then (some (.brk true)) else (M50 fuel p0 x0.Man.Name).bind fun y5 => some (.brk (y5 != q0)) : Option (Lp (Bool) (Lp (Int) (Bool)))) fun j0 => if j0 = true then (some (.ret false)) else (M63 fuel x0.Man).bind fun y6 => after (loopM (fun s => M19_L7 fuel p0 y6 s) fuel 0) fun r0 => after (loopM (fun s => M19_L9 fuel p0 x0 s) fuel 0) fun r1 => some (.go (IntKind.wrap .i64 (q0 + 1)))) else some (.brk q0)
def M19_L11 (fuel : Nat) (p0 : TCatalog) (q0 : Int) : Option (Lp (Int) (Bool)) :=
 if (decide (q0 < (p0.Exps.length : Int))) = true then ((ix p0.Exps q0).bind fun x0 => after (if (decide (x0.Seq < 0)) = true then (some (.brk true)) else if (decide (p0.Seq ≤ x0.Seq)) = true then (some (.brk true)) else if (decide (0 < q0)) = true then ((ix p0.Exps (IntKind.wrap .i64 (q0 - 1))).bind fun x1 => if (decide (x0.Seq ≤ x1.Seq)) = true then (some (.brk true)) else if (decide (x0.Of < 0)) = true then (some (.brk true)) else if (decide (x0.Seq ≤ x0.Of)) = true then (some (.brk true)) else (M61 fuel p0 x0.Locs).bind fun y0 => if (!y0) = true then (some (.brk true)) else some (.brk ((x0.Locs.length : Int) == 0))) else if (decide (x0.Of < 0)) = true then (some (.brk true)) else if (decide (x0.Seq ≤ x0.Of)) = true then (some (.brk true)) else (M61 fuel p0 x0.Locs).bind fun y1 => if (!y1) = true then (some (.brk true)) else some (.brk ((x0.Locs.length : Int) == 0)) : Option (Lp (Bool) (Lp (Int) (Bool)))) fun j0 => if j0 = true then (some (.ret false)) else some (.go (IntKind.wrap .i64 (q0 + 1)))) else some (.brk q0)
def M19 (fuel : Nat) (p0 : TCatalog) : Option (Bool) :=
 after ((M59 fuel p0.Seq 0 1073741824).bind fun y0 => if (!y0) = true then (some (.brk true)) else if (decide (8 < (p0.Snaps.length : Int))) = true then (some (.brk true)) else if (decide (200 < (p0.Chunks.length : Int))) = true then (some (.brk true)) else if (decide (200 < (p0.Exps.length : Int))) = true then (some (.brk true)) else (M59 fuel (p0.Vols.length : Int) 1 8).bind fun y1 => some (.brk (!y1)) : Option (Lp (Bool) (Bool))) fun j0 => if j0 = true then (some false) else after (loopM (fun s => M19_L0 fuel p0 s) fuel 0) fun r0 => after (loopM (fun s => M19_L3 fuel p0 s) fuel 0) fun r1 => after (loopM (fun s => M19_L5 fuel p0 s) fuel 0) fun r2 => after (loopM (fun s => M19_L11 fuel p0 s) fuel 0) fun r3 => some true
set_option maxHeartbeats 4000000 in
set_option maxRecDepth 100000 in
theorem W19 {fuel : Nat} {p0 : TCatalog} {o : Bool} (h : Heap) (hm : M19 fuel p0 = some o) :
 ACalls Try.prog 19 [.agg (c_Catalog p0)] h (fun r h' => r = .sc (.bool o) ∧ h' = h) := by
 refine ACalls_hp 296 [.tmp 2] Try.func19 rfl rfl rfl rfl ?_
 unfold M19 at hm
 refine Zf fun K1 H1 => (Za ?_)
 refine s_op (a_box (HOk.nil _) rfl rfl fun k2 hk3 => ?_)
 refine vD rfl (Zb (H1 _ _ (Zf fun K5 H5 => (Zf fun K6 H6 => ?_))))
 refine AW_joinH (n := 296) (h := h) hm (σ := Bool) (τ := Unit) (fun g s => [(some k2, .obj 27 (c_Catalog p0))]) (fun g s => kp (kp (k0) 42 (.sc (.bool s))) 1 (.ptr k2 0)) (fun x hm => ?_) ?_
 refine Za (s_v (Zh fd27_0 rfl rfl) (s_v (Zg (.sc (.int .i64 p0.Seq)) ld3 rfl (Zd 0 hk3 rfl) rfl) ?_))
 obtain ⟨y0, hy0, hm⟩ := Zc hm
 refine s_v (o_call (W59 _ hy0) rfl bd59 rfl) (s_v (o_not rfl) (vB rfl ?_))
 rcases Bool.eq_false_or_eq_true (!y0) with hb0 | hb0
 have hm := Zi hm hb0
 refine Zo rfl rfl hb0 (Zo rfl rfl hb0 (Zo rfl rfl hb0 (Zo rfl rfl hb0 (s_v (Zm (.sc (.bool _)) rfl hb0 rfl) (vB rfl (Zo rfl rfl rfl (Zo rfl rfl rfl (Zo rfl rfl rfl (Zo rfl rfl rfl (s_v (Zm (.sc (.bool _)) rfl rfl rfl) (vB rfl (Zo rfl rfl rfl (Zo rfl rfl rfl (Zo rfl rfl rfl (Zo rfl rfl rfl ?_)))))))))))))))
 refine s_v (Zm (.sc (.bool _)) rfl rfl rfl) (vB rfl (Zo rfl rfl rfl (Zo rfl rfl rfl (Zo rfl rfl rfl (Zo rfl rfl rfl (Zo rfl rfl rfl (s_v (Zm (.sc (.bool _)) rfl rfl rfl) (Zb ?_))))))))
 cases hm
 exact ⟨rfl, (), hk3, LeF.s (.k2 .nil)⟩
 have hm := Zj hm hb0
 refine sg_y rfl rfl hb0 (s_v (Zh fd27_1 rfl rfl) (sg_y rfl rfl hb0 (s_v (Zg (.sl none 4 (List.map c_Snap p0.Snaps)) ld22 rfl (Zd 0 hk3 rfl) rfl) (sg_y rfl rfl hb0 (s_v (o_lenm ln22 rfl) (sg_y rfl rfl hb0 (vF rfl rfl rfl (s_v (Zn (.sc (.bool _)) rfl hb0 rfl) (vB rfl ?_)))))))))
 rcases Bool.eq_false_or_eq_true (decide (8 < (p0.Snaps.length : Int))) with hb1 | hb1
 have hm := Zi hm hb1
 refine Zo rfl rfl hb1 (Zo rfl rfl hb1 (Zo rfl rfl hb1 (Zo rfl rfl hb1 (s_v (Zm (.sc (.bool _)) rfl hb1 rfl) (vB rfl (Zo rfl rfl rfl (Zo rfl rfl rfl (Zo rfl rfl rfl (Zo rfl rfl rfl (s_v (Zm (.sc (.bool _)) rfl rfl rfl) (vB rfl (Zo rfl rfl rfl (Zo rfl rfl rfl (Zo rfl rfl rfl (Zo rfl rfl rfl ?_)))))))))))))))
 refine Zo rfl rfl rfl (s_v (Zm (.sc (.bool _)) rfl rfl rfl) (Zb ?_))
 cases hm
 exact ⟨rfl, (), hk3, LeF.s (.k2 .nil)⟩
 have hm := Zj hm hb1
 refine sg_y rfl rfl hb1 (s_v (Zh fd27_2 rfl rfl) (sg_y rfl rfl hb1 (s_v (Zg (.sl none 35 (List.map c_Chunk p0.Chunks)) ld23 rfl (Zd 0 hk3 rfl) rfl) (sg_y rfl rfl hb1 (s_v (o_lenm ln23 rfl) (sg_y rfl rfl hb1 (vF rfl rfl rfl (s_v (Zn (.sc (.bool _)) rfl hb1 rfl) (vB rfl ?_)))))))))
 rcases Bool.eq_false_or_eq_true (decide (200 < (p0.Chunks.length : Int))) with hb2 | hb2
 have hm := Zi hm hb2
 refine Zo rfl rfl hb2 (Zo rfl rfl hb2 (Zo rfl rfl hb2 (Zo rfl rfl hb2 (s_v (Zm (.sc (.bool _)) rfl hb2 rfl) (vB rfl (Zo rfl rfl rfl (Zo rfl rfl rfl (Zo rfl rfl rfl (Zo rfl rfl rfl (Zo rfl rfl rfl (s_v (Zm (.sc (.bool _)) rfl rfl rfl) (Zb ?_))))))))))))
 cases hm
 exact ⟨rfl, (), hk3, LeF.s (.k2 .nil)⟩
 have hm := Zj hm hb2
 refine sg_y rfl rfl hb2 (s_v (Zh fd27_3 rfl rfl) (sg_y rfl rfl hb2 (s_v (Zg (.sl none 3 (List.map c_Exp p0.Exps)) ld24 rfl (Zd 0 hk3 rfl) rfl) (sg_y rfl rfl hb2 (s_v (o_lenm ln24 rfl) (sg_y rfl rfl hb2 (vF rfl rfl rfl (s_v (Zn (.sc (.bool _)) rfl hb2 rfl) (vB rfl ?_)))))))))
 rcases Bool.eq_false_or_eq_true (decide (200 < (p0.Exps.length : Int))) with hb3 | hb3
 have hm := Zi hm hb3
 refine Zo rfl rfl hb3 (Zo rfl rfl hb3 (Zo rfl rfl hb3 (Zo rfl rfl hb3 (Zo rfl rfl hb3 (s_v (Zm (.sc (.bool _)) rfl hb3 rfl) (Zb ?_))))))
 cases hm
 exact ⟨rfl, (), hk3, LeF.s (.k2 .nil)⟩
 have hm := Zj hm hb3
 refine sg_y rfl rfl hb3 (s_v (Zh fd27_4 rfl rfl) (sg_y rfl rfl hb3 (s_v (Zg (.sl none 4 (List.map c_Vol p0.Vols)) ld25 rfl (Zd 0 hk3 rfl) rfl) (sg_y rfl rfl hb3 (s_v (o_lenm ln25 rfl) (sg_y rfl rfl hb3 ?_))))))
 obtain ⟨y1, hy1, hm⟩ := Zc hm
 refine s_v (o_call (W59 _ hy1) rfl bd59 rfl) (sg_y rfl rfl hb3 (s_v (o_not rfl) (s_v (Zn (.sc (.bool _)) rfl hb3 rfl) (Zb ?_))))
 cases hm
 exact ⟨rfl, (), hk3, LeF.s (.k2 .nil)⟩
 rintro _ j0 fr' h' hk0 hm le
 refine H6 _ _ (le.aw ?_)
 refine AW_if' rfl (fun hc0 => ?_) (fun hc0 => ?_)
 have hm := Zi hm hc0
 refine Zf fun K0 H2 => (Za (vD rfl (Zb (H2 _ _ (AW_ret ?_)))))
 have hmo := Option.some.inj hm; subst hmo
 exact Ret.of1 (.inl rfl) (rsT _ _ (.sc (.bool _)) rfl) (hp_sub (List.nil_sublist _) hk0).1 (ALe.refl _ _) ⟨rfl, rfl⟩
 have hm := Zj hm hc0
 refine Zl (H5 _ _ (Zf fun K2 H3 => (Zf fun K3 H4 => (Za (vC rfl (Zb (H4 _ _ ?_)))))))
 refine AW_loopH (n := 296) (h := h) hm (σ := Int) (τ := Unit) (fun g s => [(some k2, .obj 27 (c_Catalog p0))]) (fun g s => kp (kp (k0) 3 (.sc (.int .i64 s))) 1 (.ptr k2 0)) () hk0 (LeF.s (.k2 .nil)) ?_ ?_
 rintro _ q0 x hk1 hm
 replace hm : M19_L0 fuel p0 q0 = some x := hm
 unfold M19_L0 at hm
 refine Zf fun K4 H7 => (Zf fun K7 H8 => (Za (vA rfl (s_v (Zh fd27_4 rfl rfl) (s_v (Zg (.sl none 4 (List.map c_Vol p0.Vols)) ld25 rfl (Zd 0 hk1 rfl) rfl) (s_v (o_lenm ln25 rfl) (vF rfl rfl rfl (Zb (H8 _ _ ?_)))))))))
 refine AW_if' rfl (fun hc1 => ?_) (fun hc1 => ?_)
 have hm := Zi hm hc1
 refine Zl (H7 _ _ (Zf fun K8 H9 => (AW_block (Zf fun K9 H10 => (Za (s_v (Zh fd27_4 rfl rfl) (s_v (Zg (.sl none 4 (List.map c_Vol p0.Vols)) ld25 rfl (Zd 0 hk1 rfl) rfl) (vA rfl ?_))))))))
 obtain ⟨x0, hx0, hm⟩ := Zc hm
 refine s_v (o_ix hx0 el25 rfl rfl) (s_v (o_ld (.agg (c_Vol x0)) ld40 rfl rfl) ?_)
 refine s_op (a_alloc ([.sc (.int .i64 0), .sc (.int .i64 0), .sc (.int .i64 0), .sc (.int .i64 0)]) hk1 zr40 rfl rfl fun k157 hk2 => ?_)
 refine s_op (a_store 0 (c_Vol x0) hk2 rfl rfl rfl rfl sz40 rfl rfl fun hk4 => ?_)
 refine Zb (H10 _ _ (Zf fun K10 H11 => (Zf fun K11 H12 => ?_)))
 refine AW_joinH (n := 296) (h := h) hm (σ := Bool) (τ := Unit) (fun g s => [(some k157, .obj 40 (c_Vol x0)), (some k2, .obj 27 (c_Catalog p0))]) (fun g s => kp (kp (kp (kp (k0) 64 (.sc (.bool s))) 4 (.ptr k157 0)) 3 (.sc (.int .i64 q0))) 1 (.ptr k2 0)) (fun x hm => ?_) ?_
 refine Za (s_v (Zh fd40_0 rfl rfl) (s_v (Zg (.sc (.int .i64 x0.Pool)) ld3 rfl (Zd 0 hk4 rfl) rfl) ?_))
 obtain ⟨y2, hy2, hm⟩ := Zc hm
 refine s_v (o_call (W59 _ hy2) rfl bd59 rfl) (s_v (o_not rfl) (vB rfl ?_))
 rcases Bool.eq_false_or_eq_true (!y2) with hb4 | hb4
 have hm := Zi hm hb4
 refine Zo rfl rfl hb4 (Zo rfl rfl hb4 (Zo rfl rfl hb4 (Zo rfl rfl hb4 (s_v (Zm (.sc (.bool _)) rfl hb4 rfl) (Zb ?_)))))
 cases hm
 exact ⟨rfl, (), hk4, LeF.s (.k4 .nil)⟩
 have hm := Zj hm hb4
 refine sg_y rfl rfl hb4 (s_v (Zh fd40_1 rfl rfl) (sg_y rfl rfl hb4 (s_v (Zg (.sc (.int .i64 x0.Epoch)) ld3 rfl (Zd 0 hk4 rfl) rfl) (sg_y rfl rfl hb4 ?_))))
 obtain ⟨y3, hy3, hm⟩ := Zc hm
 refine s_v (o_call (W59 _ hy3) rfl bd59 rfl) (sg_y rfl rfl hb4 (s_v (o_not rfl) (s_v (Zn (.sc (.bool _)) rfl hb4 rfl) (Zb ?_))))
 cases hm
 exact ⟨rfl, (), hk4, LeF.s (.k4 .nil)⟩
 rintro _ j1 fr' h' hk5 hm le
 refine H12 _ _ (le.aw ?_)
 refine AW_if' rfl (fun hc2 => ?_) (fun hc2 => ?_)
 have hm := Zi hm hc2
 refine Zf fun K12 H13 => (Za (vD rfl (Zb (H13 _ _ (AW_ret ?_)))))
 cases hm
 refine ⟨⟨nofun, nofun⟩, fun he => ?_⟩
 subst he
 exact Ret.of1 (.inl rfl) (rsT _ _ (.sc (.bool _)) rfl) (hp_sub (List.nil_sublist _) hk5).1 (ALe.refl _ _) ⟨rfl, rfl⟩
 have hm := Zj hm hc2
 refine Zl (H11 _ _ (Zf fun K13 H14 => (Za (s_v (Zh fd40_2 rfl rfl) (s_v (Zg (.sc (.int .i64 x0.State)) ld3 rfl (Zd 0 hk5 rfl) rfl) (Zb (H14 _ _ (AW_block (Zf fun K14 H15 => (Zf fun K15 H16 => (Za (vF rfl rfl rfl (vD rfl (Zb (H16 _ _ ?_)))))))))))))))
 refine AW_joinH (n := 296) (h := h) hm (σ := Bool) (τ := Unit) (fun g s => [(some k157, .obj 40 (c_Vol x0)), (some k2, .obj 27 (c_Catalog p0))]) (fun g s => kp (kp (kp (kp (kp (k0) 67 (.sc (.bool s))) 66 (.sc (.int .i64 x0.State))) 4 (.ptr k157 0)) 3 (.sc (.int .i64 q0))) 1 (.ptr k2 0)) (fun x hm => ?_) ?_
 refine AW_if' rfl (fun hc3 => ?_) (fun hc3 => ?_)
 have hm := Zi hm hc3
 refine Zl ?_
 cases hm
 exact ⟨rfl, (), hk5, LeF.s (.k5 .nil)⟩
 have hm := Zj hm hc3
 refine Za (vF rfl rfl rfl (vD rfl (Zb ?_)))
 cases hm
 exact ⟨rfl, (), hk5, LeF.s (.k5 .nil)⟩
 rintro _ j2 fr' h' hk6 hm le
 refine H15 _ _ (le.aw ?_)
 refine AW_joinH (n := 296) (h := h) hm (σ := Unit) (τ := Unit) (fun g s => [(some k157, .obj 40 (c_Vol x0)), (some k2, .obj 27 (c_Catalog p0))]) (fun g s => kp (kp (k0) 3 (.sc (.int .i64 q0))) 1 (.ptr k2 0)) (fun x hm => ?_) ?_
 refine AW_if' rfl (fun hc4 => ?_) (fun hc4 => ?_)
 have hm := Zi hm hc4
 refine Zf fun K16 H17 => (Za (s_v (Zh fd40_3 rfl rfl) (s_v (Zg (.sc (.int .i64 x0.Files)) ld3 rfl (Zd 0 hk6 rfl) rfl) (vF rfl rfl rfl (Zb (H17 _ _ ?_))))))
 refine AW_if' rfl (fun hc5 => ?_) (fun hc5 => ?_)
 have hm := Zi hm hc5
 refine Zf fun K17 H18 => (Za (vD rfl (Zb (H18 _ _ (AW_ret ?_)))))
 cases hm
 refine ⟨nofun, fun he => ?_⟩
 subst he
 refine ⟨⟨nofun, nofun⟩, fun he => ?_⟩
 subst he
 exact Ret.of1 (.inl rfl) (rsT _ _ (.sc (.bool _)) rfl) (hp_sub (List.nil_sublist _) hk6).1 (ALe.refl _ _) ⟨rfl, rfl⟩
 have hm := Zj hm hc5
 refine Zl ?_
 cases hm
 exact ⟨rfl, (), hk6, LeF.s (.k2 .nil)⟩
 have hm := Zj hm hc4
 refine Zf fun K18 H19 => (Za (vF rfl rfl rfl (vD rfl (Zb (H19 _ _ ?_)))))
 refine AW_if' rfl (fun hc6 => ?_) (fun hc6 => ?_)
 have hm := Zi hm hc6
 refine Zf fun K19 H20 => (Za (s_v (Zh fd40_3 rfl rfl) (s_v (Zg (.sc (.int .i64 x0.Files)) ld3 rfl (Zd 0 hk6 rfl) rfl) ?_)))
 obtain ⟨y4, hy4, hm⟩ := Zc hm
 refine s_v (o_call (W59 _ hy4) rfl bd59 rfl) (s_v (o_not rfl) (Zb (H20 _ _ ?_)))
 refine AW_if' rfl (fun hc7 => ?_) (fun hc7 => ?_)
 have hm := Zi hm hc7
 refine Zf fun K20 H21 => (Za (vD rfl (Zb (H21 _ _ (AW_ret ?_)))))
 cases hm
 refine ⟨nofun, fun he => ?_⟩
 subst he
 refine ⟨⟨nofun, nofun⟩, fun he => ?_⟩
 subst he
 exact Ret.of1 (.inl rfl) (rsT _ _ (.sc (.bool _)) rfl) (hp_sub (List.nil_sublist _) hk6).1 (ALe.refl _ _) ⟨rfl, rfl⟩
 have hm := Zj hm hc7
 refine Zl ?_
 cases hm
 exact ⟨rfl, (), hk6, LeF.s (.k2 .nil)⟩
 have hm := Zj hm hc6
 refine Zf fun K21 H22 => (Za (vD rfl (Zb (H22 _ _ (AW_ret ?_)))))
 cases hm
 refine ⟨nofun, fun he => ?_⟩
 subst he
 refine ⟨⟨nofun, nofun⟩, fun he => ?_⟩
 subst he
 exact Ret.of1 (.inl rfl) (rsT _ _ (.sc (.bool _)) rfl) (hp_sub (List.nil_sublist _) hk6).1 (ALe.refl _ _) ⟨rfl, rfl⟩
 rintro _ _ fr' h' hk7 hm le
 refine H9 _ _ (le.aw ?_)
 refine Za (vA rfl (vF rfl rfl rfl (vC rfl (Zb ?_))))
 cases hm
 exact ⟨rfl, (), (hp_sub (.cons _ (.refl _)) hk7).2, LeF.fm ((hp_sub (.cons _ (.refl _)) hk7).1) (.k2 .nil)⟩
 have hm := Zj hm hc1
 refine AW_exit ?_
 refine Seq_exit ?_
 cases hm
 exact ⟨rfl, (), hk1, LeF.s (.k2 .nil)⟩
 rintro _ r0 fr' h' hk8 hm le
 refine H3 _ _ (le.aw ?_)
 refine Zf fun K22 H23 => (Zf fun K23 H24 => (Za (vC rfl (Zb (H24 _ _ ?_)))))
 refine AW_loopH (n := 296) (h := h) hm (σ := Int) (τ := Unit) (fun g s => [(some k2, .obj 27 (c_Catalog p0))]) (fun g s => kp (kp (k0) 5 (.sc (.int .i64 s))) 1 (.ptr k2 0)) () hk8 (LeF.s (.k2 .nil)) ?_ ?_
 rintro _ q1 x hk9 hm
 replace hm : M19_L3 fuel p0 q1 = some x := hm
 unfold M19_L3 at hm
 refine Zf fun K24 H25 => (Zf fun K25 H29 => (Za (vA rfl (s_v (Zh fd27_2 rfl rfl) (s_v (Zg (.sl none 35 (List.map c_Chunk p0.Chunks)) ld23 rfl (Zd 0 hk9 rfl) rfl) (s_v (o_lenm ln23 rfl) (vF rfl rfl rfl (Zb (H29 _ _ ?_)))))))))
 refine AW_if' rfl (fun hc8 => ?_) (fun hc8 => ?_)
 have hm := Zi hm hc8
 refine Zl (H25 _ _ (Zf fun K29 H30 => (AW_block (Zf fun K30 H31 => (Za (s_v (Zh fd27_2 rfl rfl) (s_v (Zg (.sl none 35 (List.map c_Chunk p0.Chunks)) ld23 rfl (Zd 0 hk9 rfl) rfl) (vA rfl ?_))))))))
 obtain ⟨x1, hx1, hm⟩ := Zc hm
 refine s_v (o_ix hx1 el23 rfl rfl) (s_v (o_ld (.agg (c_Chunk x1)) ld63 rfl rfl) ?_)
 refine s_op (a_alloc (c_id idZ ++ ([.sc (.bool false), .sc (.slice none 0 0), .sc (.slice none 0 0)] : List AV)) hk9 zr63 rfl rfl fun k367 hk10 => ?_)
 refine s_op (a_store 0 (c_Chunk x1) hk10 rfl rfl rfl rfl sz63 rfl rfl fun hk11 => ?_)
 refine Zb (H31 _ _ (Zf fun K31 H32 => ?_))
 refine AW_joinH (n := 296) (h := h) hm (σ := Bool) (τ := Unit) (fun g s => [(some k367, .obj 63 (c_Chunk x1)), (some k2, .obj 27 (c_Catalog p0))]) (fun g s => kp (kp (kp (k0) 140 (.sc (.bool s))) 5 (.sc (.int .i64 q1))) 1 (.ptr k2 0)) (fun x hm => ?_) ?_
 refine AW_rq mixed (by kernel_rfl) ?_
 refine wA rfl (wF rfl rfl rfl (wB rfl ?_))
 rcases Bool.eq_false_or_eq_true (decide (0 < q1)) with hb5 | hb5
 have hm := Zi hm hb5
 refine Zk rfl rfl hb5 (q_v (Zh fd27_2 rfl rfl) (Zk rfl rfl hb5 (q_v (Zg (.sl none 35 (List.map c_Chunk p0.Chunks)) ld23 rfl (Zd 1 hk11 rfl) rfl) (Zk rfl rfl hb5 (wA rfl (Zk rfl rfl hb5 (wF rfl rfl rfl (Zk rfl rfl hb5 ?_))))))))
 obtain ⟨x2, hx2, hm⟩ := Zc hm
 refine q_v (o_ix hx2 el23 rfl rfl) (Zk rfl rfl hb5 (q_v (o_fl fd63_0 rfl rfl) (Zk rfl rfl hb5 (q_v (o_ld (.agg (c_id x2.Id)) ld61 rfl rfl) (Zk rfl rfl hb5 (q_v (Zh fd63_0 rfl rfl) (Zk rfl rfl hb5 (q_v (Zg (.agg (c_id x1.Id)) ld61 rfl (Zd 0 hk11 rfl) rfl) (Zk rfl rfl hb5 ?_)))))))))
 obtain ⟨y5, hy5, hm⟩ := Zc hm
 refine q_v (o_call (W60 _ hy5) rfl bd60 rfl) (Zk rfl rfl hb5 (q_v (o_not rfl) (q_v (Zm (.sc (.bool _)) rfl hb5 rfl) (wB rfl ?_))))
 rcases Bool.eq_false_or_eq_true (!y5) with hb6 | hb6
 have hm := Zi hm hb6
 refine Ze rfl rfl hb6 (Ze rfl rfl hb6 (Ze rfl rfl hb6 (Ze rfl rfl hb6 (Ze rfl rfl hb6 (q_v (Zm (.sc (.bool _)) rfl hb6 rfl) (wB rfl (Ze rfl rfl rfl (Ze rfl rfl rfl (Ze rfl rfl rfl (qg_u rfl rfl (qg_u rfl rfl (qg_u rfl rfl (qg_u rfl rfl (qg_u rfl rfl (Ze rfl rfl rfl ?_)))))))))))))))
 refine q_v (Zm (.sc (.bool _)) rfl rfl rfl) (wB rfl (Ze rfl rfl rfl (Ze rfl rfl rfl (Ze rfl rfl rfl (Ze rfl rfl rfl (qg_u rfl rfl (qg_u rfl rfl (qg_u rfl rfl (qg_u rfl rfl (qg_u rfl rfl (qg_u rfl rfl (qg_u rfl rfl (qg_u rfl rfl (qg_u rfl rfl (qg_u rfl rfl ?_)))))))))))))))
 refine Ze rfl rfl rfl (q_v (Zm (.sc (.bool _)) rfl rfl rfl) (q_nil ?_))
 cases hm
 exact ⟨rfl, (), hk11, LeF.s (.k3 .nil)⟩
 have hm := Zj hm hb6
 refine Zk rfl rfl hb6 (q_v (Zg (.agg (c_Catalog p0)) ld27 rfl (Zd 1 hk11 rfl) rfl) (Zk rfl rfl hb6 (q_v (Zh fd63_3 rfl rfl) (Zk rfl rfl hb6 (q_v (Zg (.sl none 4 (List.map c_Loc x1.Locs)) ld58 rfl (Zd 0 hk11 rfl) rfl) (Zk rfl rfl hb6 ?_))))))
 obtain ⟨y6, hy6, hm⟩ := Zc hm
 refine q_v (o_call (W61 _ hy6) rfl bd61 rfl) (Zk rfl rfl hb6 (q_v (o_not rfl) (q_v (Zn (.sc (.bool _)) rfl hb6 rfl) (wB rfl ?_))))
 rcases Bool.eq_false_or_eq_true (!y6) with hb7 | hb7
 have hm := Zi hm hb7
 refine Ze rfl rfl hb7 (Ze rfl rfl hb7 (Ze rfl rfl hb7 (qg_u rfl rfl (qg_u rfl rfl (qg_u rfl rfl (qg_u rfl rfl (qg_u rfl rfl (Ze rfl rfl hb7 (q_v (Zm (.sc (.bool _)) rfl hb7 rfl) (wB rfl (Ze rfl rfl rfl (Ze rfl rfl rfl (Ze rfl rfl rfl (Ze rfl rfl rfl (qg_u rfl rfl ?_)))))))))))))))
 refine qg_u rfl rfl (qg_u rfl rfl (qg_u rfl rfl (qg_u rfl rfl (qg_u rfl rfl (qg_u rfl rfl (qg_u rfl rfl (qg_u rfl rfl (qg_u rfl rfl (Ze rfl rfl rfl (q_v (Zm (.sc (.bool _)) rfl rfl rfl) (q_nil ?_)))))))))))
 cases hm
 exact ⟨rfl, (), hk11, LeF.s (.k3 .nil)⟩
 have hm := Zj hm hb7
 refine Zk rfl rfl hb7 (q_v (Zh fd63_1 rfl rfl) (Zk rfl rfl hb7 (q_v (Zg (.sc (.bool x1.Staged)) ld4 rfl (Zd 0 hk11 rfl) rfl) (Zk rfl rfl hb7 (wB rfl ?_)))))
 rcases Bool.eq_false_or_eq_true x1.Staged with hb8 | hb8
 have hm := Zi hm hb8
 refine Zk rfl rfl hb8 (q_v (Zh fd63_2 rfl rfl) (Zk rfl rfl hb8 (q_v (Zg (.sl none 1 (List.map c_u8 x1.Data)) ld52 rfl (Zd 0 hk11 rfl) rfl) (Zk rfl rfl hb8 (q_v (o_lenm ln52 rfl) (Zk rfl rfl hb8 ?_))))))
 obtain ⟨y7, hy7, hm⟩ := Zc hm
 refine q_v (o_call (W59 _ hy7) rfl bd59 rfl) (Zk rfl rfl hb8 (q_v (o_not rfl) (Zk rfl rfl hb7 (q_v (Zm (.sc (.bool _)) rfl hb8 rfl) (q_v (Zn (.sc (.bool _)) rfl hb7 rfl) (wB rfl ?_))))))
 rcases Bool.eq_false_or_eq_true (!y7) with hb9 | hb9
 have hm := Zi hm hb9
 refine Ze rfl rfl hb9 (Ze rfl rfl hb9 (Ze rfl rfl hb9 (Ze rfl rfl hb9 (qg_u rfl rfl (qg_u rfl rfl (qg_u rfl rfl (qg_u rfl rfl (qg_u rfl rfl (qg_u rfl rfl (qg_u rfl rfl (qg_u rfl rfl (qg_u rfl rfl (qg_u rfl rfl (Ze rfl rfl hb9 (q_v (Zm (.sc (.bool _)) rfl hb9 rfl) ?_)))))))))))))))
 refine q_nil ?_
 cases hm
 exact ⟨rfl, (), hk11, LeF.s (.k3 .nil)⟩
 have hm := Zj hm hb9
 refine Zk rfl rfl hb9 (q_v (Zh fd63_1 rfl rfl) (Zk rfl rfl hb9 (q_v (Zg (.sc (.bool x1.Staged)) ld4 rfl (Zd 0 hk11 rfl) rfl) (Zk rfl rfl hb9 (q_v (o_not rfl) (Zk rfl rfl hb9 (wB rfl ?_)))))))
 rcases Bool.eq_false_or_eq_true (!x1.Staged) with hb10 | hb10
 have hm := Zi hm hb10
 refine Zk rfl rfl hb10 (q_v (Zh fd63_2 rfl rfl) (Zk rfl rfl hb10 (q_v (Zg (.sl none 1 (List.map c_u8 x1.Data)) ld52 rfl (Zd 0 hk11 rfl) rfl) (Zk rfl rfl hb10 (q_v (o_lenm ln52 rfl) (Zk rfl rfl hb10 (wF rfl rfl rfl (Zk rfl rfl hb10 (wB rfl ?_)))))))))
 rcases Bool.eq_false_or_eq_true (decide (0 < (x1.Data.length : Int))) with hb11 | hb11
 have hm := Zi hm hb11
 refine Ze rfl rfl hb11 (Ze rfl rfl hb11 (Ze rfl rfl hb11 (Ze rfl rfl hb11 (Zk rfl rfl hb10 (q_v (Zm (.sc (.bool _)) rfl hb11 rfl) (Zk rfl rfl hb9 (q_v (Zm (.sc (.bool _)) rfl hb10 rfl) (q_v (Zn (.sc (.bool _)) rfl hb9 rfl) (q_nil ?_)))))))))
 cases hm
 exact ⟨rfl, (), hk11, LeF.s (.k3 .nil)⟩
 have hm := Zj hm hb11
 refine Zk rfl rfl hb11 (q_v (Zh fd63_3 rfl rfl) (Zk rfl rfl hb11 (q_v (Zg (.sl none 4 (List.map c_Loc x1.Locs)) ld58 rfl (Zd 0 hk11 rfl) rfl) (Zk rfl rfl hb11 (q_v (o_lenm ln58 rfl) (Zk rfl rfl hb11 (wF rfl rfl rfl (Zk rfl rfl hb10 (q_v (Zn (.sc (.bool _)) rfl hb11 rfl) (Zk rfl rfl hb9 (q_v (Zm (.sc (.bool _)) rfl hb10 rfl) (q_v (Zn (.sc (.bool _)) rfl hb9 rfl) (q_nil ?_)))))))))))))
 cases hm
 exact ⟨rfl, (), hk11, LeF.s (.k3 .nil)⟩
 have hm := Zj hm hb10
 refine Ze rfl rfl hb10 (Ze rfl rfl hb10 (Ze rfl rfl hb10 (Ze rfl rfl hb10 (Ze rfl rfl hb10 (qg_u rfl rfl (qg_u rfl rfl (qg_u rfl rfl (qg_u rfl rfl (Ze rfl rfl hb10 (Zk rfl rfl hb9 (q_v (Zn (.sc (.bool _)) rfl hb10 rfl) (q_v (Zn (.sc (.bool _)) rfl hb9 rfl) (q_nil ?_)))))))))))))
 cases hm
 exact ⟨rfl, (), hk11, LeF.s (.k3 .nil)⟩
 have hm := Zj hm hb8
 refine Ze rfl rfl hb8 (Ze rfl rfl hb8 (Ze rfl rfl hb8 (Ze rfl rfl hb8 (Ze rfl rfl hb8 (Zk rfl rfl hb7 (q_v (Zn (.sc (.bool _)) rfl hb8 rfl) (q_v (Zn (.sc (.bool _)) rfl hb7 rfl) (wB rfl (Zk rfl rfl rfl (q_v (Zh fd63_1 rfl rfl) (Zk rfl rfl rfl (q_v (Zg (.sc (.bool x1.Staged)) ld4 rfl (Zd 0 hk11 rfl) rfl) (Zk rfl rfl rfl (q_v (o_not rfl) (Zk rfl rfl rfl ?_)))))))))))))))
 refine wB rfl ?_
 rcases Bool.eq_false_or_eq_true (!x1.Staged) with hb12 | hb12
 have hm := Zi hm hb12
 refine Zk rfl rfl hb12 (q_v (Zh fd63_2 rfl rfl) (Zk rfl rfl hb12 (q_v (Zg (.sl none 1 (List.map c_u8 x1.Data)) ld52 rfl (Zd 0 hk11 rfl) rfl) (Zk rfl rfl hb12 (q_v (o_lenm ln52 rfl) (Zk rfl rfl hb12 (wF rfl rfl rfl (Zk rfl rfl hb12 (wB rfl ?_)))))))))
 rcases Bool.eq_false_or_eq_true (decide (0 < (x1.Data.length : Int))) with hb13 | hb13
 have hm := Zi hm hb13
 refine Ze rfl rfl hb13 (Ze rfl rfl hb13 (Ze rfl rfl hb13 (Ze rfl rfl hb13 (Zk rfl rfl hb12 (q_v (Zm (.sc (.bool _)) rfl hb13 rfl) (Zk rfl rfl rfl (q_v (Zm (.sc (.bool _)) rfl hb12 rfl) (q_v (Zn (.sc (.bool _)) rfl rfl rfl) (q_nil ?_)))))))))
 cases hm
 exact ⟨rfl, (), hk11, LeF.s (.k3 .nil)⟩
 have hm := Zj hm hb13
 refine Zk rfl rfl hb13 (q_v (Zh fd63_3 rfl rfl) (Zk rfl rfl hb13 (q_v (Zg (.sl none 4 (List.map c_Loc x1.Locs)) ld58 rfl (Zd 0 hk11 rfl) rfl) (Zk rfl rfl hb13 (q_v (o_lenm ln58 rfl) (Zk rfl rfl hb13 (wF rfl rfl rfl (Zk rfl rfl hb12 (q_v (Zn (.sc (.bool _)) rfl hb13 rfl) (Zk rfl rfl rfl (q_v (Zm (.sc (.bool _)) rfl hb12 rfl) (q_v (Zn (.sc (.bool _)) rfl rfl rfl) (q_nil ?_)))))))))))))
 cases hm
 exact ⟨rfl, (), hk11, LeF.s (.k3 .nil)⟩
 have hm := Zj hm hb12
 refine Ze rfl rfl hb12 (Ze rfl rfl hb12 (Ze rfl rfl hb12 (Ze rfl rfl hb12 (Ze rfl rfl hb12 (qg_u rfl rfl (qg_u rfl rfl (qg_u rfl rfl (qg_u rfl rfl (Ze rfl rfl hb12 (Zk rfl rfl rfl (q_v (Zn (.sc (.bool _)) rfl hb12 rfl) (q_v (Zn (.sc (.bool _)) rfl rfl rfl) (q_nil ?_)))))))))))))
 cases hm
 exact ⟨rfl, (), hk11, LeF.s (.k3 .nil)⟩
 have hm := Zj hm hb5
 refine Ze rfl rfl hb5 (Ze rfl rfl hb5 (Ze rfl rfl hb5 (Ze rfl rfl hb5 (Ze rfl rfl hb5 (Ze rfl rfl hb5 (Ze rfl rfl hb5 (Ze rfl rfl hb5 (Ze rfl rfl hb5 (Ze rfl rfl hb5 (Ze rfl rfl hb5 (q_v (Zn (.sc (.bool _)) rfl hb5 rfl) (wB rfl (Zk rfl rfl rfl (q_v (Zg (.agg (c_Catalog p0)) ld27 rfl (Zd 1 hk11 rfl) rfl) (Zk rfl rfl rfl ?_)))))))))))))))
 refine q_v (Zh fd63_3 rfl rfl) (Zk rfl rfl rfl (q_v (Zg (.sl none 4 (List.map c_Loc x1.Locs)) ld58 rfl (Zd 0 hk11 rfl) rfl) (Zk rfl rfl rfl ?_)))
 obtain ⟨y8, hy8, hm⟩ := Zc hm
 refine q_v (o_call (W61 _ hy8) rfl bd61 rfl) (Zk rfl rfl rfl (q_v (o_not rfl) (q_v (Zn (.sc (.bool _)) rfl rfl rfl) (wB rfl ?_))))
 rcases Bool.eq_false_or_eq_true (!y8) with hb14 | hb14
 have hm := Zi hm hb14
 refine Ze rfl rfl hb14 (Ze rfl rfl hb14 (Ze rfl rfl hb14 (qg_u rfl rfl (qg_u rfl rfl (qg_u rfl rfl (qg_u rfl rfl (qg_u rfl rfl (Ze rfl rfl hb14 (q_v (Zm (.sc (.bool _)) rfl hb14 rfl) (wB rfl (Ze rfl rfl rfl (Ze rfl rfl rfl (Ze rfl rfl rfl (Ze rfl rfl rfl (qg_u rfl rfl ?_)))))))))))))))
 refine qg_u rfl rfl (qg_u rfl rfl (qg_u rfl rfl (qg_u rfl rfl (qg_u rfl rfl (qg_u rfl rfl (qg_u rfl rfl (qg_u rfl rfl (qg_u rfl rfl (Ze rfl rfl rfl (q_v (Zm (.sc (.bool _)) rfl rfl rfl) (q_nil ?_)))))))))))
 cases hm
 exact ⟨rfl, (), hk11, LeF.s (.k3 .nil)⟩
 have hm := Zj hm hb14
 refine Zk rfl rfl hb14 (q_v (Zh fd63_1 rfl rfl) (Zk rfl rfl hb14 (q_v (Zg (.sc (.bool x1.Staged)) ld4 rfl (Zd 0 hk11 rfl) rfl) (Zk rfl rfl hb14 (wB rfl ?_)))))
 rcases Bool.eq_false_or_eq_true x1.Staged with hb15 | hb15
 have hm := Zi hm hb15
 refine Zk rfl rfl hb15 (q_v (Zh fd63_2 rfl rfl) (Zk rfl rfl hb15 (q_v (Zg (.sl none 1 (List.map c_u8 x1.Data)) ld52 rfl (Zd 0 hk11 rfl) rfl) (Zk rfl rfl hb15 (q_v (o_lenm ln52 rfl) (Zk rfl rfl hb15 ?_))))))
 obtain ⟨y9, hy9, hm⟩ := Zc hm
 refine q_v (o_call (W59 _ hy9) rfl bd59 rfl) (Zk rfl rfl hb15 (q_v (o_not rfl) (Zk rfl rfl hb14 (q_v (Zm (.sc (.bool _)) rfl hb15 rfl) (q_v (Zn (.sc (.bool _)) rfl hb14 rfl) (wB rfl ?_))))))
 rcases Bool.eq_false_or_eq_true (!y9) with hb16 | hb16
 have hm := Zi hm hb16
 refine Ze rfl rfl hb16 (Ze rfl rfl hb16 (Ze rfl rfl hb16 (Ze rfl rfl hb16 (qg_u rfl rfl (qg_u rfl rfl (qg_u rfl rfl (qg_u rfl rfl (qg_u rfl rfl (qg_u rfl rfl (qg_u rfl rfl (qg_u rfl rfl (qg_u rfl rfl (qg_u rfl rfl (Ze rfl rfl hb16 (q_v (Zm (.sc (.bool _)) rfl hb16 rfl) ?_)))))))))))))))
 refine q_nil ?_
 cases hm
 exact ⟨rfl, (), hk11, LeF.s (.k3 .nil)⟩
 have hm := Zj hm hb16
 refine Zk rfl rfl hb16 (q_v (Zh fd63_1 rfl rfl) (Zk rfl rfl hb16 (q_v (Zg (.sc (.bool x1.Staged)) ld4 rfl (Zd 0 hk11 rfl) rfl) (Zk rfl rfl hb16 (q_v (o_not rfl) (Zk rfl rfl hb16 (wB rfl ?_)))))))
 rcases Bool.eq_false_or_eq_true (!x1.Staged) with hb17 | hb17
 have hm := Zi hm hb17
 refine Zk rfl rfl hb17 (q_v (Zh fd63_2 rfl rfl) (Zk rfl rfl hb17 (q_v (Zg (.sl none 1 (List.map c_u8 x1.Data)) ld52 rfl (Zd 0 hk11 rfl) rfl) (Zk rfl rfl hb17 (q_v (o_lenm ln52 rfl) (Zk rfl rfl hb17 (wF rfl rfl rfl (Zk rfl rfl hb17 (wB rfl ?_)))))))))
 rcases Bool.eq_false_or_eq_true (decide (0 < (x1.Data.length : Int))) with hb22 | hb22
 have hm := Zi hm hb22
 refine Ze rfl rfl hb22 (Ze rfl rfl hb22 (Ze rfl rfl hb22 (Ze rfl rfl hb22 (Zk rfl rfl hb17 (q_v (Zm (.sc (.bool _)) rfl hb22 rfl) (Zk rfl rfl hb16 (q_v (Zm (.sc (.bool _)) rfl hb17 rfl) (q_v (Zn (.sc (.bool _)) rfl hb16 rfl) (q_nil ?_)))))))))
 cases hm
 exact ⟨rfl, (), hk11, LeF.s (.k3 .nil)⟩
 have hm := Zj hm hb22
 refine Zk rfl rfl hb22 (q_v (Zh fd63_3 rfl rfl) (Zk rfl rfl hb22 (q_v (Zg (.sl none 4 (List.map c_Loc x1.Locs)) ld58 rfl (Zd 0 hk11 rfl) rfl) (Zk rfl rfl hb22 (q_v (o_lenm ln58 rfl) (Zk rfl rfl hb22 (wF rfl rfl rfl (Zk rfl rfl hb17 (q_v (Zn (.sc (.bool _)) rfl hb22 rfl) (Zk rfl rfl hb16 (q_v (Zm (.sc (.bool _)) rfl hb17 rfl) (q_v (Zn (.sc (.bool _)) rfl hb16 rfl) (q_nil ?_)))))))))))))
 cases hm
 exact ⟨rfl, (), hk11, LeF.s (.k3 .nil)⟩
 have hm := Zj hm hb17
 refine Ze rfl rfl hb17 (Ze rfl rfl hb17 (Ze rfl rfl hb17 (Ze rfl rfl hb17 (Ze rfl rfl hb17 (qg_u rfl rfl (qg_u rfl rfl (qg_u rfl rfl (qg_u rfl rfl (Ze rfl rfl hb17 (Zk rfl rfl hb16 (q_v (Zn (.sc (.bool _)) rfl hb17 rfl) (q_v (Zn (.sc (.bool _)) rfl hb16 rfl) (q_nil ?_)))))))))))))
 cases hm
 exact ⟨rfl, (), hk11, LeF.s (.k3 .nil)⟩
 have hm := Zj hm hb15
 refine Ze rfl rfl hb15 (Ze rfl rfl hb15 (Ze rfl rfl hb15 (Ze rfl rfl hb15 (Ze rfl rfl hb15 (Zk rfl rfl hb14 (q_v (Zn (.sc (.bool _)) rfl hb15 rfl) (q_v (Zn (.sc (.bool _)) rfl hb14 rfl) (wB rfl (Zk rfl rfl rfl (q_v (Zh fd63_1 rfl rfl) (Zk rfl rfl rfl (q_v (Zg (.sc (.bool x1.Staged)) ld4 rfl (Zd 0 hk11 rfl) rfl) (Zk rfl rfl rfl (q_v (o_not rfl) (Zk rfl rfl rfl ?_)))))))))))))))
 refine wB rfl ?_
 rcases Bool.eq_false_or_eq_true (!x1.Staged) with hb23 | hb23
 have hm := Zi hm hb23
 refine Zk rfl rfl hb23 (q_v (Zh fd63_2 rfl rfl) (Zk rfl rfl hb23 (q_v (Zg (.sl none 1 (List.map c_u8 x1.Data)) ld52 rfl (Zd 0 hk11 rfl) rfl) (Zk rfl rfl hb23 (q_v (o_lenm ln52 rfl) (Zk rfl rfl hb23 (wF rfl rfl rfl (Zk rfl rfl hb23 (wB rfl ?_)))))))))
 rcases Bool.eq_false_or_eq_true (decide (0 < (x1.Data.length : Int))) with hb24 | hb24
 have hm := Zi hm hb24
 refine Ze rfl rfl hb24 (Ze rfl rfl hb24 (Ze rfl rfl hb24 (Ze rfl rfl hb24 (Zk rfl rfl hb23 (q_v (Zm (.sc (.bool _)) rfl hb24 rfl) (Zk rfl rfl rfl (q_v (Zm (.sc (.bool _)) rfl hb23 rfl) (q_v (Zn (.sc (.bool _)) rfl rfl rfl) (q_nil ?_)))))))))
 cases hm
 exact ⟨rfl, (), hk11, LeF.s (.k3 .nil)⟩
 have hm := Zj hm hb24
 refine Zk rfl rfl hb24 (q_v (Zh fd63_3 rfl rfl) (Zk rfl rfl hb24 (q_v (Zg (.sl none 4 (List.map c_Loc x1.Locs)) ld58 rfl (Zd 0 hk11 rfl) rfl) (Zk rfl rfl hb24 (q_v (o_lenm ln58 rfl) (Zk rfl rfl hb24 (wF rfl rfl rfl (Zk rfl rfl hb23 (q_v (Zn (.sc (.bool _)) rfl hb24 rfl) (Zk rfl rfl rfl (q_v (Zm (.sc (.bool _)) rfl hb23 rfl) (q_v (Zn (.sc (.bool _)) rfl rfl rfl) (q_nil ?_)))))))))))))
 cases hm
 exact ⟨rfl, (), hk11, LeF.s (.k3 .nil)⟩
 have hm := Zj hm hb23
 refine Ze rfl rfl hb23 (Ze rfl rfl hb23 (Ze rfl rfl hb23 (Ze rfl rfl hb23 (Ze rfl rfl hb23 (qg_u rfl rfl (qg_u rfl rfl (qg_u rfl rfl (qg_u rfl rfl (Ze rfl rfl hb23 (Zk rfl rfl rfl (q_v (Zn (.sc (.bool _)) rfl hb23 rfl) (q_v (Zn (.sc (.bool _)) rfl rfl rfl) (q_nil ?_)))))))))))))
 cases hm
 exact ⟨rfl, (), hk11, LeF.s (.k3 .nil)⟩
 rintro _ j3 fr' h' hk12 hm le
 refine H32 _ _ (le.aw ?_)
 refine AW_if' rfl (fun hc9 => ?_) (fun hc9 => ?_)
 have hm := Zi hm hc9
 refine Zf fun K32 H33 => (Za (vD rfl (Zb (H33 _ _ (AW_ret ?_)))))
 cases hm
 refine ⟨⟨nofun, nofun⟩, fun he => ?_⟩
 subst he
 exact Ret.of1 (.inl rfl) (rsT _ _ (.sc (.bool _)) rfl) (hp_sub (List.nil_sublist _) hk12).1 (ALe.refl _ _) ⟨rfl, rfl⟩
 have hm := Zj hm hc9
 refine Zl (H30 _ _ (Za (vA rfl (vF rfl rfl rfl (vC rfl (Zb ?_))))))
 cases hm
 exact ⟨rfl, (), (hp_sub (.cons _ (.refl _)) hk12).2, LeF.fm ((hp_sub (.cons _ (.refl _)) hk12).1) (.k2 .nil)⟩
 have hm := Zj hm hc8
 refine AW_exit ?_
 refine Seq_exit ?_
 cases hm
 exact ⟨rfl, (), hk9, LeF.s (.k2 .nil)⟩
 rintro _ r1 fr' h' hk13 hm le
 refine H23 _ _ (le.aw ?_)
 refine Zf fun K33 H34 => (Zf fun K34 H35 => (Za (vC rfl (Zb (H35 _ _ ?_)))))
 refine AW_loopH (n := 296) (h := h) hm (σ := Int) (τ := Unit) (fun g s => [(some k2, .obj 27 (c_Catalog p0))]) (fun g s => kp (kp (k0) 7 (.sc (.int .i64 s))) 1 (.ptr k2 0)) () hk13 (LeF.s (.k2 .nil)) ?_ ?_
 rintro _ q2 x hk14 hm
 replace hm : M19_L5 fuel p0 q2 = some x := hm
 unfold M19_L5 at hm
 refine Zf fun K35 H36 => (Zf fun K36 H37 => (Za (vA rfl (s_v (Zh fd27_1 rfl rfl) (s_v (Zg (.sl none 4 (List.map c_Snap p0.Snaps)) ld22 rfl (Zd 0 hk14 rfl) rfl) (s_v (o_lenm ln22 rfl) (vF rfl rfl rfl (Zb (H37 _ _ ?_)))))))))
 refine AW_if' rfl (fun hc10 => ?_) (fun hc10 => ?_)
 have hm := Zi hm hc10
 refine Zl (H36 _ _ (Zf fun K37 H38 => (AW_block (Zf fun K38 H39 => (Za (s_v (Zh fd27_1 rfl rfl) (s_v (Zg (.sl none 4 (List.map c_Snap p0.Snaps)) ld22 rfl (Zd 0 hk14 rfl) rfl) (vA rfl ?_))))))))
 obtain ⟨x3, hx3, hm⟩ := Zc hm
 refine s_v (o_ix hx3 el22 rfl rfl) (s_v (o_ld (.agg (c_Snap x3)) ld60 rfl rfl) ?_)
 refine s_op (a_alloc ([.sc (.int .i64 0), .sc (.string ByteArray.empty), .sc (.slice none 0 0), .sc (.slice none 0 0)]) hk14 zr60 rfl rfl fun k720 hk15 => ?_)
 refine s_op (a_store 0 (c_Snap x3) hk15 rfl rfl rfl rfl sz60 rfl rfl fun hk16 => ?_)
 refine Zb (H39 _ _ (Zf fun K39 H40 => (Zf fun K40 H41 => ?_)))
 refine AW_joinH (n := 296) (h := h) hm (σ := Bool) (τ := Unit) (fun g s => [(some k720, .obj 60 (c_Snap x3)), (some k2, .obj 27 (c_Catalog p0))]) (fun g s => kp (kp (kp (kp (k0) 200 (.sc (.bool s))) 8 (.ptr k720 0)) 7 (.sc (.int .i64 q2))) 1 (.ptr k2 0)) (fun x hm => ?_) ?_
 refine AW_rq mixed (by kernel_rfl) ?_
 refine q_v (Zh fd60_0 rfl rfl) (q_v (Zg (.sc (.int .i64 x3.Seq)) ld3 rfl (Zd 0 hk16 rfl) rfl) (wF rfl rfl rfl (wB rfl ?_)))
 rcases Bool.eq_false_or_eq_true (decide (x3.Seq < 0)) with hb25 | hb25
 have hm := Zi hm hb25
 refine Ze rfl rfl hb25 (Ze rfl rfl hb25 (Ze rfl rfl hb25 (Ze rfl rfl hb25 (Ze rfl rfl hb25 (q_v (Zm (.sc (.bool _)) rfl hb25 rfl) (wB rfl (Ze rfl rfl rfl (Ze rfl rfl rfl (Ze rfl rfl rfl (qg_u rfl rfl (qg_u rfl rfl (qg_u rfl rfl (qg_u rfl rfl (qg_u rfl rfl (qg_u rfl rfl ?_)))))))))))))))
 refine qg_u rfl rfl (qg_u rfl rfl (qg_u rfl rfl (qg_u rfl rfl (Ze rfl rfl rfl (q_v (Zm (.sc (.bool _)) rfl rfl rfl) (wB rfl (Ze rfl rfl rfl (Ze rfl rfl rfl (Ze rfl rfl rfl (Ze rfl rfl rfl (q_v (Zm (.sc (.bool _)) rfl rfl rfl) (wB rfl (Ze rfl rfl rfl (Ze rfl rfl rfl (Ze rfl rfl rfl ?_)))))))))))))))
 refine Ze rfl rfl rfl (Ze rfl rfl rfl (q_v (Zm (.sc (.bool _)) rfl rfl rfl) (wB rfl (Ze rfl rfl rfl (Ze rfl rfl rfl (Ze rfl rfl rfl (Ze rfl rfl rfl (Ze rfl rfl rfl (Ze rfl rfl rfl (Ze rfl rfl rfl (q_v (Zm (.sc (.bool _)) rfl rfl rfl) (q_nil ?_))))))))))))
 cases hm
 exact ⟨rfl, (), hk16, LeF.s (.k4 .nil)⟩
 have hm := Zj hm hb25
 refine Zk rfl rfl hb25 (q_v (Zh fd60_0 rfl rfl) (Zk rfl rfl hb25 (q_v (Zg (.sc (.int .i64 x3.Seq)) ld3 rfl (Zd 0 hk16 rfl) rfl) (Zk rfl rfl hb25 (q_v (Zh fd27_0 rfl rfl) (Zk rfl rfl hb25 (q_v (Zg (.sc (.int .i64 p0.Seq)) ld3 rfl (Zd 1 hk16 rfl) rfl) (Zk rfl rfl hb25 (wF rfl rfl rfl (q_v (Zn (.sc (.bool _)) rfl hb25 rfl) (wB rfl ?_)))))))))))
 rcases Bool.eq_false_or_eq_true (decide (p0.Seq ≤ x3.Seq)) with hb26 | hb26
 have hm := Zi hm hb26
 refine Ze rfl rfl hb26 (Ze rfl rfl hb26 (Ze rfl rfl hb26 (qg_u rfl rfl (qg_u rfl rfl (qg_u rfl rfl (qg_u rfl rfl (qg_u rfl rfl (qg_u rfl rfl (qg_u rfl rfl (qg_u rfl rfl (qg_u rfl rfl (qg_u rfl rfl (Ze rfl rfl hb26 (q_v (Zm (.sc (.bool _)) rfl hb26 rfl) (wB rfl ?_)))))))))))))))
 refine Ze rfl rfl rfl (Ze rfl rfl rfl (Ze rfl rfl rfl (Ze rfl rfl rfl (q_v (Zm (.sc (.bool _)) rfl rfl rfl) (wB rfl (Ze rfl rfl rfl (Ze rfl rfl rfl (Ze rfl rfl rfl (Ze rfl rfl rfl (Ze rfl rfl rfl (q_v (Zm (.sc (.bool _)) rfl rfl rfl) (wB rfl (Ze rfl rfl rfl (Ze rfl rfl rfl (Ze rfl rfl rfl ?_)))))))))))))))
 refine Ze rfl rfl rfl (Ze rfl rfl rfl (Ze rfl rfl rfl (Ze rfl rfl rfl (q_v (Zm (.sc (.bool _)) rfl rfl rfl) (q_nil ?_)))))
 cases hm
 exact ⟨rfl, (), hk16, LeF.s (.k4 .nil)⟩
 have hm := Zj hm hb26
 refine Zk rfl rfl hb26 (wA rfl (Zk rfl rfl hb26 (wF rfl rfl rfl (Zk rfl rfl hb26 (wB rfl ?_)))))
 rcases Bool.eq_false_or_eq_true (decide (0 < q2)) with hb27 | hb27
 have hm := Zi hm hb27
 refine Zk rfl rfl hb27 (q_v (Zh fd60_0 rfl rfl) (Zk rfl rfl hb27 (q_v (Zg (.sc (.int .i64 x3.Seq)) ld3 rfl (Zd 0 hk16 rfl) rfl) (Zk rfl rfl hb27 (q_v (Zh fd27_1 rfl rfl) (Zk rfl rfl hb27 (q_v (Zg (.sl none 4 (List.map c_Snap p0.Snaps)) ld22 rfl (Zd 1 hk16 rfl) rfl) (Zk rfl rfl hb27 (wA rfl (Zk rfl rfl hb27 (wF rfl rfl rfl (Zk rfl rfl hb27 ?_))))))))))))
 obtain ⟨x4, hx4, hm⟩ := Zc hm
 refine q_v (o_ix hx4 el22 rfl rfl) (Zk rfl rfl hb27 (q_v (o_fl fd60_0 rfl rfl) (Zk rfl rfl hb27 (q_v (o_ld (.sc (.int .i64 x4.Seq)) ld3 rfl rfl) (Zk rfl rfl hb27 (wF rfl rfl rfl (Zk rfl rfl hb26 (q_v (Zm (.sc (.bool _)) rfl hb27 rfl) (q_v (Zn (.sc (.bool _)) rfl hb26 rfl) (wB rfl ?_))))))))))
 rcases Bool.eq_false_or_eq_true (decide (x3.Seq ≤ x4.Seq)) with hb28 | hb28
 have hm := Zi hm hb28
 refine Ze rfl rfl hb28 (Ze rfl rfl hb28 (Ze rfl rfl hb28 (Ze rfl rfl hb28 (q_v (Zm (.sc (.bool _)) rfl hb28 rfl) (wB rfl (Ze rfl rfl rfl (Ze rfl rfl rfl (Ze rfl rfl rfl (Ze rfl rfl rfl (Ze rfl rfl rfl (q_v (Zm (.sc (.bool _)) rfl rfl rfl) (wB rfl (Ze rfl rfl rfl (Ze rfl rfl rfl (Ze rfl rfl rfl ?_)))))))))))))))
 refine Ze rfl rfl rfl (Ze rfl rfl rfl (Ze rfl rfl rfl (Ze rfl rfl rfl (q_v (Zm (.sc (.bool _)) rfl rfl rfl) (q_nil ?_)))))
 cases hm
 exact ⟨rfl, (), hk16, LeF.s (.k4 .nil)⟩
 have hm := Zj hm hb28
 refine Zk rfl rfl hb28 (q_v (Zh fd60_1 rfl rfl) (Zk rfl rfl hb28 (q_v (Zg (.agg (c_Manifest x3.Man)) ld57 rfl (Zd 0 hk16 rfl) rfl) (Zk rfl rfl hb28 ?_))))
 obtain ⟨y10, hy10, hm⟩ := Zc hm
 refine q_v (o_call (W62 _ hy10) rfl bd62 rfl) (Zk rfl rfl hb28 (q_v (o_not rfl) (q_v (Zn (.sc (.bool _)) rfl hb28 rfl) (wB rfl ?_))))
 rcases Bool.eq_false_or_eq_true (!y10) with hb29 | hb29
 have hm := Zi hm hb29
 refine Ze rfl rfl hb29 (Ze rfl rfl hb29 (Ze rfl rfl hb29 (Ze rfl rfl hb29 (Ze rfl rfl hb29 (q_v (Zm (.sc (.bool _)) rfl hb29 rfl) (wB rfl (Ze rfl rfl rfl (Ze rfl rfl rfl (Ze rfl rfl rfl (Ze rfl rfl rfl (Ze rfl rfl rfl (Ze rfl rfl rfl (Ze rfl rfl rfl (q_v (Zm (.sc (.bool _)) rfl rfl rfl) (q_nil ?_)))))))))))))))
 cases hm
 exact ⟨rfl, (), hk16, LeF.s (.k4 .nil)⟩
 have hm := Zj hm hb29
 refine Zk rfl rfl hb29 (q_v (Zg (.agg (c_Catalog p0)) ld27 rfl (Zd 1 hk16 rfl) rfl) (Zk rfl rfl hb29 (q_v (Zh fd60_2 rfl rfl) (Zk rfl rfl hb29 (q_v (Zg (.sl none 4 (List.map c_Loc x3.Locs)) ld58 rfl (Zd 0 hk16 rfl) rfl) (Zk rfl rfl hb29 ?_))))))
 obtain ⟨y11, hy11, hm⟩ := Zc hm
 refine q_v (o_call (W61 _ hy11) rfl bd61 rfl) (Zk rfl rfl hb29 (q_v (o_not rfl) (q_v (Zn (.sc (.bool _)) rfl hb29 rfl) (wB rfl ?_))))
 rcases Bool.eq_false_or_eq_true (!y11) with hb30 | hb30
 have hm := Zi hm hb30
 refine Ze rfl rfl hb30 (Ze rfl rfl hb30 (Ze rfl rfl hb30 (Ze rfl rfl hb30 (Ze rfl rfl hb30 (Ze rfl rfl hb30 (Ze rfl rfl hb30 (q_v (Zm (.sc (.bool _)) rfl hb30 rfl) (q_nil ?_))))))))
 cases hm
 exact ⟨rfl, (), hk16, LeF.s (.k4 .nil)⟩
 have hm := Zj hm hb30
 refine Zk rfl rfl hb30 (q_v (Zg (.agg (c_Catalog p0)) ld27 rfl (Zd 1 hk16 rfl) rfl) (Zk rfl rfl hb30 (q_v (Zh fd60_1 rfl rfl) (Zk rfl rfl hb30 (q_v (Zh fd57_0 rfl rfl) (Zk rfl rfl hb30 (q_v (Zg (.sc (.string x3.Man.Name)) ld9 rfl (Zd 0 hk16 rfl) rfl) (Zk rfl rfl hb30 ?_))))))))
 obtain ⟨y12, hy12, hm⟩ := Zc hm
 refine q_v (o_call (W50 _ hy12) rfl bd50 rfl) (Zk rfl rfl hb30 (wA rfl (Zk rfl rfl hb30 (wF rfl rfl rfl (q_v (Zn (.sc (.bool _)) rfl hb30 rfl) (q_nil ?_))))))
 cases hm
 exact ⟨rfl, (), hk16, LeF.s (.k4 .nil)⟩
 have hm := Zj hm hb27
 refine Ze rfl rfl hb27 (Ze rfl rfl hb27 (Ze rfl rfl hb27 (Ze rfl rfl hb27 (Ze rfl rfl hb27 (Ze rfl rfl hb27 (Ze rfl rfl hb27 (Ze rfl rfl hb27 (Ze rfl rfl hb27 (Ze rfl rfl hb27 (Zk rfl rfl hb26 (q_v (Zn (.sc (.bool _)) rfl hb27 rfl) (q_v (Zn (.sc (.bool _)) rfl hb26 rfl) (wB rfl (Zk rfl rfl rfl (q_v (Zh fd60_1 rfl rfl) ?_)))))))))))))))
 refine Zk rfl rfl rfl (q_v (Zg (.agg (c_Manifest x3.Man)) ld57 rfl (Zd 0 hk16 rfl) rfl) (Zk rfl rfl rfl ?_))
 obtain ⟨y13, hy13, hm⟩ := Zc hm
 refine q_v (o_call (W62 _ hy13) rfl bd62 rfl) (Zk rfl rfl rfl (q_v (o_not rfl) (q_v (Zn (.sc (.bool _)) rfl rfl rfl) (wB rfl ?_))))
 rcases Bool.eq_false_or_eq_true (!y13) with hb31 | hb31
 have hm := Zi hm hb31
 refine Ze rfl rfl hb31 (Ze rfl rfl hb31 (Ze rfl rfl hb31 (Ze rfl rfl hb31 (Ze rfl rfl hb31 (q_v (Zm (.sc (.bool _)) rfl hb31 rfl) (wB rfl (Ze rfl rfl rfl (Ze rfl rfl rfl (Ze rfl rfl rfl (Ze rfl rfl rfl (Ze rfl rfl rfl (Ze rfl rfl rfl (Ze rfl rfl rfl (q_v (Zm (.sc (.bool _)) rfl rfl rfl) (q_nil ?_)))))))))))))))
 cases hm
 exact ⟨rfl, (), hk16, LeF.s (.k4 .nil)⟩
 have hm := Zj hm hb31
 refine Zk rfl rfl hb31 (q_v (Zg (.agg (c_Catalog p0)) ld27 rfl (Zd 1 hk16 rfl) rfl) (Zk rfl rfl hb31 (q_v (Zh fd60_2 rfl rfl) (Zk rfl rfl hb31 (q_v (Zg (.sl none 4 (List.map c_Loc x3.Locs)) ld58 rfl (Zd 0 hk16 rfl) rfl) (Zk rfl rfl hb31 ?_))))))
 obtain ⟨y14, hy14, hm⟩ := Zc hm
 refine q_v (o_call (W61 _ hy14) rfl bd61 rfl) (Zk rfl rfl hb31 (q_v (o_not rfl) (q_v (Zn (.sc (.bool _)) rfl hb31 rfl) (wB rfl ?_))))
 rcases Bool.eq_false_or_eq_true (!y14) with hb32 | hb32
 have hm := Zi hm hb32
 refine Ze rfl rfl hb32 (Ze rfl rfl hb32 (Ze rfl rfl hb32 (Ze rfl rfl hb32 (Ze rfl rfl hb32 (Ze rfl rfl hb32 (Ze rfl rfl hb32 (q_v (Zm (.sc (.bool _)) rfl hb32 rfl) (q_nil ?_))))))))
 cases hm
 exact ⟨rfl, (), hk16, LeF.s (.k4 .nil)⟩
 have hm := Zj hm hb32
 refine Zk rfl rfl hb32 (q_v (Zg (.agg (c_Catalog p0)) ld27 rfl (Zd 1 hk16 rfl) rfl) (Zk rfl rfl hb32 (q_v (Zh fd60_1 rfl rfl) (Zk rfl rfl hb32 (q_v (Zh fd57_0 rfl rfl) (Zk rfl rfl hb32 (q_v (Zg (.sc (.string x3.Man.Name)) ld9 rfl (Zd 0 hk16 rfl) rfl) (Zk rfl rfl hb32 ?_))))))))
 obtain ⟨y15, hy15, hm⟩ := Zc hm
 refine q_v (o_call (W50 _ hy15) rfl bd50 rfl) (Zk rfl rfl hb32 (wA rfl (Zk rfl rfl hb32 (wF rfl rfl rfl (q_v (Zn (.sc (.bool _)) rfl hb32 rfl) (q_nil ?_))))))
 cases hm
 exact ⟨rfl, (), hk16, LeF.s (.k4 .nil)⟩
 rintro _ j4 fr' h' hk17 hm le
 refine H41 _ _ (le.aw ?_)
 refine AW_if' rfl (fun hc11 => ?_) (fun hc11 => ?_)
 have hm := Zi hm hc11
 refine Zf fun K41 H42 => (Za (vD rfl (Zb (H42 _ _ (AW_ret ?_)))))
 cases hm
 refine ⟨⟨nofun, nofun⟩, fun he => ?_⟩
 subst he
 exact Ret.of1 (.inl rfl) (rsT _ _ (.sc (.bool _)) rfl) (hp_sub (List.nil_sublist _) hk17).1 (ALe.refl _ _) ⟨rfl, rfl⟩
 have hm := Zj hm hc11
 refine Zl (H40 _ _ (Zf fun K42 H43 => (Za (s_v (Zh fd60_1 rfl rfl) (s_v (Zg (.agg (c_Manifest x3.Man)) ld57 rfl (Zd 0 hk17 rfl) rfl) ?_)))))
 obtain ⟨y17, hy16, hm⟩ := Zc hm
 refine s_v (o_call (W63 _ hy16) rfl bd63 rfl) (s_v (o_as (.sl _ _ _) rfl) (Zb (H43 _ _ (Zf fun K43 H44 => (Zf fun K44 H45 => (Za (vC rfl (Zb (H45 _ _ ?_)))))))))
 refine AW_loopH (n := 296) (h := h) hm (σ := Int) (τ := Unit) (fun g s => [(some k720, .obj 60 (c_Snap x3)), (some k2, .obj 27 (c_Catalog p0))]) (fun g s => kp (kp (kp (kp (kp (k0) 10 (.sc (.int .i64 s))) 9 (.sl none 32 (List.map c_id y17))) 8 (.ptr k720 0)) 7 (.sc (.int .i64 q2))) 1 (.ptr k2 0)) () hk17 (LeF.s (.k5 .nil)) ?_ ?_
 rintro _ q3 x hk18 hm
 replace hm : M19_L7 fuel p0 y17 q3 = some x := hm
 unfold M19_L7 at hm
 refine Zf fun K45 H46 => (Zf fun K46 H47 => (Za (vA rfl (vE rfl (s_v (o_lenm ln80 rfl) (vF rfl rfl rfl (Zb (H47 _ _ ?_))))))))
 refine AW_if' rfl (fun hc12 => ?_) (fun hc12 => ?_)
 have hm := Zi hm hc12
 refine Zl (H46 _ _ (Zf fun K47 H48 => (AW_block (Zf fun K48 H49 => ?_))))
 refine AW_rq mixed (by kernel_rfl) ?_
 refine q_v (Zg (.agg (c_Catalog p0)) ld27 rfl (Zd 1 hk18 rfl) rfl) (wE rfl (wA rfl ?_))
 obtain ⟨x5, hx5, hm⟩ := Zc hm
 refine q_v (o_ix hx5 el80 rfl rfl) (q_v (o_ld (.agg (c_id x5)) ld61 rfl rfl) ?_)
 obtain ⟨y18, hy18, hm⟩ := Zc hm
 refine q_v (o_call (W64 _ hy18) rfl bd64 rfl) (wF rfl rfl rfl (q_nil (H49 _ _ ?_)))
 refine AW_if' rfl (fun hc13 => ?_) (fun hc13 => ?_)
 have hm := Zi hm hc13
 refine Zf fun K49 H50 => (Za (vD rfl (Zb (H50 _ _ (AW_ret ?_)))))
 cases hm
 refine ⟨⟨nofun, nofun⟩, fun he => ?_⟩
 subst he
 refine ⟨⟨nofun, nofun⟩, fun he => ?_⟩
 subst he
 exact Ret.of1 (.inl rfl) (rsT _ _ (.sc (.bool _)) rfl) (hp_sub (List.nil_sublist _) hk18).1 (ALe.refl _ _) ⟨rfl, rfl⟩
 have hm := Zj hm hc13
 refine Zl (H48 _ _ (Za (vA rfl (vF rfl rfl rfl (vC rfl (Zb ?_))))))
 cases hm
 exact ⟨rfl, (), hk18, LeF.s (.k5 .nil)⟩
 have hm := Zj hm hc12
 refine AW_exit ?_
 refine Seq_exit ?_
 cases hm
 exact ⟨rfl, (), hk18, LeF.s (.k5 .nil)⟩
 rintro _ r2 fr' h' hk19 hm le
 refine H44 _ _ (le.aw ?_)
 refine Zf fun K50 H51 => (Za (vC rfl (Zb (H51 _ _ ?_))))
 refine AW_loopH (n := 296) (h := h) hm (σ := Int) (τ := Unit) (fun g s => [(some k720, .obj 60 (c_Snap x3)), (some k2, .obj 27 (c_Catalog p0))]) (fun g s => kp (kp (kp (kp (k0) 11 (.sc (.int .i64 s))) 8 (.ptr k720 0)) 7 (.sc (.int .i64 q2))) 1 (.ptr k2 0)) () hk19 (LeF.s (.k4 .nil)) ?_ ?_
 rintro _ q4 x hk20 hm
 replace hm : M19_L9 fuel p0 x3 q4 = some x := hm
 unfold M19_L9 at hm
 refine Zf fun K51 H52 => (Zf fun K52 H53 => (Za (vA rfl (s_v (Zh fd27_3 rfl rfl) (s_v (Zg (.sl none 3 (List.map c_Exp p0.Exps)) ld24 rfl (Zd 1 hk20 rfl) rfl) (s_v (o_lenm ln24 rfl) (vF rfl rfl rfl (Zb (H53 _ _ ?_)))))))))
 refine AW_if' rfl (fun hc14 => ?_) (fun hc14 => ?_)
 have hm := Zi hm hc14
 refine Zl (H52 _ _ (Zf fun K53 H54 => (AW_block (Zf fun K54 H55 => ?_))))
 refine AW_rq mixed (by kernel_rfl) ?_
 refine q_v (Zh fd27_3 rfl rfl) (q_v (Zg (.sl none 3 (List.map c_Exp p0.Exps)) ld24 rfl (Zd 1 hk20 rfl) rfl) (wA rfl ?_))
 obtain ⟨x6, hx6, hm⟩ := Zc hm
 refine q_v (o_ix hx6 el24 rfl rfl) (q_v (o_fl fd65_1 rfl rfl) (q_v (o_ld (.sc (.int .i64 x6.Of)) ld3 rfl rfl) (q_v (Zh fd60_0 rfl rfl) (q_v (Zg (.sc (.int .i64 x3.Seq)) ld3 rfl (Zd 0 hk20 rfl) rfl) (wF rfl rfl rfl (q_nil (H55 _ _ ?_)))))))
 refine AW_if' rfl (fun hc15 => ?_) (fun hc15 => ?_)
 have hm := Zi hm hc15
 refine Zf fun K55 H56 => (Za (vD rfl (Zb (H56 _ _ (AW_ret ?_)))))
 cases hm
 refine ⟨⟨nofun, nofun⟩, fun he => ?_⟩
 subst he
 refine ⟨⟨nofun, nofun⟩, fun he => ?_⟩
 subst he
 exact Ret.of1 (.inl rfl) (rsT _ _ (.sc (.bool _)) rfl) (hp_sub (List.nil_sublist _) hk20).1 (ALe.refl _ _) ⟨rfl, rfl⟩
 have hm := Zj hm hc15
 refine Zl (H54 _ _ (Za (vA rfl (vF rfl rfl rfl (vC rfl (Zb ?_))))))
 cases hm
 exact ⟨rfl, (), hk20, LeF.s (.k4 .nil)⟩
 have hm := Zj hm hc14
 refine AW_exit ?_
 refine Seq_exit ?_
 cases hm
 exact ⟨rfl, (), hk20, LeF.s (.k4 .nil)⟩
 rintro _ r3 fr' h' hk21 hm le
 refine H38 _ _ (le.aw ?_)
 refine Za (vA rfl (vF rfl rfl rfl (vC rfl (Zb ?_))))
 cases hm
 exact ⟨rfl, (), (hp_sub (.cons _ (.refl _)) hk21).2, LeF.fm ((hp_sub (.cons _ (.refl _)) hk21).1) (.k2 .nil)⟩
 have hm := Zj hm hc10
 refine AW_exit ?_
 refine Seq_exit ?_
 cases hm
 exact ⟨rfl, (), hk14, LeF.s (.k2 .nil)⟩
 rintro _ r4 fr' h' hk22 hm le
 refine H34 _ _ (le.aw ?_)
 refine Zf fun K56 H57 => (Zf fun K57 H58 => (Za (vC rfl (Zb (H58 _ _ ?_)))))
 refine AW_loopH (n := 296) (h := h) hm (σ := Int) (τ := Unit) (fun g s => [(some k2, .obj 27 (c_Catalog p0))]) (fun g s => kp (kp (k0) 12 (.sc (.int .i64 s))) 1 (.ptr k2 0)) () hk22 (LeF.s (.k2 .nil)) ?_ ?_
 rintro _ q5 x hk23 hm
 replace hm : M19_L11 fuel p0 q5 = some x := hm
 unfold M19_L11 at hm
 refine Zf fun K58 H59 => (Zf fun K59 H60 => (Za (vA rfl (s_v (Zh fd27_3 rfl rfl) (s_v (Zg (.sl none 3 (List.map c_Exp p0.Exps)) ld24 rfl (Zd 0 hk23 rfl) rfl) (s_v (o_lenm ln24 rfl) (vF rfl rfl rfl (Zb (H60 _ _ ?_)))))))))
 refine AW_if' rfl (fun hc16 => ?_) (fun hc16 => ?_)
 have hm := Zi hm hc16
 refine Zl (H59 _ _ (Zf fun K60 H61 => (AW_block (Zf fun K61 H62 => (Za (s_v (Zh fd27_3 rfl rfl) (s_v (Zg (.sl none 3 (List.map c_Exp p0.Exps)) ld24 rfl (Zd 0 hk23 rfl) rfl) (vA rfl ?_))))))))
 obtain ⟨x7, hx7, hm⟩ := Zc hm
 refine s_v (o_ix hx7 el24 rfl rfl) (s_v (o_ld (.agg (c_Exp x7)) ld65 rfl rfl) ?_)
 refine s_op (a_alloc ([.sc (.int .i64 0), .sc (.int .i64 0), .sc (.slice none 0 0)]) hk23 zr65 rfl rfl fun k960 hk25 => ?_)
 refine s_op (a_store 0 (c_Exp x7) hk25 rfl rfl rfl rfl sz65 rfl rfl fun hk26 => ?_)
 refine Zb (H62 _ _ (Zf fun K62 H63 => ?_))
 refine AW_joinH (n := 296) (h := h) hm (σ := Bool) (τ := Unit) (fun g s => [(some k960, .obj 65 (c_Exp x7)), (some k2, .obj 27 (c_Catalog p0))]) (fun g s => kp (kp (kp (k0) 295 (.sc (.bool s))) 12 (.sc (.int .i64 q5))) 1 (.ptr k2 0)) (fun x hm => ?_) ?_
 refine AW_rq mixed (by kernel_rfl) ?_
 refine q_v (Zh fd65_0 rfl rfl) (q_v (Zg (.sc (.int .i64 x7.Seq)) ld3 rfl (Zd 0 hk26 rfl) rfl) (wF rfl rfl rfl (wB rfl ?_)))
 rcases Bool.eq_false_or_eq_true (decide (x7.Seq < 0)) with hb33 | hb33
 have hm := Zi hm hb33
 refine Ze rfl rfl hb33 (Ze rfl rfl hb33 (Ze rfl rfl hb33 (Ze rfl rfl hb33 (Ze rfl rfl hb33 (q_v (Zm (.sc (.bool _)) rfl hb33 rfl) (wB rfl (Ze rfl rfl rfl (Ze rfl rfl rfl (Ze rfl rfl rfl (qg_u rfl rfl (qg_u rfl rfl (qg_u rfl rfl (qg_u rfl rfl (qg_u rfl rfl (qg_u rfl rfl ?_)))))))))))))))
 refine qg_u rfl rfl (qg_u rfl rfl (qg_u rfl rfl (qg_u rfl rfl (Ze rfl rfl rfl (q_v (Zm (.sc (.bool _)) rfl rfl rfl) (wB rfl (Ze rfl rfl rfl (Ze rfl rfl rfl (Ze rfl rfl rfl (q_v (Zm (.sc (.bool _)) rfl rfl rfl) (wB rfl (Ze rfl rfl rfl (Ze rfl rfl rfl (Ze rfl rfl rfl (Ze rfl rfl rfl ?_)))))))))))))))
 refine Ze rfl rfl rfl (q_v (Zm (.sc (.bool _)) rfl rfl rfl) (wB rfl (Ze rfl rfl rfl (Ze rfl rfl rfl (Ze rfl rfl rfl (Ze rfl rfl rfl (Ze rfl rfl rfl (q_v (Zm (.sc (.bool _)) rfl rfl rfl) (wB rfl (Ze rfl rfl rfl (Ze rfl rfl rfl (Ze rfl rfl rfl (Ze rfl rfl rfl (q_v (Zm (.sc (.bool _)) rfl rfl rfl) (q_nil ?_)))))))))))))))
 cases hm
 exact ⟨rfl, (), hk26, LeF.s (.k3 .nil)⟩
 have hm := Zj hm hb33
 refine Zk rfl rfl hb33 (q_v (Zh fd65_0 rfl rfl) (Zk rfl rfl hb33 (q_v (Zg (.sc (.int .i64 x7.Seq)) ld3 rfl (Zd 0 hk26 rfl) rfl) (Zk rfl rfl hb33 (q_v (Zh fd27_0 rfl rfl) (Zk rfl rfl hb33 (q_v (Zg (.sc (.int .i64 p0.Seq)) ld3 rfl (Zd 1 hk26 rfl) rfl) (Zk rfl rfl hb33 (wF rfl rfl rfl (q_v (Zn (.sc (.bool _)) rfl hb33 rfl) (wB rfl ?_)))))))))))
 rcases Bool.eq_false_or_eq_true (decide (p0.Seq ≤ x7.Seq)) with hb34 | hb34
 have hm := Zi hm hb34
 refine Ze rfl rfl hb34 (Ze rfl rfl hb34 (Ze rfl rfl hb34 (qg_u rfl rfl (qg_u rfl rfl (qg_u rfl rfl (qg_u rfl rfl (qg_u rfl rfl (qg_u rfl rfl (qg_u rfl rfl (qg_u rfl rfl (qg_u rfl rfl (qg_u rfl rfl (Ze rfl rfl hb34 (q_v (Zm (.sc (.bool _)) rfl hb34 rfl) (wB rfl ?_)))))))))))))))
 refine Ze rfl rfl rfl (Ze rfl rfl rfl (Ze rfl rfl rfl (q_v (Zm (.sc (.bool _)) rfl rfl rfl) (wB rfl (Ze rfl rfl rfl (Ze rfl rfl rfl (Ze rfl rfl rfl (Ze rfl rfl rfl (Ze rfl rfl rfl (q_v (Zm (.sc (.bool _)) rfl rfl rfl) (wB rfl (Ze rfl rfl rfl (Ze rfl rfl rfl (Ze rfl rfl rfl (Ze rfl rfl rfl ?_)))))))))))))))
 refine Ze rfl rfl rfl (q_v (Zm (.sc (.bool _)) rfl rfl rfl) (wB rfl (Ze rfl rfl rfl (Ze rfl rfl rfl (Ze rfl rfl rfl (Ze rfl rfl rfl (q_v (Zm (.sc (.bool _)) rfl rfl rfl) (q_nil ?_))))))))
 cases hm
 exact ⟨rfl, (), hk26, LeF.s (.k3 .nil)⟩
 have hm := Zj hm hb34
 refine Zk rfl rfl hb34 (wA rfl (Zk rfl rfl hb34 (wF rfl rfl rfl (Zk rfl rfl hb34 (wB rfl ?_)))))
 rcases Bool.eq_false_or_eq_true (decide (0 < q5)) with hb35 | hb35
 have hm := Zi hm hb35
 refine Zk rfl rfl hb35 (q_v (Zh fd65_0 rfl rfl) (Zk rfl rfl hb35 (q_v (Zg (.sc (.int .i64 x7.Seq)) ld3 rfl (Zd 0 hk26 rfl) rfl) (Zk rfl rfl hb35 (q_v (Zh fd27_3 rfl rfl) (Zk rfl rfl hb35 (q_v (Zg (.sl none 3 (List.map c_Exp p0.Exps)) ld24 rfl (Zd 1 hk26 rfl) rfl) (Zk rfl rfl hb35 (wA rfl (Zk rfl rfl hb35 (wF rfl rfl rfl (Zk rfl rfl hb35 ?_))))))))))))
 obtain ⟨x8, hx8, hm⟩ := Zc hm
 refine q_v (o_ix hx8 el24 rfl rfl) (Zk rfl rfl hb35 (q_v (o_fl fd65_0 rfl rfl) (Zk rfl rfl hb35 (q_v (o_ld (.sc (.int .i64 x8.Seq)) ld3 rfl rfl) (Zk rfl rfl hb35 (wF rfl rfl rfl (Zk rfl rfl hb34 (q_v (Zm (.sc (.bool _)) rfl hb35 rfl) (q_v (Zn (.sc (.bool _)) rfl hb34 rfl) (wB rfl ?_))))))))))
 rcases Bool.eq_false_or_eq_true (decide (x7.Seq ≤ x8.Seq)) with hb36 | hb36
 have hm := Zi hm hb36
 refine Ze rfl rfl hb36 (Ze rfl rfl hb36 (Ze rfl rfl hb36 (q_v (Zm (.sc (.bool _)) rfl hb36 rfl) (wB rfl (Ze rfl rfl rfl (Ze rfl rfl rfl (Ze rfl rfl rfl (Ze rfl rfl rfl (Ze rfl rfl rfl (q_v (Zm (.sc (.bool _)) rfl rfl rfl) (wB rfl (Ze rfl rfl rfl (Ze rfl rfl rfl (Ze rfl rfl rfl (Ze rfl rfl rfl ?_)))))))))))))))
 refine Ze rfl rfl rfl (q_v (Zm (.sc (.bool _)) rfl rfl rfl) (wB rfl (Ze rfl rfl rfl (Ze rfl rfl rfl (Ze rfl rfl rfl (Ze rfl rfl rfl (q_v (Zm (.sc (.bool _)) rfl rfl rfl) (q_nil ?_))))))))
 cases hm
 exact ⟨rfl, (), hk26, LeF.s (.k3 .nil)⟩
 have hm := Zj hm hb36
 refine Zk rfl rfl hb36 (q_v (Zh fd65_1 rfl rfl) (Zk rfl rfl hb36 (q_v (Zg (.sc (.int .i64 x7.Of)) ld3 rfl (Zd 0 hk26 rfl) rfl) (Zk rfl rfl hb36 (wF rfl rfl rfl (q_v (Zn (.sc (.bool _)) rfl hb36 rfl) (wB rfl ?_)))))))
 rcases Bool.eq_false_or_eq_true (decide (x7.Of < 0)) with hb37 | hb37
 have hm := Zi hm hb37
 refine Ze rfl rfl hb37 (Ze rfl rfl hb37 (Ze rfl rfl hb37 (Ze rfl rfl hb37 (Ze rfl rfl hb37 (q_v (Zm (.sc (.bool _)) rfl hb37 rfl) (wB rfl (Ze rfl rfl rfl (Ze rfl rfl rfl (Ze rfl rfl rfl (Ze rfl rfl rfl (Ze rfl rfl rfl (q_v (Zm (.sc (.bool _)) rfl rfl rfl) (wB rfl (Ze rfl rfl rfl (Ze rfl rfl rfl ?_)))))))))))))))
 refine Ze rfl rfl rfl (Ze rfl rfl rfl (q_v (Zm (.sc (.bool _)) rfl rfl rfl) (q_nil ?_)))
 cases hm
 exact ⟨rfl, (), hk26, LeF.s (.k3 .nil)⟩
 have hm := Zj hm hb37
 refine Zk rfl rfl hb37 (q_v (Zh fd65_1 rfl rfl) (Zk rfl rfl hb37 (q_v (Zg (.sc (.int .i64 x7.Of)) ld3 rfl (Zd 0 hk26 rfl) rfl) (Zk rfl rfl hb37 (q_v (Zh fd65_0 rfl rfl) (Zk rfl rfl hb37 (q_v (Zg (.sc (.int .i64 x7.Seq)) ld3 rfl (Zd 0 hk26 rfl) rfl) (Zk rfl rfl hb37 (wF rfl rfl rfl (q_v (Zn (.sc (.bool _)) rfl hb37 rfl) (wB rfl ?_)))))))))))
 rcases Bool.eq_false_or_eq_true (decide (x7.Seq ≤ x7.Of)) with hb38 | hb38
 have hm := Zi hm hb38
 refine Ze rfl rfl hb38 (Ze rfl rfl hb38 (Ze rfl rfl hb38 (Ze rfl rfl hb38 (Ze rfl rfl hb38 (q_v (Zm (.sc (.bool _)) rfl hb38 rfl) (wB rfl (Ze rfl rfl rfl (Ze rfl rfl rfl (Ze rfl rfl rfl (Ze rfl rfl rfl (q_v (Zm (.sc (.bool _)) rfl rfl rfl) (q_nil ?_))))))))))))
 cases hm
 exact ⟨rfl, (), hk26, LeF.s (.k3 .nil)⟩
 have hm := Zj hm hb38
 refine Zk rfl rfl hb38 (q_v (Zg (.agg (c_Catalog p0)) ld27 rfl (Zd 1 hk26 rfl) rfl) (Zk rfl rfl hb38 (q_v (Zh fd65_2 rfl rfl) (Zk rfl rfl hb38 (q_v (Zg (.sl none 4 (List.map c_Loc x7.Locs)) ld58 rfl (Zd 0 hk26 rfl) rfl) (Zk rfl rfl hb38 ?_))))))
 obtain ⟨y19, hy19, hm⟩ := Zc hm
 refine q_v (o_call (W61 _ hy19) rfl bd61 rfl) (Zk rfl rfl hb38 (q_v (o_not rfl) (q_v (Zn (.sc (.bool _)) rfl hb38 rfl) (wB rfl ?_))))
 rcases Bool.eq_false_or_eq_true (!y19) with hb39 | hb39
 have hm := Zi hm hb39
 refine Ze rfl rfl hb39 (Ze rfl rfl hb39 (Ze rfl rfl hb39 (Ze rfl rfl hb39 (q_v (Zm (.sc (.bool _)) rfl hb39 rfl) (q_nil ?_)))))
 cases hm
 exact ⟨rfl, (), hk26, LeF.s (.k3 .nil)⟩
 have hm := Zj hm hb39
 refine Zk rfl rfl hb39 (q_v (Zh fd65_2 rfl rfl) (Zk rfl rfl hb39 (q_v (Zg (.sl none 4 (List.map c_Loc x7.Locs)) ld58 rfl (Zd 0 hk26 rfl) rfl) (Zk rfl rfl hb39 (q_v (o_lenm ln58 rfl) (Zk rfl rfl hb39 (wF rfl rfl rfl (q_v (Zn (.sc (.bool _)) rfl hb39 rfl) (q_nil ?_)))))))))
 cases hm
 exact ⟨rfl, (), hk26, LeF.s (.k3 .nil)⟩
 have hm := Zj hm hb35
 refine Ze rfl rfl hb35 (Ze rfl rfl hb35 (Ze rfl rfl hb35 (Ze rfl rfl hb35 (Ze rfl rfl hb35 (Ze rfl rfl hb35 (Ze rfl rfl hb35 (Ze rfl rfl hb35 (Ze rfl rfl hb35 (Ze rfl rfl hb35 (Zk rfl rfl hb34 (q_v (Zn (.sc (.bool _)) rfl hb35 rfl) (q_v (Zn (.sc (.bool _)) rfl hb34 rfl) (wB rfl (Zk rfl rfl rfl (q_v (Zh fd65_1 rfl rfl) ?_)))))))))))))))
 refine Zk rfl rfl rfl (q_v (Zg (.sc (.int .i64 x7.Of)) ld3 rfl (Zd 0 hk26 rfl) rfl) (Zk rfl rfl rfl (wF rfl rfl rfl (q_v (Zn (.sc (.bool _)) rfl rfl rfl) (wB rfl ?_)))))
 rcases Bool.eq_false_or_eq_true (decide (x7.Of < 0)) with hb40 | hb40
 have hm := Zi hm hb40
 refine Ze rfl rfl hb40 (Ze rfl rfl hb40 (Ze rfl rfl hb40 (Ze rfl rfl hb40 (Ze rfl rfl hb40 (q_v (Zm (.sc (.bool _)) rfl hb40 rfl) (wB rfl (Ze rfl rfl rfl (Ze rfl rfl rfl (Ze rfl rfl rfl (Ze rfl rfl rfl (Ze rfl rfl rfl (q_v (Zm (.sc (.bool _)) rfl rfl rfl) (wB rfl (Ze rfl rfl rfl (Ze rfl rfl rfl ?_)))))))))))))))
 refine Ze rfl rfl rfl (Ze rfl rfl rfl (q_v (Zm (.sc (.bool _)) rfl rfl rfl) (q_nil ?_)))
 cases hm
 exact ⟨rfl, (), hk26, LeF.s (.k3 .nil)⟩
 have hm := Zj hm hb40
 refine Zk rfl rfl hb40 (q_v (Zh fd65_1 rfl rfl) (Zk rfl rfl hb40 (q_v (Zg (.sc (.int .i64 x7.Of)) ld3 rfl (Zd 0 hk26 rfl) rfl) (Zk rfl rfl hb40 (q_v (Zh fd65_0 rfl rfl) (Zk rfl rfl hb40 (q_v (Zg (.sc (.int .i64 x7.Seq)) ld3 rfl (Zd 0 hk26 rfl) rfl) (Zk rfl rfl hb40 (wF rfl rfl rfl (q_v (Zn (.sc (.bool _)) rfl hb40 rfl) (wB rfl ?_)))))))))))
 rcases Bool.eq_false_or_eq_true (decide (x7.Seq ≤ x7.Of)) with hb41 | hb41
 have hm := Zi hm hb41
 refine Ze rfl rfl hb41 (Ze rfl rfl hb41 (Ze rfl rfl hb41 (Ze rfl rfl hb41 (Ze rfl rfl hb41 (q_v (Zm (.sc (.bool _)) rfl hb41 rfl) (wB rfl (Ze rfl rfl rfl (Ze rfl rfl rfl (Ze rfl rfl rfl (Ze rfl rfl rfl (q_v (Zm (.sc (.bool _)) rfl rfl rfl) (q_nil ?_))))))))))))
 cases hm
 exact ⟨rfl, (), hk26, LeF.s (.k3 .nil)⟩
 have hm := Zj hm hb41
 refine Zk rfl rfl hb41 (q_v (Zg (.agg (c_Catalog p0)) ld27 rfl (Zd 1 hk26 rfl) rfl) (Zk rfl rfl hb41 (q_v (Zh fd65_2 rfl rfl) (Zk rfl rfl hb41 (q_v (Zg (.sl none 4 (List.map c_Loc x7.Locs)) ld58 rfl (Zd 0 hk26 rfl) rfl) (Zk rfl rfl hb41 ?_))))))
 obtain ⟨y20, hy20, hm⟩ := Zc hm
 refine q_v (o_call (W61 _ hy20) rfl bd61 rfl) (Zk rfl rfl hb41 (q_v (o_not rfl) (q_v (Zn (.sc (.bool _)) rfl hb41 rfl) (wB rfl ?_))))
 rcases Bool.eq_false_or_eq_true (!y20) with hb42 | hb42
 have hm := Zi hm hb42
 refine Ze rfl rfl hb42 (Ze rfl rfl hb42 (Ze rfl rfl hb42 (Ze rfl rfl hb42 (q_v (Zm (.sc (.bool _)) rfl hb42 rfl) (q_nil ?_)))))
 cases hm
 exact ⟨rfl, (), hk26, LeF.s (.k3 .nil)⟩
 have hm := Zj hm hb42
 refine Zk rfl rfl hb42 (q_v (Zh fd65_2 rfl rfl) (Zk rfl rfl hb42 (q_v (Zg (.sl none 4 (List.map c_Loc x7.Locs)) ld58 rfl (Zd 0 hk26 rfl) rfl) (Zk rfl rfl hb42 (q_v (o_lenm ln58 rfl) (Zk rfl rfl hb42 (wF rfl rfl rfl (q_v (Zn (.sc (.bool _)) rfl hb42 rfl) (q_nil ?_)))))))))
 cases hm
 exact ⟨rfl, (), hk26, LeF.s (.k3 .nil)⟩
 rintro _ j5 fr' h' hk27 hm le
 refine H63 _ _ (le.aw ?_)
 refine AW_if' rfl (fun hc17 => ?_) (fun hc17 => ?_)
 have hm := Zi hm hc17
 refine Zf fun K63 H64 => (Za (vD rfl (Zb (H64 _ _ (AW_ret ?_)))))
 cases hm
 refine ⟨⟨nofun, nofun⟩, fun he => ?_⟩
 subst he
 exact Ret.of1 (.inl rfl) (rsT _ _ (.sc (.bool _)) rfl) (hp_sub (List.nil_sublist _) hk27).1 (ALe.refl _ _) ⟨rfl, rfl⟩
 have hm := Zj hm hc17
 refine Zl (H61 _ _ (Za (vA rfl (vF rfl rfl rfl (vC rfl (Zb ?_))))))
 cases hm
 exact ⟨rfl, (), (hp_sub (.cons _ (.refl _)) hk27).2, LeF.fm ((hp_sub (.cons _ (.refl _)) hk27).1) (.k2 .nil)⟩
 have hm := Zj hm hc16
 refine AW_exit ?_
 refine Seq_exit ?_
 cases hm
 exact ⟨rfl, (), hk23, LeF.s (.k2 .nil)⟩
 rintro _ r5 fr' h' hk28 hm le
 refine H57 _ _ (le.aw ?_)
 refine Zf fun K64 H65 => (Za (vD rfl (Zb (H65 _ _ (AW_ret ?_)))))
 have hmo := Option.some.inj hm; subst hmo
 exact Ret.of1 (.inl rfl) (rsT _ _ (.sc (.bool _)) rfl) (hp_sub (List.nil_sublist _) hk28).1 (ALe.refl _ _) ⟨rfl, rfl⟩
theorem bd19 : bodied Try.prog 19 = true := by kernel_rfl
end Go.Proofs.Ytoomgangpjcaoaa
