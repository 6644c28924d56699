import Derived.Test.YtoomgangpjcaoaaK5P6
import Derived.Test.YtoomgangpjcaoaaK5P4
set_option linter.unusedSimpArgs false
set_option linter.unusedVariables false
namespace Go.Proofs.Ytoomgangpjcaoaa
open Go.Vm
def M129_L0 (fuel : Nat) (p0 : List TFile) (q0 : Int) : Option (Lp (Int) (Bool)) :=
 if (decide (q0 < (p0.length : Int))) = true then ((ix p0 q0).bind fun x0 => if (decide (200 < (x0.Data.length : Int))) = true then (some (.ret true)) else some (.go (IntKind.wrap .i64 (q0 + 1)))) else some (.brk q0)
def M129 (fuel : Nat) (p0 : List TFile) : Option (Bool) :=
 if (decide (6 < (p0.length : Int))) = true then (some true) else after (loopM (fun s => M129_L0 fuel p0 s) fuel 0) fun r0 => some false
set_option maxHeartbeats 4000000 in
set_option maxRecDepth 100000 in
theorem W129 {fuel : Nat} {p0 : List TFile} {o : Bool} (h : Heap) (hm : M129 fuel p0 = some o) :
 ACalls Try.prog 129 [.sl none 2 (List.map c_File p0)] h (fun r h' => r = .sc (.bool o) ∧ h' = h) := by
 refine ACalls_hp 20 [.tmp 2] Try.func129 rfl rfl rfl rfl ?_
 unfold M129 at hm
 refine Zf fun K1 H1 => (Za (vD rfl (Zb (H1 _ _ (Zf fun K2 H2 => (Zf fun K3 H3 => (Za (vE rfl (s_v (o_lenm ln100 rfl) (vF rfl rfl rfl (Zb (H3 _ _ ?_))))))))))))
 refine AW_if' rfl (fun hc4 => ?_) (fun hc4 => ?_)
 have hm := Zi hm hc4
 refine Zf fun K5 H5 => (Za (vD rfl (Zb (H5 _ _ (AW_ret ?_)))))
 have hmo := Option.some.inj hm; subst hmo
 exact Ret.of1 (.inl rfl) (rsT _ _ (.sc (.bool _)) rfl) (Sub.refl _) (ALe.refl _ _) ⟨rfl, rfl⟩
 have hm := Zj hm hc4
 refine Zl (H2 _ _ (Zf fun K6 H6 => (Zf fun K7 H7 => (Za (vC rfl (Zb (H7 _ _ ?_)))))))
 refine AW_loopH (n := 20) (h := h) hm (σ := Int) (τ := Unit) (fun g s => []) (fun g s => kp (kp (k0) 3 (.sc (.int .i64 s))) 0 (.sl none 2 (List.map c_File p0))) () (HOk.nil _) (LeF.s (.k2 .nil)) ?_ ?_
 rintro _ q0 x hk0 hm
 replace hm : M129_L0 fuel p0 q0 = some x := hm
 unfold M129_L0 at hm
 refine Zf fun K0 H4 => (Zf fun K4 H8 => (Za (vA rfl (vE rfl (s_v (o_lenm ln100 rfl) (vF rfl rfl rfl (Zb (H8 _ _ ?_))))))))
 refine AW_if' rfl (fun hc0 => ?_) (fun hc0 => ?_)
 have hm := Zi hm hc0
 refine Zl (H4 _ _ (Zf fun K8 H9 => (AW_block (Zf fun K9 H33 => (Za (vE rfl (vA rfl ?_)))))))
 obtain ⟨x0, hx0, hm⟩ := Zc hm
 refine s_v (o_ix hx0 el100 rfl rfl) (s_v (o_fl fd105_1 rfl rfl) (s_v (o_ld (.sl none 1 (List.map c_u8 x0.Data)) ld52 rfl rfl) (s_v (o_lenm ln52 rfl) (vF rfl rfl rfl (Zb (H33 _ _ ?_))))))
 refine AW_if' rfl (fun hc1 => ?_) (fun hc1 => ?_)
 have hm := Zi hm hc1
 refine Zf fun K37 H37 => (Za (vD rfl (Zb (H37 _ _ (AW_ret ?_)))))
 cases hm
 refine ⟨⟨nofun, nofun⟩, fun he => ?_⟩
 subst he
 exact Ret.of1 (.inl rfl) (rsT _ _ (.sc (.bool _)) rfl) (Sub.refl _) (ALe.refl _ _) ⟨rfl, rfl⟩
 have hm := Zj hm hc1
 refine Zl (H9 _ _ (Za (vA rfl (vF rfl rfl rfl (vC rfl (Zb ?_))))))
 cases hm
 exact ⟨rfl, (), hk0, LeF.s (.k2 .nil)⟩
 have hm := Zj hm hc0
 refine AW_exit ?_
 refine Seq_exit ?_
 cases hm
 exact ⟨rfl, (), hk0, LeF.s (.k2 .nil)⟩
 rintro _ r0 fr' h' hk1 hm le
 refine H6 _ _ (le.aw ?_)
 refine Zf fun K40 H40 => (Za (vD rfl (Zb (H40 _ _ (AW_ret ?_)))))
 have hmo := Option.some.inj hm; subst hmo
 exact Ret.of1 (.inl rfl) (rsT _ _ (.sc (.bool _)) rfl) (Sub.refl _) (ALe.refl _ _) ⟨rfl, rfl⟩
theorem bd129 : bodied Try.prog 129 = true := by kernel_rfl
def M106_L0 (fuel : Nat) (p0 : List TFile) (q0 : Int) : Option (Lp (Int) ((List TFile) × Int)) :=
 if (decide (q0 < (p0.length : Int))) = true then ((ix p0 q0).bind fun x0 => (M104 fuel x0.Path).bind fun y0 => if (!y0) = true then (some (.ret ([], 1))) else some (.go (IntKind.wrap .i64 (q0 + 1)))) else some (.brk q0)
def M106_L4 (fuel : Nat) (p0 : List TFile) (q0 : List TFile) (q1 : Int) (q2 : Int) : Option (Lp (Int) (Lp ((List TFile) × Int) ((List TFile) × Int))) :=
 after (if (decide (q2 < (q0.length : Int))) = true then ((ix q0 q2).bind fun x0 => (ix p0 q1).bind fun x1 => some (.brk (Op.bytesLess x0.Path.toList x1.Path.toList))) else some (.brk false) : Option (Lp (Bool) (Lp (Int) (Lp ((List TFile) × Int) ((List TFile) × Int))))) fun j0 => if j0 = true then (some (.go (IntKind.wrap .i64 (q2 + 1)))) else some (.brk q2)
def M106_L2 (fuel : Nat) (p0 : List TFile) (q0 : List TFile) (q1 : Int) : Option (Lp ((List TFile) × Int) ((List TFile) × Int)) :=
 if (decide (q1 < (p0.length : Int))) = true then (after (loopM (fun s => M106_L4 fuel p0 q0 q1 s) fuel 0) fun r0 => after (if (decide (r0 < (q0.length : Int))) = true then ((ix q0 r0).bind fun x0 => (ix p0 q1).bind fun x1 => some (.brk (x0.Path.toList == x1.Path.toList))) else some (.brk false) : Option (Lp (Bool) (Lp ((List TFile) × Int) ((List TFile) × Int)))) fun j0 => if j0 = true then (some (.ret ([], 9))) else (slc q0 0 r0).bind fun x2 => (ix p0 q1).bind fun x3 => (ix p0 q1).bind fun x4 => (app ([] : List TFile) x2).bind fun z0 => (M100 fuel x4.Data).bind fun y0 => (app z0 ([({ Path := x3.Path, Data := y0 } : TFile)] : List TFile)).bind fun z1 => (slc q0 r0 (q0.length : Int)).bind fun x5 => (app z1 x5).bind fun z2 => some (.go (z2, IntKind.wrap .i64 (q1 + 1)))) else some (.brk (q0, q1))
def M106 (fuel : Nat) (p0 : List TFile) : Option ((List TFile) × Int) :=
 (M129 fuel p0).bind fun y4 => if y4 = true then (some ([], 2)) else after (loopM (fun s => M106_L0 fuel p0 s) fuel 0) fun r0 => after (loopM (fun s => M106_L2 fuel p0 s.1 s.2) fuel ([], 0)) fun ⟨r1, r2⟩ => some (r1, 0)
set_option maxHeartbeats 4000000 in
set_option maxRecDepth 100000 in
theorem W106 {fuel : Nat} {p0 : List TFile} {o : (List TFile) × Int} (h : Heap) (hm : M106 fuel p0 = some o) :
 ACalls Try.prog 106 [.sl none 2 (List.map c_File p0)] h (fun r h' => r = .tup [.sl none 2 (List.map c_File o.1), .sc (.int .i64 o.2)] ∧ h' = h) := by
 refine ACalls_hp 91 [.tmp 2, .tmp 3] Try.func106 rfl rfl rfl rfl ?_
 unfold M106 at hm
 refine Zf fun K1 H1 => (Za (s_v (o_as (.sc (.slice _ _ _)) rfl) (vC rfl (Zb (H1 _ _ (Zf fun K2 H2 => (Zf fun K3 H3 => (Za (vE rfl ?_)))))))))
 obtain ⟨y4, hy5, hm⟩ := Zc hm
 refine s_v (o_call (W129 _ hy5) rfl bd129 rfl) (Zb (H3 _ _ ?_))
 refine AW_if' rfl (fun hc6 => ?_) (fun hc6 => ?_)
 have hm := Zi hm hc6
 refine Zf fun K7 H7 => (Za (s_v (o_as (.sc (.slice _ _ _)) rfl) (vC rfl (Zb (H7 _ _ (AW_ret ?_))))))
 have hmo := Option.some.inj hm; subst hmo
 exact Ret.of2 (.inl rfl) (rsT _ _ (.sc (.slice _ _ _)) rfl) (rsT _ _ (.sc (.int _ _)) rfl) (Sub.refl _) (nil_lem _) (ALe.refl _ _) ⟨rfl, rfl⟩
 have hm := Zj hm hc6
 refine Zl (H2 _ _ (Zf fun K8 H8 => (Zf fun K9 H9 => (Za (vC rfl (Zb (H9 _ _ ?_)))))))
 refine AW_loopH (n := 91) (h := h) hm (σ := Int) (τ := Unit) (fun g s => []) (fun g s => kp (kp (k0) 4 (.sc (.int .i64 s))) 0 (.sl none 2 (List.map c_File p0))) () (HOk.nil _) (LeF.s (.k2 .nil)) ?_ ?_
 rintro _ q0 x hk0 hm
 replace hm : M106_L0 fuel p0 q0 = some x := hm
 unfold M106_L0 at hm
 refine Zf fun K0 H4 => (Zf fun K4 H5 => (Za (vA rfl (vE rfl (s_v (o_lenm ln100 rfl) (vF rfl rfl rfl (Zb (H5 _ _ ?_))))))))
 refine AW_if' rfl (fun hc0 => ?_) (fun hc0 => ?_)
 have hm := Zi hm hc0
 refine Zl (H4 _ _ (Zf fun K5 H6 => (AW_block (Zf fun K6 H39 => (Za (vE rfl (vA rfl ?_)))))))
 obtain ⟨x0, hx0, hm⟩ := Zc hm
 refine s_v (o_ix hx0 el100 rfl rfl) (s_v (o_fl fd105_0 rfl rfl) (s_v (o_ld (.sc (.string x0.Path)) ld9 rfl rfl) ?_))
 obtain ⟨y0, hy0, hm⟩ := Zc hm
 refine s_v (o_call (W104 _ hy0) rfl bd104 rfl) (s_v (o_not rfl) (Zb (H39 _ _ ?_)))
 refine AW_if' rfl (fun hc1 => ?_) (fun hc1 => ?_)
 have hm := Zi hm hc1
 refine Zf fun K45 H45 => (Za (s_v (o_as (.sc (.slice _ _ _)) rfl) (vC rfl (Zb (H45 _ _ (AW_ret ?_))))))
 cases hm
 refine ⟨⟨nofun, nofun⟩, fun he => ?_⟩
 subst he
 exact Ret.of2 (.inl rfl) (rsT _ _ (.sc (.slice _ _ _)) rfl) (rsT _ _ (.sc (.int _ _)) rfl) (Sub.refl _) (nil_lem _) (ALe.refl _ _) ⟨rfl, rfl⟩
 have hm := Zj hm hc1
 refine Zl (H6 _ _ (Za (vA rfl (vF rfl rfl rfl (vC rfl (Zb ?_))))))
 cases hm
 exact ⟨rfl, (), hk0, LeF.s (.k2 .nil)⟩
 have hm := Zj hm hc0
 refine AW_exit ?_
 refine Seq_exit ?_
 cases hm
 exact ⟨rfl, (), hk0, LeF.s (.k2 .nil)⟩
 rintro _ r0 fr' h' hk1 hm le
 refine H8 _ _ (le.aw ?_)
 refine Zf fun K48 H48 => (Za (s_v (o_as (.sc (.slice _ _ _)) rfl) (Zb (H48 _ _ (Zf fun K49 H49 => (Zf fun K50 H50 => (Za (vC rfl (Zb (H50 _ _ ?_))))))))))
 refine (LeF.put (t := 5) (v := ow none 2 (List.map c_File [])) (Sub.refl _) (ow_nil _ _)).aw ?_
 refine AW_loopL (n := 91) (h := h) hm (σ := (List TFile) × Int) (τ := Option Key) (fun g s => [(g, .tok 105 2 ((s.1 : List TFile).length * 2))]) (fun g s => (g = none → s.1 = [])) (fun g s => kp (kp (kp (k0) 6 (.sc (.int .i64 s.2))) 5 (ow g 2 (List.map c_File s.1))) 0 (.sl none 2 (List.map c_File p0))) none (⟨HOk.none hk1, (fun _ => rfl)⟩) (LeF.s (.k3 .nil)) ?_ ?_
 rintro tg0 ⟨q1, q2⟩ x ⟨hk2, ot0⟩ hm
 replace hm : M106_L2 fuel p0 q1 q2 = some x := hm
 unfold M106_L2 at hm
 refine Zf fun K10 H10 => (Zf fun K11 H11 => (Za (vA rfl (vE rfl (s_v (o_lenm ln100 rfl) (vF rfl rfl rfl (Zb (H11 _ _ ?_))))))))
 refine AW_if' rfl (fun hc2 => ?_) (fun hc2 => ?_)
 have hm := Zi hm hc2
 refine Zl (H10 _ _ (Zf fun K12 H12 => (AW_block (Zf fun K13 H13 => (Za (vC rfl (Zb (H13 _ _ (Zf fun K14 H14 => ?_)))))))))
 refine AW_loopH (n := 91) (h := h) hm (σ := Int) (τ := Unit) (fun g s => [(tg0, .tok 105 2 ((q1 : List TFile).length * 2))]) (fun g s => kp (kp (kp (kp (k0) 7 (.sc (.int .i64 s))) 6 (.sc (.int .i64 q2))) 5 (ow tg0 2 (List.map c_File q1))) 0 (.sl none 2 (List.map c_File p0))) () hk2 (LeF.s (.k4 .nil)) ?_ ?_
 rintro _ q3 x hk3 hm
 replace hm : M106_L4 fuel p0 q1 q2 q3 = some x := hm
 unfold M106_L4 at hm
 refine Zf fun K15 H15 => (Zf fun K16 H16 => ?_)
 refine AW_joinH (n := 91) (h := h) hm (σ := Bool) (τ := Unit) (fun g s => [(tg0, .tok 105 2 ((q1 : List TFile).length * 2))]) (fun g s => kp (kp (kp (kp (kp (k0) 46 (.sc (.bool s))) 7 (.sc (.int .i64 q3))) 6 (.sc (.int .i64 q2))) 5 (ow tg0 2 (List.map c_File q1))) 0 (.sl none 2 (List.map c_File p0))) (fun x hm => ?_) ?_
 refine AW_rq mixed (by kernel_rfl) ?_
 refine wA rfl (q_v (o_mv (ow _ _ _) rfl) (q_v (o_leno ln100 ot0 rfl) (wF rfl rfl rfl (wB rfl ?_))))
 rcases Bool.eq_false_or_eq_true (decide (q3 < (q1.length : Int))) with hb0 | hb0
 have hm := Zi hm hb0
 refine Zk rfl rfl hb0 (q_v (o_mv (ow _ _ _) rfl) (Zk rfl rfl hb0 (wA rfl (Zk rfl rfl hb0 ?_))))
 obtain ⟨x1, hx1, hm⟩ := Zc hm
 refine q_v (o_ixo hx1 el100 ot0 rfl rfl) (Zk rfl rfl hb0 (q_v (o_fl fd105_0 rfl rfl) (Zk rfl rfl hb0 (q_v (o_ld (.sc (.string x1.Path)) ld9 rfl rfl) (Zk rfl rfl hb0 (wE rfl (Zk rfl rfl hb0 (wA rfl (Zk rfl rfl hb0 ?_)))))))))
 obtain ⟨x2, hx2, hm⟩ := Zc hm
 refine q_v (o_ix hx2 el100 rfl rfl) (Zk rfl rfl hb0 (q_v (o_fl fd105_0 rfl rfl) (Zk rfl rfl hb0 (q_v (o_ld (.sc (.string x2.Path)) ld9 rfl rfl) (Zk rfl rfl hb0 (q_v (o_bs rfl rfl rfl trivial) (q_v (Zm (.sc (.bool _)) rfl hb0 rfl) (q_nil ?_))))))))
 cases hm
 exact ⟨rfl, (), hk3, LeF.s (.k5 .nil)⟩
 have hm := Zj hm hb0
 refine Ze rfl rfl hb0 (Ze rfl rfl hb0 (Ze rfl rfl hb0 (Ze rfl rfl hb0 (Ze rfl rfl hb0 (Ze rfl rfl hb0 (Ze rfl rfl hb0 (Ze rfl rfl hb0 (Ze rfl rfl hb0 (Ze rfl rfl hb0 (Ze rfl rfl hb0 (q_v (Zn (.sc (.bool _)) rfl hb0 rfl) (q_nil ?_))))))))))))
 cases hm
 exact ⟨rfl, (), hk3, LeF.s (.k5 .nil)⟩
 rintro _ j0 fr' h' hk4 hm le
 refine H16 _ _ (le.aw ?_)
 refine AW_if' rfl (fun hc3 => ?_) (fun hc3 => ?_)
 have hm := Zi hm hc3
 refine Zl (H15 _ _ (AW_block (Za (vA rfl (vF rfl rfl rfl (vC rfl (Zb ?_)))))))
 cases hm
 exact ⟨rfl, (), hk4, LeF.s (.k4 .nil)⟩
 have hm := Zj hm hc3
 refine AW_exit ?_
 refine Seq_exit ?_
 cases hm
 exact ⟨rfl, (), hk4, LeF.s (.k4 .nil)⟩
 rintro _ r1 fr' h' hk5 hm le
 refine H14 _ _ (le.aw ?_)
 refine Zf fun K17 H17 => (Zf fun K18 H18 => ?_)
 refine AW_joinH (n := 91) (h := h) hm (σ := Bool) (τ := Unit) (fun g s => [(tg0, .tok 105 2 ((q1 : List TFile).length * 2))]) (fun g s => kp (kp (kp (kp (kp (k0) 65 (.sc (.bool s))) 7 (.sc (.int .i64 r1))) 6 (.sc (.int .i64 q2))) 5 (ow tg0 2 (List.map c_File q1))) 0 (.sl none 2 (List.map c_File p0))) (fun x hm => ?_) ?_
 refine AW_rq mixed (by kernel_rfl) ?_
 refine wA rfl (q_v (o_mv (ow _ _ _) rfl) (q_v (o_leno ln100 ot0 rfl) (wF rfl rfl rfl (wB rfl ?_))))
 rcases Bool.eq_false_or_eq_true (decide (r1 < (q1.length : Int))) with hb1 | hb1
 have hm := Zi hm hb1
 refine Zk rfl rfl hb1 (q_v (o_mv (ow _ _ _) rfl) (Zk rfl rfl hb1 (wA rfl (Zk rfl rfl hb1 ?_))))
 obtain ⟨x3, hx3, hm⟩ := Zc hm
 refine q_v (o_ixo hx3 el100 ot0 rfl rfl) (Zk rfl rfl hb1 (q_v (o_fl fd105_0 rfl rfl) (Zk rfl rfl hb1 (q_v (o_ld (.sc (.string x3.Path)) ld9 rfl rfl) (Zk rfl rfl hb1 (wE rfl (Zk rfl rfl hb1 (wA rfl (Zk rfl rfl hb1 ?_)))))))))
 obtain ⟨x4, hx4, hm⟩ := Zc hm
 refine q_v (o_ix hx4 el100 rfl rfl) (Zk rfl rfl hb1 (q_v (o_fl fd105_0 rfl rfl) (Zk rfl rfl hb1 (q_v (o_ld (.sc (.string x4.Path)) ld9 rfl rfl) (Zk rfl rfl hb1 (q_v (o_bs rfl rfl rfl trivial) (q_v (Zm (.sc (.bool _)) rfl hb1 rfl) (q_nil ?_))))))))
 cases hm
 exact ⟨rfl, (), hk5, LeF.s (.k5 .nil)⟩
 have hm := Zj hm hb1
 refine Ze rfl rfl hb1 (Ze rfl rfl hb1 (Ze rfl rfl hb1 (Ze rfl rfl hb1 (Ze rfl rfl hb1 (Ze rfl rfl hb1 (Ze rfl rfl hb1 (Ze rfl rfl hb1 (Ze rfl rfl hb1 (Ze rfl rfl hb1 (Ze rfl rfl hb1 (q_v (Zn (.sc (.bool _)) rfl hb1 rfl) (q_nil ?_))))))))))))
 cases hm
 exact ⟨rfl, (), hk5, LeF.s (.k5 .nil)⟩
 rintro _ j1 fr' h' hk6 hm le
 refine H18 _ _ (le.aw ?_)
 refine AW_if' rfl (fun hc4 => ?_) (fun hc4 => ?_)
 have hm := Zi hm hc4
 refine Zf fun K19 H19 => (Za (s_v (o_as (.sc (.slice _ _ _)) rfl) (vC rfl (Zb (H19 _ _ (AW_ret ?_))))))
 cases hm
 refine ⟨⟨nofun, nofun⟩, fun he => ?_⟩
 subst he
 exact Ret.of2 (.inl rfl) (rsT _ _ (.sc (.slice _ _ _)) rfl) (rsT _ _ (.sc (.int _ _)) rfl) (hp_sub (List.nil_sublist _) hk6).1 (nil_lem _) (ALe.refl _ _) ⟨rfl, rfl⟩
 have hm := Zj hm hc4
 refine Zl (H17 _ _ (Zf fun K20 H20 => (Za (s_v (o_as (.sc (.slice _ _ _)) rfl) (Zb (H20 _ _ (Zf fun K21 H21 => ?_)))))))
 refine AW_zreg [] mixed trivial ?_
 refine z_w 0 rfl (fun S' h' hi hB => o_mv (.sc (.slice _ _ _)) rfl) ?_
 refine z_w 1 rfl (fun S' h' hi hB => o_mv (ow _ _ _) rfl) ?_
 refine z_w 2 rfl (fun S' h' hi hB => o_mv (.sc (.int _ _)) rfl) ?_
 obtain ⟨x5, hx5, hm⟩ := Zc hm
 refine z_w 3 rfl (fun S' h' hi hB => o_slco hx5 el100 rfl ot0 rfl rfl rfl) ?_
 refine z_w 5 rfl (fun S' h' hi hB => o_mv (.sl _ _ _) rfl) ?_
 refine z_w 6 rfl (fun S' h' hi hB => o_mv (.sc (.int _ _)) rfl) ?_
 obtain ⟨x6, hx6, hm⟩ := Zc hm
 refine z_w 7 rfl (fun S' h' hi hB => o_ix hx6 el100 rfl rfl) ?_
 refine z_w 8 rfl (fun S' h' hi hB => o_fl fd105_0 rfl rfl) ?_
 refine z_w 9 rfl (fun S' h' hi hB => o_ld (.sc (.string x6.Path)) ld9 rfl rfl) ?_
 refine z_w 10 rfl (fun S' h' hi hB => o_mv (.sl _ _ _) rfl) ?_
 refine z_w 11 rfl (fun S' h' hi hB => o_mv (.sc (.int _ _)) rfl) ?_
 obtain ⟨x7, hx7, hm⟩ := Zc hm
 refine z_w 12 rfl (fun S' h' hi hB => o_ix hx7 el100 rfl rfl) ?_
 refine z_w 13 rfl (fun S' h' hi hB => o_fl fd105_1 rfl rfl) ?_
 refine z_w 14 rfl (fun S' h' hi hB => o_ld (.sl none 1 (List.map c_u8 x7.Data)) ld52 rfl rfl) ?_
 obtain ⟨z0, hz0, hm⟩ := Zc hm
 refine z_e 4 rfl (by kernel_rfl) (a_app0 (c := c_File) hz0 et100 rfl rfl hk6 nofun (srcOf_own (slc_nil hx5 ot0)) fun tg1 ot1 hk7 => ⟨trivial, ?_⟩)
 obtain ⟨y1, hy1, hm⟩ := Zc hm
 refine z_w 15 rfl (fun S' h' hi hB => o_call (W100 _ hy1) rfl bd100 rfl) ?_
 refine z_w 16 rfl (fun S' h' hi hB => o_bld (c_File ({ Path := x6.Path, Data := y1 } : TFile)) bt105 rfl) ?_
 refine z_w 17 rfl (fun S' h' hi hB => o_lit (List.map c_File ([({ Path := x6.Path, Data := y1 } : TFile)] : List TFile)) et100 rfl rfl rfl rfl) ?_
 obtain ⟨z1, hz1, hm⟩ := Zc hm
 refine z_e 18 rfl (by kernel_rfl) (a_app (c := c_File) 0 hz1 et100 rfl rfl rfl ot1 hk7 rfl fun tg2 ot2 hk8 => ⟨trivial, ?_⟩)
 refine z_w 19 rfl (fun S' h' hi hB => o_as (ow _ _ _) rfl) ?_
 refine z_nil (by kernel_rfl) ?_
 refine H21 _ _ (Za (s_v (o_mv (ow _ _ _) rfl) (s_v (o_mv (ow _ _ _) rfl) (vA rfl ?_))))
 obtain ⟨x8, hx8, hm⟩ := Zc hm
 refine s_v (o_slco hx8 el100 rfl ot0 rfl rfl rfl) ?_
 obtain ⟨z2, hz2, hm⟩ := Zc hm
 refine s_op (a_app (c := c_File) 0 hz2 et100 rfl rfl rfl ot2 hk8 (srcOf_own (slc_nil hx8 ot0)) fun tg3 ot3 hk9 => ?_)
 refine s_v (o_as (ow _ _ _) rfl) (Zb (H12 _ _ (Za (vA rfl (vF rfl rfl rfl (vC rfl (Zb ?_)))))))
 cases hm
 exact ⟨rfl, tg3, ⟨(hp_sub (.cons_cons _ (.cons _ (.refl _))) hk9).2, ot3⟩, LeF.fm ((hp_sub (.cons_cons _ (.cons _ (.refl _))) hk9).1) (.k3 .nil)⟩
 have hm := Zj hm hc2
 refine AW_exit ?_
 refine Seq_exit ?_
 cases hm
 exact ⟨rfl, tg0, ⟨hk2, ot0⟩, LeF.s (.k3 .nil)⟩
 rintro tg4 ⟨r2, r3⟩ fr' h' ⟨hk10, ot4⟩ hm le
 refine H49 _ _ (le.aw ?_)
 refine Zf fun K22 H22 => (Za (s_v (o_mv (ow _ _ _) rfl) (s_v (o_as (ow _ _ _) rfl) (vC rfl (Zb (H22 _ _ (AW_ret ?_)))))))
 have hmo := Option.some.inj hm; subst hmo
 exact Ret.of2 (.inl rfl) (rsT _ _ (ow _ _ _) rfl) (rsT _ _ (.sc (.int _ _)) rfl) (hp_sub (List.nil_sublist _) hk10).1 ((own_frz0 _ 0 ot4 hk10 rfl)) (ALe.refl _ _) ⟨rfl, rfl⟩
theorem bd106 : bodied Try.prog 106 = true := by kernel_rfl
def M132 (fuel : Nat) : Option ((Ar 64)) :=
 some (⟨[1116352408, 1899447441, 3049323471, 3921009573, 961987163, 1508970993, 2453635748, 2870763221, 3624381080, 310598401, 607225278, 1426881987, 1925078388, 2162078206, 2614888103, 3248222580, 3835390401, 4022224774, 264347078, 604807628, 770255983, 1249150122, 1555081692, 1996064986, 2554220882, 2821834349, 2952996808, 3210313671, 3336571891, 3584528711, 113926993, 338241895, 666307205, 773529912, 1294757372, 1396182291, 1695183700, 1986661051, 2177026350, 2456956037, 2730485921, 2820302411, 3259730800, 3345764771, 3516065817, 3600352804, 4094571909, 275423344, 430227734, 506948616, 659060556, 883997877, 958139571, 1322822218, 1537002063, 1747873779, 1955562222, 2024104815, 2227730452, 2361852424, 2428436474, 2756734187, 3204031479, 3329325298], rfl⟩ : Ar 64)
set_option maxHeartbeats 4000000 in
set_option maxRecDepth 100000 in
theorem W132 {fuel : Nat} {o : (Ar 64)} (h : Heap) (hm : M132 fuel = some o) :
 ACalls Try.prog 132 [] h (fun r h' => r = .agg (c_arr64_u32 o) ∧ h' = h) := by
 refine ACalls_hp 2 [.cell 0 172] Try.func132 rfl rfl rfl rfl ?_
 unfold M132 at hm
 refine Zf fun K1 H1 => (Za ?_)
 refine s_op (a_alloc (c_arr64_u32 (arZ 64)) (HOk.nil _) zr172 rfl rfl fun k2 hk3 => ?_)
 refine Zb (H1 _ _ (Zf fun K5 H5 => (Za (s_v (o_bldar [1116352408, 1899447441, 3049323471, 3921009573, 961987163, 1508970993, 2453635748, 2870763221, 3624381080, 310598401, 607225278, 1426881987, 1925078388, 2162078206, 2614888103, 3248222580, 3835390401, 4022224774, 264347078, 604807628, 770255983, 1249150122, 1555081692, 1996064986, 2554220882, 2821834349, 2952996808, 3210313671, 3336571891, 3584528711, 113926993, 338241895, 666307205, 773529912, 1294757372, 1396182291, 1695183700, 1986661051, 2177026350, 2456956037, 2730485921, 2820302411, 3259730800, 3345764771, 3516065817, 3600352804, 4094571909, 275423344, 430227734, 506948616, 659060556, 883997877, 958139571, 1322822218, 1537002063, 1747873779, 1955562222, 2024104815, 2227730452, 2361852424, 2428436474, 2756734187, 3204031479, 3329325298] rfl bta172 rfl rfl rfl) ?_))))
 refine s_op (a_store 0 (c_arr64_u32 (⟨[1116352408, 1899447441, 3049323471, 3921009573, 961987163, 1508970993, 2453635748, 2870763221, 3624381080, 310598401, 607225278, 1426881987, 1925078388, 2162078206, 2614888103, 3248222580, 3835390401, 4022224774, 264347078, 604807628, 770255983, 1249150122, 1555081692, 1996064986, 2554220882, 2821834349, 2952996808, 3210313671, 3336571891, 3584528711, 113926993, 338241895, 666307205, 773529912, 1294757372, 1396182291, 1695183700, 1986661051, 2177026350, 2456956037, 2730485921, 2820302411, 3259730800, 3345764771, 3516065817, 3600352804, 4094571909, 275423344, 430227734, 506948616, 659060556, 883997877, 958139571, 1322822218, 1537002063, 1747873779, 1955562222, 2024104815, 2227730452, 2361852424, 2428436474, 2756734187, 3204031479, 3329325298], rfl⟩ : Ar 64)) hk3 rfl rfl rfl rfl sz172 rfl rfl fun hk6 => ?_)
 refine Zb (H5 _ _ (AW_ret ?_))
 have hmo := Option.some.inj hm; subst hmo
 exact Ret.of1 (.inl rfl) (rsC (.agg (c_arr64_u32 (⟨[1116352408, 1899447441, 3049323471, 3921009573, 961987163, 1508970993, 2453635748, 2870763221, 3624381080, 310598401, 607225278, 1426881987, 1925078388, 2162078206, 2614888103, 3248222580, 3835390401, 4022224774, 264347078, 604807628, 770255983, 1249150122, 1555081692, 1996064986, 2554220882, 2821834349, 2952996808, 3210313671, 3336571891, 3584528711, 113926993, 338241895, 666307205, 773529912, 1294757372, 1396182291, 1695183700, 1986661051, 2177026350, 2456956037, 2730485921, 2820302411, 3259730800, 3345764771, 3516065817, 3600352804, 4094571909, 275423344, 430227734, 506948616, 659060556, 883997877, 958139571, 1322822218, 1537002063, 1747873779, 1955562222, 2024104815, 2227730452, 2361852424, 2428436474, 2756734187, 3204031479, 3329325298], rfl⟩ : Ar 64))) ld172 rfl (Zd 0 hk6 rfl) rfl) (hp_sub (List.nil_sublist _) hk6).1 (ALe.refl _ _) ⟨rfl, rfl⟩
theorem bd132 : bodied Try.prog 132 = true := by kernel_rfl
def M133_L0 (fuel : Nat) (q0 : List Int) : Option (Lp ((List Int)) ((List Int))) :=
 if (((IntKind.wrap .i64 ((q0.length : Int) + 8)).tmod 64) != 0) = true then ((app q0 ([0] : List Int)).bind fun z0 => some (.go z0)) else some (.brk q0)
def M133_L2 (fuel : Nat) (p0 : List Int) (q0 : List Int) (q1 : Int) : Option (Lp ((List Int) × Int) ((List Int))) :=
 if (decide (0 ≤ q1)) = true then (grd (decide (0 ≤ (IntKind.wrap .u64 (8 * (IntKind.wrap .u64 q1))))) <| (app q0 ([IntKind.wrap .u8 ((IntKind.wrap .u64 ((IntKind.wrap .u64 (p0.length : Int)) * 8)).fdiv (2 ^ (min ((IntKind.wrap .u64 (8 * (IntKind.wrap .u64 q1))) : Int).toNat (IntKind.bits .u64))))] : List Int)).bind fun z0 => some (.go (z0, IntKind.wrap .i64 (q1 - 1)))) else some (.brk (q0, q1))
def M133 (fuel : Nat) (p0 : List Int) : Option ((List Int)) :=
 (app ([] : List Int) p0).bind fun z4 => (app z4 ([128] : List Int)).bind fun z0 => after (loopM (fun s => M133_L0 fuel s) fuel z0) fun r0 => after (loopM (fun s => M133_L2 fuel p0 s.1 s.2) fuel (r0, 7)) fun ⟨r1, r2⟩ => some r1
set_option maxHeartbeats 4000000 in
set_option maxRecDepth 100000 in
theorem W133 {fuel : Nat} {p0 : List Int} {o : (List Int)} (h : Heap) (hm : M133 fuel p0 = some o) :
 ACalls Try.prog 133 [.sl none 1 (List.map c_u8 p0)] h (fun r h' => r = .sl none 1 (List.map c_u8 o) ∧ h' = h) := by
 refine ACalls_hp 37 [.tmp 2] Try.func133 rfl rfl rfl rfl ?_
 unfold M133 at hm
 refine Zf fun K1 H1 => (Za (s_v (o_as (.sc (.slice _ _ _)) rfl) (Zb (H1 _ _ (Zf fun K2 H2 => (Za (s_v (o_as (.sc (.slice _ _ _)) rfl) (Zb (H2 _ _ (Zf fun K3 H3 => (Za (s_v (o_mv (.sc (.slice _ _ _)) rfl) (vE rfl ?_)))))))))))))
 obtain ⟨z4, hz5, hm⟩ := Zc hm
 refine s_op (a_app0 (c := c_u8) hz5 et52 rfl rfl (HOk.nil _) nofun rfl fun tg6 ot7 hk8 => ?_)
 refine s_v (o_lit (List.map c_u8 ([128] : List Int)) et52 rfl rfl rfl rfl) ?_
 obtain ⟨z0, hz0, hm⟩ := Zc hm
 refine s_op (a_app (c := c_u8) 0 hz0 et52 rfl rfl rfl ot7 hk8 rfl fun tg0 ot0 hk0 => ?_)
 refine s_v (o_as (ow _ _ _) rfl) (Zb (H3 _ _ (Zf fun K0 H4 => ?_)))
 refine AW_loopL (n := 37) (h := h) hm (σ := (List Int)) (τ := Option Key) (fun g s => [(g, .tok 5 1 ((s : List Int).length * 1))]) (fun g s => (g = none → s = [])) (fun g s => kp (kp (k0) 3 (ow g 1 (List.map c_u8 s))) 0 (.sl none 1 (List.map c_u8 p0))) tg0 (⟨hk0, ot0⟩) (LeF.s (.k2 .nil)) ?_ ?_
 rintro tg1 q0 x ⟨hk1, ot1⟩ hm
 replace hm : M133_L0 fuel q0 = some x := hm
 unfold M133_L0 at hm
 refine Zf fun K4 H5 => (Zf fun K5 H6 => (Za (s_v (o_mv (ow _ _ _) rfl) (s_v (o_leno ln52 ot1 rfl) (vF rfl rfl rfl (s_v (o_bi rfl rfl rfl (by decide)) (vF rfl rfl rfl (Zb (H6 _ _ ?_)))))))))
 refine AW_if' rfl (fun hc0 => ?_) (fun hc0 => ?_)
 have hm := Zi hm hc0
 refine Zl (H5 _ _ (AW_block (Za (s_v (o_mv (ow _ _ _) rfl) (s_v (o_lit (List.map c_u8 ([0] : List Int)) et52 rfl rfl rfl rfl) ?_)))))
 obtain ⟨z1, hz1, hm⟩ := Zc hm
 refine s_op (a_app (c := c_u8) 0 hz1 et52 rfl rfl rfl ot1 hk1 rfl fun tg2 ot2 hk2 => ?_)
 refine s_v (o_as (ow _ _ _) rfl) (Zb ?_)
 cases hm
 exact ⟨rfl, tg2, ⟨hk2, ot2⟩, LeF.s (.k2 .nil)⟩
 have hm := Zj hm hc0
 refine AW_exit ?_
 refine Seq_exit ?_
 cases hm
 exact ⟨rfl, tg1, ⟨hk1, ot1⟩, LeF.s (.k2 .nil)⟩
 rintro tg3 r0 fr' h' ⟨hk3, ot3⟩ hm le
 refine H4 _ _ (le.aw ?_)
 refine Zf fun K6 H7 => (Za (vE rfl (s_v (o_lenm ln52 rfl) (s_v (o_cv ti3 ti186 rfl) (vF rfl rfl rfl (vC rfl (Zb (H7 _ _ (Zf fun K7 H8 => (Zf fun K8 H9 => (Za (vC rfl (Zb (H9 _ _ ?_))))))))))))))
 refine AW_loopL (n := 37) (h := h) hm (σ := (List Int) × Int) (τ := Option Key) (fun g s => [(g, .tok 5 1 ((s.1 : List Int).length * 1))]) (fun g s => (g = none → s.1 = [])) (fun g s => kp (kp (kp (k0) 5 (.sc (.int .i64 s.2))) 4 (.sc (.int .u64 (IntKind.wrap .u64 ((IntKind.wrap .u64 (p0.length : Int)) * 8))))) 3 (ow g 1 (List.map c_u8 s.1))) tg3 (⟨hk3, ot3⟩) (LeF.s (.k3 .nil)) ?_ ?_
 rintro tg4 ⟨q1, q2⟩ x ⟨hk4, ot4⟩ hm
 replace hm : M133_L2 fuel p0 q1 q2 = some x := hm
 unfold M133_L2 at hm
 refine Zf fun K9 H83 => (Zf fun K84 H84 => (Za (vA rfl (vF rfl rfl rfl (Zb (H84 _ _ ?_))))))
 refine AW_if' rfl (fun hc1 => ?_) (fun hc1 => ?_)
 have hm := Zi hm hc1
 refine Zl (H83 _ _ (Zf fun K86 H86 => (AW_block (Za (s_v (o_mv (ow _ _ _) rfl) (vA rfl (vA rfl (s_v (o_cv ti3 ti46 rfl) (vF rfl rfl rfl ?_)))))))))
 obtain ⟨hz2, hm⟩ := grd_of hm
 refine s_v (o_sh rfl rfl rfl (of_decide_eq_true hz2)) (s_v (o_cv ti186 ti5 rfl) (s_v (o_lit (List.map c_u8 ([IntKind.wrap .u8 ((IntKind.wrap .u64 ((IntKind.wrap .u64 (p0.length : Int)) * 8)).fdiv (2 ^ (min ((IntKind.wrap .u64 (8 * (IntKind.wrap .u64 q2))) : Int).toNat (IntKind.bits .u64))))] : List Int)) et52 rfl rfl rfl rfl) ?_))
 obtain ⟨z2, hz3, hm⟩ := Zc hm
 refine s_op (a_app (c := c_u8) 0 hz3 et52 rfl rfl rfl ot4 hk4 rfl fun tg5 ot5 hk5 => ?_)
 refine s_v (o_as (ow _ _ _) rfl) (Zb (H86 _ _ (Za (vA rfl (vF rfl rfl rfl (vC rfl (Zb ?_)))))))
 cases hm
 exact ⟨rfl, tg5, ⟨hk5, ot5⟩, LeF.s (.k3 .nil)⟩
 have hm := Zj hm hc1
 refine AW_exit ?_
 refine Seq_exit ?_
 cases hm
 exact ⟨rfl, tg4, ⟨hk4, ot4⟩, LeF.s (.k3 .nil)⟩
 rintro tg7 ⟨r1, r2⟩ fr' h' ⟨hk6, ot6⟩ hm le
 refine H8 _ _ (le.aw ?_)
 refine Zf fun K98 H98 => (Za (s_v (o_mv (ow _ _ _) rfl) (s_v (o_as (ow _ _ _) rfl) (Zb (H98 _ _ (AW_ret ?_))))))
 have hmo := Option.some.inj hm; subst hmo
 exact Ret.of1 (.inl rfl) (rsT _ _ (ow _ _ _) rfl) (hp_sub (List.nil_sublist _) hk6).1 ((own_frz0 _ 0 ot6 hk6 rfl)) ⟨rfl, rfl⟩
theorem bd133 : bodied Try.prog 133 = true := by kernel_rfl
def M134 (fuel : Nat) (p0 : Int) (p1 : Int) : Option (Int) :=
 grd (decide (0 ≤ p1)) <| grd (decide (0 ≤ (IntKind.wrap .u64 (32 - p1)))) <| some (bitsV .or .u32 (p0.fdiv (2 ^ (min (p1 : Int).toNat (IntKind.bits .u32)))) (IntKind.wrap .u32 (p0 * 2 ^ (min ((IntKind.wrap .u64 (32 - p1)) : Int).toNat (IntKind.bits .u32)))))
set_option maxHeartbeats 4000000 in
set_option maxRecDepth 100000 in
theorem W134 {fuel : Nat} {p0 : Int} {p1 : Int} {o : Int} (h : Heap) (hm : M134 fuel p0 p1 = some o) :
 ACalls Try.prog 134 [.sc (.int .u32 p0), .sc (.int .u64 p1)] h (fun r h' => r = .sc (.int .u32 o) ∧ h' = h) := by
 refine ACalls_hp 13 [.tmp 4] Try.func134 rfl rfl rfl rfl ?_
 unfold M134 at hm
 refine Zf fun K1 H1 => (Za (vC rfl (Zb (H1 _ _ (Zf fun K2 H2 => (Za (vA rfl (vA rfl ?_))))))))
 obtain ⟨hz3, hm⟩ := grd_of hm
 refine s_v (o_sh rfl rfl rfl (of_decide_eq_true hz3)) (vA rfl (vA rfl (vF rfl rfl rfl ?_)))
 obtain ⟨hz4, hm⟩ := grd_of hm
 refine s_v (o_sh rfl rfl rfl (of_decide_eq_true hz4)) (vF rfl rfl rfl (vC rfl (Zb (H2 _ _ (AW_ret ?_)))))
 have hmo := Option.some.inj hm; subst hmo
 exact Ret.of1 (.inl rfl) (rsT _ _ (.sc (.int _ _)) rfl) (Sub.refl _) (ALe.refl _ _) ⟨rfl, rfl⟩
theorem bd134 : bodied Try.prog 134 = true := by kernel_rfl
def M108_L4 (fuel : Nat) (y0 : (List Int)) (q0 : Int) (q1 : Int) (q2 : Ar 64) (q3 : Int) : Option (Lp ((Ar 64) × Int) (Lp ((Ar 64)) (Lp ((Ar 64) × Int) (Lp ((Ar 8) × Int) (Id32))))) :=
 if (decide (q3 < 4)) = true then ((ix q2.1 q1).bind fun x0 => (ix y0 (IntKind.wrap .i64 ((IntKind.wrap .i64 (q0 + (IntKind.wrap .i64 (4 * q1)))) + q3))).bind fun x1 => (ix q2.1 q1).bind fun x2 => some (.go (arU q2 q1.toNat (bitsV .or .u32 (IntKind.wrap .u32 (x0 * 2 ^ (min (8 : Int).toNat (IntKind.bits .u32)))) (IntKind.wrap .u32 x1)), IntKind.wrap .i64 (q3 + 1)))) else some (.brk (q2, q3))
def M108_L2 (fuel : Nat) (y0 : (List Int)) (q0 : Int) (q1 : Ar 64) (q2 : Int) : Option (Lp ((Ar 64) × Int) (Lp ((Ar 8) × Int) (Id32))) :=
 if (decide (q2 < 64)) = true then (after (if (decide (q2 < 16)) = true then (after (loopM (fun s => M108_L4 fuel y0 q0 q2 s.1 s.2) fuel (q1, 0)) fun ⟨r0, r1⟩ => some (.brk r0)) else (ix q1.1 (IntKind.wrap .i64 (q2 - 15))).bind fun x0 => (ix q1.1 (IntKind.wrap .i64 (q2 - 2))).bind fun x1 => (ix q1.1 (IntKind.wrap .i64 (q2 - 16))).bind fun x2 => (ix q1.1 (IntKind.wrap .i64 (q2 - 7))).bind fun x3 => (M134 fuel x0 7).bind fun y1 => (M134 fuel x0 18).bind fun y2 => (M134 fuel x1 17).bind fun y3 => (M134 fuel x1 19).bind fun y4 => (ix q1.1 q2).bind fun x4 => some (.brk (arU q1 q2.toNat (IntKind.wrap .u32 ((IntKind.wrap .u32 ((IntKind.wrap .u32 (x2 + x3)) + (bitsV .xor .u32 (bitsV .xor .u32 y1 y2) (x0.fdiv (2 ^ (min (3 : Int).toNat (IntKind.bits .u32))))))) + (bitsV .xor .u32 (bitsV .xor .u32 y3 y4) (x1.fdiv (2 ^ (min (10 : Int).toNat (IntKind.bits .u32))))))))) : Option (Lp ((Ar 64)) (Lp ((Ar 64) × Int) (Lp ((Ar 8) × Int) (Id32))))) fun j0 => some (.go (j0, IntKind.wrap .i64 (q2 + 1)))) else some (.brk (q1, q2))
def M108_L6 (fuel : Nat) (y6 : (Ar 64)) (r0 : Ar 64) (q0 : Ar 8) (q1 : Int) : Option (Lp ((Ar 8) × Int) (Lp ((Ar 8) × Int) (Id32))) :=
 if (decide (q1 < 64)) = true then ((ix q0.1 0).bind fun x0 => (ix q0.1 4).bind fun x1 => (ix q0.1 7).bind fun x2 => (M134 fuel x1 6).bind fun y0 => (M134 fuel x1 11).bind fun y1 => (M134 fuel x1 25).bind fun y2 => (ix q0.1 5).bind fun x3 => (ix q0.1 6).bind fun x4 => (ix y6.1 q1).bind fun x5 => (ix r0.1 q1).bind fun x6 => (M134 fuel x0 2).bind fun y3 => (M134 fuel x0 13).bind fun y4 => (M134 fuel x0 22).bind fun y5 => (ix q0.1 1).bind fun x7 => (ix q0.1 2).bind fun x8 => (ix q0.1 1).bind fun x9 => (ix q0.1 2).bind fun x10 => (ix q0.1 0).bind fun x11 => (ix q0.1 1).bind fun x12 => (ix q0.1 2).bind fun x13 => (ix q0.1 3).bind fun x14 => (ix q0.1 4).bind fun x15 => (ix q0.1 5).bind fun x16 => (ix q0.1 6).bind fun x17 => some (.go ((⟨[IntKind.wrap .u32 ((IntKind.wrap .u32 ((IntKind.wrap .u32 ((IntKind.wrap .u32 ((IntKind.wrap .u32 (x2 + (bitsV .xor .u32 (bitsV .xor .u32 y0 y1) y2))) + (bitsV .xor .u32 (bitsV .and .u32 x1 x3) (bitsV .and .u32 (bitsV .xor .u32 (IntKind.max .u32) x1) x4)))) + x5)) + x6)) + (IntKind.wrap .u32 ((bitsV .xor .u32 (bitsV .xor .u32 y3 y4) y5) + (bitsV .xor .u32 (bitsV .xor .u32 (bitsV .and .u32 x0 x7) (bitsV .and .u32 x0 x8)) (bitsV .and .u32 x9 x10))))), x11, x12, x13, IntKind.wrap .u32 (x14 + (IntKind.wrap .u32 ((IntKind.wrap .u32 ((IntKind.wrap .u32 ((IntKind.wrap .u32 (x2 + (bitsV .xor .u32 (bitsV .xor .u32 y0 y1) y2))) + (bitsV .xor .u32 (bitsV .and .u32 x1 x3) (bitsV .and .u32 (bitsV .xor .u32 (IntKind.max .u32) x1) x4)))) + x5)) + x6))), x15, x16, x17], rfl⟩ : Ar 8), IntKind.wrap .i64 (q1 + 1)))) else some (.brk (q0, q1))
def M108_L8 (fuel : Nat) (r0 : Ar 8) (q0 : Ar 8) (q1 : Int) : Option (Lp ((Ar 8) × Int) (Lp ((Ar 8) × Int) (Id32))) :=
 if (decide (q1 < 8)) = true then ((ix q0.1 q1).bind fun x0 => (ix r0.1 q1).bind fun x1 => (ix q0.1 q1).bind fun x2 => some (.go (arU q0 q1.toNat (IntKind.wrap .u32 (x0 + x1)), IntKind.wrap .i64 (q1 + 1)))) else some (.brk (q0, q1))
def M108_L0 (fuel : Nat) (y6 : (Ar 64)) (y0 : (List Int)) (q0 : Ar 8) (q1 : Int) : Option (Lp ((Ar 8) × Int) (Id32)) :=
 if (decide (q1 < (y0.length : Int))) = true then (after (loopM (fun s => M108_L2 fuel y0 q1 s.1 s.2) fuel ((arZ 64), 0)) fun ⟨r0, r1⟩ => after (loopM (fun s => M108_L6 fuel y6 r0 s.1 s.2) fuel (q0, 0)) fun ⟨r2, r3⟩ => after (loopM (fun s => M108_L8 fuel r2 s.1 s.2) fuel (q0, 0)) fun ⟨r4, r5⟩ => some (.go (r4, IntKind.wrap .i64 (q1 + 64)))) else some (.brk (q0, q1))
def M108_L10 (fuel : Nat) (r0 : Ar 8) (q0 : Id32) (q1 : Int) : Option (Lp (Id32 × Int) (Id32)) :=
 if (decide (q1 < 32)) = true then ((ix r0.1 (IntKind.wrap .i64 (q1.tdiv 4))).bind fun x0 => grd (decide (0 ≤ (IntKind.wrap .u64 (IntKind.wrap .i64 (24 - (IntKind.wrap .i64 (8 * (q1.tmod 4)))))))) <| (ix q0.1 q1).bind fun x1 => some (.go (arU q0 q1.toNat (IntKind.wrap .u8 (x0.fdiv (2 ^ (min ((IntKind.wrap .u64 (IntKind.wrap .i64 (24 - (IntKind.wrap .i64 (8 * (q1.tmod 4)))))) : Int).toNat (IntKind.bits .u32))))), IntKind.wrap .i64 (q1 + 1)))) else some (.brk (q0, q1))
def M108 (fuel : Nat) (p0 : List Int) : Option (Id32) :=
 (M132 fuel).bind fun y6 => (M133 fuel p0).bind fun y0 => after (loopM (fun s => M108_L0 fuel y6 y0 s.1 s.2) fuel ((⟨[1779033703, 3144134277, 1013904242, 2773480762, 1359893119, 2600822924, 528734635, 1541459225], rfl⟩ : Ar 8), 0)) fun ⟨r0, r1⟩ => after (loopM (fun s => M108_L10 fuel r0 s.1 s.2) fuel (idZ, 0)) fun ⟨r2, r3⟩ => some r2
set_option maxHeartbeats 4000000 in
set_option maxRecDepth 100000 in
theorem W108 {fuel : Nat} {p0 : List Int} {o : Id32} (h : Heap) (hm : M108 fuel p0 = some o) :
 ACalls Try.prog 108 [.sl none 1 (List.map c_u8 p0)] h (fun r h' => r = .agg (c_id o) ∧ h' = h) := by
 refine ACalls_hp 208 [.cell 2 61] Try.func108 rfl rfl rfl rfl ?_
 unfold M108 at hm
 refine Zf fun K1 H1 => (Za ?_)
 refine s_op (a_alloc (c_id idZ) (HOk.nil _) zr61 rfl rfl fun k2 hk3 => ?_)
 refine Zb (H1 _ _ (Zf fun K5 H5 => (Za ?_)))
 obtain ⟨y6, hy7, hm⟩ := Zc hm
 refine s_v (o_call (W132 _ hy7) rfl bd132 rfl) ?_
 refine s_op (a_alloc (c_arr64_u32 (arZ 64)) hk3 zr172 rfl rfl fun k8 hk9 => ?_)
 refine s_op (a_store 0 (c_arr64_u32 y6) hk9 rfl rfl rfl rfl sz172 rfl rfl fun hk0 => ?_)
 refine Zb (H5 _ _ (Zf fun K0 H2 => (Za (s_v (o_bldar [1779033703, 3144134277, 1013904242, 2773480762, 1359893119, 2600822924, 528734635, 1541459225] rfl bta174 rfl rfl rfl) ?_))))
 refine s_op (a_alloc (c_arr8_u32 (arZ 8)) hk0 zr174 rfl rfl fun k13 hk1 => ?_)
 refine s_op (a_store 0 (c_arr8_u32 (⟨[1779033703, 3144134277, 1013904242, 2773480762, 1359893119, 2600822924, 528734635, 1541459225], rfl⟩ : Ar 8)) hk1 rfl rfl rfl rfl sz174 rfl rfl fun hk2 => ?_)
 refine Zb (H2 _ _ (Zf fun K2 H3 => (Za (vE rfl ?_))))
 obtain ⟨y0, hy0, hm⟩ := Zc hm
 refine s_v (o_call (W133 _ hy0) rfl bd133 rfl) (s_v (o_as (.sl _ _ _) rfl) (Zb (H3 _ _ (Zf fun K3 H4 => (Zf fun K4 H6 => (Za (vC rfl (Zb (H6 _ _ ?_)))))))))
 refine AW_loopH (n := 208) (h := h) hm (σ := (Ar 8) × Int) (τ := Unit) (fun g s => [(some k13, .obj 174 (c_arr8_u32 s.1)), (some k8, .obj 172 (c_arr64_u32 y6)), (some k2, .obj 61 (c_id idZ))]) (fun g s => kp (kp (kp (kp (kp (k0) 6 (.sc (.int .i64 s.2))) 5 (.sl none 1 (List.map c_u8 y0))) 4 (.ptr k13 0)) 3 (.ptr k8 0)) 2 (.ptr k2 0)) () hk2 (LeF.s (.k5 .nil)) ?_ ?_
 rintro _ ⟨q0, q1⟩ x hk4 hm
 replace hm : M108_L0 fuel y6 y0 q0 q1 = some x := hm
 unfold M108_L0 at hm
 refine Zf fun K6 H7 => (Zf fun K7 H8 => (Za (vA rfl (vE rfl (s_v (o_lenm ln52 rfl) (vF rfl rfl rfl (Zb (H8 _ _ ?_))))))))
 refine AW_if' rfl (fun hc0 => ?_) (fun hc0 => ?_)
 have hm := Zi hm hc0
 refine Zl (H7 _ _ (Zf fun K8 H9 => (AW_block (Zf fun K9 H10 => (Za ?_)))))
 refine s_op (a_alloc (c_arr64_u32 (arZ 64)) hk4 zr172 rfl rfl fun k1820 hk5 => ?_)
 refine Zb (H10 _ _ (Zf fun K10 H11 => (Zf fun K11 H13 => (Za (vC rfl (Zb (H13 _ _ ?_)))))))
 refine AW_loopH (n := 208) (h := h) hm (σ := (Ar 64) × Int) (τ := Unit) (fun g s => [(some k1820, .obj 172 (c_arr64_u32 s.1)), (some k13, .obj 174 (c_arr8_u32 q0)), (some k8, .obj 172 (c_arr64_u32 y6)), (some k2, .obj 61 (c_id idZ))]) (fun g s => kp (kp (kp (kp (kp (kp (kp (k0) 8 (.sc (.int .i64 s.2))) 7 (.ptr k1820 0)) 6 (.sc (.int .i64 q1))) 5 (.sl none 1 (List.map c_u8 y0))) 4 (.ptr k13 0)) 3 (.ptr k8 0)) 2 (.ptr k2 0)) () hk5 (LeF.s (.k7 .nil)) ?_ ?_
 rintro _ ⟨q2, q3⟩ x hk6 hm
 replace hm : M108_L2 fuel y0 q1 q2 q3 = some x := hm
 unfold M108_L2 at hm
 refine Zf fun K13 H14 => (Zf fun K14 H15 => (Za (vA rfl (vF rfl rfl rfl (Zb (H15 _ _ ?_))))))
 refine AW_if' rfl (fun hc1 => ?_) (fun hc1 => ?_)
 have hm := Zi hm hc1
 refine Zl (H14 _ _ (Zf fun K15 H16 => ?_))
 refine AW_joinH (n := 208) (h := h) hm (σ := (Ar 64)) (τ := Unit) (fun g s => [(some k1820, .obj 172 (c_arr64_u32 s)), (some k13, .obj 174 (c_arr8_u32 q0)), (some k8, .obj 172 (c_arr64_u32 y6)), (some k2, .obj 61 (c_id idZ))]) (fun g s => kp (kp (kp (kp (kp (kp (kp (k0) 8 (.sc (.int .i64 q3))) 7 (.ptr k1820 0)) 6 (.sc (.int .i64 q1))) 5 (.sl none 1 (List.map c_u8 y0))) 4 (.ptr k13 0)) 3 (.ptr k8 0)) 2 (.ptr k2 0)) (fun x hm => ?_) ?_
 refine AW_block (Zf fun K16 H18 => (Zf fun K18 H19 => (Za (vA rfl (vF rfl rfl rfl (Zb (H19 _ _ ?_)))))))
 refine AW_if' rfl (fun hc2 => ?_) (fun hc2 => ?_)
 have hm := Zi hm hc2
 refine Zf fun K19 H22 => (Zf fun K22 H23 => (Za (vC rfl (Zb (H23 _ _ ?_)))))
 refine AW_loopH (n := 208) (h := h) hm (σ := (Ar 64) × Int) (τ := Unit) (fun g s => [(some k1820, .obj 172 (c_arr64_u32 s.1)), (some k13, .obj 174 (c_arr8_u32 q0)), (some k8, .obj 172 (c_arr64_u32 y6)), (some k2, .obj 61 (c_id idZ))]) (fun g s => kp (kp (kp (kp (kp (kp (kp (kp (k0) 9 (.sc (.int .i64 s.2))) 8 (.sc (.int .i64 q3))) 7 (.ptr k1820 0)) 6 (.sc (.int .i64 q1))) 5 (.sl none 1 (List.map c_u8 y0))) 4 (.ptr k13 0)) 3 (.ptr k8 0)) 2 (.ptr k2 0)) () hk6 (LeF.s (.k8 .nil)) ?_ ?_
 rintro _ ⟨q4, q5⟩ x hk7 hm
 replace hm : M108_L4 fuel y0 q1 q3 q4 q5 = some x := hm
 unfold M108_L4 at hm
 refine Zf fun K23 H24 => (Zf fun K24 H25 => (Za (vA rfl (vF rfl rfl rfl (Zb (H25 _ _ ?_))))))
 refine AW_if' rfl (fun hc3 => ?_) (fun hc3 => ?_)
 have hm := Zi hm hc3
 refine Zl (H24 _ _ (Zf fun K25 H26 => (AW_block ?_)))
 refine AW_zreg [(17, some k1820, .obj 172 (c_arr64_u32 q4))] mixed (⟨fun _ => hp_at 0 hk7 rfl, trivial⟩) ?_
 refine z_w 0 rfl (fun S' h' hi hB => o_mv (.sc (.int _ _)) rfl) ?_
 refine z_w 1 rfl (fun S' h' hi hB => o_mv (.sc (.int _ _)) rfl) ?_
 obtain ⟨x0, hx0, hm⟩ := Zc hm
 refine z_w 2 rfl (fun S' h' hi hB => o_ixarp (y := q4) hx0 ar172 rfl rfl) ?_
 refine z_w 3 rfl (fun S' h' hi hB => o_ldarp (y := q4) 0 hx0 ld171 rfl (At.s (InvL.get 0 hi rfl (hB 17 (by kernel_rfl)))) (take_cA _)) ?_
 refine z_w 4 rfl (fun S' h' hi hB => o_sh rfl rfl rfl (by decide)) ?_
 refine z_w 5 rfl (fun S' h' hi hB => o_mv (.sl _ _ _) rfl) ?_
 refine z_w 6 rfl (fun S' h' hi hB => o_mv (.sc (.int _ _)) rfl) ?_
 refine z_w 7 rfl (fun S' h' hi hB => o_mv (.sc (.int _ _)) rfl) ?_
 refine z_w 8 rfl (fun S' h' hi hB => o_bi rfl rfl rfl trivial) ?_
 refine z_w 9 rfl (fun S' h' hi hB => o_bi rfl rfl rfl trivial) ?_
 refine z_w 10 rfl (fun S' h' hi hB => o_mv (.sc (.int _ _)) rfl) ?_
 refine z_w 11 rfl (fun S' h' hi hB => o_bi rfl rfl rfl trivial) ?_
 obtain ⟨x1, hx1, hm⟩ := Zc hm
 refine z_w 12 rfl (fun S' h' hi hB => o_ix hx1 el52 rfl rfl) ?_
 refine z_w 13 rfl (fun S' h' hi hB => o_ld (.sc (.int .u8 x1)) ld5 rfl rfl) ?_
 refine z_w 14 rfl (fun S' h' hi hB => o_cv ti5 ti171 rfl) ?_
 refine z_w 15 rfl (fun S' h' hi hB => o_bi rfl rfl rfl trivial) ?_
 obtain ⟨x2, hx2, hm⟩ := Zc hm
 refine z_w 16 rfl (fun S' h' hi hB => o_ixarp (y := q4) hx2 ar172 rfl rfl) ?_
 refine z_e 17 rfl (by kernel_rfl) (a_starp (y := q4) (v := bitsV .or .u32 (IntKind.wrap .u32 (x0 * 2 ^ (min (8 : Int).toNat (IntKind.bits .u32)))) (IntKind.wrap .u32 x1)) 0 hk7 hx2 rfl rfl rfl sz171 fun hk8 => ⟨⟨fun e => absurd e (by decide), trivial⟩, ?_⟩)
 refine z_nil (by kernel_rfl) ?_
 refine H26 _ _ (Za (vA rfl (vF rfl rfl rfl (vC rfl (Zb ?_)))))
 cases hm
 exact ⟨rfl, (), hk8, LeF.s (.k8 .nil)⟩
 have hm := Zj hm hc3
 refine AW_exit ?_
 refine Seq_exit ?_
 cases hm
 exact ⟨rfl, (), hk7, LeF.s (.k8 .nil)⟩
 rintro _ ⟨r0, r1⟩ fr' h' hk10 hm le
 refine H22 _ _ (le.aw ?_)
 refine AW_exit ?_
 refine Seq_exit ?_
 refine Blk_exit ?_
 cases hm
 exact ⟨rfl, (), hk10, LeF.s (.k7 .nil)⟩
 have hm := Zj hm hc2
 refine Zl (H18 _ _ (Zf fun K26 H27 => ?_))
 refine AW_rq mixed (by kernel_rfl) ?_
 refine wA rfl (wF rfl rfl rfl ?_)
 obtain ⟨x3, hx3, hm⟩ := Zc hm
 refine q_v (o_ixarp (y := q2) hx3 ar172 rfl rfl) (q_v (o_ldarp (y := q2) 0 hx3 ld171 rfl (Zd 0 hk6 rfl) (take_cA _)) (wA rfl (wF rfl rfl rfl ?_)))
 obtain ⟨x4, hx4, hm⟩ := Zc hm
 refine q_v (o_ixarp (y := q2) hx4 ar172 rfl rfl) (q_v (o_ldarp (y := q2) 0 hx4 ld171 rfl (Zd 0 hk6 rfl) (take_cA _)) (wC rfl (wC rfl (q_nil (H27 _ _ ?_)))))
 refine AW_zreg [(29, some k1820, .obj 172 (c_arr64_u32 q2))] mixed (⟨fun _ => hp_at 0 hk6 rfl, trivial⟩) ?_
 refine z_w 0 rfl (fun S' h' hi hB => o_mv (.sc (.int _ _)) rfl) ?_
 refine z_w 1 rfl (fun S' h' hi hB => o_mv (.sc (.int _ _)) rfl) ?_
 refine z_w 2 rfl (fun S' h' hi hB => o_bi rfl rfl rfl trivial) ?_
 obtain ⟨x5, hx5, hm⟩ := Zc hm
 refine z_w 3 rfl (fun S' h' hi hB => o_ixarp (y := q2) hx5 ar172 rfl rfl) ?_
 refine z_w 4 rfl (fun S' h' hi hB => o_ldarp (y := q2) 0 hx5 ld171 rfl (At.s (InvL.get 0 hi rfl (hB 29 (by kernel_rfl)))) (take_cA _)) ?_
 refine z_w 5 rfl (fun S' h' hi hB => o_mv (.sc (.int _ _)) rfl) ?_
 refine z_w 6 rfl (fun S' h' hi hB => o_bi rfl rfl rfl trivial) ?_
 obtain ⟨x6, hx6, hm⟩ := Zc hm
 refine z_w 7 rfl (fun S' h' hi hB => o_ixarp (y := q2) hx6 ar172 rfl rfl) ?_
 refine z_w 8 rfl (fun S' h' hi hB => o_ldarp (y := q2) 0 hx6 ld171 rfl (At.s (InvL.get 0 hi rfl (hB 29 (by kernel_rfl)))) (take_cA _)) ?_
 refine z_w 9 rfl (fun S' h' hi hB => o_bi rfl rfl rfl trivial) ?_
 refine z_w 10 rfl (fun S' h' hi hB => o_mv (.sc (.int _ _)) rfl) ?_
 obtain ⟨y1, hy1, hm⟩ := Zc hm
 refine z_w 11 rfl (fun S' h' hi hB => o_call (W134 _ hy1) rfl bd134 rfl) ?_
 refine z_w 12 rfl (fun S' h' hi hB => o_mv (.sc (.int _ _)) rfl) ?_
 obtain ⟨y2, hy2, hm⟩ := Zc hm
 refine z_w 13 rfl (fun S' h' hi hB => o_call (W134 _ hy2) rfl bd134 rfl) ?_
 refine z_w 14 rfl (fun S' h' hi hB => o_bi rfl rfl rfl trivial) ?_
 refine z_w 15 rfl (fun S' h' hi hB => o_mv (.sc (.int _ _)) rfl) ?_
 refine z_w 16 rfl (fun S' h' hi hB => o_sh rfl rfl rfl (by decide)) ?_
 refine z_w 17 rfl (fun S' h' hi hB => o_bi rfl rfl rfl trivial) ?_
 refine z_w 18 rfl (fun S' h' hi hB => o_bi rfl rfl rfl trivial) ?_
 refine z_w 19 rfl (fun S' h' hi hB => o_mv (.sc (.int _ _)) rfl) ?_
 obtain ⟨y3, hy3, hm⟩ := Zc hm
 refine z_w 20 rfl (fun S' h' hi hB => o_call (W134 _ hy3) rfl bd134 rfl) ?_
 refine z_w 21 rfl (fun S' h' hi hB => o_mv (.sc (.int _ _)) rfl) ?_
 obtain ⟨y4, hy4, hm⟩ := Zc hm
 refine z_w 22 rfl (fun S' h' hi hB => o_call (W134 _ hy4) rfl bd134 rfl) ?_
 refine z_w 23 rfl (fun S' h' hi hB => o_bi rfl rfl rfl trivial) ?_
 refine z_w 24 rfl (fun S' h' hi hB => o_mv (.sc (.int _ _)) rfl) ?_
 refine z_w 25 rfl (fun S' h' hi hB => o_sh rfl rfl rfl (by decide)) ?_
 refine z_w 26 rfl (fun S' h' hi hB => o_bi rfl rfl rfl trivial) ?_
 refine z_w 27 rfl (fun S' h' hi hB => o_bi rfl rfl rfl trivial) ?_
 obtain ⟨x7, hx7, hm⟩ := Zc hm
 refine z_w 28 rfl (fun S' h' hi hB => o_ixarp (y := q2) hx7 ar172 rfl rfl) ?_
 refine z_e 29 rfl (by kernel_rfl) (a_starp (y := q2) (v := IntKind.wrap .u32 ((IntKind.wrap .u32 ((IntKind.wrap .u32 (x5 + x6)) + (bitsV .xor .u32 (bitsV .xor .u32 y1 y2) (x3.fdiv (2 ^ (min (3 : Int).toNat (IntKind.bits .u32))))))) + (bitsV .xor .u32 (bitsV .xor .u32 y3 y4) (x4.fdiv (2 ^ (min (10 : Int).toNat (IntKind.bits .u32))))))) 0 hk6 hx7 rfl rfl rfl sz171 fun hk12 => ⟨⟨fun e => absurd e (by decide), trivial⟩, ?_⟩)
 refine z_nil (by kernel_rfl) ?_
 cases hm
 exact ⟨rfl, (), hk12, LeF.s (.k7 .nil)⟩
 rintro _ j0 fr' h' hk13 hm le
 refine H16 _ _ (le.aw ?_)
 refine Za (vA rfl (vF rfl rfl rfl (vC rfl (Zb ?_))))
 cases hm
 exact ⟨rfl, (), hk13, LeF.s (.k7 .nil)⟩
 have hm := Zj hm hc1
 refine AW_exit ?_
 refine Seq_exit ?_
 cases hm
 exact ⟨rfl, (), hk6, LeF.s (.k7 .nil)⟩
 rintro _ ⟨r2, r3⟩ fr' h' hk15 hm le
 refine H11 _ _ (le.aw ?_)
 refine Zf fun K27 H28 => (Za (s_v (Zg (.agg (c_arr8_u32 q0)) ld174 rfl (Zd 1 hk15 rfl) rfl) ?_))
 refine s_op (a_alloc (c_arr8_u32 (arZ 8)) hk15 zr174 rfl rfl fun k2464 hk17 => ?_)
 refine s_op (a_store 0 (c_arr8_u32 q0) hk17 rfl rfl rfl rfl sz174 rfl rfl fun hk18 => ?_)
 refine Zb (H28 _ _ (Zf fun K28 H29 => (Zf fun K29 H30 => (Za (vC rfl (Zb (H30 _ _ ?_)))))))
 refine AW_loopH (n := 208) (h := h) hm (σ := (Ar 8) × Int) (τ := Unit) (fun g s => [(some k2464, .obj 174 (c_arr8_u32 s.1)), (some k1820, .obj 172 (c_arr64_u32 r2)), (some k13, .obj 174 (c_arr8_u32 q0)), (some k8, .obj 172 (c_arr64_u32 y6)), (some k2, .obj 61 (c_id idZ))]) (fun g s => kp (kp (kp (kp (kp (kp (kp (kp (k0) 13 (.sc (.int .i64 s.2))) 12 (.ptr k2464 0)) 7 (.ptr k1820 0)) 6 (.sc (.int .i64 q1))) 5 (.sl none 1 (List.map c_u8 y0))) 4 (.ptr k13 0)) 3 (.ptr k8 0)) 2 (.ptr k2 0)) () hk18 (LeF.s (.k8 .nil)) ?_ ?_
 rintro _ ⟨q6, q7⟩ x hk19 hm
 replace hm : M108_L6 fuel y6 r2 q6 q7 = some x := hm
 unfold M108_L6 at hm
 refine Zf fun K30 H31 => (Zf fun K31 H32 => (Za (vA rfl (vF rfl rfl rfl (Zb (H32 _ _ ?_))))))
 refine AW_if' rfl (fun hc4 => ?_) (fun hc4 => ?_)
 have hm := Zi hm hc4
 refine Zl (H31 _ _ (Zf fun K32 H33 => (AW_block (Zf fun K33 H34 => ?_))))
 refine AW_rq mixed (by kernel_rfl) ?_
 obtain ⟨x8, hx8, hm⟩ := Zc hm
 refine q_v (o_ixarp (y := q6) hx8 ar174 rfl rfl) (q_v (o_ldarp (y := q6) 0 hx8 ld171 rfl (Zd 0 hk19 rfl) (take_cA _)) ?_)
 obtain ⟨x9, hx9, hm⟩ := Zc hm
 refine q_v (o_ixarp (y := q6) hx9 ar174 rfl rfl) (q_v (o_ldarp (y := q6) 0 hx9 ld171 rfl (Zd 0 hk19 rfl) (take_cA _)) (wC rfl (wC rfl (q_nil (H34 _ _ (Zf fun K34 H35 => ?_))))))
 refine AW_rq mixed (by kernel_rfl) ?_
 obtain ⟨x10, hx10, hm⟩ := Zc hm
 refine q_v (o_ixarp (y := q6) hx10 ar174 rfl rfl) (q_v (o_ldarp (y := q6) 0 hx10 ld171 rfl (Zd 0 hk19 rfl) (take_cA _)) (wA rfl ?_))
 obtain ⟨y5, hy5, hm⟩ := Zc hm
 refine q_v (o_call (W134 _ hy5) rfl bd134 rfl) (wA rfl ?_)
 obtain ⟨y7, hy6, hm⟩ := Zc hm
 refine q_v (o_call (W134 _ hy6) rfl bd134 rfl) (wF rfl rfl rfl (wA rfl ?_))
 obtain ⟨y8, hy8, hm⟩ := Zc hm
 refine q_v (o_call (W134 _ hy8) rfl bd134 rfl) (wF rfl rfl rfl (wF rfl rfl rfl (wA rfl ?_)))
 obtain ⟨x11, hx11, hm⟩ := Zc hm
 refine q_v (o_ixarp (y := q6) hx11 ar174 rfl rfl) (q_v (o_ldarp (y := q6) 0 hx11 ld171 rfl (Zd 0 hk19 rfl) (take_cA _)) (wF rfl rfl rfl (wA rfl (q_v (o_inv rfl rfl) ?_))))
 obtain ⟨x12, hx12, hm⟩ := Zc hm
 refine q_v (o_ixarp (y := q6) hx12 ar174 rfl rfl) (q_v (o_ldarp (y := q6) 0 hx12 ld171 rfl (Zd 0 hk19 rfl) (take_cA _)) (wF rfl rfl rfl (wF rfl rfl rfl (wF rfl rfl rfl (wA rfl ?_)))))
 obtain ⟨x13, hx13, hm⟩ := Zc hm
 refine q_v (o_ixarp (y := y6) hx13 ar172 rfl rfl) (q_v (o_ldarp (y := y6) 0 hx13 ld171 rfl (Zd 3 hk19 rfl) (take_cA _)) (wF rfl rfl rfl (wA rfl ?_)))
 obtain ⟨x14, hx14, hm⟩ := Zc hm
 refine q_v (o_ixarp (y := r2) hx14 ar172 rfl rfl) (q_v (o_ldarp (y := r2) 0 hx14 ld171 rfl (Zd 1 hk19 rfl) (take_cA _)) (wF rfl rfl rfl (wC rfl (q_nil (H35 _ _ (Zf fun K35 H36 => ?_))))))
 refine AW_rq mixed (by kernel_rfl) ?_
 refine wA rfl ?_
 obtain ⟨y9, hy9, hm⟩ := Zc hm
 refine q_v (o_call (W134 _ hy9) rfl bd134 rfl) (wA rfl ?_)
 obtain ⟨y10, hy10, hm⟩ := Zc hm
 refine q_v (o_call (W134 _ hy10) rfl bd134 rfl) (wF rfl rfl rfl (wA rfl ?_))
 obtain ⟨y11, hy11, hm⟩ := Zc hm
 refine q_v (o_call (W134 _ hy11) rfl bd134 rfl) (wF rfl rfl rfl (wA rfl ?_))
 obtain ⟨x15, hx15, hm⟩ := Zc hm
 refine q_v (o_ixarp (y := q6) hx15 ar174 rfl rfl) (q_v (o_ldarp (y := q6) 0 hx15 ld171 rfl (Zd 0 hk19 rfl) (take_cA _)) (wF rfl rfl rfl (wA rfl ?_)))
 obtain ⟨x16, hx16, hm⟩ := Zc hm
 refine q_v (o_ixarp (y := q6) hx16 ar174 rfl rfl) (q_v (o_ldarp (y := q6) 0 hx16 ld171 rfl (Zd 0 hk19 rfl) (take_cA _)) (wF rfl rfl rfl (wF rfl rfl rfl ?_)))
 obtain ⟨x17, hx17, hm⟩ := Zc hm
 refine q_v (o_ixarp (y := q6) hx17 ar174 rfl rfl) (q_v (o_ldarp (y := q6) 0 hx17 ld171 rfl (Zd 0 hk19 rfl) (take_cA _)) ?_)
 obtain ⟨x18, hx18, hm⟩ := Zc hm
 refine q_v (o_ixarp (y := q6) hx18 ar174 rfl rfl) (q_v (o_ldarp (y := q6) 0 hx18 ld171 rfl (Zd 0 hk19 rfl) (take_cA _)) (wF rfl rfl rfl (wF rfl rfl rfl (wF rfl rfl rfl (wC rfl (q_nil (H36 _ _ (Za (vA rfl (vA rfl (vF rfl rfl rfl ?_)))))))))))
 obtain ⟨x19, hx19, hm⟩ := Zc hm
 refine s_v (o_ixarp (y := q6) hx19 ar174 rfl rfl) (s_v (o_ldarp (y := q6) 0 hx19 ld171 rfl (Zd 0 hk19 rfl) (take_cA _)) ?_)
 obtain ⟨x20, hx20, hm⟩ := Zc hm
 refine s_v (o_ixarp (y := q6) hx20 ar174 rfl rfl) (s_v (o_ldarp (y := q6) 0 hx20 ld171 rfl (Zd 0 hk19 rfl) (take_cA _)) ?_)
 obtain ⟨x21, hx21, hm⟩ := Zc hm
 refine s_v (o_ixarp (y := q6) hx21 ar174 rfl rfl) (s_v (o_ldarp (y := q6) 0 hx21 ld171 rfl (Zd 0 hk19 rfl) (take_cA _)) ?_)
 obtain ⟨x22, hx22, hm⟩ := Zc hm
 refine s_v (o_ixarp (y := q6) hx22 ar174 rfl rfl) (s_v (o_ldarp (y := q6) 0 hx22 ld171 rfl (Zd 0 hk19 rfl) (take_cA _)) (vA rfl (vF rfl rfl rfl ?_)))
 obtain ⟨x23, hx23, hm⟩ := Zc hm
 refine s_v (o_ixarp (y := q6) hx23 ar174 rfl rfl) (s_v (o_ldarp (y := q6) 0 hx23 ld171 rfl (Zd 0 hk19 rfl) (take_cA _)) ?_)
 obtain ⟨x24, hx24, hm⟩ := Zc hm
 refine s_v (o_ixarp (y := q6) hx24 ar174 rfl rfl) (s_v (o_ldarp (y := q6) 0 hx24 ld171 rfl (Zd 0 hk19 rfl) (take_cA _)) ?_)
 obtain ⟨x25, hx25, hm⟩ := Zc hm
 refine s_v (o_ixarp (y := q6) hx25 ar174 rfl rfl) (s_v (o_ldarp (y := q6) 0 hx25 ld171 rfl (Zd 0 hk19 rfl) (take_cA _)) (s_v (o_bldar [IntKind.wrap .u32 ((IntKind.wrap .u32 ((IntKind.wrap .u32 ((IntKind.wrap .u32 ((IntKind.wrap .u32 (x10 + (bitsV .xor .u32 (bitsV .xor .u32 y5 y7) y8))) + (bitsV .xor .u32 (bitsV .and .u32 x9 x11) (bitsV .and .u32 (bitsV .xor .u32 (IntKind.max .u32) x9) x12)))) + x13)) + x14)) + (IntKind.wrap .u32 ((bitsV .xor .u32 (bitsV .xor .u32 y9 y10) y11) + (bitsV .xor .u32 (bitsV .xor .u32 (bitsV .and .u32 x8 x15) (bitsV .and .u32 x8 x16)) (bitsV .and .u32 x17 x18))))), x19, x20, x21, IntKind.wrap .u32 (x22 + (IntKind.wrap .u32 ((IntKind.wrap .u32 ((IntKind.wrap .u32 ((IntKind.wrap .u32 (x10 + (bitsV .xor .u32 (bitsV .xor .u32 y5 y7) y8))) + (bitsV .xor .u32 (bitsV .and .u32 x9 x11) (bitsV .and .u32 (bitsV .xor .u32 (IntKind.max .u32) x9) x12)))) + x13)) + x14))), x23, x24, x25] rfl bta174 rfl rfl rfl) ?_))
 refine s_op (a_store 0 (c_arr8_u32 (⟨[IntKind.wrap .u32 ((IntKind.wrap .u32 ((IntKind.wrap .u32 ((IntKind.wrap .u32 ((IntKind.wrap .u32 (x10 + (bitsV .xor .u32 (bitsV .xor .u32 y5 y7) y8))) + (bitsV .xor .u32 (bitsV .and .u32 x9 x11) (bitsV .and .u32 (bitsV .xor .u32 (IntKind.max .u32) x9) x12)))) + x13)) + x14)) + (IntKind.wrap .u32 ((bitsV .xor .u32 (bitsV .xor .u32 y9 y10) y11) + (bitsV .xor .u32 (bitsV .xor .u32 (bitsV .and .u32 x8 x15) (bitsV .and .u32 x8 x16)) (bitsV .and .u32 x17 x18))))), x19, x20, x21, IntKind.wrap .u32 (x22 + (IntKind.wrap .u32 ((IntKind.wrap .u32 ((IntKind.wrap .u32 ((IntKind.wrap .u32 (x10 + (bitsV .xor .u32 (bitsV .xor .u32 y5 y7) y8))) + (bitsV .xor .u32 (bitsV .and .u32 x9 x11) (bitsV .and .u32 (bitsV .xor .u32 (IntKind.max .u32) x9) x12)))) + x13)) + x14))), x23, x24, x25], rfl⟩ : Ar 8)) hk19 rfl rfl rfl rfl sz174 rfl rfl fun hk20 => ?_)
 refine Zb (H33 _ _ (Za (vA rfl (vF rfl rfl rfl (vC rfl (Zb ?_))))))
 cases hm
 exact ⟨rfl, (), hk20, LeF.s (.k8 .nil)⟩
 have hm := Zj hm hc4
 refine AW_exit ?_
 refine Seq_exit ?_
 cases hm
 exact ⟨rfl, (), hk19, LeF.s (.k8 .nil)⟩
 rintro _ ⟨r4, r5⟩ fr' h' hk21 hm le
 refine H29 _ _ (le.aw ?_)
 refine Zf fun K36 H37 => (Za (vC rfl (Zb (H37 _ _ ?_))))
 refine AW_loopH (n := 208) (h := h) hm (σ := (Ar 8) × Int) (τ := Unit) (fun g s => [(some k2464, .obj 174 (c_arr8_u32 r4)), (some k1820, .obj 172 (c_arr64_u32 r2)), (some k13, .obj 174 (c_arr8_u32 s.1)), (some k8, .obj 172 (c_arr64_u32 y6)), (some k2, .obj 61 (c_id idZ))]) (fun g s => kp (kp (kp (kp (kp (kp (kp (k0) 18 (.sc (.int .i64 s.2))) 12 (.ptr k2464 0)) 6 (.sc (.int .i64 q1))) 5 (.sl none 1 (List.map c_u8 y0))) 4 (.ptr k13 0)) 3 (.ptr k8 0)) 2 (.ptr k2 0)) () hk21 (LeF.s (.k7 .nil)) ?_ ?_
 rintro _ ⟨q8, q9⟩ x hk22 hm
 replace hm : M108_L8 fuel r4 q8 q9 = some x := hm
 unfold M108_L8 at hm
 refine Zf fun K37 H38 => (Zf fun K38 H39 => (Za (vA rfl (vF rfl rfl rfl (Zb (H39 _ _ ?_))))))
 refine AW_if' rfl (fun hc5 => ?_) (fun hc5 => ?_)
 have hm := Zi hm hc5
 refine Zl (H38 _ _ (Zf fun K39 H40 => (AW_block ?_)))
 refine AW_zreg [(8, some k13, .obj 174 (c_arr8_u32 q8)), (1000000, some k2464, .obj 174 (c_arr8_u32 r4))] mixed (⟨fun _ => hp_at 2 hk22 rfl, fun _ => hp_at 0 hk22 rfl, trivial⟩) ?_
 refine z_w 0 rfl (fun S' h' hi hB => o_mv (.sc (.int _ _)) rfl) ?_
 obtain ⟨x26, hx26, hm⟩ := Zc hm
 refine z_w 1 rfl (fun S' h' hi hB => o_ixarp (y := q8) hx26 ar174 rfl rfl) ?_
 refine z_w 2 rfl (fun S' h' hi hB => o_ldarp (y := q8) 0 hx26 ld171 rfl (At.s (InvL.get 0 hi rfl (hB 8 (by kernel_rfl)))) (take_cA _)) ?_
 refine z_w 3 rfl (fun S' h' hi hB => o_mv (.sc (.int _ _)) rfl) ?_
 obtain ⟨x27, hx27, hm⟩ := Zc hm
 refine z_w 4 rfl (fun S' h' hi hB => o_ixarp (y := r4) hx27 ar174 rfl rfl) ?_
 refine z_w 5 rfl (fun S' h' hi hB => o_ldarp (y := r4) 0 hx27 ld171 rfl (At.s (InvL.get 1 hi rfl (hB 1000000 (by kernel_rfl)))) (take_cA _)) ?_
 refine z_w 6 rfl (fun S' h' hi hB => o_bi rfl rfl rfl trivial) ?_
 obtain ⟨x28, hx28, hm⟩ := Zc hm
 refine z_w 7 rfl (fun S' h' hi hB => o_ixarp (y := q8) hx28 ar174 rfl rfl) ?_
 refine z_e 8 rfl (by kernel_rfl) (a_starp (y := q8) (v := IntKind.wrap .u32 (x26 + x27)) 2 hk22 hx28 rfl rfl rfl sz171 fun hk23 => ⟨⟨fun e => absurd e (by decide), fun _ => hp_at 0 hk23 rfl, trivial⟩, ?_⟩)
 refine z_nil (by kernel_rfl) ?_
 refine H40 _ _ (Za (vA rfl (vF rfl rfl rfl (vC rfl (Zb ?_)))))
 cases hm
 exact ⟨rfl, (), hk23, LeF.s (.k7 .nil)⟩
 have hm := Zj hm hc5
 refine AW_exit ?_
 refine Seq_exit ?_
 cases hm
 exact ⟨rfl, (), hk22, LeF.s (.k7 .nil)⟩
 rintro _ ⟨r6, r7⟩ fr' h' hk24 hm le
 refine H9 _ _ (le.aw ?_)
 refine Za (vA rfl (vF rfl rfl rfl (vC rfl (Zb ?_))))
 cases hm
 exact ⟨rfl, (), (hp_sub (.cons _ (.cons _ (.refl _))) hk24).2, LeF.fm ((hp_sub (.cons _ (.cons _ (.refl _))) hk24).1) (.k5 .nil)⟩
 have hm := Zj hm hc0
 refine AW_exit ?_
 refine Seq_exit ?_
 cases hm
 exact ⟨rfl, (), hk4, LeF.s (.k5 .nil)⟩
 rintro _ ⟨r8, r9⟩ fr' h' hk25 hm le
 refine H4 _ _ (le.aw ?_)
 refine Zf fun K40 H41 => (Za ?_)
 refine s_op (a_alloc (c_id idZ) hk25 zr61 rfl rfl fun k2713 hk26 => ?_)
 refine Zb (H41 _ _ (Zf fun K41 H42 => (Zf fun K42 H43 => (Za (vC rfl (Zb (H43 _ _ ?_)))))))
 refine AW_loopH (n := 208) (h := h) hm (σ := Id32 × Int) (τ := Unit) (fun g s => [(some k2713, .obj 61 (c_id s.1)), (some k13, .obj 174 (c_arr8_u32 r8)), (some k8, .obj 172 (c_arr64_u32 y6)), (some k2, .obj 61 (c_id idZ))]) (fun g s => kp (kp (kp (kp (k0) 20 (.sc (.int .i64 s.2))) 19 (.ptr k2713 0)) 4 (.ptr k13 0)) 2 (.ptr k2 0)) () hk26 (LeF.s (.k4 .nil)) ?_ ?_
 rintro _ ⟨q10, q11⟩ x hk27 hm
 replace hm : M108_L10 fuel r8 q10 q11 = some x := hm
 unfold M108_L10 at hm
 refine Zf fun K43 H44 => (Zf fun K44 H45 => (Za (vA rfl (vF rfl rfl rfl (Zb (H45 _ _ ?_))))))
 refine AW_if' rfl (fun hc6 => ?_) (fun hc6 => ?_)
 have hm := Zi hm hc6
 refine Zl (H44 _ _ (Zf fun K45 H46 => (AW_block (Za (vA rfl (vA rfl (s_v (o_bi rfl rfl rfl (by decide)) ?_)))))))
 obtain ⟨x29, hx29, hm⟩ := Zc hm
 refine s_v (o_ixarp (y := r8) hx29 ar174 rfl rfl) (s_v (o_ldarp (y := r8) 0 hx29 ld171 rfl (Zd 1 hk27 rfl) (take_cA _)) (vA rfl (s_v (o_bi rfl rfl rfl (by decide)) (vF rfl rfl rfl (vF rfl rfl rfl (s_v (o_cv ti3 ti46 rfl) ?_))))))
 obtain ⟨hz0, hm⟩ := grd_of hm
 refine s_v (o_sh rfl rfl rfl (of_decide_eq_true hz0)) (s_v (o_cv ti171 ti5 rfl) ?_)
 obtain ⟨x30, hx30, hm⟩ := Zc hm
 refine s_v (o_ixidp hx30 ar61 rfl rfl) ?_
 refine s_op (a_starp (y := q10) (v := IntKind.wrap .u8 (x29.fdiv (2 ^ (min ((IntKind.wrap .u64 (IntKind.wrap .i64 (24 - (IntKind.wrap .i64 (8 * (q11.tmod 4)))))) : Int).toNat (IntKind.bits .u32))))) 0 hk27 hx30 rfl rfl rfl sz5 fun hk28 => ?_)
 refine Zb (H46 _ _ (Za (vA rfl (vF rfl rfl rfl (vC rfl (Zb ?_))))))
 cases hm
 exact ⟨rfl, (), hk28, LeF.s (.k4 .nil)⟩
 have hm := Zj hm hc6
 refine AW_exit ?_
 refine Seq_exit ?_
 cases hm
 exact ⟨rfl, (), hk27, LeF.s (.k4 .nil)⟩
 rintro _ ⟨r10, r11⟩ fr' h' hk29 hm le
 refine H42 _ _ (le.aw ?_)
 refine Zf fun K46 H47 => (Za (s_v (Zg (.agg (c_id r10)) ld61 rfl (Zd 0 hk29 rfl) rfl) ?_))
 refine s_op (a_store 3 (c_id r10) hk29 rfl rfl rfl rfl sz61 rfl rfl fun hk30 => ?_)
 refine Zb (H47 _ _ (AW_ret ?_))
 have hmo := Option.some.inj hm; subst hmo
 exact Ret.of1 (.inl rfl) (rsC (.agg (c_id r10)) ld61 rfl (Zd 3 hk30 rfl) rfl) (hp_sub (List.nil_sublist _) hk30).1 (ALe.refl _ _) ⟨rfl, rfl⟩
theorem bd108 : bodied Try.prog 108 = true := by kernel_rfl
open Go.Vm
def M130_L0 (fuel : Nat) (p0 : List TFile) (q0 : Int) : Option (Lp (Int) (Int)) :=
 if (decide (q0 < (p0.length : Int))) = true then (after ((ix p0 q0).bind fun x0 => (M104 fuel x0.Path).bind fun y0 => if (!y0) = true then (some (.brk true)) else if (decide (0 < q0)) = true then ((ix p0 q0).bind fun x1 => (ix p0 (IntKind.wrap .i64 (q0 - 1))).bind fun x2 => some (.brk (Op.bytesLess x1.Path.toList x2.Path.toList || x1.Path.toList == x2.Path.toList))) else some (.brk false) : Option (Lp (Bool) (Lp (Int) (Int)))) fun j0 => if j0 = true then (some (.ret 1)) else some (.go (IntKind.wrap .i64 (q0 + 1)))) else some (.brk q0)
def M130 (fuel : Nat) (p0 : List TFile) : Option (Int) :=
 (M129 fuel p0).bind fun y4 => if y4 = true then (some 2) else after (loopM (fun s => M130_L0 fuel p0 s) fuel 0) fun r0 => some 0
set_option maxHeartbeats 4000000 in
set_option maxRecDepth 100000 in
theorem W130 {fuel : Nat} {p0 : List TFile} {o : Int} (h : Heap) (hm : M130 fuel p0 = some o) :
 ACalls Try.prog 130 [.sl none 2 (List.map c_File p0)] h (fun r h' => r = .sc (.int .i64 o) ∧ h' = h) := by
 refine ACalls_hp 37 [.tmp 2] Try.func130 rfl rfl rfl rfl ?_
 unfold M130 at hm
 refine Zf fun K1 H1 => (Za (vC rfl (Zb (H1 _ _ (Zf fun K2 H2 => (Zf fun K3 H3 => (Za (vE rfl ?_))))))))
 obtain ⟨y4, hy5, hm⟩ := Zc hm
 refine s_v (o_call (W129 _ hy5) rfl bd129 rfl) (Zb (H3 _ _ ?_))
 refine AW_if' rfl (fun hc6 => ?_) (fun hc6 => ?_)
 have hm := Zi hm hc6
 refine Zf fun K7 H7 => (Za (vC rfl (Zb (H7 _ _ (AW_ret ?_)))))
 have hmo := Option.some.inj hm; subst hmo
 exact Ret.of1 (.inl rfl) (rsT _ _ (.sc (.int _ _)) rfl) (Sub.refl _) (ALe.refl _ _) ⟨rfl, rfl⟩
 have hm := Zj hm hc6
 refine Zl (H2 _ _ (Zf fun K8 H8 => (Zf fun K9 H9 => (Za (vC rfl (Zb (H9 _ _ ?_)))))))
 refine AW_loopH (n := 37) (h := h) hm (σ := Int) (τ := Unit) (fun g s => []) (fun g s => kp (kp (k0) 3 (.sc (.int .i64 s))) 0 (.sl none 2 (List.map c_File p0))) () (HOk.nil _) (LeF.s (.k2 .nil)) ?_ ?_
 rintro _ q0 x hk0 hm
 replace hm : M130_L0 fuel p0 q0 = some x := hm
 unfold M130_L0 at hm
 refine Zf fun K0 H4 => (Zf fun K4 H5 => (Za (vA rfl (vE rfl (s_v (o_lenm ln100 rfl) (vF rfl rfl rfl (Zb (H5 _ _ ?_))))))))
 refine AW_if' rfl (fun hc0 => ?_) (fun hc0 => ?_)
 have hm := Zi hm hc0
 refine Zl (H4 _ _ (Zf fun K5 H6 => (AW_block (Zf fun K6 H75 => ?_))))
 refine AW_joinH (n := 37) (h := h) hm (σ := Bool) (τ := Unit) (fun g s => []) (fun g s => kp (kp (kp (k0) 36 (.sc (.bool s))) 3 (.sc (.int .i64 q0))) 0 (.sl none 2 (List.map c_File p0))) (fun x hm => ?_) ?_
 refine AW_rq mixed (by kernel_rfl) ?_
 refine wE rfl (wA rfl ?_)
 obtain ⟨x0, hx0, hm⟩ := Zc hm
 refine q_v (o_ix hx0 el100 rfl rfl) (q_v (o_fl fd105_0 rfl rfl) (q_v (o_ld (.sc (.string x0.Path)) ld9 rfl rfl) ?_))
 obtain ⟨y0, hy0, hm⟩ := Zc hm
 refine q_v (o_call (W104 _ hy0) rfl bd104 rfl) (q_v (o_not rfl) (wB rfl ?_))
 rcases Bool.eq_false_or_eq_true (!y0) with hb0 | hb0
 have hm := Zi hm hb0
 refine Ze rfl rfl hb0 (Ze rfl rfl hb0 (Ze rfl rfl hb0 (qg_u rfl rfl (qg_u rfl rfl (qg_u rfl rfl (qg_u rfl rfl (qg_u rfl rfl (qg_u rfl rfl (qg_u rfl rfl (qg_u rfl rfl (qg_u rfl rfl (qg_u rfl rfl (qg_u rfl rfl (qg_u rfl rfl (Ze rfl rfl hb0 ?_)))))))))))))))
 refine q_v (Zm (.sc (.bool _)) rfl hb0 rfl) (q_nil ?_)
 cases hm
 exact ⟨rfl, (), hk0, LeF.s (.k3 .nil)⟩
 have hm := Zj hm hb0
 refine Zk rfl rfl hb0 (wA rfl (Zk rfl rfl hb0 (wF rfl rfl rfl (Zk rfl rfl hb0 (wB rfl ?_)))))
 rcases Bool.eq_false_or_eq_true (decide (0 < q0)) with hb1 | hb1
 have hm := Zi hm hb1
 refine Zk rfl rfl hb1 (wE rfl (Zk rfl rfl hb1 (wA rfl (Zk rfl rfl hb1 ?_))))
 obtain ⟨x1, hx1, hm⟩ := Zc hm
 refine q_v (o_ix hx1 el100 rfl rfl) (Zk rfl rfl hb1 (q_v (o_fl fd105_0 rfl rfl) (Zk rfl rfl hb1 (q_v (o_ld (.sc (.string x1.Path)) ld9 rfl rfl) (Zk rfl rfl hb1 (wE rfl (Zk rfl rfl hb1 (wA rfl (Zk rfl rfl hb1 (wF rfl rfl rfl (Zk rfl rfl hb1 ?_)))))))))))
 obtain ⟨x2, hx2, hm⟩ := Zc hm
 refine q_v (o_ix hx2 el100 rfl rfl) (Zk rfl rfl hb1 (q_v (o_fl fd105_0 rfl rfl) (Zk rfl rfl hb1 (q_v (o_ld (.sc (.string x2.Path)) ld9 rfl rfl) (Zk rfl rfl hb1 (q_v (o_bs rfl rfl rfl trivial) (Zk rfl rfl hb0 (q_v (Zm (.sc (.bool _)) rfl hb1 rfl) (q_v (Zn (.sc (.bool _)) rfl hb0 rfl) (q_nil ?_))))))))))
 cases hm
 exact ⟨rfl, (), hk0, LeF.s (.k3 .nil)⟩
 have hm := Zj hm hb1
 refine Ze rfl rfl hb1 (Ze rfl rfl hb1 (Ze rfl rfl hb1 (Ze rfl rfl hb1 (Ze rfl rfl hb1 (Ze rfl rfl hb1 (Ze rfl rfl hb1 (Ze rfl rfl hb1 (Ze rfl rfl hb1 (Ze rfl rfl hb1 (Ze rfl rfl hb1 (Ze rfl rfl hb1 (Zk rfl rfl hb0 (q_v (Zn (.sc (.bool _)) rfl hb1 rfl) (q_v (Zn (.sc (.bool _)) rfl hb0 rfl) (q_nil ?_)))))))))))))))
 cases hm
 exact ⟨rfl, (), hk0, LeF.s (.k3 .nil)⟩
 rintro _ j0 fr' h' hk1 hm le
 refine H75 _ _ (le.aw ?_)
 refine AW_if' rfl (fun hc1 => ?_) (fun hc1 => ?_)
 have hm := Zi hm hc1
 refine Zf fun K99 H99 => (Za (vC rfl (Zb (H99 _ _ (AW_ret ?_)))))
 cases hm
 refine ⟨⟨nofun, nofun⟩, fun he => ?_⟩
 subst he
 exact Ret.of1 (.inl rfl) (rsT _ _ (.sc (.int _ _)) rfl) (Sub.refl _) (ALe.refl _ _) ⟨rfl, rfl⟩
 have hm := Zj hm hc1
 refine Zl (H6 _ _ (Za (vA rfl (vF rfl rfl rfl (vC rfl (Zb ?_))))))
 cases hm
 exact ⟨rfl, (), hk1, LeF.s (.k2 .nil)⟩
 have hm := Zj hm hc0
 refine AW_exit ?_
 refine Seq_exit ?_
 cases hm
 exact ⟨rfl, (), hk0, LeF.s (.k2 .nil)⟩
 rintro _ r0 fr' h' hk2 hm le
 refine H8 _ _ (le.aw ?_)
 refine Zf fun K10 H10 => (Za (vC rfl (Zb (H10 _ _ (AW_ret ?_)))))
 have hmo := Option.some.inj hm; subst hmo
 exact Ret.of1 (.inl rfl) (rsT _ _ (.sc (.int _ _)) rfl) (Sub.refl _) (ALe.refl _ _) ⟨rfl, rfl⟩
theorem bd130 : bodied Try.prog 130 = true := by kernel_rfl
def M145_L0 (fuel : Nat) (p0 : List Int) (q0 : Int) (q1 : Int) : Option (Lp (Int × Int) (Int)) :=
 if (decide (q1 < (p0.length : Int))) = true then ((ix p0 q1).bind fun x0 => after (if (decide (8 ≤ (IntKind.wrap .i64 (q1 + 1)))) = true then (if (((IntKind.wrap .u32 ((IntKind.wrap .u32 (q0 * 2)) + (IntKind.wrap .u32 ((IntKind.wrap .u32 ((IntKind.wrap .u32 x0) + 1)) * 2654435761)))).fdiv (2 ^ (min (28 : Int).toNat (IntKind.bits .u32)))) == 0) = true then (some (.brk true)) else some (.brk ((IntKind.wrap .i64 (q1 + 1)) == 64))) else some (.brk ((IntKind.wrap .i64 (q1 + 1)) == 64)) : Option (Lp (Bool) (Lp (Int × Int) (Int)))) fun j0 => if j0 = true then (some (.ret (IntKind.wrap .i64 (q1 + 1)))) else some (.go (IntKind.wrap .u32 ((IntKind.wrap .u32 (q0 * 2)) + (IntKind.wrap .u32 ((IntKind.wrap .u32 ((IntKind.wrap .u32 x0) + 1)) * 2654435761))), IntKind.wrap .i64 (q1 + 1)))) else some (.brk (q0, q1))
def M145 (fuel : Nat) (p0 : List Int) : Option (Int) :=
 after (loopM (fun s => M145_L0 fuel p0 s.1 s.2) fuel (0, 0)) fun ⟨r0, r1⟩ => some (p0.length : Int)
set_option maxHeartbeats 4000000 in
set_option maxRecDepth 100000 in
theorem W145 {fuel : Nat} {p0 : List Int} {o : Int} (h : Heap) (hm : M145 fuel p0 = some o) :
 ACalls Try.prog 145 [.sl none 1 (List.map c_u8 p0)] h (fun r h' => r = .sc (.int .i64 o) ∧ h' = h) := by
 refine ACalls_hp 38 [.tmp 2] Try.func145 rfl rfl rfl rfl ?_
 unfold M145 at hm
 refine Zf fun K1 H1 => (Za (vC rfl (Zb (H1 _ _ (Zf fun K2 H2 => (Za (vC rfl (Zb (H2 _ _ (Zf fun K3 H3 => (Zf fun K4 H4 => (Za (vC rfl (Zb (H4 _ _ ?_)))))))))))))))
 refine AW_loopH (n := 38) (h := h) hm (σ := Int × Int) (τ := Unit) (fun g s => []) (fun g s => kp (kp (kp (k0) 4 (.sc (.int .i64 s.2))) 3 (.sc (.int .u32 s.1))) 0 (.sl none 1 (List.map c_u8 p0))) () (HOk.nil _) (LeF.s (.k3 .nil)) ?_ ?_
 rintro _ ⟨q0, q1⟩ x hk0 hm
 replace hm : M145_L0 fuel p0 q0 q1 = some x := hm
 unfold M145_L0 at hm
 refine Zf fun K0 H5 => (Zf fun K5 H6 => (Za (vA rfl (vE rfl (s_v (o_lenm ln52 rfl) (vF rfl rfl rfl (Zb (H6 _ _ ?_))))))))
 refine AW_if' rfl (fun hc0 => ?_) (fun hc0 => ?_)
 have hm := Zi hm hc0
 refine Zl (H5 _ _ (Zf fun K6 H7 => (AW_block (Zf fun K7 H8 => (Za (vA rfl (vF rfl rfl rfl (vE rfl (vA rfl ?_)))))))))
 obtain ⟨x0, hx0, hm⟩ := Zc hm
 refine s_v (o_ix hx0 el52 rfl rfl) (s_v (o_ld (.sc (.int .u8 x0)) ld5 rfl rfl) (s_v (o_cv ti5 ti171 rfl) (vF rfl rfl rfl (vF rfl rfl rfl (vF rfl rfl rfl (vC rfl (Zb (H8 _ _ (Zf fun K8 H9 => ?_)))))))))
 refine AW_joinH (n := 38) (h := h) hm (σ := Bool) (τ := Unit) (fun g s => []) (fun g s => kp (kp (kp (kp (k0) 33 (.sc (.bool s))) 4 (.sc (.int .i64 q1))) 3 (.sc (.int .u32 (IntKind.wrap .u32 ((IntKind.wrap .u32 (q0 * 2)) + (IntKind.wrap .u32 ((IntKind.wrap .u32 ((IntKind.wrap .u32 x0) + 1)) * 2654435761))))))) 0 (.sl none 1 (List.map c_u8 p0))) (fun x hm => ?_) ?_
 refine Za (vA rfl (vF rfl rfl rfl (vF rfl rfl rfl (vB rfl ?_))))
 rcases Bool.eq_false_or_eq_true (decide (8 ≤ (IntKind.wrap .i64 (q1 + 1)))) with hb0 | hb0
 have hm := Zi hm hb0
 refine sg_y rfl rfl hb0 (vA rfl (sg_y rfl rfl hb0 (s_v (o_sh rfl rfl rfl (by decide)) (sg_y rfl rfl hb0 (vF rfl rfl rfl (s_v (Zm (.sc (.bool _)) rfl hb0 rfl) (vB rfl ?_)))))))
 rcases Bool.eq_false_or_eq_true (((IntKind.wrap .u32 ((IntKind.wrap .u32 (q0 * 2)) + (IntKind.wrap .u32 ((IntKind.wrap .u32 ((IntKind.wrap .u32 x0) + 1)) * 2654435761)))).fdiv (2 ^ (min (28 : Int).toNat (IntKind.bits .u32)))) == 0) with hb1 | hb1
 have hm := Zi hm hb1
 refine Zo rfl rfl hb1 (Zo rfl rfl hb1 (Zo rfl rfl hb1 (s_v (Zm (.sc (.bool _)) rfl hb1 rfl) (Zb ?_))))
 cases hm
 exact ⟨rfl, (), hk0, LeF.s (.k4 .nil)⟩
 have hm := Zj hm hb1
 refine sg_y rfl rfl hb1 (vA rfl (sg_y rfl rfl hb1 (vF rfl rfl rfl (sg_y rfl rfl hb1 (vF rfl rfl rfl (s_v (Zn (.sc (.bool _)) rfl hb1 rfl) (Zb ?_)))))))
 cases hm
 exact ⟨rfl, (), hk0, LeF.s (.k4 .nil)⟩
 have hm := Zj hm hb0
 refine Zo rfl rfl hb0 (Zo rfl rfl hb0 (Zo rfl rfl hb0 (s_v (Zn (.sc (.bool _)) rfl hb0 rfl) (vB rfl (sg_y rfl rfl rfl (vA rfl (sg_y rfl rfl rfl (vF rfl rfl rfl (sg_y rfl rfl rfl (vF rfl rfl rfl (s_v (Zn (.sc (.bool _)) rfl rfl rfl) (Zb ?_))))))))))))
 cases hm
 exact ⟨rfl, (), hk0, LeF.s (.k4 .nil)⟩
 rintro _ j0 fr' h' hk1 hm le
 refine H9 _ _ (le.aw ?_)
 refine AW_if' rfl (fun hc1 => ?_) (fun hc1 => ?_)
 have hm := Zi hm hc1
 refine Zf fun K9 H57 => (Za (vA rfl (vF rfl rfl rfl (vC rfl (Zb (H57 _ _ (AW_ret ?_)))))))
 cases hm
 refine ⟨⟨nofun, nofun⟩, fun he => ?_⟩
 subst he
 exact Ret.of1 (.inl rfl) (rsT _ _ (.sc (.int _ _)) rfl) (Sub.refl _) (ALe.refl _ _) ⟨rfl, rfl⟩
 have hm := Zj hm hc1
 refine Zl (H7 _ _ (Za (vA rfl (vF rfl rfl rfl (vC rfl (Zb ?_))))))
 cases hm
 exact ⟨rfl, (), hk1, LeF.s (.k3 .nil)⟩
 have hm := Zj hm hc0
 refine AW_exit ?_
 refine Seq_exit ?_
 cases hm
 exact ⟨rfl, (), hk0, LeF.s (.k3 .nil)⟩
 rintro _ ⟨r0, r1⟩ fr' h' hk2 hm le
 refine H3 _ _ (le.aw ?_)
 refine Zf fun K61 H61 => (Za (vE rfl (s_v (o_lenm ln52 rfl) (vC rfl (Zb (H61 _ _ (AW_ret ?_)))))))
 have hmo := Option.some.inj hm; subst hmo
 exact Ret.of1 (.inl rfl) (rsT _ _ (.sc (.int _ _)) rfl) (Sub.refl _) (ALe.refl _ _) ⟨rfl, rfl⟩
theorem bd145 : bodied Try.prog 145 = true := by kernel_rfl
def M131_L0 (fuel : Nat) (q0 : List (List Int)) (q1 : List Int) : Option (Lp ((List (List Int)) × (List Int)) ((List (List Int)))) :=
 if (decide (0 < (q1.length : Int))) = true then ((M145 fuel q1).bind fun y0 => (slc q1 0 y0).bind fun x0 => (M100 fuel x0).bind fun y1 => (app q0 ([y1] : List (List Int))).bind fun z0 => (slc q1 y0 (q1).length).bind fun x1 => some (.go (z0, x1))) else some (.brk (q0, q1))
def M131 (fuel : Nat) (p0 : List Int) : Option ((List (List Int))) :=
 after (loopM (fun s => M131_L0 fuel s.1 s.2) fuel ([], p0)) fun ⟨r0, r1⟩ => some r0
set_option maxHeartbeats 4000000 in
set_option maxRecDepth 100000 in
theorem W131 {fuel : Nat} {p0 : List Int} {o : (List (List Int))} (h : Heap) (hm : M131 fuel p0 = some o) :
 ACalls Try.prog 131 [.sl none 1 (List.map c_u8 p0)] h (fun r h' => r = .sl none 1 (List.map c_s_u8 o) ∧ h' = h) := by
 refine ACalls_hp 21 [.tmp 2] Try.func131 rfl rfl rfl rfl ?_
 unfold M131 at hm
 refine Zf fun K1 H1 => (Za (s_v (o_as (.sc (.slice _ _ _)) rfl) (Zb (H1 _ _ (Zf fun K2 H2 => (Za (s_v (o_as (.sc (.slice _ _ _)) rfl) (Zb (H2 _ _ (Zf fun K3 H3 => ?_))))))))))
 refine (LeF.put (t := 3) (v := ow none 1 (List.map c_s_u8 [])) (Sub.refl _) (ow_nil _ _)).aw ?_
 refine AW_loopL (n := 21) (h := h) hm (σ := (List (List Int)) × (List Int)) (τ := Option Key) (fun g s => [(g, .tok 52 1 ((s.1 : List (List Int)).length * 1))]) (fun g s => (g = none → s.1 = [])) (fun g s => kp (kp (k0) 3 (ow g 1 (List.map c_s_u8 s.1))) 0 (.sl none 1 (List.map c_u8 s.2))) none (⟨HOk.none (HOk.nil _), (fun _ => rfl)⟩) (LeF.s (.k2 .nil)) ?_ ?_
 rintro tg0 ⟨q0, q1⟩ x ⟨hk0, ot0⟩ hm
 replace hm : M131_L0 fuel q0 q1 = some x := hm
 unfold M131_L0 at hm
 refine Zf fun K0 H4 => (Zf fun K4 H5 => (Za (vE rfl (s_v (o_lenm ln52 rfl) (vF rfl rfl rfl (Zb (H5 _ _ ?_)))))))
 refine AW_if' rfl (fun hc0 => ?_) (fun hc0 => ?_)
 have hm := Zi hm hc0
 refine Zl (H4 _ _ (AW_block (Zf fun K5 H6 => (Za (vE rfl ?_)))))
 obtain ⟨y0, hy0, hm⟩ := Zc hm
 refine s_v (o_call (W145 _ hy0) rfl bd145 rfl) (vC rfl (Zb (H6 _ _ (Zf fun K6 H7 => (Za (s_v (o_mv (ow _ _ _) rfl) (vE rfl (vA rfl ?_))))))))
 obtain ⟨x0, hx0, hm⟩ := Zc hm
 refine s_v (o_slc hx0 el52 rfl rfl rfl rfl) ?_
 obtain ⟨y1, hy1, hm⟩ := Zc hm
 refine s_v (o_call (W100 _ hy1) rfl bd100 rfl) (s_v (o_lit (List.map c_s_u8 ([y1] : List (List Int))) et145 rfl rfl rfl rfl) ?_)
 obtain ⟨z0, hz0, hm⟩ := Zc hm
 refine s_op (a_app (c := c_s_u8) 0 hz0 et145 rfl rfl rfl ot0 hk0 rfl fun tg1 ot1 hk1 => ?_)
 refine s_v (o_as (ow _ _ _) rfl) (Zb (H7 _ _ (Za (vE rfl (vA rfl ?_)))))
 obtain ⟨x1, hx1, hm⟩ := Zc hm
 refine s_v (o_slc hx1 el52 rfl rfl rfl rfl) (s_v (o_as (.sl _ _ _) rfl) (Zb ?_))
 cases hm
 exact ⟨rfl, tg1, ⟨hk1, ot1⟩, LeF.s (.k2 .nil)⟩
 have hm := Zj hm hc0
 refine AW_exit ?_
 refine Seq_exit ?_
 cases hm
 exact ⟨rfl, tg0, ⟨hk0, ot0⟩, LeF.s (.k2 .nil)⟩
 rintro tg2 ⟨r0, r1⟩ fr' h' ⟨hk2, ot2⟩ hm le
 refine H3 _ _ (le.aw ?_)
 refine Zf fun K7 H8 => (Za (s_v (o_mv (ow _ _ _) rfl) (s_v (o_as (ow _ _ _) rfl) (Zb (H8 _ _ (AW_ret ?_))))))
 have hmo := Option.some.inj hm; subst hmo
 exact Ret.of1 (.inl rfl) (rsT _ _ (ow _ _ _) rfl) (hp_sub (List.nil_sublist _) hk2).1 ((own_frz0 _ 0 ot2 hk2 rfl)) ⟨rfl, rfl⟩
theorem bd131 : bodied Try.prog 131 = true := by kernel_rfl
def M107_L2 (fuel : Nat) (y0 : (List (List Int))) (q0 : List Id32) (q1 : List (List Int)) (q2 : List Id32) (q3 : Int) : Option (Lp ((List Id32) × (List (List Int)) × (List Id32) × Int) (Lp ((List TPart) × (List (List Int)) × (List Id32) × Int) (TManifest × (List (List Int)) × Int))) :=
 if (decide (q3 < (y0.length : Int))) = true then ((ix y0 q3).bind fun x0 => (M108 fuel x0).bind fun y1 => (app q0 ([y1] : List Id32)).bind fun z0 => (M105 fuel q2 y1).bind fun y2 => after (if y2.2.2 = true then ((slc q1 0 y2.2.1).bind fun x1 => (ix y0 q3).bind fun x2 => (app ([] : List (List Int)) x1).bind fun z1 => (app z1 ([x2] : List (List Int))).bind fun z2 => (slc q1 y2.2.1 (q1.length : Int)).bind fun x3 => (app z2 x3).bind fun z3 => some (.brk z3)) else some (.brk q1) : Option (Lp ((List (List Int))) (Lp ((List Id32) × (List (List Int)) × (List Id32) × Int) (Lp ((List TPart) × (List (List Int)) × (List Id32) × Int) (TManifest × (List (List Int)) × Int))))) fun j0 => some (.go (z0, j0, y2.1, IntKind.wrap .i64 (q3 + 1)))) else some (.brk (q0, q1, q2, q3))
def M107_L0 (fuel : Nat) (p1 : List TFile) (q0 : List TPart) (q1 : List (List Int)) (q2 : List Id32) (q3 : Int) : Option (Lp ((List TPart) × (List (List Int)) × (List Id32) × Int) (TManifest × (List (List Int)) × Int)) :=
 if (decide (q3 < (p1.length : Int))) = true then ((ix p1 q3).bind fun x0 => (ix p1 q3).bind fun x1 => (ix p1 q3).bind fun x2 => (M131 fuel x2.Data).bind fun y0 => after (loopM (fun s => M107_L2 fuel y0 s.1 s.2.1 s.2.2.1 s.2.2.2) fuel ([], q1, q2, 0)) fun ⟨r0, r1, r2, r3⟩ => (app q0 ([({ Path := x0.Path, Size := (x1.Data.length : Int), Ids := r0 } : TPart)] : List TPart)).bind fun z0 => some (.go (z0, r1, r2, IntKind.wrap .i64 (q3 + 1)))) else some (.brk (q0, q1, q2, q3))
def M107 (fuel : Nat) (p0 : ByteArray) (p1 : List TFile) : Option (TManifest × (List (List Int)) × Int) :=
 (M104 fuel p0).bind fun y7 => if (!y7) = true then (some (({ Name := ByteArray.empty, Parts := [] } : TManifest), [], 1)) else (M130 fuel p1).bind fun y0 => if (y0 != 0) = true then (some (({ Name := ByteArray.empty, Parts := [] } : TManifest), [], y0)) else after (loopM (fun s => M107_L0 fuel p1 s.1 s.2.1 s.2.2.1 s.2.2.2) fuel ([], [], [], 0)) fun ⟨r0, r1, r2, r3⟩ => some (({ Name := p0, Parts := r0 } : TManifest), r1, 0)
set_option maxHeartbeats 4000000 in
set_option maxRecDepth 100000 in
theorem W107 {fuel : Nat} {p0 : ByteArray} {p1 : List TFile} {o : TManifest × (List (List Int)) × Int} (h : Heap) (hm : M107 fuel p0 p1 = some o) :
 ACalls Try.prog 107 [.sc (.string p0), .sl none 2 (List.map c_File p1)] h (fun r h' => r = .tup [.agg (c_Manifest o.1), .sl none 1 (List.map c_s_u8 o.2.1), .sc (.int .i64 o.2.2)] ∧ h' = h) := by
 refine ACalls_hp 106 [.cell 4 57, .tmp 5, .tmp 6] Try.func107 rfl rfl rfl rfl ?_
 unfold M107 at hm
 refine Zf fun K1 H1 => (Za ?_)
 refine s_op (a_alloc ([.sc (.string ByteArray.empty), .sc (.slice none 0 0)]) (HOk.nil _) zr57 rfl rfl fun k2 hk3 => ?_)
 refine s_v (o_as (.sc (.slice _ _ _)) rfl) (vC rfl (Zb (H1 _ _ (Zf fun K5 H5 => (Zf fun K6 H6 => (Za (s_v (o_mv (.sc (.string _)) rfl) ?_)))))))
 obtain ⟨y7, hy8, hm⟩ := Zc hm
 refine s_v (o_call (W104 _ hy8) rfl bd104 rfl) (s_v (o_not rfl) (Zb (H6 _ _ ?_)))
 refine AW_if' rfl (fun hc9 => ?_) (fun hc9 => ?_)
 have hm := Zi hm hc9
 refine Zf fun K0 H2 => (Za (s_v (o_bld ([.sc (.string ByteArray.empty), .sc (.slice none 0 0)]) bt57 rfl) ?_))
 refine s_op (a_store 0 ([.sc (.string ByteArray.empty), .sc (.slice none 0 0)]) hk3 rfl rfl rfl rfl sz57 rfl rfl fun hk0 => ?_)
 refine s_v (o_as (.sc (.slice _ _ _)) rfl) (vC rfl (Zb (H2 _ _ (AW_ret ?_))))
 have hmo := Option.some.inj hm; subst hmo
 exact Ret.of3 (.inl rfl) (rsC (.agg ([.sc (.string ByteArray.empty), .sc (.slice none 0 0)])) ld57 rfl (Zd 0 hk0 rfl) rfl) (rsT _ _ (.sc (.slice _ _ _)) rfl) (rsT _ _ (.sc (.int _ _)) rfl) (hp_sub (List.nil_sublist _) hk0).1 (ALe.agg (.cons (ALe.refl _ _) (.cons (nil_lem _) .nil))) (nil_lem _) (ALe.refl _ _) ⟨rfl, rfl⟩
 have hm := Zj hm hc9
 refine Zl (H5 _ _ (Zf fun K2 H3 => (Zf fun K3 H4 => (Za (vE rfl ?_)))))
 obtain ⟨y0, hy0, hm⟩ := Zc hm
 refine s_v (o_call (W130 _ hy0) rfl bd130 rfl) (vC rfl (Zb (H4 _ _ (Zf fun K4 H7 => (Za (vA rfl (vF rfl rfl rfl (Zb (H7 _ _ ?_)))))))))
 refine AW_if' rfl (fun hc0 => ?_) (fun hc0 => ?_)
 have hm := Zi hm hc0
 refine Zf fun K7 H8 => (Za (s_v (o_bld ([.sc (.string ByteArray.empty), .sc (.slice none 0 0)]) bt57 rfl) (vA rfl ?_)))
 refine s_op (a_store 0 ([.sc (.string ByteArray.empty), .sc (.slice none 0 0)]) hk3 rfl rfl rfl rfl sz57 rfl rfl fun hk1 => ?_)
 refine s_v (o_as (.sc (.slice _ _ _)) rfl) (vC rfl (Zb (H8 _ _ (AW_ret ?_))))
 have hmo := Option.some.inj hm; subst hmo
 exact Ret.of3 (.inl rfl) (rsC (.agg ([.sc (.string ByteArray.empty), .sc (.slice none 0 0)])) ld57 rfl (Zd 0 hk1 rfl) rfl) (rsT _ _ (.sc (.slice _ _ _)) rfl) (rsT _ _ (.sc (.int _ _)) rfl) (hp_sub (List.nil_sublist _) hk1).1 (ALe.agg (.cons (ALe.refl _ _) (.cons (nil_lem _) .nil))) (nil_lem _) (ALe.refl _ _) ⟨rfl, rfl⟩
 have hm := Zj hm hc0
 refine Zl (H3 _ _ (Zf fun K8 H9 => (Za (s_v (o_mv (.sc (.string _)) rfl) (s_v (o_bld ([.sc (.string p0), .sc (.slice none 0 0)]) bt57 rfl) ?_)))))
 refine s_op (a_alloc ([.sc (.string ByteArray.empty), .sc (.slice none 0 0)]) hk3 zr57 rfl rfl fun k21 hk2 => ?_)
 refine s_op (a_store 0 ([.sc (.string p0), .sc (.slice none 0 0)]) hk2 rfl rfl rfl rfl sz57 rfl rfl fun hk4 => ?_)
 refine Zb (H9 _ _ (Zf fun K9 H25 => (Za (s_v (o_as (.sc (.slice _ _ _)) rfl) (Zb (H25 _ _ (Zf fun K26 H26 => (Za (s_v (o_as (.sc (.slice _ _ _)) rfl) (Zb (H26 _ _ (Zf fun K27 H27 => (Zf fun K28 H28 => (Za (vC rfl ?_)))))))))))))))
 refine Zb (H28 _ _ ?_)
 refine (LeF.put (t := 10) (v := ow none 1 (List.map c_s_u8 [])) (Sub.refl _) (ow_nil _ _)).aw ?_
 obtain ⟨hk5, le0⟩ := LeF.obj (L := (none, .tok 82 3 (([] : List TPart).length * 3)) :: _) (n := 106) (f := _) 2 ([.sc (.string p0), ow none 3 (List.map c_Part [])]) (HOk.none (HOk.none hk4)) rfl (.cons (ALe.refl _ _) (.cons (ow_nil (c := c_Part) _ 3) .nil))
 refine le0.aw ?_
 refine AW_loopL (n := 106) (h := h) hm (σ := (List TPart) × (List (List Int)) × (List Id32) × Int) (τ := Option Key × Option Key) (fun g s => [(g.1, .tok 82 3 ((s.1 : List TPart).length * 3)), (g.2, .tok 52 1 ((s.2.1 : List (List Int)).length * 1)), (some k21, .obj 57 ([.sc (.string p0), ow g.1 3 (List.map c_Part s.1)])), (some k2, .obj 57 ([.sc (.string ByteArray.empty), .sc (.slice none 0 0)]))]) (fun g s => (g.1 = none → s.1 = []) ∧ (g.2 = none → s.2.1 = [])) (fun g s => kp (kp (kp (kp (kp (kp (k0) 11 (.sc (.int .i64 s.2.2.2))) 10 (ow g.2 1 (List.map c_s_u8 s.2.1))) 9 (.sl none 32 (List.map c_id s.2.2.1))) 8 (.ptr k21 0)) 4 (.ptr k2 0)) 1 (.sl none 2 (List.map c_File p1))) (none, none) (⟨hk5, (fun _ => rfl), (fun _ => rfl)⟩) (LeF.s (.k3 (.cons (nil_lem _) (.k2 .nil)))) ?_ ?_
 rintro ⟨tg0, tg1⟩ ⟨q0, q1, q2, q3⟩ x ⟨hk6, ot0, ot1⟩ hm
 replace hm : M107_L0 fuel p1 q0 q1 q2 q3 = some x := hm
 unfold M107_L0 at hm
 refine Zf fun K11 H11 => (Zf fun K14 H14 => (Za (vA rfl (vE rfl (s_v (o_lenm ln100 rfl) (vF rfl rfl rfl (Zb (H14 _ _ ?_))))))))
 refine AW_if' rfl (fun hc1 => ?_) (fun hc1 => ?_)
 have hm := Zi hm hc1
 refine Zl (H11 _ _ (Zf fun K15 H15 => (AW_block (Zf fun K17 H17 => ?_))))
 refine AW_zreg [] mixed trivial ?_
 refine z_w 0 rfl (fun S' h' hi hB => o_mv (.sl _ _ _) rfl) ?_
 refine z_w 1 rfl (fun S' h' hi hB => o_mv (.sc (.int _ _)) rfl) ?_
 obtain ⟨x0, hx0, hm⟩ := Zc hm
 refine z_w 2 rfl (fun S' h' hi hB => o_ix hx0 el100 rfl rfl) ?_
 refine z_w 3 rfl (fun S' h' hi hB => o_fl fd105_0 rfl rfl) ?_
 refine z_w 4 rfl (fun S' h' hi hB => o_ld (.sc (.string x0.Path)) ld9 rfl rfl) ?_
 refine z_w 5 rfl (fun S' h' hi hB => o_mv (.sl _ _ _) rfl) ?_
 refine z_w 6 rfl (fun S' h' hi hB => o_mv (.sc (.int _ _)) rfl) ?_
 obtain ⟨x1, hx1, hm⟩ := Zc hm
 refine z_w 7 rfl (fun S' h' hi hB => o_ix hx1 el100 rfl rfl) ?_
 refine z_w 8 rfl (fun S' h' hi hB => o_fl fd105_1 rfl rfl) ?_
 refine z_w 9 rfl (fun S' h' hi hB => o_ld (.sl none 1 (List.map c_u8 x1.Data)) ld52 rfl rfl) ?_
 refine z_w 10 rfl (fun S' h' hi hB => o_lenm ln52 rfl) ?_
 refine z_w 11 rfl (fun S' h' hi hB => o_bld ([.sc (.string x0.Path), .sc (.int .i64 (x1.Data.length : Int)), .sc (.slice none 0 0)]) bt82 rfl) ?_
 refine z_e 12 rfl (by kernel_rfl) (a_alloc ([.sc (.string ByteArray.empty), .sc (.int .i64 0), .sc (.slice none 0 0)]) hk6 zr82 rfl rfl fun k2247 hk7 => ⟨trivial, ?_⟩)
 refine z_e 13 rfl (by kernel_rfl) (a_store 0 ([.sc (.string x0.Path), .sc (.int .i64 (x1.Data.length : Int)), .sc (.slice none 0 0)]) hk7 rfl rfl rfl rfl sz82 rfl rfl fun hk8 => ⟨trivial, ?_⟩)
 refine z_nil (by kernel_rfl) ?_
 refine H17 _ _ (Zf fun K19 H19 => (Za (vE rfl (vA rfl ?_))))
 obtain ⟨x2, hx2, hm⟩ := Zc hm
 refine s_v (o_ix hx2 el100 rfl rfl) (s_v (o_fl fd105_1 rfl rfl) (s_v (o_ld (.sl none 1 (List.map c_u8 x2.Data)) ld52 rfl rfl) ?_))
 obtain ⟨y1, hy1, hm⟩ := Zc hm
 refine s_v (o_call (W131 _ hy1) rfl bd131 rfl) (s_v (o_as (.sl _ _ _) rfl) (Zb (H19 _ _ (Zf fun K21 H21 => (Zf fun K22 H22 => (Za (vC rfl (Zb (H22 _ _ ?_)))))))))
 obtain ⟨hk9, le0⟩ := LeF.obj (L := (none, .tok 61 32 (([] : List Id32).length * 32)) :: _) (n := 106) (f := _) 1 ([.sc (.string x0.Path), .sc (.int .i64 (x1.Data.length : Int)), ow none 32 (List.map c_id [])]) (HOk.none hk8) rfl (.k2 (.cons (ow_nil (c := c_id) _ 32) .nil))
 refine le0.aw ?_
 refine AW_loopL (n := 106) (h := h) hm (σ := (List Id32) × (List (List Int)) × (List Id32) × Int) (τ := Option Key × Option Key) (fun g s => [(g.1, .tok 61 32 ((s.1 : List Id32).length * 32)), (some k2247, .obj 82 ([.sc (.string x0.Path), .sc (.int .i64 (x1.Data.length : Int)), ow g.1 32 (List.map c_id s.1)])), (tg0, .tok 82 3 ((q0 : List TPart).length * 3)), (g.2, .tok 52 1 ((s.2.1 : List (List Int)).length * 1)), (some k21, .obj 57 ([.sc (.string p0), ow tg0 3 (List.map c_Part q0)])), (some k2, .obj 57 ([.sc (.string ByteArray.empty), .sc (.slice none 0 0)]))]) (fun g s => (g.1 = none → s.1 = []) ∧ (g.2 = none → s.2.1 = [])) (fun g s => kp (kp (kp (kp (kp (kp (kp (kp (kp (k0) 14 (.sc (.int .i64 s.2.2.2))) 13 (.sl none 1 (List.map c_s_u8 y1))) 12 (.ptr k2247 0)) 11 (.sc (.int .i64 q3))) 10 (ow g.2 1 (List.map c_s_u8 s.2.1))) 9 (.sl none 32 (List.map c_id s.2.2.1))) 8 (.ptr k21 0)) 4 (.ptr k2 0)) 1 (.sl none 2 (List.map c_File p1))) (none, tg1) (⟨hk9, (fun _ => rfl), ot1⟩) (LeF.s (.k9 .nil)) ?_ ?_
 rintro ⟨tg2, tg3⟩ ⟨q4, q5, q6, q7⟩ x ⟨hk10, ot2, ot3⟩ hm
 replace hm : M107_L2 fuel y1 q4 q5 q6 q7 = some x := hm
 unfold M107_L2 at hm
 refine Zf fun K23 H23 => (Zf fun K24 H24 => (Za (vA rfl (vE rfl (s_v (o_lenm ln145 rfl) (vF rfl rfl rfl (Zb (H24 _ _ ?_))))))))
 refine AW_if' rfl (fun hc2 => ?_) (fun hc2 => ?_)
 have hm := Zi hm hc2
 refine Zl (H23 _ _ (Zf fun K29 H29 => (AW_block (Zf fun K30 H30 => (Za (vE rfl (vA rfl ?_)))))))
 obtain ⟨x3, hx3, hm⟩ := Zc hm
 refine s_v (o_ix hx3 el145 rfl rfl) (s_v (o_ld (.sl none 1 (List.map c_u8 x3)) ld52 rfl rfl) ?_)
 obtain ⟨y2, hy2, hm⟩ := Zc hm
 refine s_v (o_call (W108 _ hy2) rfl bd108 rfl) ?_
 refine s_op (a_alloc (c_id idZ) hk10 zr61 rfl rfl fun k2620 hk12 => ?_)
 refine s_op (a_store 0 (c_id y2) hk12 rfl rfl rfl rfl sz61 rfl rfl fun hk13 => ?_)
 refine Zb (H30 _ _ (Zf fun K31 H31 => (Za (s_v (Zh fd82_2 rfl rfl) (s_v (Zg (ow tg2 32 (List.map c_id q4)) ld80 rfl (Zd 2 hk13 rfl) rfl) (s_v (Zg (.agg (c_id y2)) ld61 rfl (Zd 0 hk13 rfl) rfl) (s_v (o_lit (List.map c_id ([y2] : List Id32)) et80 rfl rfl rfl rfl) ?_)))))))
 obtain ⟨z0, hz0, hm⟩ := Zc hm
 refine s_op (a_app (c := c_id) 1 hz0 et80 rfl rfl rfl ot2 hk13 rfl fun tg4 ot4 hk14 => ?_)
 refine s_v (Zh fd82_2 rfl rfl) ?_
 refine s_op (a_store 2 ([.sc (.string x0.Path), .sc (.int .i64 (x1.Data.length : Int)), ow tg4 32 (List.map c_id z0)]) hk14 rfl rfl (cellsOf_ow rfl) (all_ow _ _ _) sz80 rfl rfl fun hk15 => ?_)
 refine Zb (H31 _ _ (Zf fun K32 H32 => (Za (vE rfl (s_v (Zg (.agg (c_id y2)) ld61 rfl (Zd 0 hk15 rfl) rfl) ?_)))))
 obtain ⟨y3, hy3, hm⟩ := Zc hm
 refine s_v (o_call (W105 _ hy3) rfl bd105 rfl) (s_v (o_mv (.tup _) rfl) (s_v (o_ex (.sl _ _ _) rfl rfl) (s_v (o_ex (.sc (.int _ _)) rfl rfl) (s_v (o_ex (.sc (.bool _)) rfl rfl) (s_v (o_as (.sl _ _ _) rfl) (vC rfl (vD rfl (Zb (H32 _ _ (Zf fun K33 H33 => (Zf fun K34 H34 => (Za (vB rfl (Zb (H34 _ _ ?_)))))))))))))))
 refine AW_joinL (n := 106) (h := h) hm (σ := (List (List Int))) (τ := Option Key) (fun g s => [(some k2620, .obj 61 (c_id y2)), (tg4, .tok 61 32 ((z0 : List Id32).length * 32)), (some k2247, .obj 82 ([.sc (.string x0.Path), .sc (.int .i64 (x1.Data.length : Int)), ow tg4 32 (List.map c_id z0)])), (tg0, .tok 82 3 ((q0 : List TPart).length * 3)), (g, .tok 52 1 ((s : List (List Int)).length * 1)), (some k21, .obj 57 ([.sc (.string p0), ow tg0 3 (List.map c_Part q0)])), (some k2, .obj 57 ([.sc (.string ByteArray.empty), .sc (.slice none 0 0)]))]) (fun g s => (g = none → s = [])) (fun g s => kp (kp (kp (kp (kp (kp (kp (kp (kp (k0) 16 (.sl none 32 (List.map c_id y3.1))) 14 (.sc (.int .i64 q7))) 13 (.sl none 1 (List.map c_s_u8 y1))) 12 (.ptr k2247 0)) 11 (.sc (.int .i64 q3))) 10 (ow g 1 (List.map c_s_u8 s))) 8 (.ptr k21 0)) 4 (.ptr k2 0)) 1 (.sl none 2 (List.map c_File p1))) (fun x hm => ?_) ?_
 refine AW_if' rfl (fun hc3 => ?_) (fun hc3 => ?_)
 have hm := Zi hm hc3
 refine Zf fun K35 H35 => (Za (s_v (o_as (.sc (.slice _ _ _)) rfl) (Zb (H35 _ _ (Zf fun K36 H36 => ?_)))))
 refine AW_zreg [] mixed trivial ?_
 refine z_w 0 rfl (fun S' h' hi hB => o_mv (.sc (.slice _ _ _)) rfl) ?_
 refine z_w 1 rfl (fun S' h' hi hB => o_mv (ow _ _ _) rfl) ?_
 refine z_w 2 rfl (fun S' h' hi hB => o_mv (.sc (.int _ _)) rfl) ?_
 obtain ⟨x4, hx4, hm⟩ := Zc hm
 refine z_w 3 rfl (fun S' h' hi hB => o_slco hx4 el145 rfl ot3 rfl rfl rfl) ?_
 refine z_w 5 rfl (fun S' h' hi hB => o_mv (.sl _ _ _) rfl) ?_
 refine z_w 6 rfl (fun S' h' hi hB => o_mv (.sc (.int _ _)) rfl) ?_
 obtain ⟨x5, hx5, hm⟩ := Zc hm
 refine z_w 7 rfl (fun S' h' hi hB => o_ix hx5 el145 rfl rfl) ?_
 refine z_w 8 rfl (fun S' h' hi hB => o_ld (.sl none 1 (List.map c_u8 x5)) ld52 rfl rfl) ?_
 refine z_w 9 rfl (fun S' h' hi hB => o_lit (List.map c_s_u8 ([x5] : List (List Int))) et145 rfl rfl rfl rfl) ?_
 obtain ⟨z1, hz1, hm⟩ := Zc hm
 refine z_e 4 rfl (by kernel_rfl) (a_app0 (c := c_s_u8) hz1 et145 rfl rfl hk15 nofun (srcOf_own (slc_nil hx4 ot3)) fun tg5 ot5 hk16 => ⟨trivial, ?_⟩)
 obtain ⟨z2, hz2, hm⟩ := Zc hm
 refine z_e 10 rfl (by kernel_rfl) (a_app (c := c_s_u8) 0 hz2 et145 rfl rfl rfl ot5 hk16 rfl fun tg6 ot6 hk17 => ⟨trivial, ?_⟩)
 refine z_w 11 rfl (fun S' h' hi hB => o_as (ow _ _ _) rfl) ?_
 refine z_nil (by kernel_rfl) ?_
 refine H36 _ _ (Za (s_v (o_mv (ow _ _ _) rfl) (s_v (o_mv (ow _ _ _) rfl) (vA rfl ?_))))
 obtain ⟨x6, hx6, hm⟩ := Zc hm
 refine s_v (o_slco hx6 el145 rfl ot3 rfl rfl rfl) ?_
 obtain ⟨z3, hz3, hm⟩ := Zc hm
 refine s_op (a_app (c := c_s_u8) 0 hz3 et145 rfl rfl rfl ot6 hk17 (srcOf_own (slc_nil hx6 ot3)) fun tg7 ot7 hk18 => ?_)
 refine s_v (o_as (ow _ _ _) rfl) (Zb ?_)
 cases hm
 exact ⟨rfl, tg7, ⟨(hp_pick hk18 [1, 2, 3, 4, 0, 6, 7] rfl).1, ot7⟩, LeF.fm ((hp_pick hk18 [1, 2, 3, 4, 0, 6, 7] rfl).2) (.k9 .nil)⟩
 have hm := Zj hm hc3
 refine Zl ?_
 cases hm
 exact ⟨rfl, tg3, ⟨hk15, ot3⟩, LeF.s (.k9 .nil)⟩
 rintro tg8 j0 fr' h' ⟨hk20, ot8⟩ hm le
 refine H33 _ _ (le.aw ?_)
 refine Za (vE rfl (s_v (o_as (.sl _ _ _) rfl) (Zb (H29 _ _ (Za (vA rfl (vF rfl rfl rfl (vC rfl (Zb ?_)))))))))
 cases hm
 exact ⟨rfl, (tg4, tg8), ⟨(hp_sub (.cons _ (.refl _)) hk20).2, ot4, ot8⟩, LeF.fm ((hp_sub (.cons _ (.refl _)) hk20).1) (.k9 .nil)⟩
 have hm := Zj hm hc2
 refine AW_exit ?_
 refine Seq_exit ?_
 cases hm
 exact ⟨rfl, (tg2, tg3), ⟨hk10, ot2, ot3⟩, LeF.s (.k9 .nil)⟩
 rintro ⟨tg9, tg10⟩ ⟨r0, r1, r2, r3⟩ fr' h' ⟨hk21, ot9, ot10⟩ hm le
 refine H21 _ _ (le.aw ?_)
 refine Za (s_v (Zh fd57_1 rfl rfl) (s_v (Zg (ow tg0 3 (List.map c_Part q0)) ld55 rfl (Zd 4 hk21 rfl) rfl) (s_v (Zg (.agg ([.sc (.string x0.Path), .sc (.int .i64 (x1.Data.length : Int)), ow tg9 32 (List.map c_id r0)])) ld82 rfl (Zd 1 hk21 rfl) rfl) ?_)))
 refine s_fz (t := 100) (.agg (c_Part ({ Path := x0.Path, Size := (x1.Data.length : Int), Ids := r0 } : TPart))) (hp_sub (.cons _ (.refl _)) hk21).1 (ALe.agg (.k2 (.cons (own_frzE _ 0 ot9 hk21 rfl (.refl _)) .nil))) ?_
 refine s_v (o_lit (List.map c_Part ([({ Path := x0.Path, Size := (x1.Data.length : Int), Ids := r0 } : TPart)] : List TPart)) et55 rfl rfl rfl rfl) ?_
 obtain ⟨z4, hz4, hm⟩ := Zc hm
 refine s_op (a_app (c := c_Part) 1 hz4 et55 rfl rfl rfl ot0 ((hp_sub (.cons _ (.refl _)) hk21).2) rfl fun tg11 ot11 hk23 => ?_)
 refine s_v (Zh fd57_1 rfl rfl) ?_
 refine s_op (a_store 3 ([.sc (.string p0), ow tg11 3 (List.map c_Part z4)]) hk23 rfl rfl (cellsOf_ow rfl) (all_ow _ _ _) sz55 rfl rfl fun hk25 => ?_)
 refine Zb (H15 _ _ (Za (vA rfl (vF rfl rfl rfl (vC rfl (Zb ?_))))))
 cases hm
 exact ⟨rfl, (tg11, tg10), ⟨(hp_sub (.cons _ (.refl _)) hk25).2, ot11, ot10⟩, LeF.fm ((hp_sub (.cons _ (.refl _)) hk25).1) (.k6 .nil)⟩
 have hm := Zj hm hc1
 refine AW_exit ?_
 refine Seq_exit ?_
 cases hm
 exact ⟨rfl, (tg0, tg1), ⟨hk6, ot0, ot1⟩, LeF.s (.k6 .nil)⟩
 rintro ⟨tg12, tg13⟩ ⟨r4, r5, r6, r7⟩ fr' h' ⟨hk26, ot12, ot13⟩ hm le
 refine H27 _ _ (le.aw ?_)
 refine Zf fun K37 H37 => (Za (s_v (Zg (.agg ([.sc (.string p0), ow tg12 3 (List.map c_Part r4)])) ld57 rfl (Zd 2 hk26 rfl) rfl) (s_v (o_mv (ow _ _ _) rfl) ?_)))
 refine s_op (a_store 3 ([.sc (.string p0), ow tg12 3 (List.map c_Part r4)]) hk26 rfl rfl rfl (by repeat (first | exact rfl | refine all_c (ocell_ow _ _ _) ?_ | refine all_c (ocell_aw _ _ _) ?_ | refine all_c rfl ?_)) sz57 rfl rfl fun hk27 => ?_)
 refine s_v (o_as (ow _ _ _) rfl) (vC rfl (Zb (H37 _ _ (AW_ret ?_))))
 have hmo := Option.some.inj hm; subst hmo
 exact Ret.of3 (.inl rfl) (rsC (.agg ([.sc (.string p0), ow tg12 3 (List.map c_Part r4)])) ld57 rfl (Zd 3 hk27 rfl) rfl) (rsT _ _ (ow _ _ _) rfl) (rsT _ _ (.sc (.int _ _)) rfl) (hp_sub (List.nil_sublist _) hk27).1 (ALe.agg (.cons (ALe.refl _ _) (.cons ((own_frz0 _ 0 ot12 hk27 rfl)) .nil))) ((own_frz0 _ 1 ot13 hk27 rfl)) (ALe.refl _ _) ⟨rfl, rfl⟩
theorem bd107 : bodied Try.prog 107 = true := by kernel_rfl
def M66_L1 (fuel : Nat) (p0 : TCatalog) (y0 : TManifest × (List (List Int)) × Int) (q0 : List TChunk) (q1 : Int) : Option (Lp ((List TChunk) × Int) (TChange × Bool)) :=
 if (decide (q1 < (y0.2.1.length : Int))) = true then ((ix y0.2.1 q1).bind fun x0 => (M108 fuel x0).bind fun y1 => (M64 fuel p0 y1).bind fun y2 => after (if (decide (y2 < 0)) = true then ((ix y0.2.1 q1).bind fun x1 => (app q0 ([({ Id := y1, Staged := true, Data := x1, Locs := [] } : TChunk)] : List TChunk)).bind fun z0 => some (.brk z0)) else some (.brk q0) : Option (Lp ((List TChunk)) (Lp ((List TChunk) × Int) (TChange × Bool)))) fun j0 => some (.go (j0, IntKind.wrap .i64 (q1 + 1)))) else some (.brk (q0, q1))
def M66_L3 (fuel : Nat) (p0 : TCatalog) (p1 : TAct) (q0 : List TItem) (q1 : Int) (q2 : Int) : Option (Lp ((List TItem) × Int × Int) (TChange × Bool)) :=
 after (if (decide (q2 < (IntKind.wrap .i64 ((IntKind.wrap .i64 ((p0.Chunks.length : Int) + (p0.Snaps.length : Int))) + (p0.Exps.length : Int))))) = true then (some (.brk (decide ((q0.length : Int) < 64)))) else some (.brk false) : Option (Lp (Bool) (Lp ((List TItem) × Int × Int) (TChange × Bool)))) fun j0 => if j0 = true then (after (after (if (decide (q2 < (p1.Pick.length : Int))) = true then ((ix p1.Pick q2).bind fun x0 => some (.brk (!x0))) else some (.brk false) : Option (Lp (Bool) (Lp ((List TItem) × Int) (Lp ((List TItem) × Int × Int) (TChange × Bool))))) fun j1 => if j1 = true then (some (.brk (q0, q1))) else after (if (decide (q2 < (p0.Chunks.length : Int))) = true then ((ix p0.Chunks q2).bind fun x1 => some (.brk { { ({ Kind := 0, Id := idZ, Seq := 0, Of := 0, Off := q1, Len := 20 } : TItem) with Kind := 1 } with Id := x1.Id })) else after (if (decide (q2 < (IntKind.wrap .i64 ((p0.Chunks.length : Int) + (p0.Snaps.length : Int))))) = true then ((ix p0.Snaps (IntKind.wrap .i64 (q2 - (p0.Chunks.length : Int)))).bind fun x2 => some (.brk { { ({ Kind := 0, Id := idZ, Seq := 0, Of := 0, Off := q1, Len := 20 } : TItem) with Kind := 2 } with Seq := x2.Seq })) else (ix p0.Exps (IntKind.wrap .i64 ((IntKind.wrap .i64 (q2 - (p0.Chunks.length : Int))) - (p0.Snaps.length : Int)))).bind fun x3 => some (.brk { { { ({ Kind := 0, Id := idZ, Seq := 0, Of := 0, Off := q1, Len := 20 } : TItem) with Kind := 3 } with Seq := x3.Seq } with Of := x3.Of }) : Option (Lp (TItem) (Lp (TItem) (Lp ((List TItem) × Int) (Lp ((List TItem) × Int × Int) (TChange × Bool)))))) fun j2 => some (.brk j2) : Option (Lp (TItem) (Lp ((List TItem) × Int) (Lp ((List TItem) × Int × Int) (TChange × Bool))))) fun j3 => (app q0 ([j3] : List TItem)).bind fun z0 => some (.brk (z0, IntKind.wrap .i64 (q1 + 20))) : Option (Lp ((List TItem) × Int) (Lp ((List TItem) × Int × Int) (TChange × Bool)))) fun ⟨j4, j5⟩ => some (.go (j4, j5, IntKind.wrap .i64 (q2 + 1)))) else some (.brk (q0, q1, q2))
def M66 (fuel : Nat) (p0 : TCatalog) (p1 : TAct) : Option (TChange × Bool) :=
 (bstr ([IntKind.wrap .u8 (IntKind.wrap .u64 (97 + ((IntKind.wrap .u64 p1.N).tmod 5)))] : List Int)).bind fun st0 => grd (decide ((ByteArray.mk #[110]).size + st0.size ≤ 9223372036854775807)) <| after (if (decide (0 < (p0.Vols.length : Int))) = true then (grd ((IntKind.wrap .u64 (p0.Vols.length : Int)) != 0) <| some (.brk (IntKind.wrap .i64 ((IntKind.wrap .u64 p1.Vol).tmod (IntKind.wrap .u64 (p0.Vols.length : Int)))))) else some (.brk 0) : Option (Lp (Int) (TChange × Bool))) fun j0 => after (if (((IntKind.wrap .u64 p1.Do).tmod 8) == 0) = true then (some (.brk (((IntKind.wrap .u64 p1.Do).tmod 8) == 0))) else some (.brk (((IntKind.wrap .u64 p1.Do).tmod 8) == 1)) : Option (Lp (Bool) (TChange × Bool))) fun j1 => if j1 = true then ((M106 fuel p1.Tree).bind fun y0 => if (y0.2 != 0) = true then (some (({ Kind := 0, Snap := ({ Seq := 0, Man := ({ Name := ByteArray.empty, Parts := [] } : TManifest), Locs := [] } : TSnap), Chunks := [], Seq := 0, Vol := 0, Items := [] } : TChange), false)) else (M107 fuel ((ByteArray.mk #[110]) ++ st0) y0.1).bind fun y1 => after (loopM (fun s => M66_L1 fuel p0 y1 s.1 s.2) fuel ([], 0)) fun ⟨r0, r1⟩ => some (({ Kind := 1, Snap := ({ Seq := p0.Seq, Man := y1.1, Locs := [] } : TSnap), Chunks := r0, Seq := 0, Vol := 0, Items := [] } : TChange), true)) else after (if (((IntKind.wrap .u64 p1.Do).tmod 8) == 2) = true then (some (.brk (((IntKind.wrap .u64 p1.Do).tmod 8) == 2))) else some (.brk (((IntKind.wrap .u64 p1.Do).tmod 8) == 5)) : Option (Lp (Bool) (TChange × Bool))) fun j2 => if j2 = true then (if ((p0.Snaps.length : Int) == 0) = true then (some (({ Kind := 0, Snap := ({ Seq := 0, Man := ({ Name := ByteArray.empty, Parts := [] } : TManifest), Locs := [] } : TSnap), Chunks := [], Seq := 0, Vol := 0, Items := [] } : TChange), false)) else grd ((IntKind.wrap .u64 (p0.Snaps.length : Int)) != 0) <| (ix p0.Snaps (IntKind.wrap .i64 ((IntKind.wrap .u64 p1.N).tmod (IntKind.wrap .u64 (p0.Snaps.length : Int))))).bind fun x0 => if (((IntKind.wrap .u64 p1.Do).tmod 8) == 2) = true then (some (({ Kind := 2, Snap := ({ Seq := 0, Man := ({ Name := ByteArray.empty, Parts := [] } : TManifest), Locs := [] } : TSnap), Chunks := [], Seq := x0.Seq, Vol := 0, Items := [] } : TChange), true)) else some (({ Kind := 3, Snap := ({ Seq := 0, Man := ({ Name := ByteArray.empty, Parts := [] } : TManifest), Locs := [] } : TSnap), Chunks := [], Seq := 0, Vol := j0, Items := ([({ Kind := 3, Id := idZ, Seq := p0.Seq, Of := x0.Seq, Off := 13, Len := 17 } : TItem)] : List TItem) } : TChange), true)) else after (if (((IntKind.wrap .u64 p1.Do).tmod 8) == 3) = true then (some (.brk (((IntKind.wrap .u64 p1.Do).tmod 8) == 3))) else some (.brk (((IntKind.wrap .u64 p1.Do).tmod 8) == 4)) : Option (Lp (Bool) (TChange × Bool))) fun j3 => if j3 = true then (after (loopM (fun s => M66_L3 fuel p0 p1 s.1 s.2.1 s.2.2) fuel ([], 13, 0)) fun ⟨r2, r3, r4⟩ => some (({ Kind := 3, Snap := ({ Seq := 0, Man := ({ Name := ByteArray.empty, Parts := [] } : TManifest), Locs := [] } : TSnap), Chunks := [], Seq := 0, Vol := j0, Items := r2 } : TChange), decide (0 < (r2.length : Int)))) else if (((IntKind.wrap .u64 p1.Do).tmod 8) == 6) = true then (some (({ Kind := 4, Snap := ({ Seq := 0, Man := ({ Name := ByteArray.empty, Parts := [] } : TManifest), Locs := [] } : TSnap), Chunks := [], Seq := 0, Vol := j0, Items := [] } : TChange), true)) else some (({ Kind := 5, Snap := ({ Seq := 0, Man := ({ Name := ByteArray.empty, Parts := [] } : TManifest), Locs := [] } : TSnap), Chunks := [], Seq := 0, Vol := j0, Items := [] } : TChange), true)
set_option maxHeartbeats 4000000 in
set_option maxRecDepth 100000 in
theorem W66 {fuel : Nat} {p0 : TCatalog} {p1 : TAct} {o : TChange × Bool} (h : Heap) (hm : M66 fuel p0 p1 = some o) :
 ACalls Try.prog 66 [.agg (c_Catalog p0), .agg (c_Act p1)] h (fun r h' => r = .tup [.agg (c_Change o.1), .sc (.bool o.2)] ∧ h' = h) := by
 refine ACalls_hp 248 [.cell 4 107, .tmp 5] Try.func66 rfl rfl rfl rfl ?_
 unfold M66 at hm
 refine Zf fun K1 H1 => (Za ?_)
 refine s_op (a_box (HOk.nil _) rfl rfl fun k2 hk3 => ?_)
 refine s_op (a_box hk3 rfl rfl fun k5 hk6 => ?_)
 refine s_op (a_alloc ([.sc (.int .i64 0), .sc (.int .i64 0), .sc (.string ByteArray.empty), .sc (.slice none 0 0), .sc (.slice none 0 0), .sc (.slice none 0 0), .sc (.int .i64 0), .sc (.int .i64 0), .sc (.slice none 0 0)]) hk6 zr107 rfl rfl fun k8 hk9 => ?_)
 refine vD rfl (Zb (H1 _ _ (Zf fun K0 H2 => (Za (s_v (Zh fd103_1 rfl rfl) (s_v (Zg (.sc (.int .i64 p1.N)) ld3 rfl (Zd 1 hk9 rfl) rfl) (s_v (o_cv ti3 ti46 rfl) (s_v (o_bi rfl rfl rfl (by decide)) (vF rfl rfl rfl (s_v (o_cv ti46 ti5 rfl) (s_v (o_lit (List.map c_u8 ([IntKind.wrap .u8 (IntKind.wrap .u64 (97 + ((IntKind.wrap .u64 p1.N).tmod 5)))] : List Int)) et52 rfl rfl rfl rfl) ?_)))))))))))
 obtain ⟨st0, hs0, hm⟩ := Zc hm
 refine s_v (o_bstr (c := c_u8) hs0 (fun _ => rfl) u52 u5 u9 rfl) ?_
 obtain ⟨hz0, hm⟩ := grd_of hm
 refine s_v (o_bs rfl rfl rfl (of_decide_eq_true hz0)) (s_v (o_as (.sc (.string _)) rfl) (Zb (H2 _ _ (Zf fun K2 H3 => (Za (vC rfl (Zb (H3 _ _ (Zf fun K3 H4 => (Zf fun K4 H5 => (Za (s_v (Zh fd27_4 rfl rfl) (s_v (Zg (.sl none 4 (List.map c_Vol p0.Vols)) ld25 rfl (Zd 2 hk9 rfl) rfl) (s_v (o_lenm ln25 rfl) (vF rfl rfl rfl ?_)))))))))))))))
 refine Zb (H5 _ _ ?_)
 refine AW_joinH (n := 248) (h := h) hm (σ := Int) (τ := Unit) (fun g s => [(some k8, .obj 107 ([.sc (.int .i64 0), .sc (.int .i64 0), .sc (.string ByteArray.empty), .sc (.slice none 0 0), .sc (.slice none 0 0), .sc (.slice none 0 0), .sc (.int .i64 0), .sc (.int .i64 0), .sc (.slice none 0 0)])), (some k5, .obj 103 (c_Act p1)), (some k2, .obj 27 (c_Catalog p0))]) (fun g s => kp (kp (kp (kp (kp (k0) 7 (.sc (.int .i64 s))) 6 (.sc (.string ((ByteArray.mk #[110]) ++ st0)))) 4 (.ptr k8 0)) 3 (.ptr k5 0)) 2 (.ptr k2 0)) (fun x hm => ?_) ?_
 refine AW_if' rfl (fun hc0 => ?_) (fun hc0 => ?_)
 have hm := Zi hm hc0
 refine Za (s_v (Zh fd103_2 rfl rfl) (s_v (Zg (.sc (.int .i64 p1.Vol)) ld3 rfl (Zd 1 hk9 rfl) rfl) (s_v (o_cv ti3 ti46 rfl) (s_v (Zh fd27_4 rfl rfl) (s_v (Zg (.sl none 4 (List.map c_Vol p0.Vols)) ld25 rfl (Zd 2 hk9 rfl) rfl) (s_v (o_lenm ln25 rfl) (s_v (o_cv ti3 ti46 rfl) ?_)))))))
 obtain ⟨hz1, hm⟩ := grd_of hm
 refine s_v (o_bi rfl rfl rfl (bne_z hz1)) (s_v (o_cv ti46 ti3 rfl) (vC rfl (Zb ?_)))
 cases hm
 exact ⟨rfl, (), hk9, LeF.s (.k5 .nil)⟩
 have hm := Zj hm hc0
 refine Zl ?_
 cases hm
 exact ⟨rfl, (), hk9, LeF.s (.k5 .nil)⟩
 rintro _ j0 fr' h' hk0 hm le
 refine H4 _ _ (le.aw ?_)
 refine Zf fun K5 H6 => (Zf fun K6 H7 => (Za (s_v (Zh fd103_0 rfl rfl) (s_v (Zg (.sc (.int .i64 p1.Do)) ld3 rfl (Zd 1 hk0 rfl) rfl) (s_v (o_cv ti3 ti46 rfl) (s_v (o_bi rfl rfl rfl (by decide)) (Zb (H7 _ _ (AW_block (Zf fun K7 H8 => (Zf fun K8 H9 => (Za (vF rfl rfl rfl (vD rfl (Zb ?_)))))))))))))))
 refine H9 _ _ ?_
 refine AW_joinH (n := 248) (h := h) hm (σ := Bool) (τ := Unit) (fun g s => [(some k8, .obj 107 ([.sc (.int .i64 0), .sc (.int .i64 0), .sc (.string ByteArray.empty), .sc (.slice none 0 0), .sc (.slice none 0 0), .sc (.slice none 0 0), .sc (.int .i64 0), .sc (.int .i64 0), .sc (.slice none 0 0)])), (some k5, .obj 103 (c_Act p1)), (some k2, .obj 27 (c_Catalog p0))]) (fun g s => kp (kp (kp (kp (kp (kp (kp (k0) 48 (.sc (.bool s))) 47 (.sc (.int .u64 ((IntKind.wrap .u64 p1.Do).tmod 8)))) 7 (.sc (.int .i64 j0))) 6 (.sc (.string ((ByteArray.mk #[110]) ++ st0)))) 4 (.ptr k8 0)) 3 (.ptr k5 0)) 2 (.ptr k2 0)) (fun x hm => ?_) ?_
 refine AW_if' rfl (fun hc1 => ?_) (fun hc1 => ?_)
 have hm := Zi hm hc1
 refine Zl ?_
 cases hm
 exact ⟨rfl, (), hk0, LeF.s (.k7 .nil)⟩
 have hm := Zj hm hc1
 refine Za (vF rfl rfl rfl (vD rfl (Zb ?_)))
 cases hm
 exact ⟨rfl, (), hk0, LeF.s (.k7 .nil)⟩
 rintro _ j1 fr' h' hk1 hm le
 refine H8 _ _ (le.aw ?_)
 refine AW_if' rfl (fun hc2 => ?_) (fun hc2 => ?_)
 have hm := Zi hm hc2
 refine Zf fun K9 H33 => (Za (s_v (Zh fd103_3 rfl rfl) (s_v (Zg (.sl none 2 (List.map c_File p1.Tree)) ld100 rfl (Zd 1 hk1 rfl) rfl) ?_)))
 obtain ⟨y0, hy0, hm⟩ := Zc hm
 refine s_v (o_call (W106 _ hy0) rfl bd106 rfl) (s_v (o_mv (.tup _) rfl) (s_v (o_ex (.sl _ _ _) rfl rfl) (s_v (o_ex (.sc (.int _ _)) rfl rfl) (s_v (o_as (.sl _ _ _) rfl) (vC rfl (Zb (H33 _ _ (Zf fun K36 H36 => (Zf fun K37 H37 => (Za (vA rfl (vF rfl rfl rfl (Zb (H37 _ _ ?_))))))))))))))
 refine AW_if' rfl (fun hc3 => ?_) (fun hc3 => ?_)
 have hm := Zi hm hc3
 refine Zf fun K39 H39 => (Za (s_v (o_bld ([.sc (.int .i64 0), .sc (.int .i64 0), .sc (.string ByteArray.empty), .sc (.slice none 0 0), .sc (.slice none 0 0), .sc (.slice none 0 0), .sc (.int .i64 0), .sc (.int .i64 0), .sc (.slice none 0 0)]) bt107 rfl) ?_))
 refine s_op (a_store 0 ([.sc (.int .i64 0), .sc (.int .i64 0), .sc (.string ByteArray.empty), .sc (.slice none 0 0), .sc (.slice none 0 0), .sc (.slice none 0 0), .sc (.int .i64 0), .sc (.int .i64 0), .sc (.slice none 0 0)]) hk1 rfl rfl rfl rfl sz107 rfl rfl fun hk2 => ?_)
 refine vD rfl (Zb (H39 _ _ (AW_ret ?_)))
 have hmo := Option.some.inj hm; subst hmo
 exact Ret.of2 (.inl rfl) (rsC (.agg ([.sc (.int .i64 0), .sc (.int .i64 0), .sc (.string ByteArray.empty), .sc (.slice none 0 0), .sc (.slice none 0 0), .sc (.slice none 0 0), .sc (.int .i64 0), .sc (.int .i64 0), .sc (.slice none 0 0)])) ld107 rfl (Zd 0 hk2 rfl) rfl) (rsT _ _ (.sc (.bool _)) rfl) (hp_sub (List.nil_sublist _) hk2).1 (ALe.agg (.k3 (.cons (nil_lem _) (.cons (nil_lem _) (.cons (nil_lem _) (.k2 (.cons (nil_lem _) .nil))))))) (ALe.refl _ _) ⟨rfl, rfl⟩
 have hm := Zj hm hc3
 refine Zl (H36 _ _ (Zf fun K41 H41 => (Za (s_v (o_mv (.sc (.string _)) rfl) (vE rfl ?_)))))
 obtain ⟨y1, hy1, hm⟩ := Zc hm
 refine s_v (o_call (W107 _ hy1) rfl bd107 rfl) (s_v (o_mv (.tup _) rfl) (s_v (o_ex (.agg _) rfl rfl) (s_v (o_ex (.sl _ _ _) rfl rfl) (s_v (o_ex (.sc (.int _ _)) rfl rfl) ?_))))
 refine s_op (a_alloc ([.sc (.string ByteArray.empty), .sc (.slice none 0 0)]) hk1 zr57 rfl rfl fun k44 hk4 => ?_)
 refine s_op (a_store 0 (c_Manifest y1.1) hk4 rfl rfl rfl rfl sz57 rfl rfl fun hk5 => ?_)
 refine s_v (o_as (.sl _ _ _) rfl) (vC rfl (Zb (H41 _ _ (Zf fun K48 H48 => (Za (s_v (Zh fd27_0 rfl rfl) (s_v (Zg (.sc (.int .i64 p0.Seq)) ld3 rfl (Zd 3 hk5 rfl) rfl) (s_v (Zg (.agg (c_Manifest y1.1)) ld57 rfl (Zd 0 hk5 rfl) rfl) (s_v (o_bld (([.sc (.int .i64 p0.Seq)] : List AV) ++ c_Manifest y1.1 ++ ([.sc (.slice none 0 0)] : List AV)) bt60 rfl) (s_v (o_bld (([.sc (.int .i64 1), .sc (.int .i64 p0.Seq)] : List AV) ++ c_Manifest y1.1 ++ ([.sc (.slice none 0 0), .sc (.slice none 0 0), .sc (.int .i64 0), .sc (.int .i64 0), .sc (.slice none 0 0)] : List AV)) bt107 rfl) ?_))))))))))
 refine s_op (a_alloc ([.sc (.int .i64 0), .sc (.int .i64 0), .sc (.string ByteArray.empty), .sc (.slice none 0 0), .sc (.slice none 0 0), .sc (.slice none 0 0), .sc (.int .i64 0), .sc (.int .i64 0), .sc (.slice none 0 0)]) hk5 zr107 rfl rfl fun k49 hk7 => ?_)
 refine s_op (a_store 0 (([.sc (.int .i64 1), .sc (.int .i64 p0.Seq)] : List AV) ++ c_Manifest y1.1 ++ ([.sc (.slice none 0 0), .sc (.slice none 0 0), .sc (.int .i64 0), .sc (.int .i64 0), .sc (.slice none 0 0)] : List AV)) hk7 rfl rfl rfl rfl sz107 rfl rfl fun hk8 => ?_)
 refine Zb (H48 _ _ (Zf fun K53 H53 => (Zf fun K54 H54 => (Za (vC rfl (Zb (H54 _ _ ?_)))))))
 obtain ⟨hk10, le0⟩ := LeF.obj (L := (none, .tok 63 35 (([] : List TChunk).length * 35)) :: _) (n := 248) (f := _) 1 (([.sc (.int .i64 1), .sc (.int .i64 p0.Seq)] : List AV) ++ c_Manifest y1.1 ++ ([.sc (.slice none 0 0), ow none 35 (List.map c_Chunk []), .sc (.int .i64 0), .sc (.int .i64 0), .sc (.slice none 0 0)] : List AV)) (HOk.none hk8) rfl (.k2 (ALeL.app 2 rfl (.cons (ALe.refl _ _) (.cons (ow_nil (c := c_Chunk) _ 35) (.k3 .nil)))))
 refine le0.aw ?_
 refine AW_loopL (n := 248) (h := h) hm (σ := (List TChunk) × Int) (τ := Option Key) (fun g s => [(g, .tok 63 35 ((s.1 : List TChunk).length * 35)), (some k49, .obj 107 (([.sc (.int .i64 1), .sc (.int .i64 p0.Seq)] : List AV) ++ c_Manifest y1.1 ++ ([.sc (.slice none 0 0), ow g 35 (List.map c_Chunk s.1), .sc (.int .i64 0), .sc (.int .i64 0), .sc (.slice none 0 0)] : List AV))), (some k44, .obj 57 (c_Manifest y1.1)), (some k8, .obj 107 ([.sc (.int .i64 0), .sc (.int .i64 0), .sc (.string ByteArray.empty), .sc (.slice none 0 0), .sc (.slice none 0 0), .sc (.slice none 0 0), .sc (.int .i64 0), .sc (.int .i64 0), .sc (.slice none 0 0)])), (some k5, .obj 103 (c_Act p1)), (some k2, .obj 27 (c_Catalog p0))]) (fun g s => (g = none → s.1 = [])) (fun g s => kp (kp (kp (kp (kp (k0) 14 (.sc (.int .i64 s.2))) 13 (.ptr k49 0)) 11 (.sl none 1 (List.map c_s_u8 y1.2.1))) 4 (.ptr k8 0)) 2 (.ptr k2 0)) none (⟨hk10, (fun _ => rfl)⟩) (LeF.s (.k5 .nil)) ?_ ?_
 rintro tg0 ⟨q0, q1⟩ x ⟨hk11, ot0⟩ hm
 replace hm : M66_L1 fuel p0 y1 q0 q1 = some x := hm
 unfold M66_L1 at hm
 refine Zf fun K10 H10 => (Zf fun K12 H12 => (Za (vA rfl (vE rfl (s_v (o_lenm ln145 rfl) (vF rfl rfl rfl (Zb (H12 _ _ ?_))))))))
 refine AW_if' rfl (fun hc4 => ?_) (fun hc4 => ?_)
 have hm := Zi hm hc4
 refine Zl (H10 _ _ (Zf fun K13 H13 => (AW_block (Zf fun K14 H14 => (Za (vE rfl (vA rfl ?_)))))))
 obtain ⟨x0, hx0, hm⟩ := Zc hm
 refine s_v (o_ix hx0 el145 rfl rfl) (s_v (o_ld (.sl none 1 (List.map c_u8 x0)) ld52 rfl rfl) ?_)
 obtain ⟨y2, hy2, hm⟩ := Zc hm
 refine s_v (o_call (W108 _ hy2) rfl bd108 rfl) ?_
 refine s_op (a_alloc (c_id idZ) hk11 zr61 rfl rfl fun k258 hk12 => ?_)
 refine s_op (a_store 0 (c_id y2) hk12 rfl rfl rfl rfl sz61 rfl rfl fun hk13 => ?_)
 refine Zb (H14 _ _ (Zf fun K18 H18 => (Za (s_v (Zg (.agg (c_Catalog p0)) ld27 rfl (Zd 6 hk13 rfl) rfl) (s_v (Zg (.agg (c_id y2)) ld61 rfl (Zd 0 hk13 rfl) rfl) ?_)))))
 obtain ⟨y3, hy3, hm⟩ := Zc hm
 refine s_v (o_call (W64 _ hy3) rfl bd64 rfl) (vF rfl rfl rfl (Zb (H18 _ _ ?_)))
 refine AW_joinL (n := 248) (h := h) hm (σ := (List TChunk)) (τ := Option Key) (fun g s => [(some k258, .obj 61 (c_id y2)), (g, .tok 63 35 ((s : List TChunk).length * 35)), (some k49, .obj 107 (([.sc (.int .i64 1), .sc (.int .i64 p0.Seq)] : List AV) ++ c_Manifest y1.1 ++ ([.sc (.slice none 0 0), ow g 35 (List.map c_Chunk s), .sc (.int .i64 0), .sc (.int .i64 0), .sc (.slice none 0 0)] : List AV))), (some k44, .obj 57 (c_Manifest y1.1)), (some k8, .obj 107 ([.sc (.int .i64 0), .sc (.int .i64 0), .sc (.string ByteArray.empty), .sc (.slice none 0 0), .sc (.slice none 0 0), .sc (.slice none 0 0), .sc (.int .i64 0), .sc (.int .i64 0), .sc (.slice none 0 0)])), (some k5, .obj 103 (c_Act p1)), (some k2, .obj 27 (c_Catalog p0))]) (fun g s => (g = none → s = [])) (fun g s => kp (kp (kp (kp (kp (k0) 14 (.sc (.int .i64 q1))) 13 (.ptr k49 0)) 11 (.sl none 1 (List.map c_s_u8 y1.2.1))) 4 (.ptr k8 0)) 2 (.ptr k2 0)) (fun x hm => ?_) ?_
 refine AW_if' rfl (fun hc5 => ?_) (fun hc5 => ?_)
 have hm := Zi hm hc5
 refine AW_zreg [(11, some k49, .obj 107 (([.sc (.int .i64 1), .sc (.int .i64 p0.Seq)] : List AV) ++ c_Manifest y1.1 ++ ([.sc (.slice none 0 0), ow tg0 35 (List.map c_Chunk q0), .sc (.int .i64 0), .sc (.int .i64 0), .sc (.slice none 0 0)] : List AV))), (1000000, some k258, .obj 61 (c_id y2))] mixed (⟨fun _ => hp_at 2 hk13 rfl, fun _ => hp_at 0 hk13 rfl, trivial⟩) ?_
 refine z_w 0 rfl (fun S' h' hi hB => Zh fd107_2 rfl rfl) ?_
 refine z_w 1 rfl (fun S' h' hi hB => Zg (ow tg0 35 (List.map c_Chunk q0)) ld23 rfl (At.s (InvL.get 0 hi rfl (hB 11 (by kernel_rfl)))) rfl) ?_
 refine z_w 2 rfl (fun S' h' hi hB => Zg (.agg (c_id y2)) ld61 rfl (At.s (InvL.get 1 hi rfl (hB 1000000 (by kernel_rfl)))) rfl) ?_
 refine z_w 3 rfl (fun S' h' hi hB => o_mv (.sl _ _ _) rfl) ?_
 refine z_w 4 rfl (fun S' h' hi hB => o_mv (.sc (.int _ _)) rfl) ?_
 obtain ⟨x1, hx1, hm⟩ := Zc hm
 refine z_w 5 rfl (fun S' h' hi hB => o_ix hx1 el145 rfl rfl) ?_
 refine z_w 6 rfl (fun S' h' hi hB => o_ld (.sl none 1 (List.map c_u8 x1)) ld52 rfl rfl) ?_
 refine z_w 7 rfl (fun S' h' hi hB => o_weak (y := .agg (c_Chunk ({ Id := y2, Staged := true, Data := x1, Locs := [] } : TChunk))) (o_bld (c_id y2 ++ ([.sc (.bool true), .sl none 1 (List.map c_u8 x1), .sc (.slice none 0 0)] : List AV)) bt63 rfl) (ALe.agg (ALeL.app 32 rfl (.k2 (.cons (nil_lem _) .nil))))) ?_
 refine z_w 8 rfl (fun S' h' hi hB => o_lit (List.map c_Chunk ([({ Id := y2, Staged := true, Data := x1, Locs := [] } : TChunk)] : List TChunk)) et23 rfl rfl rfl rfl) ?_
 obtain ⟨z0, hz2, hm⟩ := Zc hm
 refine z_e 9 rfl (by kernel_rfl) (a_app (c := c_Chunk) 1 hz2 et23 rfl rfl rfl ot0 hk13 rfl fun tg1 ot1 hk14 => ⟨⟨fun _ => hp_at 2 hk14 rfl, fun _ => hp_at 0 hk14 rfl, trivial⟩, ?_⟩)
 refine z_w 10 rfl (fun S' h' hi hB => Zh fd107_2 rfl rfl) ?_
 refine z_e 11 rfl (by kernel_rfl) (a_store 2 (([.sc (.int .i64 1), .sc (.int .i64 p0.Seq)] : List AV) ++ c_Manifest y1.1 ++ ([.sc (.slice none 0 0), ow tg1 35 (List.map c_Chunk z0), .sc (.int .i64 0), .sc (.int .i64 0), .sc (.slice none 0 0)] : List AV)) hk14 rfl rfl (cellsOf_ow rfl) (all_ow _ _ _) sz23 rfl rfl fun hk15 => ⟨⟨fun e => absurd e (by decide), fun _ => hp_at 0 hk15 rfl, trivial⟩, ?_⟩)
 refine z_nil (by kernel_rfl) ?_
 cases hm
 exact ⟨rfl, tg1, ⟨hk15, ot1⟩, LeF.s (.k5 .nil)⟩
 have hm := Zj hm hc5
 refine Zl ?_
 cases hm
 exact ⟨rfl, tg0, ⟨hk13, ot0⟩, LeF.s (.k5 .nil)⟩
 rintro tg2 j2 fr' h' ⟨hk16, ot2⟩ hm le
 refine H13 _ _ (le.aw ?_)
 refine Za (vA rfl (vF rfl rfl rfl (vC rfl (Zb ?_))))
 cases hm
 exact ⟨rfl, tg2, ⟨(hp_sub (.cons _ (.refl _)) hk16).2, ot2⟩, LeF.fm ((hp_sub (.cons _ (.refl _)) hk16).1) (.k5 .nil)⟩
 have hm := Zj hm hc4
 refine AW_exit ?_
 refine Seq_exit ?_
 cases hm
 exact ⟨rfl, tg0, ⟨hk11, ot0⟩, LeF.s (.k5 .nil)⟩
 rintro tg3 ⟨r0, r1⟩ fr' h' ⟨hk17, ot3⟩ hm le
 refine H53 _ _ (le.aw ?_)
 refine Zf fun K19 H19 => (Za (s_v (Zg (.agg (([.sc (.int .i64 1), .sc (.int .i64 p0.Seq)] : List AV) ++ c_Manifest y1.1 ++ ([.sc (.slice none 0 0), ow tg3 35 (List.map c_Chunk r0), .sc (.int .i64 0), .sc (.int .i64 0), .sc (.slice none 0 0)] : List AV))) ld107 rfl (Zd 1 hk17 rfl) rfl) ?_))
 refine s_op (a_store 3 (([.sc (.int .i64 1), .sc (.int .i64 p0.Seq)] : List AV) ++ c_Manifest y1.1 ++ ([.sc (.slice none 0 0), ow tg3 35 (List.map c_Chunk r0), .sc (.int .i64 0), .sc (.int .i64 0), .sc (.slice none 0 0)] : List AV)) hk17 rfl rfl rfl (by repeat (first | exact rfl | refine all_c (ocell_ow _ _ _) ?_ | refine all_c (ocell_aw _ _ _) ?_ | refine all_c rfl ?_)) sz107 rfl rfl fun hk18 => ?_)
 refine vD rfl (Zb (H19 _ _ (AW_ret ?_)))
 have hmo := Option.some.inj hm; subst hmo
 exact Ret.of2 (.inl rfl) (rsC (.agg (([.sc (.int .i64 1), .sc (.int .i64 p0.Seq)] : List AV) ++ c_Manifest y1.1 ++ ([.sc (.slice none 0 0), ow tg3 35 (List.map c_Chunk r0), .sc (.int .i64 0), .sc (.int .i64 0), .sc (.slice none 0 0)] : List AV))) ld107 rfl (Zd 3 hk18 rfl) rfl) (rsT _ _ (.sc (.bool _)) rfl) (hp_sub (List.nil_sublist _) hk18).1 (ALe.agg (.k2 (ALeL.app 2 rfl (.cons (nil_lem _) (.cons ((own_frz0 _ 0 ot3 hk18 rfl)) (.k2 (.cons (nil_lem _) .nil))))))) (ALe.refl _ _) ⟨rfl, rfl⟩
 have hm := Zj hm hc2
 refine Zf fun K20 H20 => (Zf fun K21 H21 => (Za (vF rfl rfl rfl (vD rfl (Zb (H21 _ _ ?_))))))
 refine AW_joinH (n := 248) (h := h) hm (σ := Bool) (τ := Unit) (fun g s => [(some k8, .obj 107 ([.sc (.int .i64 0), .sc (.int .i64 0), .sc (.string ByteArray.empty), .sc (.slice none 0 0), .sc (.slice none 0 0), .sc (.slice none 0 0), .sc (.int .i64 0), .sc (.int .i64 0), .sc (.slice none 0 0)])), (some k5, .obj 103 (c_Act p1)), (some k2, .obj 27 (c_Catalog p0))]) (fun g s => kp (kp (kp (kp (kp (kp (k0) 99 (.sc (.bool s))) 47 (.sc (.int .u64 ((IntKind.wrap .u64 p1.Do).tmod 8)))) 7 (.sc (.int .i64 j0))) 4 (.ptr k8 0)) 3 (.ptr k5 0)) 2 (.ptr k2 0)) (fun x hm => ?_) ?_
 refine AW_if' rfl (fun hc6 => ?_) (fun hc6 => ?_)
 have hm := Zi hm hc6
 refine Zl ?_
 cases hm
 exact ⟨rfl, (), hk1, LeF.s (.k6 .nil)⟩
 have hm := Zj hm hc6
 refine Za (vF rfl rfl rfl (vD rfl (Zb ?_)))
 cases hm
 exact ⟨rfl, (), hk1, LeF.s (.k6 .nil)⟩
 rintro _ j3 fr' h' hk19 hm le
 refine H20 _ _ (le.aw ?_)
 refine AW_if' rfl (fun hc7 => ?_) (fun hc7 => ?_)
 have hm := Zi hm hc7
 refine Zf fun K22 H22 => (Zf fun K23 H23 => (Za (s_v (Zh fd27_1 rfl rfl) (s_v (Zg (.sl none 4 (List.map c_Snap p0.Snaps)) ld22 rfl (Zd 2 hk19 rfl) rfl) (s_v (o_lenm ln22 rfl) (vF rfl rfl rfl (Zb (H23 _ _ ?_))))))))
 refine AW_if' rfl (fun hc8 => ?_) (fun hc8 => ?_)
 have hm := Zi hm hc8
 refine Zf fun K28 H28 => (Za (s_v (o_bld ([.sc (.int .i64 0), .sc (.int .i64 0), .sc (.string ByteArray.empty), .sc (.slice none 0 0), .sc (.slice none 0 0), .sc (.slice none 0 0), .sc (.int .i64 0), .sc (.int .i64 0), .sc (.slice none 0 0)]) bt107 rfl) ?_))
 refine s_op (a_store 0 ([.sc (.int .i64 0), .sc (.int .i64 0), .sc (.string ByteArray.empty), .sc (.slice none 0 0), .sc (.slice none 0 0), .sc (.slice none 0 0), .sc (.int .i64 0), .sc (.int .i64 0), .sc (.slice none 0 0)]) hk19 rfl rfl rfl rfl sz107 rfl rfl fun hk20 => ?_)
 refine vD rfl (Zb (H28 _ _ (AW_ret ?_)))
 have hmo := Option.some.inj hm; subst hmo
 exact Ret.of2 (.inl rfl) (rsC (.agg ([.sc (.int .i64 0), .sc (.int .i64 0), .sc (.string ByteArray.empty), .sc (.slice none 0 0), .sc (.slice none 0 0), .sc (.slice none 0 0), .sc (.int .i64 0), .sc (.int .i64 0), .sc (.slice none 0 0)])) ld107 rfl (Zd 0 hk20 rfl) rfl) (rsT _ _ (.sc (.bool _)) rfl) (hp_sub (List.nil_sublist _) hk20).1 (ALe.agg (.k3 (.cons (nil_lem _) (.cons (nil_lem _) (.cons (nil_lem _) (.k2 (.cons (nil_lem _) .nil))))))) (ALe.refl _ _) ⟨rfl, rfl⟩
 have hm := Zj hm hc8
 refine Zl (H22 _ _ (Zf fun K29 H29 => ?_))
 refine AW_zreg [(1000000, some k2, .obj 27 (c_Catalog p0)), (1000000, some k5, .obj 103 (c_Act p1))] mixed (⟨fun _ => hp_at 2 hk19 rfl, fun _ => hp_at 1 hk19 rfl, trivial⟩) ?_
 refine z_w 0 rfl (fun S' h' hi hB => Zh fd27_1 rfl rfl) ?_
 refine z_w 1 rfl (fun S' h' hi hB => Zg (.sl none 4 (List.map c_Snap p0.Snaps)) ld22 rfl (At.s (InvL.get 0 hi rfl (hB 1000000 (by kernel_rfl)))) rfl) ?_
 refine z_w 2 rfl (fun S' h' hi hB => Zh fd103_1 rfl rfl) ?_
 refine z_w 3 rfl (fun S' h' hi hB => Zg (.sc (.int .i64 p1.N)) ld3 rfl (At.s (InvL.get 1 hi rfl (hB 1000000 (by kernel_rfl)))) rfl) ?_
 refine z_w 4 rfl (fun S' h' hi hB => o_cv ti3 ti46 rfl) ?_
 refine z_w 5 rfl (fun S' h' hi hB => Zh fd27_1 rfl rfl) ?_
 refine z_w 6 rfl (fun S' h' hi hB => Zg (.sl none 4 (List.map c_Snap p0.Snaps)) ld22 rfl (At.s (InvL.get 0 hi rfl (hB 1000000 (by kernel_rfl)))) rfl) ?_
 refine z_w 7 rfl (fun S' h' hi hB => o_lenm ln22 rfl) ?_
 refine z_w 8 rfl (fun S' h' hi hB => o_cv ti3 ti46 rfl) ?_
 obtain ⟨hz3, hm⟩ := grd_of hm
 refine z_w 9 rfl (fun S' h' hi hB => o_bi rfl rfl rfl (bne_z hz3)) ?_
 refine z_w 10 rfl (fun S' h' hi hB => o_cv ti46 ti3 rfl) ?_
 obtain ⟨x2, hx2, hm⟩ := Zc hm
 refine z_w 11 rfl (fun S' h' hi hB => o_ix hx2 el22 rfl rfl) ?_
 refine z_w 12 rfl (fun S' h' hi hB => o_ld (.agg (c_Snap x2)) ld60 rfl rfl) ?_
 refine z_e 13 rfl (by kernel_rfl) (a_alloc ([.sc (.int .i64 0), .sc (.string ByteArray.empty), .sc (.slice none 0 0), .sc (.slice none 0 0)]) hk19 zr60 rfl rfl fun k333 hk21 => ⟨⟨fun _ => hp_at 3 hk21 rfl, fun _ => hp_at 2 hk21 rfl, trivial⟩, ?_⟩)
 refine z_e 14 rfl (by kernel_rfl) (a_store 0 (c_Snap x2) hk21 rfl rfl rfl rfl sz60 rfl rfl fun hk22 => ⟨⟨fun _ => hp_at 3 hk22 rfl, fun _ => hp_at 2 hk22 rfl, trivial⟩, ?_⟩)
 refine z_nil (by kernel_rfl) ?_
 refine H29 _ _ (Zf fun K30 H30 => (Zf fun K31 H31 => (Za (s_v (Zh fd103_0 rfl rfl) (s_v (Zg (.sc (.int .i64 p1.Do)) ld3 rfl (Zd 2 hk22 rfl) rfl) (s_v (o_cv ti3 ti46 rfl) (s_v (o_bi rfl rfl rfl (by decide)) (vF rfl rfl rfl (Zb (H31 _ _ ?_))))))))))
 refine AW_if' rfl (fun hc9 => ?_) (fun hc9 => ?_)
 have hm := Zi hm hc9
 refine Zf fun K32 H32 => (Za (s_v (Zh fd60_0 rfl rfl) (s_v (Zg (.sc (.int .i64 x2.Seq)) ld3 rfl (Zd 0 hk22 rfl) rfl) (s_v (o_bld ([.sc (.int .i64 2), .sc (.int .i64 0), .sc (.string ByteArray.empty), .sc (.slice none 0 0), .sc (.slice none 0 0), .sc (.slice none 0 0), .sc (.int .i64 x2.Seq), .sc (.int .i64 0), .sc (.slice none 0 0)]) bt107 rfl) ?_))))
 refine s_op (a_store 1 ([.sc (.int .i64 2), .sc (.int .i64 0), .sc (.string ByteArray.empty), .sc (.slice none 0 0), .sc (.slice none 0 0), .sc (.slice none 0 0), .sc (.int .i64 x2.Seq), .sc (.int .i64 0), .sc (.slice none 0 0)]) hk22 rfl rfl rfl rfl sz107 rfl rfl fun hk24 => ?_)
 refine vD rfl (Zb (H32 _ _ (AW_ret ?_)))
 have hmo := Option.some.inj hm; subst hmo
 exact Ret.of2 (.inl rfl) (rsC (.agg ([.sc (.int .i64 2), .sc (.int .i64 0), .sc (.string ByteArray.empty), .sc (.slice none 0 0), .sc (.slice none 0 0), .sc (.slice none 0 0), .sc (.int .i64 x2.Seq), .sc (.int .i64 0), .sc (.slice none 0 0)])) ld107 rfl (Zd 1 hk24 rfl) rfl) (rsT _ _ (.sc (.bool _)) rfl) (hp_sub (List.nil_sublist _) hk24).1 (ALe.agg (.k3 (.cons (nil_lem _) (.cons (nil_lem _) (.cons (nil_lem _) (.k2 (.cons (nil_lem _) .nil))))))) (ALe.refl _ _) ⟨rfl, rfl⟩
 have hm := Zj hm hc9
 refine Zl (H30 _ _ (Zf fun K34 H34 => (Za (vA rfl (s_v (Zh fd27_0 rfl rfl) (s_v (Zg (.sc (.int .i64 p0.Seq)) ld3 rfl (Zd 3 hk22 rfl) rfl) (s_v (Zh fd60_0 rfl rfl) (s_v (Zg (.sc (.int .i64 x2.Seq)) ld3 rfl (Zd 0 hk22 rfl) rfl) (s_v (o_bld (c_Item ({ Kind := 3, Id := idZ, Seq := p0.Seq, Of := x2.Seq, Off := 13, Len := 17 } : TItem)) bt99 rfl) (s_v (o_lit (List.map c_Item ([({ Kind := 3, Id := idZ, Seq := p0.Seq, Of := x2.Seq, Off := 13, Len := 17 } : TItem)] : List TItem)) et70 rfl rfl rfl rfl) (s_v (o_bld ([.sc (.int .i64 3), .sc (.int .i64 0), .sc (.string ByteArray.empty), .sc (.slice none 0 0), .sc (.slice none 0 0), .sc (.slice none 0 0), .sc (.int .i64 0), .sc (.int .i64 j0), .sl none 37 (List.map c_Item ([({ Kind := 3, Id := idZ, Seq := p0.Seq, Of := x2.Seq, Off := 13, Len := 17 } : TItem)] : List TItem))]) bt107 rfl) ?_)))))))))))
 refine s_op (a_store 1 ([.sc (.int .i64 3), .sc (.int .i64 0), .sc (.string ByteArray.empty), .sc (.slice none 0 0), .sc (.slice none 0 0), .sc (.slice none 0 0), .sc (.int .i64 0), .sc (.int .i64 j0), .sl none 37 (List.map c_Item ([({ Kind := 3, Id := idZ, Seq := p0.Seq, Of := x2.Seq, Off := 13, Len := 17 } : TItem)] : List TItem))]) hk22 rfl rfl rfl rfl sz107 rfl rfl fun hk25 => ?_)
 refine vD rfl (Zb (H34 _ _ (AW_ret ?_)))
 have hmo := Option.some.inj hm; subst hmo
 exact Ret.of2 (.inl rfl) (rsC (.agg ([.sc (.int .i64 3), .sc (.int .i64 0), .sc (.string ByteArray.empty), .sc (.slice none 0 0), .sc (.slice none 0 0), .sc (.slice none 0 0), .sc (.int .i64 0), .sc (.int .i64 j0), .sl none 37 (List.map c_Item ([({ Kind := 3, Id := idZ, Seq := p0.Seq, Of := x2.Seq, Off := 13, Len := 17 } : TItem)] : List TItem))])) ld107 rfl (Zd 1 hk25 rfl) rfl) (rsT _ _ (.sc (.bool _)) rfl) (hp_sub (List.nil_sublist _) hk25).1 (ALe.agg (.k3 (.cons (nil_lem _) (.cons (nil_lem _) (.cons (nil_lem _) (.k3 .nil)))))) (ALe.refl _ _) ⟨rfl, rfl⟩
 have hm := Zj hm hc7
 refine Zf fun K35 H35 => (Zf fun K38 H38 => (Za (vF rfl rfl rfl (vD rfl (Zb (H38 _ _ ?_))))))
 refine AW_joinH (n := 248) (h := h) hm (σ := Bool) (τ := Unit) (fun g s => [(some k8, .obj 107 ([.sc (.int .i64 0), .sc (.int .i64 0), .sc (.string ByteArray.empty), .sc (.slice none 0 0), .sc (.slice none 0 0), .sc (.slice none 0 0), .sc (.int .i64 0), .sc (.int .i64 0), .sc (.slice none 0 0)])), (some k5, .obj 103 (c_Act p1)), (some k2, .obj 27 (c_Catalog p0))]) (fun g s => kp (kp (kp (kp (kp (kp (k0) 136 (.sc (.bool s))) 47 (.sc (.int .u64 ((IntKind.wrap .u64 p1.Do).tmod 8)))) 7 (.sc (.int .i64 j0))) 4 (.ptr k8 0)) 3 (.ptr k5 0)) 2 (.ptr k2 0)) (fun x hm => ?_) ?_
 refine AW_if' rfl (fun hc10 => ?_) (fun hc10 => ?_)
 have hm := Zi hm hc10
 refine Zl ?_
 cases hm
 exact ⟨rfl, (), hk19, LeF.s (.k6 .nil)⟩
 have hm := Zj hm hc10
 refine Za (vF rfl rfl rfl (vD rfl (Zb ?_)))
 cases hm
 exact ⟨rfl, (), hk19, LeF.s (.k6 .nil)⟩
 rintro _ j4 fr' h' hk26 hm le
 refine H35 _ _ (le.aw ?_)
 refine AW_if' rfl (fun hc11 => ?_) (fun hc11 => ?_)
 have hm := Zi hm hc11
 refine Zf fun K40 H40 => (Za (s_v (o_as (.sc (.slice _ _ _)) rfl) (Zb (H40 _ _ (Zf fun K42 H42 => (Za (vC rfl (Zb (H42 _ _ (Zf fun K43 H43 => (Zf fun K44 H44 => (Za (vC rfl (Zb (H44 _ _ ?_)))))))))))))))
 refine (LeF.put (t := 17) (v := ow none 37 (List.map c_Item [])) (Sub.refl _) (ow_nil _ _)).aw ?_
 refine AW_loopL (n := 248) (h := h) hm (σ := (List TItem) × Int × Int) (τ := Option Key) (fun g s => [(g, .tok 99 37 ((s.1 : List TItem).length * 37)), (some k8, .obj 107 ([.sc (.int .i64 0), .sc (.int .i64 0), .sc (.string ByteArray.empty), .sc (.slice none 0 0), .sc (.slice none 0 0), .sc (.slice none 0 0), .sc (.int .i64 0), .sc (.int .i64 0), .sc (.slice none 0 0)])), (some k5, .obj 103 (c_Act p1)), (some k2, .obj 27 (c_Catalog p0))]) (fun g s => (g = none → s.1 = [])) (fun g s => kp (kp (kp (kp (kp (kp (kp (k0) 19 (.sc (.int .i64 s.2.2))) 18 (.sc (.int .i64 s.2.1))) 17 (ow g 37 (List.map c_Item s.1))) 7 (.sc (.int .i64 j0))) 4 (.ptr k8 0)) 3 (.ptr k5 0)) 2 (.ptr k2 0)) none (⟨HOk.none hk26, (fun _ => rfl)⟩) (LeF.s (.k7 .nil)) ?_ ?_
 rintro tg4 ⟨q2, q3, q4⟩ x ⟨hk27, ot4⟩ hm
 replace hm : M66_L3 fuel p0 p1 q2 q3 q4 = some x := hm
 unfold M66_L3 at hm
 refine Zf fun K45 H45 => (Zf fun K46 H46 => ?_)
 refine AW_joinH (n := 248) (h := h) hm (σ := Bool) (τ := Unit) (fun g s => [(tg4, .tok 99 37 ((q2 : List TItem).length * 37)), (some k8, .obj 107 ([.sc (.int .i64 0), .sc (.int .i64 0), .sc (.string ByteArray.empty), .sc (.slice none 0 0), .sc (.slice none 0 0), .sc (.slice none 0 0), .sc (.int .i64 0), .sc (.int .i64 0), .sc (.slice none 0 0)])), (some k5, .obj 103 (c_Act p1)), (some k2, .obj 27 (c_Catalog p0))]) (fun g s => kp (kp (kp (kp (kp (kp (kp (kp (k0) 156 (.sc (.bool s))) 19 (.sc (.int .i64 q4))) 18 (.sc (.int .i64 q3))) 17 (ow tg4 37 (List.map c_Item q2))) 7 (.sc (.int .i64 j0))) 4 (.ptr k8 0)) 3 (.ptr k5 0)) 2 (.ptr k2 0)) (fun x hm => ?_) ?_
 refine Za (vA rfl (s_v (Zh fd27_2 rfl rfl) (s_v (Zg (.sl none 35 (List.map c_Chunk p0.Chunks)) ld23 rfl (Zd 3 hk27 rfl) rfl) (s_v (o_lenm ln23 rfl) (s_v (Zh fd27_1 rfl rfl) (s_v (Zg (.sl none 4 (List.map c_Snap p0.Snaps)) ld22 rfl (Zd 3 hk27 rfl) rfl) (s_v (o_lenm ln22 rfl) (vF rfl rfl rfl (s_v (Zh fd27_3 rfl rfl) (s_v (Zg (.sl none 3 (List.map c_Exp p0.Exps)) ld24 rfl (Zd 3 hk27 rfl) rfl) (s_v (o_lenm ln24 rfl) (vF rfl rfl rfl (vF rfl rfl rfl (vB rfl ?_))))))))))))))
 rcases Bool.eq_false_or_eq_true (decide (q4 < (IntKind.wrap .i64 ((IntKind.wrap .i64 ((p0.Chunks.length : Int) + (p0.Snaps.length : Int))) + (p0.Exps.length : Int))))) with hb0 | hb0
 have hm := Zi hm hb0
 refine sg_y rfl rfl hb0 (s_v (o_mv (ow _ _ _) rfl) (sg_y rfl rfl hb0 (s_v (o_leno ln70 ot4 rfl) (sg_y rfl rfl hb0 (vF rfl rfl rfl (s_v (Zm (.sc (.bool _)) rfl hb0 rfl) (Zb ?_)))))))
 cases hm
 exact ⟨rfl, (), hk27, LeF.s (.k8 .nil)⟩
 have hm := Zj hm hb0
 refine Zo rfl rfl hb0 (Zo rfl rfl hb0 (Zo rfl rfl hb0 (s_v (Zn (.sc (.bool _)) rfl hb0 rfl) (Zb ?_))))
 cases hm
 exact ⟨rfl, (), hk27, LeF.s (.k8 .nil)⟩
 rintro _ j5 fr' h' hk28 hm le
 refine H46 _ _ (le.aw ?_)
 refine AW_if' rfl (fun hc12 => ?_) (fun hc12 => ?_)
 have hm := Zi hm hc12
 refine Zl (H45 _ _ (Zf fun K47 H47 => ?_))
 refine AW_joinL (n := 248) (h := h) hm (σ := (List TItem) × Int) (τ := Option Key) (fun g s => [(g, .tok 99 37 ((s.1 : List TItem).length * 37)), (some k8, .obj 107 ([.sc (.int .i64 0), .sc (.int .i64 0), .sc (.string ByteArray.empty), .sc (.slice none 0 0), .sc (.slice none 0 0), .sc (.slice none 0 0), .sc (.int .i64 0), .sc (.int .i64 0), .sc (.slice none 0 0)])), (some k5, .obj 103 (c_Act p1)), (some k2, .obj 27 (c_Catalog p0))]) (fun g s => (g = none → s.1 = [])) (fun g s => kp (kp (kp (kp (kp (kp (kp (k0) 19 (.sc (.int .i64 q4))) 18 (.sc (.int .i64 s.2))) 17 (ow g 37 (List.map c_Item s.1))) 7 (.sc (.int .i64 j0))) 4 (.ptr k8 0)) 3 (.ptr k5 0)) 2 (.ptr k2 0)) (fun x hm => ?_) ?_
 refine AW_block (Zf fun K49 H49 => (Zf fun K50 H50 => ?_))
 refine AW_joinH (n := 248) (h := h) hm (σ := Bool) (τ := Unit) (fun g s => [(tg4, .tok 99 37 ((q2 : List TItem).length * 37)), (some k8, .obj 107 ([.sc (.int .i64 0), .sc (.int .i64 0), .sc (.string ByteArray.empty), .sc (.slice none 0 0), .sc (.slice none 0 0), .sc (.slice none 0 0), .sc (.int .i64 0), .sc (.int .i64 0), .sc (.slice none 0 0)])), (some k5, .obj 103 (c_Act p1)), (some k2, .obj 27 (c_Catalog p0))]) (fun g s => kp (kp (kp (kp (kp (kp (kp (kp (k0) 171 (.sc (.bool s))) 19 (.sc (.int .i64 q4))) 18 (.sc (.int .i64 q3))) 17 (ow tg4 37 (List.map c_Item q2))) 7 (.sc (.int .i64 j0))) 4 (.ptr k8 0)) 3 (.ptr k5 0)) 2 (.ptr k2 0)) (fun x hm => ?_) ?_
 refine Za (vA rfl (s_v (Zh fd103_4 rfl rfl) (s_v (Zg (.sl none 1 (List.map c_bool p1.Pick)) ld101 rfl (Zd 2 hk28 rfl) rfl) (s_v (o_lenm ln101 rfl) (vF rfl rfl rfl (vB rfl ?_))))))
 rcases Bool.eq_false_or_eq_true (decide (q4 < (p1.Pick.length : Int))) with hb1 | hb1
 have hm := Zi hm hb1
 refine sg_y rfl rfl hb1 (s_v (Zh fd103_4 rfl rfl) (sg_y rfl rfl hb1 (s_v (Zg (.sl none 1 (List.map c_bool p1.Pick)) ld101 rfl (Zd 2 hk28 rfl) rfl) (sg_y rfl rfl hb1 (vA rfl (sg_y rfl rfl hb1 ?_))))))
 obtain ⟨x3, hx3, hm⟩ := Zc hm
 refine s_v (o_ix hx3 el101 rfl rfl) (sg_y rfl rfl hb1 (s_v (o_ld (.sc (.bool x3)) ld4 rfl rfl) (sg_y rfl rfl hb1 (s_v (o_not rfl) (s_v (Zm (.sc (.bool _)) rfl hb1 rfl) (Zb ?_))))))
 cases hm
 exact ⟨rfl, (), hk28, LeF.s (.k8 .nil)⟩
 have hm := Zj hm hb1
 refine Zo rfl rfl hb1 (Zo rfl rfl hb1 (Zo rfl rfl hb1 (Zo rfl rfl hb1 (Zo rfl rfl hb1 (Zo rfl rfl hb1 (s_v (Zn (.sc (.bool _)) rfl hb1 rfl) (Zb ?_)))))))
 cases hm
 exact ⟨rfl, (), hk28, LeF.s (.k8 .nil)⟩
 rintro _ j6 fr' h' hk29 hm le
 refine H50 _ _ (le.aw ?_)
 refine AW_if' rfl (fun hc13 => ?_) (fun hc13 => ?_)
 have hm := Zi hm hc13
 refine AW_exit ?_
 refine Seq_exit ?_
 refine Blk_exit ?_
 cases hm
 exact ⟨rfl, tg4, ⟨hk29, ot4⟩, LeF.s (.k7 .nil)⟩
 have hm := Zj hm hc13
 refine Zl (H49 _ _ (Zf fun K51 H51 => (Za (vA rfl (s_v (o_bld (c_Item ({ Kind := 0, Id := idZ, Seq := 0, Of := 0, Off := q3, Len := 20 } : TItem)) bt99 rfl) ?_)))))
 refine s_op (a_alloc (([.sc (.int .i64 0)] : List AV) ++ c_id idZ ++ ([.sc (.int .i64 0), .sc (.int .i64 0), .sc (.int .i64 0), .sc (.int .i64 0)] : List AV)) hk29 zr99 rfl rfl fun k1528 hk30 => ?_)
 refine s_op (a_store 0 (c_Item ({ Kind := 0, Id := idZ, Seq := 0, Of := 0, Off := q3, Len := 20 } : TItem)) hk30 rfl rfl rfl rfl sz99 rfl rfl fun hk32 => ?_)
 refine Zb (H51 _ _ (Zf fun K52 H52 => (AW_block (Zf fun K55 H55 => (Za (vA rfl (s_v (Zh fd27_2 rfl rfl) (s_v (Zg (.sl none 35 (List.map c_Chunk p0.Chunks)) ld23 rfl (Zd 4 hk32 rfl) rfl) (s_v (o_lenm ln23 rfl) (vF rfl rfl rfl (vD rfl (Zb (H55 _ _ ?_)))))))))))))
 refine AW_joinH (n := 248) (h := h) hm (σ := TItem) (τ := Unit) (fun g s => [(some k1528, .obj 99 (c_Item s)), (tg4, .tok 99 37 ((q2 : List TItem).length * 37)), (some k8, .obj 107 ([.sc (.int .i64 0), .sc (.int .i64 0), .sc (.string ByteArray.empty), .sc (.slice none 0 0), .sc (.slice none 0 0), .sc (.slice none 0 0), .sc (.int .i64 0), .sc (.int .i64 0), .sc (.slice none 0 0)])), (some k5, .obj 103 (c_Act p1)), (some k2, .obj 27 (c_Catalog p0))]) (fun g s => kp (kp (kp (kp (kp (kp (kp (kp (k0) 20 (.ptr k1528 0)) 19 (.sc (.int .i64 q4))) 18 (.sc (.int .i64 q3))) 17 (ow tg4 37 (List.map c_Item q2))) 7 (.sc (.int .i64 j0))) 4 (.ptr k8 0)) 3 (.ptr k5 0)) 2 (.ptr k2 0)) (fun x hm => ?_) ?_
 refine AW_if' rfl (fun hc14 => ?_) (fun hc14 => ?_)
 have hm := Zi hm hc14
 refine AW_zreg [(1000000, some k2, .obj 27 (c_Catalog p0)), (7, some k1528, .obj 99 (c_Item ({ Kind := 0, Id := idZ, Seq := 0, Of := 0, Off := q3, Len := 20 } : TItem)))] mixed (⟨fun _ => hp_at 4 hk32 rfl, fun _ => hp_at 0 hk32 rfl, trivial⟩) ?_
 refine z_w 0 rfl (fun S' h' hi hB => Zh fd27_2 rfl rfl) ?_
 refine z_w 1 rfl (fun S' h' hi hB => Zg (.sl none 35 (List.map c_Chunk p0.Chunks)) ld23 rfl (At.s (InvL.get 0 hi rfl (hB 1000000 (by kernel_rfl)))) rfl) ?_
 refine z_w 2 rfl (fun S' h' hi hB => o_mv (.sc (.int _ _)) rfl) ?_
 obtain ⟨x4, hx4, hm⟩ := Zc hm
 refine z_w 3 rfl (fun S' h' hi hB => o_ix hx4 el23 rfl rfl) ?_
 refine z_w 4 rfl (fun S' h' hi hB => o_fl fd63_0 rfl rfl) ?_
 refine z_w 5 rfl (fun S' h' hi hB => o_ld (.agg (c_id x4.Id)) ld61 rfl rfl) ?_
 refine z_w 6 rfl (fun S' h' hi hB => Zh fd99_0 rfl rfl) ?_
 refine z_e 7 rfl (by kernel_rfl) (a_store 0 (c_Item { ({ Kind := 0, Id := idZ, Seq := 0, Of := 0, Off := q3, Len := 20 } : TItem) with Kind := 1 }) hk32 rfl rfl rfl rfl sz3 rfl rfl fun hk33 => ⟨⟨fun _ => hp_at 4 hk33 rfl, fun e => absurd e (by decide), trivial⟩, ?_⟩)
 refine z_w 8 rfl (fun S' h' hi hB => Zh fd99_1 rfl rfl) ?_
 refine z_e 9 rfl (by kernel_rfl) (a_store 0 (c_Item { { ({ Kind := 0, Id := idZ, Seq := 0, Of := 0, Off := q3, Len := 20 } : TItem) with Kind := 1 } with Id := x4.Id }) hk33 rfl rfl rfl rfl sz61 rfl rfl fun hk34 => ⟨⟨fun _ => hp_at 4 hk34 rfl, fun e => absurd e (by decide), trivial⟩, ?_⟩)
 refine z_nil (by kernel_rfl) ?_
 cases hm
 exact ⟨rfl, (), hk34, LeF.s (.k8 .nil)⟩
 have hm := Zj hm hc14
 refine Zf fun K56 H56 => (Za (vA rfl (s_v (Zh fd27_2 rfl rfl) (s_v (Zg (.sl none 35 (List.map c_Chunk p0.Chunks)) ld23 rfl (Zd 4 hk32 rfl) rfl) (s_v (o_lenm ln23 rfl) (s_v (Zh fd27_1 rfl rfl) (s_v (Zg (.sl none 4 (List.map c_Snap p0.Snaps)) ld22 rfl (Zd 4 hk32 rfl) rfl) (s_v (o_lenm ln22 rfl) (vF rfl rfl rfl (vF rfl rfl rfl (vD rfl (Zb (H56 _ _ ?_)))))))))))))
 refine AW_joinH (n := 248) (h := h) hm (σ := TItem) (τ := Unit) (fun g s => [(some k1528, .obj 99 (c_Item s)), (tg4, .tok 99 37 ((q2 : List TItem).length * 37)), (some k8, .obj 107 ([.sc (.int .i64 0), .sc (.int .i64 0), .sc (.string ByteArray.empty), .sc (.slice none 0 0), .sc (.slice none 0 0), .sc (.slice none 0 0), .sc (.int .i64 0), .sc (.int .i64 0), .sc (.slice none 0 0)])), (some k5, .obj 103 (c_Act p1)), (some k2, .obj 27 (c_Catalog p0))]) (fun g s => kp (kp (kp (kp (kp (kp (kp (kp (k0) 20 (.ptr k1528 0)) 19 (.sc (.int .i64 q4))) 18 (.sc (.int .i64 q3))) 17 (ow tg4 37 (List.map c_Item q2))) 7 (.sc (.int .i64 j0))) 4 (.ptr k8 0)) 3 (.ptr k5 0)) 2 (.ptr k2 0)) (fun x hm => ?_) ?_
 refine AW_if' rfl (fun hc15 => ?_) (fun hc15 => ?_)
 have hm := Zi hm hc15
 refine AW_zreg [(1000000, some k2, .obj 27 (c_Catalog p0)), (11, some k1528, .obj 99 (c_Item ({ Kind := 0, Id := idZ, Seq := 0, Of := 0, Off := q3, Len := 20 } : TItem)))] mixed (⟨fun _ => hp_at 4 hk32 rfl, fun _ => hp_at 0 hk32 rfl, trivial⟩) ?_
 refine z_w 0 rfl (fun S' h' hi hB => Zh fd27_1 rfl rfl) ?_
 refine z_w 1 rfl (fun S' h' hi hB => Zg (.sl none 4 (List.map c_Snap p0.Snaps)) ld22 rfl (At.s (InvL.get 0 hi rfl (hB 1000000 (by kernel_rfl)))) rfl) ?_
 refine z_w 2 rfl (fun S' h' hi hB => o_mv (.sc (.int _ _)) rfl) ?_
 refine z_w 3 rfl (fun S' h' hi hB => Zh fd27_2 rfl rfl) ?_
 refine z_w 4 rfl (fun S' h' hi hB => Zg (.sl none 35 (List.map c_Chunk p0.Chunks)) ld23 rfl (At.s (InvL.get 0 hi rfl (hB 1000000 (by kernel_rfl)))) rfl) ?_
 refine z_w 5 rfl (fun S' h' hi hB => o_lenm ln23 rfl) ?_
 refine z_w 6 rfl (fun S' h' hi hB => o_bi rfl rfl rfl trivial) ?_
 obtain ⟨x5, hx5, hm⟩ := Zc hm
 refine z_w 7 rfl (fun S' h' hi hB => o_ix hx5 el22 rfl rfl) ?_
 refine z_w 8 rfl (fun S' h' hi hB => o_fl fd60_0 rfl rfl) ?_
 refine z_w 9 rfl (fun S' h' hi hB => o_ld (.sc (.int .i64 x5.Seq)) ld3 rfl rfl) ?_
 refine z_w 10 rfl (fun S' h' hi hB => Zh fd99_0 rfl rfl) ?_
 refine z_e 11 rfl (by kernel_rfl) (a_store 0 (c_Item { ({ Kind := 0, Id := idZ, Seq := 0, Of := 0, Off := q3, Len := 20 } : TItem) with Kind := 2 }) hk32 rfl rfl rfl rfl sz3 rfl rfl fun hk35 => ⟨⟨fun _ => hp_at 4 hk35 rfl, fun e => absurd e (by decide), trivial⟩, ?_⟩)
 refine z_w 12 rfl (fun S' h' hi hB => Zh fd99_2 rfl rfl) ?_
 refine z_e 13 rfl (by kernel_rfl) (a_store 0 (c_Item { { ({ Kind := 0, Id := idZ, Seq := 0, Of := 0, Off := q3, Len := 20 } : TItem) with Kind := 2 } with Seq := x5.Seq }) hk35 rfl rfl rfl rfl sz3 rfl rfl fun hk36 => ⟨⟨fun _ => hp_at 4 hk36 rfl, fun e => absurd e (by decide), trivial⟩, ?_⟩)
 refine z_nil (by kernel_rfl) ?_
 cases hm
 exact ⟨rfl, (), hk36, LeF.s (.k8 .nil)⟩
 have hm := Zj hm hc15
 refine Zf fun K57 H57 => (Za (s_v (Zh fd27_3 rfl rfl) (s_v (Zg (.sl none 3 (List.map c_Exp p0.Exps)) ld24 rfl (Zd 4 hk32 rfl) rfl) (vA rfl (s_v (Zh fd27_2 rfl rfl) (s_v (Zg (.sl none 35 (List.map c_Chunk p0.Chunks)) ld23 rfl (Zd 4 hk32 rfl) rfl) (s_v (o_lenm ln23 rfl) (vF rfl rfl rfl (s_v (Zh fd27_1 rfl rfl) (s_v (Zg (.sl none 4 (List.map c_Snap p0.Snaps)) ld22 rfl (Zd 4 hk32 rfl) rfl) (s_v (o_lenm ln22 rfl) (vF rfl rfl rfl ?_))))))))))))
 obtain ⟨x6, hx6, hm⟩ := Zc hm
 refine s_v (o_ix hx6 el24 rfl rfl) (s_v (o_ld (.agg (c_Exp x6)) ld65 rfl rfl) ?_)
 refine s_op (a_alloc ([.sc (.int .i64 0), .sc (.int .i64 0), .sc (.slice none 0 0)]) hk32 zr65 rfl rfl fun k1636 hk37 => ?_)
 refine s_op (a_store 0 (c_Exp x6) hk37 rfl rfl rfl rfl sz65 rfl rfl fun hk38 => ?_)
 refine Zb (H57 _ _ ?_)
 refine AW_zreg [(1000000, some k1636, .obj 65 (c_Exp x6)), (5, some k1528, .obj 99 (c_Item ({ Kind := 0, Id := idZ, Seq := 0, Of := 0, Off := q3, Len := 20 } : TItem)))] mixed (⟨fun _ => hp_at 0 hk38 rfl, fun _ => hp_at 1 hk38 rfl, trivial⟩) ?_
 refine z_w 0 rfl (fun S' h' hi hB => Zh fd65_0 rfl rfl) ?_
 refine z_w 1 rfl (fun S' h' hi hB => Zg (.sc (.int .i64 x6.Seq)) ld3 rfl (At.s (InvL.get 0 hi rfl (hB 1000000 (by kernel_rfl)))) rfl) ?_
 refine z_w 2 rfl (fun S' h' hi hB => Zh fd65_1 rfl rfl) ?_
 refine z_w 3 rfl (fun S' h' hi hB => Zg (.sc (.int .i64 x6.Of)) ld3 rfl (At.s (InvL.get 0 hi rfl (hB 1000000 (by kernel_rfl)))) rfl) ?_
 refine z_w 4 rfl (fun S' h' hi hB => Zh fd99_0 rfl rfl) ?_
 refine z_e 5 rfl (by kernel_rfl) (a_store 1 (c_Item { ({ Kind := 0, Id := idZ, Seq := 0, Of := 0, Off := q3, Len := 20 } : TItem) with Kind := 3 }) hk38 rfl rfl rfl rfl sz3 rfl rfl fun hk39 => ⟨⟨fun _ => hp_at 0 hk39 rfl, fun e => absurd e (by decide), trivial⟩, ?_⟩)
 refine z_w 6 rfl (fun S' h' hi hB => Zh fd99_2 rfl rfl) ?_
 refine z_e 7 rfl (by kernel_rfl) (a_store 1 (c_Item { { ({ Kind := 0, Id := idZ, Seq := 0, Of := 0, Off := q3, Len := 20 } : TItem) with Kind := 3 } with Seq := x6.Seq }) hk39 rfl rfl rfl rfl sz3 rfl rfl fun hk41 => ⟨⟨fun _ => hp_at 0 hk41 rfl, fun e => absurd e (by decide), trivial⟩, ?_⟩)
 refine z_w 8 rfl (fun S' h' hi hB => Zh fd99_3 rfl rfl) ?_
 refine z_e 9 rfl (by kernel_rfl) (a_store 1 (c_Item { { { ({ Kind := 0, Id := idZ, Seq := 0, Of := 0, Off := q3, Len := 20 } : TItem) with Kind := 3 } with Seq := x6.Seq } with Of := x6.Of }) hk41 rfl rfl rfl rfl sz3 rfl rfl fun hk42 => ⟨⟨fun _ => hp_at 0 hk42 rfl, fun e => absurd e (by decide), trivial⟩, ?_⟩)
 refine z_nil (by kernel_rfl) ?_
 cases hm
 exact ⟨rfl, (), (hp_sub (.cons _ (.refl _)) hk42).2, LeF.fm ((hp_sub (.cons _ (.refl _)) hk42).1) (.k8 .nil)⟩
 rintro _ j7 fr' h' hk43 hm le
 cases hm
 exact ⟨rfl, (), hk43, LeF.trans le (LeF.s (.k8 .nil))⟩
 rintro _ j8 fr' h' hk44 hm le
 refine H52 _ _ (le.aw ?_)
 refine Za (s_v (o_mv (ow _ _ _) rfl) (s_v (Zg (.agg (c_Item j8)) ld99 rfl (Zd 0 hk44 rfl) rfl) (s_v (o_lit (List.map c_Item ([j8] : List TItem)) et70 rfl rfl rfl rfl) ?_)))
 obtain ⟨z1, hz4, hm⟩ := Zc hm
 refine s_op (a_app (c := c_Item) 1 hz4 et70 rfl rfl rfl ot4 hk44 rfl fun tg5 ot5 hk46 => ?_)
 refine vA rfl (vF rfl rfl rfl (s_v (o_as (ow _ _ _) rfl) (vC rfl (Zb ?_))))
 cases hm
 exact ⟨rfl, tg5, ⟨(hp_sub (.cons _ (.refl _)) hk46).2, ot5⟩, LeF.fm ((hp_sub (.cons _ (.refl _)) hk46).1) (.k7 .nil)⟩
 rintro tg6 ⟨j9, j10⟩ fr' h' ⟨hk48, ot6⟩ hm le
 refine H47 _ _ (le.aw ?_)
 refine Za (vA rfl (vF rfl rfl rfl (vC rfl (Zb ?_))))
 cases hm
 exact ⟨rfl, tg6, ⟨hk48, ot6⟩, LeF.s (.k7 .nil)⟩
 have hm := Zj hm hc12
 refine AW_exit ?_
 refine Seq_exit ?_
 cases hm
 exact ⟨rfl, tg4, ⟨hk28, ot4⟩, LeF.s (.k7 .nil)⟩
 rintro tg7 ⟨r2, r3, r4⟩ fr' h' ⟨hk49, ot7⟩ hm le
 refine H43 _ _ (le.aw ?_)
 refine Zf fun K58 H58 => (Za (vA rfl (s_v (o_mv (ow _ _ _) rfl) (s_v (o_bld ([.sc (.int .i64 3), .sc (.int .i64 0), .sc (.string ByteArray.empty), .sc (.slice none 0 0), .sc (.slice none 0 0), .sc (.slice none 0 0), .sc (.int .i64 0), .sc (.int .i64 j0), ow tg7 37 (List.map c_Item r2)]) bt107 (by cases tg7 <;> rfl)) (s_v (o_mv (ow _ _ _) rfl) (s_v (o_leno ln70 ot7 rfl) (vF rfl rfl rfl ?_)))))))
 refine s_op (a_store 1 ([.sc (.int .i64 3), .sc (.int .i64 0), .sc (.string ByteArray.empty), .sc (.slice none 0 0), .sc (.slice none 0 0), .sc (.slice none 0 0), .sc (.int .i64 0), .sc (.int .i64 j0), ow tg7 37 (List.map c_Item r2)]) hk49 rfl rfl rfl (by repeat (first | exact rfl | refine all_c (ocell_ow _ _ _) ?_ | refine all_c (ocell_aw _ _ _) ?_ | refine all_c rfl ?_)) sz107 rfl rfl fun hk51 => ?_)
 refine vD rfl (Zb (H58 _ _ (AW_ret ?_)))
 have hmo := Option.some.inj hm; subst hmo
 exact Ret.of2 (.inl rfl) (rsC (.agg ([.sc (.int .i64 3), .sc (.int .i64 0), .sc (.string ByteArray.empty), .sc (.slice none 0 0), .sc (.slice none 0 0), .sc (.slice none 0 0), .sc (.int .i64 0), .sc (.int .i64 j0), ow tg7 37 (List.map c_Item r2)])) ld107 rfl (Zd 1 hk51 rfl) rfl) (rsT _ _ (.sc (.bool _)) rfl) (hp_sub (List.nil_sublist _) hk51).1 (ALe.agg (.k3 (.cons (nil_lem _) (.cons (nil_lem _) (.cons (nil_lem _) (.k2 (.cons ((own_frz0 _ 0 ot7 hk51 rfl)) .nil))))))) (ALe.refl _ _) ⟨rfl, rfl⟩
 have hm := Zj hm hc11
 refine Zf fun K59 H59 => (Za (vF rfl rfl rfl (vD rfl (Zb (H59 _ _ ?_)))))
 refine AW_if' rfl (fun hc16 => ?_) (fun hc16 => ?_)
 have hm := Zi hm hc16
 refine Zf fun K60 H60 => (Za (vA rfl (s_v (o_bld ([.sc (.int .i64 4), .sc (.int .i64 0), .sc (.string ByteArray.empty), .sc (.slice none 0 0), .sc (.slice none 0 0), .sc (.slice none 0 0), .sc (.int .i64 0), .sc (.int .i64 j0), .sc (.slice none 0 0)]) bt107 rfl) ?_)))
 refine s_op (a_store 0 ([.sc (.int .i64 4), .sc (.int .i64 0), .sc (.string ByteArray.empty), .sc (.slice none 0 0), .sc (.slice none 0 0), .sc (.slice none 0 0), .sc (.int .i64 0), .sc (.int .i64 j0), .sc (.slice none 0 0)]) hk26 rfl rfl rfl rfl sz107 rfl rfl fun hk53 => ?_)
 refine vD rfl (Zb (H60 _ _ (AW_ret ?_)))
 have hmo := Option.some.inj hm; subst hmo
 exact Ret.of2 (.inl rfl) (rsC (.agg ([.sc (.int .i64 4), .sc (.int .i64 0), .sc (.string ByteArray.empty), .sc (.slice none 0 0), .sc (.slice none 0 0), .sc (.slice none 0 0), .sc (.int .i64 0), .sc (.int .i64 j0), .sc (.slice none 0 0)])) ld107 rfl (Zd 0 hk53 rfl) rfl) (rsT _ _ (.sc (.bool _)) rfl) (hp_sub (List.nil_sublist _) hk53).1 (ALe.agg (.k3 (.cons (nil_lem _) (.cons (nil_lem _) (.cons (nil_lem _) (.k2 (.cons (nil_lem _) .nil))))))) (ALe.refl _ _) ⟨rfl, rfl⟩
 have hm := Zj hm hc16
 refine Zl (H6 _ _ (Zf fun K61 H61 => (Za (vA rfl (s_v (o_bld ([.sc (.int .i64 5), .sc (.int .i64 0), .sc (.string ByteArray.empty), .sc (.slice none 0 0), .sc (.slice none 0 0), .sc (.slice none 0 0), .sc (.int .i64 0), .sc (.int .i64 j0), .sc (.slice none 0 0)]) bt107 rfl) ?_)))))
 refine s_op (a_store 0 ([.sc (.int .i64 5), .sc (.int .i64 0), .sc (.string ByteArray.empty), .sc (.slice none 0 0), .sc (.slice none 0 0), .sc (.slice none 0 0), .sc (.int .i64 0), .sc (.int .i64 j0), .sc (.slice none 0 0)]) hk26 rfl rfl rfl rfl sz107 rfl rfl fun hk54 => ?_)
 refine vD rfl (Zb (H61 _ _ (AW_ret ?_)))
 have hmo := Option.some.inj hm; subst hmo
 exact Ret.of2 (.inl rfl) (rsC (.agg ([.sc (.int .i64 5), .sc (.int .i64 0), .sc (.string ByteArray.empty), .sc (.slice none 0 0), .sc (.slice none 0 0), .sc (.slice none 0 0), .sc (.int .i64 0), .sc (.int .i64 j0), .sc (.slice none 0 0)])) ld107 rfl (Zd 0 hk54 rfl) rfl) (rsT _ _ (.sc (.bool _)) rfl) (hp_sub (List.nil_sublist _) hk54).1 (ALe.agg (.k3 (.cons (nil_lem _) (.cons (nil_lem _) (.cons (nil_lem _) (.k2 (.cons (nil_lem _) .nil))))))) (ALe.refl _ _) ⟨rfl, rfl⟩
theorem bd66 : bodied Try.prog 66 = true := by kernel_rfl
end Go.Proofs.Ytoomgangpjcaoaa
