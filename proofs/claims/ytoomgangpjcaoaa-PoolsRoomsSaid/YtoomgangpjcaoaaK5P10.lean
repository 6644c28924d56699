import Derived.Test.YtoomgangpjcaoaaK5P6
import Derived.Test.YtoomgangpjcaoaaK5P8
import Derived.Test.YtoomgangpjcaoaaK5P9
import Derived.Test.YtoomgangpjcaoaaK5P7
set_option linter.unusedSimpArgs false
set_option linter.unusedVariables false
namespace Go.Proofs.Ytoomgangpjcaoaa
open Go.Vm
def M27_L2 (fuel : Nat) (p0 : List TAct) (q0 : Int) (q1 : Int) : Option (Lp (Int) (Lp (Int) (Bool))) :=
 (ix p0 q0).bind fun x0 => if (decide (q1 < (x0.Tree.length : Int))) = true then (after ((ix p0 q0).bind fun x1 => (ix x1.Tree q1).bind fun x2 => if (decide (300 < (x2.Data.length : Int))) = true then (some (.brk true)) else (ix p0 q0).bind fun x3 => (ix x3.Tree q1).bind fun x4 => some (.brk (decide (50 < (x4.Path.size : Int)))) : Option (Lp (Bool) (Lp (Int) (Lp (Int) (Bool))))) fun j0 => if j0 = true then (some (.ret (.ret true))) else some (.go (IntKind.wrap .i64 (q1 + 1)))) else some (.brk q1)
def M27_L0 (fuel : Nat) (p0 : List TAct) (q0 : Int) : Option (Lp (Int) (Bool)) :=
 after (if (decide (q0 < (p0.length : Int))) = true then (some (.brk (decide (q0 < 30)))) else some (.brk false) : Option (Lp (Bool) (Lp (Int) (Bool)))) fun j0 => if j0 = true then (after ((ix p0 q0).bind fun x0 => if (decide (300 < (x0.Pick.length : Int))) = true then (some (.brk true)) else (ix p0 q0).bind fun x1 => some (.brk (decide (10 < (x1.Tree.length : Int)))) : Option (Lp (Bool) (Lp (Int) (Bool)))) fun j1 => if j1 = true then (some (.ret true)) else after (loopM (fun s => M27_L2 fuel p0 q0 s) fuel 0) fun r0 => some (.go (IntKind.wrap .i64 (q0 + 1)))) else some (.brk q0)
def M27 (fuel : Nat) (p0 : List TAct) : Option (Bool) :=
 if (decide (120 < (p0.length : Int))) = true then (some true) else after (loopM (fun s => M27_L0 fuel p0 s) fuel 0) fun r0 => some false
set_option maxHeartbeats 4000000 in
set_option maxRecDepth 100000 in
theorem W27 {fuel : Nat} {p0 : List TAct} {o : Bool} (h : Heap) (hm : M27 fuel p0 = some o) :
 ACalls Try.prog 27 [.sl none 5 (List.map c_Act p0)] h (fun r h' => r = .sc (.bool o) ∧ h' = h) := by
 refine ACalls_hp 68 [.tmp 2] Try.func27 rfl rfl rfl rfl ?_
 unfold M27 at hm
 refine Zf fun K1 H1 => (Za (vD rfl (Zb (H1 _ _ (Zf fun K2 H2 => (Zf fun K3 H3 => (Za (vE rfl (s_v (o_lenm ln42 rfl) (vF rfl rfl rfl (Zb (H3 _ _ ?_))))))))))))
 refine AW_if' rfl (fun hc4 => ?_) (fun hc4 => ?_)
 have hm := Zi hm hc4
 refine Zf fun K5 H5 => (Za (vD rfl (Zb (H5 _ _ (AW_ret ?_)))))
 have hmo := Option.some.inj hm; subst hmo
 exact Ret.of1 (.inl rfl) (rsT _ _ (.sc (.bool _)) rfl) (Sub.refl _) (ALe.refl _ _) ⟨rfl, rfl⟩
 have hm := Zj hm hc4
 refine Zl (H2 _ _ (Zf fun K6 H6 => (Zf fun K7 H7 => (Za (vC rfl (Zb (H7 _ _ ?_)))))))
 refine AW_loopH (n := 68) (h := h) hm (σ := Int) (τ := Unit) (fun g s => []) (fun g s => kp (kp (k0) 3 (.sc (.int .i64 s))) 0 (.sl none 5 (List.map c_Act p0))) () (HOk.nil _) (LeF.s (.k2 .nil)) ?_ ?_
 rintro _ q0 x hk0 hm
 replace hm : M27_L0 fuel p0 q0 = some x := hm
 unfold M27_L0 at hm
 refine Zf fun K0 H4 => (Zf fun K4 H8 => ?_)
 refine AW_joinH (n := 68) (h := h) hm (σ := Bool) (τ := Unit) (fun g s => []) (fun g s => kp (kp (kp (k0) 15 (.sc (.bool s))) 3 (.sc (.int .i64 q0))) 0 (.sl none 5 (List.map c_Act p0))) (fun x hm => ?_) ?_
 refine Za (vA rfl (vE rfl (s_v (o_lenm ln42 rfl) (vF rfl rfl rfl (vB rfl ?_)))))
 rcases Bool.eq_false_or_eq_true (decide (q0 < (p0.length : Int))) with hb0 | hb0
 have hm := Zi hm hb0
 refine sg_y rfl rfl hb0 (vA rfl (sg_y rfl rfl hb0 (vF rfl rfl rfl (s_v (Zm (.sc (.bool _)) rfl hb0 rfl) (Zb ?_)))))
 cases hm
 exact ⟨rfl, (), hk0, LeF.s (.k3 .nil)⟩
 have hm := Zj hm hb0
 refine Zo rfl rfl hb0 (Zo rfl rfl hb0 (s_v (Zn (.sc (.bool _)) rfl hb0 rfl) (Zb ?_)))
 cases hm
 exact ⟨rfl, (), hk0, LeF.s (.k3 .nil)⟩
 rintro _ j0 fr' h' hk1 hm le
 refine H8 _ _ (le.aw ?_)
 refine AW_if' rfl (fun hc0 => ?_) (fun hc0 => ?_)
 have hm := Zi hm hc0
 refine Zl (H4 _ _ (Zf fun K8 H9 => (AW_block (Zf fun K9 H10 => (Zf fun K10 H11 => ?_)))))
 refine AW_joinH (n := 68) (h := h) hm (σ := Bool) (τ := Unit) (fun g s => []) (fun g s => kp (kp (kp (k0) 33 (.sc (.bool s))) 3 (.sc (.int .i64 q0))) 0 (.sl none 5 (List.map c_Act p0))) (fun x hm => ?_) ?_
 refine Za (vE rfl (vA rfl ?_))
 obtain ⟨x0, hx0, hm⟩ := Zc hm
 refine s_v (o_ix hx0 el42 rfl rfl) (s_v (o_fl fd103_4 rfl rfl) (s_v (o_ld (.sl none 1 (List.map c_bool x0.Pick)) ld101 rfl rfl) (s_v (o_lenm ln101 rfl) (vF rfl rfl rfl (vB rfl ?_)))))
 rcases Bool.eq_false_or_eq_true (decide (300 < (x0.Pick.length : Int))) with hb1 | hb1
 have hm := Zi hm hb1
 refine Zo rfl rfl hb1 (Zo rfl rfl hb1 (Zo rfl rfl hb1 (Zo rfl rfl hb1 (Zo rfl rfl hb1 (Zo rfl rfl hb1 (Zo rfl rfl hb1 (s_v (Zm (.sc (.bool _)) rfl hb1 rfl) (Zb ?_))))))))
 cases hm
 exact ⟨rfl, (), hk1, LeF.s (.k3 .nil)⟩
 have hm := Zj hm hb1
 refine sg_y rfl rfl hb1 (vE rfl (sg_y rfl rfl hb1 (vA rfl (sg_y rfl rfl hb1 ?_))))
 obtain ⟨x1, hx1, hm⟩ := Zc hm
 refine s_v (o_ix hx1 el42 rfl rfl) (sg_y rfl rfl hb1 (s_v (o_fl fd103_3 rfl rfl) (sg_y rfl rfl hb1 (s_v (o_ld (.sl none 2 (List.map c_File x1.Tree)) ld100 rfl rfl) (sg_y rfl rfl hb1 (s_v (o_lenm ln100 rfl) (sg_y rfl rfl hb1 (vF rfl rfl rfl (s_v (Zn (.sc (.bool _)) rfl hb1 rfl) (Zb ?_))))))))))
 cases hm
 exact ⟨rfl, (), hk1, LeF.s (.k3 .nil)⟩
 rintro _ j1 fr' h' hk2 hm le
 refine H11 _ _ (le.aw ?_)
 refine AW_if' rfl (fun hc1 => ?_) (fun hc1 => ?_)
 have hm := Zi hm hc1
 refine Zf fun K11 H12 => (Za (vD rfl (Zb (H12 _ _ (AW_ret ?_)))))
 cases hm
 refine ⟨⟨nofun, nofun⟩, fun he => ?_⟩
 subst he
 exact Ret.of1 (.inl rfl) (rsT _ _ (.sc (.bool _)) rfl) (Sub.refl _) (ALe.refl _ _) ⟨rfl, rfl⟩
 have hm := Zj hm hc1
 refine Zl (H10 _ _ (Zf fun K12 H13 => (Za (vC rfl (Zb (H13 _ _ ?_))))))
 refine AW_loopH (n := 68) (h := h) hm (σ := Int) (τ := Unit) (fun g s => []) (fun g s => kp (kp (kp (k0) 4 (.sc (.int .i64 s))) 3 (.sc (.int .i64 q0))) 0 (.sl none 5 (List.map c_Act p0))) () hk2 (LeF.s (.k3 .nil)) ?_ ?_
 rintro _ q1 x hk3 hm
 replace hm : M27_L2 fuel p0 q0 q1 = some x := hm
 unfold M27_L2 at hm
 refine Zf fun K13 H14 => (Zf fun K14 H15 => (Za (vA rfl (vE rfl (vA rfl ?_)))))
 obtain ⟨x2, hx2, hm⟩ := Zc hm
 refine s_v (o_ix hx2 el42 rfl rfl) (s_v (o_fl fd103_3 rfl rfl) (s_v (o_ld (.sl none 2 (List.map c_File x2.Tree)) ld100 rfl rfl) (s_v (o_lenm ln100 rfl) (vF rfl rfl rfl (Zb (H15 _ _ ?_))))))
 refine AW_if' rfl (fun hc2 => ?_) (fun hc2 => ?_)
 have hm := Zi hm hc2
 refine Zl (H14 _ _ (Zf fun K15 H16 => (AW_block (Zf fun K16 H17 => ?_))))
 refine AW_joinH (n := 68) (h := h) hm (σ := Bool) (τ := Unit) (fun g s => []) (fun g s => kp (kp (kp (kp (k0) 67 (.sc (.bool s))) 4 (.sc (.int .i64 q1))) 3 (.sc (.int .i64 q0))) 0 (.sl none 5 (List.map c_Act p0))) (fun x hm => ?_) ?_
 refine Za (vE rfl (vA rfl ?_))
 obtain ⟨x3, hx3, hm⟩ := Zc hm
 refine s_v (o_ix hx3 el42 rfl rfl) (s_v (o_fl fd103_3 rfl rfl) (s_v (o_ld (.sl none 2 (List.map c_File x3.Tree)) ld100 rfl rfl) (vA rfl ?_)))
 obtain ⟨x4, hx4, hm⟩ := Zc hm
 refine s_v (o_ix hx4 el100 rfl rfl) (s_v (o_fl fd105_1 rfl rfl) (s_v (o_ld (.sl none 1 (List.map c_u8 x4.Data)) ld52 rfl rfl) (s_v (o_lenm ln52 rfl) (vF rfl rfl rfl (vB rfl ?_)))))
 rcases Bool.eq_false_or_eq_true (decide (300 < (x4.Data.length : Int))) with hb2 | hb2
 have hm := Zi hm hb2
 refine Zo rfl rfl hb2 (Zo rfl rfl hb2 (Zo rfl rfl hb2 (Zo rfl rfl hb2 (Zo rfl rfl hb2 (Zo rfl rfl hb2 (Zo rfl rfl hb2 (Zo rfl rfl hb2 (Zo rfl rfl hb2 (Zo rfl rfl hb2 (Zo rfl rfl hb2 (s_v (Zm (.sc (.bool _)) rfl hb2 rfl) (Zb ?_))))))))))))
 cases hm
 exact ⟨rfl, (), hk3, LeF.s (.k4 .nil)⟩
 have hm := Zj hm hb2
 refine sg_y rfl rfl hb2 (vE rfl (sg_y rfl rfl hb2 (vA rfl (sg_y rfl rfl hb2 ?_))))
 obtain ⟨x5, hx5, hm⟩ := Zc hm
 refine s_v (o_ix hx5 el42 rfl rfl) (sg_y rfl rfl hb2 (s_v (o_fl fd103_3 rfl rfl) (sg_y rfl rfl hb2 (s_v (o_ld (.sl none 2 (List.map c_File x5.Tree)) ld100 rfl rfl) (sg_y rfl rfl hb2 (vA rfl (sg_y rfl rfl hb2 ?_)))))))
 obtain ⟨x6, hx6, hm⟩ := Zc hm
 refine s_v (o_ix hx6 el100 rfl rfl) (sg_y rfl rfl hb2 (s_v (o_fl fd105_0 rfl rfl) (sg_y rfl rfl hb2 (s_v (o_ld (.sc (.string x6.Path)) ld9 rfl rfl) (sg_y rfl rfl hb2 (s_v (o_lent ln9 rfl) (sg_y rfl rfl hb2 (vF rfl rfl rfl (s_v (Zn (.sc (.bool _)) rfl hb2 rfl) (Zb ?_))))))))))
 cases hm
 exact ⟨rfl, (), hk3, LeF.s (.k4 .nil)⟩
 rintro _ j2 fr' h' hk4 hm le
 refine H17 _ _ (le.aw ?_)
 refine AW_if' rfl (fun hc3 => ?_) (fun hc3 => ?_)
 have hm := Zi hm hc3
 refine Zf fun K17 H18 => (Za (vD rfl (Zb (H18 _ _ (AW_ret ?_)))))
 cases hm
 refine ⟨⟨nofun, nofun⟩, fun he => ?_⟩
 subst he
 refine ⟨⟨nofun, nofun⟩, fun he => ?_⟩
 subst he
 exact Ret.of1 (.inl rfl) (rsT _ _ (.sc (.bool _)) rfl) (Sub.refl _) (ALe.refl _ _) ⟨rfl, rfl⟩
 have hm := Zj hm hc3
 refine Zl (H16 _ _ (Za (vA rfl (vF rfl rfl rfl (vC rfl (Zb ?_))))))
 cases hm
 exact ⟨rfl, (), hk4, LeF.s (.k3 .nil)⟩
 have hm := Zj hm hc2
 refine AW_exit ?_
 refine Seq_exit ?_
 cases hm
 exact ⟨rfl, (), hk3, LeF.s (.k3 .nil)⟩
 rintro _ r0 fr' h' hk5 hm le
 refine H9 _ _ (le.aw ?_)
 refine Za (vA rfl (vF rfl rfl rfl (vC rfl (Zb ?_))))
 cases hm
 exact ⟨rfl, (), hk5, LeF.s (.k2 .nil)⟩
 have hm := Zj hm hc0
 refine AW_exit ?_
 refine Seq_exit ?_
 cases hm
 exact ⟨rfl, (), hk1, LeF.s (.k2 .nil)⟩
 rintro _ r1 fr' h' hk6 hm le
 refine H6 _ _ (le.aw ?_)
 refine Zf fun K18 H19 => (Za (vD rfl (Zb (H19 _ _ (AW_ret ?_)))))
 have hmo := Option.some.inj hm; subst hmo
 exact Ret.of1 (.inl rfl) (rsT _ _ (.sc (.bool _)) rfl) (Sub.refl _) (ALe.refl _ _) ⟨rfl, rfl⟩
theorem bd27 : bodied Try.prog 27 = true := by kernel_rfl
def M29_L0 (fuel : Nat) (p0 : List Int) (q0 : List Int) (q1 : Int) : Option (Lp ((List Int) × Int) ((List Int))) :=
 after (if (decide (q1 < (p0.length : Int))) = true then (some (.brk (decide (q1 < 8)))) else some (.brk false) : Option (Lp (Bool) (Lp ((List Int) × Int) ((List Int))))) fun j0 => if j0 = true then ((ix p0 q1).bind fun x0 => (app q0 ([bitsV .and .i64 x0 1] : List Int)).bind fun z0 => some (.go (z0, IntKind.wrap .i64 (q1 + 1)))) else some (.brk (q0, q1))
def M29 (fuel : Nat) (p0 : List Int) : Option ((List Int)) :=
 after (loopM (fun s => M29_L0 fuel p0 s.1 s.2) fuel ([], 0)) fun ⟨r0, r1⟩ => after (if ((r0.length : Int) == 0) = true then (some (.brk ([0] : List Int))) else some (.brk r0) : Option (Lp ((List Int)) ((List Int)))) fun j0 => some j0
set_option maxHeartbeats 4000000 in
set_option maxRecDepth 100000 in
theorem W29 {fuel : Nat} {p0 : List Int} {o : (List Int)} (h : Heap) (hm : M29 fuel p0 = some o) :
 ACalls Try.prog 29 [.sl none 1 (List.map c_i64 p0)] h (fun r h' => r = .sl none 1 (List.map c_i64 o) ∧ h' = h) := by
 refine ACalls_hp 28 [.tmp 2] Try.func29 rfl rfl rfl rfl ?_
 unfold M29 at hm
 refine Zf fun K1 H1 => (Za (s_v (o_as (.sc (.slice _ _ _)) rfl) (Zb (H1 _ _ (Zf fun K2 H2 => (Za (s_v (o_as (.sc (.slice _ _ _)) rfl) (Zb (H2 _ _ (Zf fun K3 H3 => (Zf fun K4 H4 => (Za (vC rfl (Zb (H4 _ _ ?_)))))))))))))))
 refine (LeF.put (t := 3) (v := ow none 1 (List.map c_i64 [])) (Sub.refl _) (ow_nil _ _)).aw ?_
 refine AW_loopL (n := 28) (h := h) hm (σ := (List Int) × Int) (τ := Option Key) (fun g s => [(g, .tok 3 1 ((s.1 : List Int).length * 1))]) (fun g s => (g = none → s.1 = [])) (fun g s => kp (kp (kp (k0) 4 (.sc (.int .i64 s.2))) 3 (ow g 1 (List.map c_i64 s.1))) 0 (.sl none 1 (List.map c_i64 p0))) none (⟨HOk.none (HOk.nil _), (fun _ => rfl)⟩) (LeF.s (.k3 .nil)) ?_ ?_
 rintro tg0 ⟨q0, q1⟩ x ⟨hk0, ot0⟩ hm
 replace hm : M29_L0 fuel p0 q0 q1 = some x := hm
 unfold M29_L0 at hm
 refine Zf fun K0 H5 => (Zf fun K5 H6 => ?_)
 refine AW_joinH (n := 28) (h := h) hm (σ := Bool) (τ := Unit) (fun g s => [(tg0, .tok 3 1 ((q0 : List Int).length * 1))]) (fun g s => kp (kp (kp (kp (k0) 12 (.sc (.bool s))) 4 (.sc (.int .i64 q1))) 3 (ow tg0 1 (List.map c_i64 q0))) 0 (.sl none 1 (List.map c_i64 p0))) (fun x hm => ?_) ?_
 refine Za (vA rfl (vE rfl (s_v (o_lenm ln28 rfl) (vF rfl rfl rfl (vB rfl ?_)))))
 rcases Bool.eq_false_or_eq_true (decide (q1 < (p0.length : Int))) with hb0 | hb0
 have hm := Zi hm hb0
 refine sg_y rfl rfl hb0 (vA rfl (sg_y rfl rfl hb0 (vF rfl rfl rfl (s_v (Zm (.sc (.bool _)) rfl hb0 rfl) (Zb ?_)))))
 cases hm
 exact ⟨rfl, (), hk0, LeF.s (.k4 .nil)⟩
 have hm := Zj hm hb0
 refine Zo rfl rfl hb0 (Zo rfl rfl hb0 (s_v (Zn (.sc (.bool _)) rfl hb0 rfl) (Zb ?_)))
 cases hm
 exact ⟨rfl, (), hk0, LeF.s (.k4 .nil)⟩
 rintro _ j0 fr' h' hk1 hm le
 refine H6 _ _ (le.aw ?_)
 refine AW_if' rfl (fun hc0 => ?_) (fun hc0 => ?_)
 have hm := Zi hm hc0
 refine Zl (H5 _ _ (Zf fun K6 H7 => (AW_block (Za (s_v (o_mv (ow _ _ _) rfl) (vE rfl (vA rfl ?_)))))))
 obtain ⟨x0, hx0, hm⟩ := Zc hm
 refine s_v (o_ix hx0 el28 rfl rfl) (s_v (o_ld (.sc (.int .i64 x0)) ld3 rfl rfl) (vF rfl rfl rfl (s_v (o_lit (List.map c_i64 ([bitsV .and .i64 x0 1] : List Int)) et28 rfl rfl rfl rfl) ?_)))
 obtain ⟨z0, hz0, hm⟩ := Zc hm
 refine s_op (a_app (c := c_i64) 0 hz0 et28 rfl rfl rfl ot0 hk1 rfl fun tg1 ot1 hk2 => ?_)
 refine s_v (o_as (ow _ _ _) rfl) (Zb (H7 _ _ (Za (vA rfl (vF rfl rfl rfl (vC rfl (Zb ?_)))))))
 cases hm
 exact ⟨rfl, tg1, ⟨hk2, ot1⟩, LeF.s (.k3 .nil)⟩
 have hm := Zj hm hc0
 refine AW_exit ?_
 refine Seq_exit ?_
 cases hm
 exact ⟨rfl, tg0, ⟨hk1, ot0⟩, LeF.s (.k3 .nil)⟩
 rintro tg2 ⟨r0, r1⟩ fr' h' ⟨hk3, ot2⟩ hm le
 refine H3 _ _ (le.aw ?_)
 refine Zf fun K7 H8 => (Zf fun K8 H9 => (Za (s_v (o_mv (ow _ _ _) rfl) (s_v (o_leno ln28 ot2 rfl) (vF rfl rfl rfl (Zb (H9 _ _ ?_)))))))
 refine AW_joinL (n := 28) (h := h) hm (σ := (List Int)) (τ := Option Key) (fun g s => [(g, .tok 3 1 ((s : List Int).length * 1))]) (fun g s => (g = none → s = [])) (fun g s => kp (k0) 3 (ow g 1 (List.map c_i64 s))) (fun x hm => ?_) ?_
 refine AW_if' rfl (fun hc1 => ?_) (fun hc1 => ?_)
 have hm := Zi hm hc1
 refine Za ?_
 refine s_op (a_litg (c := c_i64) ([0] : List Int) hk3 et28 rfl rfl rfl rfl fun tg3 ot3 hk4 => ?_)
 refine s_v (o_as (ow _ _ _) rfl) (Zb ?_)
 cases hm
 exact ⟨rfl, tg3, ⟨(hp_sub (.cons_cons _ (.cons _ (.refl _))) hk4).2, ot3⟩, LeF.fm ((hp_sub (.cons_cons _ (.cons _ (.refl _))) hk4).1) (.cons (ALe.refl _ _) .nil)⟩
 have hm := Zj hm hc1
 refine Zl ?_
 cases hm
 exact ⟨rfl, tg2, ⟨hk3, ot2⟩, LeF.s (.cons (ALe.refl _ _) .nil)⟩
 rintro tg4 j1 fr' h' ⟨hk5, ot4⟩ hm le
 refine H8 _ _ (le.aw ?_)
 refine Zf fun K9 H99 => (Za (s_v (o_mv (ow _ _ _) rfl) (s_v (o_as (ow _ _ _) rfl) (Zb (H99 _ _ (AW_ret ?_))))))
 have hmo := Option.some.inj hm; subst hmo
 exact Ret.of1 (.inl rfl) (rsT _ _ (ow _ _ _) rfl) (hp_sub (List.nil_sublist _) hk5).1 ((own_frz0 _ 0 ot4 hk5 rfl)) ⟨rfl, rfl⟩
theorem bd29 : bodied Try.prog 29 = true := by kernel_rfl
def M28_L0 (fuel : Nat) (p1 : List TAct) (q0 : TCatalog) (q1 : Int) : Option (Lp (TCatalog × Int) (TCatalog)) :=
 after (if (decide (q1 < (p1.length : Int))) = true then (some (.brk (decide (q1 < 30)))) else some (.brk false) : Option (Lp (Bool) (Lp (TCatalog × Int) (TCatalog)))) fun j0 => if j0 = true then ((ix p1 q1).bind fun x0 => (M66 fuel q0 x0).bind fun y0 => after (if y0.2 = true then ((M67 fuel q0 y0.1).bind fun y1 => after (if (y1.2 == 0) = true then (some (.brk y1.1)) else some (.brk q0) : Option (Lp (TCatalog) (Lp (TCatalog) (Lp (TCatalog × Int) (TCatalog))))) fun j1 => some (.brk j1)) else some (.brk q0) : Option (Lp (TCatalog) (Lp (TCatalog × Int) (TCatalog)))) fun j2 => some (.go (j2, IntKind.wrap .i64 (q1 + 1)))) else some (.brk (q0, q1))
def M28 (fuel : Nat) (p0 : List Int) (p1 : List TAct) : Option (TCatalog) :=
 (M32 fuel p0).bind fun y6 => after (loopM (fun s => M28_L0 fuel p1 s.1 s.2) fuel (y6, 0)) fun ⟨r0, r1⟩ => some r0
set_option maxHeartbeats 4000000 in
set_option maxRecDepth 100000 in
theorem W28 {fuel : Nat} {p0 : List Int} {p1 : List TAct} {o : TCatalog} (h : Heap) (hm : M28 fuel p0 p1 = some o) :
 ACalls Try.prog 28 [.sl none 1 (List.map c_i64 p0), .sl none 5 (List.map c_Act p1)] h (fun r h' => r = .agg (c_Catalog o) ∧ h' = h) := by
 refine ACalls_hp 43 [.cell 4 27] Try.func28 rfl rfl rfl rfl ?_
 unfold M28 at hm
 refine Zf fun K1 H1 => (Za ?_)
 refine s_op (a_alloc ([.sc (.int .i64 0), .sc (.slice none 0 0), .sc (.slice none 0 0), .sc (.slice none 0 0), .sc (.slice none 0 0)]) (HOk.nil _) zr27 rfl rfl fun k2 hk3 => ?_)
 refine Zb (H1 _ _ (Zf fun K5 H5 => (Za (vE rfl ?_))))
 obtain ⟨y6, hy7, hm⟩ := Zc hm
 refine s_v (o_call (W32 _ hy7) rfl bd32 rfl) ?_
 refine s_op (a_alloc ([.sc (.int .i64 0), .sc (.slice none 0 0), .sc (.slice none 0 0), .sc (.slice none 0 0), .sc (.slice none 0 0)]) hk3 zr27 rfl rfl fun k8 hk9 => ?_)
 refine s_op (a_store 0 (c_Catalog y6) hk9 rfl rfl rfl rfl sz27 rfl rfl fun hk0 => ?_)
 refine Zb (H5 _ _ (Zf fun K0 H2 => (Zf fun K2 H3 => (Za (vC rfl (Zb (H3 _ _ ?_)))))))
 refine AW_loopH (n := 43) (h := h) hm (σ := TCatalog × Int) (τ := Unit) (fun g s => [(some k8, .obj 27 (c_Catalog s.1)), (some k2, .obj 27 ([.sc (.int .i64 0), .sc (.slice none 0 0), .sc (.slice none 0 0), .sc (.slice none 0 0), .sc (.slice none 0 0)]))]) (fun g s => kp (kp (kp (kp (k0) 6 (.sc (.int .i64 s.2))) 5 (.ptr k8 0)) 4 (.ptr k2 0)) 1 (.sl none 5 (List.map c_Act p1))) () hk0 (LeF.s (.k4 .nil)) ?_ ?_
 rintro _ ⟨q0, q1⟩ x hk1 hm
 replace hm : M28_L0 fuel p1 q0 q1 = some x := hm
 unfold M28_L0 at hm
 refine Zf fun K3 H4 => (Zf fun K4 H6 => ?_)
 refine AW_joinH (n := 43) (h := h) hm (σ := Bool) (τ := Unit) (fun g s => [(some k8, .obj 27 (c_Catalog q0)), (some k2, .obj 27 ([.sc (.int .i64 0), .sc (.slice none 0 0), .sc (.slice none 0 0), .sc (.slice none 0 0), .sc (.slice none 0 0)]))]) (fun g s => kp (kp (kp (kp (kp (k0) 20 (.sc (.bool s))) 6 (.sc (.int .i64 q1))) 5 (.ptr k8 0)) 4 (.ptr k2 0)) 1 (.sl none 5 (List.map c_Act p1))) (fun x hm => ?_) ?_
 refine Za (vA rfl (vE rfl (s_v (o_lenm ln42 rfl) (vF rfl rfl rfl (vB rfl ?_)))))
 rcases Bool.eq_false_or_eq_true (decide (q1 < (p1.length : Int))) with hb0 | hb0
 have hm := Zi hm hb0
 refine sg_y rfl rfl hb0 (vA rfl (sg_y rfl rfl hb0 (vF rfl rfl rfl (s_v (Zm (.sc (.bool _)) rfl hb0 rfl) (Zb ?_)))))
 cases hm
 exact ⟨rfl, (), hk1, LeF.s (.k5 .nil)⟩
 have hm := Zj hm hb0
 refine Zo rfl rfl hb0 (Zo rfl rfl hb0 (s_v (Zn (.sc (.bool _)) rfl hb0 rfl) (Zb ?_)))
 cases hm
 exact ⟨rfl, (), hk1, LeF.s (.k5 .nil)⟩
 rintro _ j0 fr' h' hk2 hm le
 refine H6 _ _ (le.aw ?_)
 refine AW_if' rfl (fun hc0 => ?_) (fun hc0 => ?_)
 have hm := Zi hm hc0
 refine Zl (H4 _ _ (Zf fun K6 H7 => (AW_block (Zf fun K7 H8 => ?_))))
 refine AW_zreg [(1000000, some k8, .obj 27 (c_Catalog q0))] mixed (⟨fun _ => hp_at 0 hk2 rfl, trivial⟩) ?_
 refine z_w 0 rfl (fun S' h' hi hB => Zg (.agg (c_Catalog q0)) ld27 rfl (At.s (InvL.get 0 hi rfl (hB 1000000 (by kernel_rfl)))) rfl) ?_
 refine z_w 1 rfl (fun S' h' hi hB => o_mv (.sl _ _ _) rfl) ?_
 refine z_w 2 rfl (fun S' h' hi hB => o_mv (.sc (.int _ _)) rfl) ?_
 obtain ⟨x0, hx0, hm⟩ := Zc hm
 refine z_w 3 rfl (fun S' h' hi hB => o_ix hx0 el42 rfl rfl) ?_
 refine z_w 4 rfl (fun S' h' hi hB => o_ld (.agg (c_Act x0)) ld103 rfl rfl) ?_
 obtain ⟨y0, hy0, hm⟩ := Zc hm
 refine z_w 5 rfl (fun S' h' hi hB => o_call (W66 _ hy0) rfl bd66 rfl) ?_
 refine z_w 6 rfl (fun S' h' hi hB => o_mv (.tup _) rfl) ?_
 refine z_w 7 rfl (fun S' h' hi hB => o_ex (.agg _) rfl rfl) ?_
 refine z_w 8 rfl (fun S' h' hi hB => o_ex (.sc (.bool _)) rfl rfl) ?_
 refine z_e 9 rfl (by kernel_rfl) (a_alloc ([.sc (.int .i64 0), .sc (.int .i64 0), .sc (.string ByteArray.empty), .sc (.slice none 0 0), .sc (.slice none 0 0), .sc (.slice none 0 0), .sc (.int .i64 0), .sc (.int .i64 0), .sc (.slice none 0 0)]) hk2 zr107 rfl rfl fun k156 hk4 => ⟨⟨fun _ => hp_at 1 hk4 rfl, trivial⟩, ?_⟩)
 refine z_e 10 rfl (by kernel_rfl) (a_store 0 (c_Change y0.1) hk4 rfl rfl rfl rfl sz107 rfl rfl fun hk5 => ⟨⟨fun _ => hp_at 1 hk5 rfl, trivial⟩, ?_⟩)
 refine z_w 11 rfl (fun S' h' hi hB => o_as (.sc (.bool _)) rfl) ?_
 refine z_nil (by kernel_rfl) ?_
 refine H8 _ _ (Zf fun K8 H9 => (Za (vB rfl (Zb (H9 _ _ ?_)))))
 refine AW_joinH (n := 43) (h := h) hm (σ := TCatalog) (τ := Unit) (fun g s => [(some k156, .obj 107 (c_Change y0.1)), (some k8, .obj 27 (c_Catalog s)), (some k2, .obj 27 ([.sc (.int .i64 0), .sc (.slice none 0 0), .sc (.slice none 0 0), .sc (.slice none 0 0), .sc (.slice none 0 0)]))]) (fun g s => kp (kp (kp (kp (k0) 6 (.sc (.int .i64 q1))) 5 (.ptr k8 0)) 4 (.ptr k2 0)) 1 (.sl none 5 (List.map c_Act p1))) (fun x hm => ?_) ?_
 refine AW_if' rfl (fun hc1 => ?_) (fun hc1 => ?_)
 have hm := Zi hm hc1
 refine Zf fun K9 H10 => (Za (s_v (Zg (.agg (c_Catalog q0)) ld27 rfl (Zd 1 hk5 rfl) rfl) (s_v (Zg (.agg (c_Change y0.1)) ld107 rfl (Zd 0 hk5 rfl) rfl) ?_)))
 obtain ⟨y1, hy1, hm⟩ := Zc hm
 refine s_v (o_call (W67 _ hy1) rfl bd67 rfl) (s_v (o_mv (.tup _) rfl) (s_v (o_ex (.agg _) rfl rfl) (s_v (o_ex (.sc (.int _ _)) rfl rfl) ?_)))
 refine s_op (a_alloc ([.sc (.int .i64 0), .sc (.slice none 0 0), .sc (.slice none 0 0), .sc (.slice none 0 0), .sc (.slice none 0 0)]) hk5 zr27 rfl rfl fun k181 hk6 => ?_)
 refine s_op (a_store 0 (c_Catalog y1.1) hk6 rfl rfl rfl rfl sz27 rfl rfl fun hk7 => ?_)
 refine vC rfl (Zb (H10 _ _ (Zf fun K10 H11 => (Za (vA rfl (vF rfl rfl rfl (Zb (H11 _ _ ?_))))))))
 refine AW_joinH (n := 43) (h := h) hm (σ := TCatalog) (τ := Unit) (fun g s => [(some k181, .obj 27 (c_Catalog y1.1)), (some k156, .obj 107 (c_Change y0.1)), (some k8, .obj 27 (c_Catalog s)), (some k2, .obj 27 ([.sc (.int .i64 0), .sc (.slice none 0 0), .sc (.slice none 0 0), .sc (.slice none 0 0), .sc (.slice none 0 0)]))]) (fun g s => kp (kp (kp (kp (k0) 6 (.sc (.int .i64 q1))) 5 (.ptr k8 0)) 4 (.ptr k2 0)) 1 (.sl none 5 (List.map c_Act p1))) (fun x hm => ?_) ?_
 refine AW_if' rfl (fun hc2 => ?_) (fun hc2 => ?_)
 have hm := Zi hm hc2
 refine Za (s_v (Zg (.agg (c_Catalog y1.1)) ld27 rfl (Zd 0 hk7 rfl) rfl) ?_)
 refine s_op (a_store 2 (c_Catalog y1.1) hk7 rfl rfl rfl rfl sz27 rfl rfl fun hk8 => ?_)
 refine Zb ?_
 cases hm
 exact ⟨rfl, (), hk8, LeF.s (.k4 .nil)⟩
 have hm := Zj hm hc2
 refine Zl ?_
 cases hm
 exact ⟨rfl, (), hk7, LeF.s (.k4 .nil)⟩
 rintro _ j1 fr' h' hk10 hm le
 cases hm
 exact ⟨rfl, (), (hp_sub (.cons _ (.refl _)) hk10).2, LeF.trans le (LeF.fm ((hp_sub (.cons _ (.refl _)) hk10).1) (.k4 .nil))⟩
 have hm := Zj hm hc1
 refine Zl ?_
 cases hm
 exact ⟨rfl, (), hk5, LeF.s (.k4 .nil)⟩
 rintro _ j2 fr' h' hk12 hm le
 refine H7 _ _ (le.aw ?_)
 refine Za (vA rfl (vF rfl rfl rfl (vC rfl (Zb ?_))))
 cases hm
 exact ⟨rfl, (), (hp_sub (.cons _ (.refl _)) hk12).2, LeF.fm ((hp_sub (.cons _ (.refl _)) hk12).1) (.k4 .nil)⟩
 have hm := Zj hm hc0
 refine AW_exit ?_
 refine Seq_exit ?_
 cases hm
 exact ⟨rfl, (), hk2, LeF.s (.k4 .nil)⟩
 rintro _ ⟨r0, r1⟩ fr' h' hk13 hm le
 refine H2 _ _ (le.aw ?_)
 refine Zf fun K11 H14 => (Za (s_v (Zg (.agg (c_Catalog r0)) ld27 rfl (Zd 0 hk13 rfl) rfl) ?_))
 refine s_op (a_store 1 (c_Catalog r0) hk13 rfl rfl rfl rfl sz27 rfl rfl fun hk14 => ?_)
 refine Zb (H14 _ _ (AW_ret ?_))
 have hmo := Option.some.inj hm; subst hmo
 exact Ret.of1 (.inl rfl) (rsC (.agg (c_Catalog r0)) ld27 rfl (Zd 1 hk14 rfl) rfl) (hp_sub (List.nil_sublist _) hk14).1 (ALe.refl _ _) ⟨rfl, rfl⟩
theorem bd28 : bodied Try.prog 28 = true := by kernel_rfl
end Go.Proofs.Ytoomgangpjcaoaa
namespace Go.Vm
def T {α : Type} (m : Option α) (Q : α → Prop) : Prop := ∃ a, m = some a ∧ Q a
def L3 {σ ρ : Type} (G B : σ → Prop) (R : ρ → Prop) : Lp σ ρ → Prop
 | .go s => G s
 | .brk s => B s
 | .ret r => R r
section
variable {α β σ ρ : Type} {Q : β → Prop}
theorem T.some {a : β} (h : Q a) : T (some a) Q := ⟨a, rfl, h⟩
theorem T.mono {P : β → Prop} {m : Option β} (h : T m P) (k : ∀ a, P a → Q a) : T m Q := by obtain ⟨a, e, p⟩ := h; exact ⟨a, e, k a p⟩
theorem T.of {m : Option β} {a : β} (h : m = .some a) (hq : Q a) : T m Q := ⟨a, h, hq⟩
theorem T.bind {m : Option α} {k : α → Option β} (P : α → Prop) (h : T m P) (hk : ∀ a, P a → T (k a) Q) : T (m.bind k) Q := by
 obtain ⟨a, e, p⟩ := h
 rw [e]; exact hk a p
theorem T.bindEq {m : Option α} {k : α → Option β} {a : α} (h : m = .some a) (hk : T (k a) Q) : T (m.bind k) Q := by rw [h]; exact hk
theorem T.ite {c : Prop} [Decidable c] {a b : Option β} (h1 : c → T a Q) (h2 : ¬c → T b Q) : T (if c then a else b) Q := by
 by_cases h : c
 ·rw [if_pos h]; exact h1 h
 ·rw [if_neg h]; exact h2 h
theorem T.grd {b : Bool} {k : Option β} (hb : b = true) (h : T k Q) : T (grd b k) Q := by unfold Go.Vm.grd; rw [if_pos hb]; exact h
theorem T.ix {l : List α} {i : Int} {k : α → Option β} (h0 : 0 ≤ i) (h1 : i < l.length) (hk : ∀ x, l[i.toNat]? = Option.some x → x ∈ l → T (k x) Q) : T ((ix l i).bind k) Q := by
 have hx : l[i.toNat]? = Option.some l[i.toNat] := List.getElem?_eq_getElem (by omega)
 rw [ix_pos l h0, hx]
 exact hk _ hx (List.getElem_mem _)
theorem T.app {xs ys : List α} {k : List α → Option β} (h : xs.length + ys.length ≤ 1000000000) (hk : T (k (xs ++ ys)) Q) : T ((app xs ys).bind k) Q := by rw [app_some h]; exact hk
theorem T.slc {l : List α} {a b : Int} {k : List α → Option β} (h : 0 ≤ a ∧ a ≤ b ∧ b ≤ l.length) (hk : T (k ((l.take b.toNat).drop a.toNat)) Q) : T ((slc l a b).bind k) Q := by unfold Go.Vm.slc; rw [if_pos h]; exact hk
variable {R : ρ → Prop} {G B : σ → Prop}
theorem T.go {s : σ} (h : G s) : T (.some (Lp.go s)) (L3 G B R) := ⟨_, rfl, h⟩
theorem T.brk {s : σ} (h : B s) : T (.some (Lp.brk s)) (L3 G B R) := ⟨_, rfl, h⟩
theorem T.ret {r : ρ} (h : R r) : T (.some (Lp.ret r)) (L3 G B R) := ⟨_, rfl, h⟩
theorem T.after {m : Option (Lp σ ρ)} {k : σ → Option ρ} (h : T m (L3 (fun _ => False) (fun s => T (k s) R) R)) : T (after m k) R := by
 obtain ⟨a, e, p⟩ := h
 rw [e]
 cases a with
 | go s => exact p.elim
 | brk s => exact p
 | ret r => exact ⟨_, rfl, p⟩
theorem T.loopAt {step : σ → Option (Lp σ ρ)} (I : σ → Prop) (μ : σ → Nat) (hs : ∀ s, I s → T (step s) (L3 (fun s' => I s' ∧ μ s' < μ s) B R)) : ∀ (F : Nat) (s : σ), I s → μ s < F → T (loopM step F s) (L3 (fun _ => False) B R)
 | 0, _, _, h => by omega
 | F + 1, s, hi, hm => by
  obtain ⟨a, e, p⟩ := hs s hi
  unfold loopM
  rw [e]
  cases a with
  | go s' => exact T.loopAt I μ hs F s' p.1 (by have := p.2; omega)
  | brk s' => exact ⟨_, rfl, p⟩
  | ret r => exact ⟨_, rfl, p⟩
theorem T.loop {step : σ → Option (Lp σ ρ)} {F : Nat} {s0 : σ} {k : σ → Option ρ} (I : σ → Prop) (μ : σ → Nat) (B : σ → Prop) (hm : μ s0 < F) (h0 : I s0) (hs : ∀ s, I s → T (step s) (L3 (fun s' => I s' ∧ μ s' < μ s) B R)) (hk : ∀ s, B s → T (k s) R) :
    T (Go.Vm.after (loopM step F s0) k) R := T.after ((T.loopAt I μ hs F s0 h0 hm).mono fun a => by
      cases a with
      | go s => exact fun h => h.elim
      | brk s => exact hk s
      | ret r => exact id)
end
theorem ArL {n : Nat} (x : Ar n) : x.1.length = n := x.2
theorem wrU8 (n : Int) : 0 ≤ IntKind.wrap .u8 n ∧ IntKind.wrap .u8 n < 256 := by rw [wrap_u8_mod]; omega
theorem wrI (n : Int) : -9223372036854775808 ≤ IntKind.wrap .i64 n ∧ IntKind.wrap .i64 n < 9223372036854775808 := by
 have e : IntKind.wrap .i64 n = (if decide (n % 18446744073709551616 ≥ 9223372036854775808) = true then n % 18446744073709551616 - 18446744073709551616 else n % 18446744073709551616) := rfl
 rw [e]
 simp only [decide_eq_true_eq]
 split <;> omega
end Go.Vm
namespace Go.Proofs.Ytoomgangpjcaoaa
open Go.Vm
theorem t134 {F : Nat} {a b : Int} (hb : 0 ≤ b) : T (M134 F a b) fun _ => True := by
 unfold M134
 refine .grd (by simpa using hb) (.grd (by simpa using wru0 _) (.some trivial))
theorem t133 {F : Nat} {l : List Int} (hF : 1000 ≤ F) (hl : l.length ≤ 300) : T (M133 F l) fun r => r.length % 64 = 0 ∧ r.length ≤ l.length + 80 := by
 unfold M133
 refine .app (by simp; omega) (.app (by simp; omega) ?_)
 refine .loop (fun q => l.length + 1 ≤ q.length ∧ q.length ≤ (l.length + 72) / 64 * 64 - 8 + 0 ∧ l.length + 9 ≤ (l.length + 72) / 64 * 64) (fun q => (l.length + 72) / 64 * 64 - 8 - q.length) (fun q => (q.length + 8) % 64 = 0 ∧ q.length ≤ l.length + 64) (by simp; omega) (by simp; omega) (fun q hq => ?_) (fun q hq => ?_)
 ·unfold M133_L0
  rw [wr (by omega) (by omega), Int.tmod_eq_emod_of_nonneg (by omega)]
  refine .ite (fun hc => ?_) fun hc => ?_
  ·have : ((q.length : Int) + 8) % 64 ≠ 0 := by simpa using hc
   refine .app (by simp; omega) (.go ?_)
   simp only [List.length_append, List.length_singleton]
   omega
  ·have : ((q.length : Int) + 8) % 64 = 0 := by simpa using hc
   exact .brk (by omega)
 ·refine .loop (fun s => -1 ≤ s.2 ∧ s.2 ≤ 7 ∧ (s.1.length : Int) + s.2 = q.length + 7) (fun s => (s.2 + 1).toNat) (fun s => s.1.length = q.length + 8) (by simp; omega) (by simp) (fun s hs => ?_) (fun s hs => .some (by omega))
  obtain ⟨a, i⟩ := s
  unfold M133_L2
  simp only at hs ⊢
  refine .ite (fun hc => ?_) fun hc => ?_
  ·have hc := of_decide_eq_true hc
   rw [wr (n := i - 1) (by omega) (by omega)]
   refine .grd (by simpa using wru0 _) (.app (by simp; omega) (.go ?_))
   simp only [List.length_append, List.length_singleton]
   omega
  ·exact .brk (by simp only [decide_eq_true_eq] at hc; show a.length = _; omega)
theorem t108 {F : Nat} {d : List Int} (hF : 1000 ≤ F) (hl : d.length ≤ 300) : T (M108 F d) gId := by
 unfold M108
 refine .bind (fun _ => True) ⟨_, rfl, trivial⟩ fun y6 _ => ?_
 refine .bind _ (t133 hF hl) fun y hy => ?_
 refine .loop (fun s => 0 ≤ s.2 ∧ s.2 % 64 = 0 ∧ s.2 ≤ y.length) (fun s => (y.length - s.2).toNat) (fun _ => True) (by simp; omega) (by simp) (fun s hs => ?_) (fun s _ => ?_)
 ·obtain ⟨h, i⟩ := s
  unfold M108_L0
  simp only at hs ⊢
  refine .ite (fun hc => ?_) fun hc => .brk trivial
  have hc := of_decide_eq_true hc
  refine .loop (fun s => 0 ≤ s.2 ∧ s.2 ≤ 64) (fun s => (64 - s.2).toNat) (fun _ => True) (by simp; omega) (by simp) (fun s hs2 => ?_) (fun s _ => ?_)
  ·obtain ⟨w, j⟩ := s
   unfold M108_L2
   simp only at hs2 ⊢
   refine .ite (fun hc2 => ?_) fun hc2 => .brk trivial
   have hc2 := of_decide_eq_true hc2
   have fin : IntKind.wrap .i64 (j + 1) = j + 1 := wr (by omega) (by omega)
   refine .after (.ite (fun hc3 => ?_) fun hc3 => ?_)
   ·have hc3 := of_decide_eq_true hc3
    refine .loop (fun s => 0 ≤ s.2 ∧ s.2 ≤ 4) (fun s => (4 - s.2).toNat) (fun _ => True) (by simp; omega) (by simp) (fun s hs4 => ?_) (fun s _ => .brk (.go (by rw [fin]; simp only; omega)))
    obtain ⟨w, k⟩ := s
    unfold M108_L4
    simp only at hs4 ⊢
    refine .ite (fun hc4 => ?_) fun hc4 => .brk trivial
    have hc4 := of_decide_eq_true hc4
    rw [wr (n := 4 * j) (by omega) (by omega), wr (n := i + 4 * j) (by omega) (by omega), wr (n := i + 4 * j + k) (by omega) (by omega), wr (n := k + 1) (by omega) (by omega)]
    refine .ix (by omega) (by rw [ArL]; omega) fun _ _ _ => .ix (by omega) (by omega) fun _ _ _ => .ix (by omega) (by rw [ArL]; omega) fun _ _ _ => .go ?_
    simp only
    omega
   ·have hc3 : ¬ j < 16 := by simpa using hc3
    rw [wr (n := j - 15) (by omega) (by omega), wr (n := j - 2) (by omega) (by omega), wr (n := j - 16) (by omega) (by omega), wr (n := j - 7) (by omega) (by omega)]
    refine .ix (by omega) (by rw [ArL]; omega) fun _ _ _ => .ix (by omega) (by rw [ArL]; omega) fun _ _ _ => .ix (by omega) (by rw [ArL]; omega) fun _ _ _ => .ix (by omega) (by rw [ArL]; omega) fun _ _ _ => ?_
    refine .bind _ (t134 (by omega)) fun _ _ => .bind _ (t134 (by omega)) fun _ _ => .bind _ (t134 (by omega)) fun _ _ => .bind _ (t134 (by omega)) fun _ _ => ?_
    refine .ix (by omega) (by rw [ArL]; omega) fun _ _ _ => .brk (.go ?_)
    rw [fin]; simp only; omega
  ·refine .loop (fun s => 0 ≤ s.2 ∧ s.2 ≤ 64) (fun s => (64 - s.2).toNat) (fun _ => True) (by simp; omega) (by simp) (fun s hs2 => ?_) (fun s _ => ?_)
   ·obtain ⟨w, j⟩ := s
    unfold M108_L6
    simp only at hs2 ⊢
    refine .ite (fun hc2 => ?_) fun hc2 => .brk trivial
    have hc2 := of_decide_eq_true hc2
    have fin : IntKind.wrap .i64 (j + 1) = j + 1 := wr (by omega) (by omega)
    rw [fin]
    repeat' (first | exact trivial | refine T.bind _ (t134 (by omega)) fun _ _ => ?_ | refine T.ix (by omega) (by rw [ArL]; omega) fun _ _ _ => ?_)
    refine .go ?_
    simp only; omega
   ·refine .loop (fun s => 0 ≤ s.2 ∧ s.2 ≤ 8) (fun s => (8 - s.2).toNat) (fun _ => True) (by simp; omega) (by simp) (fun s hs2 => ?_) (fun s _ => ?_)
    ·obtain ⟨w, j⟩ := s
     unfold M108_L8
     simp only at hs2 ⊢
     refine .ite (fun hc2 => ?_) fun hc2 => .brk trivial
     have hc2 := of_decide_eq_true hc2
     rw [wr (n := j + 1) (by omega) (by omega)]
     refine .ix (by omega) (by rw [ArL]; omega) fun _ _ _ => .ix (by omega) (by rw [ArL]; omega) fun _ _ _ => .ix (by omega) (by rw [ArL]; omega) fun _ _ _ => .go ?_
     simp only; omega
    ·rw [wr (n := i + 64) (by omega) (by omega)]
     refine .go ?_
     simp only; omega
 ·refine .loop (fun s => 0 ≤ s.2 ∧ s.2 ≤ 32 ∧ gId s.1) (fun s => (32 - s.2).toNat) (fun s => gId s.1) (by simp; omega) ⟨by simp, by simp, ?_⟩ (fun s hs2 => ?_) (fun s hs => .some hs)
  ·intro x hx
   have : x = 0 := List.eq_of_mem_replicate hx
   subst this
   exact ⟨by omega, by omega⟩
  ·obtain ⟨w, j⟩ := s
   unfold M108_L10
   simp only at hs2 ⊢
   refine .ite (fun hc2 => ?_) fun hc2 => .brk hs2.2.2
   have hc2 := of_decide_eq_true hc2
   rw [wr (n := j + 1) (by omega) (by omega), Int.tdiv_eq_ediv_of_nonneg (by omega), wr (n := j / 4) (by omega) (by omega)]
   refine .ix (by omega) (by rw [ArL]; omega) fun _ _ _ => .grd (by simpa using wru0 _) (.ix (by omega) (by rw [ArL]; omega) fun _ _ _ => .go ⟨⟨?_, ?_, ?_⟩, ?_⟩)
   ·simp only; omega
   ·simp only; omega
   ·intro x hx
    rcases List.mem_or_eq_of_mem_set hx with h | rfl
    ·exact hs2.2.2 x h
    ·exact wrU8 _
   ·simp only; omega
end Go.Proofs.Ytoomgangpjcaoaa
namespace Go.Vm
section
variable {α β ρ : Type} {Q : β → Prop}
theorem T.ins {l : List α} {r : Int} {y : α} {k : List α → Option β} (h : 0 ≤ r ∧ r ≤ l.length) (hl : l.length ≤ 1000000) (hk : ∀ z : List α, z.length = l.length + 1 → (∀ x ∈ z, x ∈ l ∨ x = y) → T (k z) Q) :
    T ((Go.Vm.slc l 0 r).bind fun x => (Go.Vm.app ([] : List α) x).bind fun z => (Go.Vm.app z ([y] : List α)).bind fun z2 => (Go.Vm.slc l r l.length).bind fun x2 => (Go.Vm.app z2 x2).bind k) Q := by
  refine .slc (by omega) (.app (by simp; omega) (.app (by simp; omega) (.slc (by omega) (.app (by simp; omega) (hk _ (by simp; omega) fun x hx => ?_)))))
  simp only [List.mem_append, List.mem_singleton] at hx
  rcases hx with ((h | h) | h) | h
  · simp at h
  · exact .inl (List.mem_of_mem_take (List.mem_of_mem_drop h))
  · exact .inr h
  · exact .inl (List.mem_of_mem_take (List.mem_of_mem_drop h))
theorem T.scan {Q : ρ → Prop} {l : List α} {F : Nat} {body : Int → Option (Lp Int ρ)} {g : α → Option (Lp Bool (Lp Int ρ))} {k : Int → Option ρ} (hF : l.length < F) (hl : l.length < 1000000)
    (hb : ∀ i, body i = Go.Vm.after (if decide (i < (l.length : Int)) = true then (Go.Vm.ix l i).bind g else Option.some (.brk false)) fun j => if j = true then Option.some (.go (IntKind.wrap .i64 (i + 1))) else Option.some (.brk i))
    (hg : ∀ x ∈ l, T (g x) (L3 (fun _ => False) (fun _ => True) (fun _ => False))) (hk : ∀ r : Int, 0 ≤ r ∧ r ≤ l.length → T (k r) Q) : T (Go.Vm.after (loopM body F 0) k) Q := by
  refine .loop (fun i => 0 ≤ i ∧ i ≤ l.length) (fun i => (l.length - i).toNat) (fun i => 0 ≤ i ∧ i ≤ l.length) (by omega) (by omega) (fun i hi => ?_) (fun i hi => hk i hi)
  rw [hb]
  refine .after (.ite (fun hc => ?_) fun hc => .brk ?_)
  · have hc := of_decide_eq_true hc
    refine .ix (by omega) (by omega) fun x _ hx => (hg x hx).mono fun a ha => ?_
    cases a with
    | go s => exact ha
    | ret s => exact ha.elim
    | brk s =>
      refine T.ite (fun _ => .go ?_) fun _ => .brk hi
      rw [wr (by omega) (by omega)]
      omega
  · exact T.ite (fun h => by cases h) fun _ => .brk hi
end
end Go.Vm
namespace Go.Proofs.Ytoomgangpjcaoaa
open Go.Vm
def fOk (f : TFile) : Prop := f.Path.size ≤ 100 ∧ gL gB f.Data
def fSm (f : TFile) : Prop := fOk f ∧ f.Data.length ≤ 200
theorem t129 {F : Nat} {l : List TFile} (hF : 1000 ≤ F) : T (M129 F l) fun b => b = false → l.length ≤ 6 ∧ ∀ x ∈ l, x.Data.length ≤ 200 := by
 unfold M129
 refine .ite (fun hc => .some fun h => by cases h) fun hc => ?_
 have hc : l.length ≤ 6 := by simp at hc; omega
 rw [any_loop (l := l) (fun x => decide (200 < (x.Data.length : Int))) true (by omega) (fun i x hx _ hi => by
  unfold M129_L0
  rw [wr1 (by omega)]
  simp only [ix_nat, hx, Option.bind_some, Int.ofNat_lt, hi, decide_true, if_true]
  split <;> rfl) (by unfold M129_L0; simp)]
 cases h : l.any fun x => decide (200 < (x.Data.length : Int))
 ·refine .some fun _ => ⟨hc, fun x hx => ?_⟩
  have := List.any_eq_false.1 h x hx
  simp at this
  omega
 ·exact .some fun h => by cases h
theorem t106 {F : Nat} {l : List TFile} (hF : 1000 ≤ F) (ho : ∀ f ∈ l, fOk f) : T (M106 F l) fun r => r.2 = 0 → r.1.length ≤ 6 ∧ ∀ f ∈ r.1, fSm f := by
  unfold M106
  refine .bind _ (t129 hF) fun b hb => .ite (fun _ => .some fun h => by simp at h) fun hc => ?_
  obtain ⟨hn, hd⟩ := hb (by simpa using hc)
  refine .loop (fun i => 0 ≤ i ∧ i ≤ l.length) (fun i => (l.length - i).toNat) (fun _ => True) (by omega) (by omega) (fun i hi => ?_) (fun i _ => ?_)
  · unfold M106_L0
    refine .ite (fun hc => ?_) fun hc => .brk trivial
    have hc := of_decide_eq_true hc
    refine .ix (by omega) (by omega) fun x _ hx => .bindEq (m104 hF (ho x hx).1) (.ite (fun _ => .ret fun h => by simp at h) fun _ => .go ?_)
    rw [wr (by omega) (by omega)]
    omega
  · refine .loop (fun s => 0 ≤ s.2 ∧ s.2 ≤ l.length ∧ (s.1.length : Int) = s.2 ∧ ∀ f ∈ s.1, fSm f) (fun s => (l.length - s.2).toNat) (fun s => s.1.length ≤ 6 ∧ ∀ f ∈ s.1, fSm f) (by simp; omega) (by simp) (fun s hs => ?_) (fun s hs => .some fun _ => hs)
    obtain ⟨q, i⟩ := s
    simp only at hs
    unfold M106_L2
    refine .ite (fun hc => ?_) fun hc => .brk ⟨by simp only; omega, hs.2.2.2⟩
    have hc := of_decide_eq_true hc
    simp only at hc
    refine .loop (fun j => 0 ≤ j ∧ j ≤ q.length) (fun j => (q.length - j).toNat) (fun j => 0 ≤ j ∧ j ≤ q.length) (by omega) (by omega) (fun j hj => ?_) (fun j hj => ?_)
    · unfold M106_L4
      have fin : j < q.length → 0 ≤ IntKind.wrap .i64 (j + 1) ∧ IntKind.wrap .i64 (j + 1) ≤ q.length ∧ (q.length - IntKind.wrap .i64 (j + 1)).toNat < (q.length - j).toNat := fun h => by
        rw [wr (by omega) (by omega)]; omega
      refine .after (.ite (fun hc2 => ?_) fun hc2 => .brk (T.ite (fun h => by cases h) fun _ => .brk hj))
      have hc2 := of_decide_eq_true hc2
      have := fin hc2
      refine .ix (by omega) (by omega) fun x _ hx => .ix (by omega) (by omega) fun y _ hy => .brk (T.ite (fun _ => .go (by omega)) fun _ => .brk hj)
    · have rest : T (if (false : Bool) = true then some (.ret ([], 9)) else (slc q 0 j).bind fun x494 => (ix l i).bind fun x496 => (ix l i).bind fun x498 => (app ([] : List TFile) x494).bind fun z500 => (M100 F x498.Data).bind fun y506 => (app z500 ([({ Path := x496.Path, Data := y506 } : TFile)] : List TFile)).bind fun z508 => (slc q j (q.length : Int)).bind fun x513 => (app z508 x513).bind fun z515 => some (.go (z515, IntKind.wrap .i64 (i + 1))))
          (L3 (fun s' : List TFile × Int => (0 ≤ s'.2 ∧ s'.2 ≤ l.length ∧ (s'.1.length : Int) = s'.2 ∧ ∀ f ∈ s'.1, fSm f) ∧ (l.length - s'.2).toNat < (l.length - i).toNat) (fun s => s.1.length ≤ 6 ∧ ∀ f ∈ s.1, fSm f) (fun r : List TFile × Int => r.2 = 0 → r.1.length ≤ 6 ∧ ∀ f ∈ r.1, fSm f)) := by
        refine T.ite (fun h => by cases h) fun _ => ?_
        rw [wr (n := i + 1) (by omega) (by omega)]
        refine .slc (by omega) (.ix (by omega) (by omega) fun x _ hx => .ix (by omega) (by omega) fun y _ hy => .app (by simp; omega) (.bindEq (m100 (by have := hd y hy; omega)) (.app (by simp; omega) (.slc (by omega) (.app (by simp; omega) (.go ?_))))))
        refine ⟨⟨by simp only; omega, by simp only; omega, by simp; omega, fun f hf => ?_⟩, by simp only; omega⟩
        simp only [List.mem_append, List.mem_singleton] at hf
        rcases hf with ((h | h) | h) | h
        · simp at h
        · exact hs.2.2.2 f (List.mem_of_mem_take (List.mem_of_mem_drop h))
        · subst h
          exact ⟨⟨(ho x hx).1, (ho y hy).2⟩, hd y hy⟩
        · exact hs.2.2.2 f (List.mem_of_mem_take (List.mem_of_mem_drop h))
      refine .after (.ite (fun hc2 => ?_) fun hc2 => .brk rest)
      have hc2 := of_decide_eq_true hc2
      refine .ix (by omega) (by omega) fun x _ hx => .ix (by omega) (by omega) fun y _ hy => .brk ?_
      cases x.Path.toList == y.Path.toList
      · exact rest
      · exact .ret fun h => by simp at h
theorem t145 {F : Nat} {l : List Int} (hF : 1000 ≤ F) (h0 : 0 < l.length) (hl : l.length ≤ 300) : T (M145 F l) fun k => 0 < k ∧ k ≤ l.length ∧ (8 ≤ k ∨ k = l.length) := by
 unfold M145
 refine .loop (fun s => 0 ≤ s.2 ∧ s.2 ≤ l.length) (fun s => (l.length - s.2).toNat) (fun _ => True) (by simp; omega) (by simp) (fun s hs => ?_) (fun s _ => .some (by omega))
 obtain ⟨h, i⟩ := s
 simp only at hs
 unfold M145_L0
 refine .ite (fun hc => ?_) fun hc => .brk trivial
 have hc := of_decide_eq_true hc
 simp only at hc
 rw [wr (n := i + 1) (by omega) (by omega)]
 have k2 : (8 ≤ i + 1) ∨ ¬ (8 ≤ i + 1) := by omega
 have e64 : (i + 1 == 64) = decide (i + 1 = 64) := rfl
 refine .ix (by omega) (by omega) fun x _ hx => .after (.ite (fun hc2 => ?_) fun hc2 => ?_)
 ·have hc2 := of_decide_eq_true hc2
  refine .ite (fun _ => .brk (T.ite (fun _ => .ret (by omega)) fun h => absurd rfl h)) fun _ => .brk (T.ite (fun _ => .ret (by omega)) fun _ => .go (by simp only; omega))
 ·refine .brk (T.ite (fun h => .ret ?_) fun _ => .go (by simp only; omega))
  have : i + 1 = 64 := by simpa using h
  omega
theorem t131 {F : Nat} {l : List Int} (hF : 1000 ≤ F) (hl : l.length ≤ 200) (gl : gL gB l) : T (M131 F l) fun r => r.length ≤ 25 ∧ ∀ x ∈ r, x.length ≤ 300 ∧ gL gB x := by
 unfold M131
 refine .loop (fun s => s.2.length ≤ l.length ∧ gL gB s.2 ∧ (8 * s.1.length + s.2.length ≤ l.length ∨ (s.2.length = 0 ∧ 8 * s.1.length ≤ l.length + 7)) ∧ ∀ x ∈ s.1, x.length ≤ 300 ∧ gL gB x) (fun s => s.2.length) (fun s => s.1.length ≤ 25 ∧ ∀ x ∈ s.1, x.length ≤ 300 ∧ gL gB x) (by simp; omega) (by simp [gl]) (fun s hs => ?_) (fun s hs => .some hs)
 obtain ⟨q, d⟩ := s
 simp only at hs
 obtain ⟨s1, s2, s3, s4⟩ := hs
 unfold M131_L0
 refine .ite (fun hc => ?_) fun hc => .brk ⟨by simp only; omega, s4⟩
 have hc := of_decide_eq_true hc
 simp only at hc
 refine .bind _ (t145 hF (by simp only; omega) (by simp only; omega)) fun k hk => .slc (by omega) (.bindEq (m100 (by simp; omega)) (.app (by simp; omega) (.slc (by simp only at hk ⊢; omega) (.go ?_))))
 simp only at hk ⊢
 refine ⟨⟨by simp; omega, fun x hx => s2 x (List.mem_of_mem_take (List.mem_of_mem_drop hx)), by simp; omega, fun x hx => ?_⟩, by simp; omega⟩
 rcases List.mem_append.1 hx with h | h
 ·exact s4 x h
 ·rw [List.mem_singleton] at h
  subst h
  exact ⟨by simp; omega, fun y hy => s2 y (List.mem_of_mem_take (List.mem_of_mem_drop hy))⟩
theorem t130 {F : Nat} {l : List TFile} (hF : 1000 ≤ F) (ho : ∀ f ∈ l, fOk f) : T (M130 F l) fun _ => True := by
 unfold M130
 refine .bind _ (t129 hF) fun b hb => .ite (fun _ => .some trivial) fun hc => ?_
 obtain ⟨hn, hd⟩ := hb (by simpa using hc)
 refine .loop (fun i => 0 ≤ i ∧ i ≤ l.length) (fun i => (l.length - i).toNat) (fun _ => True) (by omega) (by omega) (fun i hi => ?_) (fun i _ => .some trivial)
 unfold M130_L0
 refine .ite (fun hc => ?_) fun hc => .brk trivial
 have hc := of_decide_eq_true hc
 rw [wr (n := i + 1) (by omega) (by omega)]
 have fin : ∀ b : Bool, T (if b = true then (some (.ret 1) : Option (Lp Int Int)) else some (.go (i + 1))) (L3 (fun s' => (0 ≤ s' ∧ s' ≤ l.length) ∧ (l.length - s').toNat < (l.length - i).toNat) (fun _ => True) (fun _ => True)) := fun b => T.ite (fun _ => .ret trivial) fun _ => .go (by omega)
 refine .after (.ix (by omega) (by omega) fun x _ hx => .bindEq (m104 hF (ho x hx).1) (.ite (fun _ => .brk (fin _)) fun _ => .ite (fun h => ?_) fun _ => .brk (fin _)))
 have h := of_decide_eq_true h
 rw [wr (by omega) (by omega)]
 exact .ix (by omega) (by omega) fun _ _ _ => .ix (by omega) (by omega) fun _ _ _ => .brk (fin _)
theorem t105 {F : Nat} {l : List Id32} {d : Id32} (hF : 1000 ≤ F) (hl : l.length < 900) (gl : ∀ x ∈ l, gId x) (hd : gId d) :
    T (M105 F l d) fun r => 0 ≤ r.2.1 ∧ r.2.1 ≤ l.length ∧ r.1.length = l.length + (if r.2.2 = true then 1 else 0) ∧ ∀ x ∈ r.1, gId x := by
  unfold M105
  refine T.scan (by omega) (by omega) (fun _ => rfl) (fun x hx => .bindEq (m128 hF (gl x hx) hd) (.brk trivial)) fun r hr => ?_
  have rest : T ((slc l 0 r).bind fun x84 => (app ([] : List Id32) x84).bind fun z86 => (app z86 ([d] : List Id32)).bind fun z92 => (slc l r (l).length).bind fun x98 => (app z92 x98).bind fun z100 => some (z100, r, true))
      fun r => 0 ≤ r.2.1 ∧ r.2.1 ≤ l.length ∧ r.1.length = l.length + (if r.2.2 = true then 1 else 0) ∧ ∀ x ∈ r.1, gId x := by
    refine .ins hr (by omega) fun z h1 h2 => .some ⟨hr.1, hr.2, h1, fun x hx => ?_⟩
    rcases h2 x hx with h | rfl
    · exact gl x h
    · exact hd
  refine .after (.ite (fun hc => ?_) fun _ => .brk (T.ite (fun h => by cases h) fun _ => rest))
  have hc := of_decide_eq_true hc
  refine .ix (by omega) (by omega) fun x _ hx => .brk ?_
  refine T.ite (fun _ => .some ?_) fun _ => rest
  exact ⟨hr.1, hr.2, rfl, gl⟩
open Go.Vm
def manOk (m : TManifest) : Prop := m.Name.size ≤ 100 ∧ m.Parts.length ≤ 10 ∧ (∀ p ∈ m.Parts, p.Path.size ≤ 100 ∧ p.Ids.length ≤ 40) ∧ g_Manifest m
def pieces (l : List (List Int)) (n : Nat) : Prop := l.length ≤ n ∧ ∀ x ∈ l, x.length ≤ 300 ∧ gL gB x
structure Chg (c : TChange) : Prop where
 seq : gI c.Snap.Seq
 man : manOk c.Snap.Man
 locs : c.Snap.Locs = []
 cn : c.Chunks.length ≤ 160
 ch : ∀ x ∈ c.Chunks, gId x.Id ∧ x.Data.length ≤ 300 ∧ gL gB x.Data ∧ x.Locs = []
 sq : gI c.Seq
 vol : gI c.Vol
 it : c.Items.length ≤ 64
 iti : ∀ x ∈ c.Items, gI x.Seq ∧ gI x.Of ∧ gI x.Off ∧ gI x.Len
theorem man0 : manOk { Name := ByteArray.empty, Parts := [] } := ⟨by decide, by simp, by simp, trivial, fun _ h => by simp at h⟩
theorem t107 {F : Nat} {nm : ByteArray} {fs : List TFile} (hF : 1000 ≤ F) (hn : nm.size ≤ 100) (h6 : fs.length ≤ 6) (ho : ∀ f ∈ fs, fSm f) : T (M107 F nm fs) fun r => manOk r.1 ∧ pieces r.2.1 150 := by
 unfold M107
 refine .bindEq (m104 hF hn) (.ite (fun _ => .some ⟨man0, by simp, by simp⟩) fun _ => .bind _ (t130 hF fun f hf => (ho f hf).1) fun y _ => .ite (fun _ => .some ⟨man0, by simp, by simp⟩) fun _ => ?_)
 refine .loop (fun s => 0 ≤ s.2.2.2 ∧ s.2.2.2 ≤ fs.length ∧ (s.1.length : Int) = s.2.2.2 ∧ (∀ p ∈ s.1, (p.Path.size ≤ 100 ∧ p.Ids.length ≤ 40) ∧ g_Part p) ∧ (s.2.1.length : Int) ≤ 25 * s.2.2.2 ∧ (∀ x ∈ s.2.1, x.length ≤ 300 ∧ gL gB x) ∧ s.2.2.1.length = s.2.1.length ∧ ∀ x ∈ s.2.2.1, gId x)
  (fun s => (fs.length - s.2.2.2).toNat) (fun s => (s.1.length ≤ 6 ∧ ∀ p ∈ s.1, (p.Path.size ≤ 100 ∧ p.Ids.length ≤ 40) ∧ g_Part p) ∧ pieces s.2.1 150) (by simp; omega) (by simp) (fun s hs => ?_) (fun s hs => ?_)
 ·obtain ⟨ps, ds, ids, i⟩ := s
  simp only at hs
  obtain ⟨s1, s2, s3, s4, s5, s6, s7, s8⟩ := hs
  unfold M107_L0
  refine .ite (fun hc => ?_) fun hc => .brk ⟨⟨by simp only; omega, s4⟩, by simp only; omega, s6⟩
  have hc := of_decide_eq_true hc
  simp only at hc
  rw [wr (n := i + 1) (by omega) (by omega)]
  refine .ix (by omega) (by omega) fun x e hx => .ix (by omega) (by omega) fun x2 e2 hx2 => .ix (by omega) (by omega) fun x3 e3 hx3 => .bind _ (t131 hF (ho x3 hx3).2 (ho x3 hx3).1.2) fun y hy => ?_
  obtain ⟨y1, y2⟩ := hy
  refine .loop (fun s => 0 ≤ s.2.2.2 ∧ s.2.2.2 ≤ y.length ∧ (s.1.length : Int) = s.2.2.2 ∧ (∀ d ∈ s.1, gId d) ∧ (s.2.1.length : Int) ≤ 25 * i + s.2.2.2 ∧ (∀ x ∈ s.2.1, x.length ≤ 300 ∧ gL gB x) ∧ s.2.2.1.length = s.2.1.length ∧ ∀ x ∈ s.2.2.1, gId x)
   (fun s => (y.length - s.2.2.2).toNat) (fun s => (s.1.length ≤ 25 ∧ (∀ d ∈ s.1, gId d)) ∧ (s.2.1.length : Int) ≤ 25 * i + 25 ∧ (∀ x ∈ s.2.1, x.length ≤ 300 ∧ gL gB x) ∧ s.2.2.1.length = s.2.1.length ∧ ∀ x ∈ s.2.2.1, gId x) (by simp; omega) ⟨by simp, by simp, by simp, by simp, by simp only; omega, s6, s7, s8⟩ (fun s hs => ?_) (fun s hs => ?_)
  ·obtain ⟨q, ds, ids, j⟩ := s
   simp only at hs
   obtain ⟨r1, r2, r3, r4, r5, r6, r7, r8⟩ := hs
   unfold M107_L2
   refine .ite (fun hc2 => ?_) fun hc2 => .brk ⟨⟨by simp only; omega, r4⟩, by simp only; omega, r6, r7, r8⟩
   have hc2 := of_decide_eq_true hc2
   simp only at hc2
   rw [wr (n := j + 1) (by omega) (by omega)]
   refine .ix (by omega) (by omega) fun z _ hz => .bind _ (t108 hF (y2 z hz).1) fun d hd => .app (by simp; omega) (.bind _ (t105 hF (by simp only; omega) r8 hd) fun r hr => ?_)
   obtain ⟨q1, q2, q3, q4⟩ := hr
   simp only at q2 q3
   have hq : ∀ a ∈ q ++ [d], gId a := fun a ha => by
    rcases List.mem_append.1 ha with h | h
    ·exact r4 a h
    ·rw [List.mem_singleton] at h; exact h ▸ hd
   refine .after (.ite (fun hi => ?_) fun hi => .brk (.go ?_))
   ·rw [if_pos hi] at q3
    refine .slc (by simp only; omega) (.ix (by omega) (by omega) fun z2 _ hz2 => .app (by simp; omega) (.app (by simp; omega) (.slc (by simp only; omega) (.app (by simp; omega) (.brk (.go ?_))))))
    refine ⟨⟨by simp only; omega, by simp only; omega, by simp; omega, hq, by simp; omega, fun a ha => ?_, by simp; omega, q4⟩, by simp only; omega⟩
    simp only [List.mem_append, List.mem_singleton] at ha
    rcases ha with ((h | h) | h) | h
    ·simp at h
    ·exact r6 a (List.mem_of_mem_take (List.mem_of_mem_drop h))
    ·exact h ▸ y2 z2 hz2
    ·exact r6 a (List.mem_of_mem_take (List.mem_of_mem_drop h))
   ·rw [if_neg hi] at q3
    exact ⟨⟨by simp only; omega, by simp only; omega, by simp; omega, hq, by simp only; omega, r6, by simp only; omega, q4⟩, by simp only; omega⟩
  ·obtain ⟨q, ds2, ids2, j⟩ := s
   simp only at hs
   obtain ⟨⟨a1, a2⟩, a3, a4, a5, a6⟩ := hs
   refine .app (by simp; omega) (.go ?_)
   refine ⟨⟨by simp only; omega, by simp only; omega, by simp; omega, fun p hp => ?_, by simp only; omega, a4, a5, a6⟩, by simp only; omega⟩
   rcases List.mem_append.1 hp with h | h
   ·exact s4 p h
   ·rw [List.mem_singleton] at h
    subst h
    have := (ho x2 hx2).2
    exact ⟨⟨(ho x hx).1.1, by simp only; omega⟩, trivial, by simp only [gI]; omega, a2⟩
 ·obtain ⟨ps, ds, ids, i⟩ := s
  exact .some ⟨⟨hn, by have := hs.1.1; simp only at this ⊢; omega, fun p hp => (hs.1.2 p hp).1, trivial, fun p hp => (hs.1.2 p hp).2⟩, hs.2⟩
theorem bstr1 (n : Int) : ∃ b, bstr [IntKind.wrap .u8 n] = some b ∧ b.size = 1 := by
 have h := wrU8 n
 refine ⟨_, by unfold bstr; rw [if_pos (by simp; omega)], ?_⟩
 rfl
structure Ok (c : TCatalog) : Prop where
 sm : Sm c
 rg : Rng c
theorem gI_wr (n : Int) : gI (IntKind.wrap .i64 n) := wrI n
theorem chg0 {k s : Int} {v : Int} (hs : gI s) (hv : gI v) {l : List TItem} (h6 : l.length ≤ 64) (hl : ∀ x ∈ l, gI x.Seq ∧ gI x.Of ∧ gI x.Off ∧ gI x.Len) :
    Chg { Kind := k, Snap := { Seq := 0, Man := { Name := ByteArray.empty, Parts := [] }, Locs := [] }, Chunks := [], Seq := s, Vol := v, Items := l } :=
  ⟨by simp [gI], man0, rfl, by simp, by simp, hs, hv, h6, hl⟩
theorem t66 {F : Nat} {c : TCatalog} {a : TAct} (hF : 1000 ≤ F) (hc : Ok c) (ho : ∀ f ∈ a.Tree, fOk f) : T (M66 F c a) fun r => Chg r.1 := by
  have g0 : gI 0 := by simp [gI]
  have c1 := hc.rg.ch
  have c2 := hc.rg.sn
  have c3 := hc.rg.ex
  have c4 := hc.rg.vo
  have gq := hc.sm.g.1
  unfold M66
  obtain ⟨b, hb, hb1⟩ := bstr1 (IntKind.wrap .u64 (97 + ((IntKind.wrap .u64 a.N).tmod 5)))
  rw [hb]
  have e1 : (ByteArray.mk #[110]).size = 1 := rfl
  have e2 : ((ByteArray.mk #[110]) ++ b).size = 2 := by rw [ByteArray.size_append, e1, hb1]
  have gv : ∀ j : Int, gI j → ∀ (k : Int → Option (TChange × Bool)), (∀ j, gI j → T (k j) fun r => Chg r.1) → T (k j) fun r => Chg r.1 := fun j h k hk => hk j h
  refine .bindEq rfl (.grd (by rw [e1, hb1]; rfl) ?_)
  refine .after (T.mono (P := L3 (fun _ => False) gI (fun _ => False)) (.ite (fun h => ?_) fun _ => .brk g0) fun j hj => ?_)
  · have h := of_decide_eq_true h
    refine .grd ?_ (.brk (gI_wr _))
    rw [wru (by omega)]
    simp
    intro h2
    rw [h2] at h
    simp at h
  cases j with
  | go s => exact hj
  | ret s => exact hj.elim
  | brk v =>
  replace hj : gI v := hj
  refine T.after (T.mono (P := L3 (fun _ => False) (fun _ => True) (fun _ => False)) (.ite (fun _ => .brk trivial) fun _ => .brk trivial) fun j hj2 => ?_)
  cases j with
  | go s => exact hj2
  | ret s => exact hj2.elim
  | brk v2 =>
  refine T.ite (fun _ => ?_) fun _ => ?_
  · refine .bind _ (t106 hF ho) fun y hy => .ite (fun _ => .some (chg0 g0 g0 (by simp) (by simp))) fun h0 => ?_
    obtain ⟨y1, y2⟩ := hy (by simpa using h0)
    refine .bind _ (t107 hF (by omega) y1 y2) fun m hm => ?_
    obtain ⟨m1, m2, m3⟩ := hm
    refine .loop (fun s => 0 ≤ s.2 ∧ s.2 ≤ m.2.1.length ∧ (s.1.length : Int) ≤ s.2 ∧ ∀ x ∈ s.1, gId x.Id ∧ x.Data.length ≤ 300 ∧ gL gB x.Data ∧ x.Locs = []) (fun s => (m.2.1.length - s.2).toNat) (fun s => s.1.length ≤ 160 ∧ ∀ x ∈ s.1, gId x.Id ∧ x.Data.length ≤ 300 ∧ gL gB x.Data ∧ x.Locs = []) (by simp; omega) (by simp) (fun s hs => ?_) (fun s hs => ?_)
    · obtain ⟨q, i⟩ := s
      simp only at hs
      unfold M66_L1
      refine .ite (fun h => ?_) fun _ => .brk ⟨by simp only; omega, hs.2.2.2⟩
      have h := of_decide_eq_true h
      simp only at h
      rw [wr (n := i + 1) (by omega) (by omega)]
      obtain ⟨n, hn, _⟩ := m64 (F := F) (c := c) (d := idZ) hF (by omega)
      refine .ix (by omega) (by omega) fun x _ hx => .bind _ (t108 hF (m3 x hx).1) fun d hd => ?_
      obtain ⟨n, hn, _⟩ := m64 (F := F) (c := c) (d := d) hF (by omega)
      refine .bindEq hn (.after (.ite (fun _ => .ix (by omega) (by omega) fun x2 _ hx2 => .app (by simp; omega) (.brk (.go ?_))) fun _ => .brk (.go ⟨⟨by simp only; omega, by simp only; omega, by simp only; omega, hs.2.2.2⟩, by simp only; omega⟩)))
      refine ⟨⟨by simp only; omega, by simp only; omega, by simp; omega, fun y hy => ?_⟩, by simp only; omega⟩
      rcases List.mem_append.1 hy with h | h
      · exact hs.2.2.2 y h
      · rw [List.mem_singleton] at h
        subst h
        exact ⟨hd, (m3 x2 hx2).1, (m3 x2 hx2).2, rfl⟩
    · obtain ⟨q, i⟩ := s
      exact .some ⟨gq, m1, rfl, hs.1, hs.2, g0, g0, by simp, by simp⟩
  · refine T.after (T.mono (P := L3 (fun _ => False) (fun _ => True) (fun _ => False)) (.ite (fun _ => .brk trivial) fun _ => .brk trivial) fun j hj2 => ?_)
    cases j with
    | go s => exact hj2
    | ret s => exact hj2.elim
    | brk v3 =>
    refine T.ite (fun _ => ?_) fun _ => ?_
    · refine .ite (fun _ => .some (chg0 g0 g0 (by simp) (by simp))) fun h0 => ?_
      have h0 : 0 < c.Snaps.length := by
        have : ¬ ((c.Snaps.length : Int) = 0) := by simpa using h0
        omega
      obtain ⟨k, hk, ek⟩ := idxW a.N h0 (by omega)
      rw [wru (by omega), ek]
      refine .grd (by simp; intro h; rw [h] at h0; simp at h0) (.ix (by omega) (by omega) fun x _ hx => ?_)
      have gx := hc.sm.g.2.1 x hx
      refine .ite (fun _ => .some (chg0 gx.1 g0 (by simp) (by simp))) fun _ => .some (chg0 g0 hj (by simp) fun y hy => ?_)
      rw [List.mem_singleton] at hy
      subst hy
      exact ⟨gq, gx.1, by simp [gI], by simp [gI]⟩
    · refine T.after (T.mono (P := L3 (fun _ => False) (fun _ => True) (fun _ => False)) (.ite (fun _ => .brk trivial) fun _ => .brk trivial) fun j hj2 => ?_)
      cases j with
      | go s => exact hj2
      | ret s => exact hj2.elim
      | brk v4 =>
      refine T.ite (fun _ => ?_) fun _ => .ite (fun _ => .some (chg0 g0 hj (by simp) (by simp))) fun _ => .some (chg0 g0 hj (by simp) (by simp))
      have w1 : IntKind.wrap .i64 ((c.Chunks.length : Int) + (c.Snaps.length : Int)) = (c.Chunks.length : Int) + (c.Snaps.length : Int) := wr (by omega) (by omega)
      have w2 : IntKind.wrap .i64 ((c.Chunks.length : Int) + (c.Snaps.length : Int) + (c.Exps.length : Int)) = (c.Chunks.length : Int) + (c.Snaps.length : Int) + (c.Exps.length : Int) := wr (by omega) (by omega)
      refine .loop (fun s => 0 ≤ s.2.2 ∧ s.2.2 ≤ 420 ∧ s.1.length ≤ 64 ∧ (∀ x ∈ s.1, gI x.Seq ∧ gI x.Of ∧ gI x.Off ∧ gI x.Len) ∧ gI s.2.1) (fun s => (420 - s.2.2).toNat) (fun s => s.1.length ≤ 64 ∧ ∀ x ∈ s.1, gI x.Seq ∧ gI x.Of ∧ gI x.Off ∧ gI x.Len) (by simp; omega) (by simp [gI]) (fun s hs => ?_) (fun s hs => ?_)
      · obtain ⟨q, o, i⟩ := s
        simp only at hs
        obtain ⟨s1, s2, s3, s4, s5⟩ := hs
        unfold M66_L3
        simp only [w1, w2]
        refine .after (.ite (fun h => .brk (T.ite (fun h2 => ?_) fun _ => .brk ⟨s3, s4⟩)) fun _ => .brk (T.ite (fun h => by cases h) fun _ => .brk ⟨s3, s4⟩))
        have h := of_decide_eq_true h
        have h2 := of_decide_eq_true h2
        rw [wr (n := i + 1) (by omega) (by omega)]
        have put : ∀ y : TItem, (gI y.Seq ∧ gI y.Of ∧ gI y.Off ∧ gI y.Len) → T ((app q ([y] : List TItem)).bind fun z1648 => some (.brk (z1648, IntKind.wrap .i64 (o + 20))) : Option (Lp (List TItem × Int) (Lp (List TItem × Int × Int) (TChange × Bool))))
            (L3 (fun _ => False) (fun s => s.1.length ≤ 64 ∧ (∀ x ∈ s.1, gI x.Seq ∧ gI x.Of ∧ gI x.Off ∧ gI x.Len) ∧ gI s.2) (fun _ => False)) := fun y hy => by
          refine .app (by simp; omega) (.brk ⟨by simp; omega, fun x hx => ?_, gI_wr _⟩)
          rcases List.mem_append.1 hx with h | h
          · exact s4 x h
          · rw [List.mem_singleton] at h
            exact h ▸ hy
        have g20 : gI 20 := by simp [gI]
        refine .after (T.mono (P := L3 (fun _ => False) (fun s => s.1.length ≤ 64 ∧ (∀ x ∈ s.1, gI x.Seq ∧ gI x.Of ∧ gI x.Off ∧ gI x.Len) ∧ gI s.2) (fun _ => False)) (.after ?_) fun j hj3 => ?_)
        · have mid : T (after (if (decide (i < (c.Chunks.length : Int))) = true then ((ix c.Chunks i).bind fun x1596 => some (.brk { { ({ Kind := 0, Id := idZ, Seq := 0, Of := 0, Off := o, Len := 20 } : TItem) with Kind := 1 } with Id := x1596.Id })) else after (if (decide (i < (c.Chunks.length : Int) + (c.Snaps.length : Int))) = true then ((ix c.Snaps (IntKind.wrap .i64 (i - (c.Chunks.length : Int)))).bind fun x1629 => some (.brk { { ({ Kind := 0, Id := idZ, Seq := 0, Of := 0, Off := o, Len := 20 } : TItem) with Kind := 2 } with Seq := x1629.Seq })) else (ix c.Exps (IntKind.wrap .i64 ((IntKind.wrap .i64 (i - (c.Chunks.length : Int))) - (c.Snaps.length : Int)))).bind fun x1634 => some (.brk { { { ({ Kind := 0, Id := idZ, Seq := 0, Of := 0, Off := o, Len := 20 } : TItem) with Kind := 3 } with Seq := x1634.Seq } with Of := x1634.Of }) : Option (Lp (TItem) (Lp (TItem) (Lp ((List TItem) × Int) (Lp ((List TItem) × Int × Int) (TChange × Bool)))))) fun j1623 => some (.brk j1623) : Option (Lp (TItem) (Lp ((List TItem) × Int) (Lp ((List TItem) × Int × Int) (TChange × Bool))))) fun j1590 => (app q ([j1590] : List TItem)).bind fun z1648 => some (.brk (z1648, IntKind.wrap .i64 (o + 20))) : Option (Lp ((List TItem) × Int) (Lp ((List TItem) × Int × Int) (TChange × Bool))))
              (L3 (fun _ => False) (fun s => s.1.length ≤ 64 ∧ (∀ x ∈ s.1, gI x.Seq ∧ gI x.Of ∧ gI x.Off ∧ gI x.Len) ∧ gI s.2) (fun _ => False)) := by
            refine .after (.ite (fun h3 => ?_) fun h3 => .after (.ite (fun h4 => ?_) fun h4 => ?_))
            · have h3 := of_decide_eq_true h3
              exact .ix (by omega) (by omega) fun x _ _ => .brk (put _ ⟨g0, g0, s5, g20⟩)
            · have h4 := of_decide_eq_true h4
              have h3 : ¬ (i < (c.Chunks.length : Int)) := by simpa using h3
              rw [wr (n := i - (c.Chunks.length : Int)) (by omega) (by omega)]
              exact .ix (by omega) (by omega) fun x _ hx => .brk (.brk (put _ ⟨(hc.sm.g.2.1 x hx).1, g0, s5, g20⟩))
            · have h4 : ¬ (i < (c.Chunks.length : Int) + (c.Snaps.length : Int)) := by simpa using h4
              rw [wr (n := i - (c.Chunks.length : Int)) (by omega) (by omega), wr (n := i - (c.Chunks.length : Int) - (c.Snaps.length : Int)) (by omega) (by omega)]
              exact .ix (by omega) (by omega) fun x _ hx => .brk (.brk (put _ ⟨(hc.sm.g.2.2.2.1 x hx).1, (hc.sm.g.2.2.2.1 x hx).2.1, s5, g20⟩))
          refine .ite (fun h3 => ?_) fun _ => .brk (T.ite (fun h => by cases h) fun _ => mid)
          have h3 := of_decide_eq_true h3
          exact .ix (by omega) (by omega) fun x _ _ => .brk (T.ite (fun _ => .brk ⟨s3, s4, s5⟩) fun _ => mid)
        · cases j with
          | go s => exact hj3
          | ret s => exact hj3.elim
          | brk s =>
            obtain ⟨q2, o2⟩ := s
            exact .go ⟨⟨by simp only; omega, by simp only; omega, hj3.1, hj3.2.1, hj3.2.2⟩, by simp only; omega⟩
      · obtain ⟨q, o, i⟩ := s
        exact .some (chg0 g0 hj hs.1 hs.2)
open Go.Vm
def lcOk (n : Nat) (l : List TLoc) : Prop := l.length ≤ n ∧ gL g_Loc l
def snOk (n : Nat) (s : TSnap) : Prop := gI s.Seq ∧ manOk s.Man ∧ lcOk n s.Locs
def chOk (n : Nat) (x : TChunk) : Prop := gId x.Id ∧ x.Data.length ≤ 300 ∧ gL gB x.Data ∧ lcOk n x.Locs
def exOk (n : Nat) (x : TExp) : Prop := gI x.Seq ∧ gI x.Of ∧ lcOk n x.Locs
structure Md (n m : Nat) (q : Int) (s : List TSnap) (k : List TChunk) (e : List TExp) (v : List TVol) : Prop where
 q : gI q
 sn : s.length ≤ 9
 s : ∀ x ∈ s, snOk n x
 kn : k.length ≤ 360
 k : ∀ x ∈ k, chOk n x
 en : e.length ≤ m
 e : ∀ x ∈ e, exOk n x
 vn : v.length ≤ 8
 v : ∀ x ∈ v, g_Vol x
theorem lcOk.mono {n n' : Nat} {l : List TLoc} (h : lcOk n l) (hn : n ≤ n') : lcOk n' l := ⟨Nat.le_trans h.1 hn, h.2⟩
theorem snOk.mono {n n' : Nat} {x : TSnap} (h : snOk n x) (hn : n ≤ n') : snOk n' x := ⟨h.1, h.2.1, h.2.2.mono hn⟩
theorem chOk.mono {n n' : Nat} {x : TChunk} (h : chOk n x) (hn : n ≤ n') : chOk n' x := ⟨h.1, h.2.1, h.2.2.1, h.2.2.2.mono hn⟩
theorem exOk.mono {n n' : Nat} {x : TExp} (h : exOk n x) (hn : n ≤ n') : exOk n' x := ⟨h.1, h.2.1, h.2.2.mono hn⟩
theorem Md.mono {n m n' m' : Nat} {q : Int} {s : List TSnap} {k : List TChunk} {e : List TExp} {v : List TVol} (h : Md n m q s k e v) (hn : n ≤ n') (hm : m ≤ m') : Md n' m' q s k e v :=
 ⟨h.q, h.sn, fun x hx => (h.s x hx).mono hn, h.kn, fun x hx => (h.k x hx).mono hn, Nat.le_trans h.en hm, fun x hx => (h.e x hx).mono hn, h.vn, h.v⟩
theorem Md.sm {n m : Nat} {q : Int} {s : List TSnap} {k : List TChunk} {e : List TExp} {v : List TVol} (h : Md n m q s k e v) (hn : n ≤ 300) (hm : m ≤ 300) : Sm { Seq := q, Snaps := s, Chunks := k, Exps := e, Vols := v } where
 g := ⟨h.q, fun x hx => ⟨(h.s x hx).1, (h.s x hx).2.1.2.2.2, (h.s x hx).2.2.2⟩, fun x hx => ⟨(h.k x hx).1, trivial, (h.k x hx).2.2.1, (h.k x hx).2.2.2.2⟩, fun x hx => ⟨(h.e x hx).1, (h.e x hx).2.1, (h.e x hx).2.2.2⟩, h.v⟩
 sn := Nat.le_trans h.sn (by omega)
 ch := Nat.le_trans h.kn (by omega)
 ex := Nat.le_trans h.en hm
 vo := Nat.le_trans h.vn (by omega)
 sl := fun x hx => Nat.le_trans (h.s x hx).2.2.1 hn
 cl := fun x hx => ⟨Nat.le_trans (h.k x hx).2.2.2.1 hn, (h.k x hx).2.1⟩
 el := fun x hx => Nat.le_trans (h.e x hx).2.2.1 hn
 man := fun x hx => ⟨(h.s x hx).2.1.1, (h.s x hx).2.1.2.1, (h.s x hx).2.1.2.2.1⟩
theorem locsB_len {c : TCatalog} {l : List TLoc} (h : locsB c l = true) : l.length ≤ 200 := by
 unfold locsB at h
 simp only [Bool.and_eq_true, decide_eq_true_eq] at h
 exact h.1
theorem Ok.md {c : TCatalog} (h : Ok c) : Md 200 200 c.Seq c.Snaps c.Chunks c.Exps c.Vols where
 q := h.sm.g.1
 sn := Nat.le_trans h.rg.sn (by omega)
 s := fun x hx => ⟨(h.sm.g.2.1 x hx).1, ⟨(h.sm.man x hx).1, (h.sm.man x hx).2.1, (h.sm.man x hx).2.2, (h.sm.g.2.1 x hx).2.1⟩, locsB_len (h.rg.s x hx).2.2.2, (h.sm.g.2.1 x hx).2.2⟩
 kn := Nat.le_trans h.rg.ch (by omega)
 k := fun x hx => ⟨(h.sm.g.2.2.1 x hx).1, (h.sm.cl x hx).2, (h.sm.g.2.2.1 x hx).2.2.1, locsB_len (h.rg.k x hx).2, (h.sm.g.2.2.1 x hx).2.2.2⟩
 en := h.rg.ex
 e := fun x hx => ⟨(h.sm.g.2.2.2.1 x hx).1, (h.sm.g.2.2.2.1 x hx).2.1, locsB_len (h.rg.e x hx).2.2.2.2, (h.sm.g.2.2.2.1 x hx).2.2⟩
 vn := h.rg.vo
 v := h.sm.g.2.2.2.2
theorem t64 {F : Nat} {c : TCatalog} {d : Id32} (hF : 1000 ≤ F) (hl : c.Chunks.length < 1000) : T (M64 F c d) fun n => n < c.Chunks.length := by
 unfold M64
 refine .loop (fun i => 0 ≤ i ∧ i ≤ c.Chunks.length) (fun i => (c.Chunks.length - i).toNat) (fun _ => True) (by omega) (by omega) (fun i hi => ?_) (fun i _ => .some (by omega))
 unfold M64_L0
 refine .ite (fun hc => ?_) fun _ => .brk trivial
 have hc := of_decide_eq_true hc
 rw [wr (by omega) (by omega)]
 exact .ix (by omega) (by omega) fun x _ _ => .ite (fun _ => .ret hc) fun _ => .go (by omega)
theorem t148 {F : Nat} {a b : TLoc} : T (M148 F a b) fun _ => True := by
 unfold M148
 exact .ite (fun _ => .some trivial) fun _ => .ite (fun _ => .some trivial) fun _ => .ite (fun _ => .some trivial) fun _ => .some trivial
theorem t146 {F n : Nat} {l : List TLoc} {x : TLoc} (hF : 1000 ≤ F) (h : lcOk n l) (hn : n ≤ 300) (hx : g_Loc x) : T (M146 F l x) fun r => lcOk (n + 1) r := by
 have h1 := h.1
 unfold M146
 refine T.scan (by omega) (by omega) (fun _ => rfl) (fun y _ => .bind _ t148 fun _ _ => .brk trivial) fun r hr => ?_
 refine .ins hr (by omega) fun z z1 z2 => .some ⟨by omega, fun y hy => ?_⟩
 rcases z2 y hy with h2 | rfl
 ·exact h.2 y h2
 ·exact hx
theorem t139 {F n : Nat} {l : List TLoc} {v : Int} (hF : 1000 ≤ F) (h : lcOk n l) (hn : n ≤ 300) : T (M139 F l v) fun r => lcOk n r := by
 have h1 := h.1
 unfold M139
 refine .loop (fun s => 0 ≤ s.2 ∧ s.2 ≤ l.length ∧ (s.1.length : Int) ≤ s.2 ∧ gL g_Loc s.1) (fun s => (l.length - s.2).toNat) (fun s => lcOk n s.1) (by simp; omega) ⟨by simp, by simp, by simp, fun _ h => by simp at h⟩ (fun s hs => ?_) (fun s hs => .some hs)
 obtain ⟨q, i⟩ := s
 simp only at hs
 unfold M139_L0
 refine .ite (fun hc => ?_) fun _ => .brk ⟨by simp only; omega, hs.2.2.2⟩
 have hc := of_decide_eq_true hc
 simp only at hc
 rw [wr (n := i + 1) (by omega) (by omega)]
 refine .ix (by omega) (by omega) fun x _ hx => .after (.ite (fun _ => .ix (by omega) (by omega) fun y _ hy => .app (by simp; omega) (.brk (.go ?_))) fun _ => .brk (.go ⟨⟨by simp only; omega, by simp only; omega, by simp only; omega, hs.2.2.2⟩, by simp only; omega⟩))
 refine ⟨⟨by simp only; omega, by simp only; omega, by simp; omega, fun z hz => ?_⟩, by simp only; omega⟩
 rcases List.mem_append.1 hz with h2 | h2
 ·exact hs.2.2.2 z h2
 ·rw [List.mem_singleton] at h2
  exact h2 ▸ h.2 y hy
theorem t137 {F : Nat} {c : TCatalog} {i a b : Int} : T (M137 F c i a b) fun r => r = true → 0 ≤ i ∧ i < c.Vols.length := by
 unfold M137
 refine .after (.ite (fun h0 => .ite (fun h1 => ?_) fun _ => .brk (.some fun h => by cases h)) fun _ => .brk (.some fun h => by cases h))
 have h0 := of_decide_eq_true h0
 have h1 := of_decide_eq_true h1
 exact .ix (by omega) (by omega) fun x _ hx => .ite (fun _ => .brk (.some fun _ => ⟨h0, h1⟩)) fun _ => .ix (by omega) (by omega) fun y _ _ => .brk (.some fun _ => ⟨h0, h1⟩)
theorem t136 {F n m : Nat} {q : Int} {s : List TSnap} {k : List TChunk} {e : List TExp} {v : List TVol} {z : Int} (hF : 1000 ≤ F) (h : Md n m q s k e v) (hn : n ≤ 300) (hm : m ≤ 300) :
    T (M136 F { Seq := q, Snaps := s, Chunks := k, Exps := e, Vols := v } z) fun r => Md n m q r.2.1 r.2.2 e v := by
  have h1 := h.sn
  have h2 := h.kn
  unfold M136
  refine .loop (fun s' => 0 ≤ s'.2 ∧ s'.2 ≤ s.length ∧ (s'.1.length : Int) ≤ s'.2 ∧ ∀ x ∈ s'.1, snOk n x) (fun s' => (s.length - s'.2).toNat) (fun s' => s'.1.length ≤ 9 ∧ ∀ x ∈ s'.1, snOk n x) (by simp; omega) (by simp) (fun s' hs => ?_) (fun s' hs => ?_)
  · obtain ⟨a, i⟩ := s'
    simp only at hs
    unfold M136_L0
    refine .ite (fun hc => ?_) fun _ => .brk ⟨by simp only; omega, hs.2.2.2⟩
    have hc := of_decide_eq_true hc
    simp only at hc
    rw [wr (n := i + 1) (by omega) (by omega)]
    refine .ix (by omega) (by simp only; omega) fun x _ hx => .after (.ite (fun _ => .ix (by omega) (by simp only; omega) fun y _ hy => .app (by simp; omega) (.brk (.go ?_))) fun _ => .brk (.go ⟨⟨by simp only; omega, by simp only; omega, by simp only; omega, hs.2.2.2⟩, by simp only; omega⟩))
    refine ⟨⟨by simp only; omega, by simp only; omega, by simp; omega, fun w hw => ?_⟩, by simp only; omega⟩
    rcases List.mem_append.1 hw with h3 | h3
    · exact hs.2.2.2 w h3
    · rw [List.mem_singleton] at h3
      exact h3 ▸ h.s y hy
  · obtain ⟨a, i0⟩ := s'
    have M1 : Md n m q a k e v := ⟨h.q, hs.1, hs.2, h.kn, h.k, h.en, h.e, h.vn, h.v⟩
    refine .ite (fun _ => .some h) fun _ => ?_
    refine .loop (fun s' => 0 ≤ s'.2 ∧ s'.2 ≤ k.length ∧ (s'.1.length : Int) ≤ s'.2 ∧ ∀ x ∈ s'.1, chOk n x) (fun s' => (k.length - s'.2).toNat) (fun s' => s'.1.length ≤ 360 ∧ ∀ x ∈ s'.1, chOk n x) (by simp; omega) (by simp) (fun s' hs2 => ?_) (fun s' hs2 => .some ⟨h.q, hs.1, hs.2, hs2.1, hs2.2, h.en, h.e, h.vn, h.v⟩)
    obtain ⟨b, i⟩ := s'
    simp only at hs2
    unfold M136_L2
    refine .ite (fun hc => ?_) fun _ => .brk ⟨by simp only; omega, hs2.2.2.2⟩
    have hc := of_decide_eq_true hc
    simp only at hc
    rw [wr (n := i + 1) (by omega) (by omega)]
    have put : ∀ y : TChunk, chOk n y → T ((app b ([y] : List TChunk)).bind fun z490 => some (.brk z490) : Option (Lp (List TChunk) (Lp (List TChunk × Int) (Bool × List TSnap × List TChunk))))
        (L3 (fun _ => False) (fun b' : List TChunk => b'.length ≤ b.length + 1 ∧ ∀ x ∈ b', chOk n x) (fun b' : Lp (List TChunk × Int) (Bool × List TSnap × List TChunk) => ∃ s, b' = .brk s ∧ s.1.length ≤ 360 ∧ ∀ x ∈ s.1, chOk n x)) := fun y hy => by
      refine .app (by simp; omega) (.brk ⟨by simp, fun x hx => ?_⟩)
      rcases List.mem_append.1 hx with h3 | h3
      · exact hs2.2.2.2 x h3
      · rw [List.mem_singleton] at h3
        exact h3 ▸ hy
    refine .after (T.mono (P := L3 (fun _ => False) (fun b' : List TChunk => b'.length ≤ b.length + 1 ∧ ∀ x ∈ b', chOk n x) (fun b' : Lp (List TChunk × Int) (Bool × List TSnap × List TChunk) => ∃ s, b' = .brk s ∧ s.1.length ≤ 360 ∧ ∀ x ∈ s.1, chOk n x)) (.ix (by omega) (by simp only; omega) fun x _ hx => .bindEq (m65 hF (M1.sm hn hm)) (.after ?_)) fun j hj => ?_)
    · have gx := h.k x hx
      refine .ite (fun _ => .ite (fun _ => .ret (show b.length ≤ b.length + 1 ∧ _ from ⟨by omega, hs2.2.2.2⟩)) fun _ => .brk (put _ ⟨gx.1, by simp, fun _ h => by simp at h, gx.2.2.2⟩)) fun _ => .brk (put _ gx)
    · cases j with
      | go s => exact hj
      | ret s =>
        obtain ⟨s', rfl, h3⟩ := hj
        exact h3
      | brk b' =>
        have := hj.1
        exact .go ⟨⟨by simp only; omega, by simp only; omega, by simp only; omega, hj.2⟩, by simp only; omega⟩
open Go.Vm
section
variable {n m : Nat} {q : Int} {s : List TSnap} {k : List TChunk} {e : List TExp} {v : List TVol}
theorem Md.setK (h : Md n m q s k e v) {i : Nat} {x : TChunk} (hx : chOk n x) : Md n m q s (k.set i x) e v :=
 ⟨h.q, h.sn, h.s, by simp [h.kn], fun y hy => (mem_set hy).elim (h.k y) fun e => e ▸ hx, h.en, h.e, h.vn, h.v⟩
theorem Md.setS (h : Md n m q s k e v) {i : Nat} {x : TSnap} (hx : snOk n x) : Md n m q (s.set i x) k e v :=
 ⟨h.q, by simp [h.sn], fun y hy => (mem_set hy).elim (h.s y) fun e => e ▸ hx, h.kn, h.k, h.en, h.e, h.vn, h.v⟩
theorem Md.setE (h : Md n m q s k e v) {i : Nat} {x : TExp} (hx : exOk n x) : Md n m q s k (e.set i x) v :=
 ⟨h.q, h.sn, h.s, h.kn, h.k, by simp [h.en], fun y hy => (mem_set hy).elim (h.e y) fun e => e ▸ hx, h.vn, h.v⟩
theorem Md.setV (h : Md n m q s k e v) {i : Nat} {x : TVol} (hx : g_Vol x) : Md n m q s k e (v.set i x) :=
 ⟨h.q, h.sn, h.s, h.kn, h.k, h.en, h.e, by simp [h.vn], fun y hy => (mem_set hy).elim (h.v y) fun e => e ▸ hx⟩
end
theorem t138 {F n m : Nat} {q : Int} {s : List TSnap} {k : List TChunk} {e : List TExp} {v : List TVol} {it : TItem} {lc : TLoc} (hF : 1000 ≤ F) (h : Md n m q s k e v) (hn : n < 300) (hm : m < 300) (hl : g_Loc lc) (h1 : gI it.Seq) (h2 : gI it.Of) :
    T (M138 F { Seq := q, Snaps := s, Chunks := k, Exps := e, Vols := v } it lc) fun r => Md (n + 1) (m + 1) r.2.1 r.2.2.1 r.2.2.2.1 r.2.2.2.2 v := by
  have hsn := h.sn
  have hkn := h.kn
  have hen := h.en
  have H : Md (n + 1) (m + 1) q s k e v := h.mono (by omega) (by omega)
  have H1 : Md (n + 1) m q s k e v := h.mono (by omega) (by omega)
  unfold M138
  refine .after (T.mono (P := L3 (fun _ => False) (fun j => Md (n + 1) (m + 1) j.1 s j.2.1 j.2.2 v) fun r => Md (n + 1) (m + 1) r.2.1 r.2.2.1 r.2.2.2.1 r.2.2.2.2 v) (.ite (fun _ => ?_) fun _ => .ite (fun _ => ?_) fun _ => ?_) fun j hj => ?_)
  · refine .bind _ (t64 hF (by simp only; omega)) fun y hy => .ite (fun _ => .ret H) fun hc => ?_
    have hc : ¬ (y < 0) := by simpa using hc
    simp only at hy
    refine .ix (by omega) (by simp only; omega) fun x _ hx => .bind _ (t146 hF (h.k x hx).2.2.2 (by omega) hl) fun z hz => .ix (by omega) (by simp only; omega) fun x2 _ hx2 => .brk ?_
    exact H.setK ⟨(h.k x2 hx2).1, (h.k x2 hx2).2.1, (h.k x2 hx2).2.2.1, hz⟩
  · refine .loop (fun i => 0 ≤ i ∧ i ≤ s.length) (fun i => (s.length - i).toNat) (fun _ => True) (by omega) (by omega) (fun i hi => ?_) (fun _ _ => .ret H)
    unfold M138_L3
    refine .ite (fun hc => ?_) fun _ => .brk trivial
    have hc := of_decide_eq_true hc
    simp only at hc
    rw [wr (n := i + 1) (by omega) (by omega)]
    refine .ix (by omega) (by simp only; omega) fun x _ hx => .ite (fun _ => ?_) fun _ => .go (by omega)
    refine .ix (by omega) (by simp only; omega) fun x _ hx => .bind _ (t146 hF (h.s x hx).2.2 (by omega) hl) fun z hz => .ix (by omega) (by simp only; omega) fun x2 _ hx2 => .ret ?_
    exact H.setS (x := { x2 with Locs := z }) ⟨(h.s x2 hx2).1, (h.s x2 hx2).2.1, hz⟩
  · refine T.scan (by simp only; omega) (by simp only; omega) (fun _ => rfl) (fun y _ => .brk trivial) fun r hr => ?_
    simp only at hr
    have rest : T ((slc e 0 r).bind fun x441 => (app ([] : List TExp) x441).bind fun z443 => (app z443 ([({ Seq := it.Seq, Of := it.Of, Locs := ([lc] : List TLoc) } : TExp)] : List TExp)).bind fun z451 => (slc e r (e).length).bind fun x459 => (app z451 x459).bind fun z461 => after (if (decide (q ≤ it.Seq)) = true then (some (.brk (decide (it.Seq < 4611686018427387904)))) else some (.brk false) : Option (Lp (Bool) (Lp (Int × (List TChunk) × (List TExp)) (Bool × Int × (List TSnap) × (List TChunk) × (List TExp))))) fun j471 => after (if j471 = true then (some (.brk (IntKind.wrap .i64 (it.Seq + 1)))) else some (.brk q) : Option (Lp (Int) (Lp (Int × (List TChunk) × (List TExp)) (Bool × Int × (List TSnap) × (List TChunk) × (List TExp))))) fun j476 => some (.brk (j476, k, z461)))
        (L3 (fun _ => False) (fun j => Md (n + 1) (m + 1) j.1 s j.2.1 j.2.2 v) fun r => Md (n + 1) (m + 1) r.2.1 r.2.2.1 r.2.2.2.1 r.2.2.2.2 v) := by
      refine .ins (by omega) (by omega) fun z z1 z2 => ?_
      have fin : ∀ q' : Int, gI q' → Md (n + 1) (m + 1) q' s k z v := fun q' hq => ⟨hq, H.sn, H.s, H.kn, H.k, by omega, fun x hx => by
        rcases z2 x hx with h3 | rfl
        · exact H.e x h3
        · exact ⟨h1, h2, by simp, fun y hy => by rw [List.mem_singleton] at hy; exact hy ▸ hl⟩, H.vn, H.v⟩
      have fin2 : ∀ b : Bool, T (after (if b = true then (some (.brk (IntKind.wrap .i64 (it.Seq + 1)))) else some (.brk q) : Option (Lp (Int) (Lp (Int × (List TChunk) × (List TExp)) (Bool × Int × (List TSnap) × (List TChunk) × (List TExp))))) fun j476 => some (.brk (j476, k, z)))
          (L3 (fun _ => False) (fun j => Md (n + 1) (m + 1) j.1 s j.2.1 j.2.2 v) fun r => Md (n + 1) (m + 1) r.2.1 r.2.2.1 r.2.2.2.1 r.2.2.2.2 v) := fun b => .after (.ite (fun _ => .brk (.brk (fin _ (gI_wr _)))) fun _ => .brk (.brk (fin _ h.q)))
      exact .after (.ite (fun _ => .brk (fin2 _)) fun _ => .brk (fin2 _))
    refine .after (.ite (fun hc => ?_) fun _ => .brk (T.ite (fun h => by cases h) fun _ => rest))
    have hc := of_decide_eq_true hc
    simp only at hc
    refine .ix (by omega) (by simp only; omega) fun x _ hx => .brk (T.ite (fun _ => ?_) fun _ => rest)
    refine .ix (by omega) (by simp only; omega) fun x _ hx => .bind _ (t146 hF (h.e x hx).2.2 (by omega) hl) fun z hz => .ix (by omega) (by simp only; omega) fun x2 _ hx2 => .ret ?_
    exact H.setE (x := { x2 with Locs := z }) ⟨(h.e x2 hx2).1, (h.e x2 hx2).2.1, hz⟩
  · cases j with
    | go _ => exact hj
    | brk j => exact .some hj
    | ret r => exact hj
theorem t135 {F n : Nat} {k : List TChunk} {x : TChunk} (hF : 1000 ≤ F) (hk : k.length ≤ 390) (h : ∀ y ∈ k, chOk n y) (hx : chOk n x) (hn : n ≤ 300) : T (M135a F k x) fun r => r.length ≤ k.length + 1 ∧ ∀ y ∈ r, chOk n y := by
 unfold M135a
 refine T.scan (by omega) (by omega) (fun _ => rfl) (fun y hy => .bindEq (m60 hF (h y hy).1 hx.1) (.brk trivial)) fun r hr => ?_
 have rest : T ((slc k 0 r).bind fun x104 => (app ([] : List TChunk) x104).bind fun z106 => (app z106 ([x] : List TChunk)).bind fun z114 => (slc k r (k).length).bind fun x122 => (app z114 x122).bind fun z124 => some z124) fun r => r.length ≤ k.length + 1 ∧ ∀ y ∈ r, chOk n y :=
  .ins hr (by omega) fun z z1 z2 => .some ⟨by omega, fun y hy => by
   rcases z2 y hy with h3 | rfl
   ·exact h y h3
   ·exact hx⟩
 refine .after (.ite (fun hc => ?_) fun _ => .brk (T.ite (fun h => by cases h) fun _ => rest))
 have hc := of_decide_eq_true hc
 refine .ix (by omega) (by omega) fun y _ hy => .brk (T.ite (fun _ => ?_) fun _ => rest)
 rw [m54a]
 refine .bindEq (m54 hF (by omega) fun y hy => ⟨Nat.le_trans (h y hy).2.2.2.1 hn, (h y hy).2.1⟩) (.bindEq (m100 (by have := hx.2.1; omega)) (.ix (by omega) (by omega) fun y2 _ hy2 => .ix (by omega) (by simp; omega) fun y3 _ hy3 => .some ⟨by simp, fun w hw => ?_⟩))
 have g2 := h y2 hy2
 have g2' : chOk n { y2 with Staged := true } := g2
 have g3 : chOk n y3 := by
  rcases mem_set hy3 with h4 | rfl
  ·exact h y3 h4
  ·exact g2'
 rcases mem_set hw with h3 | rfl
 ·rcases mem_set h3 with h4 | rfl
  ·exact h w h4
  ·exact g2'
 ·exact ⟨g3.1, hx.2.1, hx.2.2.1, g3.2.2.2⟩
theorem t110 {F : Nat} {c : TChange} (hF : 1000 ≤ F) (h : Chg c) : T (M110 F c) Chg := by
 unfold M110
 have h1 := h.cn
 have h2 := h.it
 refine .bindEq (m52 hF h.man.2.1 fun p hp => (h.man.2.2.1 p hp).2) (.bindEq (m53 (by rw [h.locs]; simp)) (.bindEq (m54 hF (by simp only; omega) fun y hy => ⟨by rw [(h.ch y hy).2.2.2]; simp, (h.ch y hy).2.1⟩) (.app (by simp; omega) (.some ?_))))
 exact ⟨h.seq, h.man, h.locs, h.cn, h.ch, h.sq, h.vol, by simpa using h.it, by simpa using h.iti⟩
open Go.Vm
abbrev R109 := Int × Int × (List TSnap) × (List TChunk) × (List TExp) × (List TVol)
def Po (r : R109) : Prop := r.1 = 0 → Md 264 264 r.2.1 r.2.2.1 r.2.2.2.1 r.2.2.2.2.1 r.2.2.2.2.2
theorem notZ {n : Int} {x : Int × (List TSnap) × (List TChunk) × (List TExp) × (List TVol)} (h : n ≠ 0) : Po (n, x) := fun h0 => absurd h0 h
theorem t109 {F : Nat} {c : TCatalog} {d : TChange} (hF : 1000 ≤ F) (ok : Ok c) (hd : Chg d) : T (M109 F c d) Po := by
  have H := ok.md
  have H2 : Md 264 264 c.Seq c.Snaps c.Chunks c.Exps c.Vols := H.mono (by omega) (by omega)
  have c1 := ok.rg.ch
  have c2 := ok.rg.sn
  have c3 := ok.rg.ex
  have c4 := ok.rg.vo
  have dn := hd.cn
  have di := hd.it
  have gvol : gI d.Vol := hd.vol
  unfold M109
  refine .after (T.mono (P := L3 (fun _ => False) (fun j => Md 264 264 j.1 j.2.1 j.2.2.1 j.2.2.2.1 j.2.2.2.2) Po) (.ite (fun _ => ?_) fun _ => ?_) fun j hj => ?_)
  · have k1 : ∀ b : Bool, T (after (loopM (fun s => M109_L1 F d s.1 s.2) F (b, 0)) fun ⟨r8267, r8268⟩ => if (!r8267) = true then (some (.ret (1, c.Seq, c.Snaps, c.Chunks, c.Exps, c.Vols))) else (M50 F ({ Seq := c.Seq, Snaps := c.Snaps, Chunks := c.Chunks, Exps := c.Exps, Vols := c.Vols } : TCatalog) d.Snap.Man.Name).bind fun y8276 => if (decide (0 ≤ y8276)) = true then (some (.ret (9, c.Seq, c.Snaps, c.Chunks, c.Exps, c.Vols))) else (app c.Snaps ([d.Snap] : List TSnap)).bind fun z8291 => after (loopM (fun s => M109_L3 F d s.1 s.2) F (c.Chunks, 0)) fun ⟨r8375, r8376⟩ => some (.brk (IntKind.wrap .i64 (c.Seq + 1), z8291, r8375, c.Exps, c.Vols)))
        (L3 (fun _ => False) (fun j => Md 264 264 j.1 j.2.1 j.2.2.1 j.2.2.2.1 j.2.2.2.2) Po) := fun b => by
      refine .loop (fun s => 0 ≤ s.2 ∧ s.2 ≤ d.Chunks.length) (fun s => (d.Chunks.length - s.2).toNat) (fun _ => True) (by simp; omega) (by simp) (fun s hs => ?_) (fun s _ => ?_)
      · obtain ⟨b, i⟩ := s
        simp only at hs
        unfold M109_L1
        refine .ite (fun hc => ?_) fun _ => .brk trivial
        have hc := of_decide_eq_true hc
        simp only at hc
        rw [wr (n := i + 1) (by omega) (by omega)]
        refine .after (.ite (fun _ => .ix (by omega) (by omega) fun x _ _ => .ite (fun _ => .ix (by omega) (by omega) fun y _ _ => .brk (.go (by first | omega | (simp only; omega)))) fun _ => .brk (.go (by first | omega | (simp only; omega)))) fun _ => .brk (.go (by first | omega | (simp only; omega))))
      · obtain ⟨b, i⟩ := s
        refine .ite (fun _ => .ret (notZ (by decide))) fun _ => .bindEq (m50f hF (by first | omega | (simp only; omega))) (.ite (fun _ => .ret (notZ (by decide))) fun _ => .app (by simp; omega) ?_)
        refine .loop (fun s => 0 ≤ s.2 ∧ s.2 ≤ d.Chunks.length ∧ (s.1.length : Int) ≤ c.Chunks.length + s.2 ∧ ∀ x ∈ s.1, chOk 200 x) (fun s => (d.Chunks.length - s.2).toNat) (fun s => s.1.length ≤ 360 ∧ ∀ x ∈ s.1, chOk 200 x) (by simp; omega) ⟨by simp, by simp, by simp, H.k⟩ (fun s hs => ?_) (fun s hs => ?_)
        · obtain ⟨q, i⟩ := s
          simp only at hs
          unfold M109_L3
          refine .ite (fun hc => ?_) fun _ => .brk ⟨by first | omega | (simp only; omega), hs.2.2.2⟩
          have hc := of_decide_eq_true hc
          simp only at hc
          rw [wr (n := i + 1) (by omega) (by omega)]
          refine .ix (by omega) (by omega) fun x _ hx => ?_
          have gx := hd.ch x hx
          refine .bind _ (t135 hF (by first | omega | (simp only; omega)) hs.2.2.2 ⟨gx.1, gx.2.1, gx.2.2.1, by rw [gx.2.2.2]; exact ⟨by simp, fun _ h => by simp at h⟩⟩ (by omega)) fun y hy => .go ⟨⟨by first | omega | (simp only; omega), by first | omega | (simp only; omega), ?_, hy.2⟩, by first | omega | (simp only; omega)⟩
          have := hy.1
          simp only at this ⊢
          omega
        · obtain ⟨q, i⟩ := s
          refine .some ?_
          refine ⟨gI_wr _, by simp; omega, fun x hx => ?_, hs.1, fun x hx => (hs.2 x hx).mono (by omega), H2.en, H2.e, H2.vn, H2.v⟩
          rcases List.mem_append.1 hx with h | h
          · exact H2.s x h
          · rw [List.mem_singleton] at h
            subst h
            exact ⟨hd.seq, hd.man, by rw [hd.locs]; exact ⟨by simp, fun _ h => by simp at h⟩⟩
    exact .after (.ite (fun _ => .brk (k1 _)) fun _ => .brk (k1 _))
  · refine .after (T.mono (P := L3 (fun _ => False) (fun j => Md 264 264 j.1 j.2.1 j.2.2.1 j.2.2.2.1 j.2.2.2.2) (L3 (fun _ => False) (fun j => Md 264 264 j.1 j.2.1 j.2.2.1 j.2.2.2.1 j.2.2.2.2) Po)) (.ite (fun _ => ?_) fun _ => ?_) fun j hj => ?_)
    · refine .bind _ (t136 hF H (by omega) (by omega)) fun y hy => .ite (fun _ => .ret (show Po _ from notZ (by decide))) fun _ => .brk (hy.mono (by omega) (by omega))
    · refine .after (T.mono (P := L3 (fun _ => False) (fun j => Md 264 264 j.1 j.2.1 j.2.2.1 j.2.2.2.1 j.2.2.2.2) (L3 (fun _ => False) (fun j => Md 264 264 j.1 j.2.1 j.2.2.1 j.2.2.2.1 j.2.2.2.2) (L3 (fun _ => False) (fun j => Md 264 264 j.1 j.2.1 j.2.2.1 j.2.2.2.1 j.2.2.2.2) Po))) (.ite (fun _ => ?_) fun _ => ?_) fun j hj => ?_)
      · have H137 := t137 (F := F) (c := { Seq := c.Seq, Snaps := c.Snaps, Chunks := c.Chunks, Exps := c.Exps, Vols := c.Vols }) (i := d.Vol) (a := 1) (b := 2)
        refine .after (T.mono (P := L3 (fun _ => False) (fun b => b = true → 0 ≤ d.Vol ∧ d.Vol < c.Vols.length) (fun _ => False)) (.bind _ H137 fun y hy => .ite (fun hc => .ite (fun _ => .brk fun _ => hy hc) fun _ => .brk fun h => by cases h) fun _ => .brk fun h => by cases h) fun j hj => ?_)
        cases j with
        | go _ => exact hj
        | ret _ => exact hj.elim
        | brk b =>
        replace hj : b = true → 0 ≤ d.Vol ∧ d.Vol < c.Vols.length := hj
        refine T.loop (fun s => 0 ≤ s.2 ∧ s.2 ≤ d.Items.length ∧ (s.1 = true → 0 ≤ d.Vol ∧ d.Vol < c.Vols.length)) (fun s => (d.Items.length - s.2).toNat) (fun s => s.1 = true → 0 ≤ d.Vol ∧ d.Vol < c.Vols.length) (by simp; omega) ⟨by simp, by simp, hj⟩ (fun s hs => ?_) (fun s hs => ?_)
        · obtain ⟨b, i⟩ := s
          simp only at hs
          unfold M109_L5
          refine .ite (fun hc => ?_) fun _ => .brk hs.2.2
          have hc := of_decide_eq_true hc
          simp only at hc
          rw [wr (n := i + 1) (by omega) (by omega)]
          have fin : ∀ b' : Bool, (b' = true → 0 ≤ d.Vol ∧ d.Vol < c.Vols.length) → T (some (.go (b', i + 1)) : Option (Lp (Bool × Int) (Lp (Int × List TSnap × List TChunk × List TExp × List TVol) (Lp (Int × List TSnap × List TChunk × List TExp × List TVol) (Lp (Int × List TSnap × List TChunk × List TExp × List TVol) R109)))))
            (L3 (fun s' => (0 ≤ s'.2 ∧ s'.2 ≤ d.Items.length ∧ (s'.1 = true → 0 ≤ d.Vol ∧ d.Vol < c.Vols.length)) ∧ (d.Items.length - s'.2).toNat < (d.Items.length - i).toNat) (fun s => s.1 = true → 0 ≤ d.Vol ∧ d.Vol < c.Vols.length) (L3 (fun _ => False) (fun j => Md 264 264 j.1 j.2.1 j.2.2.1 j.2.2.2.1 j.2.2.2.2) (L3 (fun _ => False) (fun j => Md 264 264 j.1 j.2.1 j.2.2.1 j.2.2.2.1 j.2.2.2.2) (L3 (fun _ => False) (fun j => Md 264 264 j.1 j.2.1 j.2.2.1 j.2.2.2.1 j.2.2.2.2) Po)))) := fun b' hb' => .go ⟨⟨by first | omega | (simp only; omega), by first | omega | (simp only; omega), hb'⟩, by first | omega | (simp only; omega)⟩
          refine .after (.ite (fun hb => ?_) fun _ => .brk (fin _ fun h => by cases h))
          exact .ix (by omega) (by omega) fun x _ _ => .ite (fun _ => .ix (by omega) (by omega) fun y _ _ => .brk (fin _ fun _ => hs.2.2 hb)) fun _ => .brk (fin _ fun h => by cases h)
        · obtain ⟨b, i0⟩ := s
          refine .ite (fun _ => .ret (show Po _ from notZ (by decide))) fun hb => ?_
          have hv := hs (by simpa using hb)
          refine .ix hv.1 hv.2 fun x _ hx => ?_
          have gx := ok.sm.g.2.2.2.2 x hx
          have gx1 : g_Vol { x with State := 2 } := ⟨gx.1, gx.2.1, (by show gI _; simp [gI]), gx.2.2.2⟩
          have gx2 : g_Vol { ({ x with State := 2 } : TVol) with Files := IntKind.wrap .i64 (x.Files + 1) } := ⟨gx.1, gx.2.1, (by show gI _; simp [gI]), gI_wr _⟩
          have HV : Md 200 200 c.Seq c.Snaps c.Chunks c.Exps ((c.Vols.set d.Vol.toNat { x with State := 2 }).set d.Vol.toNat { ({ x with State := 2 } : TVol) with Files := IntKind.wrap .i64 (x.Files + 1) }) := (H.setV gx1).setV gx2
          generalize hV : (c.Vols.set d.Vol.toNat { x with State := 2 }).set d.Vol.toNat { ({ x with State := 2 } : TVol) with Files := IntKind.wrap .i64 (x.Files + 1) } = V at HV
          refine T.loop (fun s => 0 ≤ s.2.2.2.2 ∧ s.2.2.2.2 ≤ d.Items.length ∧ Md (200 + s.2.2.2.2.toNat) (200 + s.2.2.2.2.toNat) s.1 s.2.1 s.2.2.1 s.2.2.2.1 V) (fun s => (d.Items.length - s.2.2.2.2).toNat) (fun s => Md 264 264 s.1 s.2.1 s.2.2.1 s.2.2.2.1 V) (by simp; omega) ⟨by simp, by simp, HV⟩ (fun s hs => ?_) (fun s hs => ?_)
          · obtain ⟨q, s, k, e, i⟩ := s
            simp only at hs
            unfold M109_L7
            refine .ite (fun hc => ?_) fun _ => .brk (hs.2.2.mono (by first | omega | (simp only; omega)) (by first | omega | (simp only; omega)))
            have hc := of_decide_eq_true hc
            simp only at hc
            simp only [hV]
            rw [wr (n := i + 1) (by omega) (by omega)]
            refine .ix (by omega) (by omega) fun x1 _ hx1 => .ix (by omega) (by omega) fun x2 _ hx2 => .ix (by omega) (by omega) fun x3 _ hx3 => ?_
            have d1 := hd.iti x1 hx1
            have d2 := hd.iti x2 hx2
            have d3 := hd.iti x3 hx3
            refine .bind _ (t138 hF hs.2.2 (by omega) (by omega) ⟨gvol, gI_wr _, d2.2.2.1, d3.2.2.2⟩ d1.1 d1.2.1) fun y hy => .ite (fun _ => .ret (show Po _ from notZ (by decide))) fun _ => .go ⟨⟨by first | omega | (simp only; omega), by first | omega | (simp only; omega), ?_⟩, by first | omega | (simp only; omega)⟩
            exact hy.mono (by first | omega | (simp only; omega)) (by first | omega | (simp only; omega))
          · obtain ⟨q, s, k, e, i0⟩ := s
            simp only at hs
            refine T.loop (fun s' => 0 ≤ s'.2.2 ∧ s'.2.2 ≤ d.Items.length ∧ Md 264 264 q s'.1 s'.2.1 e V) (fun s' => (d.Items.length - s'.2.2).toNat) (fun s' => Md 264 264 q s'.1 s'.2.1 e V) (by simp; omega) ⟨by simp, by simp, hs⟩ (fun s' hs2 => ?_) (fun s' hs2 => ?_)
            · obtain ⟨s, k, i⟩ := s'
              simp only at hs2
              unfold M109_L9
              refine .ite (fun hc => ?_) fun _ => .brk hs2.2.2
              have hc := of_decide_eq_true hc
              simp only at hc
              simp only [hV]
              rw [wr (n := i + 1) (by omega) (by omega)]
              refine .ix (by omega) (by omega) fun x1 _ _ => .after (.ite (fun _ => .ix (by omega) (by omega) fun x2 _ _ => .bind _ (t136 hF hs2.2.2 (by omega) (by omega)) fun y hy => .brk (.go ⟨⟨by first | omega | (simp only; omega), by first | omega | (simp only; omega), hy⟩, by first | omega | (simp only; omega)⟩)) fun _ => .brk (.go ⟨⟨by first | omega | (simp only; omega), by first | omega | (simp only; omega), hs2.2.2⟩, by first | omega | (simp only; omega)⟩))
            · obtain ⟨s, k, i1⟩ := s'
              simp only at hs2
              simp only [hV]
              refine .after (T.mono (P := L3 (fun _ => False) (fun k' => Md 264 264 q s k' e V) (fun _ => False)) (.ite (fun _ => ?_) fun _ => .brk hs2) fun j hj2 => ?_)
              · refine T.loop (fun s' => 0 ≤ s'.2 ∧ s'.2 ≤ d.Items.length ∧ Md 264 264 q s s'.1 e V) (fun s' => (d.Items.length - s'.2).toNat) (fun s' => Md 264 264 q s s'.1 e V) (by simp; omega) ⟨by simp, by simp, hs2⟩ (fun s' hs3 => ?_) (fun s' hs3 => .brk hs3)
                obtain ⟨k, i⟩ := s'
                simp only at hs3
                unfold M109_L11
                refine .ite (fun hc => ?_) fun _ => .brk hs3.2.2
                have hc := of_decide_eq_true hc
                simp only at hc
                simp only [hV]
                rw [wr (n := i + 1) (by omega) (by omega)]
                have hk := hs3.2.2.kn
                refine .ix (by omega) (by omega) fun x1 _ _ => .after (.ite (fun _ => .ix (by omega) (by omega) fun x2 _ _ => .bind _ (t64 hF (by first | omega | (simp only; omega))) fun y hy => .after (.ite (fun h0 => ?_) fun _ => .brk (.brk (.go ⟨⟨by first | omega | (simp only; omega), by first | omega | (simp only; omega), hs3.2.2⟩, by first | omega | (simp only; omega)⟩)))) fun _ => .brk (.go ⟨⟨by first | omega | (simp only; omega), by first | omega | (simp only; omega), hs3.2.2⟩, by first | omega | (simp only; omega)⟩))
                have h0 := of_decide_eq_true h0
                simp only at hy
                refine .ix (by omega) (by omega) fun z _ hz => .ix (by omega) (by simp; omega) fun z2 _ hz2 => .brk (.brk (.go ⟨⟨by first | omega | (simp only; omega), by first | omega | (simp only; omega), ?_⟩, by first | omega | (simp only; omega)⟩))
                have gz := hs3.2.2.k z hz
                have gz1 : chOk 264 { z with Staged := false } := gz
                have gz2 : chOk 264 z2 := (mem_set hz2).elim (hs3.2.2.k z2) fun e => e ▸ gz1
                exact (hs3.2.2.setK gz1).setK (x := { z2 with Data := [] }) ⟨gz2.1, by simp, fun _ h => by simp at h, gz2.2.2.2⟩
              · cases j with
                | go _ => exact hj2
                | ret _ => exact hj2.elim
                | brk k' => exact .brk hj2
      · refine .after (T.mono (P := L3 (fun _ => False) (fun j => Md 264 264 c.Seq j.1 j.2.1 j.2.2.1 j.2.2.2) (L3 (fun _ => False) (fun j => Md 264 264 j.1 j.2.1 j.2.2.1 j.2.2.2.1 j.2.2.2.2) (L3 (fun _ => False) (fun j => Md 264 264 j.1 j.2.1 j.2.2.1 j.2.2.2.1 j.2.2.2.2) (L3 (fun _ => False) (fun j => Md 264 264 j.1 j.2.1 j.2.2.1 j.2.2.2.1 j.2.2.2.2) Po)))) (.ite (fun _ => ?_) fun _ => ?_) fun j hj => ?_)
        · refine .bind _ t137 fun y hy => .ite (fun _ => .ret (show Po _ from notZ (by decide))) fun hb => ?_
          have hv := hy (by simpa using hb)
          refine .ix hv.1 hv.2 fun x _ hx => ?_
          have gx := ok.sm.g.2.2.2.2 x hx
          have gx1 : g_Vol { x with State := 3 } := ⟨gx.1, gx.2.1, (by show gI _; simp [gI]), gx.2.2.2⟩
          refine .ix hv.1 (by simp; exact hv.2) fun x2 _ hx2 => ?_
          have gx2 : g_Vol x2 := (mem_set hx2).elim (ok.sm.g.2.2.2.2 x2) fun e => e ▸ gx1
          have gx3 : g_Vol { x2 with Files := 0 } := ⟨gx2.1, gx2.2.1, gx2.2.2.1, (by show gI _; simp [gI])⟩
          have HV : Md 200 200 c.Seq c.Snaps c.Chunks c.Exps ((c.Vols.set d.Vol.toNat { x with State := 3 }).set d.Vol.toNat { x2 with Files := 0 }) := (H.setV gx1).setV gx3
          refine T.loop (fun s => 0 ≤ s.2 ∧ s.2 ≤ c.Chunks.length ∧ (s.1.length : Int) ≤ s.2 ∧ ∀ x ∈ s.1, chOk 200 x) (fun s => (c.Chunks.length - s.2).toNat) (fun s => s.1.length ≤ 360 ∧ ∀ x ∈ s.1, chOk 200 x) (by simp; omega) (by simp) (fun s hs => ?_) (fun s hs => ?_)
          · obtain ⟨q, i⟩ := s
            simp only at hs
            unfold M109_L13
            refine .ite (fun hc => ?_) fun _ => .brk ⟨by first | omega | (simp only; omega), hs.2.2.2⟩
            have hc := of_decide_eq_true hc
            simp only at hc
            rw [wr (n := i + 1) (by omega) (by omega)]
            refine .ix (by omega) (by omega) fun x1 _ hx1 => .bind _ (t139 hF (H.k x1 hx1).2.2.2 (by omega)) fun y hy => ?_
            have put : ∀ b : Bool, T (after (if b = true then ((app q ([{ x1 with Locs := y }] : List TChunk)).bind fun z16059 => some (.brk z16059)) else some (.brk q) : Option (Lp (List TChunk) (Lp (List TChunk × Int) (Lp (List TSnap × List TChunk × List TExp × List TVol) (Lp (Int × List TSnap × List TChunk × List TExp × List TVol) (Lp (Int × List TSnap × List TChunk × List TExp × List TVol) (Lp (Int × List TSnap × List TChunk × List TExp × List TVol) R109))))))) fun j16055 => some (.go (j16055, i + 1)))
                (L3 (fun s' => (0 ≤ s'.2 ∧ s'.2 ≤ c.Chunks.length ∧ (s'.1.length : Int) ≤ s'.2 ∧ ∀ x ∈ s'.1, chOk 200 x) ∧ (c.Chunks.length - s'.2).toNat < (c.Chunks.length - i).toNat) (fun s => s.1.length ≤ 360 ∧ ∀ x ∈ s.1, chOk 200 x) (L3 (fun _ => False) (fun j => Md 264 264 c.Seq j.1 j.2.1 j.2.2.1 j.2.2.2) (L3 (fun _ => False) (fun j => Md 264 264 j.1 j.2.1 j.2.2.1 j.2.2.2.1 j.2.2.2.2) (L3 (fun _ => False) (fun j => Md 264 264 j.1 j.2.1 j.2.2.1 j.2.2.2.1 j.2.2.2.2) (L3 (fun _ => False) (fun j => Md 264 264 j.1 j.2.1 j.2.2.1 j.2.2.2.1 j.2.2.2.2) Po))))) := fun b => by
              refine .after (.ite (fun _ => .app (by simp; omega) (.brk (.go ⟨⟨by first | omega | (simp only; omega), by first | omega | (simp only; omega), by simp; omega, fun w hw => ?_⟩, by first | omega | (simp only; omega)⟩))) fun _ => .brk (.go ⟨⟨by first | omega | (simp only; omega), by first | omega | (simp only; omega), by first | omega | (simp only; omega), hs.2.2.2⟩, by first | omega | (simp only; omega)⟩))
              rcases List.mem_append.1 hw with h | h
              · exact hs.2.2.2 w h
              · rw [List.mem_singleton] at h
                subst h
                exact ⟨(H.k x1 hx1).1, (H.k x1 hx1).2.1, (H.k x1 hx1).2.2.1, hy⟩
            exact .after (.ite (fun _ => .brk (put _)) fun _ => .brk (put _))
          · obtain ⟨k, i0⟩ := s
            simp only at hs
            refine T.loop (fun s => 0 ≤ s.2 ∧ s.2 ≤ c.Snaps.length ∧ s.1.length = c.Snaps.length ∧ ∀ x ∈ s.1, snOk 200 x) (fun s => (c.Snaps.length - s.2).toNat) (fun s => s.1.length ≤ 9 ∧ ∀ x ∈ s.1, snOk 200 x) (by simp; omega) ⟨by simp, by simp, rfl, H.s⟩ (fun s hs2 => ?_) (fun s hs2 => ?_)
            · obtain ⟨q, i⟩ := s
              simp only at hs2
              unfold M109_L15
              refine .ite (fun hc => ?_) fun _ => .brk ⟨by first | omega | (simp only; omega), hs2.2.2.2⟩
              have hc := of_decide_eq_true hc
              simp only at hc
              rw [wr (n := i + 1) (by omega) (by omega)]
              refine .ix (by omega) (by omega) fun x1 _ hx1 => .bind _ (t139 hF (hs2.2.2.2 x1 hx1).2.2 (by omega)) fun y hy => .ix (by omega) (by omega) fun x2 _ hx2 => .go ⟨⟨by first | omega | (simp only; omega), by first | omega | (simp only; omega), by simp; exact hs2.2.2.1, fun w hw => ?_⟩, by first | omega | (simp only; omega)⟩
              rcases mem_set hw with h | rfl
              · exact hs2.2.2.2 w h
              · exact ⟨(hs2.2.2.2 x2 hx2).1, (hs2.2.2.2 x2 hx2).2.1, hy⟩
            · obtain ⟨s, i1⟩ := s
              simp only at hs2
              refine T.loop (fun s => 0 ≤ s.2 ∧ s.2 ≤ c.Exps.length ∧ (s.1.length : Int) ≤ s.2 ∧ ∀ x ∈ s.1, exOk 200 x) (fun s => (c.Exps.length - s.2).toNat) (fun s => s.1.length ≤ 200 ∧ ∀ x ∈ s.1, exOk 200 x) (by simp; omega) (by simp) (fun s hs3 => ?_) (fun s hs3 => ?_)
              · obtain ⟨q, i⟩ := s
                simp only at hs3
                unfold M109_L17
                refine .ite (fun hc => ?_) fun _ => .brk ⟨by first | omega | (simp only; omega), hs3.2.2.2⟩
                have hc := of_decide_eq_true hc
                simp only at hc
                rw [wr (n := i + 1) (by omega) (by omega)]
                refine .ix (by omega) (by omega) fun x1 _ hx1 => .bind _ (t139 hF (H.e x1 hx1).2.2 (by omega)) fun y hy => ?_
                refine .after (.ite (fun _ => .app (by simp; omega) (.brk (.go ⟨⟨by first | omega | (simp only; omega), by first | omega | (simp only; omega), by simp; omega, fun w hw => ?_⟩, by first | omega | (simp only; omega)⟩))) fun _ => .brk (.go ⟨⟨by first | omega | (simp only; omega), by first | omega | (simp only; omega), by first | omega | (simp only; omega), hs3.2.2.2⟩, by first | omega | (simp only; omega)⟩))
                rcases List.mem_append.1 hw with h | h
                · exact hs3.2.2.2 w h
                · rw [List.mem_singleton] at h
                  subst h
                  exact ⟨(H.e x1 hx1).1, (H.e x1 hx1).2.1, hy⟩
              · obtain ⟨e, i2⟩ := s
                simp only at hs3
                exact .brk (Md.mono (n := 200) (m := 200) ⟨H.q, hs2.1, hs2.2, hs.1, hs.2, hs3.1, hs3.2, HV.vn, HV.v⟩ (by omega) (by omega))
        · refine .after (T.mono (P := L3 (fun _ => False) (fun v' => Md 264 264 c.Seq c.Snaps c.Chunks c.Exps v') (L3 (fun _ => False) (fun j => Md 264 264 c.Seq j.1 j.2.1 j.2.2.1 j.2.2.2) (L3 (fun _ => False) (fun j => Md 264 264 j.1 j.2.1 j.2.2.1 j.2.2.2.1 j.2.2.2.2) (L3 (fun _ => False) (fun j => Md 264 264 j.1 j.2.1 j.2.2.1 j.2.2.2.1 j.2.2.2.2) (L3 (fun _ => False) (fun j => Md 264 264 j.1 j.2.1 j.2.2.1 j.2.2.2.1 j.2.2.2.2) Po))))) (.ite (fun _ => ?_) fun _ => .brk H2) fun j hj => ?_)
          · refine .bind _ t137 fun y hy => .ite (fun _ => .ret (show Po _ from notZ (by decide))) fun hb => ?_
            have hv := hy (by simpa using hb)
            refine .ix hv.1 hv.2 fun x _ hx => .ix hv.1 hv.2 fun x1 _ hx1 => ?_
            have gx := ok.sm.g.2.2.2.2 x1 hx1
            have gx1 : g_Vol { x1 with State := 1 } := ⟨gx.1, gx.2.1, (by show gI _; simp [gI]), gx.2.2.2⟩
            refine .ix hv.1 (by simp; exact hv.2) fun x2 _ hx2 => .brk ?_
            have gx2 : g_Vol x2 := (mem_set hx2).elim (ok.sm.g.2.2.2.2 x2) fun e => e ▸ gx1
            exact (H2.setV gx1).setV (x := { x2 with Epoch := IntKind.wrap .i64 (x.Epoch + 1) }) ⟨gx2.1, gI_wr _, gx2.2.2.1, gx2.2.2.2⟩
          · cases j with
            | go _ => exact hj
            | brk j => exact .brk hj
            | ret r => exact hj
        · cases j with
          | go _ => exact hj
          | brk j => exact .brk hj
          | ret r => exact hj
      · cases j with
        | go _ => exact hj
        | brk j => exact .brk hj
        | ret r => exact hj
    · cases j with
      | go _ => exact hj
      | brk j => exact .brk hj
      | ret r => exact hj
  · cases j with
    | go _ => exact hj
    | brk j => exact .some fun _ => hj
    | ret r => exact hj
open Go.Vm
theorem take_step {α : Type} {l : List α} {P : α → Prop} {i : Int} {x : α} (h0 : 0 ≤ i) (hx : l[i.toNat]? = some x) (h : ∀ y ∈ l.take i.toNat, P y) (hP : P x) : ∀ y ∈ l.take (i + 1).toNat, P y := by
 intro y hy
 obtain ⟨hlt, he⟩ := List.getElem?_eq_some_iff.1 hx
 rw [show (i + 1).toNat = i.toNat + 1 from by omega, List.take_succ_eq_append_getElem hlt] at hy
 rcases List.mem_append.1 hy with h1 | h1
 ·exact h y h1
 ·rw [List.mem_singleton, he] at h1
  exact h1 ▸ hP
theorem take_mem {α : Type} {l : List α} {i n : Nat} {x : α} (hx : l[i]? = some x) (hi : i < n) : x ∈ l.take n := by
 refine List.mem_of_getElem? (i := i) ?_
 rw [List.getElem?_take_of_lt hi, hx]
theorem t67 {F : Nat} {c : TCatalog} {d : TChange} (hF : 1000 ≤ F) (h : Sm c) (hg : good c = true) (hd : Chg d) : T (M67 F c d) fun r => r.2 = 0 → Sm r.1 ∧ good r.1 = true := by
  unfold M67
  refine .after (.bindEq (m19 hF h) (.ite (fun hc => ?_) fun _ => ?_))
  · rw [hg] at hc; cases hc
  · have rest : T (if (false : Bool) = true then (some (({ Seq := 0, Snaps := [], Chunks := [], Exps := [], Vols := [] } : TCatalog), 1)) else (M14d F c).bind fun y27 => (M110 F d).bind fun y47 => (M109 F ({ Seq := y27.Seq, Snaps := y27.Snaps, Chunks := y27.Chunks, Exps := y27.Exps, Vols := y27.Vols } : TCatalog) y47).bind fun y49 => if (y49.1 != 0) = true then (some (({ Seq := 0, Snaps := [], Chunks := [], Exps := [], Vols := [] } : TCatalog), y49.1)) else (M19 F ({ Seq := y49.2.1, Snaps := y49.2.2.1, Chunks := y49.2.2.2.1, Exps := y49.2.2.2.2.1, Vols := y49.2.2.2.2.2 } : TCatalog)).bind fun y69 => if (!y69) = true then (some (({ Seq := 0, Snaps := [], Chunks := [], Exps := [], Vols := [] } : TCatalog), 1)) else some (({ Seq := y49.2.1, Snaps := y49.2.2.1, Chunks := y49.2.2.2.1, Exps := y49.2.2.2.2.1, Vols := y49.2.2.2.2.2 } : TCatalog), 0))
        fun r => r.2 = 0 → Sm r.1 ∧ good r.1 = true := by
      refine .ite (fun h => by cases h) fun _ => .bindEq (m14d hF h) (.bind _ (t110 hF hd) fun d' hd' => .bind _ (t109 hF ⟨h, rng hg⟩ hd') fun y hy => .ite (fun h0 => .some fun h1 => ?_) fun h0 => ?_)
      · simp only at h1
        rw [h1] at h0
        cases h0
      · have M := hy (by simpa using h0)
        have S := M.sm (by omega) (by omega)
        refine .bindEq (m19 hF S) (.ite (fun _ => .some fun h => by simp at h) fun hq => .some fun _ => ⟨S, ?_⟩)
        simpa using hq
    refine .ite (fun _ => .brk (T.ite (fun _ => .some fun h => by simp at h) fun h => absurd rfl h)) fun _ => .brk ?_
    cases decide (5 < d.Kind)
    · exact rest
    · exact T.ite (fun _ => .some fun h => by simp at h) fun h => absurd rfl h
def actOk (a : TAct) : Prop := ∀ f ∈ a.Tree, f.Path.size ≤ 100
theorem t27 {F : Nat} {l : List TAct} (hF : 1000 ≤ F) : T (M27 F l) fun b => b = false → ∀ a ∈ l.take 30, actOk a := by
 unfold M27
 refine .ite (fun _ => .some fun h => by cases h) fun hl => ?_
 have hl : l.length ≤ 120 := by simp at hl; omega
 refine .loop (fun i => 0 ≤ i ∧ i ≤ l.length ∧ i ≤ 30 ∧ ∀ a ∈ l.take i.toNat, actOk a) (fun i => (l.length - i).toNat) (fun _ => ∀ a ∈ l.take 30, actOk a) (by omega) (by simp) (fun i hi => ?_) (fun i hi => .some fun _ => hi)
 obtain ⟨i0, i1, i2, i3⟩ := hi
 unfold M27_L0
 refine .after (.ite (fun hc => .brk (T.ite (fun hc2 => ?_) fun hc2 => .brk fun a ha => ?_)) fun hc => .brk (T.ite (fun h => by cases h) fun _ => .brk fun a ha => ?_))
 ·have hc := of_decide_eq_true hc
  have hc2 := of_decide_eq_true hc2
  rw [wr (n := i + 1) (by omega) (by omega)]
  refine .after (.ix (by omega) (by omega) fun x e hx => .ite (fun _ => .brk (T.ite (fun _ => .ret fun h => by cases h) fun h => absurd rfl h)) fun _ => .ix (by omega) (by omega) fun y e2 hy => .brk (T.ite (fun _ => .ret fun h => by cases h) fun ht => ?_))
  have ht : y.Tree.length ≤ 10 := by simp at ht; omega
  refine .loop (fun j => 0 ≤ j ∧ j ≤ y.Tree.length ∧ ∀ f ∈ y.Tree.take j.toNat, f.Path.size ≤ 100) (fun j => (y.Tree.length - j).toNat) (fun _ => actOk y) (by omega) (by simp) (fun j hj => ?_) (fun j hj => .go ⟨⟨by omega, by omega, by omega, take_step i0 e2 i3 hj⟩, by omega⟩)
  obtain ⟨j0, j1, j2⟩ := hj
  have same : ∀ z, l[i.toNat]? = some z → z = y := fun z hz => by rw [e2] at hz; exact (Option.some.inj hz).symm
  unfold M27_L2
  refine .ix (by omega) (by omega) fun z ez _ => ?_
  obtain rfl := same z ez
  refine .ite (fun hc => ?_) fun hc => .brk fun f hf => j2 f ?_
  ·have hc := of_decide_eq_true hc
   rw [wr (n := j + 1) (by omega) (by omega)]
   refine .after (.ix (by omega) (by omega) fun z2 ez2 _ => ?_)
   obtain rfl := same z2 ez2
   refine .ix (by omega) (by omega) fun f ef hf => .ite (fun _ => .brk (T.ite (fun _ => .ret (show (_ : Bool) = false → _ from fun h => by cases h)) fun h => absurd rfl h)) fun _ => .ix (by omega) (by omega) fun z3 ez3 _ => ?_
   obtain rfl := same z3 ez3
   refine .ix (by omega) (by omega) fun f ef hf => .brk (T.ite (fun _ => .ret (show (_ : Bool) = false → _ from fun h => by cases h)) fun hp => .go ⟨⟨by omega, by omega, take_step j0 ef j2 ?_⟩, by omega⟩)
   simp at hp
   omega
  ·have hc : ¬ (j < z.Tree.length) := by simpa using hc
   rw [List.take_of_length_le (by omega)]
   exact hf
 ·have hc2 : ¬ (i < 30) := by simpa using hc2
  have : i.toNat = 30 := by omega
  rw [this] at i3
  exact i3 a ha
 ·have hc : ¬ (i < l.length) := by simpa using hc
  refine i3 a ?_
  rw [List.take_of_length_le (by omega)]
  exact List.mem_of_mem_take ha
theorem and1 (x : Int) (hx : gI x) : bitsV .and .i64 x 1 = 0 ∨ bitsV .and .i64 x 1 = 1 := by
 have e : bitsV .and .i64 x 1 = IntKind.wrap .i64 ((BitVec.ofInt 64 x &&& BitVec.ofInt 64 1).toNat : Int) := rfl
 have e1 : (BitVec.ofInt 64 1).toNat = 1 := by decide
 rw [e, BitVec.toNat_and, e1, Nat.and_one_is_mod]
 rcases Nat.mod_two_eq_zero_or_one (BitVec.ofInt 64 x).toNat with h | h <;> rw [h]
 ·exact .inl rfl
 ·exact .inr rfl
theorem t29 {F : Nat} {l : List Int} (hF : 1000 ≤ F) (gl : gL gI l) : T (M29 F l) fun r => inR r.length 1 8 = true ∧ r.all poolB = true ∧ gL gI r := by
 unfold M29
 refine .loop (fun s => 0 ≤ s.2 ∧ s.2 ≤ l.length ∧ s.2 ≤ 8 ∧ (s.1.length : Int) = s.2 ∧ ∀ x ∈ s.1, x = 0 ∨ x = 1) (fun s => (8 - s.2).toNat) (fun s => s.1.length ≤ 8 ∧ ∀ x ∈ s.1, x = 0 ∨ x = 1) (by simp; omega) (by simp) (fun s hs => ?_) (fun s hs => ?_)
 ·obtain ⟨q, i⟩ := s
  simp only at hs
  unfold M29_L0
  refine .after (.ite (fun hc => .brk (T.ite (fun hc2 => ?_) fun hc2 => .brk ⟨by first | omega | (simp only; omega), hs.2.2.2.2⟩)) fun hc => .brk (T.ite (fun h => by cases h) fun _ => .brk ⟨by first | omega | (simp only; omega), hs.2.2.2.2⟩))
  have hc := of_decide_eq_true hc
  have hc2 := of_decide_eq_true hc2
  simp only at hc hc2
  rw [wr (n := i + 1) (by omega) (by omega)]
  refine .ix (by omega) (by omega) fun x _ hx => .app (by simp; omega) (.go ⟨⟨by first | omega | (simp only; omega), by first | omega | (simp only; omega), by first | omega | (simp only; omega), by simp; omega, fun y hy => ?_⟩, by first | omega | (simp only; omega)⟩)
  rcases List.mem_append.1 hy with h | h
  ·exact hs.2.2.2.2 y h
  ·rw [List.mem_singleton] at h
   exact h ▸ and1 x (gl x hx)
 ·obtain ⟨q, i⟩ := s
  simp only at hs
  have fin : ∀ r : List Int, 0 < r.length → r.length ≤ 8 → (∀ x ∈ r, x = 0 ∨ x = 1) → inR r.length 1 8 = true ∧ r.all poolB = true ∧ gL gI r := fun r h1 h2 h3 => by
   refine ⟨by unfold inR; simp; omega, ?_, fun x hx => ?_⟩
   ·rw [List.all_eq_true]
    intro x hx
    rcases h3 x hx with rfl | rfl <;> rfl
   ·rcases h3 x hx with rfl | rfl <;> simp [gI]
  refine .after (.ite (fun _ => .brk (.some (fin _ (by simp) (by simp) (by simp)))) fun hc => .brk (.some (fin _ ?_ hs.1 hs.2)))
  have : ¬ ((q.length : Int) = 0) := by simpa using hc
  omega
theorem t28 {F : Nat} {q : List Int} {l : List TAct} (hF : 1000 ≤ F) (h1 : inR q.length 1 8 = true) (h2 : q.all poolB = true) (h3 : gL gI q) (gl : gL g_Act l) (ho : ∀ a ∈ l.take 30, actOk a) : T (M28 F q l) fun c => Sm c ∧ good c = true := by
 have h8 : q.length ≤ 8 := by unfold inR at h1; simp at h1; omega
 unfold M28
 refine .bindEq (m32 hF (by omega)) ?_
 refine .loop (fun s => 0 ≤ s.2 ∧ s.2 ≤ 30 ∧ Sm s.1 ∧ good s.1 = true) (fun s => (30 - s.2).toNat) (fun s => Sm s.1 ∧ good s.1 = true) (by simp; omega) ⟨by simp, by simp, newC_sm h8 h3, newC_good h1 h2⟩ (fun s hs => ?_) (fun s hs => .some hs)
 obtain ⟨c, i⟩ := s
 simp only at hs
 obtain ⟨s1, s2, s3, s4⟩ := hs
 unfold M28_L0
 refine .after (.ite (fun hc => .brk (T.ite (fun hc2 => ?_) fun hc2 => .brk ⟨s3, s4⟩)) fun hc => .brk (T.ite (fun h => by cases h) fun _ => .brk ⟨s3, s4⟩))
 have hc := of_decide_eq_true hc
 have hc2 := of_decide_eq_true hc2
 simp only at hc hc2
 rw [wr (n := i + 1) (by omega) (by omega)]
 have go : ∀ c' : TCatalog, Sm c' → good c' = true → T (some (.go (c', i + 1)) : Option (Lp (TCatalog × Int) TCatalog)) (L3 (fun s' => (0 ≤ s'.2 ∧ s'.2 ≤ 30 ∧ Sm s'.1 ∧ good s'.1 = true) ∧ (30 - s'.2).toNat < (30 - i).toNat) (fun s => Sm s.1 ∧ good s.1 = true) (fun c => Sm c ∧ good c = true)) := fun c' h5 h6 => .go ⟨⟨by first | omega | (simp only; omega), by first | omega | (simp only; omega), h5, h6⟩, by first | omega | (simp only; omega)⟩
 refine .ix (by omega) (by omega) fun a ea ha => .bind _ (t66 hF ⟨s3, rng s4⟩ fun f hf => ⟨ho a (take_mem ea (by omega)) f hf, ((gl a ha).2.2.2.1 f hf).2⟩) fun y hy => .after (.ite (fun _ => .bind _ (t67 hF s3 s4 hy) fun z hz => .after (.ite (fun h0 => ?_) fun _ => .brk (.brk (go _ s3 s4)))) fun _ => .brk (go _ s3 s4))
 have := hz (by simpa using h0)
 exact .brk (.brk (go _ this.1 this.2))
open Go.Vm
def M5_L0 (fuel : Nat) (p4 : List Int) (p5 : Int) (y0 : TCatalog) (q0 : List Int) (q1 : List Int) (q2 : List Int) (q3 : Int) : Option (Lp ((List Int) × (List Int) × (List Int) × Int) (Bool)) :=
 if (decide (q3 < (y0.Vols.length : Int))) = true then (after (if (decide (q3 < (p4.length : Int))) = true then ((ix p4 q3).bind fun x0 => some (.brk (IntKind.wrap .i64 ((IntKind.wrap .u64 x0).tmod 60)))) else some (.brk 0) : Option (Lp (Int) (Lp ((List Int) × (List Int) × (List Int) × Int) (Bool)))) fun j0 => (app q2 ([j0] : List Int)).bind fun z0 => (app q1 ([IntKind.wrap .i64 (j0 + (IntKind.wrap .i64 ((IntKind.wrap .u64 p5).tmod 50)))] : List Int)).bind fun z1 => (app q0 ([0] : List Int)).bind fun z2 => some (.go (z2, z1, z0, IntKind.wrap .i64 (q3 + 1)))) else some (.brk (q0, q1, q2, q3))
def M5 (fuel : Nat) (p0 : List Int) (p1 : List TAct) (p2 : Int) (p3 : Int) (p4 : List Int) (p5 : Int) : Option (Bool) :=
 after (if (decide (30 < (p0.length : Int))) = true then (some (.brk true)) else (M27 fuel p1).bind fun y0 => if y0 = true then (some (.brk true)) else some (.brk (decide (50 < (p4.length : Int)))) : Option (Lp (Bool) (Bool))) fun j8 => if j8 = true then (some true) else (M29 fuel p0).bind fun y1 => (M28 fuel y1 p1).bind fun y2 => after (loopM (fun s => M5_L0 fuel p4 p5 y2 s.1 s.2.1 s.2.2.1 s.2.2.2) fuel ([], [], [], 0)) fun ⟨r0, r1, r2, r3⟩ => (M16 fuel y2 (bitsV .and .i64 p2 1) (IntKind.wrap .i64 ((IntKind.wrap .u64 p3).tmod 50)) r2 (-1)).bind fun y3 => (M16 fuel y2 (bitsV .and .i64 p2 1) (IntKind.wrap .i64 ((IntKind.wrap .u64 p3).tmod 50)) r1 (-1)).bind fun y4 => (M16 fuel y2 (bitsV .and .i64 p2 1) (IntKind.wrap .i64 ((IntKind.wrap .i64 ((IntKind.wrap .u64 p3).tmod 50)) + 1)) r0 (-1)).bind fun y5 => after (if (y3.2 == 0) = true then (if (y4.2 != 0) = true then (some (.brk true)) else some (.brk (y5.2 != 12))) else some (.brk (y5.2 != 12)) : Option (Lp (Bool) (Bool))) fun j0 => if j0 = true then (some false) else after (if (y3.2 == 0) = true then (if (decide (y3.1 < 0)) = true then (some (.brk true)) else if (decide ((y2.Vols.length : Int) ≤ y3.1)) = true then (some (.brk true)) else (ix y2.Vols y3.1).bind fun x0 => if (x0.State == 3) = true then (some (.brk true)) else if (y4.2 == 0) = true then (if (decide (y4.1 < 0)) = true then (some (.brk true)) else if (decide ((y2.Vols.length : Int) ≤ y4.1)) = true then (some (.brk true)) else (ix y2.Vols y4.1).bind fun x1 => some (.brk (x1.State == 3))) else some (.brk false)) else if (y4.2 == 0) = true then (if (decide (y4.1 < 0)) = true then (some (.brk true)) else if (decide ((y2.Vols.length : Int) ≤ y4.1)) = true then (some (.brk true)) else (ix y2.Vols y4.1).bind fun x2 => some (.brk (x2.State == 3))) else some (.brk false) : Option (Lp (Bool) (Bool))) fun j1 => if j1 = true then (some false) else after ((M22 fuel y2 (bitsV .and .i64 p2 1)).bind fun y6 => if (decide (0 < y6)) = true then ((M23 fuel).bind fun y7 => some (.brk y7)) else if (y3.2 == 12) = true then (if (y4.2 == 12) = true then ((M23 fuel).bind fun y8 => some (.brk y8)) else some (.brk false)) else some (.brk false) : Option (Lp (Bool) (Bool))) fun j2 => some j2
set_option maxHeartbeats 4000000 in
set_option maxRecDepth 100000 in
theorem W5 {fuel : Nat} {p0 : List Int} {p1 : List TAct} {p2 : Int} {p3 : Int} {p4 : List Int} {p5 : Int} {o : Bool} (h : Heap) (hm : M5 fuel p0 p1 p2 p3 p4 p5 = some o) :
 ACalls Try.prog 5 [.sl none 1 (List.map c_i64 p0), .sl none 5 (List.map c_Act p1), .sc (.int .i64 p2), .sc (.int .i64 p3), .sl none 1 (List.map c_i64 p4), .sc (.int .i64 p5)] h (fun r h' => r = .sc (.bool o) ∧ h' = h) := by
 refine ACalls_hp 178 [.tmp 12] Try.func5 rfl rfl rfl rfl ?_
 unfold M5 at hm
 refine Zf fun K1 H1 => (Za (vD rfl (Zb (H1 _ _ (Zf fun K2 H2 => (Zf fun K3 H3 => ?_))))))
 refine AW_joinH (n := 178) (h := h) hm (σ := Bool) (τ := Unit) (fun g s => []) (fun g s => kp (kp (kp (kp (kp (kp (kp (k0) 36 (.sc (.bool s))) 5 (.sc (.int .i64 p5))) 4 (.sl none 1 (List.map c_i64 p4))) 3 (.sc (.int .i64 p3))) 2 (.sc (.int .i64 p2))) 1 (.sl none 5 (List.map c_Act p1))) 0 (.sl none 1 (List.map c_i64 p0))) (fun x hm => ?_) ?_
 refine Za (vE rfl (s_v (o_lenm ln28 rfl) (vF rfl rfl rfl (vB rfl ?_))))
 rcases Bool.eq_false_or_eq_true (decide (30 < (p0.length : Int))) with hb9 | hb9
 have hm := Zi hm hb9
 refine Zo rfl rfl hb9 (Zo rfl rfl hb9 (s_v (Zm (.sc (.bool _)) rfl hb9 rfl) (vB rfl (Zo rfl rfl rfl (Zo rfl rfl rfl (Zo rfl rfl rfl (s_v (Zm (.sc (.bool _)) rfl rfl rfl) (Zb ?_))))))))
 cases hm
 exact ⟨rfl, (), HOk.nil _, LeF.s (.k7 .nil)⟩
 have hm := Zj hm hb9
 refine sg_y rfl rfl hb9 (vE rfl (sg_y rfl rfl hb9 ?_))
 obtain ⟨y0, hy0, hm⟩ := Zc hm
 refine s_v (o_call (W27 _ hy0) rfl bd27 rfl) (s_v (Zn (.sc (.bool _)) rfl hb9 rfl) (vB rfl ?_))
 rcases Bool.eq_false_or_eq_true y0 with hb0 | hb0
 have hm := Zi hm hb0
 refine Zo rfl rfl hb0 (Zo rfl rfl hb0 (Zo rfl rfl hb0 (s_v (Zm (.sc (.bool _)) rfl hb0 rfl) (Zb ?_))))
 cases hm
 exact ⟨rfl, (), HOk.nil _, LeF.s (.k7 .nil)⟩
 have hm := Zj hm hb0
 refine sg_y rfl rfl hb0 (vE rfl (sg_y rfl rfl hb0 (s_v (o_lenm ln28 rfl) (sg_y rfl rfl hb0 (vF rfl rfl rfl (s_v (Zn (.sc (.bool _)) rfl hb0 rfl) (Zb ?_)))))))
 cases hm
 exact ⟨rfl, (), HOk.nil _, LeF.s (.k7 .nil)⟩
 rintro _ j8 fr' h' hk0 hm le
 refine H3 _ _ (le.aw ?_)
 refine AW_if' rfl (fun hc0 => ?_) (fun hc0 => ?_)
 have hm := Zi hm hc0
 refine Zf fun K0 H4 => (Za (vD rfl (Zb (H4 _ _ (AW_ret ?_)))))
 have hmo := Option.some.inj hm; subst hmo
 exact Ret.of1 (.inl rfl) (rsT _ _ (.sc (.bool _)) rfl) (Sub.refl _) (ALe.refl _ _) ⟨rfl, rfl⟩
 have hm := Zj hm hc0
 refine Zl (H2 _ _ (Zf fun K4 H5 => (Za (vE rfl ?_))))
 obtain ⟨y1, hy1, hm⟩ := Zc hm
 refine s_v (o_call (W29 _ hy1) rfl bd29 rfl) (vE rfl ?_)
 obtain ⟨y2, hy2, hm⟩ := Zc hm
 refine s_v (o_call (W28 _ hy2) rfl bd28 rfl) ?_
 refine s_op (a_alloc ([.sc (.int .i64 0), .sc (.slice none 0 0), .sc (.slice none 0 0), .sc (.slice none 0 0), .sc (.slice none 0 0)]) hk0 zr27 rfl rfl fun k21 hk1 => ?_)
 refine s_op (a_store 0 (c_Catalog y2) hk1 rfl rfl rfl rfl sz27 rfl rfl fun hk2 => ?_)
 refine Zb (H5 _ _ (Zf fun K5 H6 => (Za (vA rfl (vF rfl rfl rfl (vA rfl (s_v (o_cv ti3 ti46 rfl) (s_v (o_bi rfl rfl rfl (by decide)) (s_v (o_cv ti46 ti3 rfl) (vA rfl (s_v (o_cv ti3 ti46 rfl) (s_v (o_bi rfl rfl rfl (by decide)) (s_v (o_cv ti46 ti3 rfl) (vC rfl (vC rfl ?_)))))))))))))))
 refine vC rfl (Zb (H6 _ _ (Zf fun K6 H7 => (Za (s_v (o_as (.sc (.slice _ _ _)) rfl) (s_v (o_as (.sc (.slice _ _ _)) rfl) (s_v (o_as (.sc (.slice _ _ _)) rfl) (Zb (H7 _ _ (Zf fun K7 H8 => (Zf fun K8 H9 => (Za (vC rfl (Zb (H9 _ _ ?_)))))))))))))))
 refine (LeF.put (t := 14) (v := ow none 1 (List.map c_i64 [])) (Sub.refl _) (ow_nil _ _)).aw ?_
 refine (LeF.put (t := 15) (v := ow none 1 (List.map c_i64 [])) (Sub.refl _) (ow_nil _ _)).aw ?_
 refine (LeF.put (t := 16) (v := ow none 1 (List.map c_i64 [])) (Sub.refl _) (ow_nil _ _)).aw ?_
 refine AW_loopL (n := 178) (h := h) hm (σ := (List Int) × (List Int) × (List Int) × Int) (τ := Option Key × Option Key × Option Key) (fun g s => [(g.1, .tok 3 1 ((s.1 : List Int).length * 1)), (g.2.1, .tok 3 1 ((s.2.1 : List Int).length * 1)), (g.2.2, .tok 3 1 ((s.2.2.1 : List Int).length * 1)), (some k21, .obj 27 (c_Catalog y2))]) (fun g s => (g.1 = none → s.1 = []) ∧ (g.2.1 = none → s.2.1 = []) ∧ (g.2.2 = none → s.2.2.1 = [])) (fun g s => kp (kp (kp (kp (kp (kp (kp (kp (kp (k0) 17 (.sc (.int .i64 s.2.2.2))) 16 (ow g.1 1 (List.map c_i64 s.1))) 15 (ow g.2.1 1 (List.map c_i64 s.2.1))) 14 (ow g.2.2 1 (List.map c_i64 s.2.2.1))) 13 (.ptr k21 0)) 5 (.sc (.int .i64 (IntKind.wrap .i64 ((IntKind.wrap .u64 p5).tmod 50))))) 4 (.sl none 1 (List.map c_i64 p4))) 3 (.sc (.int .i64 (IntKind.wrap .i64 ((IntKind.wrap .u64 p3).tmod 50))))) 2 (.sc (.int .i64 (bitsV .and .i64 p2 1)))) (none, none, none) (⟨HOk.none (HOk.none (HOk.none hk2)), (fun _ => rfl), (fun _ => rfl), (fun _ => rfl)⟩) (LeF.s (.k9 .nil)) ?_ ?_
 rintro ⟨tg0, tg1, tg2⟩ ⟨q0, q1, q2, q3⟩ x ⟨hk3, ot0, ot1, ot2⟩ hm
 replace hm : M5_L0 fuel p4 p5 y2 q0 q1 q2 q3 = some x := hm
 unfold M5_L0 at hm
 refine Zf fun K9 H10 => (Zf fun K10 H11 => (Za (vA rfl (s_v (Zh fd27_4 rfl rfl) (s_v (Zg (.sl none 4 (List.map c_Vol y2.Vols)) ld25 rfl (Zd 3 hk3 rfl) rfl) (s_v (o_lenm ln25 rfl) (vF rfl rfl rfl (Zb (H11 _ _ ?_)))))))))
 refine AW_if' rfl (fun hc1 => ?_) (fun hc1 => ?_)
 have hm := Zi hm hc1
 refine Zl (H10 _ _ (Zf fun K11 H12 => (AW_block (Zf fun K12 H13 => (Za (vC rfl (Zb (H13 _ _ (Zf fun K13 H14 => (Zf fun K14 H17 => (Za (vA rfl (vE rfl (s_v (o_lenm ln28 rfl) (vF rfl rfl rfl ?_)))))))))))))))
 refine Zb (H17 _ _ ?_)
 refine AW_joinH (n := 178) (h := h) hm (σ := Int) (τ := Unit) (fun g s => [(tg0, .tok 3 1 ((q0 : List Int).length * 1)), (tg1, .tok 3 1 ((q1 : List Int).length * 1)), (tg2, .tok 3 1 ((q2 : List Int).length * 1)), (some k21, .obj 27 (c_Catalog y2))]) (fun g s => kp (kp (kp (kp (kp (kp (kp (kp (kp (kp (k0) 18 (.sc (.int .i64 s))) 17 (.sc (.int .i64 q3))) 16 (ow tg0 1 (List.map c_i64 q0))) 15 (ow tg1 1 (List.map c_i64 q1))) 14 (ow tg2 1 (List.map c_i64 q2))) 13 (.ptr k21 0)) 5 (.sc (.int .i64 (IntKind.wrap .i64 ((IntKind.wrap .u64 p5).tmod 50))))) 4 (.sl none 1 (List.map c_i64 p4))) 3 (.sc (.int .i64 (IntKind.wrap .i64 ((IntKind.wrap .u64 p3).tmod 50))))) 2 (.sc (.int .i64 (bitsV .and .i64 p2 1)))) (fun x hm => ?_) ?_
 refine AW_if' rfl (fun hc2 => ?_) (fun hc2 => ?_)
 have hm := Zi hm hc2
 refine Za (vE rfl (vA rfl ?_))
 obtain ⟨x0, hx0, hm⟩ := Zc hm
 refine s_v (o_ix hx0 el28 rfl rfl) (s_v (o_ld (.sc (.int .i64 x0)) ld3 rfl rfl) (s_v (o_cv ti3 ti46 rfl) (s_v (o_bi rfl rfl rfl (by decide)) (s_v (o_cv ti46 ti3 rfl) (vC rfl (Zb ?_))))))
 cases hm
 exact ⟨rfl, (), hk3, LeF.s (.k10 .nil)⟩
 have hm := Zj hm hc2
 refine Zl ?_
 cases hm
 exact ⟨rfl, (), hk3, LeF.s (.k10 .nil)⟩
 rintro _ j0 fr' h' hk4 hm le
 refine H14 _ _ (le.aw ?_)
 refine Za (s_v (o_mv (ow _ _ _) rfl) (vA rfl (s_v (o_lit (List.map c_i64 ([j0] : List Int)) et28 rfl rfl rfl rfl) ?_)))
 obtain ⟨z0, hz0, hm⟩ := Zc hm
 refine s_op (a_app (c := c_i64) 2 hz0 et28 rfl rfl rfl ot2 hk4 rfl fun tg3 ot3 hk5 => ?_)
 refine s_v (o_mv (ow _ _ _) rfl) (vA rfl (vA rfl (vF rfl rfl rfl (s_v (o_lit (List.map c_i64 ([IntKind.wrap .i64 (j0 + (IntKind.wrap .i64 ((IntKind.wrap .u64 p5).tmod 50)))] : List Int)) et28 rfl rfl rfl rfl) ?_))))
 obtain ⟨z1, hz1, hm⟩ := Zc hm
 refine s_op (a_app (c := c_i64) 1 hz1 et28 rfl rfl rfl ot1 hk5 rfl fun tg4 ot4 hk6 => ?_)
 refine s_v (o_mv (ow _ _ _) rfl) (s_v (o_lit (List.map c_i64 ([0] : List Int)) et28 rfl rfl rfl rfl) ?_)
 obtain ⟨z2, hz2, hm⟩ := Zc hm
 refine s_op (a_app (c := c_i64) 0 hz2 et28 rfl rfl rfl ot0 hk6 rfl fun tg5 ot5 hk7 => ?_)
 refine s_v (o_as (ow _ _ _) rfl) (s_v (o_as (ow _ _ _) rfl) (s_v (o_as (ow _ _ _) rfl) (Zb (H12 _ _ (Za (vA rfl (vF rfl rfl rfl (vC rfl (Zb ?_)))))))))
 cases hm
 exact ⟨rfl, (tg5, tg4, tg3), ⟨hk7, ot5, ot4, ot3⟩, LeF.s (.k9 .nil)⟩
 have hm := Zj hm hc1
 refine AW_exit ?_
 refine Seq_exit ?_
 cases hm
 exact ⟨rfl, (tg0, tg1, tg2), ⟨hk3, ot0, ot1, ot2⟩, LeF.s (.k9 .nil)⟩
 rintro ⟨tg6, tg7, tg8⟩ ⟨r0, r1, r2, r3⟩ fr' h' ⟨hk8, ot6, ot7, ot8⟩ hm le
 refine H8 _ _ (le.aw ?_)
 refine Zf fun K17 H18 => (Za (s_v (Zg (.agg (c_Catalog y2)) ld27 rfl (Zd 3 hk8 rfl) rfl) (vA rfl (vA rfl (s_v (o_mv (ow _ _ _) rfl) ?_)))))
 obtain ⟨y3, hy3, hm⟩ := Zc hm
 refine s_fz (t := 86) (.sl none 1 (List.map c_i64 r2)) (hp_sub (List.eraseIdx_sublist _ 2) hk8).1 (own_frzE _ 2 ot8 hk8 rfl (.refl _)) ?_
 refine s_v (o_call (W16 _ hy3) rfl bd16 rfl) (s_v (o_mv (.tup _) rfl) (s_v (o_ex (.sc (.int _ _)) rfl rfl) (s_v (o_ex (.sc (.int _ _)) rfl rfl) (vC rfl (vC rfl (Zb (H18 _ _ (Zf fun K18 H19 => (Za (s_v (Zg (.agg (c_Catalog y2)) ld27 rfl (Zd 2 ((hp_sub (List.eraseIdx_sublist _ 2) hk8).2) rfl) rfl) (vA rfl (vA rfl (s_v (o_mv (ow _ _ _) rfl) ?_)))))))))))))
 obtain ⟨y4, hy4, hm⟩ := Zc hm
 refine s_fz (t := 94) (.sl none 1 (List.map c_i64 r1)) (hp_sub (List.eraseIdx_sublist _ 1) ((hp_sub (List.eraseIdx_sublist _ 2) hk8).2)).1 (own_frzE _ 1 ot7 ((hp_sub (List.eraseIdx_sublist _ 2) hk8).2) rfl (.refl _)) ?_
 refine s_v (o_call (W16 _ hy4) rfl bd16 rfl) (s_v (o_mv (.tup _) rfl) (s_v (o_ex (.sc (.int _ _)) rfl rfl) (s_v (o_ex (.sc (.int _ _)) rfl rfl) (vC rfl (vC rfl (Zb (H19 _ _ (Zf fun K19 H20 => (Za (s_v (Zg (.agg (c_Catalog y2)) ld27 rfl (Zd 1 ((hp_sub (List.eraseIdx_sublist _ 1) ((hp_sub (List.eraseIdx_sublist _ 2) hk8).2)).2) rfl) rfl) (vA rfl (vA rfl (vF rfl rfl rfl (s_v (o_mv (ow _ _ _) rfl) ?_))))))))))))))
 obtain ⟨y5, hy5, hm⟩ := Zc hm
 refine s_fz (t := 103) (.sl none 1 (List.map c_i64 r0)) (hp_sub (List.eraseIdx_sublist _ 0) ((hp_sub (List.eraseIdx_sublist _ 1) ((hp_sub (List.eraseIdx_sublist _ 2) hk8).2)).2)).1 (own_frzE _ 0 ot6 ((hp_sub (List.eraseIdx_sublist _ 1) ((hp_sub (List.eraseIdx_sublist _ 2) hk8).2)).2) rfl (.refl _)) ?_
 refine s_v (o_call (W16 _ hy5) rfl bd16 rfl) (s_v (o_mv (.tup _) rfl) (s_v (o_ex (.sc (.int _ _)) rfl rfl) (s_v (o_ex (.sc (.int _ _)) rfl rfl) (vC rfl (vC rfl (Zb (H20 _ _ (Zf fun K20 H21 => (Zf fun K21 H22 => ?_)))))))))
 refine AW_joinH (n := 178) (h := h) hm (σ := Bool) (τ := Unit) (fun g s => [(some k21, .obj 27 (c_Catalog y2))]) (fun g s => kp (kp (kp (kp (kp (kp (kp (k0) 116 (.sc (.bool s))) 22 (.sc (.int .i64 y4.2))) 21 (.sc (.int .i64 y4.1))) 20 (.sc (.int .i64 y3.2))) 19 (.sc (.int .i64 y3.1))) 13 (.ptr k21 0)) 2 (.sc (.int .i64 (bitsV .and .i64 p2 1)))) (fun x hm => ?_) ?_
 refine Za (vA rfl (vF rfl rfl rfl (vB rfl ?_)))
 rcases Bool.eq_false_or_eq_true (y3.2 == 0) with hb1 | hb1
 have hm := Zi hm hb1
 refine sg_y rfl rfl hb1 (vA rfl (sg_y rfl rfl hb1 (vF rfl rfl rfl (s_v (Zm (.sc (.bool _)) rfl hb1 rfl) (vB rfl ?_)))))
 rcases Bool.eq_false_or_eq_true (y4.2 != 0) with hb2 | hb2
 have hm := Zi hm hb2
 refine Zo rfl rfl hb2 (Zo rfl rfl hb2 (s_v (Zm (.sc (.bool _)) rfl hb2 rfl) (Zb ?_)))
 cases hm
 exact ⟨rfl, (), (hp_sub (List.eraseIdx_sublist _ 0) ((hp_sub (List.eraseIdx_sublist _ 1) ((hp_sub (List.eraseIdx_sublist _ 2) hk8).2)).2)).2, LeF.s (.k7 .nil)⟩
 have hm := Zj hm hb2
 refine sg_y rfl rfl hb2 (vA rfl (sg_y rfl rfl hb2 (vF rfl rfl rfl (s_v (Zn (.sc (.bool _)) rfl hb2 rfl) (Zb ?_)))))
 cases hm
 exact ⟨rfl, (), (hp_sub (List.eraseIdx_sublist _ 0) ((hp_sub (List.eraseIdx_sublist _ 1) ((hp_sub (List.eraseIdx_sublist _ 2) hk8).2)).2)).2, LeF.s (.k7 .nil)⟩
 have hm := Zj hm hb1
 refine Zo rfl rfl hb1 (Zo rfl rfl hb1 (s_v (Zn (.sc (.bool _)) rfl hb1 rfl) (vB rfl (sg_y rfl rfl rfl (vA rfl (sg_y rfl rfl rfl (vF rfl rfl rfl (s_v (Zn (.sc (.bool _)) rfl rfl rfl) (Zb ?_)))))))))
 cases hm
 exact ⟨rfl, (), (hp_sub (List.eraseIdx_sublist _ 0) ((hp_sub (List.eraseIdx_sublist _ 1) ((hp_sub (List.eraseIdx_sublist _ 2) hk8).2)).2)).2, LeF.s (.k7 .nil)⟩
 rintro _ j1 fr' h' hk9 hm le
 refine H22 _ _ (le.aw ?_)
 refine AW_if' rfl (fun hc3 => ?_) (fun hc3 => ?_)
 have hm := Zi hm hc3
 refine Zf fun K22 H23 => (Za (vD rfl (Zb (H23 _ _ (AW_ret ?_)))))
 have hmo := Option.some.inj hm; subst hmo
 exact Ret.of1 (.inl rfl) (rsT _ _ (.sc (.bool _)) rfl) (hp_sub (List.nil_sublist _) hk9).1 (ALe.refl _ _) ⟨rfl, rfl⟩
 have hm := Zj hm hc3
 refine Zl (H21 _ _ (Zf fun K23 H24 => (Zf fun K24 H29 => ?_)))
 refine AW_joinH (n := 178) (h := h) hm (σ := Bool) (τ := Unit) (fun g s => [(some k21, .obj 27 (c_Catalog y2))]) (fun g s => kp (kp (kp (kp (kp (k0) 162 (.sc (.bool s))) 22 (.sc (.int .i64 y4.2))) 20 (.sc (.int .i64 y3.2))) 13 (.ptr k21 0)) 2 (.sc (.int .i64 (bitsV .and .i64 p2 1)))) (fun x hm => ?_) ?_
 refine Za (vA rfl (vF rfl rfl rfl (vB rfl ?_)))
 rcases Bool.eq_false_or_eq_true (y3.2 == 0) with hb3 | hb3
 have hm := Zi hm hb3
 refine sg_y rfl rfl hb3 (vA rfl (sg_y rfl rfl hb3 (vF rfl rfl rfl (sg_y rfl rfl hb3 (vB rfl ?_)))))
 rcases Bool.eq_false_or_eq_true (decide (y3.1 < 0)) with hb4 | hb4
 have hm := Zi hm hb4
 refine Zo rfl rfl hb4 (Zo rfl rfl hb4 (Zo rfl rfl hb4 (Zo rfl rfl hb4 (Zo rfl rfl hb4 (sg_y rfl rfl hb3 (s_v (Zm (.sc (.bool _)) rfl hb4 rfl) (sg_y rfl rfl hb3 (vB rfl (Zo rfl rfl rfl (Zo rfl rfl rfl (Zo rfl rfl rfl (Zo rfl rfl rfl (Zo rfl rfl rfl (Zo rfl rfl rfl (Zo rfl rfl rfl ?_)))))))))))))))
 refine sg_y rfl rfl hb3 (s_v (Zm (.sc (.bool _)) rfl rfl rfl) (s_v (Zm (.sc (.bool _)) rfl hb3 rfl) (vB rfl (Zo rfl rfl rfl (Zo rfl rfl rfl (Zo rfl rfl rfl (sg_u rfl rfl (sg_u rfl rfl (sg_u rfl rfl (sg_u rfl rfl (sg_u rfl rfl (sg_u rfl rfl (sg_u rfl rfl (sg_u rfl rfl (sg_u rfl rfl ?_)))))))))))))))
 refine sg_u rfl rfl (sg_u rfl rfl (sg_u rfl rfl (sg_u rfl rfl (sg_u rfl rfl (sg_u rfl rfl (sg_u rfl rfl (sg_u rfl rfl (sg_u rfl rfl (Zo rfl rfl rfl (s_v (Zm (.sc (.bool _)) rfl rfl rfl) (Zb ?_)))))))))))
 cases hm
 exact ⟨rfl, (), hk9, LeF.s (.k5 .nil)⟩
 have hm := Zj hm hb4
 refine sg_y rfl rfl hb4 (vA rfl (sg_y rfl rfl hb4 (s_v (Zh fd27_4 rfl rfl) (sg_y rfl rfl hb4 (s_v (Zg (.sl none 4 (List.map c_Vol y2.Vols)) ld25 rfl (Zd 0 hk9 rfl) rfl) (sg_y rfl rfl hb4 (s_v (o_lenm ln25 rfl) (sg_y rfl rfl hb4 (vF rfl rfl rfl (sg_y rfl rfl hb3 (s_v (Zn (.sc (.bool _)) rfl hb4 rfl) (sg_y rfl rfl hb3 (vB rfl ?_)))))))))))))
 rcases Bool.eq_false_or_eq_true (decide ((y2.Vols.length : Int) ≤ y3.1)) with hb5 | hb5
 have hm := Zi hm hb5
 refine Zo rfl rfl hb5 (Zo rfl rfl hb5 (Zo rfl rfl hb5 (Zo rfl rfl hb5 (Zo rfl rfl hb5 (Zo rfl rfl hb5 (Zo rfl rfl hb5 (sg_y rfl rfl hb3 (s_v (Zm (.sc (.bool _)) rfl hb5 rfl) (s_v (Zm (.sc (.bool _)) rfl hb3 rfl) (vB rfl (Zo rfl rfl rfl (Zo rfl rfl rfl (Zo rfl rfl rfl (sg_u rfl rfl (sg_u rfl rfl ?_)))))))))))))))
 refine sg_u rfl rfl (sg_u rfl rfl (sg_u rfl rfl (sg_u rfl rfl (sg_u rfl rfl (sg_u rfl rfl (sg_u rfl rfl (sg_u rfl rfl (sg_u rfl rfl (sg_u rfl rfl (sg_u rfl rfl (sg_u rfl rfl (sg_u rfl rfl (sg_u rfl rfl (sg_u rfl rfl (sg_u rfl rfl ?_)))))))))))))))
 refine Zo rfl rfl rfl (s_v (Zm (.sc (.bool _)) rfl rfl rfl) (Zb ?_))
 cases hm
 exact ⟨rfl, (), hk9, LeF.s (.k5 .nil)⟩
 have hm := Zj hm hb5
 refine sg_y rfl rfl hb5 (s_v (Zh fd27_4 rfl rfl) (sg_y rfl rfl hb5 (s_v (Zg (.sl none 4 (List.map c_Vol y2.Vols)) ld25 rfl (Zd 0 hk9 rfl) rfl) (sg_y rfl rfl hb5 (vA rfl (sg_y rfl rfl hb5 ?_))))))
 obtain ⟨x1, hx1, hm⟩ := Zc hm
 refine s_v (o_ix hx1 el25 rfl rfl) (sg_y rfl rfl hb5 (s_v (o_fl fd40_2 rfl rfl) (sg_y rfl rfl hb5 (s_v (o_ld (.sc (.int .i64 x1.State)) ld3 rfl rfl) (sg_y rfl rfl hb5 (vF rfl rfl rfl (sg_y rfl rfl hb3 (s_v (Zn (.sc (.bool _)) rfl hb5 rfl) (s_v (Zm (.sc (.bool _)) rfl hb3 rfl) (vB rfl ?_))))))))))
 rcases Bool.eq_false_or_eq_true (x1.State == 3) with hb6 | hb6
 have hm := Zi hm hb6
 refine Zo rfl rfl hb6 (Zo rfl rfl hb6 (Zo rfl rfl hb6 (sg_u rfl rfl (sg_u rfl rfl (sg_u rfl rfl (sg_u rfl rfl (sg_u rfl rfl (sg_u rfl rfl (sg_u rfl rfl (sg_u rfl rfl (sg_u rfl rfl (sg_u rfl rfl (sg_u rfl rfl (sg_u rfl rfl (sg_u rfl rfl ?_)))))))))))))))
 refine sg_u rfl rfl (sg_u rfl rfl (sg_u rfl rfl (sg_u rfl rfl (sg_u rfl rfl (Zo rfl rfl hb6 (s_v (Zm (.sc (.bool _)) rfl hb6 rfl) (Zb ?_)))))))
 cases hm
 exact ⟨rfl, (), hk9, LeF.s (.k5 .nil)⟩
 have hm := Zj hm hb6
 refine sg_y rfl rfl hb6 (vA rfl (sg_y rfl rfl hb6 (vF rfl rfl rfl (sg_y rfl rfl hb6 (vB rfl ?_)))))
 rcases Bool.eq_false_or_eq_true (y4.2 == 0) with hb7 | hb7
 have hm := Zi hm hb7
 refine sg_y rfl rfl hb7 (vA rfl (sg_y rfl rfl hb7 (vF rfl rfl rfl (sg_y rfl rfl hb7 (vB rfl ?_)))))
 rcases Bool.eq_false_or_eq_true (decide (y4.1 < 0)) with hb8 | hb8
 have hm := Zi hm hb8
 refine Zo rfl rfl hb8 (Zo rfl rfl hb8 (Zo rfl rfl hb8 (Zo rfl rfl hb8 (Zo rfl rfl hb8 (sg_y rfl rfl hb7 (s_v (Zm (.sc (.bool _)) rfl hb8 rfl) (sg_y rfl rfl hb7 (vB rfl (Zo rfl rfl rfl (Zo rfl rfl rfl (Zo rfl rfl rfl (Zo rfl rfl rfl (Zo rfl rfl rfl (Zo rfl rfl rfl (Zo rfl rfl rfl ?_)))))))))))))))
 refine sg_y rfl rfl hb7 (s_v (Zm (.sc (.bool _)) rfl rfl rfl) (sg_y rfl rfl hb6 (s_v (Zm (.sc (.bool _)) rfl hb7 rfl) (s_v (Zn (.sc (.bool _)) rfl hb6 rfl) (Zb ?_)))))
 cases hm
 exact ⟨rfl, (), hk9, LeF.s (.k5 .nil)⟩
 have hm := Zj hm hb8
 refine sg_y rfl rfl hb8 (vA rfl (sg_y rfl rfl hb8 (s_v (Zh fd27_4 rfl rfl) (sg_y rfl rfl hb8 (s_v (Zg (.sl none 4 (List.map c_Vol y2.Vols)) ld25 rfl (Zd 0 hk9 rfl) rfl) (sg_y rfl rfl hb8 (s_v (o_lenm ln25 rfl) (sg_y rfl rfl hb8 (vF rfl rfl rfl (sg_y rfl rfl hb7 (s_v (Zn (.sc (.bool _)) rfl hb8 rfl) (sg_y rfl rfl hb7 (vB rfl ?_)))))))))))))
 rcases Bool.eq_false_or_eq_true (decide ((y2.Vols.length : Int) ≤ y4.1)) with hb10 | hb10
 have hm := Zi hm hb10
 refine Zo rfl rfl hb10 (Zo rfl rfl hb10 (Zo rfl rfl hb10 (Zo rfl rfl hb10 (Zo rfl rfl hb10 (Zo rfl rfl hb10 (Zo rfl rfl hb10 (sg_y rfl rfl hb7 (s_v (Zm (.sc (.bool _)) rfl hb10 rfl) (sg_y rfl rfl hb6 (s_v (Zm (.sc (.bool _)) rfl hb7 rfl) (s_v (Zn (.sc (.bool _)) rfl hb6 rfl) (Zb ?_))))))))))))
 cases hm
 exact ⟨rfl, (), hk9, LeF.s (.k5 .nil)⟩
 have hm := Zj hm hb10
 refine sg_y rfl rfl hb10 (s_v (Zh fd27_4 rfl rfl) (sg_y rfl rfl hb10 (s_v (Zg (.sl none 4 (List.map c_Vol y2.Vols)) ld25 rfl (Zd 0 hk9 rfl) rfl) (sg_y rfl rfl hb10 (vA rfl (sg_y rfl rfl hb10 ?_))))))
 obtain ⟨x2, hx2, hm⟩ := Zc hm
 refine s_v (o_ix hx2 el25 rfl rfl) (sg_y rfl rfl hb10 (s_v (o_fl fd40_2 rfl rfl) (sg_y rfl rfl hb10 (s_v (o_ld (.sc (.int .i64 x2.State)) ld3 rfl rfl) (sg_y rfl rfl hb10 (vF rfl rfl rfl (sg_y rfl rfl hb7 (s_v (Zn (.sc (.bool _)) rfl hb10 rfl) (sg_y rfl rfl hb6 (s_v (Zm (.sc (.bool _)) rfl hb7 rfl) (s_v (Zn (.sc (.bool _)) rfl hb6 rfl) (Zb ?_))))))))))))
 cases hm
 exact ⟨rfl, (), hk9, LeF.s (.k5 .nil)⟩
 have hm := Zj hm hb7
 refine Zo rfl rfl hb7 (Zo rfl rfl hb7 (Zo rfl rfl hb7 (sg_u rfl rfl (sg_u rfl rfl (sg_u rfl rfl (sg_u rfl rfl (sg_u rfl rfl (Zo rfl rfl hb7 (Zo rfl rfl hb7 (sg_u rfl rfl (sg_u rfl rfl (sg_u rfl rfl (sg_u rfl rfl (sg_u rfl rfl (sg_u rfl rfl ?_)))))))))))))))
 refine sg_u rfl rfl (Zo rfl rfl hb7 (sg_y rfl rfl hb6 (s_v (Zn (.sc (.bool _)) rfl hb7 rfl) (s_v (Zn (.sc (.bool _)) rfl hb6 rfl) (Zb ?_)))))
 cases hm
 exact ⟨rfl, (), hk9, LeF.s (.k5 .nil)⟩
 have hm := Zj hm hb3
 refine Zo rfl rfl hb3 (Zo rfl rfl hb3 (Zo rfl rfl hb3 (sg_u rfl rfl (sg_u rfl rfl (sg_u rfl rfl (sg_u rfl rfl (sg_u rfl rfl (Zo rfl rfl hb3 (Zo rfl rfl hb3 (sg_u rfl rfl (sg_u rfl rfl (sg_u rfl rfl (sg_u rfl rfl (sg_u rfl rfl (sg_u rfl rfl ?_)))))))))))))))
 refine sg_u rfl rfl (Zo rfl rfl hb3 (s_v (Zn (.sc (.bool _)) rfl hb3 rfl) (vB rfl (sg_y rfl rfl rfl (vA rfl (sg_y rfl rfl rfl (vF rfl rfl rfl (sg_y rfl rfl rfl (vB rfl ?_)))))))))
 rcases Bool.eq_false_or_eq_true (y4.2 == 0) with hb11 | hb11
 have hm := Zi hm hb11
 refine sg_y rfl rfl hb11 (vA rfl (sg_y rfl rfl hb11 (vF rfl rfl rfl (sg_y rfl rfl hb11 (vB rfl ?_)))))
 rcases Bool.eq_false_or_eq_true (decide (y4.1 < 0)) with hb13 | hb13
 have hm := Zi hm hb13
 refine Zo rfl rfl hb13 (Zo rfl rfl hb13 (Zo rfl rfl hb13 (Zo rfl rfl hb13 (Zo rfl rfl hb13 (sg_y rfl rfl hb11 (s_v (Zm (.sc (.bool _)) rfl hb13 rfl) (sg_y rfl rfl hb11 (vB rfl (Zo rfl rfl rfl (Zo rfl rfl rfl (Zo rfl rfl rfl (Zo rfl rfl rfl (Zo rfl rfl rfl (Zo rfl rfl rfl (Zo rfl rfl rfl ?_)))))))))))))))
 refine sg_y rfl rfl hb11 (s_v (Zm (.sc (.bool _)) rfl rfl rfl) (sg_y rfl rfl rfl (s_v (Zm (.sc (.bool _)) rfl hb11 rfl) (s_v (Zn (.sc (.bool _)) rfl rfl rfl) (Zb ?_)))))
 cases hm
 exact ⟨rfl, (), hk9, LeF.s (.k5 .nil)⟩
 have hm := Zj hm hb13
 refine sg_y rfl rfl hb13 (vA rfl (sg_y rfl rfl hb13 (s_v (Zh fd27_4 rfl rfl) (sg_y rfl rfl hb13 (s_v (Zg (.sl none 4 (List.map c_Vol y2.Vols)) ld25 rfl (Zd 0 hk9 rfl) rfl) (sg_y rfl rfl hb13 (s_v (o_lenm ln25 rfl) (sg_y rfl rfl hb13 (vF rfl rfl rfl (sg_y rfl rfl hb11 (s_v (Zn (.sc (.bool _)) rfl hb13 rfl) (sg_y rfl rfl hb11 (vB rfl ?_)))))))))))))
 rcases Bool.eq_false_or_eq_true (decide ((y2.Vols.length : Int) ≤ y4.1)) with hb14 | hb14
 have hm := Zi hm hb14
 refine Zo rfl rfl hb14 (Zo rfl rfl hb14 (Zo rfl rfl hb14 (Zo rfl rfl hb14 (Zo rfl rfl hb14 (Zo rfl rfl hb14 (Zo rfl rfl hb14 (sg_y rfl rfl hb11 (s_v (Zm (.sc (.bool _)) rfl hb14 rfl) (sg_y rfl rfl rfl (s_v (Zm (.sc (.bool _)) rfl hb11 rfl) (s_v (Zn (.sc (.bool _)) rfl rfl rfl) (Zb ?_))))))))))))
 cases hm
 exact ⟨rfl, (), hk9, LeF.s (.k5 .nil)⟩
 have hm := Zj hm hb14
 refine sg_y rfl rfl hb14 (s_v (Zh fd27_4 rfl rfl) (sg_y rfl rfl hb14 (s_v (Zg (.sl none 4 (List.map c_Vol y2.Vols)) ld25 rfl (Zd 0 hk9 rfl) rfl) (sg_y rfl rfl hb14 (vA rfl (sg_y rfl rfl hb14 ?_))))))
 obtain ⟨x3, hx3, hm⟩ := Zc hm
 refine s_v (o_ix hx3 el25 rfl rfl) (sg_y rfl rfl hb14 (s_v (o_fl fd40_2 rfl rfl) (sg_y rfl rfl hb14 (s_v (o_ld (.sc (.int .i64 x3.State)) ld3 rfl rfl) (sg_y rfl rfl hb14 (vF rfl rfl rfl (sg_y rfl rfl hb11 (s_v (Zn (.sc (.bool _)) rfl hb14 rfl) (sg_y rfl rfl rfl (s_v (Zm (.sc (.bool _)) rfl hb11 rfl) (s_v (Zn (.sc (.bool _)) rfl rfl rfl) (Zb ?_))))))))))))
 cases hm
 exact ⟨rfl, (), hk9, LeF.s (.k5 .nil)⟩
 have hm := Zj hm hb11
 refine Zo rfl rfl hb11 (Zo rfl rfl hb11 (Zo rfl rfl hb11 (sg_u rfl rfl (sg_u rfl rfl (sg_u rfl rfl (sg_u rfl rfl (sg_u rfl rfl (Zo rfl rfl hb11 (Zo rfl rfl hb11 (sg_u rfl rfl (sg_u rfl rfl (sg_u rfl rfl (sg_u rfl rfl (sg_u rfl rfl (sg_u rfl rfl ?_)))))))))))))))
 refine sg_u rfl rfl (Zo rfl rfl hb11 (sg_y rfl rfl rfl (s_v (Zn (.sc (.bool _)) rfl hb11 rfl) (s_v (Zn (.sc (.bool _)) rfl rfl rfl) (Zb ?_)))))
 cases hm
 exact ⟨rfl, (), hk9, LeF.s (.k5 .nil)⟩
 rintro _ j2 fr' h' hk10 hm le
 refine H29 _ _ (le.aw ?_)
 refine AW_if' rfl (fun hc4 => ?_) (fun hc4 => ?_)
 have hm := Zi hm hc4
 refine Zf fun K29 H30 => (Za (vD rfl (Zb (H30 _ _ (AW_ret ?_)))))
 have hmo := Option.some.inj hm; subst hmo
 exact Ret.of1 (.inl rfl) (rsT _ _ (.sc (.bool _)) rfl) (hp_sub (List.nil_sublist _) hk10).1 (ALe.refl _ _) ⟨rfl, rfl⟩
 have hm := Zj hm hc4
 refine Zl (H24 _ _ (Zf fun K30 H31 => ?_))
 refine AW_joinH (n := 178) (h := h) hm (σ := Bool) (τ := Unit) (fun g s => [(some k21, .obj 27 (c_Catalog y2))]) (fun g s => kp (k0) 12 (.sc (.bool s))) (fun x hm => ?_) ?_
 refine Za (s_v (Zg (.agg (c_Catalog y2)) ld27 rfl (Zd 0 hk10 rfl) rfl) (vA rfl ?_))
 obtain ⟨y6, hy6, hm⟩ := Zc hm
 refine s_v (o_call (W22 _ hy6) rfl bd22 rfl) (vF rfl rfl rfl (vB rfl ?_))
 rcases Bool.eq_false_or_eq_true (decide (0 < y6)) with hb15 | hb15
 have hm := Zi hm hb15
 refine Zo rfl rfl hb15 (Zo rfl rfl hb15 (Zo rfl rfl hb15 (sg_u rfl rfl (sg_u rfl rfl (Zo rfl rfl hb15 (s_v (Zm (.sc (.bool _)) rfl hb15 rfl) (vB rfl (sg_y rfl rfl rfl ?_))))))))
 obtain ⟨y7, hy7, hm⟩ := Zc hm
 refine s_v (o_call (W23 _ hy7) rfl bd23 rfl) (s_v (Zm (.sc (.bool _)) rfl rfl rfl) (vD rfl (Zb ?_)))
 cases hm
 exact ⟨rfl, (), hk10, LeF.s (.cons (ALe.refl _ _) .nil)⟩
 have hm := Zj hm hb15
 refine sg_y rfl rfl hb15 (vA rfl (sg_y rfl rfl hb15 (vF rfl rfl rfl (sg_y rfl rfl hb15 (vB rfl ?_)))))
 rcases Bool.eq_false_or_eq_true (y3.2 == 12) with hb16 | hb16
 have hm := Zi hm hb16
 refine sg_y rfl rfl hb16 (vA rfl (sg_y rfl rfl hb16 (vF rfl rfl rfl (sg_y rfl rfl hb15 (s_v (Zm (.sc (.bool _)) rfl hb16 rfl) (s_v (Zn (.sc (.bool _)) rfl hb15 rfl) (vB rfl ?_)))))))
 rcases Bool.eq_false_or_eq_true (y4.2 == 12) with hb17 | hb17
 have hm := Zi hm hb17
 refine sg_y rfl rfl hb17 ?_
 obtain ⟨y8, hy8, hm⟩ := Zc hm
 refine s_v (o_call (W23 _ hy8) rfl bd23 rfl) (s_v (Zm (.sc (.bool _)) rfl hb17 rfl) (vD rfl (Zb ?_)))
 cases hm
 exact ⟨rfl, (), hk10, LeF.s (.cons (ALe.refl _ _) .nil)⟩
 have hm := Zj hm hb17
 refine Zo rfl rfl hb17 (s_v (Zn (.sc (.bool _)) rfl hb17 rfl) (vD rfl (Zb ?_)))
 cases hm
 exact ⟨rfl, (), hk10, LeF.s (.cons (ALe.refl _ _) .nil)⟩
 have hm := Zj hm hb16
 refine Zo rfl rfl hb16 (Zo rfl rfl hb16 (sg_y rfl rfl hb15 (s_v (Zn (.sc (.bool _)) rfl hb16 rfl) (s_v (Zn (.sc (.bool _)) rfl hb15 rfl) (vB rfl (Zo rfl rfl rfl (s_v (Zn (.sc (.bool _)) rfl rfl rfl) (vD rfl (Zb ?_)))))))))
 cases hm
 exact ⟨rfl, (), hk10, LeF.s (.cons (ALe.refl _ _) .nil)⟩
 rintro _ j3 fr' h' hk11 hm le
 refine H31 _ _ (le.aw ?_)
 refine AW_ret ?_
 have hmo := Option.some.inj hm; subst hmo
 exact Ret.of1 (.inl rfl) (rsT _ _ (.sc (.bool _)) rfl) (hp_sub (List.nil_sublist _) hk11).1 (ALe.refl _ _) ⟨rfl, rfl⟩
open Go.Vm
theorem find_fits {n : Nat} {q : Nat → Bool} : (∃ i, (List.range n).find? q = some i ∧ i < n ∧ q i = true) ∨ ((List.range n).find? q = none ∧ ∀ j, j < n → q j = false) := by
 cases h : (List.range n).find? q with
 | none => exact .inr ⟨rfl, fun j hj => by simpa using List.find?_eq_none.1 h j (List.mem_range.2 hj)⟩
 | some i => exact .inl ⟨i, rfl, List.mem_range.1 (List.mem_of_find?_eq_some h), List.find?_some h⟩
theorem tgt_cases {c : TCatalog} {p need nt : Int} {r : List Int} {y : Int × Int} (h : (after (some (tgt c p need r nt)) fun _ => some ((0 : Int), (12 : Int))) = some y) :
    (∃ i : Nat, i < c.Vols.length ∧ y = ((i : Int), 0) ∧ (fits c p need r nt 2 i = true ∨ (fits c p need r nt 1 i = true ∧ ∀ j, j < c.Vols.length → fits c p need r nt 2 j = false))) ∨
    (y = (0, 12) ∧ ∀ j, j < c.Vols.length → fits c p need r nt 2 j = false ∧ fits c p need r nt 1 j = false) := by
  unfold tgt LF at h
  rcases find_fits (n := c.Vols.length) (q := fits c p need r nt (stt 0)) with ⟨i, h1, h2, h3⟩ | ⟨h1, h2⟩
  · have e : (List.range 2).find? (fun k => ((List.range c.Vols.length).find? (fits c p need r nt (stt k))).isSome) = some 0 := by
      rw [show List.range 2 = [0, 1] from rfl, List.find?_cons, h1]; rfl
    rw [e] at h
    simp only [h1] at h
    exact .inl ⟨i, h2, (Option.some.inj h).symm, .inl h3⟩
  · rcases find_fits (n := c.Vols.length) (q := fits c p need r nt (stt 1)) with ⟨i, k1, k2, k3⟩ | ⟨k1, k2⟩
    · have e : (List.range 2).find? (fun k => ((List.range c.Vols.length).find? (fits c p need r nt (stt k))).isSome) = some 1 := by
        rw [show List.range 2 = [0, 1] from rfl, List.find?_cons, h1]
        simp only [Option.isSome_none]
        rw [List.find?_cons, k1]; rfl
      rw [e] at h
      simp only [k1] at h
      exact .inl ⟨i, k2, (Option.some.inj h).symm, .inr ⟨k3, h2⟩⟩
    · have e : (List.range 2).find? (fun k => ((List.range c.Vols.length).find? (fits c p need r nt (stt k))).isSome) = none := by
        rw [show List.range 2 = [0, 1] from rfl, List.find?_cons, h1]
        simp only [Option.isSome_none]
        rw [List.find?_cons, k1]; rfl
      rw [e] at h
      exact .inr ⟨(Option.some.inj h).symm, fun j hj => ⟨h2 j hj, k2 j hj⟩⟩
theorem fits_at {c : TCatalog} {p need nt st : Int} {r : List Int} {i : Nat} (h : fits c p need r nt st i = true) : ∃ x z, c.Vols[i]? = some x ∧ r[i]? = some z ∧ x.Pool = p ∧ (i : Int) ≠ nt ∧ x.State = st ∧ need ≤ z := by
 unfold fits at h
 cases hx : c.Vols[i]? with
 | none => rw [hx] at h; cases h
 | some x =>
  cases hz : r[i]? with
  | none => rw [hx, hz] at h; cases h
  | some z =>
   rw [hx, hz] at h
   simp only [Bool.and_eq_true, decide_eq_true_eq, beq_iff_eq, bne_iff_ne] at h
   exact ⟨x, z, rfl, rfl, h.1.1.1, h.1.1.2, h.1.2, h.2⟩
theorem fits_of {c : TCatalog} {p need nt st : Int} {r : List Int} {i : Nat} {x : TVol} {z : Int} (hx : c.Vols[i]? = some x) (hz : r[i]? = some z) (h1 : x.Pool = p) (h2 : (i : Int) ≠ nt) (h3 : x.State = st) (h4 : need ≤ z) : fits c p need r nt st i = true := by
 unfold fits
 rw [hx, hz]
 simp [h1, h2, h3, h4]
def wB (c : TCatalog) (p need : Int) (r : List Int) (nt : Int) (i : Nat) : Bool := match c.Vols[i]?, r[i]? with
 | some x, some z => x.Pool == p && x.State != 3 && decide (need ≤ z) && (i : Int) != nt
 | _, _ => false
end Go.Proofs.Ytoomgangpjcaoaa
