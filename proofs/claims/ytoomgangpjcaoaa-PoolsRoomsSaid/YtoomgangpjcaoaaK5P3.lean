import Derived.Test.YtoomgangpjcaoaaK5P2
set_option linter.unusedSimpArgs false
set_option linter.unusedVariables false
namespace Go.Proofs.Ytoomgangpjcaoaa
open Go.Vm
def M68 (fuel : Nat) (p0 : Int) (p1 : Int) (p2 : Int) : Option (Bool) :=
 after (if (decide (p1 ≤ p0)) = true then (some (.brk (decide (p0 ≤ p2)))) else some (.brk false) : Option (Lp (Bool) (Bool))) fun j4 => some j4
set_option maxHeartbeats 4000000 in
set_option maxRecDepth 100000 in
theorem W68 {fuel : Nat} {p0 : Int} {p1 : Int} {p2 : Int} {o : Bool} (h : Heap) (hm : M68 fuel p0 p1 p2 = some o) :
 ACalls Try.prog 68 [.sc (.int .i64 p0), .sc (.int .i64 p1), .sc (.int .i64 p2)] h (fun r h' => r = .sc (.bool o) ∧ h' = h) := by
 refine ACalls_hp 15 [.tmp 6] Try.func68 rfl rfl rfl rfl ?_
 unfold M68 at hm
 refine Zf fun K1 H1 => (Za (vD rfl (Zb (H1 _ _ (Zf fun K2 H2 => ?_)))))
 refine AW_joinH (n := 15) (h := h) hm (σ := Bool) (τ := Unit) (fun g s => []) (fun g s => kp (k0) 6 (.sc (.bool s))) (fun x hm => ?_) ?_
 refine Za (vA rfl (vA rfl (vF rfl rfl rfl (vB rfl ?_))))
 rcases Bool.eq_false_or_eq_true (decide (p1 ≤ p0)) with hb5 | hb5
 have hm := Zi hm hb5
 refine sg_y rfl rfl hb5 (vA rfl (sg_y rfl rfl hb5 (vA rfl (sg_y rfl rfl hb5 (vF rfl rfl rfl (s_v (Zm (.sc (.bool _)) rfl hb5 rfl) (vD rfl (Zb ?_))))))))
 cases hm
 exact ⟨rfl, (), HOk.nil _, LeF.s (.cons (ALe.refl _ _) .nil)⟩
 have hm := Zj hm hb5
 refine Zo rfl rfl hb5 (Zo rfl rfl hb5 (Zo rfl rfl hb5 (s_v (Zn (.sc (.bool _)) rfl hb5 rfl) (vD rfl (Zb ?_)))))
 cases hm
 exact ⟨rfl, (), HOk.nil _, LeF.s (.cons (ALe.refl _ _) .nil)⟩
 rintro _ j4 fr' h' hk6 hm le
 refine H2 _ _ (le.aw ?_)
 refine AW_ret ?_
 have hmo := Option.some.inj hm; subst hmo
 exact Ret.of1 (.inl rfl) (rsT _ _ (.sc (.bool _)) rfl) (Sub.refl _) (ALe.refl _ _) ⟨rfl, rfl⟩
theorem bd68 : bodied Try.prog 68 = true := by kernel_rfl
def M69_L0 (fuel : Nat) (p0 : List TVol) (q0 : Int) : Option (Lp (Int) (Bool)) :=
 if (decide (q0 < (p0.length : Int))) = true then ((ix p0 q0).bind fun x0 => after (if (x0.State == 2) = true then ((M68 fuel x0.Files 1 65535).bind fun y0 => some (.brk y0)) else some (.brk false) : Option (Lp (Bool) (Lp (Int) (Bool)))) fun j0 => after (if (x0.State == 1) = true then (some (.brk (x0.Files == 0))) else if (x0.State == 3) = true then (some (.brk (x0.Files == 0))) else some (.brk false) : Option (Lp (Bool) (Lp (Int) (Bool)))) fun j1 => after ((M68 fuel x0.Pool 0 1).bind fun y1 => if (!y1) = true then (some (.brk true)) else (M68 fuel x0.Epoch 0 1048576).bind fun y2 => if (!y2) = true then (some (.brk true)) else if (!j0) = true then (some (.brk (!j1))) else some (.brk false) : Option (Lp (Bool) (Lp (Int) (Bool)))) fun j2 => if j2 = true then (some (.ret false)) else some (.go (IntKind.wrap .i64 (q0 + 1)))) else some (.brk q0)
def M69 (fuel : Nat) (p0 : List TVol) : Option (Bool) :=
 after (loopM (fun s => M69_L0 fuel p0 s) fuel 0) fun r0 => (M68 fuel (p0.length : Int) 1 8).bind fun y0 => some y0
set_option maxHeartbeats 4000000 in
set_option maxRecDepth 100000 in
theorem W69 {fuel : Nat} {p0 : List TVol} {o : Bool} (h : Heap) (hm : M69 fuel p0 = some o) :
 ACalls Try.prog 69 [.sl none 4 (List.map c_Vol p0)] h (fun r h' => r = .sc (.bool o) ∧ h' = h) := by
 refine ACalls_hp 56 [.tmp 2] Try.func69 rfl rfl rfl rfl ?_
 unfold M69 at hm
 refine Zf fun K1 H1 => (Za (vD rfl (Zb (H1 _ _ (Zf fun K2 H2 => (Zf fun K3 H3 => (Za (vE rfl (s_v (o_lenm ln25 rfl) (vA rfl (Zb (H3 _ _ ?_))))))))))))
 refine AW_loopH (n := 56) (h := h) hm (σ := Int) (τ := Unit) (fun g s => []) (fun g s => kp (kp (kp (kp (k0) 9 (.sc (.int .i64 s))) 8 (.sc (.int .i64 (p0.length : Int)))) 7 (.sl none 4 (List.map c_Vol p0))) 0 (.sl none 4 (List.map c_Vol p0))) () (HOk.nil _) (LeF.s (.k4 .nil)) ?_ ?_
 rintro _ q0 x hk0 hm
 replace hm : M69_L0 fuel p0 q0 = some x := hm
 unfold M69_L0 at hm
 refine Zf fun K0 H4 => (Za (vF rfl rfl rfl (Zb (H4 _ _ (Zf fun K4 H5 => ?_)))))
 refine AW_if' rfl (fun hc0 => ?_) (fun hc0 => ?_)
 have hm := Zi hm hc0
 refine Zl (H5 _ _ (Zf fun K5 H6 => (AW_block (Zf fun K6 H7 => (Za ?_)))))
 obtain ⟨x0, hx0, hm⟩ := Zc hm
 refine s_v (o_ix hx0 el25 rfl rfl) (s_v (o_ld (.agg (c_Vol x0)) ld40 rfl rfl) ?_)
 refine s_op (a_alloc ([.sc (.int .i64 0), .sc (.int .i64 0), .sc (.int .i64 0), .sc (.int .i64 0)]) hk0 zr40 rfl rfl fun k106 hk1 => ?_)
 refine s_op (a_store 0 (c_Vol x0) hk1 rfl rfl rfl rfl sz40 rfl rfl fun hk2 => ?_)
 refine Zb (H7 _ _ (Zf fun K7 H8 => ?_))
 refine AW_joinH (n := 56) (h := h) hm (σ := Bool) (τ := Unit) (fun g s => [(some k106, .obj 40 (c_Vol x0))]) (fun g s => kp (kp (kp (kp (kp (kp (k0) 9 (.sc (.int .i64 q0))) 8 (.sc (.int .i64 (p0.length : Int)))) 7 (.sl none 4 (List.map c_Vol p0))) 5 (.sc (.bool s))) 4 (.ptr k106 0)) 0 (.sl none 4 (List.map c_Vol p0))) (fun x hm => ?_) ?_
 refine Za (s_v (Zh fd40_2 rfl rfl) (s_v (Zg (.sc (.int .i64 x0.State)) ld3 rfl (Zd 0 hk2 rfl) rfl) (vF rfl rfl rfl (vB rfl ?_))))
 rcases Bool.eq_false_or_eq_true (x0.State == 2) with hb0 | hb0
 have hm := Zi hm hb0
 refine sg_y rfl rfl hb0 (s_v (Zh fd40_3 rfl rfl) (sg_y rfl rfl hb0 (s_v (Zg (.sc (.int .i64 x0.Files)) ld3 rfl (Zd 0 hk2 rfl) rfl) (sg_y rfl rfl hb0 ?_))))
 obtain ⟨y0, hy0, hm⟩ := Zc hm
 refine s_v (o_call (W68 _ hy0) rfl bd68 rfl) (s_v (Zm (.sc (.bool _)) rfl hb0 rfl) (vD rfl (Zb ?_)))
 cases hm
 exact ⟨rfl, (), hk2, LeF.s (.k6 .nil)⟩
 have hm := Zj hm hb0
 refine Zo rfl rfl hb0 (Zo rfl rfl hb0 (Zo rfl rfl hb0 (s_v (Zn (.sc (.bool _)) rfl hb0 rfl) (vD rfl (Zb ?_)))))
 cases hm
 exact ⟨rfl, (), hk2, LeF.s (.k6 .nil)⟩
 rintro _ j0 fr' h' hk3 hm le
 refine H8 _ _ (le.aw ?_)
 refine Zf fun K8 H9 => ?_
 refine AW_joinH (n := 56) (h := h) hm (σ := Bool) (τ := Unit) (fun g s => [(some k106, .obj 40 (c_Vol x0))]) (fun g s => kp (kp (kp (kp (kp (kp (kp (k0) 9 (.sc (.int .i64 q0))) 8 (.sc (.int .i64 (p0.length : Int)))) 7 (.sl none 4 (List.map c_Vol p0))) 6 (.sc (.bool s))) 5 (.sc (.bool j0))) 4 (.ptr k106 0)) 0 (.sl none 4 (List.map c_Vol p0))) (fun x hm => ?_) ?_
 refine Za (s_v (Zh fd40_2 rfl rfl) (s_v (Zg (.sc (.int .i64 x0.State)) ld3 rfl (Zd 0 hk3 rfl) rfl) (vF rfl rfl rfl (vB rfl ?_))))
 rcases Bool.eq_false_or_eq_true (x0.State == 1) with hb1 | hb1
 have hm := Zi hm hb1
 refine Zo rfl rfl hb1 (Zo rfl rfl hb1 (Zo rfl rfl hb1 (s_v (Zm (.sc (.bool _)) rfl hb1 rfl) (vB rfl (sg_y rfl rfl rfl (s_v (Zh fd40_3 rfl rfl) (sg_y rfl rfl rfl (s_v (Zg (.sc (.int .i64 x0.Files)) ld3 rfl (Zd 0 hk3 rfl) rfl) (sg_y rfl rfl rfl (vF rfl rfl rfl (s_v (Zm (.sc (.bool _)) rfl rfl rfl) (vD rfl (Zb ?_)))))))))))))
 cases hm
 exact ⟨rfl, (), hk3, LeF.s (.k7 .nil)⟩
 have hm := Zj hm hb1
 refine sg_y rfl rfl hb1 (s_v (Zh fd40_2 rfl rfl) (sg_y rfl rfl hb1 (s_v (Zg (.sc (.int .i64 x0.State)) ld3 rfl (Zd 0 hk3 rfl) rfl) (sg_y rfl rfl hb1 (vF rfl rfl rfl (s_v (Zn (.sc (.bool _)) rfl hb1 rfl) (vB rfl ?_)))))))
 rcases Bool.eq_false_or_eq_true (x0.State == 3) with hb2 | hb2
 have hm := Zi hm hb2
 refine sg_y rfl rfl hb2 (s_v (Zh fd40_3 rfl rfl) (sg_y rfl rfl hb2 (s_v (Zg (.sc (.int .i64 x0.Files)) ld3 rfl (Zd 0 hk3 rfl) rfl) (sg_y rfl rfl hb2 (vF rfl rfl rfl (s_v (Zm (.sc (.bool _)) rfl hb2 rfl) (vD rfl (Zb ?_))))))))
 cases hm
 exact ⟨rfl, (), hk3, LeF.s (.k7 .nil)⟩
 have hm := Zj hm hb2
 refine Zo rfl rfl hb2 (Zo rfl rfl hb2 (Zo rfl rfl hb2 (s_v (Zn (.sc (.bool _)) rfl hb2 rfl) (vD rfl (Zb ?_)))))
 cases hm
 exact ⟨rfl, (), hk3, LeF.s (.k7 .nil)⟩
 rintro _ j1 fr' h' hk4 hm le
 refine H9 _ _ (le.aw ?_)
 refine Zf fun K9 H10 => ?_
 refine AW_joinH (n := 56) (h := h) hm (σ := Bool) (τ := Unit) (fun g s => [(some k106, .obj 40 (c_Vol x0))]) (fun g s => kp (kp (kp (kp (kp (k0) 51 (.sc (.bool s))) 9 (.sc (.int .i64 q0))) 8 (.sc (.int .i64 (p0.length : Int)))) 7 (.sl none 4 (List.map c_Vol p0))) 0 (.sl none 4 (List.map c_Vol p0))) (fun x hm => ?_) ?_
 refine Za (s_v (Zh fd40_0 rfl rfl) (s_v (Zg (.sc (.int .i64 x0.Pool)) ld3 rfl (Zd 0 hk4 rfl) rfl) ?_))
 obtain ⟨y1, hy1, hm⟩ := Zc hm
 refine s_v (o_call (W68 _ hy1) rfl bd68 rfl) (s_v (o_not rfl) (vB rfl ?_))
 rcases Bool.eq_false_or_eq_true (!y1) with hb3 | hb3
 have hm := Zi hm hb3
 refine Zo rfl rfl hb3 (Zo rfl rfl hb3 (Zo rfl rfl hb3 (Zo rfl rfl hb3 (s_v (Zm (.sc (.bool _)) rfl hb3 rfl) (vB rfl (Zo rfl rfl rfl (Zo rfl rfl rfl (Zo rfl rfl rfl (sg_u rfl rfl (sg_u rfl rfl (Zo rfl rfl rfl (s_v (Zm (.sc (.bool _)) rfl rfl rfl) (Zb ?_)))))))))))))
 cases hm
 exact ⟨rfl, (), hk4, LeF.s (.k5 .nil)⟩
 have hm := Zj hm hb3
 refine sg_y rfl rfl hb3 (s_v (Zh fd40_1 rfl rfl) (sg_y rfl rfl hb3 (s_v (Zg (.sc (.int .i64 x0.Epoch)) ld3 rfl (Zd 0 hk4 rfl) rfl) (sg_y rfl rfl hb3 ?_))))
 obtain ⟨y2, hy2, hm⟩ := Zc hm
 refine s_v (o_call (W68 _ hy2) rfl bd68 rfl) (sg_y rfl rfl hb3 (s_v (o_not rfl) (s_v (Zn (.sc (.bool _)) rfl hb3 rfl) (vB rfl ?_))))
 rcases Bool.eq_false_or_eq_true (!y2) with hb4 | hb4
 have hm := Zi hm hb4
 refine Zo rfl rfl hb4 (Zo rfl rfl hb4 (Zo rfl rfl hb4 (sg_u rfl rfl (sg_u rfl rfl (Zo rfl rfl hb4 (s_v (Zm (.sc (.bool _)) rfl hb4 rfl) (Zb ?_)))))))
 cases hm
 exact ⟨rfl, (), hk4, LeF.s (.k5 .nil)⟩
 have hm := Zj hm hb4
 refine sg_y rfl rfl hb4 (vB rfl (sg_y rfl rfl hb4 (s_v (o_not rfl) (sg_y rfl rfl hb4 (vB rfl ?_)))))
 rcases Bool.eq_false_or_eq_true (!j0) with hb5 | hb5
 have hm := Zi hm hb5
 refine sg_y rfl rfl hb5 (vB rfl (sg_y rfl rfl hb5 (s_v (o_not rfl) (sg_y rfl rfl hb4 (s_v (Zm (.sc (.bool _)) rfl hb5 rfl) (s_v (Zn (.sc (.bool _)) rfl hb4 rfl) (Zb ?_)))))))
 cases hm
 exact ⟨rfl, (), hk4, LeF.s (.k5 .nil)⟩
 have hm := Zj hm hb5
 refine Zo rfl rfl hb5 (Zo rfl rfl hb5 (sg_y rfl rfl hb4 (s_v (Zn (.sc (.bool _)) rfl hb5 rfl) (s_v (Zn (.sc (.bool _)) rfl hb4 rfl) (Zb ?_)))))
 cases hm
 exact ⟨rfl, (), hk4, LeF.s (.k5 .nil)⟩
 rintro _ j2 fr' h' hk5 hm le
 refine H10 _ _ (le.aw ?_)
 refine AW_if' rfl (fun hc1 => ?_) (fun hc1 => ?_)
 have hm := Zi hm hc1
 refine Zf fun K10 H11 => (Za (vD rfl (Zb (H11 _ _ (AW_ret ?_)))))
 cases hm
 refine ⟨⟨nofun, nofun⟩, fun he => ?_⟩
 subst he
 exact Ret.of1 (.inl rfl) (rsT _ _ (.sc (.bool _)) rfl) (hp_sub (List.nil_sublist _) hk5).1 (ALe.refl _ _) ⟨rfl, rfl⟩
 have hm := Zj hm hc1
 refine Zl (H6 _ _ (Za (vF rfl rfl rfl (vA rfl (Zb ?_)))))
 cases hm
 exact ⟨rfl, (), (hp_sub (.cons _ (.refl _)) hk5).2, LeF.fm ((hp_sub (.cons _ (.refl _)) hk5).1) (.k4 .nil)⟩
 have hm := Zj hm hc0
 refine AW_exit ?_
 refine Seq_exit ?_
 cases hm
 exact ⟨rfl, (), hk0, LeF.s (.k4 .nil)⟩
 rintro _ r0 fr' h' hk6 hm le
 refine H2 _ _ (le.aw ?_)
 refine Zf fun K11 H12 => (Za (vE rfl (s_v (o_lenm ln25 rfl) ?_)))
 obtain ⟨y3, hy3, hm⟩ := Zc hm
 refine s_v (o_call (W68 _ hy3) rfl bd68 rfl) (vD rfl (Zb (H12 _ _ (AW_ret ?_))))
 have hmo := Option.some.inj hm; subst hmo
 exact Ret.of1 (.inl rfl) (rsT _ _ (.sc (.bool _)) rfl) (Sub.refl _) (ALe.refl _ _) ⟨rfl, rfl⟩
theorem bd69 : bodied Try.prog 69 = true := by kernel_rfl
def M141 (fuel : Nat) (p0 : TLoc) (p1 : TLoc) : Option (Bool) :=
 if (p0.Vol != p1.Vol) = true then (some (decide (p1.Vol < p0.Vol))) else if (p0.File != p1.File) = true then (some (decide (p1.File < p0.File))) else some (decide (p1.Off < p0.Off))
set_option maxHeartbeats 4000000 in
set_option maxRecDepth 100000 in
theorem W141 {fuel : Nat} {p0 : TLoc} {p1 : TLoc} {o : Bool} (h : Heap) (hm : M141 fuel p0 p1 = some o) :
 ACalls Try.prog 141 [.agg (c_Loc p0), .agg (c_Loc p1)] h (fun r h' => r = .sc (.bool o) ∧ h' = h) := by
 refine ACalls_hp 32 [.tmp 4] Try.func141 rfl rfl rfl rfl ?_
 unfold M141 at hm
 refine Zf fun K1 H1 => (Za ?_)
 refine s_op (a_box (HOk.nil _) rfl rfl fun k2 hk3 => ?_)
 refine s_op (a_box hk3 rfl rfl fun k5 hk6 => ?_)
 refine vD rfl (Zb (H1 _ _ (Zf fun K8 H8 => (AW_block (Zf fun K9 H9 => (Za (s_v (Zh fd77_0 rfl rfl) (s_v (Zg (.sc (.int .i64 p0.Vol)) ld3 rfl (Zd 1 hk6 rfl) rfl) (s_v (Zh fd77_0 rfl rfl) (s_v (Zg (.sc (.int .i64 p1.Vol)) ld3 rfl (Zd 0 hk6 rfl) rfl) (vF rfl rfl rfl (vD rfl (Zb (H9 _ _ ?_))))))))))))))
 refine AW_if' rfl (fun hc0 => ?_) (fun hc0 => ?_)
 have hm := Zi hm hc0
 refine Zf fun K0 H2 => (Za (s_v (Zh fd77_0 rfl rfl) (s_v (Zg (.sc (.int .i64 p0.Vol)) ld3 rfl (Zd 1 hk6 rfl) rfl) (s_v (Zh fd77_0 rfl rfl) (s_v (Zg (.sc (.int .i64 p1.Vol)) ld3 rfl (Zd 0 hk6 rfl) rfl) (vF rfl rfl rfl (vD rfl (Zb (H2 _ _ (AW_ret ?_))))))))))
 have hmo := Option.some.inj hm; subst hmo
 exact Ret.of1 (.inl rfl) (rsT _ _ (.sc (.bool _)) rfl) (hp_sub (List.nil_sublist _) hk6).1 (ALe.refl _ _) ⟨rfl, rfl⟩
 have hm := Zj hm hc0
 refine Zf fun K2 H3 => (Za (s_v (Zh fd77_1 rfl rfl) (s_v (Zg (.sc (.int .i64 p0.File)) ld3 rfl (Zd 1 hk6 rfl) rfl) (s_v (Zh fd77_1 rfl rfl) (s_v (Zg (.sc (.int .i64 p1.File)) ld3 rfl (Zd 0 hk6 rfl) rfl) (vF rfl rfl rfl (vD rfl (Zb (H3 _ _ ?_)))))))))
 refine AW_if' rfl (fun hc1 => ?_) (fun hc1 => ?_)
 have hm := Zi hm hc1
 refine Zf fun K3 H4 => (Za (s_v (Zh fd77_1 rfl rfl) (s_v (Zg (.sc (.int .i64 p0.File)) ld3 rfl (Zd 1 hk6 rfl) rfl) (s_v (Zh fd77_1 rfl rfl) (s_v (Zg (.sc (.int .i64 p1.File)) ld3 rfl (Zd 0 hk6 rfl) rfl) (vF rfl rfl rfl (vD rfl (Zb (H4 _ _ (AW_ret ?_))))))))))
 have hmo := Option.some.inj hm; subst hmo
 exact Ret.of1 (.inl rfl) (rsT _ _ (.sc (.bool _)) rfl) (hp_sub (List.nil_sublist _) hk6).1 (ALe.refl _ _) ⟨rfl, rfl⟩
 have hm := Zj hm hc1
 refine Zl (H8 _ _ (Zf fun K4 H5 => (Za (s_v (Zh fd77_2 rfl rfl) (s_v (Zg (.sc (.int .i64 p0.Off)) ld3 rfl (Zd 1 hk6 rfl) rfl) (s_v (Zh fd77_2 rfl rfl) (s_v (Zg (.sc (.int .i64 p1.Off)) ld3 rfl (Zd 0 hk6 rfl) rfl) (vF rfl rfl rfl (vD rfl (Zb (H5 _ _ (AW_ret ?_))))))))))))
 have hmo := Option.some.inj hm; subst hmo
 exact Ret.of1 (.inl rfl) (rsT _ _ (.sc (.bool _)) rfl) (hp_sub (List.nil_sublist _) hk6).1 (ALe.refl _ _) ⟨rfl, rfl⟩
theorem bd141 : bodied Try.prog 141 = true := by kernel_rfl
def M112_L0 (fuel : Nat) (p0 : TCatalog) (p1 : List TLoc) (q0 : Int) : Option (Lp (Int) (Bool)) :=
 if (decide (q0 < (p1.length : Int))) = true then ((ix p1 q0).bind fun x0 => after ((M68 fuel x0.Vol 0 (IntKind.wrap .i64 ((p0.Vols.length : Int) - 1))).bind fun y0 => if (!y0) = true then (some (.brk true)) else (ix p0.Vols x0.Vol).bind fun x1 => if (x1.State != 2) = true then (some (.brk true)) else (ix p0.Vols x0.Vol).bind fun x2 => (M68 fuel x0.File 1 x2.Files).bind fun y1 => if (!y1) = true then (some (.brk true)) else (M68 fuel x0.Off 0 16777215).bind fun y2 => if (!y2) = true then (some (.brk true)) else (M68 fuel x0.Len 13 8013).bind fun y3 => if (!y3) = true then (some (.brk true)) else if (decide (0 < q0)) = true then ((ix p1 (IntKind.wrap .i64 (q0 - 1))).bind fun x3 => (M141 fuel x0 x3).bind fun y4 => some (.brk (!y4))) else some (.brk false) : Option (Lp (Bool) (Lp (Int) (Bool)))) fun j0 => if j0 = true then (some (.ret false)) else some (.go (IntKind.wrap .i64 (q0 + 1)))) else some (.brk q0)
def M112 (fuel : Nat) (p0 : TCatalog) (p1 : List TLoc) : Option (Bool) :=
 if (decide (200 < (p1.length : Int))) = true then (some false) else after (loopM (fun s => M112_L0 fuel p0 p1 s) fuel 0) fun r0 => some true
set_option maxHeartbeats 4000000 in
set_option maxRecDepth 100000 in
theorem W112 {fuel : Nat} {p0 : TCatalog} {p1 : List TLoc} {o : Bool} (h : Heap) (hm : M112 fuel p0 p1 = some o) :
 ACalls Try.prog 112 [.agg (c_Catalog p0), .sl none 4 (List.map c_Loc p1)] h (fun r h' => r = .sc (.bool o) ∧ h' = h) := by
 refine ACalls_hp 75 [.tmp 4] Try.func112 rfl rfl rfl rfl ?_
 unfold M112 at hm
 refine Zf fun K1 H1 => (Za ?_)
 refine s_op (a_box (HOk.nil _) rfl rfl fun k2 hk3 => ?_)
 refine vD rfl (Zb (H1 _ _ (Zf fun K5 H5 => (Zf fun K6 H6 => (Za (vE rfl (s_v (o_lenm ln58 rfl) (vF rfl rfl rfl (Zb (H6 _ _ ?_))))))))))
 refine AW_if' rfl (fun hc7 => ?_) (fun hc7 => ?_)
 have hm := Zi hm hc7
 refine Zf fun K8 H8 => (Za (vD rfl (Zb (H8 _ _ (AW_ret ?_)))))
 have hmo := Option.some.inj hm; subst hmo
 exact Ret.of1 (.inl rfl) (rsT _ _ (.sc (.bool _)) rfl) (hp_sub (List.nil_sublist _) hk3).1 (ALe.refl _ _) ⟨rfl, rfl⟩
 have hm := Zj hm hc7
 refine Zl (H5 _ _ (Zf fun K9 H9 => (Zf fun K0 H2 => (Za (vE rfl (s_v (o_lenm ln58 rfl) (vA rfl (Zb (H2 _ _ ?_)))))))))
 refine AW_loopH (n := 75) (h := h) hm (σ := Int) (τ := Unit) (fun g s => [(some k2, .obj 27 (c_Catalog p0))]) (fun g s => kp (kp (kp (kp (kp (k0) 12 (.sc (.int .i64 s))) 11 (.sc (.int .i64 (p1.length : Int)))) 10 (.sl none 4 (List.map c_Loc p1))) 2 (.ptr k2 0)) 1 (.sl none 4 (List.map c_Loc p1))) () hk3 (LeF.s (.k5 .nil)) ?_ ?_
 rintro _ q0 x hk0 hm
 replace hm : M112_L0 fuel p0 p1 q0 = some x := hm
 unfold M112_L0 at hm
 refine Zf fun K2 H3 => (Za (vF rfl rfl rfl (Zb (H3 _ _ (Zf fun K3 H4 => ?_)))))
 refine AW_if' rfl (fun hc0 => ?_) (fun hc0 => ?_)
 have hm := Zi hm hc0
 refine Zl (H4 _ _ (Zf fun K4 H7 => (AW_block (Zf fun K7 H11 => (Za (vA rfl ?_))))))
 obtain ⟨x0, hx0, hm⟩ := Zc hm
 refine s_v (o_ix hx0 el58 rfl rfl) (s_v (o_ld (.agg (c_Loc x0)) ld77 rfl rfl) ?_)
 refine s_op (a_alloc ([.sc (.int .i64 0), .sc (.int .i64 0), .sc (.int .i64 0), .sc (.int .i64 0)]) hk0 zr77 rfl rfl fun k141 hk1 => ?_)
 refine vC rfl ?_
 refine s_op (a_store 0 (c_Loc x0) hk1 rfl rfl rfl rfl sz77 rfl rfl fun hk2 => ?_)
 refine Zb (H11 _ _ (Zf fun K11 H12 => ?_))
 refine AW_joinH (n := 75) (h := h) hm (σ := Bool) (τ := Unit) (fun g s => [(some k141, .obj 77 (c_Loc x0)), (some k2, .obj 27 (c_Catalog p0))]) (fun g s => kp (kp (kp (kp (kp (kp (k0) 73 (.sc (.bool s))) 12 (.sc (.int .i64 q0))) 11 (.sc (.int .i64 (p1.length : Int)))) 10 (.sl none 4 (List.map c_Loc p1))) 2 (.ptr k2 0)) 1 (.sl none 4 (List.map c_Loc p1))) (fun x hm => ?_) ?_
 refine AW_rq mixed (by kernel_rfl) ?_
 refine q_v (Zh fd77_0 rfl rfl) (q_v (Zg (.sc (.int .i64 x0.Vol)) ld3 rfl (Zd 0 hk2 rfl) rfl) (q_v (Zh fd27_4 rfl rfl) (q_v (Zg (.sl none 4 (List.map c_Vol p0.Vols)) ld25 rfl (Zd 1 hk2 rfl) rfl) (q_v (o_lenm ln25 rfl) (wF rfl rfl rfl ?_)))))
 obtain ⟨y0, hy0, hm⟩ := Zc hm
 refine q_v (o_call (W68 _ hy0) rfl bd68 rfl) (q_v (o_not rfl) (wB rfl ?_))
 rcases Bool.eq_false_or_eq_true (!y0) with hb0 | hb0
 have hm := Zi hm hb0
 refine Ze rfl rfl hb0 (Ze rfl rfl hb0 (Ze rfl rfl hb0 (Ze rfl rfl hb0 (Ze rfl rfl hb0 (Ze rfl rfl hb0 (Ze rfl rfl hb0 (Ze rfl rfl hb0 (q_v (Zm (.sc (.bool _)) rfl hb0 rfl) (wB rfl (Ze rfl rfl rfl (Ze rfl rfl rfl (Ze rfl rfl rfl (Ze rfl rfl rfl (Ze rfl rfl rfl (Ze rfl rfl rfl ?_)))))))))))))))
 refine Ze rfl rfl rfl (Ze rfl rfl rfl (Ze rfl rfl rfl (Ze rfl rfl rfl (Ze rfl rfl rfl (q_v (Zm (.sc (.bool _)) rfl rfl rfl) (wB rfl (Ze rfl rfl rfl (Ze rfl rfl rfl (Ze rfl rfl rfl (Ze rfl rfl rfl (q_v (Zm (.sc (.bool _)) rfl rfl rfl) (wB rfl (Ze rfl rfl rfl (Ze rfl rfl rfl (Ze rfl rfl rfl ?_)))))))))))))))
 refine Ze rfl rfl rfl (q_v (Zm (.sc (.bool _)) rfl rfl rfl) (wB rfl (Ze rfl rfl rfl (Ze rfl rfl rfl (Ze rfl rfl rfl (qg_u rfl rfl (qg_u rfl rfl (qg_u rfl rfl (qg_u rfl rfl (qg_u rfl rfl (qg_u rfl rfl (qg_u rfl rfl (qg_u rfl rfl (Ze rfl rfl rfl (q_v (Zm (.sc (.bool _)) rfl rfl rfl) ?_)))))))))))))))
 refine q_nil ?_
 cases hm
 exact ⟨rfl, (), hk2, LeF.s (.k6 .nil)⟩
 have hm := Zj hm hb0
 refine Zk rfl rfl hb0 (q_v (Zh fd27_4 rfl rfl) (Zk rfl rfl hb0 (q_v (Zg (.sl none 4 (List.map c_Vol p0.Vols)) ld25 rfl (Zd 1 hk2 rfl) rfl) (Zk rfl rfl hb0 (q_v (Zh fd77_0 rfl rfl) (Zk rfl rfl hb0 (q_v (Zg (.sc (.int .i64 x0.Vol)) ld3 rfl (Zd 0 hk2 rfl) rfl) (Zk rfl rfl hb0 ?_))))))))
 obtain ⟨x1, hx1, hm⟩ := Zc hm
 refine q_v (o_ix hx1 el25 rfl rfl) (Zk rfl rfl hb0 (q_v (o_fl fd40_2 rfl rfl) (Zk rfl rfl hb0 (q_v (o_ld (.sc (.int .i64 x1.State)) ld3 rfl rfl) (Zk rfl rfl hb0 (wF rfl rfl rfl (q_v (Zn (.sc (.bool _)) rfl hb0 rfl) (wB rfl ?_))))))))
 rcases Bool.eq_false_or_eq_true (x1.State != 2) with hb1 | hb1
 have hm := Zi hm hb1
 refine Ze rfl rfl hb1 (Ze rfl rfl hb1 (Ze rfl rfl hb1 (Ze rfl rfl hb1 (Ze rfl rfl hb1 (Ze rfl rfl hb1 (Ze rfl rfl hb1 (Ze rfl rfl hb1 (Ze rfl rfl hb1 (Ze rfl rfl hb1 (Ze rfl rfl hb1 (q_v (Zm (.sc (.bool _)) rfl hb1 rfl) (wB rfl (Ze rfl rfl rfl (Ze rfl rfl rfl (Ze rfl rfl rfl ?_)))))))))))))))
 refine Ze rfl rfl rfl (q_v (Zm (.sc (.bool _)) rfl rfl rfl) (wB rfl (Ze rfl rfl rfl (Ze rfl rfl rfl (Ze rfl rfl rfl (Ze rfl rfl rfl (q_v (Zm (.sc (.bool _)) rfl rfl rfl) (wB rfl (Ze rfl rfl rfl (Ze rfl rfl rfl (Ze rfl rfl rfl (qg_u rfl rfl (qg_u rfl rfl (qg_u rfl rfl (qg_u rfl rfl ?_)))))))))))))))
 refine qg_u rfl rfl (qg_u rfl rfl (qg_u rfl rfl (qg_u rfl rfl (Ze rfl rfl rfl (q_v (Zm (.sc (.bool _)) rfl rfl rfl) (q_nil ?_))))))
 cases hm
 exact ⟨rfl, (), hk2, LeF.s (.k6 .nil)⟩
 have hm := Zj hm hb1
 refine Zk rfl rfl hb1 (q_v (Zh fd77_1 rfl rfl) (Zk rfl rfl hb1 (q_v (Zg (.sc (.int .i64 x0.File)) ld3 rfl (Zd 0 hk2 rfl) rfl) (Zk rfl rfl hb1 (q_v (Zh fd27_4 rfl rfl) (Zk rfl rfl hb1 (q_v (Zg (.sl none 4 (List.map c_Vol p0.Vols)) ld25 rfl (Zd 1 hk2 rfl) rfl) (Zk rfl rfl hb1 (q_v (Zh fd77_0 rfl rfl) (Zk rfl rfl hb1 (q_v (Zg (.sc (.int .i64 x0.Vol)) ld3 rfl (Zd 0 hk2 rfl) rfl) (Zk rfl rfl hb1 ?_))))))))))))
 obtain ⟨x2, hx2, hm⟩ := Zc hm
 refine q_v (o_ix hx2 el25 rfl rfl) (Zk rfl rfl hb1 (q_v (o_fl fd40_3 rfl rfl) (Zk rfl rfl hb1 (q_v (o_ld (.sc (.int .i64 x2.Files)) ld3 rfl rfl) (Zk rfl rfl hb1 ?_)))))
 obtain ⟨y1, hy1, hm⟩ := Zc hm
 refine q_v (o_call (W68 _ hy1) rfl bd68 rfl) (Zk rfl rfl hb1 (q_v (o_not rfl) (q_v (Zn (.sc (.bool _)) rfl hb1 rfl) (wB rfl ?_))))
 rcases Bool.eq_false_or_eq_true (!y1) with hb2 | hb2
 have hm := Zi hm hb2
 refine Ze rfl rfl hb2 (Ze rfl rfl hb2 (Ze rfl rfl hb2 (Ze rfl rfl hb2 (q_v (Zm (.sc (.bool _)) rfl hb2 rfl) (wB rfl (Ze rfl rfl rfl (Ze rfl rfl rfl (Ze rfl rfl rfl (Ze rfl rfl rfl (q_v (Zm (.sc (.bool _)) rfl rfl rfl) (wB rfl (Ze rfl rfl rfl (Ze rfl rfl rfl (Ze rfl rfl rfl (qg_u rfl rfl ?_)))))))))))))))
 refine qg_u rfl rfl (qg_u rfl rfl (qg_u rfl rfl (qg_u rfl rfl (qg_u rfl rfl (qg_u rfl rfl (qg_u rfl rfl (Ze rfl rfl rfl (q_v (Zm (.sc (.bool _)) rfl rfl rfl) (q_nil ?_)))))))))
 cases hm
 exact ⟨rfl, (), hk2, LeF.s (.k6 .nil)⟩
 have hm := Zj hm hb2
 refine Zk rfl rfl hb2 (q_v (Zh fd77_2 rfl rfl) (Zk rfl rfl hb2 (q_v (Zg (.sc (.int .i64 x0.Off)) ld3 rfl (Zd 0 hk2 rfl) rfl) (Zk rfl rfl hb2 ?_))))
 obtain ⟨y2, hy2, hm⟩ := Zc hm
 refine q_v (o_call (W68 _ hy2) rfl bd68 rfl) (Zk rfl rfl hb2 (q_v (o_not rfl) (q_v (Zn (.sc (.bool _)) rfl hb2 rfl) (wB rfl ?_))))
 rcases Bool.eq_false_or_eq_true (!y2) with hb3 | hb3
 have hm := Zi hm hb3
 refine Ze rfl rfl hb3 (Ze rfl rfl hb3 (Ze rfl rfl hb3 (Ze rfl rfl hb3 (q_v (Zm (.sc (.bool _)) rfl hb3 rfl) (wB rfl (Ze rfl rfl rfl (Ze rfl rfl rfl (Ze rfl rfl rfl (qg_u rfl rfl (qg_u rfl rfl (qg_u rfl rfl (qg_u rfl rfl (qg_u rfl rfl (qg_u rfl rfl (qg_u rfl rfl ?_)))))))))))))))
 refine qg_u rfl rfl (Ze rfl rfl rfl (q_v (Zm (.sc (.bool _)) rfl rfl rfl) (q_nil ?_)))
 cases hm
 exact ⟨rfl, (), hk2, LeF.s (.k6 .nil)⟩
 have hm := Zj hm hb3
 refine Zk rfl rfl hb3 (q_v (Zh fd77_3 rfl rfl) (Zk rfl rfl hb3 (q_v (Zg (.sc (.int .i64 x0.Len)) ld3 rfl (Zd 0 hk2 rfl) rfl) (Zk rfl rfl hb3 ?_))))
 obtain ⟨y3, hy3, hm⟩ := Zc hm
 refine q_v (o_call (W68 _ hy3) rfl bd68 rfl) (Zk rfl rfl hb3 (q_v (o_not rfl) (q_v (Zn (.sc (.bool _)) rfl hb3 rfl) (wB rfl ?_))))
 rcases Bool.eq_false_or_eq_true (!y3) with hb4 | hb4
 have hm := Zi hm hb4
 refine Ze rfl rfl hb4 (Ze rfl rfl hb4 (Ze rfl rfl hb4 (qg_u rfl rfl (qg_u rfl rfl (qg_u rfl rfl (qg_u rfl rfl (qg_u rfl rfl (qg_u rfl rfl (qg_u rfl rfl (qg_u rfl rfl (Ze rfl rfl hb4 (q_v (Zm (.sc (.bool _)) rfl hb4 rfl) (q_nil ?_)))))))))))))
 cases hm
 exact ⟨rfl, (), hk2, LeF.s (.k6 .nil)⟩
 have hm := Zj hm hb4
 refine Zk rfl rfl hb4 (wA rfl (Zk rfl rfl hb4 (wF rfl rfl rfl (Zk rfl rfl hb4 (wB rfl ?_)))))
 rcases Bool.eq_false_or_eq_true (decide (0 < q0)) with hb5 | hb5
 have hm := Zi hm hb5
 refine Zk rfl rfl hb5 (q_v (Zg (.agg (c_Loc x0)) ld77 rfl (Zd 0 hk2 rfl) rfl) (Zk rfl rfl hb5 (wE rfl (Zk rfl rfl hb5 (wA rfl (Zk rfl rfl hb5 (wF rfl rfl rfl (Zk rfl rfl hb5 ?_))))))))
 obtain ⟨x3, hx3, hm⟩ := Zc hm
 refine q_v (o_ix hx3 el58 rfl rfl) (Zk rfl rfl hb5 (q_v (o_ld (.agg (c_Loc x3)) ld77 rfl rfl) (Zk rfl rfl hb5 ?_)))
 obtain ⟨y4, hy4, hm⟩ := Zc hm
 refine q_v (o_call (W141 _ hy4) rfl bd141 rfl) (Zk rfl rfl hb5 (q_v (o_not rfl) (Zk rfl rfl hb4 (q_v (Zm (.sc (.bool _)) rfl hb5 rfl) (q_v (Zn (.sc (.bool _)) rfl hb4 rfl) (q_nil ?_))))))
 cases hm
 exact ⟨rfl, (), hk2, LeF.s (.k6 .nil)⟩
 have hm := Zj hm hb5
 refine Ze rfl rfl hb5 (Ze rfl rfl hb5 (Ze rfl rfl hb5 (Ze rfl rfl hb5 (Ze rfl rfl hb5 (Ze rfl rfl hb5 (Ze rfl rfl hb5 (Ze rfl rfl hb5 (Zk rfl rfl hb4 (q_v (Zn (.sc (.bool _)) rfl hb5 rfl) (q_v (Zn (.sc (.bool _)) rfl hb4 rfl) (q_nil ?_)))))))))))
 cases hm
 exact ⟨rfl, (), hk2, LeF.s (.k6 .nil)⟩
 rintro _ j0 fr' h' hk4 hm le
 refine H12 _ _ (le.aw ?_)
 refine AW_if' rfl (fun hc1 => ?_) (fun hc1 => ?_)
 have hm := Zi hm hc1
 refine Zf fun K12 H13 => (Za (vD rfl (Zb (H13 _ _ (AW_ret ?_)))))
 cases hm
 refine ⟨⟨nofun, nofun⟩, fun he => ?_⟩
 subst he
 exact Ret.of1 (.inl rfl) (rsT _ _ (.sc (.bool _)) rfl) (hp_sub (List.nil_sublist _) hk4).1 (ALe.refl _ _) ⟨rfl, rfl⟩
 have hm := Zj hm hc1
 refine Zl (H7 _ _ (Za (vF rfl rfl rfl (vA rfl (Zb ?_)))))
 cases hm
 exact ⟨rfl, (), (hp_sub (.cons _ (.refl _)) hk4).2, LeF.fm ((hp_sub (.cons _ (.refl _)) hk4).1) (.k5 .nil)⟩
 have hm := Zj hm hc0
 refine AW_exit ?_
 refine Seq_exit ?_
 cases hm
 exact ⟨rfl, (), hk0, LeF.s (.k5 .nil)⟩
 rintro _ r0 fr' h' hk5 hm le
 refine H9 _ _ (le.aw ?_)
 refine Zf fun K13 H14 => (Za (vD rfl (Zb (H14 _ _ (AW_ret ?_)))))
 have hmo := Option.some.inj hm; subst hmo
 exact Ret.of1 (.inl rfl) (rsT _ _ (.sc (.bool _)) rfl) (hp_sub (List.nil_sublist _) hk5).1 (ALe.refl _ _) ⟨rfl, rfl⟩
theorem bd112 : bodied Try.prog 112 = true := by kernel_rfl
def M115_L0 (fuel : Nat) (p0 : ByteArray) (q0 : Int) : Option (Lp (Int) (Bool)) :=
 if (decide (q0 < (p0.size : Int))) = true then (after ((six p0 q0).bind fun x0 => if (decide (x0 < 33)) = true then (some (.brk true)) else (six p0 q0).bind fun x1 => some (.brk (decide (126 < x1))) : Option (Lp (Bool) (Lp (Int) (Bool)))) fun j0 => if j0 = true then (some (.ret false)) else some (.go (IntKind.wrap .i64 (q0 + 1)))) else some (.brk q0)
def M115 (fuel : Nat) (p0 : ByteArray) : Option (Bool) :=
 after (if (decide ((p0.size : Int) < 1)) = true then (some (.brk true)) else some (.brk (decide (20 < (p0.size : Int)))) : Option (Lp (Bool) (Bool))) fun j5 => if j5 = true then (some false) else after (loopM (fun s => M115_L0 fuel p0 s) fuel 0) fun r0 => some true
set_option maxHeartbeats 4000000 in
set_option maxRecDepth 100000 in
theorem W115 {fuel : Nat} {p0 : ByteArray} {o : Bool} (h : Heap) (hm : M115 fuel p0 = some o) :
 ACalls Try.prog 115 [.sc (.string p0)] h (fun r h' => r = .sc (.bool o) ∧ h' = h) := by
 refine ACalls_hp 28 [.tmp 2] Try.func115 rfl rfl rfl rfl ?_
 unfold M115 at hm
 refine Zf fun K1 H1 => (Za (vD rfl (Zb (H1 _ _ (Zf fun K2 H2 => (Zf fun K3 H3 => ?_))))))
 refine AW_joinH (n := 28) (h := h) hm (σ := Bool) (τ := Unit) (fun g s => []) (fun g s => kp (kp (k0) 11 (.sc (.bool s))) 0 (.sc (.string p0))) (fun x hm => ?_) ?_
 refine Za (s_v (o_mv (.sc (.string _)) rfl) (s_v (o_lent ln9 rfl) (vF rfl rfl rfl (vB rfl ?_))))
 rcases Bool.eq_false_or_eq_true (decide ((p0.size : Int) < 1)) with hb6 | hb6
 have hm := Zi hm hb6
 refine Zo rfl rfl hb6 (Zo rfl rfl hb6 (Zo rfl rfl hb6 (s_v (Zm (.sc (.bool _)) rfl hb6 rfl) (Zb ?_))))
 cases hm
 exact ⟨rfl, (), HOk.nil _, LeF.s (.k2 .nil)⟩
 have hm := Zj hm hb6
 refine sg_y rfl rfl hb6 (s_v (o_mv (.sc (.string _)) rfl) (sg_y rfl rfl hb6 (s_v (o_lent ln9 rfl) (sg_y rfl rfl hb6 (vF rfl rfl rfl (s_v (Zn (.sc (.bool _)) rfl hb6 rfl) (Zb ?_)))))))
 cases hm
 exact ⟨rfl, (), HOk.nil _, LeF.s (.k2 .nil)⟩
 rintro _ j5 fr' h' hk7 hm le
 refine H3 _ _ (le.aw ?_)
 refine AW_if' rfl (fun hc8 => ?_) (fun hc8 => ?_)
 have hm := Zi hm hc8
 refine Zf fun K9 H9 => (Za (vD rfl (Zb (H9 _ _ (AW_ret ?_)))))
 have hmo := Option.some.inj hm; subst hmo
 exact Ret.of1 (.inl rfl) (rsT _ _ (.sc (.bool _)) rfl) (Sub.refl _) (ALe.refl _ _) ⟨rfl, rfl⟩
 have hm := Zj hm hc8
 refine Zl (H2 _ _ (Zf fun K0 H4 => (Zf fun K4 H5 => (Za (s_v (o_mv (.sc (.string _)) rfl) (s_v (o_lent ln9 rfl) (vA rfl (Zb (H5 _ _ ?_)))))))))
 refine AW_loopH (n := 28) (h := h) hm (σ := Int) (τ := Unit) (fun g s => []) (fun g s => kp (kp (kp (k0) 14 (.sc (.int .i64 s))) 13 (.sc (.int .i64 (p0.size : Int)))) 0 (.sc (.string p0))) () hk7 (LeF.s (.k3 .nil)) ?_ ?_
 rintro _ q0 x hk0 hm
 replace hm : M115_L0 fuel p0 q0 = some x := hm
 unfold M115_L0 at hm
 refine Zf fun K5 H6 => (Za (vF rfl rfl rfl (Zb (H6 _ _ (Zf fun K6 H7 => ?_)))))
 refine AW_if' rfl (fun hc0 => ?_) (fun hc0 => ?_)
 have hm := Zi hm hc0
 refine Zl (H7 _ _ (Zf fun K7 H8 => (AW_block (Zf fun K8 H59 => (Za (vA rfl (vC rfl (Zb (H59 _ _ (Zf fun K60 H60 => ?_))))))))))
 refine AW_joinH (n := 28) (h := h) hm (σ := Bool) (τ := Unit) (fun g s => []) (fun g s => kp (kp (kp (kp (k0) 26 (.sc (.bool s))) 14 (.sc (.int .i64 q0))) 13 (.sc (.int .i64 (p0.size : Int)))) 0 (.sc (.string p0))) (fun x hm => ?_) ?_
 refine Za (s_v (o_mv (.sc (.string _)) rfl) (vA rfl ?_))
 obtain ⟨x0, hx0, hm⟩ := Zc hm
 refine s_v (o_six hx0 u9 rfl rfl) (vF rfl rfl rfl (vB rfl ?_))
 rcases Bool.eq_false_or_eq_true (decide (x0 < 33)) with hb0 | hb0
 have hm := Zi hm hb0
 refine Zo rfl rfl hb0 (Zo rfl rfl hb0 (Zo rfl rfl hb0 (Zo rfl rfl hb0 (s_v (Zm (.sc (.bool _)) rfl hb0 rfl) (Zb ?_)))))
 cases hm
 exact ⟨rfl, (), hk0, LeF.s (.k4 .nil)⟩
 have hm := Zj hm hb0
 refine sg_y rfl rfl hb0 (s_v (o_mv (.sc (.string _)) rfl) (sg_y rfl rfl hb0 (vA rfl (sg_y rfl rfl hb0 ?_))))
 obtain ⟨x1, hx1, hm⟩ := Zc hm
 refine s_v (o_six hx1 u9 rfl rfl) (sg_y rfl rfl hb0 (vF rfl rfl rfl (s_v (Zn (.sc (.bool _)) rfl hb0 rfl) (Zb ?_))))
 cases hm
 exact ⟨rfl, (), hk0, LeF.s (.k4 .nil)⟩
 rintro _ j0 fr' h' hk1 hm le
 refine H60 _ _ (le.aw ?_)
 refine AW_if' rfl (fun hc1 => ?_) (fun hc1 => ?_)
 have hm := Zi hm hc1
 refine Zf fun K74 H74 => (Za (vD rfl (Zb (H74 _ _ (AW_ret ?_)))))
 cases hm
 refine ⟨⟨nofun, nofun⟩, fun he => ?_⟩
 subst he
 exact Ret.of1 (.inl rfl) (rsT _ _ (.sc (.bool _)) rfl) (Sub.refl _) (ALe.refl _ _) ⟨rfl, rfl⟩
 have hm := Zj hm hc1
 refine Zl (H8 _ _ (Za (vF rfl rfl rfl (vA rfl (Zb ?_)))))
 cases hm
 exact ⟨rfl, (), hk1, LeF.s (.k3 .nil)⟩
 have hm := Zj hm hc0
 refine AW_exit ?_
 refine Seq_exit ?_
 cases hm
 exact ⟨rfl, (), hk0, LeF.s (.k3 .nil)⟩
 rintro _ r0 fr' h' hk2 hm le
 refine H4 _ _ (le.aw ?_)
 refine Zf fun K77 H77 => (Za (vD rfl (Zb (H77 _ _ (AW_ret ?_)))))
 have hmo := Option.some.inj hm; subst hmo
 exact Ret.of1 (.inl rfl) (rsT _ _ (.sc (.bool _)) rfl) (Sub.refl _) (ALe.refl _ _) ⟨rfl, rfl⟩
theorem bd115 : bodied Try.prog 115 = true := by kernel_rfl
def M116 (fuel : Nat) (p0 : TPart) : Option (Bool) :=
 after ((M115 fuel p0.Path).bind fun y0 => if y0 = true then (if (decide (0 ≤ p0.Size)) = true then (if (decide (p0.Size ≤ 200)) = true then (if (decide ((p0.Ids.length : Int) ≤ 25)) = true then (some (.brk (((p0.Ids.length : Int) == 0) == (p0.Size == 0)))) else some (.brk false)) else some (.brk false)) else some (.brk false)) else some (.brk false) : Option (Lp (Bool) (Bool))) fun j0 => some j0
set_option maxHeartbeats 4000000 in
set_option maxRecDepth 100000 in
theorem W116 {fuel : Nat} {p0 : TPart} {o : Bool} (h : Heap) (hm : M116 fuel p0 = some o) :
 ACalls Try.prog 116 [.agg (c_Part p0)] h (fun r h' => r = .sc (.bool o) ∧ h' = h) := by
 refine ACalls_hp 32 [.tmp 2] Try.func116 rfl rfl rfl rfl ?_
 unfold M116 at hm
 refine Zf fun K1 H1 => (Za ?_)
 refine s_op (a_box (HOk.nil _) rfl rfl fun k2 hk3 => ?_)
 refine vD rfl (Zb (H1 _ _ (Zf fun K5 H5 => ?_)))
 refine AW_joinH (n := 32) (h := h) hm (σ := Bool) (τ := Unit) (fun g s => [(some k2, .obj 82 (c_Part p0))]) (fun g s => kp (k0) 2 (.sc (.bool s))) (fun x hm => ?_) ?_
 refine Za (s_v (Zh fd82_0 rfl rfl) (s_v (Zg (.sc (.string p0.Path)) ld9 rfl (Zd 0 hk3 rfl) rfl) ?_))
 obtain ⟨y0, hy0, hm⟩ := Zc hm
 refine s_v (o_call (W115 _ hy0) rfl bd115 rfl) (vB rfl ?_)
 rcases Bool.eq_false_or_eq_true y0 with hb0 | hb0
 have hm := Zi hm hb0
 refine sg_y rfl rfl hb0 (s_v (Zh fd82_1 rfl rfl) (sg_y rfl rfl hb0 (s_v (Zg (.sc (.int .i64 p0.Size)) ld3 rfl (Zd 0 hk3 rfl) rfl) (sg_y rfl rfl hb0 (vF rfl rfl rfl (s_v (Zm (.sc (.bool _)) rfl hb0 rfl) (vB rfl ?_)))))))
 rcases Bool.eq_false_or_eq_true (decide (0 ≤ p0.Size)) with hb1 | hb1
 have hm := Zi hm hb1
 refine sg_y rfl rfl hb1 (s_v (Zh fd82_1 rfl rfl) (sg_y rfl rfl hb1 (s_v (Zg (.sc (.int .i64 p0.Size)) ld3 rfl (Zd 0 hk3 rfl) rfl) (sg_y rfl rfl hb1 (vF rfl rfl rfl (s_v (Zm (.sc (.bool _)) rfl hb1 rfl) (vB rfl ?_)))))))
 rcases Bool.eq_false_or_eq_true (decide (p0.Size ≤ 200)) with hb2 | hb2
 have hm := Zi hm hb2
 refine sg_y rfl rfl hb2 (s_v (Zh fd82_2 rfl rfl) (sg_y rfl rfl hb2 (s_v (Zg (.sl none 32 (List.map c_id p0.Ids)) ld80 rfl (Zd 0 hk3 rfl) rfl) (sg_y rfl rfl hb2 (s_v (o_lenm ln80 rfl) (sg_y rfl rfl hb2 (vF rfl rfl rfl (s_v (Zm (.sc (.bool _)) rfl hb2 rfl) (vB rfl ?_)))))))))
 rcases Bool.eq_false_or_eq_true (decide ((p0.Ids.length : Int) ≤ 25)) with hb3 | hb3
 have hm := Zi hm hb3
 refine sg_y rfl rfl hb3 (s_v (Zh fd82_2 rfl rfl) (sg_y rfl rfl hb3 (s_v (Zg (.sl none 32 (List.map c_id p0.Ids)) ld80 rfl (Zd 0 hk3 rfl) rfl) (sg_y rfl rfl hb3 (s_v (o_lenm ln80 rfl) (sg_y rfl rfl hb3 (vF rfl rfl rfl (sg_y rfl rfl hb3 (s_v (Zh fd82_1 rfl rfl) (sg_y rfl rfl hb3 (s_v (Zg (.sc (.int .i64 p0.Size)) ld3 rfl (Zd 0 hk3 rfl) rfl) (sg_y rfl rfl hb3 (vF rfl rfl rfl (sg_y rfl rfl hb3 (s_v (o_bb u4 rfl rfl rfl) ?_)))))))))))))))
 refine s_v (Zm (.sc (.bool _)) rfl hb3 rfl) (vD rfl (Zb ?_))
 cases hm
 exact ⟨rfl, (), hk3, LeF.s (.cons (ALe.refl _ _) .nil)⟩
 have hm := Zj hm hb3
 refine Zo rfl rfl hb3 (Zo rfl rfl hb3 (Zo rfl rfl hb3 (Zo rfl rfl hb3 (Zo rfl rfl hb3 (Zo rfl rfl hb3 (Zo rfl rfl hb3 (Zo rfl rfl hb3 (s_v (Zn (.sc (.bool _)) rfl hb3 rfl) (vD rfl (Zb ?_))))))))))
 cases hm
 exact ⟨rfl, (), hk3, LeF.s (.cons (ALe.refl _ _) .nil)⟩
 have hm := Zj hm hb2
 refine Zo rfl rfl hb2 (Zo rfl rfl hb2 (Zo rfl rfl hb2 (Zo rfl rfl hb2 (s_v (Zn (.sc (.bool _)) rfl hb2 rfl) (vB rfl (Zo rfl rfl rfl (Zo rfl rfl rfl (Zo rfl rfl rfl (Zo rfl rfl rfl (Zo rfl rfl rfl (Zo rfl rfl rfl (Zo rfl rfl rfl (Zo rfl rfl rfl (s_v (Zn (.sc (.bool _)) rfl rfl rfl) (vD rfl ?_)))))))))))))))
 refine Zb ?_
 cases hm
 exact ⟨rfl, (), hk3, LeF.s (.cons (ALe.refl _ _) .nil)⟩
 have hm := Zj hm hb1
 refine Zo rfl rfl hb1 (Zo rfl rfl hb1 (Zo rfl rfl hb1 (s_v (Zn (.sc (.bool _)) rfl hb1 rfl) (vB rfl (Zo rfl rfl rfl (Zo rfl rfl rfl (Zo rfl rfl rfl (Zo rfl rfl rfl (s_v (Zn (.sc (.bool _)) rfl rfl rfl) (vB rfl (Zo rfl rfl rfl (Zo rfl rfl rfl (Zo rfl rfl rfl (Zo rfl rfl rfl (Zo rfl rfl rfl ?_)))))))))))))))
 refine Zo rfl rfl rfl (Zo rfl rfl rfl (Zo rfl rfl rfl (s_v (Zn (.sc (.bool _)) rfl rfl rfl) (vD rfl (Zb ?_)))))
 cases hm
 exact ⟨rfl, (), hk3, LeF.s (.cons (ALe.refl _ _) .nil)⟩
 have hm := Zj hm hb0
 refine Zo rfl rfl hb0 (Zo rfl rfl hb0 (Zo rfl rfl hb0 (s_v (Zn (.sc (.bool _)) rfl hb0 rfl) (vB rfl (Zo rfl rfl rfl (Zo rfl rfl rfl (Zo rfl rfl rfl (s_v (Zn (.sc (.bool _)) rfl rfl rfl) (vB rfl (Zo rfl rfl rfl (Zo rfl rfl rfl (Zo rfl rfl rfl (Zo rfl rfl rfl (s_v (Zn (.sc (.bool _)) rfl rfl rfl) (vB rfl ?_)))))))))))))))
 refine Zo rfl rfl rfl (Zo rfl rfl rfl (Zo rfl rfl rfl (Zo rfl rfl rfl (Zo rfl rfl rfl (Zo rfl rfl rfl (Zo rfl rfl rfl (Zo rfl rfl rfl (s_v (Zn (.sc (.bool _)) rfl rfl rfl) (vD rfl (Zb ?_))))))))))
 cases hm
 exact ⟨rfl, (), hk3, LeF.s (.cons (ALe.refl _ _) .nil)⟩
 rintro _ j0 fr' h' hk0 hm le
 refine H5 _ _ (le.aw ?_)
 refine AW_ret ?_
 have hmo := Option.some.inj hm; subst hmo
 exact Ret.of1 (.inl rfl) (rsT _ _ (.sc (.bool _)) rfl) (hp_sub (List.nil_sublist _) hk0).1 (ALe.refl _ _) ⟨rfl, rfl⟩
theorem bd116 : bodied Try.prog 116 = true := by kernel_rfl
def M73_L0 (fuel : Nat) (p0 : TManifest) (q0 : Int) : Option (Lp (Int) (Int)) :=
 if (decide (q0 < (p0.Parts.length : Int))) = true then ((ix p0.Parts q0).bind fun x0 => after ((M116 fuel x0).bind fun y0 => if (!y0) = true then (some (.brk true)) else if (decide (0 < q0)) = true then ((ix p0.Parts (IntKind.wrap .i64 (q0 - 1))).bind fun x1 => some (.brk (Op.bytesLess x0.Path.toList x1.Path.toList || x0.Path.toList == x1.Path.toList))) else some (.brk false) : Option (Lp (Bool) (Lp (Int) (Int)))) fun j0 => if j0 = true then (some (.ret 1)) else some (.go (IntKind.wrap .i64 (q0 + 1)))) else some (.brk q0)
def M73 (fuel : Nat) (p0 : TManifest) : Option (Int) :=
 after ((M115 fuel p0.Name).bind fun y0 => if (!y0) = true then (some (.brk true)) else some (.brk (decide (6 < (p0.Parts.length : Int)))) : Option (Lp (Bool) (Int))) fun j0 => if j0 = true then (some 1) else after (loopM (fun s => M73_L0 fuel p0 s) fuel 0) fun r0 => some 0
set_option maxHeartbeats 4000000 in
set_option maxRecDepth 100000 in
theorem W73 {fuel : Nat} {p0 : TManifest} {o : Int} (h : Heap) (hm : M73 fuel p0 = some o) :
 ACalls Try.prog 73 [.agg (c_Manifest p0)] h (fun r h' => r = .sc (.int .i64 o) ∧ h' = h) := by
 refine ACalls_hp 43 [.tmp 2] Try.func73 rfl rfl rfl rfl ?_
 unfold M73 at hm
 refine Zf fun K1 H1 => (Za ?_)
 refine s_op (a_box (HOk.nil _) rfl rfl fun k2 hk3 => ?_)
 refine vC rfl (Zb (H1 _ _ (Zf fun K5 H5 => (Zf fun K6 H6 => ?_))))
 refine AW_joinH (n := 43) (h := h) hm (σ := Bool) (τ := Unit) (fun g s => [(some k2, .obj 57 (c_Manifest p0))]) (fun g s => kp (kp (k0) 14 (.sc (.bool s))) 1 (.ptr k2 0)) (fun x hm => ?_) ?_
 refine Za (s_v (Zh fd57_0 rfl rfl) (s_v (Zg (.sc (.string p0.Name)) ld9 rfl (Zd 0 hk3 rfl) rfl) ?_))
 obtain ⟨y0, hy0, hm⟩ := Zc hm
 refine s_v (o_call (W115 _ hy0) rfl bd115 rfl) (s_v (o_not rfl) (vB rfl ?_))
 rcases Bool.eq_false_or_eq_true (!y0) with hb0 | hb0
 have hm := Zi hm hb0
 refine Zo rfl rfl hb0 (Zo rfl rfl hb0 (Zo rfl rfl hb0 (Zo rfl rfl hb0 (s_v (Zm (.sc (.bool _)) rfl hb0 rfl) (Zb ?_)))))
 cases hm
 exact ⟨rfl, (), hk3, LeF.s (.k2 .nil)⟩
 have hm := Zj hm hb0
 refine sg_y rfl rfl hb0 (s_v (Zh fd57_1 rfl rfl) (sg_y rfl rfl hb0 (s_v (Zg (.sl none 3 (List.map c_Part p0.Parts)) ld55 rfl (Zd 0 hk3 rfl) rfl) (sg_y rfl rfl hb0 (s_v (o_lenm ln55 rfl) (sg_y rfl rfl hb0 (vF rfl rfl rfl (s_v (Zn (.sc (.bool _)) rfl hb0 rfl) (Zb ?_)))))))))
 cases hm
 exact ⟨rfl, (), hk3, LeF.s (.k2 .nil)⟩
 rintro _ j0 fr' h' hk0 hm le
 refine H6 _ _ (le.aw ?_)
 refine AW_if' rfl (fun hc0 => ?_) (fun hc0 => ?_)
 have hm := Zi hm hc0
 refine Zf fun K0 H2 => (Za (vC rfl (Zb (H2 _ _ (AW_ret ?_)))))
 have hmo := Option.some.inj hm; subst hmo
 exact Ret.of1 (.inl rfl) (rsT _ _ (.sc (.int _ _)) rfl) (hp_sub (List.nil_sublist _) hk0).1 (ALe.refl _ _) ⟨rfl, rfl⟩
 have hm := Zj hm hc0
 refine Zl (H5 _ _ (Zf fun K2 H3 => (Zf fun K3 H4 => (Za (s_v (Zh fd57_1 rfl rfl) (s_v (Zg (.sl none 3 (List.map c_Part p0.Parts)) ld55 rfl (Zd 0 hk0 rfl) rfl) (s_v (o_lenm ln55 rfl) (vA rfl (Zb (H4 _ _ ?_))))))))))
 refine AW_loopH (n := 43) (h := h) hm (σ := Int) (τ := Unit) (fun g s => [(some k2, .obj 57 (c_Manifest p0))]) (fun g s => kp (kp (kp (kp (k0) 18 (.sc (.int .i64 s))) 17 (.sc (.int .i64 (p0.Parts.length : Int)))) 16 (.sl none 3 (List.map c_Part p0.Parts))) 1 (.ptr k2 0)) () hk0 (LeF.s (.k4 .nil)) ?_ ?_
 rintro _ q0 x hk1 hm
 replace hm : M73_L0 fuel p0 q0 = some x := hm
 unfold M73_L0 at hm
 refine Zf fun K4 H7 => (Za (vF rfl rfl rfl (Zb (H7 _ _ (Zf fun K7 H8 => ?_)))))
 refine AW_if' rfl (fun hc1 => ?_) (fun hc1 => ?_)
 have hm := Zi hm hc1
 refine Zl (H8 _ _ (Zf fun K8 H9 => (AW_block (Zf fun K9 H82 => (Za (vA rfl ?_))))))
 obtain ⟨x0, hx0, hm⟩ := Zc hm
 refine s_v (o_ix hx0 el55 rfl rfl) (s_v (o_ld (.agg (c_Part x0)) ld82 rfl rfl) ?_)
 refine s_op (a_alloc ([.sc (.string ByteArray.empty), .sc (.int .i64 0), .sc (.slice none 0 0)]) hk1 zr82 rfl rfl fun k85 hk2 => ?_)
 refine vC rfl ?_
 refine s_op (a_store 0 (c_Part x0) hk2 rfl rfl rfl rfl sz82 rfl rfl fun hk4 => ?_)
 refine Zb (H82 _ _ (Zf fun K89 H89 => ?_))
 refine AW_joinH (n := 43) (h := h) hm (σ := Bool) (τ := Unit) (fun g s => [(some k85, .obj 82 (c_Part x0)), (some k2, .obj 57 (c_Manifest p0))]) (fun g s => kp (kp (kp (kp (kp (k0) 41 (.sc (.bool s))) 18 (.sc (.int .i64 q0))) 17 (.sc (.int .i64 (p0.Parts.length : Int)))) 16 (.sl none 3 (List.map c_Part p0.Parts))) 1 (.ptr k2 0)) (fun x hm => ?_) ?_
 refine AW_rq mixed (by kernel_rfl) ?_
 refine q_v (Zg (.agg (c_Part x0)) ld82 rfl (Zd 0 hk4 rfl) rfl) ?_
 obtain ⟨y1, hy1, hm⟩ := Zc hm
 refine q_v (o_call (W116 _ hy1) rfl bd116 rfl) (q_v (o_not rfl) (wB rfl ?_))
 rcases Bool.eq_false_or_eq_true (!y1) with hb1 | hb1
 have hm := Zi hm hb1
 refine Ze rfl rfl hb1 (Ze rfl rfl hb1 (Ze rfl rfl hb1 (qg_u rfl rfl (qg_u rfl rfl (qg_u rfl rfl (qg_u rfl rfl (qg_u rfl rfl (qg_u rfl rfl (qg_u rfl rfl (qg_u rfl rfl (qg_u rfl rfl (qg_u rfl rfl (Ze rfl rfl hb1 (q_v (Zm (.sc (.bool _)) rfl hb1 rfl) (q_nil ?_)))))))))))))))
 cases hm
 exact ⟨rfl, (), hk4, LeF.s (.k5 .nil)⟩
 have hm := Zj hm hb1
 refine Zk rfl rfl hb1 (wA rfl (Zk rfl rfl hb1 (wF rfl rfl rfl (Zk rfl rfl hb1 (wB rfl ?_)))))
 rcases Bool.eq_false_or_eq_true (decide (0 < q0)) with hb2 | hb2
 have hm := Zi hm hb2
 refine Zk rfl rfl hb2 (q_v (Zh fd82_0 rfl rfl) (Zk rfl rfl hb2 (q_v (Zg (.sc (.string x0.Path)) ld9 rfl (Zd 0 hk4 rfl) rfl) (Zk rfl rfl hb2 (q_v (Zh fd57_1 rfl rfl) (Zk rfl rfl hb2 (q_v (Zg (.sl none 3 (List.map c_Part p0.Parts)) ld55 rfl (Zd 1 hk4 rfl) rfl) (Zk rfl rfl hb2 (wA rfl (Zk rfl rfl hb2 (wF rfl rfl rfl (Zk rfl rfl hb2 ?_))))))))))))
 obtain ⟨x1, hx1, hm⟩ := Zc hm
 refine q_v (o_ix hx1 el55 rfl rfl) (Zk rfl rfl hb2 (q_v (o_fl fd82_0 rfl rfl) (Zk rfl rfl hb2 (q_v (o_ld (.sc (.string x1.Path)) ld9 rfl rfl) (Zk rfl rfl hb2 (q_v (o_bs rfl rfl rfl trivial) (Zk rfl rfl hb1 (q_v (Zm (.sc (.bool _)) rfl hb2 rfl) (q_v (Zn (.sc (.bool _)) rfl hb1 rfl) (q_nil ?_))))))))))
 cases hm
 exact ⟨rfl, (), hk4, LeF.s (.k5 .nil)⟩
 have hm := Zj hm hb2
 refine Ze rfl rfl hb2 (Ze rfl rfl hb2 (Ze rfl rfl hb2 (Ze rfl rfl hb2 (Ze rfl rfl hb2 (Ze rfl rfl hb2 (Ze rfl rfl hb2 (Ze rfl rfl hb2 (Ze rfl rfl hb2 (Ze rfl rfl hb2 (Zk rfl rfl hb1 (q_v (Zn (.sc (.bool _)) rfl hb2 rfl) (q_v (Zn (.sc (.bool _)) rfl hb1 rfl) (q_nil ?_)))))))))))))
 cases hm
 exact ⟨rfl, (), hk4, LeF.s (.k5 .nil)⟩
 rintro _ j1 fr' h' hk5 hm le
 refine H89 _ _ (le.aw ?_)
 refine AW_if' rfl (fun hc2 => ?_) (fun hc2 => ?_)
 have hm := Zi hm hc2
 refine Zf fun K10 H10 => (Za (vC rfl (Zb (H10 _ _ (AW_ret ?_)))))
 cases hm
 refine ⟨⟨nofun, nofun⟩, fun he => ?_⟩
 subst he
 exact Ret.of1 (.inl rfl) (rsT _ _ (.sc (.int _ _)) rfl) (hp_sub (List.nil_sublist _) hk5).1 (ALe.refl _ _) ⟨rfl, rfl⟩
 have hm := Zj hm hc2
 refine Zl (H9 _ _ (Za (vF rfl rfl rfl (vA rfl (Zb ?_)))))
 cases hm
 exact ⟨rfl, (), (hp_sub (.cons _ (.refl _)) hk5).2, LeF.fm ((hp_sub (.cons _ (.refl _)) hk5).1) (.k4 .nil)⟩
 have hm := Zj hm hc1
 refine AW_exit ?_
 refine Seq_exit ?_
 cases hm
 exact ⟨rfl, (), hk1, LeF.s (.k4 .nil)⟩
 rintro _ r0 fr' h' hk6 hm le
 refine H3 _ _ (le.aw ?_)
 refine Zf fun K11 H11 => (Za (vC rfl (Zb (H11 _ _ (AW_ret ?_)))))
 have hmo := Option.some.inj hm; subst hmo
 exact Ret.of1 (.inl rfl) (rsT _ _ (.sc (.int _ _)) rfl) (hp_sub (List.nil_sublist _) hk6).1 (ALe.refl _ _) ⟨rfl, rfl⟩
theorem bd73 : bodied Try.prog 73 = true := by kernel_rfl
def M142_L0 (fuel : Nat) (p0 : List TChunk) (p1 : Id32) (p2 : TChunk → Id32 → Option Int) (q0 : Int) (q1 : Int) : Option (Lp (Int × Int) (Int × Bool)) :=
 if (decide (q0 < q1)) = true then ((ix p0 (IntKind.wrap .i64 ((IntKind.wrap .u64 (IntKind.wrap .i64 (q0 + q1))).fdiv (2 ^ (min (1 : Int).toNat (IntKind.bits .u64)))))).bind fun x0 => (p2 x0 p1).bind fun y0 => after (if (decide (y0 < 0)) = true then (some (.brk (IntKind.wrap .i64 ((IntKind.wrap .i64 ((IntKind.wrap .u64 (IntKind.wrap .i64 (q0 + q1))).fdiv (2 ^ (min (1 : Int).toNat (IntKind.bits .u64))))) + 1), q1))) else some (.brk (q0, IntKind.wrap .i64 ((IntKind.wrap .u64 (IntKind.wrap .i64 (q0 + q1))).fdiv (2 ^ (min (1 : Int).toNat (IntKind.bits .u64)))))) : Option (Lp (Int × Int) (Lp (Int × Int) (Int × Bool)))) fun ⟨j0, j1⟩ => some (.go (j0, j1))) else some (.brk (q0, q1))
def M142 (fuel : Nat) (p0 : List TChunk) (p1 : Id32) (p2 : TChunk → Id32 → Option Int) : Option (Int × Bool) :=
 after (loopM (fun s => M142_L0 fuel p0 p1 p2 s.1 s.2) fuel (0, (p0.length : Int))) fun ⟨r0, r1⟩ => after (if (decide (r0 < (p0.length : Int))) = true then ((ix p0 r0).bind fun x0 => (p2 x0 p1).bind fun y0 => some (.brk (r0, (y0 == 0)))) else some (.brk (r0, false)) : Option (Lp (Int × Bool) (Int × Bool))) fun ⟨j0, j1⟩ => some (j0, j1)
set_option maxHeartbeats 4000000 in
set_option maxRecDepth 100000 in
theorem W142 {fuel : Nat} {p0 : List TChunk} {p1 : Id32} {p2 : TChunk → Id32 → Option Int} {o : Int × Bool} (h : Heap) {p2F : Nat} {p2C : List AV} (p2B : bodied Try.prog p2F = true) (p2H : ∀ x0 x1 o h0, Sub h h0 → p2 x0 x1 = some o → ACalls Try.prog p2F ([.agg (c_Chunk x0), .agg (c_id x1)] ++ p2C) h0 (fun r h' => r = .sc (.int .i64 o) ∧ h' = h0)) (hm : M142 fuel p0 p1 p2 = some o) :
 ACalls Try.prog 142 [.sl none 35 (List.map c_Chunk p0), .agg (c_id p1), .fn (.func p2F) p2C] h (fun r h' => r = .tup [.sc (.int .i64 o.1), .sc (.bool o.2)] ∧ h' = h) := by
 refine ACalls_hp 49 [.tmp 6, .tmp 7] Try.func142 rfl rfl rfl rfl ?_
 unfold M142 at hm
 refine Zf fun K1 H1 => (Za ?_)
 refine s_op (a_box (HOk.nil _) rfl rfl fun k2 hk3 => ?_)
 refine vC rfl (vD rfl (Zb (H1 _ _ (Zf fun K5 H5 => (Za (vE rfl (s_v (o_lenm ln23 rfl) (vC rfl (Zb (H5 _ _ (Zf fun K6 H6 => (Za (vA rfl (vC rfl (vC rfl ?_)))))))))))))))
 refine Zb (H6 _ _ (Zf fun K7 H7 => ?_))
 refine AW_loopH (n := 49) (h := h) hm (σ := Int × Int) (τ := Unit) (fun g s => [(some k2, .obj 61 (c_id p1))]) (fun g s => kp (kp (kp (kp (kp (kp (k0) 10 (.sc (.int .i64 s.2))) 9 (.sc (.int .i64 s.1))) 8 (.sc (.int .i64 (p0.length : Int)))) 4 (.ptr k2 0)) 2 (.fn (.func p2F) p2C)) 0 (.sl none 35 (List.map c_Chunk p0))) () hk3 (LeF.s (.k6 .nil)) ?_ ?_
 rintro _ ⟨q0, q1⟩ x hk0 hm
 replace hm : M142_L0 fuel p0 p1 p2 q0 q1 = some x := hm
 unfold M142_L0 at hm
 refine Zf fun K0 H2 => (Zf fun K2 H3 => (Za (vA rfl (vA rfl (vF rfl rfl rfl (Zb (H3 _ _ ?_)))))))
 refine AW_if' rfl (fun hc0 => ?_) (fun hc0 => ?_)
 have hm := Zi hm hc0
 refine Zl (H2 _ _ (AW_block (Zf fun K3 H4 => (Za (vA rfl (vA rfl (vF rfl rfl rfl (s_v (o_cv ti3 ti46 rfl) (s_v (o_sh rfl rfl rfl (by decide)) (s_v (o_cv ti46 ti3 rfl) (vC rfl (Zb (H4 _ _ (Zf fun K4 H8 => ?_))))))))))))))
 refine AW_rq mixed (by kernel_rfl) ?_
 refine q_v (o_mv (.fn _ _) rfl) (wE rfl (wA rfl ?_))
 obtain ⟨x2, hx0, hm⟩ := Zc hm
 refine q_v (o_ix hx0 el23 rfl rfl) (q_v (o_ld (.agg (c_Chunk x2)) ld63 rfl rfl) (q_v (Zg (.agg (c_id p1)) ld61 rfl (Zd 0 hk0 rfl) rfl) ?_))
 obtain ⟨y0, hy0, hm⟩ := Zc hm
 refine q_v (o_call (p2H _ _ _ _ (hp_sub (List.nil_sublist _) hk0).1 hy0) rfl p2B rfl) (wF rfl rfl rfl (q_nil (H8 _ _ ?_)))
 refine AW_joinH (n := 49) (h := h) hm (σ := Int × Int) (τ := Unit) (fun g s => [(some k2, .obj 61 (c_id p1))]) (fun g s => kp (kp (kp (kp (kp (kp (k0) 10 (.sc (.int .i64 s.2))) 9 (.sc (.int .i64 s.1))) 8 (.sc (.int .i64 (p0.length : Int)))) 4 (.ptr k2 0)) 2 (.fn (.func p2F) p2C)) 0 (.sl none 35 (List.map c_Chunk p0))) (fun x hm => ?_) ?_
 refine AW_if' rfl (fun hc1 => ?_) (fun hc1 => ?_)
 have hm := Zi hm hc1
 refine Za (vA rfl (vF rfl rfl rfl (vC rfl (Zb ?_))))
 cases hm
 exact ⟨rfl, (), hk0, LeF.s (.k6 .nil)⟩
 have hm := Zj hm hc1
 refine Za (vA rfl (vC rfl (Zb ?_)))
 cases hm
 exact ⟨rfl, (), hk0, LeF.s (.k6 .nil)⟩
 rintro _ ⟨j0, j1⟩ fr' h' hk1 hm le
 cases hm
 exact ⟨rfl, (), hk1, LeF.trans le (LeF.s (.k6 .nil))⟩
 have hm := Zj hm hc0
 refine AW_exit ?_
 refine Seq_exit ?_
 cases hm
 exact ⟨rfl, (), hk0, LeF.s (.k6 .nil)⟩
 rintro _ ⟨r0, r1⟩ fr' h' hk2 hm le
 refine H7 _ _ (le.aw ?_)
 refine Zf fun K8 H9 => ?_
 refine AW_joinH (n := 49) (h := h) hm (σ := Int × Bool) (τ := Unit) (fun g s => [(some k2, .obj 61 (c_id p1))]) (fun g s => kp (kp (k0) 7 (.sc (.bool s.2))) 6 (.sc (.int .i64 s.1))) (fun x hm => ?_) ?_
 refine AW_rq mixed (by kernel_rfl) ?_
 refine wA rfl (wA rfl (wA rfl (wF rfl rfl rfl (wB rfl ?_))))
 rcases Bool.eq_false_or_eq_true (decide (r0 < (p0.length : Int))) with hb0 | hb0
 have hm := Zi hm hb0
 refine Zk rfl rfl hb0 (q_v (o_mv (.fn _ _) rfl) (Zk rfl rfl hb0 (wE rfl (Zk rfl rfl hb0 (wA rfl (Zk rfl rfl hb0 ?_))))))
 obtain ⟨x3, hx1, hm⟩ := Zc hm
 refine q_v (o_ix hx1 el23 rfl rfl) (Zk rfl rfl hb0 (q_v (o_ld (.agg (c_Chunk x3)) ld63 rfl rfl) (Zk rfl rfl hb0 (q_v (Zg (.agg (c_id p1)) ld61 rfl (Zd 0 hk2 rfl) rfl) (Zk rfl rfl hb0 ?_)))))
 obtain ⟨y1, hy1, hm⟩ := Zc hm
 refine q_v (o_call (p2H _ _ _ _ (hp_sub (List.nil_sublist _) hk2).1 hy1) rfl p2B rfl) (Zk rfl rfl hb0 (wF rfl rfl rfl (q_v (Zm (.sc (.bool _)) rfl hb0 rfl) (wC rfl (wD rfl (q_nil ?_))))))
 cases hm
 exact ⟨rfl, (), hk2, LeF.s (.k2 .nil)⟩
 have hm := Zj hm hb0
 refine Ze rfl rfl hb0 (Ze rfl rfl hb0 (Ze rfl rfl hb0 (Ze rfl rfl hb0 (Ze rfl rfl hb0 (Ze rfl rfl hb0 (Ze rfl rfl hb0 (Ze rfl rfl hb0 (q_v (Zn (.sc (.bool _)) rfl hb0 rfl) (wC rfl (wD rfl (q_nil ?_)))))))))))
 cases hm
 exact ⟨rfl, (), hk2, LeF.s (.k2 .nil)⟩
 rintro _ ⟨j2, j3⟩ fr' h' hk4 hm le
 refine H9 _ _ (le.aw ?_)
 refine AW_ret ?_
 have hmo := Option.some.inj hm; subst hmo
 exact Ret.of2 (.inl rfl) (rsT _ _ (.sc (.int _ _)) rfl) (rsT _ _ (.sc (.bool _)) rfl) (hp_sub (List.nil_sublist _) hk4).1 (ALe.refl _ _) (ALe.refl _ _) ⟨rfl, rfl⟩
theorem bd142 : bodied Try.prog 142 = true := by kernel_rfl
def M96_L0 (fuel : Nat) (p0 : List TSnap) (p1 : TSnap → Option Bool) (q0 : Int) : Option (Lp (Int) (Int)) :=
 if (decide (q0 < (p0.length : Int))) = true then ((ix p0 q0).bind fun x0 => (p1 x0).bind fun y0 => if y0 = true then (some (.ret q0)) else some (.go (IntKind.wrap .i64 (q0 + 1)))) else some (.brk q0)
def M96 (fuel : Nat) (p0 : List TSnap) (p1 : TSnap → Option Bool) : Option (Int) :=
 after (loopM (fun s => M96_L0 fuel p0 p1 s) fuel 0) fun r0 => some (-1)
set_option maxHeartbeats 4000000 in
set_option maxRecDepth 100000 in
theorem W96 {fuel : Nat} {p0 : List TSnap} {p1 : TSnap → Option Bool} {o : Int} (h : Heap) {p1F : Nat} {p1C : List AV} (p1B : bodied Try.prog p1F = true) (p1H : ∀ x0 o h0, Sub h h0 → p1 x0 = some o → ACalls Try.prog p1F ([.agg (c_Snap x0)] ++ p1C) h0 (fun r h' => r = .sc (.bool o) ∧ h' = h0)) (hm : M96 fuel p0 p1 = some o) :
 ACalls Try.prog 96 [.sl none 4 (List.map c_Snap p0), .fn (.func p1F) p1C] h (fun r h' => r = .sc (.int .i64 o) ∧ h' = h) := by
 refine ACalls_hp 19 [.tmp 4] Try.func96 rfl rfl rfl rfl ?_
 unfold M96 at hm
 refine Zf fun K1 H1 => (Za (vC rfl (Zb (H1 _ _ (Zf fun K2 H2 => (Zf fun K3 H3 => (Za (vE rfl (s_v (o_lenm ln22 rfl) (vA rfl (Zb (H3 _ _ ?_))))))))))))
 refine AW_loopH (n := 19) (h := h) hm (σ := Int) (τ := Unit) (fun g s => []) (fun g s => kp (kp (kp (kp (k0) 8 (.sc (.int .i64 s))) 7 (.sc (.int .i64 (p0.length : Int)))) 1 (.fn (.func p1F) p1C)) 0 (.sl none 4 (List.map c_Snap p0))) () (HOk.nil _) (LeF.s (.k4 .nil)) ?_ ?_
 rintro _ q0 x hk0 hm
 replace hm : M96_L0 fuel p0 p1 q0 = some x := hm
 unfold M96_L0 at hm
 refine Zf fun K0 H4 => (Za (vF rfl rfl rfl (Zb (H4 _ _ (Zf fun K4 H5 => ?_)))))
 refine AW_if' rfl (fun hc0 => ?_) (fun hc0 => ?_)
 have hm := Zi hm hc0
 refine Zl (H5 _ _ (Zf fun K5 H6 => (AW_block (Zf fun K6 H7 => (Za (vA rfl (vC rfl (Zb (H7 _ _ (Zf fun K7 H8 => (Za (s_v (o_mv (.fn _ _) rfl) (vE rfl (vA rfl ?_))))))))))))))
 obtain ⟨x1, hx0, hm⟩ := Zc hm
 refine s_v (o_ix hx0 el22 rfl rfl) (s_v (o_ld (.agg (c_Snap x1)) ld60 rfl rfl) ?_)
 obtain ⟨y0, hy0, hm⟩ := Zc hm
 refine s_v (o_call (p1H _ _ _ (hp_sub (List.nil_sublist _) hk0).1 hy0) rfl p1B rfl) (Zb (H8 _ _ ?_))
 refine AW_if' rfl (fun hc1 => ?_) (fun hc1 => ?_)
 have hm := Zi hm hc1
 refine Zf fun K8 H9 => (Za (vA rfl (vC rfl (Zb (H9 _ _ (AW_ret ?_))))))
 cases hm
 refine ⟨⟨nofun, nofun⟩, fun he => ?_⟩
 subst he
 exact Ret.of1 (.inl rfl) (rsT _ _ (.sc (.int _ _)) rfl) (Sub.refl _) (ALe.refl _ _) ⟨rfl, rfl⟩
 have hm := Zj hm hc1
 refine Zl (H6 _ _ (Za (vF rfl rfl rfl (vA rfl (Zb ?_)))))
 cases hm
 exact ⟨rfl, (), hk0, LeF.s (.k4 .nil)⟩
 have hm := Zj hm hc0
 refine AW_exit ?_
 refine Seq_exit ?_
 cases hm
 exact ⟨rfl, (), hk0, LeF.s (.k4 .nil)⟩
 rintro _ r0 fr' h' hk1 hm le
 refine H2 _ _ (le.aw ?_)
 refine Zf fun K9 H45 => (Za (vC rfl (Zb (H45 _ _ (AW_ret ?_)))))
 have hmo := Option.some.inj hm; subst hmo
 exact Ret.of1 (.inl rfl) (rsT _ _ (.sc (.int _ _)) rfl) (Sub.refl _) (ALe.refl _ _) ⟨rfl, rfl⟩
theorem bd96 : bodied Try.prog 96 = true := by kernel_rfl
def M89 (fuel : Nat) (p0 : List TSnap) (p1 : TSnap → Option Bool) : Option (Bool) :=
 (M96 fuel p0 p1).bind fun y3 => some (decide (0 ≤ y3))
set_option maxHeartbeats 4000000 in
set_option maxRecDepth 100000 in
theorem W89 {fuel : Nat} {p0 : List TSnap} {p1 : TSnap → Option Bool} {o : Bool} (h : Heap) {p1F : Nat} {p1C : List AV} (p1B : bodied Try.prog p1F = true) (p1H : ∀ x0 o h0, Sub h h0 → p1 x0 = some o → ACalls Try.prog p1F ([.agg (c_Snap x0)] ++ p1C) h0 (fun r h' => r = .sc (.bool o) ∧ h' = h0)) (hm : M89 fuel p0 p1 = some o) :
 ACalls Try.prog 89 [.sl none 4 (List.map c_Snap p0), .fn (.func p1F) p1C] h (fun r h' => r = .sc (.bool o) ∧ h' = h) := by
 refine ACalls_hp 9 [.tmp 4] Try.func89 rfl rfl rfl rfl ?_
 unfold M89 at hm
 refine Zf fun K1 H1 => (Za (vD rfl (Zb (H1 _ _ (Zf fun K2 H2 => (Za (vE rfl (s_v (o_mv (.fn _ _) rfl) ?_))))))))
 obtain ⟨y3, hy4, hm⟩ := Zc hm
 refine s_v (o_call (W96 _ p1B (fun x0 o h0 hs ho => p1H x0 o h0 ((hp_sub (List.nil_sublist _) (HOk.nil _)).1.trans hs) ho) hy4) rfl bd96 rfl) (vF rfl rfl rfl (vD rfl (Zb (H2 _ _ (AW_ret ?_)))))
 have hmo := Option.some.inj hm; subst hmo
 exact Ret.of1 (.inl rfl) (rsT _ _ (.sc (.bool _)) rfl) (Sub.refl _) (ALe.refl _ _) ⟨rfl, rfl⟩
theorem bd89 : bodied Try.prog 89 = true := by kernel_rfl
def M114 (fuel : Nat) (p0 : TSnap) (c0 : TExp) : Option (Bool) :=
 some (p0.Seq == c0.Of)
set_option maxHeartbeats 4000000 in
set_option maxRecDepth 100000 in
theorem W114 {fuel : Nat} {p0 : TSnap} {c0 : TExp} {o : Bool} (h : Heap) {c0K : Key} (c0H : h c0K = some (.obj 65 (c_Exp c0))) (hm : M114 fuel p0 c0 = some o) :
 ACalls Try.prog 114 [.agg (c_Snap p0), .ptr c0K 0] h (fun r h' => r = .sc (.bool o) ∧ h' = h) := by
 refine ACalls_hp 9 [.tmp 3] Try.func114 rfl rfl rfl rfl ?_
 unfold M114 at hm
 refine Zf fun K1 H1 => (Za ?_)
 refine s_op (a_box (HOk.nil _) rfl rfl fun k2 hk3 => ?_)
 refine vD rfl (Zb (H1 _ _ (Zf fun K5 H5 => (Za (s_v (Zh fd60_0 rfl rfl) (s_v (Zg (.sc (.int .i64 p0.Seq)) ld3 rfl (Zd 0 hk3 rfl) rfl) (s_v (Zh fd65_1 rfl rfl) (s_v (Zg (.sc (.int .i64 c0.Of)) ld3 rfl (hp_base hk3 c0H) rfl) (vF rfl rfl rfl (vD rfl (Zb (H5 _ _ (AW_ret ?_)))))))))))))
 have hmo := Option.some.inj hm; subst hmo
 exact Ret.of1 (.inl rfl) (rsT _ _ (.sc (.bool _)) rfl) (hp_sub (List.nil_sublist _) hk3).1 (ALe.refl _ _) ⟨rfl, rfl⟩
theorem bd114 : bodied Try.prog 114 = true := by kernel_rfl
def M72_L0 (fuel : Nat) (p0 : TCatalog) (q0 : Int) : Option (Lp (Int) (Bool)) :=
 if (decide (q0 < (p0.Exps.length : Int))) = true then ((ix p0.Exps q0).bind fun x1 => after ((M68 fuel x1.Seq 0 (IntKind.wrap .i64 (p0.Seq - 1))).bind fun y0 => if (!y0) = true then (some (.brk true)) else if (decide (0 < q0)) = true then ((ix p0.Exps (IntKind.wrap .i64 (q0 - 1))).bind fun x2 => if (decide (x1.Seq ≤ x2.Seq)) = true then (some (.brk true)) else (M68 fuel x1.Of 0 (IntKind.wrap .i64 (x1.Seq - 1))).bind fun y1 => if (!y1) = true then (some (.brk true)) else if ((x1.Locs.length : Int) == 0) = true then (some (.brk true)) else (M112 fuel p0 x1.Locs).bind fun y2 => some (.brk (!y2))) else (M68 fuel x1.Of 0 (IntKind.wrap .i64 (x1.Seq - 1))).bind fun y3 => if (!y3) = true then (some (.brk true)) else if ((x1.Locs.length : Int) == 0) = true then (some (.brk true)) else (M112 fuel p0 x1.Locs).bind fun y4 => some (.brk (!y4)) : Option (Lp (Bool) (Lp (Int) (Bool)))) fun j0 => if j0 = true then (some (.ret false)) else (M89 fuel p0.Snaps (fun x0 => M114 fuel x0 x1)).bind fun y5 => if y5 = true then (some (.ret false)) else some (.go (IntKind.wrap .i64 (q0 + 1)))) else some (.brk q0)
def M72 (fuel : Nat) (p0 : TCatalog) : Option (Bool) :=
 after (loopM (fun s => M72_L0 fuel p0 s) fuel 0) fun r0 => some (decide ((p0.Exps.length : Int) ≤ 200))
set_option maxHeartbeats 4000000 in
set_option maxRecDepth 100000 in
theorem W72 {fuel : Nat} {p0 : TCatalog} {o : Bool} (h : Heap) (hm : M72 fuel p0 = some o) :
 ACalls Try.prog 72 [.agg (c_Catalog p0)] h (fun r h' => r = .sc (.bool o) ∧ h' = h) := by
 refine ACalls_hp 67 [.tmp 2] Try.func72 rfl rfl rfl rfl ?_
 unfold M72 at hm
 refine Zf fun K1 H1 => (Za ?_)
 refine s_op (a_box (HOk.nil _) rfl rfl fun k2 hk3 => ?_)
 refine vD rfl (Zb (H1 _ _ (Zf fun K5 H5 => (Zf fun K6 H6 => (Za (s_v (Zh fd27_3 rfl rfl) (s_v (Zg (.sl none 3 (List.map c_Exp p0.Exps)) ld24 rfl (Zd 0 hk3 rfl) rfl) (s_v (o_lenm ln24 rfl) (vA rfl (Zb (H6 _ _ ?_)))))))))))
 refine AW_loopH (n := 67) (h := h) hm (σ := Int) (τ := Unit) (fun g s => [(some k2, .obj 27 (c_Catalog p0))]) (fun g s => kp (kp (kp (kp (k0) 8 (.sc (.int .i64 s))) 7 (.sc (.int .i64 (p0.Exps.length : Int)))) 6 (.sl none 3 (List.map c_Exp p0.Exps))) 1 (.ptr k2 0)) () hk3 (LeF.s (.k4 .nil)) ?_ ?_
 rintro _ q0 x hk0 hm
 replace hm : M72_L0 fuel p0 q0 = some x := hm
 unfold M72_L0 at hm
 refine Zf fun K0 H2 => (Za (vF rfl rfl rfl (Zb (H2 _ _ (Zf fun K2 H3 => ?_)))))
 refine AW_if' rfl (fun hc0 => ?_) (fun hc0 => ?_)
 have hm := Zi hm hc0
 refine Zl (H3 _ _ (Zf fun K3 H4 => (AW_block (Zf fun K4 H7 => (Za (vA rfl ?_))))))
 obtain ⟨x1, hx0, hm⟩ := Zc hm
 refine s_v (o_ix hx0 el24 rfl rfl) (s_v (o_ld (.agg (c_Exp x1)) ld65 rfl rfl) ?_)
 refine s_op (a_alloc ([.sc (.int .i64 0), .sc (.int .i64 0), .sc (.slice none 0 0)]) hk0 zr65 rfl rfl fun k137 hk1 => ?_)
 refine vC rfl ?_
 refine s_op (a_store 0 (c_Exp x1) hk1 rfl rfl rfl rfl sz65 rfl rfl fun hk2 => ?_)
 refine Zb (H7 _ _ (Zf fun K7 H8 => (Zf fun K8 H9 => ?_)))
 refine AW_joinH (n := 67) (h := h) hm (σ := Bool) (τ := Unit) (fun g s => [(some k137, .obj 65 (c_Exp x1)), (some k2, .obj 27 (c_Catalog p0))]) (fun g s => kp (kp (kp (kp (kp (kp (k0) 57 (.sc (.bool s))) 8 (.sc (.int .i64 q0))) 7 (.sc (.int .i64 (p0.Exps.length : Int)))) 6 (.sl none 3 (List.map c_Exp p0.Exps))) 4 (.ptr k137 0)) 1 (.ptr k2 0)) (fun x hm => ?_) ?_
 refine AW_rq mixed (by kernel_rfl) ?_
 refine q_v (Zh fd65_0 rfl rfl) (q_v (Zg (.sc (.int .i64 x1.Seq)) ld3 rfl (Zd 0 hk2 rfl) rfl) (q_v (Zh fd27_0 rfl rfl) (q_v (Zg (.sc (.int .i64 p0.Seq)) ld3 rfl (Zd 1 hk2 rfl) rfl) (wF rfl rfl rfl ?_))))
 obtain ⟨y0, hy0, hm⟩ := Zc hm
 refine q_v (o_call (W68 _ hy0) rfl bd68 rfl) (q_v (o_not rfl) (wB rfl ?_))
 rcases Bool.eq_false_or_eq_true (!y0) with hb0 | hb0
 have hm := Zi hm hb0
 refine Ze rfl rfl hb0 (Ze rfl rfl hb0 (Ze rfl rfl hb0 (qg_u rfl rfl (qg_u rfl rfl (qg_u rfl rfl (qg_u rfl rfl (qg_u rfl rfl (qg_u rfl rfl (qg_u rfl rfl (qg_u rfl rfl (qg_u rfl rfl (qg_u rfl rfl (Ze rfl rfl hb0 (q_v (Zm (.sc (.bool _)) rfl hb0 rfl) (wB rfl ?_)))))))))))))))
 refine Ze rfl rfl rfl (Ze rfl rfl rfl (Ze rfl rfl rfl (Ze rfl rfl rfl (Ze rfl rfl rfl (Ze rfl rfl rfl (Ze rfl rfl rfl (q_v (Zm (.sc (.bool _)) rfl rfl rfl) (wB rfl (Ze rfl rfl rfl (Ze rfl rfl rfl (Ze rfl rfl rfl (Ze rfl rfl rfl (q_v (Zm (.sc (.bool _)) rfl rfl rfl) (wB rfl (Ze rfl rfl rfl ?_)))))))))))))))
 refine Ze rfl rfl rfl (Ze rfl rfl rfl (Ze rfl rfl rfl (Ze rfl rfl rfl (q_v (Zm (.sc (.bool _)) rfl rfl rfl) (q_nil ?_)))))
 cases hm
 exact ⟨rfl, (), hk2, LeF.s (.k6 .nil)⟩
 have hm := Zj hm hb0
 refine Zk rfl rfl hb0 (wA rfl (Zk rfl rfl hb0 (wF rfl rfl rfl (Zk rfl rfl hb0 (wB rfl ?_)))))
 rcases Bool.eq_false_or_eq_true (decide (0 < q0)) with hb1 | hb1
 have hm := Zi hm hb1
 refine Zk rfl rfl hb1 (q_v (Zh fd27_3 rfl rfl) (Zk rfl rfl hb1 (q_v (Zg (.sl none 3 (List.map c_Exp p0.Exps)) ld24 rfl (Zd 1 hk2 rfl) rfl) (Zk rfl rfl hb1 (wA rfl (Zk rfl rfl hb1 (wF rfl rfl rfl (Zk rfl rfl hb1 ?_))))))))
 obtain ⟨x2, hx1, hm⟩ := Zc hm
 refine q_v (o_ix hx1 el24 rfl rfl) (Zk rfl rfl hb1 (q_v (o_fl fd65_0 rfl rfl) (Zk rfl rfl hb1 (q_v (o_ld (.sc (.int .i64 x2.Seq)) ld3 rfl rfl) (Zk rfl rfl hb1 (q_v (Zh fd65_0 rfl rfl) (Zk rfl rfl hb1 (q_v (Zg (.sc (.int .i64 x1.Seq)) ld3 rfl (Zd 0 hk2 rfl) rfl) (Zk rfl rfl hb1 (wF rfl rfl rfl (Zk rfl rfl hb0 (q_v (Zm (.sc (.bool _)) rfl hb1 rfl) (q_v (Zn (.sc (.bool _)) rfl hb0 rfl) (wB rfl ?_))))))))))))))
 rcases Bool.eq_false_or_eq_true (decide (x1.Seq ≤ x2.Seq)) with hb2 | hb2
 have hm := Zi hm hb2
 refine Ze rfl rfl hb2 (Ze rfl rfl hb2 (Ze rfl rfl hb2 (Ze rfl rfl hb2 (Ze rfl rfl hb2 (Ze rfl rfl hb2 (Ze rfl rfl hb2 (q_v (Zm (.sc (.bool _)) rfl hb2 rfl) (wB rfl (Ze rfl rfl rfl (Ze rfl rfl rfl (Ze rfl rfl rfl (Ze rfl rfl rfl (q_v (Zm (.sc (.bool _)) rfl rfl rfl) (wB rfl (Ze rfl rfl rfl ?_)))))))))))))))
 refine Ze rfl rfl rfl (Ze rfl rfl rfl (Ze rfl rfl rfl (Ze rfl rfl rfl (q_v (Zm (.sc (.bool _)) rfl rfl rfl) (q_nil ?_)))))
 cases hm
 exact ⟨rfl, (), hk2, LeF.s (.k6 .nil)⟩
 have hm := Zj hm hb2
 refine Zk rfl rfl hb2 (q_v (Zh fd65_1 rfl rfl) (Zk rfl rfl hb2 (q_v (Zg (.sc (.int .i64 x1.Of)) ld3 rfl (Zd 0 hk2 rfl) rfl) (Zk rfl rfl hb2 (q_v (Zh fd65_0 rfl rfl) (Zk rfl rfl hb2 (q_v (Zg (.sc (.int .i64 x1.Seq)) ld3 rfl (Zd 0 hk2 rfl) rfl) (Zk rfl rfl hb2 (wF rfl rfl rfl (Zk rfl rfl hb2 ?_))))))))))
 obtain ⟨y1, hy1, hm⟩ := Zc hm
 refine q_v (o_call (W68 _ hy1) rfl bd68 rfl) (Zk rfl rfl hb2 (q_v (o_not rfl) (q_v (Zn (.sc (.bool _)) rfl hb2 rfl) (wB rfl ?_))))
 rcases Bool.eq_false_or_eq_true (!y1) with hb3 | hb3
 have hm := Zi hm hb3
 refine Ze rfl rfl hb3 (Ze rfl rfl hb3 (Ze rfl rfl hb3 (Ze rfl rfl hb3 (q_v (Zm (.sc (.bool _)) rfl hb3 rfl) (wB rfl (Ze rfl rfl rfl (Ze rfl rfl rfl (Ze rfl rfl rfl (Ze rfl rfl rfl (Ze rfl rfl rfl (q_v (Zm (.sc (.bool _)) rfl rfl rfl) (q_nil ?_))))))))))))
 cases hm
 exact ⟨rfl, (), hk2, LeF.s (.k6 .nil)⟩
 have hm := Zj hm hb3
 refine Zk rfl rfl hb3 (q_v (Zh fd65_2 rfl rfl) (Zk rfl rfl hb3 (q_v (Zg (.sl none 4 (List.map c_Loc x1.Locs)) ld58 rfl (Zd 0 hk2 rfl) rfl) (Zk rfl rfl hb3 (q_v (o_lenm ln58 rfl) (Zk rfl rfl hb3 (wF rfl rfl rfl (q_v (Zn (.sc (.bool _)) rfl hb3 rfl) (wB rfl ?_)))))))))
 rcases Bool.eq_false_or_eq_true ((x1.Locs.length : Int) == 0) with hb4 | hb4
 have hm := Zi hm hb4
 refine Ze rfl rfl hb4 (Ze rfl rfl hb4 (Ze rfl rfl hb4 (Ze rfl rfl hb4 (Ze rfl rfl hb4 (q_v (Zm (.sc (.bool _)) rfl hb4 rfl) (q_nil ?_))))))
 cases hm
 exact ⟨rfl, (), hk2, LeF.s (.k6 .nil)⟩
 have hm := Zj hm hb4
 refine Zk rfl rfl hb4 (q_v (Zg (.agg (c_Catalog p0)) ld27 rfl (Zd 1 hk2 rfl) rfl) (Zk rfl rfl hb4 (q_v (Zh fd65_2 rfl rfl) (Zk rfl rfl hb4 (q_v (Zg (.sl none 4 (List.map c_Loc x1.Locs)) ld58 rfl (Zd 0 hk2 rfl) rfl) (Zk rfl rfl hb4 ?_))))))
 obtain ⟨y2, hy2, hm⟩ := Zc hm
 refine q_v (o_call (W112 _ hy2) rfl bd112 rfl) (Zk rfl rfl hb4 (q_v (o_not rfl) (q_v (Zn (.sc (.bool _)) rfl hb4 rfl) (q_nil ?_))))
 cases hm
 exact ⟨rfl, (), hk2, LeF.s (.k6 .nil)⟩
 have hm := Zj hm hb1
 refine Ze rfl rfl hb1 (Ze rfl rfl hb1 (Ze rfl rfl hb1 (Ze rfl rfl hb1 (Ze rfl rfl hb1 (Ze rfl rfl hb1 (Ze rfl rfl hb1 (Ze rfl rfl hb1 (Ze rfl rfl hb1 (Ze rfl rfl hb1 (Zk rfl rfl hb0 (q_v (Zn (.sc (.bool _)) rfl hb1 rfl) (q_v (Zn (.sc (.bool _)) rfl hb0 rfl) (wB rfl (Zk rfl rfl rfl (q_v (Zh fd65_1 rfl rfl) ?_)))))))))))))))
 refine Zk rfl rfl rfl (q_v (Zg (.sc (.int .i64 x1.Of)) ld3 rfl (Zd 0 hk2 rfl) rfl) (Zk rfl rfl rfl (q_v (Zh fd65_0 rfl rfl) (Zk rfl rfl rfl (q_v (Zg (.sc (.int .i64 x1.Seq)) ld3 rfl (Zd 0 hk2 rfl) rfl) (Zk rfl rfl rfl (wF rfl rfl rfl (Zk rfl rfl rfl ?_))))))))
 obtain ⟨y3, hy3, hm⟩ := Zc hm
 refine q_v (o_call (W68 _ hy3) rfl bd68 rfl) (Zk rfl rfl rfl (q_v (o_not rfl) (q_v (Zn (.sc (.bool _)) rfl rfl rfl) (wB rfl ?_))))
 rcases Bool.eq_false_or_eq_true (!y3) with hb5 | hb5
 have hm := Zi hm hb5
 refine Ze rfl rfl hb5 (Ze rfl rfl hb5 (Ze rfl rfl hb5 (Ze rfl rfl hb5 (q_v (Zm (.sc (.bool _)) rfl hb5 rfl) (wB rfl (Ze rfl rfl rfl (Ze rfl rfl rfl (Ze rfl rfl rfl (Ze rfl rfl rfl (Ze rfl rfl rfl (q_v (Zm (.sc (.bool _)) rfl rfl rfl) (q_nil ?_))))))))))))
 cases hm
 exact ⟨rfl, (), hk2, LeF.s (.k6 .nil)⟩
 have hm := Zj hm hb5
 refine Zk rfl rfl hb5 (q_v (Zh fd65_2 rfl rfl) (Zk rfl rfl hb5 (q_v (Zg (.sl none 4 (List.map c_Loc x1.Locs)) ld58 rfl (Zd 0 hk2 rfl) rfl) (Zk rfl rfl hb5 (q_v (o_lenm ln58 rfl) (Zk rfl rfl hb5 (wF rfl rfl rfl (q_v (Zn (.sc (.bool _)) rfl hb5 rfl) (wB rfl ?_)))))))))
 rcases Bool.eq_false_or_eq_true ((x1.Locs.length : Int) == 0) with hb6 | hb6
 have hm := Zi hm hb6
 refine Ze rfl rfl hb6 (Ze rfl rfl hb6 (Ze rfl rfl hb6 (Ze rfl rfl hb6 (Ze rfl rfl hb6 (q_v (Zm (.sc (.bool _)) rfl hb6 rfl) (q_nil ?_))))))
 cases hm
 exact ⟨rfl, (), hk2, LeF.s (.k6 .nil)⟩
 have hm := Zj hm hb6
 refine Zk rfl rfl hb6 (q_v (Zg (.agg (c_Catalog p0)) ld27 rfl (Zd 1 hk2 rfl) rfl) (Zk rfl rfl hb6 (q_v (Zh fd65_2 rfl rfl) (Zk rfl rfl hb6 (q_v (Zg (.sl none 4 (List.map c_Loc x1.Locs)) ld58 rfl (Zd 0 hk2 rfl) rfl) (Zk rfl rfl hb6 ?_))))))
 obtain ⟨y4, hy4, hm⟩ := Zc hm
 refine q_v (o_call (W112 _ hy4) rfl bd112 rfl) (Zk rfl rfl hb6 (q_v (o_not rfl) (q_v (Zn (.sc (.bool _)) rfl hb6 rfl) (q_nil ?_))))
 cases hm
 exact ⟨rfl, (), hk2, LeF.s (.k6 .nil)⟩
 rintro _ j0 fr' h' hk4 hm le
 refine H9 _ _ (le.aw ?_)
 refine AW_if' rfl (fun hc1 => ?_) (fun hc1 => ?_)
 have hm := Zi hm hc1
 refine Zf fun K9 H10 => (Za (vD rfl (Zb (H10 _ _ (AW_ret ?_)))))
 cases hm
 refine ⟨⟨nofun, nofun⟩, fun he => ?_⟩
 subst he
 exact Ret.of1 (.inl rfl) (rsT _ _ (.sc (.bool _)) rfl) (hp_sub (List.nil_sublist _) hk4).1 (ALe.refl _ _) ⟨rfl, rfl⟩
 have hm := Zj hm hc1
 refine Zl (H8 _ _ (Zf fun K10 H11 => (Za (s_v (Zh fd27_1 rfl rfl) (s_v (Zg (.sl none 4 (List.map c_Snap p0.Snaps)) ld22 rfl (Zd 1 hk4 rfl) rfl) (s_v (o_mf rfl) ?_))))))
 obtain ⟨y5, hy5, hm⟩ := Zc hm
 refine s_v (o_call (W89 _ bd114 (fun x0 o h0 hs ho => W114 _ (hs _ _ (Zd 0 hk4 rfl)) ho) hy5) rfl bd89 rfl) (Zb (H11 _ _ ?_))
 refine AW_if' rfl (fun hc2 => ?_) (fun hc2 => ?_)
 have hm := Zi hm hc2
 refine Zf fun K11 H12 => (Za (vD rfl (Zb (H12 _ _ (AW_ret ?_)))))
 cases hm
 refine ⟨⟨nofun, nofun⟩, fun he => ?_⟩
 subst he
 exact Ret.of1 (.inl rfl) (rsT _ _ (.sc (.bool _)) rfl) (hp_sub (List.nil_sublist _) hk4).1 (ALe.refl _ _) ⟨rfl, rfl⟩
 have hm := Zj hm hc2
 refine Zl (H4 _ _ (Za (vF rfl rfl rfl (vA rfl (Zb ?_)))))
 cases hm
 exact ⟨rfl, (), (hp_sub (.cons _ (.refl _)) hk4).2, LeF.fm ((hp_sub (.cons _ (.refl _)) hk4).1) (.k4 .nil)⟩
 have hm := Zj hm hc0
 refine AW_exit ?_
 refine Seq_exit ?_
 cases hm
 exact ⟨rfl, (), hk0, LeF.s (.k4 .nil)⟩
 rintro _ r0 fr' h' hk5 hm le
 refine H5 _ _ (le.aw ?_)
 refine Zf fun K12 H13 => (Za (s_v (Zh fd27_3 rfl rfl) (s_v (Zg (.sl none 3 (List.map c_Exp p0.Exps)) ld24 rfl (Zd 0 hk5 rfl) rfl) (s_v (o_lenm ln24 rfl) (vF rfl rfl rfl (vD rfl (Zb (H13 _ _ (AW_ret ?_)))))))))
 have hmo := Option.some.inj hm; subst hmo
 exact Ret.of1 (.inl rfl) (rsT _ _ (.sc (.bool _)) rfl) (hp_sub (List.nil_sublist _) hk5).1 (ALe.refl _ _) ⟨rfl, rfl⟩
theorem bd72 : bodied Try.prog 72 = true := by kernel_rfl
end Go.Proofs.Ytoomgangpjcaoaa
