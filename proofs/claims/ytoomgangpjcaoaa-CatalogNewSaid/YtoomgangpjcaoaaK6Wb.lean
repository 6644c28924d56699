import Derived.Test.YtoomgangpjcaoaaK6Types
set_option linter.unusedSimpArgs false
set_option linter.unusedVariables false
namespace Go.Proofs.Ytoomgangpjcaoaa
open Go.Vm
def M103 (fuel : Nat) (p0 : TLoc) (p1 : TLoc) : Option (Bool) :=
  after (if (p0.Vol == p1.Vol) = true then (if (p0.File == p1.File) = true then (if (p0.Off == p1.Off) = true then (some (.brk (p0.Len == p1.Len))) else some (.brk false)) else some (.brk false)) else some (.brk false) : Option (Lp (Bool) (Bool))) fun j12 => some j12
set_option maxRecDepth 100000 in
/-- cellarer/cellarerkeep.Loc -/
theorem W103 {fuel : Nat} {p0 : TLoc} {p1 : TLoc} {o : Bool} (h : Heap) (hm : M103 fuel p0 p1 = some o) :
    ACalls Try.prog 103 [.agg (c_Loc p0), .agg (c_Loc p1)] h (fun r h' => r = .sc (.bool o) ∧ h' = h) := by
  refine ACalls_hp 31 [.tmp 4] Try.func103 rfl rfl rfl rfl ?_
  unfold M103 at hm
  refine AW_k fun K1 H1 => ?_
  refine AW_reg ?_
  refine s_op (a_box (HOk.nil _) rfl rfl fun k2 hk3 => ?_)
  refine s_op (a_box hk3 rfl rfl fun k5 hk6 => ?_)
  refine s_v (o_as (.sc (.bool _)) rfl) ?_
  refine s_nil ?_
  refine H1 _ _ ?_
  clear H1 K1
  refine AW_k fun K8 H8 => ?_
  refine AW_joinG (n := 31) hm (σ := Bool) (τ := Unit) (fun g s => HOk h [(some k5, .obj 77 (c_Loc p1)), (some k2, .obj 77 (c_Loc p0))]) (fun g s => kp (k0) 4 (.sc (.bool s))) (fun g s => hp h [(some k5, .obj 77 (c_Loc p1)), (some k2, .obj 77 (c_Loc p0))]) (fun x hm => ?_) ?_
  · refine AW_reg ?_
    refine s_v (o_flp fd77_0 rfl rfl) ?_
    refine s_v (o_ldp (.sc (.int .i64 p0.Vol)) ld3 rfl (hp_get 1 hk6 rfl) rfl) ?_
    refine s_v (o_flp fd77_0 rfl rfl) ?_
    refine s_v (o_ldp (.sc (.int .i64 p1.Vol)) ld3 rfl (hp_get 0 hk6 rfl) rfl) ?_
    refine s_v (o_bi rfl rfl rfl trivial) ?_
    refine s_v (o_mv (.sc (.bool _)) rfl) ?_
    rcases Bool.eq_false_or_eq_true (p0.Vol == p1.Vol) with hb13 | hb13
    · replace hm := ite_t hm hb13
      refine sg_y rfl rfl hb13 ?_
      refine s_v (o_flp fd77_1 rfl rfl) ?_
      refine sg_y rfl rfl hb13 ?_
      refine s_v (o_ldp (.sc (.int .i64 p0.File)) ld3 rfl (hp_get 1 hk6 rfl) rfl) ?_
      refine sg_y rfl rfl hb13 ?_
      refine s_v (o_flp fd77_1 rfl rfl) ?_
      refine sg_y rfl rfl hb13 ?_
      refine s_v (o_ldp (.sc (.int .i64 p1.File)) ld3 rfl (hp_get 0 hk6 rfl) rfl) ?_
      refine sg_y rfl rfl hb13 ?_
      refine s_v (o_bi rfl rfl rfl trivial) ?_
      refine s_v (o_pkt (.sc (.bool _)) rfl hb13 rfl) ?_
      refine s_v (o_mv (.sc (.bool _)) rfl) ?_
      rcases Bool.eq_false_or_eq_true (p0.File == p1.File) with hb14 | hb14
      · replace hm := ite_t hm hb14
        refine sg_y rfl rfl hb14 ?_
        refine s_v (o_flp fd77_2 rfl rfl) ?_
        refine sg_y rfl rfl hb14 ?_
        refine s_v (o_ldp (.sc (.int .i64 p0.Off)) ld3 rfl (hp_get 1 hk6 rfl) rfl) ?_
        refine sg_y rfl rfl hb14 ?_
        refine s_v (o_flp fd77_2 rfl rfl) ?_
        refine sg_y rfl rfl hb14 ?_
        refine s_v (o_ldp (.sc (.int .i64 p1.Off)) ld3 rfl (hp_get 0 hk6 rfl) rfl) ?_
        refine sg_y rfl rfl hb14 ?_
        refine s_v (o_bi rfl rfl rfl trivial) ?_
        refine s_v (o_pkt (.sc (.bool _)) rfl hb14 rfl) ?_
        refine s_v (o_mv (.sc (.bool _)) rfl) ?_
        rcases Bool.eq_false_or_eq_true (p0.Off == p1.Off) with hb15 | hb15
        · replace hm := ite_t hm hb15
          refine sg_y rfl rfl hb15 ?_
          refine s_v (o_flp fd77_3 rfl rfl) ?_
          refine sg_y rfl rfl hb15 ?_
          refine s_v (o_ldp (.sc (.int .i64 p0.Len)) ld3 rfl (hp_get 1 hk6 rfl) rfl) ?_
          refine sg_y rfl rfl hb15 ?_
          refine s_v (o_flp fd77_3 rfl rfl) ?_
          refine sg_y rfl rfl hb15 ?_
          refine s_v (o_ldp (.sc (.int .i64 p1.Len)) ld3 rfl (hp_get 0 hk6 rfl) rfl) ?_
          refine sg_y rfl rfl hb15 ?_
          refine s_v (o_bi rfl rfl rfl trivial) ?_
          refine s_v (o_pkt (.sc (.bool _)) rfl hb15 rfl) ?_
          refine s_v (o_as (.sc (.bool _)) rfl) ?_
          refine s_nil ?_
          cases hm
          exact ⟨rfl, (), hk6, LeF.fm (Sub.refl _) (.cons (ALe.refl _ _) (.nil))⟩
        · replace hm := ite_f hm hb15
          refine sg_n rfl rfl hb15 ?_
          refine sg_n rfl rfl hb15 ?_
          refine sg_n rfl rfl hb15 ?_
          refine sg_n rfl rfl hb15 ?_
          refine sg_n rfl rfl hb15 ?_
          refine s_v (o_pkf (.sc (.bool _)) rfl hb15 rfl) ?_
          refine s_v (o_as (.sc (.bool _)) rfl) ?_
          refine s_nil ?_
          cases hm
          exact ⟨rfl, (), hk6, LeF.fm (Sub.refl _) (.cons (ALe.refl _ _) (.nil))⟩
      · replace hm := ite_f hm hb14
        refine sg_n rfl rfl hb14 ?_
        refine sg_n rfl rfl hb14 ?_
        refine sg_n rfl rfl hb14 ?_
        refine sg_n rfl rfl hb14 ?_
        refine sg_n rfl rfl hb14 ?_
        refine s_v (o_pkf (.sc (.bool _)) rfl hb14 rfl) ?_
        refine s_v (o_mv (.sc (.bool _)) rfl) ?_
        refine sg_n rfl rfl rfl ?_
        refine sg_n rfl rfl rfl ?_
        refine sg_n rfl rfl rfl ?_
        refine sg_n rfl rfl rfl ?_
        refine sg_n rfl rfl rfl ?_
        refine s_v (o_pkf (.sc (.bool _)) rfl rfl rfl) ?_
        refine s_v (o_as (.sc (.bool _)) rfl) ?_
        refine s_nil ?_
        cases hm
        exact ⟨rfl, (), hk6, LeF.fm (Sub.refl _) (.cons (ALe.refl _ _) (.nil))⟩
    · replace hm := ite_f hm hb13
      refine sg_n rfl rfl hb13 ?_
      refine sg_n rfl rfl hb13 ?_
      refine sg_n rfl rfl hb13 ?_
      refine sg_n rfl rfl hb13 ?_
      refine sg_n rfl rfl hb13 ?_
      refine s_v (o_pkf (.sc (.bool _)) rfl hb13 rfl) ?_
      refine s_v (o_mv (.sc (.bool _)) rfl) ?_
      refine sg_n rfl rfl rfl ?_
      refine sg_n rfl rfl rfl ?_
      refine sg_n rfl rfl rfl ?_
      refine sg_n rfl rfl rfl ?_
      refine sg_n rfl rfl rfl ?_
      refine s_v (o_pkf (.sc (.bool _)) rfl rfl rfl) ?_
      refine s_v (o_mv (.sc (.bool _)) rfl) ?_
      refine sg_n rfl rfl rfl ?_
      refine sg_n rfl rfl rfl ?_
      refine sg_n rfl rfl rfl ?_
      refine sg_n rfl rfl rfl ?_
      refine sg_n rfl rfl rfl ?_
      refine s_v (o_pkf (.sc (.bool _)) rfl rfl rfl) ?_
      refine s_v (o_as (.sc (.bool _)) rfl) ?_
      refine s_nil ?_
      cases hm
      exact ⟨rfl, (), hk6, LeF.fm (Sub.refl _) (.cons (ALe.refl _ _) (.nil))⟩
  · rintro _ j12 fr' h' hk16 hm le
    refine H8 _ _ (le.aw ?_)
    clear le H8 K8
    refine AW_ret ?_
    cases hm
    exact Ret.of1 (.inl rfl) (rsT _ _ (.sc (.bool _)) rfl) (hp_sub (List.nil_sublist _) hk16).1 (ALe.refl _ _) ⟨rfl, rfl⟩
theorem bd103 : bodied Try.prog 103 = true := by kernel_rfl
def M58_L0 (fuel : Nat) (p0 : List TLoc) (p1 : List TLoc) (q35 : Int) : Option (Lp (Int) (Bool)) :=
  if (decide (q35 < (p0.length : Int))) = true then ((ix p0 q35).bind fun x42 => (ix p1 q35).bind fun x44 => (M103 fuel x42 x44).bind fun y46 => if (!y46) = true then (some (.ret false)) else some (.go (IntKind.wrap .i64 (q35 + 1)))) else some (.brk q35)
def M58 (fuel : Nat) (p0 : List TLoc) (p1 : List TLoc) : Option (Bool) :=
  if ((p0.length : Int) != (p1.length : Int)) = true then (some false) else after (loopM (fun s => M58_L0 fuel p0 p1 s) fuel 0) fun r50 => some true
set_option maxRecDepth 100000 in
/-- cellarer/cellarerkeep.Locs -/
theorem W58 {fuel : Nat} {p0 : List TLoc} {p1 : List TLoc} {o : Bool} (h : Heap) (hm : M58 fuel p0 p1 = some o) :
    ACalls Try.prog 58 [.sl none 4 (List.map c_Loc p0), .sl none 4 (List.map c_Loc p1)] h (fun r h' => r = .sc (.bool o) ∧ h' = h) := by
  refine ACalls_hp 27 [.tmp 4] Try.func58 rfl rfl rfl rfl ?_
  unfold M58 at hm
  refine AW_k fun K1 H1 => ?_
  refine AW_reg ?_
  refine s_v (o_as (.sc (.bool _)) rfl) ?_
  refine s_nil ?_
  refine H1 _ _ ?_
  clear H1 K1
  refine AW_k fun K2 H2 => ?_
  refine AW_k fun K3 H3 => ?_
  refine AW_reg ?_
  refine s_v (o_mv (.sl _ _ _) rfl) ?_
  refine s_v (o_lenm ln58 rfl) ?_
  refine s_v (o_mv (.sl _ _ _) rfl) ?_
  refine s_v (o_lenm ln58 rfl) ?_
  refine s_v (o_bi rfl rfl rfl trivial) ?_
  refine s_nil ?_
  refine H3 _ _ ?_
  clear H3 K3
  refine AW_if' rfl (fun hc4 => ?_) (fun hc4 => ?_)
  · replace hm := ite_t hm hc4
    refine AW_k fun K5 H5 => ?_
    refine AW_reg ?_
    refine s_v (o_as (.sc (.bool _)) rfl) ?_
    refine s_nil ?_
    refine H5 _ _ ?_
    clear H5 K5
    refine AW_ret ?_
    cases hm
    exact Ret.of1 (.inl rfl) (rsT _ _ (.sc (.bool _)) rfl) (Sub.refl _) (ALe.refl _ _) ⟨rfl, rfl⟩
  · replace hm := ite_f hm hc4
    refine AW_skip ?_
    refine H2 _ _ ?_
    clear H2 K2
    refine AW_k fun K6 H6 => ?_
    refine AW_k fun K7 H7 => ?_
    refine AW_reg ?_
    refine s_v (o_as (.sc (.int _ _)) rfl) ?_
    refine s_nil ?_
    refine H7 _ _ ?_
    clear H7 K7
    refine AW_loopG (n := 27) hm (σ := Int) (τ := Unit) (fun g s => HOk h []) (fun g s => kp (kp (kp (k0) 5 (.sc (.int .i64 s))) 1 (.sl none 4 (List.map c_Loc p1))) 0 (.sl none 4 (List.map c_Loc p0))) (fun g s => hp h []) () (HOk.nil _) (LeF.fm (Sub.refl _) (.cons (ALe.refl _ _) (.cons (ALe.refl _ _) (.cons (ALe.refl _ _) (.nil))))) ?_ ?_
    · rintro _ q35 x hk36 hm
      replace hm : M58_L0 fuel p0 p1 q35 = some x := hm
      unfold M58_L0 at hm
      refine AW_k fun K37 H37 => ?_
      refine AW_k fun K38 H38 => ?_
      refine AW_reg ?_
      refine s_v (o_mv (.sc (.int _ _)) rfl) ?_
      refine s_v (o_mv (.sl _ _ _) rfl) ?_
      refine s_v (o_lenm ln58 rfl) ?_
      refine s_v (o_bi rfl rfl rfl trivial) ?_
      refine s_nil ?_
      refine H38 _ _ ?_
      clear H38 K38
      refine AW_if' rfl (fun hc39 => ?_) (fun hc39 => ?_)
      · replace hm := ite_t hm hc39
        refine AW_skip ?_
        refine H37 _ _ ?_
        clear H37 K37
        refine AW_k fun K40 H40 => ?_
        refine AW_block ?_
        refine AW_k fun K41 H41 => ?_
        refine AW_region_q [(some 17, [0], []), (some 18, [5], []), (some 19, [17, 18], [0, 1]), (some 20, [19], [2]), (some 21, [1], []), (some 22, [5], []), (some 23, [21, 22], [4, 5]), (some 24, [23], [6]), (some 25, [20, 24], [3, 7]), (some 26, [25], [8])] mixed (by kernel_rfl) (by kernel_rfl) ?_
        refine q_v (o_mv (.sl _ _ _) rfl) ?_
        refine q_v (o_mv (.sc (.int _ _)) rfl) ?_
        obtain ⟨x42, hx43, hm⟩ := bind_of hm
        refine q_v (o_ix hx43 el58 rfl rfl) ?_
        refine q_v (o_ld (.agg (c_Loc x42)) ld77 rfl rfl) ?_
        refine q_v (o_mv (.sl _ _ _) rfl) ?_
        refine q_v (o_mv (.sc (.int _ _)) rfl) ?_
        obtain ⟨x44, hx45, hm⟩ := bind_of hm
        refine q_v (o_ix hx45 el58 rfl rfl) ?_
        refine q_v (o_ld (.agg (c_Loc x44)) ld77 rfl rfl) ?_
        obtain ⟨y46, hy47, hm⟩ := bind_of hm
        refine q_v (o_call (W103 _ hy47) rfl bd103 rfl) ?_
        refine q_v (o_not rfl) ?_
        refine q_nil ?_
        refine H41 _ _ ?_
        clear H41 K41
        refine AW_if' rfl (fun hc48 => ?_) (fun hc48 => ?_)
        · replace hm := ite_t hm hc48
          refine AW_k fun K49 H49 => ?_
          refine AW_reg ?_
          refine s_v (o_as (.sc (.bool _)) rfl) ?_
          refine s_nil ?_
          refine H49 _ _ ?_
          clear H49 K49
          refine AW_ret ?_
          cases hm
          refine ⟨⟨nofun, nofun⟩, fun he => ?_⟩
          subst he
          exact Ret.of1 (.inl rfl) (rsT _ _ (.sc (.bool _)) rfl) (Sub.refl _) (ALe.refl _ _) ⟨rfl, rfl⟩
        · replace hm := ite_f hm hc48
          refine AW_skip ?_
          refine H40 _ _ ?_
          clear H40 K40
          refine AW_reg ?_
          refine s_v (o_mv (.sc (.int _ _)) rfl) ?_
          refine s_v (o_bi rfl rfl rfl trivial) ?_
          refine s_v (o_as (.sc (.int _ _)) rfl) ?_
          refine s_nil ?_
          cases hm
          exact ⟨rfl, (), hk36, LeF.fm (Sub.refl _) (.cons (ALe.refl _ _) (.cons (ALe.refl _ _) (.cons (ALe.refl _ _) (.nil))))⟩
      · replace hm := ite_f hm hc39
        refine AW_exit ?_
        refine Seq_exit ?_
        cases hm
        exact ⟨rfl, (), hk36, LeF.fm (Sub.refl _) (.cons (ALe.refl _ _) (.cons (ALe.refl _ _) (.cons (ALe.refl _ _) (.nil))))⟩
    · rintro _ r50 fr' h' hk51 hm le
      refine H6 _ _ (le.aw ?_)
      clear le H6 K6
      refine AW_k fun K52 H52 => ?_
      refine AW_reg ?_
      refine s_v (o_as (.sc (.bool _)) rfl) ?_
      refine s_nil ?_
      refine H52 _ _ ?_
      clear H52 K52
      refine AW_ret ?_
      cases hm
      exact Ret.of1 (.inl rfl) (rsT _ _ (.sc (.bool _)) rfl) (Sub.refl _) (ALe.refl _ _) ⟨rfl, rfl⟩
theorem bd58 : bodied Try.prog 58 = true := by kernel_rfl
def M126_L0 (fuel : Nat) (p0 : List Int) (p1 : List Int) (q31 : Int) : Option (Lp (Int) (Bool)) :=
  if (decide (q31 < (p0.length : Int))) = true then ((ix p0 q31).bind fun x38 => (ix p1 q31).bind fun x40 => if (x38 != x40) = true then (some (.ret false)) else some (.go (IntKind.wrap .i64 (q31 + 1)))) else some (.brk q31)
def M126 (fuel : Nat) (p0 : List Int) (p1 : List Int) : Option (Bool) :=
  if ((p0.length : Int) != (p1.length : Int)) = true then (some false) else after (loopM (fun s => M126_L0 fuel p0 p1 s) fuel 0) fun r44 => some true
set_option maxRecDepth 100000 in
/-- cellarer/cellarerkeep.Bytes -/
theorem W126 {fuel : Nat} {p0 : List Int} {p1 : List Int} {o : Bool} (h : Heap) (hm : M126 fuel p0 p1 = some o) :
    ACalls Try.prog 126 [.sl none 1 (List.map c_u8 p0), .sl none 1 (List.map c_u8 p1)] h (fun r h' => r = .sc (.bool o) ∧ h' = h) := by
  refine ACalls_hp 26 [.tmp 4] Try.func126 rfl rfl rfl rfl ?_
  unfold M126 at hm
  refine AW_k fun K1 H1 => ?_
  refine AW_reg ?_
  refine s_v (o_as (.sc (.bool _)) rfl) ?_
  refine s_nil ?_
  refine H1 _ _ ?_
  clear H1 K1
  refine AW_k fun K2 H2 => ?_
  refine AW_k fun K3 H3 => ?_
  refine AW_reg ?_
  refine s_v (o_mv (.sl _ _ _) rfl) ?_
  refine s_v (o_lenm ln52 rfl) ?_
  refine s_v (o_mv (.sl _ _ _) rfl) ?_
  refine s_v (o_lenm ln52 rfl) ?_
  refine s_v (o_bi rfl rfl rfl trivial) ?_
  refine s_nil ?_
  refine H3 _ _ ?_
  clear H3 K3
  refine AW_if' rfl (fun hc4 => ?_) (fun hc4 => ?_)
  · replace hm := ite_t hm hc4
    refine AW_k fun K5 H5 => ?_
    refine AW_reg ?_
    refine s_v (o_as (.sc (.bool _)) rfl) ?_
    refine s_nil ?_
    refine H5 _ _ ?_
    clear H5 K5
    refine AW_ret ?_
    cases hm
    exact Ret.of1 (.inl rfl) (rsT _ _ (.sc (.bool _)) rfl) (Sub.refl _) (ALe.refl _ _) ⟨rfl, rfl⟩
  · replace hm := ite_f hm hc4
    refine AW_skip ?_
    refine H2 _ _ ?_
    clear H2 K2
    refine AW_k fun K6 H6 => ?_
    refine AW_k fun K7 H7 => ?_
    refine AW_reg ?_
    refine s_v (o_as (.sc (.int _ _)) rfl) ?_
    refine s_nil ?_
    refine H7 _ _ ?_
    clear H7 K7
    refine AW_loopG (n := 26) hm (σ := Int) (τ := Unit) (fun g s => HOk h []) (fun g s => kp (kp (kp (k0) 5 (.sc (.int .i64 s))) 1 (.sl none 1 (List.map c_u8 p1))) 0 (.sl none 1 (List.map c_u8 p0))) (fun g s => hp h []) () (HOk.nil _) (LeF.fm (Sub.refl _) (.cons (ALe.refl _ _) (.cons (ALe.refl _ _) (.cons (ALe.refl _ _) (.nil))))) ?_ ?_
    · rintro _ q31 x hk32 hm
      replace hm : M126_L0 fuel p0 p1 q31 = some x := hm
      unfold M126_L0 at hm
      refine AW_k fun K33 H33 => ?_
      refine AW_k fun K34 H34 => ?_
      refine AW_reg ?_
      refine s_v (o_mv (.sc (.int _ _)) rfl) ?_
      refine s_v (o_mv (.sl _ _ _) rfl) ?_
      refine s_v (o_lenm ln52 rfl) ?_
      refine s_v (o_bi rfl rfl rfl trivial) ?_
      refine s_nil ?_
      refine H34 _ _ ?_
      clear H34 K34
      refine AW_if' rfl (fun hc35 => ?_) (fun hc35 => ?_)
      · replace hm := ite_t hm hc35
        refine AW_skip ?_
        refine H33 _ _ ?_
        clear H33 K33
        refine AW_k fun K36 H36 => ?_
        refine AW_block ?_
        refine AW_k fun K37 H37 => ?_
        refine AW_region_q [(some 17, [0], []), (some 18, [5], []), (some 19, [17, 18], [0, 1]), (some 20, [19], [2]), (some 21, [1], []), (some 22, [5], []), (some 23, [21, 22], [4, 5]), (some 24, [23], [6]), (some 25, [20, 24], [3, 7])] mixed (by kernel_rfl) (by kernel_rfl) ?_
        refine q_v (o_mv (.sl _ _ _) rfl) ?_
        refine q_v (o_mv (.sc (.int _ _)) rfl) ?_
        obtain ⟨x38, hx39, hm⟩ := bind_of hm
        refine q_v (o_ix hx39 el52 rfl rfl) ?_
        refine q_v (o_ld (.sc (.int .u8 x38)) ld5 rfl rfl) ?_
        refine q_v (o_mv (.sl _ _ _) rfl) ?_
        refine q_v (o_mv (.sc (.int _ _)) rfl) ?_
        obtain ⟨x40, hx41, hm⟩ := bind_of hm
        refine q_v (o_ix hx41 el52 rfl rfl) ?_
        refine q_v (o_ld (.sc (.int .u8 x40)) ld5 rfl rfl) ?_
        refine q_v (o_bi rfl rfl rfl trivial) ?_
        refine q_nil ?_
        refine H37 _ _ ?_
        clear H37 K37
        refine AW_if' rfl (fun hc42 => ?_) (fun hc42 => ?_)
        · replace hm := ite_t hm hc42
          refine AW_k fun K43 H43 => ?_
          refine AW_reg ?_
          refine s_v (o_as (.sc (.bool _)) rfl) ?_
          refine s_nil ?_
          refine H43 _ _ ?_
          clear H43 K43
          refine AW_ret ?_
          cases hm
          refine ⟨⟨nofun, nofun⟩, fun he => ?_⟩
          subst he
          exact Ret.of1 (.inl rfl) (rsT _ _ (.sc (.bool _)) rfl) (Sub.refl _) (ALe.refl _ _) ⟨rfl, rfl⟩
        · replace hm := ite_f hm hc42
          refine AW_skip ?_
          refine H36 _ _ ?_
          clear H36 K36
          refine AW_reg ?_
          refine s_v (o_mv (.sc (.int _ _)) rfl) ?_
          refine s_v (o_bi rfl rfl rfl trivial) ?_
          refine s_v (o_as (.sc (.int _ _)) rfl) ?_
          refine s_nil ?_
          cases hm
          exact ⟨rfl, (), hk32, LeF.fm (Sub.refl _) (.cons (ALe.refl _ _) (.cons (ALe.refl _ _) (.cons (ALe.refl _ _) (.nil))))⟩
      · replace hm := ite_f hm hc35
        refine AW_exit ?_
        refine Seq_exit ?_
        cases hm
        exact ⟨rfl, (), hk32, LeF.fm (Sub.refl _) (.cons (ALe.refl _ _) (.cons (ALe.refl _ _) (.cons (ALe.refl _ _) (.nil))))⟩
    · rintro _ r44 fr' h' hk45 hm le
      refine H6 _ _ (le.aw ?_)
      clear le H6 K6
      refine AW_k fun K46 H46 => ?_
      refine AW_reg ?_
      refine s_v (o_as (.sc (.bool _)) rfl) ?_
      refine s_nil ?_
      refine H46 _ _ ?_
      clear H46 K46
      refine AW_ret ?_
      cases hm
      exact Ret.of1 (.inl rfl) (rsT _ _ (.sc (.bool _)) rfl) (Sub.refl _) (ALe.refl _ _) ⟨rfl, rfl⟩
theorem bd126 : bodied Try.prog 126 = true := by kernel_rfl
def M101 (fuel : Nat) (p0 : TChunk) (p1 : TChunk) : Option (Bool) :=
  after (if (decide (p0.Id = p1.Id)) = true then (if (p0.Staged == p1.Staged) = true then ((M126 fuel p0.Data p1.Data).bind fun y19 => if y19 = true then ((M58 fuel p0.Locs p1.Locs).bind fun y22 => some (.brk y22)) else some (.brk false)) else some (.brk false)) else some (.brk false) : Option (Lp (Bool) (Bool))) fun j16 => some j16
set_option maxRecDepth 100000 in
/-- cellarer/cellarerkeep.Chunk -/
theorem W101 {fuel : Nat} {p0 : TChunk} {p1 : TChunk} {o : Bool} (h : Heap) (hm : M101 fuel p0 p1 = some o) :
    ACalls Try.prog 101 [.agg (c_Chunk p0), .agg (c_Chunk p1)] h (fun r h' => r = .sc (.bool o) ∧ h' = h) := by
  refine ACalls_hp 31 [.tmp 4] Try.func101 rfl rfl rfl rfl ?_
  unfold M101 at hm
  refine AW_k fun K1 H1 => ?_
  refine AW_reg ?_
  refine s_op (a_box (HOk.nil _) rfl rfl fun k2 hk3 => ?_)
  refine s_op (a_box hk3 rfl rfl fun k5 hk6 => ?_)
  refine s_v (o_as (.sc (.bool _)) rfl) ?_
  refine s_nil ?_
  refine H1 _ _ ?_
  clear H1 K1
  refine AW_k fun K8 H8 => ?_
  refine AW_joinG (n := 31) hm (σ := Bool) (τ := Unit) (fun g s => HOk h [(some k5, .obj 63 (c_Chunk p1)), (some k2, .obj 63 (c_Chunk p0))]) (fun g s => kp (k0) 4 (.sc (.bool s))) (fun g s => hp h [(some k5, .obj 63 (c_Chunk p1)), (some k2, .obj 63 (c_Chunk p0))]) (fun x hm => ?_) ?_
  · refine AW_reg ?_
    refine s_v (o_flp fd63_0 rfl rfl) ?_
    refine s_v (o_ldp (.agg (c_id p0.Id)) ld61 rfl (hp_get 1 hk6 rfl) rfl) ?_
    refine s_v (o_flp fd63_0 rfl rfl) ?_
    refine s_v (o_ldp (.agg (c_id p1.Id)) ld61 rfl (hp_get 0 hk6 rfl) rfl) ?_
    refine s_v (o_ide eg61 u61 u5 ld5 rfl rfl) ?_
    refine s_v (o_mv (.sc (.bool _)) rfl) ?_
    rcases Bool.eq_false_or_eq_true (decide (p0.Id = p1.Id)) with hb17 | hb17
    · replace hm := ite_t hm hb17
      refine sg_y rfl rfl hb17 ?_
      refine s_v (o_flp fd63_1 rfl rfl) ?_
      refine sg_y rfl rfl hb17 ?_
      refine s_v (o_ldp (.sc (.bool p0.Staged)) ld4 rfl (hp_get 1 hk6 rfl) rfl) ?_
      refine sg_y rfl rfl hb17 ?_
      refine s_v (o_flp fd63_1 rfl rfl) ?_
      refine sg_y rfl rfl hb17 ?_
      refine s_v (o_ldp (.sc (.bool p1.Staged)) ld4 rfl (hp_get 0 hk6 rfl) rfl) ?_
      refine sg_y rfl rfl hb17 ?_
      refine s_v (o_bb u4 rfl rfl rfl) ?_
      refine s_v (o_pkt (.sc (.bool _)) rfl hb17 rfl) ?_
      refine s_v (o_mv (.sc (.bool _)) rfl) ?_
      rcases Bool.eq_false_or_eq_true (p0.Staged == p1.Staged) with hb18 | hb18
      · replace hm := ite_t hm hb18
        refine sg_y rfl rfl hb18 ?_
        refine s_v (o_flp fd63_2 rfl rfl) ?_
        refine sg_y rfl rfl hb18 ?_
        refine s_v (o_ldp (.sl none 1 (List.map c_u8 p0.Data)) ld52 rfl (hp_get 1 hk6 rfl) rfl) ?_
        refine sg_y rfl rfl hb18 ?_
        refine s_v (o_flp fd63_2 rfl rfl) ?_
        refine sg_y rfl rfl hb18 ?_
        refine s_v (o_ldp (.sl none 1 (List.map c_u8 p1.Data)) ld52 rfl (hp_get 0 hk6 rfl) rfl) ?_
        refine sg_y rfl rfl hb18 ?_
        obtain ⟨y19, hy20, hm⟩ := bind_of hm
        refine s_v (o_call (W126 _ hy20) rfl bd126 rfl) ?_
        refine s_v (o_pkt (.sc (.bool _)) rfl hb18 rfl) ?_
        refine s_v (o_mv (.sc (.bool _)) rfl) ?_
        rcases Bool.eq_false_or_eq_true y19 with hb21 | hb21
        · replace hm := ite_t hm hb21
          refine sg_y rfl rfl hb21 ?_
          refine s_v (o_flp fd63_3 rfl rfl) ?_
          refine sg_y rfl rfl hb21 ?_
          refine s_v (o_ldp (.sl none 4 (List.map c_Loc p0.Locs)) ld58 rfl (hp_get 1 hk6 rfl) rfl) ?_
          refine sg_y rfl rfl hb21 ?_
          refine s_v (o_flp fd63_3 rfl rfl) ?_
          refine sg_y rfl rfl hb21 ?_
          refine s_v (o_ldp (.sl none 4 (List.map c_Loc p1.Locs)) ld58 rfl (hp_get 0 hk6 rfl) rfl) ?_
          refine sg_y rfl rfl hb21 ?_
          obtain ⟨y22, hy23, hm⟩ := bind_of hm
          refine s_v (o_call (W58 _ hy23) rfl bd58 rfl) ?_
          refine s_v (o_pkt (.sc (.bool _)) rfl hb21 rfl) ?_
          refine s_v (o_as (.sc (.bool _)) rfl) ?_
          refine s_nil ?_
          cases hm
          exact ⟨rfl, (), hk6, LeF.fm (Sub.refl _) (.cons (ALe.refl _ _) (.nil))⟩
        · replace hm := ite_f hm hb21
          refine sg_n rfl rfl hb21 ?_
          refine sg_n rfl rfl hb21 ?_
          refine sg_n rfl rfl hb21 ?_
          refine sg_n rfl rfl hb21 ?_
          refine sg_n rfl rfl hb21 ?_
          refine s_v (o_pkf (.sc (.bool _)) rfl hb21 rfl) ?_
          refine s_v (o_as (.sc (.bool _)) rfl) ?_
          refine s_nil ?_
          cases hm
          exact ⟨rfl, (), hk6, LeF.fm (Sub.refl _) (.cons (ALe.refl _ _) (.nil))⟩
      · replace hm := ite_f hm hb18
        refine sg_n rfl rfl hb18 ?_
        refine sg_n rfl rfl hb18 ?_
        refine sg_n rfl rfl hb18 ?_
        refine sg_n rfl rfl hb18 ?_
        refine sg_n rfl rfl hb18 ?_
        refine s_v (o_pkf (.sc (.bool _)) rfl hb18 rfl) ?_
        refine s_v (o_mv (.sc (.bool _)) rfl) ?_
        refine sg_n rfl rfl rfl ?_
        refine sg_n rfl rfl rfl ?_
        refine sg_n rfl rfl rfl ?_
        refine sg_n rfl rfl rfl ?_
        refine sg_n rfl rfl rfl ?_
        refine s_v (o_pkf (.sc (.bool _)) rfl rfl rfl) ?_
        refine s_v (o_as (.sc (.bool _)) rfl) ?_
        refine s_nil ?_
        cases hm
        exact ⟨rfl, (), hk6, LeF.fm (Sub.refl _) (.cons (ALe.refl _ _) (.nil))⟩
    · replace hm := ite_f hm hb17
      refine sg_n rfl rfl hb17 ?_
      refine sg_n rfl rfl hb17 ?_
      refine sg_n rfl rfl hb17 ?_
      refine sg_n rfl rfl hb17 ?_
      refine sg_n rfl rfl hb17 ?_
      refine s_v (o_pkf (.sc (.bool _)) rfl hb17 rfl) ?_
      refine s_v (o_mv (.sc (.bool _)) rfl) ?_
      refine sg_n rfl rfl rfl ?_
      refine sg_n rfl rfl rfl ?_
      refine sg_n rfl rfl rfl ?_
      refine sg_n rfl rfl rfl ?_
      refine sg_n rfl rfl rfl ?_
      refine s_v (o_pkf (.sc (.bool _)) rfl rfl rfl) ?_
      refine s_v (o_mv (.sc (.bool _)) rfl) ?_
      refine sg_n rfl rfl rfl ?_
      refine sg_n rfl rfl rfl ?_
      refine sg_n rfl rfl rfl ?_
      refine sg_n rfl rfl rfl ?_
      refine sg_n rfl rfl rfl ?_
      refine s_v (o_pkf (.sc (.bool _)) rfl rfl rfl) ?_
      refine s_v (o_as (.sc (.bool _)) rfl) ?_
      refine s_nil ?_
      cases hm
      exact ⟨rfl, (), hk6, LeF.fm (Sub.refl _) (.cons (ALe.refl _ _) (.nil))⟩
  · rintro _ j16 fr' h' hk24 hm le
    refine H8 _ _ (le.aw ?_)
    clear le H8 K8
    refine AW_ret ?_
    cases hm
    exact Ret.of1 (.inl rfl) (rsT _ _ (.sc (.bool _)) rfl) (hp_sub (List.nil_sublist _) hk24).1 (ALe.refl _ _) ⟨rfl, rfl⟩
theorem bd101 : bodied Try.prog 101 = true := by kernel_rfl
def M55_L0 (fuel : Nat) (p0 : List TChunk) (p1 : List TChunk) (q35 : Int) : Option (Lp (Int) (Bool)) :=
  if (decide (q35 < (p0.length : Int))) = true then ((ix p0 q35).bind fun x42 => (ix p1 q35).bind fun x44 => (M101 fuel x42 x44).bind fun y46 => if (!y46) = true then (some (.ret false)) else some (.go (IntKind.wrap .i64 (q35 + 1)))) else some (.brk q35)
def M55 (fuel : Nat) (p0 : List TChunk) (p1 : List TChunk) : Option (Bool) :=
  if ((p0.length : Int) != (p1.length : Int)) = true then (some false) else after (loopM (fun s => M55_L0 fuel p0 p1 s) fuel 0) fun r50 => some true
set_option maxRecDepth 100000 in
/-- cellarer/cellarerkeep.Chunks -/
theorem W55 {fuel : Nat} {p0 : List TChunk} {p1 : List TChunk} {o : Bool} (h : Heap) (hm : M55 fuel p0 p1 = some o) :
    ACalls Try.prog 55 [.sl none 35 (List.map c_Chunk p0), .sl none 35 (List.map c_Chunk p1)] h (fun r h' => r = .sc (.bool o) ∧ h' = h) := by
  refine ACalls_hp 27 [.tmp 4] Try.func55 rfl rfl rfl rfl ?_
  unfold M55 at hm
  refine AW_k fun K1 H1 => ?_
  refine AW_reg ?_
  refine s_v (o_as (.sc (.bool _)) rfl) ?_
  refine s_nil ?_
  refine H1 _ _ ?_
  clear H1 K1
  refine AW_k fun K2 H2 => ?_
  refine AW_k fun K3 H3 => ?_
  refine AW_reg ?_
  refine s_v (o_mv (.sl _ _ _) rfl) ?_
  refine s_v (o_lenm ln23 rfl) ?_
  refine s_v (o_mv (.sl _ _ _) rfl) ?_
  refine s_v (o_lenm ln23 rfl) ?_
  refine s_v (o_bi rfl rfl rfl trivial) ?_
  refine s_nil ?_
  refine H3 _ _ ?_
  clear H3 K3
  refine AW_if' rfl (fun hc4 => ?_) (fun hc4 => ?_)
  · replace hm := ite_t hm hc4
    refine AW_k fun K5 H5 => ?_
    refine AW_reg ?_
    refine s_v (o_as (.sc (.bool _)) rfl) ?_
    refine s_nil ?_
    refine H5 _ _ ?_
    clear H5 K5
    refine AW_ret ?_
    cases hm
    exact Ret.of1 (.inl rfl) (rsT _ _ (.sc (.bool _)) rfl) (Sub.refl _) (ALe.refl _ _) ⟨rfl, rfl⟩
  · replace hm := ite_f hm hc4
    refine AW_skip ?_
    refine H2 _ _ ?_
    clear H2 K2
    refine AW_k fun K6 H6 => ?_
    refine AW_k fun K7 H7 => ?_
    refine AW_reg ?_
    refine s_v (o_as (.sc (.int _ _)) rfl) ?_
    refine s_nil ?_
    refine H7 _ _ ?_
    clear H7 K7
    refine AW_loopG (n := 27) hm (σ := Int) (τ := Unit) (fun g s => HOk h []) (fun g s => kp (kp (kp (k0) 5 (.sc (.int .i64 s))) 1 (.sl none 35 (List.map c_Chunk p1))) 0 (.sl none 35 (List.map c_Chunk p0))) (fun g s => hp h []) () (HOk.nil _) (LeF.fm (Sub.refl _) (.cons (ALe.refl _ _) (.cons (ALe.refl _ _) (.cons (ALe.refl _ _) (.nil))))) ?_ ?_
    · rintro _ q35 x hk36 hm
      replace hm : M55_L0 fuel p0 p1 q35 = some x := hm
      unfold M55_L0 at hm
      refine AW_k fun K37 H37 => ?_
      refine AW_k fun K38 H38 => ?_
      refine AW_reg ?_
      refine s_v (o_mv (.sc (.int _ _)) rfl) ?_
      refine s_v (o_mv (.sl _ _ _) rfl) ?_
      refine s_v (o_lenm ln23 rfl) ?_
      refine s_v (o_bi rfl rfl rfl trivial) ?_
      refine s_nil ?_
      refine H38 _ _ ?_
      clear H38 K38
      refine AW_if' rfl (fun hc39 => ?_) (fun hc39 => ?_)
      · replace hm := ite_t hm hc39
        refine AW_skip ?_
        refine H37 _ _ ?_
        clear H37 K37
        refine AW_k fun K40 H40 => ?_
        refine AW_block ?_
        refine AW_k fun K41 H41 => ?_
        refine AW_region_q [(some 17, [0], []), (some 18, [5], []), (some 19, [17, 18], [0, 1]), (some 20, [19], [2]), (some 21, [1], []), (some 22, [5], []), (some 23, [21, 22], [4, 5]), (some 24, [23], [6]), (some 25, [20, 24], [3, 7]), (some 26, [25], [8])] mixed (by kernel_rfl) (by kernel_rfl) ?_
        refine q_v (o_mv (.sl _ _ _) rfl) ?_
        refine q_v (o_mv (.sc (.int _ _)) rfl) ?_
        obtain ⟨x42, hx43, hm⟩ := bind_of hm
        refine q_v (o_ix hx43 el23 rfl rfl) ?_
        refine q_v (o_ld (.agg (c_Chunk x42)) ld63 rfl rfl) ?_
        refine q_v (o_mv (.sl _ _ _) rfl) ?_
        refine q_v (o_mv (.sc (.int _ _)) rfl) ?_
        obtain ⟨x44, hx45, hm⟩ := bind_of hm
        refine q_v (o_ix hx45 el23 rfl rfl) ?_
        refine q_v (o_ld (.agg (c_Chunk x44)) ld63 rfl rfl) ?_
        obtain ⟨y46, hy47, hm⟩ := bind_of hm
        refine q_v (o_call (W101 _ hy47) rfl bd101 rfl) ?_
        refine q_v (o_not rfl) ?_
        refine q_nil ?_
        refine H41 _ _ ?_
        clear H41 K41
        refine AW_if' rfl (fun hc48 => ?_) (fun hc48 => ?_)
        · replace hm := ite_t hm hc48
          refine AW_k fun K49 H49 => ?_
          refine AW_reg ?_
          refine s_v (o_as (.sc (.bool _)) rfl) ?_
          refine s_nil ?_
          refine H49 _ _ ?_
          clear H49 K49
          refine AW_ret ?_
          cases hm
          refine ⟨⟨nofun, nofun⟩, fun he => ?_⟩
          subst he
          exact Ret.of1 (.inl rfl) (rsT _ _ (.sc (.bool _)) rfl) (Sub.refl _) (ALe.refl _ _) ⟨rfl, rfl⟩
        · replace hm := ite_f hm hc48
          refine AW_skip ?_
          refine H40 _ _ ?_
          clear H40 K40
          refine AW_reg ?_
          refine s_v (o_mv (.sc (.int _ _)) rfl) ?_
          refine s_v (o_bi rfl rfl rfl trivial) ?_
          refine s_v (o_as (.sc (.int _ _)) rfl) ?_
          refine s_nil ?_
          cases hm
          exact ⟨rfl, (), hk36, LeF.fm (Sub.refl _) (.cons (ALe.refl _ _) (.cons (ALe.refl _ _) (.cons (ALe.refl _ _) (.nil))))⟩
      · replace hm := ite_f hm hc39
        refine AW_exit ?_
        refine Seq_exit ?_
        cases hm
        exact ⟨rfl, (), hk36, LeF.fm (Sub.refl _) (.cons (ALe.refl _ _) (.cons (ALe.refl _ _) (.cons (ALe.refl _ _) (.nil))))⟩
    · rintro _ r50 fr' h' hk51 hm le
      refine H6 _ _ (le.aw ?_)
      clear le H6 K6
      refine AW_k fun K52 H52 => ?_
      refine AW_reg ?_
      refine s_v (o_as (.sc (.bool _)) rfl) ?_
      refine s_nil ?_
      refine H52 _ _ ?_
      clear H52 K52
      refine AW_ret ?_
      cases hm
      exact Ret.of1 (.inl rfl) (rsT _ _ (.sc (.bool _)) rfl) (Sub.refl _) (ALe.refl _ _) ⟨rfl, rfl⟩
theorem bd55 : bodied Try.prog 55 = true := by kernel_rfl
def M56_L0 (fuel : Nat) (p0 : List TVol) (p1 : List TVol) (q143 : Int) : Option (Lp (Int) (Bool)) :=
  if (decide (q143 < (p0.length : Int))) = true then ((ix p0 q143).bind fun x170 => (ix p1 q143).bind fun x172 => after (if (x170.Pool != x172.Pool) = true then (some (.brk true)) else if (x170.Epoch != x172.Epoch) = true then (some (.brk true)) else if (x170.State != x172.State) = true then (some (.brk true)) else some (.brk (x170.Files != x172.Files)) : Option (Lp (Bool) (Lp (Int) (Bool)))) fun j186 => if j186 = true then (some (.ret false)) else some (.go (IntKind.wrap .i64 (q143 + 1)))) else some (.brk q143)
def M56 (fuel : Nat) (p0 : List TVol) (p1 : List TVol) : Option (Bool) :=
  if ((p0.length : Int) != (p1.length : Int)) = true then (some false) else after (loopM (fun s => M56_L0 fuel p0 p1 s) fuel 0) fun r212 => some true
set_option maxRecDepth 100000 in
/-- cellarer/cellarerkeep.Vols -/
theorem W56 {fuel : Nat} {p0 : List TVol} {p1 : List TVol} {o : Bool} (h : Heap) (hm : M56 fuel p0 p1 = some o) :
    ACalls Try.prog 56 [.sl none 4 (List.map c_Vol p0), .sl none 4 (List.map c_Vol p1)] h (fun r h' => r = .sc (.bool o) ∧ h' = h) := by
  refine ACalls_hp 53 [.tmp 4] Try.func56 rfl rfl rfl rfl ?_
  unfold M56 at hm
  refine AW_k fun K1 H1 => ?_
  refine AW_reg ?_
  refine s_v (o_as (.sc (.bool _)) rfl) ?_
  refine s_nil ?_
  refine H1 _ _ ?_
  clear H1 K1
  refine AW_k fun K2 H2 => ?_
  refine AW_k fun K3 H3 => ?_
  refine AW_reg ?_
  refine s_v (o_mv (.sl _ _ _) rfl) ?_
  refine s_v (o_lenm ln25 rfl) ?_
  refine s_v (o_mv (.sl _ _ _) rfl) ?_
  refine s_v (o_lenm ln25 rfl) ?_
  refine s_v (o_bi rfl rfl rfl trivial) ?_
  refine s_nil ?_
  refine H3 _ _ ?_
  clear H3 K3
  refine AW_if' rfl (fun hc4 => ?_) (fun hc4 => ?_)
  · replace hm := ite_t hm hc4
    refine AW_k fun K5 H5 => ?_
    refine AW_reg ?_
    refine s_v (o_as (.sc (.bool _)) rfl) ?_
    refine s_nil ?_
    refine H5 _ _ ?_
    clear H5 K5
    refine AW_ret ?_
    cases hm
    exact Ret.of1 (.inl rfl) (rsT _ _ (.sc (.bool _)) rfl) (Sub.refl _) (ALe.refl _ _) ⟨rfl, rfl⟩
  · replace hm := ite_f hm hc4
    refine AW_skip ?_
    refine H2 _ _ ?_
    clear H2 K2
    refine AW_k fun K6 H6 => ?_
    refine AW_k fun K7 H7 => ?_
    refine AW_reg ?_
    refine s_v (o_as (.sc (.int _ _)) rfl) ?_
    refine s_nil ?_
    refine H7 _ _ ?_
    clear H7 K7
    refine AW_loopG (n := 53) hm (σ := Int) (τ := Unit) (fun g s => HOk h []) (fun g s => kp (kp (kp (k0) 5 (.sc (.int .i64 s))) 1 (.sl none 4 (List.map c_Vol p1))) 0 (.sl none 4 (List.map c_Vol p0))) (fun g s => hp h []) () (HOk.nil _) (LeF.fm (Sub.refl _) (.cons (ALe.refl _ _) (.cons (ALe.refl _ _) (.cons (ALe.refl _ _) (.nil))))) ?_ ?_
    · rintro _ q143 x hk144 hm
      replace hm : M56_L0 fuel p0 p1 q143 = some x := hm
      unfold M56_L0 at hm
      refine AW_k fun K145 H145 => ?_
      refine AW_k fun K146 H146 => ?_
      refine AW_reg ?_
      refine s_v (o_mv (.sc (.int _ _)) rfl) ?_
      refine s_v (o_mv (.sl _ _ _) rfl) ?_
      refine s_v (o_lenm ln25 rfl) ?_
      refine s_v (o_bi rfl rfl rfl trivial) ?_
      refine s_nil ?_
      refine H146 _ _ ?_
      clear H146 K146
      refine AW_if' rfl (fun hc147 => ?_) (fun hc147 => ?_)
      · replace hm := ite_t hm hc147
        refine AW_skip ?_
        refine H145 _ _ ?_
        clear H145 K145
        refine AW_k fun K148 H148 => ?_
        refine AW_block ?_
        refine AW_k fun K149 H149 => ?_
        refine AW_zreg [] mixed trivial ?_
        refine z_v 0 rfl (by kernel_rfl) rfl (fun S' h' hi hB => o_mv (.sl _ _ _) rfl) ?_
        refine z_v 1 rfl (by kernel_rfl) rfl (fun S' h' hi hB => o_mv (.sc (.int _ _)) rfl) ?_
        obtain ⟨x170, hx171, hm⟩ := bind_of hm
        refine z_v 2 rfl (by kernel_rfl) rfl (fun S' h' hi hB => o_ix hx171 el25 rfl rfl) ?_
        refine z_v 3 rfl (by kernel_rfl) rfl (fun S' h' hi hB => o_ld (.agg (c_Vol x170)) ld40 rfl rfl) ?_
        refine z_v 4 rfl (by kernel_rfl) rfl (fun S' h' hi hB => o_mv (.sl _ _ _) rfl) ?_
        refine z_v 5 rfl (by kernel_rfl) rfl (fun S' h' hi hB => o_mv (.sc (.int _ _)) rfl) ?_
        obtain ⟨x172, hx173, hm⟩ := bind_of hm
        refine z_v 6 rfl (by kernel_rfl) rfl (fun S' h' hi hB => o_ix hx173 el25 rfl rfl) ?_
        refine z_v 7 rfl (by kernel_rfl) rfl (fun S' h' hi hB => o_ld (.agg (c_Vol x172)) ld40 rfl rfl) ?_
        refine z_e2 8 9 rfl rfl (by kernel_rfl) ?_ ?_
        · refine (a_alloc ([.sc (.int .i64 0), .sc (.int .i64 0), .sc (.int .i64 0), .sc (.int .i64 0)]) hk144 zr40 rfl rfl fun k174 hk175 => ⟨trivial, ?_⟩)
          refine z_e 9 rfl (by kernel_rfl) (a_alloc ([.sc (.int .i64 0), .sc (.int .i64 0), .sc (.int .i64 0), .sc (.int .i64 0)]) hk175 zr40 rfl rfl fun k177 hk178 => ⟨trivial, ?_⟩)
          refine z_e 10 rfl (by kernel_rfl) (a_store 1 (c_Vol x170) hk178 rfl rfl rfl rfl sz40 rfl rfl fun hk180 => ⟨trivial, ?_⟩)
          refine z_e 11 rfl (by kernel_rfl) (a_store 0 (c_Vol x172) hk180 rfl rfl rfl rfl sz40 rfl rfl fun hk181 => ⟨trivial, ?_⟩)
          refine z_nil (by kernel_rfl) ?_
          refine H149 _ _ ?_
          clear H149 K149
          refine AW_k fun K182 H182 => ?_
          refine AW_joinG (n := 53) hm (σ := Bool) (τ := Unit) (fun g s => HOk h [(some k177, .obj 40 (c_Vol x172)), (some k174, .obj 40 (c_Vol x170))]) (fun g s => kp (kp (kp (kp (k0) 52 (.sc (.bool s))) 5 (.sc (.int .i64 q143))) 1 (.sl none 4 (List.map c_Vol p1))) 0 (.sl none 4 (List.map c_Vol p0))) (fun g s => hp h [(some k177, .obj 40 (c_Vol x172)), (some k174, .obj 40 (c_Vol x170))]) (fun x hm => ?_) ?_
          · refine AW_reg ?_
            refine s_v (o_flp fd40_0 rfl rfl) ?_
            refine s_v (o_ldp (.sc (.int .i64 x170.Pool)) ld3 rfl (hp_get 1 hk181 rfl) rfl) ?_
            refine s_v (o_flp fd40_0 rfl rfl) ?_
            refine s_v (o_ldp (.sc (.int .i64 x172.Pool)) ld3 rfl (hp_get 0 hk181 rfl) rfl) ?_
            refine s_v (o_bi rfl rfl rfl trivial) ?_
            refine s_v (o_mv (.sc (.bool _)) rfl) ?_
            rcases Bool.eq_false_or_eq_true (x170.Pool != x172.Pool) with hb187 | hb187
            · replace hm := ite_t hm hb187
              refine sg_n rfl rfl hb187 ?_
              refine sg_n rfl rfl hb187 ?_
              refine sg_n rfl rfl hb187 ?_
              refine sg_n rfl rfl hb187 ?_
              refine sg_n rfl rfl hb187 ?_
              refine s_v (o_pkt (.sc (.bool _)) rfl hb187 rfl) ?_
              refine s_v (o_mv (.sc (.bool _)) rfl) ?_
              refine sg_n rfl rfl rfl ?_
              refine sg_n rfl rfl rfl ?_
              refine sg_n rfl rfl rfl ?_
              refine sg_n rfl rfl rfl ?_
              refine sg_n rfl rfl rfl ?_
              refine s_v (o_pkt (.sc (.bool _)) rfl rfl rfl) ?_
              refine s_v (o_mv (.sc (.bool _)) rfl) ?_
              refine sg_n rfl rfl rfl ?_
              refine sg_n rfl rfl rfl ?_
              refine sg_n rfl rfl rfl ?_
              refine sg_n rfl rfl rfl ?_
              refine sg_n rfl rfl rfl ?_
              refine s_v (o_pkt (.sc (.bool _)) rfl rfl rfl) ?_
              refine s_nil ?_
              cases hm
              exact ⟨rfl, (), hk181, LeF.fm (Sub.refl _) (.cons (ALe.refl _ _) (.cons (ALe.refl _ _) (.cons (ALe.refl _ _) (.cons (ALe.refl _ _) (.nil)))))⟩
            · replace hm := ite_f hm hb187
              refine sg_y rfl rfl hb187 ?_
              refine s_v (o_flp fd40_1 rfl rfl) ?_
              refine sg_y rfl rfl hb187 ?_
              refine s_v (o_ldp (.sc (.int .i64 x170.Epoch)) ld3 rfl (hp_get 1 hk181 rfl) rfl) ?_
              refine sg_y rfl rfl hb187 ?_
              refine s_v (o_flp fd40_1 rfl rfl) ?_
              refine sg_y rfl rfl hb187 ?_
              refine s_v (o_ldp (.sc (.int .i64 x172.Epoch)) ld3 rfl (hp_get 0 hk181 rfl) rfl) ?_
              refine sg_y rfl rfl hb187 ?_
              refine s_v (o_bi rfl rfl rfl trivial) ?_
              refine s_v (o_pkf (.sc (.bool _)) rfl hb187 rfl) ?_
              refine s_v (o_mv (.sc (.bool _)) rfl) ?_
              rcases Bool.eq_false_or_eq_true (x170.Epoch != x172.Epoch) with hb188 | hb188
              · replace hm := ite_t hm hb188
                refine sg_n rfl rfl hb188 ?_
                refine sg_n rfl rfl hb188 ?_
                refine sg_n rfl rfl hb188 ?_
                refine sg_n rfl rfl hb188 ?_
                refine sg_n rfl rfl hb188 ?_
                refine s_v (o_pkt (.sc (.bool _)) rfl hb188 rfl) ?_
                refine s_v (o_mv (.sc (.bool _)) rfl) ?_
                refine sg_n rfl rfl rfl ?_
                refine sg_n rfl rfl rfl ?_
                refine sg_n rfl rfl rfl ?_
                refine sg_n rfl rfl rfl ?_
                refine sg_n rfl rfl rfl ?_
                refine s_v (o_pkt (.sc (.bool _)) rfl rfl rfl) ?_
                refine s_nil ?_
                cases hm
                exact ⟨rfl, (), hk181, LeF.fm (Sub.refl _) (.cons (ALe.refl _ _) (.cons (ALe.refl _ _) (.cons (ALe.refl _ _) (.cons (ALe.refl _ _) (.nil)))))⟩
              · replace hm := ite_f hm hb188
                refine sg_y rfl rfl hb188 ?_
                refine s_v (o_flp fd40_2 rfl rfl) ?_
                refine sg_y rfl rfl hb188 ?_
                refine s_v (o_ldp (.sc (.int .i64 x170.State)) ld3 rfl (hp_get 1 hk181 rfl) rfl) ?_
                refine sg_y rfl rfl hb188 ?_
                refine s_v (o_flp fd40_2 rfl rfl) ?_
                refine sg_y rfl rfl hb188 ?_
                refine s_v (o_ldp (.sc (.int .i64 x172.State)) ld3 rfl (hp_get 0 hk181 rfl) rfl) ?_
                refine sg_y rfl rfl hb188 ?_
                refine s_v (o_bi rfl rfl rfl trivial) ?_
                refine s_v (o_pkf (.sc (.bool _)) rfl hb188 rfl) ?_
                refine s_v (o_mv (.sc (.bool _)) rfl) ?_
                rcases Bool.eq_false_or_eq_true (x170.State != x172.State) with hb189 | hb189
                · replace hm := ite_t hm hb189
                  refine sg_n rfl rfl hb189 ?_
                  refine sg_n rfl rfl hb189 ?_
                  refine sg_n rfl rfl hb189 ?_
                  refine sg_n rfl rfl hb189 ?_
                  refine sg_n rfl rfl hb189 ?_
                  refine s_v (o_pkt (.sc (.bool _)) rfl hb189 rfl) ?_
                  refine s_nil ?_
                  cases hm
                  exact ⟨rfl, (), hk181, LeF.fm (Sub.refl _) (.cons (ALe.refl _ _) (.cons (ALe.refl _ _) (.cons (ALe.refl _ _) (.cons (ALe.refl _ _) (.nil)))))⟩
                · replace hm := ite_f hm hb189
                  refine sg_y rfl rfl hb189 ?_
                  refine s_v (o_flp fd40_3 rfl rfl) ?_
                  refine sg_y rfl rfl hb189 ?_
                  refine s_v (o_ldp (.sc (.int .i64 x170.Files)) ld3 rfl (hp_get 1 hk181 rfl) rfl) ?_
                  refine sg_y rfl rfl hb189 ?_
                  refine s_v (o_flp fd40_3 rfl rfl) ?_
                  refine sg_y rfl rfl hb189 ?_
                  refine s_v (o_ldp (.sc (.int .i64 x172.Files)) ld3 rfl (hp_get 0 hk181 rfl) rfl) ?_
                  refine sg_y rfl rfl hb189 ?_
                  refine s_v (o_bi rfl rfl rfl trivial) ?_
                  refine s_v (o_pkf (.sc (.bool _)) rfl hb189 rfl) ?_
                  refine s_nil ?_
                  cases hm
                  exact ⟨rfl, (), hk181, LeF.fm (Sub.refl _) (.cons (ALe.refl _ _) (.cons (ALe.refl _ _) (.cons (ALe.refl _ _) (.cons (ALe.refl _ _) (.nil)))))⟩
          · rintro _ j186 fr' h' hk190 hm le
            refine H182 _ _ (le.aw ?_)
            clear le H182 K182
            refine AW_if' rfl (fun hc191 => ?_) (fun hc191 => ?_)
            · replace hm := ite_t hm hc191
              refine AW_k fun K192 H192 => ?_
              refine AW_reg ?_
              refine s_v (o_as (.sc (.bool _)) rfl) ?_
              refine s_nil ?_
              refine H192 _ _ ?_
              clear H192 K192
              refine AW_ret ?_
              cases hm
              refine ⟨⟨nofun, nofun⟩, fun he => ?_⟩
              subst he
              exact Ret.of1 (.inl rfl) (rsT _ _ (.sc (.bool _)) rfl) (hp_sub (List.nil_sublist _) hk190).1 (ALe.refl _ _) ⟨rfl, rfl⟩
            · replace hm := ite_f hm hc191
              refine AW_skip ?_
              refine H148 _ _ ?_
              clear H148 K148
              refine AW_reg ?_
              refine s_v (o_mv (.sc (.int _ _)) rfl) ?_
              refine s_v (o_bi rfl rfl rfl trivial) ?_
              refine s_v (o_as (.sc (.int _ _)) rfl) ?_
              refine s_nil ?_
              cases hm
              exact ⟨rfl, (), (hp_sub (.cons _ (.cons _ (.refl _))) hk190).2, LeF.fm ((hp_sub (.cons _ (.cons _ (.refl _))) hk190).1) (.cons (ALe.refl _ _) (.cons (ALe.refl _ _) (.cons (ALe.refl _ _) (.nil))))⟩
        · refine (a_alloc ([.sc (.int .i64 0), .sc (.int .i64 0), .sc (.int .i64 0), .sc (.int .i64 0)]) hk144 zr40 rfl rfl fun k193 hk194 => ⟨trivial, ?_⟩)
          refine z_e 8 rfl (by kernel_rfl) (a_alloc ([.sc (.int .i64 0), .sc (.int .i64 0), .sc (.int .i64 0), .sc (.int .i64 0)]) hk194 zr40 rfl rfl fun k196 hk197 => ⟨trivial, ?_⟩)
          refine z_e 10 rfl (by kernel_rfl) (a_store 0 (c_Vol x170) hk197 rfl rfl rfl rfl sz40 rfl rfl fun hk199 => ⟨trivial, ?_⟩)
          refine z_e 11 rfl (by kernel_rfl) (a_store 1 (c_Vol x172) hk199 rfl rfl rfl rfl sz40 rfl rfl fun hk200 => ⟨trivial, ?_⟩)
          refine z_nil (by kernel_rfl) ?_
          refine H149 _ _ ?_
          clear H149 K149
          refine AW_k fun K201 H201 => ?_
          refine AW_joinG (n := 53) hm (σ := Bool) (τ := Unit) (fun g s => HOk h [(some k196, .obj 40 (c_Vol x170)), (some k193, .obj 40 (c_Vol x172))]) (fun g s => kp (kp (kp (kp (k0) 52 (.sc (.bool s))) 5 (.sc (.int .i64 q143))) 1 (.sl none 4 (List.map c_Vol p1))) 0 (.sl none 4 (List.map c_Vol p0))) (fun g s => hp h [(some k196, .obj 40 (c_Vol x170)), (some k193, .obj 40 (c_Vol x172))]) (fun x hm => ?_) ?_
          · refine AW_reg ?_
            refine s_v (o_flp fd40_0 rfl rfl) ?_
            refine s_v (o_ldp (.sc (.int .i64 x170.Pool)) ld3 rfl (hp_get 0 hk200 rfl) rfl) ?_
            refine s_v (o_flp fd40_0 rfl rfl) ?_
            refine s_v (o_ldp (.sc (.int .i64 x172.Pool)) ld3 rfl (hp_get 1 hk200 rfl) rfl) ?_
            refine s_v (o_bi rfl rfl rfl trivial) ?_
            refine s_v (o_mv (.sc (.bool _)) rfl) ?_
            rcases Bool.eq_false_or_eq_true (x170.Pool != x172.Pool) with hb206 | hb206
            · replace hm := ite_t hm hb206
              refine sg_n rfl rfl hb206 ?_
              refine sg_n rfl rfl hb206 ?_
              refine sg_n rfl rfl hb206 ?_
              refine sg_n rfl rfl hb206 ?_
              refine sg_n rfl rfl hb206 ?_
              refine s_v (o_pkt (.sc (.bool _)) rfl hb206 rfl) ?_
              refine s_v (o_mv (.sc (.bool _)) rfl) ?_
              refine sg_n rfl rfl rfl ?_
              refine sg_n rfl rfl rfl ?_
              refine sg_n rfl rfl rfl ?_
              refine sg_n rfl rfl rfl ?_
              refine sg_n rfl rfl rfl ?_
              refine s_v (o_pkt (.sc (.bool _)) rfl rfl rfl) ?_
              refine s_v (o_mv (.sc (.bool _)) rfl) ?_
              refine sg_n rfl rfl rfl ?_
              refine sg_n rfl rfl rfl ?_
              refine sg_n rfl rfl rfl ?_
              refine sg_n rfl rfl rfl ?_
              refine sg_n rfl rfl rfl ?_
              refine s_v (o_pkt (.sc (.bool _)) rfl rfl rfl) ?_
              refine s_nil ?_
              cases hm
              exact ⟨rfl, (), hk200, LeF.fm (Sub.refl _) (.cons (ALe.refl _ _) (.cons (ALe.refl _ _) (.cons (ALe.refl _ _) (.cons (ALe.refl _ _) (.nil)))))⟩
            · replace hm := ite_f hm hb206
              refine sg_y rfl rfl hb206 ?_
              refine s_v (o_flp fd40_1 rfl rfl) ?_
              refine sg_y rfl rfl hb206 ?_
              refine s_v (o_ldp (.sc (.int .i64 x170.Epoch)) ld3 rfl (hp_get 0 hk200 rfl) rfl) ?_
              refine sg_y rfl rfl hb206 ?_
              refine s_v (o_flp fd40_1 rfl rfl) ?_
              refine sg_y rfl rfl hb206 ?_
              refine s_v (o_ldp (.sc (.int .i64 x172.Epoch)) ld3 rfl (hp_get 1 hk200 rfl) rfl) ?_
              refine sg_y rfl rfl hb206 ?_
              refine s_v (o_bi rfl rfl rfl trivial) ?_
              refine s_v (o_pkf (.sc (.bool _)) rfl hb206 rfl) ?_
              refine s_v (o_mv (.sc (.bool _)) rfl) ?_
              rcases Bool.eq_false_or_eq_true (x170.Epoch != x172.Epoch) with hb207 | hb207
              · replace hm := ite_t hm hb207
                refine sg_n rfl rfl hb207 ?_
                refine sg_n rfl rfl hb207 ?_
                refine sg_n rfl rfl hb207 ?_
                refine sg_n rfl rfl hb207 ?_
                refine sg_n rfl rfl hb207 ?_
                refine s_v (o_pkt (.sc (.bool _)) rfl hb207 rfl) ?_
                refine s_v (o_mv (.sc (.bool _)) rfl) ?_
                refine sg_n rfl rfl rfl ?_
                refine sg_n rfl rfl rfl ?_
                refine sg_n rfl rfl rfl ?_
                refine sg_n rfl rfl rfl ?_
                refine sg_n rfl rfl rfl ?_
                refine s_v (o_pkt (.sc (.bool _)) rfl rfl rfl) ?_
                refine s_nil ?_
                cases hm
                exact ⟨rfl, (), hk200, LeF.fm (Sub.refl _) (.cons (ALe.refl _ _) (.cons (ALe.refl _ _) (.cons (ALe.refl _ _) (.cons (ALe.refl _ _) (.nil)))))⟩
              · replace hm := ite_f hm hb207
                refine sg_y rfl rfl hb207 ?_
                refine s_v (o_flp fd40_2 rfl rfl) ?_
                refine sg_y rfl rfl hb207 ?_
                refine s_v (o_ldp (.sc (.int .i64 x170.State)) ld3 rfl (hp_get 0 hk200 rfl) rfl) ?_
                refine sg_y rfl rfl hb207 ?_
                refine s_v (o_flp fd40_2 rfl rfl) ?_
                refine sg_y rfl rfl hb207 ?_
                refine s_v (o_ldp (.sc (.int .i64 x172.State)) ld3 rfl (hp_get 1 hk200 rfl) rfl) ?_
                refine sg_y rfl rfl hb207 ?_
                refine s_v (o_bi rfl rfl rfl trivial) ?_
                refine s_v (o_pkf (.sc (.bool _)) rfl hb207 rfl) ?_
                refine s_v (o_mv (.sc (.bool _)) rfl) ?_
                rcases Bool.eq_false_or_eq_true (x170.State != x172.State) with hb208 | hb208
                · replace hm := ite_t hm hb208
                  refine sg_n rfl rfl hb208 ?_
                  refine sg_n rfl rfl hb208 ?_
                  refine sg_n rfl rfl hb208 ?_
                  refine sg_n rfl rfl hb208 ?_
                  refine sg_n rfl rfl hb208 ?_
                  refine s_v (o_pkt (.sc (.bool _)) rfl hb208 rfl) ?_
                  refine s_nil ?_
                  cases hm
                  exact ⟨rfl, (), hk200, LeF.fm (Sub.refl _) (.cons (ALe.refl _ _) (.cons (ALe.refl _ _) (.cons (ALe.refl _ _) (.cons (ALe.refl _ _) (.nil)))))⟩
                · replace hm := ite_f hm hb208
                  refine sg_y rfl rfl hb208 ?_
                  refine s_v (o_flp fd40_3 rfl rfl) ?_
                  refine sg_y rfl rfl hb208 ?_
                  refine s_v (o_ldp (.sc (.int .i64 x170.Files)) ld3 rfl (hp_get 0 hk200 rfl) rfl) ?_
                  refine sg_y rfl rfl hb208 ?_
                  refine s_v (o_flp fd40_3 rfl rfl) ?_
                  refine sg_y rfl rfl hb208 ?_
                  refine s_v (o_ldp (.sc (.int .i64 x172.Files)) ld3 rfl (hp_get 1 hk200 rfl) rfl) ?_
                  refine sg_y rfl rfl hb208 ?_
                  refine s_v (o_bi rfl rfl rfl trivial) ?_
                  refine s_v (o_pkf (.sc (.bool _)) rfl hb208 rfl) ?_
                  refine s_nil ?_
                  cases hm
                  exact ⟨rfl, (), hk200, LeF.fm (Sub.refl _) (.cons (ALe.refl _ _) (.cons (ALe.refl _ _) (.cons (ALe.refl _ _) (.cons (ALe.refl _ _) (.nil)))))⟩
          · rintro _ j205 fr' h' hk209 hm le
            refine H201 _ _ (le.aw ?_)
            clear le H201 K201
            refine AW_if' rfl (fun hc210 => ?_) (fun hc210 => ?_)
            · replace hm := ite_t hm hc210
              refine AW_k fun K211 H211 => ?_
              refine AW_reg ?_
              refine s_v (o_as (.sc (.bool _)) rfl) ?_
              refine s_nil ?_
              refine H211 _ _ ?_
              clear H211 K211
              refine AW_ret ?_
              cases hm
              refine ⟨⟨nofun, nofun⟩, fun he => ?_⟩
              subst he
              exact Ret.of1 (.inl rfl) (rsT _ _ (.sc (.bool _)) rfl) (hp_sub (List.nil_sublist _) hk209).1 (ALe.refl _ _) ⟨rfl, rfl⟩
            · replace hm := ite_f hm hc210
              refine AW_skip ?_
              refine H148 _ _ ?_
              clear H148 K148
              refine AW_reg ?_
              refine s_v (o_mv (.sc (.int _ _)) rfl) ?_
              refine s_v (o_bi rfl rfl rfl trivial) ?_
              refine s_v (o_as (.sc (.int _ _)) rfl) ?_
              refine s_nil ?_
              cases hm
              exact ⟨rfl, (), (hp_sub (.cons _ (.cons _ (.refl _))) hk209).2, LeF.fm ((hp_sub (.cons _ (.cons _ (.refl _))) hk209).1) (.cons (ALe.refl _ _) (.cons (ALe.refl _ _) (.cons (ALe.refl _ _) (.nil))))⟩
      · replace hm := ite_f hm hc147
        refine AW_exit ?_
        refine Seq_exit ?_
        cases hm
        exact ⟨rfl, (), hk144, LeF.fm (Sub.refl _) (.cons (ALe.refl _ _) (.cons (ALe.refl _ _) (.cons (ALe.refl _ _) (.nil))))⟩
    · rintro _ r212 fr' h' hk213 hm le
      refine H6 _ _ (le.aw ?_)
      clear le H6 K6
      refine AW_k fun K214 H214 => ?_
      refine AW_reg ?_
      refine s_v (o_as (.sc (.bool _)) rfl) ?_
      refine s_nil ?_
      refine H214 _ _ ?_
      clear H214 K214
      refine AW_ret ?_
      cases hm
      exact Ret.of1 (.inl rfl) (rsT _ _ (.sc (.bool _)) rfl) (Sub.refl _) (ALe.refl _ _) ⟨rfl, rfl⟩
theorem bd56 : bodied Try.prog 56 = true := by kernel_rfl
def M127_L0 (fuel : Nat) (p0 : List Id32) (p1 : List Id32) (q31 : Int) : Option (Lp (Int) (Bool)) :=
  if (decide (q31 < (p0.length : Int))) = true then ((ix p0 q31).bind fun x38 => (ix p1 q31).bind fun x40 => if (!decide (x38 = x40)) = true then (some (.ret false)) else some (.go (IntKind.wrap .i64 (q31 + 1)))) else some (.brk q31)
def M127 (fuel : Nat) (p0 : List Id32) (p1 : List Id32) : Option (Bool) :=
  if ((p0.length : Int) != (p1.length : Int)) = true then (some false) else after (loopM (fun s => M127_L0 fuel p0 p1 s) fuel 0) fun r44 => some true
set_option maxRecDepth 100000 in
/-- cellarer/cellarerkeep.Ids -/
theorem W127 {fuel : Nat} {p0 : List Id32} {p1 : List Id32} {o : Bool} (h : Heap) (hm : M127 fuel p0 p1 = some o) :
    ACalls Try.prog 127 [.sl none 32 (List.map c_id p0), .sl none 32 (List.map c_id p1)] h (fun r h' => r = .sc (.bool o) ∧ h' = h) := by
  refine ACalls_hp 26 [.tmp 4] Try.func127 rfl rfl rfl rfl ?_
  unfold M127 at hm
  refine AW_k fun K1 H1 => ?_
  refine AW_reg ?_
  refine s_v (o_as (.sc (.bool _)) rfl) ?_
  refine s_nil ?_
  refine H1 _ _ ?_
  clear H1 K1
  refine AW_k fun K2 H2 => ?_
  refine AW_k fun K3 H3 => ?_
  refine AW_reg ?_
  refine s_v (o_mv (.sl _ _ _) rfl) ?_
  refine s_v (o_lenm ln80 rfl) ?_
  refine s_v (o_mv (.sl _ _ _) rfl) ?_
  refine s_v (o_lenm ln80 rfl) ?_
  refine s_v (o_bi rfl rfl rfl trivial) ?_
  refine s_nil ?_
  refine H3 _ _ ?_
  clear H3 K3
  refine AW_if' rfl (fun hc4 => ?_) (fun hc4 => ?_)
  · replace hm := ite_t hm hc4
    refine AW_k fun K5 H5 => ?_
    refine AW_reg ?_
    refine s_v (o_as (.sc (.bool _)) rfl) ?_
    refine s_nil ?_
    refine H5 _ _ ?_
    clear H5 K5
    refine AW_ret ?_
    cases hm
    exact Ret.of1 (.inl rfl) (rsT _ _ (.sc (.bool _)) rfl) (Sub.refl _) (ALe.refl _ _) ⟨rfl, rfl⟩
  · replace hm := ite_f hm hc4
    refine AW_skip ?_
    refine H2 _ _ ?_
    clear H2 K2
    refine AW_k fun K6 H6 => ?_
    refine AW_k fun K7 H7 => ?_
    refine AW_reg ?_
    refine s_v (o_as (.sc (.int _ _)) rfl) ?_
    refine s_nil ?_
    refine H7 _ _ ?_
    clear H7 K7
    refine AW_loopG (n := 26) hm (σ := Int) (τ := Unit) (fun g s => HOk h []) (fun g s => kp (kp (kp (k0) 5 (.sc (.int .i64 s))) 1 (.sl none 32 (List.map c_id p1))) 0 (.sl none 32 (List.map c_id p0))) (fun g s => hp h []) () (HOk.nil _) (LeF.fm (Sub.refl _) (.cons (ALe.refl _ _) (.cons (ALe.refl _ _) (.cons (ALe.refl _ _) (.nil))))) ?_ ?_
    · rintro _ q31 x hk32 hm
      replace hm : M127_L0 fuel p0 p1 q31 = some x := hm
      unfold M127_L0 at hm
      refine AW_k fun K33 H33 => ?_
      refine AW_k fun K34 H34 => ?_
      refine AW_reg ?_
      refine s_v (o_mv (.sc (.int _ _)) rfl) ?_
      refine s_v (o_mv (.sl _ _ _) rfl) ?_
      refine s_v (o_lenm ln80 rfl) ?_
      refine s_v (o_bi rfl rfl rfl trivial) ?_
      refine s_nil ?_
      refine H34 _ _ ?_
      clear H34 K34
      refine AW_if' rfl (fun hc35 => ?_) (fun hc35 => ?_)
      · replace hm := ite_t hm hc35
        refine AW_skip ?_
        refine H33 _ _ ?_
        clear H33 K33
        refine AW_k fun K36 H36 => ?_
        refine AW_block ?_
        refine AW_k fun K37 H37 => ?_
        refine AW_region_q [(some 17, [0], []), (some 18, [5], []), (some 19, [17, 18], [0, 1]), (some 20, [19], [2]), (some 21, [1], []), (some 22, [5], []), (some 23, [21, 22], [4, 5]), (some 24, [23], [6]), (some 25, [20, 24], [3, 7])] mixed (by kernel_rfl) (by kernel_rfl) ?_
        refine q_v (o_mv (.sl _ _ _) rfl) ?_
        refine q_v (o_mv (.sc (.int _ _)) rfl) ?_
        obtain ⟨x38, hx39, hm⟩ := bind_of hm
        refine q_v (o_ix hx39 el80 rfl rfl) ?_
        refine q_v (o_ld (.agg (c_id x38)) ld61 rfl rfl) ?_
        refine q_v (o_mv (.sl _ _ _) rfl) ?_
        refine q_v (o_mv (.sc (.int _ _)) rfl) ?_
        obtain ⟨x40, hx41, hm⟩ := bind_of hm
        refine q_v (o_ix hx41 el80 rfl rfl) ?_
        refine q_v (o_ld (.agg (c_id x40)) ld61 rfl rfl) ?_
        refine q_v (o_idn eg61 u61 u5 ld5 rfl rfl) ?_
        refine q_nil ?_
        refine H37 _ _ ?_
        clear H37 K37
        refine AW_if' rfl (fun hc42 => ?_) (fun hc42 => ?_)
        · replace hm := ite_t hm hc42
          refine AW_k fun K43 H43 => ?_
          refine AW_reg ?_
          refine s_v (o_as (.sc (.bool _)) rfl) ?_
          refine s_nil ?_
          refine H43 _ _ ?_
          clear H43 K43
          refine AW_ret ?_
          cases hm
          refine ⟨⟨nofun, nofun⟩, fun he => ?_⟩
          subst he
          exact Ret.of1 (.inl rfl) (rsT _ _ (.sc (.bool _)) rfl) (Sub.refl _) (ALe.refl _ _) ⟨rfl, rfl⟩
        · replace hm := ite_f hm hc42
          refine AW_skip ?_
          refine H36 _ _ ?_
          clear H36 K36
          refine AW_reg ?_
          refine s_v (o_mv (.sc (.int _ _)) rfl) ?_
          refine s_v (o_bi rfl rfl rfl trivial) ?_
          refine s_v (o_as (.sc (.int _ _)) rfl) ?_
          refine s_nil ?_
          cases hm
          exact ⟨rfl, (), hk32, LeF.fm (Sub.refl _) (.cons (ALe.refl _ _) (.cons (ALe.refl _ _) (.cons (ALe.refl _ _) (.nil))))⟩
      · replace hm := ite_f hm hc35
        refine AW_exit ?_
        refine Seq_exit ?_
        cases hm
        exact ⟨rfl, (), hk32, LeF.fm (Sub.refl _) (.cons (ALe.refl _ _) (.cons (ALe.refl _ _) (.cons (ALe.refl _ _) (.nil))))⟩
    · rintro _ r44 fr' h' hk45 hm le
      refine H6 _ _ (le.aw ?_)
      clear le H6 K6
      refine AW_k fun K46 H46 => ?_
      refine AW_reg ?_
      refine s_v (o_as (.sc (.bool _)) rfl) ?_
      refine s_nil ?_
      refine H46 _ _ ?_
      clear H46 K46
      refine AW_ret ?_
      cases hm
      exact Ret.of1 (.inl rfl) (rsT _ _ (.sc (.bool _)) rfl) (Sub.refl _) (ALe.refl _ _) ⟨rfl, rfl⟩
theorem bd127 : bodied Try.prog 127 = true := by kernel_rfl
def M102_L0 (fuel : Nat) (p0 : TManifest) (p1 : TManifest) (q161 : Int) : Option (Lp (Int) (Bool)) :=
  if (decide (q161 < (p0.Parts.length : Int))) = true then ((ix p0.Parts q161).bind fun x188 => (ix p1.Parts q161).bind fun x190 => after (if (!(x188.Path.toList == x190.Path.toList)) = true then (some (.brk true)) else if (x188.Size != x190.Size) = true then (some (.brk true)) else (M127 fuel x188.Ids x190.Ids).bind fun y208 => some (.brk (!y208)) : Option (Lp (Bool) (Lp (Int) (Bool)))) fun j205 => if j205 = true then (some (.ret false)) else some (.go (IntKind.wrap .i64 (q161 + 1)))) else some (.brk q161)
def M102 (fuel : Nat) (p0 : TManifest) (p1 : TManifest) : Option (Bool) :=
  after (if (!(p0.Name.toList == p1.Name.toList)) = true then (some (.brk true)) else some (.brk ((p0.Parts.length : Int) != (p1.Parts.length : Int))) : Option (Lp (Bool) (Bool))) fun j11 => if j11 = true then (some false) else after (loopM (fun s => M102_L0 fuel p0 p1 s) fuel 0) fun r234 => some true
set_option maxRecDepth 100000 in
/-- cellarer/cellarerkeep.Manifest -/
theorem W102 {fuel : Nat} {p0 : TManifest} {p1 : TManifest} {o : Bool} (h : Heap) (hm : M102 fuel p0 p1 = some o) :
    ACalls Try.prog 102 [.agg (c_Manifest p0), .agg (c_Manifest p1)] h (fun r h' => r = .sc (.bool o) ∧ h' = h) := by
  refine ACalls_hp 59 [.tmp 4] Try.func102 rfl rfl rfl rfl ?_
  unfold M102 at hm
  refine AW_k fun K1 H1 => ?_
  refine AW_reg ?_
  refine s_op (a_box (HOk.nil _) rfl rfl fun k2 hk3 => ?_)
  refine s_op (a_box hk3 rfl rfl fun k5 hk6 => ?_)
  refine s_v (o_as (.sc (.bool _)) rfl) ?_
  refine s_nil ?_
  refine H1 _ _ ?_
  clear H1 K1
  refine AW_k fun K8 H8 => ?_
  refine AW_k fun K9 H9 => ?_
  refine AW_joinG (n := 59) hm (σ := Bool) (τ := Unit) (fun g s => HOk h [(some k5, .obj 57 (c_Manifest p1)), (some k2, .obj 57 (c_Manifest p0))]) (fun g s => kp (kp (kp (k0) 21 (.sc (.bool s))) 3 (.ptr k5 0)) 2 (.ptr k2 0)) (fun g s => hp h [(some k5, .obj 57 (c_Manifest p1)), (some k2, .obj 57 (c_Manifest p0))]) (fun x hm => ?_) ?_
  · refine AW_reg ?_
    refine s_v (o_flp fd57_0 rfl rfl) ?_
    refine s_v (o_ldp (.sc (.string p0.Name)) ld9 rfl (hp_get 1 hk6 rfl) rfl) ?_
    refine s_v (o_flp fd57_0 rfl rfl) ?_
    refine s_v (o_ldp (.sc (.string p1.Name)) ld9 rfl (hp_get 0 hk6 rfl) rfl) ?_
    refine s_v (o_bs rfl rfl rfl trivial) ?_
    refine s_v (o_mv (.sc (.bool _)) rfl) ?_
    rcases Bool.eq_false_or_eq_true (!(p0.Name.toList == p1.Name.toList)) with hb12 | hb12
    · replace hm := ite_t hm hb12
      refine sg_n rfl rfl hb12 ?_
      refine sg_n rfl rfl hb12 ?_
      refine sg_n rfl rfl hb12 ?_
      refine sg_n rfl rfl hb12 ?_
      refine sg_n rfl rfl hb12 ?_
      refine sg_n rfl rfl hb12 ?_
      refine sg_n rfl rfl hb12 ?_
      refine s_v (o_pkt (.sc (.bool _)) rfl hb12 rfl) ?_
      refine s_nil ?_
      cases hm
      exact ⟨rfl, (), hk6, LeF.fm (Sub.refl _) (.cons (ALe.refl _ _) (.cons (ALe.refl _ _) (.cons (ALe.refl _ _) (.nil))))⟩
    · replace hm := ite_f hm hb12
      refine sg_y rfl rfl hb12 ?_
      refine s_v (o_flp fd57_1 rfl rfl) ?_
      refine sg_y rfl rfl hb12 ?_
      refine s_v (o_ldp (.sl none 3 (List.map c_Part p0.Parts)) ld55 rfl (hp_get 1 hk6 rfl) rfl) ?_
      refine sg_y rfl rfl hb12 ?_
      refine s_v (o_lenm ln55 rfl) ?_
      refine sg_y rfl rfl hb12 ?_
      refine s_v (o_flp fd57_1 rfl rfl) ?_
      refine sg_y rfl rfl hb12 ?_
      refine s_v (o_ldp (.sl none 3 (List.map c_Part p1.Parts)) ld55 rfl (hp_get 0 hk6 rfl) rfl) ?_
      refine sg_y rfl rfl hb12 ?_
      refine s_v (o_lenm ln55 rfl) ?_
      refine sg_y rfl rfl hb12 ?_
      refine s_v (o_bi rfl rfl rfl trivial) ?_
      refine s_v (o_pkf (.sc (.bool _)) rfl hb12 rfl) ?_
      refine s_nil ?_
      cases hm
      exact ⟨rfl, (), hk6, LeF.fm (Sub.refl _) (.cons (ALe.refl _ _) (.cons (ALe.refl _ _) (.cons (ALe.refl _ _) (.nil))))⟩
  · rintro _ j11 fr' h' hk13 hm le
    refine H9 _ _ (le.aw ?_)
    clear le H9 K9
    refine AW_if' rfl (fun hc14 => ?_) (fun hc14 => ?_)
    · replace hm := ite_t hm hc14
      refine AW_k fun K15 H15 => ?_
      refine AW_reg ?_
      refine s_v (o_as (.sc (.bool _)) rfl) ?_
      refine s_nil ?_
      refine H15 _ _ ?_
      clear H15 K15
      refine AW_ret ?_
      cases hm
      exact Ret.of1 (.inl rfl) (rsT _ _ (.sc (.bool _)) rfl) (hp_sub (List.nil_sublist _) hk13).1 (ALe.refl _ _) ⟨rfl, rfl⟩
    · replace hm := ite_f hm hc14
      refine AW_skip ?_
      refine H8 _ _ ?_
      clear H8 K8
      refine AW_k fun K16 H16 => ?_
      refine AW_k fun K17 H17 => ?_
      refine AW_reg ?_
      refine s_v (o_as (.sc (.int _ _)) rfl) ?_
      refine s_nil ?_
      refine H17 _ _ ?_
      clear H17 K17
      refine AW_loopG (n := 59) hm (σ := Int) (τ := Unit) (fun g s => HOk h [(some k5, .obj 57 (c_Manifest p1)), (some k2, .obj 57 (c_Manifest p0))]) (fun g s => kp (kp (kp (k0) 5 (.sc (.int .i64 s))) 3 (.ptr k5 0)) 2 (.ptr k2 0)) (fun g s => hp h [(some k5, .obj 57 (c_Manifest p1)), (some k2, .obj 57 (c_Manifest p0))]) () hk13 (LeF.fm (Sub.refl _) (.cons (ALe.refl _ _) (.cons (ALe.refl _ _) (.cons (ALe.refl _ _) (.nil))))) ?_ ?_
      · rintro _ q161 x hk162 hm
        replace hm : M102_L0 fuel p0 p1 q161 = some x := hm
        unfold M102_L0 at hm
        refine AW_k fun K163 H163 => ?_
        refine AW_k fun K164 H164 => ?_
        refine AW_reg ?_
        refine s_v (o_mv (.sc (.int _ _)) rfl) ?_
        refine s_v (o_flp fd57_1 rfl rfl) ?_
        refine s_v (o_ldp (.sl none 3 (List.map c_Part p0.Parts)) ld55 rfl (hp_get 1 hk162 rfl) rfl) ?_
        refine s_v (o_lenm ln55 rfl) ?_
        refine s_v (o_bi rfl rfl rfl trivial) ?_
        refine s_nil ?_
        refine H164 _ _ ?_
        clear H164 K164
        refine AW_if' rfl (fun hc165 => ?_) (fun hc165 => ?_)
        · replace hm := ite_t hm hc165
          refine AW_skip ?_
          refine H163 _ _ ?_
          clear H163 K163
          refine AW_k fun K166 H166 => ?_
          refine AW_block ?_
          refine AW_k fun K167 H167 => ?_
          refine AW_zreg [(1000000, k2, .obj 57 (c_Manifest p0)), (1000000, k5, .obj 57 (c_Manifest p1))] mixed (⟨fun _ => hp_get 1 hk162 rfl, fun _ => hp_get 0 hk162 rfl, trivial⟩) ?_
          refine z_v 0 rfl (by kernel_rfl) rfl (fun S' h' hi hB => o_flp fd57_1 rfl rfl) ?_
          refine z_v 1 rfl (by kernel_rfl) rfl (fun S' h' hi hB => o_ldp (.sl none 3 (List.map c_Part p0.Parts)) ld55 rfl (InvL.get 0 hi rfl (hB 1000000 (by kernel_rfl))) rfl) ?_
          refine z_v 2 rfl (by kernel_rfl) rfl (fun S' h' hi hB => o_mv (.sc (.int _ _)) rfl) ?_
          obtain ⟨x188, hx189, hm⟩ := bind_of hm
          refine z_v 3 rfl (by kernel_rfl) rfl (fun S' h' hi hB => o_ix hx189 el55 rfl rfl) ?_
          refine z_v 4 rfl (by kernel_rfl) rfl (fun S' h' hi hB => o_ld (.agg (c_Part x188)) ld82 rfl rfl) ?_
          refine z_v 5 rfl (by kernel_rfl) rfl (fun S' h' hi hB => o_flp fd57_1 rfl rfl) ?_
          refine z_v 6 rfl (by kernel_rfl) rfl (fun S' h' hi hB => o_ldp (.sl none 3 (List.map c_Part p1.Parts)) ld55 rfl (InvL.get 1 hi rfl (hB 1000000 (by kernel_rfl))) rfl) ?_
          refine z_v 7 rfl (by kernel_rfl) rfl (fun S' h' hi hB => o_mv (.sc (.int _ _)) rfl) ?_
          obtain ⟨x190, hx191, hm⟩ := bind_of hm
          refine z_v 8 rfl (by kernel_rfl) rfl (fun S' h' hi hB => o_ix hx191 el55 rfl rfl) ?_
          refine z_v 9 rfl (by kernel_rfl) rfl (fun S' h' hi hB => o_ld (.agg (c_Part x190)) ld82 rfl rfl) ?_
          refine z_e2 10 11 rfl rfl (by kernel_rfl) ?_ ?_
          · refine (a_alloc ([.sc (.string ByteArray.empty), .sc (.int .i64 0), .sc (.slice none 0 0)]) hk162 zr82 rfl rfl fun k192 hk193 => ⟨⟨fun _ => hp_get 2 hk193 rfl, fun _ => hp_get 1 hk193 rfl, trivial⟩, ?_⟩)
            refine z_e 11 rfl (by kernel_rfl) (a_alloc ([.sc (.string ByteArray.empty), .sc (.int .i64 0), .sc (.slice none 0 0)]) hk193 zr82 rfl rfl fun k195 hk196 => ⟨⟨fun _ => hp_get 3 hk196 rfl, fun _ => hp_get 2 hk196 rfl, trivial⟩, ?_⟩)
            refine z_e 12 rfl (by kernel_rfl) (a_store 1 (c_Part x188) hk196 rfl rfl rfl rfl sz82 rfl rfl fun hk198 => ⟨⟨fun _ => hp_get 3 hk198 rfl, fun _ => hp_get 2 hk198 rfl, trivial⟩, ?_⟩)
            refine z_e 13 rfl (by kernel_rfl) (a_store 0 (c_Part x190) hk198 rfl rfl rfl rfl sz82 rfl rfl fun hk199 => ⟨⟨fun _ => hp_get 3 hk199 rfl, fun _ => hp_get 2 hk199 rfl, trivial⟩, ?_⟩)
            refine z_nil (by kernel_rfl) ?_
            refine H167 _ _ ?_
            clear H167 K167
            refine AW_k fun K200 H200 => ?_
            refine AW_joinG (n := 59) hm (σ := Bool) (τ := Unit) (fun g s => HOk h [(some k195, .obj 82 (c_Part x190)), (some k192, .obj 82 (c_Part x188)), (some k5, .obj 57 (c_Manifest p1)), (some k2, .obj 57 (c_Manifest p0))]) (fun g s => kp (kp (kp (kp (k0) 58 (.sc (.bool s))) 5 (.sc (.int .i64 q161))) 3 (.ptr k5 0)) 2 (.ptr k2 0)) (fun g s => hp h [(some k195, .obj 82 (c_Part x190)), (some k192, .obj 82 (c_Part x188)), (some k5, .obj 57 (c_Manifest p1)), (some k2, .obj 57 (c_Manifest p0))]) (fun x hm => ?_) ?_
            · refine AW_reg ?_
              refine s_v (o_flp fd82_0 rfl rfl) ?_
              refine s_v (o_ldp (.sc (.string x188.Path)) ld9 rfl (hp_get 1 hk199 rfl) rfl) ?_
              refine s_v (o_flp fd82_0 rfl rfl) ?_
              refine s_v (o_ldp (.sc (.string x190.Path)) ld9 rfl (hp_get 0 hk199 rfl) rfl) ?_
              refine s_v (o_bs rfl rfl rfl trivial) ?_
              refine s_v (o_mv (.sc (.bool _)) rfl) ?_
              rcases Bool.eq_false_or_eq_true (!(x188.Path.toList == x190.Path.toList)) with hb206 | hb206
              · replace hm := ite_t hm hb206
                refine sg_n rfl rfl hb206 ?_
                refine sg_n rfl rfl hb206 ?_
                refine sg_n rfl rfl hb206 ?_
                refine sg_n rfl rfl hb206 ?_
                refine sg_n rfl rfl hb206 ?_
                refine s_v (o_pkt (.sc (.bool _)) rfl hb206 rfl) ?_
                refine s_v (o_mv (.sc (.bool _)) rfl) ?_
                refine sg_n rfl rfl rfl ?_
                refine sg_n rfl rfl rfl ?_
                refine sg_n rfl rfl rfl ?_
                refine sg_n rfl rfl rfl ?_
                refine sg_n rfl rfl rfl ?_
                refine sg_n rfl rfl rfl ?_
                refine s_v (o_pkt (.sc (.bool _)) rfl rfl rfl) ?_
                refine s_nil ?_
                cases hm
                exact ⟨rfl, (), hk199, LeF.fm (Sub.refl _) (.cons (ALe.refl _ _) (.cons (ALe.refl _ _) (.cons (ALe.refl _ _) (.cons (ALe.refl _ _) (.nil)))))⟩
              · replace hm := ite_f hm hb206
                refine sg_y rfl rfl hb206 ?_
                refine s_v (o_flp fd82_1 rfl rfl) ?_
                refine sg_y rfl rfl hb206 ?_
                refine s_v (o_ldp (.sc (.int .i64 x188.Size)) ld3 rfl (hp_get 1 hk199 rfl) rfl) ?_
                refine sg_y rfl rfl hb206 ?_
                refine s_v (o_flp fd82_1 rfl rfl) ?_
                refine sg_y rfl rfl hb206 ?_
                refine s_v (o_ldp (.sc (.int .i64 x190.Size)) ld3 rfl (hp_get 0 hk199 rfl) rfl) ?_
                refine sg_y rfl rfl hb206 ?_
                refine s_v (o_bi rfl rfl rfl trivial) ?_
                refine s_v (o_pkf (.sc (.bool _)) rfl hb206 rfl) ?_
                refine s_v (o_mv (.sc (.bool _)) rfl) ?_
                rcases Bool.eq_false_or_eq_true (x188.Size != x190.Size) with hb207 | hb207
                · replace hm := ite_t hm hb207
                  refine sg_n rfl rfl hb207 ?_
                  refine sg_n rfl rfl hb207 ?_
                  refine sg_n rfl rfl hb207 ?_
                  refine sg_n rfl rfl hb207 ?_
                  refine sg_n rfl rfl hb207 ?_
                  refine sg_n rfl rfl hb207 ?_
                  refine s_v (o_pkt (.sc (.bool _)) rfl hb207 rfl) ?_
                  refine s_nil ?_
                  cases hm
                  exact ⟨rfl, (), hk199, LeF.fm (Sub.refl _) (.cons (ALe.refl _ _) (.cons (ALe.refl _ _) (.cons (ALe.refl _ _) (.cons (ALe.refl _ _) (.nil)))))⟩
                · replace hm := ite_f hm hb207
                  refine sg_y rfl rfl hb207 ?_
                  refine s_v (o_flp fd82_2 rfl rfl) ?_
                  refine sg_y rfl rfl hb207 ?_
                  refine s_v (o_ldp (.sl none 32 (List.map c_id x188.Ids)) ld80 rfl (hp_get 1 hk199 rfl) rfl) ?_
                  refine sg_y rfl rfl hb207 ?_
                  refine s_v (o_flp fd82_2 rfl rfl) ?_
                  refine sg_y rfl rfl hb207 ?_
                  refine s_v (o_ldp (.sl none 32 (List.map c_id x190.Ids)) ld80 rfl (hp_get 0 hk199 rfl) rfl) ?_
                  refine sg_y rfl rfl hb207 ?_
                  obtain ⟨y208, hy209, hm⟩ := bind_of hm
                  refine s_v (o_call (W127 _ hy209) rfl bd127 rfl) ?_
                  refine sg_y rfl rfl hb207 ?_
                  refine s_v (o_not rfl) ?_
                  refine s_v (o_pkf (.sc (.bool _)) rfl hb207 rfl) ?_
                  refine s_nil ?_
                  cases hm
                  exact ⟨rfl, (), hk199, LeF.fm (Sub.refl _) (.cons (ALe.refl _ _) (.cons (ALe.refl _ _) (.cons (ALe.refl _ _) (.cons (ALe.refl _ _) (.nil)))))⟩
            · rintro _ j205 fr' h' hk210 hm le
              refine H200 _ _ (le.aw ?_)
              clear le H200 K200
              refine AW_if' rfl (fun hc211 => ?_) (fun hc211 => ?_)
              · replace hm := ite_t hm hc211
                refine AW_k fun K212 H212 => ?_
                refine AW_reg ?_
                refine s_v (o_as (.sc (.bool _)) rfl) ?_
                refine s_nil ?_
                refine H212 _ _ ?_
                clear H212 K212
                refine AW_ret ?_
                cases hm
                refine ⟨⟨nofun, nofun⟩, fun he => ?_⟩
                subst he
                exact Ret.of1 (.inl rfl) (rsT _ _ (.sc (.bool _)) rfl) (hp_sub (List.nil_sublist _) hk210).1 (ALe.refl _ _) ⟨rfl, rfl⟩
              · replace hm := ite_f hm hc211
                refine AW_skip ?_
                refine H166 _ _ ?_
                clear H166 K166
                refine AW_reg ?_
                refine s_v (o_mv (.sc (.int _ _)) rfl) ?_
                refine s_v (o_bi rfl rfl rfl trivial) ?_
                refine s_v (o_as (.sc (.int _ _)) rfl) ?_
                refine s_nil ?_
                cases hm
                exact ⟨rfl, (), (hp_sub (.cons _ (.cons _ (.refl _))) hk210).2, LeF.fm ((hp_sub (.cons _ (.cons _ (.refl _))) hk210).1) (.cons (ALe.refl _ _) (.cons (ALe.refl _ _) (.cons (ALe.refl _ _) (.nil))))⟩
          · refine (a_alloc ([.sc (.string ByteArray.empty), .sc (.int .i64 0), .sc (.slice none 0 0)]) hk162 zr82 rfl rfl fun k213 hk214 => ⟨⟨fun _ => hp_get 2 hk214 rfl, fun _ => hp_get 1 hk214 rfl, trivial⟩, ?_⟩)
            refine z_e 10 rfl (by kernel_rfl) (a_alloc ([.sc (.string ByteArray.empty), .sc (.int .i64 0), .sc (.slice none 0 0)]) hk214 zr82 rfl rfl fun k216 hk217 => ⟨⟨fun _ => hp_get 3 hk217 rfl, fun _ => hp_get 2 hk217 rfl, trivial⟩, ?_⟩)
            refine z_e 12 rfl (by kernel_rfl) (a_store 0 (c_Part x188) hk217 rfl rfl rfl rfl sz82 rfl rfl fun hk219 => ⟨⟨fun _ => hp_get 3 hk219 rfl, fun _ => hp_get 2 hk219 rfl, trivial⟩, ?_⟩)
            refine z_e 13 rfl (by kernel_rfl) (a_store 1 (c_Part x190) hk219 rfl rfl rfl rfl sz82 rfl rfl fun hk220 => ⟨⟨fun _ => hp_get 3 hk220 rfl, fun _ => hp_get 2 hk220 rfl, trivial⟩, ?_⟩)
            refine z_nil (by kernel_rfl) ?_
            refine H167 _ _ ?_
            clear H167 K167
            refine AW_k fun K221 H221 => ?_
            refine AW_joinG (n := 59) hm (σ := Bool) (τ := Unit) (fun g s => HOk h [(some k216, .obj 82 (c_Part x188)), (some k213, .obj 82 (c_Part x190)), (some k5, .obj 57 (c_Manifest p1)), (some k2, .obj 57 (c_Manifest p0))]) (fun g s => kp (kp (kp (kp (k0) 58 (.sc (.bool s))) 5 (.sc (.int .i64 q161))) 3 (.ptr k5 0)) 2 (.ptr k2 0)) (fun g s => hp h [(some k216, .obj 82 (c_Part x188)), (some k213, .obj 82 (c_Part x190)), (some k5, .obj 57 (c_Manifest p1)), (some k2, .obj 57 (c_Manifest p0))]) (fun x hm => ?_) ?_
            · refine AW_reg ?_
              refine s_v (o_flp fd82_0 rfl rfl) ?_
              refine s_v (o_ldp (.sc (.string x188.Path)) ld9 rfl (hp_get 0 hk220 rfl) rfl) ?_
              refine s_v (o_flp fd82_0 rfl rfl) ?_
              refine s_v (o_ldp (.sc (.string x190.Path)) ld9 rfl (hp_get 1 hk220 rfl) rfl) ?_
              refine s_v (o_bs rfl rfl rfl trivial) ?_
              refine s_v (o_mv (.sc (.bool _)) rfl) ?_
              rcases Bool.eq_false_or_eq_true (!(x188.Path.toList == x190.Path.toList)) with hb227 | hb227
              · replace hm := ite_t hm hb227
                refine sg_n rfl rfl hb227 ?_
                refine sg_n rfl rfl hb227 ?_
                refine sg_n rfl rfl hb227 ?_
                refine sg_n rfl rfl hb227 ?_
                refine sg_n rfl rfl hb227 ?_
                refine s_v (o_pkt (.sc (.bool _)) rfl hb227 rfl) ?_
                refine s_v (o_mv (.sc (.bool _)) rfl) ?_
                refine sg_n rfl rfl rfl ?_
                refine sg_n rfl rfl rfl ?_
                refine sg_n rfl rfl rfl ?_
                refine sg_n rfl rfl rfl ?_
                refine sg_n rfl rfl rfl ?_
                refine sg_n rfl rfl rfl ?_
                refine s_v (o_pkt (.sc (.bool _)) rfl rfl rfl) ?_
                refine s_nil ?_
                cases hm
                exact ⟨rfl, (), hk220, LeF.fm (Sub.refl _) (.cons (ALe.refl _ _) (.cons (ALe.refl _ _) (.cons (ALe.refl _ _) (.cons (ALe.refl _ _) (.nil)))))⟩
              · replace hm := ite_f hm hb227
                refine sg_y rfl rfl hb227 ?_
                refine s_v (o_flp fd82_1 rfl rfl) ?_
                refine sg_y rfl rfl hb227 ?_
                refine s_v (o_ldp (.sc (.int .i64 x188.Size)) ld3 rfl (hp_get 0 hk220 rfl) rfl) ?_
                refine sg_y rfl rfl hb227 ?_
                refine s_v (o_flp fd82_1 rfl rfl) ?_
                refine sg_y rfl rfl hb227 ?_
                refine s_v (o_ldp (.sc (.int .i64 x190.Size)) ld3 rfl (hp_get 1 hk220 rfl) rfl) ?_
                refine sg_y rfl rfl hb227 ?_
                refine s_v (o_bi rfl rfl rfl trivial) ?_
                refine s_v (o_pkf (.sc (.bool _)) rfl hb227 rfl) ?_
                refine s_v (o_mv (.sc (.bool _)) rfl) ?_
                rcases Bool.eq_false_or_eq_true (x188.Size != x190.Size) with hb228 | hb228
                · replace hm := ite_t hm hb228
                  refine sg_n rfl rfl hb228 ?_
                  refine sg_n rfl rfl hb228 ?_
                  refine sg_n rfl rfl hb228 ?_
                  refine sg_n rfl rfl hb228 ?_
                  refine sg_n rfl rfl hb228 ?_
                  refine sg_n rfl rfl hb228 ?_
                  refine s_v (o_pkt (.sc (.bool _)) rfl hb228 rfl) ?_
                  refine s_nil ?_
                  cases hm
                  exact ⟨rfl, (), hk220, LeF.fm (Sub.refl _) (.cons (ALe.refl _ _) (.cons (ALe.refl _ _) (.cons (ALe.refl _ _) (.cons (ALe.refl _ _) (.nil)))))⟩
                · replace hm := ite_f hm hb228
                  refine sg_y rfl rfl hb228 ?_
                  refine s_v (o_flp fd82_2 rfl rfl) ?_
                  refine sg_y rfl rfl hb228 ?_
                  refine s_v (o_ldp (.sl none 32 (List.map c_id x188.Ids)) ld80 rfl (hp_get 0 hk220 rfl) rfl) ?_
                  refine sg_y rfl rfl hb228 ?_
                  refine s_v (o_flp fd82_2 rfl rfl) ?_
                  refine sg_y rfl rfl hb228 ?_
                  refine s_v (o_ldp (.sl none 32 (List.map c_id x190.Ids)) ld80 rfl (hp_get 1 hk220 rfl) rfl) ?_
                  refine sg_y rfl rfl hb228 ?_
                  obtain ⟨y229, hy230, hm⟩ := bind_of hm
                  refine s_v (o_call (W127 _ hy230) rfl bd127 rfl) ?_
                  refine sg_y rfl rfl hb228 ?_
                  refine s_v (o_not rfl) ?_
                  refine s_v (o_pkf (.sc (.bool _)) rfl hb228 rfl) ?_
                  refine s_nil ?_
                  cases hm
                  exact ⟨rfl, (), hk220, LeF.fm (Sub.refl _) (.cons (ALe.refl _ _) (.cons (ALe.refl _ _) (.cons (ALe.refl _ _) (.cons (ALe.refl _ _) (.nil)))))⟩
            · rintro _ j226 fr' h' hk231 hm le
              refine H221 _ _ (le.aw ?_)
              clear le H221 K221
              refine AW_if' rfl (fun hc232 => ?_) (fun hc232 => ?_)
              · replace hm := ite_t hm hc232
                refine AW_k fun K233 H233 => ?_
                refine AW_reg ?_
                refine s_v (o_as (.sc (.bool _)) rfl) ?_
                refine s_nil ?_
                refine H233 _ _ ?_
                clear H233 K233
                refine AW_ret ?_
                cases hm
                refine ⟨⟨nofun, nofun⟩, fun he => ?_⟩
                subst he
                exact Ret.of1 (.inl rfl) (rsT _ _ (.sc (.bool _)) rfl) (hp_sub (List.nil_sublist _) hk231).1 (ALe.refl _ _) ⟨rfl, rfl⟩
              · replace hm := ite_f hm hc232
                refine AW_skip ?_
                refine H166 _ _ ?_
                clear H166 K166
                refine AW_reg ?_
                refine s_v (o_mv (.sc (.int _ _)) rfl) ?_
                refine s_v (o_bi rfl rfl rfl trivial) ?_
                refine s_v (o_as (.sc (.int _ _)) rfl) ?_
                refine s_nil ?_
                cases hm
                exact ⟨rfl, (), (hp_sub (.cons _ (.cons _ (.refl _))) hk231).2, LeF.fm ((hp_sub (.cons _ (.cons _ (.refl _))) hk231).1) (.cons (ALe.refl _ _) (.cons (ALe.refl _ _) (.cons (ALe.refl _ _) (.nil))))⟩
        · replace hm := ite_f hm hc165
          refine AW_exit ?_
          refine Seq_exit ?_
          cases hm
          exact ⟨rfl, (), hk162, LeF.fm (Sub.refl _) (.cons (ALe.refl _ _) (.cons (ALe.refl _ _) (.cons (ALe.refl _ _) (.nil))))⟩
      · rintro _ r234 fr' h' hk235 hm le
        refine H16 _ _ (le.aw ?_)
        clear le H16 K16
        refine AW_k fun K236 H236 => ?_
        refine AW_reg ?_
        refine s_v (o_as (.sc (.bool _)) rfl) ?_
        refine s_nil ?_
        refine H236 _ _ ?_
        clear H236 K236
        refine AW_ret ?_
        cases hm
        exact Ret.of1 (.inl rfl) (rsT _ _ (.sc (.bool _)) rfl) (hp_sub (List.nil_sublist _) hk235).1 (ALe.refl _ _) ⟨rfl, rfl⟩
theorem bd102 : bodied Try.prog 102 = true := by kernel_rfl
def M57 (fuel : Nat) (p0 : TSnap) (p1 : TSnap) : Option (Bool) :=
  after (if (p0.Seq == p1.Seq) = true then ((M102 fuel p0.Man p1.Man).bind fun y17 => if y17 = true then ((M58 fuel p0.Locs p1.Locs).bind fun y20 => some (.brk y20)) else some (.brk false)) else some (.brk false) : Option (Lp (Bool) (Bool))) fun j15 => some j15
set_option maxRecDepth 100000 in
/-- cellarer/cellarerkeep.Snap -/
theorem W57 {fuel : Nat} {p0 : TSnap} {p1 : TSnap} {o : Bool} (h : Heap) (hm : M57 fuel p0 p1 = some o) :
    ACalls Try.prog 57 [.agg (c_Snap p0), .agg (c_Snap p1)] h (fun r h' => r = .sc (.bool o) ∧ h' = h) := by
  refine ACalls_hp 24 [.tmp 4] Try.func57 rfl rfl rfl rfl ?_
  unfold M57 at hm
  refine AW_k fun K1 H1 => ?_
  refine AW_reg ?_
  refine s_op (a_box (HOk.nil _) rfl rfl fun k2 hk3 => ?_)
  refine s_op (a_box hk3 rfl rfl fun k5 hk6 => ?_)
  refine s_v (o_as (.sc (.bool _)) rfl) ?_
  refine s_nil ?_
  refine H1 _ _ ?_
  clear H1 K1
  refine AW_k fun K8 H8 => ?_
  refine AW_joinG (n := 24) hm (σ := Bool) (τ := Unit) (fun g s => HOk h [(some k5, .obj 60 (c_Snap p1)), (some k2, .obj 60 (c_Snap p0))]) (fun g s => kp (k0) 4 (.sc (.bool s))) (fun g s => hp h [(some k5, .obj 60 (c_Snap p1)), (some k2, .obj 60 (c_Snap p0))]) (fun x hm => ?_) ?_
  · refine AW_reg ?_
    refine s_v (o_flp fd60_0 rfl rfl) ?_
    refine s_v (o_ldp (.sc (.int .i64 p0.Seq)) ld3 rfl (hp_get 1 hk6 rfl) rfl) ?_
    refine s_v (o_flp fd60_0 rfl rfl) ?_
    refine s_v (o_ldp (.sc (.int .i64 p1.Seq)) ld3 rfl (hp_get 0 hk6 rfl) rfl) ?_
    refine s_v (o_bi rfl rfl rfl trivial) ?_
    refine s_v (o_mv (.sc (.bool _)) rfl) ?_
    rcases Bool.eq_false_or_eq_true (p0.Seq == p1.Seq) with hb16 | hb16
    · replace hm := ite_t hm hb16
      refine sg_y rfl rfl hb16 ?_
      refine s_v (o_flp fd60_1 rfl rfl) ?_
      refine sg_y rfl rfl hb16 ?_
      refine s_v (o_ldp (.agg (c_Manifest p0.Man)) ld57 rfl (hp_get 1 hk6 rfl) rfl) ?_
      refine sg_y rfl rfl hb16 ?_
      refine s_v (o_flp fd60_1 rfl rfl) ?_
      refine sg_y rfl rfl hb16 ?_
      refine s_v (o_ldp (.agg (c_Manifest p1.Man)) ld57 rfl (hp_get 0 hk6 rfl) rfl) ?_
      refine sg_y rfl rfl hb16 ?_
      obtain ⟨y17, hy18, hm⟩ := bind_of hm
      refine s_v (o_call (W102 _ hy18) rfl bd102 rfl) ?_
      refine s_v (o_pkt (.sc (.bool _)) rfl hb16 rfl) ?_
      refine s_v (o_mv (.sc (.bool _)) rfl) ?_
      rcases Bool.eq_false_or_eq_true y17 with hb19 | hb19
      · replace hm := ite_t hm hb19
        refine sg_y rfl rfl hb19 ?_
        refine s_v (o_flp fd60_2 rfl rfl) ?_
        refine sg_y rfl rfl hb19 ?_
        refine s_v (o_ldp (.sl none 4 (List.map c_Loc p0.Locs)) ld58 rfl (hp_get 1 hk6 rfl) rfl) ?_
        refine sg_y rfl rfl hb19 ?_
        refine s_v (o_flp fd60_2 rfl rfl) ?_
        refine sg_y rfl rfl hb19 ?_
        refine s_v (o_ldp (.sl none 4 (List.map c_Loc p1.Locs)) ld58 rfl (hp_get 0 hk6 rfl) rfl) ?_
        refine sg_y rfl rfl hb19 ?_
        obtain ⟨y20, hy21, hm⟩ := bind_of hm
        refine s_v (o_call (W58 _ hy21) rfl bd58 rfl) ?_
        refine s_v (o_pkt (.sc (.bool _)) rfl hb19 rfl) ?_
        refine s_v (o_as (.sc (.bool _)) rfl) ?_
        refine s_nil ?_
        cases hm
        exact ⟨rfl, (), hk6, LeF.fm (Sub.refl _) (.cons (ALe.refl _ _) (.nil))⟩
      · replace hm := ite_f hm hb19
        refine sg_n rfl rfl hb19 ?_
        refine sg_n rfl rfl hb19 ?_
        refine sg_n rfl rfl hb19 ?_
        refine sg_n rfl rfl hb19 ?_
        refine sg_n rfl rfl hb19 ?_
        refine s_v (o_pkf (.sc (.bool _)) rfl hb19 rfl) ?_
        refine s_v (o_as (.sc (.bool _)) rfl) ?_
        refine s_nil ?_
        cases hm
        exact ⟨rfl, (), hk6, LeF.fm (Sub.refl _) (.cons (ALe.refl _ _) (.nil))⟩
    · replace hm := ite_f hm hb16
      refine sg_n rfl rfl hb16 ?_
      refine sg_n rfl rfl hb16 ?_
      refine sg_n rfl rfl hb16 ?_
      refine sg_n rfl rfl hb16 ?_
      refine sg_n rfl rfl hb16 ?_
      refine s_v (o_pkf (.sc (.bool _)) rfl hb16 rfl) ?_
      refine s_v (o_mv (.sc (.bool _)) rfl) ?_
      refine sg_n rfl rfl rfl ?_
      refine sg_n rfl rfl rfl ?_
      refine sg_n rfl rfl rfl ?_
      refine sg_n rfl rfl rfl ?_
      refine sg_n rfl rfl rfl ?_
      refine s_v (o_pkf (.sc (.bool _)) rfl rfl rfl) ?_
      refine s_v (o_as (.sc (.bool _)) rfl) ?_
      refine s_nil ?_
      cases hm
      exact ⟨rfl, (), hk6, LeF.fm (Sub.refl _) (.cons (ALe.refl _ _) (.nil))⟩
  · rintro _ j15 fr' h' hk22 hm le
    refine H8 _ _ (le.aw ?_)
    clear le H8 K8
    refine AW_ret ?_
    cases hm
    exact Ret.of1 (.inl rfl) (rsT _ _ (.sc (.bool _)) rfl) (hp_sub (List.nil_sublist _) hk22).1 (ALe.refl _ _) ⟨rfl, rfl⟩
theorem bd57 : bodied Try.prog 57 = true := by kernel_rfl
def M17_L0 (fuel : Nat) (p0 : TCatalog) (p1 : TCatalog) (q57 : Int) : Option (Lp (Int) (Bool)) :=
  if (decide (q57 < (p0.Snaps.length : Int))) = true then ((ix p0.Snaps q57).bind fun x64 => (ix p1.Snaps q57).bind fun x66 => (M57 fuel x64 x66).bind fun y68 => if (!y68) = true then (some (.ret false)) else some (.go (IntKind.wrap .i64 (q57 + 1)))) else some (.brk q57)
def M17_L2 (fuel : Nat) (p0 : TCatalog) (p1 : TCatalog) (q219 : Int) : Option (Lp (Int) (Bool)) :=
  if (decide (q219 < (p0.Exps.length : Int))) = true then ((ix p0.Exps q219).bind fun x246 => (ix p1.Exps q219).bind fun x248 => after (if (x246.Seq != x248.Seq) = true then (some (.brk true)) else if (x246.Of != x248.Of) = true then (some (.brk true)) else (M58 fuel x246.Locs x248.Locs).bind fun y266 => some (.brk (!y266)) : Option (Lp (Bool) (Lp (Int) (Bool)))) fun j263 => if j263 = true then (some (.ret false)) else some (.go (IntKind.wrap .i64 (q219 + 1)))) else some (.brk q219)
def M17 (fuel : Nat) (p0 : TCatalog) (p1 : TCatalog) : Option (Bool) :=
  after (if ((p0.Snaps.length : Int) != (p1.Snaps.length : Int)) = true then (some (.brk true)) else if ((p0.Exps.length : Int) != (p1.Exps.length : Int)) = true then (some (.brk true)) else (M55 fuel p0.Chunks p1.Chunks).bind fun y20 => if (!y20) = true then (some (.brk true)) else (M56 fuel p0.Vols p1.Vols).bind fun y23 => some (.brk (!y23)) : Option (Lp (Bool) (Bool))) fun j17 => if j17 = true then (some false) else after (loopM (fun s => M17_L0 fuel p0 p1 s) fuel 0) fun r72 => after (loopM (fun s => M17_L2 fuel p0 p1 s) fuel 0) fun r292 => some true
set_option maxRecDepth 100000 in
/-- cellarer/cellarerkeep.Catalog -/
theorem W17 {fuel : Nat} {p0 : TCatalog} {p1 : TCatalog} {o : Bool} (h : Heap) (hm : M17 fuel p0 p1 = some o) :
    ACalls Try.prog 17 [.agg (c_Catalog p0), .agg (c_Catalog p1)] h (fun r h' => r = .sc (.bool o) ∧ h' = h) := by
  refine ACalls_hp 97 [.tmp 4] Try.func17 rfl rfl rfl rfl ?_
  unfold M17 at hm
  refine AW_k fun K1 H1 => ?_
  refine AW_reg ?_
  refine s_op (a_box (HOk.nil _) rfl rfl fun k2 hk3 => ?_)
  refine s_op (a_box hk3 rfl rfl fun k5 hk6 => ?_)
  refine s_v (o_as (.sc (.bool _)) rfl) ?_
  refine s_nil ?_
  refine H1 _ _ ?_
  clear H1 K1
  refine AW_k fun K8 H8 => ?_
  refine AW_k fun K9 H9 => ?_
  refine AW_joinG (n := 97) hm (σ := Bool) (τ := Unit) (fun g s => HOk h [(some k5, .obj 27 (c_Catalog p1)), (some k2, .obj 27 (c_Catalog p0))]) (fun g s => kp (kp (kp (k0) 40 (.sc (.bool s))) 3 (.ptr k5 0)) 2 (.ptr k2 0)) (fun g s => hp h [(some k5, .obj 27 (c_Catalog p1)), (some k2, .obj 27 (c_Catalog p0))]) (fun x hm => ?_) ?_
  · refine AW_reg ?_
    refine s_v (o_flp fd27_1 rfl rfl) ?_
    refine s_v (o_ldp (.sl none 4 (List.map c_Snap p0.Snaps)) ld22 rfl (hp_get 1 hk6 rfl) rfl) ?_
    refine s_v (o_lenm ln22 rfl) ?_
    refine s_v (o_flp fd27_1 rfl rfl) ?_
    refine s_v (o_ldp (.sl none 4 (List.map c_Snap p1.Snaps)) ld22 rfl (hp_get 0 hk6 rfl) rfl) ?_
    refine s_v (o_lenm ln22 rfl) ?_
    refine s_v (o_bi rfl rfl rfl trivial) ?_
    refine s_v (o_mv (.sc (.bool _)) rfl) ?_
    rcases Bool.eq_false_or_eq_true ((p0.Snaps.length : Int) != (p1.Snaps.length : Int)) with hb18 | hb18
    · replace hm := ite_t hm hb18
      refine sg_n rfl rfl hb18 ?_
      refine sg_n rfl rfl hb18 ?_
      refine sg_n rfl rfl hb18 ?_
      refine sg_n rfl rfl hb18 ?_
      refine sg_n rfl rfl hb18 ?_
      refine sg_n rfl rfl hb18 ?_
      refine sg_n rfl rfl hb18 ?_
      refine s_v (o_pkt (.sc (.bool _)) rfl hb18 rfl) ?_
      refine s_v (o_mv (.sc (.bool _)) rfl) ?_
      refine sg_n rfl rfl rfl ?_
      refine sg_n rfl rfl rfl ?_
      refine sg_n rfl rfl rfl ?_
      refine sg_n rfl rfl rfl ?_
      refine sg_n rfl rfl rfl ?_
      refine sg_n rfl rfl rfl ?_
      refine s_v (o_pkt (.sc (.bool _)) rfl rfl rfl) ?_
      refine s_v (o_mv (.sc (.bool _)) rfl) ?_
      refine sg_n rfl rfl rfl ?_
      refine sg_n rfl rfl rfl ?_
      refine sg_n rfl rfl rfl ?_
      refine sg_n rfl rfl rfl ?_
      refine sg_n rfl rfl rfl ?_
      refine sg_n rfl rfl rfl ?_
      refine s_v (o_pkt (.sc (.bool _)) rfl rfl rfl) ?_
      refine s_nil ?_
      cases hm
      exact ⟨rfl, (), hk6, LeF.fm (Sub.refl _) (.cons (ALe.refl _ _) (.cons (ALe.refl _ _) (.cons (ALe.refl _ _) (.nil))))⟩
    · replace hm := ite_f hm hb18
      refine sg_y rfl rfl hb18 ?_
      refine s_v (o_flp fd27_3 rfl rfl) ?_
      refine sg_y rfl rfl hb18 ?_
      refine s_v (o_ldp (.sl none 3 (List.map c_Exp p0.Exps)) ld24 rfl (hp_get 1 hk6 rfl) rfl) ?_
      refine sg_y rfl rfl hb18 ?_
      refine s_v (o_lenm ln24 rfl) ?_
      refine sg_y rfl rfl hb18 ?_
      refine s_v (o_flp fd27_3 rfl rfl) ?_
      refine sg_y rfl rfl hb18 ?_
      refine s_v (o_ldp (.sl none 3 (List.map c_Exp p1.Exps)) ld24 rfl (hp_get 0 hk6 rfl) rfl) ?_
      refine sg_y rfl rfl hb18 ?_
      refine s_v (o_lenm ln24 rfl) ?_
      refine sg_y rfl rfl hb18 ?_
      refine s_v (o_bi rfl rfl rfl trivial) ?_
      refine s_v (o_pkf (.sc (.bool _)) rfl hb18 rfl) ?_
      refine s_v (o_mv (.sc (.bool _)) rfl) ?_
      rcases Bool.eq_false_or_eq_true ((p0.Exps.length : Int) != (p1.Exps.length : Int)) with hb19 | hb19
      · replace hm := ite_t hm hb19
        refine sg_n rfl rfl hb19 ?_
        refine sg_n rfl rfl hb19 ?_
        refine sg_n rfl rfl hb19 ?_
        refine sg_n rfl rfl hb19 ?_
        refine sg_n rfl rfl hb19 ?_
        refine sg_n rfl rfl hb19 ?_
        refine s_v (o_pkt (.sc (.bool _)) rfl hb19 rfl) ?_
        refine s_v (o_mv (.sc (.bool _)) rfl) ?_
        refine sg_n rfl rfl rfl ?_
        refine sg_n rfl rfl rfl ?_
        refine sg_n rfl rfl rfl ?_
        refine sg_n rfl rfl rfl ?_
        refine sg_n rfl rfl rfl ?_
        refine sg_n rfl rfl rfl ?_
        refine s_v (o_pkt (.sc (.bool _)) rfl rfl rfl) ?_
        refine s_nil ?_
        cases hm
        exact ⟨rfl, (), hk6, LeF.fm (Sub.refl _) (.cons (ALe.refl _ _) (.cons (ALe.refl _ _) (.cons (ALe.refl _ _) (.nil))))⟩
      · replace hm := ite_f hm hb19
        refine sg_y rfl rfl hb19 ?_
        refine s_v (o_flp fd27_2 rfl rfl) ?_
        refine sg_y rfl rfl hb19 ?_
        refine s_v (o_ldp (.sl none 35 (List.map c_Chunk p0.Chunks)) ld23 rfl (hp_get 1 hk6 rfl) rfl) ?_
        refine sg_y rfl rfl hb19 ?_
        refine s_v (o_flp fd27_2 rfl rfl) ?_
        refine sg_y rfl rfl hb19 ?_
        refine s_v (o_ldp (.sl none 35 (List.map c_Chunk p1.Chunks)) ld23 rfl (hp_get 0 hk6 rfl) rfl) ?_
        refine sg_y rfl rfl hb19 ?_
        obtain ⟨y20, hy21, hm⟩ := bind_of hm
        refine s_v (o_call (W55 _ hy21) rfl bd55 rfl) ?_
        refine sg_y rfl rfl hb19 ?_
        refine s_v (o_not rfl) ?_
        refine s_v (o_pkf (.sc (.bool _)) rfl hb19 rfl) ?_
        refine s_v (o_mv (.sc (.bool _)) rfl) ?_
        rcases Bool.eq_false_or_eq_true (!y20) with hb22 | hb22
        · replace hm := ite_t hm hb22
          refine sg_n rfl rfl hb22 ?_
          refine sg_n rfl rfl hb22 ?_
          refine sg_n rfl rfl hb22 ?_
          refine sg_n rfl rfl hb22 ?_
          refine sg_n rfl rfl hb22 ?_
          refine sg_n rfl rfl hb22 ?_
          refine s_v (o_pkt (.sc (.bool _)) rfl hb22 rfl) ?_
          refine s_nil ?_
          cases hm
          exact ⟨rfl, (), hk6, LeF.fm (Sub.refl _) (.cons (ALe.refl _ _) (.cons (ALe.refl _ _) (.cons (ALe.refl _ _) (.nil))))⟩
        · replace hm := ite_f hm hb22
          refine sg_y rfl rfl hb22 ?_
          refine s_v (o_flp fd27_4 rfl rfl) ?_
          refine sg_y rfl rfl hb22 ?_
          refine s_v (o_ldp (.sl none 4 (List.map c_Vol p0.Vols)) ld25 rfl (hp_get 1 hk6 rfl) rfl) ?_
          refine sg_y rfl rfl hb22 ?_
          refine s_v (o_flp fd27_4 rfl rfl) ?_
          refine sg_y rfl rfl hb22 ?_
          refine s_v (o_ldp (.sl none 4 (List.map c_Vol p1.Vols)) ld25 rfl (hp_get 0 hk6 rfl) rfl) ?_
          refine sg_y rfl rfl hb22 ?_
          obtain ⟨y23, hy24, hm⟩ := bind_of hm
          refine s_v (o_call (W56 _ hy24) rfl bd56 rfl) ?_
          refine sg_y rfl rfl hb22 ?_
          refine s_v (o_not rfl) ?_
          refine s_v (o_pkf (.sc (.bool _)) rfl hb22 rfl) ?_
          refine s_nil ?_
          cases hm
          exact ⟨rfl, (), hk6, LeF.fm (Sub.refl _) (.cons (ALe.refl _ _) (.cons (ALe.refl _ _) (.cons (ALe.refl _ _) (.nil))))⟩
  · rintro _ j17 fr' h' hk25 hm le
    refine H9 _ _ (le.aw ?_)
    clear le H9 K9
    refine AW_if' rfl (fun hc26 => ?_) (fun hc26 => ?_)
    · replace hm := ite_t hm hc26
      refine AW_k fun K27 H27 => ?_
      refine AW_reg ?_
      refine s_v (o_as (.sc (.bool _)) rfl) ?_
      refine s_nil ?_
      refine H27 _ _ ?_
      clear H27 K27
      refine AW_ret ?_
      cases hm
      exact Ret.of1 (.inl rfl) (rsT _ _ (.sc (.bool _)) rfl) (hp_sub (List.nil_sublist _) hk25).1 (ALe.refl _ _) ⟨rfl, rfl⟩
    · replace hm := ite_f hm hc26
      refine AW_skip ?_
      refine H8 _ _ ?_
      clear H8 K8
      refine AW_k fun K28 H28 => ?_
      refine AW_k fun K29 H29 => ?_
      refine AW_reg ?_
      refine s_v (o_as (.sc (.int _ _)) rfl) ?_
      refine s_nil ?_
      refine H29 _ _ ?_
      clear H29 K29
      refine AW_loopG (n := 97) hm (σ := Int) (τ := Unit) (fun g s => HOk h [(some k5, .obj 27 (c_Catalog p1)), (some k2, .obj 27 (c_Catalog p0))]) (fun g s => kp (kp (kp (k0) 5 (.sc (.int .i64 s))) 3 (.ptr k5 0)) 2 (.ptr k2 0)) (fun g s => hp h [(some k5, .obj 27 (c_Catalog p1)), (some k2, .obj 27 (c_Catalog p0))]) () hk25 (LeF.fm (Sub.refl _) (.cons (ALe.refl _ _) (.cons (ALe.refl _ _) (.cons (ALe.refl _ _) (.nil))))) ?_ ?_
      · rintro _ q57 x hk58 hm
        replace hm : M17_L0 fuel p0 p1 q57 = some x := hm
        unfold M17_L0 at hm
        refine AW_k fun K59 H59 => ?_
        refine AW_k fun K60 H60 => ?_
        refine AW_reg ?_
        refine s_v (o_mv (.sc (.int _ _)) rfl) ?_
        refine s_v (o_flp fd27_1 rfl rfl) ?_
        refine s_v (o_ldp (.sl none 4 (List.map c_Snap p0.Snaps)) ld22 rfl (hp_get 1 hk58 rfl) rfl) ?_
        refine s_v (o_lenm ln22 rfl) ?_
        refine s_v (o_bi rfl rfl rfl trivial) ?_
        refine s_nil ?_
        refine H60 _ _ ?_
        clear H60 K60
        refine AW_if' rfl (fun hc61 => ?_) (fun hc61 => ?_)
        · replace hm := ite_t hm hc61
          refine AW_skip ?_
          refine H59 _ _ ?_
          clear H59 K59
          refine AW_k fun K62 H62 => ?_
          refine AW_block ?_
          refine AW_k fun K63 H63 => ?_
          refine AW_region_q [(some 48, [2], []), (some 49, [48], [0]), (some 50, [5], []), (some 51, [49, 50], [1, 2]), (some 52, [51], [3]), (some 53, [3], []), (some 54, [53], [5]), (some 55, [5], []), (some 56, [54, 55], [6, 7]), (some 57, [56], [8]), (some 58, [52, 57], [4, 9]), (some 59, [58], [10])] mixed (by kernel_rfl) (by kernel_rfl) ?_
          refine q_v (o_flp fd27_1 rfl rfl) ?_
          refine q_v (o_ldp (.sl none 4 (List.map c_Snap p0.Snaps)) ld22 rfl (hp_get 1 hk58 rfl) rfl) ?_
          refine q_v (o_mv (.sc (.int _ _)) rfl) ?_
          obtain ⟨x64, hx65, hm⟩ := bind_of hm
          refine q_v (o_ix hx65 el22 rfl rfl) ?_
          refine q_v (o_ld (.agg (c_Snap x64)) ld60 rfl rfl) ?_
          refine q_v (o_flp fd27_1 rfl rfl) ?_
          refine q_v (o_ldp (.sl none 4 (List.map c_Snap p1.Snaps)) ld22 rfl (hp_get 0 hk58 rfl) rfl) ?_
          refine q_v (o_mv (.sc (.int _ _)) rfl) ?_
          obtain ⟨x66, hx67, hm⟩ := bind_of hm
          refine q_v (o_ix hx67 el22 rfl rfl) ?_
          refine q_v (o_ld (.agg (c_Snap x66)) ld60 rfl rfl) ?_
          obtain ⟨y68, hy69, hm⟩ := bind_of hm
          refine q_v (o_call (W57 _ hy69) rfl bd57 rfl) ?_
          refine q_v (o_not rfl) ?_
          refine q_nil ?_
          refine H63 _ _ ?_
          clear H63 K63
          refine AW_if' rfl (fun hc70 => ?_) (fun hc70 => ?_)
          · replace hm := ite_t hm hc70
            refine AW_k fun K71 H71 => ?_
            refine AW_reg ?_
            refine s_v (o_as (.sc (.bool _)) rfl) ?_
            refine s_nil ?_
            refine H71 _ _ ?_
            clear H71 K71
            refine AW_ret ?_
            cases hm
            refine ⟨⟨nofun, nofun⟩, fun he => ?_⟩
            subst he
            exact Ret.of1 (.inl rfl) (rsT _ _ (.sc (.bool _)) rfl) (hp_sub (List.nil_sublist _) hk58).1 (ALe.refl _ _) ⟨rfl, rfl⟩
          · replace hm := ite_f hm hc70
            refine AW_skip ?_
            refine H62 _ _ ?_
            clear H62 K62
            refine AW_reg ?_
            refine s_v (o_mv (.sc (.int _ _)) rfl) ?_
            refine s_v (o_bi rfl rfl rfl trivial) ?_
            refine s_v (o_as (.sc (.int _ _)) rfl) ?_
            refine s_nil ?_
            cases hm
            exact ⟨rfl, (), hk58, LeF.fm (Sub.refl _) (.cons (ALe.refl _ _) (.cons (ALe.refl _ _) (.cons (ALe.refl _ _) (.nil))))⟩
        · replace hm := ite_f hm hc61
          refine AW_exit ?_
          refine Seq_exit ?_
          cases hm
          exact ⟨rfl, (), hk58, LeF.fm (Sub.refl _) (.cons (ALe.refl _ _) (.cons (ALe.refl _ _) (.cons (ALe.refl _ _) (.nil))))⟩
      · rintro _ r72 fr' h' hk73 hm le
        refine H28 _ _ (le.aw ?_)
        clear le H28 K28
        refine AW_k fun K74 H74 => ?_
        refine AW_k fun K75 H75 => ?_
        refine AW_reg ?_
        refine s_v (o_as (.sc (.int _ _)) rfl) ?_
        refine s_nil ?_
        refine H75 _ _ ?_
        clear H75 K75
        refine AW_loopG (n := 97) hm (σ := Int) (τ := Unit) (fun g s => HOk h [(some k5, .obj 27 (c_Catalog p1)), (some k2, .obj 27 (c_Catalog p0))]) (fun g s => kp (kp (kp (k0) 6 (.sc (.int .i64 s))) 3 (.ptr k5 0)) 2 (.ptr k2 0)) (fun g s => hp h [(some k5, .obj 27 (c_Catalog p1)), (some k2, .obj 27 (c_Catalog p0))]) () hk73 (LeF.fm (Sub.refl _) (.cons (ALe.refl _ _) (.cons (ALe.refl _ _) (.cons (ALe.refl _ _) (.nil))))) ?_ ?_
        · rintro _ q219 x hk220 hm
          replace hm : M17_L2 fuel p0 p1 q219 = some x := hm
          unfold M17_L2 at hm
          refine AW_k fun K221 H221 => ?_
          refine AW_k fun K222 H222 => ?_
          refine AW_reg ?_
          refine s_v (o_mv (.sc (.int _ _)) rfl) ?_
          refine s_v (o_flp fd27_3 rfl rfl) ?_
          refine s_v (o_ldp (.sl none 3 (List.map c_Exp p0.Exps)) ld24 rfl (hp_get 1 hk220 rfl) rfl) ?_
          refine s_v (o_lenm ln24 rfl) ?_
          refine s_v (o_bi rfl rfl rfl trivial) ?_
          refine s_nil ?_
          refine H222 _ _ ?_
          clear H222 K222
          refine AW_if' rfl (fun hc223 => ?_) (fun hc223 => ?_)
          · replace hm := ite_t hm hc223
            refine AW_skip ?_
            refine H221 _ _ ?_
            clear H221 K221
            refine AW_k fun K224 H224 => ?_
            refine AW_block ?_
            refine AW_k fun K225 H225 => ?_
            refine AW_zreg [(1000000, k2, .obj 27 (c_Catalog p0)), (1000000, k5, .obj 27 (c_Catalog p1))] mixed (⟨fun _ => hp_get 1 hk220 rfl, fun _ => hp_get 0 hk220 rfl, trivial⟩) ?_
            refine z_v 0 rfl (by kernel_rfl) rfl (fun S' h' hi hB => o_flp fd27_3 rfl rfl) ?_
            refine z_v 1 rfl (by kernel_rfl) rfl (fun S' h' hi hB => o_ldp (.sl none 3 (List.map c_Exp p0.Exps)) ld24 rfl (InvL.get 0 hi rfl (hB 1000000 (by kernel_rfl))) rfl) ?_
            refine z_v 2 rfl (by kernel_rfl) rfl (fun S' h' hi hB => o_mv (.sc (.int _ _)) rfl) ?_
            obtain ⟨x246, hx247, hm⟩ := bind_of hm
            refine z_v 3 rfl (by kernel_rfl) rfl (fun S' h' hi hB => o_ix hx247 el24 rfl rfl) ?_
            refine z_v 4 rfl (by kernel_rfl) rfl (fun S' h' hi hB => o_ld (.agg (c_Exp x246)) ld65 rfl rfl) ?_
            refine z_v 5 rfl (by kernel_rfl) rfl (fun S' h' hi hB => o_flp fd27_3 rfl rfl) ?_
            refine z_v 6 rfl (by kernel_rfl) rfl (fun S' h' hi hB => o_ldp (.sl none 3 (List.map c_Exp p1.Exps)) ld24 rfl (InvL.get 1 hi rfl (hB 1000000 (by kernel_rfl))) rfl) ?_
            refine z_v 7 rfl (by kernel_rfl) rfl (fun S' h' hi hB => o_mv (.sc (.int _ _)) rfl) ?_
            obtain ⟨x248, hx249, hm⟩ := bind_of hm
            refine z_v 8 rfl (by kernel_rfl) rfl (fun S' h' hi hB => o_ix hx249 el24 rfl rfl) ?_
            refine z_v 9 rfl (by kernel_rfl) rfl (fun S' h' hi hB => o_ld (.agg (c_Exp x248)) ld65 rfl rfl) ?_
            refine z_e2 10 11 rfl rfl (by kernel_rfl) ?_ ?_
            · refine (a_alloc ([.sc (.int .i64 0), .sc (.int .i64 0), .sc (.slice none 0 0)]) hk220 zr65 rfl rfl fun k250 hk251 => ⟨⟨fun _ => hp_get 2 hk251 rfl, fun _ => hp_get 1 hk251 rfl, trivial⟩, ?_⟩)
              refine z_e 11 rfl (by kernel_rfl) (a_alloc ([.sc (.int .i64 0), .sc (.int .i64 0), .sc (.slice none 0 0)]) hk251 zr65 rfl rfl fun k253 hk254 => ⟨⟨fun _ => hp_get 3 hk254 rfl, fun _ => hp_get 2 hk254 rfl, trivial⟩, ?_⟩)
              refine z_e 12 rfl (by kernel_rfl) (a_store 1 (c_Exp x246) hk254 rfl rfl rfl rfl sz65 rfl rfl fun hk256 => ⟨⟨fun _ => hp_get 3 hk256 rfl, fun _ => hp_get 2 hk256 rfl, trivial⟩, ?_⟩)
              refine z_e 13 rfl (by kernel_rfl) (a_store 0 (c_Exp x248) hk256 rfl rfl rfl rfl sz65 rfl rfl fun hk257 => ⟨⟨fun _ => hp_get 3 hk257 rfl, fun _ => hp_get 2 hk257 rfl, trivial⟩, ?_⟩)
              refine z_nil (by kernel_rfl) ?_
              refine H225 _ _ ?_
              clear H225 K225
              refine AW_k fun K258 H258 => ?_
              refine AW_joinG (n := 97) hm (σ := Bool) (τ := Unit) (fun g s => HOk h [(some k253, .obj 65 (c_Exp x248)), (some k250, .obj 65 (c_Exp x246)), (some k5, .obj 27 (c_Catalog p1)), (some k2, .obj 27 (c_Catalog p0))]) (fun g s => kp (kp (kp (kp (k0) 96 (.sc (.bool s))) 6 (.sc (.int .i64 q219))) 3 (.ptr k5 0)) 2 (.ptr k2 0)) (fun g s => hp h [(some k253, .obj 65 (c_Exp x248)), (some k250, .obj 65 (c_Exp x246)), (some k5, .obj 27 (c_Catalog p1)), (some k2, .obj 27 (c_Catalog p0))]) (fun x hm => ?_) ?_
              · refine AW_reg ?_
                refine s_v (o_flp fd65_0 rfl rfl) ?_
                refine s_v (o_ldp (.sc (.int .i64 x246.Seq)) ld3 rfl (hp_get 1 hk257 rfl) rfl) ?_
                refine s_v (o_flp fd65_0 rfl rfl) ?_
                refine s_v (o_ldp (.sc (.int .i64 x248.Seq)) ld3 rfl (hp_get 0 hk257 rfl) rfl) ?_
                refine s_v (o_bi rfl rfl rfl trivial) ?_
                refine s_v (o_mv (.sc (.bool _)) rfl) ?_
                rcases Bool.eq_false_or_eq_true (x246.Seq != x248.Seq) with hb264 | hb264
                · replace hm := ite_t hm hb264
                  refine sg_n rfl rfl hb264 ?_
                  refine sg_n rfl rfl hb264 ?_
                  refine sg_n rfl rfl hb264 ?_
                  refine sg_n rfl rfl hb264 ?_
                  refine sg_n rfl rfl hb264 ?_
                  refine s_v (o_pkt (.sc (.bool _)) rfl hb264 rfl) ?_
                  refine s_v (o_mv (.sc (.bool _)) rfl) ?_
                  refine sg_n rfl rfl rfl ?_
                  refine sg_n rfl rfl rfl ?_
                  refine sg_n rfl rfl rfl ?_
                  refine sg_n rfl rfl rfl ?_
                  refine sg_n rfl rfl rfl ?_
                  refine sg_n rfl rfl rfl ?_
                  refine s_v (o_pkt (.sc (.bool _)) rfl rfl rfl) ?_
                  refine s_nil ?_
                  cases hm
                  exact ⟨rfl, (), hk257, LeF.fm (Sub.refl _) (.cons (ALe.refl _ _) (.cons (ALe.refl _ _) (.cons (ALe.refl _ _) (.cons (ALe.refl _ _) (.nil)))))⟩
                · replace hm := ite_f hm hb264
                  refine sg_y rfl rfl hb264 ?_
                  refine s_v (o_flp fd65_1 rfl rfl) ?_
                  refine sg_y rfl rfl hb264 ?_
                  refine s_v (o_ldp (.sc (.int .i64 x246.Of)) ld3 rfl (hp_get 1 hk257 rfl) rfl) ?_
                  refine sg_y rfl rfl hb264 ?_
                  refine s_v (o_flp fd65_1 rfl rfl) ?_
                  refine sg_y rfl rfl hb264 ?_
                  refine s_v (o_ldp (.sc (.int .i64 x248.Of)) ld3 rfl (hp_get 0 hk257 rfl) rfl) ?_
                  refine sg_y rfl rfl hb264 ?_
                  refine s_v (o_bi rfl rfl rfl trivial) ?_
                  refine s_v (o_pkf (.sc (.bool _)) rfl hb264 rfl) ?_
                  refine s_v (o_mv (.sc (.bool _)) rfl) ?_
                  rcases Bool.eq_false_or_eq_true (x246.Of != x248.Of) with hb265 | hb265
                  · replace hm := ite_t hm hb265
                    refine sg_n rfl rfl hb265 ?_
                    refine sg_n rfl rfl hb265 ?_
                    refine sg_n rfl rfl hb265 ?_
                    refine sg_n rfl rfl hb265 ?_
                    refine sg_n rfl rfl hb265 ?_
                    refine sg_n rfl rfl hb265 ?_
                    refine s_v (o_pkt (.sc (.bool _)) rfl hb265 rfl) ?_
                    refine s_nil ?_
                    cases hm
                    exact ⟨rfl, (), hk257, LeF.fm (Sub.refl _) (.cons (ALe.refl _ _) (.cons (ALe.refl _ _) (.cons (ALe.refl _ _) (.cons (ALe.refl _ _) (.nil)))))⟩
                  · replace hm := ite_f hm hb265
                    refine sg_y rfl rfl hb265 ?_
                    refine s_v (o_flp fd65_2 rfl rfl) ?_
                    refine sg_y rfl rfl hb265 ?_
                    refine s_v (o_ldp (.sl none 4 (List.map c_Loc x246.Locs)) ld58 rfl (hp_get 1 hk257 rfl) rfl) ?_
                    refine sg_y rfl rfl hb265 ?_
                    refine s_v (o_flp fd65_2 rfl rfl) ?_
                    refine sg_y rfl rfl hb265 ?_
                    refine s_v (o_ldp (.sl none 4 (List.map c_Loc x248.Locs)) ld58 rfl (hp_get 0 hk257 rfl) rfl) ?_
                    refine sg_y rfl rfl hb265 ?_
                    obtain ⟨y266, hy267, hm⟩ := bind_of hm
                    refine s_v (o_call (W58 _ hy267) rfl bd58 rfl) ?_
                    refine sg_y rfl rfl hb265 ?_
                    refine s_v (o_not rfl) ?_
                    refine s_v (o_pkf (.sc (.bool _)) rfl hb265 rfl) ?_
                    refine s_nil ?_
                    cases hm
                    exact ⟨rfl, (), hk257, LeF.fm (Sub.refl _) (.cons (ALe.refl _ _) (.cons (ALe.refl _ _) (.cons (ALe.refl _ _) (.cons (ALe.refl _ _) (.nil)))))⟩
              · rintro _ j263 fr' h' hk268 hm le
                refine H258 _ _ (le.aw ?_)
                clear le H258 K258
                refine AW_if' rfl (fun hc269 => ?_) (fun hc269 => ?_)
                · replace hm := ite_t hm hc269
                  refine AW_k fun K270 H270 => ?_
                  refine AW_reg ?_
                  refine s_v (o_as (.sc (.bool _)) rfl) ?_
                  refine s_nil ?_
                  refine H270 _ _ ?_
                  clear H270 K270
                  refine AW_ret ?_
                  cases hm
                  refine ⟨⟨nofun, nofun⟩, fun he => ?_⟩
                  subst he
                  exact Ret.of1 (.inl rfl) (rsT _ _ (.sc (.bool _)) rfl) (hp_sub (List.nil_sublist _) hk268).1 (ALe.refl _ _) ⟨rfl, rfl⟩
                · replace hm := ite_f hm hc269
                  refine AW_skip ?_
                  refine H224 _ _ ?_
                  clear H224 K224
                  refine AW_reg ?_
                  refine s_v (o_mv (.sc (.int _ _)) rfl) ?_
                  refine s_v (o_bi rfl rfl rfl trivial) ?_
                  refine s_v (o_as (.sc (.int _ _)) rfl) ?_
                  refine s_nil ?_
                  cases hm
                  exact ⟨rfl, (), (hp_sub (.cons _ (.cons _ (.refl _))) hk268).2, LeF.fm ((hp_sub (.cons _ (.cons _ (.refl _))) hk268).1) (.cons (ALe.refl _ _) (.cons (ALe.refl _ _) (.cons (ALe.refl _ _) (.nil))))⟩
            · refine (a_alloc ([.sc (.int .i64 0), .sc (.int .i64 0), .sc (.slice none 0 0)]) hk220 zr65 rfl rfl fun k271 hk272 => ⟨⟨fun _ => hp_get 2 hk272 rfl, fun _ => hp_get 1 hk272 rfl, trivial⟩, ?_⟩)
              refine z_e 10 rfl (by kernel_rfl) (a_alloc ([.sc (.int .i64 0), .sc (.int .i64 0), .sc (.slice none 0 0)]) hk272 zr65 rfl rfl fun k274 hk275 => ⟨⟨fun _ => hp_get 3 hk275 rfl, fun _ => hp_get 2 hk275 rfl, trivial⟩, ?_⟩)
              refine z_e 12 rfl (by kernel_rfl) (a_store 0 (c_Exp x246) hk275 rfl rfl rfl rfl sz65 rfl rfl fun hk277 => ⟨⟨fun _ => hp_get 3 hk277 rfl, fun _ => hp_get 2 hk277 rfl, trivial⟩, ?_⟩)
              refine z_e 13 rfl (by kernel_rfl) (a_store 1 (c_Exp x248) hk277 rfl rfl rfl rfl sz65 rfl rfl fun hk278 => ⟨⟨fun _ => hp_get 3 hk278 rfl, fun _ => hp_get 2 hk278 rfl, trivial⟩, ?_⟩)
              refine z_nil (by kernel_rfl) ?_
              refine H225 _ _ ?_
              clear H225 K225
              refine AW_k fun K279 H279 => ?_
              refine AW_joinG (n := 97) hm (σ := Bool) (τ := Unit) (fun g s => HOk h [(some k274, .obj 65 (c_Exp x246)), (some k271, .obj 65 (c_Exp x248)), (some k5, .obj 27 (c_Catalog p1)), (some k2, .obj 27 (c_Catalog p0))]) (fun g s => kp (kp (kp (kp (k0) 96 (.sc (.bool s))) 6 (.sc (.int .i64 q219))) 3 (.ptr k5 0)) 2 (.ptr k2 0)) (fun g s => hp h [(some k274, .obj 65 (c_Exp x246)), (some k271, .obj 65 (c_Exp x248)), (some k5, .obj 27 (c_Catalog p1)), (some k2, .obj 27 (c_Catalog p0))]) (fun x hm => ?_) ?_
              · refine AW_reg ?_
                refine s_v (o_flp fd65_0 rfl rfl) ?_
                refine s_v (o_ldp (.sc (.int .i64 x246.Seq)) ld3 rfl (hp_get 0 hk278 rfl) rfl) ?_
                refine s_v (o_flp fd65_0 rfl rfl) ?_
                refine s_v (o_ldp (.sc (.int .i64 x248.Seq)) ld3 rfl (hp_get 1 hk278 rfl) rfl) ?_
                refine s_v (o_bi rfl rfl rfl trivial) ?_
                refine s_v (o_mv (.sc (.bool _)) rfl) ?_
                rcases Bool.eq_false_or_eq_true (x246.Seq != x248.Seq) with hb285 | hb285
                · replace hm := ite_t hm hb285
                  refine sg_n rfl rfl hb285 ?_
                  refine sg_n rfl rfl hb285 ?_
                  refine sg_n rfl rfl hb285 ?_
                  refine sg_n rfl rfl hb285 ?_
                  refine sg_n rfl rfl hb285 ?_
                  refine s_v (o_pkt (.sc (.bool _)) rfl hb285 rfl) ?_
                  refine s_v (o_mv (.sc (.bool _)) rfl) ?_
                  refine sg_n rfl rfl rfl ?_
                  refine sg_n rfl rfl rfl ?_
                  refine sg_n rfl rfl rfl ?_
                  refine sg_n rfl rfl rfl ?_
                  refine sg_n rfl rfl rfl ?_
                  refine sg_n rfl rfl rfl ?_
                  refine s_v (o_pkt (.sc (.bool _)) rfl rfl rfl) ?_
                  refine s_nil ?_
                  cases hm
                  exact ⟨rfl, (), hk278, LeF.fm (Sub.refl _) (.cons (ALe.refl _ _) (.cons (ALe.refl _ _) (.cons (ALe.refl _ _) (.cons (ALe.refl _ _) (.nil)))))⟩
                · replace hm := ite_f hm hb285
                  refine sg_y rfl rfl hb285 ?_
                  refine s_v (o_flp fd65_1 rfl rfl) ?_
                  refine sg_y rfl rfl hb285 ?_
                  refine s_v (o_ldp (.sc (.int .i64 x246.Of)) ld3 rfl (hp_get 0 hk278 rfl) rfl) ?_
                  refine sg_y rfl rfl hb285 ?_
                  refine s_v (o_flp fd65_1 rfl rfl) ?_
                  refine sg_y rfl rfl hb285 ?_
                  refine s_v (o_ldp (.sc (.int .i64 x248.Of)) ld3 rfl (hp_get 1 hk278 rfl) rfl) ?_
                  refine sg_y rfl rfl hb285 ?_
                  refine s_v (o_bi rfl rfl rfl trivial) ?_
                  refine s_v (o_pkf (.sc (.bool _)) rfl hb285 rfl) ?_
                  refine s_v (o_mv (.sc (.bool _)) rfl) ?_
                  rcases Bool.eq_false_or_eq_true (x246.Of != x248.Of) with hb286 | hb286
                  · replace hm := ite_t hm hb286
                    refine sg_n rfl rfl hb286 ?_
                    refine sg_n rfl rfl hb286 ?_
                    refine sg_n rfl rfl hb286 ?_
                    refine sg_n rfl rfl hb286 ?_
                    refine sg_n rfl rfl hb286 ?_
                    refine sg_n rfl rfl hb286 ?_
                    refine s_v (o_pkt (.sc (.bool _)) rfl hb286 rfl) ?_
                    refine s_nil ?_
                    cases hm
                    exact ⟨rfl, (), hk278, LeF.fm (Sub.refl _) (.cons (ALe.refl _ _) (.cons (ALe.refl _ _) (.cons (ALe.refl _ _) (.cons (ALe.refl _ _) (.nil)))))⟩
                  · replace hm := ite_f hm hb286
                    refine sg_y rfl rfl hb286 ?_
                    refine s_v (o_flp fd65_2 rfl rfl) ?_
                    refine sg_y rfl rfl hb286 ?_
                    refine s_v (o_ldp (.sl none 4 (List.map c_Loc x246.Locs)) ld58 rfl (hp_get 0 hk278 rfl) rfl) ?_
                    refine sg_y rfl rfl hb286 ?_
                    refine s_v (o_flp fd65_2 rfl rfl) ?_
                    refine sg_y rfl rfl hb286 ?_
                    refine s_v (o_ldp (.sl none 4 (List.map c_Loc x248.Locs)) ld58 rfl (hp_get 1 hk278 rfl) rfl) ?_
                    refine sg_y rfl rfl hb286 ?_
                    obtain ⟨y287, hy288, hm⟩ := bind_of hm
                    refine s_v (o_call (W58 _ hy288) rfl bd58 rfl) ?_
                    refine sg_y rfl rfl hb286 ?_
                    refine s_v (o_not rfl) ?_
                    refine s_v (o_pkf (.sc (.bool _)) rfl hb286 rfl) ?_
                    refine s_nil ?_
                    cases hm
                    exact ⟨rfl, (), hk278, LeF.fm (Sub.refl _) (.cons (ALe.refl _ _) (.cons (ALe.refl _ _) (.cons (ALe.refl _ _) (.cons (ALe.refl _ _) (.nil)))))⟩
              · rintro _ j284 fr' h' hk289 hm le
                refine H279 _ _ (le.aw ?_)
                clear le H279 K279
                refine AW_if' rfl (fun hc290 => ?_) (fun hc290 => ?_)
                · replace hm := ite_t hm hc290
                  refine AW_k fun K291 H291 => ?_
                  refine AW_reg ?_
                  refine s_v (o_as (.sc (.bool _)) rfl) ?_
                  refine s_nil ?_
                  refine H291 _ _ ?_
                  clear H291 K291
                  refine AW_ret ?_
                  cases hm
                  refine ⟨⟨nofun, nofun⟩, fun he => ?_⟩
                  subst he
                  exact Ret.of1 (.inl rfl) (rsT _ _ (.sc (.bool _)) rfl) (hp_sub (List.nil_sublist _) hk289).1 (ALe.refl _ _) ⟨rfl, rfl⟩
                · replace hm := ite_f hm hc290
                  refine AW_skip ?_
                  refine H224 _ _ ?_
                  clear H224 K224
                  refine AW_reg ?_
                  refine s_v (o_mv (.sc (.int _ _)) rfl) ?_
                  refine s_v (o_bi rfl rfl rfl trivial) ?_
                  refine s_v (o_as (.sc (.int _ _)) rfl) ?_
                  refine s_nil ?_
                  cases hm
                  exact ⟨rfl, (), (hp_sub (.cons _ (.cons _ (.refl _))) hk289).2, LeF.fm ((hp_sub (.cons _ (.cons _ (.refl _))) hk289).1) (.cons (ALe.refl _ _) (.cons (ALe.refl _ _) (.cons (ALe.refl _ _) (.nil))))⟩
          · replace hm := ite_f hm hc223
            refine AW_exit ?_
            refine Seq_exit ?_
            cases hm
            exact ⟨rfl, (), hk220, LeF.fm (Sub.refl _) (.cons (ALe.refl _ _) (.cons (ALe.refl _ _) (.cons (ALe.refl _ _) (.nil))))⟩
        · rintro _ r292 fr' h' hk293 hm le
          refine H74 _ _ (le.aw ?_)
          clear le H74 K74
          refine AW_k fun K294 H294 => ?_
          refine AW_reg ?_
          refine s_v (o_as (.sc (.bool _)) rfl) ?_
          refine s_nil ?_
          refine H294 _ _ ?_
          clear H294 K294
          refine AW_ret ?_
          cases hm
          exact Ret.of1 (.inl rfl) (rsT _ _ (.sc (.bool _)) rfl) (hp_sub (List.nil_sublist _) hk293).1 (ALe.refl _ _) ⟨rfl, rfl⟩
theorem bd17 : bodied Try.prog 17 = true := by kernel_rfl
def M18_L0 (fuel : Nat) (p0 : List Int) (p1 : List Int) (q31 : Int) : Option (Lp (Int) (Bool)) :=
  if (decide (q31 < (p0.length : Int))) = true then ((ix p0 q31).bind fun x38 => (ix p1 q31).bind fun x40 => if (x38 != x40) = true then (some (.ret false)) else some (.go (IntKind.wrap .i64 (q31 + 1)))) else some (.brk q31)
def M18 (fuel : Nat) (p0 : List Int) (p1 : List Int) : Option (Bool) :=
  if ((p0.length : Int) != (p1.length : Int)) = true then (some false) else after (loopM (fun s => M18_L0 fuel p0 p1 s) fuel 0) fun r44 => some true
set_option maxRecDepth 100000 in
/-- cellarer/cellarerkeep.Ints -/
theorem W18 {fuel : Nat} {p0 : List Int} {p1 : List Int} {o : Bool} (h : Heap) (hm : M18 fuel p0 p1 = some o) :
    ACalls Try.prog 18 [.sl none 1 (List.map c_i64 p0), .sl none 1 (List.map c_i64 p1)] h (fun r h' => r = .sc (.bool o) ∧ h' = h) := by
  refine ACalls_hp 26 [.tmp 4] Try.func18 rfl rfl rfl rfl ?_
  unfold M18 at hm
  refine AW_k fun K1 H1 => ?_
  refine AW_reg ?_
  refine s_v (o_as (.sc (.bool _)) rfl) ?_
  refine s_nil ?_
  refine H1 _ _ ?_
  clear H1 K1
  refine AW_k fun K2 H2 => ?_
  refine AW_k fun K3 H3 => ?_
  refine AW_reg ?_
  refine s_v (o_mv (.sl _ _ _) rfl) ?_
  refine s_v (o_lenm ln28 rfl) ?_
  refine s_v (o_mv (.sl _ _ _) rfl) ?_
  refine s_v (o_lenm ln28 rfl) ?_
  refine s_v (o_bi rfl rfl rfl trivial) ?_
  refine s_nil ?_
  refine H3 _ _ ?_
  clear H3 K3
  refine AW_if' rfl (fun hc4 => ?_) (fun hc4 => ?_)
  · replace hm := ite_t hm hc4
    refine AW_k fun K5 H5 => ?_
    refine AW_reg ?_
    refine s_v (o_as (.sc (.bool _)) rfl) ?_
    refine s_nil ?_
    refine H5 _ _ ?_
    clear H5 K5
    refine AW_ret ?_
    cases hm
    exact Ret.of1 (.inl rfl) (rsT _ _ (.sc (.bool _)) rfl) (Sub.refl _) (ALe.refl _ _) ⟨rfl, rfl⟩
  · replace hm := ite_f hm hc4
    refine AW_skip ?_
    refine H2 _ _ ?_
    clear H2 K2
    refine AW_k fun K6 H6 => ?_
    refine AW_k fun K7 H7 => ?_
    refine AW_reg ?_
    refine s_v (o_as (.sc (.int _ _)) rfl) ?_
    refine s_nil ?_
    refine H7 _ _ ?_
    clear H7 K7
    refine AW_loopG (n := 26) hm (σ := Int) (τ := Unit) (fun g s => HOk h []) (fun g s => kp (kp (kp (k0) 5 (.sc (.int .i64 s))) 1 (.sl none 1 (List.map c_i64 p1))) 0 (.sl none 1 (List.map c_i64 p0))) (fun g s => hp h []) () (HOk.nil _) (LeF.fm (Sub.refl _) (.cons (ALe.refl _ _) (.cons (ALe.refl _ _) (.cons (ALe.refl _ _) (.nil))))) ?_ ?_
    · rintro _ q31 x hk32 hm
      replace hm : M18_L0 fuel p0 p1 q31 = some x := hm
      unfold M18_L0 at hm
      refine AW_k fun K33 H33 => ?_
      refine AW_k fun K34 H34 => ?_
      refine AW_reg ?_
      refine s_v (o_mv (.sc (.int _ _)) rfl) ?_
      refine s_v (o_mv (.sl _ _ _) rfl) ?_
      refine s_v (o_lenm ln28 rfl) ?_
      refine s_v (o_bi rfl rfl rfl trivial) ?_
      refine s_nil ?_
      refine H34 _ _ ?_
      clear H34 K34
      refine AW_if' rfl (fun hc35 => ?_) (fun hc35 => ?_)
      · replace hm := ite_t hm hc35
        refine AW_skip ?_
        refine H33 _ _ ?_
        clear H33 K33
        refine AW_k fun K36 H36 => ?_
        refine AW_block ?_
        refine AW_k fun K37 H37 => ?_
        refine AW_region_q [(some 17, [0], []), (some 18, [5], []), (some 19, [17, 18], [0, 1]), (some 20, [19], [2]), (some 21, [1], []), (some 22, [5], []), (some 23, [21, 22], [4, 5]), (some 24, [23], [6]), (some 25, [20, 24], [3, 7])] mixed (by kernel_rfl) (by kernel_rfl) ?_
        refine q_v (o_mv (.sl _ _ _) rfl) ?_
        refine q_v (o_mv (.sc (.int _ _)) rfl) ?_
        obtain ⟨x38, hx39, hm⟩ := bind_of hm
        refine q_v (o_ix hx39 el28 rfl rfl) ?_
        refine q_v (o_ld (.sc (.int .i64 x38)) ld3 rfl rfl) ?_
        refine q_v (o_mv (.sl _ _ _) rfl) ?_
        refine q_v (o_mv (.sc (.int _ _)) rfl) ?_
        obtain ⟨x40, hx41, hm⟩ := bind_of hm
        refine q_v (o_ix hx41 el28 rfl rfl) ?_
        refine q_v (o_ld (.sc (.int .i64 x40)) ld3 rfl rfl) ?_
        refine q_v (o_bi rfl rfl rfl trivial) ?_
        refine q_nil ?_
        refine H37 _ _ ?_
        clear H37 K37
        refine AW_if' rfl (fun hc42 => ?_) (fun hc42 => ?_)
        · replace hm := ite_t hm hc42
          refine AW_k fun K43 H43 => ?_
          refine AW_reg ?_
          refine s_v (o_as (.sc (.bool _)) rfl) ?_
          refine s_nil ?_
          refine H43 _ _ ?_
          clear H43 K43
          refine AW_ret ?_
          cases hm
          refine ⟨⟨nofun, nofun⟩, fun he => ?_⟩
          subst he
          exact Ret.of1 (.inl rfl) (rsT _ _ (.sc (.bool _)) rfl) (Sub.refl _) (ALe.refl _ _) ⟨rfl, rfl⟩
        · replace hm := ite_f hm hc42
          refine AW_skip ?_
          refine H36 _ _ ?_
          clear H36 K36
          refine AW_reg ?_
          refine s_v (o_mv (.sc (.int _ _)) rfl) ?_
          refine s_v (o_bi rfl rfl rfl trivial) ?_
          refine s_v (o_as (.sc (.int _ _)) rfl) ?_
          refine s_nil ?_
          cases hm
          exact ⟨rfl, (), hk32, LeF.fm (Sub.refl _) (.cons (ALe.refl _ _) (.cons (ALe.refl _ _) (.cons (ALe.refl _ _) (.nil))))⟩
      · replace hm := ite_f hm hc35
        refine AW_exit ?_
        refine Seq_exit ?_
        cases hm
        exact ⟨rfl, (), hk32, LeF.fm (Sub.refl _) (.cons (ALe.refl _ _) (.cons (ALe.refl _ _) (.cons (ALe.refl _ _) (.nil))))⟩
    · rintro _ r44 fr' h' hk45 hm le
      refine H6 _ _ (le.aw ?_)
      clear le H6 K6
      refine AW_k fun K46 H46 => ?_
      refine AW_reg ?_
      refine s_v (o_as (.sc (.bool _)) rfl) ?_
      refine s_nil ?_
      refine H46 _ _ ?_
      clear H46 K46
      refine AW_ret ?_
      cases hm
      exact Ret.of1 (.inl rfl) (rsT _ _ (.sc (.bool _)) rfl) (Sub.refl _) (ALe.refl _ _) ⟨rfl, rfl⟩
theorem bd18 : bodied Try.prog 18 = true := by kernel_rfl
end Go.Proofs.Ytoomgangpjcaoaa
