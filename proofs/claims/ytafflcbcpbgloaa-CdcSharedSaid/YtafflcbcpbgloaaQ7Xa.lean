import Derived.Test.YtafflcbcpbgloaaQ7Types
set_option linter.unusedSimpArgs false
set_option linter.unusedVariables false
namespace Go.Proofs.Ytafflcbcpbgloaa
open Go.Vm
def M11 (fuel : Nat) (p0 : List Int) : Option ((List Int)) :=
  (app ([] : List Int) p0).bind fun z4 => some z4
set_option maxHeartbeats 4000000 in
set_option maxRecDepth 100000 in
/-- cellarer/cellarerkeep.Twin -/
theorem W11 {fuel : Nat} {p0 : List Int} {o : (List Int)} (h : Heap) (hm : M11 fuel p0 = some o) :
    ACalls Try.prog 11 [.sl none 1 (List.map c_u8 p0)] h (fun r h' => ∃ t, (t = none → o = []) ∧ HOk h [(t, .tok 5 1 (o.length * 1))] ∧ r = ow t 1 (List.map c_u8 o) ∧ h' = hp h [(t, .tok 5 1 (o.length * 1))]) := by
  refine ACalls_hp 7 [.tmp 2] Try.func11 rfl rfl rfl rfl ?_
  unfold M11 at hm
  refine AW_k fun K1 H1 => ?_
  refine AW_reg ?_
  refine s_v (o_as (.sc (.slice _ _ _)) rfl) ?_
  refine s_nil ?_
  refine H1 _ _ ?_
  clear H1 K1
  refine AW_k fun K2 H2 => ?_
  refine AW_reg ?_
  refine s_v (o_as (.sc (.slice _ _ _)) rfl) ?_
  refine s_nil ?_
  refine H2 _ _ ?_
  clear H2 K2
  refine AW_k fun K3 H3 => ?_
  refine AW_reg ?_
  refine s_v (o_mv (.sc (.slice _ _ _)) rfl) ?_
  refine s_v (o_mv (.sl _ _ _) rfl) ?_
  obtain ⟨z4, hz5, hm⟩ := bind_of hm
  refine s_op (a_app0 (c := c_u8) hz5 et22 rfl rfl (HOk.nil _) nofun rfl fun tg6 ot7 hk8 => ?_)
  refine s_v (o_as (ow _ _ _) rfl) ?_
  refine s_nil ?_
  refine H3 _ _ ?_
  clear H3 K3
  refine AW_ret ?_
  cases hm
  exact Ret.one (.inl rfl) (hp_sub (.cons_cons _ (List.nil_sublist _)) hk8).1 (ALe.refl _ _) ⟨tg6, ot7, (hp_sub (.cons_cons _ (List.nil_sublist _)) hk8).2, rfl, rfl⟩
theorem bd11 : bodied Try.prog 11 = true := by kernel_rfl
def M15_L0 (fuel : Nat) (p0 : List Int) (q43 : Int) (q44 : Int) : Option (Lp (Int × Int) (Int)) :=
  if (decide (q44 < (p0.length : Int))) = true then ((ix p0 q44).bind fun x51 => after (if (decide (64 ≤ (IntKind.wrap .i64 (q44 + 1)))) = true then (some (.brk true)) else if (decide (8 ≤ (IntKind.wrap .i64 (q44 + 1)))) = true then (some (.brk (((IntKind.wrap .u32 ((IntKind.wrap .u32 (q43 * 2 ^ (min (1 : Int).toNat (IntKind.bits .u32)))) + (IntKind.wrap .u32 ((IntKind.wrap .u32 ((IntKind.wrap .u32 x51) + 1)) * 2654435761)))).fdiv (2 ^ (min (28 : Int).toNat (IntKind.bits .u32)))) == 0))) else some (.brk false) : Option (Lp (Bool) (Lp (Int × Int) (Int)))) fun j58 => if j58 = true then (some (.ret (IntKind.wrap .i64 (q44 + 1)))) else some (.go (IntKind.wrap .u32 ((IntKind.wrap .u32 (q43 * 2 ^ (min (1 : Int).toNat (IntKind.bits .u32)))) + (IntKind.wrap .u32 ((IntKind.wrap .u32 ((IntKind.wrap .u32 x51) + 1)) * 2654435761))), IntKind.wrap .i64 (q44 + 1)))) else some (.brk (q43, q44))
def M15 (fuel : Nat) (p0 : List Int) : Option (Int) :=
  after (loopM (fun s => M15_L0 fuel p0 s.1 s.2) fuel (0, 0)) fun ⟨r64, r65⟩ => some (p0.length : Int)
set_option maxHeartbeats 4000000 in
set_option maxRecDepth 100000 in
/-- cellarer/cdc.Next -/
theorem W15 {fuel : Nat} {p0 : List Int} {o : Int} (h : Heap) (hm : M15 fuel p0 = some o) :
    ACalls Try.prog 15 [.sl none 1 (List.map c_u8 p0)] h (fun r h' => r = .sc (.int .i64 o) ∧ h' = h) := by
  refine ACalls_hp 38 [.tmp 2] Try.func15 rfl rfl rfl rfl ?_
  unfold M15 at hm
  refine AW_k fun K1 H1 => ?_
  refine AW_reg ?_
  refine s_v (o_as (.sc (.int _ _)) rfl) ?_
  refine s_nil ?_
  refine H1 _ _ ?_
  clear H1 K1
  refine AW_k fun K2 H2 => ?_
  refine AW_reg ?_
  refine s_v (o_as (.sc (.int _ _)) rfl) ?_
  refine s_nil ?_
  refine H2 _ _ ?_
  clear H2 K2
  refine AW_k fun K3 H3 => ?_
  refine AW_k fun K4 H4 => ?_
  refine AW_reg ?_
  refine s_v (o_mv (.sl _ _ _) rfl) ?_
  refine s_v (o_lenm ln22 rfl) ?_
  refine s_v (o_mv (.sc (.int _ _)) rfl) ?_
  refine s_nil ?_
  refine H4 _ _ ?_
  clear H4 K4
  refine AW_loopG (n := 38) hm (σ := Int × Int) (τ := Unit) (fun g s => HOk h []) (fun g s => kp (kp (kp (kp (kp (k0) 9 (.sc (.int .i64 s.2))) 8 (.sc (.int .i64 (p0.length : Int)))) 7 (.sl none 1 (List.map c_u8 p0))) 3 (.sc (.int .u32 s.1))) 0 (.sl none 1 (List.map c_u8 p0))) (fun g s => hp h []) () (HOk.nil _) (LeF.fm (Sub.refl _) (.cons (ALe.refl _ _) (.cons (ALe.refl _ _) (.cons (ALe.refl _ _) (.cons (ALe.refl _ _) (.cons (ALe.refl _ _) (.nil))))))) ?_ ?_
  · rintro _ ⟨q43, q44⟩ x hk45 hm
    replace hm : M15_L0 fuel p0 q43 q44 = some x := hm
    unfold M15_L0 at hm
    refine AW_k fun K46 H46 => ?_
    refine AW_reg ?_
    refine s_v (o_bi rfl rfl rfl trivial) ?_
    refine s_nil ?_
    refine H46 _ _ ?_
    clear H46 K46
    refine AW_k fun K47 H47 => ?_
    refine AW_if' rfl (fun hc48 => ?_) (fun hc48 => ?_)
    · replace hm := ite_t hm hc48
      refine AW_skip ?_
      refine H47 _ _ ?_
      clear H47 K47
      refine AW_k fun K49 H49 => ?_
      refine AW_block ?_
      refine AW_k fun K50 H50 => ?_
      refine AW_reg ?_
      refine s_v (o_mv (.sc (.int _ _)) rfl) ?_
      obtain ⟨x51, hx52, hm⟩ := bind_of hm
      refine s_v (o_ix hx52 el22 rfl rfl) ?_
      refine s_v (o_ld (.sc (.int .u8 x51)) ld5 rfl rfl) ?_
      refine s_v (o_as (.sc (.int _ _)) rfl) ?_
      refine s_v (o_as (.sc (.int _ _)) rfl) ?_
      refine s_nil ?_
      refine H50 _ _ ?_
      clear H50 K50
      refine AW_k fun K53 H53 => ?_
      refine AW_reg ?_
      refine s_v (o_mv (.sc (.int _ _)) rfl) ?_
      refine s_v (o_sh rfl rfl rfl (by decide)) ?_
      refine s_v (o_mv (.sc (.int _ _)) rfl) ?_
      refine s_v (o_cv ti5 ti44 rfl) ?_
      refine s_v (o_bi rfl rfl rfl trivial) ?_
      refine s_v (o_bi rfl rfl rfl trivial) ?_
      refine s_v (o_bi rfl rfl rfl trivial) ?_
      refine s_v (o_as (.sc (.int _ _)) rfl) ?_
      refine s_nil ?_
      refine H53 _ _ ?_
      clear H53 K53
      refine AW_k fun K54 H54 => ?_
      refine AW_reg ?_
      refine s_v (o_mv (.sc (.int _ _)) rfl) ?_
      refine s_v (o_bi rfl rfl rfl trivial) ?_
      refine s_v (o_as (.sc (.int _ _)) rfl) ?_
      refine s_nil ?_
      refine H54 _ _ ?_
      clear H54 K54
      refine AW_k fun K55 H55 => ?_
      refine AW_joinG (n := 38) hm (σ := Bool) (τ := Unit) (fun g s => HOk h []) (fun g s => kp (kp (kp (kp (kp (kp (kp (k0) 33 (.sc (.bool s))) 9 (.sc (.int .i64 q44))) 8 (.sc (.int .i64 (p0.length : Int)))) 7 (.sl none 1 (List.map c_u8 p0))) 6 (.sc (.int .i64 (IntKind.wrap .i64 (q44 + 1))))) 3 (.sc (.int .u32 (IntKind.wrap .u32 ((IntKind.wrap .u32 (q43 * 2 ^ (min (1 : Int).toNat (IntKind.bits .u32)))) + (IntKind.wrap .u32 ((IntKind.wrap .u32 ((IntKind.wrap .u32 x51) + 1)) * 2654435761))))))) 0 (.sl none 1 (List.map c_u8 p0))) (fun g s => hp h []) (fun x hm => ?_) ?_
      · refine AW_reg ?_
        refine s_v (o_mv (.sc (.int _ _)) rfl) ?_
        refine s_v (o_bi rfl rfl rfl trivial) ?_
        refine s_v (o_mv (.sc (.bool _)) rfl) ?_
        rcases Bool.eq_false_or_eq_true (decide (64 ≤ (IntKind.wrap .i64 (q44 + 1)))) with hb59 | hb59
        · replace hm := ite_t hm hb59
          refine sg_n rfl rfl hb59 ?_
          refine sg_n rfl rfl hb59 ?_
          refine sg_n rfl rfl hb59 ?_
          refine sg_u rfl rfl ?_
          refine sg_u rfl rfl ?_
          refine sg_u rfl rfl ?_
          refine sg_n rfl rfl hb59 ?_
          refine s_v (o_pkt (.sc (.bool _)) rfl hb59 rfl) ?_
          refine s_nil ?_
          cases hm
          exact ⟨rfl, (), hk45, LeF.fm (Sub.refl _) (.cons (ALe.refl _ _) (.cons (ALe.refl _ _) (.cons (ALe.refl _ _) (.cons (ALe.refl _ _) (.cons (ALe.refl _ _) (.cons (ALe.refl _ _) (.cons (ALe.refl _ _) (.nil))))))))⟩
        · replace hm := ite_f hm hb59
          refine sg_y rfl rfl hb59 ?_
          refine s_v (o_mv (.sc (.int _ _)) rfl) ?_
          refine sg_y rfl rfl hb59 ?_
          refine s_v (o_bi rfl rfl rfl trivial) ?_
          refine sg_y rfl rfl hb59 ?_
          refine s_v (o_mv (.sc (.bool _)) rfl) ?_
          rcases Bool.eq_false_or_eq_true (decide (8 ≤ (IntKind.wrap .i64 (q44 + 1)))) with hb60 | hb60
          · replace hm := ite_t hm hb60
            refine sg_y rfl rfl hb60 ?_
            refine s_v (o_mv (.sc (.int _ _)) rfl) ?_
            refine sg_y rfl rfl hb60 ?_
            refine s_v (o_sh rfl rfl rfl (by decide)) ?_
            refine sg_y rfl rfl hb60 ?_
            refine s_v (o_bi rfl rfl rfl trivial) ?_
            refine sg_y rfl rfl hb59 ?_
            refine s_v (o_pkt (.sc (.bool _)) rfl hb60 rfl) ?_
            refine s_v (o_pkf (.sc (.bool _)) rfl hb59 rfl) ?_
            refine s_nil ?_
            cases hm
            exact ⟨rfl, (), hk45, LeF.fm (Sub.refl _) (.cons (ALe.refl _ _) (.cons (ALe.refl _ _) (.cons (ALe.refl _ _) (.cons (ALe.refl _ _) (.cons (ALe.refl _ _) (.cons (ALe.refl _ _) (.cons (ALe.refl _ _) (.nil))))))))⟩
          · replace hm := ite_f hm hb60
            refine sg_n rfl rfl hb60 ?_
            refine sg_n rfl rfl hb60 ?_
            refine sg_n rfl rfl hb60 ?_
            refine sg_y rfl rfl hb59 ?_
            refine s_v (o_pkf (.sc (.bool _)) rfl hb60 rfl) ?_
            refine s_v (o_pkf (.sc (.bool _)) rfl hb59 rfl) ?_
            refine s_nil ?_
            cases hm
            exact ⟨rfl, (), hk45, LeF.fm (Sub.refl _) (.cons (ALe.refl _ _) (.cons (ALe.refl _ _) (.cons (ALe.refl _ _) (.cons (ALe.refl _ _) (.cons (ALe.refl _ _) (.cons (ALe.refl _ _) (.cons (ALe.refl _ _) (.nil))))))))⟩
      · rintro _ j58 fr' h' hk61 hm le
        refine H55 _ _ (le.aw ?_)
        clear le H55 K55
        refine AW_if' rfl (fun hc62 => ?_) (fun hc62 => ?_)
        · replace hm := ite_t hm hc62
          refine AW_k fun K63 H63 => ?_
          refine AW_reg ?_
          refine s_v (o_mv (.sc (.int _ _)) rfl) ?_
          refine s_v (o_as (.sc (.int _ _)) rfl) ?_
          refine s_nil ?_
          refine H63 _ _ ?_
          clear H63 K63
          refine AW_ret ?_
          cases hm
          refine ⟨⟨nofun, nofun⟩, fun he => ?_⟩
          subst he
          exact Ret.of1 (.inl rfl) (rsT _ _ (.sc (.int _ _)) rfl) (Sub.refl _) (ALe.refl _ _) ⟨rfl, rfl⟩
        · replace hm := ite_f hm hc62
          refine AW_skip ?_
          refine H49 _ _ ?_
          clear H49 K49
          refine AW_reg ?_
          refine s_v (o_bi rfl rfl rfl trivial) ?_
          refine s_v (o_mv (.sc (.int _ _)) rfl) ?_
          refine s_nil ?_
          cases hm
          exact ⟨rfl, (), hk61, LeF.fm (Sub.refl _) (.cons (ALe.refl _ _) (.cons (ALe.refl _ _) (.cons (ALe.refl _ _) (.cons (ALe.refl _ _) (.cons (ALe.refl _ _) (.nil))))))⟩
    · replace hm := ite_f hm hc48
      refine AW_exit ?_
      refine Seq_exit ?_
      cases hm
      exact ⟨rfl, (), hk45, LeF.fm (Sub.refl _) (.cons (ALe.refl _ _) (.cons (ALe.refl _ _) (.cons (ALe.refl _ _) (.cons (ALe.refl _ _) (.cons (ALe.refl _ _) (.nil))))))⟩
  · rintro _ ⟨r64, r65⟩ fr' h' hk66 hm le
    refine H3 _ _ (le.aw ?_)
    clear le H3 K3
    refine AW_k fun K67 H67 => ?_
    refine AW_reg ?_
    refine s_v (o_mv (.sl _ _ _) rfl) ?_
    refine s_v (o_lenm ln22 rfl) ?_
    refine s_v (o_as (.sc (.int _ _)) rfl) ?_
    refine s_nil ?_
    refine H67 _ _ ?_
    clear H67 K67
    refine AW_ret ?_
    cases hm
    exact Ret.of1 (.inl rfl) (rsT _ _ (.sc (.int _ _)) rfl) (Sub.refl _) (ALe.refl _ _) ⟨rfl, rfl⟩
theorem bd15 : bodied Try.prog 15 = true := by kernel_rfl
def M18_L0 (fuel : Nat) (p0 : List Int) (p1 : List Int) (q31 : Int) : Option (Lp (Int) (Bool)) :=
  if (decide (q31 < (p0.length : Int))) = true then ((ix p0 q31).bind fun x38 => (ix p1 q31).bind fun x40 => if (x38 != x40) = true then (some (.ret false)) else some (.go (IntKind.wrap .i64 (q31 + 1)))) else some (.brk q31)
def M18 (fuel : Nat) (p0 : List Int) (p1 : List Int) : Option (Bool) :=
  if ((p0.length : Int) != (p1.length : Int)) = true then (some false) else after (loopM (fun s => M18_L0 fuel p0 p1 s) fuel 0) fun r44 => some true
set_option maxHeartbeats 4000000 in
set_option maxRecDepth 100000 in
/-- cellarer/cellarerkeep.Bytes -/
theorem W18 {fuel : Nat} {p0 : List Int} {p1 : List Int} {o : Bool} (h : Heap) (hm : M18 fuel p0 p1 = some o) :
    ACalls Try.prog 18 [.sl none 1 (List.map c_u8 p0), .sl none 1 (List.map c_u8 p1)] h (fun r h' => r = .sc (.bool o) ∧ h' = h) := by
  refine ACalls_hp 26 [.tmp 4] Try.func18 rfl rfl rfl rfl ?_
  unfold M18 at hm
  refine AW_k fun K1 H1 => ?_
  refine AW_reg ?_
  refine s_v (o_as (.sc (.bool _)) rfl) ?_
  refine s_nil ?_
  refine H1 _ _ ?_
  clear H1 K1
  refine AW_k fun K2 H2 => ?_
  refine AW_k fun K3 H3 => ?_
  refine AW_reg ?_
  refine s_v (o_mv (.sl _ _ _) rfl) ?_
  refine s_v (o_lenm ln22 rfl) ?_
  refine s_v (o_mv (.sl _ _ _) rfl) ?_
  refine s_v (o_lenm ln22 rfl) ?_
  refine s_v (o_bi rfl rfl rfl trivial) ?_
  refine s_nil ?_
  refine H3 _ _ ?_
  clear H3 K3
  refine AW_if' rfl (fun hc4 => ?_) (fun hc4 => ?_)
  · replace hm := ite_t hm hc4
    refine AW_k fun K5 H5 => ?_
    refine AW_reg ?_
    refine s_v (o_as (.sc (.bool _)) rfl) ?_
    refine s_nil ?_
    refine H5 _ _ ?_
    clear H5 K5
    refine AW_ret ?_
    cases hm
    exact Ret.of1 (.inl rfl) (rsT _ _ (.sc (.bool _)) rfl) (Sub.refl _) (ALe.refl _ _) ⟨rfl, rfl⟩
  · replace hm := ite_f hm hc4
    refine AW_skip ?_
    refine H2 _ _ ?_
    clear H2 K2
    refine AW_k fun K6 H6 => ?_
    refine AW_k fun K7 H7 => ?_
    refine AW_reg ?_
    refine s_v (o_as (.sc (.int _ _)) rfl) ?_
    refine s_nil ?_
    refine H7 _ _ ?_
    clear H7 K7
    refine AW_loopG (n := 26) hm (σ := Int) (τ := Unit) (fun g s => HOk h []) (fun g s => kp (kp (kp (k0) 5 (.sc (.int .i64 s))) 1 (.sl none 1 (List.map c_u8 p1))) 0 (.sl none 1 (List.map c_u8 p0))) (fun g s => hp h []) () (HOk.nil _) (LeF.fm (Sub.refl _) (.cons (ALe.refl _ _) (.cons (ALe.refl _ _) (.cons (ALe.refl _ _) (.nil))))) ?_ ?_
    · rintro _ q31 x hk32 hm
      replace hm : M18_L0 fuel p0 p1 q31 = some x := hm
      unfold M18_L0 at hm
      refine AW_k fun K33 H33 => ?_
      refine AW_k fun K34 H34 => ?_
      refine AW_reg ?_
      refine s_v (o_mv (.sc (.int _ _)) rfl) ?_
      refine s_v (o_mv (.sl _ _ _) rfl) ?_
      refine s_v (o_lenm ln22 rfl) ?_
      refine s_v (o_bi rfl rfl rfl trivial) ?_
      refine s_nil ?_
      refine H34 _ _ ?_
      clear H34 K34
      refine AW_if' rfl (fun hc35 => ?_) (fun hc35 => ?_)
      · replace hm := ite_t hm hc35
        refine AW_skip ?_
        refine H33 _ _ ?_
        clear H33 K33
        refine AW_k fun K36 H36 => ?_
        refine AW_block ?_
        refine AW_k fun K37 H37 => ?_
        refine AW_region_q [(some 17, [0], []), (some 18, [5], []), (some 19, [17, 18], [0, 1]), (some 20, [19], [2]), (some 21, [1], []), (some 22, [5], []), (some 23, [21, 22], [4, 5]), (some 24, [23], [6]), (some 25, [20, 24], [3, 7])] mixed (by kernel_rfl) (by kernel_rfl) ?_
        refine q_v (o_mv (.sl _ _ _) rfl) ?_
        refine q_v (o_mv (.sc (.int _ _)) rfl) ?_
        obtain ⟨x38, hx39, hm⟩ := bind_of hm
        refine q_v (o_ix hx39 el22 rfl rfl) ?_
        refine q_v (o_ld (.sc (.int .u8 x38)) ld5 rfl rfl) ?_
        refine q_v (o_mv (.sl _ _ _) rfl) ?_
        refine q_v (o_mv (.sc (.int _ _)) rfl) ?_
        obtain ⟨x40, hx41, hm⟩ := bind_of hm
        refine q_v (o_ix hx41 el22 rfl rfl) ?_
        refine q_v (o_ld (.sc (.int .u8 x40)) ld5 rfl rfl) ?_
        refine q_v (o_bi rfl rfl rfl trivial) ?_
        refine q_nil ?_
        refine H37 _ _ ?_
        clear H37 K37
        refine AW_if' rfl (fun hc42 => ?_) (fun hc42 => ?_)
        · replace hm := ite_t hm hc42
          refine AW_k fun K43 H43 => ?_
          refine AW_reg ?_
          refine s_v (o_as (.sc (.bool _)) rfl) ?_
          refine s_nil ?_
          refine H43 _ _ ?_
          clear H43 K43
          refine AW_ret ?_
          cases hm
          refine ⟨⟨nofun, nofun⟩, fun he => ?_⟩
          subst he
          exact Ret.of1 (.inl rfl) (rsT _ _ (.sc (.bool _)) rfl) (Sub.refl _) (ALe.refl _ _) ⟨rfl, rfl⟩
        · replace hm := ite_f hm hc42
          refine AW_skip ?_
          refine H36 _ _ ?_
          clear H36 K36
          refine AW_reg ?_
          refine s_v (o_mv (.sc (.int _ _)) rfl) ?_
          refine s_v (o_bi rfl rfl rfl trivial) ?_
          refine s_v (o_as (.sc (.int _ _)) rfl) ?_
          refine s_nil ?_
          cases hm
          exact ⟨rfl, (), hk32, LeF.fm (Sub.refl _) (.cons (ALe.refl _ _) (.cons (ALe.refl _ _) (.cons (ALe.refl _ _) (.nil))))⟩
      · replace hm := ite_f hm hc35
        refine AW_exit ?_
        refine Seq_exit ?_
        cases hm
        exact ⟨rfl, (), hk32, LeF.fm (Sub.refl _) (.cons (ALe.refl _ _) (.cons (ALe.refl _ _) (.cons (ALe.refl _ _) (.nil))))⟩
    · rintro _ r44 fr' h' hk45 hm le
      refine H6 _ _ (le.aw ?_)
      clear le H6 K6
      refine AW_k fun K46 H46 => ?_
      refine AW_reg ?_
      refine s_v (o_as (.sc (.bool _)) rfl) ?_
      refine s_nil ?_
      refine H46 _ _ ?_
      clear H46 K46
      refine AW_ret ?_
      cases hm
      exact Ret.of1 (.inl rfl) (rsT _ _ (.sc (.bool _)) rfl) (Sub.refl _) (ALe.refl _ _) ⟨rfl, rfl⟩
theorem bd18 : bodied Try.prog 18 = true := by kernel_rfl
def M24 (fuel : Nat) (p0 : List Int) : Option (List Int) := app [] p0
set_option maxRecDepth 100000 in
/-- slices.Clone(()byte,byte) -/
theorem W24 {fuel : Nat} {p0 : List Int} {o : List Int} (h : Heap) (hm : M24 fuel p0 = some o) :
    ACalls Try.prog 24 [.sl none 1 (List.map c_u8 p0)] h (fun r h' => ∃ t, (t = none → o = []) ∧ HOk h [(t, .tok 5 1 (o.length * 1))] ∧ r = ow t 1 (List.map c_u8 o) ∧ h' = hp h [(t, .tok 5 1 (o.length * 1))]) := by
  refine ACalls_hp 8 [.tmp 2] Try.func24 rfl rfl rfl rfl ?_
  unfold M24 at hm
  refine AW_k fun K1 H1 => ?_
  refine AW_reg ?_
  refine s_v (o_as (.sc (.slice _ _ _)) rfl) ?_
  refine s_nil ?_
  refine H1 _ _ ?_
  clear H1 K1
  refine AW_k fun K1 H1 => ?_
  refine AW_k fun K2 H2 => ?_
  refine AW_reg ?_
  refine s_v (o_mv (.sl _ _ _) rfl) ?_
  refine s_op (AOp_eqnil rfl (by rw [el22]; rfl) (by rw [ev_fm]; exact rfl) (.inl ⟨_, _, _, rfl, fun b hb => ?_⟩))
  refine s_nil ?_
  refine H2 _ _ ?_
  clear H2 K2
  refine AW_if' rfl (fun hc => ?_) (fun hc => ?_)
  · have h0 : p0 = [] := by
      cases p0 with
      | nil => rfl
      | cons x l => have := hb (by simp); rw [this] at hc; cases hc
    subst h0
    obtain ⟨rfl, -⟩ := app_spec hm
    refine AW_k fun K1 H1 => ?_
    refine AW_reg ?_
    refine s_v (o_as (.sc (.slice _ _ _)) rfl) ?_
    refine s_nil ?_
    refine H1 _ _ ?_
    refine AW_ret ?_
    exact Ret.one (.inl rfl) (Sub.refl _) (ow_nil _ _) ⟨none, fun _ => rfl, HOk.none (HOk.nil _), rfl, rfl⟩
  · refine AW_skip ?_
    refine H1 _ _ ?_
    clear H1 K1
    refine AW_k fun K1 H1 => ?_
    refine AW_reg ?_
    refine s_op (a_lit0 (c := c_u8) (HOk.nil _) et22 fun hk => ?_)
    refine s_v (o_mv (.sl _ _ _) rfl) ?_
    refine s_op (a_app (c := c_u8) 0 hm et22 rfl rfl rfl (fun _ => rfl) hk rfl fun tg ot hk => ?_)
    refine s_v (o_as (ow _ _ _) rfl) ?_
    refine s_nil ?_
    refine H1 _ _ ?_
    refine AW_ret ?_
    exact Ret.one (.inl rfl) (Sub.refl _) (ALe.refl _ _) ⟨tg, ot, hk, rfl, rfl⟩
theorem bd24 : bodied Try.prog 24 = true := by kernel_rfl
def M12_L0 (fuel : Nat) (q80 : List (List Int)) (q83 : List Int) : Option (Lp ((List (List Int)) × (List Int)) ((List (List Int)) × Int)) :=
  if (decide (0 < (q83.length : Int))) = true then ((M15 fuel q83).bind fun y89 => (slc q83 0 y89).bind fun x92 => (M24 fuel x92).bind fun y94 => (app q80 ([y94] : List (List Int))).bind fun z100 => (slc q83 y89 (q83).length).bind fun x105 => some (.go (z100, x105))) else some (.brk (q80, q83))
def M12 (fuel : Nat) (p0 : List Int) : Option ((List (List Int)) × Int) :=
  if (decide (32768 < (p0.length : Int))) = true then (some ([], 2)) else after (loopM (fun s => M12_L0 fuel s.1 s.2) fuel ([], p0)) fun ⟨r107, r108⟩ => some (r107, 0)
set_option maxHeartbeats 4000000 in
set_option maxRecDepth 100000 in
/-- cellarer/cdc.Cut -/
theorem W12 {fuel : Nat} {p0 : List Int} {o : (List (List Int)) × Int} (h : Heap) (hm : M12 fuel p0 = some o) :
    ACalls Try.prog 12 [.sl none 1 (List.map c_u8 p0)] h (fun r h' => r = .tup [.sl none 1 (List.map c_s_u8 o.1), .sc (.int .i64 o.2)] ∧ h' = h) := by
  refine ACalls_hp 25 [.tmp 2, .tmp 3] Try.func12 rfl rfl rfl rfl ?_
  unfold M12 at hm
  refine AW_k fun K1 H1 => ?_
  refine AW_reg ?_
  refine s_v (o_as (.sc (.slice _ _ _)) rfl) ?_
  refine s_v (o_as (.sc (.int _ _)) rfl) ?_
  refine s_nil ?_
  refine H1 _ _ ?_
  clear H1 K1
  refine AW_k fun K2 H2 => ?_
  refine AW_k fun K3 H3 => ?_
  refine AW_reg ?_
  refine s_v (o_mv (.sl _ _ _) rfl) ?_
  refine s_v (o_lenm ln22 rfl) ?_
  refine s_v (o_bi rfl rfl rfl trivial) ?_
  refine s_nil ?_
  refine H3 _ _ ?_
  clear H3 K3
  refine AW_if' rfl (fun hc4 => ?_) (fun hc4 => ?_)
  · replace hm := ite_t hm hc4
    refine AW_k fun K5 H5 => ?_
    refine AW_reg ?_
    refine s_v (o_as (.sc (.slice _ _ _)) rfl) ?_
    refine s_v (o_as (.sc (.int _ _)) rfl) ?_
    refine s_nil ?_
    refine H5 _ _ ?_
    clear H5 K5
    refine AW_ret ?_
    cases hm
    exact Ret.of2 (.inl rfl) (rsT _ _ (.sc (.slice _ _ _)) rfl) (rsT _ _ (.sc (.int _ _)) rfl) (Sub.refl _) (nil_lem _) (ALe.refl _ _) ⟨rfl, rfl⟩
  · replace hm := ite_f hm hc4
    refine AW_skip ?_
    refine H2 _ _ ?_
    clear H2 K2
    refine AW_k fun K6 H6 => ?_
    refine AW_reg ?_
    refine s_v (o_as (.sc (.slice _ _ _)) rfl) ?_
    refine s_nil ?_
    refine H6 _ _ ?_
    clear H6 K6
    refine AW_k fun K7 H7 => ?_
    refine (LeF.put (t := 4) (v := ow none 1 (List.map c_s_u8 [])) (Sub.refl _) (ow_nil _ _)).aw ?_
    refine AW_loopG (n := 25) hm (σ := (List (List Int)) × (List Int)) (τ := Option Key) (fun g s => HOk h [(g, .tok 22 1 ((s.1 : List (List Int)).length * 1))] ∧ (g = none → s.1 = [])) (fun g s => kp (kp (k0) 4 (ow g 1 (List.map c_s_u8 s.1))) 0 (.sl none 1 (List.map c_u8 s.2))) (fun g s => hp h [(g, .tok 22 1 ((s.1 : List (List Int)).length * 1))]) none (⟨HOk.none (HOk.nil _), (fun _ => rfl)⟩) (LeF.fm (Sub.refl _) (.cons (ALe.refl _ _) (.cons (ALe.refl _ _) (.nil)))) ?_ ?_
    · rintro tg81 ⟨q80, q83⟩ x ⟨hk84, ot82⟩ hm
      replace hm : M12_L0 fuel q80 q83 = some x := hm
      unfold M12_L0 at hm
      refine AW_k fun K85 H85 => ?_
      refine AW_k fun K86 H86 => ?_
      refine AW_reg ?_
      refine s_v (o_mv (.sl _ _ _) rfl) ?_
      refine s_v (o_lenm ln22 rfl) ?_
      refine s_v (o_bi rfl rfl rfl trivial) ?_
      refine s_nil ?_
      refine H86 _ _ ?_
      clear H86 K86
      refine AW_if' rfl (fun hc87 => ?_) (fun hc87 => ?_)
      · replace hm := ite_t hm hc87
        refine AW_skip ?_
        refine H85 _ _ ?_
        clear H85 K85
        refine AW_block ?_
        refine AW_k fun K88 H88 => ?_
        refine AW_reg ?_
        refine s_v (o_mv (.sl _ _ _) rfl) ?_
        obtain ⟨y89, hy90, hm⟩ := bind_of hm
        refine s_v (o_call (W15 _ hy90) rfl bd15 rfl) ?_
        refine s_v (o_as (.sc (.int _ _)) rfl) ?_
        refine s_nil ?_
        refine H88 _ _ ?_
        clear H88 K88
        refine AW_k fun K91 H91 => ?_
        refine AW_reg ?_
        refine s_v (o_mv (ow _ _ _) rfl) ?_
        refine s_v (o_mv (.sl _ _ _) rfl) ?_
        refine s_v (o_mv (.sc (.int _ _)) rfl) ?_
        obtain ⟨x92, hx93, hm⟩ := bind_of hm
        refine s_v (o_slc hx93 el22 rfl rfl rfl rfl) ?_
        obtain ⟨y94, hy95, hm⟩ := bind_of hm
        refine s_op (a_call (W24 _ hy95) rfl bd24 rfl ?_)
        rintro x h' ⟨tg96, ot97, hk98, rfl, rfl⟩
        rw [hp_cat]
        refine s_fz (t := 18) (.sl none 1 (List.map c_u8 y94)) (hp_sub (List.eraseIdx_sublist _ 0) (HOk.co hk84 hk98)).1 (own_frzE _ 0 ot97 (HOk.co hk84 hk98) rfl (.refl _)) ?_
        refine s_v (o_lit (List.map c_s_u8 ([y94] : List (List Int))) et24 rfl rfl rfl rfl) ?_
        obtain ⟨z100, hz101, hm⟩ := bind_of hm
        refine s_op (a_app (c := c_s_u8) 0 hz101 et24 rfl rfl rfl ot82 ((hp_sub (List.eraseIdx_sublist _ 0) (HOk.co hk84 hk98)).2) rfl fun tg102 ot103 hk104 => ?_)
        refine s_v (o_as (ow _ _ _) rfl) ?_
        refine s_nil ?_
        refine H91 _ _ ?_
        clear H91 K91
        refine AW_reg ?_
        refine s_v (o_mv (.sl _ _ _) rfl) ?_
        refine s_v (o_mv (.sc (.int _ _)) rfl) ?_
        obtain ⟨x105, hx106, hm⟩ := bind_of hm
        refine s_v (o_slc hx106 el22 rfl rfl rfl rfl) ?_
        refine s_v (o_as (.sl _ _ _) rfl) ?_
        refine s_nil ?_
        cases hm
        exact ⟨rfl, tg102, ⟨hk104, ot103⟩, LeF.fm (Sub.refl _) (.cons (ALe.refl _ _) (.cons (ALe.refl _ _) (.nil)))⟩
      · replace hm := ite_f hm hc87
        refine AW_exit ?_
        refine Seq_exit ?_
        cases hm
        exact ⟨rfl, tg81, ⟨hk84, ot82⟩, LeF.fm (Sub.refl _) (.cons (ALe.refl _ _) (.cons (ALe.refl _ _) (.nil)))⟩
    · rintro tg109 ⟨r107, r108⟩ fr' h' ⟨hk111, ot110⟩ hm le
      refine H7 _ _ (le.aw ?_)
      clear le H7 K7
      refine AW_k fun K112 H112 => ?_
      refine AW_reg ?_
      refine s_v (o_mv (ow _ _ _) rfl) ?_
      refine s_v (o_as (ow _ _ _) rfl) ?_
      refine s_v (o_as (.sc (.int _ _)) rfl) ?_
      refine s_nil ?_
      refine H112 _ _ ?_
      clear H112 K112
      refine AW_ret ?_
      cases hm
      exact Ret.of2 (.inl rfl) (rsT _ _ (ow _ _ _) rfl) (rsT _ _ (.sc (.int _ _)) rfl) (hp_sub (List.nil_sublist _) hk111).1 ((own_frz0 _ 0 ot110 hk111 rfl)) (ALe.refl _ _) ⟨rfl, rfl⟩
theorem bd12 : bodied Try.prog 12 = true := by kernel_rfl
def M19 (fuel : Nat) : Option (Bool) :=
  (M12 fuel ([97, 98, 99] : List Int)).bind fun y7 => after (if (y7.2 == 0) = true then (if ((y7.1.length : Int) == 1) = true then ((ix y7.1 0).bind fun x22 => (bstr x22).bind fun st24 => if (st24.toList == (ByteArray.mk #[97, 98, 99]).toList) = true then ((M15 fuel []).bind fun y27 => some (.brk (y27 == 0))) else some (.brk false)) else some (.brk false)) else some (.brk false) : Option (Lp (Bool) (Bool))) fun j19 => some j19
set_option maxHeartbeats 4000000 in
set_option maxRecDepth 100000 in
/-- cellarer/cellarerlaw04.wakes -/
theorem W19 {fuel : Nat} {o : Bool} (h : Heap) (hm : M19 fuel = some o) :
    ACalls Try.prog 19 [] h (fun r h' => r = .sc (.bool o) ∧ h' = h) := by
  refine ACalls_hp 27 [.tmp 0] Try.func19 rfl rfl rfl rfl ?_
  unfold M19 at hm
  refine AW_k fun K1 H1 => ?_
  refine AW_reg ?_
  refine s_v (o_as (.sc (.bool _)) rfl) ?_
  refine s_nil ?_
  refine H1 _ _ ?_
  clear H1 K1
  refine AW_k fun K2 H2 => ?_
  refine AW_reg ?_
  refine s_op (a_litg (c := c_u8) ([97, 98, 99] : List Int) (HOk.nil _) et22 rfl rfl rfl rfl fun tg3 ot4 hk5 => ?_)
  refine s_op (a_cvown 0 u22 u5 (by simp) rfl rfl ot4 hk5 ?_)
  skip
  obtain ⟨y7, hy8, hm⟩ := bind_of hm
  refine s_v (o_call (W12 _ hy8) rfl bd12 rfl) ?_
  refine s_v (o_mv (.tup _) rfl) ?_
  refine s_v (o_ex (.sl _ _ _) rfl rfl) ?_
  refine s_v (o_ex (.sc (.int _ _)) rfl rfl) ?_
  refine s_v (o_as (.sl _ _ _) rfl) ?_
  refine s_v (o_as (.sc (.int _ _)) rfl) ?_
  refine s_nil ?_
  refine H2 _ _ ?_
  clear H2 K2
  refine AW_k fun K9 H9 => ?_
  refine AW_joinG (n := 27) hm (σ := Bool) (τ := Unit) (fun g s => HOk h []) (fun g s => kp (k0) 0 (.sc (.bool s))) (fun g s => hp h []) (fun x hm => ?_) ?_
  · refine AW_reg ?_
    refine s_v (o_mv (.sc (.int _ _)) rfl) ?_
    refine s_v (o_bi rfl rfl rfl trivial) ?_
    refine s_v (o_mv (.sc (.bool _)) rfl) ?_
    rcases Bool.eq_false_or_eq_true (y7.2 == 0) with hb20 | hb20
    · replace hm := ite_t hm hb20
      refine sg_y rfl rfl hb20 ?_
      refine s_v (o_mv (.sl _ _ _) rfl) ?_
      refine sg_y rfl rfl hb20 ?_
      refine s_v (o_lenm ln24 rfl) ?_
      refine sg_y rfl rfl hb20 ?_
      refine s_v (o_bi rfl rfl rfl trivial) ?_
      refine s_v (o_pkt (.sc (.bool _)) rfl hb20 rfl) ?_
      refine s_v (o_mv (.sc (.bool _)) rfl) ?_
      rcases Bool.eq_false_or_eq_true ((y7.1.length : Int) == 1) with hb21 | hb21
      · replace hm := ite_t hm hb21
        refine sg_y rfl rfl hb21 ?_
        refine s_v (o_mv (.sl _ _ _) rfl) ?_
        refine sg_y rfl rfl hb21 ?_
        obtain ⟨x22, hx23, hm⟩ := bind_of hm
        refine s_v (o_ix hx23 el24 rfl rfl) ?_
        refine sg_y rfl rfl hb21 ?_
        refine s_v (o_ld (.sl none 1 (List.map c_u8 x22)) ld22 rfl rfl) ?_
        refine sg_y rfl rfl hb21 ?_
        obtain ⟨st24, hs25, hm⟩ := bind_of hm
        refine s_v (o_bstr (c := c_u8) hs25 (fun _ => rfl) u22 u5 u9 rfl) ?_
        refine sg_y rfl rfl hb21 ?_
        refine s_v (o_bs rfl rfl rfl trivial) ?_
        refine s_v (o_pkt (.sc (.bool _)) rfl hb21 rfl) ?_
        refine s_v (o_mv (.sc (.bool _)) rfl) ?_
        rcases Bool.eq_false_or_eq_true (st24.toList == (ByteArray.mk #[97, 98, 99]).toList) with hb26 | hb26
        · replace hm := ite_t hm hb26
          refine sg_y rfl rfl hb26 ?_
          obtain ⟨y27, hy28, hm⟩ := bind_of hm
          refine s_v (o_call (ACalls_le (.cons (nil_lem _) (.nil)) (W15 _ hy28)) rfl bd15 rfl) ?_
          refine sg_y rfl rfl hb26 ?_
          refine s_v (o_bi rfl rfl rfl trivial) ?_
          refine s_v (o_pkt (.sc (.bool _)) rfl hb26 rfl) ?_
          refine s_v (o_as (.sc (.bool _)) rfl) ?_
          refine s_nil ?_
          cases hm
          exact ⟨rfl, (), (hp_sub (List.eraseIdx_sublist _ 0) hk5).2, LeF.fm (Sub.refl _) (.cons (ALe.refl _ _) (.nil))⟩
        · replace hm := ite_f hm hb26
          refine sg_n rfl rfl hb26 ?_
          refine sg_n rfl rfl hb26 ?_
          refine s_v (o_pkf (.sc (.bool _)) rfl hb26 rfl) ?_
          refine s_v (o_as (.sc (.bool _)) rfl) ?_
          refine s_nil ?_
          cases hm
          exact ⟨rfl, (), (hp_sub (List.eraseIdx_sublist _ 0) hk5).2, LeF.fm (Sub.refl _) (.cons (ALe.refl _ _) (.nil))⟩
      · replace hm := ite_f hm hb21
        refine sg_n rfl rfl hb21 ?_
        refine sg_n rfl rfl hb21 ?_
        refine sg_n rfl rfl hb21 ?_
        refine sg_n rfl rfl hb21 ?_
        refine sg_n rfl rfl hb21 ?_
        refine s_v (o_pkf (.sc (.bool _)) rfl hb21 rfl) ?_
        refine s_v (o_mv (.sc (.bool _)) rfl) ?_
        refine sg_n rfl rfl rfl ?_
        refine sg_n rfl rfl rfl ?_
        refine s_v (o_pkf (.sc (.bool _)) rfl rfl rfl) ?_
        refine s_v (o_as (.sc (.bool _)) rfl) ?_
        refine s_nil ?_
        cases hm
        exact ⟨rfl, (), (hp_sub (List.eraseIdx_sublist _ 0) hk5).2, LeF.fm (Sub.refl _) (.cons (ALe.refl _ _) (.nil))⟩
    · replace hm := ite_f hm hb20
      refine sg_n rfl rfl hb20 ?_
      refine sg_n rfl rfl hb20 ?_
      refine sg_n rfl rfl hb20 ?_
      refine s_v (o_pkf (.sc (.bool _)) rfl hb20 rfl) ?_
      refine s_v (o_mv (.sc (.bool _)) rfl) ?_
      refine sg_n rfl rfl rfl ?_
      refine sg_n rfl rfl rfl ?_
      refine sg_n rfl rfl rfl ?_
      refine sg_n rfl rfl rfl ?_
      refine sg_n rfl rfl rfl ?_
      refine s_v (o_pkf (.sc (.bool _)) rfl rfl rfl) ?_
      refine s_v (o_mv (.sc (.bool _)) rfl) ?_
      refine sg_n rfl rfl rfl ?_
      refine sg_n rfl rfl rfl ?_
      refine s_v (o_pkf (.sc (.bool _)) rfl rfl rfl) ?_
      refine s_v (o_as (.sc (.bool _)) rfl) ?_
      refine s_nil ?_
      cases hm
      exact ⟨rfl, (), (hp_sub (List.eraseIdx_sublist _ 0) hk5).2, LeF.fm (Sub.refl _) (.cons (ALe.refl _ _) (.nil))⟩
  · rintro _ j19 fr' h' hk29 hm le
    refine H9 _ _ (le.aw ?_)
    clear le H9 K9
    refine AW_ret ?_
    cases hm
    exact Ret.of1 (.inl rfl) (rsT _ _ (.sc (.bool _)) rfl) (Sub.refl _) (ALe.refl _ _) ⟨rfl, rfl⟩
theorem bd19 : bodied Try.prog 19 = true := by kernel_rfl
end Go.Proofs.Ytafflcbcpbgloaa
