import Derived.Test.YtafflcbcpbgloaaQ7Xa
set_option linter.unusedSimpArgs false
set_option linter.unusedVariables false
namespace Go.Proofs.Ytafflcbcpbgloaa
open Go.Vm
def M7_L2 (fuel : Nat) (y24 : (List (List Int)) × Int) (y38 : (List (List Int)) × Int) (q388 : Int) (q389 : Int) (q508 : Int) : Option (Lp (Int) (Lp (Unit) (Lp (Int × Int × Int × Int) (Bool)))) :=
  after (if (decide ((IntKind.wrap .i64 (q388 + q508)) < (y24.1.length : Int))) = true then (some (.brk (decide ((IntKind.wrap .i64 (q389 + q508)) < (y38.1.length : Int))))) else some (.brk false) : Option (Lp (Bool) (Lp (Int) (Lp (Unit) (Lp (Int × Int × Int × Int) (Bool)))))) fun j513 => if j513 = true then ((ix y24.1 (IntKind.wrap .i64 (q388 + q508))).bind fun x519 => (ix y38.1 (IntKind.wrap .i64 (q389 + q508))).bind fun x521 => (M18 fuel x519 x521).bind fun y523 => if (!y523) = true then (some (.ret (.ret (.ret false)))) else some (.go (IntKind.wrap .i64 (q508 + 1)))) else some (.brk q508)
def M7_L0 (fuel : Nat) (p2 : List Int) (y24 : (List (List Int)) × Int) (y38 : (List (List Int)) × Int) (q388 : Int) (q389 : Int) (q390 : Int) (q391 : Int) : Option (Lp (Int × Int × Int × Int) (Bool)) :=
  after (if (decide (0 < q388)) = true then (some (.brk (decide (0 < q389)))) else some (.brk false) : Option (Lp (Bool) (Lp (Int × Int × Int × Int) (Bool)))) fun j396 => if j396 = true then (after (if (q390 == q391) = true then (if (decide (q390 ≤ (p2.length : Int))) = true then (some (.brk (decide (0 < q390)))) else some (.brk false)) else some (.brk false) : Option (Lp (Bool) (Lp (Int × Int × Int × Int) (Bool)))) fun j404 => after (if j404 = true then (after (loopM (fun s => M7_L2 fuel y24 y38 q388 q389 s) fuel 0) fun r527 => if ((IntKind.wrap .i64 ((y24.1.length : Int) - q388)) != (IntKind.wrap .i64 ((y38.1.length : Int) - q389))) = true then (some (.ret (.ret false))) else some (.brk ())) else some (.brk ()) : Option (Lp (Unit) (Lp (Int × Int × Int × Int) (Bool)))) fun _ => after (if (decide (q390 ≤ q391)) = true then ((ix y24.1 (IntKind.wrap .i64 (q388 - 1))).bind fun x548 => some (.brk (IntKind.wrap .i64 (q388 - 1), q389, IntKind.wrap .i64 (q390 + (x548.length : Int)), q391))) else (ix y38.1 (IntKind.wrap .i64 (q389 - 1))).bind fun x551 => some (.brk (q388, IntKind.wrap .i64 (q389 - 1), q390, IntKind.wrap .i64 (q391 + (x551.length : Int)))) : Option (Lp (Int × Int × Int × Int) (Lp (Int × Int × Int × Int) (Bool)))) fun ⟨j542, j543, j544, j545⟩ => after (if (decide ((p2.length : Int) < j544)) = true then (some (.brk true)) else some (.brk (decide ((p2.length : Int) < j545))) : Option (Lp (Bool) (Lp (Int × Int × Int × Int) (Bool)))) fun j556 => if j556 = true then (some (.brk (j542, j543, j544, j545))) else some (.go (j542, j543, j544, j545))) else some (.brk (q388, q389, q390, q391))
def M7 (fuel : Nat) (p0 : List Int) (p1 : List Int) (p2 : List Int) : Option (Bool) :=
  after (if (decide (1500 < (p0.length : Int))) = true then (some (.brk true)) else if (decide (1500 < (p1.length : Int))) = true then (some (.brk true)) else some (.brk (decide (1500 < (p2.length : Int)))) : Option (Lp (Bool) (Bool))) fun j6 => if j6 = true then (some true) else (M11 fuel p0).bind fun y13 => (app y13 p2).bind fun z19 => (M12 fuel z19).bind fun y24 => (M11 fuel p1).bind fun y27 => (app y27 p2).bind fun z33 => (M12 fuel z33).bind fun y38 => after (if (y24.2 != 0) = true then (some (.brk true)) else some (.brk (y38.2 != 0)) : Option (Lp (Bool) (Bool))) fun j43 => if j43 = true then (some false) else after (loopM (fun s => M7_L0 fuel p2 y24 y38 s.1 s.2.1 s.2.2.1 s.2.2.2) fuel ((y24.1.length : Int), (y38.1.length : Int), 0, 0)) fun ⟨r560, r561, r562, r563⟩ => (M19 fuel).bind fun y566 => some y566
set_option maxHeartbeats 4000000 in
set_option maxRecDepth 100000 in
/-- cellarer/cellarerlaw04.CdcShared -/
theorem W7 {fuel : Nat} {p0 : List Int} {p1 : List Int} {p2 : List Int} {o : Bool} (h : Heap) (hm : M7 fuel p0 p1 p2 = some o) :
    ACalls Try.prog 7 [.sl none 1 (List.map c_u8 p0), .sl none 1 (List.map c_u8 p1), .sl none 1 (List.map c_u8 p2)] h (fun r h' => r = .sc (.bool o) ∧ h' = h) := by
  refine ACalls_hp 145 [.tmp 6] Try.func7 rfl rfl rfl rfl ?_
  unfold M7 at hm
  refine AW_k fun K1 H1 => ?_
  refine AW_reg ?_
  refine s_v (o_as (.sc (.bool _)) rfl) ?_
  refine s_nil ?_
  refine H1 _ _ ?_
  clear H1 K1
  refine AW_k fun K2 H2 => ?_
  refine AW_k fun K3 H3 => ?_
  refine AW_joinG (n := 145) hm (σ := Bool) (τ := Unit) (fun g s => HOk h []) (fun g s => kp (kp (kp (kp (k0) 28 (.sc (.bool s))) 2 (.sl none 1 (List.map c_u8 p2))) 1 (.sl none 1 (List.map c_u8 p1))) 0 (.sl none 1 (List.map c_u8 p0))) (fun g s => hp h []) (fun x hm => ?_) ?_
  · refine AW_reg ?_
    refine s_v (o_mv (.sl _ _ _) rfl) ?_
    refine s_v (o_lenm ln22 rfl) ?_
    refine s_v (o_bi rfl rfl rfl trivial) ?_
    refine s_v (o_mv (.sc (.bool _)) rfl) ?_
    rcases Bool.eq_false_or_eq_true (decide (1500 < (p0.length : Int))) with hb7 | hb7
    · replace hm := ite_t hm hb7
      refine sg_n rfl rfl hb7 ?_
      refine sg_n rfl rfl hb7 ?_
      refine sg_n rfl rfl hb7 ?_
      refine s_v (o_pkt (.sc (.bool _)) rfl hb7 rfl) ?_
      refine s_v (o_mv (.sc (.bool _)) rfl) ?_
      refine sg_n rfl rfl rfl ?_
      refine sg_n rfl rfl rfl ?_
      refine sg_n rfl rfl rfl ?_
      refine s_v (o_pkt (.sc (.bool _)) rfl rfl rfl) ?_
      refine s_nil ?_
      cases hm
      exact ⟨rfl, (), HOk.nil _, LeF.fm (Sub.refl _) (.cons (ALe.refl _ _) (.cons (ALe.refl _ _) (.cons (ALe.refl _ _) (.cons (ALe.refl _ _) (.nil)))))⟩
    · replace hm := ite_f hm hb7
      refine sg_y rfl rfl hb7 ?_
      refine s_v (o_mv (.sl _ _ _) rfl) ?_
      refine sg_y rfl rfl hb7 ?_
      refine s_v (o_lenm ln22 rfl) ?_
      refine sg_y rfl rfl hb7 ?_
      refine s_v (o_bi rfl rfl rfl trivial) ?_
      refine s_v (o_pkf (.sc (.bool _)) rfl hb7 rfl) ?_
      refine s_v (o_mv (.sc (.bool _)) rfl) ?_
      rcases Bool.eq_false_or_eq_true (decide (1500 < (p1.length : Int))) with hb8 | hb8
      · replace hm := ite_t hm hb8
        refine sg_n rfl rfl hb8 ?_
        refine sg_n rfl rfl hb8 ?_
        refine sg_n rfl rfl hb8 ?_
        refine s_v (o_pkt (.sc (.bool _)) rfl hb8 rfl) ?_
        refine s_nil ?_
        cases hm
        exact ⟨rfl, (), HOk.nil _, LeF.fm (Sub.refl _) (.cons (ALe.refl _ _) (.cons (ALe.refl _ _) (.cons (ALe.refl _ _) (.cons (ALe.refl _ _) (.nil)))))⟩
      · replace hm := ite_f hm hb8
        refine sg_y rfl rfl hb8 ?_
        refine s_v (o_mv (.sl _ _ _) rfl) ?_
        refine sg_y rfl rfl hb8 ?_
        refine s_v (o_lenm ln22 rfl) ?_
        refine sg_y rfl rfl hb8 ?_
        refine s_v (o_bi rfl rfl rfl trivial) ?_
        refine s_v (o_pkf (.sc (.bool _)) rfl hb8 rfl) ?_
        refine s_nil ?_
        cases hm
        exact ⟨rfl, (), HOk.nil _, LeF.fm (Sub.refl _) (.cons (ALe.refl _ _) (.cons (ALe.refl _ _) (.cons (ALe.refl _ _) (.cons (ALe.refl _ _) (.nil)))))⟩
  · rintro _ j6 fr' h' hk9 hm le
    refine H3 _ _ (le.aw ?_)
    clear le H3 K3
    refine AW_if' rfl (fun hc10 => ?_) (fun hc10 => ?_)
    · replace hm := ite_t hm hc10
      refine AW_k fun K11 H11 => ?_
      refine AW_reg ?_
      refine s_v (o_as (.sc (.bool _)) rfl) ?_
      refine s_nil ?_
      refine H11 _ _ ?_
      clear H11 K11
      refine AW_ret ?_
      cases hm
      exact Ret.of1 (.inl rfl) (rsT _ _ (.sc (.bool _)) rfl) (Sub.refl _) (ALe.refl _ _) ⟨rfl, rfl⟩
    · replace hm := ite_f hm hc10
      refine AW_skip ?_
      refine H2 _ _ ?_
      clear H2 K2
      refine AW_k fun K12 H12 => ?_
      refine AW_reg ?_
      refine s_v (o_mv (.sl _ _ _) rfl) ?_
      obtain ⟨y13, hy14, hm⟩ := bind_of hm
      refine s_op (a_call (W11 _ hy14) rfl bd11 rfl ?_)
      rintro x h' ⟨tg15, ot16, hk17, rfl, rfl⟩
      rw [hp_cat]
      refine s_v (o_mv (.sl _ _ _) rfl) ?_
      obtain ⟨z19, hz20, hm⟩ := bind_of hm
      refine s_op (a_app (c := c_u8) 0 hz20 et22 rfl rfl rfl ot16 (HOk.co hk9 hk17) rfl fun tg21 ot22 hk23 => ?_)
      obtain ⟨y24, hy25, hm⟩ := bind_of hm
      refine s_fz (t := 33) (.sl none 1 (List.map c_u8 z19)) (hp_sub (List.eraseIdx_sublist _ 0) hk23).1 (own_frzE _ 0 ot22 hk23 rfl (.refl _)) ?_
      refine s_v (o_call (W12 _ hy25) rfl bd12 rfl) ?_
      refine s_v (o_mv (.tup _) rfl) ?_
      refine s_v (o_ex (.sl _ _ _) rfl rfl) ?_
      refine s_v (o_ex (.sc (.int _ _)) rfl rfl) ?_
      refine s_v (o_as (.sl _ _ _) rfl) ?_
      refine s_v (o_as (.sc (.int _ _)) rfl) ?_
      refine s_nil ?_
      refine H12 _ _ ?_
      clear H12 K12
      refine AW_k fun K26 H26 => ?_
      refine AW_reg ?_
      refine s_v (o_mv (.sl _ _ _) rfl) ?_
      obtain ⟨y27, hy28, hm⟩ := bind_of hm
      refine s_op (a_call (W11 _ hy28) rfl bd11 rfl ?_)
      rintro x h' ⟨tg29, ot30, hk31, rfl, rfl⟩
      rw [hp_cat]
      refine s_v (o_mv (.sl _ _ _) rfl) ?_
      obtain ⟨z33, hz34, hm⟩ := bind_of hm
      refine s_op (a_app (c := c_u8) 0 hz34 et22 rfl rfl rfl ot30 (HOk.co ((hp_sub (List.eraseIdx_sublist _ 0) hk23).2) hk31) rfl fun tg35 ot36 hk37 => ?_)
      obtain ⟨y38, hy39, hm⟩ := bind_of hm
      refine s_fz (t := 41) (.sl none 1 (List.map c_u8 z33)) (hp_sub (List.eraseIdx_sublist _ 0) hk37).1 (own_frzE _ 0 ot36 hk37 rfl (.refl _)) ?_
      refine s_v (o_call (W12 _ hy39) rfl bd12 rfl) ?_
      refine s_v (o_mv (.tup _) rfl) ?_
      refine s_v (o_ex (.sl _ _ _) rfl rfl) ?_
      refine s_v (o_ex (.sc (.int _ _)) rfl rfl) ?_
      refine s_v (o_as (.sl _ _ _) rfl) ?_
      refine s_v (o_as (.sc (.int _ _)) rfl) ?_
      refine s_nil ?_
      refine H26 _ _ ?_
      clear H26 K26
      refine AW_k fun K40 H40 => ?_
      refine AW_k fun K41 H41 => ?_
      refine AW_joinG (n := 145) hm (σ := Bool) (τ := Unit) (fun g s => HOk h []) (fun g s => kp (kp (kp (kp (k0) 50 (.sc (.bool s))) 9 (.sl none 1 (List.map c_s_u8 y38.1))) 7 (.sl none 1 (List.map c_s_u8 y24.1))) 2 (.sl none 1 (List.map c_u8 p2))) (fun g s => hp h []) (fun x hm => ?_) ?_
      · refine AW_reg ?_
        refine s_v (o_mv (.sc (.int _ _)) rfl) ?_
        refine s_v (o_bi rfl rfl rfl trivial) ?_
        refine s_v (o_mv (.sc (.bool _)) rfl) ?_
        rcases Bool.eq_false_or_eq_true (y24.2 != 0) with hb44 | hb44
        · replace hm := ite_t hm hb44
          refine sg_n rfl rfl hb44 ?_
          refine sg_n rfl rfl hb44 ?_
          refine s_v (o_pkt (.sc (.bool _)) rfl hb44 rfl) ?_
          refine s_nil ?_
          cases hm
          exact ⟨rfl, (), (hp_sub (List.eraseIdx_sublist _ 0) hk37).2, LeF.fm (Sub.refl _) (.cons (ALe.refl _ _) (.cons (ALe.refl _ _) (.cons (ALe.refl _ _) (.cons (ALe.refl _ _) (.nil)))))⟩
        · replace hm := ite_f hm hb44
          refine sg_y rfl rfl hb44 ?_
          refine s_v (o_mv (.sc (.int _ _)) rfl) ?_
          refine sg_y rfl rfl hb44 ?_
          refine s_v (o_bi rfl rfl rfl trivial) ?_
          refine s_v (o_pkf (.sc (.bool _)) rfl hb44 rfl) ?_
          refine s_nil ?_
          cases hm
          exact ⟨rfl, (), (hp_sub (List.eraseIdx_sublist _ 0) hk37).2, LeF.fm (Sub.refl _) (.cons (ALe.refl _ _) (.cons (ALe.refl _ _) (.cons (ALe.refl _ _) (.cons (ALe.refl _ _) (.nil)))))⟩
      · rintro _ j43 fr' h' hk45 hm le
        refine H41 _ _ (le.aw ?_)
        clear le H41 K41
        refine AW_if' rfl (fun hc46 => ?_) (fun hc46 => ?_)
        · replace hm := ite_t hm hc46
          refine AW_k fun K47 H47 => ?_
          refine AW_reg ?_
          refine s_v (o_as (.sc (.bool _)) rfl) ?_
          refine s_nil ?_
          refine H47 _ _ ?_
          clear H47 K47
          refine AW_ret ?_
          cases hm
          exact Ret.of1 (.inl rfl) (rsT _ _ (.sc (.bool _)) rfl) (Sub.refl _) (ALe.refl _ _) ⟨rfl, rfl⟩
        · replace hm := ite_f hm hc46
          refine AW_skip ?_
          refine H40 _ _ ?_
          clear H40 K40
          refine AW_k fun K48 H48 => ?_
          refine AW_reg ?_
          refine s_v (o_mv (.sl _ _ _) rfl) ?_
          refine s_v (o_lenm ln24 rfl) ?_
          refine s_v (o_mv (.sl _ _ _) rfl) ?_
          refine s_v (o_lenm ln24 rfl) ?_
          refine s_v (o_as (.sc (.int _ _)) rfl) ?_
          refine s_v (o_as (.sc (.int _ _)) rfl) ?_
          refine s_v (o_as (.sc (.int _ _)) rfl) ?_
          refine s_v (o_as (.sc (.int _ _)) rfl) ?_
          refine s_nil ?_
          refine H48 _ _ ?_
          clear H48 K48
          refine AW_k fun K49 H49 => ?_
          refine AW_loopG (n := 145) hm (σ := Int × Int × Int × Int) (τ := Unit) (fun g s => HOk h []) (fun g s => kp (kp (kp (kp (kp (kp (kp (k0) 14 (.sc (.int .i64 s.2.2.2))) 13 (.sc (.int .i64 s.2.2.1))) 12 (.sc (.int .i64 s.2.1))) 11 (.sc (.int .i64 s.1))) 9 (.sl none 1 (List.map c_s_u8 y38.1))) 7 (.sl none 1 (List.map c_s_u8 y24.1))) 2 (.sl none 1 (List.map c_u8 p2))) (fun g s => hp h []) () hk45 (LeF.fm (Sub.refl _) (.cons (ALe.refl _ _) (.cons (ALe.refl _ _) (.cons (ALe.refl _ _) (.cons (ALe.refl _ _) (.cons (ALe.refl _ _) (.cons (ALe.refl _ _) (.cons (ALe.refl _ _) (.nil))))))))) ?_ ?_
          · rintro _ ⟨q388, q389, q390, q391⟩ x hk392 hm
            replace hm : M7_L0 fuel p2 y24 y38 q388 q389 q390 q391 = some x := hm
            unfold M7_L0 at hm
            refine AW_k fun K393 H393 => ?_
            refine AW_k fun K394 H394 => ?_
            refine AW_joinG (n := 145) hm (σ := Bool) (τ := Unit) (fun g s => HOk h []) (fun g s => kp (kp (kp (kp (kp (kp (kp (kp (k0) 60 (.sc (.bool s))) 14 (.sc (.int .i64 q391))) 13 (.sc (.int .i64 q390))) 12 (.sc (.int .i64 q389))) 11 (.sc (.int .i64 q388))) 9 (.sl none 1 (List.map c_s_u8 y38.1))) 7 (.sl none 1 (List.map c_s_u8 y24.1))) 2 (.sl none 1 (List.map c_u8 p2))) (fun g s => hp h []) (fun x hm => ?_) ?_
            · refine AW_reg ?_
              refine s_v (o_mv (.sc (.int _ _)) rfl) ?_
              refine s_v (o_bi rfl rfl rfl trivial) ?_
              refine s_v (o_mv (.sc (.bool _)) rfl) ?_
              rcases Bool.eq_false_or_eq_true (decide (0 < q388)) with hb397 | hb397
              · replace hm := ite_t hm hb397
                refine sg_y rfl rfl hb397 ?_
                refine s_v (o_mv (.sc (.int _ _)) rfl) ?_
                refine sg_y rfl rfl hb397 ?_
                refine s_v (o_bi rfl rfl rfl trivial) ?_
                refine s_v (o_pkt (.sc (.bool _)) rfl hb397 rfl) ?_
                refine s_nil ?_
                cases hm
                exact ⟨rfl, (), hk392, LeF.fm (Sub.refl _) (.cons (ALe.refl _ _) (.cons (ALe.refl _ _) (.cons (ALe.refl _ _) (.cons (ALe.refl _ _) (.cons (ALe.refl _ _) (.cons (ALe.refl _ _) (.cons (ALe.refl _ _) (.cons (ALe.refl _ _) (.nil)))))))))⟩
              · replace hm := ite_f hm hb397
                refine sg_n rfl rfl hb397 ?_
                refine sg_n rfl rfl hb397 ?_
                refine s_v (o_pkf (.sc (.bool _)) rfl hb397 rfl) ?_
                refine s_nil ?_
                cases hm
                exact ⟨rfl, (), hk392, LeF.fm (Sub.refl _) (.cons (ALe.refl _ _) (.cons (ALe.refl _ _) (.cons (ALe.refl _ _) (.cons (ALe.refl _ _) (.cons (ALe.refl _ _) (.cons (ALe.refl _ _) (.cons (ALe.refl _ _) (.cons (ALe.refl _ _) (.nil)))))))))⟩
            · rintro _ j396 fr' h' hk398 hm le
              refine H394 _ _ (le.aw ?_)
              clear le H394 K394
              refine AW_if' rfl (fun hc399 => ?_) (fun hc399 => ?_)
              · replace hm := ite_t hm hc399
                refine AW_skip ?_
                refine H393 _ _ ?_
                clear H393 K393
                refine AW_block ?_
                refine AW_k fun K400 H400 => ?_
                refine AW_k fun K401 H401 => ?_
                refine AW_joinG (n := 145) hm (σ := Bool) (τ := Unit) (fun g s => HOk h []) (fun g s => kp (kp (kp (kp (kp (kp (kp (kp (k0) 73 (.sc (.bool s))) 14 (.sc (.int .i64 q391))) 13 (.sc (.int .i64 q390))) 12 (.sc (.int .i64 q389))) 11 (.sc (.int .i64 q388))) 9 (.sl none 1 (List.map c_s_u8 y38.1))) 7 (.sl none 1 (List.map c_s_u8 y24.1))) 2 (.sl none 1 (List.map c_u8 p2))) (fun g s => hp h []) (fun x hm => ?_) ?_
                · refine AW_reg ?_
                  refine s_v (o_mv (.sc (.int _ _)) rfl) ?_
                  refine s_v (o_mv (.sc (.int _ _)) rfl) ?_
                  refine s_v (o_bi rfl rfl rfl trivial) ?_
                  refine s_v (o_mv (.sc (.bool _)) rfl) ?_
                  rcases Bool.eq_false_or_eq_true (q390 == q391) with hb405 | hb405
                  · replace hm := ite_t hm hb405
                    refine sg_y rfl rfl hb405 ?_
                    refine s_v (o_mv (.sc (.int _ _)) rfl) ?_
                    refine sg_y rfl rfl hb405 ?_
                    refine s_v (o_mv (.sl _ _ _) rfl) ?_
                    refine sg_y rfl rfl hb405 ?_
                    refine s_v (o_lenm ln22 rfl) ?_
                    refine sg_y rfl rfl hb405 ?_
                    refine s_v (o_bi rfl rfl rfl trivial) ?_
                    refine s_v (o_pkt (.sc (.bool _)) rfl hb405 rfl) ?_
                    refine s_v (o_mv (.sc (.bool _)) rfl) ?_
                    rcases Bool.eq_false_or_eq_true (decide (q390 ≤ (p2.length : Int))) with hb406 | hb406
                    · replace hm := ite_t hm hb406
                      refine sg_y rfl rfl hb406 ?_
                      refine s_v (o_mv (.sc (.int _ _)) rfl) ?_
                      refine sg_y rfl rfl hb406 ?_
                      refine s_v (o_bi rfl rfl rfl trivial) ?_
                      refine s_v (o_pkt (.sc (.bool _)) rfl hb406 rfl) ?_
                      refine s_nil ?_
                      cases hm
                      exact ⟨rfl, (), hk398, LeF.fm (Sub.refl _) (.cons (ALe.refl _ _) (.cons (ALe.refl _ _) (.cons (ALe.refl _ _) (.cons (ALe.refl _ _) (.cons (ALe.refl _ _) (.cons (ALe.refl _ _) (.cons (ALe.refl _ _) (.cons (ALe.refl _ _) (.nil)))))))))⟩
                    · replace hm := ite_f hm hb406
                      refine sg_n rfl rfl hb406 ?_
                      refine sg_n rfl rfl hb406 ?_
                      refine s_v (o_pkf (.sc (.bool _)) rfl hb406 rfl) ?_
                      refine s_nil ?_
                      cases hm
                      exact ⟨rfl, (), hk398, LeF.fm (Sub.refl _) (.cons (ALe.refl _ _) (.cons (ALe.refl _ _) (.cons (ALe.refl _ _) (.cons (ALe.refl _ _) (.cons (ALe.refl _ _) (.cons (ALe.refl _ _) (.cons (ALe.refl _ _) (.cons (ALe.refl _ _) (.nil)))))))))⟩
                  · replace hm := ite_f hm hb405
                    refine sg_n rfl rfl hb405 ?_
                    refine sg_n rfl rfl hb405 ?_
                    refine sg_n rfl rfl hb405 ?_
                    refine sg_n rfl rfl hb405 ?_
                    refine s_v (o_pkf (.sc (.bool _)) rfl hb405 rfl) ?_
                    refine s_v (o_mv (.sc (.bool _)) rfl) ?_
                    refine sg_n rfl rfl rfl ?_
                    refine sg_n rfl rfl rfl ?_
                    refine s_v (o_pkf (.sc (.bool _)) rfl rfl rfl) ?_
                    refine s_nil ?_
                    cases hm
                    exact ⟨rfl, (), hk398, LeF.fm (Sub.refl _) (.cons (ALe.refl _ _) (.cons (ALe.refl _ _) (.cons (ALe.refl _ _) (.cons (ALe.refl _ _) (.cons (ALe.refl _ _) (.cons (ALe.refl _ _) (.cons (ALe.refl _ _) (.cons (ALe.refl _ _) (.nil)))))))))⟩
                · rintro _ j404 fr' h' hk407 hm le
                  refine H401 _ _ (le.aw ?_)
                  clear le H401 K401
                  refine AW_joinG (n := 145) hm (σ := Unit) (τ := Unit) (fun g s => HOk h []) (fun g s => kp (kp (kp (kp (kp (kp (kp (k0) 14 (.sc (.int .i64 q391))) 13 (.sc (.int .i64 q390))) 12 (.sc (.int .i64 q389))) 11 (.sc (.int .i64 q388))) 9 (.sl none 1 (List.map c_s_u8 y38.1))) 7 (.sl none 1 (List.map c_s_u8 y24.1))) 2 (.sl none 1 (List.map c_u8 p2))) (fun g s => hp h []) (fun x hm => ?_) ?_
                  · refine AW_if' rfl (fun hc470 => ?_) (fun hc470 => ?_)
                    · replace hm := ite_t hm hc470
                      refine AW_k fun K471 H471 => ?_
                      refine AW_k fun K472 H472 => ?_
                      refine AW_reg ?_
                      refine s_v (o_as (.sc (.int _ _)) rfl) ?_
                      refine s_nil ?_
                      refine H472 _ _ ?_
                      clear H472 K472
                      refine AW_loopG (n := 145) hm (σ := Int) (τ := Unit) (fun g s => HOk h []) (fun g s => kp (kp (kp (kp (kp (kp (kp (kp (k0) 15 (.sc (.int .i64 s))) 14 (.sc (.int .i64 q391))) 13 (.sc (.int .i64 q390))) 12 (.sc (.int .i64 q389))) 11 (.sc (.int .i64 q388))) 9 (.sl none 1 (List.map c_s_u8 y38.1))) 7 (.sl none 1 (List.map c_s_u8 y24.1))) 2 (.sl none 1 (List.map c_u8 p2))) (fun g s => hp h []) () hk407 (LeF.fm (Sub.refl _) (.cons (ALe.refl _ _) (.cons (ALe.refl _ _) (.cons (ALe.refl _ _) (.cons (ALe.refl _ _) (.cons (ALe.refl _ _) (.cons (ALe.refl _ _) (.cons (ALe.refl _ _) (.cons (ALe.refl _ _) (.nil)))))))))) ?_ ?_
                      · rintro _ q508 x hk509 hm
                        replace hm : M7_L2 fuel y24 y38 q388 q389 q508 = some x := hm
                        unfold M7_L2 at hm
                        refine AW_k fun K510 H510 => ?_
                        refine AW_k fun K511 H511 => ?_
                        refine AW_joinG (n := 145) hm (σ := Bool) (τ := Unit) (fun g s => HOk h []) (fun g s => kp (kp (kp (kp (kp (kp (kp (kp (kp (k0) 87 (.sc (.bool s))) 15 (.sc (.int .i64 q508))) 14 (.sc (.int .i64 q391))) 13 (.sc (.int .i64 q390))) 12 (.sc (.int .i64 q389))) 11 (.sc (.int .i64 q388))) 9 (.sl none 1 (List.map c_s_u8 y38.1))) 7 (.sl none 1 (List.map c_s_u8 y24.1))) 2 (.sl none 1 (List.map c_u8 p2))) (fun g s => hp h []) (fun x hm => ?_) ?_
                        · refine AW_reg ?_
                          refine s_v (o_mv (.sc (.int _ _)) rfl) ?_
                          refine s_v (o_mv (.sc (.int _ _)) rfl) ?_
                          refine s_v (o_bi rfl rfl rfl trivial) ?_
                          refine s_v (o_mv (.sl _ _ _) rfl) ?_
                          refine s_v (o_lenm ln24 rfl) ?_
                          refine s_v (o_bi rfl rfl rfl trivial) ?_
                          refine s_v (o_mv (.sc (.bool _)) rfl) ?_
                          rcases Bool.eq_false_or_eq_true (decide ((IntKind.wrap .i64 (q388 + q508)) < (y24.1.length : Int))) with hb514 | hb514
                          · replace hm := ite_t hm hb514
                            refine sg_y rfl rfl hb514 ?_
                            refine s_v (o_mv (.sc (.int _ _)) rfl) ?_
                            refine sg_y rfl rfl hb514 ?_
                            refine s_v (o_mv (.sc (.int _ _)) rfl) ?_
                            refine sg_y rfl rfl hb514 ?_
                            refine s_v (o_bi rfl rfl rfl trivial) ?_
                            refine sg_y rfl rfl hb514 ?_
                            refine s_v (o_mv (.sl _ _ _) rfl) ?_
                            refine sg_y rfl rfl hb514 ?_
                            refine s_v (o_lenm ln24 rfl) ?_
                            refine sg_y rfl rfl hb514 ?_
                            refine s_v (o_bi rfl rfl rfl trivial) ?_
                            refine s_v (o_pkt (.sc (.bool _)) rfl hb514 rfl) ?_
                            refine s_nil ?_
                            cases hm
                            exact ⟨rfl, (), hk509, LeF.fm (Sub.refl _) (.cons (ALe.refl _ _) (.cons (ALe.refl _ _) (.cons (ALe.refl _ _) (.cons (ALe.refl _ _) (.cons (ALe.refl _ _) (.cons (ALe.refl _ _) (.cons (ALe.refl _ _) (.cons (ALe.refl _ _) (.cons (ALe.refl _ _) (.nil))))))))))⟩
                          · replace hm := ite_f hm hb514
                            refine sg_n rfl rfl hb514 ?_
                            refine sg_n rfl rfl hb514 ?_
                            refine sg_n rfl rfl hb514 ?_
                            refine sg_n rfl rfl hb514 ?_
                            refine sg_n rfl rfl hb514 ?_
                            refine sg_n rfl rfl hb514 ?_
                            refine s_v (o_pkf (.sc (.bool _)) rfl hb514 rfl) ?_
                            refine s_nil ?_
                            cases hm
                            exact ⟨rfl, (), hk509, LeF.fm (Sub.refl _) (.cons (ALe.refl _ _) (.cons (ALe.refl _ _) (.cons (ALe.refl _ _) (.cons (ALe.refl _ _) (.cons (ALe.refl _ _) (.cons (ALe.refl _ _) (.cons (ALe.refl _ _) (.cons (ALe.refl _ _) (.cons (ALe.refl _ _) (.nil))))))))))⟩
                        · rintro _ j513 fr' h' hk515 hm le
                          refine H511 _ _ (le.aw ?_)
                          clear le H511 K511
                          refine AW_if' rfl (fun hc516 => ?_) (fun hc516 => ?_)
                          · replace hm := ite_t hm hc516
                            refine AW_skip ?_
                            refine H510 _ _ ?_
                            clear H510 K510
                            refine AW_k fun K517 H517 => ?_
                            refine AW_block ?_
                            refine AW_k fun K518 H518 => ?_
                            refine AW_region_q [(some 90, [7], []), (some 91, [11], []), (some 92, [15], []), (some 93, [91, 92], [1, 2]), (some 94, [90, 93], [0, 3]), (some 95, [94], [4]), (some 96, [9], []), (some 97, [12], []), (some 98, [15], []), (some 99, [97, 98], [7, 8]), (some 100, [96, 99], [6, 9]), (some 101, [100], [10]), (some 102, [95, 101], [5, 11]), (some 103, [102], [12])] mixed (by kernel_rfl) (by kernel_rfl) ?_
                            refine q_v (o_mv (.sl _ _ _) rfl) ?_
                            refine q_v (o_mv (.sc (.int _ _)) rfl) ?_
                            refine q_v (o_mv (.sc (.int _ _)) rfl) ?_
                            refine q_v (o_bi rfl rfl rfl trivial) ?_
                            obtain ⟨x519, hx520, hm⟩ := bind_of hm
                            refine q_v (o_ix hx520 el24 rfl rfl) ?_
                            refine q_v (o_ld (.sl none 1 (List.map c_u8 x519)) ld22 rfl rfl) ?_
                            refine q_v (o_mv (.sl _ _ _) rfl) ?_
                            refine q_v (o_mv (.sc (.int _ _)) rfl) ?_
                            refine q_v (o_mv (.sc (.int _ _)) rfl) ?_
                            refine q_v (o_bi rfl rfl rfl trivial) ?_
                            obtain ⟨x521, hx522, hm⟩ := bind_of hm
                            refine q_v (o_ix hx522 el24 rfl rfl) ?_
                            refine q_v (o_ld (.sl none 1 (List.map c_u8 x521)) ld22 rfl rfl) ?_
                            obtain ⟨y523, hy524, hm⟩ := bind_of hm
                            refine q_v (o_call (W18 _ hy524) rfl bd18 rfl) ?_
                            refine q_v (o_not rfl) ?_
                            refine q_nil ?_
                            refine H518 _ _ ?_
                            clear H518 K518
                            refine AW_if' rfl (fun hc525 => ?_) (fun hc525 => ?_)
                            · replace hm := ite_t hm hc525
                              refine AW_k fun K526 H526 => ?_
                              refine AW_reg ?_
                              refine s_v (o_as (.sc (.bool _)) rfl) ?_
                              refine s_nil ?_
                              refine H526 _ _ ?_
                              clear H526 K526
                              refine AW_ret ?_
                              cases hm
                              refine ⟨⟨nofun, nofun⟩, fun he => ?_⟩
                              subst he
                              refine ⟨nofun, fun he => ?_⟩
                              subst he
                              refine ⟨⟨nofun, nofun⟩, fun he => ?_⟩
                              subst he
                              exact Ret.of1 (.inl rfl) (rsT _ _ (.sc (.bool _)) rfl) (Sub.refl _) (ALe.refl _ _) ⟨rfl, rfl⟩
                            · replace hm := ite_f hm hc525
                              refine AW_skip ?_
                              refine H517 _ _ ?_
                              clear H517 K517
                              refine AW_reg ?_
                              refine s_v (o_mv (.sc (.int _ _)) rfl) ?_
                              refine s_v (o_bi rfl rfl rfl trivial) ?_
                              refine s_v (o_as (.sc (.int _ _)) rfl) ?_
                              refine s_nil ?_
                              cases hm
                              exact ⟨rfl, (), hk515, LeF.fm (Sub.refl _) (.cons (ALe.refl _ _) (.cons (ALe.refl _ _) (.cons (ALe.refl _ _) (.cons (ALe.refl _ _) (.cons (ALe.refl _ _) (.cons (ALe.refl _ _) (.cons (ALe.refl _ _) (.cons (ALe.refl _ _) (.nil)))))))))⟩
                          · replace hm := ite_f hm hc516
                            refine AW_exit ?_
                            refine Seq_exit ?_
                            cases hm
                            exact ⟨rfl, (), hk515, LeF.fm (Sub.refl _) (.cons (ALe.refl _ _) (.cons (ALe.refl _ _) (.cons (ALe.refl _ _) (.cons (ALe.refl _ _) (.cons (ALe.refl _ _) (.cons (ALe.refl _ _) (.cons (ALe.refl _ _) (.cons (ALe.refl _ _) (.nil)))))))))⟩
                      · rintro _ r527 fr' h' hk528 hm le
                        refine H471 _ _ (le.aw ?_)
                        clear le H471 K471
                        refine AW_k fun K529 H529 => ?_
                        refine AW_reg ?_
                        refine s_v (o_mv (.sl _ _ _) rfl) ?_
                        refine s_v (o_lenm ln24 rfl) ?_
                        refine s_v (o_mv (.sc (.int _ _)) rfl) ?_
                        refine s_v (o_bi rfl rfl rfl trivial) ?_
                        refine s_v (o_mv (.sl _ _ _) rfl) ?_
                        refine s_v (o_lenm ln24 rfl) ?_
                        refine s_v (o_mv (.sc (.int _ _)) rfl) ?_
                        refine s_v (o_bi rfl rfl rfl trivial) ?_
                        refine s_v (o_bi rfl rfl rfl trivial) ?_
                        refine s_nil ?_
                        refine H529 _ _ ?_
                        clear H529 K529
                        refine AW_if' rfl (fun hc530 => ?_) (fun hc530 => ?_)
                        · replace hm := ite_t hm hc530
                          refine AW_k fun K531 H531 => ?_
                          refine AW_reg ?_
                          refine s_v (o_as (.sc (.bool _)) rfl) ?_
                          refine s_nil ?_
                          refine H531 _ _ ?_
                          clear H531 K531
                          refine AW_ret ?_
                          cases hm
                          refine ⟨nofun, fun he => ?_⟩
                          subst he
                          refine ⟨⟨nofun, nofun⟩, fun he => ?_⟩
                          subst he
                          exact Ret.of1 (.inl rfl) (rsT _ _ (.sc (.bool _)) rfl) (Sub.refl _) (ALe.refl _ _) ⟨rfl, rfl⟩
                        · replace hm := ite_f hm hc530
                          refine AW_skip ?_
                          cases hm
                          exact ⟨rfl, (), hk528, LeF.fm (Sub.refl _) (.cons (ALe.refl _ _) (.cons (ALe.refl _ _) (.cons (ALe.refl _ _) (.cons (ALe.refl _ _) (.cons (ALe.refl _ _) (.cons (ALe.refl _ _) (.cons (ALe.refl _ _) (.nil))))))))⟩
                    · replace hm := ite_f hm hc470
                      refine AW_skip ?_
                      cases hm
                      exact ⟨rfl, (), hk407, LeF.fm (Sub.refl _) (.cons (ALe.refl _ _) (.cons (ALe.refl _ _) (.cons (ALe.refl _ _) (.cons (ALe.refl _ _) (.cons (ALe.refl _ _) (.cons (ALe.refl _ _) (.cons (ALe.refl _ _) (.nil))))))))⟩
                  · rintro _ _ fr' h' hk532 hm le
                    refine H400 _ _ (le.aw ?_)
                    clear le H400 K400
                    refine AW_k fun K533 H533 => ?_
                    refine AW_k fun K534 H534 => ?_
                    refine AW_reg ?_
                    refine s_v (o_mv (.sc (.int _ _)) rfl) ?_
                    refine s_v (o_mv (.sc (.int _ _)) rfl) ?_
                    refine s_v (o_bi rfl rfl rfl trivial) ?_
                    refine s_nil ?_
                    refine H534 _ _ ?_
                    clear H534 K534
                    refine AW_joinG (n := 145) hm (σ := Int × Int × Int × Int) (τ := Unit) (fun g s => HOk h []) (fun g s => kp (kp (kp (kp (kp (kp (kp (k0) 14 (.sc (.int .i64 s.2.2.2))) 13 (.sc (.int .i64 s.2.2.1))) 12 (.sc (.int .i64 s.2.1))) 11 (.sc (.int .i64 s.1))) 9 (.sl none 1 (List.map c_s_u8 y38.1))) 7 (.sl none 1 (List.map c_s_u8 y24.1))) 2 (.sl none 1 (List.map c_u8 p2))) (fun g s => hp h []) (fun x hm => ?_) ?_
                    · refine AW_if' rfl (fun hc546 => ?_) (fun hc546 => ?_)
                      · replace hm := ite_t hm hc546
                        refine AW_k fun K547 H547 => ?_
                        refine AW_reg ?_
                        refine s_v (o_mv (.sc (.int _ _)) rfl) ?_
                        refine s_v (o_bi rfl rfl rfl trivial) ?_
                        refine s_v (o_as (.sc (.int _ _)) rfl) ?_
                        refine s_nil ?_
                        refine H547 _ _ ?_
                        clear H547 K547
                        refine AW_reg ?_
                        refine s_v (o_mv (.sc (.int _ _)) rfl) ?_
                        refine s_v (o_mv (.sl _ _ _) rfl) ?_
                        refine s_v (o_mv (.sc (.int _ _)) rfl) ?_
                        obtain ⟨x548, hx549, hm⟩ := bind_of hm
                        refine s_v (o_ix hx549 el24 rfl rfl) ?_
                        refine s_v (o_ld (.sl none 1 (List.map c_u8 x548)) ld22 rfl rfl) ?_
                        refine s_v (o_lenm ln22 rfl) ?_
                        refine s_v (o_bi rfl rfl rfl trivial) ?_
                        refine s_v (o_as (.sc (.int _ _)) rfl) ?_
                        refine s_nil ?_
                        cases hm
                        exact ⟨rfl, (), hk532, LeF.fm (Sub.refl _) (.cons (ALe.refl _ _) (.cons (ALe.refl _ _) (.cons (ALe.refl _ _) (.cons (ALe.refl _ _) (.cons (ALe.refl _ _) (.cons (ALe.refl _ _) (.cons (ALe.refl _ _) (.nil))))))))⟩
                      · replace hm := ite_f hm hc546
                        refine AW_k fun K550 H550 => ?_
                        refine AW_reg ?_
                        refine s_v (o_mv (.sc (.int _ _)) rfl) ?_
                        refine s_v (o_bi rfl rfl rfl trivial) ?_
                        refine s_v (o_as (.sc (.int _ _)) rfl) ?_
                        refine s_nil ?_
                        refine H550 _ _ ?_
                        clear H550 K550
                        refine AW_reg ?_
                        refine s_v (o_mv (.sc (.int _ _)) rfl) ?_
                        refine s_v (o_mv (.sl _ _ _) rfl) ?_
                        refine s_v (o_mv (.sc (.int _ _)) rfl) ?_
                        obtain ⟨x551, hx552, hm⟩ := bind_of hm
                        refine s_v (o_ix hx552 el24 rfl rfl) ?_
                        refine s_v (o_ld (.sl none 1 (List.map c_u8 x551)) ld22 rfl rfl) ?_
                        refine s_v (o_lenm ln22 rfl) ?_
                        refine s_v (o_bi rfl rfl rfl trivial) ?_
                        refine s_v (o_as (.sc (.int _ _)) rfl) ?_
                        refine s_nil ?_
                        cases hm
                        exact ⟨rfl, (), hk532, LeF.fm (Sub.refl _) (.cons (ALe.refl _ _) (.cons (ALe.refl _ _) (.cons (ALe.refl _ _) (.cons (ALe.refl _ _) (.cons (ALe.refl _ _) (.cons (ALe.refl _ _) (.cons (ALe.refl _ _) (.nil))))))))⟩
                    · rintro _ ⟨j542, j543, j544, j545⟩ fr' h' hk553 hm le
                      refine H533 _ _ (le.aw ?_)
                      clear le H533 K533
                      refine AW_k fun K554 H554 => ?_
                      refine AW_joinG (n := 145) hm (σ := Bool) (τ := Unit) (fun g s => HOk h []) (fun g s => kp (kp (kp (kp (kp (kp (kp (kp (k0) 143 (.sc (.bool s))) 14 (.sc (.int .i64 j545))) 13 (.sc (.int .i64 j544))) 12 (.sc (.int .i64 j543))) 11 (.sc (.int .i64 j542))) 9 (.sl none 1 (List.map c_s_u8 y38.1))) 7 (.sl none 1 (List.map c_s_u8 y24.1))) 2 (.sl none 1 (List.map c_u8 p2))) (fun g s => hp h []) (fun x hm => ?_) ?_
                      · refine AW_reg ?_
                        refine s_v (o_mv (.sc (.int _ _)) rfl) ?_
                        refine s_v (o_mv (.sl _ _ _) rfl) ?_
                        refine s_v (o_lenm ln22 rfl) ?_
                        refine s_v (o_bi rfl rfl rfl trivial) ?_
                        refine s_v (o_mv (.sc (.bool _)) rfl) ?_
                        rcases Bool.eq_false_or_eq_true (decide ((p2.length : Int) < j544)) with hb557 | hb557
                        · replace hm := ite_t hm hb557
                          refine sg_n rfl rfl hb557 ?_
                          refine sg_n rfl rfl hb557 ?_
                          refine sg_n rfl rfl hb557 ?_
                          refine sg_n rfl rfl hb557 ?_
                          refine s_v (o_pkt (.sc (.bool _)) rfl hb557 rfl) ?_
                          refine s_nil ?_
                          cases hm
                          exact ⟨rfl, (), hk553, LeF.fm (Sub.refl _) (.cons (ALe.refl _ _) (.cons (ALe.refl _ _) (.cons (ALe.refl _ _) (.cons (ALe.refl _ _) (.cons (ALe.refl _ _) (.cons (ALe.refl _ _) (.cons (ALe.refl _ _) (.cons (ALe.refl _ _) (.nil)))))))))⟩
                        · replace hm := ite_f hm hb557
                          refine sg_y rfl rfl hb557 ?_
                          refine s_v (o_mv (.sc (.int _ _)) rfl) ?_
                          refine sg_y rfl rfl hb557 ?_
                          refine s_v (o_mv (.sl _ _ _) rfl) ?_
                          refine sg_y rfl rfl hb557 ?_
                          refine s_v (o_lenm ln22 rfl) ?_
                          refine sg_y rfl rfl hb557 ?_
                          refine s_v (o_bi rfl rfl rfl trivial) ?_
                          refine s_v (o_pkf (.sc (.bool _)) rfl hb557 rfl) ?_
                          refine s_nil ?_
                          cases hm
                          exact ⟨rfl, (), hk553, LeF.fm (Sub.refl _) (.cons (ALe.refl _ _) (.cons (ALe.refl _ _) (.cons (ALe.refl _ _) (.cons (ALe.refl _ _) (.cons (ALe.refl _ _) (.cons (ALe.refl _ _) (.cons (ALe.refl _ _) (.cons (ALe.refl _ _) (.nil)))))))))⟩
                      · rintro _ j556 fr' h' hk558 hm le
                        refine H554 _ _ (le.aw ?_)
                        clear le H554 K554
                        refine AW_if' rfl (fun hc559 => ?_) (fun hc559 => ?_)
                        · replace hm := ite_t hm hc559
                          refine AW_exit ?_
                          refine Blk_other (by decide) ?_
                          cases hm
                          exact ⟨rfl, (), hk558, LeF.fm (Sub.refl _) (.cons (ALe.refl _ _) (.cons (ALe.refl _ _) (.cons (ALe.refl _ _) (.cons (ALe.refl _ _) (.cons (ALe.refl _ _) (.cons (ALe.refl _ _) (.cons (ALe.refl _ _) (.nil))))))))⟩
                        · replace hm := ite_f hm hc559
                          refine AW_skip ?_
                          cases hm
                          exact ⟨rfl, (), hk558, LeF.fm (Sub.refl _) (.cons (ALe.refl _ _) (.cons (ALe.refl _ _) (.cons (ALe.refl _ _) (.cons (ALe.refl _ _) (.cons (ALe.refl _ _) (.cons (ALe.refl _ _) (.cons (ALe.refl _ _) (.nil))))))))⟩
              · replace hm := ite_f hm hc399
                refine AW_exit ?_
                refine Seq_exit ?_
                cases hm
                exact ⟨rfl, (), hk398, LeF.fm (Sub.refl _) (.cons (ALe.refl _ _) (.cons (ALe.refl _ _) (.cons (ALe.refl _ _) (.cons (ALe.refl _ _) (.cons (ALe.refl _ _) (.cons (ALe.refl _ _) (.cons (ALe.refl _ _) (.nil))))))))⟩
          · rintro _ ⟨r560, r561, r562, r563⟩ fr' h' hk564 hm le
            refine H49 _ _ (le.aw ?_)
            clear le H49 K49
            refine AW_k fun K565 H565 => ?_
            refine AW_reg ?_
            obtain ⟨y566, hy567, hm⟩ := bind_of hm
            refine s_v (o_call (W19 _ hy567) rfl bd19 rfl) ?_
            refine s_v (o_as (.sc (.bool _)) rfl) ?_
            refine s_nil ?_
            refine H565 _ _ ?_
            clear H565 K565
            refine AW_ret ?_
            cases hm
            exact Ret.of1 (.inl rfl) (rsT _ _ (.sc (.bool _)) rfl) (Sub.refl _) (ALe.refl _ _) ⟨rfl, rfl⟩
end Go.Proofs.Ytafflcbcpbgloaa
