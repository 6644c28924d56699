import Derived.Test.YtoomgangpjcaoaaWa
import Derived.Test.YtoomgangpjcaoaaWb
import Derived.Test.YtoomgangpjcaoaaWc
import Derived.Test.YtoomgangpjcaoaaWg
set_option linter.unusedSimpArgs false
set_option linter.unusedVariables false
namespace Go.Proofs.Ytoomgangpjcaoaa
open Go.Vm
def M65_L4 (fuel : Nat) (p0 : TCatalog) (p1 : Id32) (q409 : Int) (q543 : Int) (q587 : Int) : Option (Lp (Int) (Lp (Int) (Lp (Int) (Bool)))) :=
  (ix p0.Snaps q409).bind fun x591 => (ix x591.Man.Parts q543).bind fun x593 => if (decide (q587 < (x593.Ids.length : Int))) = true then ((ix p0.Snaps q409).bind fun x598 => (ix x598.Man.Parts q543).bind fun x600 => (ix x600.Ids q587).bind fun x602 => if (decide (x602 = p1)) = true then (some (.ret (.ret (.ret true)))) else some (.go (IntKind.wrap .i64 (q587 + 1)))) else some (.brk q587)
def M65_L2 (fuel : Nat) (p0 : TCatalog) (p1 : Id32) (q409 : Int) (q543 : Int) : Option (Lp (Int) (Lp (Int) (Bool))) :=
  (ix p0.Snaps q409).bind fun x547 => if (decide (q543 < (x547.Man.Parts.length : Int))) = true then (after (loopM (fun s => M65_L4 fuel p0 p1 q409 q543 s) fuel 0) fun r606 => some (.go (IntKind.wrap .i64 (q543 + 1)))) else some (.brk q543)
def M65_L0 (fuel : Nat) (p0 : TCatalog) (p1 : Id32) (q409 : Int) : Option (Lp (Int) (Bool)) :=
  if (decide (q409 < (p0.Snaps.length : Int))) = true then (after (loopM (fun s => M65_L2 fuel p0 p1 q409 s) fuel 0) fun r608 => some (.go (IntKind.wrap .i64 (q409 + 1)))) else some (.brk q409)
def M65 (fuel : Nat) (p0 : TCatalog) (p1 : Id32) : Option (Bool) :=
  after (loopM (fun s => M65_L0 fuel p0 p1 s) fuel 0) fun r610 => some false
set_option maxRecDepth 100000 in
/-- cellarer/cellarerref18.Used -/
theorem W65 {fuel : Nat} {p0 : TCatalog} {p1 : Id32} {o : Bool} (h : Heap) (hm : M65 fuel p0 p1 = some o) :
    ACalls Try.prog 65 [.agg (c_Catalog p0), .agg (c_id p1)] h (fun r h' => r = .sc (.bool o) ∧ h' = h) := by
  refine ACalls_hp 59 [.tmp 4] Try.func65 rfl rfl rfl rfl ?_
  unfold M65 at hm
  refine AW_k fun K1 H1 => ?_
  refine AW_reg ?_
  refine s_op (a_box (HOk.nil _) rfl rfl fun k2 hk3 => ?_)
  refine s_op (a_box hk3 rfl rfl fun k5 hk6 => ?_)
  refine s_v (o_as (.sc (.bool _)) rfl) ?_
  refine s_nil ?_
  refine H1 _ _ ?_
  clear H1 K1
  refine AW_k fun K8 H8 => ?_
  refine AW_k fun K9 H9 => ?_
  refine AW_reg ?_
  refine s_v (o_as (.sc (.int _ _)) rfl) ?_
  refine s_nil ?_
  refine H9 _ _ ?_
  clear H9 K9
  refine AW_loopG (n := 59) hm (σ := Int) (τ := Unit) (fun g s => HOk h [(some k5, .obj 61 (c_id p1)), (some k2, .obj 27 (c_Catalog p0))]) (fun g s => kp (kp (kp (k0) 5 (.sc (.int .i64 s))) 3 (.ptr k5 0)) 2 (.ptr k2 0)) (fun g s => hp h [(some k5, .obj 61 (c_id p1)), (some k2, .obj 27 (c_Catalog p0))]) () hk6 (LeF.fm (Sub.refl _) (.cons (ALe.refl _ _) (.cons (ALe.refl _ _) (.cons (ALe.refl _ _) (.nil))))) ?_ ?_
  · rintro _ q409 x hk410 hm
    replace hm : M65_L0 fuel p0 p1 q409 = some x := hm
    unfold M65_L0 at hm
    refine AW_k fun K411 H411 => ?_
    refine AW_k fun K412 H412 => ?_
    refine AW_reg ?_
    refine s_v (o_mv (.sc (.int _ _)) rfl) ?_
    refine s_v (o_flp fd27_1 rfl rfl) ?_
    refine s_v (o_ldp (.sl none 4 (List.map c_Snap p0.Snaps)) ld22 rfl (hp_get 1 hk410 rfl) rfl) ?_
    refine s_v (o_lenm ln22 rfl) ?_
    refine s_v (o_bi rfl rfl rfl trivial) ?_
    refine s_nil ?_
    refine H412 _ _ ?_
    clear H412 K412
    refine AW_if' rfl (fun hc413 => ?_) (fun hc413 => ?_)
    · replace hm := ite_t hm hc413
      refine AW_skip ?_
      refine H411 _ _ ?_
      clear H411 K411
      refine AW_k fun K414 H414 => ?_
      refine AW_block ?_
      refine AW_k fun K415 H415 => ?_
      refine AW_reg ?_
      refine s_v (o_as (.sc (.int _ _)) rfl) ?_
      refine s_nil ?_
      refine H415 _ _ ?_
      clear H415 K415
      refine AW_loopG (n := 59) hm (σ := Int) (τ := Unit) (fun g s => HOk h [(some k5, .obj 61 (c_id p1)), (some k2, .obj 27 (c_Catalog p0))]) (fun g s => kp (kp (kp (kp (k0) 6 (.sc (.int .i64 s))) 5 (.sc (.int .i64 q409))) 3 (.ptr k5 0)) 2 (.ptr k2 0)) (fun g s => hp h [(some k5, .obj 61 (c_id p1)), (some k2, .obj 27 (c_Catalog p0))]) () hk410 (LeF.fm (Sub.refl _) (.cons (ALe.refl _ _) (.cons (ALe.refl _ _) (.cons (ALe.refl _ _) (.cons (ALe.refl _ _) (.nil)))))) ?_ ?_
      · rintro _ q543 x hk544 hm
        replace hm : M65_L2 fuel p0 p1 q409 q543 = some x := hm
        unfold M65_L2 at hm
        refine AW_k fun K545 H545 => ?_
        refine AW_k fun K546 H546 => ?_
        refine AW_reg ?_
        refine s_v (o_mv (.sc (.int _ _)) rfl) ?_
        refine s_v (o_flp fd27_1 rfl rfl) ?_
        refine s_v (o_ldp (.sl none 4 (List.map c_Snap p0.Snaps)) ld22 rfl (hp_get 1 hk544 rfl) rfl) ?_
        refine s_v (o_mv (.sc (.int _ _)) rfl) ?_
        obtain ⟨x547, hx548, hm⟩ := bind_of hm
        refine s_v (o_ix hx548 el22 rfl rfl) ?_
        refine s_v (o_fl fd60_1 rfl rfl) ?_
        refine s_v (o_fl fd57_1 rfl rfl) ?_
        refine s_v (o_ld (.sl none 3 (List.map c_Part x547.Man.Parts)) ld55 rfl rfl) ?_
        refine s_v (o_lenm ln55 rfl) ?_
        refine s_v (o_bi rfl rfl rfl trivial) ?_
        refine s_nil ?_
        refine H546 _ _ ?_
        clear H546 K546
        refine AW_if' rfl (fun hc549 => ?_) (fun hc549 => ?_)
        · replace hm := ite_t hm hc549
          refine AW_skip ?_
          refine H545 _ _ ?_
          clear H545 K545
          refine AW_k fun K550 H550 => ?_
          refine AW_block ?_
          refine AW_k fun K551 H551 => ?_
          refine AW_reg ?_
          refine s_v (o_as (.sc (.int _ _)) rfl) ?_
          refine s_nil ?_
          refine H551 _ _ ?_
          clear H551 K551
          refine AW_loopG (n := 59) hm (σ := Int) (τ := Unit) (fun g s => HOk h [(some k5, .obj 61 (c_id p1)), (some k2, .obj 27 (c_Catalog p0))]) (fun g s => kp (kp (kp (kp (kp (k0) 7 (.sc (.int .i64 s))) 6 (.sc (.int .i64 q543))) 5 (.sc (.int .i64 q409))) 3 (.ptr k5 0)) 2 (.ptr k2 0)) (fun g s => hp h [(some k5, .obj 61 (c_id p1)), (some k2, .obj 27 (c_Catalog p0))]) () hk544 (LeF.fm (Sub.refl _) (.cons (ALe.refl _ _) (.cons (ALe.refl _ _) (.cons (ALe.refl _ _) (.cons (ALe.refl _ _) (.cons (ALe.refl _ _) (.nil))))))) ?_ ?_
          · rintro _ q587 x hk588 hm
            replace hm : M65_L4 fuel p0 p1 q409 q543 q587 = some x := hm
            unfold M65_L4 at hm
            refine AW_k fun K589 H589 => ?_
            refine AW_k fun K590 H590 => ?_
            refine AW_reg ?_
            refine s_v (o_mv (.sc (.int _ _)) rfl) ?_
            refine s_v (o_flp fd27_1 rfl rfl) ?_
            refine s_v (o_ldp (.sl none 4 (List.map c_Snap p0.Snaps)) ld22 rfl (hp_get 1 hk588 rfl) rfl) ?_
            refine s_v (o_mv (.sc (.int _ _)) rfl) ?_
            obtain ⟨x591, hx592, hm⟩ := bind_of hm
            refine s_v (o_ix hx592 el22 rfl rfl) ?_
            refine s_v (o_fl fd60_1 rfl rfl) ?_
            refine s_v (o_fl fd57_1 rfl rfl) ?_
            refine s_v (o_ld (.sl none 3 (List.map c_Part x591.Man.Parts)) ld55 rfl rfl) ?_
            refine s_v (o_mv (.sc (.int _ _)) rfl) ?_
            obtain ⟨x593, hx594, hm⟩ := bind_of hm
            refine s_v (o_ix hx594 el55 rfl rfl) ?_
            refine s_v (o_fl fd82_2 rfl rfl) ?_
            refine s_v (o_ld (.sl none 32 (List.map c_id x593.Ids)) ld80 rfl rfl) ?_
            refine s_v (o_lenm ln80 rfl) ?_
            refine s_v (o_bi rfl rfl rfl trivial) ?_
            refine s_nil ?_
            refine H590 _ _ ?_
            clear H590 K590
            refine AW_if' rfl (fun hc595 => ?_) (fun hc595 => ?_)
            · replace hm := ite_t hm hc595
              refine AW_skip ?_
              refine H589 _ _ ?_
              clear H589 K589
              refine AW_k fun K596 H596 => ?_
              refine AW_block ?_
              refine AW_k fun K597 H597 => ?_
              refine AW_region_q [(some 43, [2], []), (some 44, [43], [0]), (some 45, [5], []), (some 46, [44, 45], [1, 2]), (some 47, [46], [3]), (some 48, [47], [4]), (some 49, [48], [5]), (some 50, [6], []), (some 51, [49, 50], [6, 7]), (some 52, [51], [8]), (some 53, [52], [9]), (some 54, [7], []), (some 55, [53, 54], [10, 11]), (some 56, [55], [12]), (some 57, [3], []), (some 58, [56, 57], [13, 14])] mixed (by kernel_rfl) (by kernel_rfl) ?_
              refine q_v (o_flp fd27_1 rfl rfl) ?_
              refine q_v (o_ldp (.sl none 4 (List.map c_Snap p0.Snaps)) ld22 rfl (hp_get 1 hk588 rfl) rfl) ?_
              refine q_v (o_mv (.sc (.int _ _)) rfl) ?_
              obtain ⟨x598, hx599, hm⟩ := bind_of hm
              refine q_v (o_ix hx599 el22 rfl rfl) ?_
              refine q_v (o_fl fd60_1 rfl rfl) ?_
              refine q_v (o_fl fd57_1 rfl rfl) ?_
              refine q_v (o_ld (.sl none 3 (List.map c_Part x598.Man.Parts)) ld55 rfl rfl) ?_
              refine q_v (o_mv (.sc (.int _ _)) rfl) ?_
              obtain ⟨x600, hx601, hm⟩ := bind_of hm
              refine q_v (o_ix hx601 el55 rfl rfl) ?_
              refine q_v (o_fl fd82_2 rfl rfl) ?_
              refine q_v (o_ld (.sl none 32 (List.map c_id x600.Ids)) ld80 rfl rfl) ?_
              refine q_v (o_mv (.sc (.int _ _)) rfl) ?_
              obtain ⟨x602, hx603, hm⟩ := bind_of hm
              refine q_v (o_ix hx603 el80 rfl rfl) ?_
              refine q_v (o_ld (.agg (c_id x602)) ld61 rfl rfl) ?_
              refine q_v (o_ldp (.agg (c_id p1)) ld61 rfl (hp_get 0 hk588 rfl) rfl) ?_
              refine q_v (o_ide eg61 u61 u5 ld5 rfl rfl) ?_
              refine q_nil ?_
              refine H597 _ _ ?_
              clear H597 K597
              refine AW_if' rfl (fun hc604 => ?_) (fun hc604 => ?_)
              · replace hm := ite_t hm hc604
                refine AW_k fun K605 H605 => ?_
                refine AW_reg ?_
                refine s_v (o_as (.sc (.bool _)) rfl) ?_
                refine s_nil ?_
                refine H605 _ _ ?_
                clear H605 K605
                refine AW_ret ?_
                cases hm
                refine ⟨⟨nofun, nofun⟩, fun he => ?_⟩
                subst he
                refine ⟨⟨nofun, nofun⟩, fun he => ?_⟩
                subst he
                refine ⟨⟨nofun, nofun⟩, fun he => ?_⟩
                subst he
                exact Ret.of1 (.inl rfl) (rsT _ _ (.sc (.bool _)) rfl) (hp_sub (List.nil_sublist _) hk588).1 (ALe.refl _ _) ⟨rfl, rfl⟩
              · replace hm := ite_f hm hc604
                refine AW_skip ?_
                refine H596 _ _ ?_
                clear H596 K596
                refine AW_reg ?_
                refine s_v (o_mv (.sc (.int _ _)) rfl) ?_
                refine s_v (o_bi rfl rfl rfl trivial) ?_
                refine s_v (o_as (.sc (.int _ _)) rfl) ?_
                refine s_nil ?_
                cases hm
                exact ⟨rfl, (), hk588, LeF.fm (Sub.refl _) (.cons (ALe.refl _ _) (.cons (ALe.refl _ _) (.cons (ALe.refl _ _) (.cons (ALe.refl _ _) (.cons (ALe.refl _ _) (.nil))))))⟩
            · replace hm := ite_f hm hc595
              refine AW_exit ?_
              refine Seq_exit ?_
              cases hm
              exact ⟨rfl, (), hk588, LeF.fm (Sub.refl _) (.cons (ALe.refl _ _) (.cons (ALe.refl _ _) (.cons (ALe.refl _ _) (.cons (ALe.refl _ _) (.cons (ALe.refl _ _) (.nil))))))⟩
          · rintro _ r606 fr' h' hk607 hm le
            refine H550 _ _ (le.aw ?_)
            clear le H550 K550
            refine AW_reg ?_
            refine s_v (o_mv (.sc (.int _ _)) rfl) ?_
            refine s_v (o_bi rfl rfl rfl trivial) ?_
            refine s_v (o_as (.sc (.int _ _)) rfl) ?_
            refine s_nil ?_
            cases hm
            exact ⟨rfl, (), hk607, LeF.fm (Sub.refl _) (.cons (ALe.refl _ _) (.cons (ALe.refl _ _) (.cons (ALe.refl _ _) (.cons (ALe.refl _ _) (.nil)))))⟩
        · replace hm := ite_f hm hc549
          refine AW_exit ?_
          refine Seq_exit ?_
          cases hm
          exact ⟨rfl, (), hk544, LeF.fm (Sub.refl _) (.cons (ALe.refl _ _) (.cons (ALe.refl _ _) (.cons (ALe.refl _ _) (.cons (ALe.refl _ _) (.nil)))))⟩
      · rintro _ r608 fr' h' hk609 hm le
        refine H414 _ _ (le.aw ?_)
        clear le H414 K414
        refine AW_reg ?_
        refine s_v (o_mv (.sc (.int _ _)) rfl) ?_
        refine s_v (o_bi rfl rfl rfl trivial) ?_
        refine s_v (o_as (.sc (.int _ _)) rfl) ?_
        refine s_nil ?_
        cases hm
        exact ⟨rfl, (), hk609, LeF.fm (Sub.refl _) (.cons (ALe.refl _ _) (.cons (ALe.refl _ _) (.cons (ALe.refl _ _) (.nil))))⟩
    · replace hm := ite_f hm hc413
      refine AW_exit ?_
      refine Seq_exit ?_
      cases hm
      exact ⟨rfl, (), hk410, LeF.fm (Sub.refl _) (.cons (ALe.refl _ _) (.cons (ALe.refl _ _) (.cons (ALe.refl _ _) (.nil))))⟩
  · rintro _ r610 fr' h' hk611 hm le
    refine H8 _ _ (le.aw ?_)
    clear le H8 K8
    refine AW_k fun K612 H612 => ?_
    refine AW_reg ?_
    refine s_v (o_as (.sc (.bool _)) rfl) ?_
    refine s_nil ?_
    refine H612 _ _ ?_
    clear H612 K612
    refine AW_ret ?_
    cases hm
    exact Ret.of1 (.inl rfl) (rsT _ _ (.sc (.bool _)) rfl) (hp_sub (List.nil_sublist _) hk611).1 (ALe.refl _ _) ⟨rfl, rfl⟩
theorem bd65 : bodied Try.prog 65 = true := by kernel_rfl
def M123_L0 (fuel : Nat) (p0 : TCatalog) (p1 : List TLoc) (p2 : Int) (q78 : Bool) (q79 : Bool) (q80 : Int) : Option (Lp (Bool × Bool × Int) (Bool × Bool)) :=
  if (decide (q80 < (p1.length : Int))) = true then ((ix p1 q80).bind fun x87 => after (if (x87.Vol == p2) = true then (some (.brk (true, q79))) else (ix p1 q80).bind fun x105 => (ix p0.Vols x105.Vol).bind fun x107 => (ix p0.Vols p2).bind fun x109 => after (if (x107.Pool == x109.Pool) = true then (some (.brk true)) else some (.brk q79) : Option (Lp (Bool) (Lp (Bool × Bool) (Lp (Bool × Bool × Int) (Bool × Bool))))) fun j112 => some (.brk (q78, j112)) : Option (Lp (Bool × Bool) (Lp (Bool × Bool × Int) (Bool × Bool)))) fun ⟨j101, j102⟩ => some (.go (j101, j102, IntKind.wrap .i64 (q80 + 1)))) else some (.brk (q78, q79, q80))
def M123 (fuel : Nat) (p0 : TCatalog) (p1 : List TLoc) (p2 : Int) : Option (Bool × Bool) :=
  after (loopM (fun s => M123_L0 fuel p0 p1 p2 s.1 s.2.1 s.2.2) fuel (false, false, 0)) fun ⟨r116, r117, r118⟩ => some (r116, r117)
set_option maxRecDepth 100000 in
/-- cellarer/cellarerref20.on -/
theorem W123 {fuel : Nat} {p0 : TCatalog} {p1 : List TLoc} {p2 : Int} {o : Bool × Bool} (h : Heap) (hm : M123 fuel p0 p1 p2 = some o) :
    ACalls Try.prog 123 [.agg (c_Catalog p0), .sl none 4 (List.map c_Loc p1), .sc (.int .i64 p2)] h (fun r h' => r = .tup [.sc (.bool o.1), .sc (.bool o.2)] ∧ h' = h) := by
  refine ACalls_hp 41 [.tmp 6, .tmp 7] Try.func123 rfl rfl rfl rfl ?_
  unfold M123 at hm
  refine AW_k fun K1 H1 => ?_
  refine AW_reg ?_
  refine s_op (a_box (HOk.nil _) rfl rfl fun k2 hk3 => ?_)
  refine s_v (o_as (.sc (.bool _)) rfl) ?_
  refine s_v (o_as (.sc (.bool _)) rfl) ?_
  refine s_nil ?_
  refine H1 _ _ ?_
  clear H1 K1
  refine AW_k fun K5 H5 => ?_
  refine AW_k fun K6 H6 => ?_
  refine AW_reg ?_
  refine s_v (o_as (.sc (.int _ _)) rfl) ?_
  refine s_nil ?_
  refine H6 _ _ ?_
  clear H6 K6
  refine AW_loopG (n := 41) hm (σ := Bool × Bool × Int) (τ := Unit) (fun g s => HOk h [(some k2, .obj 27 (c_Catalog p0))]) (fun g s => kp (kp (kp (kp (kp (kp (k0) 8 (.sc (.int .i64 s.2.2))) 7 (.sc (.bool s.2.1))) 6 (.sc (.bool s.1))) 3 (.ptr k2 0)) 2 (.sc (.int .i64 p2))) 1 (.sl none 4 (List.map c_Loc p1))) (fun g s => hp h [(some k2, .obj 27 (c_Catalog p0))]) () hk3 (LeF.fm (Sub.refl _) (.cons (ALe.refl _ _) (.cons (ALe.refl _ _) (.cons (ALe.refl _ _) (.cons (ALe.refl _ _) (.cons (ALe.refl _ _) (.cons (ALe.refl _ _) (.nil)))))))) ?_ ?_
  · rintro _ ⟨q78, q79, q80⟩ x hk81 hm
    replace hm : M123_L0 fuel p0 p1 p2 q78 q79 q80 = some x := hm
    unfold M123_L0 at hm
    refine AW_k fun K82 H82 => ?_
    refine AW_k fun K83 H83 => ?_
    refine AW_reg ?_
    refine s_v (o_mv (.sc (.int _ _)) rfl) ?_
    refine s_v (o_mv (.sl _ _ _) rfl) ?_
    refine s_v (o_lenm ln58 rfl) ?_
    refine s_v (o_bi rfl rfl rfl trivial) ?_
    refine s_nil ?_
    refine H83 _ _ ?_
    clear H83 K83
    refine AW_if' rfl (fun hc84 => ?_) (fun hc84 => ?_)
    · replace hm := ite_t hm hc84
      refine AW_skip ?_
      refine H82 _ _ ?_
      clear H82 K82
      refine AW_k fun K85 H85 => ?_
      refine AW_block ?_
      refine AW_k fun K86 H86 => ?_
      refine AW_reg ?_
      refine s_v (o_mv (.sl _ _ _) rfl) ?_
      refine s_v (o_mv (.sc (.int _ _)) rfl) ?_
      obtain ⟨x87, hx88, hm⟩ := bind_of hm
      refine s_v (o_ix hx88 el58 rfl rfl) ?_
      refine s_v (o_fl fd77_0 rfl rfl) ?_
      refine s_v (o_ld (.sc (.int .i64 x87.Vol)) ld3 rfl rfl) ?_
      refine s_v (o_mv (.sc (.int _ _)) rfl) ?_
      refine s_v (o_bi rfl rfl rfl trivial) ?_
      refine s_nil ?_
      refine H86 _ _ ?_
      clear H86 K86
      refine AW_joinG (n := 41) hm (σ := Bool × Bool) (τ := Unit) (fun g s => HOk h [(some k2, .obj 27 (c_Catalog p0))]) (fun g s => kp (kp (kp (kp (kp (kp (k0) 8 (.sc (.int .i64 q80))) 7 (.sc (.bool s.2))) 6 (.sc (.bool s.1))) 3 (.ptr k2 0)) 2 (.sc (.int .i64 p2))) 1 (.sl none 4 (List.map c_Loc p1))) (fun g s => hp h [(some k2, .obj 27 (c_Catalog p0))]) (fun x hm => ?_) ?_
      · refine AW_if' rfl (fun hc103 => ?_) (fun hc103 => ?_)
        · replace hm := ite_t hm hc103
          refine AW_reg ?_
          refine s_v (o_as (.sc (.bool _)) rfl) ?_
          refine s_nil ?_
          cases hm
          exact ⟨rfl, (), hk81, LeF.fm (Sub.refl _) (.cons (ALe.refl _ _) (.cons (ALe.refl _ _) (.cons (ALe.refl _ _) (.cons (ALe.refl _ _) (.cons (ALe.refl _ _) (.cons (ALe.refl _ _) (.nil)))))))⟩
        · replace hm := ite_f hm hc103
          refine AW_k fun K104 H104 => ?_
          refine AW_region_q [(some 22, [3], []), (some 23, [22], [0]), (some 24, [1], []), (some 25, [8], []), (some 26, [24, 25], [2, 3]), (some 27, [26], [4]), (some 28, [27], [5]), (some 29, [23, 28], [1, 6]), (some 30, [29], [7]), (some 31, [30], [8]), (some 32, [3], []), (some 33, [32], [10]), (some 34, [2], []), (some 35, [33, 34], [11, 12]), (some 36, [35], [13]), (some 37, [36], [14]), (some 38, [31, 37], [9, 15])] mixed (by kernel_rfl) (by kernel_rfl) ?_
          refine q_v (o_flp fd27_4 rfl rfl) ?_
          refine q_v (o_ldp (.sl none 4 (List.map c_Vol p0.Vols)) ld25 rfl (hp_get 0 hk81 rfl) rfl) ?_
          refine q_v (o_mv (.sl _ _ _) rfl) ?_
          refine q_v (o_mv (.sc (.int _ _)) rfl) ?_
          obtain ⟨x105, hx106, hm⟩ := bind_of hm
          refine q_v (o_ix hx106 el58 rfl rfl) ?_
          refine q_v (o_fl fd77_0 rfl rfl) ?_
          refine q_v (o_ld (.sc (.int .i64 x105.Vol)) ld3 rfl rfl) ?_
          obtain ⟨x107, hx108, hm⟩ := bind_of hm
          refine q_v (o_ix hx108 el25 rfl rfl) ?_
          refine q_v (o_fl fd40_0 rfl rfl) ?_
          refine q_v (o_ld (.sc (.int .i64 x107.Pool)) ld3 rfl rfl) ?_
          refine q_v (o_flp fd27_4 rfl rfl) ?_
          refine q_v (o_ldp (.sl none 4 (List.map c_Vol p0.Vols)) ld25 rfl (hp_get 0 hk81 rfl) rfl) ?_
          refine q_v (o_mv (.sc (.int _ _)) rfl) ?_
          obtain ⟨x109, hx110, hm⟩ := bind_of hm
          refine q_v (o_ix hx110 el25 rfl rfl) ?_
          refine q_v (o_fl fd40_0 rfl rfl) ?_
          refine q_v (o_ld (.sc (.int .i64 x109.Pool)) ld3 rfl rfl) ?_
          refine q_v (o_bi rfl rfl rfl trivial) ?_
          refine q_nil ?_
          refine H104 _ _ ?_
          clear H104 K104
          refine AW_joinG (n := 41) hm (σ := Bool) (τ := Unit) (fun g s => HOk h [(some k2, .obj 27 (c_Catalog p0))]) (fun g s => kp (kp (kp (kp (kp (kp (k0) 8 (.sc (.int .i64 q80))) 7 (.sc (.bool s))) 6 (.sc (.bool q78))) 3 (.ptr k2 0)) 2 (.sc (.int .i64 p2))) 1 (.sl none 4 (List.map c_Loc p1))) (fun g s => hp h [(some k2, .obj 27 (c_Catalog p0))]) (fun x hm => ?_) ?_
          · refine AW_if' rfl (fun hc113 => ?_) (fun hc113 => ?_)
            · replace hm := ite_t hm hc113
              refine AW_reg ?_
              refine s_v (o_as (.sc (.bool _)) rfl) ?_
              refine s_nil ?_
              cases hm
              exact ⟨rfl, (), hk81, LeF.fm (Sub.refl _) (.cons (ALe.refl _ _) (.cons (ALe.refl _ _) (.cons (ALe.refl _ _) (.cons (ALe.refl _ _) (.cons (ALe.refl _ _) (.cons (ALe.refl _ _) (.nil)))))))⟩
            · replace hm := ite_f hm hc113
              refine AW_skip ?_
              cases hm
              exact ⟨rfl, (), hk81, LeF.fm (Sub.refl _) (.cons (ALe.refl _ _) (.cons (ALe.refl _ _) (.cons (ALe.refl _ _) (.cons (ALe.refl _ _) (.cons (ALe.refl _ _) (.cons (ALe.refl _ _) (.nil)))))))⟩
          · rintro _ j112 fr' h' hk114 hm le
            cases hm
            exact ⟨rfl, (), hk114, LeF.trans le (LeF.fm (Sub.refl _) (.cons (ALe.refl _ _) (.cons (ALe.refl _ _) (.cons (ALe.refl _ _) (.cons (ALe.refl _ _) (.cons (ALe.refl _ _) (.cons (ALe.refl _ _) (.nil))))))))⟩
      · rintro _ ⟨j101, j102⟩ fr' h' hk115 hm le
        refine H85 _ _ (le.aw ?_)
        clear le H85 K85
        refine AW_reg ?_
        refine s_v (o_mv (.sc (.int _ _)) rfl) ?_
        refine s_v (o_bi rfl rfl rfl trivial) ?_
        refine s_v (o_as (.sc (.int _ _)) rfl) ?_
        refine s_nil ?_
        cases hm
        exact ⟨rfl, (), hk115, LeF.fm (Sub.refl _) (.cons (ALe.refl _ _) (.cons (ALe.refl _ _) (.cons (ALe.refl _ _) (.cons (ALe.refl _ _) (.cons (ALe.refl _ _) (.cons (ALe.refl _ _) (.nil)))))))⟩
    · replace hm := ite_f hm hc84
      refine AW_exit ?_
      refine Seq_exit ?_
      cases hm
      exact ⟨rfl, (), hk81, LeF.fm (Sub.refl _) (.cons (ALe.refl _ _) (.cons (ALe.refl _ _) (.cons (ALe.refl _ _) (.cons (ALe.refl _ _) (.cons (ALe.refl _ _) (.cons (ALe.refl _ _) (.nil)))))))⟩
  · rintro _ ⟨r116, r117, r118⟩ fr' h' hk119 hm le
    refine H5 _ _ (le.aw ?_)
    clear le H5 K5
    refine AW_k fun K120 H120 => ?_
    refine AW_reg ?_
    refine s_v (o_mv (.sc (.bool _)) rfl) ?_
    refine s_v (o_mv (.sc (.bool _)) rfl) ?_
    refine s_v (o_as (.sc (.bool _)) rfl) ?_
    refine s_v (o_as (.sc (.bool _)) rfl) ?_
    refine s_nil ?_
    refine H120 _ _ ?_
    clear H120 K120
    refine AW_ret ?_
    cases hm
    exact Ret.of2 (.inl rfl) (rsT _ _ (.sc (.bool _)) rfl) (rsT _ _ (.sc (.bool _)) rfl) (hp_sub (List.nil_sublist _) hk119).1 (ALe.refl _ _) (ALe.refl _ _) ⟨rfl, rfl⟩
theorem bd123 : bodied Try.prog 123 = true := by kernel_rfl
def M88_L0 (fuel : Nat) (p0 : TCatalog) (p1 : Int) (p2 : Bool) (q169 : List TItem) (q172 : Int) : Option (Lp ((List TItem) × Int) ((List TItem))) :=
  if (decide (q172 < (p0.Chunks.length : Int))) = true then ((ix p0.Chunks q172).bind fun x179 => (M123 fuel p0 x179.Locs p1).bind fun y181 => after (if y181.1 = true then (if (!p2) = true then (some (.brk true)) else if (!y181.2) = true then ((ix p0.Chunks q172).bind fun x195 => (M65 fuel p0 x195.Id).bind fun y197 => some (.brk y197)) else some (.brk false)) else some (.brk false) : Option (Lp (Bool) (Lp ((List TItem) × Int) ((List TItem))))) fun j191 => after (if j191 = true then ((ix p0.Chunks q172).bind fun x212 => (app q169 ([({ Kind := 1, Id := x212.Id, Seq := 0, Of := 0, Off := 0, Len := 0 } : TItem)] : List TItem)).bind fun z214 => some (.brk z214)) else some (.brk q169) : Option (Lp ((List TItem)) (Lp ((List TItem) × Int) ((List TItem))))) fun j208 => some (.go (j208, IntKind.wrap .i64 (q172 + 1)))) else some (.brk (q169, q172))
def M88_L2 (fuel : Nat) (p0 : TCatalog) (p1 : Int) (p2 : Bool) (q303 : List TItem) (q306 : Int) : Option (Lp ((List TItem) × Int) ((List TItem))) :=
  if (decide (q306 < (p0.Snaps.length : Int))) = true then ((ix p0.Snaps q306).bind fun x313 => (M123 fuel p0 x313.Locs p1).bind fun y315 => after (if y315.1 = true then (if (!p2) = true then (some (.brk true)) else some (.brk (!y315.2))) else some (.brk false) : Option (Lp (Bool) (Lp ((List TItem) × Int) ((List TItem))))) fun j320 => after (if j320 = true then ((ix p0.Snaps q306).bind fun x336 => (app q303 ([({ Kind := 2, Id := idZ, Seq := x336.Seq, Of := 0, Off := 0, Len := 0 } : TItem)] : List TItem)).bind fun z338 => some (.brk z338)) else some (.brk q303) : Option (Lp ((List TItem)) (Lp ((List TItem) × Int) ((List TItem))))) fun j332 => some (.go (j332, IntKind.wrap .i64 (q306 + 1)))) else some (.brk (q303, q306))
def M88_L4 (fuel : Nat) (p0 : TCatalog) (p1 : Int) (p2 : Bool) (q471 : List TItem) (q474 : Int) : Option (Lp ((List TItem) × Int) ((List TItem))) :=
  if (decide (q474 < (p0.Exps.length : Int))) = true then ((ix p0.Exps q474).bind fun x481 => (M123 fuel p0 x481.Locs p1).bind fun y483 => after (if y483.1 = true then (if (!p2) = true then (some (.brk true)) else some (.brk (!y483.2))) else some (.brk false) : Option (Lp (Bool) (Lp ((List TItem) × Int) ((List TItem))))) fun j488 => after (if j488 = true then ((ix p0.Exps q474).bind fun x524 => (ix p0.Exps q474).bind fun x526 => (app q471 ([({ Kind := 3, Id := idZ, Seq := x524.Seq, Of := x526.Of, Off := 0, Len := 0 } : TItem)] : List TItem)).bind fun z528 => some (.brk z528)) else some (.brk q471) : Option (Lp ((List TItem)) (Lp ((List TItem) × Int) ((List TItem))))) fun j511 => some (.go (j511, IntKind.wrap .i64 (q474 + 1)))) else some (.brk (q471, q474))
def M88 (fuel : Nat) (p0 : TCatalog) (p1 : Int) (p2 : Bool) : Option ((List TItem)) :=
  after (if (decide (p1 < 0)) = true then (some (.brk true)) else some (.brk (decide ((p0.Vols.length : Int) ≤ p1))) : Option (Lp (Bool) ((List TItem)))) fun j9 => if j9 = true then (some []) else after (loopM (fun s => M88_L0 fuel p0 p1 p2 s.1 s.2) fuel ([], 0)) fun ⟨r220, r221⟩ => after (loopM (fun s => M88_L2 fuel p0 p1 p2 s.1 s.2) fuel (r220, 0)) fun ⟨r344, r345⟩ => after (loopM (fun s => M88_L4 fuel p0 p1 p2 s.1 s.2) fuel (r344, 0)) fun ⟨r534, r535⟩ => some r534
set_option maxRecDepth 100000 in
/-- cellarer/cellarerref20.those -/
theorem W88 {fuel : Nat} {p0 : TCatalog} {p1 : Int} {p2 : Bool} {o : (List TItem)} (h : Heap) (hm : M88 fuel p0 p1 p2 = some o) :
    ACalls Try.prog 88 [.agg (c_Catalog p0), .sc (.int .i64 p1), .sc (.bool p2)] h (fun r h' => r = .sl none 37 (List.map c_Item o) ∧ h' = h) := by
  refine ACalls_hp 157 [.tmp 6] Try.func88 rfl rfl rfl rfl ?_
  unfold M88 at hm
  refine AW_k fun K1 H1 => ?_
  refine AW_reg ?_
  refine s_op (a_box (HOk.nil _) rfl rfl fun k2 hk3 => ?_)
  refine s_v (o_as (.sc (.slice _ _ _)) rfl) ?_
  refine s_nil ?_
  refine H1 _ _ ?_
  clear H1 K1
  refine AW_k fun K5 H5 => ?_
  refine AW_reg ?_
  refine s_v (o_as (.sc (.slice _ _ _)) rfl) ?_
  refine s_nil ?_
  refine H5 _ _ ?_
  clear H5 K5
  refine AW_k fun K6 H6 => ?_
  refine AW_k fun K7 H7 => ?_
  refine AW_joinG (n := 157) hm (σ := Bool) (τ := Unit) (fun g s => HOk h [(some k2, .obj 27 (c_Catalog p0))]) (fun g s => kp (kp (kp (kp (kp (k0) 25 (.sc (.bool s))) 7 (.sc (.slice none 0 0))) 3 (.ptr k2 0)) 2 (.sc (.bool p2))) 1 (.sc (.int .i64 p1))) (fun g s => hp h [(some k2, .obj 27 (c_Catalog p0))]) (fun x hm => ?_) ?_
  · refine AW_reg ?_
    refine s_v (o_mv (.sc (.int _ _)) rfl) ?_
    refine s_v (o_bi rfl rfl rfl trivial) ?_
    refine s_v (o_mv (.sc (.bool _)) rfl) ?_
    rcases Bool.eq_false_or_eq_true (decide (p1 < 0)) with hb10 | hb10
    · replace hm := ite_t hm hb10
      refine sg_n rfl rfl hb10 ?_
      refine sg_n rfl rfl hb10 ?_
      refine sg_n rfl rfl hb10 ?_
      refine sg_n rfl rfl hb10 ?_
      refine sg_n rfl rfl hb10 ?_
      refine s_v (o_pkt (.sc (.bool _)) rfl hb10 rfl) ?_
      refine s_nil ?_
      cases hm
      exact ⟨rfl, (), hk3, LeF.fm (Sub.refl _) (.cons (ALe.refl _ _) (.cons (ALe.refl _ _) (.cons (ALe.refl _ _) (.cons (ALe.refl _ _) (.cons (ALe.refl _ _) (.nil))))))⟩
    · replace hm := ite_f hm hb10
      refine sg_y rfl rfl hb10 ?_
      refine s_v (o_mv (.sc (.int _ _)) rfl) ?_
      refine sg_y rfl rfl hb10 ?_
      refine s_v (o_flp fd27_4 rfl rfl) ?_
      refine sg_y rfl rfl hb10 ?_
      refine s_v (o_ldp (.sl none 4 (List.map c_Vol p0.Vols)) ld25 rfl (hp_get 0 hk3 rfl) rfl) ?_
      refine sg_y rfl rfl hb10 ?_
      refine s_v (o_lenm ln25 rfl) ?_
      refine sg_y rfl rfl hb10 ?_
      refine s_v (o_bi rfl rfl rfl trivial) ?_
      refine s_v (o_pkf (.sc (.bool _)) rfl hb10 rfl) ?_
      refine s_nil ?_
      cases hm
      exact ⟨rfl, (), hk3, LeF.fm (Sub.refl _) (.cons (ALe.refl _ _) (.cons (ALe.refl _ _) (.cons (ALe.refl _ _) (.cons (ALe.refl _ _) (.cons (ALe.refl _ _) (.nil))))))⟩
  · rintro _ j9 fr' h' hk11 hm le
    refine H7 _ _ (le.aw ?_)
    clear le H7 K7
    refine AW_if' rfl (fun hc12 => ?_) (fun hc12 => ?_)
    · replace hm := ite_t hm hc12
      refine AW_k fun K13 H13 => ?_
      refine AW_reg ?_
      refine s_v (o_as (.sc (.slice _ _ _)) rfl) ?_
      refine s_nil ?_
      refine H13 _ _ ?_
      clear H13 K13
      refine AW_ret ?_
      cases hm
      exact Ret.of1 (.inl rfl) (rsT _ _ (.sc (.slice _ _ _)) rfl) (hp_sub (List.nil_sublist _) hk11).1 (nil_lem _) ⟨rfl, rfl⟩
    · replace hm := ite_f hm hc12
      refine AW_skip ?_
      refine H6 _ _ ?_
      clear H6 K6
      refine AW_k fun K14 H14 => ?_
      refine AW_k fun K15 H15 => ?_
      refine AW_reg ?_
      refine s_v (o_as (.sc (.int _ _)) rfl) ?_
      refine s_nil ?_
      refine H15 _ _ ?_
      clear H15 K15
      refine (LeF.put (t := 7) (v := ow none 37 (List.map c_Item [])) (Sub.refl _) (ow_nil _ _)).aw ?_
      refine AW_loopG (n := 157) hm (σ := (List TItem) × Int) (τ := Option Key) (fun g s => HOk h [(g, .tok 99 37 ((s.1 : List TItem).length * 37)), (some k2, .obj 27 (c_Catalog p0))] ∧ (g = none → s.1 = [])) (fun g s => kp (kp (kp (kp (kp (k0) 8 (.sc (.int .i64 s.2))) 7 (ow g 37 (List.map c_Item s.1))) 3 (.ptr k2 0)) 2 (.sc (.bool p2))) 1 (.sc (.int .i64 p1))) (fun g s => hp h [(g, .tok 99 37 ((s.1 : List TItem).length * 37)), (some k2, .obj 27 (c_Catalog p0))]) none (⟨HOk.none hk11, (fun _ => rfl)⟩) (LeF.fm (Sub.refl _) (.cons (ALe.refl _ _) (.cons (ALe.refl _ _) (.cons (ALe.refl _ _) (.cons (ALe.refl _ _) (.cons (ALe.refl _ _) (.nil))))))) ?_ ?_
      · rintro tg170 ⟨q169, q172⟩ x ⟨hk173, ot171⟩ hm
        replace hm : M88_L0 fuel p0 p1 p2 q169 q172 = some x := hm
        unfold M88_L0 at hm
        refine AW_k fun K174 H174 => ?_
        refine AW_k fun K175 H175 => ?_
        refine AW_reg ?_
        refine s_v (o_mv (.sc (.int _ _)) rfl) ?_
        refine s_v (o_flp fd27_2 rfl rfl) ?_
        refine s_v (o_ldp (.sl none 35 (List.map c_Chunk p0.Chunks)) ld23 rfl (hp_get 1 hk173 rfl) rfl) ?_
        refine s_v (o_lenm ln23 rfl) ?_
        refine s_v (o_bi rfl rfl rfl trivial) ?_
        refine s_nil ?_
        refine H175 _ _ ?_
        clear H175 K175
        refine AW_if' rfl (fun hc176 => ?_) (fun hc176 => ?_)
        · replace hm := ite_t hm hc176
          refine AW_skip ?_
          refine H174 _ _ ?_
          clear H174 K174
          refine AW_k fun K177 H177 => ?_
          refine AW_block ?_
          refine AW_k fun K178 H178 => ?_
          refine AW_region_q [(some 34, [3], []), (some 35, [3], []), (some 36, [35], [1]), (some 37, [8], []), (some 38, [36, 37], [2, 3]), (some 39, [38], [4]), (some 40, [39], [5]), (some 41, [1], []), (some 42, [34, 40, 41], [0, 6, 7]), (some 33, [42], [8]), (some 43, [33], [9]), (some 44, [33], [9]), (some 9, [43], [10, 8, 0, 1, 2, 3, 4, 5, 6, 7, 8, 9, 10]), (some 10, [44], [11, 12, 0, 1, 2, 3, 4, 5, 6, 7, 8, 9, 10, 11, 12])] mixed (by kernel_rfl) (by kernel_rfl) ?_
          refine q_v (o_ldp (.agg (c_Catalog p0)) ld27 rfl (hp_get 1 hk173 rfl) rfl) ?_
          refine q_v (o_flp fd27_2 rfl rfl) ?_
          refine q_v (o_ldp (.sl none 35 (List.map c_Chunk p0.Chunks)) ld23 rfl (hp_get 1 hk173 rfl) rfl) ?_
          refine q_v (o_mv (.sc (.int _ _)) rfl) ?_
          obtain ⟨x179, hx180, hm⟩ := bind_of hm
          refine q_v (o_ix hx180 el23 rfl rfl) ?_
          refine q_v (o_fl fd63_3 rfl rfl) ?_
          refine q_v (o_ld (.sl none 4 (List.map c_Loc x179.Locs)) ld58 rfl rfl) ?_
          refine q_v (o_mv (.sc (.int _ _)) rfl) ?_
          obtain ⟨y181, hy182, hm⟩ := bind_of hm
          refine q_v (o_call (W123 _ hy182) rfl bd123 rfl) ?_
          refine q_v (o_mv (.tup _) rfl) ?_
          refine q_v (o_ex (.sc (.bool _)) rfl rfl) ?_
          refine q_v (o_ex (.sc (.bool _)) rfl rfl) ?_
          refine q_v (o_as (.sc (.bool _)) rfl) ?_
          refine q_v (o_as (.sc (.bool _)) rfl) ?_
          refine q_nil ?_
          refine H178 _ _ ?_
          clear H178 K178
          refine AW_k fun K183 H183 => ?_
          refine AW_joinG (n := 157) hm (σ := Bool) (τ := Unit) (fun g s => HOk h [(tg170, .tok 99 37 ((q169 : List TItem).length * 37)), (some k2, .obj 27 (c_Catalog p0))]) (fun g s => kp (kp (kp (kp (kp (kp (k0) 63 (.sc (.bool s))) 8 (.sc (.int .i64 q172))) 7 (ow tg170 37 (List.map c_Item q169))) 3 (.ptr k2 0)) 2 (.sc (.bool p2))) 1 (.sc (.int .i64 p1))) (fun g s => hp h [(tg170, .tok 99 37 ((q169 : List TItem).length * 37)), (some k2, .obj 27 (c_Catalog p0))]) (fun x hm => ?_) ?_
          · refine AW_region_q [(some 45, [9], []), (some 46, [45], [0]), (some 47, [2, 46], [1]), (some 48, [47, 46], [2, 1]), (some 49, [48, 46], [3, 1, 1]), (some 50, [10, 49], [4]), (some 51, [50, 49], [5, 4]), (some 52, [51, 49], [6, 4, 4]), (some 53, [3, 52], [7]), (some 54, [3, 52], [7]), (some 55, [54, 52], [9, 7]), (some 56, [8, 52], [7]), (some 57, [55, 56, 52], [10, 11, 7]), (some 58, [57, 52], [12, 7]), (some 59, [58, 52], [13, 7]), (some 60, [53, 59, 52], [8, 14, 7, 7]), (some 61, [52, 60, 49], [7, 15, 4]), (some 62, [49, 61, 46], [4, 16, 1]), (some 63, [46, 62], [1, 17])] mixed (by kernel_rfl) (by kernel_rfl) ?_
            refine q_v (o_mv (.sc (.bool _)) rfl) ?_
            refine q_v (o_mv (.sc (.bool _)) rfl) ?_
            rcases Bool.eq_false_or_eq_true y181.1 with hb192 | hb192
            · replace hm := ite_t hm hb192
              refine qg_y rfl rfl hb192 ?_
              refine q_v (o_mv (.sc (.bool _)) rfl) ?_
              refine qg_y rfl rfl hb192 ?_
              refine q_v (o_not rfl) ?_
              refine qg_y rfl rfl hb192 ?_
              refine q_v (o_mv (.sc (.bool _)) rfl) ?_
              rcases Bool.eq_false_or_eq_true (!p2) with hb193 | hb193
              · replace hm := ite_t hm hb193
                refine qg_n rfl rfl hb193 ?_
                refine qg_n rfl rfl hb193 ?_
                refine qg_n rfl rfl hb193 ?_
                refine qg_u rfl rfl ?_
                refine qg_u rfl rfl ?_
                refine qg_u rfl rfl ?_
                refine qg_u rfl rfl ?_
                refine qg_u rfl rfl ?_
                refine qg_u rfl rfl ?_
                refine qg_u rfl rfl ?_
                refine qg_u rfl rfl ?_
                refine qg_n rfl rfl hb193 ?_
                refine qg_y rfl rfl hb192 ?_
                refine q_v (o_pkt (.sc (.bool _)) rfl hb193 rfl) ?_
                refine q_v (o_pkt (.sc (.bool _)) rfl hb192 rfl) ?_
                refine q_nil ?_
                cases hm
                exact ⟨rfl, (), hk173, LeF.fm (Sub.refl _) (.cons (ALe.refl _ _) (.cons (ALe.refl _ _) (.cons (ALe.refl _ _) (.cons (ALe.refl _ _) (.cons (ALe.refl _ _) (.cons (ALe.refl _ _) (.nil)))))))⟩
              · replace hm := ite_f hm hb193
                refine qg_y rfl rfl hb193 ?_
                refine q_v (o_mv (.sc (.bool _)) rfl) ?_
                refine qg_y rfl rfl hb193 ?_
                refine q_v (o_not rfl) ?_
                refine qg_y rfl rfl hb193 ?_
                refine q_v (o_mv (.sc (.bool _)) rfl) ?_
                rcases Bool.eq_false_or_eq_true (!y181.2) with hb194 | hb194
                · replace hm := ite_t hm hb194
                  refine qg_y rfl rfl hb194 ?_
                  refine q_v (o_ldp (.agg (c_Catalog p0)) ld27 rfl (hp_get 1 hk173 rfl) rfl) ?_
                  refine qg_y rfl rfl hb194 ?_
                  refine q_v (o_flp fd27_2 rfl rfl) ?_
                  refine qg_y rfl rfl hb194 ?_
                  refine q_v (o_ldp (.sl none 35 (List.map c_Chunk p0.Chunks)) ld23 rfl (hp_get 1 hk173 rfl) rfl) ?_
                  refine qg_y rfl rfl hb194 ?_
                  refine q_v (o_mv (.sc (.int _ _)) rfl) ?_
                  refine qg_y rfl rfl hb194 ?_
                  obtain ⟨x195, hx196, hm⟩ := bind_of hm
                  refine q_v (o_ix hx196 el23 rfl rfl) ?_
                  refine qg_y rfl rfl hb194 ?_
                  refine q_v (o_fl fd63_0 rfl rfl) ?_
                  refine qg_y rfl rfl hb194 ?_
                  refine q_v (o_ld (.agg (c_id x195.Id)) ld61 rfl rfl) ?_
                  refine qg_y rfl rfl hb194 ?_
                  obtain ⟨y197, hy198, hm⟩ := bind_of hm
                  refine q_v (o_call (W65 _ hy198) rfl bd65 rfl) ?_
                  refine qg_y rfl rfl hb193 ?_
                  refine q_v (o_pkt (.sc (.bool _)) rfl hb194 rfl) ?_
                  refine qg_y rfl rfl hb192 ?_
                  refine q_v (o_pkf (.sc (.bool _)) rfl hb193 rfl) ?_
                  refine q_v (o_pkt (.sc (.bool _)) rfl hb192 rfl) ?_
                  refine q_nil ?_
                  cases hm
                  exact ⟨rfl, (), hk173, LeF.fm (Sub.refl _) (.cons (ALe.refl _ _) (.cons (ALe.refl _ _) (.cons (ALe.refl _ _) (.cons (ALe.refl _ _) (.cons (ALe.refl _ _) (.cons (ALe.refl _ _) (.nil)))))))⟩
                · replace hm := ite_f hm hb194
                  refine qg_n rfl rfl hb194 ?_
                  refine qg_n rfl rfl hb194 ?_
                  refine qg_n rfl rfl hb194 ?_
                  refine qg_n rfl rfl hb194 ?_
                  refine qg_n rfl rfl hb194 ?_
                  refine qg_n rfl rfl hb194 ?_
                  refine qg_n rfl rfl hb194 ?_
                  refine qg_n rfl rfl hb194 ?_
                  refine qg_y rfl rfl hb193 ?_
                  refine q_v (o_pkf (.sc (.bool _)) rfl hb194 rfl) ?_
                  refine qg_y rfl rfl hb192 ?_
                  refine q_v (o_pkf (.sc (.bool _)) rfl hb193 rfl) ?_
                  refine q_v (o_pkt (.sc (.bool _)) rfl hb192 rfl) ?_
                  refine q_nil ?_
                  cases hm
                  exact ⟨rfl, (), hk173, LeF.fm (Sub.refl _) (.cons (ALe.refl _ _) (.cons (ALe.refl _ _) (.cons (ALe.refl _ _) (.cons (ALe.refl _ _) (.cons (ALe.refl _ _) (.cons (ALe.refl _ _) (.nil)))))))⟩
            · replace hm := ite_f hm hb192
              refine qg_n rfl rfl hb192 ?_
              refine qg_n rfl rfl hb192 ?_
              refine qg_n rfl rfl hb192 ?_
              refine qg_u rfl rfl ?_
              refine qg_u rfl rfl ?_
              refine qg_u rfl rfl ?_
              refine qg_u rfl rfl ?_
              refine qg_u rfl rfl ?_
              refine qg_u rfl rfl ?_
              refine qg_u rfl rfl ?_
              refine qg_u rfl rfl ?_
              refine qg_u rfl rfl ?_
              refine qg_u rfl rfl ?_
              refine qg_u rfl rfl ?_
              refine qg_u rfl rfl ?_
              refine qg_n rfl rfl hb192 ?_
              refine q_v (o_pkf (.sc (.bool _)) rfl hb192 rfl) ?_
              refine q_nil ?_
              cases hm
              exact ⟨rfl, (), hk173, LeF.fm (Sub.refl _) (.cons (ALe.refl _ _) (.cons (ALe.refl _ _) (.cons (ALe.refl _ _) (.cons (ALe.refl _ _) (.cons (ALe.refl _ _) (.cons (ALe.refl _ _) (.nil)))))))⟩
          · rintro _ j191 fr' h' hk199 hm le
            refine H183 _ _ (le.aw ?_)
            clear le H183 K183
            refine AW_joinG (n := 157) hm (σ := (List TItem)) (τ := Option Key) (fun g s => HOk h [(g, .tok 99 37 ((s : List TItem).length * 37)), (some k2, .obj 27 (c_Catalog p0))] ∧ (g = none → s = [])) (fun g s => kp (kp (kp (kp (kp (k0) 8 (.sc (.int .i64 q172))) 7 (ow g 37 (List.map c_Item s))) 3 (.ptr k2 0)) 2 (.sc (.bool p2))) 1 (.sc (.int .i64 p1))) (fun g s => hp h [(g, .tok 99 37 ((s : List TItem).length * 37)), (some k2, .obj 27 (c_Catalog p0))]) (fun x hm => ?_) ?_
            · refine AW_if' rfl (fun hc211 => ?_) (fun hc211 => ?_)
              · replace hm := ite_t hm hc211
                refine AW_reg ?_
                refine s_v (o_mv (ow _ _ _) rfl) ?_
                refine s_v (o_flp fd27_2 rfl rfl) ?_
                refine s_v (o_ldp (.sl none 35 (List.map c_Chunk p0.Chunks)) ld23 rfl (hp_get 1 hk199 rfl) rfl) ?_
                refine s_v (o_mv (.sc (.int _ _)) rfl) ?_
                obtain ⟨x212, hx213, hm⟩ := bind_of hm
                refine s_v (o_ix hx213 el23 rfl rfl) ?_
                refine s_v (o_fl fd63_0 rfl rfl) ?_
                refine s_v (o_ld (.agg (c_id x212.Id)) ld61 rfl rfl) ?_
                refine s_v (o_bld (c_Item ({ Kind := 1, Id := x212.Id, Seq := 0, Of := 0, Off := 0, Len := 0 } : TItem)) bt99 rfl) ?_
                refine s_v (o_lit (List.map c_Item ([({ Kind := 1, Id := x212.Id, Seq := 0, Of := 0, Off := 0, Len := 0 } : TItem)] : List TItem)) et70 rfl rfl rfl rfl) ?_
                obtain ⟨z214, hz215, hm⟩ := bind_of hm
                refine s_op (a_app (c := c_Item) 0 hz215 et70 rfl rfl rfl ot171 hk199 rfl fun tg216 ot217 hk218 => ?_)
                refine s_v (o_as (ow _ _ _) rfl) ?_
                refine s_nil ?_
                cases hm
                exact ⟨rfl, tg216, ⟨hk218, ot217⟩, LeF.fm (Sub.refl _) (.cons (ALe.refl _ _) (.cons (ALe.refl _ _) (.cons (ALe.refl _ _) (.cons (ALe.refl _ _) (.cons (ALe.refl _ _) (.nil))))))⟩
              · replace hm := ite_f hm hc211
                refine AW_skip ?_
                cases hm
                exact ⟨rfl, tg170, ⟨hk199, ot171⟩, LeF.fm (Sub.refl _) (.cons (ALe.refl _ _) (.cons (ALe.refl _ _) (.cons (ALe.refl _ _) (.cons (ALe.refl _ _) (.cons (ALe.refl _ _) (.nil))))))⟩
            · rintro tg209 j208 fr' h' ⟨hk219, ot210⟩ hm le
              refine H177 _ _ (le.aw ?_)
              clear le H177 K177
              refine AW_reg ?_
              refine s_v (o_mv (.sc (.int _ _)) rfl) ?_
              refine s_v (o_bi rfl rfl rfl trivial) ?_
              refine s_v (o_as (.sc (.int _ _)) rfl) ?_
              refine s_nil ?_
              cases hm
              exact ⟨rfl, tg209, ⟨hk219, ot210⟩, LeF.fm (Sub.refl _) (.cons (ALe.refl _ _) (.cons (ALe.refl _ _) (.cons (ALe.refl _ _) (.cons (ALe.refl _ _) (.cons (ALe.refl _ _) (.nil))))))⟩
        · replace hm := ite_f hm hc176
          refine AW_exit ?_
          refine Seq_exit ?_
          cases hm
          exact ⟨rfl, tg170, ⟨hk173, ot171⟩, LeF.fm (Sub.refl _) (.cons (ALe.refl _ _) (.cons (ALe.refl _ _) (.cons (ALe.refl _ _) (.cons (ALe.refl _ _) (.cons (ALe.refl _ _) (.nil))))))⟩
      · rintro tg222 ⟨r220, r221⟩ fr' h' ⟨hk224, ot223⟩ hm le
        refine H14 _ _ (le.aw ?_)
        clear le H14 K14
        refine AW_k fun K225 H225 => ?_
        refine AW_k fun K226 H226 => ?_
        refine AW_reg ?_
        refine s_v (o_as (.sc (.int _ _)) rfl) ?_
        refine s_nil ?_
        refine H226 _ _ ?_
        clear H226 K226
        refine AW_loopG (n := 157) hm (σ := (List TItem) × Int) (τ := Option Key) (fun g s => HOk h [(g, .tok 99 37 ((s.1 : List TItem).length * 37)), (some k2, .obj 27 (c_Catalog p0))] ∧ (g = none → s.1 = [])) (fun g s => kp (kp (kp (kp (kp (k0) 11 (.sc (.int .i64 s.2))) 7 (ow g 37 (List.map c_Item s.1))) 3 (.ptr k2 0)) 2 (.sc (.bool p2))) 1 (.sc (.int .i64 p1))) (fun g s => hp h [(g, .tok 99 37 ((s.1 : List TItem).length * 37)), (some k2, .obj 27 (c_Catalog p0))]) tg222 (⟨hk224, ot223⟩) (LeF.fm (Sub.refl _) (.cons (ALe.refl _ _) (.cons (ALe.refl _ _) (.cons (ALe.refl _ _) (.cons (ALe.refl _ _) (.cons (ALe.refl _ _) (.nil))))))) ?_ ?_
        · rintro tg304 ⟨q303, q306⟩ x ⟨hk307, ot305⟩ hm
          replace hm : M88_L2 fuel p0 p1 p2 q303 q306 = some x := hm
          unfold M88_L2 at hm
          refine AW_k fun K308 H308 => ?_
          refine AW_k fun K309 H309 => ?_
          refine AW_reg ?_
          refine s_v (o_mv (.sc (.int _ _)) rfl) ?_
          refine s_v (o_flp fd27_1 rfl rfl) ?_
          refine s_v (o_ldp (.sl none 4 (List.map c_Snap p0.Snaps)) ld22 rfl (hp_get 1 hk307 rfl) rfl) ?_
          refine s_v (o_lenm ln22 rfl) ?_
          refine s_v (o_bi rfl rfl rfl trivial) ?_
          refine s_nil ?_
          refine H309 _ _ ?_
          clear H309 K309
          refine AW_if' rfl (fun hc310 => ?_) (fun hc310 => ?_)
          · replace hm := ite_t hm hc310
            refine AW_skip ?_
            refine H308 _ _ ?_
            clear H308 K308
            refine AW_k fun K311 H311 => ?_
            refine AW_block ?_
            refine AW_k fun K312 H312 => ?_
            refine AW_region_q [(some 82, [3], []), (some 83, [3], []), (some 84, [83], [1]), (some 85, [11], []), (some 86, [84, 85], [2, 3]), (some 87, [86], [4]), (some 88, [87], [5]), (some 89, [1], []), (some 90, [82, 88, 89], [0, 6, 7]), (some 81, [90], [8]), (some 91, [81], [9]), (some 92, [81], [9]), (some 12, [91], [10, 8, 0, 1, 2, 3, 4, 5, 6, 7, 8, 9, 10]), (some 13, [92], [11, 12, 0, 1, 2, 3, 4, 5, 6, 7, 8, 9, 10, 11, 12])] mixed (by kernel_rfl) (by kernel_rfl) ?_
            refine q_v (o_ldp (.agg (c_Catalog p0)) ld27 rfl (hp_get 1 hk307 rfl) rfl) ?_
            refine q_v (o_flp fd27_1 rfl rfl) ?_
            refine q_v (o_ldp (.sl none 4 (List.map c_Snap p0.Snaps)) ld22 rfl (hp_get 1 hk307 rfl) rfl) ?_
            refine q_v (o_mv (.sc (.int _ _)) rfl) ?_
            obtain ⟨x313, hx314, hm⟩ := bind_of hm
            refine q_v (o_ix hx314 el22 rfl rfl) ?_
            refine q_v (o_fl fd60_2 rfl rfl) ?_
            refine q_v (o_ld (.sl none 4 (List.map c_Loc x313.Locs)) ld58 rfl rfl) ?_
            refine q_v (o_mv (.sc (.int _ _)) rfl) ?_
            obtain ⟨y315, hy316, hm⟩ := bind_of hm
            refine q_v (o_call (W123 _ hy316) rfl bd123 rfl) ?_
            refine q_v (o_mv (.tup _) rfl) ?_
            refine q_v (o_ex (.sc (.bool _)) rfl rfl) ?_
            refine q_v (o_ex (.sc (.bool _)) rfl rfl) ?_
            refine q_v (o_as (.sc (.bool _)) rfl) ?_
            refine q_v (o_as (.sc (.bool _)) rfl) ?_
            refine q_nil ?_
            refine H312 _ _ ?_
            clear H312 K312
            refine AW_k fun K317 H317 => ?_
            refine AW_joinG (n := 157) hm (σ := Bool) (τ := Unit) (fun g s => HOk h [(tg304, .tok 99 37 ((q303 : List TItem).length * 37)), (some k2, .obj 27 (c_Catalog p0))]) (fun g s => kp (kp (kp (kp (kp (kp (k0) 101 (.sc (.bool s))) 11 (.sc (.int .i64 q306))) 7 (ow tg304 37 (List.map c_Item q303))) 3 (.ptr k2 0)) 2 (.sc (.bool p2))) 1 (.sc (.int .i64 p1))) (fun g s => hp h [(tg304, .tok 99 37 ((q303 : List TItem).length * 37)), (some k2, .obj 27 (c_Catalog p0))]) (fun x hm => ?_) ?_
            · refine AW_reg ?_
              refine s_v (o_mv (.sc (.bool _)) rfl) ?_
              refine s_v (o_mv (.sc (.bool _)) rfl) ?_
              rcases Bool.eq_false_or_eq_true y315.1 with hb321 | hb321
              · replace hm := ite_t hm hb321
                refine sg_y rfl rfl hb321 ?_
                refine s_v (o_mv (.sc (.bool _)) rfl) ?_
                refine sg_y rfl rfl hb321 ?_
                refine s_v (o_not rfl) ?_
                refine sg_y rfl rfl hb321 ?_
                refine s_v (o_mv (.sc (.bool _)) rfl) ?_
                rcases Bool.eq_false_or_eq_true (!p2) with hb322 | hb322
                · replace hm := ite_t hm hb322
                  refine sg_n rfl rfl hb322 ?_
                  refine sg_n rfl rfl hb322 ?_
                  refine sg_y rfl rfl hb321 ?_
                  refine s_v (o_pkt (.sc (.bool _)) rfl hb322 rfl) ?_
                  refine s_v (o_pkt (.sc (.bool _)) rfl hb321 rfl) ?_
                  refine s_nil ?_
                  cases hm
                  exact ⟨rfl, (), hk307, LeF.fm (Sub.refl _) (.cons (ALe.refl _ _) (.cons (ALe.refl _ _) (.cons (ALe.refl _ _) (.cons (ALe.refl _ _) (.cons (ALe.refl _ _) (.cons (ALe.refl _ _) (.nil)))))))⟩
                · replace hm := ite_f hm hb322
                  refine sg_y rfl rfl hb322 ?_
                  refine s_v (o_mv (.sc (.bool _)) rfl) ?_
                  refine sg_y rfl rfl hb322 ?_
                  refine s_v (o_not rfl) ?_
                  refine sg_y rfl rfl hb321 ?_
                  refine s_v (o_pkf (.sc (.bool _)) rfl hb322 rfl) ?_
                  refine s_v (o_pkt (.sc (.bool _)) rfl hb321 rfl) ?_
                  refine s_nil ?_
                  cases hm
                  exact ⟨rfl, (), hk307, LeF.fm (Sub.refl _) (.cons (ALe.refl _ _) (.cons (ALe.refl _ _) (.cons (ALe.refl _ _) (.cons (ALe.refl _ _) (.cons (ALe.refl _ _) (.cons (ALe.refl _ _) (.nil)))))))⟩
              · replace hm := ite_f hm hb321
                refine sg_n rfl rfl hb321 ?_
                refine sg_n rfl rfl hb321 ?_
                refine sg_n rfl rfl hb321 ?_
                refine sg_u rfl rfl ?_
                refine sg_u rfl rfl ?_
                refine sg_n rfl rfl hb321 ?_
                refine s_v (o_pkf (.sc (.bool _)) rfl hb321 rfl) ?_
                refine s_nil ?_
                cases hm
                exact ⟨rfl, (), hk307, LeF.fm (Sub.refl _) (.cons (ALe.refl _ _) (.cons (ALe.refl _ _) (.cons (ALe.refl _ _) (.cons (ALe.refl _ _) (.cons (ALe.refl _ _) (.cons (ALe.refl _ _) (.nil)))))))⟩
            · rintro _ j320 fr' h' hk323 hm le
              refine H317 _ _ (le.aw ?_)
              clear le H317 K317
              refine AW_joinG (n := 157) hm (σ := (List TItem)) (τ := Option Key) (fun g s => HOk h [(g, .tok 99 37 ((s : List TItem).length * 37)), (some k2, .obj 27 (c_Catalog p0))] ∧ (g = none → s = [])) (fun g s => kp (kp (kp (kp (kp (k0) 11 (.sc (.int .i64 q306))) 7 (ow g 37 (List.map c_Item s))) 3 (.ptr k2 0)) 2 (.sc (.bool p2))) 1 (.sc (.int .i64 p1))) (fun g s => hp h [(g, .tok 99 37 ((s : List TItem).length * 37)), (some k2, .obj 27 (c_Catalog p0))]) (fun x hm => ?_) ?_
              · refine AW_if' rfl (fun hc335 => ?_) (fun hc335 => ?_)
                · replace hm := ite_t hm hc335
                  refine AW_reg ?_
                  refine s_v (o_mv (ow _ _ _) rfl) ?_
                  refine s_v (o_flp fd27_1 rfl rfl) ?_
                  refine s_v (o_ldp (.sl none 4 (List.map c_Snap p0.Snaps)) ld22 rfl (hp_get 1 hk323 rfl) rfl) ?_
                  refine s_v (o_mv (.sc (.int _ _)) rfl) ?_
                  obtain ⟨x336, hx337, hm⟩ := bind_of hm
                  refine s_v (o_ix hx337 el22 rfl rfl) ?_
                  refine s_v (o_fl fd60_0 rfl rfl) ?_
                  refine s_v (o_ld (.sc (.int .i64 x336.Seq)) ld3 rfl rfl) ?_
                  refine s_v (o_bld (c_Item ({ Kind := 2, Id := idZ, Seq := x336.Seq, Of := 0, Off := 0, Len := 0 } : TItem)) bt99 rfl) ?_
                  refine s_v (o_lit (List.map c_Item ([({ Kind := 2, Id := idZ, Seq := x336.Seq, Of := 0, Off := 0, Len := 0 } : TItem)] : List TItem)) et70 rfl rfl rfl rfl) ?_
                  obtain ⟨z338, hz339, hm⟩ := bind_of hm
                  refine s_op (a_app (c := c_Item) 0 hz339 et70 rfl rfl rfl ot305 hk323 rfl fun tg340 ot341 hk342 => ?_)
                  refine s_v (o_as (ow _ _ _) rfl) ?_
                  refine s_nil ?_
                  cases hm
                  exact ⟨rfl, tg340, ⟨hk342, ot341⟩, LeF.fm (Sub.refl _) (.cons (ALe.refl _ _) (.cons (ALe.refl _ _) (.cons (ALe.refl _ _) (.cons (ALe.refl _ _) (.cons (ALe.refl _ _) (.nil))))))⟩
                · replace hm := ite_f hm hc335
                  refine AW_skip ?_
                  cases hm
                  exact ⟨rfl, tg304, ⟨hk323, ot305⟩, LeF.fm (Sub.refl _) (.cons (ALe.refl _ _) (.cons (ALe.refl _ _) (.cons (ALe.refl _ _) (.cons (ALe.refl _ _) (.cons (ALe.refl _ _) (.nil))))))⟩
              · rintro tg333 j332 fr' h' ⟨hk343, ot334⟩ hm le
                refine H311 _ _ (le.aw ?_)
                clear le H311 K311
                refine AW_reg ?_
                refine s_v (o_mv (.sc (.int _ _)) rfl) ?_
                refine s_v (o_bi rfl rfl rfl trivial) ?_
                refine s_v (o_as (.sc (.int _ _)) rfl) ?_
                refine s_nil ?_
                cases hm
                exact ⟨rfl, tg333, ⟨hk343, ot334⟩, LeF.fm (Sub.refl _) (.cons (ALe.refl _ _) (.cons (ALe.refl _ _) (.cons (ALe.refl _ _) (.cons (ALe.refl _ _) (.cons (ALe.refl _ _) (.nil))))))⟩
          · replace hm := ite_f hm hc310
            refine AW_exit ?_
            refine Seq_exit ?_
            cases hm
            exact ⟨rfl, tg304, ⟨hk307, ot305⟩, LeF.fm (Sub.refl _) (.cons (ALe.refl _ _) (.cons (ALe.refl _ _) (.cons (ALe.refl _ _) (.cons (ALe.refl _ _) (.cons (ALe.refl _ _) (.nil))))))⟩
        · rintro tg346 ⟨r344, r345⟩ fr' h' ⟨hk348, ot347⟩ hm le
          refine H225 _ _ (le.aw ?_)
          clear le H225 K225
          refine AW_k fun K349 H349 => ?_
          refine AW_k fun K350 H350 => ?_
          refine AW_reg ?_
          refine s_v (o_as (.sc (.int _ _)) rfl) ?_
          refine s_nil ?_
          refine H350 _ _ ?_
          clear H350 K350
          refine AW_loopG (n := 157) hm (σ := (List TItem) × Int) (τ := Option Key) (fun g s => HOk h [(g, .tok 99 37 ((s.1 : List TItem).length * 37)), (some k2, .obj 27 (c_Catalog p0))] ∧ (g = none → s.1 = [])) (fun g s => kp (kp (kp (kp (kp (k0) 14 (.sc (.int .i64 s.2))) 7 (ow g 37 (List.map c_Item s.1))) 3 (.ptr k2 0)) 2 (.sc (.bool p2))) 1 (.sc (.int .i64 p1))) (fun g s => hp h [(g, .tok 99 37 ((s.1 : List TItem).length * 37)), (some k2, .obj 27 (c_Catalog p0))]) tg346 (⟨hk348, ot347⟩) (LeF.fm (Sub.refl _) (.cons (ALe.refl _ _) (.cons (ALe.refl _ _) (.cons (ALe.refl _ _) (.cons (ALe.refl _ _) (.cons (ALe.refl _ _) (.nil))))))) ?_ ?_
          · rintro tg472 ⟨q471, q474⟩ x ⟨hk475, ot473⟩ hm
            replace hm : M88_L4 fuel p0 p1 p2 q471 q474 = some x := hm
            unfold M88_L4 at hm
            refine AW_k fun K476 H476 => ?_
            refine AW_k fun K477 H477 => ?_
            refine AW_reg ?_
            refine s_v (o_mv (.sc (.int _ _)) rfl) ?_
            refine s_v (o_flp fd27_3 rfl rfl) ?_
            refine s_v (o_ldp (.sl none 3 (List.map c_Exp p0.Exps)) ld24 rfl (hp_get 1 hk475 rfl) rfl) ?_
            refine s_v (o_lenm ln24 rfl) ?_
            refine s_v (o_bi rfl rfl rfl trivial) ?_
            refine s_nil ?_
            refine H477 _ _ ?_
            clear H477 K477
            refine AW_if' rfl (fun hc478 => ?_) (fun hc478 => ?_)
            · replace hm := ite_t hm hc478
              refine AW_skip ?_
              refine H476 _ _ ?_
              clear H476 K476
              refine AW_k fun K479 H479 => ?_
              refine AW_block ?_
              refine AW_k fun K480 H480 => ?_
              refine AW_region_q [(some 120, [3], []), (some 121, [3], []), (some 122, [121], [1]), (some 123, [14], []), (some 124, [122, 123], [2, 3]), (some 125, [124], [4]), (some 126, [125], [5]), (some 127, [1], []), (some 128, [120, 126, 127], [0, 6, 7]), (some 119, [128], [8]), (some 129, [119], [9]), (some 130, [119], [9]), (some 15, [129], [10, 8, 0, 1, 2, 3, 4, 5, 6, 7, 8, 9, 10]), (some 16, [130], [11, 12, 0, 1, 2, 3, 4, 5, 6, 7, 8, 9, 10, 11, 12])] mixed (by kernel_rfl) (by kernel_rfl) ?_
              refine q_v (o_ldp (.agg (c_Catalog p0)) ld27 rfl (hp_get 1 hk475 rfl) rfl) ?_
              refine q_v (o_flp fd27_3 rfl rfl) ?_
              refine q_v (o_ldp (.sl none 3 (List.map c_Exp p0.Exps)) ld24 rfl (hp_get 1 hk475 rfl) rfl) ?_
              refine q_v (o_mv (.sc (.int _ _)) rfl) ?_
              obtain ⟨x481, hx482, hm⟩ := bind_of hm
              refine q_v (o_ix hx482 el24 rfl rfl) ?_
              refine q_v (o_fl fd65_2 rfl rfl) ?_
              refine q_v (o_ld (.sl none 4 (List.map c_Loc x481.Locs)) ld58 rfl rfl) ?_
              refine q_v (o_mv (.sc (.int _ _)) rfl) ?_
              obtain ⟨y483, hy484, hm⟩ := bind_of hm
              refine q_v (o_call (W123 _ hy484) rfl bd123 rfl) ?_
              refine q_v (o_mv (.tup _) rfl) ?_
              refine q_v (o_ex (.sc (.bool _)) rfl rfl) ?_
              refine q_v (o_ex (.sc (.bool _)) rfl rfl) ?_
              refine q_v (o_as (.sc (.bool _)) rfl) ?_
              refine q_v (o_as (.sc (.bool _)) rfl) ?_
              refine q_nil ?_
              refine H480 _ _ ?_
              clear H480 K480
              refine AW_k fun K485 H485 => ?_
              refine AW_joinG (n := 157) hm (σ := Bool) (τ := Unit) (fun g s => HOk h [(tg472, .tok 99 37 ((q471 : List TItem).length * 37)), (some k2, .obj 27 (c_Catalog p0))]) (fun g s => kp (kp (kp (kp (kp (kp (k0) 139 (.sc (.bool s))) 14 (.sc (.int .i64 q474))) 7 (ow tg472 37 (List.map c_Item q471))) 3 (.ptr k2 0)) 2 (.sc (.bool p2))) 1 (.sc (.int .i64 p1))) (fun g s => hp h [(tg472, .tok 99 37 ((q471 : List TItem).length * 37)), (some k2, .obj 27 (c_Catalog p0))]) (fun x hm => ?_) ?_
              · refine AW_reg ?_
                refine s_v (o_mv (.sc (.bool _)) rfl) ?_
                refine s_v (o_mv (.sc (.bool _)) rfl) ?_
                rcases Bool.eq_false_or_eq_true y483.1 with hb489 | hb489
                · replace hm := ite_t hm hb489
                  refine sg_y rfl rfl hb489 ?_
                  refine s_v (o_mv (.sc (.bool _)) rfl) ?_
                  refine sg_y rfl rfl hb489 ?_
                  refine s_v (o_not rfl) ?_
                  refine sg_y rfl rfl hb489 ?_
                  refine s_v (o_mv (.sc (.bool _)) rfl) ?_
                  rcases Bool.eq_false_or_eq_true (!p2) with hb490 | hb490
                  · replace hm := ite_t hm hb490
                    refine sg_n rfl rfl hb490 ?_
                    refine sg_n rfl rfl hb490 ?_
                    refine sg_y rfl rfl hb489 ?_
                    refine s_v (o_pkt (.sc (.bool _)) rfl hb490 rfl) ?_
                    refine s_v (o_pkt (.sc (.bool _)) rfl hb489 rfl) ?_
                    refine s_nil ?_
                    cases hm
                    exact ⟨rfl, (), hk475, LeF.fm (Sub.refl _) (.cons (ALe.refl _ _) (.cons (ALe.refl _ _) (.cons (ALe.refl _ _) (.cons (ALe.refl _ _) (.cons (ALe.refl _ _) (.cons (ALe.refl _ _) (.nil)))))))⟩
                  · replace hm := ite_f hm hb490
                    refine sg_y rfl rfl hb490 ?_
                    refine s_v (o_mv (.sc (.bool _)) rfl) ?_
                    refine sg_y rfl rfl hb490 ?_
                    refine s_v (o_not rfl) ?_
                    refine sg_y rfl rfl hb489 ?_
                    refine s_v (o_pkf (.sc (.bool _)) rfl hb490 rfl) ?_
                    refine s_v (o_pkt (.sc (.bool _)) rfl hb489 rfl) ?_
                    refine s_nil ?_
                    cases hm
                    exact ⟨rfl, (), hk475, LeF.fm (Sub.refl _) (.cons (ALe.refl _ _) (.cons (ALe.refl _ _) (.cons (ALe.refl _ _) (.cons (ALe.refl _ _) (.cons (ALe.refl _ _) (.cons (ALe.refl _ _) (.nil)))))))⟩
                · replace hm := ite_f hm hb489
                  refine sg_n rfl rfl hb489 ?_
                  refine sg_n rfl rfl hb489 ?_
                  refine sg_n rfl rfl hb489 ?_
                  refine sg_u rfl rfl ?_
                  refine sg_u rfl rfl ?_
                  refine sg_n rfl rfl hb489 ?_
                  refine s_v (o_pkf (.sc (.bool _)) rfl hb489 rfl) ?_
                  refine s_nil ?_
                  cases hm
                  exact ⟨rfl, (), hk475, LeF.fm (Sub.refl _) (.cons (ALe.refl _ _) (.cons (ALe.refl _ _) (.cons (ALe.refl _ _) (.cons (ALe.refl _ _) (.cons (ALe.refl _ _) (.cons (ALe.refl _ _) (.nil)))))))⟩
              · rintro _ j488 fr' h' hk491 hm le
                refine H485 _ _ (le.aw ?_)
                clear le H485 K485
                refine AW_joinG (n := 157) hm (σ := (List TItem)) (τ := Option Key) (fun g s => HOk h [(g, .tok 99 37 ((s : List TItem).length * 37)), (some k2, .obj 27 (c_Catalog p0))] ∧ (g = none → s = [])) (fun g s => kp (kp (kp (kp (kp (k0) 14 (.sc (.int .i64 q474))) 7 (ow g 37 (List.map c_Item s))) 3 (.ptr k2 0)) 2 (.sc (.bool p2))) 1 (.sc (.int .i64 p1))) (fun g s => hp h [(g, .tok 99 37 ((s : List TItem).length * 37)), (some k2, .obj 27 (c_Catalog p0))]) (fun x hm => ?_) ?_
                · refine AW_if' rfl (fun hc514 => ?_) (fun hc514 => ?_)
                  · replace hm := ite_t hm hc514
                    refine AW_zreg [(1000000, k2, .obj 27 (c_Catalog p0))] mixed (⟨fun _ => hp_get 1 hk491 rfl, trivial⟩) ?_
                    refine z_v 0 rfl (by kernel_rfl) rfl (fun S' h' hi hB => o_mv (ow _ _ _) rfl) ?_
                    refine z_v 1 rfl (by kernel_rfl) rfl (fun S' h' hi hB => o_flp fd27_3 rfl rfl) ?_
                    refine z_v 2 rfl (by kernel_rfl) rfl (fun S' h' hi hB => o_ldp (.sl none 3 (List.map c_Exp p0.Exps)) ld24 rfl (InvL.get 0 hi rfl (hB 1000000 (by kernel_rfl))) rfl) ?_
                    refine z_v 3 rfl (by kernel_rfl) rfl (fun S' h' hi hB => o_mv (.sc (.int _ _)) rfl) ?_
                    obtain ⟨x524, hx525, hm⟩ := bind_of hm
                    refine z_v 4 rfl (by kernel_rfl) rfl (fun S' h' hi hB => o_ix hx525 el24 rfl rfl) ?_
                    refine z_v 5 rfl (by kernel_rfl) rfl (fun S' h' hi hB => o_fl fd65_0 rfl rfl) ?_
                    refine z_v 6 rfl (by kernel_rfl) rfl (fun S' h' hi hB => o_ld (.sc (.int .i64 x524.Seq)) ld3 rfl rfl) ?_
                    refine z_v 7 rfl (by kernel_rfl) rfl (fun S' h' hi hB => o_flp fd27_3 rfl rfl) ?_
                    refine z_v 8 rfl (by kernel_rfl) rfl (fun S' h' hi hB => o_ldp (.sl none 3 (List.map c_Exp p0.Exps)) ld24 rfl (InvL.get 0 hi rfl (hB 1000000 (by kernel_rfl))) rfl) ?_
                    refine z_v 9 rfl (by kernel_rfl) rfl (fun S' h' hi hB => o_mv (.sc (.int _ _)) rfl) ?_
                    obtain ⟨x526, hx527, hm⟩ := bind_of hm
                    refine z_v 10 rfl (by kernel_rfl) rfl (fun S' h' hi hB => o_ix hx527 el24 rfl rfl) ?_
                    refine z_v 11 rfl (by kernel_rfl) rfl (fun S' h' hi hB => o_fl fd65_1 rfl rfl) ?_
                    refine z_v 12 rfl (by kernel_rfl) rfl (fun S' h' hi hB => o_ld (.sc (.int .i64 x526.Of)) ld3 rfl rfl) ?_
                    refine z_v 13 rfl (by kernel_rfl) rfl (fun S' h' hi hB => o_bld (c_Item ({ Kind := 3, Id := idZ, Seq := x524.Seq, Of := x526.Of, Off := 0, Len := 0 } : TItem)) bt99 rfl) ?_
                    refine z_v 14 rfl (by kernel_rfl) rfl (fun S' h' hi hB => o_lit (List.map c_Item ([({ Kind := 3, Id := idZ, Seq := x524.Seq, Of := x526.Of, Off := 0, Len := 0 } : TItem)] : List TItem)) et70 rfl rfl rfl rfl) ?_
                    obtain ⟨z528, hz529, hm⟩ := bind_of hm
                    refine z_e 15 rfl (by kernel_rfl) (a_app (c := c_Item) 0 hz529 et70 rfl rfl rfl ot473 hk491 rfl fun tg530 ot531 hk532 => ⟨⟨fun _ => hp_get 1 hk532 rfl, trivial⟩, ?_⟩)
                    refine z_v 16 rfl (by kernel_rfl) rfl (fun S' h' hi hB => o_as (ow _ _ _) rfl) ?_
                    refine z_nil (by kernel_rfl) ?_
                    cases hm
                    exact ⟨rfl, tg530, ⟨hk532, ot531⟩, LeF.fm (Sub.refl _) (.cons (ALe.refl _ _) (.cons (ALe.refl _ _) (.cons (ALe.refl _ _) (.cons (ALe.refl _ _) (.cons (ALe.refl _ _) (.nil))))))⟩
                  · replace hm := ite_f hm hc514
                    refine AW_skip ?_
                    cases hm
                    exact ⟨rfl, tg472, ⟨hk491, ot473⟩, LeF.fm (Sub.refl _) (.cons (ALe.refl _ _) (.cons (ALe.refl _ _) (.cons (ALe.refl _ _) (.cons (ALe.refl _ _) (.cons (ALe.refl _ _) (.nil))))))⟩
                · rintro tg512 j511 fr' h' ⟨hk533, ot513⟩ hm le
                  refine H479 _ _ (le.aw ?_)
                  clear le H479 K479
                  refine AW_reg ?_
                  refine s_v (o_mv (.sc (.int _ _)) rfl) ?_
                  refine s_v (o_bi rfl rfl rfl trivial) ?_
                  refine s_v (o_as (.sc (.int _ _)) rfl) ?_
                  refine s_nil ?_
                  cases hm
                  exact ⟨rfl, tg512, ⟨hk533, ot513⟩, LeF.fm (Sub.refl _) (.cons (ALe.refl _ _) (.cons (ALe.refl _ _) (.cons (ALe.refl _ _) (.cons (ALe.refl _ _) (.cons (ALe.refl _ _) (.nil))))))⟩
            · replace hm := ite_f hm hc478
              refine AW_exit ?_
              refine Seq_exit ?_
              cases hm
              exact ⟨rfl, tg472, ⟨hk475, ot473⟩, LeF.fm (Sub.refl _) (.cons (ALe.refl _ _) (.cons (ALe.refl _ _) (.cons (ALe.refl _ _) (.cons (ALe.refl _ _) (.cons (ALe.refl _ _) (.nil))))))⟩
          · rintro tg536 ⟨r534, r535⟩ fr' h' ⟨hk538, ot537⟩ hm le
            refine H349 _ _ (le.aw ?_)
            clear le H349 K349
            refine AW_k fun K539 H539 => ?_
            refine AW_reg ?_
            refine s_v (o_mv (ow _ _ _) rfl) ?_
            refine s_v (o_as (ow _ _ _) rfl) ?_
            refine s_nil ?_
            refine H539 _ _ ?_
            clear H539 K539
            refine AW_ret ?_
            cases hm
            exact Ret.of1 (.inl rfl) (rsT _ _ (ow _ _ _) rfl) (hp_sub (List.nil_sublist _) hk538).1 ((own_frz0 _ 0 ot537 hk538 rfl)) ⟨rfl, rfl⟩
theorem bd88 : bodied Try.prog 88 = true := by kernel_rfl
def M42 (fuel : Nat) (p0 : TCatalog) (p1 : Int) : Option ((List TItem)) :=
  (M88 fuel p0 p1 false).bind fun y6 => some y6
set_option maxRecDepth 100000 in
/-- cellarer/cellarerref20.On -/
theorem W42 {fuel : Nat} {p0 : TCatalog} {p1 : Int} {o : (List TItem)} (h : Heap) (hm : M42 fuel p0 p1 = some o) :
    ACalls Try.prog 42 [.agg (c_Catalog p0), .sc (.int .i64 p1)] h (fun r h' => r = .sl none 37 (List.map c_Item o) ∧ h' = h) := by
  refine ACalls_hp 8 [.tmp 4] Try.func42 rfl rfl rfl rfl ?_
  unfold M42 at hm
  refine AW_k fun K1 H1 => ?_
  refine AW_reg ?_
  refine s_op (a_box (HOk.nil _) rfl rfl fun k2 hk3 => ?_)
  refine s_v (o_as (.sc (.slice _ _ _)) rfl) ?_
  refine s_nil ?_
  refine H1 _ _ ?_
  clear H1 K1
  refine AW_k fun K5 H5 => ?_
  refine AW_reg ?_
  refine s_v (o_ldp (.agg (c_Catalog p0)) ld27 rfl (hp_get 0 hk3 rfl) rfl) ?_
  refine s_v (o_mv (.sc (.int _ _)) rfl) ?_
  obtain ⟨y6, hy7, hm⟩ := bind_of hm
  refine s_v (o_call (W88 _ hy7) rfl bd88 rfl) ?_
  refine s_v (o_as (.sl _ _ _) rfl) ?_
  refine s_nil ?_
  refine H5 _ _ ?_
  clear H5 K5
  refine AW_ret ?_
  cases hm
  exact Ret.of1 (.inl rfl) (rsT _ _ (.sl _ _ _) rfl) (hp_sub (List.nil_sublist _) hk3).1 (ALe.refl _ _) ⟨rfl, rfl⟩
theorem bd42 : bodied Try.prog 42 = true := by kernel_rfl
def M24_L0 (fuel : Nat) (p0 : TCatalog) (y7 : (List TItem)) (q63 : Int) (q64 : Int) : Option (Lp (Int × Int) (Int)) :=
  if (decide (q64 < (y7.length : Int))) = true then (after ((ix y7 q64).bind fun x79 => if (x79.Kind != 1) = true then (some (.brk true)) else (ix y7 q64).bind fun x82 => (M65 fuel p0 x82.Id).bind fun y84 => some (.brk y84) : Option (Lp (Bool) (Lp (Int × Int) (Int)))) fun j78 => after (if j78 = true then (some (.brk (IntKind.wrap .i64 (q63 + 1)))) else some (.brk q63) : Option (Lp (Int) (Lp (Int × Int) (Int)))) fun j88 => some (.go (j88, IntKind.wrap .i64 (q64 + 1)))) else some (.brk (q63, q64))
def M24 (fuel : Nat) (p0 : TCatalog) (p1 : Int) : Option (Int) :=
  (M42 fuel p0 p1).bind fun y7 => after (loopM (fun s => M24_L0 fuel p0 y7 s.1 s.2) fuel (0, 0)) fun ⟨r91, r92⟩ => some r91
set_option maxRecDepth 100000 in
/-- cellarer/cellarerref20.Live -/
theorem W24 {fuel : Nat} {p0 : TCatalog} {p1 : Int} {o : Int} (h : Heap) (hm : M24 fuel p0 p1 = some o) :
    ACalls Try.prog 24 [.agg (c_Catalog p0), .sc (.int .i64 p1)] h (fun r h' => r = .sc (.int .i64 o) ∧ h' = h) := by
  refine ACalls_hp 35 [.tmp 4] Try.func24 rfl rfl rfl rfl ?_
  unfold M24 at hm
  refine AW_k fun K1 H1 => ?_
  refine AW_reg ?_
  refine s_op (a_box (HOk.nil _) rfl rfl fun k2 hk3 => ?_)
  refine s_v (o_as (.sc (.int _ _)) rfl) ?_
  refine s_nil ?_
  refine H1 _ _ ?_
  clear H1 K1
  refine AW_k fun K5 H5 => ?_
  refine AW_reg ?_
  refine s_v (o_as (.sc (.int _ _)) rfl) ?_
  refine s_nil ?_
  refine H5 _ _ ?_
  clear H5 K5
  refine AW_k fun K6 H6 => ?_
  refine AW_reg ?_
  refine s_v (o_ldp (.agg (c_Catalog p0)) ld27 rfl (hp_get 0 hk3 rfl) rfl) ?_
  refine s_v (o_mv (.sc (.int _ _)) rfl) ?_
  obtain ⟨y7, hy8, hm⟩ := bind_of hm
  refine s_v (o_call (W42 _ hy8) rfl bd42 rfl) ?_
  refine s_v (o_as (.sl _ _ _) rfl) ?_
  refine s_nil ?_
  refine H6 _ _ ?_
  clear H6 K6
  refine AW_k fun K9 H9 => ?_
  refine AW_k fun K10 H10 => ?_
  refine AW_reg ?_
  refine s_v (o_as (.sc (.int _ _)) rfl) ?_
  refine s_nil ?_
  refine H10 _ _ ?_
  clear H10 K10
  refine AW_loopG (n := 35) hm (σ := Int × Int) (τ := Unit) (fun g s => HOk h [(some k2, .obj 27 (c_Catalog p0))]) (fun g s => kp (kp (kp (kp (k0) 7 (.sc (.int .i64 s.2))) 6 (.sl none 37 (List.map c_Item y7))) 5 (.sc (.int .i64 s.1))) 2 (.ptr k2 0)) (fun g s => hp h [(some k2, .obj 27 (c_Catalog p0))]) () hk3 (LeF.fm (Sub.refl _) (.cons (ALe.refl _ _) (.cons (ALe.refl _ _) (.cons (ALe.refl _ _) (.cons (ALe.refl _ _) (.nil)))))) ?_ ?_
  · rintro _ ⟨q63, q64⟩ x hk65 hm
    replace hm : M24_L0 fuel p0 y7 q63 q64 = some x := hm
    unfold M24_L0 at hm
    refine AW_k fun K66 H66 => ?_
    refine AW_k fun K67 H67 => ?_
    refine AW_reg ?_
    refine s_v (o_mv (.sc (.int _ _)) rfl) ?_
    refine s_v (o_mv (.sl _ _ _) rfl) ?_
    refine s_v (o_lenm ln70 rfl) ?_
    refine s_v (o_bi rfl rfl rfl trivial) ?_
    refine s_nil ?_
    refine H67 _ _ ?_
    clear H67 K67
    refine AW_if' rfl (fun hc68 => ?_) (fun hc68 => ?_)
    · replace hm := ite_t hm hc68
      refine AW_skip ?_
      refine H66 _ _ ?_
      clear H66 K66
      refine AW_k fun K69 H69 => ?_
      refine AW_block ?_
      refine AW_k fun K70 H70 => ?_
      refine AW_joinG (n := 35) hm (σ := Bool) (τ := Unit) (fun g s => HOk h [(some k2, .obj 27 (c_Catalog p0))]) (fun g s => kp (kp (kp (kp (kp (k0) 31 (.sc (.bool s))) 7 (.sc (.int .i64 q64))) 6 (.sl none 37 (List.map c_Item y7))) 5 (.sc (.int .i64 q63))) 2 (.ptr k2 0)) (fun g s => hp h [(some k2, .obj 27 (c_Catalog p0))]) (fun x hm => ?_) ?_
      · refine AW_region_q [(some 17, [6], []), (some 18, [7], []), (some 19, [17, 18], [0, 1]), (some 20, [19], [2]), (some 21, [20], [3]), (some 22, [21], [4]), (some 23, [22], [5]), (some 24, [2, 23], [6]), (some 25, [6, 23], [6]), (some 26, [7, 23], [6]), (some 27, [25, 26, 23], [8, 9, 6]), (some 28, [27, 23], [10, 6]), (some 29, [28, 23], [11, 6]), (some 30, [24, 29, 23], [7, 12, 6, 6]), (some 31, [23, 30], [6, 13])] mixed (by kernel_rfl) (by kernel_rfl) ?_
        refine q_v (o_mv (.sl _ _ _) rfl) ?_
        refine q_v (o_mv (.sc (.int _ _)) rfl) ?_
        obtain ⟨x79, hx80, hm⟩ := bind_of hm
        refine q_v (o_ix hx80 el70 rfl rfl) ?_
        refine q_v (o_fl fd99_0 rfl rfl) ?_
        refine q_v (o_ld (.sc (.int .i64 x79.Kind)) ld3 rfl rfl) ?_
        refine q_v (o_bi rfl rfl rfl trivial) ?_
        refine q_v (o_mv (.sc (.bool _)) rfl) ?_
        rcases Bool.eq_false_or_eq_true (x79.Kind != 1) with hb81 | hb81
        · replace hm := ite_t hm hb81
          refine qg_n rfl rfl hb81 ?_
          refine qg_n rfl rfl hb81 ?_
          refine qg_n rfl rfl hb81 ?_
          refine qg_n rfl rfl hb81 ?_
          refine qg_n rfl rfl hb81 ?_
          refine qg_n rfl rfl hb81 ?_
          refine qg_n rfl rfl hb81 ?_
          refine q_v (o_pkt (.sc (.bool _)) rfl hb81 rfl) ?_
          refine q_nil ?_
          cases hm
          exact ⟨rfl, (), hk65, LeF.fm (Sub.refl _) (.cons (ALe.refl _ _) (.cons (ALe.refl _ _) (.cons (ALe.refl _ _) (.cons (ALe.refl _ _) (.cons (ALe.refl _ _) (.nil))))))⟩
        · replace hm := ite_f hm hb81
          refine qg_y rfl rfl hb81 ?_
          refine q_v (o_ldp (.agg (c_Catalog p0)) ld27 rfl (hp_get 0 hk65 rfl) rfl) ?_
          refine qg_y rfl rfl hb81 ?_
          refine q_v (o_mv (.sl _ _ _) rfl) ?_
          refine qg_y rfl rfl hb81 ?_
          refine q_v (o_mv (.sc (.int _ _)) rfl) ?_
          refine qg_y rfl rfl hb81 ?_
          obtain ⟨x82, hx83, hm⟩ := bind_of hm
          refine q_v (o_ix hx83 el70 rfl rfl) ?_
          refine qg_y rfl rfl hb81 ?_
          refine q_v (o_fl fd99_1 rfl rfl) ?_
          refine qg_y rfl rfl hb81 ?_
          refine q_v (o_ld (.agg (c_id x82.Id)) ld61 rfl rfl) ?_
          refine qg_y rfl rfl hb81 ?_
          obtain ⟨y84, hy85, hm⟩ := bind_of hm
          refine q_v (o_call (W65 _ hy85) rfl bd65 rfl) ?_
          refine q_v (o_pkf (.sc (.bool _)) rfl hb81 rfl) ?_
          refine q_nil ?_
          cases hm
          exact ⟨rfl, (), hk65, LeF.fm (Sub.refl _) (.cons (ALe.refl _ _) (.cons (ALe.refl _ _) (.cons (ALe.refl _ _) (.cons (ALe.refl _ _) (.cons (ALe.refl _ _) (.nil))))))⟩
      · rintro _ j78 fr' h' hk86 hm le
        refine H70 _ _ (le.aw ?_)
        clear le H70 K70
        refine AW_joinG (n := 35) hm (σ := Int) (τ := Unit) (fun g s => HOk h [(some k2, .obj 27 (c_Catalog p0))]) (fun g s => kp (kp (kp (kp (k0) 7 (.sc (.int .i64 q64))) 6 (.sl none 37 (List.map c_Item y7))) 5 (.sc (.int .i64 s))) 2 (.ptr k2 0)) (fun g s => hp h [(some k2, .obj 27 (c_Catalog p0))]) (fun x hm => ?_) ?_
        · refine AW_if' rfl (fun hc89 => ?_) (fun hc89 => ?_)
          · replace hm := ite_t hm hc89
            refine AW_reg ?_
            refine s_v (o_mv (.sc (.int _ _)) rfl) ?_
            refine s_v (o_bi rfl rfl rfl trivial) ?_
            refine s_v (o_as (.sc (.int _ _)) rfl) ?_
            refine s_nil ?_
            cases hm
            exact ⟨rfl, (), hk86, LeF.fm (Sub.refl _) (.cons (ALe.refl _ _) (.cons (ALe.refl _ _) (.cons (ALe.refl _ _) (.cons (ALe.refl _ _) (.nil)))))⟩
          · replace hm := ite_f hm hc89
            refine AW_skip ?_
            cases hm
            exact ⟨rfl, (), hk86, LeF.fm (Sub.refl _) (.cons (ALe.refl _ _) (.cons (ALe.refl _ _) (.cons (ALe.refl _ _) (.cons (ALe.refl _ _) (.nil)))))⟩
        · rintro _ j88 fr' h' hk90 hm le
          refine H69 _ _ (le.aw ?_)
          clear le H69 K69
          refine AW_reg ?_
          refine s_v (o_mv (.sc (.int _ _)) rfl) ?_
          refine s_v (o_bi rfl rfl rfl trivial) ?_
          refine s_v (o_as (.sc (.int _ _)) rfl) ?_
          refine s_nil ?_
          cases hm
          exact ⟨rfl, (), hk90, LeF.fm (Sub.refl _) (.cons (ALe.refl _ _) (.cons (ALe.refl _ _) (.cons (ALe.refl _ _) (.cons (ALe.refl _ _) (.nil)))))⟩
    · replace hm := ite_f hm hc68
      refine AW_exit ?_
      refine Seq_exit ?_
      cases hm
      exact ⟨rfl, (), hk65, LeF.fm (Sub.refl _) (.cons (ALe.refl _ _) (.cons (ALe.refl _ _) (.cons (ALe.refl _ _) (.cons (ALe.refl _ _) (.nil)))))⟩
  · rintro _ ⟨r91, r92⟩ fr' h' hk93 hm le
    refine H9 _ _ (le.aw ?_)
    clear le H9 K9
    refine AW_k fun K94 H94 => ?_
    refine AW_reg ?_
    refine s_v (o_mv (.sc (.int _ _)) rfl) ?_
    refine s_v (o_as (.sc (.int _ _)) rfl) ?_
    refine s_nil ?_
    refine H94 _ _ ?_
    clear H94 K94
    refine AW_ret ?_
    cases hm
    exact Ret.of1 (.inl rfl) (rsT _ _ (.sc (.int _ _)) rfl) (hp_sub (List.nil_sublist _) hk93).1 (ALe.refl _ _) ⟨rfl, rfl⟩
theorem bd24 : bodied Try.prog 24 = true := by kernel_rfl
def M25_L0 (fuel : Nat) (p0 : TCatalog) (p1 : Int) (q76 : Int) (q77 : Int) : Option (Lp (Int × Int) (Int)) :=
  if (decide (q77 < (p0.Vols.length : Int))) = true then (after ((ix p0.Vols q77).bind fun x96 => if (x96.Pool == p1) = true then ((ix p0.Vols q77).bind fun x99 => if (x99.State == 2) = true then (if (decide (q76 < 0)) = true then (some (.brk true)) else (M24 fuel p0 q77).bind fun y103 => (M24 fuel p0 q76).bind fun y105 => some (.brk (decide (y103 < y105)))) else some (.brk false)) else some (.brk false) : Option (Lp (Bool) (Lp (Int × Int) (Int)))) fun j95 => after (if j95 = true then (some (.brk q77)) else some (.brk q76) : Option (Lp (Int) (Lp (Int × Int) (Int)))) fun j109 => some (.go (j109, IntKind.wrap .i64 (q77 + 1)))) else some (.brk (q76, q77))
def M25 (fuel : Nat) (p0 : TCatalog) (p1 : Int) : Option (Int) :=
  after (loopM (fun s => M25_L0 fuel p0 p1 s.1 s.2) fuel ((-1), 0)) fun ⟨r112, r113⟩ => some r112
set_option maxRecDepth 100000 in
/-- cellarer/cellarerlaw23.sparse -/
theorem W25 {fuel : Nat} {p0 : TCatalog} {p1 : Int} {o : Int} (h : Heap) (hm : M25 fuel p0 p1 = some o) :
    ACalls Try.prog 25 [.agg (c_Catalog p0), .sc (.int .i64 p1)] h (fun r h' => r = .sc (.int .i64 o) ∧ h' = h) := by
  refine ACalls_hp 46 [.tmp 4] Try.func25 rfl rfl rfl rfl ?_
  unfold M25 at hm
  refine AW_k fun K1 H1 => ?_
  refine AW_reg ?_
  refine s_op (a_box (HOk.nil _) rfl rfl fun k2 hk3 => ?_)
  refine s_v (o_as (.sc (.int _ _)) rfl) ?_
  refine s_nil ?_
  refine H1 _ _ ?_
  clear H1 K1
  refine AW_k fun K5 H5 => ?_
  refine AW_reg ?_
  refine s_v (o_as (.sc (.int _ _)) rfl) ?_
  refine s_nil ?_
  refine H5 _ _ ?_
  clear H5 K5
  refine AW_k fun K6 H6 => ?_
  refine AW_k fun K7 H7 => ?_
  refine AW_reg ?_
  refine s_v (o_as (.sc (.int _ _)) rfl) ?_
  refine s_nil ?_
  refine H7 _ _ ?_
  clear H7 K7
  refine AW_loopG (n := 46) hm (σ := Int × Int) (τ := Unit) (fun g s => HOk h [(some k2, .obj 27 (c_Catalog p0))]) (fun g s => kp (kp (kp (kp (k0) 6 (.sc (.int .i64 s.2))) 5 (.sc (.int .i64 s.1))) 2 (.ptr k2 0)) 1 (.sc (.int .i64 p1))) (fun g s => hp h [(some k2, .obj 27 (c_Catalog p0))]) () hk3 (LeF.fm (Sub.refl _) (.cons (ALe.refl _ _) (.cons (ALe.refl _ _) (.cons (ALe.refl _ _) (.cons (ALe.refl _ _) (.nil)))))) ?_ ?_
  · rintro _ ⟨q76, q77⟩ x hk78 hm
    replace hm : M25_L0 fuel p0 p1 q76 q77 = some x := hm
    unfold M25_L0 at hm
    refine AW_k fun K79 H79 => ?_
    refine AW_k fun K80 H80 => ?_
    refine AW_reg ?_
    refine s_v (o_mv (.sc (.int _ _)) rfl) ?_
    refine s_v (o_flp fd27_4 rfl rfl) ?_
    refine s_v (o_ldp (.sl none 4 (List.map c_Vol p0.Vols)) ld25 rfl (hp_get 0 hk78 rfl) rfl) ?_
    refine s_v (o_lenm ln25 rfl) ?_
    refine s_v (o_bi rfl rfl rfl trivial) ?_
    refine s_nil ?_
    refine H80 _ _ ?_
    clear H80 K80
    refine AW_if' rfl (fun hc81 => ?_) (fun hc81 => ?_)
    · replace hm := ite_t hm hc81
      refine AW_skip ?_
      refine H79 _ _ ?_
      clear H79 K79
      refine AW_k fun K82 H82 => ?_
      refine AW_block ?_
      refine AW_k fun K83 H83 => ?_
      refine AW_joinG (n := 46) hm (σ := Bool) (τ := Unit) (fun g s => HOk h [(some k2, .obj 27 (c_Catalog p0))]) (fun g s => kp (kp (kp (kp (kp (k0) 43 (.sc (.bool s))) 6 (.sc (.int .i64 q77))) 5 (.sc (.int .i64 q76))) 2 (.ptr k2 0)) 1 (.sc (.int .i64 p1))) (fun g s => hp h [(some k2, .obj 27 (c_Catalog p0))]) (fun x hm => ?_) ?_
      · refine AW_region_q [(some 14, [2], []), (some 15, [14], [0]), (some 16, [6], []), (some 17, [15, 16], [1, 2]), (some 18, [17], [3]), (some 19, [18], [4]), (some 20, [1], []), (some 21, [19, 20], [5, 6]), (some 22, [21], [7]), (some 23, [2, 22], [8]), (some 24, [23, 22], [9, 8]), (some 25, [6, 22], [8]), (some 26, [24, 25, 22], [10, 11, 8]), (some 27, [26, 22], [12, 8]), (some 28, [27, 22], [13, 8]), (some 29, [28, 22], [14, 8]), (some 30, [22, 29], [8, 15]), (some 31, [30], [16, 8]), (some 32, [5, 31], [17]), (some 33, [32, 31], [18, 17]), (some 34, [33, 31], [19, 17, 17]), (some 35, [2, 34], [20]), (some 36, [6, 34], [20]), (some 37, [35, 36, 34], [21, 22, 20, 20]), (some 38, [2, 34], [20]), (some 39, [5, 34], [20]), (some 40, [38, 39, 34], [24, 25, 23, 20]), (some 41, [37, 40, 34], [23, 26, 20]), (some 42, [34, 41, 31], [20, 27, 17]), (some 43, [31, 42], [17, 28])] mixed (by kernel_rfl) (by kernel_rfl) ?_
        refine q_v (o_flp fd27_4 rfl rfl) ?_
        refine q_v (o_ldp (.sl none 4 (List.map c_Vol p0.Vols)) ld25 rfl (hp_get 0 hk78 rfl) rfl) ?_
        refine q_v (o_mv (.sc (.int _ _)) rfl) ?_
        obtain ⟨x96, hx97, hm⟩ := bind_of hm
        refine q_v (o_ix hx97 el25 rfl rfl) ?_
        refine q_v (o_fl fd40_0 rfl rfl) ?_
        refine q_v (o_ld (.sc (.int .i64 x96.Pool)) ld3 rfl rfl) ?_
        refine q_v (o_mv (.sc (.int _ _)) rfl) ?_
        refine q_v (o_bi rfl rfl rfl trivial) ?_
        refine q_v (o_mv (.sc (.bool _)) rfl) ?_
        rcases Bool.eq_false_or_eq_true (x96.Pool == p1) with hb98 | hb98
        · replace hm := ite_t hm hb98
          refine qg_y rfl rfl hb98 ?_
          refine q_v (o_flp fd27_4 rfl rfl) ?_
          refine qg_y rfl rfl hb98 ?_
          refine q_v (o_ldp (.sl none 4 (List.map c_Vol p0.Vols)) ld25 rfl (hp_get 0 hk78 rfl) rfl) ?_
          refine qg_y rfl rfl hb98 ?_
          refine q_v (o_mv (.sc (.int _ _)) rfl) ?_
          refine qg_y rfl rfl hb98 ?_
          obtain ⟨x99, hx100, hm⟩ := bind_of hm
          refine q_v (o_ix hx100 el25 rfl rfl) ?_
          refine qg_y rfl rfl hb98 ?_
          refine q_v (o_fl fd40_2 rfl rfl) ?_
          refine qg_y rfl rfl hb98 ?_
          refine q_v (o_ld (.sc (.int .i64 x99.State)) ld3 rfl rfl) ?_
          refine qg_y rfl rfl hb98 ?_
          refine q_v (o_bi rfl rfl rfl trivial) ?_
          refine q_v (o_pkt (.sc (.bool _)) rfl hb98 rfl) ?_
          refine q_v (o_mv (.sc (.bool _)) rfl) ?_
          rcases Bool.eq_false_or_eq_true (x99.State == 2) with hb101 | hb101
          · replace hm := ite_t hm hb101
            refine qg_y rfl rfl hb101 ?_
            refine q_v (o_mv (.sc (.int _ _)) rfl) ?_
            refine qg_y rfl rfl hb101 ?_
            refine q_v (o_bi rfl rfl rfl trivial) ?_
            refine qg_y rfl rfl hb101 ?_
            refine q_v (o_mv (.sc (.bool _)) rfl) ?_
            rcases Bool.eq_false_or_eq_true (decide (q76 < 0)) with hb102 | hb102
            · replace hm := ite_t hm hb102
              refine qg_n rfl rfl hb102 ?_
              refine qg_n rfl rfl hb102 ?_
              refine qg_n rfl rfl hb102 ?_
              refine qg_n rfl rfl hb102 ?_
              refine qg_n rfl rfl hb102 ?_
              refine qg_n rfl rfl hb102 ?_
              refine qg_n rfl rfl hb102 ?_
              refine qg_y rfl rfl hb101 ?_
              refine q_v (o_pkt (.sc (.bool _)) rfl hb102 rfl) ?_
              refine q_v (o_pkt (.sc (.bool _)) rfl hb101 rfl) ?_
              refine q_nil ?_
              cases hm
              exact ⟨rfl, (), hk78, LeF.fm (Sub.refl _) (.cons (ALe.refl _ _) (.cons (ALe.refl _ _) (.cons (ALe.refl _ _) (.cons (ALe.refl _ _) (.cons (ALe.refl _ _) (.nil))))))⟩
            · replace hm := ite_f hm hb102
              refine qg_y rfl rfl hb102 ?_
              refine q_v (o_ldp (.agg (c_Catalog p0)) ld27 rfl (hp_get 0 hk78 rfl) rfl) ?_
              refine qg_y rfl rfl hb102 ?_
              refine q_v (o_mv (.sc (.int _ _)) rfl) ?_
              refine qg_y rfl rfl hb102 ?_
              obtain ⟨y103, hy104, hm⟩ := bind_of hm
              refine q_v (o_call (W24 _ hy104) rfl bd24 rfl) ?_
              refine qg_y rfl rfl hb102 ?_
              refine q_v (o_ldp (.agg (c_Catalog p0)) ld27 rfl (hp_get 0 hk78 rfl) rfl) ?_
              refine qg_y rfl rfl hb102 ?_
              refine q_v (o_mv (.sc (.int _ _)) rfl) ?_
              refine qg_y rfl rfl hb102 ?_
              obtain ⟨y105, hy106, hm⟩ := bind_of hm
              refine q_v (o_call (W24 _ hy106) rfl bd24 rfl) ?_
              refine qg_y rfl rfl hb102 ?_
              refine q_v (o_bi rfl rfl rfl trivial) ?_
              refine qg_y rfl rfl hb101 ?_
              refine q_v (o_pkf (.sc (.bool _)) rfl hb102 rfl) ?_
              refine q_v (o_pkt (.sc (.bool _)) rfl hb101 rfl) ?_
              refine q_nil ?_
              cases hm
              exact ⟨rfl, (), hk78, LeF.fm (Sub.refl _) (.cons (ALe.refl _ _) (.cons (ALe.refl _ _) (.cons (ALe.refl _ _) (.cons (ALe.refl _ _) (.cons (ALe.refl _ _) (.nil))))))⟩
          · replace hm := ite_f hm hb101
            refine qg_n rfl rfl hb101 ?_
            refine qg_n rfl rfl hb101 ?_
            refine qg_n rfl rfl hb101 ?_
            refine qg_u rfl rfl ?_
            refine qg_u rfl rfl ?_
            refine qg_u rfl rfl ?_
            refine qg_u rfl rfl ?_
            refine qg_u rfl rfl ?_
            refine qg_u rfl rfl ?_
            refine qg_u rfl rfl ?_
            refine qg_n rfl rfl hb101 ?_
            refine q_v (o_pkf (.sc (.bool _)) rfl hb101 rfl) ?_
            refine q_nil ?_
            cases hm
            exact ⟨rfl, (), hk78, LeF.fm (Sub.refl _) (.cons (ALe.refl _ _) (.cons (ALe.refl _ _) (.cons (ALe.refl _ _) (.cons (ALe.refl _ _) (.cons (ALe.refl _ _) (.nil))))))⟩
        · replace hm := ite_f hm hb98
          refine qg_n rfl rfl hb98 ?_
          refine qg_n rfl rfl hb98 ?_
          refine qg_n rfl rfl hb98 ?_
          refine qg_n rfl rfl hb98 ?_
          refine qg_n rfl rfl hb98 ?_
          refine qg_n rfl rfl hb98 ?_
          refine qg_n rfl rfl hb98 ?_
          refine q_v (o_pkf (.sc (.bool _)) rfl hb98 rfl) ?_
          refine q_v (o_mv (.sc (.bool _)) rfl) ?_
          refine qg_n rfl rfl rfl ?_
          refine qg_n rfl rfl rfl ?_
          refine qg_n rfl rfl rfl ?_
          refine qg_u rfl rfl ?_
          refine qg_u rfl rfl ?_
          refine qg_u rfl rfl ?_
          refine qg_u rfl rfl ?_
          refine qg_u rfl rfl ?_
          refine qg_u rfl rfl ?_
          refine qg_u rfl rfl ?_
          refine qg_n rfl rfl rfl ?_
          refine q_v (o_pkf (.sc (.bool _)) rfl rfl rfl) ?_
          refine q_nil ?_
          cases hm
          exact ⟨rfl, (), hk78, LeF.fm (Sub.refl _) (.cons (ALe.refl _ _) (.cons (ALe.refl _ _) (.cons (ALe.refl _ _) (.cons (ALe.refl _ _) (.cons (ALe.refl _ _) (.nil))))))⟩
      · rintro _ j95 fr' h' hk107 hm le
        refine H83 _ _ (le.aw ?_)
        clear le H83 K83
        refine AW_joinG (n := 46) hm (σ := Int) (τ := Unit) (fun g s => HOk h [(some k2, .obj 27 (c_Catalog p0))]) (fun g s => kp (kp (kp (kp (k0) 6 (.sc (.int .i64 q77))) 5 (.sc (.int .i64 s))) 2 (.ptr k2 0)) 1 (.sc (.int .i64 p1))) (fun g s => hp h [(some k2, .obj 27 (c_Catalog p0))]) (fun x hm => ?_) ?_
        · refine AW_if' rfl (fun hc110 => ?_) (fun hc110 => ?_)
          · replace hm := ite_t hm hc110
            refine AW_reg ?_
            refine s_v (o_mv (.sc (.int _ _)) rfl) ?_
            refine s_v (o_as (.sc (.int _ _)) rfl) ?_
            refine s_nil ?_
            cases hm
            exact ⟨rfl, (), hk107, LeF.fm (Sub.refl _) (.cons (ALe.refl _ _) (.cons (ALe.refl _ _) (.cons (ALe.refl _ _) (.cons (ALe.refl _ _) (.nil)))))⟩
          · replace hm := ite_f hm hc110
            refine AW_skip ?_
            cases hm
            exact ⟨rfl, (), hk107, LeF.fm (Sub.refl _) (.cons (ALe.refl _ _) (.cons (ALe.refl _ _) (.cons (ALe.refl _ _) (.cons (ALe.refl _ _) (.nil)))))⟩
        · rintro _ j109 fr' h' hk111 hm le
          refine H82 _ _ (le.aw ?_)
          clear le H82 K82
          refine AW_reg ?_
          refine s_v (o_mv (.sc (.int _ _)) rfl) ?_
          refine s_v (o_bi rfl rfl rfl trivial) ?_
          refine s_v (o_as (.sc (.int _ _)) rfl) ?_
          refine s_nil ?_
          cases hm
          exact ⟨rfl, (), hk111, LeF.fm (Sub.refl _) (.cons (ALe.refl _ _) (.cons (ALe.refl _ _) (.cons (ALe.refl _ _) (.cons (ALe.refl _ _) (.nil)))))⟩
    · replace hm := ite_f hm hc81
      refine AW_exit ?_
      refine Seq_exit ?_
      cases hm
      exact ⟨rfl, (), hk78, LeF.fm (Sub.refl _) (.cons (ALe.refl _ _) (.cons (ALe.refl _ _) (.cons (ALe.refl _ _) (.cons (ALe.refl _ _) (.nil)))))⟩
  · rintro _ ⟨r112, r113⟩ fr' h' hk114 hm le
    refine H6 _ _ (le.aw ?_)
    clear le H6 K6
    refine AW_k fun K115 H115 => ?_
    refine AW_reg ?_
    refine s_v (o_mv (.sc (.int _ _)) rfl) ?_
    refine s_v (o_as (.sc (.int _ _)) rfl) ?_
    refine s_nil ?_
    refine H115 _ _ ?_
    clear H115 K115
    refine AW_ret ?_
    cases hm
    exact Ret.of1 (.inl rfl) (rsT _ _ (.sc (.int _ _)) rfl) (hp_sub (List.nil_sublist _) hk114).1 (ALe.refl _ _) ⟨rfl, rfl⟩
theorem bd25 : bodied Try.prog 25 = true := by kernel_rfl
def M26_L2 (fuel : Nat) (p0 : TCatalog) (p1 : Int) (p2 : Int) (p3 : List Int) (p4 : Int) (q214 : Int) (q284 : Int) : Option (Lp (Int) (Lp (Int) (Int × Int))) :=
  if (decide (q284 < (p0.Vols.length : Int))) = true then (after ((ix p0.Vols q284).bind fun x303 => if (x303.Pool == p1) = true then (if (q284 != p4) = true then ((ix p0.Vols q284).bind fun x307 => (ix ([2, 1] : List Int) q214).bind fun x309 => if (x307.State == x309) = true then ((ix p3 q284).bind fun x312 => some (.brk (decide (p2 ≤ x312)))) else some (.brk false)) else some (.brk false)) else some (.brk false) : Option (Lp (Bool) (Lp (Int) (Lp (Int) (Int × Int))))) fun j302 => if j302 = true then (some (.ret (.ret (q284, 0)))) else some (.go (IntKind.wrap .i64 (q284 + 1)))) else some (.brk q284)
def M26_L0 (fuel : Nat) (p0 : TCatalog) (p1 : Int) (p2 : Int) (p3 : List Int) (p4 : Int) (q214 : Int) : Option (Lp (Int) (Int × Int)) :=
  if (decide (q214 < 2)) = true then (after (loopM (fun s => M26_L2 fuel p0 p1 p2 p3 p4 q214 s) fuel 0) fun r317 => some (.go (IntKind.wrap .i64 (q214 + 1)))) else some (.brk q214)
def M26 (fuel : Nat) (p0 : TCatalog) (p1 : Int) (p2 : Int) (p3 : List Int) (p4 : Int) : Option (Int × Int) :=
  after (loopM (fun s => M26_L0 fuel p0 p1 p2 p3 p4 s) fuel 0) fun r319 => some (0, 12)
set_option maxRecDepth 100000 in
/-- cellarer/cellarerref20.Target -/
theorem W26 {fuel : Nat} {p0 : TCatalog} {p1 : Int} {p2 : Int} {p3 : List Int} {p4 : Int} {o : Int × Int} (h : Heap) (hm : M26 fuel p0 p1 p2 p3 p4 = some o) :
    ACalls Try.prog 26 [.agg (c_Catalog p0), .sc (.int .i64 p1), .sc (.int .i64 p2), .sl none 1 (List.map c_i64 p3), .sc (.int .i64 p4)] h (fun r h' => r = .tup [.sc (.int .i64 o.1), .sc (.int .i64 o.2)] ∧ h' = h) := by
  refine ACalls_hp 60 [.tmp 10, .tmp 11] Try.func26 rfl rfl rfl rfl ?_
  unfold M26 at hm
  refine AW_k fun K1 H1 => ?_
  refine AW_reg ?_
  refine s_op (a_box (HOk.nil _) rfl rfl fun k2 hk3 => ?_)
  refine s_v (o_as (.sc (.int _ _)) rfl) ?_
  refine s_v (o_as (.sc (.int _ _)) rfl) ?_
  refine s_nil ?_
  refine H1 _ _ ?_
  clear H1 K1
  refine AW_k fun K5 H5 => ?_
  refine AW_k fun K6 H6 => ?_
  refine AW_reg ?_
  refine s_v (o_as (.sc (.int _ _)) rfl) ?_
  refine s_nil ?_
  refine H6 _ _ ?_
  clear H6 K6
  refine AW_loopG (n := 60) hm (σ := Int) (τ := Unit) (fun g s => HOk h [(some k2, .obj 27 (c_Catalog p0))]) (fun g s => kp (kp (kp (kp (kp (kp (k0) 12 (.sc (.int .i64 s))) 5 (.ptr k2 0)) 4 (.sc (.int .i64 p4))) 3 (.sl none 1 (List.map c_i64 p3))) 2 (.sc (.int .i64 p2))) 1 (.sc (.int .i64 p1))) (fun g s => hp h [(some k2, .obj 27 (c_Catalog p0))]) () hk3 (LeF.fm (Sub.refl _) (.cons (ALe.refl _ _) (.cons (ALe.refl _ _) (.cons (ALe.refl _ _) (.cons (ALe.refl _ _) (.cons (ALe.refl _ _) (.cons (ALe.refl _ _) (.nil)))))))) ?_ ?_
  · rintro _ q214 x hk215 hm
    replace hm : M26_L0 fuel p0 p1 p2 p3 p4 q214 = some x := hm
    unfold M26_L0 at hm
    refine AW_k fun K216 H216 => ?_
    refine AW_k fun K217 H217 => ?_
    refine AW_reg ?_
    refine s_v (o_mv (.sc (.int _ _)) rfl) ?_
    refine s_v (o_bi rfl rfl rfl trivial) ?_
    refine s_nil ?_
    refine H217 _ _ ?_
    clear H217 K217
    refine AW_if' rfl (fun hc218 => ?_) (fun hc218 => ?_)
    · replace hm := ite_t hm hc218
      refine AW_skip ?_
      refine H216 _ _ ?_
      clear H216 K216
      refine AW_k fun K219 H219 => ?_
      refine AW_block ?_
      refine AW_k fun K220 H220 => ?_
      refine AW_reg ?_
      refine s_v (o_as (.sc (.int _ _)) rfl) ?_
      refine s_nil ?_
      refine H220 _ _ ?_
      clear H220 K220
      refine AW_loopG (n := 60) hm (σ := Int) (τ := Unit) (fun g s => HOk h [(some k2, .obj 27 (c_Catalog p0))]) (fun g s => kp (kp (kp (kp (kp (kp (kp (k0) 13 (.sc (.int .i64 s))) 12 (.sc (.int .i64 q214))) 5 (.ptr k2 0)) 4 (.sc (.int .i64 p4))) 3 (.sl none 1 (List.map c_i64 p3))) 2 (.sc (.int .i64 p2))) 1 (.sc (.int .i64 p1))) (fun g s => hp h [(some k2, .obj 27 (c_Catalog p0))]) () hk215 (LeF.fm (Sub.refl _) (.cons (ALe.refl _ _) (.cons (ALe.refl _ _) (.cons (ALe.refl _ _) (.cons (ALe.refl _ _) (.cons (ALe.refl _ _) (.cons (ALe.refl _ _) (.cons (ALe.refl _ _) (.nil))))))))) ?_ ?_
      · rintro _ q284 x hk285 hm
        replace hm : M26_L2 fuel p0 p1 p2 p3 p4 q214 q284 = some x := hm
        unfold M26_L2 at hm
        refine AW_k fun K286 H286 => ?_
        refine AW_k fun K287 H287 => ?_
        refine AW_reg ?_
        refine s_v (o_mv (.sc (.int _ _)) rfl) ?_
        refine s_v (o_flp fd27_4 rfl rfl) ?_
        refine s_v (o_ldp (.sl none 4 (List.map c_Vol p0.Vols)) ld25 rfl (hp_get 0 hk285 rfl) rfl) ?_
        refine s_v (o_lenm ln25 rfl) ?_
        refine s_v (o_bi rfl rfl rfl trivial) ?_
        refine s_nil ?_
        refine H287 _ _ ?_
        clear H287 K287
        refine AW_if' rfl (fun hc288 => ?_) (fun hc288 => ?_)
        · replace hm := ite_t hm hc288
          refine AW_skip ?_
          refine H286 _ _ ?_
          clear H286 K286
          refine AW_k fun K289 H289 => ?_
          refine AW_block ?_
          refine AW_k fun K290 H290 => ?_
          refine AW_joinG (n := 60) hm (σ := Bool) (τ := Unit) (fun g s => HOk h [(some k2, .obj 27 (c_Catalog p0))]) (fun g s => kp (kp (kp (kp (kp (kp (kp (kp (k0) 58 (.sc (.bool s))) 13 (.sc (.int .i64 q284))) 12 (.sc (.int .i64 q214))) 5 (.ptr k2 0)) 4 (.sc (.int .i64 p4))) 3 (.sl none 1 (List.map c_i64 p3))) 2 (.sc (.int .i64 p2))) 1 (.sc (.int .i64 p1))) (fun g s => hp h [(some k2, .obj 27 (c_Catalog p0))]) (fun x hm => ?_) ?_
          · refine AW_region_q [(some 25, [5], []), (some 26, [25], [0]), (some 27, [13], []), (some 28, [26, 27], [1, 2]), (some 29, [28], [3]), (some 30, [29], [4]), (some 31, [1], []), (some 32, [30, 31], [5, 6]), (some 33, [32], [7]), (some 34, [13, 33], [8]), (some 35, [4, 33], [8]), (some 36, [34, 35, 33], [9, 10, 8]), (some 37, [33, 36], [8, 11]), (some 38, [37], [12, 8]), (some 39, [5, 38], [13]), (some 40, [39, 38], [14, 13]), (some 41, [13, 38], [13]), (some 42, [40, 41, 38], [15, 16, 13]), (some 43, [42, 38], [17, 13]), (some 44, [43, 38], [18, 13]), (some 45, [38], [13]), (some 46, [12, 38], [13]), (some 47, [45, 46, 38], [20, 21, 13]), (some 48, [47, 38], [22, 13]), (some 49, [44, 48, 38], [19, 23, 13]), (some 50, [38, 49], [13, 24]), (some 51, [50], [25, 13]), (some 52, [3, 51], [26]), (some 53, [13, 51], [26]), (some 54, [52, 53, 51], [27, 28, 26]), (some 55, [54, 51], [29, 26]), (some 56, [2, 51], [26]), (some 57, [55, 56, 51], [30, 31, 26]), (some 58, [51, 57], [26, 32])] mixed (by kernel_rfl) (by kernel_rfl) ?_
            refine q_v (o_flp fd27_4 rfl rfl) ?_
            refine q_v (o_ldp (.sl none 4 (List.map c_Vol p0.Vols)) ld25 rfl (hp_get 0 hk285 rfl) rfl) ?_
            refine q_v (o_mv (.sc (.int _ _)) rfl) ?_
            obtain ⟨x303, hx304, hm⟩ := bind_of hm
            refine q_v (o_ix hx304 el25 rfl rfl) ?_
            refine q_v (o_fl fd40_0 rfl rfl) ?_
            refine q_v (o_ld (.sc (.int .i64 x303.Pool)) ld3 rfl rfl) ?_
            refine q_v (o_mv (.sc (.int _ _)) rfl) ?_
            refine q_v (o_bi rfl rfl rfl trivial) ?_
            refine q_v (o_mv (.sc (.bool _)) rfl) ?_
            rcases Bool.eq_false_or_eq_true (x303.Pool == p1) with hb305 | hb305
            · replace hm := ite_t hm hb305
              refine qg_y rfl rfl hb305 ?_
              refine q_v (o_mv (.sc (.int _ _)) rfl) ?_
              refine qg_y rfl rfl hb305 ?_
              refine q_v (o_mv (.sc (.int _ _)) rfl) ?_
              refine qg_y rfl rfl hb305 ?_
              refine q_v (o_bi rfl rfl rfl trivial) ?_
              refine q_v (o_pkt (.sc (.bool _)) rfl hb305 rfl) ?_
              refine q_v (o_mv (.sc (.bool _)) rfl) ?_
              rcases Bool.eq_false_or_eq_true (q284 != p4) with hb306 | hb306
              · replace hm := ite_t hm hb306
                refine qg_y rfl rfl hb306 ?_
                refine q_v (o_flp fd27_4 rfl rfl) ?_
                refine qg_y rfl rfl hb306 ?_
                refine q_v (o_ldp (.sl none 4 (List.map c_Vol p0.Vols)) ld25 rfl (hp_get 0 hk285 rfl) rfl) ?_
                refine qg_y rfl rfl hb306 ?_
                refine q_v (o_mv (.sc (.int _ _)) rfl) ?_
                refine qg_y rfl rfl hb306 ?_
                obtain ⟨x307, hx308, hm⟩ := bind_of hm
                refine q_v (o_ix hx308 el25 rfl rfl) ?_
                refine qg_y rfl rfl hb306 ?_
                refine q_v (o_fl fd40_2 rfl rfl) ?_
                refine qg_y rfl rfl hb306 ?_
                refine q_v (o_ld (.sc (.int .i64 x307.State)) ld3 rfl rfl) ?_
                refine qg_y rfl rfl hb306 ?_
                refine q_v (o_lit (List.map c_i64 ([2, 1] : List Int)) et28 rfl rfl rfl rfl) ?_
                refine qg_y rfl rfl hb306 ?_
                refine q_v (o_mv (.sc (.int _ _)) rfl) ?_
                refine qg_y rfl rfl hb306 ?_
                obtain ⟨x309, hx310, hm⟩ := bind_of hm
                refine q_v (o_ix hx310 el28 rfl rfl) ?_
                refine qg_y rfl rfl hb306 ?_
                refine q_v (o_ld (.sc (.int .i64 x309)) ld3 rfl rfl) ?_
                refine qg_y rfl rfl hb306 ?_
                refine q_v (o_bi rfl rfl rfl trivial) ?_
                refine q_v (o_pkt (.sc (.bool _)) rfl hb306 rfl) ?_
                refine q_v (o_mv (.sc (.bool _)) rfl) ?_
                rcases Bool.eq_false_or_eq_true (x307.State == x309) with hb311 | hb311
                · replace hm := ite_t hm hb311
                  refine qg_y rfl rfl hb311 ?_
                  refine q_v (o_mv (.sl _ _ _) rfl) ?_
                  refine qg_y rfl rfl hb311 ?_
                  refine q_v (o_mv (.sc (.int _ _)) rfl) ?_
                  refine qg_y rfl rfl hb311 ?_
                  obtain ⟨x312, hx313, hm⟩ := bind_of hm
                  refine q_v (o_ix hx313 el28 rfl rfl) ?_
                  refine qg_y rfl rfl hb311 ?_
                  refine q_v (o_ld (.sc (.int .i64 x312)) ld3 rfl rfl) ?_
                  refine qg_y rfl rfl hb311 ?_
                  refine q_v (o_mv (.sc (.int _ _)) rfl) ?_
                  refine qg_y rfl rfl hb311 ?_
                  refine q_v (o_bi rfl rfl rfl trivial) ?_
                  refine q_v (o_pkt (.sc (.bool _)) rfl hb311 rfl) ?_
                  refine q_nil ?_
                  cases hm
                  exact ⟨rfl, (), hk285, LeF.fm (Sub.refl _) (.cons (ALe.refl _ _) (.cons (ALe.refl _ _) (.cons (ALe.refl _ _) (.cons (ALe.refl _ _) (.cons (ALe.refl _ _) (.cons (ALe.refl _ _) (.cons (ALe.refl _ _) (.cons (ALe.refl _ _) (.nil)))))))))⟩
                · replace hm := ite_f hm hb311
                  refine qg_n rfl rfl hb311 ?_
                  refine qg_n rfl rfl hb311 ?_
                  refine qg_n rfl rfl hb311 ?_
                  refine qg_n rfl rfl hb311 ?_
                  refine qg_n rfl rfl hb311 ?_
                  refine qg_n rfl rfl hb311 ?_
                  refine q_v (o_pkf (.sc (.bool _)) rfl hb311 rfl) ?_
                  refine q_nil ?_
                  cases hm
                  exact ⟨rfl, (), hk285, LeF.fm (Sub.refl _) (.cons (ALe.refl _ _) (.cons (ALe.refl _ _) (.cons (ALe.refl _ _) (.cons (ALe.refl _ _) (.cons (ALe.refl _ _) (.cons (ALe.refl _ _) (.cons (ALe.refl _ _) (.cons (ALe.refl _ _) (.nil)))))))))⟩
              · replace hm := ite_f hm hb306
                refine qg_n rfl rfl hb306 ?_
                refine qg_n rfl rfl hb306 ?_
                refine qg_n rfl rfl hb306 ?_
                refine qg_n rfl rfl hb306 ?_
                refine qg_n rfl rfl hb306 ?_
                refine qg_n rfl rfl hb306 ?_
                refine qg_n rfl rfl hb306 ?_
                refine qg_n rfl rfl hb306 ?_
                refine qg_n rfl rfl hb306 ?_
                refine qg_n rfl rfl hb306 ?_
                refine qg_n rfl rfl hb306 ?_
                refine q_v (o_pkf (.sc (.bool _)) rfl hb306 rfl) ?_
                refine q_v (o_mv (.sc (.bool _)) rfl) ?_
                refine qg_n rfl rfl rfl ?_
                refine qg_n rfl rfl rfl ?_
                refine qg_n rfl rfl rfl ?_
                refine qg_n rfl rfl rfl ?_
                refine qg_n rfl rfl rfl ?_
                refine qg_n rfl rfl rfl ?_
                refine q_v (o_pkf (.sc (.bool _)) rfl rfl rfl) ?_
                refine q_nil ?_
                cases hm
                exact ⟨rfl, (), hk285, LeF.fm (Sub.refl _) (.cons (ALe.refl _ _) (.cons (ALe.refl _ _) (.cons (ALe.refl _ _) (.cons (ALe.refl _ _) (.cons (ALe.refl _ _) (.cons (ALe.refl _ _) (.cons (ALe.refl _ _) (.cons (ALe.refl _ _) (.nil)))))))))⟩
            · replace hm := ite_f hm hb305
              refine qg_n rfl rfl hb305 ?_
              refine qg_n rfl rfl hb305 ?_
              refine qg_n rfl rfl hb305 ?_
              refine q_v (o_pkf (.sc (.bool _)) rfl hb305 rfl) ?_
              refine q_v (o_mv (.sc (.bool _)) rfl) ?_
              refine qg_n rfl rfl rfl ?_
              refine qg_n rfl rfl rfl ?_
              refine qg_n rfl rfl rfl ?_
              refine qg_n rfl rfl rfl ?_
              refine qg_n rfl rfl rfl ?_
              refine qg_n rfl rfl rfl ?_
              refine qg_n rfl rfl rfl ?_
              refine qg_n rfl rfl rfl ?_
              refine qg_n rfl rfl rfl ?_
              refine qg_n rfl rfl rfl ?_
              refine qg_n rfl rfl rfl ?_
              refine q_v (o_pkf (.sc (.bool _)) rfl rfl rfl) ?_
              refine q_v (o_mv (.sc (.bool _)) rfl) ?_
              refine qg_n rfl rfl rfl ?_
              refine qg_n rfl rfl rfl ?_
              refine qg_n rfl rfl rfl ?_
              refine qg_n rfl rfl rfl ?_
              refine qg_n rfl rfl rfl ?_
              refine qg_n rfl rfl rfl ?_
              refine q_v (o_pkf (.sc (.bool _)) rfl rfl rfl) ?_
              refine q_nil ?_
              cases hm
              exact ⟨rfl, (), hk285, LeF.fm (Sub.refl _) (.cons (ALe.refl _ _) (.cons (ALe.refl _ _) (.cons (ALe.refl _ _) (.cons (ALe.refl _ _) (.cons (ALe.refl _ _) (.cons (ALe.refl _ _) (.cons (ALe.refl _ _) (.cons (ALe.refl _ _) (.nil)))))))))⟩
          · rintro _ j302 fr' h' hk314 hm le
            refine H290 _ _ (le.aw ?_)
            clear le H290 K290
            refine AW_if' rfl (fun hc315 => ?_) (fun hc315 => ?_)
            · replace hm := ite_t hm hc315
              refine AW_k fun K316 H316 => ?_
              refine AW_reg ?_
              refine s_v (o_mv (.sc (.int _ _)) rfl) ?_
              refine s_v (o_as (.sc (.int _ _)) rfl) ?_
              refine s_v (o_as (.sc (.int _ _)) rfl) ?_
              refine s_nil ?_
              refine H316 _ _ ?_
              clear H316 K316
              refine AW_ret ?_
              cases hm
              refine ⟨⟨nofun, nofun⟩, fun he => ?_⟩
              subst he
              refine ⟨⟨nofun, nofun⟩, fun he => ?_⟩
              subst he
              exact Ret.of2 (.inl rfl) (rsT _ _ (.sc (.int _ _)) rfl) (rsT _ _ (.sc (.int _ _)) rfl) (hp_sub (List.nil_sublist _) hk314).1 (ALe.refl _ _) (ALe.refl _ _) ⟨rfl, rfl⟩
            · replace hm := ite_f hm hc315
              refine AW_skip ?_
              refine H289 _ _ ?_
              clear H289 K289
              refine AW_reg ?_
              refine s_v (o_mv (.sc (.int _ _)) rfl) ?_
              refine s_v (o_bi rfl rfl rfl trivial) ?_
              refine s_v (o_as (.sc (.int _ _)) rfl) ?_
              refine s_nil ?_
              cases hm
              exact ⟨rfl, (), hk314, LeF.fm (Sub.refl _) (.cons (ALe.refl _ _) (.cons (ALe.refl _ _) (.cons (ALe.refl _ _) (.cons (ALe.refl _ _) (.cons (ALe.refl _ _) (.cons (ALe.refl _ _) (.cons (ALe.refl _ _) (.nil))))))))⟩
        · replace hm := ite_f hm hc288
          refine AW_exit ?_
          refine Seq_exit ?_
          cases hm
          exact ⟨rfl, (), hk285, LeF.fm (Sub.refl _) (.cons (ALe.refl _ _) (.cons (ALe.refl _ _) (.cons (ALe.refl _ _) (.cons (ALe.refl _ _) (.cons (ALe.refl _ _) (.cons (ALe.refl _ _) (.cons (ALe.refl _ _) (.nil))))))))⟩
      · rintro _ r317 fr' h' hk318 hm le
        refine H219 _ _ (le.aw ?_)
        clear le H219 K219
        refine AW_reg ?_
        refine s_v (o_mv (.sc (.int _ _)) rfl) ?_
        refine s_v (o_bi rfl rfl rfl trivial) ?_
        refine s_v (o_as (.sc (.int _ _)) rfl) ?_
        refine s_nil ?_
        cases hm
        exact ⟨rfl, (), hk318, LeF.fm (Sub.refl _) (.cons (ALe.refl _ _) (.cons (ALe.refl _ _) (.cons (ALe.refl _ _) (.cons (ALe.refl _ _) (.cons (ALe.refl _ _) (.cons (ALe.refl _ _) (.nil)))))))⟩
    · replace hm := ite_f hm hc218
      refine AW_exit ?_
      refine Seq_exit ?_
      cases hm
      exact ⟨rfl, (), hk215, LeF.fm (Sub.refl _) (.cons (ALe.refl _ _) (.cons (ALe.refl _ _) (.cons (ALe.refl _ _) (.cons (ALe.refl _ _) (.cons (ALe.refl _ _) (.cons (ALe.refl _ _) (.nil)))))))⟩
  · rintro _ r319 fr' h' hk320 hm le
    refine H5 _ _ (le.aw ?_)
    clear le H5 K5
    refine AW_k fun K321 H321 => ?_
    refine AW_reg ?_
    refine s_v (o_as (.sc (.int _ _)) rfl) ?_
    refine s_v (o_as (.sc (.int _ _)) rfl) ?_
    refine s_nil ?_
    refine H321 _ _ ?_
    clear H321 K321
    refine AW_ret ?_
    cases hm
    exact Ret.of2 (.inl rfl) (rsT _ _ (.sc (.int _ _)) rfl) (rsT _ _ (.sc (.int _ _)) rfl) (hp_sub (List.nil_sublist _) hk320).1 (ALe.refl _ _) (ALe.refl _ _) ⟨rfl, rfl⟩
theorem bd26 : bodied Try.prog 26 = true := by kernel_rfl
def M3_L0 (fuel : Nat) (p0 : TCatalog) (p1 : Int) (q127 : Int) (q128 : Int) : Option (Lp (Int × Int) (Bool)) :=
  if (decide (q128 < (p0.Vols.length : Int))) = true then (after ((ix p0.Vols q128).bind fun x141 => if (x141.Pool == p1) = true then ((ix p0.Vols q128).bind fun x144 => some (.brk (x144.State != 3))) else some (.brk false) : Option (Lp (Bool) (Lp (Int × Int) (Bool)))) fun j140 => after (if j140 = true then (some (.brk (IntKind.wrap .i64 (q127 + 1)))) else some (.brk q127) : Option (Lp (Int) (Lp (Int × Int) (Bool)))) fun j148 => some (.go (j148, IntKind.wrap .i64 (q128 + 1)))) else some (.brk (q127, q128))
def M3 (fuel : Nat) (p0 : TCatalog) (p1 : Int) (p2 : Int) (p3 : List Int) (p4 : Int) : Option (Bool) :=
  after ((M13 fuel p0).bind fun y11 => if y11 = true then (some (.brk true)) else some (.brk (decide (50 < (p3.length : Int)))) : Option (Lp (Bool) (Bool))) fun j10 => if j10 = true then (some true) else (M14 fuel p0).bind fun y18 => (M15 fuel p3).bind fun y20 => (M16 fuel y18 p1 p2 y20 p4).bind fun y27 => after ((M17 fuel y18 p0).bind fun y37 => if (!y37) = true then (some (.brk true)) else (M18 fuel y20 p3).bind fun y40 => some (.brk (!y40)) : Option (Lp (Bool) (Bool))) fun j36 => if j36 = true then (some false) else (M19 fuel p0).bind fun y46 => if (!y46) = true then (after (if (y27.2 == 1) = true then (if (y27.1 == 0) = true then ((M20 fuel y18 p4).bind fun y68 => if (y68 == 0) = true then ((M21 fuel y18 p1).bind fun y71 => if (y71 == (-1)) = true then ((M22 fuel y18 p1).bind fun y74 => if (y74 == 0) = true then ((M23 fuel).bind fun y77 => some (.brk y77)) else some (.brk false)) else some (.brk false)) else some (.brk false)) else some (.brk false)) else some (.brk false) : Option (Lp (Bool) (Bool))) fun j65 => some j65) else after (loopM (fun s => M3_L0 fuel p0 p1 s.1 s.2) fuel (0, 0)) fun ⟨r151, r152⟩ => after ((M20 fuel y18 p4).bind fun y169 => (M24 fuel p0 p4).bind fun y171 => if (y169 != y171) = true then (some (.brk true)) else (M21 fuel y18 p1).bind fun y174 => (M25 fuel p0 p1).bind fun y176 => if (y174 != y176) = true then (some (.brk true)) else (M22 fuel y18 p1).bind fun y179 => some (.brk (y179 != r151)) : Option (Lp (Bool) (Bool))) fun j168 => if j168 = true then (some false) else if ((p3.length : Int) != (p0.Vols.length : Int)) = true then (after (if (y27.2 == 1) = true then (if (y27.1 == 0) = true then ((M23 fuel).bind fun y195 => some (.brk y195)) else some (.brk false)) else some (.brk false) : Option (Lp (Bool) (Bool))) fun j192 => some j192) else (M26 fuel p0 p1 p2 p3 p4).bind fun y199 => after (if (y27.2 == y199.2) = true then (if (y27.1 == y199.1) = true then ((M23 fuel).bind fun y209 => some (.brk y209)) else some (.brk false)) else some (.brk false) : Option (Lp (Bool) (Bool))) fun j206 => some j206
set_option maxRecDepth 100000 in
/-- cellarer/cellarerlaw23.PoolsExact -/
theorem W3 {fuel : Nat} {p0 : TCatalog} {p1 : Int} {p2 : Int} {p3 : List Int} {p4 : Int} {o : Bool} (h : Heap) (hm : M3 fuel p0 p1 p2 p3 p4 = some o) :
    ACalls Try.prog 3 [.agg (c_Catalog p0), .sc (.int .i64 p1), .sc (.int .i64 p2), .sl none 1 (List.map c_i64 p3), .sc (.int .i64 p4)] h (fun r h' => r = .sc (.bool o) ∧ h' = h) := by
  refine ACalls_hp 165 [.tmp 10] Try.func3 rfl rfl rfl rfl ?_
  unfold M3 at hm
  refine AW_k fun K1 H1 => ?_
  refine AW_reg ?_
  refine s_op (a_box (HOk.nil _) rfl rfl fun k2 hk3 => ?_)
  refine s_v (o_as (.sc (.bool _)) rfl) ?_
  refine s_nil ?_
  refine H1 _ _ ?_
  clear H1 K1
  refine AW_k fun K5 H5 => ?_
  refine AW_k fun K6 H6 => ?_
  refine AW_joinG (n := 165) hm (σ := Bool) (τ := Unit) (fun g s => HOk h [(some k2, .obj 27 (c_Catalog p0))]) (fun g s => kp (kp (kp (kp (kp (kp (k0) 26 (.sc (.bool s))) 5 (.ptr k2 0)) 4 (.sc (.int .i64 p4))) 3 (.sl none 1 (List.map c_i64 p3))) 2 (.sc (.int .i64 p2))) 1 (.sc (.int .i64 p1))) (fun g s => hp h [(some k2, .obj 27 (c_Catalog p0))]) (fun x hm => ?_) ?_
  · refine AW_reg ?_
    refine s_v (o_ldp (.agg (c_Catalog p0)) ld27 rfl (hp_get 0 hk3 rfl) rfl) ?_
    obtain ⟨y11, hy12, hm⟩ := bind_of hm
    refine s_v (o_call (W13 _ hy12) rfl bd13 rfl) ?_
    refine s_v (o_mv (.sc (.bool _)) rfl) ?_
    rcases Bool.eq_false_or_eq_true y11 with hb13 | hb13
    · replace hm := ite_t hm hb13
      refine sg_n rfl rfl hb13 ?_
      refine sg_n rfl rfl hb13 ?_
      refine sg_n rfl rfl hb13 ?_
      refine s_v (o_pkt (.sc (.bool _)) rfl hb13 rfl) ?_
      refine s_nil ?_
      cases hm
      exact ⟨rfl, (), hk3, LeF.fm (Sub.refl _) (.cons (ALe.refl _ _) (.cons (ALe.refl _ _) (.cons (ALe.refl _ _) (.cons (ALe.refl _ _) (.cons (ALe.refl _ _) (.cons (ALe.refl _ _) (.nil)))))))⟩
    · replace hm := ite_f hm hb13
      refine sg_y rfl rfl hb13 ?_
      refine s_v (o_mv (.sl _ _ _) rfl) ?_
      refine sg_y rfl rfl hb13 ?_
      refine s_v (o_lenm ln28 rfl) ?_
      refine sg_y rfl rfl hb13 ?_
      refine s_v (o_bi rfl rfl rfl trivial) ?_
      refine s_v (o_pkf (.sc (.bool _)) rfl hb13 rfl) ?_
      refine s_nil ?_
      cases hm
      exact ⟨rfl, (), hk3, LeF.fm (Sub.refl _) (.cons (ALe.refl _ _) (.cons (ALe.refl _ _) (.cons (ALe.refl _ _) (.cons (ALe.refl _ _) (.cons (ALe.refl _ _) (.cons (ALe.refl _ _) (.nil)))))))⟩
  · rintro _ j10 fr' h' hk14 hm le
    refine H6 _ _ (le.aw ?_)
    clear le H6 K6
    refine AW_if' rfl (fun hc15 => ?_) (fun hc15 => ?_)
    · replace hm := ite_t hm hc15
      refine AW_k fun K16 H16 => ?_
      refine AW_reg ?_
      refine s_v (o_as (.sc (.bool _)) rfl) ?_
      refine s_nil ?_
      refine H16 _ _ ?_
      clear H16 K16
      refine AW_ret ?_
      cases hm
      exact Ret.of1 (.inl rfl) (rsT _ _ (.sc (.bool _)) rfl) (hp_sub (List.nil_sublist _) hk14).1 (ALe.refl _ _) ⟨rfl, rfl⟩
    · replace hm := ite_f hm hc15
      refine AW_skip ?_
      refine H5 _ _ ?_
      clear H5 K5
      refine AW_k fun K17 H17 => ?_
      refine AW_reg ?_
      refine s_v (o_ldp (.agg (c_Catalog p0)) ld27 rfl (hp_get 0 hk14 rfl) rfl) ?_
      obtain ⟨y18, hy19, hm⟩ := bind_of hm
      refine s_v (o_call (W14 _ hy19) rfl bd14 rfl) ?_
      refine s_v (o_mv (.sl _ _ _) rfl) ?_
      obtain ⟨y20, hy21, hm⟩ := bind_of hm
      refine s_v (o_call (W15 _ hy21) rfl bd15 rfl) ?_
      refine s_op (a_alloc ([.sc (.int .i64 0), .sc (.slice none 0 0), .sc (.slice none 0 0), .sc (.slice none 0 0), .sc (.slice none 0 0)]) hk14 zr27 rfl rfl fun k22 hk23 => ?_)
      refine s_op (a_store 0 (c_Catalog y18) hk23 rfl rfl rfl rfl sz27 rfl rfl fun hk25 => ?_)
      refine s_v (o_as (.sl _ _ _) rfl) ?_
      refine s_nil ?_
      refine H17 _ _ ?_
      clear H17 K17
      refine AW_k fun K26 H26 => ?_
      refine AW_reg ?_
      refine s_v (o_ldp (.agg (c_Catalog y18)) ld27 rfl (hp_get 0 hk25 rfl) rfl) ?_
      refine s_v (o_mv (.sc (.int _ _)) rfl) ?_
      refine s_v (o_mv (.sc (.int _ _)) rfl) ?_
      refine s_v (o_mv (.sl _ _ _) rfl) ?_
      refine s_v (o_mv (.sc (.int _ _)) rfl) ?_
      obtain ⟨y27, hy28, hm⟩ := bind_of hm
      refine s_v (o_call (W16 _ hy28) rfl bd16 rfl) ?_
      refine s_v (o_mv (.tup _) rfl) ?_
      refine s_v (o_ex (.sc (.int _ _)) rfl rfl) ?_
      refine s_v (o_ex (.sc (.int _ _)) rfl rfl) ?_
      refine s_v (o_as (.sc (.int _ _)) rfl) ?_
      refine s_v (o_as (.sc (.int _ _)) rfl) ?_
      refine s_nil ?_
      refine H26 _ _ ?_
      clear H26 K26
      refine AW_k fun K29 H29 => ?_
      refine AW_k fun K30 H30 => ?_
      refine AW_joinG (n := 165) hm (σ := Bool) (τ := Unit) (fun g s => HOk h [(some k22, .obj 27 (c_Catalog y18)), (some k2, .obj 27 (c_Catalog p0))]) (fun g s => kp (kp (kp (kp (kp (kp (kp (kp (kp (k0) 49 (.sc (.bool s))) 14 (.sc (.int .i64 y27.2))) 13 (.sc (.int .i64 y27.1))) 11 (.ptr k22 0)) 5 (.ptr k2 0)) 4 (.sc (.int .i64 p4))) 3 (.sl none 1 (List.map c_i64 p3))) 2 (.sc (.int .i64 p2))) 1 (.sc (.int .i64 p1))) (fun g s => hp h [(some k22, .obj 27 (c_Catalog y18)), (some k2, .obj 27 (c_Catalog p0))]) (fun x hm => ?_) ?_
      · refine AW_reg ?_
        refine s_v (o_ldp (.agg (c_Catalog y18)) ld27 rfl (hp_get 0 hk25 rfl) rfl) ?_
        refine s_v (o_ldp (.agg (c_Catalog p0)) ld27 rfl (hp_get 1 hk25 rfl) rfl) ?_
        obtain ⟨y37, hy38, hm⟩ := bind_of hm
        refine s_v (o_call (W17 _ hy38) rfl bd17 rfl) ?_
        refine s_v (o_not rfl) ?_
        refine s_v (o_mv (.sc (.bool _)) rfl) ?_
        rcases Bool.eq_false_or_eq_true (!y37) with hb39 | hb39
        · replace hm := ite_t hm hb39
          refine sg_n rfl rfl hb39 ?_
          refine sg_n rfl rfl hb39 ?_
          refine sg_n rfl rfl hb39 ?_
          refine sg_n rfl rfl hb39 ?_
          refine s_v (o_pkt (.sc (.bool _)) rfl hb39 rfl) ?_
          refine s_nil ?_
          cases hm
          exact ⟨rfl, (), hk25, LeF.fm (Sub.refl _) (.cons (ALe.refl _ _) (.cons (ALe.refl _ _) (.cons (ALe.refl _ _) (.cons (ALe.refl _ _) (.cons (ALe.refl _ _) (.cons (ALe.refl _ _) (.cons (ALe.refl _ _) (.cons (ALe.refl _ _) (.cons (ALe.refl _ _) (.nil))))))))))⟩
        · replace hm := ite_f hm hb39
          refine sg_y rfl rfl hb39 ?_
          refine s_v (o_mv (.sl _ _ _) rfl) ?_
          refine sg_y rfl rfl hb39 ?_
          refine s_v (o_mv (.sl _ _ _) rfl) ?_
          refine sg_y rfl rfl hb39 ?_
          obtain ⟨y40, hy41, hm⟩ := bind_of hm
          refine s_v (o_call (W18 _ hy41) rfl bd18 rfl) ?_
          refine sg_y rfl rfl hb39 ?_
          refine s_v (o_not rfl) ?_
          refine s_v (o_pkf (.sc (.bool _)) rfl hb39 rfl) ?_
          refine s_nil ?_
          cases hm
          exact ⟨rfl, (), hk25, LeF.fm (Sub.refl _) (.cons (ALe.refl _ _) (.cons (ALe.refl _ _) (.cons (ALe.refl _ _) (.cons (ALe.refl _ _) (.cons (ALe.refl _ _) (.cons (ALe.refl _ _) (.cons (ALe.refl _ _) (.cons (ALe.refl _ _) (.cons (ALe.refl _ _) (.nil))))))))))⟩
      · rintro _ j36 fr' h' hk42 hm le
        refine H30 _ _ (le.aw ?_)
        clear le H30 K30
        refine AW_if' rfl (fun hc43 => ?_) (fun hc43 => ?_)
        · replace hm := ite_t hm hc43
          refine AW_k fun K44 H44 => ?_
          refine AW_reg ?_
          refine s_v (o_as (.sc (.bool _)) rfl) ?_
          refine s_nil ?_
          refine H44 _ _ ?_
          clear H44 K44
          refine AW_ret ?_
          cases hm
          exact Ret.of1 (.inl rfl) (rsT _ _ (.sc (.bool _)) rfl) (hp_sub (List.nil_sublist _) hk42).1 (ALe.refl _ _) ⟨rfl, rfl⟩
        · replace hm := ite_f hm hc43
          refine AW_skip ?_
          refine H29 _ _ ?_
          clear H29 K29
          refine AW_k fun K45 H45 => ?_
          refine AW_reg ?_
          refine s_v (o_ldp (.agg (c_Catalog p0)) ld27 rfl (hp_get 1 hk42 rfl) rfl) ?_
          obtain ⟨y46, hy47, hm⟩ := bind_of hm
          refine s_v (o_call (W19 _ hy47) rfl bd19 rfl) ?_
          refine s_v (o_as (.sc (.bool _)) rfl) ?_
          refine s_nil ?_
          refine H45 _ _ ?_
          clear H45 K45
          refine AW_k fun K48 H48 => ?_
          refine AW_k fun K49 H49 => ?_
          refine AW_reg ?_
          refine s_v (o_mv (.sc (.bool _)) rfl) ?_
          refine s_v (o_not rfl) ?_
          refine s_nil ?_
          refine H49 _ _ ?_
          clear H49 K49
          refine AW_if' rfl (fun hc50 => ?_) (fun hc50 => ?_)
          · replace hm := ite_t hm hc50
            refine AW_k fun K51 H51 => ?_
            refine AW_joinG (n := 165) hm (σ := Bool) (τ := Unit) (fun g s => HOk h [(some k22, .obj 27 (c_Catalog y18)), (some k2, .obj 27 (c_Catalog p0))]) (fun g s => kp (k0) 10 (.sc (.bool s))) (fun g s => hp h [(some k22, .obj 27 (c_Catalog y18)), (some k2, .obj 27 (c_Catalog p0))]) (fun x hm => ?_) ?_
            · refine AW_reg ?_
              refine s_v (o_mv (.sc (.int _ _)) rfl) ?_
              refine s_v (o_bi rfl rfl rfl trivial) ?_
              refine s_v (o_mv (.sc (.bool _)) rfl) ?_
              rcases Bool.eq_false_or_eq_true (y27.2 == 1) with hb66 | hb66
              · replace hm := ite_t hm hb66
                refine sg_y rfl rfl hb66 ?_
                refine s_v (o_mv (.sc (.int _ _)) rfl) ?_
                refine sg_y rfl rfl hb66 ?_
                refine s_v (o_bi rfl rfl rfl trivial) ?_
                refine s_v (o_pkt (.sc (.bool _)) rfl hb66 rfl) ?_
                refine s_v (o_mv (.sc (.bool _)) rfl) ?_
                rcases Bool.eq_false_or_eq_true (y27.1 == 0) with hb67 | hb67
                · replace hm := ite_t hm hb67
                  refine sg_y rfl rfl hb67 ?_
                  refine s_v (o_ldp (.agg (c_Catalog y18)) ld27 rfl (hp_get 0 hk42 rfl) rfl) ?_
                  refine sg_y rfl rfl hb67 ?_
                  refine s_v (o_mv (.sc (.int _ _)) rfl) ?_
                  refine sg_y rfl rfl hb67 ?_
                  obtain ⟨y68, hy69, hm⟩ := bind_of hm
                  refine s_v (o_call (W20 _ hy69) rfl bd20 rfl) ?_
                  refine sg_y rfl rfl hb67 ?_
                  refine s_v (o_bi rfl rfl rfl trivial) ?_
                  refine s_v (o_pkt (.sc (.bool _)) rfl hb67 rfl) ?_
                  refine s_v (o_mv (.sc (.bool _)) rfl) ?_
                  rcases Bool.eq_false_or_eq_true (y68 == 0) with hb70 | hb70
                  · replace hm := ite_t hm hb70
                    refine sg_y rfl rfl hb70 ?_
                    refine s_v (o_ldp (.agg (c_Catalog y18)) ld27 rfl (hp_get 0 hk42 rfl) rfl) ?_
                    refine sg_y rfl rfl hb70 ?_
                    refine s_v (o_mv (.sc (.int _ _)) rfl) ?_
                    refine sg_y rfl rfl hb70 ?_
                    obtain ⟨y71, hy72, hm⟩ := bind_of hm
                    refine s_v (o_call (W21 _ hy72) rfl bd21 rfl) ?_
                    refine sg_y rfl rfl hb70 ?_
                    refine s_v (o_bi rfl rfl rfl trivial) ?_
                    refine s_v (o_pkt (.sc (.bool _)) rfl hb70 rfl) ?_
                    refine s_v (o_mv (.sc (.bool _)) rfl) ?_
                    rcases Bool.eq_false_or_eq_true (y71 == (-1)) with hb73 | hb73
                    · replace hm := ite_t hm hb73
                      refine sg_y rfl rfl hb73 ?_
                      refine s_v (o_ldp (.agg (c_Catalog y18)) ld27 rfl (hp_get 0 hk42 rfl) rfl) ?_
                      refine sg_y rfl rfl hb73 ?_
                      refine s_v (o_mv (.sc (.int _ _)) rfl) ?_
                      refine sg_y rfl rfl hb73 ?_
                      obtain ⟨y74, hy75, hm⟩ := bind_of hm
                      refine s_v (o_call (W22 _ hy75) rfl bd22 rfl) ?_
                      refine sg_y rfl rfl hb73 ?_
                      refine s_v (o_bi rfl rfl rfl trivial) ?_
                      refine s_v (o_pkt (.sc (.bool _)) rfl hb73 rfl) ?_
                      refine s_v (o_mv (.sc (.bool _)) rfl) ?_
                      rcases Bool.eq_false_or_eq_true (y74 == 0) with hb76 | hb76
                      · replace hm := ite_t hm hb76
                        refine sg_y rfl rfl hb76 ?_
                        obtain ⟨y77, hy78, hm⟩ := bind_of hm
                        refine s_v (o_call (W23 _ hy78) rfl bd23 rfl) ?_
                        refine s_v (o_pkt (.sc (.bool _)) rfl hb76 rfl) ?_
                        refine s_v (o_as (.sc (.bool _)) rfl) ?_
                        refine s_nil ?_
                        cases hm
                        exact ⟨rfl, (), hk42, LeF.fm (Sub.refl _) (.cons (ALe.refl _ _) (.nil))⟩
                      · replace hm := ite_f hm hb76
                        refine sg_n rfl rfl hb76 ?_
                        refine s_v (o_pkf (.sc (.bool _)) rfl hb76 rfl) ?_
                        refine s_v (o_as (.sc (.bool _)) rfl) ?_
                        refine s_nil ?_
                        cases hm
                        exact ⟨rfl, (), hk42, LeF.fm (Sub.refl _) (.cons (ALe.refl _ _) (.nil))⟩
                    · replace hm := ite_f hm hb73
                      refine sg_n rfl rfl hb73 ?_
                      refine sg_n rfl rfl hb73 ?_
                      refine sg_n rfl rfl hb73 ?_
                      refine sg_n rfl rfl hb73 ?_
                      refine s_v (o_pkf (.sc (.bool _)) rfl hb73 rfl) ?_
                      refine s_v (o_mv (.sc (.bool _)) rfl) ?_
                      refine sg_n rfl rfl rfl ?_
                      refine s_v (o_pkf (.sc (.bool _)) rfl rfl rfl) ?_
                      refine s_v (o_as (.sc (.bool _)) rfl) ?_
                      refine s_nil ?_
                      cases hm
                      exact ⟨rfl, (), hk42, LeF.fm (Sub.refl _) (.cons (ALe.refl _ _) (.nil))⟩
                  · replace hm := ite_f hm hb70
                    refine sg_n rfl rfl hb70 ?_
                    refine sg_n rfl rfl hb70 ?_
                    refine sg_n rfl rfl hb70 ?_
                    refine sg_n rfl rfl hb70 ?_
                    refine s_v (o_pkf (.sc (.bool _)) rfl hb70 rfl) ?_
                    refine s_v (o_mv (.sc (.bool _)) rfl) ?_
                    refine sg_n rfl rfl rfl ?_
                    refine sg_n rfl rfl rfl ?_
                    refine sg_n rfl rfl rfl ?_
                    refine sg_n rfl rfl rfl ?_
                    refine s_v (o_pkf (.sc (.bool _)) rfl rfl rfl) ?_
                    refine s_v (o_mv (.sc (.bool _)) rfl) ?_
                    refine sg_n rfl rfl rfl ?_
                    refine s_v (o_pkf (.sc (.bool _)) rfl rfl rfl) ?_
                    refine s_v (o_as (.sc (.bool _)) rfl) ?_
                    refine s_nil ?_
                    cases hm
                    exact ⟨rfl, (), hk42, LeF.fm (Sub.refl _) (.cons (ALe.refl _ _) (.nil))⟩
                · replace hm := ite_f hm hb67
                  refine sg_n rfl rfl hb67 ?_
                  refine sg_n rfl rfl hb67 ?_
                  refine sg_n rfl rfl hb67 ?_
                  refine sg_n rfl rfl hb67 ?_
                  refine s_v (o_pkf (.sc (.bool _)) rfl hb67 rfl) ?_
                  refine s_v (o_mv (.sc (.bool _)) rfl) ?_
                  refine sg_n rfl rfl rfl ?_
                  refine sg_n rfl rfl rfl ?_
                  refine sg_n rfl rfl rfl ?_
                  refine sg_n rfl rfl rfl ?_
                  refine s_v (o_pkf (.sc (.bool _)) rfl rfl rfl) ?_
                  refine s_v (o_mv (.sc (.bool _)) rfl) ?_
                  refine sg_n rfl rfl rfl ?_
                  refine sg_n rfl rfl rfl ?_
                  refine sg_n rfl rfl rfl ?_
                  refine sg_n rfl rfl rfl ?_
                  refine s_v (o_pkf (.sc (.bool _)) rfl rfl rfl) ?_
                  refine s_v (o_mv (.sc (.bool _)) rfl) ?_
                  refine sg_n rfl rfl rfl ?_
                  refine s_v (o_pkf (.sc (.bool _)) rfl rfl rfl) ?_
                  refine s_v (o_as (.sc (.bool _)) rfl) ?_
                  refine s_nil ?_
                  cases hm
                  exact ⟨rfl, (), hk42, LeF.fm (Sub.refl _) (.cons (ALe.refl _ _) (.nil))⟩
              · replace hm := ite_f hm hb66
                refine sg_n rfl rfl hb66 ?_
                refine sg_n rfl rfl hb66 ?_
                refine s_v (o_pkf (.sc (.bool _)) rfl hb66 rfl) ?_
                refine s_v (o_mv (.sc (.bool _)) rfl) ?_
                refine sg_n rfl rfl rfl ?_
                refine sg_n rfl rfl rfl ?_
                refine sg_n rfl rfl rfl ?_
                refine sg_n rfl rfl rfl ?_
                refine s_v (o_pkf (.sc (.bool _)) rfl rfl rfl) ?_
                refine s_v (o_mv (.sc (.bool _)) rfl) ?_
                refine sg_n rfl rfl rfl ?_
                refine sg_n rfl rfl rfl ?_
                refine sg_n rfl rfl rfl ?_
                refine sg_n rfl rfl rfl ?_
                refine s_v (o_pkf (.sc (.bool _)) rfl rfl rfl) ?_
                refine s_v (o_mv (.sc (.bool _)) rfl) ?_
                refine sg_n rfl rfl rfl ?_
                refine sg_n rfl rfl rfl ?_
                refine sg_n rfl rfl rfl ?_
                refine sg_n rfl rfl rfl ?_
                refine s_v (o_pkf (.sc (.bool _)) rfl rfl rfl) ?_
                refine s_v (o_mv (.sc (.bool _)) rfl) ?_
                refine sg_n rfl rfl rfl ?_
                refine s_v (o_pkf (.sc (.bool _)) rfl rfl rfl) ?_
                refine s_v (o_as (.sc (.bool _)) rfl) ?_
                refine s_nil ?_
                cases hm
                exact ⟨rfl, (), hk42, LeF.fm (Sub.refl _) (.cons (ALe.refl _ _) (.nil))⟩
            · rintro _ j65 fr' h' hk79 hm le
              refine H51 _ _ (le.aw ?_)
              clear le H51 K51
              refine AW_ret ?_
              cases hm
              exact Ret.of1 (.inl rfl) (rsT _ _ (.sc (.bool _)) rfl) (hp_sub (List.nil_sublist _) hk79).1 (ALe.refl _ _) ⟨rfl, rfl⟩
          · replace hm := ite_f hm hc50
            refine AW_skip ?_
            refine H48 _ _ ?_
            clear H48 K48
            refine AW_k fun K80 H80 => ?_
            refine AW_reg ?_
            refine s_v (o_as (.sc (.int _ _)) rfl) ?_
            refine s_nil ?_
            refine H80 _ _ ?_
            clear H80 K80
            refine AW_k fun K81 H81 => ?_
            refine AW_k fun K82 H82 => ?_
            refine AW_reg ?_
            refine s_v (o_as (.sc (.int _ _)) rfl) ?_
            refine s_nil ?_
            refine H82 _ _ ?_
            clear H82 K82
            refine AW_loopG (n := 165) hm (σ := Int × Int) (τ := Unit) (fun g s => HOk h [(some k22, .obj 27 (c_Catalog y18)), (some k2, .obj 27 (c_Catalog p0))]) (fun g s => kp (kp (kp (kp (kp (kp (kp (kp (kp (kp (k0) 17 (.sc (.int .i64 s.2))) 16 (.sc (.int .i64 s.1))) 14 (.sc (.int .i64 y27.2))) 13 (.sc (.int .i64 y27.1))) 11 (.ptr k22 0)) 5 (.ptr k2 0)) 4 (.sc (.int .i64 p4))) 3 (.sl none 1 (List.map c_i64 p3))) 2 (.sc (.int .i64 p2))) 1 (.sc (.int .i64 p1))) (fun g s => hp h [(some k22, .obj 27 (c_Catalog y18)), (some k2, .obj 27 (c_Catalog p0))]) () hk42 (LeF.fm (Sub.refl _) (.cons (ALe.refl _ _) (.cons (ALe.refl _ _) (.cons (ALe.refl _ _) (.cons (ALe.refl _ _) (.cons (ALe.refl _ _) (.cons (ALe.refl _ _) (.cons (ALe.refl _ _) (.cons (ALe.refl _ _) (.cons (ALe.refl _ _) (.cons (ALe.refl _ _) (.nil)))))))))))) ?_ ?_
            · rintro _ ⟨q127, q128⟩ x hk129 hm
              replace hm : M3_L0 fuel p0 p1 q127 q128 = some x := hm
              unfold M3_L0 at hm
              refine AW_k fun K130 H130 => ?_
              refine AW_k fun K131 H131 => ?_
              refine AW_reg ?_
              refine s_v (o_mv (.sc (.int _ _)) rfl) ?_
              refine s_v (o_flp fd27_4 rfl rfl) ?_
              refine s_v (o_ldp (.sl none 4 (List.map c_Vol p0.Vols)) ld25 rfl (hp_get 1 hk129 rfl) rfl) ?_
              refine s_v (o_lenm ln25 rfl) ?_
              refine s_v (o_bi rfl rfl rfl trivial) ?_
              refine s_nil ?_
              refine H131 _ _ ?_
              clear H131 K131
              refine AW_if' rfl (fun hc132 => ?_) (fun hc132 => ?_)
              · replace hm := ite_t hm hc132
                refine AW_skip ?_
                refine H130 _ _ ?_
                clear H130 K130
                refine AW_k fun K133 H133 => ?_
                refine AW_block ?_
                refine AW_k fun K134 H134 => ?_
                refine AW_joinG (n := 165) hm (σ := Bool) (τ := Unit) (fun g s => HOk h [(some k22, .obj 27 (c_Catalog y18)), (some k2, .obj 27 (c_Catalog p0))]) (fun g s => kp (kp (kp (kp (kp (kp (kp (kp (kp (kp (kp (k0) 104 (.sc (.bool s))) 17 (.sc (.int .i64 q128))) 16 (.sc (.int .i64 q127))) 14 (.sc (.int .i64 y27.2))) 13 (.sc (.int .i64 y27.1))) 11 (.ptr k22 0)) 5 (.ptr k2 0)) 4 (.sc (.int .i64 p4))) 3 (.sl none 1 (List.map c_i64 p3))) 2 (.sc (.int .i64 p2))) 1 (.sc (.int .i64 p1))) (fun g s => hp h [(some k22, .obj 27 (c_Catalog y18)), (some k2, .obj 27 (c_Catalog p0))]) (fun x hm => ?_) ?_
                · refine AW_reg ?_
                  refine s_v (o_flp fd27_4 rfl rfl) ?_
                  refine s_v (o_ldp (.sl none 4 (List.map c_Vol p0.Vols)) ld25 rfl (hp_get 1 hk129 rfl) rfl) ?_
                  refine s_v (o_mv (.sc (.int _ _)) rfl) ?_
                  obtain ⟨x141, hx142, hm⟩ := bind_of hm
                  refine s_v (o_ix hx142 el25 rfl rfl) ?_
                  refine s_v (o_fl fd40_0 rfl rfl) ?_
                  refine s_v (o_ld (.sc (.int .i64 x141.Pool)) ld3 rfl rfl) ?_
                  refine s_v (o_mv (.sc (.int _ _)) rfl) ?_
                  refine s_v (o_bi rfl rfl rfl trivial) ?_
                  refine s_v (o_mv (.sc (.bool _)) rfl) ?_
                  rcases Bool.eq_false_or_eq_true (x141.Pool == p1) with hb143 | hb143
                  · replace hm := ite_t hm hb143
                    refine sg_y rfl rfl hb143 ?_
                    refine s_v (o_flp fd27_4 rfl rfl) ?_
                    refine sg_y rfl rfl hb143 ?_
                    refine s_v (o_ldp (.sl none 4 (List.map c_Vol p0.Vols)) ld25 rfl (hp_get 1 hk129 rfl) rfl) ?_
                    refine sg_y rfl rfl hb143 ?_
                    refine s_v (o_mv (.sc (.int _ _)) rfl) ?_
                    refine sg_y rfl rfl hb143 ?_
                    obtain ⟨x144, hx145, hm⟩ := bind_of hm
                    refine s_v (o_ix hx145 el25 rfl rfl) ?_
                    refine sg_y rfl rfl hb143 ?_
                    refine s_v (o_fl fd40_2 rfl rfl) ?_
                    refine sg_y rfl rfl hb143 ?_
                    refine s_v (o_ld (.sc (.int .i64 x144.State)) ld3 rfl rfl) ?_
                    refine sg_y rfl rfl hb143 ?_
                    refine s_v (o_bi rfl rfl rfl trivial) ?_
                    refine s_v (o_pkt (.sc (.bool _)) rfl hb143 rfl) ?_
                    refine s_nil ?_
                    cases hm
                    exact ⟨rfl, (), hk129, LeF.fm (Sub.refl _) (.cons (ALe.refl _ _) (.cons (ALe.refl _ _) (.cons (ALe.refl _ _) (.cons (ALe.refl _ _) (.cons (ALe.refl _ _) (.cons (ALe.refl _ _) (.cons (ALe.refl _ _) (.cons (ALe.refl _ _) (.cons (ALe.refl _ _) (.cons (ALe.refl _ _) (.cons (ALe.refl _ _) (.nil))))))))))))⟩
                  · replace hm := ite_f hm hb143
                    refine sg_n rfl rfl hb143 ?_
                    refine sg_n rfl rfl hb143 ?_
                    refine sg_n rfl rfl hb143 ?_
                    refine sg_n rfl rfl hb143 ?_
                    refine sg_n rfl rfl hb143 ?_
                    refine sg_n rfl rfl hb143 ?_
                    refine sg_n rfl rfl hb143 ?_
                    refine s_v (o_pkf (.sc (.bool _)) rfl hb143 rfl) ?_
                    refine s_nil ?_
                    cases hm
                    exact ⟨rfl, (), hk129, LeF.fm (Sub.refl _) (.cons (ALe.refl _ _) (.cons (ALe.refl _ _) (.cons (ALe.refl _ _) (.cons (ALe.refl _ _) (.cons (ALe.refl _ _) (.cons (ALe.refl _ _) (.cons (ALe.refl _ _) (.cons (ALe.refl _ _) (.cons (ALe.refl _ _) (.cons (ALe.refl _ _) (.cons (ALe.refl _ _) (.nil))))))))))))⟩
                · rintro _ j140 fr' h' hk146 hm le
                  refine H134 _ _ (le.aw ?_)
                  clear le H134 K134
                  refine AW_joinG (n := 165) hm (σ := Int) (τ := Unit) (fun g s => HOk h [(some k22, .obj 27 (c_Catalog y18)), (some k2, .obj 27 (c_Catalog p0))]) (fun g s => kp (kp (kp (kp (kp (kp (kp (kp (kp (kp (k0) 17 (.sc (.int .i64 q128))) 16 (.sc (.int .i64 s))) 14 (.sc (.int .i64 y27.2))) 13 (.sc (.int .i64 y27.1))) 11 (.ptr k22 0)) 5 (.ptr k2 0)) 4 (.sc (.int .i64 p4))) 3 (.sl none 1 (List.map c_i64 p3))) 2 (.sc (.int .i64 p2))) 1 (.sc (.int .i64 p1))) (fun g s => hp h [(some k22, .obj 27 (c_Catalog y18)), (some k2, .obj 27 (c_Catalog p0))]) (fun x hm => ?_) ?_
                  · refine AW_if' rfl (fun hc149 => ?_) (fun hc149 => ?_)
                    · replace hm := ite_t hm hc149
                      refine AW_reg ?_
                      refine s_v (o_mv (.sc (.int _ _)) rfl) ?_
                      refine s_v (o_bi rfl rfl rfl trivial) ?_
                      refine s_v (o_as (.sc (.int _ _)) rfl) ?_
                      refine s_nil ?_
                      cases hm
                      exact ⟨rfl, (), hk146, LeF.fm (Sub.refl _) (.cons (ALe.refl _ _) (.cons (ALe.refl _ _) (.cons (ALe.refl _ _) (.cons (ALe.refl _ _) (.cons (ALe.refl _ _) (.cons (ALe.refl _ _) (.cons (ALe.refl _ _) (.cons (ALe.refl _ _) (.cons (ALe.refl _ _) (.cons (ALe.refl _ _) (.nil)))))))))))⟩
                    · replace hm := ite_f hm hc149
                      refine AW_skip ?_
                      cases hm
                      exact ⟨rfl, (), hk146, LeF.fm (Sub.refl _) (.cons (ALe.refl _ _) (.cons (ALe.refl _ _) (.cons (ALe.refl _ _) (.cons (ALe.refl _ _) (.cons (ALe.refl _ _) (.cons (ALe.refl _ _) (.cons (ALe.refl _ _) (.cons (ALe.refl _ _) (.cons (ALe.refl _ _) (.cons (ALe.refl _ _) (.nil)))))))))))⟩
                  · rintro _ j148 fr' h' hk150 hm le
                    refine H133 _ _ (le.aw ?_)
                    clear le H133 K133
                    refine AW_reg ?_
                    refine s_v (o_mv (.sc (.int _ _)) rfl) ?_
                    refine s_v (o_bi rfl rfl rfl trivial) ?_
                    refine s_v (o_as (.sc (.int _ _)) rfl) ?_
                    refine s_nil ?_
                    cases hm
                    exact ⟨rfl, (), hk150, LeF.fm (Sub.refl _) (.cons (ALe.refl _ _) (.cons (ALe.refl _ _) (.cons (ALe.refl _ _) (.cons (ALe.refl _ _) (.cons (ALe.refl _ _) (.cons (ALe.refl _ _) (.cons (ALe.refl _ _) (.cons (ALe.refl _ _) (.cons (ALe.refl _ _) (.cons (ALe.refl _ _) (.nil)))))))))))⟩
              · replace hm := ite_f hm hc132
                refine AW_exit ?_
                refine Seq_exit ?_
                cases hm
                exact ⟨rfl, (), hk129, LeF.fm (Sub.refl _) (.cons (ALe.refl _ _) (.cons (ALe.refl _ _) (.cons (ALe.refl _ _) (.cons (ALe.refl _ _) (.cons (ALe.refl _ _) (.cons (ALe.refl _ _) (.cons (ALe.refl _ _) (.cons (ALe.refl _ _) (.cons (ALe.refl _ _) (.cons (ALe.refl _ _) (.nil)))))))))))⟩
            · rintro _ ⟨r151, r152⟩ fr' h' hk153 hm le
              refine H81 _ _ (le.aw ?_)
              clear le H81 K81
              refine AW_k fun K154 H154 => ?_
              refine AW_k fun K155 H155 => ?_
              refine AW_joinG (n := 165) hm (σ := Bool) (τ := Unit) (fun g s => HOk h [(some k22, .obj 27 (c_Catalog y18)), (some k2, .obj 27 (c_Catalog p0))]) (fun g s => kp (kp (kp (kp (kp (kp (kp (kp (k0) 129 (.sc (.bool s))) 14 (.sc (.int .i64 y27.2))) 13 (.sc (.int .i64 y27.1))) 5 (.ptr k2 0)) 4 (.sc (.int .i64 p4))) 3 (.sl none 1 (List.map c_i64 p3))) 2 (.sc (.int .i64 p2))) 1 (.sc (.int .i64 p1))) (fun g s => hp h [(some k22, .obj 27 (c_Catalog y18)), (some k2, .obj 27 (c_Catalog p0))]) (fun x hm => ?_) ?_
              · refine AW_region_q [(some 107, [11], []), (some 108, [4], []), (some 109, [107, 108], [0, 1]), (some 110, [5], []), (some 111, [4], []), (some 112, [110, 111], [3, 4, 2]), (some 113, [109, 112], [2, 5]), (some 114, [113], [6, 5]), (some 115, [11, 114], [7]), (some 116, [1, 114], [7]), (some 117, [115, 116, 114], [8, 9, 7, 7]), (some 118, [5, 114], [7]), (some 119, [1, 114], [7]), (some 120, [118, 119, 114], [11, 12, 10, 7]), (some 121, [117, 120, 114], [10, 13, 7]), (some 122, [114, 121], [7, 14]), (some 123, [122], [15, 13]), (some 124, [11, 123], [16]), (some 125, [1, 123], [16]), (some 126, [124, 125, 123], [17, 18, 16, 16]), (some 127, [16, 123], [16]), (some 128, [126, 127, 123], [19, 20, 16]), (some 129, [123, 128], [16, 21])] mixed (by kernel_rfl) (by kernel_rfl) ?_
                refine q_v (o_ldp (.agg (c_Catalog y18)) ld27 rfl (hp_get 0 hk153 rfl) rfl) ?_
                refine q_v (o_mv (.sc (.int _ _)) rfl) ?_
                obtain ⟨y169, hy170, hm⟩ := bind_of hm
                refine q_v (o_call (W20 _ hy170) rfl bd20 rfl) ?_
                refine q_v (o_ldp (.agg (c_Catalog p0)) ld27 rfl (hp_get 1 hk153 rfl) rfl) ?_
                refine q_v (o_mv (.sc (.int _ _)) rfl) ?_
                obtain ⟨y171, hy172, hm⟩ := bind_of hm
                refine q_v (o_call (W24 _ hy172) rfl bd24 rfl) ?_
                refine q_v (o_bi rfl rfl rfl trivial) ?_
                refine q_v (o_mv (.sc (.bool _)) rfl) ?_
                rcases Bool.eq_false_or_eq_true (y169 != y171) with hb173 | hb173
                · replace hm := ite_t hm hb173
                  refine qg_n rfl rfl hb173 ?_
                  refine qg_n rfl rfl hb173 ?_
                  refine qg_n rfl rfl hb173 ?_
                  refine qg_n rfl rfl hb173 ?_
                  refine qg_n rfl rfl hb173 ?_
                  refine qg_n rfl rfl hb173 ?_
                  refine qg_n rfl rfl hb173 ?_
                  refine q_v (o_pkt (.sc (.bool _)) rfl hb173 rfl) ?_
                  refine q_v (o_mv (.sc (.bool _)) rfl) ?_
                  refine qg_n rfl rfl rfl ?_
                  refine qg_n rfl rfl rfl ?_
                  refine qg_n rfl rfl rfl ?_
                  refine qg_n rfl rfl rfl ?_
                  refine qg_n rfl rfl rfl ?_
                  refine q_v (o_pkt (.sc (.bool _)) rfl rfl rfl) ?_
                  refine q_nil ?_
                  cases hm
                  exact ⟨rfl, (), hk153, LeF.fm (Sub.refl _) (.cons (ALe.refl _ _) (.cons (ALe.refl _ _) (.cons (ALe.refl _ _) (.cons (ALe.refl _ _) (.cons (ALe.refl _ _) (.cons (ALe.refl _ _) (.cons (ALe.refl _ _) (.cons (ALe.refl _ _) (.nil)))))))))⟩
                · replace hm := ite_f hm hb173
                  refine qg_y rfl rfl hb173 ?_
                  refine q_v (o_ldp (.agg (c_Catalog y18)) ld27 rfl (hp_get 0 hk153 rfl) rfl) ?_
                  refine qg_y rfl rfl hb173 ?_
                  refine q_v (o_mv (.sc (.int _ _)) rfl) ?_
                  refine qg_y rfl rfl hb173 ?_
                  obtain ⟨y174, hy175, hm⟩ := bind_of hm
                  refine q_v (o_call (W21 _ hy175) rfl bd21 rfl) ?_
                  refine qg_y rfl rfl hb173 ?_
                  refine q_v (o_ldp (.agg (c_Catalog p0)) ld27 rfl (hp_get 1 hk153 rfl) rfl) ?_
                  refine qg_y rfl rfl hb173 ?_
                  refine q_v (o_mv (.sc (.int _ _)) rfl) ?_
                  refine qg_y rfl rfl hb173 ?_
                  obtain ⟨y176, hy177, hm⟩ := bind_of hm
                  refine q_v (o_call (W25 _ hy177) rfl bd25 rfl) ?_
                  refine qg_y rfl rfl hb173 ?_
                  refine q_v (o_bi rfl rfl rfl trivial) ?_
                  refine q_v (o_pkf (.sc (.bool _)) rfl hb173 rfl) ?_
                  refine q_v (o_mv (.sc (.bool _)) rfl) ?_
                  rcases Bool.eq_false_or_eq_true (y174 != y176) with hb178 | hb178
                  · replace hm := ite_t hm hb178
                    refine qg_n rfl rfl hb178 ?_
                    refine qg_n rfl rfl hb178 ?_
                    refine qg_n rfl rfl hb178 ?_
                    refine qg_n rfl rfl hb178 ?_
                    refine qg_n rfl rfl hb178 ?_
                    refine q_v (o_pkt (.sc (.bool _)) rfl hb178 rfl) ?_
                    refine q_nil ?_
                    cases hm
                    exact ⟨rfl, (), hk153, LeF.fm (Sub.refl _) (.cons (ALe.refl _ _) (.cons (ALe.refl _ _) (.cons (ALe.refl _ _) (.cons (ALe.refl _ _) (.cons (ALe.refl _ _) (.cons (ALe.refl _ _) (.cons (ALe.refl _ _) (.cons (ALe.refl _ _) (.nil)))))))))⟩
                  · replace hm := ite_f hm hb178
                    refine qg_y rfl rfl hb178 ?_
                    refine q_v (o_ldp (.agg (c_Catalog y18)) ld27 rfl (hp_get 0 hk153 rfl) rfl) ?_
                    refine qg_y rfl rfl hb178 ?_
                    refine q_v (o_mv (.sc (.int _ _)) rfl) ?_
                    refine qg_y rfl rfl hb178 ?_
                    obtain ⟨y179, hy180, hm⟩ := bind_of hm
                    refine q_v (o_call (W22 _ hy180) rfl bd22 rfl) ?_
                    refine qg_y rfl rfl hb178 ?_
                    refine q_v (o_mv (.sc (.int _ _)) rfl) ?_
                    refine qg_y rfl rfl hb178 ?_
                    refine q_v (o_bi rfl rfl rfl trivial) ?_
                    refine q_v (o_pkf (.sc (.bool _)) rfl hb178 rfl) ?_
                    refine q_nil ?_
                    cases hm
                    exact ⟨rfl, (), hk153, LeF.fm (Sub.refl _) (.cons (ALe.refl _ _) (.cons (ALe.refl _ _) (.cons (ALe.refl _ _) (.cons (ALe.refl _ _) (.cons (ALe.refl _ _) (.cons (ALe.refl _ _) (.cons (ALe.refl _ _) (.cons (ALe.refl _ _) (.nil)))))))))⟩
              · rintro _ j168 fr' h' hk181 hm le
                refine H155 _ _ (le.aw ?_)
                clear le H155 K155
                refine AW_if' rfl (fun hc182 => ?_) (fun hc182 => ?_)
                · replace hm := ite_t hm hc182
                  refine AW_k fun K183 H183 => ?_
                  refine AW_reg ?_
                  refine s_v (o_as (.sc (.bool _)) rfl) ?_
                  refine s_nil ?_
                  refine H183 _ _ ?_
                  clear H183 K183
                  refine AW_ret ?_
                  cases hm
                  exact Ret.of1 (.inl rfl) (rsT _ _ (.sc (.bool _)) rfl) (hp_sub (List.nil_sublist _) hk181).1 (ALe.refl _ _) ⟨rfl, rfl⟩
                · replace hm := ite_f hm hc182
                  refine AW_skip ?_
                  refine H154 _ _ ?_
                  clear H154 K154
                  refine AW_k fun K184 H184 => ?_
                  refine AW_k fun K185 H185 => ?_
                  refine AW_reg ?_
                  refine s_v (o_mv (.sl _ _ _) rfl) ?_
                  refine s_v (o_lenm ln28 rfl) ?_
                  refine s_v (o_flp fd27_4 rfl rfl) ?_
                  refine s_v (o_ldp (.sl none 4 (List.map c_Vol p0.Vols)) ld25 rfl (hp_get 1 hk181 rfl) rfl) ?_
                  refine s_v (o_lenm ln25 rfl) ?_
                  refine s_v (o_bi rfl rfl rfl trivial) ?_
                  refine s_nil ?_
                  refine H185 _ _ ?_
                  clear H185 K185
                  refine AW_if' rfl (fun hc186 => ?_) (fun hc186 => ?_)
                  · replace hm := ite_t hm hc186
                    refine AW_k fun K187 H187 => ?_
                    refine AW_joinG (n := 165) hm (σ := Bool) (τ := Unit) (fun g s => HOk h [(some k22, .obj 27 (c_Catalog y18)), (some k2, .obj 27 (c_Catalog p0))]) (fun g s => kp (k0) 10 (.sc (.bool s))) (fun g s => hp h [(some k22, .obj 27 (c_Catalog y18)), (some k2, .obj 27 (c_Catalog p0))]) (fun x hm => ?_) ?_
                    · refine AW_reg ?_
                      refine s_v (o_mv (.sc (.int _ _)) rfl) ?_
                      refine s_v (o_bi rfl rfl rfl trivial) ?_
                      refine s_v (o_mv (.sc (.bool _)) rfl) ?_
                      rcases Bool.eq_false_or_eq_true (y27.2 == 1) with hb193 | hb193
                      · replace hm := ite_t hm hb193
                        refine sg_y rfl rfl hb193 ?_
                        refine s_v (o_mv (.sc (.int _ _)) rfl) ?_
                        refine sg_y rfl rfl hb193 ?_
                        refine s_v (o_bi rfl rfl rfl trivial) ?_
                        refine s_v (o_pkt (.sc (.bool _)) rfl hb193 rfl) ?_
                        refine s_v (o_mv (.sc (.bool _)) rfl) ?_
                        rcases Bool.eq_false_or_eq_true (y27.1 == 0) with hb194 | hb194
                        · replace hm := ite_t hm hb194
                          refine sg_y rfl rfl hb194 ?_
                          obtain ⟨y195, hy196, hm⟩ := bind_of hm
                          refine s_v (o_call (W23 _ hy196) rfl bd23 rfl) ?_
                          refine s_v (o_pkt (.sc (.bool _)) rfl hb194 rfl) ?_
                          refine s_v (o_as (.sc (.bool _)) rfl) ?_
                          refine s_nil ?_
                          cases hm
                          exact ⟨rfl, (), hk181, LeF.fm (Sub.refl _) (.cons (ALe.refl _ _) (.nil))⟩
                        · replace hm := ite_f hm hb194
                          refine sg_n rfl rfl hb194 ?_
                          refine s_v (o_pkf (.sc (.bool _)) rfl hb194 rfl) ?_
                          refine s_v (o_as (.sc (.bool _)) rfl) ?_
                          refine s_nil ?_
                          cases hm
                          exact ⟨rfl, (), hk181, LeF.fm (Sub.refl _) (.cons (ALe.refl _ _) (.nil))⟩
                      · replace hm := ite_f hm hb193
                        refine sg_n rfl rfl hb193 ?_
                        refine sg_n rfl rfl hb193 ?_
                        refine s_v (o_pkf (.sc (.bool _)) rfl hb193 rfl) ?_
                        refine s_v (o_mv (.sc (.bool _)) rfl) ?_
                        refine sg_n rfl rfl rfl ?_
                        refine s_v (o_pkf (.sc (.bool _)) rfl rfl rfl) ?_
                        refine s_v (o_as (.sc (.bool _)) rfl) ?_
                        refine s_nil ?_
                        cases hm
                        exact ⟨rfl, (), hk181, LeF.fm (Sub.refl _) (.cons (ALe.refl _ _) (.nil))⟩
                    · rintro _ j192 fr' h' hk197 hm le
                      refine H187 _ _ (le.aw ?_)
                      clear le H187 K187
                      refine AW_ret ?_
                      cases hm
                      exact Ret.of1 (.inl rfl) (rsT _ _ (.sc (.bool _)) rfl) (hp_sub (List.nil_sublist _) hk197).1 (ALe.refl _ _) ⟨rfl, rfl⟩
                  · replace hm := ite_f hm hc186
                    refine AW_skip ?_
                    refine H184 _ _ ?_
                    clear H184 K184
                    refine AW_k fun K198 H198 => ?_
                    refine AW_reg ?_
                    refine s_v (o_ldp (.agg (c_Catalog p0)) ld27 rfl (hp_get 1 hk181 rfl) rfl) ?_
                    refine s_v (o_mv (.sc (.int _ _)) rfl) ?_
                    refine s_v (o_mv (.sc (.int _ _)) rfl) ?_
                    refine s_v (o_mv (.sl _ _ _) rfl) ?_
                    refine s_v (o_mv (.sc (.int _ _)) rfl) ?_
                    obtain ⟨y199, hy200, hm⟩ := bind_of hm
                    refine s_v (o_call (W26 _ hy200) rfl bd26 rfl) ?_
                    refine s_v (o_mv (.tup _) rfl) ?_
                    refine s_v (o_ex (.sc (.int _ _)) rfl rfl) ?_
                    refine s_v (o_ex (.sc (.int _ _)) rfl rfl) ?_
                    refine s_v (o_as (.sc (.int _ _)) rfl) ?_
                    refine s_v (o_as (.sc (.int _ _)) rfl) ?_
                    refine s_nil ?_
                    refine H198 _ _ ?_
                    clear H198 K198
                    refine AW_k fun K201 H201 => ?_
                    refine AW_joinG (n := 165) hm (σ := Bool) (τ := Unit) (fun g s => HOk h [(some k22, .obj 27 (c_Catalog y18)), (some k2, .obj 27 (c_Catalog p0))]) (fun g s => kp (k0) 10 (.sc (.bool s))) (fun g s => hp h [(some k22, .obj 27 (c_Catalog y18)), (some k2, .obj 27 (c_Catalog p0))]) (fun x hm => ?_) ?_
                    · refine AW_reg ?_
                      refine s_v (o_mv (.sc (.int _ _)) rfl) ?_
                      refine s_v (o_mv (.sc (.int _ _)) rfl) ?_
                      refine s_v (o_bi rfl rfl rfl trivial) ?_
                      refine s_v (o_mv (.sc (.bool _)) rfl) ?_
                      rcases Bool.eq_false_or_eq_true (y27.2 == y199.2) with hb207 | hb207
                      · replace hm := ite_t hm hb207
                        refine sg_y rfl rfl hb207 ?_
                        refine s_v (o_mv (.sc (.int _ _)) rfl) ?_
                        refine sg_y rfl rfl hb207 ?_
                        refine s_v (o_mv (.sc (.int _ _)) rfl) ?_
                        refine sg_y rfl rfl hb207 ?_
                        refine s_v (o_bi rfl rfl rfl trivial) ?_
                        refine s_v (o_pkt (.sc (.bool _)) rfl hb207 rfl) ?_
                        refine s_v (o_mv (.sc (.bool _)) rfl) ?_
                        rcases Bool.eq_false_or_eq_true (y27.1 == y199.1) with hb208 | hb208
                        · replace hm := ite_t hm hb208
                          refine sg_y rfl rfl hb208 ?_
                          obtain ⟨y209, hy210, hm⟩ := bind_of hm
                          refine s_v (o_call (W23 _ hy210) rfl bd23 rfl) ?_
                          refine s_v (o_pkt (.sc (.bool _)) rfl hb208 rfl) ?_
                          refine s_v (o_as (.sc (.bool _)) rfl) ?_
                          refine s_nil ?_
                          cases hm
                          exact ⟨rfl, (), hk181, LeF.fm (Sub.refl _) (.cons (ALe.refl _ _) (.nil))⟩
                        · replace hm := ite_f hm hb208
                          refine sg_n rfl rfl hb208 ?_
                          refine s_v (o_pkf (.sc (.bool _)) rfl hb208 rfl) ?_
                          refine s_v (o_as (.sc (.bool _)) rfl) ?_
                          refine s_nil ?_
                          cases hm
                          exact ⟨rfl, (), hk181, LeF.fm (Sub.refl _) (.cons (ALe.refl _ _) (.nil))⟩
                      · replace hm := ite_f hm hb207
                        refine sg_n rfl rfl hb207 ?_
                        refine sg_n rfl rfl hb207 ?_
                        refine sg_n rfl rfl hb207 ?_
                        refine s_v (o_pkf (.sc (.bool _)) rfl hb207 rfl) ?_
                        refine s_v (o_mv (.sc (.bool _)) rfl) ?_
                        refine sg_n rfl rfl rfl ?_
                        refine s_v (o_pkf (.sc (.bool _)) rfl rfl rfl) ?_
                        refine s_v (o_as (.sc (.bool _)) rfl) ?_
                        refine s_nil ?_
                        cases hm
                        exact ⟨rfl, (), hk181, LeF.fm (Sub.refl _) (.cons (ALe.refl _ _) (.nil))⟩
                    · rintro _ j206 fr' h' hk211 hm le
                      refine H201 _ _ (le.aw ?_)
                      clear le H201 K201
                      refine AW_ret ?_
                      cases hm
                      exact Ret.of1 (.inl rfl) (rsT _ _ (.sc (.bool _)) rfl) (hp_sub (List.nil_sublist _) hk211).1 (ALe.refl _ _) ⟨rfl, rfl⟩
theorem bd3 : bodied Try.prog 3 = true := by kernel_rfl
end Go.Proofs.Ytoomgangpjcaoaa
