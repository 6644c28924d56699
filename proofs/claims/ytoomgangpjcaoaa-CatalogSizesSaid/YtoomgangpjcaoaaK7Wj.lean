import Derived.Test.YtoomgangpjcaoaaK7Wa
import Derived.Test.YtoomgangpjcaoaaK7Types
import Derived.Test.YtoomgangpjcaoaaK7Wc
import Derived.Test.YtoomgangpjcaoaaK7We
import Derived.Test.YtoomgangpjcaoaaK7Wf
import Derived.Test.YtoomgangpjcaoaaK7Wg
import Derived.Test.YtoomgangpjcaoaaK7Wi
set_option linter.unusedSimpArgs false
set_option linter.unusedVariables false
namespace Go.Proofs.Ytoomgangpjcaoaa
open Go.Vm
def M7_L0 (fuel : Nat) (p0 : TCatalog) (q56 : Int) (q57 : Int) : Option (Lp (Int × Int) (Bool)) :=
  if (decide (q57 < (p0.Snaps.length : Int))) = true then ((ix p0.Snaps q57).bind fun x64 => (M34 fuel x64.Man).bind fun y66 => if (y66.2 != 0) = true then (some (.ret false)) else (ix p0.Snaps q57).bind fun x72 => some (.go (IntKind.wrap .i64 ((IntKind.wrap .i64 ((IntKind.wrap .i64 ((IntKind.wrap .i64 (q56 + 8)) + (y66.1.length : Int))) + 1)) + (IntKind.wrap .i64 (8 * (x72.Locs.length : Int)))), IntKind.wrap .i64 (q57 + 1)))) else some (.brk (q56, q57))
def M7_L2 (fuel : Nat) (p0 : TCatalog) (q97 : Int) (q98 : Int) : Option (Lp (Int × Int) (Bool)) :=
  if (decide (q98 < (p0.Chunks.length : Int))) = true then ((ix p0.Chunks q98).bind fun x104 => (ix p0.Chunks q98).bind fun x106 => some (.go (IntKind.wrap .i64 ((IntKind.wrap .i64 ((IntKind.wrap .i64 ((IntKind.wrap .i64 ((IntKind.wrap .i64 (q97 + 32)) + 2)) + (x104.Data.length : Int))) + 1)) + (IntKind.wrap .i64 (8 * (x106.Locs.length : Int)))), IntKind.wrap .i64 (q98 + 1)))) else some (.brk (q97, q98))
def M7_L4 (fuel : Nat) (p0 : TCatalog) (q127 : Int) (q128 : Int) : Option (Lp (Int × Int) (Bool)) :=
  if (decide (q128 < (p0.Exps.length : Int))) = true then ((ix p0.Exps q128).bind fun x134 => some (.go (IntKind.wrap .i64 ((IntKind.wrap .i64 ((IntKind.wrap .i64 (q127 + 8)) + 1)) + (IntKind.wrap .i64 (8 * (x134.Locs.length : Int)))), IntKind.wrap .i64 (q128 + 1)))) else some (.brk (q127, q128))
def M7 (fuel : Nat) (p0 : TCatalog) : Option (Bool) :=
  after ((M13 fuel p0).bind fun y13 => if y13 = true then (some (.brk true)) else (M19 fuel p0).bind fun y16 => some (.brk (!y16)) : Option (Lp (Bool) (Bool))) fun j12 => if j12 = true then (some true) else after (loopM (fun s => M7_L0 fuel p0 s.1 s.2) fuel (IntKind.wrap .i64 (10 + (IntKind.wrap .i64 (8 * (p0.Vols.length : Int)))), 0)) fun ⟨r74, r75⟩ => after (loopM (fun s => M7_L2 fuel p0 s.1 s.2) fuel (r74, 0)) fun ⟨r108, r109⟩ => after (loopM (fun s => M7_L4 fuel p0 s.1 s.2) fuel (r108, 0)) fun ⟨r136, r137⟩ => (M35 fuel p0).bind fun y140 => after (if (y140.2 == 0) = true then (if ((y140.1.length : Int) == r136) = true then ((M31 fuel).bind fun y150 => some (.brk y150)) else some (.brk false)) else some (.brk false) : Option (Lp (Bool) (Bool))) fun j147 => some j147
set_option maxHeartbeats 4000000 in
set_option maxRecDepth 100000 in
/-- cellarer/cellarerlaw18.CatalogSizes -/
theorem W7 {fuel : Nat} {p0 : TCatalog} {o : Bool} (h : Heap) (hm : M7 fuel p0 = some o) :
    ACalls Try.prog 7 [.agg (c_Catalog p0)] h (fun r h' => r = .sc (.bool o) ∧ h' = h) := by
  refine ACalls_hp 120 [.tmp 2] Try.func7 rfl rfl rfl rfl ?_
  unfold M7 at hm
  refine AW_k fun K1 H1 => ?_
  refine AW_reg ?_
  refine s_op (a_box (HOk.nil _) rfl rfl fun k2 hk3 => ?_)
  refine s_v (o_as (.sc (.bool _)) rfl) ?_
  refine s_nil ?_
  refine H1 _ _ ?_
  clear H1 K1
  refine AW_k fun K5 H5 => ?_
  refine AW_k fun K6 H6 => ?_
  refine AW_joinG (n := 120) hm (σ := Bool) (τ := Unit) (fun g s => HOk h [(some k2, .obj 27 (c_Catalog p0))]) (fun g s => kp (kp (k0) 17 (.sc (.bool s))) 1 (.ptr k2 0)) (fun g s => hp h [(some k2, .obj 27 (c_Catalog p0))]) (fun x hm => ?_) ?_
  · refine AW_reg ?_
    refine s_v (o_ldp (.agg (c_Catalog p0)) ld27 rfl (hp_get 0 hk3 rfl) rfl) ?_
    obtain ⟨y13, hy14, hm⟩ := bind_of hm
    refine s_v (o_call (W13 _ hy14) rfl bd13 rfl) ?_
    refine s_v (o_mv (.sc (.bool _)) rfl) ?_
    rcases Bool.eq_false_or_eq_true y13 with hb15 | hb15
    · replace hm := ite_t hm hb15
      refine sg_n rfl rfl hb15 ?_
      refine sg_n rfl rfl hb15 ?_
      refine sg_n rfl rfl hb15 ?_
      refine s_v (o_pkt (.sc (.bool _)) rfl hb15 rfl) ?_
      refine s_nil ?_
      cases hm
      exact ⟨rfl, (), hk3, LeF.fm (Sub.refl _) (.cons (ALe.refl _ _) (.cons (ALe.refl _ _) (.nil)))⟩
    · replace hm := ite_f hm hb15
      refine sg_y rfl rfl hb15 ?_
      refine s_v (o_ldp (.agg (c_Catalog p0)) ld27 rfl (hp_get 0 hk3 rfl) rfl) ?_
      refine sg_y rfl rfl hb15 ?_
      obtain ⟨y16, hy17, hm⟩ := bind_of hm
      refine s_v (o_call (W19 _ hy17) rfl bd19 rfl) ?_
      refine sg_y rfl rfl hb15 ?_
      refine s_v (o_not rfl) ?_
      refine s_v (o_pkf (.sc (.bool _)) rfl hb15 rfl) ?_
      refine s_nil ?_
      cases hm
      exact ⟨rfl, (), hk3, LeF.fm (Sub.refl _) (.cons (ALe.refl _ _) (.cons (ALe.refl _ _) (.nil)))⟩
  · rintro _ j12 fr' h' hk18 hm le
    refine H6 _ _ (le.aw ?_)
    clear le H6 K6
    refine AW_if' rfl (fun hc19 => ?_) (fun hc19 => ?_)
    · replace hm := ite_t hm hc19
      refine AW_k fun K20 H20 => ?_
      refine AW_reg ?_
      refine s_v (o_as (.sc (.bool _)) rfl) ?_
      refine s_nil ?_
      refine H20 _ _ ?_
      clear H20 K20
      refine AW_ret ?_
      cases hm
      exact Ret.of1 (.inl rfl) (rsT _ _ (.sc (.bool _)) rfl) (hp_sub (List.nil_sublist _) hk18).1 (ALe.refl _ _) ⟨rfl, rfl⟩
    · replace hm := ite_f hm hc19
      refine AW_skip ?_
      refine H5 _ _ ?_
      clear H5 K5
      refine AW_k fun K21 H21 => ?_
      refine AW_reg ?_
      refine s_v (o_flp fd27_4 rfl rfl) ?_
      refine s_v (o_ldp (.sl none 4 (List.map c_Vol p0.Vols)) ld25 rfl (hp_get 0 hk18 rfl) rfl) ?_
      refine s_v (o_lenm ln25 rfl) ?_
      refine s_v (o_bi rfl rfl rfl trivial) ?_
      refine s_v (o_bi rfl rfl rfl trivial) ?_
      refine s_v (o_as (.sc (.int _ _)) rfl) ?_
      refine s_nil ?_
      refine H21 _ _ ?_
      clear H21 K21
      refine AW_k fun K22 H22 => ?_
      refine AW_k fun K23 H23 => ?_
      refine AW_reg ?_
      refine s_v (o_as (.sc (.int _ _)) rfl) ?_
      refine s_nil ?_
      refine H23 _ _ ?_
      clear H23 K23
      refine AW_loopG (n := 120) hm (σ := Int × Int) (τ := Unit) (fun g s => HOk h [(some k2, .obj 27 (c_Catalog p0))]) (fun g s => kp (kp (kp (k0) 4 (.sc (.int .i64 s.2))) 3 (.sc (.int .i64 s.1))) 1 (.ptr k2 0)) (fun g s => hp h [(some k2, .obj 27 (c_Catalog p0))]) () hk18 (LeF.fm (Sub.refl _) (.cons (ALe.refl _ _) (.cons (ALe.refl _ _) (.cons (ALe.refl _ _) (.nil))))) ?_ ?_
      · rintro _ ⟨q56, q57⟩ x hk58 hm
        replace hm : M7_L0 fuel p0 q56 q57 = some x := hm
        unfold M7_L0 at hm
        refine AW_k fun K59 H59 => ?_
        refine AW_k fun K60 H60 => ?_
        refine AW_reg ?_
        refine s_v (o_mv (.sc (.int _ _)) rfl) ?_
        refine s_v (o_flp fd27_1 rfl rfl) ?_
        refine s_v (o_ldp (.sl none 4 (List.map c_Snap p0.Snaps)) ld22 rfl (hp_get 0 hk58 rfl) rfl) ?_
        refine s_v (o_lenm ln22 rfl) ?_
        refine s_v (o_bi rfl rfl rfl trivial) ?_
        refine s_nil ?_
        refine H60 _ _ ?_
        clear H60 K60
        refine AW_if' rfl (fun hc61 => ?_) (fun hc61 => ?_)
        · replace hm := ite_t hm hc61
          refine AW_skip ?_
          refine H59 _ _ ?_
          clear H59 K59
          refine AW_k fun K62 H62 => ?_
          refine AW_block ?_
          refine AW_k fun K63 H63 => ?_
          refine AW_reg ?_
          refine s_v (o_flp fd27_1 rfl rfl) ?_
          refine s_v (o_ldp (.sl none 4 (List.map c_Snap p0.Snaps)) ld22 rfl (hp_get 0 hk58 rfl) rfl) ?_
          refine s_v (o_mv (.sc (.int _ _)) rfl) ?_
          obtain ⟨x64, hx65, hm⟩ := bind_of hm
          refine s_v (o_ix hx65 el22 rfl rfl) ?_
          refine s_v (o_fl fd60_1 rfl rfl) ?_
          refine s_v (o_ld (.agg (c_Manifest x64.Man)) ld57 rfl rfl) ?_
          obtain ⟨y66, hy67, hm⟩ := bind_of hm
          refine s_v (o_call (W34 _ hy67) rfl bd34 rfl) ?_
          refine s_v (o_mv (.tup _) rfl) ?_
          refine s_v (o_ex (.sl _ _ _) rfl rfl) ?_
          refine s_v (o_ex (.sc (.int _ _)) rfl rfl) ?_
          refine s_v (o_as (.sl _ _ _) rfl) ?_
          refine s_v (o_as (.sc (.int _ _)) rfl) ?_
          refine s_nil ?_
          refine H63 _ _ ?_
          clear H63 K63
          refine AW_k fun K68 H68 => ?_
          refine AW_k fun K69 H69 => ?_
          refine AW_reg ?_
          refine s_v (o_mv (.sc (.int _ _)) rfl) ?_
          refine s_v (o_bi rfl rfl rfl trivial) ?_
          refine s_nil ?_
          refine H69 _ _ ?_
          clear H69 K69
          refine AW_if' rfl (fun hc70 => ?_) (fun hc70 => ?_)
          · replace hm := ite_t hm hc70
            refine AW_k fun K71 H71 => ?_
            refine AW_reg ?_
            refine s_v (o_as (.sc (.bool _)) rfl) ?_
            refine s_nil ?_
            refine H71 _ _ ?_
            clear H71 K71
            refine AW_ret ?_
            cases hm
            refine ⟨⟨nofun, nofun⟩, fun he => ?_⟩
            subst he
            exact Ret.of1 (.inl rfl) (rsT _ _ (.sc (.bool _)) rfl) (hp_sub (List.nil_sublist _) hk58).1 (ALe.refl _ _) ⟨rfl, rfl⟩
          · replace hm := ite_f hm hc70
            refine AW_skip ?_
            refine H68 _ _ ?_
            clear H68 K68
            refine AW_reg ?_
            refine s_v (o_mv (.sc (.int _ _)) rfl) ?_
            refine s_v (o_bi rfl rfl rfl trivial) ?_
            refine s_v (o_mv (.sl _ _ _) rfl) ?_
            refine s_v (o_lenm ln52 rfl) ?_
            refine s_v (o_bi rfl rfl rfl trivial) ?_
            refine s_v (o_bi rfl rfl rfl trivial) ?_
            refine s_v (o_flp fd27_1 rfl rfl) ?_
            refine s_v (o_ldp (.sl none 4 (List.map c_Snap p0.Snaps)) ld22 rfl (hp_get 0 hk58 rfl) rfl) ?_
            refine s_v (o_mv (.sc (.int _ _)) rfl) ?_
            obtain ⟨x72, hx73, hm⟩ := bind_of hm
            refine s_v (o_ix hx73 el22 rfl rfl) ?_
            refine s_v (o_fl fd60_2 rfl rfl) ?_
            refine s_v (o_ld (.sl none 4 (List.map c_Loc x72.Locs)) ld58 rfl rfl) ?_
            refine s_v (o_lenm ln58 rfl) ?_
            refine s_v (o_bi rfl rfl rfl trivial) ?_
            refine s_v (o_bi rfl rfl rfl trivial) ?_
            refine s_v (o_as (.sc (.int _ _)) rfl) ?_
            refine s_nil ?_
            refine H62 _ _ ?_
            clear H62 K62
            refine AW_reg ?_
            refine s_v (o_mv (.sc (.int _ _)) rfl) ?_
            refine s_v (o_bi rfl rfl rfl trivial) ?_
            refine s_v (o_as (.sc (.int _ _)) rfl) ?_
            refine s_nil ?_
            cases hm
            exact ⟨rfl, (), hk58, LeF.fm (Sub.refl _) (.cons (ALe.refl _ _) (.cons (ALe.refl _ _) (.cons (ALe.refl _ _) (.nil))))⟩
        · replace hm := ite_f hm hc61
          refine AW_exit ?_
          refine Seq_exit ?_
          cases hm
          exact ⟨rfl, (), hk58, LeF.fm (Sub.refl _) (.cons (ALe.refl _ _) (.cons (ALe.refl _ _) (.cons (ALe.refl _ _) (.nil))))⟩
      · rintro _ ⟨r74, r75⟩ fr' h' hk76 hm le
        refine H22 _ _ (le.aw ?_)
        clear le H22 K22
        refine AW_k fun K77 H77 => ?_
        refine AW_k fun K78 H78 => ?_
        refine AW_reg ?_
        refine s_v (o_as (.sc (.int _ _)) rfl) ?_
        refine s_nil ?_
        refine H78 _ _ ?_
        clear H78 K78
        refine AW_loopG (n := 120) hm (σ := Int × Int) (τ := Unit) (fun g s => HOk h [(some k2, .obj 27 (c_Catalog p0))]) (fun g s => kp (kp (kp (k0) 7 (.sc (.int .i64 s.2))) 3 (.sc (.int .i64 s.1))) 1 (.ptr k2 0)) (fun g s => hp h [(some k2, .obj 27 (c_Catalog p0))]) () hk76 (LeF.fm (Sub.refl _) (.cons (ALe.refl _ _) (.cons (ALe.refl _ _) (.cons (ALe.refl _ _) (.nil))))) ?_ ?_
        · rintro _ ⟨q97, q98⟩ x hk99 hm
          replace hm : M7_L2 fuel p0 q97 q98 = some x := hm
          unfold M7_L2 at hm
          refine AW_k fun K100 H100 => ?_
          refine AW_k fun K101 H101 => ?_
          refine AW_reg ?_
          refine s_v (o_mv (.sc (.int _ _)) rfl) ?_
          refine s_v (o_flp fd27_2 rfl rfl) ?_
          refine s_v (o_ldp (.sl none 35 (List.map c_Chunk p0.Chunks)) ld23 rfl (hp_get 0 hk99 rfl) rfl) ?_
          refine s_v (o_lenm ln23 rfl) ?_
          refine s_v (o_bi rfl rfl rfl trivial) ?_
          refine s_nil ?_
          refine H101 _ _ ?_
          clear H101 K101
          refine AW_if' rfl (fun hc102 => ?_) (fun hc102 => ?_)
          · replace hm := ite_t hm hc102
            refine AW_skip ?_
            refine H100 _ _ ?_
            clear H100 K100
            refine AW_k fun K103 H103 => ?_
            refine AW_block ?_
            refine AW_region_q [(some 64, [3], []), (some 65, [64], [0]), (some 66, [65], [1]), (some 67, [1], []), (some 68, [67], [3]), (some 69, [7], []), (some 70, [68, 69], [4, 5]), (some 71, [70], [6]), (some 72, [71], [7]), (some 73, [72], [8]), (some 74, [66, 73], [2, 9]), (some 75, [74], [10]), (some 76, [1], []), (some 77, [76], [12]), (some 78, [7], []), (some 79, [77, 78], [13, 14]), (some 80, [79], [15]), (some 81, [80], [16]), (some 82, [81], [17]), (some 83, [82], [18]), (some 84, [75, 83], [11, 19]), (some 3, [84], [20, 0, 1, 2, 3, 4, 5, 6, 7, 8, 9, 10, 11, 12, 13, 14, 15, 16, 17, 18, 19, 20])] mixed (by kernel_rfl) (by kernel_rfl) ?_
            refine q_v (o_mv (.sc (.int _ _)) rfl) ?_
            refine q_v (o_bi rfl rfl rfl trivial) ?_
            refine q_v (o_bi rfl rfl rfl trivial) ?_
            refine q_v (o_flp fd27_2 rfl rfl) ?_
            refine q_v (o_ldp (.sl none 35 (List.map c_Chunk p0.Chunks)) ld23 rfl (hp_get 0 hk99 rfl) rfl) ?_
            refine q_v (o_mv (.sc (.int _ _)) rfl) ?_
            obtain ⟨x104, hx105, hm⟩ := bind_of hm
            refine q_v (o_ix hx105 el23 rfl rfl) ?_
            refine q_v (o_fl fd63_2 rfl rfl) ?_
            refine q_v (o_ld (.sl none 1 (List.map c_u8 x104.Data)) ld52 rfl rfl) ?_
            refine q_v (o_lenm ln52 rfl) ?_
            refine q_v (o_bi rfl rfl rfl trivial) ?_
            refine q_v (o_bi rfl rfl rfl trivial) ?_
            refine q_v (o_flp fd27_2 rfl rfl) ?_
            refine q_v (o_ldp (.sl none 35 (List.map c_Chunk p0.Chunks)) ld23 rfl (hp_get 0 hk99 rfl) rfl) ?_
            refine q_v (o_mv (.sc (.int _ _)) rfl) ?_
            obtain ⟨x106, hx107, hm⟩ := bind_of hm
            refine q_v (o_ix hx107 el23 rfl rfl) ?_
            refine q_v (o_fl fd63_3 rfl rfl) ?_
            refine q_v (o_ld (.sl none 4 (List.map c_Loc x106.Locs)) ld58 rfl rfl) ?_
            refine q_v (o_lenm ln58 rfl) ?_
            refine q_v (o_bi rfl rfl rfl trivial) ?_
            refine q_v (o_bi rfl rfl rfl trivial) ?_
            refine q_v (o_as (.sc (.int _ _)) rfl) ?_
            refine q_nil ?_
            refine H103 _ _ ?_
            clear H103 K103
            refine AW_reg ?_
            refine s_v (o_mv (.sc (.int _ _)) rfl) ?_
            refine s_v (o_bi rfl rfl rfl trivial) ?_
            refine s_v (o_as (.sc (.int _ _)) rfl) ?_
            refine s_nil ?_
            cases hm
            exact ⟨rfl, (), hk99, LeF.fm (Sub.refl _) (.cons (ALe.refl _ _) (.cons (ALe.refl _ _) (.cons (ALe.refl _ _) (.nil))))⟩
          · replace hm := ite_f hm hc102
            refine AW_exit ?_
            refine Seq_exit ?_
            cases hm
            exact ⟨rfl, (), hk99, LeF.fm (Sub.refl _) (.cons (ALe.refl _ _) (.cons (ALe.refl _ _) (.cons (ALe.refl _ _) (.nil))))⟩
        · rintro _ ⟨r108, r109⟩ fr' h' hk110 hm le
          refine H77 _ _ (le.aw ?_)
          clear le H77 K77
          refine AW_k fun K111 H111 => ?_
          refine AW_k fun K112 H112 => ?_
          refine AW_reg ?_
          refine s_v (o_as (.sc (.int _ _)) rfl) ?_
          refine s_nil ?_
          refine H112 _ _ ?_
          clear H112 K112
          refine AW_loopG (n := 120) hm (σ := Int × Int) (τ := Unit) (fun g s => HOk h [(some k2, .obj 27 (c_Catalog p0))]) (fun g s => kp (kp (kp (k0) 8 (.sc (.int .i64 s.2))) 3 (.sc (.int .i64 s.1))) 1 (.ptr k2 0)) (fun g s => hp h [(some k2, .obj 27 (c_Catalog p0))]) () hk110 (LeF.fm (Sub.refl _) (.cons (ALe.refl _ _) (.cons (ALe.refl _ _) (.cons (ALe.refl _ _) (.nil))))) ?_ ?_
          · rintro _ ⟨q127, q128⟩ x hk129 hm
            replace hm : M7_L4 fuel p0 q127 q128 = some x := hm
            unfold M7_L4 at hm
            refine AW_k fun K130 H130 => ?_
            refine AW_k fun K131 H131 => ?_
            refine AW_reg ?_
            refine s_v (o_mv (.sc (.int _ _)) rfl) ?_
            refine s_v (o_flp fd27_3 rfl rfl) ?_
            refine s_v (o_ldp (.sl none 3 (List.map c_Exp p0.Exps)) ld24 rfl (hp_get 0 hk129 rfl) rfl) ?_
            refine s_v (o_lenm ln24 rfl) ?_
            refine s_v (o_bi rfl rfl rfl trivial) ?_
            refine s_nil ?_
            refine H131 _ _ ?_
            clear H131 K131
            refine AW_if' rfl (fun hc132 => ?_) (fun hc132 => ?_)
            · replace hm := ite_t hm hc132
              refine AW_skip ?_
              refine H130 _ _ ?_
              clear H130 K130
              refine AW_k fun K133 H133 => ?_
              refine AW_block ?_
              refine AW_reg ?_
              refine s_v (o_mv (.sc (.int _ _)) rfl) ?_
              refine s_v (o_bi rfl rfl rfl trivial) ?_
              refine s_v (o_bi rfl rfl rfl trivial) ?_
              refine s_v (o_flp fd27_3 rfl rfl) ?_
              refine s_v (o_ldp (.sl none 3 (List.map c_Exp p0.Exps)) ld24 rfl (hp_get 0 hk129 rfl) rfl) ?_
              refine s_v (o_mv (.sc (.int _ _)) rfl) ?_
              obtain ⟨x134, hx135, hm⟩ := bind_of hm
              refine s_v (o_ix hx135 el24 rfl rfl) ?_
              refine s_v (o_fl fd65_2 rfl rfl) ?_
              refine s_v (o_ld (.sl none 4 (List.map c_Loc x134.Locs)) ld58 rfl rfl) ?_
              refine s_v (o_lenm ln58 rfl) ?_
              refine s_v (o_bi rfl rfl rfl trivial) ?_
              refine s_v (o_bi rfl rfl rfl trivial) ?_
              refine s_v (o_as (.sc (.int _ _)) rfl) ?_
              refine s_nil ?_
              refine H133 _ _ ?_
              clear H133 K133
              refine AW_reg ?_
              refine s_v (o_mv (.sc (.int _ _)) rfl) ?_
              refine s_v (o_bi rfl rfl rfl trivial) ?_
              refine s_v (o_as (.sc (.int _ _)) rfl) ?_
              refine s_nil ?_
              cases hm
              exact ⟨rfl, (), hk129, LeF.fm (Sub.refl _) (.cons (ALe.refl _ _) (.cons (ALe.refl _ _) (.cons (ALe.refl _ _) (.nil))))⟩
            · replace hm := ite_f hm hc132
              refine AW_exit ?_
              refine Seq_exit ?_
              cases hm
              exact ⟨rfl, (), hk129, LeF.fm (Sub.refl _) (.cons (ALe.refl _ _) (.cons (ALe.refl _ _) (.cons (ALe.refl _ _) (.nil))))⟩
          · rintro _ ⟨r136, r137⟩ fr' h' hk138 hm le
            refine H111 _ _ (le.aw ?_)
            clear le H111 K111
            refine AW_k fun K139 H139 => ?_
            refine AW_reg ?_
            refine s_v (o_ldp (.agg (c_Catalog p0)) ld27 rfl (hp_get 0 hk138 rfl) rfl) ?_
            obtain ⟨y140, hy141, hm⟩ := bind_of hm
            refine s_v (o_call (W35 _ hy141) rfl bd35 rfl) ?_
            refine s_v (o_mv (.tup _) rfl) ?_
            refine s_v (o_ex (.sl _ _ _) rfl rfl) ?_
            refine s_v (o_ex (.sc (.int _ _)) rfl rfl) ?_
            refine s_v (o_as (.sl _ _ _) rfl) ?_
            refine s_v (o_as (.sc (.int _ _)) rfl) ?_
            refine s_nil ?_
            refine H139 _ _ ?_
            clear H139 K139
            refine AW_k fun K142 H142 => ?_
            refine AW_joinG (n := 120) hm (σ := Bool) (τ := Unit) (fun g s => HOk h [(some k2, .obj 27 (c_Catalog p0))]) (fun g s => kp (k0) 2 (.sc (.bool s))) (fun g s => hp h [(some k2, .obj 27 (c_Catalog p0))]) (fun x hm => ?_) ?_
            · refine AW_reg ?_
              refine s_v (o_mv (.sc (.int _ _)) rfl) ?_
              refine s_v (o_bi rfl rfl rfl trivial) ?_
              refine s_v (o_mv (.sc (.bool _)) rfl) ?_
              rcases Bool.eq_false_or_eq_true (y140.2 == 0) with hb148 | hb148
              · replace hm := ite_t hm hb148
                refine sg_y rfl rfl hb148 ?_
                refine s_v (o_mv (.sl _ _ _) rfl) ?_
                refine sg_y rfl rfl hb148 ?_
                refine s_v (o_lenm ln52 rfl) ?_
                refine sg_y rfl rfl hb148 ?_
                refine s_v (o_mv (.sc (.int _ _)) rfl) ?_
                refine sg_y rfl rfl hb148 ?_
                refine s_v (o_bi rfl rfl rfl trivial) ?_
                refine s_v (o_pkt (.sc (.bool _)) rfl hb148 rfl) ?_
                refine s_v (o_mv (.sc (.bool _)) rfl) ?_
                rcases Bool.eq_false_or_eq_true ((y140.1.length : Int) == r136) with hb149 | hb149
                · replace hm := ite_t hm hb149
                  refine sg_y rfl rfl hb149 ?_
                  obtain ⟨y150, hy151, hm⟩ := bind_of hm
                  refine s_v (o_call (W31 _ hy151) rfl bd31 rfl) ?_
                  refine s_v (o_pkt (.sc (.bool _)) rfl hb149 rfl) ?_
                  refine s_v (o_as (.sc (.bool _)) rfl) ?_
                  refine s_nil ?_
                  cases hm
                  exact ⟨rfl, (), hk138, LeF.fm (Sub.refl _) (.cons (ALe.refl _ _) (.nil))⟩
                · replace hm := ite_f hm hb149
                  refine sg_n rfl rfl hb149 ?_
                  refine s_v (o_pkf (.sc (.bool _)) rfl hb149 rfl) ?_
                  refine s_v (o_as (.sc (.bool _)) rfl) ?_
                  refine s_nil ?_
                  cases hm
                  exact ⟨rfl, (), hk138, LeF.fm (Sub.refl _) (.cons (ALe.refl _ _) (.nil))⟩
              · replace hm := ite_f hm hb148
                refine sg_n rfl rfl hb148 ?_
                refine sg_n rfl rfl hb148 ?_
                refine sg_n rfl rfl hb148 ?_
                refine sg_n rfl rfl hb148 ?_
                refine s_v (o_pkf (.sc (.bool _)) rfl hb148 rfl) ?_
                refine s_v (o_mv (.sc (.bool _)) rfl) ?_
                refine sg_n rfl rfl rfl ?_
                refine s_v (o_pkf (.sc (.bool _)) rfl rfl rfl) ?_
                refine s_v (o_as (.sc (.bool _)) rfl) ?_
                refine s_nil ?_
                cases hm
                exact ⟨rfl, (), hk138, LeF.fm (Sub.refl _) (.cons (ALe.refl _ _) (.nil))⟩
            · rintro _ j147 fr' h' hk152 hm le
              refine H142 _ _ (le.aw ?_)
              clear le H142 K142
              refine AW_ret ?_
              cases hm
              exact Ret.of1 (.inl rfl) (rsT _ _ (.sc (.bool _)) rfl) (hp_sub (List.nil_sublist _) hk152).1 (ALe.refl _ _) ⟨rfl, rfl⟩
end Go.Proofs.Ytoomgangpjcaoaa
