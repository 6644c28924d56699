import Derived.Test.YtoomgangpjcaoaaK7Types
set_option linter.unusedSimpArgs false
set_option linter.unusedVariables false
namespace Go.Proofs.Ytoomgangpjcaoaa
open Go.Vm
def M59 (fuel : Nat) (p0 : Int) (p1 : Int) (p2 : Int) : Option (Bool) :=
  after (if (decide (p1 ≤ p0)) = true then (some (.brk (decide (p0 ≤ p2)))) else some (.brk false) : Option (Lp (Bool) (Bool))) fun j4 => some j4
set_option maxRecDepth 100000 in
/-- cellarer/cellarerref18.in -/
theorem W59 {fuel : Nat} {p0 : Int} {p1 : Int} {p2 : Int} {o : Bool} (h : Heap) (hm : M59 fuel p0 p1 p2 = some o) :
    ACalls Try.prog 59 [.sc (.int .i64 p0), .sc (.int .i64 p1), .sc (.int .i64 p2)] h (fun r h' => r = .sc (.bool o) ∧ h' = h) := by
  refine ACalls_hp 15 [.tmp 6] Try.func59 rfl rfl rfl rfl ?_
  unfold M59 at hm
  refine AW_k fun K1 H1 => ?_
  refine AW_reg ?_
  refine s_v (o_as (.sc (.bool _)) rfl) ?_
  refine s_nil ?_
  refine H1 _ _ ?_
  clear H1 K1
  refine AW_k fun K2 H2 => ?_
  refine AW_joinG (n := 15) hm (σ := Bool) (τ := Unit) (fun g s => HOk h []) (fun g s => kp (k0) 6 (.sc (.bool s))) (fun g s => hp h []) (fun x hm => ?_) ?_
  · refine AW_reg ?_
    refine s_v (o_mv (.sc (.int _ _)) rfl) ?_
    refine s_v (o_mv (.sc (.int _ _)) rfl) ?_
    refine s_v (o_bi rfl rfl rfl trivial) ?_
    refine s_v (o_mv (.sc (.bool _)) rfl) ?_
    rcases Bool.eq_false_or_eq_true (decide (p1 ≤ p0)) with hb5 | hb5
    · replace hm := ite_t hm hb5
      refine sg_y rfl rfl hb5 ?_
      refine s_v (o_mv (.sc (.int _ _)) rfl) ?_
      refine sg_y rfl rfl hb5 ?_
      refine s_v (o_mv (.sc (.int _ _)) rfl) ?_
      refine sg_y rfl rfl hb5 ?_
      refine s_v (o_bi rfl rfl rfl trivial) ?_
      refine s_v (o_pkt (.sc (.bool _)) rfl hb5 rfl) ?_
      refine s_v (o_as (.sc (.bool _)) rfl) ?_
      refine s_nil ?_
      cases hm
      exact ⟨rfl, (), HOk.nil _, LeF.fm (Sub.refl _) (.cons (ALe.refl _ _) (.nil))⟩
    · replace hm := ite_f hm hb5
      refine sg_n rfl rfl hb5 ?_
      refine sg_n rfl rfl hb5 ?_
      refine sg_n rfl rfl hb5 ?_
      refine s_v (o_pkf (.sc (.bool _)) rfl hb5 rfl) ?_
      refine s_v (o_as (.sc (.bool _)) rfl) ?_
      refine s_nil ?_
      cases hm
      exact ⟨rfl, (), HOk.nil _, LeF.fm (Sub.refl _) (.cons (ALe.refl _ _) (.nil))⟩
  · rintro _ j4 fr' h' hk6 hm le
    refine H2 _ _ (le.aw ?_)
    clear le H2 K2
    refine AW_ret ?_
    cases hm
    exact Ret.of1 (.inl rfl) (rsT _ _ (.sc (.bool _)) rfl) (Sub.refl _) (ALe.refl _ _) ⟨rfl, rfl⟩
theorem bd59 : bodied Try.prog 59 = true := by kernel_rfl
def M60_L0 (fuel : Nat) (p0 : Id32) (p1 : Id32) (q41 : Int) : Option (Lp (Int) (Bool)) :=
  if (decide (q41 < 32)) = true then ((ix p0.1 q41).bind fun x48 => (ix p1.1 q41).bind fun x50 => if (x48 != x50) = true then ((ix p0.1 q41).bind fun x54 => (ix p1.1 q41).bind fun x56 => some (.ret (decide (x54 < x56)))) else some (.go (IntKind.wrap .i64 (q41 + 1)))) else some (.brk q41)
def M60 (fuel : Nat) (p0 : Id32) (p1 : Id32) : Option (Bool) :=
  after (loopM (fun s => M60_L0 fuel p0 p1 s) fuel 0) fun r58 => some false
set_option maxRecDepth 100000 in
/-- cellarer/cellarerref18.before -/
theorem W60 {fuel : Nat} {p0 : Id32} {p1 : Id32} {o : Bool} (h : Heap) (hm : M60 fuel p0 p1 = some o) :
    ACalls Try.prog 60 [.agg (c_id p0), .agg (c_id p1)] h (fun r h' => r = .sc (.bool o) ∧ h' = h) := by
  refine ACalls_hp 24 [.tmp 4] Try.func60 rfl rfl rfl rfl ?_
  unfold M60 at hm
  refine AW_k fun K1 H1 => ?_
  refine AW_reg ?_
  refine s_op (a_box (HOk.nil _) rfl rfl fun k2 hk3 => ?_)
  refine s_op (a_box hk3 rfl rfl fun k5 hk6 => ?_)
  refine s_v (o_as (.sc (.bool _)) rfl) ?_
  refine s_nil ?_
  refine H1 _ _ ?_
  clear H1 K1
  refine AW_k fun K8 H8 => ?_
  refine AW_k fun K9 H9 => ?_
  refine AW_reg ?_
  refine s_v (o_as (.sc (.int _ _)) rfl) ?_
  refine s_nil ?_
  refine H9 _ _ ?_
  clear H9 K9
  refine AW_loopG (n := 24) hm (σ := Int) (τ := Unit) (fun g s => HOk h [(some k5, .obj 61 (c_id p1)), (some k2, .obj 61 (c_id p0))]) (fun g s => kp (kp (kp (k0) 5 (.sc (.int .i64 s))) 3 (.ptr k5 0)) 2 (.ptr k2 0)) (fun g s => hp h [(some k5, .obj 61 (c_id p1)), (some k2, .obj 61 (c_id p0))]) () hk6 (LeF.fm (Sub.refl _) (.cons (ALe.refl _ _) (.cons (ALe.refl _ _) (.cons (ALe.refl _ _) (.nil))))) ?_ ?_
  · rintro _ q41 x hk42 hm
    replace hm : M60_L0 fuel p0 p1 q41 = some x := hm
    unfold M60_L0 at hm
    refine AW_k fun K43 H43 => ?_
    refine AW_k fun K44 H44 => ?_
    refine AW_reg ?_
    refine s_v (o_mv (.sc (.int _ _)) rfl) ?_
    refine s_v (o_bi rfl rfl rfl trivial) ?_
    refine s_nil ?_
    refine H44 _ _ ?_
    clear H44 K44
    refine AW_if' rfl (fun hc45 => ?_) (fun hc45 => ?_)
    · replace hm := ite_t hm hc45
      refine AW_skip ?_
      refine H43 _ _ ?_
      clear H43 K43
      refine AW_k fun K46 H46 => ?_
      refine AW_block ?_
      refine AW_k fun K47 H47 => ?_
      refine AW_region_q [(some 10, [5], []), (some 11, [2, 10], [0]), (some 12, [11], [1]), (some 13, [5], []), (some 14, [3, 13], [3]), (some 15, [14], [4]), (some 16, [12, 15], [2, 5])] mixed (by kernel_rfl) (by kernel_rfl) ?_
      refine q_v (o_mv (.sc (.int _ _)) rfl) ?_
      obtain ⟨x48, hx49, hm⟩ := bind_of hm
      refine q_v (o_ixidp hx49 ar61 rfl rfl) ?_
      refine q_v (o_ldidp 0 hx49 ld5 rfl (hp_get 1 hk42 rfl) rfl) ?_
      refine q_v (o_mv (.sc (.int _ _)) rfl) ?_
      obtain ⟨x50, hx51, hm⟩ := bind_of hm
      refine q_v (o_ixidp hx51 ar61 rfl rfl) ?_
      refine q_v (o_ldidp 0 hx51 ld5 rfl (hp_get 0 hk42 rfl) rfl) ?_
      refine q_v (o_bi rfl rfl rfl trivial) ?_
      refine q_nil ?_
      refine H47 _ _ ?_
      clear H47 K47
      refine AW_if' rfl (fun hc52 => ?_) (fun hc52 => ?_)
      · replace hm := ite_t hm hc52
        refine AW_k fun K53 H53 => ?_
        refine AW_region_q [(some 17, [5], []), (some 18, [2, 17], [0]), (some 19, [18], [1]), (some 20, [5], []), (some 21, [3, 20], [3]), (some 22, [21], [4]), (some 23, [19, 22], [2, 5]), (some 4, [23], [6, 0, 1, 2, 3, 4, 5, 6])] mixed (by kernel_rfl) (by kernel_rfl) ?_
        refine q_v (o_mv (.sc (.int _ _)) rfl) ?_
        obtain ⟨x54, hx55, hm⟩ := bind_of hm
        refine q_v (o_ixidp hx55 ar61 rfl rfl) ?_
        refine q_v (o_ldidp 0 hx55 ld5 rfl (hp_get 1 hk42 rfl) rfl) ?_
        refine q_v (o_mv (.sc (.int _ _)) rfl) ?_
        obtain ⟨x56, hx57, hm⟩ := bind_of hm
        refine q_v (o_ixidp hx57 ar61 rfl rfl) ?_
        refine q_v (o_ldidp 0 hx57 ld5 rfl (hp_get 0 hk42 rfl) rfl) ?_
        refine q_v (o_bi rfl rfl rfl trivial) ?_
        refine q_v (o_as (.sc (.bool _)) rfl) ?_
        refine q_nil ?_
        refine H53 _ _ ?_
        clear H53 K53
        refine AW_ret ?_
        cases hm
        refine ⟨⟨nofun, nofun⟩, fun he => ?_⟩
        subst he
        exact Ret.of1 (.inl rfl) (rsT _ _ (.sc (.bool _)) rfl) (hp_sub (List.nil_sublist _) hk42).1 (ALe.refl _ _) ⟨rfl, rfl⟩
      · replace hm := ite_f hm hc52
        refine AW_skip ?_
        refine H46 _ _ ?_
        clear H46 K46
        refine AW_reg ?_
        refine s_v (o_mv (.sc (.int _ _)) rfl) ?_
        refine s_v (o_bi rfl rfl rfl trivial) ?_
        refine s_v (o_as (.sc (.int _ _)) rfl) ?_
        refine s_nil ?_
        cases hm
        exact ⟨rfl, (), hk42, LeF.fm (Sub.refl _) (.cons (ALe.refl _ _) (.cons (ALe.refl _ _) (.cons (ALe.refl _ _) (.nil))))⟩
    · replace hm := ite_f hm hc45
      refine AW_exit ?_
      refine Seq_exit ?_
      cases hm
      exact ⟨rfl, (), hk42, LeF.fm (Sub.refl _) (.cons (ALe.refl _ _) (.cons (ALe.refl _ _) (.cons (ALe.refl _ _) (.nil))))⟩
  · rintro _ r58 fr' h' hk59 hm le
    refine H8 _ _ (le.aw ?_)
    clear le H8 K8
    refine AW_k fun K60 H60 => ?_
    refine AW_reg ?_
    refine s_v (o_as (.sc (.bool _)) rfl) ?_
    refine s_nil ?_
    refine H60 _ _ ?_
    clear H60 K60
    refine AW_ret ?_
    cases hm
    exact Ret.of1 (.inl rfl) (rsT _ _ (.sc (.bool _)) rfl) (hp_sub (List.nil_sublist _) hk59).1 (ALe.refl _ _) ⟨rfl, rfl⟩
theorem bd60 : bodied Try.prog 60 = true := by kernel_rfl
def M61_L0 (fuel : Nat) (p0 : TCatalog) (p1 : List TLoc) (q194 : Int) : Option (Lp (Int) (Bool)) :=
  if (decide (q194 < (p1.length : Int))) = true then ((ix p1 q194).bind fun x201 => after (if (decide (x201.Vol < 0)) = true then (some (.brk true)) else if (decide ((p0.Vols.length : Int) ≤ x201.Vol)) = true then (some (.brk true)) else (ix p0.Vols x201.Vol).bind fun x227 => if (x227.State != 2) = true then (some (.brk true)) else (ix p0.Vols x201.Vol).bind fun x230 => (M59 fuel x201.File 1 x230.Files).bind fun y232 => if (!y232) = true then (some (.brk true)) else (M59 fuel x201.Off 0 16777215).bind fun y235 => if (!y235) = true then (some (.brk true)) else (M59 fuel x201.Len 13 8013).bind fun y238 => some (.brk (!y238)) : Option (Lp (Bool) (Lp (Int) (Bool)))) fun j224 => if j224 = true then (some (.ret false)) else after (if (decide (0 < q194)) = true then ((ix p1 (IntKind.wrap .i64 (q194 - 1))).bind fun x267 => after (if (decide (x267.Vol < x201.Vol)) = true then (some (.brk (!true))) else if (x267.Vol == x201.Vol) = true then (if (decide (x267.File < x201.File)) = true then (some (.brk (!true))) else if (x267.File == x201.File) = true then (some (.brk (!(decide (x267.Off < x201.Off))))) else some (.brk (!false))) else some (.brk (!false)) : Option (Lp (Bool) (Lp (Unit) (Lp (Int) (Bool))))) fun j278 => if j278 = true then (some (.ret (.ret false))) else some (.brk ())) else some (.brk ()) : Option (Lp (Unit) (Lp (Int) (Bool)))) fun _ => some (.go (IntKind.wrap .i64 (q194 + 1)))) else some (.brk q194)
def M61 (fuel : Nat) (p0 : TCatalog) (p1 : List TLoc) : Option (Bool) :=
  if (decide (200 < (p1.length : Int))) = true then (some false) else after (loopM (fun s => M61_L0 fuel p0 p1 s) fuel 0) fun r287 => some true
set_option maxRecDepth 100000 in
/-- cellarer/cellarerref18.Locs -/
theorem W61 {fuel : Nat} {p0 : TCatalog} {p1 : List TLoc} {o : Bool} (h : Heap) (hm : M61 fuel p0 p1 = some o) :
    ACalls Try.prog 61 [.agg (c_Catalog p0), .sl none 4 (List.map c_Loc p1)] h (fun r h' => r = .sc (.bool o) ∧ h' = h) := by
  refine ACalls_hp 108 [.tmp 4] Try.func61 rfl rfl rfl rfl ?_
  unfold M61 at hm
  refine AW_k fun K1 H1 => ?_
  refine AW_reg ?_
  refine s_op (a_box (HOk.nil _) rfl rfl fun k2 hk3 => ?_)
  refine s_v (o_as (.sc (.bool _)) rfl) ?_
  refine s_nil ?_
  refine H1 _ _ ?_
  clear H1 K1
  refine AW_k fun K5 H5 => ?_
  refine AW_k fun K6 H6 => ?_
  refine AW_reg ?_
  refine s_v (o_mv (.sl _ _ _) rfl) ?_
  refine s_v (o_lenm ln58 rfl) ?_
  refine s_v (o_bi rfl rfl rfl trivial) ?_
  refine s_nil ?_
  refine H6 _ _ ?_
  clear H6 K6
  refine AW_if' rfl (fun hc7 => ?_) (fun hc7 => ?_)
  · replace hm := ite_t hm hc7
    refine AW_k fun K8 H8 => ?_
    refine AW_reg ?_
    refine s_v (o_as (.sc (.bool _)) rfl) ?_
    refine s_nil ?_
    refine H8 _ _ ?_
    clear H8 K8
    refine AW_ret ?_
    cases hm
    exact Ret.of1 (.inl rfl) (rsT _ _ (.sc (.bool _)) rfl) (hp_sub (List.nil_sublist _) hk3).1 (ALe.refl _ _) ⟨rfl, rfl⟩
  · replace hm := ite_f hm hc7
    refine AW_skip ?_
    refine H5 _ _ ?_
    clear H5 K5
    refine AW_k fun K9 H9 => ?_
    refine AW_k fun K10 H10 => ?_
    refine AW_reg ?_
    refine s_v (o_as (.sc (.int _ _)) rfl) ?_
    refine s_nil ?_
    refine H10 _ _ ?_
    clear H10 K10
    refine AW_loopG (n := 108) hm (σ := Int) (τ := Unit) (fun g s => HOk h [(some k2, .obj 27 (c_Catalog p0))]) (fun g s => kp (kp (kp (k0) 5 (.sc (.int .i64 s))) 2 (.ptr k2 0)) 1 (.sl none 4 (List.map c_Loc p1))) (fun g s => hp h [(some k2, .obj 27 (c_Catalog p0))]) () hk3 (LeF.fm (Sub.refl _) (.cons (ALe.refl _ _) (.cons (ALe.refl _ _) (.cons (ALe.refl _ _) (.nil))))) ?_ ?_
    · rintro _ q194 x hk195 hm
      replace hm : M61_L0 fuel p0 p1 q194 = some x := hm
      unfold M61_L0 at hm
      refine AW_k fun K196 H196 => ?_
      refine AW_k fun K197 H197 => ?_
      refine AW_reg ?_
      refine s_v (o_mv (.sc (.int _ _)) rfl) ?_
      refine s_v (o_mv (.sl _ _ _) rfl) ?_
      refine s_v (o_lenm ln58 rfl) ?_
      refine s_v (o_bi rfl rfl rfl trivial) ?_
      refine s_nil ?_
      refine H197 _ _ ?_
      clear H197 K197
      refine AW_if' rfl (fun hc198 => ?_) (fun hc198 => ?_)
      · replace hm := ite_t hm hc198
        refine AW_skip ?_
        refine H196 _ _ ?_
        clear H196 K196
        refine AW_k fun K199 H199 => ?_
        refine AW_block ?_
        refine AW_k fun K200 H200 => ?_
        refine AW_reg ?_
        refine s_v (o_mv (.sl _ _ _) rfl) ?_
        refine s_v (o_mv (.sc (.int _ _)) rfl) ?_
        obtain ⟨x201, hx202, hm⟩ := bind_of hm
        refine s_v (o_ix hx202 el58 rfl rfl) ?_
        refine s_v (o_ld (.agg (c_Loc x201)) ld77 rfl rfl) ?_
        refine s_op (a_alloc ([.sc (.int .i64 0), .sc (.int .i64 0), .sc (.int .i64 0), .sc (.int .i64 0)]) hk195 zr77 rfl rfl fun k203 hk204 => ?_)
        refine s_op (a_store 0 (c_Loc x201) hk204 rfl rfl rfl rfl sz77 rfl rfl fun hk206 => ?_)
        refine s_nil ?_
        refine H200 _ _ ?_
        clear H200 K200
        refine AW_k fun K207 H207 => ?_
        refine AW_k fun K208 H208 => ?_
        refine AW_joinG (n := 108) hm (σ := Bool) (τ := Unit) (fun g s => HOk h [(some k203, .obj 77 (c_Loc x201)), (some k2, .obj 27 (c_Catalog p0))]) (fun g s => kp (kp (kp (kp (kp (k0) 66 (.sc (.bool s))) 6 (.ptr k203 0)) 5 (.sc (.int .i64 q194))) 2 (.ptr k2 0)) 1 (.sl none 4 (List.map c_Loc p1))) (fun g s => hp h [(some k203, .obj 77 (c_Loc x201)), (some k2, .obj 27 (c_Catalog p0))]) (fun x hm => ?_) ?_
        · refine AW_region_q [(some 21, [6], []), (some 22, [21], [0]), (some 23, [22], [1]), (some 24, [23], [2]), (some 25, [6, 24], [3]), (some 26, [25, 24], [4, 3]), (some 27, [2, 24], [3]), (some 28, [27, 24], [6, 3]), (some 29, [28, 24], [7, 3]), (some 30, [26, 29, 24], [5, 8, 3]), (some 31, [24, 30], [3, 9]), (some 32, [31], [10, 3]), (some 33, [2, 32], [11]), (some 34, [33, 32], [12, 11]), (some 35, [6, 32], [11]), (some 36, [35, 32], [14, 11]), (some 37, [34, 36, 32], [13, 15, 11]), (some 38, [37, 32], [16, 11]), (some 39, [38, 32], [17, 11]), (some 40, [39, 32], [18, 11]), (some 41, [32, 40], [11, 19]), (some 42, [41], [20, 11]), (some 43, [6, 42], [21]), (some 44, [43, 42], [22, 21]), (some 45, [2, 42], [21]), (some 46, [45, 42], [24, 21]), (some 47, [6, 42], [21]), (some 48, [47, 42], [26, 21]), (some 49, [46, 48, 42], [25, 27, 21]), (some 50, [49, 42], [28, 21]), (some 51, [50, 42], [29, 21]), (some 52, [44, 51, 42], [23, 30, 21, 21]), (some 53, [52, 42], [31, 21]), (some 54, [42, 53], [21, 32]), (some 55, [54], [33, 31]), (some 56, [6, 55], [34]), (some 57, [56, 55], [35, 34]), (some 58, [57, 55], [36, 34, 34]), (some 59, [58, 55], [37, 34]), (some 60, [55, 59], [34, 38]), (some 61, [60], [39, 37]), (some 62, [6, 61], [40]), (some 63, [62, 61], [41, 40]), (some 64, [63, 61], [42, 40, 40]), (some 65, [64, 61], [43, 40]), (some 66, [61, 65], [40, 44])] mixed (by kernel_rfl) (by kernel_rfl) ?_
          refine q_v (o_flp fd77_0 rfl rfl) ?_
          refine q_v (o_ldp (.sc (.int .i64 x201.Vol)) ld3 rfl (hp_get 0 hk206 rfl) rfl) ?_
          refine q_v (o_bi rfl rfl rfl trivial) ?_
          refine q_v (o_mv (.sc (.bool _)) rfl) ?_
          rcases Bool.eq_false_or_eq_true (decide (x201.Vol < 0)) with hb225 | hb225
          · replace hm := ite_t hm hb225
            refine qg_n rfl rfl hb225 ?_
            refine qg_n rfl rfl hb225 ?_
            refine qg_n rfl rfl hb225 ?_
            refine qg_n rfl rfl hb225 ?_
            refine qg_n rfl rfl hb225 ?_
            refine qg_n rfl rfl hb225 ?_
            refine q_v (o_pkt (.sc (.bool _)) rfl hb225 rfl) ?_
            refine q_v (o_mv (.sc (.bool _)) rfl) ?_
            refine qg_n rfl rfl rfl ?_
            refine qg_n rfl rfl rfl ?_
            refine qg_n rfl rfl rfl ?_
            refine qg_n rfl rfl rfl ?_
            refine qg_n rfl rfl rfl ?_
            refine qg_n rfl rfl rfl ?_
            refine qg_n rfl rfl rfl ?_
            refine qg_n rfl rfl rfl ?_
            refine q_v (o_pkt (.sc (.bool _)) rfl rfl rfl) ?_
            refine q_v (o_mv (.sc (.bool _)) rfl) ?_
            refine qg_n rfl rfl rfl ?_
            refine qg_n rfl rfl rfl ?_
            refine qg_n rfl rfl rfl ?_
            refine qg_n rfl rfl rfl ?_
            refine qg_n rfl rfl rfl ?_
            refine qg_n rfl rfl rfl ?_
            refine qg_n rfl rfl rfl ?_
            refine qg_n rfl rfl rfl ?_
            refine qg_n rfl rfl rfl ?_
            refine qg_n rfl rfl rfl ?_
            refine qg_n rfl rfl rfl ?_
            refine q_v (o_pkt (.sc (.bool _)) rfl rfl rfl) ?_
            refine q_v (o_mv (.sc (.bool _)) rfl) ?_
            refine qg_n rfl rfl rfl ?_
            refine qg_n rfl rfl rfl ?_
            refine qg_n rfl rfl rfl ?_
            refine qg_n rfl rfl rfl ?_
            refine q_v (o_pkt (.sc (.bool _)) rfl rfl rfl) ?_
            refine q_v (o_mv (.sc (.bool _)) rfl) ?_
            refine qg_n rfl rfl rfl ?_
            refine qg_n rfl rfl rfl ?_
            refine qg_n rfl rfl rfl ?_
            refine qg_n rfl rfl rfl ?_
            refine q_v (o_pkt (.sc (.bool _)) rfl rfl rfl) ?_
            refine q_nil ?_
            cases hm
            exact ⟨rfl, (), hk206, LeF.fm (Sub.refl _) (.cons (ALe.refl _ _) (.cons (ALe.refl _ _) (.cons (ALe.refl _ _) (.cons (ALe.refl _ _) (.cons (ALe.refl _ _) (.nil))))))⟩
          · replace hm := ite_f hm hb225
            refine qg_y rfl rfl hb225 ?_
            refine q_v (o_flp fd77_0 rfl rfl) ?_
            refine qg_y rfl rfl hb225 ?_
            refine q_v (o_ldp (.sc (.int .i64 x201.Vol)) ld3 rfl (hp_get 0 hk206 rfl) rfl) ?_
            refine qg_y rfl rfl hb225 ?_
            refine q_v (o_flp fd27_4 rfl rfl) ?_
            refine qg_y rfl rfl hb225 ?_
            refine q_v (o_ldp (.sl none 4 (List.map c_Vol p0.Vols)) ld25 rfl (hp_get 1 hk206 rfl) rfl) ?_
            refine qg_y rfl rfl hb225 ?_
            refine q_v (o_lenm ln25 rfl) ?_
            refine qg_y rfl rfl hb225 ?_
            refine q_v (o_bi rfl rfl rfl trivial) ?_
            refine q_v (o_pkf (.sc (.bool _)) rfl hb225 rfl) ?_
            refine q_v (o_mv (.sc (.bool _)) rfl) ?_
            rcases Bool.eq_false_or_eq_true (decide ((p0.Vols.length : Int) ≤ x201.Vol)) with hb226 | hb226
            · replace hm := ite_t hm hb226
              refine qg_n rfl rfl hb226 ?_
              refine qg_n rfl rfl hb226 ?_
              refine qg_n rfl rfl hb226 ?_
              refine qg_n rfl rfl hb226 ?_
              refine qg_n rfl rfl hb226 ?_
              refine qg_n rfl rfl hb226 ?_
              refine qg_n rfl rfl hb226 ?_
              refine qg_n rfl rfl hb226 ?_
              refine q_v (o_pkt (.sc (.bool _)) rfl hb226 rfl) ?_
              refine q_v (o_mv (.sc (.bool _)) rfl) ?_
              refine qg_n rfl rfl rfl ?_
              refine qg_n rfl rfl rfl ?_
              refine qg_n rfl rfl rfl ?_
              refine qg_n rfl rfl rfl ?_
              refine qg_n rfl rfl rfl ?_
              refine qg_n rfl rfl rfl ?_
              refine qg_n rfl rfl rfl ?_
              refine qg_n rfl rfl rfl ?_
              refine qg_n rfl rfl rfl ?_
              refine qg_n rfl rfl rfl ?_
              refine qg_n rfl rfl rfl ?_
              refine q_v (o_pkt (.sc (.bool _)) rfl rfl rfl) ?_
              refine q_v (o_mv (.sc (.bool _)) rfl) ?_
              refine qg_n rfl rfl rfl ?_
              refine qg_n rfl rfl rfl ?_
              refine qg_n rfl rfl rfl ?_
              refine qg_n rfl rfl rfl ?_
              refine q_v (o_pkt (.sc (.bool _)) rfl rfl rfl) ?_
              refine q_v (o_mv (.sc (.bool _)) rfl) ?_
              refine qg_n rfl rfl rfl ?_
              refine qg_n rfl rfl rfl ?_
              refine qg_n rfl rfl rfl ?_
              refine qg_n rfl rfl rfl ?_
              refine q_v (o_pkt (.sc (.bool _)) rfl rfl rfl) ?_
              refine q_nil ?_
              cases hm
              exact ⟨rfl, (), hk206, LeF.fm (Sub.refl _) (.cons (ALe.refl _ _) (.cons (ALe.refl _ _) (.cons (ALe.refl _ _) (.cons (ALe.refl _ _) (.cons (ALe.refl _ _) (.nil))))))⟩
            · replace hm := ite_f hm hb226
              refine qg_y rfl rfl hb226 ?_
              refine q_v (o_flp fd27_4 rfl rfl) ?_
              refine qg_y rfl rfl hb226 ?_
              refine q_v (o_ldp (.sl none 4 (List.map c_Vol p0.Vols)) ld25 rfl (hp_get 1 hk206 rfl) rfl) ?_
              refine qg_y rfl rfl hb226 ?_
              refine q_v (o_flp fd77_0 rfl rfl) ?_
              refine qg_y rfl rfl hb226 ?_
              refine q_v (o_ldp (.sc (.int .i64 x201.Vol)) ld3 rfl (hp_get 0 hk206 rfl) rfl) ?_
              refine qg_y rfl rfl hb226 ?_
              obtain ⟨x227, hx228, hm⟩ := bind_of hm
              refine q_v (o_ix hx228 el25 rfl rfl) ?_
              refine qg_y rfl rfl hb226 ?_
              refine q_v (o_fl fd40_2 rfl rfl) ?_
              refine qg_y rfl rfl hb226 ?_
              refine q_v (o_ld (.sc (.int .i64 x227.State)) ld3 rfl rfl) ?_
              refine qg_y rfl rfl hb226 ?_
              refine q_v (o_bi rfl rfl rfl trivial) ?_
              refine q_v (o_pkf (.sc (.bool _)) rfl hb226 rfl) ?_
              refine q_v (o_mv (.sc (.bool _)) rfl) ?_
              rcases Bool.eq_false_or_eq_true (x227.State != 2) with hb229 | hb229
              · replace hm := ite_t hm hb229
                refine qg_n rfl rfl hb229 ?_
                refine qg_n rfl rfl hb229 ?_
                refine qg_n rfl rfl hb229 ?_
                refine qg_n rfl rfl hb229 ?_
                refine qg_n rfl rfl hb229 ?_
                refine qg_n rfl rfl hb229 ?_
                refine qg_n rfl rfl hb229 ?_
                refine qg_n rfl rfl hb229 ?_
                refine qg_n rfl rfl hb229 ?_
                refine qg_n rfl rfl hb229 ?_
                refine qg_n rfl rfl hb229 ?_
                refine q_v (o_pkt (.sc (.bool _)) rfl hb229 rfl) ?_
                refine q_v (o_mv (.sc (.bool _)) rfl) ?_
                refine qg_n rfl rfl rfl ?_
                refine qg_n rfl rfl rfl ?_
                refine qg_n rfl rfl rfl ?_
                refine qg_n rfl rfl rfl ?_
                refine q_v (o_pkt (.sc (.bool _)) rfl rfl rfl) ?_
                refine q_v (o_mv (.sc (.bool _)) rfl) ?_
                refine qg_n rfl rfl rfl ?_
                refine qg_n rfl rfl rfl ?_
                refine qg_n rfl rfl rfl ?_
                refine qg_n rfl rfl rfl ?_
                refine q_v (o_pkt (.sc (.bool _)) rfl rfl rfl) ?_
                refine q_nil ?_
                cases hm
                exact ⟨rfl, (), hk206, LeF.fm (Sub.refl _) (.cons (ALe.refl _ _) (.cons (ALe.refl _ _) (.cons (ALe.refl _ _) (.cons (ALe.refl _ _) (.cons (ALe.refl _ _) (.nil))))))⟩
              · replace hm := ite_f hm hb229
                refine qg_y rfl rfl hb229 ?_
                refine q_v (o_flp fd77_1 rfl rfl) ?_
                refine qg_y rfl rfl hb229 ?_
                refine q_v (o_ldp (.sc (.int .i64 x201.File)) ld3 rfl (hp_get 0 hk206 rfl) rfl) ?_
                refine qg_y rfl rfl hb229 ?_
                refine q_v (o_flp fd27_4 rfl rfl) ?_
                refine qg_y rfl rfl hb229 ?_
                refine q_v (o_ldp (.sl none 4 (List.map c_Vol p0.Vols)) ld25 rfl (hp_get 1 hk206 rfl) rfl) ?_
                refine qg_y rfl rfl hb229 ?_
                refine q_v (o_flp fd77_0 rfl rfl) ?_
                refine qg_y rfl rfl hb229 ?_
                refine q_v (o_ldp (.sc (.int .i64 x201.Vol)) ld3 rfl (hp_get 0 hk206 rfl) rfl) ?_
                refine qg_y rfl rfl hb229 ?_
                obtain ⟨x230, hx231, hm⟩ := bind_of hm
                refine q_v (o_ix hx231 el25 rfl rfl) ?_
                refine qg_y rfl rfl hb229 ?_
                refine q_v (o_fl fd40_3 rfl rfl) ?_
                refine qg_y rfl rfl hb229 ?_
                refine q_v (o_ld (.sc (.int .i64 x230.Files)) ld3 rfl rfl) ?_
                refine qg_y rfl rfl hb229 ?_
                obtain ⟨y232, hy233, hm⟩ := bind_of hm
                refine q_v (o_call (W59 _ hy233) rfl bd59 rfl) ?_
                refine qg_y rfl rfl hb229 ?_
                refine q_v (o_not rfl) ?_
                refine q_v (o_pkf (.sc (.bool _)) rfl hb229 rfl) ?_
                refine q_v (o_mv (.sc (.bool _)) rfl) ?_
                rcases Bool.eq_false_or_eq_true (!y232) with hb234 | hb234
                · replace hm := ite_t hm hb234
                  refine qg_n rfl rfl hb234 ?_
                  refine qg_n rfl rfl hb234 ?_
                  refine qg_n rfl rfl hb234 ?_
                  refine qg_n rfl rfl hb234 ?_
                  refine q_v (o_pkt (.sc (.bool _)) rfl hb234 rfl) ?_
                  refine q_v (o_mv (.sc (.bool _)) rfl) ?_
                  refine qg_n rfl rfl rfl ?_
                  refine qg_n rfl rfl rfl ?_
                  refine qg_n rfl rfl rfl ?_
                  refine qg_n rfl rfl rfl ?_
                  refine q_v (o_pkt (.sc (.bool _)) rfl rfl rfl) ?_
                  refine q_nil ?_
                  cases hm
                  exact ⟨rfl, (), hk206, LeF.fm (Sub.refl _) (.cons (ALe.refl _ _) (.cons (ALe.refl _ _) (.cons (ALe.refl _ _) (.cons (ALe.refl _ _) (.cons (ALe.refl _ _) (.nil))))))⟩
                · replace hm := ite_f hm hb234
                  refine qg_y rfl rfl hb234 ?_
                  refine q_v (o_flp fd77_2 rfl rfl) ?_
                  refine qg_y rfl rfl hb234 ?_
                  refine q_v (o_ldp (.sc (.int .i64 x201.Off)) ld3 rfl (hp_get 0 hk206 rfl) rfl) ?_
                  refine qg_y rfl rfl hb234 ?_
                  obtain ⟨y235, hy236, hm⟩ := bind_of hm
                  refine q_v (o_call (W59 _ hy236) rfl bd59 rfl) ?_
                  refine qg_y rfl rfl hb234 ?_
                  refine q_v (o_not rfl) ?_
                  refine q_v (o_pkf (.sc (.bool _)) rfl hb234 rfl) ?_
                  refine q_v (o_mv (.sc (.bool _)) rfl) ?_
                  rcases Bool.eq_false_or_eq_true (!y235) with hb237 | hb237
                  · replace hm := ite_t hm hb237
                    refine qg_n rfl rfl hb237 ?_
                    refine qg_n rfl rfl hb237 ?_
                    refine qg_n rfl rfl hb237 ?_
                    refine qg_n rfl rfl hb237 ?_
                    refine q_v (o_pkt (.sc (.bool _)) rfl hb237 rfl) ?_
                    refine q_nil ?_
                    cases hm
                    exact ⟨rfl, (), hk206, LeF.fm (Sub.refl _) (.cons (ALe.refl _ _) (.cons (ALe.refl _ _) (.cons (ALe.refl _ _) (.cons (ALe.refl _ _) (.cons (ALe.refl _ _) (.nil))))))⟩
                  · replace hm := ite_f hm hb237
                    refine qg_y rfl rfl hb237 ?_
                    refine q_v (o_flp fd77_3 rfl rfl) ?_
                    refine qg_y rfl rfl hb237 ?_
                    refine q_v (o_ldp (.sc (.int .i64 x201.Len)) ld3 rfl (hp_get 0 hk206 rfl) rfl) ?_
                    refine qg_y rfl rfl hb237 ?_
                    obtain ⟨y238, hy239, hm⟩ := bind_of hm
                    refine q_v (o_call (W59 _ hy239) rfl bd59 rfl) ?_
                    refine qg_y rfl rfl hb237 ?_
                    refine q_v (o_not rfl) ?_
                    refine q_v (o_pkf (.sc (.bool _)) rfl hb237 rfl) ?_
                    refine q_nil ?_
                    cases hm
                    exact ⟨rfl, (), hk206, LeF.fm (Sub.refl _) (.cons (ALe.refl _ _) (.cons (ALe.refl _ _) (.cons (ALe.refl _ _) (.cons (ALe.refl _ _) (.cons (ALe.refl _ _) (.nil))))))⟩
        · rintro _ j224 fr' h' hk240 hm le
          refine H208 _ _ (le.aw ?_)
          clear le H208 K208
          refine AW_if' rfl (fun hc241 => ?_) (fun hc241 => ?_)
          · replace hm := ite_t hm hc241
            refine AW_k fun K242 H242 => ?_
            refine AW_reg ?_
            refine s_v (o_as (.sc (.bool _)) rfl) ?_
            refine s_nil ?_
            refine H242 _ _ ?_
            clear H242 K242
            refine AW_ret ?_
            cases hm
            refine ⟨⟨nofun, nofun⟩, fun he => ?_⟩
            subst he
            exact Ret.of1 (.inl rfl) (rsT _ _ (.sc (.bool _)) rfl) (hp_sub (List.nil_sublist _) hk240).1 (ALe.refl _ _) ⟨rfl, rfl⟩
          · replace hm := ite_f hm hc241
            refine AW_skip ?_
            refine H207 _ _ ?_
            clear H207 K207
            refine AW_k fun K243 H243 => ?_
            refine AW_reg ?_
            refine s_v (o_mv (.sc (.int _ _)) rfl) ?_
            refine s_v (o_bi rfl rfl rfl trivial) ?_
            refine s_nil ?_
            refine H243 _ _ ?_
            clear H243 K243
            refine AW_joinG (n := 108) hm (σ := Unit) (τ := Unit) (fun g s => HOk h [(some k203, .obj 77 (c_Loc x201)), (some k2, .obj 27 (c_Catalog p0))]) (fun g s => kp (kp (kp (k0) 5 (.sc (.int .i64 q194))) 2 (.ptr k2 0)) 1 (.sl none 4 (List.map c_Loc p1))) (fun g s => hp h [(some k203, .obj 77 (c_Loc x201)), (some k2, .obj 27 (c_Catalog p0))]) (fun x hm => ?_) ?_
            · refine AW_if' rfl (fun hc265 => ?_) (fun hc265 => ?_)
              · replace hm := ite_t hm hc265
                refine AW_k fun K266 H266 => ?_
                refine AW_reg ?_
                refine s_v (o_mv (.sl _ _ _) rfl) ?_
                refine s_v (o_mv (.sc (.int _ _)) rfl) ?_
                refine s_v (o_bi rfl rfl rfl trivial) ?_
                obtain ⟨x267, hx268, hm⟩ := bind_of hm
                refine s_v (o_ix hx268 el58 rfl rfl) ?_
                refine s_v (o_ld (.agg (c_Loc x267)) ld77 rfl rfl) ?_
                refine s_op (a_alloc ([.sc (.int .i64 0), .sc (.int .i64 0), .sc (.int .i64 0), .sc (.int .i64 0)]) hk240 zr77 rfl rfl fun k269 hk270 => ?_)
                refine s_op (a_store 0 (c_Loc x267) hk270 rfl rfl rfl rfl sz77 rfl rfl fun hk272 => ?_)
                refine s_nil ?_
                refine H266 _ _ ?_
                clear H266 K266
                refine AW_k fun K273 H273 => ?_
                refine AW_joinG (n := 108) hm (σ := Bool) (τ := Unit) (fun g s => HOk h [(some k269, .obj 77 (c_Loc x267)), (some k203, .obj 77 (c_Loc x201)), (some k2, .obj 27 (c_Catalog p0))]) (fun g s => kp (kp (kp (kp (k0) 107 (.sc (.bool s))) 5 (.sc (.int .i64 q194))) 2 (.ptr k2 0)) 1 (.sl none 4 (List.map c_Loc p1))) (fun g s => hp h [(some k269, .obj 77 (c_Loc x267)), (some k203, .obj 77 (c_Loc x201)), (some k2, .obj 27 (c_Catalog p0))]) (fun x hm => ?_) ?_
                · refine AW_reg ?_
                  refine s_v (o_flp fd77_0 rfl rfl) ?_
                  refine s_v (o_ldp (.sc (.int .i64 x267.Vol)) ld3 rfl (hp_get 0 hk272 rfl) rfl) ?_
                  refine s_v (o_flp fd77_0 rfl rfl) ?_
                  refine s_v (o_ldp (.sc (.int .i64 x201.Vol)) ld3 rfl (hp_get 1 hk272 rfl) rfl) ?_
                  refine s_v (o_bi rfl rfl rfl trivial) ?_
                  refine s_v (o_mv (.sc (.bool _)) rfl) ?_
                  rcases Bool.eq_false_or_eq_true (decide (x267.Vol < x201.Vol)) with hb279 | hb279
                  · replace hm := ite_t hm hb279
                    refine sg_n rfl rfl hb279 ?_
                    refine sg_n rfl rfl hb279 ?_
                    refine sg_n rfl rfl hb279 ?_
                    refine sg_n rfl rfl hb279 ?_
                    refine sg_n rfl rfl hb279 ?_
                    refine sg_n rfl rfl hb279 ?_
                    refine sg_u rfl rfl ?_
                    refine sg_u rfl rfl ?_
                    refine sg_u rfl rfl ?_
                    refine sg_u rfl rfl ?_
                    refine sg_u rfl rfl ?_
                    refine sg_u rfl rfl ?_
                    refine sg_u rfl rfl ?_
                    refine sg_u rfl rfl ?_
                    refine sg_u rfl rfl ?_
                    refine sg_u rfl rfl ?_
                    refine sg_u rfl rfl ?_
                    refine sg_u rfl rfl ?_
                    refine sg_u rfl rfl ?_
                    refine sg_u rfl rfl ?_
                    refine sg_u rfl rfl ?_
                    refine sg_u rfl rfl ?_
                    refine sg_u rfl rfl ?_
                    refine sg_u rfl rfl ?_
                    refine sg_u rfl rfl ?_
                    refine sg_n rfl rfl hb279 ?_
                    refine s_v (o_pkt (.sc (.bool _)) rfl hb279 rfl) ?_
                    refine s_v (o_not rfl) ?_
                    refine s_nil ?_
                    cases hm
                    exact ⟨rfl, (), hk272, LeF.fm (Sub.refl _) (.cons (ALe.refl _ _) (.cons (ALe.refl _ _) (.cons (ALe.refl _ _) (.cons (ALe.refl _ _) (.nil)))))⟩
                  · replace hm := ite_f hm hb279
                    refine sg_y rfl rfl hb279 ?_
                    refine s_v (o_flp fd77_0 rfl rfl) ?_
                    refine sg_y rfl rfl hb279 ?_
                    refine s_v (o_ldp (.sc (.int .i64 x267.Vol)) ld3 rfl (hp_get 0 hk272 rfl) rfl) ?_
                    refine sg_y rfl rfl hb279 ?_
                    refine s_v (o_flp fd77_0 rfl rfl) ?_
                    refine sg_y rfl rfl hb279 ?_
                    refine s_v (o_ldp (.sc (.int .i64 x201.Vol)) ld3 rfl (hp_get 1 hk272 rfl) rfl) ?_
                    refine sg_y rfl rfl hb279 ?_
                    refine s_v (o_bi rfl rfl rfl trivial) ?_
                    refine sg_y rfl rfl hb279 ?_
                    refine s_v (o_mv (.sc (.bool _)) rfl) ?_
                    rcases Bool.eq_false_or_eq_true (x267.Vol == x201.Vol) with hb280 | hb280
                    · replace hm := ite_t hm hb280
                      refine sg_y rfl rfl hb280 ?_
                      refine s_v (o_flp fd77_1 rfl rfl) ?_
                      refine sg_y rfl rfl hb280 ?_
                      refine s_v (o_ldp (.sc (.int .i64 x267.File)) ld3 rfl (hp_get 0 hk272 rfl) rfl) ?_
                      refine sg_y rfl rfl hb280 ?_
                      refine s_v (o_flp fd77_1 rfl rfl) ?_
                      refine sg_y rfl rfl hb280 ?_
                      refine s_v (o_ldp (.sc (.int .i64 x201.File)) ld3 rfl (hp_get 1 hk272 rfl) rfl) ?_
                      refine sg_y rfl rfl hb280 ?_
                      refine s_v (o_bi rfl rfl rfl trivial) ?_
                      refine sg_y rfl rfl hb280 ?_
                      refine s_v (o_mv (.sc (.bool _)) rfl) ?_
                      rcases Bool.eq_false_or_eq_true (decide (x267.File < x201.File)) with hb281 | hb281
                      · replace hm := ite_t hm hb281
                        refine sg_n rfl rfl hb281 ?_
                        refine sg_n rfl rfl hb281 ?_
                        refine sg_n rfl rfl hb281 ?_
                        refine sg_n rfl rfl hb281 ?_
                        refine sg_n rfl rfl hb281 ?_
                        refine sg_n rfl rfl hb281 ?_
                        refine sg_u rfl rfl ?_
                        refine sg_u rfl rfl ?_
                        refine sg_u rfl rfl ?_
                        refine sg_u rfl rfl ?_
                        refine sg_u rfl rfl ?_
                        refine sg_n rfl rfl hb281 ?_
                        refine sg_y rfl rfl hb280 ?_
                        refine s_v (o_pkt (.sc (.bool _)) rfl hb281 rfl) ?_
                        refine sg_y rfl rfl hb279 ?_
                        refine s_v (o_pkt (.sc (.bool _)) rfl hb280 rfl) ?_
                        refine s_v (o_pkf (.sc (.bool _)) rfl hb279 rfl) ?_
                        refine s_v (o_not rfl) ?_
                        refine s_nil ?_
                        cases hm
                        exact ⟨rfl, (), hk272, LeF.fm (Sub.refl _) (.cons (ALe.refl _ _) (.cons (ALe.refl _ _) (.cons (ALe.refl _ _) (.cons (ALe.refl _ _) (.nil)))))⟩
                      · replace hm := ite_f hm hb281
                        refine sg_y rfl rfl hb281 ?_
                        refine s_v (o_flp fd77_1 rfl rfl) ?_
                        refine sg_y rfl rfl hb281 ?_
                        refine s_v (o_ldp (.sc (.int .i64 x267.File)) ld3 rfl (hp_get 0 hk272 rfl) rfl) ?_
                        refine sg_y rfl rfl hb281 ?_
                        refine s_v (o_flp fd77_1 rfl rfl) ?_
                        refine sg_y rfl rfl hb281 ?_
                        refine s_v (o_ldp (.sc (.int .i64 x201.File)) ld3 rfl (hp_get 1 hk272 rfl) rfl) ?_
                        refine sg_y rfl rfl hb281 ?_
                        refine s_v (o_bi rfl rfl rfl trivial) ?_
                        refine sg_y rfl rfl hb281 ?_
                        refine s_v (o_mv (.sc (.bool _)) rfl) ?_
                        rcases Bool.eq_false_or_eq_true (x267.File == x201.File) with hb282 | hb282
                        · replace hm := ite_t hm hb282
                          refine sg_y rfl rfl hb282 ?_
                          refine s_v (o_flp fd77_2 rfl rfl) ?_
                          refine sg_y rfl rfl hb282 ?_
                          refine s_v (o_ldp (.sc (.int .i64 x267.Off)) ld3 rfl (hp_get 0 hk272 rfl) rfl) ?_
                          refine sg_y rfl rfl hb282 ?_
                          refine s_v (o_flp fd77_2 rfl rfl) ?_
                          refine sg_y rfl rfl hb282 ?_
                          refine s_v (o_ldp (.sc (.int .i64 x201.Off)) ld3 rfl (hp_get 1 hk272 rfl) rfl) ?_
                          refine sg_y rfl rfl hb282 ?_
                          refine s_v (o_bi rfl rfl rfl trivial) ?_
                          refine sg_y rfl rfl hb281 ?_
                          refine s_v (o_pkt (.sc (.bool _)) rfl hb282 rfl) ?_
                          refine sg_y rfl rfl hb280 ?_
                          refine s_v (o_pkf (.sc (.bool _)) rfl hb281 rfl) ?_
                          refine sg_y rfl rfl hb279 ?_
                          refine s_v (o_pkt (.sc (.bool _)) rfl hb280 rfl) ?_
                          refine s_v (o_pkf (.sc (.bool _)) rfl hb279 rfl) ?_
                          refine s_v (o_not rfl) ?_
                          refine s_nil ?_
                          cases hm
                          exact ⟨rfl, (), hk272, LeF.fm (Sub.refl _) (.cons (ALe.refl _ _) (.cons (ALe.refl _ _) (.cons (ALe.refl _ _) (.cons (ALe.refl _ _) (.nil)))))⟩
                        · replace hm := ite_f hm hb282
                          refine sg_n rfl rfl hb282 ?_
                          refine sg_n rfl rfl hb282 ?_
                          refine sg_n rfl rfl hb282 ?_
                          refine sg_n rfl rfl hb282 ?_
                          refine sg_n rfl rfl hb282 ?_
                          refine sg_y rfl rfl hb281 ?_
                          refine s_v (o_pkf (.sc (.bool _)) rfl hb282 rfl) ?_
                          refine sg_y rfl rfl hb280 ?_
                          refine s_v (o_pkf (.sc (.bool _)) rfl hb281 rfl) ?_
                          refine sg_y rfl rfl hb279 ?_
                          refine s_v (o_pkt (.sc (.bool _)) rfl hb280 rfl) ?_
                          refine s_v (o_pkf (.sc (.bool _)) rfl hb279 rfl) ?_
                          refine s_v (o_not rfl) ?_
                          refine s_nil ?_
                          cases hm
                          exact ⟨rfl, (), hk272, LeF.fm (Sub.refl _) (.cons (ALe.refl _ _) (.cons (ALe.refl _ _) (.cons (ALe.refl _ _) (.cons (ALe.refl _ _) (.nil)))))⟩
                    · replace hm := ite_f hm hb280
                      refine sg_n rfl rfl hb280 ?_
                      refine sg_n rfl rfl hb280 ?_
                      refine sg_n rfl rfl hb280 ?_
                      refine sg_n rfl rfl hb280 ?_
                      refine sg_n rfl rfl hb280 ?_
                      refine sg_n rfl rfl hb280 ?_
                      refine sg_u rfl rfl ?_
                      refine sg_u rfl rfl ?_
                      refine sg_u rfl rfl ?_
                      refine sg_u rfl rfl ?_
                      refine sg_u rfl rfl ?_
                      refine sg_u rfl rfl ?_
                      refine sg_u rfl rfl ?_
                      refine sg_u rfl rfl ?_
                      refine sg_u rfl rfl ?_
                      refine sg_u rfl rfl ?_
                      refine sg_u rfl rfl ?_
                      refine sg_u rfl rfl ?_
                      refine sg_n rfl rfl hb280 ?_
                      refine sg_y rfl rfl hb279 ?_
                      refine s_v (o_pkf (.sc (.bool _)) rfl hb280 rfl) ?_
                      refine s_v (o_pkf (.sc (.bool _)) rfl hb279 rfl) ?_
                      refine s_v (o_not rfl) ?_
                      refine s_nil ?_
                      cases hm
                      exact ⟨rfl, (), hk272, LeF.fm (Sub.refl _) (.cons (ALe.refl _ _) (.cons (ALe.refl _ _) (.cons (ALe.refl _ _) (.cons (ALe.refl _ _) (.nil)))))⟩
                · rintro _ j278 fr' h' hk283 hm le
                  refine H273 _ _ (le.aw ?_)
                  clear le H273 K273
                  refine AW_if' rfl (fun hc284 => ?_) (fun hc284 => ?_)
                  · replace hm := ite_t hm hc284
                    refine AW_k fun K285 H285 => ?_
                    refine AW_reg ?_
                    refine s_v (o_as (.sc (.bool _)) rfl) ?_
                    refine s_nil ?_
                    refine H285 _ _ ?_
                    clear H285 K285
                    refine AW_ret ?_
                    cases hm
                    refine ⟨nofun, fun he => ?_⟩
                    subst he
                    refine ⟨⟨nofun, nofun⟩, fun he => ?_⟩
                    subst he
                    exact Ret.of1 (.inl rfl) (rsT _ _ (.sc (.bool _)) rfl) (hp_sub (List.nil_sublist _) hk283).1 (ALe.refl _ _) ⟨rfl, rfl⟩
                  · replace hm := ite_f hm hc284
                    refine AW_skip ?_
                    cases hm
                    exact ⟨rfl, (), (hp_sub (.cons _ (.refl _)) hk283).2, LeF.fm ((hp_sub (.cons _ (.refl _)) hk283).1) (.cons (ALe.refl _ _) (.cons (ALe.refl _ _) (.cons (ALe.refl _ _) (.nil))))⟩
              · replace hm := ite_f hm hc265
                refine AW_skip ?_
                cases hm
                exact ⟨rfl, (), hk240, LeF.fm (Sub.refl _) (.cons (ALe.refl _ _) (.cons (ALe.refl _ _) (.cons (ALe.refl _ _) (.nil))))⟩
            · rintro _ _ fr' h' hk286 hm le
              refine H199 _ _ (le.aw ?_)
              clear le H199 K199
              refine AW_reg ?_
              refine s_v (o_mv (.sc (.int _ _)) rfl) ?_
              refine s_v (o_bi rfl rfl rfl trivial) ?_
              refine s_v (o_as (.sc (.int _ _)) rfl) ?_
              refine s_nil ?_
              cases hm
              exact ⟨rfl, (), (hp_sub (.cons _ (.refl _)) hk286).2, LeF.fm ((hp_sub (.cons _ (.refl _)) hk286).1) (.cons (ALe.refl _ _) (.cons (ALe.refl _ _) (.cons (ALe.refl _ _) (.nil))))⟩
      · replace hm := ite_f hm hc198
        refine AW_exit ?_
        refine Seq_exit ?_
        cases hm
        exact ⟨rfl, (), hk195, LeF.fm (Sub.refl _) (.cons (ALe.refl _ _) (.cons (ALe.refl _ _) (.cons (ALe.refl _ _) (.nil))))⟩
    · rintro _ r287 fr' h' hk288 hm le
      refine H9 _ _ (le.aw ?_)
      clear le H9 K9
      refine AW_k fun K289 H289 => ?_
      refine AW_reg ?_
      refine s_v (o_as (.sc (.bool _)) rfl) ?_
      refine s_nil ?_
      refine H289 _ _ ?_
      clear H289 K289
      refine AW_ret ?_
      cases hm
      exact Ret.of1 (.inl rfl) (rsT _ _ (.sc (.bool _)) rfl) (hp_sub (List.nil_sublist _) hk288).1 (ALe.refl _ _) ⟨rfl, rfl⟩
theorem bd61 : bodied Try.prog 61 = true := by kernel_rfl
def M104_L0 (fuel : Nat) (p0 : ByteArray) (q43 : Int) : Option (Lp (Int) (Bool)) :=
  if (decide (q43 < (p0.size : Int))) = true then (after ((six p0 q43).bind fun x56 => if (decide (x56 < 33)) = true then (some (.brk true)) else (six p0 q43).bind fun x59 => some (.brk (decide (126 < x59))) : Option (Lp (Bool) (Lp (Int) (Bool)))) fun j55 => if j55 = true then (some (.ret false)) else some (.go (IntKind.wrap .i64 (q43 + 1)))) else some (.brk q43)
def M104 (fuel : Nat) (p0 : ByteArray) : Option (Bool) :=
  after (loopM (fun s => M104_L0 fuel p0 s) fuel 0) fun r64 => after (if (decide (1 ≤ (p0.size : Int))) = true then (some (.brk (decide ((p0.size : Int) ≤ 20)))) else some (.brk false) : Option (Lp (Bool) (Bool))) fun j68 => some j68
set_option maxRecDepth 100000 in
/-- cellarer/cellarerref01.Name -/
theorem W104 {fuel : Nat} {p0 : ByteArray} {o : Bool} (h : Heap) (hm : M104 fuel p0 = some o) :
    ACalls Try.prog 104 [.sc (.string p0)] h (fun r h' => r = .sc (.bool o) ∧ h' = h) := by
  refine ACalls_hp 28 [.tmp 2] Try.func104 rfl rfl rfl rfl ?_
  unfold M104 at hm
  refine AW_k fun K1 H1 => ?_
  refine AW_reg ?_
  refine s_v (o_as (.sc (.bool _)) rfl) ?_
  refine s_nil ?_
  refine H1 _ _ ?_
  clear H1 K1
  refine AW_k fun K2 H2 => ?_
  refine AW_k fun K3 H3 => ?_
  refine AW_reg ?_
  refine s_v (o_as (.sc (.int _ _)) rfl) ?_
  refine s_nil ?_
  refine H3 _ _ ?_
  clear H3 K3
  refine AW_loopG (n := 28) hm (σ := Int) (τ := Unit) (fun g s => HOk h []) (fun g s => kp (kp (k0) 3 (.sc (.int .i64 s))) 0 (.sc (.string p0))) (fun g s => hp h []) () (HOk.nil _) (LeF.fm (Sub.refl _) (.cons (ALe.refl _ _) (.cons (ALe.refl _ _) (.nil)))) ?_ ?_
  · rintro _ q43 x hk44 hm
    replace hm : M104_L0 fuel p0 q43 = some x := hm
    unfold M104_L0 at hm
    refine AW_k fun K45 H45 => ?_
    refine AW_k fun K46 H46 => ?_
    refine AW_reg ?_
    refine s_v (o_mv (.sc (.int _ _)) rfl) ?_
    refine s_v (o_mv (.sc (.string _)) rfl) ?_
    refine s_v (o_lent ln9 rfl) ?_
    refine s_v (o_bi rfl rfl rfl trivial) ?_
    refine s_nil ?_
    refine H46 _ _ ?_
    clear H46 K46
    refine AW_if' rfl (fun hc47 => ?_) (fun hc47 => ?_)
    · replace hm := ite_t hm hc47
      refine AW_skip ?_
      refine H45 _ _ ?_
      clear H45 K45
      refine AW_k fun K48 H48 => ?_
      refine AW_block ?_
      refine AW_k fun K49 H49 => ?_
      refine AW_joinG (n := 28) hm (σ := Bool) (τ := Unit) (fun g s => HOk h []) (fun g s => kp (kp (kp (k0) 19 (.sc (.bool s))) 3 (.sc (.int .i64 q43))) 0 (.sc (.string p0))) (fun g s => hp h []) (fun x hm => ?_) ?_
      · refine AW_reg ?_
        refine s_v (o_mv (.sc (.string _)) rfl) ?_
        refine s_v (o_mv (.sc (.int _ _)) rfl) ?_
        obtain ⟨x56, hx57, hm⟩ := bind_of hm
        refine s_v (o_six hx57 u9 rfl rfl) ?_
        refine s_v (o_bi rfl rfl rfl trivial) ?_
        refine s_v (o_mv (.sc (.bool _)) rfl) ?_
        rcases Bool.eq_false_or_eq_true (decide (x56 < 33)) with hb58 | hb58
        · replace hm := ite_t hm hb58
          refine sg_n rfl rfl hb58 ?_
          refine sg_n rfl rfl hb58 ?_
          refine sg_n rfl rfl hb58 ?_
          refine sg_n rfl rfl hb58 ?_
          refine s_v (o_pkt (.sc (.bool _)) rfl hb58 rfl) ?_
          refine s_nil ?_
          cases hm
          exact ⟨rfl, (), hk44, LeF.fm (Sub.refl _) (.cons (ALe.refl _ _) (.cons (ALe.refl _ _) (.cons (ALe.refl _ _) (.nil))))⟩
        · replace hm := ite_f hm hb58
          refine sg_y rfl rfl hb58 ?_
          refine s_v (o_mv (.sc (.string _)) rfl) ?_
          refine sg_y rfl rfl hb58 ?_
          refine s_v (o_mv (.sc (.int _ _)) rfl) ?_
          refine sg_y rfl rfl hb58 ?_
          obtain ⟨x59, hx60, hm⟩ := bind_of hm
          refine s_v (o_six hx60 u9 rfl rfl) ?_
          refine sg_y rfl rfl hb58 ?_
          refine s_v (o_bi rfl rfl rfl trivial) ?_
          refine s_v (o_pkf (.sc (.bool _)) rfl hb58 rfl) ?_
          refine s_nil ?_
          cases hm
          exact ⟨rfl, (), hk44, LeF.fm (Sub.refl _) (.cons (ALe.refl _ _) (.cons (ALe.refl _ _) (.cons (ALe.refl _ _) (.nil))))⟩
      · rintro _ j55 fr' h' hk61 hm le
        refine H49 _ _ (le.aw ?_)
        clear le H49 K49
        refine AW_if' rfl (fun hc62 => ?_) (fun hc62 => ?_)
        · replace hm := ite_t hm hc62
          refine AW_k fun K63 H63 => ?_
          refine AW_reg ?_
          refine s_v (o_as (.sc (.bool _)) rfl) ?_
          refine s_nil ?_
          refine H63 _ _ ?_
          clear H63 K63
          refine AW_ret ?_
          cases hm
          refine ⟨⟨nofun, nofun⟩, fun he => ?_⟩
          subst he
          exact Ret.of1 (.inl rfl) (rsT _ _ (.sc (.bool _)) rfl) (Sub.refl _) (ALe.refl _ _) ⟨rfl, rfl⟩
        · replace hm := ite_f hm hc62
          refine AW_skip ?_
          refine H48 _ _ ?_
          clear H48 K48
          refine AW_reg ?_
          refine s_v (o_mv (.sc (.int _ _)) rfl) ?_
          refine s_v (o_bi rfl rfl rfl trivial) ?_
          refine s_v (o_as (.sc (.int _ _)) rfl) ?_
          refine s_nil ?_
          cases hm
          exact ⟨rfl, (), hk61, LeF.fm (Sub.refl _) (.cons (ALe.refl _ _) (.cons (ALe.refl _ _) (.nil)))⟩
    · replace hm := ite_f hm hc47
      refine AW_exit ?_
      refine Seq_exit ?_
      cases hm
      exact ⟨rfl, (), hk44, LeF.fm (Sub.refl _) (.cons (ALe.refl _ _) (.cons (ALe.refl _ _) (.nil)))⟩
  · rintro _ r64 fr' h' hk65 hm le
    refine H2 _ _ (le.aw ?_)
    clear le H2 K2
    refine AW_k fun K66 H66 => ?_
    refine AW_joinG (n := 28) hm (σ := Bool) (τ := Unit) (fun g s => HOk h []) (fun g s => kp (k0) 2 (.sc (.bool s))) (fun g s => hp h []) (fun x hm => ?_) ?_
    · refine AW_reg ?_
      refine s_v (o_mv (.sc (.string _)) rfl) ?_
      refine s_v (o_lent ln9 rfl) ?_
      refine s_v (o_bi rfl rfl rfl trivial) ?_
      refine s_v (o_mv (.sc (.bool _)) rfl) ?_
      rcases Bool.eq_false_or_eq_true (decide (1 ≤ (p0.size : Int))) with hb69 | hb69
      · replace hm := ite_t hm hb69
        refine sg_y rfl rfl hb69 ?_
        refine s_v (o_mv (.sc (.string _)) rfl) ?_
        refine sg_y rfl rfl hb69 ?_
        refine s_v (o_lent ln9 rfl) ?_
        refine sg_y rfl rfl hb69 ?_
        refine s_v (o_bi rfl rfl rfl trivial) ?_
        refine s_v (o_pkt (.sc (.bool _)) rfl hb69 rfl) ?_
        refine s_v (o_as (.sc (.bool _)) rfl) ?_
        refine s_nil ?_
        cases hm
        exact ⟨rfl, (), hk65, LeF.fm (Sub.refl _) (.cons (ALe.refl _ _) (.nil))⟩
      · replace hm := ite_f hm hb69
        refine sg_n rfl rfl hb69 ?_
        refine sg_n rfl rfl hb69 ?_
        refine sg_n rfl rfl hb69 ?_
        refine s_v (o_pkf (.sc (.bool _)) rfl hb69 rfl) ?_
        refine s_v (o_as (.sc (.bool _)) rfl) ?_
        refine s_nil ?_
        cases hm
        exact ⟨rfl, (), hk65, LeF.fm (Sub.refl _) (.cons (ALe.refl _ _) (.nil))⟩
    · rintro _ j68 fr' h' hk70 hm le
      refine H66 _ _ (le.aw ?_)
      clear le H66 K66
      refine AW_ret ?_
      cases hm
      exact Ret.of1 (.inl rfl) (rsT _ _ (.sc (.bool _)) rfl) (Sub.refl _) (ALe.refl _ _) ⟨rfl, rfl⟩
theorem bd104 : bodied Try.prog 104 = true := by kernel_rfl
def M62_L0 (fuel : Nat) (p0 : TManifest) (q104 : Int) : Option (Lp (Int) (Bool)) :=
  if (decide (q104 < (p0.Parts.length : Int))) = true then ((ix p0.Parts q104).bind fun x111 => after ((M104 fuel x111.Path).bind fun y132 => if (!y132) = true then (some (.brk true)) else if (decide (0 < q104)) = true then ((ix p0.Parts (IntKind.wrap .i64 (q104 - 1))).bind fun x136 => if (Op.bytesLess x111.Path.toList x136.Path.toList || x111.Path.toList == x136.Path.toList) = true then (some (.brk true)) else if (decide (x111.Size < 0)) = true then (some (.brk true)) else if (decide (200 < x111.Size)) = true then (some (.brk true)) else if (decide (25 < (x111.Ids.length : Int))) = true then (some (.brk true)) else some (.brk (((x111.Ids.length : Int) == 0) != (x111.Size == 0)))) else if (decide (x111.Size < 0)) = true then (some (.brk true)) else if (decide (200 < x111.Size)) = true then (some (.brk true)) else if (decide (25 < (x111.Ids.length : Int))) = true then (some (.brk true)) else some (.brk (((x111.Ids.length : Int) == 0) != (x111.Size == 0))) : Option (Lp (Bool) (Lp (Int) (Bool)))) fun j131 => if j131 = true then (some (.ret false)) else some (.go (IntKind.wrap .i64 (q104 + 1)))) else some (.brk q104)
def M62 (fuel : Nat) (p0 : TManifest) : Option (Bool) :=
  after ((M104 fuel p0.Name).bind fun y11 => if (!y11) = true then (some (.brk true)) else some (.brk (decide (6 < (p0.Parts.length : Int)))) : Option (Lp (Bool) (Bool))) fun j10 => if j10 = true then (some false) else after (loopM (fun s => M62_L0 fuel p0 s) fuel 0) fun r148 => some true
set_option maxRecDepth 100000 in
/-- cellarer/cellarerref14.Manifest -/
theorem W62 {fuel : Nat} {p0 : TManifest} {o : Bool} (h : Heap) (hm : M62 fuel p0 = some o) :
    ACalls Try.prog 62 [.agg (c_Manifest p0)] h (fun r h' => r = .sc (.bool o) ∧ h' = h) := by
  refine ACalls_hp 73 [.tmp 2] Try.func62 rfl rfl rfl rfl ?_
  unfold M62 at hm
  refine AW_k fun K1 H1 => ?_
  refine AW_reg ?_
  refine s_op (a_box (HOk.nil _) rfl rfl fun k2 hk3 => ?_)
  refine s_v (o_as (.sc (.bool _)) rfl) ?_
  refine s_nil ?_
  refine H1 _ _ ?_
  clear H1 K1
  refine AW_k fun K5 H5 => ?_
  refine AW_k fun K6 H6 => ?_
  refine AW_joinG (n := 73) hm (σ := Bool) (τ := Unit) (fun g s => HOk h [(some k2, .obj 57 (c_Manifest p0))]) (fun g s => kp (kp (k0) 14 (.sc (.bool s))) 1 (.ptr k2 0)) (fun g s => hp h [(some k2, .obj 57 (c_Manifest p0))]) (fun x hm => ?_) ?_
  · refine AW_reg ?_
    refine s_v (o_flp fd57_0 rfl rfl) ?_
    refine s_v (o_ldp (.sc (.string p0.Name)) ld9 rfl (hp_get 0 hk3 rfl) rfl) ?_
    obtain ⟨y11, hy12, hm⟩ := bind_of hm
    refine s_v (o_call (W104 _ hy12) rfl bd104 rfl) ?_
    refine s_v (o_not rfl) ?_
    refine s_v (o_mv (.sc (.bool _)) rfl) ?_
    rcases Bool.eq_false_or_eq_true (!y11) with hb13 | hb13
    · replace hm := ite_t hm hb13
      refine sg_n rfl rfl hb13 ?_
      refine sg_n rfl rfl hb13 ?_
      refine sg_n rfl rfl hb13 ?_
      refine sg_n rfl rfl hb13 ?_
      refine s_v (o_pkt (.sc (.bool _)) rfl hb13 rfl) ?_
      refine s_nil ?_
      cases hm
      exact ⟨rfl, (), hk3, LeF.fm (Sub.refl _) (.cons (ALe.refl _ _) (.cons (ALe.refl _ _) (.nil)))⟩
    · replace hm := ite_f hm hb13
      refine sg_y rfl rfl hb13 ?_
      refine s_v (o_flp fd57_1 rfl rfl) ?_
      refine sg_y rfl rfl hb13 ?_
      refine s_v (o_ldp (.sl none 3 (List.map c_Part p0.Parts)) ld55 rfl (hp_get 0 hk3 rfl) rfl) ?_
      refine sg_y rfl rfl hb13 ?_
      refine s_v (o_lenm ln55 rfl) ?_
      refine sg_y rfl rfl hb13 ?_
      refine s_v (o_bi rfl rfl rfl trivial) ?_
      refine s_v (o_pkf (.sc (.bool _)) rfl hb13 rfl) ?_
      refine s_nil ?_
      cases hm
      exact ⟨rfl, (), hk3, LeF.fm (Sub.refl _) (.cons (ALe.refl _ _) (.cons (ALe.refl _ _) (.nil)))⟩
  · rintro _ j10 fr' h' hk14 hm le
    refine H6 _ _ (le.aw ?_)
    clear le H6 K6
    refine AW_if' rfl (fun hc15 => ?_) (fun hc15 => ?_)
    · replace hm := ite_t hm hc15
      refine AW_k fun K16 H16 => ?_
      refine AW_reg ?_
      refine s_v (o_as (.sc (.bool _)) rfl) ?_
      refine s_nil ?_
      refine H16 _ _ ?_
      clear H16 K16
      refine AW_ret ?_
      cases hm
      exact Ret.of1 (.inl rfl) (rsT _ _ (.sc (.bool _)) rfl) (hp_sub (List.nil_sublist _) hk14).1 (ALe.refl _ _) ⟨rfl, rfl⟩
    · replace hm := ite_f hm hc15
      refine AW_skip ?_
      refine H5 _ _ ?_
      clear H5 K5
      refine AW_k fun K17 H17 => ?_
      refine AW_k fun K18 H18 => ?_
      refine AW_reg ?_
      refine s_v (o_as (.sc (.int _ _)) rfl) ?_
      refine s_nil ?_
      refine H18 _ _ ?_
      clear H18 K18
      refine AW_loopG (n := 73) hm (σ := Int) (τ := Unit) (fun g s => HOk h [(some k2, .obj 57 (c_Manifest p0))]) (fun g s => kp (kp (k0) 3 (.sc (.int .i64 s))) 1 (.ptr k2 0)) (fun g s => hp h [(some k2, .obj 57 (c_Manifest p0))]) () hk14 (LeF.fm (Sub.refl _) (.cons (ALe.refl _ _) (.cons (ALe.refl _ _) (.nil)))) ?_ ?_
      · rintro _ q104 x hk105 hm
        replace hm : M62_L0 fuel p0 q104 = some x := hm
        unfold M62_L0 at hm
        refine AW_k fun K106 H106 => ?_
        refine AW_k fun K107 H107 => ?_
        refine AW_reg ?_
        refine s_v (o_mv (.sc (.int _ _)) rfl) ?_
        refine s_v (o_flp fd57_1 rfl rfl) ?_
        refine s_v (o_ldp (.sl none 3 (List.map c_Part p0.Parts)) ld55 rfl (hp_get 0 hk105 rfl) rfl) ?_
        refine s_v (o_lenm ln55 rfl) ?_
        refine s_v (o_bi rfl rfl rfl trivial) ?_
        refine s_nil ?_
        refine H107 _ _ ?_
        clear H107 K107
        refine AW_if' rfl (fun hc108 => ?_) (fun hc108 => ?_)
        · replace hm := ite_t hm hc108
          refine AW_skip ?_
          refine H106 _ _ ?_
          clear H106 K106
          refine AW_k fun K109 H109 => ?_
          refine AW_block ?_
          refine AW_k fun K110 H110 => ?_
          refine AW_reg ?_
          refine s_v (o_flp fd57_1 rfl rfl) ?_
          refine s_v (o_ldp (.sl none 3 (List.map c_Part p0.Parts)) ld55 rfl (hp_get 0 hk105 rfl) rfl) ?_
          refine s_v (o_mv (.sc (.int _ _)) rfl) ?_
          obtain ⟨x111, hx112, hm⟩ := bind_of hm
          refine s_v (o_ix hx112 el55 rfl rfl) ?_
          refine s_v (o_ld (.agg (c_Part x111)) ld82 rfl rfl) ?_
          refine s_op (a_alloc ([.sc (.string ByteArray.empty), .sc (.int .i64 0), .sc (.slice none 0 0)]) hk105 zr82 rfl rfl fun k113 hk114 => ?_)
          refine s_op (a_store 0 (c_Part x111) hk114 rfl rfl rfl rfl sz82 rfl rfl fun hk116 => ?_)
          refine s_nil ?_
          refine H110 _ _ ?_
          clear H110 K110
          refine AW_k fun K117 H117 => ?_
          refine AW_joinG (n := 73) hm (σ := Bool) (τ := Unit) (fun g s => HOk h [(some k113, .obj 82 (c_Part x111)), (some k2, .obj 57 (c_Manifest p0))]) (fun g s => kp (kp (kp (k0) 72 (.sc (.bool s))) 3 (.sc (.int .i64 q104))) 1 (.ptr k2 0)) (fun g s => hp h [(some k113, .obj 82 (c_Part x111)), (some k2, .obj 57 (c_Manifest p0))]) (fun x hm => ?_) ?_
          · refine AW_region_q [(some 27, [4], []), (some 28, [27], [0]), (some 29, [28], [1]), (some 30, [29], [2]), (some 31, [30], [3, 2]), (some 32, [3, 31], [4]), (some 33, [32, 31], [5, 4]), (some 34, [33, 31], [6, 4, 4]), (some 35, [4, 34], [7]), (some 36, [35, 34], [8, 7]), (some 37, [1, 34], [7]), (some 38, [37, 34], [10, 7]), (some 39, [3, 34], [7]), (some 40, [39, 34], [12, 7]), (some 41, [38, 40, 34], [11, 13, 7]), (some 42, [41, 34], [14, 7]), (some 43, [42, 34], [15, 7]), (some 44, [36, 43, 34], [9, 16, 7]), (some 45, [34, 44, 31], [7, 17, 4]), (some 46, [31, 45], [4, 18]), (some 47, [46], [19, 7]), (some 48, [4, 47], [20]), (some 49, [48, 47], [21, 20]), (some 50, [49, 47], [22, 20]), (some 51, [47, 50], [20, 23]), (some 52, [51], [24, 20]), (some 53, [4, 52], [25]), (some 54, [53, 52], [26, 25]), (some 55, [54, 52], [27, 25]), (some 56, [52, 55], [25, 28]), (some 57, [56], [29, 25]), (some 58, [4, 57], [30]), (some 59, [58, 57], [31, 30]), (some 60, [59, 57], [32, 30]), (some 61, [60, 57], [33, 30]), (some 62, [57, 61], [30, 34]), (some 63, [62], [35, 30]), (some 64, [4, 63], [36]), (some 65, [64, 63], [37, 36]), (some 66, [65, 63], [38, 36]), (some 67, [66, 63], [39, 36]), (some 68, [4, 63], [36]), (some 69, [68, 63], [41, 36]), (some 70, [69, 63], [42, 36]), (some 71, [67, 70, 63], [40, 43, 36]), (some 72, [63, 71], [36, 44])] mixed (by kernel_rfl) (by kernel_rfl) ?_
            refine q_v (o_flp fd82_0 rfl rfl) ?_
            refine q_v (o_ldp (.sc (.string x111.Path)) ld9 rfl (hp_get 0 hk116 rfl) rfl) ?_
            obtain ⟨y132, hy133, hm⟩ := bind_of hm
            refine q_v (o_call (W104 _ hy133) rfl bd104 rfl) ?_
            refine q_v (o_not rfl) ?_
            refine q_v (o_mv (.sc (.bool _)) rfl) ?_
            rcases Bool.eq_false_or_eq_true (!y132) with hb134 | hb134
            · replace hm := ite_t hm hb134
              refine qg_n rfl rfl hb134 ?_
              refine qg_n rfl rfl hb134 ?_
              refine qg_n rfl rfl hb134 ?_
              refine qg_u rfl rfl ?_
              refine qg_u rfl rfl ?_
              refine qg_u rfl rfl ?_
              refine qg_u rfl rfl ?_
              refine qg_u rfl rfl ?_
              refine qg_u rfl rfl ?_
              refine qg_u rfl rfl ?_
              refine qg_u rfl rfl ?_
              refine qg_u rfl rfl ?_
              refine qg_u rfl rfl ?_
              refine qg_n rfl rfl hb134 ?_
              refine q_v (o_pkt (.sc (.bool _)) rfl hb134 rfl) ?_
              refine q_v (o_mv (.sc (.bool _)) rfl) ?_
              refine qg_n rfl rfl rfl ?_
              refine qg_n rfl rfl rfl ?_
              refine qg_n rfl rfl rfl ?_
              refine q_v (o_pkt (.sc (.bool _)) rfl rfl rfl) ?_
              refine q_v (o_mv (.sc (.bool _)) rfl) ?_
              refine qg_n rfl rfl rfl ?_
              refine qg_n rfl rfl rfl ?_
              refine qg_n rfl rfl rfl ?_
              refine q_v (o_pkt (.sc (.bool _)) rfl rfl rfl) ?_
              refine q_v (o_mv (.sc (.bool _)) rfl) ?_
              refine qg_n rfl rfl rfl ?_
              refine qg_n rfl rfl rfl ?_
              refine qg_n rfl rfl rfl ?_
              refine qg_n rfl rfl rfl ?_
              refine q_v (o_pkt (.sc (.bool _)) rfl rfl rfl) ?_
              refine q_v (o_mv (.sc (.bool _)) rfl) ?_
              refine qg_n rfl rfl rfl ?_
              refine qg_n rfl rfl rfl ?_
              refine qg_n rfl rfl rfl ?_
              refine qg_n rfl rfl rfl ?_
              refine qg_n rfl rfl rfl ?_
              refine qg_n rfl rfl rfl ?_
              refine qg_n rfl rfl rfl ?_
              refine qg_n rfl rfl rfl ?_
              refine q_v (o_pkt (.sc (.bool _)) rfl rfl rfl) ?_
              refine q_nil ?_
              cases hm
              exact ⟨rfl, (), hk116, LeF.fm (Sub.refl _) (.cons (ALe.refl _ _) (.cons (ALe.refl _ _) (.cons (ALe.refl _ _) (.nil))))⟩
            · replace hm := ite_f hm hb134
              refine qg_y rfl rfl hb134 ?_
              refine q_v (o_mv (.sc (.int _ _)) rfl) ?_
              refine qg_y rfl rfl hb134 ?_
              refine q_v (o_bi rfl rfl rfl trivial) ?_
              refine qg_y rfl rfl hb134 ?_
              refine q_v (o_mv (.sc (.bool _)) rfl) ?_
              rcases Bool.eq_false_or_eq_true (decide (0 < q104)) with hb135 | hb135
              · replace hm := ite_t hm hb135
                refine qg_y rfl rfl hb135 ?_
                refine q_v (o_flp fd82_0 rfl rfl) ?_
                refine qg_y rfl rfl hb135 ?_
                refine q_v (o_ldp (.sc (.string x111.Path)) ld9 rfl (hp_get 0 hk116 rfl) rfl) ?_
                refine qg_y rfl rfl hb135 ?_
                refine q_v (o_flp fd57_1 rfl rfl) ?_
                refine qg_y rfl rfl hb135 ?_
                refine q_v (o_ldp (.sl none 3 (List.map c_Part p0.Parts)) ld55 rfl (hp_get 1 hk116 rfl) rfl) ?_
                refine qg_y rfl rfl hb135 ?_
                refine q_v (o_mv (.sc (.int _ _)) rfl) ?_
                refine qg_y rfl rfl hb135 ?_
                refine q_v (o_bi rfl rfl rfl trivial) ?_
                refine qg_y rfl rfl hb135 ?_
                obtain ⟨x136, hx137, hm⟩ := bind_of hm
                refine q_v (o_ix hx137 el55 rfl rfl) ?_
                refine qg_y rfl rfl hb135 ?_
                refine q_v (o_fl fd82_0 rfl rfl) ?_
                refine qg_y rfl rfl hb135 ?_
                refine q_v (o_ld (.sc (.string x136.Path)) ld9 rfl rfl) ?_
                refine qg_y rfl rfl hb135 ?_
                refine q_v (o_bs rfl rfl rfl trivial) ?_
                refine qg_y rfl rfl hb134 ?_
                refine q_v (o_pkt (.sc (.bool _)) rfl hb135 rfl) ?_
                refine q_v (o_pkf (.sc (.bool _)) rfl hb134 rfl) ?_
                refine q_v (o_mv (.sc (.bool _)) rfl) ?_
                rcases Bool.eq_false_or_eq_true (Op.bytesLess x111.Path.toList x136.Path.toList || x111.Path.toList == x136.Path.toList) with hb138 | hb138
                · replace hm := ite_t hm hb138
                  refine qg_n rfl rfl hb138 ?_
                  refine qg_n rfl rfl hb138 ?_
                  refine qg_n rfl rfl hb138 ?_
                  refine q_v (o_pkt (.sc (.bool _)) rfl hb138 rfl) ?_
                  refine q_v (o_mv (.sc (.bool _)) rfl) ?_
                  refine qg_n rfl rfl rfl ?_
                  refine qg_n rfl rfl rfl ?_
                  refine qg_n rfl rfl rfl ?_
                  refine q_v (o_pkt (.sc (.bool _)) rfl rfl rfl) ?_
                  refine q_v (o_mv (.sc (.bool _)) rfl) ?_
                  refine qg_n rfl rfl rfl ?_
                  refine qg_n rfl rfl rfl ?_
                  refine qg_n rfl rfl rfl ?_
                  refine qg_n rfl rfl rfl ?_
                  refine q_v (o_pkt (.sc (.bool _)) rfl rfl rfl) ?_
                  refine q_v (o_mv (.sc (.bool _)) rfl) ?_
                  refine qg_n rfl rfl rfl ?_
                  refine qg_n rfl rfl rfl ?_
                  refine qg_n rfl rfl rfl ?_
                  refine qg_n rfl rfl rfl ?_
                  refine qg_n rfl rfl rfl ?_
                  refine qg_n rfl rfl rfl ?_
                  refine qg_n rfl rfl rfl ?_
                  refine qg_n rfl rfl rfl ?_
                  refine q_v (o_pkt (.sc (.bool _)) rfl rfl rfl) ?_
                  refine q_nil ?_
                  cases hm
                  exact ⟨rfl, (), hk116, LeF.fm (Sub.refl _) (.cons (ALe.refl _ _) (.cons (ALe.refl _ _) (.cons (ALe.refl _ _) (.nil))))⟩
                · replace hm := ite_f hm hb138
                  refine qg_y rfl rfl hb138 ?_
                  refine q_v (o_flp fd82_1 rfl rfl) ?_
                  refine qg_y rfl rfl hb138 ?_
                  refine q_v (o_ldp (.sc (.int .i64 x111.Size)) ld3 rfl (hp_get 0 hk116 rfl) rfl) ?_
                  refine qg_y rfl rfl hb138 ?_
                  refine q_v (o_bi rfl rfl rfl trivial) ?_
                  refine q_v (o_pkf (.sc (.bool _)) rfl hb138 rfl) ?_
                  refine q_v (o_mv (.sc (.bool _)) rfl) ?_
                  rcases Bool.eq_false_or_eq_true (decide (x111.Size < 0)) with hb139 | hb139
                  · replace hm := ite_t hm hb139
                    refine qg_n rfl rfl hb139 ?_
                    refine qg_n rfl rfl hb139 ?_
                    refine qg_n rfl rfl hb139 ?_
                    refine q_v (o_pkt (.sc (.bool _)) rfl hb139 rfl) ?_
                    refine q_v (o_mv (.sc (.bool _)) rfl) ?_
                    refine qg_n rfl rfl rfl ?_
                    refine qg_n rfl rfl rfl ?_
                    refine qg_n rfl rfl rfl ?_
                    refine qg_n rfl rfl rfl ?_
                    refine q_v (o_pkt (.sc (.bool _)) rfl rfl rfl) ?_
                    refine q_v (o_mv (.sc (.bool _)) rfl) ?_
                    refine qg_n rfl rfl rfl ?_
                    refine qg_n rfl rfl rfl ?_
                    refine qg_n rfl rfl rfl ?_
                    refine qg_n rfl rfl rfl ?_
                    refine qg_n rfl rfl rfl ?_
                    refine qg_n rfl rfl rfl ?_
                    refine qg_n rfl rfl rfl ?_
                    refine qg_n rfl rfl rfl ?_
                    refine q_v (o_pkt (.sc (.bool _)) rfl rfl rfl) ?_
                    refine q_nil ?_
                    cases hm
                    exact ⟨rfl, (), hk116, LeF.fm (Sub.refl _) (.cons (ALe.refl _ _) (.cons (ALe.refl _ _) (.cons (ALe.refl _ _) (.nil))))⟩
                  · replace hm := ite_f hm hb139
                    refine qg_y rfl rfl hb139 ?_
                    refine q_v (o_flp fd82_1 rfl rfl) ?_
                    refine qg_y rfl rfl hb139 ?_
                    refine q_v (o_ldp (.sc (.int .i64 x111.Size)) ld3 rfl (hp_get 0 hk116 rfl) rfl) ?_
                    refine qg_y rfl rfl hb139 ?_
                    refine q_v (o_bi rfl rfl rfl trivial) ?_
                    refine q_v (o_pkf (.sc (.bool _)) rfl hb139 rfl) ?_
                    refine q_v (o_mv (.sc (.bool _)) rfl) ?_
                    rcases Bool.eq_false_or_eq_true (decide (200 < x111.Size)) with hb140 | hb140
                    · replace hm := ite_t hm hb140
                      refine qg_n rfl rfl hb140 ?_
                      refine qg_n rfl rfl hb140 ?_
                      refine qg_n rfl rfl hb140 ?_
                      refine qg_n rfl rfl hb140 ?_
                      refine q_v (o_pkt (.sc (.bool _)) rfl hb140 rfl) ?_
                      refine q_v (o_mv (.sc (.bool _)) rfl) ?_
                      refine qg_n rfl rfl rfl ?_
                      refine qg_n rfl rfl rfl ?_
                      refine qg_n rfl rfl rfl ?_
                      refine qg_n rfl rfl rfl ?_
                      refine qg_n rfl rfl rfl ?_
                      refine qg_n rfl rfl rfl ?_
                      refine qg_n rfl rfl rfl ?_
                      refine qg_n rfl rfl rfl ?_
                      refine q_v (o_pkt (.sc (.bool _)) rfl rfl rfl) ?_
                      refine q_nil ?_
                      cases hm
                      exact ⟨rfl, (), hk116, LeF.fm (Sub.refl _) (.cons (ALe.refl _ _) (.cons (ALe.refl _ _) (.cons (ALe.refl _ _) (.nil))))⟩
                    · replace hm := ite_f hm hb140
                      refine qg_y rfl rfl hb140 ?_
                      refine q_v (o_flp fd82_2 rfl rfl) ?_
                      refine qg_y rfl rfl hb140 ?_
                      refine q_v (o_ldp (.sl none 32 (List.map c_id x111.Ids)) ld80 rfl (hp_get 0 hk116 rfl) rfl) ?_
                      refine qg_y rfl rfl hb140 ?_
                      refine q_v (o_lenm ln80 rfl) ?_
                      refine qg_y rfl rfl hb140 ?_
                      refine q_v (o_bi rfl rfl rfl trivial) ?_
                      refine q_v (o_pkf (.sc (.bool _)) rfl hb140 rfl) ?_
                      refine q_v (o_mv (.sc (.bool _)) rfl) ?_
                      rcases Bool.eq_false_or_eq_true (decide (25 < (x111.Ids.length : Int))) with hb141 | hb141
                      · replace hm := ite_t hm hb141
                        refine qg_n rfl rfl hb141 ?_
                        refine qg_n rfl rfl hb141 ?_
                        refine qg_n rfl rfl hb141 ?_
                        refine qg_n rfl rfl hb141 ?_
                        refine qg_n rfl rfl hb141 ?_
                        refine qg_n rfl rfl hb141 ?_
                        refine qg_n rfl rfl hb141 ?_
                        refine qg_n rfl rfl hb141 ?_
                        refine q_v (o_pkt (.sc (.bool _)) rfl hb141 rfl) ?_
                        refine q_nil ?_
                        cases hm
                        exact ⟨rfl, (), hk116, LeF.fm (Sub.refl _) (.cons (ALe.refl _ _) (.cons (ALe.refl _ _) (.cons (ALe.refl _ _) (.nil))))⟩
                      · replace hm := ite_f hm hb141
                        refine qg_y rfl rfl hb141 ?_
                        refine q_v (o_flp fd82_2 rfl rfl) ?_
                        refine qg_y rfl rfl hb141 ?_
                        refine q_v (o_ldp (.sl none 32 (List.map c_id x111.Ids)) ld80 rfl (hp_get 0 hk116 rfl) rfl) ?_
                        refine qg_y rfl rfl hb141 ?_
                        refine q_v (o_lenm ln80 rfl) ?_
                        refine qg_y rfl rfl hb141 ?_
                        refine q_v (o_bi rfl rfl rfl trivial) ?_
                        refine qg_y rfl rfl hb141 ?_
                        refine q_v (o_flp fd82_1 rfl rfl) ?_
                        refine qg_y rfl rfl hb141 ?_
                        refine q_v (o_ldp (.sc (.int .i64 x111.Size)) ld3 rfl (hp_get 0 hk116 rfl) rfl) ?_
                        refine qg_y rfl rfl hb141 ?_
                        refine q_v (o_bi rfl rfl rfl trivial) ?_
                        refine qg_y rfl rfl hb141 ?_
                        refine q_v (o_bb u4 rfl rfl rfl) ?_
                        refine q_v (o_pkf (.sc (.bool _)) rfl hb141 rfl) ?_
                        refine q_nil ?_
                        cases hm
                        exact ⟨rfl, (), hk116, LeF.fm (Sub.refl _) (.cons (ALe.refl _ _) (.cons (ALe.refl _ _) (.cons (ALe.refl _ _) (.nil))))⟩
              · replace hm := ite_f hm hb135
                refine qg_n rfl rfl hb135 ?_
                refine qg_n rfl rfl hb135 ?_
                refine qg_n rfl rfl hb135 ?_
                refine qg_n rfl rfl hb135 ?_
                refine qg_n rfl rfl hb135 ?_
                refine qg_n rfl rfl hb135 ?_
                refine qg_n rfl rfl hb135 ?_
                refine qg_n rfl rfl hb135 ?_
                refine qg_n rfl rfl hb135 ?_
                refine qg_n rfl rfl hb135 ?_
                refine qg_y rfl rfl hb134 ?_
                refine q_v (o_pkf (.sc (.bool _)) rfl hb135 rfl) ?_
                refine q_v (o_pkf (.sc (.bool _)) rfl hb134 rfl) ?_
                refine q_v (o_mv (.sc (.bool _)) rfl) ?_
                refine qg_y rfl rfl rfl ?_
                refine q_v (o_flp fd82_1 rfl rfl) ?_
                refine qg_y rfl rfl rfl ?_
                refine q_v (o_ldp (.sc (.int .i64 x111.Size)) ld3 rfl (hp_get 0 hk116 rfl) rfl) ?_
                refine qg_y rfl rfl rfl ?_
                refine q_v (o_bi rfl rfl rfl trivial) ?_
                refine q_v (o_pkf (.sc (.bool _)) rfl rfl rfl) ?_
                refine q_v (o_mv (.sc (.bool _)) rfl) ?_
                rcases Bool.eq_false_or_eq_true (decide (x111.Size < 0)) with hb142 | hb142
                · replace hm := ite_t hm hb142
                  refine qg_n rfl rfl hb142 ?_
                  refine qg_n rfl rfl hb142 ?_
                  refine qg_n rfl rfl hb142 ?_
                  refine q_v (o_pkt (.sc (.bool _)) rfl hb142 rfl) ?_
                  refine q_v (o_mv (.sc (.bool _)) rfl) ?_
                  refine qg_n rfl rfl rfl ?_
                  refine qg_n rfl rfl rfl ?_
                  refine qg_n rfl rfl rfl ?_
                  refine qg_n rfl rfl rfl ?_
                  refine q_v (o_pkt (.sc (.bool _)) rfl rfl rfl) ?_
                  refine q_v (o_mv (.sc (.bool _)) rfl) ?_
                  refine qg_n rfl rfl rfl ?_
                  refine qg_n rfl rfl rfl ?_
                  refine qg_n rfl rfl rfl ?_
                  refine qg_n rfl rfl rfl ?_
                  refine qg_n rfl rfl rfl ?_
                  refine qg_n rfl rfl rfl ?_
                  refine qg_n rfl rfl rfl ?_
                  refine qg_n rfl rfl rfl ?_
                  refine q_v (o_pkt (.sc (.bool _)) rfl rfl rfl) ?_
                  refine q_nil ?_
                  cases hm
                  exact ⟨rfl, (), hk116, LeF.fm (Sub.refl _) (.cons (ALe.refl _ _) (.cons (ALe.refl _ _) (.cons (ALe.refl _ _) (.nil))))⟩
                · replace hm := ite_f hm hb142
                  refine qg_y rfl rfl hb142 ?_
                  refine q_v (o_flp fd82_1 rfl rfl) ?_
                  refine qg_y rfl rfl hb142 ?_
                  refine q_v (o_ldp (.sc (.int .i64 x111.Size)) ld3 rfl (hp_get 0 hk116 rfl) rfl) ?_
                  refine qg_y rfl rfl hb142 ?_
                  refine q_v (o_bi rfl rfl rfl trivial) ?_
                  refine q_v (o_pkf (.sc (.bool _)) rfl hb142 rfl) ?_
                  refine q_v (o_mv (.sc (.bool _)) rfl) ?_
                  rcases Bool.eq_false_or_eq_true (decide (200 < x111.Size)) with hb143 | hb143
                  · replace hm := ite_t hm hb143
                    refine qg_n rfl rfl hb143 ?_
                    refine qg_n rfl rfl hb143 ?_
                    refine qg_n rfl rfl hb143 ?_
                    refine qg_n rfl rfl hb143 ?_
                    refine q_v (o_pkt (.sc (.bool _)) rfl hb143 rfl) ?_
                    refine q_v (o_mv (.sc (.bool _)) rfl) ?_
                    refine qg_n rfl rfl rfl ?_
                    refine qg_n rfl rfl rfl ?_
                    refine qg_n rfl rfl rfl ?_
                    refine qg_n rfl rfl rfl ?_
                    refine qg_n rfl rfl rfl ?_
                    refine qg_n rfl rfl rfl ?_
                    refine qg_n rfl rfl rfl ?_
                    refine qg_n rfl rfl rfl ?_
                    refine q_v (o_pkt (.sc (.bool _)) rfl rfl rfl) ?_
                    refine q_nil ?_
                    cases hm
                    exact ⟨rfl, (), hk116, LeF.fm (Sub.refl _) (.cons (ALe.refl _ _) (.cons (ALe.refl _ _) (.cons (ALe.refl _ _) (.nil))))⟩
                  · replace hm := ite_f hm hb143
                    refine qg_y rfl rfl hb143 ?_
                    refine q_v (o_flp fd82_2 rfl rfl) ?_
                    refine qg_y rfl rfl hb143 ?_
                    refine q_v (o_ldp (.sl none 32 (List.map c_id x111.Ids)) ld80 rfl (hp_get 0 hk116 rfl) rfl) ?_
                    refine qg_y rfl rfl hb143 ?_
                    refine q_v (o_lenm ln80 rfl) ?_
                    refine qg_y rfl rfl hb143 ?_
                    refine q_v (o_bi rfl rfl rfl trivial) ?_
                    refine q_v (o_pkf (.sc (.bool _)) rfl hb143 rfl) ?_
                    refine q_v (o_mv (.sc (.bool _)) rfl) ?_
                    rcases Bool.eq_false_or_eq_true (decide (25 < (x111.Ids.length : Int))) with hb144 | hb144
                    · replace hm := ite_t hm hb144
                      refine qg_n rfl rfl hb144 ?_
                      refine qg_n rfl rfl hb144 ?_
                      refine qg_n rfl rfl hb144 ?_
                      refine qg_n rfl rfl hb144 ?_
                      refine qg_n rfl rfl hb144 ?_
                      refine qg_n rfl rfl hb144 ?_
                      refine qg_n rfl rfl hb144 ?_
                      refine qg_n rfl rfl hb144 ?_
                      refine q_v (o_pkt (.sc (.bool _)) rfl hb144 rfl) ?_
                      refine q_nil ?_
                      cases hm
                      exact ⟨rfl, (), hk116, LeF.fm (Sub.refl _) (.cons (ALe.refl _ _) (.cons (ALe.refl _ _) (.cons (ALe.refl _ _) (.nil))))⟩
                    · replace hm := ite_f hm hb144
                      refine qg_y rfl rfl hb144 ?_
                      refine q_v (o_flp fd82_2 rfl rfl) ?_
                      refine qg_y rfl rfl hb144 ?_
                      refine q_v (o_ldp (.sl none 32 (List.map c_id x111.Ids)) ld80 rfl (hp_get 0 hk116 rfl) rfl) ?_
                      refine qg_y rfl rfl hb144 ?_
                      refine q_v (o_lenm ln80 rfl) ?_
                      refine qg_y rfl rfl hb144 ?_
                      refine q_v (o_bi rfl rfl rfl trivial) ?_
                      refine qg_y rfl rfl hb144 ?_
                      refine q_v (o_flp fd82_1 rfl rfl) ?_
                      refine qg_y rfl rfl hb144 ?_
                      refine q_v (o_ldp (.sc (.int .i64 x111.Size)) ld3 rfl (hp_get 0 hk116 rfl) rfl) ?_
                      refine qg_y rfl rfl hb144 ?_
                      refine q_v (o_bi rfl rfl rfl trivial) ?_
                      refine qg_y rfl rfl hb144 ?_
                      refine q_v (o_bb u4 rfl rfl rfl) ?_
                      refine q_v (o_pkf (.sc (.bool _)) rfl hb144 rfl) ?_
                      refine q_nil ?_
                      cases hm
                      exact ⟨rfl, (), hk116, LeF.fm (Sub.refl _) (.cons (ALe.refl _ _) (.cons (ALe.refl _ _) (.cons (ALe.refl _ _) (.nil))))⟩
          · rintro _ j131 fr' h' hk145 hm le
            refine H117 _ _ (le.aw ?_)
            clear le H117 K117
            refine AW_if' rfl (fun hc146 => ?_) (fun hc146 => ?_)
            · replace hm := ite_t hm hc146
              refine AW_k fun K147 H147 => ?_
              refine AW_reg ?_
              refine s_v (o_as (.sc (.bool _)) rfl) ?_
              refine s_nil ?_
              refine H147 _ _ ?_
              clear H147 K147
              refine AW_ret ?_
              cases hm
              refine ⟨⟨nofun, nofun⟩, fun he => ?_⟩
              subst he
              exact Ret.of1 (.inl rfl) (rsT _ _ (.sc (.bool _)) rfl) (hp_sub (List.nil_sublist _) hk145).1 (ALe.refl _ _) ⟨rfl, rfl⟩
            · replace hm := ite_f hm hc146
              refine AW_skip ?_
              refine H109 _ _ ?_
              clear H109 K109
              refine AW_reg ?_
              refine s_v (o_mv (.sc (.int _ _)) rfl) ?_
              refine s_v (o_bi rfl rfl rfl trivial) ?_
              refine s_v (o_as (.sc (.int _ _)) rfl) ?_
              refine s_nil ?_
              cases hm
              exact ⟨rfl, (), (hp_sub (.cons _ (.refl _)) hk145).2, LeF.fm ((hp_sub (.cons _ (.refl _)) hk145).1) (.cons (ALe.refl _ _) (.cons (ALe.refl _ _) (.nil)))⟩
        · replace hm := ite_f hm hc108
          refine AW_exit ?_
          refine Seq_exit ?_
          cases hm
          exact ⟨rfl, (), hk105, LeF.fm (Sub.refl _) (.cons (ALe.refl _ _) (.cons (ALe.refl _ _) (.nil)))⟩
      · rintro _ r148 fr' h' hk149 hm le
        refine H17 _ _ (le.aw ?_)
        clear le H17 K17
        refine AW_k fun K150 H150 => ?_
        refine AW_reg ?_
        refine s_v (o_as (.sc (.bool _)) rfl) ?_
        refine s_nil ?_
        refine H150 _ _ ?_
        clear H150 K150
        refine AW_ret ?_
        cases hm
        exact Ret.of1 (.inl rfl) (rsT _ _ (.sc (.bool _)) rfl) (hp_sub (List.nil_sublist _) hk149).1 (ALe.refl _ _) ⟨rfl, rfl⟩
theorem bd62 : bodied Try.prog 62 = true := by kernel_rfl
def M128_L0 (fuel : Nat) (p0 : Id32) (p1 : Id32) (q41 : Int) : Option (Lp (Int) (Bool)) :=
  if (decide (q41 < 32)) = true then ((ix p0.1 q41).bind fun x48 => (ix p1.1 q41).bind fun x50 => if (x48 != x50) = true then ((ix p0.1 q41).bind fun x54 => (ix p1.1 q41).bind fun x56 => some (.ret (decide (x54 < x56)))) else some (.go (IntKind.wrap .i64 (q41 + 1)))) else some (.brk q41)
def M128 (fuel : Nat) (p0 : Id32) (p1 : Id32) : Option (Bool) :=
  after (loopM (fun s => M128_L0 fuel p0 p1 s) fuel 0) fun r58 => some false
set_option maxRecDepth 100000 in
/-- cellarer/cellarerref14.before -/
theorem W128 {fuel : Nat} {p0 : Id32} {p1 : Id32} {o : Bool} (h : Heap) (hm : M128 fuel p0 p1 = some o) :
    ACalls Try.prog 128 [.agg (c_id p0), .agg (c_id p1)] h (fun r h' => r = .sc (.bool o) ∧ h' = h) := by
  refine ACalls_hp 24 [.tmp 4] Try.func128 rfl rfl rfl rfl ?_
  unfold M128 at hm
  refine AW_k fun K1 H1 => ?_
  refine AW_reg ?_
  refine s_op (a_box (HOk.nil _) rfl rfl fun k2 hk3 => ?_)
  refine s_op (a_box hk3 rfl rfl fun k5 hk6 => ?_)
  refine s_v (o_as (.sc (.bool _)) rfl) ?_
  refine s_nil ?_
  refine H1 _ _ ?_
  clear H1 K1
  refine AW_k fun K8 H8 => ?_
  refine AW_k fun K9 H9 => ?_
  refine AW_reg ?_
  refine s_v (o_as (.sc (.int _ _)) rfl) ?_
  refine s_nil ?_
  refine H9 _ _ ?_
  clear H9 K9
  refine AW_loopG (n := 24) hm (σ := Int) (τ := Unit) (fun g s => HOk h [(some k5, .obj 61 (c_id p1)), (some k2, .obj 61 (c_id p0))]) (fun g s => kp (kp (kp (k0) 5 (.sc (.int .i64 s))) 3 (.ptr k5 0)) 2 (.ptr k2 0)) (fun g s => hp h [(some k5, .obj 61 (c_id p1)), (some k2, .obj 61 (c_id p0))]) () hk6 (LeF.fm (Sub.refl _) (.cons (ALe.refl _ _) (.cons (ALe.refl _ _) (.cons (ALe.refl _ _) (.nil))))) ?_ ?_
  · rintro _ q41 x hk42 hm
    replace hm : M128_L0 fuel p0 p1 q41 = some x := hm
    unfold M128_L0 at hm
    refine AW_k fun K43 H43 => ?_
    refine AW_k fun K44 H44 => ?_
    refine AW_reg ?_
    refine s_v (o_mv (.sc (.int _ _)) rfl) ?_
    refine s_v (o_bi rfl rfl rfl trivial) ?_
    refine s_nil ?_
    refine H44 _ _ ?_
    clear H44 K44
    refine AW_if' rfl (fun hc45 => ?_) (fun hc45 => ?_)
    · replace hm := ite_t hm hc45
      refine AW_skip ?_
      refine H43 _ _ ?_
      clear H43 K43
      refine AW_k fun K46 H46 => ?_
      refine AW_block ?_
      refine AW_k fun K47 H47 => ?_
      refine AW_region_q [(some 10, [5], []), (some 11, [2, 10], [0]), (some 12, [11], [1]), (some 13, [5], []), (some 14, [3, 13], [3]), (some 15, [14], [4]), (some 16, [12, 15], [2, 5])] mixed (by kernel_rfl) (by kernel_rfl) ?_
      refine q_v (o_mv (.sc (.int _ _)) rfl) ?_
      obtain ⟨x48, hx49, hm⟩ := bind_of hm
      refine q_v (o_ixidp hx49 ar61 rfl rfl) ?_
      refine q_v (o_ldidp 0 hx49 ld5 rfl (hp_get 1 hk42 rfl) rfl) ?_
      refine q_v (o_mv (.sc (.int _ _)) rfl) ?_
      obtain ⟨x50, hx51, hm⟩ := bind_of hm
      refine q_v (o_ixidp hx51 ar61 rfl rfl) ?_
      refine q_v (o_ldidp 0 hx51 ld5 rfl (hp_get 0 hk42 rfl) rfl) ?_
      refine q_v (o_bi rfl rfl rfl trivial) ?_
      refine q_nil ?_
      refine H47 _ _ ?_
      clear H47 K47
      refine AW_if' rfl (fun hc52 => ?_) (fun hc52 => ?_)
      · replace hm := ite_t hm hc52
        refine AW_k fun K53 H53 => ?_
        refine AW_region_q [(some 17, [5], []), (some 18, [2, 17], [0]), (some 19, [18], [1]), (some 20, [5], []), (some 21, [3, 20], [3]), (some 22, [21], [4]), (some 23, [19, 22], [2, 5]), (some 4, [23], [6, 0, 1, 2, 3, 4, 5, 6])] mixed (by kernel_rfl) (by kernel_rfl) ?_
        refine q_v (o_mv (.sc (.int _ _)) rfl) ?_
        obtain ⟨x54, hx55, hm⟩ := bind_of hm
        refine q_v (o_ixidp hx55 ar61 rfl rfl) ?_
        refine q_v (o_ldidp 0 hx55 ld5 rfl (hp_get 1 hk42 rfl) rfl) ?_
        refine q_v (o_mv (.sc (.int _ _)) rfl) ?_
        obtain ⟨x56, hx57, hm⟩ := bind_of hm
        refine q_v (o_ixidp hx57 ar61 rfl rfl) ?_
        refine q_v (o_ldidp 0 hx57 ld5 rfl (hp_get 0 hk42 rfl) rfl) ?_
        refine q_v (o_bi rfl rfl rfl trivial) ?_
        refine q_v (o_as (.sc (.bool _)) rfl) ?_
        refine q_nil ?_
        refine H53 _ _ ?_
        clear H53 K53
        refine AW_ret ?_
        cases hm
        refine ⟨⟨nofun, nofun⟩, fun he => ?_⟩
        subst he
        exact Ret.of1 (.inl rfl) (rsT _ _ (.sc (.bool _)) rfl) (hp_sub (List.nil_sublist _) hk42).1 (ALe.refl _ _) ⟨rfl, rfl⟩
      · replace hm := ite_f hm hc52
        refine AW_skip ?_
        refine H46 _ _ ?_
        clear H46 K46
        refine AW_reg ?_
        refine s_v (o_mv (.sc (.int _ _)) rfl) ?_
        refine s_v (o_bi rfl rfl rfl trivial) ?_
        refine s_v (o_as (.sc (.int _ _)) rfl) ?_
        refine s_nil ?_
        cases hm
        exact ⟨rfl, (), hk42, LeF.fm (Sub.refl _) (.cons (ALe.refl _ _) (.cons (ALe.refl _ _) (.cons (ALe.refl _ _) (.nil))))⟩
    · replace hm := ite_f hm hc45
      refine AW_exit ?_
      refine Seq_exit ?_
      cases hm
      exact ⟨rfl, (), hk42, LeF.fm (Sub.refl _) (.cons (ALe.refl _ _) (.cons (ALe.refl _ _) (.cons (ALe.refl _ _) (.nil))))⟩
  · rintro _ r58 fr' h' hk59 hm le
    refine H8 _ _ (le.aw ?_)
    clear le H8 K8
    refine AW_k fun K60 H60 => ?_
    refine AW_reg ?_
    refine s_v (o_as (.sc (.bool _)) rfl) ?_
    refine s_nil ?_
    refine H60 _ _ ?_
    clear H60 K60
    refine AW_ret ?_
    cases hm
    exact Ret.of1 (.inl rfl) (rsT _ _ (.sc (.bool _)) rfl) (hp_sub (List.nil_sublist _) hk59).1 (ALe.refl _ _) ⟨rfl, rfl⟩
theorem bd128 : bodied Try.prog 128 = true := by kernel_rfl
def M105_L0 (fuel : Nat) (p0 : List Id32) (p1 : Id32) (q38 : Int) : Option (Lp (Int) ((List Id32) × Int × Bool)) :=
  after (if (decide (q38 < (p0.length : Int))) = true then ((ix p0 q38).bind fun x49 => (M128 fuel x49 p1).bind fun y51 => some (.brk y51)) else some (.brk false) : Option (Lp (Bool) (Lp (Int) ((List Id32) × Int × Bool)))) fun j47 => if j47 = true then (some (.go (IntKind.wrap .i64 (q38 + 1)))) else some (.brk q38)
def M105 (fuel : Nat) (p0 : List Id32) (p1 : Id32) : Option ((List Id32) × Int × Bool) :=
  after (loopM (fun s => M105_L0 fuel p0 p1 s) fuel 0) fun r55 => after (if (decide (r55 < (p0.length : Int))) = true then ((ix p0 r55).bind fun x64 => some (.brk (decide (x64 = p1)))) else some (.brk false) : Option (Lp (Bool) ((List Id32) × Int × Bool))) fun j62 => if j62 = true then (some (p0, r55, false)) else (slc p0 0 r55).bind fun x84 => (app ([] : List Id32) x84).bind fun z86 => (app z86 ([p1] : List Id32)).bind fun z92 => (slc p0 r55 (p0).length).bind fun x98 => (app z92 x98).bind fun z100 => some (z100, r55, true)
set_option maxRecDepth 100000 in
/-- cellarer/cellarerref14.Add -/
theorem W105 {fuel : Nat} {p0 : List Id32} {p1 : Id32} {o : (List Id32) × Int × Bool} (h : Heap) (hm : M105 fuel p0 p1 = some o) :
    ACalls Try.prog 105 [.sl none 32 (List.map c_id p0), .agg (c_id p1)] h (fun r h' => r = .tup [.sl none 32 (List.map c_id o.1), .sc (.int .i64 o.2.1), .sc (.bool o.2.2)] ∧ h' = h) := by
  refine ACalls_hp 51 [.tmp 4, .tmp 5, .tmp 6] Try.func105 rfl rfl rfl rfl ?_
  unfold M105 at hm
  refine AW_k fun K1 H1 => ?_
  refine AW_reg ?_
  refine s_op (a_box (HOk.nil _) rfl rfl fun k2 hk3 => ?_)
  refine s_v (o_as (.sc (.slice _ _ _)) rfl) ?_
  refine s_v (o_as (.sc (.int _ _)) rfl) ?_
  refine s_v (o_as (.sc (.bool _)) rfl) ?_
  refine s_nil ?_
  refine H1 _ _ ?_
  clear H1 K1
  refine AW_k fun K5 H5 => ?_
  refine AW_reg ?_
  refine s_v (o_as (.sc (.int _ _)) rfl) ?_
  refine s_nil ?_
  refine H5 _ _ ?_
  clear H5 K5
  refine AW_k fun K6 H6 => ?_
  refine AW_loopG (n := 51) hm (σ := Int) (τ := Unit) (fun g s => HOk h [(some k2, .obj 61 (c_id p1))]) (fun g s => kp (kp (kp (k0) 7 (.sc (.int .i64 s))) 3 (.ptr k2 0)) 0 (.sl none 32 (List.map c_id p0))) (fun g s => hp h [(some k2, .obj 61 (c_id p1))]) () hk3 (LeF.fm (Sub.refl _) (.cons (ALe.refl _ _) (.cons (ALe.refl _ _) (.cons (ALe.refl _ _) (.nil))))) ?_ ?_
  · rintro _ q38 x hk39 hm
    replace hm : M105_L0 fuel p0 p1 q38 = some x := hm
    unfold M105_L0 at hm
    refine AW_k fun K40 H40 => ?_
    refine AW_k fun K41 H41 => ?_
    refine AW_joinG (n := 51) hm (σ := Bool) (τ := Unit) (fun g s => HOk h [(some k2, .obj 61 (c_id p1))]) (fun g s => kp (kp (kp (kp (k0) 20 (.sc (.bool s))) 7 (.sc (.int .i64 q38))) 3 (.ptr k2 0)) 0 (.sl none 32 (List.map c_id p0))) (fun g s => hp h [(some k2, .obj 61 (c_id p1))]) (fun x hm => ?_) ?_
    · refine AW_region_q [(some 9, [7], []), (some 10, [0], []), (some 11, [10], [1]), (some 12, [9, 11], [0, 2]), (some 13, [12], [3]), (some 14, [0, 13], [4]), (some 15, [7, 13], [4]), (some 16, [14, 15, 13], [5, 6, 4]), (some 17, [16, 13], [7, 4]), (some 18, [3, 13], [4]), (some 19, [17, 18, 13], [8, 9, 4, 4]), (some 20, [13, 19], [4, 10])] mixed (by kernel_rfl) (by kernel_rfl) ?_
      refine q_v (o_mv (.sc (.int _ _)) rfl) ?_
      refine q_v (o_mv (.sl _ _ _) rfl) ?_
      refine q_v (o_lenm ln80 rfl) ?_
      refine q_v (o_bi rfl rfl rfl trivial) ?_
      refine q_v (o_mv (.sc (.bool _)) rfl) ?_
      rcases Bool.eq_false_or_eq_true (decide (q38 < (p0.length : Int))) with hb48 | hb48
      · replace hm := ite_t hm hb48
        refine qg_y rfl rfl hb48 ?_
        refine q_v (o_mv (.sl _ _ _) rfl) ?_
        refine qg_y rfl rfl hb48 ?_
        refine q_v (o_mv (.sc (.int _ _)) rfl) ?_
        refine qg_y rfl rfl hb48 ?_
        obtain ⟨x49, hx50, hm⟩ := bind_of hm
        refine q_v (o_ix hx50 el80 rfl rfl) ?_
        refine qg_y rfl rfl hb48 ?_
        refine q_v (o_ld (.agg (c_id x49)) ld61 rfl rfl) ?_
        refine qg_y rfl rfl hb48 ?_
        refine q_v (o_ldp (.agg (c_id p1)) ld61 rfl (hp_get 0 hk39 rfl) rfl) ?_
        refine qg_y rfl rfl hb48 ?_
        obtain ⟨y51, hy52, hm⟩ := bind_of hm
        refine q_v (o_call (W128 _ hy52) rfl bd128 rfl) ?_
        refine q_v (o_pkt (.sc (.bool _)) rfl hb48 rfl) ?_
        refine q_nil ?_
        cases hm
        exact ⟨rfl, (), hk39, LeF.fm (Sub.refl _) (.cons (ALe.refl _ _) (.cons (ALe.refl _ _) (.cons (ALe.refl _ _) (.cons (ALe.refl _ _) (.nil)))))⟩
      · replace hm := ite_f hm hb48
        refine qg_n rfl rfl hb48 ?_
        refine qg_n rfl rfl hb48 ?_
        refine qg_n rfl rfl hb48 ?_
        refine qg_n rfl rfl hb48 ?_
        refine qg_n rfl rfl hb48 ?_
        refine qg_n rfl rfl hb48 ?_
        refine q_v (o_pkf (.sc (.bool _)) rfl hb48 rfl) ?_
        refine q_nil ?_
        cases hm
        exact ⟨rfl, (), hk39, LeF.fm (Sub.refl _) (.cons (ALe.refl _ _) (.cons (ALe.refl _ _) (.cons (ALe.refl _ _) (.cons (ALe.refl _ _) (.nil)))))⟩
    · rintro _ j47 fr' h' hk53 hm le
      refine H41 _ _ (le.aw ?_)
      clear le H41 K41
      refine AW_if' rfl (fun hc54 => ?_) (fun hc54 => ?_)
      · replace hm := ite_t hm hc54
        refine AW_skip ?_
        refine H40 _ _ ?_
        clear H40 K40
        refine AW_block ?_
        refine AW_reg ?_
        refine s_v (o_mv (.sc (.int _ _)) rfl) ?_
        refine s_v (o_bi rfl rfl rfl trivial) ?_
        refine s_v (o_as (.sc (.int _ _)) rfl) ?_
        refine s_nil ?_
        cases hm
        exact ⟨rfl, (), hk53, LeF.fm (Sub.refl _) (.cons (ALe.refl _ _) (.cons (ALe.refl _ _) (.cons (ALe.refl _ _) (.nil))))⟩
      · replace hm := ite_f hm hc54
        refine AW_exit ?_
        refine Seq_exit ?_
        cases hm
        exact ⟨rfl, (), hk53, LeF.fm (Sub.refl _) (.cons (ALe.refl _ _) (.cons (ALe.refl _ _) (.cons (ALe.refl _ _) (.nil))))⟩
  · rintro _ r55 fr' h' hk56 hm le
    refine H6 _ _ (le.aw ?_)
    clear le H6 K6
    refine AW_k fun K57 H57 => ?_
    refine AW_k fun K58 H58 => ?_
    refine AW_joinG (n := 51) hm (σ := Bool) (τ := Unit) (fun g s => HOk h [(some k2, .obj 61 (c_id p1))]) (fun g s => kp (kp (kp (kp (k0) 34 (.sc (.bool s))) 7 (.sc (.int .i64 r55))) 3 (.ptr k2 0)) 0 (.sl none 32 (List.map c_id p0))) (fun g s => hp h [(some k2, .obj 61 (c_id p1))]) (fun x hm => ?_) ?_
    · refine AW_region_q [(some 23, [7], []), (some 24, [0], []), (some 25, [24], [1]), (some 26, [23, 25], [0, 2]), (some 27, [26], [3]), (some 28, [0, 27], [4]), (some 29, [7, 27], [4]), (some 30, [28, 29, 27], [5, 6, 4]), (some 31, [30, 27], [7, 4]), (some 32, [3, 27], [4]), (some 33, [31, 32, 27], [8, 9, 4]), (some 34, [27, 33], [4, 10])] mixed (by kernel_rfl) (by kernel_rfl) ?_
      refine q_v (o_mv (.sc (.int _ _)) rfl) ?_
      refine q_v (o_mv (.sl _ _ _) rfl) ?_
      refine q_v (o_lenm ln80 rfl) ?_
      refine q_v (o_bi rfl rfl rfl trivial) ?_
      refine q_v (o_mv (.sc (.bool _)) rfl) ?_
      rcases Bool.eq_false_or_eq_true (decide (r55 < (p0.length : Int))) with hb63 | hb63
      · replace hm := ite_t hm hb63
        refine qg_y rfl rfl hb63 ?_
        refine q_v (o_mv (.sl _ _ _) rfl) ?_
        refine qg_y rfl rfl hb63 ?_
        refine q_v (o_mv (.sc (.int _ _)) rfl) ?_
        refine qg_y rfl rfl hb63 ?_
        obtain ⟨x64, hx65, hm⟩ := bind_of hm
        refine q_v (o_ix hx65 el80 rfl rfl) ?_
        refine qg_y rfl rfl hb63 ?_
        refine q_v (o_ld (.agg (c_id x64)) ld61 rfl rfl) ?_
        refine qg_y rfl rfl hb63 ?_
        refine q_v (o_ldp (.agg (c_id p1)) ld61 rfl (hp_get 0 hk56 rfl) rfl) ?_
        refine qg_y rfl rfl hb63 ?_
        refine q_v (o_ide eg61 u61 u5 ld5 rfl rfl) ?_
        refine q_v (o_pkt (.sc (.bool _)) rfl hb63 rfl) ?_
        refine q_nil ?_
        cases hm
        exact ⟨rfl, (), hk56, LeF.fm (Sub.refl _) (.cons (ALe.refl _ _) (.cons (ALe.refl _ _) (.cons (ALe.refl _ _) (.cons (ALe.refl _ _) (.nil)))))⟩
      · replace hm := ite_f hm hb63
        refine qg_n rfl rfl hb63 ?_
        refine qg_n rfl rfl hb63 ?_
        refine qg_n rfl rfl hb63 ?_
        refine qg_n rfl rfl hb63 ?_
        refine qg_n rfl rfl hb63 ?_
        refine qg_n rfl rfl hb63 ?_
        refine q_v (o_pkf (.sc (.bool _)) rfl hb63 rfl) ?_
        refine q_nil ?_
        cases hm
        exact ⟨rfl, (), hk56, LeF.fm (Sub.refl _) (.cons (ALe.refl _ _) (.cons (ALe.refl _ _) (.cons (ALe.refl _ _) (.cons (ALe.refl _ _) (.nil)))))⟩
    · rintro _ j62 fr' h' hk66 hm le
      refine H58 _ _ (le.aw ?_)
      clear le H58 K58
      refine AW_if' rfl (fun hc67 => ?_) (fun hc67 => ?_)
      · replace hm := ite_t hm hc67
        refine AW_k fun K68 H68 => ?_
        refine AW_reg ?_
        refine s_v (o_mv (.sl _ _ _) rfl) ?_
        refine s_v (o_mv (.sc (.int _ _)) rfl) ?_
        refine s_v (o_as (.sl _ _ _) rfl) ?_
        refine s_v (o_as (.sc (.int _ _)) rfl) ?_
        refine s_v (o_as (.sc (.bool _)) rfl) ?_
        refine s_nil ?_
        refine H68 _ _ ?_
        clear H68 K68
        refine AW_ret ?_
        cases hm
        exact Ret.of3 (.inl rfl) (rsT _ _ (.sl _ _ _) rfl) (rsT _ _ (.sc (.int _ _)) rfl) (rsT _ _ (.sc (.bool _)) rfl) (hp_sub (List.nil_sublist _) hk66).1 (ALe.refl _ _) (ALe.refl _ _) (ALe.refl _ _) ⟨rfl, rfl⟩
      · replace hm := ite_f hm hc67
        refine AW_skip ?_
        refine H57 _ _ ?_
        clear H57 K57
        refine AW_k fun K69 H69 => ?_
        refine AW_reg ?_
        refine s_v (o_as (.sc (.slice _ _ _)) rfl) ?_
        refine s_nil ?_
        refine H69 _ _ ?_
        clear H69 K69
        refine AW_k fun K70 H70 => ?_
        refine AW_zreg [(1000000, some k2, .obj 61 (c_id p1))] mixed (⟨fun _ => hp_at 0 hk66 rfl, trivial⟩) ?_
        refine z_v 0 rfl (by kernel_rfl) rfl (fun S' h' hi hB => o_mv (.sc (.slice _ _ _)) rfl) ?_
        refine z_v 1 rfl (by kernel_rfl) rfl (fun S' h' hi hB => o_mv (.sl _ _ _) rfl) ?_
        refine z_v 2 rfl (by kernel_rfl) rfl (fun S' h' hi hB => o_mv (.sc (.int _ _)) rfl) ?_
        obtain ⟨x84, hx85, hm⟩ := bind_of hm
        refine z_v 3 rfl (by kernel_rfl) rfl (fun S' h' hi hB => o_slc hx85 el80 rfl rfl rfl rfl) ?_
        refine z_v 5 rfl (by kernel_rfl) rfl (fun S' h' hi hB => o_ldp (.agg (c_id p1)) ld61 rfl (At.s (InvL.get 0 hi rfl (hB 1000000 (by kernel_rfl)))) rfl) ?_
        refine z_v 6 rfl (by kernel_rfl) rfl (fun S' h' hi hB => o_lit (List.map c_id ([p1] : List Id32)) et80 rfl rfl rfl rfl) ?_
        obtain ⟨z86, hz87, hm⟩ := bind_of hm
        refine z_e 4 rfl (by kernel_rfl) (a_app0 (c := c_id) hz87 et80 rfl rfl hk66 nofun rfl fun tg88 ot89 hk90 => ⟨⟨fun _ => hp_at 1 hk90 rfl, trivial⟩, ?_⟩)
        obtain ⟨z92, hz93, hm⟩ := bind_of hm
        refine z_e 7 rfl (by kernel_rfl) (a_app (c := c_id) 0 hz93 et80 rfl rfl rfl ot89 hk90 rfl fun tg94 ot95 hk96 => ⟨⟨fun _ => hp_at 1 hk96 rfl, trivial⟩, ?_⟩)
        refine z_v 8 rfl (by kernel_rfl) rfl (fun S' h' hi hB => o_as (ow _ _ _) rfl) ?_
        refine z_nil (by kernel_rfl) ?_
        refine H70 _ _ ?_
        clear H70 K70
        refine AW_k fun K97 H97 => ?_
        refine AW_reg ?_
        refine s_v (o_mv (ow _ _ _) rfl) ?_
        refine s_v (o_mv (.sl _ _ _) rfl) ?_
        refine s_v (o_mv (.sc (.int _ _)) rfl) ?_
        obtain ⟨x98, hx99, hm⟩ := bind_of hm
        refine s_v (o_slc hx99 el80 rfl rfl rfl rfl) ?_
        obtain ⟨z100, hz101, hm⟩ := bind_of hm
        refine s_op (a_app (c := c_id) 0 hz101 et80 rfl rfl rfl ot95 hk96 rfl fun tg102 ot103 hk104 => ?_)
        refine s_v (o_mv (.sc (.int _ _)) rfl) ?_
        refine s_v (o_as (ow _ _ _) rfl) ?_
        refine s_v (o_as (.sc (.int _ _)) rfl) ?_
        refine s_v (o_as (.sc (.bool _)) rfl) ?_
        refine s_nil ?_
        refine H97 _ _ ?_
        clear H97 K97
        refine AW_ret ?_
        cases hm
        exact Ret.of3 (.inl rfl) (rsT _ _ (ow _ _ _) rfl) (rsT _ _ (.sc (.int _ _)) rfl) (rsT _ _ (.sc (.bool _)) rfl) (hp_sub (List.nil_sublist _) hk104).1 ((own_frz0 _ 0 ot103 hk104 rfl)) (ALe.refl _ _) (ALe.refl _ _) ⟨rfl, rfl⟩
theorem bd105 : bodied Try.prog 105 = true := by kernel_rfl
def M63_L2 (fuel : Nat) (p0 : TManifest) (q109 : Int) (q142 : List Id32) (q143 : Int) : Option (Lp ((List Id32) × Int) (Lp ((List Id32) × Int) ((List Id32)))) :=
  (ix p0.Parts q109).bind fun x147 => if (decide (q143 < (x147.Ids.length : Int))) = true then ((ix p0.Parts q109).bind fun x151 => (ix x151.Ids q143).bind fun x153 => (M105 fuel q142 x153).bind fun y155 => some (.go (y155.1, IntKind.wrap .i64 (q143 + 1)))) else some (.brk (q142, q143))
def M63_L0 (fuel : Nat) (p0 : TManifest) (q108 : List Id32) (q109 : Int) : Option (Lp ((List Id32) × Int) ((List Id32))) :=
  if (decide (q109 < (p0.Parts.length : Int))) = true then (after (loopM (fun s => M63_L2 fuel p0 q109 s.1 s.2) fuel (q108, 0)) fun ⟨r157, r158⟩ => some (.go (r157, IntKind.wrap .i64 (q109 + 1)))) else some (.brk (q108, q109))
def M63 (fuel : Nat) (p0 : TManifest) : Option ((List Id32)) :=
  after (loopM (fun s => M63_L0 fuel p0 s.1 s.2) fuel ([], 0)) fun ⟨r160, r161⟩ => some r160
set_option maxRecDepth 100000 in
/-- cellarer/cellarerref14.Ids -/
theorem W63 {fuel : Nat} {p0 : TManifest} {o : (List Id32)} (h : Heap) (hm : M63 fuel p0 = some o) :
    ACalls Try.prog 63 [.agg (c_Manifest p0)] h (fun r h' => r = .sl none 32 (List.map c_id o) ∧ h' = h) := by
  refine ACalls_hp 40 [.tmp 2] Try.func63 rfl rfl rfl rfl ?_
  unfold M63 at hm
  refine AW_k fun K1 H1 => ?_
  refine AW_reg ?_
  refine s_op (a_box (HOk.nil _) rfl rfl fun k2 hk3 => ?_)
  refine s_v (o_as (.sc (.slice _ _ _)) rfl) ?_
  refine s_nil ?_
  refine H1 _ _ ?_
  clear H1 K1
  refine AW_k fun K5 H5 => ?_
  refine AW_reg ?_
  refine s_v (o_as (.sc (.slice _ _ _)) rfl) ?_
  refine s_nil ?_
  refine H5 _ _ ?_
  clear H5 K5
  refine AW_k fun K6 H6 => ?_
  refine AW_k fun K7 H7 => ?_
  refine AW_reg ?_
  refine s_v (o_as (.sc (.int _ _)) rfl) ?_
  refine s_nil ?_
  refine H7 _ _ ?_
  clear H7 K7
  refine AW_loopG (n := 40) hm (σ := (List Id32) × Int) (τ := Unit) (fun g s => HOk h [(some k2, .obj 57 (c_Manifest p0))]) (fun g s => kp (kp (kp (k0) 4 (.sc (.int .i64 s.2))) 3 (.sl none 32 (List.map c_id s.1))) 1 (.ptr k2 0)) (fun g s => hp h [(some k2, .obj 57 (c_Manifest p0))]) () hk3 (LeF.fm (Sub.refl _) (.cons (ALe.refl _ _) (.cons (nil_lem _) (.cons (ALe.refl _ _) (.nil))))) ?_ ?_
  · rintro _ ⟨q108, q109⟩ x hk110 hm
    replace hm : M63_L0 fuel p0 q108 q109 = some x := hm
    unfold M63_L0 at hm
    refine AW_k fun K111 H111 => ?_
    refine AW_k fun K112 H112 => ?_
    refine AW_reg ?_
    refine s_v (o_mv (.sc (.int _ _)) rfl) ?_
    refine s_v (o_flp fd57_1 rfl rfl) ?_
    refine s_v (o_ldp (.sl none 3 (List.map c_Part p0.Parts)) ld55 rfl (hp_get 0 hk110 rfl) rfl) ?_
    refine s_v (o_lenm ln55 rfl) ?_
    refine s_v (o_bi rfl rfl rfl trivial) ?_
    refine s_nil ?_
    refine H112 _ _ ?_
    clear H112 K112
    refine AW_if' rfl (fun hc113 => ?_) (fun hc113 => ?_)
    · replace hm := ite_t hm hc113
      refine AW_skip ?_
      refine H111 _ _ ?_
      clear H111 K111
      refine AW_k fun K114 H114 => ?_
      refine AW_block ?_
      refine AW_k fun K115 H115 => ?_
      refine AW_reg ?_
      refine s_v (o_as (.sc (.int _ _)) rfl) ?_
      refine s_nil ?_
      refine H115 _ _ ?_
      clear H115 K115
      refine AW_loopG (n := 40) hm (σ := (List Id32) × Int) (τ := Unit) (fun g s => HOk h [(some k2, .obj 57 (c_Manifest p0))]) (fun g s => kp (kp (kp (kp (k0) 5 (.sc (.int .i64 s.2))) 4 (.sc (.int .i64 q109))) 3 (.sl none 32 (List.map c_id s.1))) 1 (.ptr k2 0)) (fun g s => hp h [(some k2, .obj 57 (c_Manifest p0))]) () hk110 (LeF.fm (Sub.refl _) (.cons (ALe.refl _ _) (.cons (ALe.refl _ _) (.cons (ALe.refl _ _) (.cons (ALe.refl _ _) (.nil)))))) ?_ ?_
      · rintro _ ⟨q142, q143⟩ x hk144 hm
        replace hm : M63_L2 fuel p0 q109 q142 q143 = some x := hm
        unfold M63_L2 at hm
        refine AW_k fun K145 H145 => ?_
        refine AW_k fun K146 H146 => ?_
        refine AW_reg ?_
        refine s_v (o_mv (.sc (.int _ _)) rfl) ?_
        refine s_v (o_flp fd57_1 rfl rfl) ?_
        refine s_v (o_ldp (.sl none 3 (List.map c_Part p0.Parts)) ld55 rfl (hp_get 0 hk144 rfl) rfl) ?_
        refine s_v (o_mv (.sc (.int _ _)) rfl) ?_
        obtain ⟨x147, hx148, hm⟩ := bind_of hm
        refine s_v (o_ix hx148 el55 rfl rfl) ?_
        refine s_v (o_fl fd82_2 rfl rfl) ?_
        refine s_v (o_ld (.sl none 32 (List.map c_id x147.Ids)) ld80 rfl rfl) ?_
        refine s_v (o_lenm ln80 rfl) ?_
        refine s_v (o_bi rfl rfl rfl trivial) ?_
        refine s_nil ?_
        refine H146 _ _ ?_
        clear H146 K146
        refine AW_if' rfl (fun hc149 => ?_) (fun hc149 => ?_)
        · replace hm := ite_t hm hc149
          refine AW_skip ?_
          refine H145 _ _ ?_
          clear H145 K145
          refine AW_k fun K150 H150 => ?_
          refine AW_block ?_
          refine AW_reg ?_
          refine s_v (o_mv (.sl _ _ _) rfl) ?_
          refine s_v (o_flp fd57_1 rfl rfl) ?_
          refine s_v (o_ldp (.sl none 3 (List.map c_Part p0.Parts)) ld55 rfl (hp_get 0 hk144 rfl) rfl) ?_
          refine s_v (o_mv (.sc (.int _ _)) rfl) ?_
          obtain ⟨x151, hx152, hm⟩ := bind_of hm
          refine s_v (o_ix hx152 el55 rfl rfl) ?_
          refine s_v (o_fl fd82_2 rfl rfl) ?_
          refine s_v (o_ld (.sl none 32 (List.map c_id x151.Ids)) ld80 rfl rfl) ?_
          refine s_v (o_mv (.sc (.int _ _)) rfl) ?_
          obtain ⟨x153, hx154, hm⟩ := bind_of hm
          refine s_v (o_ix hx154 el80 rfl rfl) ?_
          refine s_v (o_ld (.agg (c_id x153)) ld61 rfl rfl) ?_
          obtain ⟨y155, hy156, hm⟩ := bind_of hm
          refine s_v (o_call (W105 _ hy156) rfl bd105 rfl) ?_
          refine s_v (o_mv (.tup _) rfl) ?_
          refine s_v (o_ex (.sl _ _ _) rfl rfl) ?_
          refine s_v (o_ex (.sc (.int _ _)) rfl rfl) ?_
          refine s_v (o_ex (.sc (.bool _)) rfl rfl) ?_
          refine s_v (o_as (.sl _ _ _) rfl) ?_
          refine s_nil ?_
          refine H150 _ _ ?_
          clear H150 K150
          refine AW_reg ?_
          refine s_v (o_mv (.sc (.int _ _)) rfl) ?_
          refine s_v (o_bi rfl rfl rfl trivial) ?_
          refine s_v (o_as (.sc (.int _ _)) rfl) ?_
          refine s_nil ?_
          cases hm
          exact ⟨rfl, (), hk144, LeF.fm (Sub.refl _) (.cons (ALe.refl _ _) (.cons (ALe.refl _ _) (.cons (ALe.refl _ _) (.cons (ALe.refl _ _) (.nil)))))⟩
        · replace hm := ite_f hm hc149
          refine AW_exit ?_
          refine Seq_exit ?_
          cases hm
          exact ⟨rfl, (), hk144, LeF.fm (Sub.refl _) (.cons (ALe.refl _ _) (.cons (ALe.refl _ _) (.cons (ALe.refl _ _) (.cons (ALe.refl _ _) (.nil)))))⟩
      · rintro _ ⟨r157, r158⟩ fr' h' hk159 hm le
        refine H114 _ _ (le.aw ?_)
        clear le H114 K114
        refine AW_reg ?_
        refine s_v (o_mv (.sc (.int _ _)) rfl) ?_
        refine s_v (o_bi rfl rfl rfl trivial) ?_
        refine s_v (o_as (.sc (.int _ _)) rfl) ?_
        refine s_nil ?_
        cases hm
        exact ⟨rfl, (), hk159, LeF.fm (Sub.refl _) (.cons (ALe.refl _ _) (.cons (ALe.refl _ _) (.cons (ALe.refl _ _) (.nil))))⟩
    · replace hm := ite_f hm hc113
      refine AW_exit ?_
      refine Seq_exit ?_
      cases hm
      exact ⟨rfl, (), hk110, LeF.fm (Sub.refl _) (.cons (ALe.refl _ _) (.cons (ALe.refl _ _) (.cons (ALe.refl _ _) (.nil))))⟩
  · rintro _ ⟨r160, r161⟩ fr' h' hk162 hm le
    refine H6 _ _ (le.aw ?_)
    clear le H6 K6
    refine AW_k fun K163 H163 => ?_
    refine AW_reg ?_
    refine s_v (o_mv (.sl _ _ _) rfl) ?_
    refine s_v (o_as (.sl _ _ _) rfl) ?_
    refine s_nil ?_
    refine H163 _ _ ?_
    clear H163 K163
    refine AW_ret ?_
    cases hm
    exact Ret.of1 (.inl rfl) (rsT _ _ (.sl _ _ _) rfl) (hp_sub (List.nil_sublist _) hk162).1 (ALe.refl _ _) ⟨rfl, rfl⟩
theorem bd63 : bodied Try.prog 63 = true := by kernel_rfl
def M64_L0 (fuel : Nat) (p0 : TCatalog) (p1 : Id32) (q29 : Int) : Option (Lp (Int) (Int)) :=
  if (decide (q29 < (p0.Chunks.length : Int))) = true then ((ix p0.Chunks q29).bind fun x36 => if (decide (x36.Id = p1)) = true then (some (.ret q29)) else some (.go (IntKind.wrap .i64 (q29 + 1)))) else some (.brk q29)
def M64 (fuel : Nat) (p0 : TCatalog) (p1 : Id32) : Option (Int) :=
  after (loopM (fun s => M64_L0 fuel p0 p1 s) fuel 0) fun r40 => some (-1)
set_option maxRecDepth 100000 in
/-- cellarer/cellarerref18.Chunk -/
theorem W64 {fuel : Nat} {p0 : TCatalog} {p1 : Id32} {o : Int} (h : Heap) (hm : M64 fuel p0 p1 = some o) :
    ACalls Try.prog 64 [.agg (c_Catalog p0), .agg (c_id p1)] h (fun r h' => r = .sc (.int .i64 o) ∧ h' = h) := by
  refine ACalls_hp 22 [.tmp 4] Try.func64 rfl rfl rfl rfl ?_
  unfold M64 at hm
  refine AW_k fun K1 H1 => ?_
  refine AW_reg ?_
  refine s_op (a_box (HOk.nil _) rfl rfl fun k2 hk3 => ?_)
  refine s_op (a_box hk3 rfl rfl fun k5 hk6 => ?_)
  refine s_v (o_as (.sc (.int _ _)) rfl) ?_
  refine s_nil ?_
  refine H1 _ _ ?_
  clear H1 K1
  refine AW_k fun K8 H8 => ?_
  refine AW_k fun K9 H9 => ?_
  refine AW_reg ?_
  refine s_v (o_as (.sc (.int _ _)) rfl) ?_
  refine s_nil ?_
  refine H9 _ _ ?_
  clear H9 K9
  refine AW_loopG (n := 22) hm (σ := Int) (τ := Unit) (fun g s => HOk h [(some k5, .obj 61 (c_id p1)), (some k2, .obj 27 (c_Catalog p0))]) (fun g s => kp (kp (kp (k0) 5 (.sc (.int .i64 s))) 3 (.ptr k5 0)) 2 (.ptr k2 0)) (fun g s => hp h [(some k5, .obj 61 (c_id p1)), (some k2, .obj 27 (c_Catalog p0))]) () hk6 (LeF.fm (Sub.refl _) (.cons (ALe.refl _ _) (.cons (ALe.refl _ _) (.cons (ALe.refl _ _) (.nil))))) ?_ ?_
  · rintro _ q29 x hk30 hm
    replace hm : M64_L0 fuel p0 p1 q29 = some x := hm
    unfold M64_L0 at hm
    refine AW_k fun K31 H31 => ?_
    refine AW_k fun K32 H32 => ?_
    refine AW_reg ?_
    refine s_v (o_mv (.sc (.int _ _)) rfl) ?_
    refine s_v (o_flp fd27_2 rfl rfl) ?_
    refine s_v (o_ldp (.sl none 35 (List.map c_Chunk p0.Chunks)) ld23 rfl (hp_get 1 hk30 rfl) rfl) ?_
    refine s_v (o_lenm ln23 rfl) ?_
    refine s_v (o_bi rfl rfl rfl trivial) ?_
    refine s_nil ?_
    refine H32 _ _ ?_
    clear H32 K32
    refine AW_if' rfl (fun hc33 => ?_) (fun hc33 => ?_)
    · replace hm := ite_t hm hc33
      refine AW_skip ?_
      refine H31 _ _ ?_
      clear H31 K31
      refine AW_k fun K34 H34 => ?_
      refine AW_block ?_
      refine AW_k fun K35 H35 => ?_
      refine AW_region_q [(some 13, [2], []), (some 14, [13], [0]), (some 15, [5], []), (some 16, [14, 15], [1, 2]), (some 17, [16], [3]), (some 18, [17], [4]), (some 19, [3], []), (some 20, [18, 19], [5, 6])] mixed (by kernel_rfl) (by kernel_rfl) ?_
      refine q_v (o_flp fd27_2 rfl rfl) ?_
      refine q_v (o_ldp (.sl none 35 (List.map c_Chunk p0.Chunks)) ld23 rfl (hp_get 1 hk30 rfl) rfl) ?_
      refine q_v (o_mv (.sc (.int _ _)) rfl) ?_
      obtain ⟨x36, hx37, hm⟩ := bind_of hm
      refine q_v (o_ix hx37 el23 rfl rfl) ?_
      refine q_v (o_fl fd63_0 rfl rfl) ?_
      refine q_v (o_ld (.agg (c_id x36.Id)) ld61 rfl rfl) ?_
      refine q_v (o_ldp (.agg (c_id p1)) ld61 rfl (hp_get 0 hk30 rfl) rfl) ?_
      refine q_v (o_ide eg61 u61 u5 ld5 rfl rfl) ?_
      refine q_nil ?_
      refine H35 _ _ ?_
      clear H35 K35
      refine AW_if' rfl (fun hc38 => ?_) (fun hc38 => ?_)
      · replace hm := ite_t hm hc38
        refine AW_k fun K39 H39 => ?_
        refine AW_reg ?_
        refine s_v (o_mv (.sc (.int _ _)) rfl) ?_
        refine s_v (o_as (.sc (.int _ _)) rfl) ?_
        refine s_nil ?_
        refine H39 _ _ ?_
        clear H39 K39
        refine AW_ret ?_
        cases hm
        refine ⟨⟨nofun, nofun⟩, fun he => ?_⟩
        subst he
        exact Ret.of1 (.inl rfl) (rsT _ _ (.sc (.int _ _)) rfl) (hp_sub (List.nil_sublist _) hk30).1 (ALe.refl _ _) ⟨rfl, rfl⟩
      · replace hm := ite_f hm hc38
        refine AW_skip ?_
        refine H34 _ _ ?_
        clear H34 K34
        refine AW_reg ?_
        refine s_v (o_mv (.sc (.int _ _)) rfl) ?_
        refine s_v (o_bi rfl rfl rfl trivial) ?_
        refine s_v (o_as (.sc (.int _ _)) rfl) ?_
        refine s_nil ?_
        cases hm
        exact ⟨rfl, (), hk30, LeF.fm (Sub.refl _) (.cons (ALe.refl _ _) (.cons (ALe.refl _ _) (.cons (ALe.refl _ _) (.nil))))⟩
    · replace hm := ite_f hm hc33
      refine AW_exit ?_
      refine Seq_exit ?_
      cases hm
      exact ⟨rfl, (), hk30, LeF.fm (Sub.refl _) (.cons (ALe.refl _ _) (.cons (ALe.refl _ _) (.cons (ALe.refl _ _) (.nil))))⟩
  · rintro _ r40 fr' h' hk41 hm le
    refine H8 _ _ (le.aw ?_)
    clear le H8 K8
    refine AW_k fun K42 H42 => ?_
    refine AW_reg ?_
    refine s_v (o_as (.sc (.int _ _)) rfl) ?_
    refine s_nil ?_
    refine H42 _ _ ?_
    clear H42 K42
    refine AW_ret ?_
    cases hm
    exact Ret.of1 (.inl rfl) (rsT _ _ (.sc (.int _ _)) rfl) (hp_sub (List.nil_sublist _) hk41).1 (ALe.refl _ _) ⟨rfl, rfl⟩
theorem bd64 : bodied Try.prog 64 = true := by kernel_rfl
def M50_L0 (fuel : Nat) (p0 : TCatalog) (p1 : ByteArray) (q26 : Int) : Option (Lp (Int) (Int)) :=
  if (decide (q26 < (p0.Snaps.length : Int))) = true then ((ix p0.Snaps q26).bind fun x33 => if (x33.Man.Name.toList == p1.toList) = true then (some (.ret q26)) else some (.go (IntKind.wrap .i64 (q26 + 1)))) else some (.brk q26)
def M50 (fuel : Nat) (p0 : TCatalog) (p1 : ByteArray) : Option (Int) :=
  after (loopM (fun s => M50_L0 fuel p0 p1 s) fuel 0) fun r37 => some (-1)
set_option maxRecDepth 100000 in
/-- cellarer/cellarerref18.Snap -/
theorem W50 {fuel : Nat} {p0 : TCatalog} {p1 : ByteArray} {o : Int} (h : Heap) (hm : M50 fuel p0 p1 = some o) :
    ACalls Try.prog 50 [.agg (c_Catalog p0), .sc (.string p1)] h (fun r h' => r = .sc (.int .i64 o) ∧ h' = h) := by
  refine ACalls_hp 23 [.tmp 4] Try.func50 rfl rfl rfl rfl ?_
  unfold M50 at hm
  refine AW_k fun K1 H1 => ?_
  refine AW_reg ?_
  refine s_op (a_box (HOk.nil _) rfl rfl fun k2 hk3 => ?_)
  refine s_v (o_as (.sc (.int _ _)) rfl) ?_
  refine s_nil ?_
  refine H1 _ _ ?_
  clear H1 K1
  refine AW_k fun K5 H5 => ?_
  refine AW_k fun K6 H6 => ?_
  refine AW_reg ?_
  refine s_v (o_as (.sc (.int _ _)) rfl) ?_
  refine s_nil ?_
  refine H6 _ _ ?_
  clear H6 K6
  refine AW_loopG (n := 23) hm (σ := Int) (τ := Unit) (fun g s => HOk h [(some k2, .obj 27 (c_Catalog p0))]) (fun g s => kp (kp (kp (k0) 5 (.sc (.int .i64 s))) 2 (.ptr k2 0)) 1 (.sc (.string p1))) (fun g s => hp h [(some k2, .obj 27 (c_Catalog p0))]) () hk3 (LeF.fm (Sub.refl _) (.cons (ALe.refl _ _) (.cons (ALe.refl _ _) (.cons (ALe.refl _ _) (.nil))))) ?_ ?_
  · rintro _ q26 x hk27 hm
    replace hm : M50_L0 fuel p0 p1 q26 = some x := hm
    unfold M50_L0 at hm
    refine AW_k fun K28 H28 => ?_
    refine AW_k fun K29 H29 => ?_
    refine AW_reg ?_
    refine s_v (o_mv (.sc (.int _ _)) rfl) ?_
    refine s_v (o_flp fd27_1 rfl rfl) ?_
    refine s_v (o_ldp (.sl none 4 (List.map c_Snap p0.Snaps)) ld22 rfl (hp_get 0 hk27 rfl) rfl) ?_
    refine s_v (o_lenm ln22 rfl) ?_
    refine s_v (o_bi rfl rfl rfl trivial) ?_
    refine s_nil ?_
    refine H29 _ _ ?_
    clear H29 K29
    refine AW_if' rfl (fun hc30 => ?_) (fun hc30 => ?_)
    · replace hm := ite_t hm hc30
      refine AW_skip ?_
      refine H28 _ _ ?_
      clear H28 K28
      refine AW_k fun K31 H31 => ?_
      refine AW_block ?_
      refine AW_k fun K32 H32 => ?_
      refine AW_reg ?_
      refine s_v (o_flp fd27_1 rfl rfl) ?_
      refine s_v (o_ldp (.sl none 4 (List.map c_Snap p0.Snaps)) ld22 rfl (hp_get 0 hk27 rfl) rfl) ?_
      refine s_v (o_mv (.sc (.int _ _)) rfl) ?_
      obtain ⟨x33, hx34, hm⟩ := bind_of hm
      refine s_v (o_ix hx34 el22 rfl rfl) ?_
      refine s_v (o_fl fd60_1 rfl rfl) ?_
      refine s_v (o_fl fd57_0 rfl rfl) ?_
      refine s_v (o_ld (.sc (.string x33.Man.Name)) ld9 rfl rfl) ?_
      refine s_v (o_mv (.sc (.string _)) rfl) ?_
      refine s_v (o_bs rfl rfl rfl trivial) ?_
      refine s_nil ?_
      refine H32 _ _ ?_
      clear H32 K32
      refine AW_if' rfl (fun hc35 => ?_) (fun hc35 => ?_)
      · replace hm := ite_t hm hc35
        refine AW_k fun K36 H36 => ?_
        refine AW_reg ?_
        refine s_v (o_mv (.sc (.int _ _)) rfl) ?_
        refine s_v (o_as (.sc (.int _ _)) rfl) ?_
        refine s_nil ?_
        refine H36 _ _ ?_
        clear H36 K36
        refine AW_ret ?_
        cases hm
        refine ⟨⟨nofun, nofun⟩, fun he => ?_⟩
        subst he
        exact Ret.of1 (.inl rfl) (rsT _ _ (.sc (.int _ _)) rfl) (hp_sub (List.nil_sublist _) hk27).1 (ALe.refl _ _) ⟨rfl, rfl⟩
      · replace hm := ite_f hm hc35
        refine AW_skip ?_
        refine H31 _ _ ?_
        clear H31 K31
        refine AW_reg ?_
        refine s_v (o_mv (.sc (.int _ _)) rfl) ?_
        refine s_v (o_bi rfl rfl rfl trivial) ?_
        refine s_v (o_as (.sc (.int _ _)) rfl) ?_
        refine s_nil ?_
        cases hm
        exact ⟨rfl, (), hk27, LeF.fm (Sub.refl _) (.cons (ALe.refl _ _) (.cons (ALe.refl _ _) (.cons (ALe.refl _ _) (.nil))))⟩
    · replace hm := ite_f hm hc30
      refine AW_exit ?_
      refine Seq_exit ?_
      cases hm
      exact ⟨rfl, (), hk27, LeF.fm (Sub.refl _) (.cons (ALe.refl _ _) (.cons (ALe.refl _ _) (.cons (ALe.refl _ _) (.nil))))⟩
  · rintro _ r37 fr' h' hk38 hm le
    refine H5 _ _ (le.aw ?_)
    clear le H5 K5
    refine AW_k fun K39 H39 => ?_
    refine AW_reg ?_
    refine s_v (o_as (.sc (.int _ _)) rfl) ?_
    refine s_nil ?_
    refine H39 _ _ ?_
    clear H39 K39
    refine AW_ret ?_
    cases hm
    exact Ret.of1 (.inl rfl) (rsT _ _ (.sc (.int _ _)) rfl) (hp_sub (List.nil_sublist _) hk38).1 (ALe.refl _ _) ⟨rfl, rfl⟩
theorem bd50 : bodied Try.prog 50 = true := by kernel_rfl
def M19_L0 (fuel : Nat) (p0 : TCatalog) (q148 : Int) : Option (Lp (Int) (Bool)) :=
  if (decide (q148 < (p0.Vols.length : Int))) = true then ((ix p0.Vols q148).bind fun x155 => after ((M59 fuel x155.Pool 0 1).bind fun y169 => if (!y169) = true then (some (.brk true)) else (M59 fuel x155.Epoch 0 1048576).bind fun y172 => some (.brk (!y172)) : Option (Lp (Bool) (Lp (Int) (Bool)))) fun j168 => if j168 = true then (some (.ret false)) else after (if (x155.State == 1) = true then (some (.brk (x155.State == 1))) else some (.brk (x155.State == 3)) : Option (Lp (Bool) (Lp (Int) (Bool)))) fun j181 => after (if j181 = true then (if (x155.Files != 0) = true then (some (.ret (.ret false))) else some (.brk ())) else if (x155.State == 2) = true then ((M59 fuel x155.Files 1 65535).bind fun y203 => if (!y203) = true then (some (.ret (.ret false))) else some (.brk ())) else some (.ret (.ret false)) : Option (Lp (Unit) (Lp (Int) (Bool)))) fun _ => some (.go (IntKind.wrap .i64 (q148 + 1)))) else some (.brk q148)
def M19_L3 (fuel : Nat) (p0 : TCatalog) (q358 : Int) : Option (Lp (Int) (Bool)) :=
  if (decide (q358 < (p0.Chunks.length : Int))) = true then ((ix p0.Chunks q358).bind fun x365 => after (if (decide (0 < q358)) = true then ((ix p0.Chunks (IntKind.wrap .i64 (q358 - 1))).bind fun x402 => (M60 fuel x402.Id x365.Id).bind fun y404 => if (!y404) = true then (some (.brk true)) else (M61 fuel p0 x365.Locs).bind fun y407 => if (!y407) = true then (some (.brk true)) else if x365.Staged = true then ((M59 fuel (x365.Data.length : Int) 1 64).bind fun y411 => if (!y411) = true then (some (.brk true)) else if (!x365.Staged) = true then (if (decide (0 < (x365.Data.length : Int))) = true then (some (.brk true)) else some (.brk ((x365.Locs.length : Int) == 0))) else some (.brk false)) else if (!x365.Staged) = true then (if (decide (0 < (x365.Data.length : Int))) = true then (some (.brk true)) else some (.brk ((x365.Locs.length : Int) == 0))) else some (.brk false)) else (M61 fuel p0 x365.Locs).bind fun y418 => if (!y418) = true then (some (.brk true)) else if x365.Staged = true then ((M59 fuel (x365.Data.length : Int) 1 64).bind fun y422 => if (!y422) = true then (some (.brk true)) else if (!x365.Staged) = true then (if (decide (0 < (x365.Data.length : Int))) = true then (some (.brk true)) else some (.brk ((x365.Locs.length : Int) == 0))) else some (.brk false)) else if (!x365.Staged) = true then (if (decide (0 < (x365.Data.length : Int))) = true then (some (.brk true)) else some (.brk ((x365.Locs.length : Int) == 0))) else some (.brk false) : Option (Lp (Bool) (Lp (Int) (Bool)))) fun j400 => if j400 = true then (some (.ret false)) else some (.go (IntKind.wrap .i64 (q358 + 1)))) else some (.brk q358)
def M19_L7 (fuel : Nat) (p0 : TCatalog) (y775 : (List Id32)) (q802 : Int) : Option (Lp (Int) (Lp (Int) (Bool))) :=
  if (decide (q802 < (y775.length : Int))) = true then ((ix y775 q802).bind fun x809 => (M64 fuel p0 x809).bind fun y811 => if (decide (y811 < 0)) = true then (some (.ret (.ret false))) else some (.go (IntKind.wrap .i64 (q802 + 1)))) else some (.brk q802)
def M19_L9 (fuel : Nat) (p0 : TCatalog) (x718 : TSnap) (q837 : Int) : Option (Lp (Int) (Lp (Int) (Bool))) :=
  if (decide (q837 < (p0.Exps.length : Int))) = true then ((ix p0.Exps q837).bind fun x844 => if (x844.Of == x718.Seq) = true then (some (.ret (.ret false))) else some (.go (IntKind.wrap .i64 (q837 + 1)))) else some (.brk q837)
def M19_L5 (fuel : Nat) (p0 : TCatalog) (q711 : Int) : Option (Lp (Int) (Bool)) :=
  if (decide (q711 < (p0.Snaps.length : Int))) = true then ((ix p0.Snaps q711).bind fun x718 => after (if (decide (x718.Seq < 0)) = true then (some (.brk true)) else if (decide (p0.Seq ≤ x718.Seq)) = true then (some (.brk true)) else if (decide (0 < q711)) = true then ((ix p0.Snaps (IntKind.wrap .i64 (q711 - 1))).bind fun x752 => if (decide (x718.Seq ≤ x752.Seq)) = true then (some (.brk true)) else (M62 fuel x718.Man).bind fun y755 => if (!y755) = true then (some (.brk true)) else (M61 fuel p0 x718.Locs).bind fun y758 => if (!y758) = true then (some (.brk true)) else (M50 fuel p0 x718.Man.Name).bind fun y761 => some (.brk (y761 != q711))) else (M62 fuel x718.Man).bind fun y763 => if (!y763) = true then (some (.brk true)) else (M61 fuel p0 x718.Locs).bind fun y766 => if (!y766) = true then (some (.brk true)) else (M50 fuel p0 x718.Man.Name).bind fun y769 => some (.brk (y769 != q711)) : Option (Lp (Bool) (Lp (Int) (Bool)))) fun j748 => if j748 = true then (some (.ret false)) else (M63 fuel x718.Man).bind fun y775 => after (loopM (fun s => M19_L7 fuel p0 y775 s) fuel 0) fun r815 => after (loopM (fun s => M19_L9 fuel p0 x718 s) fuel 0) fun r848 => some (.go (IntKind.wrap .i64 (q711 + 1)))) else some (.brk q711)
def M19_L11 (fuel : Nat) (p0 : TCatalog) (q951 : Int) : Option (Lp (Int) (Bool)) :=
  if (decide (q951 < (p0.Exps.length : Int))) = true then ((ix p0.Exps q951).bind fun x958 => after (if (decide (x958.Seq < 0)) = true then (some (.brk true)) else if (decide (p0.Seq ≤ x958.Seq)) = true then (some (.brk true)) else if (decide (0 < q951)) = true then ((ix p0.Exps (IntKind.wrap .i64 (q951 - 1))).bind fun x985 => if (decide (x958.Seq ≤ x985.Seq)) = true then (some (.brk true)) else if (decide (x958.Of < 0)) = true then (some (.brk true)) else if (decide (x958.Seq ≤ x958.Of)) = true then (some (.brk true)) else (M61 fuel p0 x958.Locs).bind fun y990 => if (!y990) = true then (some (.brk true)) else some (.brk ((x958.Locs.length : Int) == 0))) else if (decide (x958.Of < 0)) = true then (some (.brk true)) else if (decide (x958.Seq ≤ x958.Of)) = true then (some (.brk true)) else (M61 fuel p0 x958.Locs).bind fun y995 => if (!y995) = true then (some (.brk true)) else some (.brk ((x958.Locs.length : Int) == 0)) : Option (Lp (Bool) (Lp (Int) (Bool)))) fun j981 => if j981 = true then (some (.ret false)) else some (.go (IntKind.wrap .i64 (q951 + 1)))) else some (.brk q951)
def M19 (fuel : Nat) (p0 : TCatalog) : Option (Bool) :=
  after ((M59 fuel p0.Seq 0 1073741824).bind fun y16 => if (!y16) = true then (some (.brk true)) else if (decide (8 < (p0.Snaps.length : Int))) = true then (some (.brk true)) else if (decide (200 < (p0.Chunks.length : Int))) = true then (some (.brk true)) else if (decide (200 < (p0.Exps.length : Int))) = true then (some (.brk true)) else (M59 fuel (p0.Vols.length : Int) 1 8).bind fun y22 => some (.brk (!y22)) : Option (Lp (Bool) (Bool))) fun j15 => if j15 = true then (some false) else after (loopM (fun s => M19_L0 fuel p0 s) fuel 0) fun r209 => after (loopM (fun s => M19_L3 fuel p0 s) fuel 0) fun r432 => after (loopM (fun s => M19_L5 fuel p0 s) fuel 0) fun r850 => after (loopM (fun s => M19_L11 fuel p0 s) fuel 0) fun r1001 => some true
set_option maxRecDepth 100000 in
/-- cellarer/cellarerref18.Check -/
theorem W19 {fuel : Nat} {p0 : TCatalog} {o : Bool} (h : Heap) (hm : M19 fuel p0 = some o) :
    ACalls Try.prog 19 [.agg (c_Catalog p0)] h (fun r h' => r = .sc (.bool o) ∧ h' = h) := by
  refine ACalls_hp 296 [.tmp 2] Try.func19 rfl rfl rfl rfl ?_
  unfold M19 at hm
  refine AW_k fun K1 H1 => ?_
  refine AW_reg ?_
  refine s_op (a_box (HOk.nil _) rfl rfl fun k2 hk3 => ?_)
  refine s_v (o_as (.sc (.bool _)) rfl) ?_
  refine s_nil ?_
  refine H1 _ _ ?_
  clear H1 K1
  refine AW_k fun K5 H5 => ?_
  refine AW_k fun K6 H6 => ?_
  refine AW_joinG (n := 296) hm (σ := Bool) (τ := Unit) (fun g s => HOk h [(some k2, .obj 27 (c_Catalog p0))]) (fun g s => kp (kp (k0) 42 (.sc (.bool s))) 1 (.ptr k2 0)) (fun g s => hp h [(some k2, .obj 27 (c_Catalog p0))]) (fun x hm => ?_) ?_
  · refine AW_reg ?_
    refine s_v (o_flp fd27_0 rfl rfl) ?_
    refine s_v (o_ldp (.sc (.int .i64 p0.Seq)) ld3 rfl (hp_get 0 hk3 rfl) rfl) ?_
    obtain ⟨y16, hy17, hm⟩ := bind_of hm
    refine s_v (o_call (W59 _ hy17) rfl bd59 rfl) ?_
    refine s_v (o_not rfl) ?_
    refine s_v (o_mv (.sc (.bool _)) rfl) ?_
    rcases Bool.eq_false_or_eq_true (!y16) with hb18 | hb18
    · replace hm := ite_t hm hb18
      refine sg_n rfl rfl hb18 ?_
      refine sg_n rfl rfl hb18 ?_
      refine sg_n rfl rfl hb18 ?_
      refine sg_n rfl rfl hb18 ?_
      refine s_v (o_pkt (.sc (.bool _)) rfl hb18 rfl) ?_
      refine s_v (o_mv (.sc (.bool _)) rfl) ?_
      refine sg_n rfl rfl rfl ?_
      refine sg_n rfl rfl rfl ?_
      refine sg_n rfl rfl rfl ?_
      refine sg_n rfl rfl rfl ?_
      refine s_v (o_pkt (.sc (.bool _)) rfl rfl rfl) ?_
      refine s_v (o_mv (.sc (.bool _)) rfl) ?_
      refine sg_n rfl rfl rfl ?_
      refine sg_n rfl rfl rfl ?_
      refine sg_n rfl rfl rfl ?_
      refine sg_n rfl rfl rfl ?_
      refine s_v (o_pkt (.sc (.bool _)) rfl rfl rfl) ?_
      refine s_v (o_mv (.sc (.bool _)) rfl) ?_
      refine sg_n rfl rfl rfl ?_
      refine sg_n rfl rfl rfl ?_
      refine sg_n rfl rfl rfl ?_
      refine sg_n rfl rfl rfl ?_
      refine sg_n rfl rfl rfl ?_
      refine s_v (o_pkt (.sc (.bool _)) rfl rfl rfl) ?_
      refine s_nil ?_
      cases hm
      exact ⟨rfl, (), hk3, LeF.fm (Sub.refl _) (.cons (ALe.refl _ _) (.cons (ALe.refl _ _) (.nil)))⟩
    · replace hm := ite_f hm hb18
      refine sg_y rfl rfl hb18 ?_
      refine s_v (o_flp fd27_1 rfl rfl) ?_
      refine sg_y rfl rfl hb18 ?_
      refine s_v (o_ldp (.sl none 4 (List.map c_Snap p0.Snaps)) ld22 rfl (hp_get 0 hk3 rfl) rfl) ?_
      refine sg_y rfl rfl hb18 ?_
      refine s_v (o_lenm ln22 rfl) ?_
      refine sg_y rfl rfl hb18 ?_
      refine s_v (o_bi rfl rfl rfl trivial) ?_
      refine s_v (o_pkf (.sc (.bool _)) rfl hb18 rfl) ?_
      refine s_v (o_mv (.sc (.bool _)) rfl) ?_
      rcases Bool.eq_false_or_eq_true (decide (8 < (p0.Snaps.length : Int))) with hb19 | hb19
      · replace hm := ite_t hm hb19
        refine sg_n rfl rfl hb19 ?_
        refine sg_n rfl rfl hb19 ?_
        refine sg_n rfl rfl hb19 ?_
        refine sg_n rfl rfl hb19 ?_
        refine s_v (o_pkt (.sc (.bool _)) rfl hb19 rfl) ?_
        refine s_v (o_mv (.sc (.bool _)) rfl) ?_
        refine sg_n rfl rfl rfl ?_
        refine sg_n rfl rfl rfl ?_
        refine sg_n rfl rfl rfl ?_
        refine sg_n rfl rfl rfl ?_
        refine s_v (o_pkt (.sc (.bool _)) rfl rfl rfl) ?_
        refine s_v (o_mv (.sc (.bool _)) rfl) ?_
        refine sg_n rfl rfl rfl ?_
        refine sg_n rfl rfl rfl ?_
        refine sg_n rfl rfl rfl ?_
        refine sg_n rfl rfl rfl ?_
        refine sg_n rfl rfl rfl ?_
        refine s_v (o_pkt (.sc (.bool _)) rfl rfl rfl) ?_
        refine s_nil ?_
        cases hm
        exact ⟨rfl, (), hk3, LeF.fm (Sub.refl _) (.cons (ALe.refl _ _) (.cons (ALe.refl _ _) (.nil)))⟩
      · replace hm := ite_f hm hb19
        refine sg_y rfl rfl hb19 ?_
        refine s_v (o_flp fd27_2 rfl rfl) ?_
        refine sg_y rfl rfl hb19 ?_
        refine s_v (o_ldp (.sl none 35 (List.map c_Chunk p0.Chunks)) ld23 rfl (hp_get 0 hk3 rfl) rfl) ?_
        refine sg_y rfl rfl hb19 ?_
        refine s_v (o_lenm ln23 rfl) ?_
        refine sg_y rfl rfl hb19 ?_
        refine s_v (o_bi rfl rfl rfl trivial) ?_
        refine s_v (o_pkf (.sc (.bool _)) rfl hb19 rfl) ?_
        refine s_v (o_mv (.sc (.bool _)) rfl) ?_
        rcases Bool.eq_false_or_eq_true (decide (200 < (p0.Chunks.length : Int))) with hb20 | hb20
        · replace hm := ite_t hm hb20
          refine sg_n rfl rfl hb20 ?_
          refine sg_n rfl rfl hb20 ?_
          refine sg_n rfl rfl hb20 ?_
          refine sg_n rfl rfl hb20 ?_
          refine s_v (o_pkt (.sc (.bool _)) rfl hb20 rfl) ?_
          refine s_v (o_mv (.sc (.bool _)) rfl) ?_
          refine sg_n rfl rfl rfl ?_
          refine sg_n rfl rfl rfl ?_
          refine sg_n rfl rfl rfl ?_
          refine sg_n rfl rfl rfl ?_
          refine sg_n rfl rfl rfl ?_
          refine s_v (o_pkt (.sc (.bool _)) rfl rfl rfl) ?_
          refine s_nil ?_
          cases hm
          exact ⟨rfl, (), hk3, LeF.fm (Sub.refl _) (.cons (ALe.refl _ _) (.cons (ALe.refl _ _) (.nil)))⟩
        · replace hm := ite_f hm hb20
          refine sg_y rfl rfl hb20 ?_
          refine s_v (o_flp fd27_3 rfl rfl) ?_
          refine sg_y rfl rfl hb20 ?_
          refine s_v (o_ldp (.sl none 3 (List.map c_Exp p0.Exps)) ld24 rfl (hp_get 0 hk3 rfl) rfl) ?_
          refine sg_y rfl rfl hb20 ?_
          refine s_v (o_lenm ln24 rfl) ?_
          refine sg_y rfl rfl hb20 ?_
          refine s_v (o_bi rfl rfl rfl trivial) ?_
          refine s_v (o_pkf (.sc (.bool _)) rfl hb20 rfl) ?_
          refine s_v (o_mv (.sc (.bool _)) rfl) ?_
          rcases Bool.eq_false_or_eq_true (decide (200 < (p0.Exps.length : Int))) with hb21 | hb21
          · replace hm := ite_t hm hb21
            refine sg_n rfl rfl hb21 ?_
            refine sg_n rfl rfl hb21 ?_
            refine sg_n rfl rfl hb21 ?_
            refine sg_n rfl rfl hb21 ?_
            refine sg_n rfl rfl hb21 ?_
            refine s_v (o_pkt (.sc (.bool _)) rfl hb21 rfl) ?_
            refine s_nil ?_
            cases hm
            exact ⟨rfl, (), hk3, LeF.fm (Sub.refl _) (.cons (ALe.refl _ _) (.cons (ALe.refl _ _) (.nil)))⟩
          · replace hm := ite_f hm hb21
            refine sg_y rfl rfl hb21 ?_
            refine s_v (o_flp fd27_4 rfl rfl) ?_
            refine sg_y rfl rfl hb21 ?_
            refine s_v (o_ldp (.sl none 4 (List.map c_Vol p0.Vols)) ld25 rfl (hp_get 0 hk3 rfl) rfl) ?_
            refine sg_y rfl rfl hb21 ?_
            refine s_v (o_lenm ln25 rfl) ?_
            refine sg_y rfl rfl hb21 ?_
            obtain ⟨y22, hy23, hm⟩ := bind_of hm
            refine s_v (o_call (W59 _ hy23) rfl bd59 rfl) ?_
            refine sg_y rfl rfl hb21 ?_
            refine s_v (o_not rfl) ?_
            refine s_v (o_pkf (.sc (.bool _)) rfl hb21 rfl) ?_
            refine s_nil ?_
            cases hm
            exact ⟨rfl, (), hk3, LeF.fm (Sub.refl _) (.cons (ALe.refl _ _) (.cons (ALe.refl _ _) (.nil)))⟩
  · rintro _ j15 fr' h' hk24 hm le
    refine H6 _ _ (le.aw ?_)
    clear le H6 K6
    refine AW_if' rfl (fun hc25 => ?_) (fun hc25 => ?_)
    · replace hm := ite_t hm hc25
      refine AW_k fun K26 H26 => ?_
      refine AW_reg ?_
      refine s_v (o_as (.sc (.bool _)) rfl) ?_
      refine s_nil ?_
      refine H26 _ _ ?_
      clear H26 K26
      refine AW_ret ?_
      cases hm
      exact Ret.of1 (.inl rfl) (rsT _ _ (.sc (.bool _)) rfl) (hp_sub (List.nil_sublist _) hk24).1 (ALe.refl _ _) ⟨rfl, rfl⟩
    · replace hm := ite_f hm hc25
      refine AW_skip ?_
      refine H5 _ _ ?_
      clear H5 K5
      refine AW_k fun K27 H27 => ?_
      refine AW_k fun K28 H28 => ?_
      refine AW_reg ?_
      refine s_v (o_as (.sc (.int _ _)) rfl) ?_
      refine s_nil ?_
      refine H28 _ _ ?_
      clear H28 K28
      refine AW_loopG (n := 296) hm (σ := Int) (τ := Unit) (fun g s => HOk h [(some k2, .obj 27 (c_Catalog p0))]) (fun g s => kp (kp (k0) 3 (.sc (.int .i64 s))) 1 (.ptr k2 0)) (fun g s => hp h [(some k2, .obj 27 (c_Catalog p0))]) () hk24 (LeF.fm (Sub.refl _) (.cons (ALe.refl _ _) (.cons (ALe.refl _ _) (.nil)))) ?_ ?_
      · rintro _ q148 x hk149 hm
        replace hm : M19_L0 fuel p0 q148 = some x := hm
        unfold M19_L0 at hm
        refine AW_k fun K150 H150 => ?_
        refine AW_k fun K151 H151 => ?_
        refine AW_reg ?_
        refine s_v (o_mv (.sc (.int _ _)) rfl) ?_
        refine s_v (o_flp fd27_4 rfl rfl) ?_
        refine s_v (o_ldp (.sl none 4 (List.map c_Vol p0.Vols)) ld25 rfl (hp_get 0 hk149 rfl) rfl) ?_
        refine s_v (o_lenm ln25 rfl) ?_
        refine s_v (o_bi rfl rfl rfl trivial) ?_
        refine s_nil ?_
        refine H151 _ _ ?_
        clear H151 K151
        refine AW_if' rfl (fun hc152 => ?_) (fun hc152 => ?_)
        · replace hm := ite_t hm hc152
          refine AW_skip ?_
          refine H150 _ _ ?_
          clear H150 K150
          refine AW_k fun K153 H153 => ?_
          refine AW_block ?_
          refine AW_k fun K154 H154 => ?_
          refine AW_reg ?_
          refine s_v (o_flp fd27_4 rfl rfl) ?_
          refine s_v (o_ldp (.sl none 4 (List.map c_Vol p0.Vols)) ld25 rfl (hp_get 0 hk149 rfl) rfl) ?_
          refine s_v (o_mv (.sc (.int _ _)) rfl) ?_
          obtain ⟨x155, hx156, hm⟩ := bind_of hm
          refine s_v (o_ix hx156 el25 rfl rfl) ?_
          refine s_v (o_ld (.agg (c_Vol x155)) ld40 rfl rfl) ?_
          refine s_op (a_alloc ([.sc (.int .i64 0), .sc (.int .i64 0), .sc (.int .i64 0), .sc (.int .i64 0)]) hk149 zr40 rfl rfl fun k157 hk158 => ?_)
          refine s_op (a_store 0 (c_Vol x155) hk158 rfl rfl rfl rfl sz40 rfl rfl fun hk160 => ?_)
          refine s_nil ?_
          refine H154 _ _ ?_
          clear H154 K154
          refine AW_k fun K161 H161 => ?_
          refine AW_k fun K162 H162 => ?_
          refine AW_joinG (n := 296) hm (σ := Bool) (τ := Unit) (fun g s => HOk h [(some k157, .obj 40 (c_Vol x155)), (some k2, .obj 27 (c_Catalog p0))]) (fun g s => kp (kp (kp (kp (k0) 64 (.sc (.bool s))) 4 (.ptr k157 0)) 3 (.sc (.int .i64 q148))) 1 (.ptr k2 0)) (fun g s => hp h [(some k157, .obj 40 (c_Vol x155)), (some k2, .obj 27 (c_Catalog p0))]) (fun x hm => ?_) ?_
          · refine AW_reg ?_
            refine s_v (o_flp fd40_0 rfl rfl) ?_
            refine s_v (o_ldp (.sc (.int .i64 x155.Pool)) ld3 rfl (hp_get 0 hk160 rfl) rfl) ?_
            obtain ⟨y169, hy170, hm⟩ := bind_of hm
            refine s_v (o_call (W59 _ hy170) rfl bd59 rfl) ?_
            refine s_v (o_not rfl) ?_
            refine s_v (o_mv (.sc (.bool _)) rfl) ?_
            rcases Bool.eq_false_or_eq_true (!y169) with hb171 | hb171
            · replace hm := ite_t hm hb171
              refine sg_n rfl rfl hb171 ?_
              refine sg_n rfl rfl hb171 ?_
              refine sg_n rfl rfl hb171 ?_
              refine sg_n rfl rfl hb171 ?_
              refine s_v (o_pkt (.sc (.bool _)) rfl hb171 rfl) ?_
              refine s_nil ?_
              cases hm
              exact ⟨rfl, (), hk160, LeF.fm (Sub.refl _) (.cons (ALe.refl _ _) (.cons (ALe.refl _ _) (.cons (ALe.refl _ _) (.cons (ALe.refl _ _) (.nil)))))⟩
            · replace hm := ite_f hm hb171
              refine sg_y rfl rfl hb171 ?_
              refine s_v (o_flp fd40_1 rfl rfl) ?_
              refine sg_y rfl rfl hb171 ?_
              refine s_v (o_ldp (.sc (.int .i64 x155.Epoch)) ld3 rfl (hp_get 0 hk160 rfl) rfl) ?_
              refine sg_y rfl rfl hb171 ?_
              obtain ⟨y172, hy173, hm⟩ := bind_of hm
              refine s_v (o_call (W59 _ hy173) rfl bd59 rfl) ?_
              refine sg_y rfl rfl hb171 ?_
              refine s_v (o_not rfl) ?_
              refine s_v (o_pkf (.sc (.bool _)) rfl hb171 rfl) ?_
              refine s_nil ?_
              cases hm
              exact ⟨rfl, (), hk160, LeF.fm (Sub.refl _) (.cons (ALe.refl _ _) (.cons (ALe.refl _ _) (.cons (ALe.refl _ _) (.cons (ALe.refl _ _) (.nil)))))⟩
          · rintro _ j168 fr' h' hk174 hm le
            refine H162 _ _ (le.aw ?_)
            clear le H162 K162
            refine AW_if' rfl (fun hc175 => ?_) (fun hc175 => ?_)
            · replace hm := ite_t hm hc175
              refine AW_k fun K176 H176 => ?_
              refine AW_reg ?_
              refine s_v (o_as (.sc (.bool _)) rfl) ?_
              refine s_nil ?_
              refine H176 _ _ ?_
              clear H176 K176
              refine AW_ret ?_
              cases hm
              refine ⟨⟨nofun, nofun⟩, fun he => ?_⟩
              subst he
              exact Ret.of1 (.inl rfl) (rsT _ _ (.sc (.bool _)) rfl) (hp_sub (List.nil_sublist _) hk174).1 (ALe.refl _ _) ⟨rfl, rfl⟩
            · replace hm := ite_f hm hc175
              refine AW_skip ?_
              refine H161 _ _ ?_
              clear H161 K161
              refine AW_k fun K177 H177 => ?_
              refine AW_reg ?_
              refine s_v (o_flp fd40_2 rfl rfl) ?_
              refine s_v (o_ldp (.sc (.int .i64 x155.State)) ld3 rfl (hp_get 0 hk174 rfl) rfl) ?_
              refine s_nil ?_
              refine H177 _ _ ?_
              clear H177 K177
              refine AW_block ?_
              refine AW_k fun K178 H178 => ?_
              refine AW_k fun K179 H179 => ?_
              refine AW_reg ?_
              refine s_v (o_bi rfl rfl rfl trivial) ?_
              refine s_v (o_as (.sc (.bool _)) rfl) ?_
              refine s_nil ?_
              refine H179 _ _ ?_
              clear H179 K179
              refine AW_joinG (n := 296) hm (σ := Bool) (τ := Unit) (fun g s => HOk h [(some k157, .obj 40 (c_Vol x155)), (some k2, .obj 27 (c_Catalog p0))]) (fun g s => kp (kp (kp (kp (kp (k0) 67 (.sc (.bool s))) 66 (.sc (.int .i64 x155.State))) 4 (.ptr k157 0)) 3 (.sc (.int .i64 q148))) 1 (.ptr k2 0)) (fun g s => hp h [(some k157, .obj 40 (c_Vol x155)), (some k2, .obj 27 (c_Catalog p0))]) (fun x hm => ?_) ?_
              · refine AW_if' rfl (fun hc182 => ?_) (fun hc182 => ?_)
                · replace hm := ite_t hm hc182
                  refine AW_skip ?_
                  cases hm
                  exact ⟨rfl, (), hk174, LeF.fm (Sub.refl _) (.cons (ALe.refl _ _) (.cons (ALe.refl _ _) (.cons (ALe.refl _ _) (.cons (ALe.refl _ _) (.cons (ALe.refl _ _) (.nil))))))⟩
                · replace hm := ite_f hm hc182
                  refine AW_reg ?_
                  refine s_v (o_bi rfl rfl rfl trivial) ?_
                  refine s_v (o_as (.sc (.bool _)) rfl) ?_
                  refine s_nil ?_
                  cases hm
                  exact ⟨rfl, (), hk174, LeF.fm (Sub.refl _) (.cons (ALe.refl _ _) (.cons (ALe.refl _ _) (.cons (ALe.refl _ _) (.cons (ALe.refl _ _) (.cons (ALe.refl _ _) (.nil))))))⟩
              · rintro _ j181 fr' h' hk183 hm le
                refine H178 _ _ (le.aw ?_)
                clear le H178 K178
                refine AW_joinG (n := 296) hm (σ := Unit) (τ := Unit) (fun g s => HOk h [(some k157, .obj 40 (c_Vol x155)), (some k2, .obj 27 (c_Catalog p0))]) (fun g s => kp (kp (k0) 3 (.sc (.int .i64 q148))) 1 (.ptr k2 0)) (fun g s => hp h [(some k157, .obj 40 (c_Vol x155)), (some k2, .obj 27 (c_Catalog p0))]) (fun x hm => ?_) ?_
                · refine AW_if' rfl (fun hc196 => ?_) (fun hc196 => ?_)
                  · replace hm := ite_t hm hc196
                    refine AW_k fun K197 H197 => ?_
                    refine AW_reg ?_
                    refine s_v (o_flp fd40_3 rfl rfl) ?_
                    refine s_v (o_ldp (.sc (.int .i64 x155.Files)) ld3 rfl (hp_get 0 hk183 rfl) rfl) ?_
                    refine s_v (o_bi rfl rfl rfl trivial) ?_
                    refine s_nil ?_
                    refine H197 _ _ ?_
                    clear H197 K197
                    refine AW_if' rfl (fun hc198 => ?_) (fun hc198 => ?_)
                    · replace hm := ite_t hm hc198
                      refine AW_k fun K199 H199 => ?_
                      refine AW_reg ?_
                      refine s_v (o_as (.sc (.bool _)) rfl) ?_
                      refine s_nil ?_
                      refine H199 _ _ ?_
                      clear H199 K199
                      refine AW_ret ?_
                      cases hm
                      refine ⟨nofun, fun he => ?_⟩
                      subst he
                      refine ⟨⟨nofun, nofun⟩, fun he => ?_⟩
                      subst he
                      exact Ret.of1 (.inl rfl) (rsT _ _ (.sc (.bool _)) rfl) (hp_sub (List.nil_sublist _) hk183).1 (ALe.refl _ _) ⟨rfl, rfl⟩
                    · replace hm := ite_f hm hc198
                      refine AW_skip ?_
                      cases hm
                      exact ⟨rfl, (), hk183, LeF.fm (Sub.refl _) (.cons (ALe.refl _ _) (.cons (ALe.refl _ _) (.nil)))⟩
                  · replace hm := ite_f hm hc196
                    refine AW_k fun K200 H200 => ?_
                    refine AW_reg ?_
                    refine s_v (o_bi rfl rfl rfl trivial) ?_
                    refine s_v (o_as (.sc (.bool _)) rfl) ?_
                    refine s_nil ?_
                    refine H200 _ _ ?_
                    clear H200 K200
                    refine AW_if' rfl (fun hc201 => ?_) (fun hc201 => ?_)
                    · replace hm := ite_t hm hc201
                      refine AW_k fun K202 H202 => ?_
                      refine AW_reg ?_
                      refine s_v (o_flp fd40_3 rfl rfl) ?_
                      refine s_v (o_ldp (.sc (.int .i64 x155.Files)) ld3 rfl (hp_get 0 hk183 rfl) rfl) ?_
                      obtain ⟨y203, hy204, hm⟩ := bind_of hm
                      refine s_v (o_call (W59 _ hy204) rfl bd59 rfl) ?_
                      refine s_v (o_not rfl) ?_
                      refine s_nil ?_
                      refine H202 _ _ ?_
                      clear H202 K202
                      refine AW_if' rfl (fun hc205 => ?_) (fun hc205 => ?_)
                      · replace hm := ite_t hm hc205
                        refine AW_k fun K206 H206 => ?_
                        refine AW_reg ?_
                        refine s_v (o_as (.sc (.bool _)) rfl) ?_
                        refine s_nil ?_
                        refine H206 _ _ ?_
                        clear H206 K206
                        refine AW_ret ?_
                        cases hm
                        refine ⟨nofun, fun he => ?_⟩
                        subst he
                        refine ⟨⟨nofun, nofun⟩, fun he => ?_⟩
                        subst he
                        exact Ret.of1 (.inl rfl) (rsT _ _ (.sc (.bool _)) rfl) (hp_sub (List.nil_sublist _) hk183).1 (ALe.refl _ _) ⟨rfl, rfl⟩
                      · replace hm := ite_f hm hc205
                        refine AW_skip ?_
                        cases hm
                        exact ⟨rfl, (), hk183, LeF.fm (Sub.refl _) (.cons (ALe.refl _ _) (.cons (ALe.refl _ _) (.nil)))⟩
                    · replace hm := ite_f hm hc201
                      refine AW_k fun K207 H207 => ?_
                      refine AW_reg ?_
                      refine s_v (o_as (.sc (.bool _)) rfl) ?_
                      refine s_nil ?_
                      refine H207 _ _ ?_
                      clear H207 K207
                      refine AW_ret ?_
                      cases hm
                      refine ⟨nofun, fun he => ?_⟩
                      subst he
                      refine ⟨⟨nofun, nofun⟩, fun he => ?_⟩
                      subst he
                      exact Ret.of1 (.inl rfl) (rsT _ _ (.sc (.bool _)) rfl) (hp_sub (List.nil_sublist _) hk183).1 (ALe.refl _ _) ⟨rfl, rfl⟩
                · rintro _ _ fr' h' hk208 hm le
                  refine H153 _ _ (le.aw ?_)
                  clear le H153 K153
                  refine AW_reg ?_
                  refine s_v (o_mv (.sc (.int _ _)) rfl) ?_
                  refine s_v (o_bi rfl rfl rfl trivial) ?_
                  refine s_v (o_as (.sc (.int _ _)) rfl) ?_
                  refine s_nil ?_
                  cases hm
                  exact ⟨rfl, (), (hp_sub (.cons _ (.refl _)) hk208).2, LeF.fm ((hp_sub (.cons _ (.refl _)) hk208).1) (.cons (ALe.refl _ _) (.cons (ALe.refl _ _) (.nil)))⟩
        · replace hm := ite_f hm hc152
          refine AW_exit ?_
          refine Seq_exit ?_
          cases hm
          exact ⟨rfl, (), hk149, LeF.fm (Sub.refl _) (.cons (ALe.refl _ _) (.cons (ALe.refl _ _) (.nil)))⟩
      · rintro _ r209 fr' h' hk210 hm le
        refine H27 _ _ (le.aw ?_)
        clear le H27 K27
        refine AW_k fun K211 H211 => ?_
        refine AW_k fun K212 H212 => ?_
        refine AW_reg ?_
        refine s_v (o_as (.sc (.int _ _)) rfl) ?_
        refine s_nil ?_
        refine H212 _ _ ?_
        clear H212 K212
        refine AW_loopG (n := 296) hm (σ := Int) (τ := Unit) (fun g s => HOk h [(some k2, .obj 27 (c_Catalog p0))]) (fun g s => kp (kp (k0) 5 (.sc (.int .i64 s))) 1 (.ptr k2 0)) (fun g s => hp h [(some k2, .obj 27 (c_Catalog p0))]) () hk210 (LeF.fm (Sub.refl _) (.cons (ALe.refl _ _) (.cons (ALe.refl _ _) (.nil)))) ?_ ?_
        · rintro _ q358 x hk359 hm
          replace hm : M19_L3 fuel p0 q358 = some x := hm
          unfold M19_L3 at hm
          refine AW_k fun K360 H360 => ?_
          refine AW_k fun K361 H361 => ?_
          refine AW_reg ?_
          refine s_v (o_mv (.sc (.int _ _)) rfl) ?_
          refine s_v (o_flp fd27_2 rfl rfl) ?_
          refine s_v (o_ldp (.sl none 35 (List.map c_Chunk p0.Chunks)) ld23 rfl (hp_get 0 hk359 rfl) rfl) ?_
          refine s_v (o_lenm ln23 rfl) ?_
          refine s_v (o_bi rfl rfl rfl trivial) ?_
          refine s_nil ?_
          refine H361 _ _ ?_
          clear H361 K361
          refine AW_if' rfl (fun hc362 => ?_) (fun hc362 => ?_)
          · replace hm := ite_t hm hc362
            refine AW_skip ?_
            refine H360 _ _ ?_
            clear H360 K360
            refine AW_k fun K363 H363 => ?_
            refine AW_block ?_
            refine AW_k fun K364 H364 => ?_
            refine AW_reg ?_
            refine s_v (o_flp fd27_2 rfl rfl) ?_
            refine s_v (o_ldp (.sl none 35 (List.map c_Chunk p0.Chunks)) ld23 rfl (hp_get 0 hk359 rfl) rfl) ?_
            refine s_v (o_mv (.sc (.int _ _)) rfl) ?_
            obtain ⟨x365, hx366, hm⟩ := bind_of hm
            refine s_v (o_ix hx366 el23 rfl rfl) ?_
            refine s_v (o_ld (.agg (c_Chunk x365)) ld63 rfl rfl) ?_
            refine s_op (a_alloc (c_id idZ ++ [.sc (.bool false), .sc (.slice none 0 0), .sc (.slice none 0 0)]) hk359 zr63 rfl rfl fun k367 hk368 => ?_)
            refine s_op (a_store 0 (c_Chunk x365) hk368 rfl rfl rfl rfl sz63 rfl rfl fun hk370 => ?_)
            refine s_nil ?_
            refine H364 _ _ ?_
            clear H364 K364
            refine AW_k fun K371 H371 => ?_
            refine AW_joinG (n := 296) hm (σ := Bool) (τ := Unit) (fun g s => HOk h [(some k367, .obj 63 (c_Chunk x365)), (some k2, .obj 27 (c_Catalog p0))]) (fun g s => kp (kp (kp (k0) 140 (.sc (.bool s))) 5 (.sc (.int .i64 q358))) 1 (.ptr k2 0)) (fun g s => hp h [(some k367, .obj 63 (c_Chunk x365)), (some k2, .obj 27 (c_Catalog p0))]) (fun x hm => ?_) ?_
            · refine AW_region_q [(some 91, [5], []), (some 92, [91], [0]), (some 93, [92], [1]), (some 94, [1, 93], [2]), (some 95, [94, 93], [3, 2]), (some 96, [5, 93], [2]), (some 97, [96, 93], [5, 2]), (some 98, [95, 97, 93], [4, 6, 2]), (some 99, [98, 93], [7, 2]), (some 100, [99, 93], [8, 2]), (some 101, [6, 93], [2]), (some 102, [101, 93], [10, 2]), (some 103, [100, 102, 93], [9, 11, 2, 2]), (some 104, [103, 93], [12, 2]), (some 105, [93, 104], [2, 13]), (some 106, [105], [14, 12]), (some 107, [1, 106], [15]), (some 108, [6, 106], [15]), (some 109, [108, 106], [17, 15]), (some 110, [107, 109, 106], [16, 18, 15, 15]), (some 111, [110, 106], [19, 15]), (some 112, [106, 111], [15, 20]), (some 113, [112], [21, 19]), (some 114, [6, 113], [22]), (some 115, [114, 113], [23, 22]), (some 116, [115, 113], [24, 22, 22]), (some 117, [6, 116], [25]), (some 118, [117, 116], [26, 25]), (some 119, [118, 116], [27, 25]), (some 120, [119, 116], [28, 25, 25]), (some 121, [120, 116], [29, 25]), (some 122, [116, 121, 113], [25, 30, 22]), (some 123, [113, 122], [22, 31]), (some 124, [123], [32, 29]), (some 125, [6, 124], [33]), (some 126, [125, 124], [34, 33]), (some 127, [126, 124], [35, 33]), (some 128, [127, 124], [36, 33, 33]), (some 129, [6, 128], [37]), (some 130, [129, 128], [38, 37]), (some 131, [130, 128], [39, 37]), (some 132, [131, 128], [40, 37]), (some 133, [132, 128], [41, 37, 37]), (some 134, [6, 133], [42]), (some 135, [134, 133], [43, 42]), (some 136, [135, 133], [44, 42]), (some 137, [136, 133], [45, 42]), (some 138, [133, 137, 128], [42, 46, 37]), (some 139, [128, 138, 124], [37, 47, 33]), (some 140, [124, 139], [33, 48])] mixed (by kernel_rfl) (by kernel_rfl) ?_
              refine q_v (o_mv (.sc (.int _ _)) rfl) ?_
              refine q_v (o_bi rfl rfl rfl trivial) ?_
              refine q_v (o_mv (.sc (.bool _)) rfl) ?_
              rcases Bool.eq_false_or_eq_true (decide (0 < q358)) with hb401 | hb401
              · replace hm := ite_t hm hb401
                refine qg_y rfl rfl hb401 ?_
                refine q_v (o_flp fd27_2 rfl rfl) ?_
                refine qg_y rfl rfl hb401 ?_
                refine q_v (o_ldp (.sl none 35 (List.map c_Chunk p0.Chunks)) ld23 rfl (hp_get 1 hk370 rfl) rfl) ?_
                refine qg_y rfl rfl hb401 ?_
                refine q_v (o_mv (.sc (.int _ _)) rfl) ?_
                refine qg_y rfl rfl hb401 ?_
                refine q_v (o_bi rfl rfl rfl trivial) ?_
                refine qg_y rfl rfl hb401 ?_
                obtain ⟨x402, hx403, hm⟩ := bind_of hm
                refine q_v (o_ix hx403 el23 rfl rfl) ?_
                refine qg_y rfl rfl hb401 ?_
                refine q_v (o_fl fd63_0 rfl rfl) ?_
                refine qg_y rfl rfl hb401 ?_
                refine q_v (o_ld (.agg (c_id x402.Id)) ld61 rfl rfl) ?_
                refine qg_y rfl rfl hb401 ?_
                refine q_v (o_flp fd63_0 rfl rfl) ?_
                refine qg_y rfl rfl hb401 ?_
                refine q_v (o_ldp (.agg (c_id x365.Id)) ld61 rfl (hp_get 0 hk370 rfl) rfl) ?_
                refine qg_y rfl rfl hb401 ?_
                obtain ⟨y404, hy405, hm⟩ := bind_of hm
                refine q_v (o_call (W60 _ hy405) rfl bd60 rfl) ?_
                refine qg_y rfl rfl hb401 ?_
                refine q_v (o_not rfl) ?_
                refine q_v (o_pkt (.sc (.bool _)) rfl hb401 rfl) ?_
                refine q_v (o_mv (.sc (.bool _)) rfl) ?_
                rcases Bool.eq_false_or_eq_true (!y404) with hb406 | hb406
                · replace hm := ite_t hm hb406
                  refine qg_n rfl rfl hb406 ?_
                  refine qg_n rfl rfl hb406 ?_
                  refine qg_n rfl rfl hb406 ?_
                  refine qg_n rfl rfl hb406 ?_
                  refine qg_n rfl rfl hb406 ?_
                  refine q_v (o_pkt (.sc (.bool _)) rfl hb406 rfl) ?_
                  refine q_v (o_mv (.sc (.bool _)) rfl) ?_
                  refine qg_n rfl rfl rfl ?_
                  refine qg_n rfl rfl rfl ?_
                  refine qg_n rfl rfl rfl ?_
                  refine qg_u rfl rfl ?_
                  refine qg_u rfl rfl ?_
                  refine qg_u rfl rfl ?_
                  refine qg_u rfl rfl ?_
                  refine qg_u rfl rfl ?_
                  refine qg_n rfl rfl rfl ?_
                  refine q_v (o_pkt (.sc (.bool _)) rfl rfl rfl) ?_
                  refine q_v (o_mv (.sc (.bool _)) rfl) ?_
                  refine qg_n rfl rfl rfl ?_
                  refine qg_n rfl rfl rfl ?_
                  refine qg_n rfl rfl rfl ?_
                  refine qg_n rfl rfl rfl ?_
                  refine qg_u rfl rfl ?_
                  refine qg_u rfl rfl ?_
                  refine qg_u rfl rfl ?_
                  refine qg_u rfl rfl ?_
                  refine qg_u rfl rfl ?_
                  refine qg_u rfl rfl ?_
                  refine qg_u rfl rfl ?_
                  refine qg_u rfl rfl ?_
                  refine qg_u rfl rfl ?_
                  refine qg_u rfl rfl ?_
                  refine qg_n rfl rfl rfl ?_
                  refine q_v (o_pkt (.sc (.bool _)) rfl rfl rfl) ?_
                  refine q_nil ?_
                  cases hm
                  exact ⟨rfl, (), hk370, LeF.fm (Sub.refl _) (.cons (ALe.refl _ _) (.cons (ALe.refl _ _) (.cons (ALe.refl _ _) (.nil))))⟩
                · replace hm := ite_f hm hb406
                  refine qg_y rfl rfl hb406 ?_
                  refine q_v (o_ldp (.agg (c_Catalog p0)) ld27 rfl (hp_get 1 hk370 rfl) rfl) ?_
                  refine qg_y rfl rfl hb406 ?_
                  refine q_v (o_flp fd63_3 rfl rfl) ?_
                  refine qg_y rfl rfl hb406 ?_
                  refine q_v (o_ldp (.sl none 4 (List.map c_Loc x365.Locs)) ld58 rfl (hp_get 0 hk370 rfl) rfl) ?_
                  refine qg_y rfl rfl hb406 ?_
                  obtain ⟨y407, hy408, hm⟩ := bind_of hm
                  refine q_v (o_call (W61 _ hy408) rfl bd61 rfl) ?_
                  refine qg_y rfl rfl hb406 ?_
                  refine q_v (o_not rfl) ?_
                  refine q_v (o_pkf (.sc (.bool _)) rfl hb406 rfl) ?_
                  refine q_v (o_mv (.sc (.bool _)) rfl) ?_
                  rcases Bool.eq_false_or_eq_true (!y407) with hb409 | hb409
                  · replace hm := ite_t hm hb409
                    refine qg_n rfl rfl hb409 ?_
                    refine qg_n rfl rfl hb409 ?_
                    refine qg_n rfl rfl hb409 ?_
                    refine qg_u rfl rfl ?_
                    refine qg_u rfl rfl ?_
                    refine qg_u rfl rfl ?_
                    refine qg_u rfl rfl ?_
                    refine qg_u rfl rfl ?_
                    refine qg_n rfl rfl hb409 ?_
                    refine q_v (o_pkt (.sc (.bool _)) rfl hb409 rfl) ?_
                    refine q_v (o_mv (.sc (.bool _)) rfl) ?_
                    refine qg_n rfl rfl rfl ?_
                    refine qg_n rfl rfl rfl ?_
                    refine qg_n rfl rfl rfl ?_
                    refine qg_n rfl rfl rfl ?_
                    refine qg_u rfl rfl ?_
                    refine qg_u rfl rfl ?_
                    refine qg_u rfl rfl ?_
                    refine qg_u rfl rfl ?_
                    refine qg_u rfl rfl ?_
                    refine qg_u rfl rfl ?_
                    refine qg_u rfl rfl ?_
                    refine qg_u rfl rfl ?_
                    refine qg_u rfl rfl ?_
                    refine qg_u rfl rfl ?_
                    refine qg_n rfl rfl rfl ?_
                    refine q_v (o_pkt (.sc (.bool _)) rfl rfl rfl) ?_
                    refine q_nil ?_
                    cases hm
                    exact ⟨rfl, (), hk370, LeF.fm (Sub.refl _) (.cons (ALe.refl _ _) (.cons (ALe.refl _ _) (.cons (ALe.refl _ _) (.nil))))⟩
                  · replace hm := ite_f hm hb409
                    refine qg_y rfl rfl hb409 ?_
                    refine q_v (o_flp fd63_1 rfl rfl) ?_
                    refine qg_y rfl rfl hb409 ?_
                    refine q_v (o_ldp (.sc (.bool x365.Staged)) ld4 rfl (hp_get 0 hk370 rfl) rfl) ?_
                    refine qg_y rfl rfl hb409 ?_
                    refine q_v (o_mv (.sc (.bool _)) rfl) ?_
                    rcases Bool.eq_false_or_eq_true x365.Staged with hb410 | hb410
                    · replace hm := ite_t hm hb410
                      refine qg_y rfl rfl hb410 ?_
                      refine q_v (o_flp fd63_2 rfl rfl) ?_
                      refine qg_y rfl rfl hb410 ?_
                      refine q_v (o_ldp (.sl none 1 (List.map c_u8 x365.Data)) ld52 rfl (hp_get 0 hk370 rfl) rfl) ?_
                      refine qg_y rfl rfl hb410 ?_
                      refine q_v (o_lenm ln52 rfl) ?_
                      refine qg_y rfl rfl hb410 ?_
                      obtain ⟨y411, hy412, hm⟩ := bind_of hm
                      refine q_v (o_call (W59 _ hy412) rfl bd59 rfl) ?_
                      refine qg_y rfl rfl hb410 ?_
                      refine q_v (o_not rfl) ?_
                      refine qg_y rfl rfl hb409 ?_
                      refine q_v (o_pkt (.sc (.bool _)) rfl hb410 rfl) ?_
                      refine q_v (o_pkf (.sc (.bool _)) rfl hb409 rfl) ?_
                      refine q_v (o_mv (.sc (.bool _)) rfl) ?_
                      rcases Bool.eq_false_or_eq_true (!y411) with hb413 | hb413
                      · replace hm := ite_t hm hb413
                        refine qg_n rfl rfl hb413 ?_
                        refine qg_n rfl rfl hb413 ?_
                        refine qg_n rfl rfl hb413 ?_
                        refine qg_n rfl rfl hb413 ?_
                        refine qg_u rfl rfl ?_
                        refine qg_u rfl rfl ?_
                        refine qg_u rfl rfl ?_
                        refine qg_u rfl rfl ?_
                        refine qg_u rfl rfl ?_
                        refine qg_u rfl rfl ?_
                        refine qg_u rfl rfl ?_
                        refine qg_u rfl rfl ?_
                        refine qg_u rfl rfl ?_
                        refine qg_u rfl rfl ?_
                        refine qg_n rfl rfl hb413 ?_
                        refine q_v (o_pkt (.sc (.bool _)) rfl hb413 rfl) ?_
                        refine q_nil ?_
                        cases hm
                        exact ⟨rfl, (), hk370, LeF.fm (Sub.refl _) (.cons (ALe.refl _ _) (.cons (ALe.refl _ _) (.cons (ALe.refl _ _) (.nil))))⟩
                      · replace hm := ite_f hm hb413
                        refine qg_y rfl rfl hb413 ?_
                        refine q_v (o_flp fd63_1 rfl rfl) ?_
                        refine qg_y rfl rfl hb413 ?_
                        refine q_v (o_ldp (.sc (.bool x365.Staged)) ld4 rfl (hp_get 0 hk370 rfl) rfl) ?_
                        refine qg_y rfl rfl hb413 ?_
                        refine q_v (o_not rfl) ?_
                        refine qg_y rfl rfl hb413 ?_
                        refine q_v (o_mv (.sc (.bool _)) rfl) ?_
                        rcases Bool.eq_false_or_eq_true (!x365.Staged) with hb414 | hb414
                        · replace hm := ite_t hm hb414
                          refine qg_y rfl rfl hb414 ?_
                          refine q_v (o_flp fd63_2 rfl rfl) ?_
                          refine qg_y rfl rfl hb414 ?_
                          refine q_v (o_ldp (.sl none 1 (List.map c_u8 x365.Data)) ld52 rfl (hp_get 0 hk370 rfl) rfl) ?_
                          refine qg_y rfl rfl hb414 ?_
                          refine q_v (o_lenm ln52 rfl) ?_
                          refine qg_y rfl rfl hb414 ?_
                          refine q_v (o_bi rfl rfl rfl trivial) ?_
                          refine qg_y rfl rfl hb414 ?_
                          refine q_v (o_mv (.sc (.bool _)) rfl) ?_
                          rcases Bool.eq_false_or_eq_true (decide (0 < (x365.Data.length : Int))) with hb415 | hb415
                          · replace hm := ite_t hm hb415
                            refine qg_n rfl rfl hb415 ?_
                            refine qg_n rfl rfl hb415 ?_
                            refine qg_n rfl rfl hb415 ?_
                            refine qg_n rfl rfl hb415 ?_
                            refine qg_y rfl rfl hb414 ?_
                            refine q_v (o_pkt (.sc (.bool _)) rfl hb415 rfl) ?_
                            refine qg_y rfl rfl hb413 ?_
                            refine q_v (o_pkt (.sc (.bool _)) rfl hb414 rfl) ?_
                            refine q_v (o_pkf (.sc (.bool _)) rfl hb413 rfl) ?_
                            refine q_nil ?_
                            cases hm
                            exact ⟨rfl, (), hk370, LeF.fm (Sub.refl _) (.cons (ALe.refl _ _) (.cons (ALe.refl _ _) (.cons (ALe.refl _ _) (.nil))))⟩
                          · replace hm := ite_f hm hb415
                            refine qg_y rfl rfl hb415 ?_
                            refine q_v (o_flp fd63_3 rfl rfl) ?_
                            refine qg_y rfl rfl hb415 ?_
                            refine q_v (o_ldp (.sl none 4 (List.map c_Loc x365.Locs)) ld58 rfl (hp_get 0 hk370 rfl) rfl) ?_
                            refine qg_y rfl rfl hb415 ?_
                            refine q_v (o_lenm ln58 rfl) ?_
                            refine qg_y rfl rfl hb415 ?_
                            refine q_v (o_bi rfl rfl rfl trivial) ?_
                            refine qg_y rfl rfl hb414 ?_
                            refine q_v (o_pkf (.sc (.bool _)) rfl hb415 rfl) ?_
                            refine qg_y rfl rfl hb413 ?_
                            refine q_v (o_pkt (.sc (.bool _)) rfl hb414 rfl) ?_
                            refine q_v (o_pkf (.sc (.bool _)) rfl hb413 rfl) ?_
                            refine q_nil ?_
                            cases hm
                            exact ⟨rfl, (), hk370, LeF.fm (Sub.refl _) (.cons (ALe.refl _ _) (.cons (ALe.refl _ _) (.cons (ALe.refl _ _) (.nil))))⟩
                        · replace hm := ite_f hm hb414
                          refine qg_n rfl rfl hb414 ?_
                          refine qg_n rfl rfl hb414 ?_
                          refine qg_n rfl rfl hb414 ?_
                          refine qg_n rfl rfl hb414 ?_
                          refine qg_n rfl rfl hb414 ?_
                          refine qg_u rfl rfl ?_
                          refine qg_u rfl rfl ?_
                          refine qg_u rfl rfl ?_
                          refine qg_u rfl rfl ?_
                          refine qg_n rfl rfl hb414 ?_
                          refine qg_y rfl rfl hb413 ?_
                          refine q_v (o_pkf (.sc (.bool _)) rfl hb414 rfl) ?_
                          refine q_v (o_pkf (.sc (.bool _)) rfl hb413 rfl) ?_
                          refine q_nil ?_
                          cases hm
                          exact ⟨rfl, (), hk370, LeF.fm (Sub.refl _) (.cons (ALe.refl _ _) (.cons (ALe.refl _ _) (.cons (ALe.refl _ _) (.nil))))⟩
                    · replace hm := ite_f hm hb410
                      refine qg_n rfl rfl hb410 ?_
                      refine qg_n rfl rfl hb410 ?_
                      refine qg_n rfl rfl hb410 ?_
                      refine qg_n rfl rfl hb410 ?_
                      refine qg_n rfl rfl hb410 ?_
                      refine qg_y rfl rfl hb409 ?_
                      refine q_v (o_pkf (.sc (.bool _)) rfl hb410 rfl) ?_
                      refine q_v (o_pkf (.sc (.bool _)) rfl hb409 rfl) ?_
                      refine q_v (o_mv (.sc (.bool _)) rfl) ?_
                      refine qg_y rfl rfl rfl ?_
                      refine q_v (o_flp fd63_1 rfl rfl) ?_
                      refine qg_y rfl rfl rfl ?_
                      refine q_v (o_ldp (.sc (.bool x365.Staged)) ld4 rfl (hp_get 0 hk370 rfl) rfl) ?_
                      refine qg_y rfl rfl rfl ?_
                      refine q_v (o_not rfl) ?_
                      refine qg_y rfl rfl rfl ?_
                      refine q_v (o_mv (.sc (.bool _)) rfl) ?_
                      rcases Bool.eq_false_or_eq_true (!x365.Staged) with hb416 | hb416
                      · replace hm := ite_t hm hb416
                        refine qg_y rfl rfl hb416 ?_
                        refine q_v (o_flp fd63_2 rfl rfl) ?_
                        refine qg_y rfl rfl hb416 ?_
                        refine q_v (o_ldp (.sl none 1 (List.map c_u8 x365.Data)) ld52 rfl (hp_get 0 hk370 rfl) rfl) ?_
                        refine qg_y rfl rfl hb416 ?_
                        refine q_v (o_lenm ln52 rfl) ?_
                        refine qg_y rfl rfl hb416 ?_
                        refine q_v (o_bi rfl rfl rfl trivial) ?_
                        refine qg_y rfl rfl hb416 ?_
                        refine q_v (o_mv (.sc (.bool _)) rfl) ?_
                        rcases Bool.eq_false_or_eq_true (decide (0 < (x365.Data.length : Int))) with hb417 | hb417
                        · replace hm := ite_t hm hb417
                          refine qg_n rfl rfl hb417 ?_
                          refine qg_n rfl rfl hb417 ?_
                          refine qg_n rfl rfl hb417 ?_
                          refine qg_n rfl rfl hb417 ?_
                          refine qg_y rfl rfl hb416 ?_
                          refine q_v (o_pkt (.sc (.bool _)) rfl hb417 rfl) ?_
                          refine qg_y rfl rfl rfl ?_
                          refine q_v (o_pkt (.sc (.bool _)) rfl hb416 rfl) ?_
                          refine q_v (o_pkf (.sc (.bool _)) rfl rfl rfl) ?_
                          refine q_nil ?_
                          cases hm
                          exact ⟨rfl, (), hk370, LeF.fm (Sub.refl _) (.cons (ALe.refl _ _) (.cons (ALe.refl _ _) (.cons (ALe.refl _ _) (.nil))))⟩
                        · replace hm := ite_f hm hb417
                          refine qg_y rfl rfl hb417 ?_
                          refine q_v (o_flp fd63_3 rfl rfl) ?_
                          refine qg_y rfl rfl hb417 ?_
                          refine q_v (o_ldp (.sl none 4 (List.map c_Loc x365.Locs)) ld58 rfl (hp_get 0 hk370 rfl) rfl) ?_
                          refine qg_y rfl rfl hb417 ?_
                          refine q_v (o_lenm ln58 rfl) ?_
                          refine qg_y rfl rfl hb417 ?_
                          refine q_v (o_bi rfl rfl rfl trivial) ?_
                          refine qg_y rfl rfl hb416 ?_
                          refine q_v (o_pkf (.sc (.bool _)) rfl hb417 rfl) ?_
                          refine qg_y rfl rfl rfl ?_
                          refine q_v (o_pkt (.sc (.bool _)) rfl hb416 rfl) ?_
                          refine q_v (o_pkf (.sc (.bool _)) rfl rfl rfl) ?_
                          refine q_nil ?_
                          cases hm
                          exact ⟨rfl, (), hk370, LeF.fm (Sub.refl _) (.cons (ALe.refl _ _) (.cons (ALe.refl _ _) (.cons (ALe.refl _ _) (.nil))))⟩
                      · replace hm := ite_f hm hb416
                        refine qg_n rfl rfl hb416 ?_
                        refine qg_n rfl rfl hb416 ?_
                        refine qg_n rfl rfl hb416 ?_
                        refine qg_n rfl rfl hb416 ?_
                        refine qg_n rfl rfl hb416 ?_
                        refine qg_u rfl rfl ?_
                        refine qg_u rfl rfl ?_
                        refine qg_u rfl rfl ?_
                        refine qg_u rfl rfl ?_
                        refine qg_n rfl rfl hb416 ?_
                        refine qg_y rfl rfl rfl ?_
                        refine q_v (o_pkf (.sc (.bool _)) rfl hb416 rfl) ?_
                        refine q_v (o_pkf (.sc (.bool _)) rfl rfl rfl) ?_
                        refine q_nil ?_
                        cases hm
                        exact ⟨rfl, (), hk370, LeF.fm (Sub.refl _) (.cons (ALe.refl _ _) (.cons (ALe.refl _ _) (.cons (ALe.refl _ _) (.nil))))⟩
              · replace hm := ite_f hm hb401
                refine qg_n rfl rfl hb401 ?_
                refine qg_n rfl rfl hb401 ?_
                refine qg_n rfl rfl hb401 ?_
                refine qg_n rfl rfl hb401 ?_
                refine qg_n rfl rfl hb401 ?_
                refine qg_n rfl rfl hb401 ?_
                refine qg_n rfl rfl hb401 ?_
                refine qg_n rfl rfl hb401 ?_
                refine qg_n rfl rfl hb401 ?_
                refine qg_n rfl rfl hb401 ?_
                refine qg_n rfl rfl hb401 ?_
                refine q_v (o_pkf (.sc (.bool _)) rfl hb401 rfl) ?_
                refine q_v (o_mv (.sc (.bool _)) rfl) ?_
                refine qg_y rfl rfl rfl ?_
                refine q_v (o_ldp (.agg (c_Catalog p0)) ld27 rfl (hp_get 1 hk370 rfl) rfl) ?_
                refine qg_y rfl rfl rfl ?_
                refine q_v (o_flp fd63_3 rfl rfl) ?_
                refine qg_y rfl rfl rfl ?_
                refine q_v (o_ldp (.sl none 4 (List.map c_Loc x365.Locs)) ld58 rfl (hp_get 0 hk370 rfl) rfl) ?_
                refine qg_y rfl rfl rfl ?_
                obtain ⟨y418, hy419, hm⟩ := bind_of hm
                refine q_v (o_call (W61 _ hy419) rfl bd61 rfl) ?_
                refine qg_y rfl rfl rfl ?_
                refine q_v (o_not rfl) ?_
                refine q_v (o_pkf (.sc (.bool _)) rfl rfl rfl) ?_
                refine q_v (o_mv (.sc (.bool _)) rfl) ?_
                rcases Bool.eq_false_or_eq_true (!y418) with hb420 | hb420
                · replace hm := ite_t hm hb420
                  refine qg_n rfl rfl hb420 ?_
                  refine qg_n rfl rfl hb420 ?_
                  refine qg_n rfl rfl hb420 ?_
                  refine qg_u rfl rfl ?_
                  refine qg_u rfl rfl ?_
                  refine qg_u rfl rfl ?_
                  refine qg_u rfl rfl ?_
                  refine qg_u rfl rfl ?_
                  refine qg_n rfl rfl hb420 ?_
                  refine q_v (o_pkt (.sc (.bool _)) rfl hb420 rfl) ?_
                  refine q_v (o_mv (.sc (.bool _)) rfl) ?_
                  refine qg_n rfl rfl rfl ?_
                  refine qg_n rfl rfl rfl ?_
                  refine qg_n rfl rfl rfl ?_
                  refine qg_n rfl rfl rfl ?_
                  refine qg_u rfl rfl ?_
                  refine qg_u rfl rfl ?_
                  refine qg_u rfl rfl ?_
                  refine qg_u rfl rfl ?_
                  refine qg_u rfl rfl ?_
                  refine qg_u rfl rfl ?_
                  refine qg_u rfl rfl ?_
                  refine qg_u rfl rfl ?_
                  refine qg_u rfl rfl ?_
                  refine qg_u rfl rfl ?_
                  refine qg_n rfl rfl rfl ?_
                  refine q_v (o_pkt (.sc (.bool _)) rfl rfl rfl) ?_
                  refine q_nil ?_
                  cases hm
                  exact ⟨rfl, (), hk370, LeF.fm (Sub.refl _) (.cons (ALe.refl _ _) (.cons (ALe.refl _ _) (.cons (ALe.refl _ _) (.nil))))⟩
                · replace hm := ite_f hm hb420
                  refine qg_y rfl rfl hb420 ?_
                  refine q_v (o_flp fd63_1 rfl rfl) ?_
                  refine qg_y rfl rfl hb420 ?_
                  refine q_v (o_ldp (.sc (.bool x365.Staged)) ld4 rfl (hp_get 0 hk370 rfl) rfl) ?_
                  refine qg_y rfl rfl hb420 ?_
                  refine q_v (o_mv (.sc (.bool _)) rfl) ?_
                  rcases Bool.eq_false_or_eq_true x365.Staged with hb421 | hb421
                  · replace hm := ite_t hm hb421
                    refine qg_y rfl rfl hb421 ?_
                    refine q_v (o_flp fd63_2 rfl rfl) ?_
                    refine qg_y rfl rfl hb421 ?_
                    refine q_v (o_ldp (.sl none 1 (List.map c_u8 x365.Data)) ld52 rfl (hp_get 0 hk370 rfl) rfl) ?_
                    refine qg_y rfl rfl hb421 ?_
                    refine q_v (o_lenm ln52 rfl) ?_
                    refine qg_y rfl rfl hb421 ?_
                    obtain ⟨y422, hy423, hm⟩ := bind_of hm
                    refine q_v (o_call (W59 _ hy423) rfl bd59 rfl) ?_
                    refine qg_y rfl rfl hb421 ?_
                    refine q_v (o_not rfl) ?_
                    refine qg_y rfl rfl hb420 ?_
                    refine q_v (o_pkt (.sc (.bool _)) rfl hb421 rfl) ?_
                    refine q_v (o_pkf (.sc (.bool _)) rfl hb420 rfl) ?_
                    refine q_v (o_mv (.sc (.bool _)) rfl) ?_
                    rcases Bool.eq_false_or_eq_true (!y422) with hb424 | hb424
                    · replace hm := ite_t hm hb424
                      refine qg_n rfl rfl hb424 ?_
                      refine qg_n rfl rfl hb424 ?_
                      refine qg_n rfl rfl hb424 ?_
                      refine qg_n rfl rfl hb424 ?_
                      refine qg_u rfl rfl ?_
                      refine qg_u rfl rfl ?_
                      refine qg_u rfl rfl ?_
                      refine qg_u rfl rfl ?_
                      refine qg_u rfl rfl ?_
                      refine qg_u rfl rfl ?_
                      refine qg_u rfl rfl ?_
                      refine qg_u rfl rfl ?_
                      refine qg_u rfl rfl ?_
                      refine qg_u rfl rfl ?_
                      refine qg_n rfl rfl hb424 ?_
                      refine q_v (o_pkt (.sc (.bool _)) rfl hb424 rfl) ?_
                      refine q_nil ?_
                      cases hm
                      exact ⟨rfl, (), hk370, LeF.fm (Sub.refl _) (.cons (ALe.refl _ _) (.cons (ALe.refl _ _) (.cons (ALe.refl _ _) (.nil))))⟩
                    · replace hm := ite_f hm hb424
                      refine qg_y rfl rfl hb424 ?_
                      refine q_v (o_flp fd63_1 rfl rfl) ?_
                      refine qg_y rfl rfl hb424 ?_
                      refine q_v (o_ldp (.sc (.bool x365.Staged)) ld4 rfl (hp_get 0 hk370 rfl) rfl) ?_
                      refine qg_y rfl rfl hb424 ?_
                      refine q_v (o_not rfl) ?_
                      refine qg_y rfl rfl hb424 ?_
                      refine q_v (o_mv (.sc (.bool _)) rfl) ?_
                      rcases Bool.eq_false_or_eq_true (!x365.Staged) with hb425 | hb425
                      · replace hm := ite_t hm hb425
                        refine qg_y rfl rfl hb425 ?_
                        refine q_v (o_flp fd63_2 rfl rfl) ?_
                        refine qg_y rfl rfl hb425 ?_
                        refine q_v (o_ldp (.sl none 1 (List.map c_u8 x365.Data)) ld52 rfl (hp_get 0 hk370 rfl) rfl) ?_
                        refine qg_y rfl rfl hb425 ?_
                        refine q_v (o_lenm ln52 rfl) ?_
                        refine qg_y rfl rfl hb425 ?_
                        refine q_v (o_bi rfl rfl rfl trivial) ?_
                        refine qg_y rfl rfl hb425 ?_
                        refine q_v (o_mv (.sc (.bool _)) rfl) ?_
                        rcases Bool.eq_false_or_eq_true (decide (0 < (x365.Data.length : Int))) with hb426 | hb426
                        · replace hm := ite_t hm hb426
                          refine qg_n rfl rfl hb426 ?_
                          refine qg_n rfl rfl hb426 ?_
                          refine qg_n rfl rfl hb426 ?_
                          refine qg_n rfl rfl hb426 ?_
                          refine qg_y rfl rfl hb425 ?_
                          refine q_v (o_pkt (.sc (.bool _)) rfl hb426 rfl) ?_
                          refine qg_y rfl rfl hb424 ?_
                          refine q_v (o_pkt (.sc (.bool _)) rfl hb425 rfl) ?_
                          refine q_v (o_pkf (.sc (.bool _)) rfl hb424 rfl) ?_
                          refine q_nil ?_
                          cases hm
                          exact ⟨rfl, (), hk370, LeF.fm (Sub.refl _) (.cons (ALe.refl _ _) (.cons (ALe.refl _ _) (.cons (ALe.refl _ _) (.nil))))⟩
                        · replace hm := ite_f hm hb426
                          refine qg_y rfl rfl hb426 ?_
                          refine q_v (o_flp fd63_3 rfl rfl) ?_
                          refine qg_y rfl rfl hb426 ?_
                          refine q_v (o_ldp (.sl none 4 (List.map c_Loc x365.Locs)) ld58 rfl (hp_get 0 hk370 rfl) rfl) ?_
                          refine qg_y rfl rfl hb426 ?_
                          refine q_v (o_lenm ln58 rfl) ?_
                          refine qg_y rfl rfl hb426 ?_
                          refine q_v (o_bi rfl rfl rfl trivial) ?_
                          refine qg_y rfl rfl hb425 ?_
                          refine q_v (o_pkf (.sc (.bool _)) rfl hb426 rfl) ?_
                          refine qg_y rfl rfl hb424 ?_
                          refine q_v (o_pkt (.sc (.bool _)) rfl hb425 rfl) ?_
                          refine q_v (o_pkf (.sc (.bool _)) rfl hb424 rfl) ?_
                          refine q_nil ?_
                          cases hm
                          exact ⟨rfl, (), hk370, LeF.fm (Sub.refl _) (.cons (ALe.refl _ _) (.cons (ALe.refl _ _) (.cons (ALe.refl _ _) (.nil))))⟩
                      · replace hm := ite_f hm hb425
                        refine qg_n rfl rfl hb425 ?_
                        refine qg_n rfl rfl hb425 ?_
                        refine qg_n rfl rfl hb425 ?_
                        refine qg_n rfl rfl hb425 ?_
                        refine qg_n rfl rfl hb425 ?_
                        refine qg_u rfl rfl ?_
                        refine qg_u rfl rfl ?_
                        refine qg_u rfl rfl ?_
                        refine qg_u rfl rfl ?_
                        refine qg_n rfl rfl hb425 ?_
                        refine qg_y rfl rfl hb424 ?_
                        refine q_v (o_pkf (.sc (.bool _)) rfl hb425 rfl) ?_
                        refine q_v (o_pkf (.sc (.bool _)) rfl hb424 rfl) ?_
                        refine q_nil ?_
                        cases hm
                        exact ⟨rfl, (), hk370, LeF.fm (Sub.refl _) (.cons (ALe.refl _ _) (.cons (ALe.refl _ _) (.cons (ALe.refl _ _) (.nil))))⟩
                  · replace hm := ite_f hm hb421
                    refine qg_n rfl rfl hb421 ?_
                    refine qg_n rfl rfl hb421 ?_
                    refine qg_n rfl rfl hb421 ?_
                    refine qg_n rfl rfl hb421 ?_
                    refine qg_n rfl rfl hb421 ?_
                    refine qg_y rfl rfl hb420 ?_
                    refine q_v (o_pkf (.sc (.bool _)) rfl hb421 rfl) ?_
                    refine q_v (o_pkf (.sc (.bool _)) rfl hb420 rfl) ?_
                    refine q_v (o_mv (.sc (.bool _)) rfl) ?_
                    refine qg_y rfl rfl rfl ?_
                    refine q_v (o_flp fd63_1 rfl rfl) ?_
                    refine qg_y rfl rfl rfl ?_
                    refine q_v (o_ldp (.sc (.bool x365.Staged)) ld4 rfl (hp_get 0 hk370 rfl) rfl) ?_
                    refine qg_y rfl rfl rfl ?_
                    refine q_v (o_not rfl) ?_
                    refine qg_y rfl rfl rfl ?_
                    refine q_v (o_mv (.sc (.bool _)) rfl) ?_
                    rcases Bool.eq_false_or_eq_true (!x365.Staged) with hb427 | hb427
                    · replace hm := ite_t hm hb427
                      refine qg_y rfl rfl hb427 ?_
                      refine q_v (o_flp fd63_2 rfl rfl) ?_
                      refine qg_y rfl rfl hb427 ?_
                      refine q_v (o_ldp (.sl none 1 (List.map c_u8 x365.Data)) ld52 rfl (hp_get 0 hk370 rfl) rfl) ?_
                      refine qg_y rfl rfl hb427 ?_
                      refine q_v (o_lenm ln52 rfl) ?_
                      refine qg_y rfl rfl hb427 ?_
                      refine q_v (o_bi rfl rfl rfl trivial) ?_
                      refine qg_y rfl rfl hb427 ?_
                      refine q_v (o_mv (.sc (.bool _)) rfl) ?_
                      rcases Bool.eq_false_or_eq_true (decide (0 < (x365.Data.length : Int))) with hb428 | hb428
                      · replace hm := ite_t hm hb428
                        refine qg_n rfl rfl hb428 ?_
                        refine qg_n rfl rfl hb428 ?_
                        refine qg_n rfl rfl hb428 ?_
                        refine qg_n rfl rfl hb428 ?_
                        refine qg_y rfl rfl hb427 ?_
                        refine q_v (o_pkt (.sc (.bool _)) rfl hb428 rfl) ?_
                        refine qg_y rfl rfl rfl ?_
                        refine q_v (o_pkt (.sc (.bool _)) rfl hb427 rfl) ?_
                        refine q_v (o_pkf (.sc (.bool _)) rfl rfl rfl) ?_
                        refine q_nil ?_
                        cases hm
                        exact ⟨rfl, (), hk370, LeF.fm (Sub.refl _) (.cons (ALe.refl _ _) (.cons (ALe.refl _ _) (.cons (ALe.refl _ _) (.nil))))⟩
                      · replace hm := ite_f hm hb428
                        refine qg_y rfl rfl hb428 ?_
                        refine q_v (o_flp fd63_3 rfl rfl) ?_
                        refine qg_y rfl rfl hb428 ?_
                        refine q_v (o_ldp (.sl none 4 (List.map c_Loc x365.Locs)) ld58 rfl (hp_get 0 hk370 rfl) rfl) ?_
                        refine qg_y rfl rfl hb428 ?_
                        refine q_v (o_lenm ln58 rfl) ?_
                        refine qg_y rfl rfl hb428 ?_
                        refine q_v (o_bi rfl rfl rfl trivial) ?_
                        refine qg_y rfl rfl hb427 ?_
                        refine q_v (o_pkf (.sc (.bool _)) rfl hb428 rfl) ?_
                        refine qg_y rfl rfl rfl ?_
                        refine q_v (o_pkt (.sc (.bool _)) rfl hb427 rfl) ?_
                        refine q_v (o_pkf (.sc (.bool _)) rfl rfl rfl) ?_
                        refine q_nil ?_
                        cases hm
                        exact ⟨rfl, (), hk370, LeF.fm (Sub.refl _) (.cons (ALe.refl _ _) (.cons (ALe.refl _ _) (.cons (ALe.refl _ _) (.nil))))⟩
                    · replace hm := ite_f hm hb427
                      refine qg_n rfl rfl hb427 ?_
                      refine qg_n rfl rfl hb427 ?_
                      refine qg_n rfl rfl hb427 ?_
                      refine qg_n rfl rfl hb427 ?_
                      refine qg_n rfl rfl hb427 ?_
                      refine qg_u rfl rfl ?_
                      refine qg_u rfl rfl ?_
                      refine qg_u rfl rfl ?_
                      refine qg_u rfl rfl ?_
                      refine qg_n rfl rfl hb427 ?_
                      refine qg_y rfl rfl rfl ?_
                      refine q_v (o_pkf (.sc (.bool _)) rfl hb427 rfl) ?_
                      refine q_v (o_pkf (.sc (.bool _)) rfl rfl rfl) ?_
                      refine q_nil ?_
                      cases hm
                      exact ⟨rfl, (), hk370, LeF.fm (Sub.refl _) (.cons (ALe.refl _ _) (.cons (ALe.refl _ _) (.cons (ALe.refl _ _) (.nil))))⟩
            · rintro _ j400 fr' h' hk429 hm le
              refine H371 _ _ (le.aw ?_)
              clear le H371 K371
              refine AW_if' rfl (fun hc430 => ?_) (fun hc430 => ?_)
              · replace hm := ite_t hm hc430
                refine AW_k fun K431 H431 => ?_
                refine AW_reg ?_
                refine s_v (o_as (.sc (.bool _)) rfl) ?_
                refine s_nil ?_
                refine H431 _ _ ?_
                clear H431 K431
                refine AW_ret ?_
                cases hm
                refine ⟨⟨nofun, nofun⟩, fun he => ?_⟩
                subst he
                exact Ret.of1 (.inl rfl) (rsT _ _ (.sc (.bool _)) rfl) (hp_sub (List.nil_sublist _) hk429).1 (ALe.refl _ _) ⟨rfl, rfl⟩
              · replace hm := ite_f hm hc430
                refine AW_skip ?_
                refine H363 _ _ ?_
                clear H363 K363
                refine AW_reg ?_
                refine s_v (o_mv (.sc (.int _ _)) rfl) ?_
                refine s_v (o_bi rfl rfl rfl trivial) ?_
                refine s_v (o_as (.sc (.int _ _)) rfl) ?_
                refine s_nil ?_
                cases hm
                exact ⟨rfl, (), (hp_sub (.cons _ (.refl _)) hk429).2, LeF.fm ((hp_sub (.cons _ (.refl _)) hk429).1) (.cons (ALe.refl _ _) (.cons (ALe.refl _ _) (.nil)))⟩
          · replace hm := ite_f hm hc362
            refine AW_exit ?_
            refine Seq_exit ?_
            cases hm
            exact ⟨rfl, (), hk359, LeF.fm (Sub.refl _) (.cons (ALe.refl _ _) (.cons (ALe.refl _ _) (.nil)))⟩
        · rintro _ r432 fr' h' hk433 hm le
          refine H211 _ _ (le.aw ?_)
          clear le H211 K211
          refine AW_k fun K434 H434 => ?_
          refine AW_k fun K435 H435 => ?_
          refine AW_reg ?_
          refine s_v (o_as (.sc (.int _ _)) rfl) ?_
          refine s_nil ?_
          refine H435 _ _ ?_
          clear H435 K435
          refine AW_loopG (n := 296) hm (σ := Int) (τ := Unit) (fun g s => HOk h [(some k2, .obj 27 (c_Catalog p0))]) (fun g s => kp (kp (k0) 7 (.sc (.int .i64 s))) 1 (.ptr k2 0)) (fun g s => hp h [(some k2, .obj 27 (c_Catalog p0))]) () hk433 (LeF.fm (Sub.refl _) (.cons (ALe.refl _ _) (.cons (ALe.refl _ _) (.nil)))) ?_ ?_
          · rintro _ q711 x hk712 hm
            replace hm : M19_L5 fuel p0 q711 = some x := hm
            unfold M19_L5 at hm
            refine AW_k fun K713 H713 => ?_
            refine AW_k fun K714 H714 => ?_
            refine AW_reg ?_
            refine s_v (o_mv (.sc (.int _ _)) rfl) ?_
            refine s_v (o_flp fd27_1 rfl rfl) ?_
            refine s_v (o_ldp (.sl none 4 (List.map c_Snap p0.Snaps)) ld22 rfl (hp_get 0 hk712 rfl) rfl) ?_
            refine s_v (o_lenm ln22 rfl) ?_
            refine s_v (o_bi rfl rfl rfl trivial) ?_
            refine s_nil ?_
            refine H714 _ _ ?_
            clear H714 K714
            refine AW_if' rfl (fun hc715 => ?_) (fun hc715 => ?_)
            · replace hm := ite_t hm hc715
              refine AW_skip ?_
              refine H713 _ _ ?_
              clear H713 K713
              refine AW_k fun K716 H716 => ?_
              refine AW_block ?_
              refine AW_k fun K717 H717 => ?_
              refine AW_reg ?_
              refine s_v (o_flp fd27_1 rfl rfl) ?_
              refine s_v (o_ldp (.sl none 4 (List.map c_Snap p0.Snaps)) ld22 rfl (hp_get 0 hk712 rfl) rfl) ?_
              refine s_v (o_mv (.sc (.int _ _)) rfl) ?_
              obtain ⟨x718, hx719, hm⟩ := bind_of hm
              refine s_v (o_ix hx719 el22 rfl rfl) ?_
              refine s_v (o_ld (.agg (c_Snap x718)) ld60 rfl rfl) ?_
              refine s_op (a_alloc ([.sc (.int .i64 0), .sc (.string ByteArray.empty), .sc (.slice none 0 0), .sc (.slice none 0 0)]) hk712 zr60 rfl rfl fun k720 hk721 => ?_)
              refine s_op (a_store 0 (c_Snap x718) hk721 rfl rfl rfl rfl sz60 rfl rfl fun hk723 => ?_)
              refine s_nil ?_
              refine H717 _ _ ?_
              clear H717 K717
              refine AW_k fun K724 H724 => ?_
              refine AW_k fun K725 H725 => ?_
              refine AW_joinG (n := 296) hm (σ := Bool) (τ := Unit) (fun g s => HOk h [(some k720, .obj 60 (c_Snap x718)), (some k2, .obj 27 (c_Catalog p0))]) (fun g s => kp (kp (kp (kp (k0) 200 (.sc (.bool s))) 8 (.ptr k720 0)) 7 (.sc (.int .i64 q711))) 1 (.ptr k2 0)) (fun g s => hp h [(some k720, .obj 60 (c_Snap x718)), (some k2, .obj 27 (c_Catalog p0))]) (fun x hm => ?_) ?_
              · refine AW_region_q [(some 153, [8], []), (some 154, [153], [0]), (some 155, [154], [1]), (some 156, [155], [2]), (some 157, [8, 156], [3]), (some 158, [157, 156], [4, 3]), (some 159, [1, 156], [3]), (some 160, [159, 156], [6, 3]), (some 161, [158, 160, 156], [5, 7, 3]), (some 162, [156, 161], [3, 8]), (some 163, [162], [9, 3]), (some 164, [7, 163], [10]), (some 165, [164, 163], [11, 10]), (some 166, [165, 163], [12, 10, 10]), (some 167, [8, 166], [13]), (some 168, [167, 166], [14, 13]), (some 169, [1, 166], [13]), (some 170, [169, 166], [16, 13]), (some 171, [7, 166], [13]), (some 172, [171, 166], [18, 13]), (some 173, [170, 172, 166], [17, 19, 13]), (some 174, [173, 166], [20, 13]), (some 175, [174, 166], [21, 13]), (some 176, [168, 175, 166], [15, 22, 13]), (some 177, [166, 176, 163], [13, 23, 10]), (some 178, [163, 177], [10, 24]), (some 179, [178], [25, 13]), (some 180, [8, 179], [26]), (some 181, [180, 179], [27, 26]), (some 182, [181, 179], [28, 26, 26]), (some 183, [182, 179], [29, 26]), (some 184, [179, 183], [26, 30]), (some 185, [184], [31, 29]), (some 186, [1, 185], [32]), (some 187, [8, 185], [32]), (some 188, [187, 185], [34, 32]), (some 189, [186, 188, 185], [33, 35, 32, 32]), (some 190, [189, 185], [36, 32]), (some 191, [185, 190], [32, 37]), (some 192, [191], [38, 36]), (some 193, [1, 192], [39]), (some 194, [8, 192], [39]), (some 195, [194, 192], [41, 39]), (some 196, [195, 192], [42, 39]), (some 197, [193, 196, 192], [40, 43, 39, 39]), (some 198, [7, 192], [39]), (some 199, [197, 198, 192], [44, 45, 39]), (some 200, [192, 199], [39, 46])] mixed (by kernel_rfl) (by kernel_rfl) ?_
                refine q_v (o_flp fd60_0 rfl rfl) ?_
                refine q_v (o_ldp (.sc (.int .i64 x718.Seq)) ld3 rfl (hp_get 0 hk723 rfl) rfl) ?_
                refine q_v (o_bi rfl rfl rfl trivial) ?_
                refine q_v (o_mv (.sc (.bool _)) rfl) ?_
                rcases Bool.eq_false_or_eq_true (decide (x718.Seq < 0)) with hb749 | hb749
                · replace hm := ite_t hm hb749
                  refine qg_n rfl rfl hb749 ?_
                  refine qg_n rfl rfl hb749 ?_
                  refine qg_n rfl rfl hb749 ?_
                  refine qg_n rfl rfl hb749 ?_
                  refine qg_n rfl rfl hb749 ?_
                  refine q_v (o_pkt (.sc (.bool _)) rfl hb749 rfl) ?_
                  refine q_v (o_mv (.sc (.bool _)) rfl) ?_
                  refine qg_n rfl rfl rfl ?_
                  refine qg_n rfl rfl rfl ?_
                  refine qg_n rfl rfl rfl ?_
                  refine qg_u rfl rfl ?_
                  refine qg_u rfl rfl ?_
                  refine qg_u rfl rfl ?_
                  refine qg_u rfl rfl ?_
                  refine qg_u rfl rfl ?_
                  refine qg_u rfl rfl ?_
                  refine qg_u rfl rfl ?_
                  refine qg_u rfl rfl ?_
                  refine qg_u rfl rfl ?_
                  refine qg_u rfl rfl ?_
                  refine qg_n rfl rfl rfl ?_
                  refine q_v (o_pkt (.sc (.bool _)) rfl rfl rfl) ?_
                  refine q_v (o_mv (.sc (.bool _)) rfl) ?_
                  refine qg_n rfl rfl rfl ?_
                  refine qg_n rfl rfl rfl ?_
                  refine qg_n rfl rfl rfl ?_
                  refine qg_n rfl rfl rfl ?_
                  refine q_v (o_pkt (.sc (.bool _)) rfl rfl rfl) ?_
                  refine q_v (o_mv (.sc (.bool _)) rfl) ?_
                  refine qg_n rfl rfl rfl ?_
                  refine qg_n rfl rfl rfl ?_
                  refine qg_n rfl rfl rfl ?_
                  refine qg_n rfl rfl rfl ?_
                  refine qg_n rfl rfl rfl ?_
                  refine q_v (o_pkt (.sc (.bool _)) rfl rfl rfl) ?_
                  refine q_v (o_mv (.sc (.bool _)) rfl) ?_
                  refine qg_n rfl rfl rfl ?_
                  refine qg_n rfl rfl rfl ?_
                  refine qg_n rfl rfl rfl ?_
                  refine qg_n rfl rfl rfl ?_
                  refine qg_n rfl rfl rfl ?_
                  refine qg_n rfl rfl rfl ?_
                  refine qg_n rfl rfl rfl ?_
                  refine q_v (o_pkt (.sc (.bool _)) rfl rfl rfl) ?_
                  refine q_nil ?_
                  cases hm
                  exact ⟨rfl, (), hk723, LeF.fm (Sub.refl _) (.cons (ALe.refl _ _) (.cons (ALe.refl _ _) (.cons (ALe.refl _ _) (.cons (ALe.refl _ _) (.nil)))))⟩
                · replace hm := ite_f hm hb749
                  refine qg_y rfl rfl hb749 ?_
                  refine q_v (o_flp fd60_0 rfl rfl) ?_
                  refine qg_y rfl rfl hb749 ?_
                  refine q_v (o_ldp (.sc (.int .i64 x718.Seq)) ld3 rfl (hp_get 0 hk723 rfl) rfl) ?_
                  refine qg_y rfl rfl hb749 ?_
                  refine q_v (o_flp fd27_0 rfl rfl) ?_
                  refine qg_y rfl rfl hb749 ?_
                  refine q_v (o_ldp (.sc (.int .i64 p0.Seq)) ld3 rfl (hp_get 1 hk723 rfl) rfl) ?_
                  refine qg_y rfl rfl hb749 ?_
                  refine q_v (o_bi rfl rfl rfl trivial) ?_
                  refine q_v (o_pkf (.sc (.bool _)) rfl hb749 rfl) ?_
                  refine q_v (o_mv (.sc (.bool _)) rfl) ?_
                  rcases Bool.eq_false_or_eq_true (decide (p0.Seq ≤ x718.Seq)) with hb750 | hb750
                  · replace hm := ite_t hm hb750
                    refine qg_n rfl rfl hb750 ?_
                    refine qg_n rfl rfl hb750 ?_
                    refine qg_n rfl rfl hb750 ?_
                    refine qg_u rfl rfl ?_
                    refine qg_u rfl rfl ?_
                    refine qg_u rfl rfl ?_
                    refine qg_u rfl rfl ?_
                    refine qg_u rfl rfl ?_
                    refine qg_u rfl rfl ?_
                    refine qg_u rfl rfl ?_
                    refine qg_u rfl rfl ?_
                    refine qg_u rfl rfl ?_
                    refine qg_u rfl rfl ?_
                    refine qg_n rfl rfl hb750 ?_
                    refine q_v (o_pkt (.sc (.bool _)) rfl hb750 rfl) ?_
                    refine q_v (o_mv (.sc (.bool _)) rfl) ?_
                    refine qg_n rfl rfl rfl ?_
                    refine qg_n rfl rfl rfl ?_
                    refine qg_n rfl rfl rfl ?_
                    refine qg_n rfl rfl rfl ?_
                    refine q_v (o_pkt (.sc (.bool _)) rfl rfl rfl) ?_
                    refine q_v (o_mv (.sc (.bool _)) rfl) ?_
                    refine qg_n rfl rfl rfl ?_
                    refine qg_n rfl rfl rfl ?_
                    refine qg_n rfl rfl rfl ?_
                    refine qg_n rfl rfl rfl ?_
                    refine qg_n rfl rfl rfl ?_
                    refine q_v (o_pkt (.sc (.bool _)) rfl rfl rfl) ?_
                    refine q_v (o_mv (.sc (.bool _)) rfl) ?_
                    refine qg_n rfl rfl rfl ?_
                    refine qg_n rfl rfl rfl ?_
                    refine qg_n rfl rfl rfl ?_
                    refine qg_n rfl rfl rfl ?_
                    refine qg_n rfl rfl rfl ?_
                    refine qg_n rfl rfl rfl ?_
                    refine qg_n rfl rfl rfl ?_
                    refine q_v (o_pkt (.sc (.bool _)) rfl rfl rfl) ?_
                    refine q_nil ?_
                    cases hm
                    exact ⟨rfl, (), hk723, LeF.fm (Sub.refl _) (.cons (ALe.refl _ _) (.cons (ALe.refl _ _) (.cons (ALe.refl _ _) (.cons (ALe.refl _ _) (.nil)))))⟩
                  · replace hm := ite_f hm hb750
                    refine qg_y rfl rfl hb750 ?_
                    refine q_v (o_mv (.sc (.int _ _)) rfl) ?_
                    refine qg_y rfl rfl hb750 ?_
                    refine q_v (o_bi rfl rfl rfl trivial) ?_
                    refine qg_y rfl rfl hb750 ?_
                    refine q_v (o_mv (.sc (.bool _)) rfl) ?_
                    rcases Bool.eq_false_or_eq_true (decide (0 < q711)) with hb751 | hb751
                    · replace hm := ite_t hm hb751
                      refine qg_y rfl rfl hb751 ?_
                      refine q_v (o_flp fd60_0 rfl rfl) ?_
                      refine qg_y rfl rfl hb751 ?_
                      refine q_v (o_ldp (.sc (.int .i64 x718.Seq)) ld3 rfl (hp_get 0 hk723 rfl) rfl) ?_
                      refine qg_y rfl rfl hb751 ?_
                      refine q_v (o_flp fd27_1 rfl rfl) ?_
                      refine qg_y rfl rfl hb751 ?_
                      refine q_v (o_ldp (.sl none 4 (List.map c_Snap p0.Snaps)) ld22 rfl (hp_get 1 hk723 rfl) rfl) ?_
                      refine qg_y rfl rfl hb751 ?_
                      refine q_v (o_mv (.sc (.int _ _)) rfl) ?_
                      refine qg_y rfl rfl hb751 ?_
                      refine q_v (o_bi rfl rfl rfl trivial) ?_
                      refine qg_y rfl rfl hb751 ?_
                      obtain ⟨x752, hx753, hm⟩ := bind_of hm
                      refine q_v (o_ix hx753 el22 rfl rfl) ?_
                      refine qg_y rfl rfl hb751 ?_
                      refine q_v (o_fl fd60_0 rfl rfl) ?_
                      refine qg_y rfl rfl hb751 ?_
                      refine q_v (o_ld (.sc (.int .i64 x752.Seq)) ld3 rfl rfl) ?_
                      refine qg_y rfl rfl hb751 ?_
                      refine q_v (o_bi rfl rfl rfl trivial) ?_
                      refine qg_y rfl rfl hb750 ?_
                      refine q_v (o_pkt (.sc (.bool _)) rfl hb751 rfl) ?_
                      refine q_v (o_pkf (.sc (.bool _)) rfl hb750 rfl) ?_
                      refine q_v (o_mv (.sc (.bool _)) rfl) ?_
                      rcases Bool.eq_false_or_eq_true (decide (x718.Seq ≤ x752.Seq)) with hb754 | hb754
                      · replace hm := ite_t hm hb754
                        refine qg_n rfl rfl hb754 ?_
                        refine qg_n rfl rfl hb754 ?_
                        refine qg_n rfl rfl hb754 ?_
                        refine qg_n rfl rfl hb754 ?_
                        refine q_v (o_pkt (.sc (.bool _)) rfl hb754 rfl) ?_
                        refine q_v (o_mv (.sc (.bool _)) rfl) ?_
                        refine qg_n rfl rfl rfl ?_
                        refine qg_n rfl rfl rfl ?_
                        refine qg_n rfl rfl rfl ?_
                        refine qg_n rfl rfl rfl ?_
                        refine qg_n rfl rfl rfl ?_
                        refine q_v (o_pkt (.sc (.bool _)) rfl rfl rfl) ?_
                        refine q_v (o_mv (.sc (.bool _)) rfl) ?_
                        refine qg_n rfl rfl rfl ?_
                        refine qg_n rfl rfl rfl ?_
                        refine qg_n rfl rfl rfl ?_
                        refine qg_n rfl rfl rfl ?_
                        refine qg_n rfl rfl rfl ?_
                        refine qg_n rfl rfl rfl ?_
                        refine qg_n rfl rfl rfl ?_
                        refine q_v (o_pkt (.sc (.bool _)) rfl rfl rfl) ?_
                        refine q_nil ?_
                        cases hm
                        exact ⟨rfl, (), hk723, LeF.fm (Sub.refl _) (.cons (ALe.refl _ _) (.cons (ALe.refl _ _) (.cons (ALe.refl _ _) (.cons (ALe.refl _ _) (.nil)))))⟩
                      · replace hm := ite_f hm hb754
                        refine qg_y rfl rfl hb754 ?_
                        refine q_v (o_flp fd60_1 rfl rfl) ?_
                        refine qg_y rfl rfl hb754 ?_
                        refine q_v (o_ldp (.agg (c_Manifest x718.Man)) ld57 rfl (hp_get 0 hk723 rfl) rfl) ?_
                        refine qg_y rfl rfl hb754 ?_
                        obtain ⟨y755, hy756, hm⟩ := bind_of hm
                        refine q_v (o_call (W62 _ hy756) rfl bd62 rfl) ?_
                        refine qg_y rfl rfl hb754 ?_
                        refine q_v (o_not rfl) ?_
                        refine q_v (o_pkf (.sc (.bool _)) rfl hb754 rfl) ?_
                        refine q_v (o_mv (.sc (.bool _)) rfl) ?_
                        rcases Bool.eq_false_or_eq_true (!y755) with hb757 | hb757
                        · replace hm := ite_t hm hb757
                          refine qg_n rfl rfl hb757 ?_
                          refine qg_n rfl rfl hb757 ?_
                          refine qg_n rfl rfl hb757 ?_
                          refine qg_n rfl rfl hb757 ?_
                          refine qg_n rfl rfl hb757 ?_
                          refine q_v (o_pkt (.sc (.bool _)) rfl hb757 rfl) ?_
                          refine q_v (o_mv (.sc (.bool _)) rfl) ?_
                          refine qg_n rfl rfl rfl ?_
                          refine qg_n rfl rfl rfl ?_
                          refine qg_n rfl rfl rfl ?_
                          refine qg_n rfl rfl rfl ?_
                          refine qg_n rfl rfl rfl ?_
                          refine qg_n rfl rfl rfl ?_
                          refine qg_n rfl rfl rfl ?_
                          refine q_v (o_pkt (.sc (.bool _)) rfl rfl rfl) ?_
                          refine q_nil ?_
                          cases hm
                          exact ⟨rfl, (), hk723, LeF.fm (Sub.refl _) (.cons (ALe.refl _ _) (.cons (ALe.refl _ _) (.cons (ALe.refl _ _) (.cons (ALe.refl _ _) (.nil)))))⟩
                        · replace hm := ite_f hm hb757
                          refine qg_y rfl rfl hb757 ?_
                          refine q_v (o_ldp (.agg (c_Catalog p0)) ld27 rfl (hp_get 1 hk723 rfl) rfl) ?_
                          refine qg_y rfl rfl hb757 ?_
                          refine q_v (o_flp fd60_2 rfl rfl) ?_
                          refine qg_y rfl rfl hb757 ?_
                          refine q_v (o_ldp (.sl none 4 (List.map c_Loc x718.Locs)) ld58 rfl (hp_get 0 hk723 rfl) rfl) ?_
                          refine qg_y rfl rfl hb757 ?_
                          obtain ⟨y758, hy759, hm⟩ := bind_of hm
                          refine q_v (o_call (W61 _ hy759) rfl bd61 rfl) ?_
                          refine qg_y rfl rfl hb757 ?_
                          refine q_v (o_not rfl) ?_
                          refine q_v (o_pkf (.sc (.bool _)) rfl hb757 rfl) ?_
                          refine q_v (o_mv (.sc (.bool _)) rfl) ?_
                          rcases Bool.eq_false_or_eq_true (!y758) with hb760 | hb760
                          · replace hm := ite_t hm hb760
                            refine qg_n rfl rfl hb760 ?_
                            refine qg_n rfl rfl hb760 ?_
                            refine qg_n rfl rfl hb760 ?_
                            refine qg_n rfl rfl hb760 ?_
                            refine qg_n rfl rfl hb760 ?_
                            refine qg_n rfl rfl hb760 ?_
                            refine qg_n rfl rfl hb760 ?_
                            refine q_v (o_pkt (.sc (.bool _)) rfl hb760 rfl) ?_
                            refine q_nil ?_
                            cases hm
                            exact ⟨rfl, (), hk723, LeF.fm (Sub.refl _) (.cons (ALe.refl _ _) (.cons (ALe.refl _ _) (.cons (ALe.refl _ _) (.cons (ALe.refl _ _) (.nil)))))⟩
                          · replace hm := ite_f hm hb760
                            refine qg_y rfl rfl hb760 ?_
                            refine q_v (o_ldp (.agg (c_Catalog p0)) ld27 rfl (hp_get 1 hk723 rfl) rfl) ?_
                            refine qg_y rfl rfl hb760 ?_
                            refine q_v (o_flp fd60_1 rfl rfl) ?_
                            refine qg_y rfl rfl hb760 ?_
                            refine q_v (o_flp fd57_0 rfl rfl) ?_
                            refine qg_y rfl rfl hb760 ?_
                            refine q_v (o_ldp (.sc (.string x718.Man.Name)) ld9 rfl (hp_get 0 hk723 rfl) rfl) ?_
                            refine qg_y rfl rfl hb760 ?_
                            obtain ⟨y761, hy762, hm⟩ := bind_of hm
                            refine q_v (o_call (W50 _ hy762) rfl bd50 rfl) ?_
                            refine qg_y rfl rfl hb760 ?_
                            refine q_v (o_mv (.sc (.int _ _)) rfl) ?_
                            refine qg_y rfl rfl hb760 ?_
                            refine q_v (o_bi rfl rfl rfl trivial) ?_
                            refine q_v (o_pkf (.sc (.bool _)) rfl hb760 rfl) ?_
                            refine q_nil ?_
                            cases hm
                            exact ⟨rfl, (), hk723, LeF.fm (Sub.refl _) (.cons (ALe.refl _ _) (.cons (ALe.refl _ _) (.cons (ALe.refl _ _) (.cons (ALe.refl _ _) (.nil)))))⟩
                    · replace hm := ite_f hm hb751
                      refine qg_n rfl rfl hb751 ?_
                      refine qg_n rfl rfl hb751 ?_
                      refine qg_n rfl rfl hb751 ?_
                      refine qg_n rfl rfl hb751 ?_
                      refine qg_n rfl rfl hb751 ?_
                      refine qg_n rfl rfl hb751 ?_
                      refine qg_n rfl rfl hb751 ?_
                      refine qg_n rfl rfl hb751 ?_
                      refine qg_n rfl rfl hb751 ?_
                      refine qg_n rfl rfl hb751 ?_
                      refine qg_y rfl rfl hb750 ?_
                      refine q_v (o_pkf (.sc (.bool _)) rfl hb751 rfl) ?_
                      refine q_v (o_pkf (.sc (.bool _)) rfl hb750 rfl) ?_
                      refine q_v (o_mv (.sc (.bool _)) rfl) ?_
                      refine qg_y rfl rfl rfl ?_
                      refine q_v (o_flp fd60_1 rfl rfl) ?_
                      refine qg_y rfl rfl rfl ?_
                      refine q_v (o_ldp (.agg (c_Manifest x718.Man)) ld57 rfl (hp_get 0 hk723 rfl) rfl) ?_
                      refine qg_y rfl rfl rfl ?_
                      obtain ⟨y763, hy764, hm⟩ := bind_of hm
                      refine q_v (o_call (W62 _ hy764) rfl bd62 rfl) ?_
                      refine qg_y rfl rfl rfl ?_
                      refine q_v (o_not rfl) ?_
                      refine q_v (o_pkf (.sc (.bool _)) rfl rfl rfl) ?_
                      refine q_v (o_mv (.sc (.bool _)) rfl) ?_
                      rcases Bool.eq_false_or_eq_true (!y763) with hb765 | hb765
                      · replace hm := ite_t hm hb765
                        refine qg_n rfl rfl hb765 ?_
                        refine qg_n rfl rfl hb765 ?_
                        refine qg_n rfl rfl hb765 ?_
                        refine qg_n rfl rfl hb765 ?_
                        refine qg_n rfl rfl hb765 ?_
                        refine q_v (o_pkt (.sc (.bool _)) rfl hb765 rfl) ?_
                        refine q_v (o_mv (.sc (.bool _)) rfl) ?_
                        refine qg_n rfl rfl rfl ?_
                        refine qg_n rfl rfl rfl ?_
                        refine qg_n rfl rfl rfl ?_
                        refine qg_n rfl rfl rfl ?_
                        refine qg_n rfl rfl rfl ?_
                        refine qg_n rfl rfl rfl ?_
                        refine qg_n rfl rfl rfl ?_
                        refine q_v (o_pkt (.sc (.bool _)) rfl rfl rfl) ?_
                        refine q_nil ?_
                        cases hm
                        exact ⟨rfl, (), hk723, LeF.fm (Sub.refl _) (.cons (ALe.refl _ _) (.cons (ALe.refl _ _) (.cons (ALe.refl _ _) (.cons (ALe.refl _ _) (.nil)))))⟩
                      · replace hm := ite_f hm hb765
                        refine qg_y rfl rfl hb765 ?_
                        refine q_v (o_ldp (.agg (c_Catalog p0)) ld27 rfl (hp_get 1 hk723 rfl) rfl) ?_
                        refine qg_y rfl rfl hb765 ?_
                        refine q_v (o_flp fd60_2 rfl rfl) ?_
                        refine qg_y rfl rfl hb765 ?_
                        refine q_v (o_ldp (.sl none 4 (List.map c_Loc x718.Locs)) ld58 rfl (hp_get 0 hk723 rfl) rfl) ?_
                        refine qg_y rfl rfl hb765 ?_
                        obtain ⟨y766, hy767, hm⟩ := bind_of hm
                        refine q_v (o_call (W61 _ hy767) rfl bd61 rfl) ?_
                        refine qg_y rfl rfl hb765 ?_
                        refine q_v (o_not rfl) ?_
                        refine q_v (o_pkf (.sc (.bool _)) rfl hb765 rfl) ?_
                        refine q_v (o_mv (.sc (.bool _)) rfl) ?_
                        rcases Bool.eq_false_or_eq_true (!y766) with hb768 | hb768
                        · replace hm := ite_t hm hb768
                          refine qg_n rfl rfl hb768 ?_
                          refine qg_n rfl rfl hb768 ?_
                          refine qg_n rfl rfl hb768 ?_
                          refine qg_n rfl rfl hb768 ?_
                          refine qg_n rfl rfl hb768 ?_
                          refine qg_n rfl rfl hb768 ?_
                          refine qg_n rfl rfl hb768 ?_
                          refine q_v (o_pkt (.sc (.bool _)) rfl hb768 rfl) ?_
                          refine q_nil ?_
                          cases hm
                          exact ⟨rfl, (), hk723, LeF.fm (Sub.refl _) (.cons (ALe.refl _ _) (.cons (ALe.refl _ _) (.cons (ALe.refl _ _) (.cons (ALe.refl _ _) (.nil)))))⟩
                        · replace hm := ite_f hm hb768
                          refine qg_y rfl rfl hb768 ?_
                          refine q_v (o_ldp (.agg (c_Catalog p0)) ld27 rfl (hp_get 1 hk723 rfl) rfl) ?_
                          refine qg_y rfl rfl hb768 ?_
                          refine q_v (o_flp fd60_1 rfl rfl) ?_
                          refine qg_y rfl rfl hb768 ?_
                          refine q_v (o_flp fd57_0 rfl rfl) ?_
                          refine qg_y rfl rfl hb768 ?_
                          refine q_v (o_ldp (.sc (.string x718.Man.Name)) ld9 rfl (hp_get 0 hk723 rfl) rfl) ?_
                          refine qg_y rfl rfl hb768 ?_
                          obtain ⟨y769, hy770, hm⟩ := bind_of hm
                          refine q_v (o_call (W50 _ hy770) rfl bd50 rfl) ?_
                          refine qg_y rfl rfl hb768 ?_
                          refine q_v (o_mv (.sc (.int _ _)) rfl) ?_
                          refine qg_y rfl rfl hb768 ?_
                          refine q_v (o_bi rfl rfl rfl trivial) ?_
                          refine q_v (o_pkf (.sc (.bool _)) rfl hb768 rfl) ?_
                          refine q_nil ?_
                          cases hm
                          exact ⟨rfl, (), hk723, LeF.fm (Sub.refl _) (.cons (ALe.refl _ _) (.cons (ALe.refl _ _) (.cons (ALe.refl _ _) (.cons (ALe.refl _ _) (.nil)))))⟩
              · rintro _ j748 fr' h' hk771 hm le
                refine H725 _ _ (le.aw ?_)
                clear le H725 K725
                refine AW_if' rfl (fun hc772 => ?_) (fun hc772 => ?_)
                · replace hm := ite_t hm hc772
                  refine AW_k fun K773 H773 => ?_
                  refine AW_reg ?_
                  refine s_v (o_as (.sc (.bool _)) rfl) ?_
                  refine s_nil ?_
                  refine H773 _ _ ?_
                  clear H773 K773
                  refine AW_ret ?_
                  cases hm
                  refine ⟨⟨nofun, nofun⟩, fun he => ?_⟩
                  subst he
                  exact Ret.of1 (.inl rfl) (rsT _ _ (.sc (.bool _)) rfl) (hp_sub (List.nil_sublist _) hk771).1 (ALe.refl _ _) ⟨rfl, rfl⟩
                · replace hm := ite_f hm hc772
                  refine AW_skip ?_
                  refine H724 _ _ ?_
                  clear H724 K724
                  refine AW_k fun K774 H774 => ?_
                  refine AW_reg ?_
                  refine s_v (o_flp fd60_1 rfl rfl) ?_
                  refine s_v (o_ldp (.agg (c_Manifest x718.Man)) ld57 rfl (hp_get 0 hk771 rfl) rfl) ?_
                  obtain ⟨y775, hy776, hm⟩ := bind_of hm
                  refine s_v (o_call (W63 _ hy776) rfl bd63 rfl) ?_
                  refine s_v (o_as (.sl _ _ _) rfl) ?_
                  refine s_nil ?_
                  refine H774 _ _ ?_
                  clear H774 K774
                  refine AW_k fun K777 H777 => ?_
                  refine AW_k fun K778 H778 => ?_
                  refine AW_reg ?_
                  refine s_v (o_as (.sc (.int _ _)) rfl) ?_
                  refine s_nil ?_
                  refine H778 _ _ ?_
                  clear H778 K778
                  refine AW_loopG (n := 296) hm (σ := Int) (τ := Unit) (fun g s => HOk h [(some k720, .obj 60 (c_Snap x718)), (some k2, .obj 27 (c_Catalog p0))]) (fun g s => kp (kp (kp (kp (kp (k0) 10 (.sc (.int .i64 s))) 9 (.sl none 32 (List.map c_id y775))) 8 (.ptr k720 0)) 7 (.sc (.int .i64 q711))) 1 (.ptr k2 0)) (fun g s => hp h [(some k720, .obj 60 (c_Snap x718)), (some k2, .obj 27 (c_Catalog p0))]) () hk771 (LeF.fm (Sub.refl _) (.cons (ALe.refl _ _) (.cons (ALe.refl _ _) (.cons (ALe.refl _ _) (.cons (ALe.refl _ _) (.cons (ALe.refl _ _) (.nil))))))) ?_ ?_
                  · rintro _ q802 x hk803 hm
                    replace hm : M19_L7 fuel p0 y775 q802 = some x := hm
                    unfold M19_L7 at hm
                    refine AW_k fun K804 H804 => ?_
                    refine AW_k fun K805 H805 => ?_
                    refine AW_reg ?_
                    refine s_v (o_mv (.sc (.int _ _)) rfl) ?_
                    refine s_v (o_mv (.sl _ _ _) rfl) ?_
                    refine s_v (o_lenm ln80 rfl) ?_
                    refine s_v (o_bi rfl rfl rfl trivial) ?_
                    refine s_nil ?_
                    refine H805 _ _ ?_
                    clear H805 K805
                    refine AW_if' rfl (fun hc806 => ?_) (fun hc806 => ?_)
                    · replace hm := ite_t hm hc806
                      refine AW_skip ?_
                      refine H804 _ _ ?_
                      clear H804 K804
                      refine AW_k fun K807 H807 => ?_
                      refine AW_block ?_
                      refine AW_k fun K808 H808 => ?_
                      refine AW_region_q [(some 210, [1], []), (some 211, [9], []), (some 212, [10], []), (some 213, [211, 212], [1, 2]), (some 214, [213], [3]), (some 215, [210, 214], [0, 4]), (some 216, [215], [5])] mixed (by kernel_rfl) (by kernel_rfl) ?_
                      refine q_v (o_ldp (.agg (c_Catalog p0)) ld27 rfl (hp_get 1 hk803 rfl) rfl) ?_
                      refine q_v (o_mv (.sl _ _ _) rfl) ?_
                      refine q_v (o_mv (.sc (.int _ _)) rfl) ?_
                      obtain ⟨x809, hx810, hm⟩ := bind_of hm
                      refine q_v (o_ix hx810 el80 rfl rfl) ?_
                      refine q_v (o_ld (.agg (c_id x809)) ld61 rfl rfl) ?_
                      obtain ⟨y811, hy812, hm⟩ := bind_of hm
                      refine q_v (o_call (W64 _ hy812) rfl bd64 rfl) ?_
                      refine q_v (o_bi rfl rfl rfl trivial) ?_
                      refine q_nil ?_
                      refine H808 _ _ ?_
                      clear H808 K808
                      refine AW_if' rfl (fun hc813 => ?_) (fun hc813 => ?_)
                      · replace hm := ite_t hm hc813
                        refine AW_k fun K814 H814 => ?_
                        refine AW_reg ?_
                        refine s_v (o_as (.sc (.bool _)) rfl) ?_
                        refine s_nil ?_
                        refine H814 _ _ ?_
                        clear H814 K814
                        refine AW_ret ?_
                        cases hm
                        refine ⟨⟨nofun, nofun⟩, fun he => ?_⟩
                        subst he
                        refine ⟨⟨nofun, nofun⟩, fun he => ?_⟩
                        subst he
                        exact Ret.of1 (.inl rfl) (rsT _ _ (.sc (.bool _)) rfl) (hp_sub (List.nil_sublist _) hk803).1 (ALe.refl _ _) ⟨rfl, rfl⟩
                      · replace hm := ite_f hm hc813
                        refine AW_skip ?_
                        refine H807 _ _ ?_
                        clear H807 K807
                        refine AW_reg ?_
                        refine s_v (o_mv (.sc (.int _ _)) rfl) ?_
                        refine s_v (o_bi rfl rfl rfl trivial) ?_
                        refine s_v (o_as (.sc (.int _ _)) rfl) ?_
                        refine s_nil ?_
                        cases hm
                        exact ⟨rfl, (), hk803, LeF.fm (Sub.refl _) (.cons (ALe.refl _ _) (.cons (ALe.refl _ _) (.cons (ALe.refl _ _) (.cons (ALe.refl _ _) (.cons (ALe.refl _ _) (.nil))))))⟩
                    · replace hm := ite_f hm hc806
                      refine AW_exit ?_
                      refine Seq_exit ?_
                      cases hm
                      exact ⟨rfl, (), hk803, LeF.fm (Sub.refl _) (.cons (ALe.refl _ _) (.cons (ALe.refl _ _) (.cons (ALe.refl _ _) (.cons (ALe.refl _ _) (.cons (ALe.refl _ _) (.nil))))))⟩
                  · rintro _ r815 fr' h' hk816 hm le
                    refine H777 _ _ (le.aw ?_)
                    clear le H777 K777
                    refine AW_k fun K817 H817 => ?_
                    refine AW_reg ?_
                    refine s_v (o_as (.sc (.int _ _)) rfl) ?_
                    refine s_nil ?_
                    refine H817 _ _ ?_
                    clear H817 K817
                    refine AW_loopG (n := 296) hm (σ := Int) (τ := Unit) (fun g s => HOk h [(some k720, .obj 60 (c_Snap x718)), (some k2, .obj 27 (c_Catalog p0))]) (fun g s => kp (kp (kp (kp (k0) 11 (.sc (.int .i64 s))) 8 (.ptr k720 0)) 7 (.sc (.int .i64 q711))) 1 (.ptr k2 0)) (fun g s => hp h [(some k720, .obj 60 (c_Snap x718)), (some k2, .obj 27 (c_Catalog p0))]) () hk816 (LeF.fm (Sub.refl _) (.cons (ALe.refl _ _) (.cons (ALe.refl _ _) (.cons (ALe.refl _ _) (.cons (ALe.refl _ _) (.nil)))))) ?_ ?_
                    · rintro _ q837 x hk838 hm
                      replace hm : M19_L9 fuel p0 x718 q837 = some x := hm
                      unfold M19_L9 at hm
                      refine AW_k fun K839 H839 => ?_
                      refine AW_k fun K840 H840 => ?_
                      refine AW_reg ?_
                      refine s_v (o_mv (.sc (.int _ _)) rfl) ?_
                      refine s_v (o_flp fd27_3 rfl rfl) ?_
                      refine s_v (o_ldp (.sl none 3 (List.map c_Exp p0.Exps)) ld24 rfl (hp_get 1 hk838 rfl) rfl) ?_
                      refine s_v (o_lenm ln24 rfl) ?_
                      refine s_v (o_bi rfl rfl rfl trivial) ?_
                      refine s_nil ?_
                      refine H840 _ _ ?_
                      clear H840 K840
                      refine AW_if' rfl (fun hc841 => ?_) (fun hc841 => ?_)
                      · replace hm := ite_t hm hc841
                        refine AW_skip ?_
                        refine H839 _ _ ?_
                        clear H839 K839
                        refine AW_k fun K842 H842 => ?_
                        refine AW_block ?_
                        refine AW_k fun K843 H843 => ?_
                        refine AW_region_q [(some 224, [1], []), (some 225, [224], [0]), (some 226, [11], []), (some 227, [225, 226], [1, 2]), (some 228, [227], [3]), (some 229, [228], [4]), (some 230, [8], []), (some 231, [230], [6]), (some 232, [229, 231], [5, 7])] mixed (by kernel_rfl) (by kernel_rfl) ?_
                        refine q_v (o_flp fd27_3 rfl rfl) ?_
                        refine q_v (o_ldp (.sl none 3 (List.map c_Exp p0.Exps)) ld24 rfl (hp_get 1 hk838 rfl) rfl) ?_
                        refine q_v (o_mv (.sc (.int _ _)) rfl) ?_
                        obtain ⟨x844, hx845, hm⟩ := bind_of hm
                        refine q_v (o_ix hx845 el24 rfl rfl) ?_
                        refine q_v (o_fl fd65_1 rfl rfl) ?_
                        refine q_v (o_ld (.sc (.int .i64 x844.Of)) ld3 rfl rfl) ?_
                        refine q_v (o_flp fd60_0 rfl rfl) ?_
                        refine q_v (o_ldp (.sc (.int .i64 x718.Seq)) ld3 rfl (hp_get 0 hk838 rfl) rfl) ?_
                        refine q_v (o_bi rfl rfl rfl trivial) ?_
                        refine q_nil ?_
                        refine H843 _ _ ?_
                        clear H843 K843
                        refine AW_if' rfl (fun hc846 => ?_) (fun hc846 => ?_)
                        · replace hm := ite_t hm hc846
                          refine AW_k fun K847 H847 => ?_
                          refine AW_reg ?_
                          refine s_v (o_as (.sc (.bool _)) rfl) ?_
                          refine s_nil ?_
                          refine H847 _ _ ?_
                          clear H847 K847
                          refine AW_ret ?_
                          cases hm
                          refine ⟨⟨nofun, nofun⟩, fun he => ?_⟩
                          subst he
                          refine ⟨⟨nofun, nofun⟩, fun he => ?_⟩
                          subst he
                          exact Ret.of1 (.inl rfl) (rsT _ _ (.sc (.bool _)) rfl) (hp_sub (List.nil_sublist _) hk838).1 (ALe.refl _ _) ⟨rfl, rfl⟩
                        · replace hm := ite_f hm hc846
                          refine AW_skip ?_
                          refine H842 _ _ ?_
                          clear H842 K842
                          refine AW_reg ?_
                          refine s_v (o_mv (.sc (.int _ _)) rfl) ?_
                          refine s_v (o_bi rfl rfl rfl trivial) ?_
                          refine s_v (o_as (.sc (.int _ _)) rfl) ?_
                          refine s_nil ?_
                          cases hm
                          exact ⟨rfl, (), hk838, LeF.fm (Sub.refl _) (.cons (ALe.refl _ _) (.cons (ALe.refl _ _) (.cons (ALe.refl _ _) (.cons (ALe.refl _ _) (.nil)))))⟩
                      · replace hm := ite_f hm hc841
                        refine AW_exit ?_
                        refine Seq_exit ?_
                        cases hm
                        exact ⟨rfl, (), hk838, LeF.fm (Sub.refl _) (.cons (ALe.refl _ _) (.cons (ALe.refl _ _) (.cons (ALe.refl _ _) (.cons (ALe.refl _ _) (.nil)))))⟩
                    · rintro _ r848 fr' h' hk849 hm le
                      refine H716 _ _ (le.aw ?_)
                      clear le H716 K716
                      refine AW_reg ?_
                      refine s_v (o_mv (.sc (.int _ _)) rfl) ?_
                      refine s_v (o_bi rfl rfl rfl trivial) ?_
                      refine s_v (o_as (.sc (.int _ _)) rfl) ?_
                      refine s_nil ?_
                      cases hm
                      exact ⟨rfl, (), (hp_sub (.cons _ (.refl _)) hk849).2, LeF.fm ((hp_sub (.cons _ (.refl _)) hk849).1) (.cons (ALe.refl _ _) (.cons (ALe.refl _ _) (.nil)))⟩
            · replace hm := ite_f hm hc715
              refine AW_exit ?_
              refine Seq_exit ?_
              cases hm
              exact ⟨rfl, (), hk712, LeF.fm (Sub.refl _) (.cons (ALe.refl _ _) (.cons (ALe.refl _ _) (.nil)))⟩
          · rintro _ r850 fr' h' hk851 hm le
            refine H434 _ _ (le.aw ?_)
            clear le H434 K434
            refine AW_k fun K852 H852 => ?_
            refine AW_k fun K853 H853 => ?_
            refine AW_reg ?_
            refine s_v (o_as (.sc (.int _ _)) rfl) ?_
            refine s_nil ?_
            refine H853 _ _ ?_
            clear H853 K853
            refine AW_loopG (n := 296) hm (σ := Int) (τ := Unit) (fun g s => HOk h [(some k2, .obj 27 (c_Catalog p0))]) (fun g s => kp (kp (k0) 12 (.sc (.int .i64 s))) 1 (.ptr k2 0)) (fun g s => hp h [(some k2, .obj 27 (c_Catalog p0))]) () hk851 (LeF.fm (Sub.refl _) (.cons (ALe.refl _ _) (.cons (ALe.refl _ _) (.nil)))) ?_ ?_
            · rintro _ q951 x hk952 hm
              replace hm : M19_L11 fuel p0 q951 = some x := hm
              unfold M19_L11 at hm
              refine AW_k fun K953 H953 => ?_
              refine AW_k fun K954 H954 => ?_
              refine AW_reg ?_
              refine s_v (o_mv (.sc (.int _ _)) rfl) ?_
              refine s_v (o_flp fd27_3 rfl rfl) ?_
              refine s_v (o_ldp (.sl none 3 (List.map c_Exp p0.Exps)) ld24 rfl (hp_get 0 hk952 rfl) rfl) ?_
              refine s_v (o_lenm ln24 rfl) ?_
              refine s_v (o_bi rfl rfl rfl trivial) ?_
              refine s_nil ?_
              refine H954 _ _ ?_
              clear H954 K954
              refine AW_if' rfl (fun hc955 => ?_) (fun hc955 => ?_)
              · replace hm := ite_t hm hc955
                refine AW_skip ?_
                refine H953 _ _ ?_
                clear H953 K953
                refine AW_k fun K956 H956 => ?_
                refine AW_block ?_
                refine AW_k fun K957 H957 => ?_
                refine AW_reg ?_
                refine s_v (o_flp fd27_3 rfl rfl) ?_
                refine s_v (o_ldp (.sl none 3 (List.map c_Exp p0.Exps)) ld24 rfl (hp_get 0 hk952 rfl) rfl) ?_
                refine s_v (o_mv (.sc (.int _ _)) rfl) ?_
                obtain ⟨x958, hx959, hm⟩ := bind_of hm
                refine s_v (o_ix hx959 el24 rfl rfl) ?_
                refine s_v (o_ld (.agg (c_Exp x958)) ld65 rfl rfl) ?_
                refine s_op (a_alloc ([.sc (.int .i64 0), .sc (.int .i64 0), .sc (.slice none 0 0)]) hk952 zr65 rfl rfl fun k960 hk961 => ?_)
                refine s_op (a_store 0 (c_Exp x958) hk961 rfl rfl rfl rfl sz65 rfl rfl fun hk963 => ?_)
                refine s_nil ?_
                refine H957 _ _ ?_
                clear H957 K957
                refine AW_k fun K964 H964 => ?_
                refine AW_joinG (n := 296) hm (σ := Bool) (τ := Unit) (fun g s => HOk h [(some k960, .obj 65 (c_Exp x958)), (some k2, .obj 27 (c_Catalog p0))]) (fun g s => kp (kp (kp (k0) 295 (.sc (.bool s))) 12 (.sc (.int .i64 q951))) 1 (.ptr k2 0)) (fun g s => hp h [(some k960, .obj 65 (c_Exp x958)), (some k2, .obj 27 (c_Catalog p0))]) (fun x hm => ?_) ?_
                · refine AW_region_q [(some 245, [13], []), (some 246, [245], [0]), (some 247, [246], [1]), (some 248, [247], [2]), (some 249, [13, 248], [3]), (some 250, [249, 248], [4, 3]), (some 251, [1, 248], [3]), (some 252, [251, 248], [6, 3]), (some 253, [250, 252, 248], [5, 7, 3]), (some 254, [248, 253], [3, 8]), (some 255, [254], [9, 3]), (some 256, [12, 255], [10]), (some 257, [256, 255], [11, 10]), (some 258, [257, 255], [12, 10, 10]), (some 259, [13, 258], [13]), (some 260, [259, 258], [14, 13]), (some 261, [1, 258], [13]), (some 262, [261, 258], [16, 13]), (some 263, [12, 258], [13]), (some 264, [263, 258], [18, 13]), (some 265, [262, 264, 258], [17, 19, 13]), (some 266, [265, 258], [20, 13]), (some 267, [266, 258], [21, 13]), (some 268, [260, 267, 258], [15, 22, 13]), (some 269, [258, 268, 255], [13, 23, 10]), (some 270, [255, 269], [10, 24]), (some 271, [270], [25, 13]), (some 272, [13, 271], [26]), (some 273, [272, 271], [27, 26]), (some 274, [273, 271], [28, 26]), (some 275, [271, 274], [26, 29]), (some 276, [275], [30, 26]), (some 277, [13, 276], [31]), (some 278, [277, 276], [32, 31]), (some 279, [13, 276], [31]), (some 280, [279, 276], [34, 31]), (some 281, [278, 280, 276], [33, 35, 31]), (some 282, [276, 281], [31, 36]), (some 283, [282], [37, 31]), (some 284, [1, 283], [38]), (some 285, [13, 283], [38]), (some 286, [285, 283], [40, 38]), (some 287, [284, 286, 283], [39, 41, 38, 38]), (some 288, [287, 283], [42, 38]), (some 289, [283, 288], [38, 43]), (some 290, [289], [44, 42]), (some 291, [13, 290], [45]), (some 292, [291, 290], [46, 45]), (some 293, [292, 290], [47, 45]), (some 294, [293, 290], [48, 45]), (some 295, [290, 294], [45, 49])] mixed (by kernel_rfl) (by kernel_rfl) ?_
                  refine q_v (o_flp fd65_0 rfl rfl) ?_
                  refine q_v (o_ldp (.sc (.int .i64 x958.Seq)) ld3 rfl (hp_get 0 hk963 rfl) rfl) ?_
                  refine q_v (o_bi rfl rfl rfl trivial) ?_
                  refine q_v (o_mv (.sc (.bool _)) rfl) ?_
                  rcases Bool.eq_false_or_eq_true (decide (x958.Seq < 0)) with hb982 | hb982
                  · replace hm := ite_t hm hb982
                    refine qg_n rfl rfl hb982 ?_
                    refine qg_n rfl rfl hb982 ?_
                    refine qg_n rfl rfl hb982 ?_
                    refine qg_n rfl rfl hb982 ?_
                    refine qg_n rfl rfl hb982 ?_
                    refine q_v (o_pkt (.sc (.bool _)) rfl hb982 rfl) ?_
                    refine q_v (o_mv (.sc (.bool _)) rfl) ?_
                    refine qg_n rfl rfl rfl ?_
                    refine qg_n rfl rfl rfl ?_
                    refine qg_n rfl rfl rfl ?_
                    refine qg_u rfl rfl ?_
                    refine qg_u rfl rfl ?_
                    refine qg_u rfl rfl ?_
                    refine qg_u rfl rfl ?_
                    refine qg_u rfl rfl ?_
                    refine qg_u rfl rfl ?_
                    refine qg_u rfl rfl ?_
                    refine qg_u rfl rfl ?_
                    refine qg_u rfl rfl ?_
                    refine qg_u rfl rfl ?_
                    refine qg_n rfl rfl rfl ?_
                    refine q_v (o_pkt (.sc (.bool _)) rfl rfl rfl) ?_
                    refine q_v (o_mv (.sc (.bool _)) rfl) ?_
                    refine qg_n rfl rfl rfl ?_
                    refine qg_n rfl rfl rfl ?_
                    refine qg_n rfl rfl rfl ?_
                    refine q_v (o_pkt (.sc (.bool _)) rfl rfl rfl) ?_
                    refine q_v (o_mv (.sc (.bool _)) rfl) ?_
                    refine qg_n rfl rfl rfl ?_
                    refine qg_n rfl rfl rfl ?_
                    refine qg_n rfl rfl rfl ?_
                    refine qg_n rfl rfl rfl ?_
                    refine qg_n rfl rfl rfl ?_
                    refine q_v (o_pkt (.sc (.bool _)) rfl rfl rfl) ?_
                    refine q_v (o_mv (.sc (.bool _)) rfl) ?_
                    refine qg_n rfl rfl rfl ?_
                    refine qg_n rfl rfl rfl ?_
                    refine qg_n rfl rfl rfl ?_
                    refine qg_n rfl rfl rfl ?_
                    refine qg_n rfl rfl rfl ?_
                    refine q_v (o_pkt (.sc (.bool _)) rfl rfl rfl) ?_
                    refine q_v (o_mv (.sc (.bool _)) rfl) ?_
                    refine qg_n rfl rfl rfl ?_
                    refine qg_n rfl rfl rfl ?_
                    refine qg_n rfl rfl rfl ?_
                    refine qg_n rfl rfl rfl ?_
                    refine q_v (o_pkt (.sc (.bool _)) rfl rfl rfl) ?_
                    refine q_nil ?_
                    cases hm
                    exact ⟨rfl, (), hk963, LeF.fm (Sub.refl _) (.cons (ALe.refl _ _) (.cons (ALe.refl _ _) (.cons (ALe.refl _ _) (.nil))))⟩
                  · replace hm := ite_f hm hb982
                    refine qg_y rfl rfl hb982 ?_
                    refine q_v (o_flp fd65_0 rfl rfl) ?_
                    refine qg_y rfl rfl hb982 ?_
                    refine q_v (o_ldp (.sc (.int .i64 x958.Seq)) ld3 rfl (hp_get 0 hk963 rfl) rfl) ?_
                    refine qg_y rfl rfl hb982 ?_
                    refine q_v (o_flp fd27_0 rfl rfl) ?_
                    refine qg_y rfl rfl hb982 ?_
                    refine q_v (o_ldp (.sc (.int .i64 p0.Seq)) ld3 rfl (hp_get 1 hk963 rfl) rfl) ?_
                    refine qg_y rfl rfl hb982 ?_
                    refine q_v (o_bi rfl rfl rfl trivial) ?_
                    refine q_v (o_pkf (.sc (.bool _)) rfl hb982 rfl) ?_
                    refine q_v (o_mv (.sc (.bool _)) rfl) ?_
                    rcases Bool.eq_false_or_eq_true (decide (p0.Seq ≤ x958.Seq)) with hb983 | hb983
                    · replace hm := ite_t hm hb983
                      refine qg_n rfl rfl hb983 ?_
                      refine qg_n rfl rfl hb983 ?_
                      refine qg_n rfl rfl hb983 ?_
                      refine qg_u rfl rfl ?_
                      refine qg_u rfl rfl ?_
                      refine qg_u rfl rfl ?_
                      refine qg_u rfl rfl ?_
                      refine qg_u rfl rfl ?_
                      refine qg_u rfl rfl ?_
                      refine qg_u rfl rfl ?_
                      refine qg_u rfl rfl ?_
                      refine qg_u rfl rfl ?_
                      refine qg_u rfl rfl ?_
                      refine qg_n rfl rfl hb983 ?_
                      refine q_v (o_pkt (.sc (.bool _)) rfl hb983 rfl) ?_
                      refine q_v (o_mv (.sc (.bool _)) rfl) ?_
                      refine qg_n rfl rfl rfl ?_
                      refine qg_n rfl rfl rfl ?_
                      refine qg_n rfl rfl rfl ?_
                      refine q_v (o_pkt (.sc (.bool _)) rfl rfl rfl) ?_
                      refine q_v (o_mv (.sc (.bool _)) rfl) ?_
                      refine qg_n rfl rfl rfl ?_
                      refine qg_n rfl rfl rfl ?_
                      refine qg_n rfl rfl rfl ?_
                      refine qg_n rfl rfl rfl ?_
                      refine qg_n rfl rfl rfl ?_
                      refine q_v (o_pkt (.sc (.bool _)) rfl rfl rfl) ?_
                      refine q_v (o_mv (.sc (.bool _)) rfl) ?_
                      refine qg_n rfl rfl rfl ?_
                      refine qg_n rfl rfl rfl ?_
                      refine qg_n rfl rfl rfl ?_
                      refine qg_n rfl rfl rfl ?_
                      refine qg_n rfl rfl rfl ?_
                      refine q_v (o_pkt (.sc (.bool _)) rfl rfl rfl) ?_
                      refine q_v (o_mv (.sc (.bool _)) rfl) ?_
                      refine qg_n rfl rfl rfl ?_
                      refine qg_n rfl rfl rfl ?_
                      refine qg_n rfl rfl rfl ?_
                      refine qg_n rfl rfl rfl ?_
                      refine q_v (o_pkt (.sc (.bool _)) rfl rfl rfl) ?_
                      refine q_nil ?_
                      cases hm
                      exact ⟨rfl, (), hk963, LeF.fm (Sub.refl _) (.cons (ALe.refl _ _) (.cons (ALe.refl _ _) (.cons (ALe.refl _ _) (.nil))))⟩
                    · replace hm := ite_f hm hb983
                      refine qg_y rfl rfl hb983 ?_
                      refine q_v (o_mv (.sc (.int _ _)) rfl) ?_
                      refine qg_y rfl rfl hb983 ?_
                      refine q_v (o_bi rfl rfl rfl trivial) ?_
                      refine qg_y rfl rfl hb983 ?_
                      refine q_v (o_mv (.sc (.bool _)) rfl) ?_
                      rcases Bool.eq_false_or_eq_true (decide (0 < q951)) with hb984 | hb984
                      · replace hm := ite_t hm hb984
                        refine qg_y rfl rfl hb984 ?_
                        refine q_v (o_flp fd65_0 rfl rfl) ?_
                        refine qg_y rfl rfl hb984 ?_
                        refine q_v (o_ldp (.sc (.int .i64 x958.Seq)) ld3 rfl (hp_get 0 hk963 rfl) rfl) ?_
                        refine qg_y rfl rfl hb984 ?_
                        refine q_v (o_flp fd27_3 rfl rfl) ?_
                        refine qg_y rfl rfl hb984 ?_
                        refine q_v (o_ldp (.sl none 3 (List.map c_Exp p0.Exps)) ld24 rfl (hp_get 1 hk963 rfl) rfl) ?_
                        refine qg_y rfl rfl hb984 ?_
                        refine q_v (o_mv (.sc (.int _ _)) rfl) ?_
                        refine qg_y rfl rfl hb984 ?_
                        refine q_v (o_bi rfl rfl rfl trivial) ?_
                        refine qg_y rfl rfl hb984 ?_
                        obtain ⟨x985, hx986, hm⟩ := bind_of hm
                        refine q_v (o_ix hx986 el24 rfl rfl) ?_
                        refine qg_y rfl rfl hb984 ?_
                        refine q_v (o_fl fd65_0 rfl rfl) ?_
                        refine qg_y rfl rfl hb984 ?_
                        refine q_v (o_ld (.sc (.int .i64 x985.Seq)) ld3 rfl rfl) ?_
                        refine qg_y rfl rfl hb984 ?_
                        refine q_v (o_bi rfl rfl rfl trivial) ?_
                        refine qg_y rfl rfl hb983 ?_
                        refine q_v (o_pkt (.sc (.bool _)) rfl hb984 rfl) ?_
                        refine q_v (o_pkf (.sc (.bool _)) rfl hb983 rfl) ?_
                        refine q_v (o_mv (.sc (.bool _)) rfl) ?_
                        rcases Bool.eq_false_or_eq_true (decide (x958.Seq ≤ x985.Seq)) with hb987 | hb987
                        · replace hm := ite_t hm hb987
                          refine qg_n rfl rfl hb987 ?_
                          refine qg_n rfl rfl hb987 ?_
                          refine qg_n rfl rfl hb987 ?_
                          refine q_v (o_pkt (.sc (.bool _)) rfl hb987 rfl) ?_
                          refine q_v (o_mv (.sc (.bool _)) rfl) ?_
                          refine qg_n rfl rfl rfl ?_
                          refine qg_n rfl rfl rfl ?_
                          refine qg_n rfl rfl rfl ?_
                          refine qg_n rfl rfl rfl ?_
                          refine qg_n rfl rfl rfl ?_
                          refine q_v (o_pkt (.sc (.bool _)) rfl rfl rfl) ?_
                          refine q_v (o_mv (.sc (.bool _)) rfl) ?_
                          refine qg_n rfl rfl rfl ?_
                          refine qg_n rfl rfl rfl ?_
                          refine qg_n rfl rfl rfl ?_
                          refine qg_n rfl rfl rfl ?_
                          refine qg_n rfl rfl rfl ?_
                          refine q_v (o_pkt (.sc (.bool _)) rfl rfl rfl) ?_
                          refine q_v (o_mv (.sc (.bool _)) rfl) ?_
                          refine qg_n rfl rfl rfl ?_
                          refine qg_n rfl rfl rfl ?_
                          refine qg_n rfl rfl rfl ?_
                          refine qg_n rfl rfl rfl ?_
                          refine q_v (o_pkt (.sc (.bool _)) rfl rfl rfl) ?_
                          refine q_nil ?_
                          cases hm
                          exact ⟨rfl, (), hk963, LeF.fm (Sub.refl _) (.cons (ALe.refl _ _) (.cons (ALe.refl _ _) (.cons (ALe.refl _ _) (.nil))))⟩
                        · replace hm := ite_f hm hb987
                          refine qg_y rfl rfl hb987 ?_
                          refine q_v (o_flp fd65_1 rfl rfl) ?_
                          refine qg_y rfl rfl hb987 ?_
                          refine q_v (o_ldp (.sc (.int .i64 x958.Of)) ld3 rfl (hp_get 0 hk963 rfl) rfl) ?_
                          refine qg_y rfl rfl hb987 ?_
                          refine q_v (o_bi rfl rfl rfl trivial) ?_
                          refine q_v (o_pkf (.sc (.bool _)) rfl hb987 rfl) ?_
                          refine q_v (o_mv (.sc (.bool _)) rfl) ?_
                          rcases Bool.eq_false_or_eq_true (decide (x958.Of < 0)) with hb988 | hb988
                          · replace hm := ite_t hm hb988
                            refine qg_n rfl rfl hb988 ?_
                            refine qg_n rfl rfl hb988 ?_
                            refine qg_n rfl rfl hb988 ?_
                            refine qg_n rfl rfl hb988 ?_
                            refine qg_n rfl rfl hb988 ?_
                            refine q_v (o_pkt (.sc (.bool _)) rfl hb988 rfl) ?_
                            refine q_v (o_mv (.sc (.bool _)) rfl) ?_
                            refine qg_n rfl rfl rfl ?_
                            refine qg_n rfl rfl rfl ?_
                            refine qg_n rfl rfl rfl ?_
                            refine qg_n rfl rfl rfl ?_
                            refine qg_n rfl rfl rfl ?_
                            refine q_v (o_pkt (.sc (.bool _)) rfl rfl rfl) ?_
                            refine q_v (o_mv (.sc (.bool _)) rfl) ?_
                            refine qg_n rfl rfl rfl ?_
                            refine qg_n rfl rfl rfl ?_
                            refine qg_n rfl rfl rfl ?_
                            refine qg_n rfl rfl rfl ?_
                            refine q_v (o_pkt (.sc (.bool _)) rfl rfl rfl) ?_
                            refine q_nil ?_
                            cases hm
                            exact ⟨rfl, (), hk963, LeF.fm (Sub.refl _) (.cons (ALe.refl _ _) (.cons (ALe.refl _ _) (.cons (ALe.refl _ _) (.nil))))⟩
                          · replace hm := ite_f hm hb988
                            refine qg_y rfl rfl hb988 ?_
                            refine q_v (o_flp fd65_1 rfl rfl) ?_
                            refine qg_y rfl rfl hb988 ?_
                            refine q_v (o_ldp (.sc (.int .i64 x958.Of)) ld3 rfl (hp_get 0 hk963 rfl) rfl) ?_
                            refine qg_y rfl rfl hb988 ?_
                            refine q_v (o_flp fd65_0 rfl rfl) ?_
                            refine qg_y rfl rfl hb988 ?_
                            refine q_v (o_ldp (.sc (.int .i64 x958.Seq)) ld3 rfl (hp_get 0 hk963 rfl) rfl) ?_
                            refine qg_y rfl rfl hb988 ?_
                            refine q_v (o_bi rfl rfl rfl trivial) ?_
                            refine q_v (o_pkf (.sc (.bool _)) rfl hb988 rfl) ?_
                            refine q_v (o_mv (.sc (.bool _)) rfl) ?_
                            rcases Bool.eq_false_or_eq_true (decide (x958.Seq ≤ x958.Of)) with hb989 | hb989
                            · replace hm := ite_t hm hb989
                              refine qg_n rfl rfl hb989 ?_
                              refine qg_n rfl rfl hb989 ?_
                              refine qg_n rfl rfl hb989 ?_
                              refine qg_n rfl rfl hb989 ?_
                              refine qg_n rfl rfl hb989 ?_
                              refine q_v (o_pkt (.sc (.bool _)) rfl hb989 rfl) ?_
                              refine q_v (o_mv (.sc (.bool _)) rfl) ?_
                              refine qg_n rfl rfl rfl ?_
                              refine qg_n rfl rfl rfl ?_
                              refine qg_n rfl rfl rfl ?_
                              refine qg_n rfl rfl rfl ?_
                              refine q_v (o_pkt (.sc (.bool _)) rfl rfl rfl) ?_
                              refine q_nil ?_
                              cases hm
                              exact ⟨rfl, (), hk963, LeF.fm (Sub.refl _) (.cons (ALe.refl _ _) (.cons (ALe.refl _ _) (.cons (ALe.refl _ _) (.nil))))⟩
                            · replace hm := ite_f hm hb989
                              refine qg_y rfl rfl hb989 ?_
                              refine q_v (o_ldp (.agg (c_Catalog p0)) ld27 rfl (hp_get 1 hk963 rfl) rfl) ?_
                              refine qg_y rfl rfl hb989 ?_
                              refine q_v (o_flp fd65_2 rfl rfl) ?_
                              refine qg_y rfl rfl hb989 ?_
                              refine q_v (o_ldp (.sl none 4 (List.map c_Loc x958.Locs)) ld58 rfl (hp_get 0 hk963 rfl) rfl) ?_
                              refine qg_y rfl rfl hb989 ?_
                              obtain ⟨y990, hy991, hm⟩ := bind_of hm
                              refine q_v (o_call (W61 _ hy991) rfl bd61 rfl) ?_
                              refine qg_y rfl rfl hb989 ?_
                              refine q_v (o_not rfl) ?_
                              refine q_v (o_pkf (.sc (.bool _)) rfl hb989 rfl) ?_
                              refine q_v (o_mv (.sc (.bool _)) rfl) ?_
                              rcases Bool.eq_false_or_eq_true (!y990) with hb992 | hb992
                              · replace hm := ite_t hm hb992
                                refine qg_n rfl rfl hb992 ?_
                                refine qg_n rfl rfl hb992 ?_
                                refine qg_n rfl rfl hb992 ?_
                                refine qg_n rfl rfl hb992 ?_
                                refine q_v (o_pkt (.sc (.bool _)) rfl hb992 rfl) ?_
                                refine q_nil ?_
                                cases hm
                                exact ⟨rfl, (), hk963, LeF.fm (Sub.refl _) (.cons (ALe.refl _ _) (.cons (ALe.refl _ _) (.cons (ALe.refl _ _) (.nil))))⟩
                              · replace hm := ite_f hm hb992
                                refine qg_y rfl rfl hb992 ?_
                                refine q_v (o_flp fd65_2 rfl rfl) ?_
                                refine qg_y rfl rfl hb992 ?_
                                refine q_v (o_ldp (.sl none 4 (List.map c_Loc x958.Locs)) ld58 rfl (hp_get 0 hk963 rfl) rfl) ?_
                                refine qg_y rfl rfl hb992 ?_
                                refine q_v (o_lenm ln58 rfl) ?_
                                refine qg_y rfl rfl hb992 ?_
                                refine q_v (o_bi rfl rfl rfl trivial) ?_
                                refine q_v (o_pkf (.sc (.bool _)) rfl hb992 rfl) ?_
                                refine q_nil ?_
                                cases hm
                                exact ⟨rfl, (), hk963, LeF.fm (Sub.refl _) (.cons (ALe.refl _ _) (.cons (ALe.refl _ _) (.cons (ALe.refl _ _) (.nil))))⟩
                      · replace hm := ite_f hm hb984
                        refine qg_n rfl rfl hb984 ?_
                        refine qg_n rfl rfl hb984 ?_
                        refine qg_n rfl rfl hb984 ?_
                        refine qg_n rfl rfl hb984 ?_
                        refine qg_n rfl rfl hb984 ?_
                        refine qg_n rfl rfl hb984 ?_
                        refine qg_n rfl rfl hb984 ?_
                        refine qg_n rfl rfl hb984 ?_
                        refine qg_n rfl rfl hb984 ?_
                        refine qg_n rfl rfl hb984 ?_
                        refine qg_y rfl rfl hb983 ?_
                        refine q_v (o_pkf (.sc (.bool _)) rfl hb984 rfl) ?_
                        refine q_v (o_pkf (.sc (.bool _)) rfl hb983 rfl) ?_
                        refine q_v (o_mv (.sc (.bool _)) rfl) ?_
                        refine qg_y rfl rfl rfl ?_
                        refine q_v (o_flp fd65_1 rfl rfl) ?_
                        refine qg_y rfl rfl rfl ?_
                        refine q_v (o_ldp (.sc (.int .i64 x958.Of)) ld3 rfl (hp_get 0 hk963 rfl) rfl) ?_
                        refine qg_y rfl rfl rfl ?_
                        refine q_v (o_bi rfl rfl rfl trivial) ?_
                        refine q_v (o_pkf (.sc (.bool _)) rfl rfl rfl) ?_
                        refine q_v (o_mv (.sc (.bool _)) rfl) ?_
                        rcases Bool.eq_false_or_eq_true (decide (x958.Of < 0)) with hb993 | hb993
                        · replace hm := ite_t hm hb993
                          refine qg_n rfl rfl hb993 ?_
                          refine qg_n rfl rfl hb993 ?_
                          refine qg_n rfl rfl hb993 ?_
                          refine qg_n rfl rfl hb993 ?_
                          refine qg_n rfl rfl hb993 ?_
                          refine q_v (o_pkt (.sc (.bool _)) rfl hb993 rfl) ?_
                          refine q_v (o_mv (.sc (.bool _)) rfl) ?_
                          refine qg_n rfl rfl rfl ?_
                          refine qg_n rfl rfl rfl ?_
                          refine qg_n rfl rfl rfl ?_
                          refine qg_n rfl rfl rfl ?_
                          refine qg_n rfl rfl rfl ?_
                          refine q_v (o_pkt (.sc (.bool _)) rfl rfl rfl) ?_
                          refine q_v (o_mv (.sc (.bool _)) rfl) ?_
                          refine qg_n rfl rfl rfl ?_
                          refine qg_n rfl rfl rfl ?_
                          refine qg_n rfl rfl rfl ?_
                          refine qg_n rfl rfl rfl ?_
                          refine q_v (o_pkt (.sc (.bool _)) rfl rfl rfl) ?_
                          refine q_nil ?_
                          cases hm
                          exact ⟨rfl, (), hk963, LeF.fm (Sub.refl _) (.cons (ALe.refl _ _) (.cons (ALe.refl _ _) (.cons (ALe.refl _ _) (.nil))))⟩
                        · replace hm := ite_f hm hb993
                          refine qg_y rfl rfl hb993 ?_
                          refine q_v (o_flp fd65_1 rfl rfl) ?_
                          refine qg_y rfl rfl hb993 ?_
                          refine q_v (o_ldp (.sc (.int .i64 x958.Of)) ld3 rfl (hp_get 0 hk963 rfl) rfl) ?_
                          refine qg_y rfl rfl hb993 ?_
                          refine q_v (o_flp fd65_0 rfl rfl) ?_
                          refine qg_y rfl rfl hb993 ?_
                          refine q_v (o_ldp (.sc (.int .i64 x958.Seq)) ld3 rfl (hp_get 0 hk963 rfl) rfl) ?_
                          refine qg_y rfl rfl hb993 ?_
                          refine q_v (o_bi rfl rfl rfl trivial) ?_
                          refine q_v (o_pkf (.sc (.bool _)) rfl hb993 rfl) ?_
                          refine q_v (o_mv (.sc (.bool _)) rfl) ?_
                          rcases Bool.eq_false_or_eq_true (decide (x958.Seq ≤ x958.Of)) with hb994 | hb994
                          · replace hm := ite_t hm hb994
                            refine qg_n rfl rfl hb994 ?_
                            refine qg_n rfl rfl hb994 ?_
                            refine qg_n rfl rfl hb994 ?_
                            refine qg_n rfl rfl hb994 ?_
                            refine qg_n rfl rfl hb994 ?_
                            refine q_v (o_pkt (.sc (.bool _)) rfl hb994 rfl) ?_
                            refine q_v (o_mv (.sc (.bool _)) rfl) ?_
                            refine qg_n rfl rfl rfl ?_
                            refine qg_n rfl rfl rfl ?_
                            refine qg_n rfl rfl rfl ?_
                            refine qg_n rfl rfl rfl ?_
                            refine q_v (o_pkt (.sc (.bool _)) rfl rfl rfl) ?_
                            refine q_nil ?_
                            cases hm
                            exact ⟨rfl, (), hk963, LeF.fm (Sub.refl _) (.cons (ALe.refl _ _) (.cons (ALe.refl _ _) (.cons (ALe.refl _ _) (.nil))))⟩
                          · replace hm := ite_f hm hb994
                            refine qg_y rfl rfl hb994 ?_
                            refine q_v (o_ldp (.agg (c_Catalog p0)) ld27 rfl (hp_get 1 hk963 rfl) rfl) ?_
                            refine qg_y rfl rfl hb994 ?_
                            refine q_v (o_flp fd65_2 rfl rfl) ?_
                            refine qg_y rfl rfl hb994 ?_
                            refine q_v (o_ldp (.sl none 4 (List.map c_Loc x958.Locs)) ld58 rfl (hp_get 0 hk963 rfl) rfl) ?_
                            refine qg_y rfl rfl hb994 ?_
                            obtain ⟨y995, hy996, hm⟩ := bind_of hm
                            refine q_v (o_call (W61 _ hy996) rfl bd61 rfl) ?_
                            refine qg_y rfl rfl hb994 ?_
                            refine q_v (o_not rfl) ?_
                            refine q_v (o_pkf (.sc (.bool _)) rfl hb994 rfl) ?_
                            refine q_v (o_mv (.sc (.bool _)) rfl) ?_
                            rcases Bool.eq_false_or_eq_true (!y995) with hb997 | hb997
                            · replace hm := ite_t hm hb997
                              refine qg_n rfl rfl hb997 ?_
                              refine qg_n rfl rfl hb997 ?_
                              refine qg_n rfl rfl hb997 ?_
                              refine qg_n rfl rfl hb997 ?_
                              refine q_v (o_pkt (.sc (.bool _)) rfl hb997 rfl) ?_
                              refine q_nil ?_
                              cases hm
                              exact ⟨rfl, (), hk963, LeF.fm (Sub.refl _) (.cons (ALe.refl _ _) (.cons (ALe.refl _ _) (.cons (ALe.refl _ _) (.nil))))⟩
                            · replace hm := ite_f hm hb997
                              refine qg_y rfl rfl hb997 ?_
                              refine q_v (o_flp fd65_2 rfl rfl) ?_
                              refine qg_y rfl rfl hb997 ?_
                              refine q_v (o_ldp (.sl none 4 (List.map c_Loc x958.Locs)) ld58 rfl (hp_get 0 hk963 rfl) rfl) ?_
                              refine qg_y rfl rfl hb997 ?_
                              refine q_v (o_lenm ln58 rfl) ?_
                              refine qg_y rfl rfl hb997 ?_
                              refine q_v (o_bi rfl rfl rfl trivial) ?_
                              refine q_v (o_pkf (.sc (.bool _)) rfl hb997 rfl) ?_
                              refine q_nil ?_
                              cases hm
                              exact ⟨rfl, (), hk963, LeF.fm (Sub.refl _) (.cons (ALe.refl _ _) (.cons (ALe.refl _ _) (.cons (ALe.refl _ _) (.nil))))⟩
                · rintro _ j981 fr' h' hk998 hm le
                  refine H964 _ _ (le.aw ?_)
                  clear le H964 K964
                  refine AW_if' rfl (fun hc999 => ?_) (fun hc999 => ?_)
                  · replace hm := ite_t hm hc999
                    refine AW_k fun K1000 H1000 => ?_
                    refine AW_reg ?_
                    refine s_v (o_as (.sc (.bool _)) rfl) ?_
                    refine s_nil ?_
                    refine H1000 _ _ ?_
                    clear H1000 K1000
                    refine AW_ret ?_
                    cases hm
                    refine ⟨⟨nofun, nofun⟩, fun he => ?_⟩
                    subst he
                    exact Ret.of1 (.inl rfl) (rsT _ _ (.sc (.bool _)) rfl) (hp_sub (List.nil_sublist _) hk998).1 (ALe.refl _ _) ⟨rfl, rfl⟩
                  · replace hm := ite_f hm hc999
                    refine AW_skip ?_
                    refine H956 _ _ ?_
                    clear H956 K956
                    refine AW_reg ?_
                    refine s_v (o_mv (.sc (.int _ _)) rfl) ?_
                    refine s_v (o_bi rfl rfl rfl trivial) ?_
                    refine s_v (o_as (.sc (.int _ _)) rfl) ?_
                    refine s_nil ?_
                    cases hm
                    exact ⟨rfl, (), (hp_sub (.cons _ (.refl _)) hk998).2, LeF.fm ((hp_sub (.cons _ (.refl _)) hk998).1) (.cons (ALe.refl _ _) (.cons (ALe.refl _ _) (.nil)))⟩
              · replace hm := ite_f hm hc955
                refine AW_exit ?_
                refine Seq_exit ?_
                cases hm
                exact ⟨rfl, (), hk952, LeF.fm (Sub.refl _) (.cons (ALe.refl _ _) (.cons (ALe.refl _ _) (.nil)))⟩
            · rintro _ r1001 fr' h' hk1002 hm le
              refine H852 _ _ (le.aw ?_)
              clear le H852 K852
              refine AW_k fun K1003 H1003 => ?_
              refine AW_reg ?_
              refine s_v (o_as (.sc (.bool _)) rfl) ?_
              refine s_nil ?_
              refine H1003 _ _ ?_
              clear H1003 K1003
              refine AW_ret ?_
              cases hm
              exact Ret.of1 (.inl rfl) (rsT _ _ (.sc (.bool _)) rfl) (hp_sub (List.nil_sublist _) hk1002).1 (ALe.refl _ _) ⟨rfl, rfl⟩
theorem bd19 : bodied Try.prog 19 = true := by kernel_rfl
end Go.Proofs.Ytoomgangpjcaoaa
