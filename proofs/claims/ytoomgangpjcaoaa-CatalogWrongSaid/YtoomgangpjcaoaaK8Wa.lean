import Derived.Test.YtoomgangpjcaoaaK8Types
set_option linter.unusedSimpArgs false
set_option linter.unusedVariables false
namespace Go.Proofs.Ytoomgangpjcaoaa
open Go.Vm
def M51_L0 (fuel : Nat) (p0 : TManifest) (q54 : Int) : Option (Lp (Int) (Bool)) :=
  if (decide (q54 < (p0.Parts.length : Int))) = true then (after ((ix p0.Parts q54).bind fun x67 => if (decide (100 < (x67.Path.size : Int))) = true then (some (.brk true)) else (ix p0.Parts q54).bind fun x70 => some (.brk (decide (40 < (x70.Ids.length : Int)))) : Option (Lp (Bool) (Lp (Int) (Bool)))) fun j66 => if j66 = true then (some (.ret true)) else some (.go (IntKind.wrap .i64 (q54 + 1)))) else some (.brk q54)
def M51 (fuel : Nat) (p0 : TManifest) : Option (Bool) :=
  after (if (decide (100 < (p0.Name.size : Int))) = true then (some (.brk true)) else some (.brk (decide (10 < (p0.Parts.length : Int)))) : Option (Lp (Bool) (Bool))) fun j8 => if j8 = true then (some true) else after (loopM (fun s => M51_L0 fuel p0 s) fuel 0) fun r75 => some false
set_option maxRecDepth 100000 in
/-- cellarer/cellarerlaw17.Heavy -/
theorem W51 {fuel : Nat} {p0 : TManifest} {o : Bool} (h : Heap) (hm : M51 fuel p0 = some o) :
    ACalls Try.prog 51 [.agg (c_Manifest p0)] h (fun r h' => r = .sc (.bool o) ∧ h' = h) := by
  refine ACalls_hp 39 [.tmp 2] Try.func51 rfl rfl rfl rfl ?_
  unfold M51 at hm
  refine AW_k fun K1 H1 => ?_
  refine AW_reg ?_
  refine s_op (a_box (HOk.nil _) rfl rfl fun k2 hk3 => ?_)
  refine s_v (o_as (.sc (.bool _)) rfl) ?_
  refine s_nil ?_
  refine H1 _ _ ?_
  clear H1 K1
  refine AW_k fun K5 H5 => ?_
  refine AW_k fun K6 H6 => ?_
  refine AW_joinG (n := 39) hm (σ := Bool) (τ := Unit) (fun g s => HOk h [(some k2, .obj 57 (c_Manifest p0))]) (fun g s => kp (kp (k0) 13 (.sc (.bool s))) 1 (.ptr k2 0)) (fun g s => hp h [(some k2, .obj 57 (c_Manifest p0))]) (fun x hm => ?_) ?_
  · refine AW_reg ?_
    refine s_v (o_flp fd57_0 rfl rfl) ?_
    refine s_v (o_ldp (.sc (.string p0.Name)) ld9 rfl (hp_get 0 hk3 rfl) rfl) ?_
    refine s_v (o_lent ln9 rfl) ?_
    refine s_v (o_bi rfl rfl rfl trivial) ?_
    refine s_v (o_mv (.sc (.bool _)) rfl) ?_
    rcases Bool.eq_false_or_eq_true (decide (100 < (p0.Name.size : Int))) with hb9 | hb9
    · replace hm := ite_t hm hb9
      refine sg_n rfl rfl hb9 ?_
      refine sg_n rfl rfl hb9 ?_
      refine sg_n rfl rfl hb9 ?_
      refine sg_n rfl rfl hb9 ?_
      refine s_v (o_pkt (.sc (.bool _)) rfl hb9 rfl) ?_
      refine s_nil ?_
      cases hm
      exact ⟨rfl, (), hk3, LeF.fm (Sub.refl _) (.cons (ALe.refl _ _) (.cons (ALe.refl _ _) (.nil)))⟩
    · replace hm := ite_f hm hb9
      refine sg_y rfl rfl hb9 ?_
      refine s_v (o_flp fd57_1 rfl rfl) ?_
      refine sg_y rfl rfl hb9 ?_
      refine s_v (o_ldp (.sl none 3 (List.map c_Part p0.Parts)) ld55 rfl (hp_get 0 hk3 rfl) rfl) ?_
      refine sg_y rfl rfl hb9 ?_
      refine s_v (o_lenm ln55 rfl) ?_
      refine sg_y rfl rfl hb9 ?_
      refine s_v (o_bi rfl rfl rfl trivial) ?_
      refine s_v (o_pkf (.sc (.bool _)) rfl hb9 rfl) ?_
      refine s_nil ?_
      cases hm
      exact ⟨rfl, (), hk3, LeF.fm (Sub.refl _) (.cons (ALe.refl _ _) (.cons (ALe.refl _ _) (.nil)))⟩
  · rintro _ j8 fr' h' hk10 hm le
    refine H6 _ _ (le.aw ?_)
    clear le H6 K6
    refine AW_if' rfl (fun hc11 => ?_) (fun hc11 => ?_)
    · replace hm := ite_t hm hc11
      refine AW_k fun K12 H12 => ?_
      refine AW_reg ?_
      refine s_v (o_as (.sc (.bool _)) rfl) ?_
      refine s_nil ?_
      refine H12 _ _ ?_
      clear H12 K12
      refine AW_ret ?_
      cases hm
      exact Ret.of1 (.inl rfl) (rsT _ _ (.sc (.bool _)) rfl) (hp_sub (List.nil_sublist _) hk10).1 (ALe.refl _ _) ⟨rfl, rfl⟩
    · replace hm := ite_f hm hc11
      refine AW_skip ?_
      refine H5 _ _ ?_
      clear H5 K5
      refine AW_k fun K13 H13 => ?_
      refine AW_k fun K14 H14 => ?_
      refine AW_reg ?_
      refine s_v (o_as (.sc (.int _ _)) rfl) ?_
      refine s_nil ?_
      refine H14 _ _ ?_
      clear H14 K14
      refine AW_loopG (n := 39) hm (σ := Int) (τ := Unit) (fun g s => HOk h [(some k2, .obj 57 (c_Manifest p0))]) (fun g s => kp (kp (k0) 3 (.sc (.int .i64 s))) 1 (.ptr k2 0)) (fun g s => hp h [(some k2, .obj 57 (c_Manifest p0))]) () hk10 (LeF.fm (Sub.refl _) (.cons (ALe.refl _ _) (.cons (ALe.refl _ _) (.nil)))) ?_ ?_
      · rintro _ q54 x hk55 hm
        replace hm : M51_L0 fuel p0 q54 = some x := hm
        unfold M51_L0 at hm
        refine AW_k fun K56 H56 => ?_
        refine AW_k fun K57 H57 => ?_
        refine AW_reg ?_
        refine s_v (o_mv (.sc (.int _ _)) rfl) ?_
        refine s_v (o_flp fd57_1 rfl rfl) ?_
        refine s_v (o_ldp (.sl none 3 (List.map c_Part p0.Parts)) ld55 rfl (hp_get 0 hk55 rfl) rfl) ?_
        refine s_v (o_lenm ln55 rfl) ?_
        refine s_v (o_bi rfl rfl rfl trivial) ?_
        refine s_nil ?_
        refine H57 _ _ ?_
        clear H57 K57
        refine AW_if' rfl (fun hc58 => ?_) (fun hc58 => ?_)
        · replace hm := ite_t hm hc58
          refine AW_skip ?_
          refine H56 _ _ ?_
          clear H56 K56
          refine AW_k fun K59 H59 => ?_
          refine AW_block ?_
          refine AW_k fun K60 H60 => ?_
          refine AW_joinG (n := 39) hm (σ := Bool) (τ := Unit) (fun g s => HOk h [(some k2, .obj 57 (c_Manifest p0))]) (fun g s => kp (kp (kp (k0) 38 (.sc (.bool s))) 3 (.sc (.int .i64 q54))) 1 (.ptr k2 0)) (fun g s => hp h [(some k2, .obj 57 (c_Manifest p0))]) (fun x hm => ?_) ?_
          · refine AW_reg ?_
            refine s_v (o_flp fd57_1 rfl rfl) ?_
            refine s_v (o_ldp (.sl none 3 (List.map c_Part p0.Parts)) ld55 rfl (hp_get 0 hk55 rfl) rfl) ?_
            refine s_v (o_mv (.sc (.int _ _)) rfl) ?_
            obtain ⟨x67, hx68, hm⟩ := bind_of hm
            refine s_v (o_ix hx68 el55 rfl rfl) ?_
            refine s_v (o_fl fd82_0 rfl rfl) ?_
            refine s_v (o_ld (.sc (.string x67.Path)) ld9 rfl rfl) ?_
            refine s_v (o_lent ln9 rfl) ?_
            refine s_v (o_bi rfl rfl rfl trivial) ?_
            refine s_v (o_mv (.sc (.bool _)) rfl) ?_
            rcases Bool.eq_false_or_eq_true (decide (100 < (x67.Path.size : Int))) with hb69 | hb69
            · replace hm := ite_t hm hb69
              refine sg_n rfl rfl hb69 ?_
              refine sg_n rfl rfl hb69 ?_
              refine sg_n rfl rfl hb69 ?_
              refine sg_n rfl rfl hb69 ?_
              refine sg_n rfl rfl hb69 ?_
              refine sg_n rfl rfl hb69 ?_
              refine sg_n rfl rfl hb69 ?_
              refine sg_n rfl rfl hb69 ?_
              refine s_v (o_pkt (.sc (.bool _)) rfl hb69 rfl) ?_
              refine s_nil ?_
              cases hm
              exact ⟨rfl, (), hk55, LeF.fm (Sub.refl _) (.cons (ALe.refl _ _) (.cons (ALe.refl _ _) (.cons (ALe.refl _ _) (.nil))))⟩
            · replace hm := ite_f hm hb69
              refine sg_y rfl rfl hb69 ?_
              refine s_v (o_flp fd57_1 rfl rfl) ?_
              refine sg_y rfl rfl hb69 ?_
              refine s_v (o_ldp (.sl none 3 (List.map c_Part p0.Parts)) ld55 rfl (hp_get 0 hk55 rfl) rfl) ?_
              refine sg_y rfl rfl hb69 ?_
              refine s_v (o_mv (.sc (.int _ _)) rfl) ?_
              refine sg_y rfl rfl hb69 ?_
              obtain ⟨x70, hx71, hm⟩ := bind_of hm
              refine s_v (o_ix hx71 el55 rfl rfl) ?_
              refine sg_y rfl rfl hb69 ?_
              refine s_v (o_fl fd82_2 rfl rfl) ?_
              refine sg_y rfl rfl hb69 ?_
              refine s_v (o_ld (.sl none 32 (List.map c_id x70.Ids)) ld80 rfl rfl) ?_
              refine sg_y rfl rfl hb69 ?_
              refine s_v (o_lenm ln80 rfl) ?_
              refine sg_y rfl rfl hb69 ?_
              refine s_v (o_bi rfl rfl rfl trivial) ?_
              refine s_v (o_pkf (.sc (.bool _)) rfl hb69 rfl) ?_
              refine s_nil ?_
              cases hm
              exact ⟨rfl, (), hk55, LeF.fm (Sub.refl _) (.cons (ALe.refl _ _) (.cons (ALe.refl _ _) (.cons (ALe.refl _ _) (.nil))))⟩
          · rintro _ j66 fr' h' hk72 hm le
            refine H60 _ _ (le.aw ?_)
            clear le H60 K60
            refine AW_if' rfl (fun hc73 => ?_) (fun hc73 => ?_)
            · replace hm := ite_t hm hc73
              refine AW_k fun K74 H74 => ?_
              refine AW_reg ?_
              refine s_v (o_as (.sc (.bool _)) rfl) ?_
              refine s_nil ?_
              refine H74 _ _ ?_
              clear H74 K74
              refine AW_ret ?_
              cases hm
              refine ⟨⟨nofun, nofun⟩, fun he => ?_⟩
              subst he
              exact Ret.of1 (.inl rfl) (rsT _ _ (.sc (.bool _)) rfl) (hp_sub (List.nil_sublist _) hk72).1 (ALe.refl _ _) ⟨rfl, rfl⟩
            · replace hm := ite_f hm hc73
              refine AW_skip ?_
              refine H59 _ _ ?_
              clear H59 K59
              refine AW_reg ?_
              refine s_v (o_mv (.sc (.int _ _)) rfl) ?_
              refine s_v (o_bi rfl rfl rfl trivial) ?_
              refine s_v (o_as (.sc (.int _ _)) rfl) ?_
              refine s_nil ?_
              cases hm
              exact ⟨rfl, (), hk72, LeF.fm (Sub.refl _) (.cons (ALe.refl _ _) (.cons (ALe.refl _ _) (.nil)))⟩
        · replace hm := ite_f hm hc58
          refine AW_exit ?_
          refine Seq_exit ?_
          cases hm
          exact ⟨rfl, (), hk55, LeF.fm (Sub.refl _) (.cons (ALe.refl _ _) (.cons (ALe.refl _ _) (.nil)))⟩
      · rintro _ r75 fr' h' hk76 hm le
        refine H13 _ _ (le.aw ?_)
        clear le H13 K13
        refine AW_k fun K77 H77 => ?_
        refine AW_reg ?_
        refine s_v (o_as (.sc (.bool _)) rfl) ?_
        refine s_nil ?_
        refine H77 _ _ ?_
        clear H77 K77
        refine AW_ret ?_
        cases hm
        exact Ret.of1 (.inl rfl) (rsT _ _ (.sc (.bool _)) rfl) (hp_sub (List.nil_sublist _) hk76).1 (ALe.refl _ _) ⟨rfl, rfl⟩
theorem bd51 : bodied Try.prog 51 = true := by kernel_rfl
def M13_L0 (fuel : Nat) (p0 : TCatalog) (q66 : Int) : Option (Lp (Int) (Bool)) :=
  if (decide (q66 < (p0.Snaps.length : Int))) = true then (after ((ix p0.Snaps q66).bind fun x81 => (M51 fuel x81.Man).bind fun y83 => if y83 = true then (some (.brk true)) else (ix p0.Snaps q66).bind fun x86 => some (.brk (decide (220 < (x86.Locs.length : Int)))) : Option (Lp (Bool) (Lp (Int) (Bool)))) fun j80 => if j80 = true then (some (.ret true)) else some (.go (IntKind.wrap .i64 (q66 + 1)))) else some (.brk q66)
def M13_L2 (fuel : Nat) (p0 : TCatalog) (q134 : Int) : Option (Lp (Int) (Bool)) :=
  if (decide (q134 < (p0.Chunks.length : Int))) = true then (after ((ix p0.Chunks q134).bind fun x147 => if (decide (300 < (x147.Data.length : Int))) = true then (some (.brk true)) else (ix p0.Chunks q134).bind fun x150 => some (.brk (decide (220 < (x150.Locs.length : Int)))) : Option (Lp (Bool) (Lp (Int) (Bool)))) fun j146 => if j146 = true then (some (.ret true)) else some (.go (IntKind.wrap .i64 (q134 + 1)))) else some (.brk q134)
def M13_L4 (fuel : Nat) (p0 : TCatalog) (q178 : Int) : Option (Lp (Int) (Bool)) :=
  if (decide (q178 < (p0.Exps.length : Int))) = true then ((ix p0.Exps q178).bind fun x185 => if (decide (220 < (x185.Locs.length : Int))) = true then (some (.ret true)) else some (.go (IntKind.wrap .i64 (q178 + 1)))) else some (.brk q178)
def M13 (fuel : Nat) (p0 : TCatalog) : Option (Bool) :=
  after (if (decide (12 < (p0.Snaps.length : Int))) = true then (some (.brk true)) else if (decide (220 < (p0.Chunks.length : Int))) = true then (some (.brk true)) else if (decide (220 < (p0.Exps.length : Int))) = true then (some (.brk true)) else some (.brk (decide (20 < (p0.Vols.length : Int)))) : Option (Lp (Bool) (Bool))) fun j10 => if j10 = true then (some true) else after (loopM (fun s => M13_L0 fuel p0 s) fuel 0) fun r91 => after (loopM (fun s => M13_L2 fuel p0 s) fuel 0) fun r155 => after (loopM (fun s => M13_L4 fuel p0 s) fuel 0) fun r189 => some false
set_option maxRecDepth 100000 in
/-- cellarer/cellarerlaw18.Heavy -/
theorem W13 {fuel : Nat} {p0 : TCatalog} {o : Bool} (h : Heap) (hm : M13 fuel p0 = some o) :
    ACalls Try.prog 13 [.agg (c_Catalog p0)] h (fun r h' => r = .sc (.bool o) ∧ h' = h) := by
  refine ACalls_hp 92 [.tmp 2] Try.func13 rfl rfl rfl rfl ?_
  unfold M13 at hm
  refine AW_k fun K1 H1 => ?_
  refine AW_reg ?_
  refine s_op (a_box (HOk.nil _) rfl rfl fun k2 hk3 => ?_)
  refine s_v (o_as (.sc (.bool _)) rfl) ?_
  refine s_nil ?_
  refine H1 _ _ ?_
  clear H1 K1
  refine AW_k fun K5 H5 => ?_
  refine AW_k fun K6 H6 => ?_
  refine AW_joinG (n := 92) hm (σ := Bool) (τ := Unit) (fun g s => HOk h [(some k2, .obj 27 (c_Catalog p0))]) (fun g s => kp (kp (k0) 27 (.sc (.bool s))) 1 (.ptr k2 0)) (fun g s => hp h [(some k2, .obj 27 (c_Catalog p0))]) (fun x hm => ?_) ?_
  · refine AW_reg ?_
    refine s_v (o_flp fd27_1 rfl rfl) ?_
    refine s_v (o_ldp (.sl none 4 (List.map c_Snap p0.Snaps)) ld22 rfl (hp_get 0 hk3 rfl) rfl) ?_
    refine s_v (o_lenm ln22 rfl) ?_
    refine s_v (o_bi rfl rfl rfl trivial) ?_
    refine s_v (o_mv (.sc (.bool _)) rfl) ?_
    rcases Bool.eq_false_or_eq_true (decide (12 < (p0.Snaps.length : Int))) with hb11 | hb11
    · replace hm := ite_t hm hb11
      refine sg_n rfl rfl hb11 ?_
      refine sg_n rfl rfl hb11 ?_
      refine sg_n rfl rfl hb11 ?_
      refine sg_n rfl rfl hb11 ?_
      refine s_v (o_pkt (.sc (.bool _)) rfl hb11 rfl) ?_
      refine s_v (o_mv (.sc (.bool _)) rfl) ?_
      refine sg_n rfl rfl rfl ?_
      refine sg_n rfl rfl rfl ?_
      refine sg_n rfl rfl rfl ?_
      refine sg_n rfl rfl rfl ?_
      refine s_v (o_pkt (.sc (.bool _)) rfl rfl rfl) ?_
      refine s_v (o_mv (.sc (.bool _)) rfl) ?_
      refine sg_n rfl rfl rfl ?_
      refine sg_n rfl rfl rfl ?_
      refine sg_n rfl rfl rfl ?_
      refine sg_n rfl rfl rfl ?_
      refine s_v (o_pkt (.sc (.bool _)) rfl rfl rfl) ?_
      refine s_nil ?_
      cases hm
      exact ⟨rfl, (), hk3, LeF.fm (Sub.refl _) (.cons (ALe.refl _ _) (.cons (ALe.refl _ _) (.nil)))⟩
    · replace hm := ite_f hm hb11
      refine sg_y rfl rfl hb11 ?_
      refine s_v (o_flp fd27_2 rfl rfl) ?_
      refine sg_y rfl rfl hb11 ?_
      refine s_v (o_ldp (.sl none 35 (List.map c_Chunk p0.Chunks)) ld23 rfl (hp_get 0 hk3 rfl) rfl) ?_
      refine sg_y rfl rfl hb11 ?_
      refine s_v (o_lenm ln23 rfl) ?_
      refine sg_y rfl rfl hb11 ?_
      refine s_v (o_bi rfl rfl rfl trivial) ?_
      refine s_v (o_pkf (.sc (.bool _)) rfl hb11 rfl) ?_
      refine s_v (o_mv (.sc (.bool _)) rfl) ?_
      rcases Bool.eq_false_or_eq_true (decide (220 < (p0.Chunks.length : Int))) with hb12 | hb12
      · replace hm := ite_t hm hb12
        refine sg_n rfl rfl hb12 ?_
        refine sg_n rfl rfl hb12 ?_
        refine sg_n rfl rfl hb12 ?_
        refine sg_n rfl rfl hb12 ?_
        refine s_v (o_pkt (.sc (.bool _)) rfl hb12 rfl) ?_
        refine s_v (o_mv (.sc (.bool _)) rfl) ?_
        refine sg_n rfl rfl rfl ?_
        refine sg_n rfl rfl rfl ?_
        refine sg_n rfl rfl rfl ?_
        refine sg_n rfl rfl rfl ?_
        refine s_v (o_pkt (.sc (.bool _)) rfl rfl rfl) ?_
        refine s_nil ?_
        cases hm
        exact ⟨rfl, (), hk3, LeF.fm (Sub.refl _) (.cons (ALe.refl _ _) (.cons (ALe.refl _ _) (.nil)))⟩
      · replace hm := ite_f hm hb12
        refine sg_y rfl rfl hb12 ?_
        refine s_v (o_flp fd27_3 rfl rfl) ?_
        refine sg_y rfl rfl hb12 ?_
        refine s_v (o_ldp (.sl none 3 (List.map c_Exp p0.Exps)) ld24 rfl (hp_get 0 hk3 rfl) rfl) ?_
        refine sg_y rfl rfl hb12 ?_
        refine s_v (o_lenm ln24 rfl) ?_
        refine sg_y rfl rfl hb12 ?_
        refine s_v (o_bi rfl rfl rfl trivial) ?_
        refine s_v (o_pkf (.sc (.bool _)) rfl hb12 rfl) ?_
        refine s_v (o_mv (.sc (.bool _)) rfl) ?_
        rcases Bool.eq_false_or_eq_true (decide (220 < (p0.Exps.length : Int))) with hb13 | hb13
        · replace hm := ite_t hm hb13
          refine sg_n rfl rfl hb13 ?_
          refine sg_n rfl rfl hb13 ?_
          refine sg_n rfl rfl hb13 ?_
          refine sg_n rfl rfl hb13 ?_
          refine s_v (o_pkt (.sc (.bool _)) rfl hb13 rfl) ?_
          refine s_nil ?_
          cases hm
          exact ⟨rfl, (), hk3, LeF.fm (Sub.refl _) (.cons (ALe.refl _ _) (.cons (ALe.refl _ _) (.nil)))⟩
        · replace hm := ite_f hm hb13
          refine sg_y rfl rfl hb13 ?_
          refine s_v (o_flp fd27_4 rfl rfl) ?_
          refine sg_y rfl rfl hb13 ?_
          refine s_v (o_ldp (.sl none 4 (List.map c_Vol p0.Vols)) ld25 rfl (hp_get 0 hk3 rfl) rfl) ?_
          refine sg_y rfl rfl hb13 ?_
          refine s_v (o_lenm ln25 rfl) ?_
          refine sg_y rfl rfl hb13 ?_
          refine s_v (o_bi rfl rfl rfl trivial) ?_
          refine s_v (o_pkf (.sc (.bool _)) rfl hb13 rfl) ?_
          refine s_nil ?_
          cases hm
          exact ⟨rfl, (), hk3, LeF.fm (Sub.refl _) (.cons (ALe.refl _ _) (.cons (ALe.refl _ _) (.nil)))⟩
  · rintro _ j10 fr' h' hk14 hm le
    refine H6 _ _ (le.aw ?_)
    clear le H6 K6
    refine AW_if' rfl (fun hc15 => ?_) (fun hc15 => ?_)
    · replace hm := ite_t hm hc15
      refine AW_k fun K16 H16 => ?_
      refine AW_reg ?_
      refine s_v (o_as (.sc (.bool _)) rfl) ?_
      refine s_nil ?_
      refine H16 _ _ ?_
      clear H16 K16
      refine AW_ret ?_
      cases hm
      exact Ret.of1 (.inl rfl) (rsT _ _ (.sc (.bool _)) rfl) (hp_sub (List.nil_sublist _) hk14).1 (ALe.refl _ _) ⟨rfl, rfl⟩
    · replace hm := ite_f hm hc15
      refine AW_skip ?_
      refine H5 _ _ ?_
      clear H5 K5
      refine AW_k fun K17 H17 => ?_
      refine AW_k fun K18 H18 => ?_
      refine AW_reg ?_
      refine s_v (o_as (.sc (.int _ _)) rfl) ?_
      refine s_nil ?_
      refine H18 _ _ ?_
      clear H18 K18
      refine AW_loopG (n := 92) hm (σ := Int) (τ := Unit) (fun g s => HOk h [(some k2, .obj 27 (c_Catalog p0))]) (fun g s => kp (kp (k0) 3 (.sc (.int .i64 s))) 1 (.ptr k2 0)) (fun g s => hp h [(some k2, .obj 27 (c_Catalog p0))]) () hk14 (LeF.fm (Sub.refl _) (.cons (ALe.refl _ _) (.cons (ALe.refl _ _) (.nil)))) ?_ ?_
      · rintro _ q66 x hk67 hm
        replace hm : M13_L0 fuel p0 q66 = some x := hm
        unfold M13_L0 at hm
        refine AW_k fun K68 H68 => ?_
        refine AW_k fun K69 H69 => ?_
        refine AW_reg ?_
        refine s_v (o_mv (.sc (.int _ _)) rfl) ?_
        refine s_v (o_flp fd27_1 rfl rfl) ?_
        refine s_v (o_ldp (.sl none 4 (List.map c_Snap p0.Snaps)) ld22 rfl (hp_get 0 hk67 rfl) rfl) ?_
        refine s_v (o_lenm ln22 rfl) ?_
        refine s_v (o_bi rfl rfl rfl trivial) ?_
        refine s_nil ?_
        refine H69 _ _ ?_
        clear H69 K69
        refine AW_if' rfl (fun hc70 => ?_) (fun hc70 => ?_)
        · replace hm := ite_t hm hc70
          refine AW_skip ?_
          refine H68 _ _ ?_
          clear H68 K68
          refine AW_k fun K71 H71 => ?_
          refine AW_block ?_
          refine AW_k fun K72 H72 => ?_
          refine AW_joinG (n := 92) hm (σ := Bool) (τ := Unit) (fun g s => HOk h [(some k2, .obj 27 (c_Catalog p0))]) (fun g s => kp (kp (kp (k0) 51 (.sc (.bool s))) 3 (.sc (.int .i64 q66))) 1 (.ptr k2 0)) (fun g s => hp h [(some k2, .obj 27 (c_Catalog p0))]) (fun x hm => ?_) ?_
          · refine AW_reg ?_
            refine s_v (o_flp fd27_1 rfl rfl) ?_
            refine s_v (o_ldp (.sl none 4 (List.map c_Snap p0.Snaps)) ld22 rfl (hp_get 0 hk67 rfl) rfl) ?_
            refine s_v (o_mv (.sc (.int _ _)) rfl) ?_
            obtain ⟨x81, hx82, hm⟩ := bind_of hm
            refine s_v (o_ix hx82 el22 rfl rfl) ?_
            refine s_v (o_fl fd60_1 rfl rfl) ?_
            refine s_v (o_ld (.agg (c_Manifest x81.Man)) ld57 rfl rfl) ?_
            obtain ⟨y83, hy84, hm⟩ := bind_of hm
            refine s_v (o_call (W51 _ hy84) rfl bd51 rfl) ?_
            refine s_v (o_mv (.sc (.bool _)) rfl) ?_
            rcases Bool.eq_false_or_eq_true y83 with hb85 | hb85
            · replace hm := ite_t hm hb85
              refine sg_n rfl rfl hb85 ?_
              refine sg_n rfl rfl hb85 ?_
              refine sg_n rfl rfl hb85 ?_
              refine sg_n rfl rfl hb85 ?_
              refine sg_n rfl rfl hb85 ?_
              refine sg_n rfl rfl hb85 ?_
              refine sg_n rfl rfl hb85 ?_
              refine sg_n rfl rfl hb85 ?_
              refine s_v (o_pkt (.sc (.bool _)) rfl hb85 rfl) ?_
              refine s_nil ?_
              cases hm
              exact ⟨rfl, (), hk67, LeF.fm (Sub.refl _) (.cons (ALe.refl _ _) (.cons (ALe.refl _ _) (.cons (ALe.refl _ _) (.nil))))⟩
            · replace hm := ite_f hm hb85
              refine sg_y rfl rfl hb85 ?_
              refine s_v (o_flp fd27_1 rfl rfl) ?_
              refine sg_y rfl rfl hb85 ?_
              refine s_v (o_ldp (.sl none 4 (List.map c_Snap p0.Snaps)) ld22 rfl (hp_get 0 hk67 rfl) rfl) ?_
              refine sg_y rfl rfl hb85 ?_
              refine s_v (o_mv (.sc (.int _ _)) rfl) ?_
              refine sg_y rfl rfl hb85 ?_
              obtain ⟨x86, hx87, hm⟩ := bind_of hm
              refine s_v (o_ix hx87 el22 rfl rfl) ?_
              refine sg_y rfl rfl hb85 ?_
              refine s_v (o_fl fd60_2 rfl rfl) ?_
              refine sg_y rfl rfl hb85 ?_
              refine s_v (o_ld (.sl none 4 (List.map c_Loc x86.Locs)) ld58 rfl rfl) ?_
              refine sg_y rfl rfl hb85 ?_
              refine s_v (o_lenm ln58 rfl) ?_
              refine sg_y rfl rfl hb85 ?_
              refine s_v (o_bi rfl rfl rfl trivial) ?_
              refine s_v (o_pkf (.sc (.bool _)) rfl hb85 rfl) ?_
              refine s_nil ?_
              cases hm
              exact ⟨rfl, (), hk67, LeF.fm (Sub.refl _) (.cons (ALe.refl _ _) (.cons (ALe.refl _ _) (.cons (ALe.refl _ _) (.nil))))⟩
          · rintro _ j80 fr' h' hk88 hm le
            refine H72 _ _ (le.aw ?_)
            clear le H72 K72
            refine AW_if' rfl (fun hc89 => ?_) (fun hc89 => ?_)
            · replace hm := ite_t hm hc89
              refine AW_k fun K90 H90 => ?_
              refine AW_reg ?_
              refine s_v (o_as (.sc (.bool _)) rfl) ?_
              refine s_nil ?_
              refine H90 _ _ ?_
              clear H90 K90
              refine AW_ret ?_
              cases hm
              refine ⟨⟨nofun, nofun⟩, fun he => ?_⟩
              subst he
              exact Ret.of1 (.inl rfl) (rsT _ _ (.sc (.bool _)) rfl) (hp_sub (List.nil_sublist _) hk88).1 (ALe.refl _ _) ⟨rfl, rfl⟩
            · replace hm := ite_f hm hc89
              refine AW_skip ?_
              refine H71 _ _ ?_
              clear H71 K71
              refine AW_reg ?_
              refine s_v (o_mv (.sc (.int _ _)) rfl) ?_
              refine s_v (o_bi rfl rfl rfl trivial) ?_
              refine s_v (o_as (.sc (.int _ _)) rfl) ?_
              refine s_nil ?_
              cases hm
              exact ⟨rfl, (), hk88, LeF.fm (Sub.refl _) (.cons (ALe.refl _ _) (.cons (ALe.refl _ _) (.nil)))⟩
        · replace hm := ite_f hm hc70
          refine AW_exit ?_
          refine Seq_exit ?_
          cases hm
          exact ⟨rfl, (), hk67, LeF.fm (Sub.refl _) (.cons (ALe.refl _ _) (.cons (ALe.refl _ _) (.nil)))⟩
      · rintro _ r91 fr' h' hk92 hm le
        refine H17 _ _ (le.aw ?_)
        clear le H17 K17
        refine AW_k fun K93 H93 => ?_
        refine AW_k fun K94 H94 => ?_
        refine AW_reg ?_
        refine s_v (o_as (.sc (.int _ _)) rfl) ?_
        refine s_nil ?_
        refine H94 _ _ ?_
        clear H94 K94
        refine AW_loopG (n := 92) hm (σ := Int) (τ := Unit) (fun g s => HOk h [(some k2, .obj 27 (c_Catalog p0))]) (fun g s => kp (kp (k0) 4 (.sc (.int .i64 s))) 1 (.ptr k2 0)) (fun g s => hp h [(some k2, .obj 27 (c_Catalog p0))]) () hk92 (LeF.fm (Sub.refl _) (.cons (ALe.refl _ _) (.cons (ALe.refl _ _) (.nil)))) ?_ ?_
        · rintro _ q134 x hk135 hm
          replace hm : M13_L2 fuel p0 q134 = some x := hm
          unfold M13_L2 at hm
          refine AW_k fun K136 H136 => ?_
          refine AW_k fun K137 H137 => ?_
          refine AW_reg ?_
          refine s_v (o_mv (.sc (.int _ _)) rfl) ?_
          refine s_v (o_flp fd27_2 rfl rfl) ?_
          refine s_v (o_ldp (.sl none 35 (List.map c_Chunk p0.Chunks)) ld23 rfl (hp_get 0 hk135 rfl) rfl) ?_
          refine s_v (o_lenm ln23 rfl) ?_
          refine s_v (o_bi rfl rfl rfl trivial) ?_
          refine s_nil ?_
          refine H137 _ _ ?_
          clear H137 K137
          refine AW_if' rfl (fun hc138 => ?_) (fun hc138 => ?_)
          · replace hm := ite_t hm hc138
            refine AW_skip ?_
            refine H136 _ _ ?_
            clear H136 K136
            refine AW_k fun K139 H139 => ?_
            refine AW_block ?_
            refine AW_k fun K140 H140 => ?_
            refine AW_joinG (n := 92) hm (σ := Bool) (τ := Unit) (fun g s => HOk h [(some k2, .obj 27 (c_Catalog p0))]) (fun g s => kp (kp (kp (k0) 76 (.sc (.bool s))) 4 (.sc (.int .i64 q134))) 1 (.ptr k2 0)) (fun g s => hp h [(some k2, .obj 27 (c_Catalog p0))]) (fun x hm => ?_) ?_
            · refine AW_reg ?_
              refine s_v (o_flp fd27_2 rfl rfl) ?_
              refine s_v (o_ldp (.sl none 35 (List.map c_Chunk p0.Chunks)) ld23 rfl (hp_get 0 hk135 rfl) rfl) ?_
              refine s_v (o_mv (.sc (.int _ _)) rfl) ?_
              obtain ⟨x147, hx148, hm⟩ := bind_of hm
              refine s_v (o_ix hx148 el23 rfl rfl) ?_
              refine s_v (o_fl fd63_2 rfl rfl) ?_
              refine s_v (o_ld (.sl none 1 (List.map c_u8 x147.Data)) ld52 rfl rfl) ?_
              refine s_v (o_lenm ln52 rfl) ?_
              refine s_v (o_bi rfl rfl rfl trivial) ?_
              refine s_v (o_mv (.sc (.bool _)) rfl) ?_
              rcases Bool.eq_false_or_eq_true (decide (300 < (x147.Data.length : Int))) with hb149 | hb149
              · replace hm := ite_t hm hb149
                refine sg_n rfl rfl hb149 ?_
                refine sg_n rfl rfl hb149 ?_
                refine sg_n rfl rfl hb149 ?_
                refine sg_n rfl rfl hb149 ?_
                refine sg_n rfl rfl hb149 ?_
                refine sg_n rfl rfl hb149 ?_
                refine sg_n rfl rfl hb149 ?_
                refine sg_n rfl rfl hb149 ?_
                refine s_v (o_pkt (.sc (.bool _)) rfl hb149 rfl) ?_
                refine s_nil ?_
                cases hm
                exact ⟨rfl, (), hk135, LeF.fm (Sub.refl _) (.cons (ALe.refl _ _) (.cons (ALe.refl _ _) (.cons (ALe.refl _ _) (.nil))))⟩
              · replace hm := ite_f hm hb149
                refine sg_y rfl rfl hb149 ?_
                refine s_v (o_flp fd27_2 rfl rfl) ?_
                refine sg_y rfl rfl hb149 ?_
                refine s_v (o_ldp (.sl none 35 (List.map c_Chunk p0.Chunks)) ld23 rfl (hp_get 0 hk135 rfl) rfl) ?_
                refine sg_y rfl rfl hb149 ?_
                refine s_v (o_mv (.sc (.int _ _)) rfl) ?_
                refine sg_y rfl rfl hb149 ?_
                obtain ⟨x150, hx151, hm⟩ := bind_of hm
                refine s_v (o_ix hx151 el23 rfl rfl) ?_
                refine sg_y rfl rfl hb149 ?_
                refine s_v (o_fl fd63_3 rfl rfl) ?_
                refine sg_y rfl rfl hb149 ?_
                refine s_v (o_ld (.sl none 4 (List.map c_Loc x150.Locs)) ld58 rfl rfl) ?_
                refine sg_y rfl rfl hb149 ?_
                refine s_v (o_lenm ln58 rfl) ?_
                refine sg_y rfl rfl hb149 ?_
                refine s_v (o_bi rfl rfl rfl trivial) ?_
                refine s_v (o_pkf (.sc (.bool _)) rfl hb149 rfl) ?_
                refine s_nil ?_
                cases hm
                exact ⟨rfl, (), hk135, LeF.fm (Sub.refl _) (.cons (ALe.refl _ _) (.cons (ALe.refl _ _) (.cons (ALe.refl _ _) (.nil))))⟩
            · rintro _ j146 fr' h' hk152 hm le
              refine H140 _ _ (le.aw ?_)
              clear le H140 K140
              refine AW_if' rfl (fun hc153 => ?_) (fun hc153 => ?_)
              · replace hm := ite_t hm hc153
                refine AW_k fun K154 H154 => ?_
                refine AW_reg ?_
                refine s_v (o_as (.sc (.bool _)) rfl) ?_
                refine s_nil ?_
                refine H154 _ _ ?_
                clear H154 K154
                refine AW_ret ?_
                cases hm
                refine ⟨⟨nofun, nofun⟩, fun he => ?_⟩
                subst he
                exact Ret.of1 (.inl rfl) (rsT _ _ (.sc (.bool _)) rfl) (hp_sub (List.nil_sublist _) hk152).1 (ALe.refl _ _) ⟨rfl, rfl⟩
              · replace hm := ite_f hm hc153
                refine AW_skip ?_
                refine H139 _ _ ?_
                clear H139 K139
                refine AW_reg ?_
                refine s_v (o_mv (.sc (.int _ _)) rfl) ?_
                refine s_v (o_bi rfl rfl rfl trivial) ?_
                refine s_v (o_as (.sc (.int _ _)) rfl) ?_
                refine s_nil ?_
                cases hm
                exact ⟨rfl, (), hk152, LeF.fm (Sub.refl _) (.cons (ALe.refl _ _) (.cons (ALe.refl _ _) (.nil)))⟩
          · replace hm := ite_f hm hc138
            refine AW_exit ?_
            refine Seq_exit ?_
            cases hm
            exact ⟨rfl, (), hk135, LeF.fm (Sub.refl _) (.cons (ALe.refl _ _) (.cons (ALe.refl _ _) (.nil)))⟩
        · rintro _ r155 fr' h' hk156 hm le
          refine H93 _ _ (le.aw ?_)
          clear le H93 K93
          refine AW_k fun K157 H157 => ?_
          refine AW_k fun K158 H158 => ?_
          refine AW_reg ?_
          refine s_v (o_as (.sc (.int _ _)) rfl) ?_
          refine s_nil ?_
          refine H158 _ _ ?_
          clear H158 K158
          refine AW_loopG (n := 92) hm (σ := Int) (τ := Unit) (fun g s => HOk h [(some k2, .obj 27 (c_Catalog p0))]) (fun g s => kp (kp (k0) 5 (.sc (.int .i64 s))) 1 (.ptr k2 0)) (fun g s => hp h [(some k2, .obj 27 (c_Catalog p0))]) () hk156 (LeF.fm (Sub.refl _) (.cons (ALe.refl _ _) (.cons (ALe.refl _ _) (.nil)))) ?_ ?_
          · rintro _ q178 x hk179 hm
            replace hm : M13_L4 fuel p0 q178 = some x := hm
            unfold M13_L4 at hm
            refine AW_k fun K180 H180 => ?_
            refine AW_k fun K181 H181 => ?_
            refine AW_reg ?_
            refine s_v (o_mv (.sc (.int _ _)) rfl) ?_
            refine s_v (o_flp fd27_3 rfl rfl) ?_
            refine s_v (o_ldp (.sl none 3 (List.map c_Exp p0.Exps)) ld24 rfl (hp_get 0 hk179 rfl) rfl) ?_
            refine s_v (o_lenm ln24 rfl) ?_
            refine s_v (o_bi rfl rfl rfl trivial) ?_
            refine s_nil ?_
            refine H181 _ _ ?_
            clear H181 K181
            refine AW_if' rfl (fun hc182 => ?_) (fun hc182 => ?_)
            · replace hm := ite_t hm hc182
              refine AW_skip ?_
              refine H180 _ _ ?_
              clear H180 K180
              refine AW_k fun K183 H183 => ?_
              refine AW_block ?_
              refine AW_k fun K184 H184 => ?_
              refine AW_reg ?_
              refine s_v (o_flp fd27_3 rfl rfl) ?_
              refine s_v (o_ldp (.sl none 3 (List.map c_Exp p0.Exps)) ld24 rfl (hp_get 0 hk179 rfl) rfl) ?_
              refine s_v (o_mv (.sc (.int _ _)) rfl) ?_
              obtain ⟨x185, hx186, hm⟩ := bind_of hm
              refine s_v (o_ix hx186 el24 rfl rfl) ?_
              refine s_v (o_fl fd65_2 rfl rfl) ?_
              refine s_v (o_ld (.sl none 4 (List.map c_Loc x185.Locs)) ld58 rfl rfl) ?_
              refine s_v (o_lenm ln58 rfl) ?_
              refine s_v (o_bi rfl rfl rfl trivial) ?_
              refine s_nil ?_
              refine H184 _ _ ?_
              clear H184 K184
              refine AW_if' rfl (fun hc187 => ?_) (fun hc187 => ?_)
              · replace hm := ite_t hm hc187
                refine AW_k fun K188 H188 => ?_
                refine AW_reg ?_
                refine s_v (o_as (.sc (.bool _)) rfl) ?_
                refine s_nil ?_
                refine H188 _ _ ?_
                clear H188 K188
                refine AW_ret ?_
                cases hm
                refine ⟨⟨nofun, nofun⟩, fun he => ?_⟩
                subst he
                exact Ret.of1 (.inl rfl) (rsT _ _ (.sc (.bool _)) rfl) (hp_sub (List.nil_sublist _) hk179).1 (ALe.refl _ _) ⟨rfl, rfl⟩
              · replace hm := ite_f hm hc187
                refine AW_skip ?_
                refine H183 _ _ ?_
                clear H183 K183
                refine AW_reg ?_
                refine s_v (o_mv (.sc (.int _ _)) rfl) ?_
                refine s_v (o_bi rfl rfl rfl trivial) ?_
                refine s_v (o_as (.sc (.int _ _)) rfl) ?_
                refine s_nil ?_
                cases hm
                exact ⟨rfl, (), hk179, LeF.fm (Sub.refl _) (.cons (ALe.refl _ _) (.cons (ALe.refl _ _) (.nil)))⟩
            · replace hm := ite_f hm hc182
              refine AW_exit ?_
              refine Seq_exit ?_
              cases hm
              exact ⟨rfl, (), hk179, LeF.fm (Sub.refl _) (.cons (ALe.refl _ _) (.cons (ALe.refl _ _) (.nil)))⟩
          · rintro _ r189 fr' h' hk190 hm le
            refine H157 _ _ (le.aw ?_)
            clear le H157 K157
            refine AW_k fun K191 H191 => ?_
            refine AW_reg ?_
            refine s_v (o_as (.sc (.bool _)) rfl) ?_
            refine s_nil ?_
            refine H191 _ _ ?_
            clear H191 K191
            refine AW_ret ?_
            cases hm
            exact Ret.of1 (.inl rfl) (rsT _ _ (.sc (.bool _)) rfl) (hp_sub (List.nil_sublist _) hk190).1 (ALe.refl _ _) ⟨rfl, rfl⟩
theorem bd13 : bodied Try.prog 13 = true := by kernel_rfl
def M53 (fuel : Nat) (p0 : List TLoc) : Option ((List TLoc)) :=
  (app ([] : List TLoc) p0).bind fun z4 => some z4
set_option maxRecDepth 100000 in
/-- cellarer/cellarerkeep.TwinLocs -/
theorem W53 {fuel : Nat} {p0 : List TLoc} {o : (List TLoc)} (h : Heap) (hm : M53 fuel p0 = some o) :
    ACalls Try.prog 53 [.sl none 4 (List.map c_Loc p0)] h (fun r h' => r = .sl none 4 (List.map c_Loc o) ∧ h' = h) := by
  refine ACalls_hp 7 [.tmp 2] Try.func53 rfl rfl rfl rfl ?_
  unfold M53 at hm
  refine AW_k fun K1 H1 => ?_
  refine AW_reg ?_
  refine s_v (o_as (.sc (.slice _ _ _)) rfl) ?_
  refine s_nil ?_
  refine H1 _ _ ?_
  clear H1 K1
  refine AW_k fun K2 H2 => ?_
  refine AW_reg ?_
  refine s_v (o_as (.sc (.slice _ _ _)) rfl) ?_
  refine s_nil ?_
  refine H2 _ _ ?_
  clear H2 K2
  refine AW_k fun K3 H3 => ?_
  refine AW_reg ?_
  refine s_v (o_mv (.sc (.slice _ _ _)) rfl) ?_
  refine s_v (o_mv (.sl _ _ _) rfl) ?_
  obtain ⟨z4, hz5, hm⟩ := bind_of hm
  refine s_op (a_app0 (c := c_Loc) hz5 et58 rfl rfl (HOk.nil _) nofun rfl fun tg6 ot7 hk8 => ?_)
  refine s_v (o_as (ow _ _ _) rfl) ?_
  refine s_nil ?_
  refine H3 _ _ ?_
  clear H3 K3
  refine AW_ret ?_
  cases hm
  exact Ret.of1 (.inl rfl) (rsT _ _ (ow _ _ _) rfl) (hp_sub (List.nil_sublist _) hk8).1 ((own_frz0 _ 0 ot7 hk8 rfl)) ⟨rfl, rfl⟩
theorem bd53 : bodied Try.prog 53 = true := by kernel_rfl
def M100 (fuel : Nat) (p0 : List Int) : Option ((List Int)) :=
  (app ([] : List Int) p0).bind fun z4 => some z4
set_option maxRecDepth 100000 in
/-- cellarer/cellarerkeep.Twin -/
theorem W100 {fuel : Nat} {p0 : List Int} {o : (List Int)} (h : Heap) (hm : M100 fuel p0 = some o) :
    ACalls Try.prog 100 [.sl none 1 (List.map c_u8 p0)] h (fun r h' => r = .sl none 1 (List.map c_u8 o) ∧ h' = h) := by
  refine ACalls_hp 7 [.tmp 2] Try.func100 rfl rfl rfl rfl ?_
  unfold M100 at hm
  refine AW_k fun K1 H1 => ?_
  refine AW_reg ?_
  refine s_v (o_as (.sc (.slice _ _ _)) rfl) ?_
  refine s_nil ?_
  refine H1 _ _ ?_
  clear H1 K1
  refine AW_k fun K2 H2 => ?_
  refine AW_reg ?_
  refine s_v (o_as (.sc (.slice _ _ _)) rfl) ?_
  refine s_nil ?_
  refine H2 _ _ ?_
  clear H2 K2
  refine AW_k fun K3 H3 => ?_
  refine AW_reg ?_
  refine s_v (o_mv (.sc (.slice _ _ _)) rfl) ?_
  refine s_v (o_mv (.sl _ _ _) rfl) ?_
  obtain ⟨z4, hz5, hm⟩ := bind_of hm
  refine s_op (a_app0 (c := c_u8) hz5 et52 rfl rfl (HOk.nil _) nofun rfl fun tg6 ot7 hk8 => ?_)
  refine s_v (o_as (ow _ _ _) rfl) ?_
  refine s_nil ?_
  refine H3 _ _ ?_
  clear H3 K3
  refine AW_ret ?_
  cases hm
  exact Ret.of1 (.inl rfl) (rsT _ _ (ow _ _ _) rfl) (hp_sub (List.nil_sublist _) hk8).1 ((own_frz0 _ 0 ot7 hk8 rfl)) ⟨rfl, rfl⟩
theorem bd100 : bodied Try.prog 100 = true := by kernel_rfl
def M52_L0 (fuel : Nat) (p0 : TManifest) (q92 : List TPart) (q95 : Int) : Option (Lp ((List TPart) × Int) (TManifest)) :=
  if (decide (q95 < (p0.Parts.length : Int))) = true then ((ix p0.Parts q95).bind fun x102 => (app ([] : List Id32) x102.Ids).bind fun z110 => (app q92 ([({ Path := x102.Path, Size := x102.Size, Ids := z110 } : TPart)] : List TPart)).bind fun z117 => some (.go (z117, IntKind.wrap .i64 (q95 + 1)))) else some (.brk (q92, q95))
def M52 (fuel : Nat) (p0 : TManifest) : Option (TManifest) :=
  after (loopM (fun s => M52_L0 fuel p0 s.1 s.2) fuel ([], 0)) fun ⟨r122, r123⟩ => some ({ Name := p0.Name, Parts := r122 } : TManifest)
set_option maxRecDepth 100000 in
/-- cellarer/cellarerkeep.TwinManifest -/
theorem W52 {fuel : Nat} {p0 : TManifest} {o : TManifest} (h : Heap) (hm : M52 fuel p0 = some o) :
    ACalls Try.prog 52 [.agg (c_Manifest p0)] h (fun r h' => r = .agg (c_Manifest o) ∧ h' = h) := by
  refine ACalls_hp 31 [.cell 2 57] Try.func52 rfl rfl rfl rfl ?_
  unfold M52 at hm
  refine AW_k fun K1 H1 => ?_
  refine AW_reg ?_
  refine s_op (a_box (HOk.nil _) rfl rfl fun k2 hk3 => ?_)
  refine s_op (a_alloc ([.sc (.string ByteArray.empty), .sc (.slice none 0 0)]) hk3 zr57 rfl rfl fun k5 hk6 => ?_)
  refine s_nil ?_
  refine H1 _ _ ?_
  clear H1 K1
  refine AW_k fun K8 H8 => ?_
  refine AW_reg ?_
  refine s_v (o_as (.sc (.slice _ _ _)) rfl) ?_
  refine s_nil ?_
  refine H8 _ _ ?_
  clear H8 K8
  refine AW_k fun K9 H9 => ?_
  refine AW_k fun K10 H10 => ?_
  refine AW_reg ?_
  refine s_v (o_as (.sc (.int _ _)) rfl) ?_
  refine s_nil ?_
  refine H10 _ _ ?_
  clear H10 K10
  refine (LeF.put (t := 3) (v := ow none 3 (List.map c_Part [])) (Sub.refl _) (ow_nil _ _)).aw ?_
  refine AW_loopG (n := 31) hm (σ := (List TPart) × Int) (τ := Option Key) (fun g s => HOk h [(g, .tok 82 3 ((s.1 : List TPart).length * 3)), (some k5, .obj 57 ([.sc (.string ByteArray.empty), .sc (.slice none 0 0)])), (some k2, .obj 57 (c_Manifest p0))] ∧ (g = none → s.1 = [])) (fun g s => kp (kp (kp (kp (k0) 4 (.sc (.int .i64 s.2))) 3 (ow g 3 (List.map c_Part s.1))) 2 (.ptr k5 0)) 1 (.ptr k2 0)) (fun g s => hp h [(g, .tok 82 3 ((s.1 : List TPart).length * 3)), (some k5, .obj 57 ([.sc (.string ByteArray.empty), .sc (.slice none 0 0)])), (some k2, .obj 57 (c_Manifest p0))]) none (⟨HOk.none hk6, (fun _ => rfl)⟩) (LeF.fm (Sub.refl _) (.cons (ALe.refl _ _) (.cons (ALe.refl _ _) (.cons (ALe.refl _ _) (.cons (ALe.refl _ _) (.nil)))))) ?_ ?_
  · rintro tg93 ⟨q92, q95⟩ x ⟨hk96, ot94⟩ hm
    replace hm : M52_L0 fuel p0 q92 q95 = some x := hm
    unfold M52_L0 at hm
    refine AW_k fun K97 H97 => ?_
    refine AW_k fun K98 H98 => ?_
    refine AW_reg ?_
    refine s_v (o_mv (.sc (.int _ _)) rfl) ?_
    refine s_v (o_flp fd57_1 rfl rfl) ?_
    refine s_v (o_ldp (.sl none 3 (List.map c_Part p0.Parts)) ld55 rfl (hp_get 2 hk96 rfl) rfl) ?_
    refine s_v (o_lenm ln55 rfl) ?_
    refine s_v (o_bi rfl rfl rfl trivial) ?_
    refine s_nil ?_
    refine H98 _ _ ?_
    clear H98 K98
    refine AW_if' rfl (fun hc99 => ?_) (fun hc99 => ?_)
    · replace hm := ite_t hm hc99
      refine AW_skip ?_
      refine H97 _ _ ?_
      clear H97 K97
      refine AW_k fun K100 H100 => ?_
      refine AW_block ?_
      refine AW_k fun K101 H101 => ?_
      refine AW_reg ?_
      refine s_v (o_flp fd57_1 rfl rfl) ?_
      refine s_v (o_ldp (.sl none 3 (List.map c_Part p0.Parts)) ld55 rfl (hp_get 2 hk96 rfl) rfl) ?_
      refine s_v (o_mv (.sc (.int _ _)) rfl) ?_
      obtain ⟨x102, hx103, hm⟩ := bind_of hm
      refine s_v (o_ix hx103 el55 rfl rfl) ?_
      refine s_v (o_ld (.agg (c_Part x102)) ld82 rfl rfl) ?_
      refine s_op (a_alloc ([.sc (.string ByteArray.empty), .sc (.int .i64 0), .sc (.slice none 0 0)]) hk96 zr82 rfl rfl fun k104 hk105 => ?_)
      refine s_op (a_store 0 (c_Part x102) hk105 rfl rfl rfl rfl sz82 rfl rfl fun hk107 => ?_)
      refine s_nil ?_
      refine H101 _ _ ?_
      clear H101 K101
      refine AW_k fun K108 H108 => ?_
      refine AW_reg ?_
      refine s_v (o_as (.sc (.slice _ _ _)) rfl) ?_
      refine s_nil ?_
      refine H108 _ _ ?_
      clear H108 K108
      refine AW_k fun K109 H109 => ?_
      refine AW_reg ?_
      refine s_v (o_mv (.sc (.slice _ _ _)) rfl) ?_
      refine s_v (o_flp fd82_2 rfl rfl) ?_
      refine s_v (o_ldp (.sl none 32 (List.map c_id x102.Ids)) ld80 rfl (hp_get 0 hk107 rfl) rfl) ?_
      obtain ⟨z110, hz111, hm⟩ := bind_of hm
      refine s_op (a_app0 (c := c_id) hz111 et80 rfl rfl hk107 nofun rfl fun tg112 ot113 hk114 => ?_)
      refine s_v (o_flp fd82_2 rfl rfl) ?_
      refine s_op (a_store 1 ([.sc (.string x102.Path), .sc (.int .i64 x102.Size), ow tg112 32 (List.map c_id z110)]) hk114 rfl rfl (cellsOf_ow rfl) (all_ow _ _ _) sz80 rfl rfl fun hk116 => ?_)
      refine s_nil ?_
      refine H109 _ _ ?_
      clear H109 K109
      refine AW_reg ?_
      refine s_v (o_mv (ow _ _ _) rfl) ?_
      refine s_v (o_ldp (.agg ([.sc (.string x102.Path), .sc (.int .i64 x102.Size), ow tg112 32 (List.map c_id z110)])) ld82 rfl (hp_get 1 hk116 rfl) rfl) ?_
      refine s_fz (t := 25) (.agg (c_Part ({ Path := x102.Path, Size := x102.Size, Ids := z110 } : TPart))) (hp_sub (.cons _ (.refl _)) hk116).1 (ALe.agg (.cons (ALe.refl _ _) (.cons (ALe.refl _ _) (.cons (own_frzE _ 0 ot113 hk116 rfl (.refl _)) (.nil))))) ?_
      refine s_v (o_lit (List.map c_Part ([({ Path := x102.Path, Size := x102.Size, Ids := z110 } : TPart)] : List TPart)) et55 rfl rfl rfl rfl) ?_
      obtain ⟨z117, hz118, hm⟩ := bind_of hm
      refine s_op (a_app (c := c_Part) 1 hz118 et55 rfl rfl rfl ot94 ((hp_sub (.cons _ (.refl _)) hk116).2) rfl fun tg119 ot120 hk121 => ?_)
      refine s_v (o_as (ow _ _ _) rfl) ?_
      refine s_nil ?_
      refine H100 _ _ ?_
      clear H100 K100
      refine AW_reg ?_
      refine s_v (o_mv (.sc (.int _ _)) rfl) ?_
      refine s_v (o_bi rfl rfl rfl trivial) ?_
      refine s_v (o_as (.sc (.int _ _)) rfl) ?_
      refine s_nil ?_
      cases hm
      exact ⟨rfl, tg119, ⟨(hp_sub (.cons _ (.refl _)) hk121).2, ot120⟩, LeF.fm ((hp_sub (.cons _ (.refl _)) hk121).1) (.cons (ALe.refl _ _) (.cons (ALe.refl _ _) (.cons (ALe.refl _ _) (.cons (ALe.refl _ _) (.nil)))))⟩
    · replace hm := ite_f hm hc99
      refine AW_exit ?_
      refine Seq_exit ?_
      cases hm
      exact ⟨rfl, tg93, ⟨hk96, ot94⟩, LeF.fm (Sub.refl _) (.cons (ALe.refl _ _) (.cons (ALe.refl _ _) (.cons (ALe.refl _ _) (.cons (ALe.refl _ _) (.nil)))))⟩
  · rintro tg124 ⟨r122, r123⟩ fr' h' ⟨hk126, ot125⟩ hm le
    refine H9 _ _ (le.aw ?_)
    clear le H9 K9
    refine AW_k fun K127 H127 => ?_
    refine AW_reg ?_
    refine s_v (o_mv (ow _ _ _) rfl) ?_
    refine s_v (o_flp fd57_1 rfl rfl) ?_
    refine s_op (a_store 2 ([.sc (.string p0.Name), ow tg124 3 (List.map c_Part r122)]) hk126 rfl rfl (cellsOf_ow rfl) (all_ow _ _ _) sz55 rfl rfl fun hk128 => ?_)
    refine s_nil ?_
    refine H127 _ _ ?_
    clear H127 K127
    refine AW_k fun K129 H129 => ?_
    refine AW_reg ?_
    refine s_v (o_ldp (.agg ([.sc (.string p0.Name), ow tg124 3 (List.map c_Part r122)])) ld57 rfl (hp_get 2 hk128 rfl) rfl) ?_
    refine s_op (a_store 1 ([.sc (.string p0.Name), ow tg124 3 (List.map c_Part r122)]) hk128 rfl rfl rfl (by repeat (first | exact rfl | refine all_c (ocell_ow _ _ _) ?_ | refine all_c (ocell_aw _ _ _) ?_ | refine all_c rfl ?_)) sz57 rfl rfl fun hk130 => ?_)
    refine s_nil ?_
    refine H129 _ _ ?_
    clear H129 K129
    refine AW_ret ?_
    cases hm
    exact Ret.of1 (.inl rfl) (rsC (.agg ([.sc (.string p0.Name), ow tg124 3 (List.map c_Part r122)])) ld57 rfl (hp_get 1 hk130 rfl) rfl) (hp_sub (List.nil_sublist _) hk130).1 (ALe.agg (.cons (ALe.refl _ _) (.cons ((own_frz0 _ 0 ot125 hk130 rfl)) (.nil)))) ⟨rfl, rfl⟩
theorem bd52 : bodied Try.prog 52 = true := by kernel_rfl
def M54_L0 (fuel : Nat) (p0 : List TChunk) (q98 : List TChunk) (q101 : Int) : Option (Lp ((List TChunk) × Int) ((List TChunk))) :=
  if (decide (q101 < (p0.length : Int))) = true then ((ix p0 q101).bind fun x108 => (M100 fuel x108.Data).bind fun y121 => (M53 fuel x108.Locs).bind fun y123 => (app q98 ([{ { x108 with Data := y121 } with Locs := y123 }] : List TChunk)).bind fun z127 => some (.go (z127, IntKind.wrap .i64 (q101 + 1)))) else some (.brk (q98, q101))
def M54 (fuel : Nat) (p0 : List TChunk) : Option ((List TChunk)) :=
  after (loopM (fun s => M54_L0 fuel p0 s.1 s.2) fuel ([], 0)) fun ⟨r132, r133⟩ => some r132
theorem bd54 : bodied Try.prog 54 = true := by kernel_rfl
def M14_L0 (fuel : Nat) (p0 : TCatalog) (q104 : List TSnap) (q107 : Int) : Option (Lp ((List TSnap) × Int) (TCatalog)) :=
  if (decide (q107 < (p0.Snaps.length : Int))) = true then ((ix p0.Snaps q107).bind fun x114 => (M52 fuel x114.Man).bind fun y127 => (M53 fuel x114.Locs).bind fun y129 => (app q104 ([{ { x114 with Man := y127 } with Locs := y129 }] : List TSnap)).bind fun z133 => some (.go (z133, IntKind.wrap .i64 (q107 + 1)))) else some (.brk (q104, q107))
def M14_L2 (fuel : Nat) (p0 : TCatalog) (q212 : List TExp) (q215 : Int) : Option (Lp ((List TExp) × Int) (TCatalog)) :=
  if (decide (q215 < (p0.Exps.length : Int))) = true then ((ix p0.Exps q215).bind fun x222 => (M53 fuel x222.Locs).bind fun y229 => (app q212 ([{ x222 with Locs := y229 }] : List TExp)).bind fun z232 => some (.go (z232, IntKind.wrap .i64 (q215 + 1)))) else some (.brk (q212, q215))
def M14 (fuel : Nat) (p0 : TCatalog) : Option (TCatalog) :=
  after (loopM (fun s => M14_L0 fuel p0 s.1 s.2) fuel ([], 0)) fun ⟨r138, r139⟩ => after (loopM (fun s => M14_L2 fuel p0 s.1 s.2) fuel ([], 0)) fun ⟨r237, r238⟩ => (M54 fuel p0.Chunks).bind fun y256 => (app ([] : List TVol) p0.Vols).bind fun z258 => some ({ Seq := p0.Seq, Snaps := r138, Chunks := y256, Exps := r237, Vols := z258 } : TCatalog)
theorem bd14 : bodied Try.prog 14 = true := by kernel_rfl
end Go.Proofs.Ytoomgangpjcaoaa
