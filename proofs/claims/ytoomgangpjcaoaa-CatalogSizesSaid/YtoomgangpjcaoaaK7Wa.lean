import Derived.Test.YtoomgangpjcaoaaK7Types
set_option linter.unusedSimpArgs false
set_option linter.unusedVariables false
namespace Go.Proofs.Ytoomgangpjcaoaa
open Go.Vm
def M51_L0 (fuel : Nat) (p0 : TManifest) (q54 : Int) : Option (Lp (Int) (Bool)) :=
  if (decide (q54 < (p0.Parts.length : Int))) = true then (after ((ix p0.Parts q54).bind fun x67 => if (decide (100 < (x67.Path.size : Int))) = true then (some (.brk true)) else (ix p0.Parts q54).bind fun x70 => some (.brk (decide (40 < (x70.Ids.length : Int)))) : Option (Lp (Bool) (Lp (Int) (Bool)))) fun j66 => if j66 = true then (some (.ret true)) else some (.go (IntKind.wrap .i64 (q54 + 1)))) else some (.brk q54)
def M51 (fuel : Nat) (p0 : TManifest) : Option (Bool) :=
  after (if (decide (100 < (p0.Name.size : Int))) = true then (some (.brk true)) else some (.brk (decide (10 < (p0.Parts.length : Int)))) : Option (Lp (Bool) (Bool))) fun j8 => if j8 = true then (some true) else after (loopM (fun s => M51_L0 fuel p0 s) fuel 0) fun r75 => some false
set_option maxRecDepth 100000 in
/-- cellarer/cellarerlaw17.Heavy -/
theorem W51 {fuel : Nat} {p0 : TManifest} {o : Bool} (h : Heap) (hm : M51 fuel p0 = some o) :
    ACalls Try.prog 51 [.agg (c_Manifest p0)] h (fun r h' => r = .sc (.bool o) ∧ h' = h) := by
  refine ACalls_hp 39 [.tmp 2] Try.func51 rfl rfl rfl rfl ?_
  unfold M51 at hm
  refine AW_k fun K1 H1 => ?_
  refine AW_reg ?_
  refine s_op (a_box (HOk.nil _) rfl rfl fun k2 hk3 => ?_)
  refine s_v (o_as (.sc (.bool _)) rfl) ?_
  refine s_nil ?_
  refine H1 _ _ ?_
  clear H1 K1
  refine AW_k fun K5 H5 => ?_
  refine AW_k fun K6 H6 => ?_
  refine AW_joinG (n := 39) hm (σ := Bool) (τ := Unit) (fun g s => HOk h [(some k2, .obj 57 (c_Manifest p0))]) (fun g s => kp (kp (k0) 13 (.sc (.bool s))) 1 (.ptr k2 0)) (fun g s => hp h [(some k2, .obj 57 (c_Manifest p0))]) (fun x hm => ?_) ?_
  · refine AW_reg ?_
    refine s_v (o_flp fd57_0 rfl rfl) ?_
    refine s_v (o_ldp (.sc (.string p0.Name)) ld9 rfl (hp_get 0 hk3 rfl) rfl) ?_
    refine s_v (o_lent ln9 rfl) ?_
    refine s_v (o_bi rfl rfl rfl trivial) ?_
    refine s_v (o_mv (.sc (.bool _)) rfl) ?_
    rcases Bool.eq_false_or_eq_true (decide (100 < (p0.Name.size : Int))) with hb9 | hb9
    · replace hm := ite_t hm hb9
      refine sg_n rfl rfl hb9 ?_
      refine sg_n rfl rfl hb9 ?_
      refine sg_n rfl rfl hb9 ?_
      refine sg_n rfl rfl hb9 ?_
      refine s_v (o_pkt (.sc (.bool _)) rfl hb9 rfl) ?_
      refine s_nil ?_
      cases hm
      exact ⟨rfl, (), hk3, LeF.fm (Sub.refl _) (.cons (ALe.refl _ _) (.cons (ALe.refl _ _) (.nil)))⟩
    · replace hm := ite_f hm hb9
      refine sg_y rfl rfl hb9 ?_
      refine s_v (o_flp fd57_1 rfl rfl) ?_
      refine sg_y rfl rfl hb9 ?_
      refine s_v (o_ldp (.sl none 3 (List.map c_Part p0.Parts)) ld55 rfl (hp_get 0 hk3 rfl) rfl) ?_
      refine sg_y rfl rfl hb9 ?_
      refine s_v (o_lenm ln55 rfl) ?_
      refine sg_y rfl rfl hb9 ?_
      refine s_v (o_bi rfl rfl rfl trivial) ?_
      refine s_v (o_pkf (.sc (.bool _)) rfl hb9 rfl) ?_
      refine s_nil ?_
      cases hm
      exact ⟨rfl, (), hk3, LeF.fm (Sub.refl _) (.cons (ALe.refl _ _) (.cons (ALe.refl _ _) (.nil)))⟩
  · rintro _ j8 fr' h' hk10 hm le
    refine H6 _ _ (le.aw ?_)
    clear le H6 K6
    refine AW_if' rfl (fun hc11 => ?_) (fun hc11 => ?_)
    · replace hm := ite_t hm hc11
      refine AW_k fun K12 H12 => ?_
      refine AW_reg ?_
      refine s_v (o_as (.sc (.bool _)) rfl) ?_
      refine s_nil ?_
      refine H12 _ _ ?_
      clear H12 K12
      refine AW_ret ?_
      cases hm
      exact Ret.of1 (.inl rfl) (rsT _ _ (.sc (.bool _)) rfl) (hp_sub (List.nil_sublist _) hk10).1 (ALe.refl _ _) ⟨rfl, rfl⟩
    · replace hm := ite_f hm hc11
      refine AW_skip ?_
      refine H5 _ _ ?_
      clear H5 K5
      refine AW_k fun K13 H13 => ?_
      refine AW_k fun K14 H14 => ?_
      refine AW_reg ?_
      refine s_v (o_as (.sc (.int _ _)) rfl) ?_
      refine s_nil ?_
      refine H14 _ _ ?_
      clear H14 K14
      refine AW_loopG (n := 39) hm (σ := Int) (τ := Unit) (fun g s => HOk h [(some k2, .obj 57 (c_Manifest p0))]) (fun g s => kp (kp (k0) 3 (.sc (.int .i64 s))) 1 (.ptr k2 0)) (fun g s => hp h [(some k2, .obj 57 (c_Manifest p0))]) () hk10 (LeF.fm (Sub.refl _) (.cons (ALe.refl _ _) (.cons (ALe.refl _ _) (.nil)))) ?_ ?_
      · rintro _ q54 x hk55 hm
        replace hm : M51_L0 fuel p0 q54 = some x := hm
        unfold M51_L0 at hm
        refine AW_k fun K56 H56 => ?_
        refine AW_k fun K57 H57 => ?_
        refine AW_reg ?_
        refine s_v (o_mv (.sc (.int _ _)) rfl) ?_
        refine s_v (o_flp fd57_1 rfl rfl) ?_
        refine s_v (o_ldp (.sl none 3 (List.map c_Part p0.Parts)) ld55 rfl (hp_get 0 hk55 rfl) rfl) ?_
        refine s_v (o_lenm ln55 rfl) ?_
        refine s_v (o_bi rfl rfl rfl trivial) ?_
        refine s_nil ?_
        refine H57 _ _ ?_
        clear H57 K57
        refine AW_if' rfl (fun hc58 => ?_) (fun hc58 => ?_)
        · replace hm := ite_t hm hc58
          refine AW_skip ?_
          refine H56 _ _ ?_
          clear H56 K56
          refine AW_k fun K59 H59 => ?_
          refine AW_block ?_
          refine AW_k fun K60 H60 => ?_
          refine AW_joinG (n := 39) hm (σ := Bool) (τ := Unit) (fun g s => HOk h [(some k2, .obj 57 (c_Manifest p0))]) (fun g s => kp (kp (kp (k0) 38 (.sc (.bool s))) 3 (.sc (.int .i64 q54))) 1 (.ptr k2 0)) (fun g s => hp h [(some k2, .obj 57 (c_Manifest p0))]) (fun x hm => ?_) ?_
          · refine AW_reg ?_
            refine s_v (o_flp fd57_1 rfl rfl) ?_
            refine s_v (o_ldp (.sl none 3 (List.map c_Part p0.Parts)) ld55 rfl (hp_get 0 hk55 rfl) rfl) ?_
            refine s_v (o_mv (.sc (.int _ _)) rfl) ?_
            obtain ⟨x67, hx68, hm⟩ := bind_of hm
            refine s_v (o_ix hx68 el55 rfl rfl) ?_
            refine s_v (o_fl fd82_0 rfl rfl) ?_
            refine s_v (o_ld (.sc (.string x67.Path)) ld9 rfl rfl) ?_
            refine s_v (o_lent ln9 rfl) ?_
            refine s_v (o_bi rfl rfl rfl trivial) ?_
            refine s_v (o_mv (.sc (.bool _)) rfl) ?_
            rcases Bool.eq_false_or_eq_true (decide (100 < (x67.Path.size : Int))) with hb69 | hb69
            · replace hm := ite_t hm hb69
              refine sg_n rfl rfl hb69 ?_
              refine sg_n rfl rfl hb69 ?_
              refine sg_n rfl rfl hb69 ?_
              refine sg_n rfl rfl hb69 ?_
              refine sg_n rfl rfl hb69 ?_
              refine sg_n rfl rfl hb69 ?_
              refine sg_n rfl rfl hb69 ?_
              refine sg_n rfl rfl hb69 ?_
              refine s_v (o_pkt (.sc (.bool _)) rfl hb69 rfl) ?_
              refine s_nil ?_
              cases hm
              exact ⟨rfl, (), hk55, LeF.fm (Sub.refl _) (.cons (ALe.refl _ _) (.cons (ALe.refl _ _) (.cons (ALe.refl _ _) (.nil))))⟩
            · replace hm := ite_f hm hb69
              refine sg_y rfl rfl hb69 ?_
              refine s_v (o_flp fd57_1 rfl rfl) ?_
              refine sg_y rfl rfl hb69 ?_
              refine s_v (o_ldp (.sl none 3 (List.map c_Part p0.Parts)) ld55 rfl (hp_get 0 hk55 rfl) rfl) ?_
              refine sg_y rfl rfl hb69 ?_
              refine s_v (o_mv (.sc (.int _ _)) rfl) ?_
              refine sg_y rfl rfl hb69 ?_
              obtain ⟨x70, hx71, hm⟩ := bind_of hm
              refine s_v (o_ix hx71 el55 rfl rfl) ?_
              refine sg_y rfl rfl hb69 ?_
              refine s_v (o_fl fd82_2 rfl rfl) ?_
              refine sg_y rfl rfl hb69 ?_
              refine s_v (o_ld (.sl none 32 (List.map c_id x70.Ids)) ld80 rfl rfl) ?_
              refine sg_y rfl rfl hb69 ?_
              refine s_v (o_lenm ln80 rfl) ?_
              refine sg_y rfl rfl hb69 ?_
              refine s_v (o_bi rfl rfl rfl trivial) ?_
              refine s_v (o_pkf (.sc (.bool _)) rfl hb69 rfl) ?_
              refine s_nil ?_
              cases hm
              exact ⟨rfl, (), hk55, LeF.fm (Sub.refl _) (.cons (ALe.refl _ _) (.cons (ALe.refl _ _) (.cons (ALe.refl _ _) (.nil))))⟩
          · rintro _ j66 fr' h' hk72 hm le
            refine H60 _ _ (le.aw ?_)
            clear le H60 K60
            refine AW_if' rfl (fun hc73 => ?_) (fun hc73 => ?_)
            · replace hm := ite_t hm hc73
              refine AW_k fun K74 H74 => ?_
              refine AW_reg ?_
              refine s_v (o_as (.sc (.bool _)) rfl) ?_
              refine s_nil ?_
              refine H74 _ _ ?_
              clear H74 K74
              refine AW_ret ?_
              cases hm
              refine ⟨⟨nofun, nofun⟩, fun he => ?_⟩
              subst he
              exact Ret.of1 (.inl rfl) (rsT _ _ (.sc (.bool _)) rfl) (hp_sub (List.nil_sublist _) hk72).1 (ALe.refl _ _) ⟨rfl, rfl⟩
            · replace hm := ite_f hm hc73
              refine AW_skip ?_
              refine H59 _ _ ?_
              clear H59 K59
              refine AW_reg ?_
              refine s_v (o_mv (.sc (.int _ _)) rfl) ?_
              refine s_v (o_bi rfl rfl rfl trivial) ?_
              refine s_v (o_as (.sc (.int _ _)) rfl) ?_
              refine s_nil ?_
              cases hm
              exact ⟨rfl, (), hk72, LeF.fm (Sub.refl _) (.cons (ALe.refl _ _) (.cons (ALe.refl _ _) (.nil)))⟩
        · replace hm := ite_f hm hc58
          refine AW_exit ?_
          refine Seq_exit ?_
          cases hm
          exact ⟨rfl, (), hk55, LeF.fm (Sub.refl _) (.cons (ALe.refl _ _) (.cons (ALe.refl _ _) (.nil)))⟩
      · rintro _ r75 fr' h' hk76 hm le
        refine H13 _ _ (le.aw ?_)
        clear le H13 K13
        refine AW_k fun K77 H77 => ?_
        refine AW_reg ?_
        refine s_v (o_as (.sc (.bool _)) rfl) ?_
        refine s_nil ?_
        refine H77 _ _ ?_
        clear H77 K77
        refine AW_ret ?_
        cases hm
        exact Ret.of1 (.inl rfl) (rsT _ _ (.sc (.bool _)) rfl) (hp_sub (List.nil_sublist _) hk76).1 (ALe.refl _ _) ⟨rfl, rfl⟩
theorem bd51 : bodied Try.prog 51 = true := by kernel_rfl
def M13_L0 (fuel : Nat) (p0 : TCatalog) (q66 : Int) : Option (Lp (Int) (Bool)) :=
  if (decide (q66 < (p0.Snaps.length : Int))) = true then (after ((ix p0.Snaps q66).bind fun x81 => (M51 fuel x81.Man).bind fun y83 => if y83 = true then (some (.brk true)) else (ix p0.Snaps q66).bind fun x86 => some (.brk (decide (220 < (x86.Locs.length : Int)))) : Option (Lp (Bool) (Lp (Int) (Bool)))) fun j80 => if j80 = true then (some (.ret true)) else some (.go (IntKind.wrap .i64 (q66 + 1)))) else some (.brk q66)
def M13_L2 (fuel : Nat) (p0 : TCatalog) (q134 : Int) : Option (Lp (Int) (Bool)) :=
  if (decide (q134 < (p0.Chunks.length : Int))) = true then (after ((ix p0.Chunks q134).bind fun x147 => if (decide (300 < (x147.Data.length : Int))) = true then (some (.brk true)) else (ix p0.Chunks q134).bind fun x150 => some (.brk (decide (220 < (x150.Locs.length : Int)))) : Option (Lp (Bool) (Lp (Int) (Bool)))) fun j146 => if j146 = true then (some (.ret true)) else some (.go (IntKind.wrap .i64 (q134 + 1)))) else some (.brk q134)
def M13_L4 (fuel : Nat) (p0 : TCatalog) (q178 : Int) : Option (Lp (Int) (Bool)) :=
  if (decide (q178 < (p0.Exps.length : Int))) = true then ((ix p0.Exps q178).bind fun x185 => if (decide (220 < (x185.Locs.length : Int))) = true then (some (.ret true)) else some (.go (IntKind.wrap .i64 (q178 + 1)))) else some (.brk q178)
def M13 (fuel : Nat) (p0 : TCatalog) : Option (Bool) :=
  after (if (decide (12 < (p0.Snaps.length : Int))) = true then (some (.brk true)) else if (decide (220 < (p0.Chunks.length : Int))) = true then (some (.brk true)) else if (decide (220 < (p0.Exps.length : Int))) = true then (some (.brk true)) else some (.brk (decide (20 < (p0.Vols.length : Int)))) : Option (Lp (Bool) (Bool))) fun j10 => if j10 = true then (some true) else after (loopM (fun s => M13_L0 fuel p0 s) fuel 0) fun r91 => after (loopM (fun s => M13_L2 fuel p0 s) fuel 0) fun r155 => after (loopM (fun s => M13_L4 fuel p0 s) fuel 0) fun r189 => some false
set_option maxRecDepth 100000 in
/-- cellarer/cellarerlaw18.Heavy -/
theorem W13 {fuel : Nat} {p0 : TCatalog} {o : Bool} (h : Heap) (hm : M13 fuel p0 = some o) :
    ACalls Try.prog 13 [.agg (c_Catalog p0)] h (fun r h' => r = .sc (.bool o) ∧ h' = h) := by
  refine ACalls_hp 92 [.tmp 2] Try.func13 rfl rfl rfl rfl ?_
  unfold M13 at hm
  refine AW_k fun K1 H1 => ?_
  refine AW_reg ?_
  refine s_op (a_box (HOk.nil _) rfl rfl fun k2 hk3 => ?_)
  refine s_v (o_as (.sc (.bool _)) rfl) ?_
  refine s_nil ?_
  refine H1 _ _ ?_
  clear H1 K1
  refine AW_k fun K5 H5 => ?_
  refine AW_k fun K6 H6 => ?_
  refine AW_joinG (n := 92) hm (σ := Bool) (τ := Unit) (fun g s => HOk h [(some k2, .obj 27 (c_Catalog p0))]) (fun g s => kp (kp (k0) 27 (.sc (.bool s))) 1 (.ptr k2 0)) (fun g s => hp h [(some k2, .obj 27 (c_Catalog p0))]) (fun x hm => ?_) ?_
  · refine AW_reg ?_
    refine s_v (o_flp fd27_1 rfl rfl) ?_
    refine s_v (o_ldp (.sl none 4 (List.map c_Snap p0.Snaps)) ld22 rfl (hp_get 0 hk3 rfl) rfl) ?_
    refine s_v (o_lenm ln22 rfl) ?_
    refine s_v (o_bi rfl rfl rfl trivial) ?_
    refine s_v (o_mv (.sc (.bool _)) rfl) ?_
    rcases Bool.eq_false_or_eq_true (decide (12 < (p0.Snaps.length : Int))) with hb11 | hb11
    · replace hm := ite_t hm hb11
      refine sg_n rfl rfl hb11 ?_
      refine sg_n rfl rfl hb11 ?_
      refine sg_n rfl rfl hb11 ?_
      refine sg_n rfl rfl hb11 ?_
      refine s_v (o_pkt (.sc (.bool _)) rfl hb11 rfl) ?_
      refine s_v (o_mv (.sc (.bool _)) rfl) ?_
      refine sg_n rfl rfl rfl ?_
      refine sg_n rfl rfl rfl ?_
      refine sg_n rfl rfl rfl ?_
      refine sg_n rfl rfl rfl ?_
      refine s_v (o_pkt (.sc (.bool _)) rfl rfl rfl) ?_
      refine s_v (o_mv (.sc (.bool _)) rfl) ?_
      refine sg_n rfl rfl rfl ?_
      refine sg_n rfl rfl rfl ?_
      refine sg_n rfl rfl rfl ?_
      refine sg_n rfl rfl rfl ?_
      refine s_v (o_pkt (.sc (.bool _)) rfl rfl rfl) ?_
      refine s_nil ?_
      cases hm
      exact ⟨rfl, (), hk3, LeF.fm (Sub.refl _) (.cons (ALe.refl _ _) (.cons (ALe.refl _ _) (.nil)))⟩
    · replace hm := ite_f hm hb11
      refine sg_y rfl rfl hb11 ?_
      refine s_v (o_flp fd27_2 rfl rfl) ?_
      refine sg_y rfl rfl hb11 ?_
      refine s_v (o_ldp (.sl none 35 (List.map c_Chunk p0.Chunks)) ld23 rfl (hp_get 0 hk3 rfl) rfl) ?_
      refine sg_y rfl rfl hb11 ?_
      refine s_v (o_lenm ln23 rfl) ?_
      refine sg_y rfl rfl hb11 ?_
      refine s_v (o_bi rfl rfl rfl trivial) ?_
      refine s_v (o_pkf (.sc (.bool _)) rfl hb11 rfl) ?_
      refine s_v (o_mv (.sc (.bool _)) rfl) ?_
      rcases Bool.eq_false_or_eq_true (decide (220 < (p0.Chunks.length : Int))) with hb12 | hb12
      · replace hm := ite_t hm hb12
        refine sg_n rfl rfl hb12 ?_
        refine sg_n rfl rfl hb12 ?_
        refine sg_n rfl rfl hb12 ?_
        refine sg_n rfl rfl hb12 ?_
        refine s_v (o_pkt (.sc (.bool _)) rfl hb12 rfl) ?_
        refine s_v (o_mv (.sc (.bool _)) rfl) ?_
        refine sg_n rfl rfl rfl ?_
        refine sg_n rfl rfl rfl ?_
        refine sg_n rfl rfl rfl ?_
        refine sg_n rfl rfl rfl ?_
        refine s_v (o_pkt (.sc (.bool _)) rfl rfl rfl) ?_
        refine s_nil ?_
        cases hm
        exact ⟨rfl, (), hk3, LeF.fm (Sub.refl _) (.cons (ALe.refl _ _) (.cons (ALe.refl _ _) (.nil)))⟩
      · replace hm := ite_f hm hb12
        refine sg_y rfl rfl hb12 ?_
        refine s_v (o_flp fd27_3 rfl rfl) ?_
        refine sg_y rfl rfl hb12 ?_
        refine s_v (o_ldp (.sl none 3 (List.map c_Exp p0.Exps)) ld24 rfl (hp_get 0 hk3 rfl) rfl) ?_
        refine sg_y rfl rfl hb12 ?_
        refine s_v (o_lenm ln24 rfl) ?_
        refine sg_y rfl rfl hb12 ?_
        refine s_v (o_bi rfl rfl rfl trivial) ?_
        refine s_v (o_pkf (.sc (.bool _)) rfl hb12 rfl) ?_
        refine s_v (o_mv (.sc (.bool _)) rfl) ?_
        rcases Bool.eq_false_or_eq_true (decide (220 < (p0.Exps.length : Int))) with hb13 | hb13
        · replace hm := ite_t hm hb13
          refine sg_n rfl rfl hb13 ?_
          refine sg_n rfl rfl hb13 ?_
          refine sg_n rfl rfl hb13 ?_
          refine sg_n rfl rfl hb13 ?_
          refine s_v (o_pkt (.sc (.bool _)) rfl hb13 rfl) ?_
          refine s_nil ?_
          cases hm
          exact ⟨rfl, (), hk3, LeF.fm (Sub.refl _) (.cons (ALe.refl _ _) (.cons (ALe.refl _ _) (.nil)))⟩
        · replace hm := ite_f hm hb13
          refine sg_y rfl rfl hb13 ?_
          refine s_v (o_flp fd27_4 rfl rfl) ?_
          refine sg_y rfl rfl hb13 ?_
          refine s_v (o_ldp (.sl none 4 (List.map c_Vol p0.Vols)) ld25 rfl (hp_get 0 hk3 rfl) rfl) ?_
          refine sg_y rfl rfl hb13 ?_
          refine s_v (o_lenm ln25 rfl) ?_
          refine sg_y rfl rfl hb13 ?_
          refine s_v (o_bi rfl rfl rfl trivial) ?_
          refine s_v (o_pkf (.sc (.bool _)) rfl hb13 rfl) ?_
          refine s_nil ?_
          cases hm
          exact ⟨rfl, (), hk3, LeF.fm (Sub.refl _) (.cons (ALe.refl _ _) (.cons (ALe.refl _ _) (.nil)))⟩
  · rintro _ j10 fr' h' hk14 hm le
    refine H6 _ _ (le.aw ?_)
    clear le H6 K6
    refine AW_if' rfl (fun hc15 => ?_) (fun hc15 => ?_)
    · replace hm := ite_t hm hc15
      refine AW_k fun K16 H16 => ?_
      refine AW_reg ?_
      refine s_v (o_as (.sc (.bool _)) rfl) ?_
      refine s_nil ?_
      refine H16 _ _ ?_
      clear H16 K16
      refine AW_ret ?_
      cases hm
      exact Ret.of1 (.inl rfl) (rsT _ _ (.sc (.bool _)) rfl) (hp_sub (List.nil_sublist _) hk14).1 (ALe.refl _ _) ⟨rfl, rfl⟩
    · replace hm := ite_f hm hc15
      refine AW_skip ?_
      refine H5 _ _ ?_
      clear H5 K5
      refine AW_k fun K17 H17 => ?_
      refine AW_k fun K18 H18 => ?_
      refine AW_reg ?_
      refine s_v (o_as (.sc (.int _ _)) rfl) ?_
      refine s_nil ?_
      refine H18 _ _ ?_
      clear H18 K18
      refine AW_loopG (n := 92) hm (σ := Int) (τ := Unit) (fun g s => HOk h [(some k2, .obj 27 (c_Catalog p0))]) (fun g s => kp (kp (k0) 3 (.sc (.int .i64 s))) 1 (.ptr k2 0)) (fun g s => hp h [(some k2, .obj 27 (c_Catalog p0))]) () hk14 (LeF.fm (Sub.refl _) (.cons (ALe.refl _ _) (.cons (ALe.refl _ _) (.nil)))) ?_ ?_
      · rintro _ q66 x hk67 hm
        replace hm : M13_L0 fuel p0 q66 = some x := hm
        unfold M13_L0 at hm
        refine AW_k fun K68 H68 => ?_
        refine AW_k fun K69 H69 => ?_
        refine AW_reg ?_
        refine s_v (o_mv (.sc (.int _ _)) rfl) ?_
        refine s_v (o_flp fd27_1 rfl rfl) ?_
        refine s_v (o_ldp (.sl none 4 (List.map c_Snap p0.Snaps)) ld22 rfl (hp_get 0 hk67 rfl) rfl) ?_
        refine s_v (o_lenm ln22 rfl) ?_
        refine s_v (o_bi rfl rfl rfl trivial) ?_
        refine s_nil ?_
        refine H69 _ _ ?_
        clear H69 K69
        refine AW_if' rfl (fun hc70 => ?_) (fun hc70 => ?_)
        · replace hm := ite_t hm hc70
          refine AW_skip ?_
          refine H68 _ _ ?_
          clear H68 K68
          refine AW_k fun K71 H71 => ?_
          refine AW_block ?_
          refine AW_k fun K72 H72 => ?_
          refine AW_joinG (n := 92) hm (σ := Bool) (τ := Unit) (fun g s => HOk h [(some k2, .obj 27 (c_Catalog p0))]) (fun g s => kp (kp (kp (k0) 51 (.sc (.bool s))) 3 (.sc (.int .i64 q66))) 1 (.ptr k2 0)) (fun g s => hp h [(some k2, .obj 27 (c_Catalog p0))]) (fun x hm => ?_) ?_
          · refine AW_reg ?_
            refine s_v (o_flp fd27_1 rfl rfl) ?_
            refine s_v (o_ldp (.sl none 4 (List.map c_Snap p0.Snaps)) ld22 rfl (hp_get 0 hk67 rfl) rfl) ?_
            refine s_v (o_mv (.sc (.int _ _)) rfl) ?_
            obtain ⟨x81, hx82, hm⟩ := bind_of hm
            refine s_v (o_ix hx82 el22 rfl rfl) ?_
            refine s_v (o_fl fd60_1 rfl rfl) ?_
            refine s_v (o_ld (.agg (c_Manifest x81.Man)) ld57 rfl rfl) ?_
            obtain ⟨y83, hy84, hm⟩ := bind_of hm
            refine s_v (o_call (W51 _ hy84) rfl bd51 rfl) ?_
            refine s_v (o_mv (.sc (.bool _)) rfl) ?_
            rcases Bool.eq_false_or_eq_true y83 with hb85 | hb85
            · replace hm := ite_t hm hb85
              refine sg_n rfl rfl hb85 ?_
              refine sg_n rfl rfl hb85 ?_
              refine sg_n rfl rfl hb85 ?_
              refine sg_n rfl rfl hb85 ?_
              refine sg_n rfl rfl hb85 ?_
              refine sg_n rfl rfl hb85 ?_
              refine sg_n rfl rfl hb85 ?_
              refine sg_n rfl rfl hb85 ?_
              refine s_v (o_pkt (.sc (.bool _)) rfl hb85 rfl) ?_
              refine s_nil ?_
              cases hm
              exact ⟨rfl, (), hk67, LeF.fm (Sub.refl _) (.cons (ALe.refl _ _) (.cons (ALe.refl _ _) (.cons (ALe.refl _ _) (.nil))))⟩
            · replace hm := ite_f hm hb85
              refine sg_y rfl rfl hb85 ?_
              refine s_v (o_flp fd27_1 rfl rfl) ?_
              refine sg_y rfl rfl hb85 ?_
              refine s_v (o_ldp (.sl none 4 (List.map c_Snap p0.Snaps)) ld22 rfl (hp_get 0 hk67 rfl) rfl) ?_
              refine sg_y rfl rfl hb85 ?_
              refine s_v (o_mv (.sc (.int _ _)) rfl) ?_
              refine sg_y rfl rfl hb85 ?_
              obtain ⟨x86, hx87, hm⟩ := bind_of hm
              refine s_v (o_ix hx87 el22 rfl rfl) ?_
              refine sg_y rfl rfl hb85 ?_
              refine s_v (o_fl fd60_2 rfl rfl) ?_
              refine sg_y rfl rfl hb85 ?_
              refine s_v (o_ld (.sl none 4 (List.map c_Loc x86.Locs)) ld58 rfl rfl) ?_
              refine sg_y rfl rfl hb85 ?_
              refine s_v (o_lenm ln58 rfl) ?_
              refine sg_y rfl rfl hb85 ?_
              refine s_v (o_bi rfl rfl rfl trivial) ?_
              refine s_v (o_pkf (.sc (.bool _)) rfl hb85 rfl) ?_
              refine s_nil ?_
              cases hm
              exact ⟨rfl, (), hk67, LeF.fm (Sub.refl _) (.cons (ALe.refl _ _) (.cons (ALe.refl _ _) (.cons (ALe.refl _ _) (.nil))))⟩
          · rintro _ j80 fr' h' hk88 hm le
            refine H72 _ _ (le.aw ?_)
            clear le H72 K72
            refine AW_if' rfl (fun hc89 => ?_) (fun hc89 => ?_)
            · replace hm := ite_t hm hc89
              refine AW_k fun K90 H90 => ?_
              refine AW_reg ?_
              refine s_v (o_as (.sc (.bool _)) rfl) ?_
              refine s_nil ?_
              refine H90 _ _ ?_
              clear H90 K90
              refine AW_ret ?_
              cases hm
              refine ⟨⟨nofun, nofun⟩, fun he => ?_⟩
              subst he
              exact Ret.of1 (.inl rfl) (rsT _ _ (.sc (.bool _)) rfl) (hp_sub (List.nil_sublist _) hk88).1 (ALe.refl _ _) ⟨rfl, rfl⟩
            · replace hm := ite_f hm hc89
              refine AW_skip ?_
              refine H71 _ _ ?_
              clear H71 K71
              refine AW_reg ?_
              refine s_v (o_mv (.sc (.int _ _)) rfl) ?_
              refine s_v (o_bi rfl rfl rfl trivial) ?_
              refine s_v (o_as (.sc (.int _ _)) rfl) ?_
              refine s_nil ?_
              cases hm
              exact ⟨rfl, (), hk88, LeF.fm (Sub.refl _) (.cons (ALe.refl _ _) (.cons (ALe.refl _ _) (.nil)))⟩
        · replace hm := ite_f hm hc70
          refine AW_exit ?_
          refine Seq_exit ?_
          cases hm
          exact ⟨rfl, (), hk67, LeF.fm (Sub.refl _) (.cons (ALe.refl _ _) (.cons (ALe.refl _ _) (.nil)))⟩
      · rintro _ r91 fr' h' hk92 hm le
        refine H17 _ _ (le.aw ?_)
        clear le H17 K17
        refine AW_k fun K93 H93 => ?_
        refine AW_k fun K94 H94 => ?_
        refine AW_reg ?_
        refine s_v (o_as (.sc (.int _ _)) rfl) ?_
        refine s_nil ?_
        refine H94 _ _ ?_
        clear H94 K94
        refine AW_loopG (n := 92) hm (σ := Int) (τ := Unit) (fun g s => HOk h [(some k2, .obj 27 (c_Catalog p0))]) (fun g s => kp (kp (k0) 4 (.sc (.int .i64 s))) 1 (.ptr k2 0)) (fun g s => hp h [(some k2, .obj 27 (c_Catalog p0))]) () hk92 (LeF.fm (Sub.refl _) (.cons (ALe.refl _ _) (.cons (ALe.refl _ _) (.nil)))) ?_ ?_
        · rintro _ q134 x hk135 hm
          replace hm : M13_L2 fuel p0 q134 = some x := hm
          unfold M13_L2 at hm
          refine AW_k fun K136 H136 => ?_
          refine AW_k fun K137 H137 => ?_
          refine AW_reg ?_
          refine s_v (o_mv (.sc (.int _ _)) rfl) ?_
          refine s_v (o_flp fd27_2 rfl rfl) ?_
          refine s_v (o_ldp (.sl none 35 (List.map c_Chunk p0.Chunks)) ld23 rfl (hp_get 0 hk135 rfl) rfl) ?_
          refine s_v (o_lenm ln23 rfl) ?_
          refine s_v (o_bi rfl rfl rfl trivial) ?_
          refine s_nil ?_
          refine H137 _ _ ?_
          clear H137 K137
          refine AW_if' rfl (fun hc138 => ?_) (fun hc138 => ?_)
          · replace hm := ite_t hm hc138
            refine AW_skip ?_
            refine H136 _ _ ?_
            clear H136 K136
            refine AW_k fun K139 H139 => ?_
            refine AW_block ?_
            refine AW_k fun K140 H140 => ?_
            refine AW_joinG (n := 92) hm (σ := Bool) (τ := Unit) (fun g s => HOk h [(some k2, .obj 27 (c_Catalog p0))]) (fun g s => kp (kp (kp (k0) 76 (.sc (.bool s))) 4 (.sc (.int .i64 q134))) 1 (.ptr k2 0)) (fun g s => hp h [(some k2, .obj 27 (c_Catalog p0))]) (fun x hm => ?_) ?_
            · refine AW_reg ?_
              refine s_v (o_flp fd27_2 rfl rfl) ?_
              refine s_v (o_ldp (.sl none 35 (List.map c_Chunk p0.Chunks)) ld23 rfl (hp_get 0 hk135 rfl) rfl) ?_
              refine s_v (o_mv (.sc (.int _ _)) rfl) ?_
              obtain ⟨x147, hx148, hm⟩ := bind_of hm
              refine s_v (o_ix hx148 el23 rfl rfl) ?_
              refine s_v (o_fl fd63_2 rfl rfl) ?_
              refine s_v (o_ld (.sl none 1 (List.map c_u8 x147.Data)) ld52 rfl rfl) ?_
              refine s_v (o_lenm ln52 rfl) ?_
              refine s_v (o_bi rfl rfl rfl trivial) ?_
              refine s_v (o_mv (.sc (.bool _)) rfl) ?_
              rcases Bool.eq_false_or_eq_true (decide (300 < (x147.Data.length : Int))) with hb149 | hb149
              · replace hm := ite_t hm hb149
                refine sg_n rfl rfl hb149 ?_
                refine sg_n rfl rfl hb149 ?_
                refine sg_n rfl rfl hb149 ?_
                refine sg_n rfl rfl hb149 ?_
                refine sg_n rfl rfl hb149 ?_
                refine sg_n rfl rfl hb149 ?_
                refine sg_n rfl rfl hb149 ?_
                refine sg_n rfl rfl hb149 ?_
                refine s_v (o_pkt (.sc (.bool _)) rfl hb149 rfl) ?_
                refine s_nil ?_
                cases hm
                exact ⟨rfl, (), hk135, LeF.fm (Sub.refl _) (.cons (ALe.refl _ _) (.cons (ALe.refl _ _) (.cons (ALe.refl _ _) (.nil))))⟩
              · replace hm := ite_f hm hb149
                refine sg_y rfl rfl hb149 ?_
                refine s_v (o_flp fd27_2 rfl rfl) ?_
                refine sg_y rfl rfl hb149 ?_
                refine s_v (o_ldp (.sl none 35 (List.map c_Chunk p0.Chunks)) ld23 rfl (hp_get 0 hk135 rfl) rfl) ?_
                refine sg_y rfl rfl hb149 ?_
                refine s_v (o_mv (.sc (.int _ _)) rfl) ?_
                refine sg_y rfl rfl hb149 ?_
                obtain ⟨x150, hx151, hm⟩ := bind_of hm
                refine s_v (o_ix hx151 el23 rfl rfl) ?_
                refine sg_y rfl rfl hb149 ?_
                refine s_v (o_fl fd63_3 rfl rfl) ?_
                refine sg_y rfl rfl hb149 ?_
                refine s_v (o_ld (.sl none 4 (List.map c_Loc x150.Locs)) ld58 rfl rfl) ?_
                refine sg_y rfl rfl hb149 ?_
                refine s_v (o_lenm ln58 rfl) ?_
                refine sg_y rfl rfl hb149 ?_
                refine s_v (o_bi rfl rfl rfl trivial) ?_
                refine s_v (o_pkf (.sc (.bool _)) rfl hb149 rfl) ?_
                refine s_nil ?_
                cases hm
                exact ⟨rfl, (), hk135, LeF.fm (Sub.refl _) (.cons (ALe.refl _ _) (.cons (ALe.refl _ _) (.cons (ALe.refl _ _) (.nil))))⟩
            · rintro _ j146 fr' h' hk152 hm le
              refine H140 _ _ (le.aw ?_)
              clear le H140 K140
              refine AW_if' rfl (fun hc153 => ?_) (fun hc153 => ?_)
              · replace hm := ite_t hm hc153
                refine AW_k fun K154 H154 => ?_
                refine AW_reg ?_
                refine s_v (o_as (.sc (.bool _)) rfl) ?_
                refine s_nil ?_
                refine H154 _ _ ?_
                clear H154 K154
                refine AW_ret ?_
                cases hm
                refine ⟨⟨nofun, nofun⟩, fun he => ?_⟩
                subst he
                exact Ret.of1 (.inl rfl) (rsT _ _ (.sc (.bool _)) rfl) (hp_sub (List.nil_sublist _) hk152).1 (ALe.refl _ _) ⟨rfl, rfl⟩
              · replace hm := ite_f hm hc153
                refine AW_skip ?_
                refine H139 _ _ ?_
                clear H139 K139
                refine AW_reg ?_
                refine s_v (o_mv (.sc (.int _ _)) rfl) ?_
                refine s_v (o_bi rfl rfl rfl trivial) ?_
                refine s_v (o_as (.sc (.int _ _)) rfl) ?_
                refine s_nil ?_
                cases hm
                exact ⟨rfl, (), hk152, LeF.fm (Sub.refl _) (.cons (ALe.refl _ _) (.cons (ALe.refl _ _) (.nil)))⟩
          · replace hm := ite_f hm hc138
            refine AW_exit ?_
            refine Seq_exit ?_
            cases hm
            exact ⟨rfl, (), hk135, LeF.fm (Sub.refl _) (.cons (ALe.refl _ _) (.cons (ALe.refl _ _) (.nil)))⟩
        · rintro _ r155 fr' h' hk156 hm le
          refine H93 _ _ (le.aw ?_)
          clear le H93 K93
          refine AW_k fun K157 H157 => ?_
          refine AW_k fun K158 H158 => ?_
          refine AW_reg ?_
          refine s_v (o_as (.sc (.int _ _)) rfl) ?_
          refine s_nil ?_
          refine H158 _ _ ?_
          clear H158 K158
          refine AW_loopG (n := 92) hm (σ := Int) (τ := Unit) (fun g s => HOk h [(some k2, .obj 27 (c_Catalog p0))]) (fun g s => kp (kp (k0) 5 (.sc (.int .i64 s))) 1 (.ptr k2 0)) (fun g s => hp h [(some k2, .obj 27 (c_Catalog p0))]) () hk156 (LeF.fm (Sub.refl _) (.cons (ALe.refl _ _) (.cons (ALe.refl _ _) (.nil)))) ?_ ?_
          · rintro _ q178 x hk179 hm
            replace hm : M13_L4 fuel p0 q178 = some x := hm
            unfold M13_L4 at hm
            refine AW_k fun K180 H180 => ?_
            refine AW_k fun K181 H181 => ?_
            refine AW_reg ?_
            refine s_v (o_mv (.sc (.int _ _)) rfl) ?_
            refine s_v (o_flp fd27_3 rfl rfl) ?_
            refine s_v (o_ldp (.sl none 3 (List.map c_Exp p0.Exps)) ld24 rfl (hp_get 0 hk179 rfl) rfl) ?_
            refine s_v (o_lenm ln24 rfl) ?_
            refine s_v (o_bi rfl rfl rfl trivial) ?_
            refine s_nil ?_
            refine H181 _ _ ?_
            clear H181 K181
            refine AW_if' rfl (fun hc182 => ?_) (fun hc182 => ?_)
            · replace hm := ite_t hm hc182
              refine AW_skip ?_
              refine H180 _ _ ?_
              clear H180 K180
              refine AW_k fun K183 H183 => ?_
              refine AW_block ?_
              refine AW_k fun K184 H184 => ?_
              refine AW_reg ?_
              refine s_v (o_flp fd27_3 rfl rfl) ?_
              refine s_v (o_ldp (.sl none 3 (List.map c_Exp p0.Exps)) ld24 rfl (hp_get 0 hk179 rfl) rfl) ?_
              refine s_v (o_mv (.sc (.int _ _)) rfl) ?_
              obtain ⟨x185, hx186, hm⟩ := bind_of hm
              refine s_v (o_ix hx186 el24 rfl rfl) ?_
              refine s_v (o_fl fd65_2 rfl rfl) ?_
              refine s_v (o_ld (.sl none 4 (List.map c_Loc x185.Locs)) ld58 rfl rfl) ?_
              refine s_v (o_lenm ln58 rfl) ?_
              refine s_v (o_bi rfl rfl rfl trivial) ?_
              refine s_nil ?_
              refine H184 _ _ ?_
              clear H184 K184
              refine AW_if' rfl (fun hc187 => ?_) (fun hc187 => ?_)
              · replace hm := ite_t hm hc187
                refine AW_k fun K188 H188 => ?_
                refine AW_reg ?_
                refine s_v (o_as (.sc (.bool _)) rfl) ?_
                refine s_nil ?_
                refine H188 _ _ ?_
                clear H188 K188
                refine AW_ret ?_
                cases hm
                refine ⟨⟨nofun, nofun⟩, fun he => ?_⟩
                subst he
                exact Ret.of1 (.inl rfl) (rsT _ _ (.sc (.bool _)) rfl) (hp_sub (List.nil_sublist _) hk179).1 (ALe.refl _ _) ⟨rfl, rfl⟩
              · replace hm := ite_f hm hc187
                refine AW_skip ?_
                refine H183 _ _ ?_
                clear H183 K183
                refine AW_reg ?_
                refine s_v (o_mv (.sc (.int _ _)) rfl) ?_
                refine s_v (o_bi rfl rfl rfl trivial) ?_
                refine s_v (o_as (.sc (.int _ _)) rfl) ?_
                refine s_nil ?_
                cases hm
                exact ⟨rfl, (), hk179, LeF.fm (Sub.refl _) (.cons (ALe.refl _ _) (.cons (ALe.refl _ _) (.nil)))⟩
            · replace hm := ite_f hm hc182
              refine AW_exit ?_
              refine Seq_exit ?_
              cases hm
              exact ⟨rfl, (), hk179, LeF.fm (Sub.refl _) (.cons (ALe.refl _ _) (.cons (ALe.refl _ _) (.nil)))⟩
          · rintro _ r189 fr' h' hk190 hm le
            refine H157 _ _ (le.aw ?_)
            clear le H157 K157
            refine AW_k fun K191 H191 => ?_
            refine AW_reg ?_
            refine s_v (o_as (.sc (.bool _)) rfl) ?_
            refine s_nil ?_
            refine H191 _ _ ?_
            clear H191 K191
            refine AW_ret ?_
            cases hm
            exact Ret.of1 (.inl rfl) (rsT _ _ (.sc (.bool _)) rfl) (hp_sub (List.nil_sublist _) hk190).1 (ALe.refl _ _) ⟨rfl, rfl⟩
theorem bd13 : bodied Try.prog 13 = true := by kernel_rfl
end Go.Proofs.Ytoomgangpjcaoaa
