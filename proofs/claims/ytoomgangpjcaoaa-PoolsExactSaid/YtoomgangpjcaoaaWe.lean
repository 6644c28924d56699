import Derived.Test.YtoomgangpjcaoaaWd
set_option linter.unusedSimpArgs false
set_option linter.unusedVariables false
namespace Go.Proofs.Ytoomgangpjcaoaa
open Go.Vm
def M124_L0 (fuel : Nat) (p0 : List TPart) (p1 : TPart → Option Bool) (q29 : Int) : Option (Lp (Int) (Int)) :=
  if (decide (q29 < (p0.length : Int))) = true then ((ix p0 q29).bind fun x37 => (p1 x37).bind fun y39 => if y39 = true then (some (.ret q29)) else some (.go (IntKind.wrap .i64 (q29 + 1)))) else some (.brk q29)
def M124 (fuel : Nat) (p0 : List TPart) (p1 : TPart → Option Bool) : Option (Int) :=
  after (loopM (fun s => M124_L0 fuel p0 p1 s) fuel 0) fun r43 => some (-1)
set_option maxRecDepth 100000 in
/-- slices.IndexFunc(()cellarer/api.Part,cellarer/api.Part) -/
theorem W124 {fuel : Nat} {p0 : List TPart} {p1 : TPart → Option Bool} {o : Int} (h : Heap) {p1F : Nat} {p1C : List AV} (p1B : bodied Try.prog p1F = true) (p1H : ∀ x0 o h0, Sub h h0 → p1 x0 = some o → ACalls Try.prog p1F ([.agg (c_Part x0)] ++ p1C) h0 (fun r h' => r = .sc (.bool o) ∧ h' = h0)) (hm : M124 fuel p0 p1 = some o) :
    ACalls Try.prog 124 [.sl none 3 (List.map c_Part p0), .fn (.func p1F) p1C] h (fun r h' => r = .sc (.int .i64 o) ∧ h' = h) := by
  refine ACalls_hp 19 [.tmp 4] Try.func124 rfl rfl rfl rfl ?_
  unfold M124 at hm
  refine AW_k fun K1 H1 => ?_
  refine AW_reg ?_
  refine s_v (o_as (.sc (.int _ _)) rfl) ?_
  refine s_nil ?_
  refine H1 _ _ ?_
  clear H1 K1
  refine AW_k fun K2 H2 => ?_
  refine AW_k fun K3 H3 => ?_
  refine AW_reg ?_
  refine s_v (o_mv (.sl _ _ _) rfl) ?_
  refine s_v (o_lenm ln55 rfl) ?_
  refine s_v (o_mv (.sc (.int _ _)) rfl) ?_
  refine s_nil ?_
  refine H3 _ _ ?_
  clear H3 K3
  refine AW_loopG (n := 19) hm (σ := Int) (τ := Unit) (fun g s => HOk h []) (fun g s => kp (kp (kp (kp (k0) 8 (.sc (.int .i64 s))) 7 (.sc (.int .i64 (p0.length : Int)))) 1 (.fn (.func p1F) p1C)) 0 (.sl none 3 (List.map c_Part p0))) (fun g s => hp h []) () (HOk.nil _) (LeF.fm (Sub.refl _) (.cons (ALe.refl _ _) (.cons (ALe.refl _ _) (.cons (ALe.refl _ _) (.cons (ALe.refl _ _) (.nil)))))) ?_ ?_
  · rintro _ q29 x hk30 hm
    replace hm : M124_L0 fuel p0 p1 q29 = some x := hm
    unfold M124_L0 at hm
    refine AW_k fun K31 H31 => ?_
    refine AW_reg ?_
    refine s_v (o_bi rfl rfl rfl trivial) ?_
    refine s_nil ?_
    refine H31 _ _ ?_
    clear H31 K31
    refine AW_k fun K32 H32 => ?_
    refine AW_if' rfl (fun hc33 => ?_) (fun hc33 => ?_)
    · replace hm := ite_t hm hc33
      refine AW_skip ?_
      refine H32 _ _ ?_
      clear H32 K32
      refine AW_k fun K34 H34 => ?_
      refine AW_block ?_
      refine AW_k fun K35 H35 => ?_
      refine AW_reg ?_
      refine s_v (o_mv (.sc (.int _ _)) rfl) ?_
      refine s_v (o_as (.sc (.int _ _)) rfl) ?_
      refine s_nil ?_
      refine H35 _ _ ?_
      clear H35 K35
      refine AW_k fun K36 H36 => ?_
      refine AW_reg ?_
      refine s_v (o_mv (.fn _ _) rfl) ?_
      refine s_v (o_mv (.sl _ _ _) rfl) ?_
      refine s_v (o_mv (.sc (.int _ _)) rfl) ?_
      obtain ⟨x37, hx38, hm⟩ := bind_of hm
      refine s_v (o_ix hx38 el55 rfl rfl) ?_
      refine s_v (o_ld (.agg (c_Part x37)) ld82 rfl rfl) ?_
      obtain ⟨y39, hy40, hm⟩ := bind_of hm
      refine s_v (o_call (p1H _ _ _ (hp_sub (List.nil_sublist _) hk30).1 hy40) rfl p1B rfl) ?_
      refine s_nil ?_
      refine H36 _ _ ?_
      clear H36 K36
      refine AW_if' rfl (fun hc41 => ?_) (fun hc41 => ?_)
      · replace hm := ite_t hm hc41
        refine AW_k fun K42 H42 => ?_
        refine AW_reg ?_
        refine s_v (o_mv (.sc (.int _ _)) rfl) ?_
        refine s_v (o_as (.sc (.int _ _)) rfl) ?_
        refine s_nil ?_
        refine H42 _ _ ?_
        clear H42 K42
        refine AW_ret ?_
        cases hm
        refine ⟨⟨nofun, nofun⟩, fun he => ?_⟩
        subst he
        exact Ret.of1 (.inl rfl) (rsT _ _ (.sc (.int _ _)) rfl) (Sub.refl _) (ALe.refl _ _) ⟨rfl, rfl⟩
      · replace hm := ite_f hm hc41
        refine AW_skip ?_
        refine H34 _ _ ?_
        clear H34 K34
        refine AW_reg ?_
        refine s_v (o_bi rfl rfl rfl trivial) ?_
        refine s_v (o_mv (.sc (.int _ _)) rfl) ?_
        refine s_nil ?_
        cases hm
        exact ⟨rfl, (), hk30, LeF.fm (Sub.refl _) (.cons (ALe.refl _ _) (.cons (ALe.refl _ _) (.cons (ALe.refl _ _) (.cons (ALe.refl _ _) (.nil)))))⟩
    · replace hm := ite_f hm hc33
      refine AW_exit ?_
      refine Seq_exit ?_
      cases hm
      exact ⟨rfl, (), hk30, LeF.fm (Sub.refl _) (.cons (ALe.refl _ _) (.cons (ALe.refl _ _) (.cons (ALe.refl _ _) (.cons (ALe.refl _ _) (.nil)))))⟩
  · rintro _ r43 fr' h' hk44 hm le
    refine H2 _ _ (le.aw ?_)
    clear le H2 K2
    refine AW_k fun K45 H45 => ?_
    refine AW_reg ?_
    refine s_v (o_as (.sc (.int _ _)) rfl) ?_
    refine s_nil ?_
    refine H45 _ _ ?_
    clear H45 K45
    refine AW_ret ?_
    cases hm
    exact Ret.of1 (.inl rfl) (rsT _ _ (.sc (.int _ _)) rfl) (Sub.refl _) (ALe.refl _ _) ⟨rfl, rfl⟩
theorem bd124 : bodied Try.prog 124 = true := by kernel_rfl
def M91 (fuel : Nat) (p0 : List TPart) (p1 : TPart → Option Bool) : Option (Bool) :=
  (M124 fuel p0 p1).bind fun y3 => some (decide (0 ≤ y3))
set_option maxRecDepth 100000 in
/-- slices.ContainsFunc(()cellarer/api.Part,cellarer/api.Part) -/
theorem W91 {fuel : Nat} {p0 : List TPart} {p1 : TPart → Option Bool} {o : Bool} (h : Heap) {p1F : Nat} {p1C : List AV} (p1B : bodied Try.prog p1F = true) (p1H : ∀ x0 o h0, Sub h h0 → p1 x0 = some o → ACalls Try.prog p1F ([.agg (c_Part x0)] ++ p1C) h0 (fun r h' => r = .sc (.bool o) ∧ h' = h0)) (hm : M91 fuel p0 p1 = some o) :
    ACalls Try.prog 91 [.sl none 3 (List.map c_Part p0), .fn (.func p1F) p1C] h (fun r h' => r = .sc (.bool o) ∧ h' = h) := by
  refine ACalls_hp 9 [.tmp 4] Try.func91 rfl rfl rfl rfl ?_
  unfold M91 at hm
  refine AW_k fun K1 H1 => ?_
  refine AW_reg ?_
  refine s_v (o_as (.sc (.bool _)) rfl) ?_
  refine s_nil ?_
  refine H1 _ _ ?_
  clear H1 K1
  refine AW_k fun K2 H2 => ?_
  refine AW_reg ?_
  refine s_v (o_mv (.sl _ _ _) rfl) ?_
  refine s_v (o_mv (.fn _ _) rfl) ?_
  obtain ⟨y3, hy4, hm⟩ := bind_of hm
  refine s_v (o_call (W124 _ p1B (fun x0 o h0 hs ho => p1H x0 o h0 ((hp_sub (List.nil_sublist _) (HOk.nil _)).1.trans hs) ho) hy4) rfl bd124 rfl) ?_
  refine s_v (o_bi rfl rfl rfl trivial) ?_
  refine s_v (o_as (.sc (.bool _)) rfl) ?_
  refine s_nil ?_
  refine H2 _ _ ?_
  clear H2 K2
  refine AW_ret ?_
  cases hm
  exact Ret.of1 (.inl rfl) (rsT _ _ (.sc (.bool _)) rfl) (Sub.refl _) (ALe.refl _ _) ⟨rfl, rfl⟩
theorem bd91 : bodied Try.prog 91 = true := by kernel_rfl
def M125_L0 (fuel : Nat) (p0 : List Id32) (p1 : Id32) (q28 : Int) : Option (Lp (Int) (Int)) :=
  if (decide (q28 < (p0.length : Int))) = true then ((ix p0 q28).bind fun x36 => if (decide (p1 = x36)) = true then (some (.ret q28)) else some (.go (IntKind.wrap .i64 (q28 + 1)))) else some (.brk q28)
def M125 (fuel : Nat) (p0 : List Id32) (p1 : Id32) : Option (Int) :=
  after (loopM (fun s => M125_L0 fuel p0 p1 s) fuel 0) fun r40 => some (-1)
set_option maxRecDepth 100000 in
/-- slices.Index(()(32)byte,(32)byte) -/
theorem W125 {fuel : Nat} {p0 : List Id32} {p1 : Id32} {o : Int} (h : Heap) (hm : M125 fuel p0 p1 = some o) :
    ACalls Try.prog 125 [.sl none 32 (List.map c_id p0), .agg (c_id p1)] h (fun r h' => r = .sc (.int .i64 o) ∧ h' = h) := by
  refine ACalls_hp 19 [.tmp 4] Try.func125 rfl rfl rfl rfl ?_
  unfold M125 at hm
  refine AW_k fun K1 H1 => ?_
  refine AW_reg ?_
  refine s_op (a_box (HOk.nil _) rfl rfl fun k2 hk3 => ?_)
  refine s_v (o_as (.sc (.int _ _)) rfl) ?_
  refine s_nil ?_
  refine H1 _ _ ?_
  clear H1 K1
  refine AW_k fun K5 H5 => ?_
  refine AW_k fun K6 H6 => ?_
  refine AW_reg ?_
  refine s_v (o_mv (.sl _ _ _) rfl) ?_
  refine s_v (o_lenm ln80 rfl) ?_
  refine s_v (o_mv (.sc (.int _ _)) rfl) ?_
  refine s_nil ?_
  refine H6 _ _ ?_
  clear H6 K6
  refine AW_loopG (n := 19) hm (σ := Int) (τ := Unit) (fun g s => HOk h [(some k2, .obj 61 (c_id p1))]) (fun g s => kp (kp (kp (kp (k0) 8 (.sc (.int .i64 s))) 7 (.sc (.int .i64 (p0.length : Int)))) 3 (.ptr k2 0)) 0 (.sl none 32 (List.map c_id p0))) (fun g s => hp h [(some k2, .obj 61 (c_id p1))]) () hk3 (LeF.fm (Sub.refl _) (.cons (ALe.refl _ _) (.cons (ALe.refl _ _) (.cons (ALe.refl _ _) (.cons (ALe.refl _ _) (.nil)))))) ?_ ?_
  · rintro _ q28 x hk29 hm
    replace hm : M125_L0 fuel p0 p1 q28 = some x := hm
    unfold M125_L0 at hm
    refine AW_k fun K30 H30 => ?_
    refine AW_reg ?_
    refine s_v (o_bi rfl rfl rfl trivial) ?_
    refine s_nil ?_
    refine H30 _ _ ?_
    clear H30 K30
    refine AW_k fun K31 H31 => ?_
    refine AW_if' rfl (fun hc32 => ?_) (fun hc32 => ?_)
    · replace hm := ite_t hm hc32
      refine AW_skip ?_
      refine H31 _ _ ?_
      clear H31 K31
      refine AW_k fun K33 H33 => ?_
      refine AW_block ?_
      refine AW_k fun K34 H34 => ?_
      refine AW_reg ?_
      refine s_v (o_mv (.sc (.int _ _)) rfl) ?_
      refine s_v (o_as (.sc (.int _ _)) rfl) ?_
      refine s_nil ?_
      refine H34 _ _ ?_
      clear H34 K34
      refine AW_k fun K35 H35 => ?_
      refine AW_region_q [(some 11, [3], []), (some 12, [0], []), (some 13, [5], []), (some 14, [12, 13], [1, 2]), (some 15, [14], [3]), (some 16, [11, 15], [0, 4])] mixed (by kernel_rfl) (by kernel_rfl) ?_
      refine q_v (o_ldp (.agg (c_id p1)) ld61 rfl (hp_get 0 hk29 rfl) rfl) ?_
      refine q_v (o_mv (.sl _ _ _) rfl) ?_
      refine q_v (o_mv (.sc (.int _ _)) rfl) ?_
      obtain ⟨x36, hx37, hm⟩ := bind_of hm
      refine q_v (o_ix hx37 el80 rfl rfl) ?_
      refine q_v (o_ld (.agg (c_id x36)) ld61 rfl rfl) ?_
      refine q_v (o_ide eg61 u61 u5 ld5 rfl rfl) ?_
      refine q_nil ?_
      refine H35 _ _ ?_
      clear H35 K35
      refine AW_if' rfl (fun hc38 => ?_) (fun hc38 => ?_)
      · replace hm := ite_t hm hc38
        refine AW_k fun K39 H39 => ?_
        refine AW_reg ?_
        refine s_v (o_mv (.sc (.int _ _)) rfl) ?_
        refine s_v (o_as (.sc (.int _ _)) rfl) ?_
        refine s_nil ?_
        refine H39 _ _ ?_
        clear H39 K39
        refine AW_ret ?_
        cases hm
        refine ⟨⟨nofun, nofun⟩, fun he => ?_⟩
        subst he
        exact Ret.of1 (.inl rfl) (rsT _ _ (.sc (.int _ _)) rfl) (hp_sub (List.nil_sublist _) hk29).1 (ALe.refl _ _) ⟨rfl, rfl⟩
      · replace hm := ite_f hm hc38
        refine AW_skip ?_
        refine H33 _ _ ?_
        clear H33 K33
        refine AW_reg ?_
        refine s_v (o_bi rfl rfl rfl trivial) ?_
        refine s_v (o_mv (.sc (.int _ _)) rfl) ?_
        refine s_nil ?_
        cases hm
        exact ⟨rfl, (), hk29, LeF.fm (Sub.refl _) (.cons (ALe.refl _ _) (.cons (ALe.refl _ _) (.cons (ALe.refl _ _) (.cons (ALe.refl _ _) (.nil)))))⟩
    · replace hm := ite_f hm hc32
      refine AW_exit ?_
      refine Seq_exit ?_
      cases hm
      exact ⟨rfl, (), hk29, LeF.fm (Sub.refl _) (.cons (ALe.refl _ _) (.cons (ALe.refl _ _) (.cons (ALe.refl _ _) (.cons (ALe.refl _ _) (.nil)))))⟩
  · rintro _ r40 fr' h' hk41 hm le
    refine H5 _ _ (le.aw ?_)
    clear le H5 K5
    refine AW_k fun K42 H42 => ?_
    refine AW_reg ?_
    refine s_v (o_as (.sc (.int _ _)) rfl) ?_
    refine s_nil ?_
    refine H42 _ _ ?_
    clear H42 K42
    refine AW_ret ?_
    cases hm
    exact Ret.of1 (.inl rfl) (rsT _ _ (.sc (.int _ _)) rfl) (hp_sub (List.nil_sublist _) hk41).1 (ALe.refl _ _) ⟨rfl, rfl⟩
theorem bd125 : bodied Try.prog 125 = true := by kernel_rfl
def M93 (fuel : Nat) (p0 : List Id32) (p1 : Id32) : Option (Bool) :=
  (M125 fuel p0 p1).bind fun y6 => some (decide (0 ≤ y6))
set_option maxRecDepth 100000 in
/-- slices.Contains(()(32)byte,(32)byte) -/
theorem W93 {fuel : Nat} {p0 : List Id32} {p1 : Id32} {o : Bool} (h : Heap) (hm : M93 fuel p0 p1 = some o) :
    ACalls Try.prog 93 [.sl none 32 (List.map c_id p0), .agg (c_id p1)] h (fun r h' => r = .sc (.bool o) ∧ h' = h) := by
  refine ACalls_hp 9 [.tmp 4] Try.func93 rfl rfl rfl rfl ?_
  unfold M93 at hm
  refine AW_k fun K1 H1 => ?_
  refine AW_reg ?_
  refine s_op (a_box (HOk.nil _) rfl rfl fun k2 hk3 => ?_)
  refine s_v (o_as (.sc (.bool _)) rfl) ?_
  refine s_nil ?_
  refine H1 _ _ ?_
  clear H1 K1
  refine AW_k fun K5 H5 => ?_
  refine AW_reg ?_
  refine s_v (o_mv (.sl _ _ _) rfl) ?_
  refine s_v (o_ldp (.agg (c_id p1)) ld61 rfl (hp_get 0 hk3 rfl) rfl) ?_
  obtain ⟨y6, hy7, hm⟩ := bind_of hm
  refine s_v (o_call (W125 _ hy7) rfl bd125 rfl) ?_
  refine s_v (o_bi rfl rfl rfl trivial) ?_
  refine s_v (o_as (.sc (.bool _)) rfl) ?_
  refine s_nil ?_
  refine H5 _ _ ?_
  clear H5 K5
  refine AW_ret ?_
  cases hm
  exact Ret.of1 (.inl rfl) (rsT _ _ (.sc (.bool _)) rfl) (hp_sub (List.nil_sublist _) hk3).1 (ALe.refl _ _) ⟨rfl, rfl⟩
theorem bd93 : bodied Try.prog 93 = true := by kernel_rfl
def M92 (fuel : Nat) (p0 : TPart) (c0 : Id32) : Option (Bool) :=
  (M93 fuel p0.Ids c0).bind fun y6 => some y6
set_option maxRecDepth 100000 in
/-- cellarer/catalog.Used$1$1 -/
theorem W92 {fuel : Nat} {p0 : TPart} {c0 : Id32} {o : Bool} (h : Heap) {c0K : Key} (c0H : h c0K = some (.obj 61 (c_id c0))) (hm : M92 fuel p0 c0 = some o) :
    ACalls Try.prog 92 [.agg (c_Part p0), .ptr c0K 0] h (fun r h' => r = .sc (.bool o) ∧ h' = h) := by
  refine ACalls_hp 8 [.tmp 3] Try.func92 rfl rfl rfl rfl ?_
  unfold M92 at hm
  refine AW_k fun K1 H1 => ?_
  refine AW_reg ?_
  refine s_op (a_box (HOk.nil _) rfl rfl fun k2 hk3 => ?_)
  refine s_v (o_as (.sc (.bool _)) rfl) ?_
  refine s_nil ?_
  refine H1 _ _ ?_
  clear H1 K1
  refine AW_k fun K5 H5 => ?_
  refine AW_reg ?_
  refine s_v (o_flp fd82_2 rfl rfl) ?_
  refine s_v (o_ldp (.sl none 32 (List.map c_id p0.Ids)) ld80 rfl (hp_get 0 hk3 rfl) rfl) ?_
  refine s_v (o_ldp (.agg (c_id c0)) ld61 rfl (hp_base hk3 c0H) rfl) ?_
  obtain ⟨y6, hy7, hm⟩ := bind_of hm
  refine s_v (o_call (W93 _ hy7) rfl bd93 rfl) ?_
  refine s_v (o_as (.sc (.bool _)) rfl) ?_
  refine s_nil ?_
  refine H5 _ _ ?_
  clear H5 K5
  refine AW_ret ?_
  cases hm
  exact Ret.of1 (.inl rfl) (rsT _ _ (.sc (.bool _)) rfl) (hp_sub (List.nil_sublist _) hk3).1 (ALe.refl _ _) ⟨rfl, rfl⟩
theorem bd92 : bodied Try.prog 92 = true := by kernel_rfl
def M90 (fuel : Nat) (p0 : TSnap) (c0 : Id32) : Option (Bool) :=
  (M91 fuel p0.Man.Parts (fun x0 => M92 fuel x0 c0)).bind fun y6 => some y6
set_option maxRecDepth 100000 in
/-- cellarer/catalog.Used$1 -/
theorem W90 {fuel : Nat} {p0 : TSnap} {c0 : Id32} {o : Bool} (h : Heap) {c0K : Key} (c0H : h c0K = some (.obj 61 (c_id c0))) (hm : M90 fuel p0 c0 = some o) :
    ACalls Try.prog 90 [.agg (c_Snap p0), .ptr c0K 0] h (fun r h' => r = .sc (.bool o) ∧ h' = h) := by
  refine ACalls_hp 9 [.tmp 3] Try.func90 rfl rfl rfl rfl ?_
  unfold M90 at hm
  refine AW_k fun K1 H1 => ?_
  refine AW_reg ?_
  refine s_op (a_box (HOk.nil _) rfl rfl fun k2 hk3 => ?_)
  refine s_v (o_as (.sc (.bool _)) rfl) ?_
  refine s_nil ?_
  refine H1 _ _ ?_
  clear H1 K1
  refine AW_k fun K5 H5 => ?_
  refine AW_reg ?_
  refine s_v (o_flp fd60_1 rfl rfl) ?_
  refine s_v (o_flp fd57_1 rfl rfl) ?_
  refine s_v (o_ldp (.sl none 3 (List.map c_Part p0.Man.Parts)) ld55 rfl (hp_get 0 hk3 rfl) rfl) ?_
  refine s_v (o_mf rfl) ?_
  obtain ⟨y6, hy7, hm⟩ := bind_of hm
  refine s_v (o_call (W91 _ bd92 (fun x0 o h0 hs ho => W92 _ (hs _ _ (hp_base hk3 c0H)) ho) hy7) rfl bd91 rfl) ?_
  refine s_v (o_as (.sc (.bool _)) rfl) ?_
  refine s_nil ?_
  refine H5 _ _ ?_
  clear H5 K5
  refine AW_ret ?_
  cases hm
  exact Ret.of1 (.inl rfl) (rsT _ _ (.sc (.bool _)) rfl) (hp_sub (List.nil_sublist _) hk3).1 (ALe.refl _ _) ⟨rfl, rfl⟩
theorem bd90 : bodied Try.prog 90 = true := by kernel_rfl
def M44 (fuel : Nat) (p0 : TCatalog) (p1 : Id32) : Option (Bool) :=
  (M89 fuel p0.Snaps (fun x0 => M90 fuel x0 p1)).bind fun y9 => some y9
set_option maxRecDepth 100000 in
/-- cellarer/catalog.Used -/
theorem W44 {fuel : Nat} {p0 : TCatalog} {p1 : Id32} {o : Bool} (h : Heap) (hm : M44 fuel p0 p1 = some o) :
    ACalls Try.prog 44 [.agg (c_Catalog p0), .agg (c_id p1)] h (fun r h' => r = .sc (.bool o) ∧ h' = h) := by
  refine ACalls_hp 9 [.tmp 4] Try.func44 rfl rfl rfl rfl ?_
  unfold M44 at hm
  refine AW_k fun K1 H1 => ?_
  refine AW_reg ?_
  refine s_op (a_box (HOk.nil _) rfl rfl fun k2 hk3 => ?_)
  refine s_op (a_box hk3 rfl rfl fun k5 hk6 => ?_)
  refine s_v (o_as (.sc (.bool _)) rfl) ?_
  refine s_nil ?_
  refine H1 _ _ ?_
  clear H1 K1
  refine AW_k fun K8 H8 => ?_
  refine AW_reg ?_
  refine s_v (o_flp fd27_1 rfl rfl) ?_
  refine s_v (o_ldp (.sl none 4 (List.map c_Snap p0.Snaps)) ld22 rfl (hp_get 1 hk6 rfl) rfl) ?_
  refine s_v (o_mf rfl) ?_
  obtain ⟨y9, hy10, hm⟩ := bind_of hm
  refine s_v (o_call (W89 _ bd90 (fun x0 o h0 hs ho => W90 _ (hs _ _ (hp_get 0 hk6 rfl)) ho) hy10) rfl bd89 rfl) ?_
  refine s_v (o_as (.sc (.bool _)) rfl) ?_
  refine s_nil ?_
  refine H8 _ _ ?_
  clear H8 K8
  refine AW_ret ?_
  cases hm
  exact Ret.of1 (.inl rfl) (rsT _ _ (.sc (.bool _)) rfl) (hp_sub (List.nil_sublist _) hk6).1 (ALe.refl _ _) ⟨rfl, rfl⟩
theorem bd44 : bodied Try.prog 44 = true := by kernel_rfl
def M78_L0 (fuel : Nat) (p0 : TCatalog) (p1 : (List TLoc) → Bool → Option Bool) (q117 : List TItem) (q120 : Int) : Option (Lp ((List TItem) × Int) ((List TItem))) :=
  if (decide (q120 < (p0.Chunks.length : Int))) = true then ((ix p0.Chunks q120).bind fun x127 => (M44 fuel p0 x127.Id).bind fun y134 => (p1 x127.Locs y134).bind fun y136 => after (if y136 = true then ((app q117 ([({ Kind := 1, Id := x127.Id, Seq := 0, Of := 0, Off := 0, Len := 0 } : TItem)] : List TItem)).bind fun z148 => some (.brk z148)) else some (.brk q117) : Option (Lp ((List TItem)) (Lp ((List TItem) × Int) ((List TItem))))) fun j144 => some (.go (j144, IntKind.wrap .i64 (q120 + 1)))) else some (.brk (q117, q120))
def M78_L2 (fuel : Nat) (p0 : TCatalog) (p1 : (List TLoc) → Bool → Option Bool) (q225 : List TItem) (q228 : Int) : Option (Lp ((List TItem) × Int) ((List TItem))) :=
  if (decide (q228 < (p0.Snaps.length : Int))) = true then ((ix p0.Snaps q228).bind fun x235 => (p1 x235.Locs true).bind fun y242 => after (if y242 = true then ((app q225 ([({ Kind := 2, Id := idZ, Seq := x235.Seq, Of := 0, Off := 0, Len := 0 } : TItem)] : List TItem)).bind fun z254 => some (.brk z254)) else some (.brk q225) : Option (Lp ((List TItem)) (Lp ((List TItem) × Int) ((List TItem))))) fun j250 => some (.go (j250, IntKind.wrap .i64 (q228 + 1)))) else some (.brk (q225, q228))
def M78_L4 (fuel : Nat) (p0 : TCatalog) (p1 : (List TLoc) → Bool → Option Bool) (q331 : List TItem) (q334 : Int) : Option (Lp ((List TItem) × Int) ((List TItem))) :=
  if (decide (q334 < (p0.Exps.length : Int))) = true then ((ix p0.Exps q334).bind fun x341 => (p1 x341.Locs true).bind fun y348 => after (if y348 = true then ((app q331 ([({ Kind := 3, Id := idZ, Seq := x341.Seq, Of := x341.Of, Off := 0, Len := 0 } : TItem)] : List TItem)).bind fun z360 => some (.brk z360)) else some (.brk q331) : Option (Lp ((List TItem)) (Lp ((List TItem) × Int) ((List TItem))))) fun j356 => some (.go (j356, IntKind.wrap .i64 (q334 + 1)))) else some (.brk (q331, q334))
def M78 (fuel : Nat) (p0 : TCatalog) (p1 : (List TLoc) → Bool → Option Bool) : Option ((List TItem)) :=
  after (loopM (fun s => M78_L0 fuel p0 p1 s.1 s.2) fuel ([], 0)) fun ⟨r154, r155⟩ => after (loopM (fun s => M78_L2 fuel p0 p1 s.1 s.2) fuel (r154, 0)) fun ⟨r260, r261⟩ => after (loopM (fun s => M78_L4 fuel p0 p1 s.1 s.2) fuel (r260, 0)) fun ⟨r366, r367⟩ => some r366
set_option maxRecDepth 100000 in
/-- cellarer/stage.all -/
theorem W78 {fuel : Nat} {p0 : TCatalog} {p1 : (List TLoc) → Bool → Option Bool} {o : (List TItem)} (h : Heap) {p1F : Nat} {p1C : List AV} (p1B : bodied Try.prog p1F = true) (p1H : ∀ x0 x1 o h0, Sub h h0 → p1 x0 x1 = some o → ACalls Try.prog p1F ([.sl none 4 (List.map c_Loc x0), .sc (.bool x1)] ++ p1C) h0 (fun r h' => r = .sc (.bool o) ∧ h' = h0)) (hm : M78 fuel p0 p1 = some o) :
    ACalls Try.prog 78 [.agg (c_Catalog p0), .fn (.func p1F) p1C] h (fun r h' => r = .sl none 37 (List.map c_Item o) ∧ h' = h) := by
  refine ACalls_hp 73 [.tmp 4] Try.func78 rfl rfl rfl rfl ?_
  unfold M78 at hm
  refine AW_k fun K1 H1 => ?_
  refine AW_reg ?_
  refine s_op (a_box (HOk.nil _) rfl rfl fun k2 hk3 => ?_)
  refine s_v (o_as (.sc (.slice _ _ _)) rfl) ?_
  refine s_nil ?_
  refine H1 _ _ ?_
  clear H1 K1
  refine AW_k fun K5 H5 => ?_
  refine AW_reg ?_
  refine s_v (o_as (.sc (.slice _ _ _)) rfl) ?_
  refine s_nil ?_
  refine H5 _ _ ?_
  clear H5 K5
  refine AW_k fun K6 H6 => ?_
  refine AW_k fun K7 H7 => ?_
  refine AW_reg ?_
  refine s_v (o_flp fd27_2 rfl rfl) ?_
  refine s_v (o_ldp (.sl none 35 (List.map c_Chunk p0.Chunks)) ld23 rfl (hp_get 0 hk3 rfl) rfl) ?_
  refine s_v (o_lenm ln23 rfl) ?_
  refine s_v (o_mv (.sc (.int _ _)) rfl) ?_
  refine s_nil ?_
  refine H7 _ _ ?_
  clear H7 K7
  refine (LeF.put (t := 5) (v := ow none 37 (List.map c_Item [])) (Sub.refl _) (ow_nil _ _)).aw ?_
  refine AW_loopG (n := 73) hm (σ := (List TItem) × Int) (τ := Option Key) (fun g s => HOk h [(g, .tok 99 37 ((s.1 : List TItem).length * 37)), (some k2, .obj 27 (c_Catalog p0))] ∧ (g = none → s.1 = [])) (fun g s => kp (kp (kp (kp (kp (kp (k0) 15 (.sc (.int .i64 s.2))) 14 (.sc (.int .i64 (p0.Chunks.length : Int)))) 13 (.sl none 35 (List.map c_Chunk p0.Chunks))) 5 (ow g 37 (List.map c_Item s.1))) 2 (.ptr k2 0)) 1 (.fn (.func p1F) p1C)) (fun g s => hp h [(g, .tok 99 37 ((s.1 : List TItem).length * 37)), (some k2, .obj 27 (c_Catalog p0))]) none (⟨HOk.none hk3, (fun _ => rfl)⟩) (LeF.fm (Sub.refl _) (.cons (ALe.refl _ _) (.cons (ALe.refl _ _) (.cons (ALe.refl _ _) (.cons (ALe.refl _ _) (.cons (ALe.refl _ _) (.cons (ALe.refl _ _) (.nil)))))))) ?_ ?_
  · rintro tg118 ⟨q117, q120⟩ x ⟨hk121, ot119⟩ hm
    replace hm : M78_L0 fuel p0 p1 q117 q120 = some x := hm
    unfold M78_L0 at hm
    refine AW_k fun K122 H122 => ?_
    refine AW_reg ?_
    refine s_v (o_bi rfl rfl rfl trivial) ?_
    refine s_nil ?_
    refine H122 _ _ ?_
    clear H122 K122
    refine AW_k fun K123 H123 => ?_
    refine AW_if' rfl (fun hc124 => ?_) (fun hc124 => ?_)
    · replace hm := ite_t hm hc124
      refine AW_skip ?_
      refine H123 _ _ ?_
      clear H123 K123
      refine AW_k fun K125 H125 => ?_
      refine AW_block ?_
      refine AW_k fun K126 H126 => ?_
      refine AW_reg ?_
      obtain ⟨x127, hx128, hm⟩ := bind_of hm
      refine s_v (o_ix hx128 el23 rfl rfl) ?_
      refine s_v (o_ld (.agg (c_Chunk x127)) ld63 rfl rfl) ?_
      refine s_op (a_alloc (c_id idZ ++ [.sc (.bool false), .sc (.slice none 0 0), .sc (.slice none 0 0)]) hk121 zr63 rfl rfl fun k129 hk130 => ?_)
      refine s_op (a_store 0 (c_Chunk x127) hk130 rfl rfl rfl rfl sz63 rfl rfl fun hk132 => ?_)
      refine s_nil ?_
      refine H126 _ _ ?_
      clear H126 K126
      refine AW_k fun K133 H133 => ?_
      refine AW_region_q [(some 19, [1], []), (some 20, [7], []), (some 21, [20], [1]), (some 22, [2], []), (some 23, [7], []), (some 24, [23], [4]), (some 25, [22, 24], [3, 5]), (some 26, [19, 21, 25], [0, 2, 6, 6])] mixed (by kernel_rfl) (by kernel_rfl) ?_
      refine q_v (o_mv (.fn _ _) rfl) ?_
      refine q_v (o_flp fd63_3 rfl rfl) ?_
      refine q_v (o_ldp (.sl none 4 (List.map c_Loc x127.Locs)) ld58 rfl (hp_get 0 hk132 rfl) rfl) ?_
      refine q_v (o_ldp (.agg (c_Catalog p0)) ld27 rfl (hp_get 2 hk132 rfl) rfl) ?_
      refine q_v (o_flp fd63_0 rfl rfl) ?_
      refine q_v (o_ldp (.agg (c_id x127.Id)) ld61 rfl (hp_get 0 hk132 rfl) rfl) ?_
      obtain ⟨y134, hy135, hm⟩ := bind_of hm
      refine q_v (o_call (W44 _ hy135) rfl bd44 rfl) ?_
      obtain ⟨y136, hy137, hm⟩ := bind_of hm
      refine q_v (o_call (p1H _ _ _ _ (hp_sub (List.nil_sublist _) hk132).1 hy137) rfl p1B rfl) ?_
      refine q_nil ?_
      refine H133 _ _ ?_
      clear H133 K133
      refine AW_joinG (n := 73) hm (σ := (List TItem)) (τ := Option Key) (fun g s => HOk h [(some k129, .obj 63 (c_Chunk x127)), (g, .tok 99 37 ((s : List TItem).length * 37)), (some k2, .obj 27 (c_Catalog p0))] ∧ (g = none → s = [])) (fun g s => kp (kp (kp (kp (kp (kp (k0) 15 (.sc (.int .i64 q120))) 14 (.sc (.int .i64 (p0.Chunks.length : Int)))) 13 (.sl none 35 (List.map c_Chunk p0.Chunks))) 5 (ow g 37 (List.map c_Item s))) 2 (.ptr k2 0)) 1 (.fn (.func p1F) p1C)) (fun g s => hp h [(some k129, .obj 63 (c_Chunk x127)), (g, .tok 99 37 ((s : List TItem).length * 37)), (some k2, .obj 27 (c_Catalog p0))]) (fun x hm => ?_) ?_
      · refine AW_if' rfl (fun hc147 => ?_) (fun hc147 => ?_)
        · replace hm := ite_t hm hc147
          refine AW_reg ?_
          refine s_v (o_mv (ow _ _ _) rfl) ?_
          refine s_v (o_flp fd63_0 rfl rfl) ?_
          refine s_v (o_ldp (.agg (c_id x127.Id)) ld61 rfl (hp_get 0 hk132 rfl) rfl) ?_
          refine s_v (o_bld (c_Item ({ Kind := 1, Id := x127.Id, Seq := 0, Of := 0, Off := 0, Len := 0 } : TItem)) bt99 rfl) ?_
          refine s_v (o_lit (List.map c_Item ([({ Kind := 1, Id := x127.Id, Seq := 0, Of := 0, Off := 0, Len := 0 } : TItem)] : List TItem)) et70 rfl rfl rfl rfl) ?_
          obtain ⟨z148, hz149, hm⟩ := bind_of hm
          refine s_op (a_app (c := c_Item) 1 hz149 et70 rfl rfl rfl ot119 hk132 rfl fun tg150 ot151 hk152 => ?_)
          refine s_v (o_as (ow _ _ _) rfl) ?_
          refine s_nil ?_
          cases hm
          exact ⟨rfl, tg150, ⟨hk152, ot151⟩, LeF.fm (Sub.refl _) (.cons (ALe.refl _ _) (.cons (ALe.refl _ _) (.cons (ALe.refl _ _) (.cons (ALe.refl _ _) (.cons (ALe.refl _ _) (.cons (ALe.refl _ _) (.nil)))))))⟩
        · replace hm := ite_f hm hc147
          refine AW_skip ?_
          cases hm
          exact ⟨rfl, tg118, ⟨hk132, ot119⟩, LeF.fm (Sub.refl _) (.cons (ALe.refl _ _) (.cons (ALe.refl _ _) (.cons (ALe.refl _ _) (.cons (ALe.refl _ _) (.cons (ALe.refl _ _) (.cons (ALe.refl _ _) (.nil)))))))⟩
      · rintro tg145 j144 fr' h' ⟨hk153, ot146⟩ hm le
        refine H125 _ _ (le.aw ?_)
        clear le H125 K125
        refine AW_reg ?_
        refine s_v (o_bi rfl rfl rfl trivial) ?_
        refine s_v (o_mv (.sc (.int _ _)) rfl) ?_
        refine s_nil ?_
        cases hm
        exact ⟨rfl, tg145, ⟨(hp_sub (.cons _ (.refl _)) hk153).2, ot146⟩, LeF.fm ((hp_sub (.cons _ (.refl _)) hk153).1) (.cons (ALe.refl _ _) (.cons (ALe.refl _ _) (.cons (ALe.refl _ _) (.cons (ALe.refl _ _) (.cons (ALe.refl _ _) (.cons (ALe.refl _ _) (.nil)))))))⟩
    · replace hm := ite_f hm hc124
      refine AW_exit ?_
      refine Seq_exit ?_
      cases hm
      exact ⟨rfl, tg118, ⟨hk121, ot119⟩, LeF.fm (Sub.refl _) (.cons (ALe.refl _ _) (.cons (ALe.refl _ _) (.cons (ALe.refl _ _) (.cons (ALe.refl _ _) (.cons (ALe.refl _ _) (.cons (ALe.refl _ _) (.nil)))))))⟩
  · rintro tg156 ⟨r154, r155⟩ fr' h' ⟨hk158, ot157⟩ hm le
    refine H6 _ _ (le.aw ?_)
    clear le H6 K6
    refine AW_k fun K159 H159 => ?_
    refine AW_k fun K160 H160 => ?_
    refine AW_reg ?_
    refine s_v (o_flp fd27_1 rfl rfl) ?_
    refine s_v (o_ldp (.sl none 4 (List.map c_Snap p0.Snaps)) ld22 rfl (hp_get 1 hk158 rfl) rfl) ?_
    refine s_v (o_lenm ln22 rfl) ?_
    refine s_v (o_mv (.sc (.int _ _)) rfl) ?_
    refine s_nil ?_
    refine H160 _ _ ?_
    clear H160 K160
    refine AW_loopG (n := 73) hm (σ := (List TItem) × Int) (τ := Option Key) (fun g s => HOk h [(g, .tok 99 37 ((s.1 : List TItem).length * 37)), (some k2, .obj 27 (c_Catalog p0))] ∧ (g = none → s.1 = [])) (fun g s => kp (kp (kp (kp (kp (kp (k0) 37 (.sc (.int .i64 s.2))) 36 (.sc (.int .i64 (p0.Snaps.length : Int)))) 35 (.sl none 4 (List.map c_Snap p0.Snaps))) 5 (ow g 37 (List.map c_Item s.1))) 2 (.ptr k2 0)) 1 (.fn (.func p1F) p1C)) (fun g s => hp h [(g, .tok 99 37 ((s.1 : List TItem).length * 37)), (some k2, .obj 27 (c_Catalog p0))]) tg156 (⟨hk158, ot157⟩) (LeF.fm (Sub.refl _) (.cons (ALe.refl _ _) (.cons (ALe.refl _ _) (.cons (ALe.refl _ _) (.cons (ALe.refl _ _) (.cons (ALe.refl _ _) (.cons (ALe.refl _ _) (.nil)))))))) ?_ ?_
    · rintro tg226 ⟨q225, q228⟩ x ⟨hk229, ot227⟩ hm
      replace hm : M78_L2 fuel p0 p1 q225 q228 = some x := hm
      unfold M78_L2 at hm
      refine AW_k fun K230 H230 => ?_
      refine AW_reg ?_
      refine s_v (o_bi rfl rfl rfl trivial) ?_
      refine s_nil ?_
      refine H230 _ _ ?_
      clear H230 K230
      refine AW_k fun K231 H231 => ?_
      refine AW_if' rfl (fun hc232 => ?_) (fun hc232 => ?_)
      · replace hm := ite_t hm hc232
        refine AW_skip ?_
        refine H231 _ _ ?_
        clear H231 K231
        refine AW_k fun K233 H233 => ?_
        refine AW_block ?_
        refine AW_k fun K234 H234 => ?_
        refine AW_reg ?_
        obtain ⟨x235, hx236, hm⟩ := bind_of hm
        refine s_v (o_ix hx236 el22 rfl rfl) ?_
        refine s_v (o_ld (.agg (c_Snap x235)) ld60 rfl rfl) ?_
        refine s_op (a_alloc ([.sc (.int .i64 0), .sc (.string ByteArray.empty), .sc (.slice none 0 0), .sc (.slice none 0 0)]) hk229 zr60 rfl rfl fun k237 hk238 => ?_)
        refine s_op (a_store 0 (c_Snap x235) hk238 rfl rfl rfl rfl sz60 rfl rfl fun hk240 => ?_)
        refine s_nil ?_
        refine H234 _ _ ?_
        clear H234 K234
        refine AW_k fun K241 H241 => ?_
        refine AW_reg ?_
        refine s_v (o_mv (.fn _ _) rfl) ?_
        refine s_v (o_flp fd60_2 rfl rfl) ?_
        refine s_v (o_ldp (.sl none 4 (List.map c_Loc x235.Locs)) ld58 rfl (hp_get 0 hk240 rfl) rfl) ?_
        obtain ⟨y242, hy243, hm⟩ := bind_of hm
        refine s_v (o_call (p1H _ _ _ _ (hp_sub (List.nil_sublist _) hk240).1 hy243) rfl p1B rfl) ?_
        refine s_nil ?_
        refine H241 _ _ ?_
        clear H241 K241
        refine AW_joinG (n := 73) hm (σ := (List TItem)) (τ := Option Key) (fun g s => HOk h [(some k237, .obj 60 (c_Snap x235)), (g, .tok 99 37 ((s : List TItem).length * 37)), (some k2, .obj 27 (c_Catalog p0))] ∧ (g = none → s = [])) (fun g s => kp (kp (kp (kp (kp (kp (k0) 37 (.sc (.int .i64 q228))) 36 (.sc (.int .i64 (p0.Snaps.length : Int)))) 35 (.sl none 4 (List.map c_Snap p0.Snaps))) 5 (ow g 37 (List.map c_Item s))) 2 (.ptr k2 0)) 1 (.fn (.func p1F) p1C)) (fun g s => hp h [(some k237, .obj 60 (c_Snap x235)), (g, .tok 99 37 ((s : List TItem).length * 37)), (some k2, .obj 27 (c_Catalog p0))]) (fun x hm => ?_) ?_
        · refine AW_if' rfl (fun hc253 => ?_) (fun hc253 => ?_)
          · replace hm := ite_t hm hc253
            refine AW_reg ?_
            refine s_v (o_mv (ow _ _ _) rfl) ?_
            refine s_v (o_flp fd60_0 rfl rfl) ?_
            refine s_v (o_ldp (.sc (.int .i64 x235.Seq)) ld3 rfl (hp_get 0 hk240 rfl) rfl) ?_
            refine s_v (o_bld (c_Item ({ Kind := 2, Id := idZ, Seq := x235.Seq, Of := 0, Off := 0, Len := 0 } : TItem)) bt99 rfl) ?_
            refine s_v (o_lit (List.map c_Item ([({ Kind := 2, Id := idZ, Seq := x235.Seq, Of := 0, Off := 0, Len := 0 } : TItem)] : List TItem)) et70 rfl rfl rfl rfl) ?_
            obtain ⟨z254, hz255, hm⟩ := bind_of hm
            refine s_op (a_app (c := c_Item) 1 hz255 et70 rfl rfl rfl ot227 hk240 rfl fun tg256 ot257 hk258 => ?_)
            refine s_v (o_as (ow _ _ _) rfl) ?_
            refine s_nil ?_
            cases hm
            exact ⟨rfl, tg256, ⟨hk258, ot257⟩, LeF.fm (Sub.refl _) (.cons (ALe.refl _ _) (.cons (ALe.refl _ _) (.cons (ALe.refl _ _) (.cons (ALe.refl _ _) (.cons (ALe.refl _ _) (.cons (ALe.refl _ _) (.nil)))))))⟩
          · replace hm := ite_f hm hc253
            refine AW_skip ?_
            cases hm
            exact ⟨rfl, tg226, ⟨hk240, ot227⟩, LeF.fm (Sub.refl _) (.cons (ALe.refl _ _) (.cons (ALe.refl _ _) (.cons (ALe.refl _ _) (.cons (ALe.refl _ _) (.cons (ALe.refl _ _) (.cons (ALe.refl _ _) (.nil)))))))⟩
        · rintro tg251 j250 fr' h' ⟨hk259, ot252⟩ hm le
          refine H233 _ _ (le.aw ?_)
          clear le H233 K233
          refine AW_reg ?_
          refine s_v (o_bi rfl rfl rfl trivial) ?_
          refine s_v (o_mv (.sc (.int _ _)) rfl) ?_
          refine s_nil ?_
          cases hm
          exact ⟨rfl, tg251, ⟨(hp_sub (.cons _ (.refl _)) hk259).2, ot252⟩, LeF.fm ((hp_sub (.cons _ (.refl _)) hk259).1) (.cons (ALe.refl _ _) (.cons (ALe.refl _ _) (.cons (ALe.refl _ _) (.cons (ALe.refl _ _) (.cons (ALe.refl _ _) (.cons (ALe.refl _ _) (.nil)))))))⟩
      · replace hm := ite_f hm hc232
        refine AW_exit ?_
        refine Seq_exit ?_
        cases hm
        exact ⟨rfl, tg226, ⟨hk229, ot227⟩, LeF.fm (Sub.refl _) (.cons (ALe.refl _ _) (.cons (ALe.refl _ _) (.cons (ALe.refl _ _) (.cons (ALe.refl _ _) (.cons (ALe.refl _ _) (.cons (ALe.refl _ _) (.nil)))))))⟩
    · rintro tg262 ⟨r260, r261⟩ fr' h' ⟨hk264, ot263⟩ hm le
      refine H159 _ _ (le.aw ?_)
      clear le H159 K159
      refine AW_k fun K265 H265 => ?_
      refine AW_k fun K266 H266 => ?_
      refine AW_reg ?_
      refine s_v (o_flp fd27_3 rfl rfl) ?_
      refine s_v (o_ldp (.sl none 3 (List.map c_Exp p0.Exps)) ld24 rfl (hp_get 1 hk264 rfl) rfl) ?_
      refine s_v (o_lenm ln24 rfl) ?_
      refine s_v (o_mv (.sc (.int _ _)) rfl) ?_
      refine s_nil ?_
      refine H266 _ _ ?_
      clear H266 K266
      refine AW_loopG (n := 73) hm (σ := (List TItem) × Int) (τ := Option Key) (fun g s => HOk h [(g, .tok 99 37 ((s.1 : List TItem).length * 37)), (some k2, .obj 27 (c_Catalog p0))] ∧ (g = none → s.1 = [])) (fun g s => kp (kp (kp (kp (kp (k0) 55 (.sc (.int .i64 s.2))) 54 (.sc (.int .i64 (p0.Exps.length : Int)))) 53 (.sl none 3 (List.map c_Exp p0.Exps))) 5 (ow g 37 (List.map c_Item s.1))) 1 (.fn (.func p1F) p1C)) (fun g s => hp h [(g, .tok 99 37 ((s.1 : List TItem).length * 37)), (some k2, .obj 27 (c_Catalog p0))]) tg262 (⟨hk264, ot263⟩) (LeF.fm (Sub.refl _) (.cons (ALe.refl _ _) (.cons (ALe.refl _ _) (.cons (ALe.refl _ _) (.cons (ALe.refl _ _) (.cons (ALe.refl _ _) (.nil))))))) ?_ ?_
      · rintro tg332 ⟨q331, q334⟩ x ⟨hk335, ot333⟩ hm
        replace hm : M78_L4 fuel p0 p1 q331 q334 = some x := hm
        unfold M78_L4 at hm
        refine AW_k fun K336 H336 => ?_
        refine AW_reg ?_
        refine s_v (o_bi rfl rfl rfl trivial) ?_
        refine s_nil ?_
        refine H336 _ _ ?_
        clear H336 K336
        refine AW_k fun K337 H337 => ?_
        refine AW_if' rfl (fun hc338 => ?_) (fun hc338 => ?_)
        · replace hm := ite_t hm hc338
          refine AW_skip ?_
          refine H337 _ _ ?_
          clear H337 K337
          refine AW_k fun K339 H339 => ?_
          refine AW_block ?_
          refine AW_k fun K340 H340 => ?_
          refine AW_reg ?_
          obtain ⟨x341, hx342, hm⟩ := bind_of hm
          refine s_v (o_ix hx342 el24 rfl rfl) ?_
          refine s_v (o_ld (.agg (c_Exp x341)) ld65 rfl rfl) ?_
          refine s_op (a_alloc ([.sc (.int .i64 0), .sc (.int .i64 0), .sc (.slice none 0 0)]) hk335 zr65 rfl rfl fun k343 hk344 => ?_)
          refine s_op (a_store 0 (c_Exp x341) hk344 rfl rfl rfl rfl sz65 rfl rfl fun hk346 => ?_)
          refine s_nil ?_
          refine H340 _ _ ?_
          clear H340 K340
          refine AW_k fun K347 H347 => ?_
          refine AW_reg ?_
          refine s_v (o_mv (.fn _ _) rfl) ?_
          refine s_v (o_flp fd65_2 rfl rfl) ?_
          refine s_v (o_ldp (.sl none 4 (List.map c_Loc x341.Locs)) ld58 rfl (hp_get 0 hk346 rfl) rfl) ?_
          obtain ⟨y348, hy349, hm⟩ := bind_of hm
          refine s_v (o_call (p1H _ _ _ _ (hp_sub (List.nil_sublist _) hk346).1 hy349) rfl p1B rfl) ?_
          refine s_nil ?_
          refine H347 _ _ ?_
          clear H347 K347
          refine AW_joinG (n := 73) hm (σ := (List TItem)) (τ := Option Key) (fun g s => HOk h [(some k343, .obj 65 (c_Exp x341)), (g, .tok 99 37 ((s : List TItem).length * 37)), (some k2, .obj 27 (c_Catalog p0))] ∧ (g = none → s = [])) (fun g s => kp (kp (kp (kp (kp (k0) 55 (.sc (.int .i64 q334))) 54 (.sc (.int .i64 (p0.Exps.length : Int)))) 53 (.sl none 3 (List.map c_Exp p0.Exps))) 5 (ow g 37 (List.map c_Item s))) 1 (.fn (.func p1F) p1C)) (fun g s => hp h [(some k343, .obj 65 (c_Exp x341)), (g, .tok 99 37 ((s : List TItem).length * 37)), (some k2, .obj 27 (c_Catalog p0))]) (fun x hm => ?_) ?_
          · refine AW_if' rfl (fun hc359 => ?_) (fun hc359 => ?_)
            · replace hm := ite_t hm hc359
              refine AW_reg ?_
              refine s_v (o_mv (ow _ _ _) rfl) ?_
              refine s_v (o_flp fd65_0 rfl rfl) ?_
              refine s_v (o_ldp (.sc (.int .i64 x341.Seq)) ld3 rfl (hp_get 0 hk346 rfl) rfl) ?_
              refine s_v (o_flp fd65_1 rfl rfl) ?_
              refine s_v (o_ldp (.sc (.int .i64 x341.Of)) ld3 rfl (hp_get 0 hk346 rfl) rfl) ?_
              refine s_v (o_bld (c_Item ({ Kind := 3, Id := idZ, Seq := x341.Seq, Of := x341.Of, Off := 0, Len := 0 } : TItem)) bt99 rfl) ?_
              refine s_v (o_lit (List.map c_Item ([({ Kind := 3, Id := idZ, Seq := x341.Seq, Of := x341.Of, Off := 0, Len := 0 } : TItem)] : List TItem)) et70 rfl rfl rfl rfl) ?_
              obtain ⟨z360, hz361, hm⟩ := bind_of hm
              refine s_op (a_app (c := c_Item) 1 hz361 et70 rfl rfl rfl ot333 hk346 rfl fun tg362 ot363 hk364 => ?_)
              refine s_v (o_as (ow _ _ _) rfl) ?_
              refine s_nil ?_
              cases hm
              exact ⟨rfl, tg362, ⟨hk364, ot363⟩, LeF.fm (Sub.refl _) (.cons (ALe.refl _ _) (.cons (ALe.refl _ _) (.cons (ALe.refl _ _) (.cons (ALe.refl _ _) (.cons (ALe.refl _ _) (.nil))))))⟩
            · replace hm := ite_f hm hc359
              refine AW_skip ?_
              cases hm
              exact ⟨rfl, tg332, ⟨hk346, ot333⟩, LeF.fm (Sub.refl _) (.cons (ALe.refl _ _) (.cons (ALe.refl _ _) (.cons (ALe.refl _ _) (.cons (ALe.refl _ _) (.cons (ALe.refl _ _) (.nil))))))⟩
          · rintro tg357 j356 fr' h' ⟨hk365, ot358⟩ hm le
            refine H339 _ _ (le.aw ?_)
            clear le H339 K339
            refine AW_reg ?_
            refine s_v (o_bi rfl rfl rfl trivial) ?_
            refine s_v (o_mv (.sc (.int _ _)) rfl) ?_
            refine s_nil ?_
            cases hm
            exact ⟨rfl, tg357, ⟨(hp_sub (.cons _ (.refl _)) hk365).2, ot358⟩, LeF.fm ((hp_sub (.cons _ (.refl _)) hk365).1) (.cons (ALe.refl _ _) (.cons (ALe.refl _ _) (.cons (ALe.refl _ _) (.cons (ALe.refl _ _) (.cons (ALe.refl _ _) (.nil))))))⟩
        · replace hm := ite_f hm hc338
          refine AW_exit ?_
          refine Seq_exit ?_
          cases hm
          exact ⟨rfl, tg332, ⟨hk335, ot333⟩, LeF.fm (Sub.refl _) (.cons (ALe.refl _ _) (.cons (ALe.refl _ _) (.cons (ALe.refl _ _) (.cons (ALe.refl _ _) (.cons (ALe.refl _ _) (.nil))))))⟩
      · rintro tg368 ⟨r366, r367⟩ fr' h' ⟨hk370, ot369⟩ hm le
        refine H265 _ _ (le.aw ?_)
        clear le H265 K265
        refine AW_k fun K371 H371 => ?_
        refine AW_reg ?_
        refine s_v (o_mv (ow _ _ _) rfl) ?_
        refine s_v (o_as (ow _ _ _) rfl) ?_
        refine s_nil ?_
        refine H371 _ _ ?_
        clear H371 K371
        refine AW_ret ?_
        cases hm
        exact Ret.of1 (.inl rfl) (rsT _ _ (ow _ _ _) rfl) (hp_sub (List.nil_sublist _) hk370).1 ((own_frz0 _ 0 ot369 hk370 rfl)) ⟨rfl, rfl⟩
theorem bd78 : bodied Try.prog 78 = true := by kernel_rfl
def M119_L0 (fuel : Nat) (p0 : List TLoc) (p1 : TLoc → Option Bool) (q29 : Int) : Option (Lp (Int) (Int)) :=
  if (decide (q29 < (p0.length : Int))) = true then ((ix p0 q29).bind fun x37 => (p1 x37).bind fun y39 => if y39 = true then (some (.ret q29)) else some (.go (IntKind.wrap .i64 (q29 + 1)))) else some (.brk q29)
def M119 (fuel : Nat) (p0 : List TLoc) (p1 : TLoc → Option Bool) : Option (Int) :=
  after (loopM (fun s => M119_L0 fuel p0 p1 s) fuel 0) fun r43 => some (-1)
set_option maxRecDepth 100000 in
/-- slices.IndexFunc(()cellarer/api.Loc,cellarer/api.Loc) -/
theorem W119 {fuel : Nat} {p0 : List TLoc} {p1 : TLoc → Option Bool} {o : Int} (h : Heap) {p1F : Nat} {p1C : List AV} (p1B : bodied Try.prog p1F = true) (p1H : ∀ x0 o h0, Sub h h0 → p1 x0 = some o → ACalls Try.prog p1F ([.agg (c_Loc x0)] ++ p1C) h0 (fun r h' => r = .sc (.bool o) ∧ h' = h0)) (hm : M119 fuel p0 p1 = some o) :
    ACalls Try.prog 119 [.sl none 4 (List.map c_Loc p0), .fn (.func p1F) p1C] h (fun r h' => r = .sc (.int .i64 o) ∧ h' = h) := by
  refine ACalls_hp 19 [.tmp 4] Try.func119 rfl rfl rfl rfl ?_
  unfold M119 at hm
  refine AW_k fun K1 H1 => ?_
  refine AW_reg ?_
  refine s_v (o_as (.sc (.int _ _)) rfl) ?_
  refine s_nil ?_
  refine H1 _ _ ?_
  clear H1 K1
  refine AW_k fun K2 H2 => ?_
  refine AW_k fun K3 H3 => ?_
  refine AW_reg ?_
  refine s_v (o_mv (.sl _ _ _) rfl) ?_
  refine s_v (o_lenm ln58 rfl) ?_
  refine s_v (o_mv (.sc (.int _ _)) rfl) ?_
  refine s_nil ?_
  refine H3 _ _ ?_
  clear H3 K3
  refine AW_loopG (n := 19) hm (σ := Int) (τ := Unit) (fun g s => HOk h []) (fun g s => kp (kp (kp (kp (k0) 8 (.sc (.int .i64 s))) 7 (.sc (.int .i64 (p0.length : Int)))) 1 (.fn (.func p1F) p1C)) 0 (.sl none 4 (List.map c_Loc p0))) (fun g s => hp h []) () (HOk.nil _) (LeF.fm (Sub.refl _) (.cons (ALe.refl _ _) (.cons (ALe.refl _ _) (.cons (ALe.refl _ _) (.cons (ALe.refl _ _) (.nil)))))) ?_ ?_
  · rintro _ q29 x hk30 hm
    replace hm : M119_L0 fuel p0 p1 q29 = some x := hm
    unfold M119_L0 at hm
    refine AW_k fun K31 H31 => ?_
    refine AW_reg ?_
    refine s_v (o_bi rfl rfl rfl trivial) ?_
    refine s_nil ?_
    refine H31 _ _ ?_
    clear H31 K31
    refine AW_k fun K32 H32 => ?_
    refine AW_if' rfl (fun hc33 => ?_) (fun hc33 => ?_)
    · replace hm := ite_t hm hc33
      refine AW_skip ?_
      refine H32 _ _ ?_
      clear H32 K32
      refine AW_k fun K34 H34 => ?_
      refine AW_block ?_
      refine AW_k fun K35 H35 => ?_
      refine AW_reg ?_
      refine s_v (o_mv (.sc (.int _ _)) rfl) ?_
      refine s_v (o_as (.sc (.int _ _)) rfl) ?_
      refine s_nil ?_
      refine H35 _ _ ?_
      clear H35 K35
      refine AW_k fun K36 H36 => ?_
      refine AW_reg ?_
      refine s_v (o_mv (.fn _ _) rfl) ?_
      refine s_v (o_mv (.sl _ _ _) rfl) ?_
      refine s_v (o_mv (.sc (.int _ _)) rfl) ?_
      obtain ⟨x37, hx38, hm⟩ := bind_of hm
      refine s_v (o_ix hx38 el58 rfl rfl) ?_
      refine s_v (o_ld (.agg (c_Loc x37)) ld77 rfl rfl) ?_
      obtain ⟨y39, hy40, hm⟩ := bind_of hm
      refine s_v (o_call (p1H _ _ _ (hp_sub (List.nil_sublist _) hk30).1 hy40) rfl p1B rfl) ?_
      refine s_nil ?_
      refine H36 _ _ ?_
      clear H36 K36
      refine AW_if' rfl (fun hc41 => ?_) (fun hc41 => ?_)
      · replace hm := ite_t hm hc41
        refine AW_k fun K42 H42 => ?_
        refine AW_reg ?_
        refine s_v (o_mv (.sc (.int _ _)) rfl) ?_
        refine s_v (o_as (.sc (.int _ _)) rfl) ?_
        refine s_nil ?_
        refine H42 _ _ ?_
        clear H42 K42
        refine AW_ret ?_
        cases hm
        refine ⟨⟨nofun, nofun⟩, fun he => ?_⟩
        subst he
        exact Ret.of1 (.inl rfl) (rsT _ _ (.sc (.int _ _)) rfl) (Sub.refl _) (ALe.refl _ _) ⟨rfl, rfl⟩
      · replace hm := ite_f hm hc41
        refine AW_skip ?_
        refine H34 _ _ ?_
        clear H34 K34
        refine AW_reg ?_
        refine s_v (o_bi rfl rfl rfl trivial) ?_
        refine s_v (o_mv (.sc (.int _ _)) rfl) ?_
        refine s_nil ?_
        cases hm
        exact ⟨rfl, (), hk30, LeF.fm (Sub.refl _) (.cons (ALe.refl _ _) (.cons (ALe.refl _ _) (.cons (ALe.refl _ _) (.cons (ALe.refl _ _) (.nil)))))⟩
    · replace hm := ite_f hm hc33
      refine AW_exit ?_
      refine Seq_exit ?_
      cases hm
      exact ⟨rfl, (), hk30, LeF.fm (Sub.refl _) (.cons (ALe.refl _ _) (.cons (ALe.refl _ _) (.cons (ALe.refl _ _) (.cons (ALe.refl _ _) (.nil)))))⟩
  · rintro _ r43 fr' h' hk44 hm le
    refine H2 _ _ (le.aw ?_)
    clear le H2 K2
    refine AW_k fun K45 H45 => ?_
    refine AW_reg ?_
    refine s_v (o_as (.sc (.int _ _)) rfl) ?_
    refine s_nil ?_
    refine H45 _ _ ?_
    clear H45 K45
    refine AW_ret ?_
    cases hm
    exact Ret.of1 (.inl rfl) (rsT _ _ (.sc (.int _ _)) rfl) (Sub.refl _) (ALe.refl _ _) ⟨rfl, rfl⟩
theorem bd119 : bodied Try.prog 119 = true := by kernel_rfl
def M94 (fuel : Nat) (p0 : List TLoc) (p1 : TLoc → Option Bool) : Option (Bool) :=
  (M119 fuel p0 p1).bind fun y3 => some (decide (0 ≤ y3))
set_option maxRecDepth 100000 in
/-- slices.ContainsFunc(()cellarer/api.Loc,cellarer/api.Loc) -/
theorem W94 {fuel : Nat} {p0 : List TLoc} {p1 : TLoc → Option Bool} {o : Bool} (h : Heap) {p1F : Nat} {p1C : List AV} (p1B : bodied Try.prog p1F = true) (p1H : ∀ x0 o h0, Sub h h0 → p1 x0 = some o → ACalls Try.prog p1F ([.agg (c_Loc x0)] ++ p1C) h0 (fun r h' => r = .sc (.bool o) ∧ h' = h0)) (hm : M94 fuel p0 p1 = some o) :
    ACalls Try.prog 94 [.sl none 4 (List.map c_Loc p0), .fn (.func p1F) p1C] h (fun r h' => r = .sc (.bool o) ∧ h' = h) := by
  refine ACalls_hp 9 [.tmp 4] Try.func94 rfl rfl rfl rfl ?_
  unfold M94 at hm
  refine AW_k fun K1 H1 => ?_
  refine AW_reg ?_
  refine s_v (o_as (.sc (.bool _)) rfl) ?_
  refine s_nil ?_
  refine H1 _ _ ?_
  clear H1 K1
  refine AW_k fun K2 H2 => ?_
  refine AW_reg ?_
  refine s_v (o_mv (.sl _ _ _) rfl) ?_
  refine s_v (o_mv (.fn _ _) rfl) ?_
  obtain ⟨y3, hy4, hm⟩ := bind_of hm
  refine s_v (o_call (W119 _ p1B (fun x0 o h0 hs ho => p1H x0 o h0 ((hp_sub (List.nil_sublist _) (HOk.nil _)).1.trans hs) ho) hy4) rfl bd119 rfl) ?_
  refine s_v (o_bi rfl rfl rfl trivial) ?_
  refine s_v (o_as (.sc (.bool _)) rfl) ?_
  refine s_nil ?_
  refine H2 _ _ ?_
  clear H2 K2
  refine AW_ret ?_
  cases hm
  exact Ret.of1 (.inl rfl) (rsT _ _ (.sc (.bool _)) rfl) (Sub.refl _) (ALe.refl _ _) ⟨rfl, rfl⟩
theorem bd94 : bodied Try.prog 94 = true := by kernel_rfl
def M118 (fuel : Nat) (p0 : TLoc) (c0 : Int) : Option (Bool) :=
  some (p0.Vol == c0)
set_option maxRecDepth 100000 in
/-- cellarer/stage.on$1 -/
theorem W118 {fuel : Nat} {p0 : TLoc} {c0 : Int} {o : Bool} (h : Heap) {c0K : Key} (c0H : h c0K = some (.obj 3 (c_i64 c0))) (hm : M118 fuel p0 c0 = some o) :
    ACalls Try.prog 118 [.agg (c_Loc p0), .ptr c0K 0] h (fun r h' => r = .sc (.bool o) ∧ h' = h) := by
  refine ACalls_hp 8 [.tmp 3] Try.func118 rfl rfl rfl rfl ?_
  unfold M118 at hm
  refine AW_k fun K1 H1 => ?_
  refine AW_reg ?_
  refine s_op (a_box (HOk.nil _) rfl rfl fun k2 hk3 => ?_)
  refine s_v (o_as (.sc (.bool _)) rfl) ?_
  refine s_nil ?_
  refine H1 _ _ ?_
  clear H1 K1
  refine AW_k fun K5 H5 => ?_
  refine AW_reg ?_
  refine s_v (o_flp fd77_0 rfl rfl) ?_
  refine s_v (o_ldp (.sc (.int .i64 p0.Vol)) ld3 rfl (hp_get 0 hk3 rfl) rfl) ?_
  refine s_v (o_ldp (.sc (.int .i64 c0)) ld3 rfl (hp_base hk3 c0H) rfl) ?_
  refine s_v (o_bi rfl rfl rfl trivial) ?_
  refine s_v (o_as (.sc (.bool _)) rfl) ?_
  refine s_nil ?_
  refine H5 _ _ ?_
  clear H5 K5
  refine AW_ret ?_
  cases hm
  exact Ret.of1 (.inl rfl) (rsT _ _ (.sc (.bool _)) rfl) (hp_sub (List.nil_sublist _) hk3).1 (ALe.refl _ _) ⟨rfl, rfl⟩
theorem bd118 : bodied Try.prog 118 = true := by kernel_rfl
def M81 (fuel : Nat) (p0 : List TLoc) (p1 : Int) : Option (Bool) :=
  (M94 fuel p0 (fun x0 => M118 fuel x0 p1)).bind fun y6 => some y6
set_option maxRecDepth 100000 in
/-- cellarer/stage.on -/
theorem W81 {fuel : Nat} {p0 : List TLoc} {p1 : Int} {o : Bool} (h : Heap) (hm : M81 fuel p0 p1 = some o) :
    ACalls Try.prog 81 [.sl none 4 (List.map c_Loc p0), .sc (.int .i64 p1)] h (fun r h' => r = .sc (.bool o) ∧ h' = h) := by
  refine ACalls_hp 8 [.tmp 4] Try.func81 rfl rfl rfl rfl ?_
  unfold M81 at hm
  refine AW_k fun K1 H1 => ?_
  refine AW_reg ?_
  refine s_op (a_box (HOk.nil _) rfl rfl fun k2 hk3 => ?_)
  refine s_v (o_as (.sc (.bool _)) rfl) ?_
  refine s_nil ?_
  refine H1 _ _ ?_
  clear H1 K1
  refine AW_k fun K5 H5 => ?_
  refine AW_reg ?_
  refine s_v (o_mv (.sl _ _ _) rfl) ?_
  refine s_v (o_mf rfl) ?_
  obtain ⟨y6, hy7, hm⟩ := bind_of hm
  refine s_v (o_call (W94 _ bd118 (fun x0 o h0 hs ho => W118 _ (hs _ _ (hp_get 0 hk3 rfl)) ho) hy7) rfl bd94 rfl) ?_
  refine s_v (o_as (.sc (.bool _)) rfl) ?_
  refine s_nil ?_
  refine H5 _ _ ?_
  clear H5 K5
  refine AW_ret ?_
  cases hm
  exact Ret.of1 (.inl rfl) (rsT _ _ (.sc (.bool _)) rfl) (hp_sub (List.nil_sublist _) hk3).1 (ALe.refl _ _) ⟨rfl, rfl⟩
theorem bd81 : bodied Try.prog 81 = true := by kernel_rfl
def M80 (fuel : Nat) (p0 : List TLoc) (p1 : Bool) (c0 : Int) : Option (Bool) :=
  (M81 fuel p0 c0).bind fun y3 => some y3
set_option maxRecDepth 100000 in
/-- cellarer/stage.On$1 -/
theorem W80 {fuel : Nat} {p0 : List TLoc} {p1 : Bool} {c0 : Int} {o : Bool} (h : Heap) {c0K : Key} (c0H : h c0K = some (.obj 3 (c_i64 c0))) (hm : M80 fuel p0 p1 c0 = some o) :
    ACalls Try.prog 80 [.sl none 4 (List.map c_Loc p0), .sc (.bool p1), .ptr c0K 0] h (fun r h' => r = .sc (.bool o) ∧ h' = h) := by
  refine ACalls_hp 9 [.tmp 5] Try.func80 rfl rfl rfl rfl ?_
  unfold M80 at hm
  refine AW_k fun K1 H1 => ?_
  refine AW_reg ?_
  refine s_v (o_as (.sc (.bool _)) rfl) ?_
  refine s_nil ?_
  refine H1 _ _ ?_
  clear H1 K1
  refine AW_k fun K2 H2 => ?_
  refine AW_reg ?_
  refine s_v (o_mv (.sl _ _ _) rfl) ?_
  refine s_v (o_ldp (.sc (.int .i64 c0)) ld3 rfl c0H rfl) ?_
  obtain ⟨y3, hy4, hm⟩ := bind_of hm
  refine s_v (o_call (W81 _ hy4) rfl bd81 rfl) ?_
  refine s_v (o_as (.sc (.bool _)) rfl) ?_
  refine s_nil ?_
  refine H2 _ _ ?_
  clear H2 K2
  refine AW_ret ?_
  cases hm
  exact Ret.of1 (.inl rfl) (rsT _ _ (.sc (.bool _)) rfl) (Sub.refl _) (ALe.refl _ _) ⟨rfl, rfl⟩
theorem bd80 : bodied Try.prog 80 = true := by kernel_rfl
end Go.Proofs.Ytoomgangpjcaoaa
