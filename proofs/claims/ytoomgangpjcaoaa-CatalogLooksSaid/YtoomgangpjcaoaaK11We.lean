import Derived.Test.YtoomgangpjcaoaaK11Wd
set_option linter.unusedSimpArgs false
set_option linter.unusedVariables false
namespace Go.Proofs.Ytoomgangpjcaoaa
open Go.Vm
def M124_L0 (fuel : Nat) (p0 : List TPart) (p1 : TPart → Option Bool) (q29 : Int) : Option (Lp (Int) (Int)) :=
  if (decide (q29 < (p0.length : Int))) = true then ((ix p0 q29).bind fun x37 => (p1 x37).bind fun y39 => if y39 = true then (some (.ret q29)) else some (.go (IntKind.wrap .i64 (q29 + 1)))) else some (.brk q29)
def M124 (fuel : Nat) (p0 : List TPart) (p1 : TPart → Option Bool) : Option (Int) :=
  after (loopM (fun s => M124_L0 fuel p0 p1 s) fuel 0) fun r43 => some (-1)
set_option maxRecDepth 100000 in
/-- slices.IndexFunc(()cellarer/api.Part,cellarer/api.Part) -/
theorem W124 {fuel : Nat} {p0 : List TPart} {p1 : TPart → Option Bool} {o : Int} (h : Heap) {p1F : Nat} {p1C : List AV} (p1B : bodied Try.prog p1F = true) (p1H : ∀ x0 o h0, Sub h h0 → p1 x0 = some o → ACalls Try.prog p1F ([.agg (c_Part x0)] ++ p1C) h0 (fun r h' => r = .sc (.bool o) ∧ h' = h0)) (hm : M124 fuel p0 p1 = some o) :
    ACalls Try.prog 124 [.sl none 3 (List.map c_Part p0), .fn (.func p1F) p1C] h (fun r h' => r = .sc (.int .i64 o) ∧ h' = h) := by
  refine ACalls_hp 19 [.tmp 4] Try.func124 rfl rfl rfl rfl ?_
  unfold M124 at hm
  refine AW_k fun K1 H1 => ?_
  refine AW_reg ?_
  refine s_v (o_as (.sc (.int _ _)) rfl) ?_
  refine s_nil ?_
  refine H1 _ _ ?_
  clear H1 K1
  refine AW_k fun K2 H2 => ?_
  refine AW_k fun K3 H3 => ?_
  refine AW_reg ?_
  refine s_v (o_mv (.sl _ _ _) rfl) ?_
  refine s_v (o_lenm ln55 rfl) ?_
  refine s_v (o_mv (.sc (.int _ _)) rfl) ?_
  refine s_nil ?_
  refine H3 _ _ ?_
  clear H3 K3
  refine AW_loopG (n := 19) hm (σ := Int) (τ := Unit) (fun g s => HOk h []) (fun g s => kp (kp (kp (kp (k0) 8 (.sc (.int .i64 s))) 7 (.sc (.int .i64 (p0.length : Int)))) 1 (.fn (.func p1F) p1C)) 0 (.sl none 3 (List.map c_Part p0))) (fun g s => hp h []) () (HOk.nil _) (LeF.fm (Sub.refl _) (.cons (ALe.refl _ _) (.cons (ALe.refl _ _) (.cons (ALe.refl _ _) (.cons (ALe.refl _ _) (.nil)))))) ?_ ?_
  · rintro _ q29 x hk30 hm
    replace hm : M124_L0 fuel p0 p1 q29 = some x := hm
    unfold M124_L0 at hm
    refine AW_k fun K31 H31 => ?_
    refine AW_reg ?_
    refine s_v (o_bi rfl rfl rfl trivial) ?_
    refine s_nil ?_
    refine H31 _ _ ?_
    clear H31 K31
    refine AW_k fun K32 H32 => ?_
    refine AW_if' rfl (fun hc33 => ?_) (fun hc33 => ?_)
    · replace hm := ite_t hm hc33
      refine AW_skip ?_
      refine H32 _ _ ?_
      clear H32 K32
      refine AW_k fun K34 H34 => ?_
      refine AW_block ?_
      refine AW_k fun K35 H35 => ?_
      refine AW_reg ?_
      refine s_v (o_mv (.sc (.int _ _)) rfl) ?_
      refine s_v (o_as (.sc (.int _ _)) rfl) ?_
      refine s_nil ?_
      refine H35 _ _ ?_
      clear H35 K35
      refine AW_k fun K36 H36 => ?_
      refine AW_reg ?_
      refine s_v (o_mv (.fn _ _) rfl) ?_
      refine s_v (o_mv (.sl _ _ _) rfl) ?_
      refine s_v (o_mv (.sc (.int _ _)) rfl) ?_
      obtain ⟨x37, hx38, hm⟩ := bind_of hm
      refine s_v (o_ix hx38 el55 rfl rfl) ?_
      refine s_v (o_ld (.agg (c_Part x37)) ld82 rfl rfl) ?_
      obtain ⟨y39, hy40, hm⟩ := bind_of hm
      refine s_v (o_call (p1H _ _ _ (hp_sub (List.nil_sublist _) hk30).1 hy40) rfl p1B rfl) ?_
      refine s_nil ?_
      refine H36 _ _ ?_
      clear H36 K36
      refine AW_if' rfl (fun hc41 => ?_) (fun hc41 => ?_)
      · replace hm := ite_t hm hc41
        refine AW_k fun K42 H42 => ?_
        refine AW_reg ?_
        refine s_v (o_mv (.sc (.int _ _)) rfl) ?_
        refine s_v (o_as (.sc (.int _ _)) rfl) ?_
        refine s_nil ?_
        refine H42 _ _ ?_
        clear H42 K42
        refine AW_ret ?_
        cases hm
        refine ⟨⟨nofun, nofun⟩, fun he => ?_⟩
        subst he
        exact Ret.of1 (.inl rfl) (rsT _ _ (.sc (.int _ _)) rfl) (Sub.refl _) (ALe.refl _ _) ⟨rfl, rfl⟩
      · replace hm := ite_f hm hc41
        refine AW_skip ?_
        refine H34 _ _ ?_
        clear H34 K34
        refine AW_reg ?_
        refine s_v (o_bi rfl rfl rfl trivial) ?_
        refine s_v (o_mv (.sc (.int _ _)) rfl) ?_
        refine s_nil ?_
        cases hm
        exact ⟨rfl, (), hk30, LeF.fm (Sub.refl _) (.cons (ALe.refl _ _) (.cons (ALe.refl _ _) (.cons (ALe.refl _ _) (.cons (ALe.refl _ _) (.nil)))))⟩
    · replace hm := ite_f hm hc33
      refine AW_exit ?_
      refine Seq_exit ?_
      cases hm
      exact ⟨rfl, (), hk30, LeF.fm (Sub.refl _) (.cons (ALe.refl _ _) (.cons (ALe.refl _ _) (.cons (ALe.refl _ _) (.cons (ALe.refl _ _) (.nil)))))⟩
  · rintro _ r43 fr' h' hk44 hm le
    refine H2 _ _ (le.aw ?_)
    clear le H2 K2
    refine AW_k fun K45 H45 => ?_
    refine AW_reg ?_
    refine s_v (o_as (.sc (.int _ _)) rfl) ?_
    refine s_nil ?_
    refine H45 _ _ ?_
    clear H45 K45
    refine AW_ret ?_
    cases hm
    exact Ret.of1 (.inl rfl) (rsT _ _ (.sc (.int _ _)) rfl) (Sub.refl _) (ALe.refl _ _) ⟨rfl, rfl⟩
theorem bd124 : bodied Try.prog 124 = true := by kernel_rfl
def M91 (fuel : Nat) (p0 : List TPart) (p1 : TPart → Option Bool) : Option (Bool) :=
  (M124 fuel p0 p1).bind fun y3 => some (decide (0 ≤ y3))
set_option maxRecDepth 100000 in
/-- slices.ContainsFunc(()cellarer/api.Part,cellarer/api.Part) -/
theorem W91 {fuel : Nat} {p0 : List TPart} {p1 : TPart → Option Bool} {o : Bool} (h : Heap) {p1F : Nat} {p1C : List AV} (p1B : bodied Try.prog p1F = true) (p1H : ∀ x0 o h0, Sub h h0 → p1 x0 = some o → ACalls Try.prog p1F ([.agg (c_Part x0)] ++ p1C) h0 (fun r h' => r = .sc (.bool o) ∧ h' = h0)) (hm : M91 fuel p0 p1 = some o) :
    ACalls Try.prog 91 [.sl none 3 (List.map c_Part p0), .fn (.func p1F) p1C] h (fun r h' => r = .sc (.bool o) ∧ h' = h) := by
  refine ACalls_hp 9 [.tmp 4] Try.func91 rfl rfl rfl rfl ?_
  unfold M91 at hm
  refine AW_k fun K1 H1 => ?_
  refine AW_reg ?_
  refine s_v (o_as (.sc (.bool _)) rfl) ?_
  refine s_nil ?_
  refine H1 _ _ ?_
  clear H1 K1
  refine AW_k fun K2 H2 => ?_
  refine AW_reg ?_
  refine s_v (o_mv (.sl _ _ _) rfl) ?_
  refine s_v (o_mv (.fn _ _) rfl) ?_
  obtain ⟨y3, hy4, hm⟩ := bind_of hm
  refine s_v (o_call (W124 _ p1B (fun x0 o h0 hs ho => p1H x0 o h0 ((hp_sub (List.nil_sublist _) (HOk.nil _)).1.trans hs) ho) hy4) rfl bd124 rfl) ?_
  refine s_v (o_bi rfl rfl rfl trivial) ?_
  refine s_v (o_as (.sc (.bool _)) rfl) ?_
  refine s_nil ?_
  refine H2 _ _ ?_
  clear H2 K2
  refine AW_ret ?_
  cases hm
  exact Ret.of1 (.inl rfl) (rsT _ _ (.sc (.bool _)) rfl) (Sub.refl _) (ALe.refl _ _) ⟨rfl, rfl⟩
theorem bd91 : bodied Try.prog 91 = true := by kernel_rfl
def M125_L0 (fuel : Nat) (p0 : List Id32) (p1 : Id32) (q28 : Int) : Option (Lp (Int) (Int)) :=
  if (decide (q28 < (p0.length : Int))) = true then ((ix p0 q28).bind fun x36 => if (decide (p1 = x36)) = true then (some (.ret q28)) else some (.go (IntKind.wrap .i64 (q28 + 1)))) else some (.brk q28)
def M125 (fuel : Nat) (p0 : List Id32) (p1 : Id32) : Option (Int) :=
  after (loopM (fun s => M125_L0 fuel p0 p1 s) fuel 0) fun r40 => some (-1)
set_option maxRecDepth 100000 in
/-- slices.Index(()(32)byte,(32)byte) -/
theorem W125 {fuel : Nat} {p0 : List Id32} {p1 : Id32} {o : Int} (h : Heap) (hm : M125 fuel p0 p1 = some o) :
    ACalls Try.prog 125 [.sl none 32 (List.map c_id p0), .agg (c_id p1)] h (fun r h' => r = .sc (.int .i64 o) ∧ h' = h) := by
  refine ACalls_hp 19 [.tmp 4] Try.func125 rfl rfl rfl rfl ?_
  unfold M125 at hm
  refine AW_k fun K1 H1 => ?_
  refine AW_reg ?_
  refine s_op (a_box (HOk.nil _) rfl rfl fun k2 hk3 => ?_)
  refine s_v (o_as (.sc (.int _ _)) rfl) ?_
  refine s_nil ?_
  refine H1 _ _ ?_
  clear H1 K1
  refine AW_k fun K5 H5 => ?_
  refine AW_k fun K6 H6 => ?_
  refine AW_reg ?_
  refine s_v (o_mv (.sl _ _ _) rfl) ?_
  refine s_v (o_lenm ln80 rfl) ?_
  refine s_v (o_mv (.sc (.int _ _)) rfl) ?_
  refine s_nil ?_
  refine H6 _ _ ?_
  clear H6 K6
  refine AW_loopG (n := 19) hm (σ := Int) (τ := Unit) (fun g s => HOk h [(some k2, .obj 61 (c_id p1))]) (fun g s => kp (kp (kp (kp (k0) 8 (.sc (.int .i64 s))) 7 (.sc (.int .i64 (p0.length : Int)))) 3 (.ptr k2 0)) 0 (.sl none 32 (List.map c_id p0))) (fun g s => hp h [(some k2, .obj 61 (c_id p1))]) () hk3 (LeF.fm (Sub.refl _) (.cons (ALe.refl _ _) (.cons (ALe.refl _ _) (.cons (ALe.refl _ _) (.cons (ALe.refl _ _) (.nil)))))) ?_ ?_
  · rintro _ q28 x hk29 hm
    replace hm : M125_L0 fuel p0 p1 q28 = some x := hm
    unfold M125_L0 at hm
    refine AW_k fun K30 H30 => ?_
    refine AW_reg ?_
    refine s_v (o_bi rfl rfl rfl trivial) ?_
    refine s_nil ?_
    refine H30 _ _ ?_
    clear H30 K30
    refine AW_k fun K31 H31 => ?_
    refine AW_if' rfl (fun hc32 => ?_) (fun hc32 => ?_)
    · replace hm := ite_t hm hc32
      refine AW_skip ?_
      refine H31 _ _ ?_
      clear H31 K31
      refine AW_k fun K33 H33 => ?_
      refine AW_block ?_
      refine AW_k fun K34 H34 => ?_
      refine AW_reg ?_
      refine s_v (o_mv (.sc (.int _ _)) rfl) ?_
      refine s_v (o_as (.sc (.int _ _)) rfl) ?_
      refine s_nil ?_
      refine H34 _ _ ?_
      clear H34 K34
      refine AW_k fun K35 H35 => ?_
      refine AW_region_q [(some 11, [3], []), (some 12, [0], []), (some 13, [5], []), (some 14, [12, 13], [1, 2]), (some 15, [14], [3]), (some 16, [11, 15], [0, 4])] mixed (by kernel_rfl) (by kernel_rfl) ?_
      refine q_v (o_ldp (.agg (c_id p1)) ld61 rfl (hp_get 0 hk29 rfl) rfl) ?_
      refine q_v (o_mv (.sl _ _ _) rfl) ?_
      refine q_v (o_mv (.sc (.int _ _)) rfl) ?_
      obtain ⟨x36, hx37, hm⟩ := bind_of hm
      refine q_v (o_ix hx37 el80 rfl rfl) ?_
      refine q_v (o_ld (.agg (c_id x36)) ld61 rfl rfl) ?_
      refine q_v (o_ide eg61 u61 u5 ld5 rfl rfl) ?_
      refine q_nil ?_
      refine H35 _ _ ?_
      clear H35 K35
      refine AW_if' rfl (fun hc38 => ?_) (fun hc38 => ?_)
      · replace hm := ite_t hm hc38
        refine AW_k fun K39 H39 => ?_
        refine AW_reg ?_
        refine s_v (o_mv (.sc (.int _ _)) rfl) ?_
        refine s_v (o_as (.sc (.int _ _)) rfl) ?_
        refine s_nil ?_
        refine H39 _ _ ?_
        clear H39 K39
        refine AW_ret ?_
        cases hm
        refine ⟨⟨nofun, nofun⟩, fun he => ?_⟩
        subst he
        exact Ret.of1 (.inl rfl) (rsT _ _ (.sc (.int _ _)) rfl) (hp_sub (List.nil_sublist _) hk29).1 (ALe.refl _ _) ⟨rfl, rfl⟩
      · replace hm := ite_f hm hc38
        refine AW_skip ?_
        refine H33 _ _ ?_
        clear H33 K33
        refine AW_reg ?_
        refine s_v (o_bi rfl rfl rfl trivial) ?_
        refine s_v (o_mv (.sc (.int _ _)) rfl) ?_
        refine s_nil ?_
        cases hm
        exact ⟨rfl, (), hk29, LeF.fm (Sub.refl _) (.cons (ALe.refl _ _) (.cons (ALe.refl _ _) (.cons (ALe.refl _ _) (.cons (ALe.refl _ _) (.nil)))))⟩
    · replace hm := ite_f hm hc32
      refine AW_exit ?_
      refine Seq_exit ?_
      cases hm
      exact ⟨rfl, (), hk29, LeF.fm (Sub.refl _) (.cons (ALe.refl _ _) (.cons (ALe.refl _ _) (.cons (ALe.refl _ _) (.cons (ALe.refl _ _) (.nil)))))⟩
  · rintro _ r40 fr' h' hk41 hm le
    refine H5 _ _ (le.aw ?_)
    clear le H5 K5
    refine AW_k fun K42 H42 => ?_
    refine AW_reg ?_
    refine s_v (o_as (.sc (.int _ _)) rfl) ?_
    refine s_nil ?_
    refine H42 _ _ ?_
    clear H42 K42
    refine AW_ret ?_
    cases hm
    exact Ret.of1 (.inl rfl) (rsT _ _ (.sc (.int _ _)) rfl) (hp_sub (List.nil_sublist _) hk41).1 (ALe.refl _ _) ⟨rfl, rfl⟩
theorem bd125 : bodied Try.prog 125 = true := by kernel_rfl
def M93 (fuel : Nat) (p0 : List Id32) (p1 : Id32) : Option (Bool) :=
  (M125 fuel p0 p1).bind fun y6 => some (decide (0 ≤ y6))
set_option maxRecDepth 100000 in
/-- slices.Contains(()(32)byte,(32)byte) -/
theorem W93 {fuel : Nat} {p0 : List Id32} {p1 : Id32} {o : Bool} (h : Heap) (hm : M93 fuel p0 p1 = some o) :
    ACalls Try.prog 93 [.sl none 32 (List.map c_id p0), .agg (c_id p1)] h (fun r h' => r = .sc (.bool o) ∧ h' = h) := by
  refine ACalls_hp 9 [.tmp 4] Try.func93 rfl rfl rfl rfl ?_
  unfold M93 at hm
  refine AW_k fun K1 H1 => ?_
  refine AW_reg ?_
  refine s_op (a_box (HOk.nil _) rfl rfl fun k2 hk3 => ?_)
  refine s_v (o_as (.sc (.bool _)) rfl) ?_
  refine s_nil ?_
  refine H1 _ _ ?_
  clear H1 K1
  refine AW_k fun K5 H5 => ?_
  refine AW_reg ?_
  refine s_v (o_mv (.sl _ _ _) rfl) ?_
  refine s_v (o_ldp (.agg (c_id p1)) ld61 rfl (hp_get 0 hk3 rfl) rfl) ?_
  obtain ⟨y6, hy7, hm⟩ := bind_of hm
  refine s_v (o_call (W125 _ hy7) rfl bd125 rfl) ?_
  refine s_v (o_bi rfl rfl rfl trivial) ?_
  refine s_v (o_as (.sc (.bool _)) rfl) ?_
  refine s_nil ?_
  refine H5 _ _ ?_
  clear H5 K5
  refine AW_ret ?_
  cases hm
  exact Ret.of1 (.inl rfl) (rsT _ _ (.sc (.bool _)) rfl) (hp_sub (List.nil_sublist _) hk3).1 (ALe.refl _ _) ⟨rfl, rfl⟩
theorem bd93 : bodied Try.prog 93 = true := by kernel_rfl
def M92 (fuel : Nat) (p0 : TPart) (c0 : Id32) : Option (Bool) :=
  (M93 fuel p0.Ids c0).bind fun y6 => some y6
set_option maxRecDepth 100000 in
/-- cellarer/catalog.Used$1$1 -/
theorem W92 {fuel : Nat} {p0 : TPart} {c0 : Id32} {o : Bool} (h : Heap) {c0K : Key} (c0H : h c0K = some (.obj 61 (c_id c0))) (hm : M92 fuel p0 c0 = some o) :
    ACalls Try.prog 92 [.agg (c_Part p0), .ptr c0K 0] h (fun r h' => r = .sc (.bool o) ∧ h' = h) := by
  refine ACalls_hp 8 [.tmp 3] Try.func92 rfl rfl rfl rfl ?_
  unfold M92 at hm
  refine AW_k fun K1 H1 => ?_
  refine AW_reg ?_
  refine s_op (a_box (HOk.nil _) rfl rfl fun k2 hk3 => ?_)
  refine s_v (o_as (.sc (.bool _)) rfl) ?_
  refine s_nil ?_
  refine H1 _ _ ?_
  clear H1 K1
  refine AW_k fun K5 H5 => ?_
  refine AW_reg ?_
  refine s_v (o_flp fd82_2 rfl rfl) ?_
  refine s_v (o_ldp (.sl none 32 (List.map c_id p0.Ids)) ld80 rfl (hp_get 0 hk3 rfl) rfl) ?_
  refine s_v (o_ldp (.agg (c_id c0)) ld61 rfl (hp_base hk3 c0H) rfl) ?_
  obtain ⟨y6, hy7, hm⟩ := bind_of hm
  refine s_v (o_call (W93 _ hy7) rfl bd93 rfl) ?_
  refine s_v (o_as (.sc (.bool _)) rfl) ?_
  refine s_nil ?_
  refine H5 _ _ ?_
  clear H5 K5
  refine AW_ret ?_
  cases hm
  exact Ret.of1 (.inl rfl) (rsT _ _ (.sc (.bool _)) rfl) (hp_sub (List.nil_sublist _) hk3).1 (ALe.refl _ _) ⟨rfl, rfl⟩
theorem bd92 : bodied Try.prog 92 = true := by kernel_rfl
def M90 (fuel : Nat) (p0 : TSnap) (c0 : Id32) : Option (Bool) :=
  (M91 fuel p0.Man.Parts (fun x0 => M92 fuel x0 c0)).bind fun y6 => some y6
set_option maxRecDepth 100000 in
/-- cellarer/catalog.Used$1 -/
theorem W90 {fuel : Nat} {p0 : TSnap} {c0 : Id32} {o : Bool} (h : Heap) {c0K : Key} (c0H : h c0K = some (.obj 61 (c_id c0))) (hm : M90 fuel p0 c0 = some o) :
    ACalls Try.prog 90 [.agg (c_Snap p0), .ptr c0K 0] h (fun r h' => r = .sc (.bool o) ∧ h' = h) := by
  refine ACalls_hp 9 [.tmp 3] Try.func90 rfl rfl rfl rfl ?_
  unfold M90 at hm
  refine AW_k fun K1 H1 => ?_
  refine AW_reg ?_
  refine s_op (a_box (HOk.nil _) rfl rfl fun k2 hk3 => ?_)
  refine s_v (o_as (.sc (.bool _)) rfl) ?_
  refine s_nil ?_
  refine H1 _ _ ?_
  clear H1 K1
  refine AW_k fun K5 H5 => ?_
  refine AW_reg ?_
  refine s_v (o_flp fd60_1 rfl rfl) ?_
  refine s_v (o_flp fd57_1 rfl rfl) ?_
  refine s_v (o_ldp (.sl none 3 (List.map c_Part p0.Man.Parts)) ld55 rfl (hp_get 0 hk3 rfl) rfl) ?_
  refine s_v (o_mf rfl) ?_
  obtain ⟨y6, hy7, hm⟩ := bind_of hm
  refine s_v (o_call (W91 _ bd92 (fun x0 o h0 hs ho => W92 _ (hs _ _ (hp_base hk3 c0H)) ho) hy7) rfl bd91 rfl) ?_
  refine s_v (o_as (.sc (.bool _)) rfl) ?_
  refine s_nil ?_
  refine H5 _ _ ?_
  clear H5 K5
  refine AW_ret ?_
  cases hm
  exact Ret.of1 (.inl rfl) (rsT _ _ (.sc (.bool _)) rfl) (hp_sub (List.nil_sublist _) hk3).1 (ALe.refl _ _) ⟨rfl, rfl⟩
theorem bd90 : bodied Try.prog 90 = true := by kernel_rfl
def M44 (fuel : Nat) (p0 : TCatalog) (p1 : Id32) : Option (Bool) :=
  (M89 fuel p0.Snaps (fun x0 => M90 fuel x0 p1)).bind fun y9 => some y9
set_option maxRecDepth 100000 in
/-- cellarer/catalog.Used -/
theorem W44 {fuel : Nat} {p0 : TCatalog} {p1 : Id32} {o : Bool} (h : Heap) (hm : M44 fuel p0 p1 = some o) :
    ACalls Try.prog 44 [.agg (c_Catalog p0), .agg (c_id p1)] h (fun r h' => r = .sc (.bool o) ∧ h' = h) := by
  refine ACalls_hp 9 [.tmp 4] Try.func44 rfl rfl rfl rfl ?_
  unfold M44 at hm
  refine AW_k fun K1 H1 => ?_
  refine AW_reg ?_
  refine s_op (a_box (HOk.nil _) rfl rfl fun k2 hk3 => ?_)
  refine s_op (a_box hk3 rfl rfl fun k5 hk6 => ?_)
  refine s_v (o_as (.sc (.bool _)) rfl) ?_
  refine s_nil ?_
  refine H1 _ _ ?_
  clear H1 K1
  refine AW_k fun K8 H8 => ?_
  refine AW_reg ?_
  refine s_v (o_flp fd27_1 rfl rfl) ?_
  refine s_v (o_ldp (.sl none 4 (List.map c_Snap p0.Snaps)) ld22 rfl (hp_get 1 hk6 rfl) rfl) ?_
  refine s_v (o_mf rfl) ?_
  obtain ⟨y9, hy10, hm⟩ := bind_of hm
  refine s_v (o_call (W89 _ bd90 (fun x0 o h0 hs ho => W90 _ (hs _ _ (hp_get 0 hk6 rfl)) ho) hy10) rfl bd89 rfl) ?_
  refine s_v (o_as (.sc (.bool _)) rfl) ?_
  refine s_nil ?_
  refine H8 _ _ ?_
  clear H8 K8
  refine AW_ret ?_
  cases hm
  exact Ret.of1 (.inl rfl) (rsT _ _ (.sc (.bool _)) rfl) (hp_sub (List.nil_sublist _) hk6).1 (ALe.refl _ _) ⟨rfl, rfl⟩
theorem bd44 : bodied Try.prog 44 = true := by kernel_rfl
def M119_L0 (fuel : Nat) (p0 : List TLoc) (p1 : TLoc → Option Bool) (q29 : Int) : Option (Lp (Int) (Int)) :=
  if (decide (q29 < (p0.length : Int))) = true then ((ix p0 q29).bind fun x37 => (p1 x37).bind fun y39 => if y39 = true then (some (.ret q29)) else some (.go (IntKind.wrap .i64 (q29 + 1)))) else some (.brk q29)
def M119 (fuel : Nat) (p0 : List TLoc) (p1 : TLoc → Option Bool) : Option (Int) :=
  after (loopM (fun s => M119_L0 fuel p0 p1 s) fuel 0) fun r43 => some (-1)
set_option maxRecDepth 100000 in
/-- slices.IndexFunc(()cellarer/api.Loc,cellarer/api.Loc) -/
theorem W119 {fuel : Nat} {p0 : List TLoc} {p1 : TLoc → Option Bool} {o : Int} (h : Heap) {p1F : Nat} {p1C : List AV} (p1B : bodied Try.prog p1F = true) (p1H : ∀ x0 o h0, Sub h h0 → p1 x0 = some o → ACalls Try.prog p1F ([.agg (c_Loc x0)] ++ p1C) h0 (fun r h' => r = .sc (.bool o) ∧ h' = h0)) (hm : M119 fuel p0 p1 = some o) :
    ACalls Try.prog 119 [.sl none 4 (List.map c_Loc p0), .fn (.func p1F) p1C] h (fun r h' => r = .sc (.int .i64 o) ∧ h' = h) := by
  refine ACalls_hp 19 [.tmp 4] Try.func119 rfl rfl rfl rfl ?_
  unfold M119 at hm
  refine AW_k fun K1 H1 => ?_
  refine AW_reg ?_
  refine s_v (o_as (.sc (.int _ _)) rfl) ?_
  refine s_nil ?_
  refine H1 _ _ ?_
  clear H1 K1
  refine AW_k fun K2 H2 => ?_
  refine AW_k fun K3 H3 => ?_
  refine AW_reg ?_
  refine s_v (o_mv (.sl _ _ _) rfl) ?_
  refine s_v (o_lenm ln58 rfl) ?_
  refine s_v (o_mv (.sc (.int _ _)) rfl) ?_
  refine s_nil ?_
  refine H3 _ _ ?_
  clear H3 K3
  refine AW_loopG (n := 19) hm (σ := Int) (τ := Unit) (fun g s => HOk h []) (fun g s => kp (kp (kp (kp (k0) 8 (.sc (.int .i64 s))) 7 (.sc (.int .i64 (p0.length : Int)))) 1 (.fn (.func p1F) p1C)) 0 (.sl none 4 (List.map c_Loc p0))) (fun g s => hp h []) () (HOk.nil _) (LeF.fm (Sub.refl _) (.cons (ALe.refl _ _) (.cons (ALe.refl _ _) (.cons (ALe.refl _ _) (.cons (ALe.refl _ _) (.nil)))))) ?_ ?_
  · rintro _ q29 x hk30 hm
    replace hm : M119_L0 fuel p0 p1 q29 = some x := hm
    unfold M119_L0 at hm
    refine AW_k fun K31 H31 => ?_
    refine AW_reg ?_
    refine s_v (o_bi rfl rfl rfl trivial) ?_
    refine s_nil ?_
    refine H31 _ _ ?_
    clear H31 K31
    refine AW_k fun K32 H32 => ?_
    refine AW_if' rfl (fun hc33 => ?_) (fun hc33 => ?_)
    · replace hm := ite_t hm hc33
      refine AW_skip ?_
      refine H32 _ _ ?_
      clear H32 K32
      refine AW_k fun K34 H34 => ?_
      refine AW_block ?_
      refine AW_k fun K35 H35 => ?_
      refine AW_reg ?_
      refine s_v (o_mv (.sc (.int _ _)) rfl) ?_
      refine s_v (o_as (.sc (.int _ _)) rfl) ?_
      refine s_nil ?_
      refine H35 _ _ ?_
      clear H35 K35
      refine AW_k fun K36 H36 => ?_
      refine AW_reg ?_
      refine s_v (o_mv (.fn _ _) rfl) ?_
      refine s_v (o_mv (.sl _ _ _) rfl) ?_
      refine s_v (o_mv (.sc (.int _ _)) rfl) ?_
      obtain ⟨x37, hx38, hm⟩ := bind_of hm
      refine s_v (o_ix hx38 el58 rfl rfl) ?_
      refine s_v (o_ld (.agg (c_Loc x37)) ld77 rfl rfl) ?_
      obtain ⟨y39, hy40, hm⟩ := bind_of hm
      refine s_v (o_call (p1H _ _ _ (hp_sub (List.nil_sublist _) hk30).1 hy40) rfl p1B rfl) ?_
      refine s_nil ?_
      refine H36 _ _ ?_
      clear H36 K36
      refine AW_if' rfl (fun hc41 => ?_) (fun hc41 => ?_)
      · replace hm := ite_t hm hc41
        refine AW_k fun K42 H42 => ?_
        refine AW_reg ?_
        refine s_v (o_mv (.sc (.int _ _)) rfl) ?_
        refine s_v (o_as (.sc (.int _ _)) rfl) ?_
        refine s_nil ?_
        refine H42 _ _ ?_
        clear H42 K42
        refine AW_ret ?_
        cases hm
        refine ⟨⟨nofun, nofun⟩, fun he => ?_⟩
        subst he
        exact Ret.of1 (.inl rfl) (rsT _ _ (.sc (.int _ _)) rfl) (Sub.refl _) (ALe.refl _ _) ⟨rfl, rfl⟩
      · replace hm := ite_f hm hc41
        refine AW_skip ?_
        refine H34 _ _ ?_
        clear H34 K34
        refine AW_reg ?_
        refine s_v (o_bi rfl rfl rfl trivial) ?_
        refine s_v (o_mv (.sc (.int _ _)) rfl) ?_
        refine s_nil ?_
        cases hm
        exact ⟨rfl, (), hk30, LeF.fm (Sub.refl _) (.cons (ALe.refl _ _) (.cons (ALe.refl _ _) (.cons (ALe.refl _ _) (.cons (ALe.refl _ _) (.nil)))))⟩
    · replace hm := ite_f hm hc33
      refine AW_exit ?_
      refine Seq_exit ?_
      cases hm
      exact ⟨rfl, (), hk30, LeF.fm (Sub.refl _) (.cons (ALe.refl _ _) (.cons (ALe.refl _ _) (.cons (ALe.refl _ _) (.cons (ALe.refl _ _) (.nil)))))⟩
  · rintro _ r43 fr' h' hk44 hm le
    refine H2 _ _ (le.aw ?_)
    clear le H2 K2
    refine AW_k fun K45 H45 => ?_
    refine AW_reg ?_
    refine s_v (o_as (.sc (.int _ _)) rfl) ?_
    refine s_nil ?_
    refine H45 _ _ ?_
    clear H45 K45
    refine AW_ret ?_
    cases hm
    exact Ret.of1 (.inl rfl) (rsT _ _ (.sc (.int _ _)) rfl) (Sub.refl _) (ALe.refl _ _) ⟨rfl, rfl⟩
theorem bd119 : bodied Try.prog 119 = true := by kernel_rfl
def M94 (fuel : Nat) (p0 : List TLoc) (p1 : TLoc → Option Bool) : Option (Bool) :=
  (M119 fuel p0 p1).bind fun y3 => some (decide (0 ≤ y3))
set_option maxRecDepth 100000 in
/-- slices.ContainsFunc(()cellarer/api.Loc,cellarer/api.Loc) -/
theorem W94 {fuel : Nat} {p0 : List TLoc} {p1 : TLoc → Option Bool} {o : Bool} (h : Heap) {p1F : Nat} {p1C : List AV} (p1B : bodied Try.prog p1F = true) (p1H : ∀ x0 o h0, Sub h h0 → p1 x0 = some o → ACalls Try.prog p1F ([.agg (c_Loc x0)] ++ p1C) h0 (fun r h' => r = .sc (.bool o) ∧ h' = h0)) (hm : M94 fuel p0 p1 = some o) :
    ACalls Try.prog 94 [.sl none 4 (List.map c_Loc p0), .fn (.func p1F) p1C] h (fun r h' => r = .sc (.bool o) ∧ h' = h) := by
  refine ACalls_hp 9 [.tmp 4] Try.func94 rfl rfl rfl rfl ?_
  unfold M94 at hm
  refine AW_k fun K1 H1 => ?_
  refine AW_reg ?_
  refine s_v (o_as (.sc (.bool _)) rfl) ?_
  refine s_nil ?_
  refine H1 _ _ ?_
  clear H1 K1
  refine AW_k fun K2 H2 => ?_
  refine AW_reg ?_
  refine s_v (o_mv (.sl _ _ _) rfl) ?_
  refine s_v (o_mv (.fn _ _) rfl) ?_
  obtain ⟨y3, hy4, hm⟩ := bind_of hm
  refine s_v (o_call (W119 _ p1B (fun x0 o h0 hs ho => p1H x0 o h0 ((hp_sub (List.nil_sublist _) (HOk.nil _)).1.trans hs) ho) hy4) rfl bd119 rfl) ?_
  refine s_v (o_bi rfl rfl rfl trivial) ?_
  refine s_v (o_as (.sc (.bool _)) rfl) ?_
  refine s_nil ?_
  refine H2 _ _ ?_
  clear H2 K2
  refine AW_ret ?_
  cases hm
  exact Ret.of1 (.inl rfl) (rsT _ _ (.sc (.bool _)) rfl) (Sub.refl _) (ALe.refl _ _) ⟨rfl, rfl⟩
theorem bd94 : bodied Try.prog 94 = true := by kernel_rfl
def M95 (fuel : Nat) (p0 : TLoc) (c0 : TCatalog) (c1 : Int) : Option (Bool) :=
  after ((M68 fuel p0.Vol 0 (IntKind.wrap .i64 ((c0.Vols.length : Int) - 1))).bind fun y12 => if y12 = true then ((ix c0.Vols p0.Vol).bind fun x15 => some (.brk (x15.Pool == c1))) else some (.brk false) : Option (Lp (Bool) (Bool))) fun j11 => some j11
set_option maxRecDepth 100000 in
/-- cellarer/catalog.In$1 -/
theorem W95 {fuel : Nat} {p0 : TLoc} {c0 : TCatalog} {c1 : Int} {o : Bool} (h : Heap) {c0K : Key} (c0H : h c0K = some (.obj 27 (c_Catalog c0))) {c1K : Key} (c1H : h c1K = some (.obj 3 (c_i64 c1))) (hm : M95 fuel p0 c0 c1 = some o) :
    ACalls Try.prog 95 [.agg (c_Loc p0), .ptr c0K 0, .ptr c1K 0] h (fun r h' => r = .sc (.bool o) ∧ h' = h) := by
  refine ACalls_hp 23 [.tmp 4] Try.func95 rfl rfl rfl rfl ?_
  unfold M95 at hm
  refine AW_k fun K1 H1 => ?_
  refine AW_reg ?_
  refine s_op (a_box (HOk.nil _) rfl rfl fun k2 hk3 => ?_)
  refine s_v (o_as (.sc (.bool _)) rfl) ?_
  refine s_nil ?_
  refine H1 _ _ ?_
  clear H1 K1
  refine AW_k fun K5 H5 => ?_
  refine AW_joinG (n := 23) hm (σ := Bool) (τ := Unit) (fun g s => HOk h [(some k2, .obj 77 (c_Loc p0))]) (fun g s => kp (k0) 4 (.sc (.bool s))) (fun g s => hp h [(some k2, .obj 77 (c_Loc p0))]) (fun x hm => ?_) ?_
  · refine AW_region_q [(some 5, [3], []), (some 6, [5], [0]), (some 7, [1], []), (some 8, [7], [2]), (some 9, [8], [3]), (some 10, [9], [4]), (some 11, [6, 10], [1, 5]), (some 12, [11], [6, 6]), (some 13, [1, 12], [7]), (some 14, [13, 12], [8, 7]), (some 15, [3, 12], [7]), (some 16, [15, 12], [10, 7]), (some 17, [14, 16, 12], [9, 11, 7]), (some 18, [17, 12], [12, 7]), (some 19, [18, 12], [13, 7]), (some 20, [2, 12], [7]), (some 21, [19, 20, 12], [14, 15, 7]), (some 22, [12, 21], [7, 16]), (some 4, [22], [17, 7, 0, 1, 2, 3, 4, 5, 6, 7, 8, 9, 10, 11, 12, 13, 14, 15, 16, 17])] mixed (by kernel_rfl) (by kernel_rfl) ?_
    refine q_v (o_flp fd77_0 rfl rfl) ?_
    refine q_v (o_ldp (.sc (.int .i64 p0.Vol)) ld3 rfl (hp_get 0 hk3 rfl) rfl) ?_
    refine q_v (o_flp fd27_4 rfl rfl) ?_
    refine q_v (o_ldp (.sl none 4 (List.map c_Vol c0.Vols)) ld25 rfl (hp_base hk3 c0H) rfl) ?_
    refine q_v (o_lenm ln25 rfl) ?_
    refine q_v (o_bi rfl rfl rfl trivial) ?_
    obtain ⟨y12, hy13, hm⟩ := bind_of hm
    refine q_v (o_call (W68 _ hy13) rfl bd68 rfl) ?_
    refine q_v (o_mv (.sc (.bool _)) rfl) ?_
    rcases Bool.eq_false_or_eq_true y12 with hb14 | hb14
    · replace hm := ite_t hm hb14
      refine qg_y rfl rfl hb14 ?_
      refine q_v (o_flp fd27_4 rfl rfl) ?_
      refine qg_y rfl rfl hb14 ?_
      refine q_v (o_ldp (.sl none 4 (List.map c_Vol c0.Vols)) ld25 rfl (hp_base hk3 c0H) rfl) ?_
      refine qg_y rfl rfl hb14 ?_
      refine q_v (o_flp fd77_0 rfl rfl) ?_
      refine qg_y rfl rfl hb14 ?_
      refine q_v (o_ldp (.sc (.int .i64 p0.Vol)) ld3 rfl (hp_get 0 hk3 rfl) rfl) ?_
      refine qg_y rfl rfl hb14 ?_
      obtain ⟨x15, hx16, hm⟩ := bind_of hm
      refine q_v (o_ix hx16 el25 rfl rfl) ?_
      refine qg_y rfl rfl hb14 ?_
      refine q_v (o_fl fd40_0 rfl rfl) ?_
      refine qg_y rfl rfl hb14 ?_
      refine q_v (o_ld (.sc (.int .i64 x15.Pool)) ld3 rfl rfl) ?_
      refine qg_y rfl rfl hb14 ?_
      refine q_v (o_ldp (.sc (.int .i64 c1)) ld3 rfl (hp_base hk3 c1H) rfl) ?_
      refine qg_y rfl rfl hb14 ?_
      refine q_v (o_bi rfl rfl rfl trivial) ?_
      refine q_v (o_pkt (.sc (.bool _)) rfl hb14 rfl) ?_
      refine q_v (o_as (.sc (.bool _)) rfl) ?_
      refine q_nil ?_
      cases hm
      exact ⟨rfl, (), hk3, LeF.fm (Sub.refl _) (.cons (ALe.refl _ _) (.nil))⟩
    · replace hm := ite_f hm hb14
      refine qg_n rfl rfl hb14 ?_
      refine qg_n rfl rfl hb14 ?_
      refine qg_n rfl rfl hb14 ?_
      refine qg_n rfl rfl hb14 ?_
      refine qg_n rfl rfl hb14 ?_
      refine qg_n rfl rfl hb14 ?_
      refine qg_n rfl rfl hb14 ?_
      refine qg_n rfl rfl hb14 ?_
      refine qg_n rfl rfl hb14 ?_
      refine q_v (o_pkf (.sc (.bool _)) rfl hb14 rfl) ?_
      refine q_v (o_as (.sc (.bool _)) rfl) ?_
      refine q_nil ?_
      cases hm
      exact ⟨rfl, (), hk3, LeF.fm (Sub.refl _) (.cons (ALe.refl _ _) (.nil))⟩
  · rintro _ j11 fr' h' hk17 hm le
    refine H5 _ _ (le.aw ?_)
    clear le H5 K5
    refine AW_ret ?_
    cases hm
    exact Ret.of1 (.inl rfl) (rsT _ _ (.sc (.bool _)) rfl) (hp_sub (List.nil_sublist _) hk17).1 (ALe.refl _ _) ⟨rfl, rfl⟩
theorem bd95 : bodied Try.prog 95 = true := by kernel_rfl
def M46 (fuel : Nat) (p0 : TCatalog) (p1 : List TLoc) (p2 : Int) : Option (Bool) :=
  (M94 fuel p1 (fun x0 => M95 fuel x0 p0 p2)).bind fun y9 => some y9
set_option maxRecDepth 100000 in
/-- cellarer/catalog.In -/
theorem W46 {fuel : Nat} {p0 : TCatalog} {p1 : List TLoc} {p2 : Int} {o : Bool} (h : Heap) (hm : M46 fuel p0 p1 p2 = some o) :
    ACalls Try.prog 46 [.agg (c_Catalog p0), .sl none 4 (List.map c_Loc p1), .sc (.int .i64 p2)] h (fun r h' => r = .sc (.bool o) ∧ h' = h) := by
  refine ACalls_hp 10 [.tmp 6] Try.func46 rfl rfl rfl rfl ?_
  unfold M46 at hm
  refine AW_k fun K1 H1 => ?_
  refine AW_reg ?_
  refine s_op (a_box (HOk.nil _) rfl rfl fun k2 hk3 => ?_)
  refine s_op (a_box hk3 rfl rfl fun k5 hk6 => ?_)
  refine s_v (o_as (.sc (.bool _)) rfl) ?_
  refine s_nil ?_
  refine H1 _ _ ?_
  clear H1 K1
  refine AW_k fun K8 H8 => ?_
  refine AW_reg ?_
  refine s_v (o_mv (.sl _ _ _) rfl) ?_
  refine s_v (o_mf rfl) ?_
  obtain ⟨y9, hy10, hm⟩ := bind_of hm
  refine s_v (o_call (W94 _ bd95 (fun x0 o h0 hs ho => W95 _ (hs _ _ (hp_get 1 hk6 rfl)) (hs _ _ (hp_get 0 hk6 rfl)) ho) hy10) rfl bd94 rfl) ?_
  refine s_v (o_as (.sc (.bool _)) rfl) ?_
  refine s_nil ?_
  refine H8 _ _ ?_
  clear H8 K8
  refine AW_ret ?_
  cases hm
  exact Ret.of1 (.inl rfl) (rsT _ _ (.sc (.bool _)) rfl) (hp_sub (List.nil_sublist _) hk6).1 (ALe.refl _ _) ⟨rfl, rfl⟩
theorem bd46 : bodied Try.prog 46 = true := by kernel_rfl
def M97 (fuel : Nat) (p0 : TSnap) (c0 : ByteArray) : Option (Bool) :=
  some (p0.Man.Name.toList == c0.toList)
set_option maxRecDepth 100000 in
/-- cellarer/catalog.Snap$1 -/
theorem W97 {fuel : Nat} {p0 : TSnap} {c0 : ByteArray} {o : Bool} (h : Heap) {c0K : Key} (c0H : h c0K = some (.obj 9 (c_str c0))) (hm : M97 fuel p0 c0 = some o) :
    ACalls Try.prog 97 [.agg (c_Snap p0), .ptr c0K 0] h (fun r h' => r = .sc (.bool o) ∧ h' = h) := by
  refine ACalls_hp 9 [.tmp 3] Try.func97 rfl rfl rfl rfl ?_
  unfold M97 at hm
  refine AW_k fun K1 H1 => ?_
  refine AW_reg ?_
  refine s_op (a_box (HOk.nil _) rfl rfl fun k2 hk3 => ?_)
  refine s_v (o_as (.sc (.bool _)) rfl) ?_
  refine s_nil ?_
  refine H1 _ _ ?_
  clear H1 K1
  refine AW_k fun K5 H5 => ?_
  refine AW_reg ?_
  refine s_v (o_flp fd60_1 rfl rfl) ?_
  refine s_v (o_flp fd57_0 rfl rfl) ?_
  refine s_v (o_ldp (.sc (.string p0.Man.Name)) ld9 rfl (hp_get 0 hk3 rfl) rfl) ?_
  refine s_v (o_ldp (.sc (.string c0)) ld9 rfl (hp_base hk3 c0H) rfl) ?_
  refine s_v (o_bs rfl rfl rfl trivial) ?_
  refine s_v (o_as (.sc (.bool _)) rfl) ?_
  refine s_nil ?_
  refine H5 _ _ ?_
  clear H5 K5
  refine AW_ret ?_
  cases hm
  exact Ret.of1 (.inl rfl) (rsT _ _ (.sc (.bool _)) rfl) (hp_sub (List.nil_sublist _) hk3).1 (ALe.refl _ _) ⟨rfl, rfl⟩
theorem bd97 : bodied Try.prog 97 = true := by kernel_rfl
def M47 (fuel : Nat) (p0 : TCatalog) (p1 : ByteArray) : Option (Int) :=
  (M96 fuel p0.Snaps (fun x0 => M97 fuel x0 p1)).bind fun y9 => some y9
set_option maxRecDepth 100000 in
/-- cellarer/catalog.Snap -/
theorem W47 {fuel : Nat} {p0 : TCatalog} {p1 : ByteArray} {o : Int} (h : Heap) (hm : M47 fuel p0 p1 = some o) :
    ACalls Try.prog 47 [.agg (c_Catalog p0), .sc (.string p1)] h (fun r h' => r = .sc (.int .i64 o) ∧ h' = h) := by
  refine ACalls_hp 9 [.tmp 4] Try.func47 rfl rfl rfl rfl ?_
  unfold M47 at hm
  refine AW_k fun K1 H1 => ?_
  refine AW_reg ?_
  refine s_op (a_box (HOk.nil _) rfl rfl fun k2 hk3 => ?_)
  refine s_op (a_box hk3 rfl rfl fun k5 hk6 => ?_)
  refine s_v (o_as (.sc (.int _ _)) rfl) ?_
  refine s_nil ?_
  refine H1 _ _ ?_
  clear H1 K1
  refine AW_k fun K8 H8 => ?_
  refine AW_reg ?_
  refine s_v (o_flp fd27_1 rfl rfl) ?_
  refine s_v (o_ldp (.sl none 4 (List.map c_Snap p0.Snaps)) ld22 rfl (hp_get 1 hk6 rfl) rfl) ?_
  refine s_v (o_mf rfl) ?_
  obtain ⟨y9, hy10, hm⟩ := bind_of hm
  refine s_v (o_call (W96 _ bd97 (fun x0 o h0 hs ho => W97 _ (hs _ _ (hp_get 0 hk6 rfl)) ho) hy10) rfl bd96 rfl) ?_
  refine s_v (o_as (.sc (.int _ _)) rfl) ?_
  refine s_nil ?_
  refine H8 _ _ ?_
  clear H8 K8
  refine AW_ret ?_
  cases hm
  exact Ret.of1 (.inl rfl) (rsT _ _ (.sc (.int _ _)) rfl) (hp_sub (List.nil_sublist _) hk6).1 (ALe.refl _ _) ⟨rfl, rfl⟩
theorem bd47 : bodied Try.prog 47 = true := by kernel_rfl
def M98_L0 (fuel : Nat) (p0 : List TChunk) (p1 : TChunk → Option Bool) (q29 : Int) : Option (Lp (Int) (Int)) :=
  if (decide (q29 < (p0.length : Int))) = true then ((ix p0 q29).bind fun x37 => (p1 x37).bind fun y39 => if y39 = true then (some (.ret q29)) else some (.go (IntKind.wrap .i64 (q29 + 1)))) else some (.brk q29)
def M98 (fuel : Nat) (p0 : List TChunk) (p1 : TChunk → Option Bool) : Option (Int) :=
  after (loopM (fun s => M98_L0 fuel p0 p1 s) fuel 0) fun r43 => some (-1)
set_option maxRecDepth 100000 in
/-- slices.IndexFunc(()cellarer/api.Chunk,cellarer/api.Chunk) -/
theorem W98 {fuel : Nat} {p0 : List TChunk} {p1 : TChunk → Option Bool} {o : Int} (h : Heap) {p1F : Nat} {p1C : List AV} (p1B : bodied Try.prog p1F = true) (p1H : ∀ x0 o h0, Sub h h0 → p1 x0 = some o → ACalls Try.prog p1F ([.agg (c_Chunk x0)] ++ p1C) h0 (fun r h' => r = .sc (.bool o) ∧ h' = h0)) (hm : M98 fuel p0 p1 = some o) :
    ACalls Try.prog 98 [.sl none 35 (List.map c_Chunk p0), .fn (.func p1F) p1C] h (fun r h' => r = .sc (.int .i64 o) ∧ h' = h) := by
  refine ACalls_hp 19 [.tmp 4] Try.func98 rfl rfl rfl rfl ?_
  unfold M98 at hm
  refine AW_k fun K1 H1 => ?_
  refine AW_reg ?_
  refine s_v (o_as (.sc (.int _ _)) rfl) ?_
  refine s_nil ?_
  refine H1 _ _ ?_
  clear H1 K1
  refine AW_k fun K2 H2 => ?_
  refine AW_k fun K3 H3 => ?_
  refine AW_reg ?_
  refine s_v (o_mv (.sl _ _ _) rfl) ?_
  refine s_v (o_lenm ln23 rfl) ?_
  refine s_v (o_mv (.sc (.int _ _)) rfl) ?_
  refine s_nil ?_
  refine H3 _ _ ?_
  clear H3 K3
  refine AW_loopG (n := 19) hm (σ := Int) (τ := Unit) (fun g s => HOk h []) (fun g s => kp (kp (kp (kp (k0) 8 (.sc (.int .i64 s))) 7 (.sc (.int .i64 (p0.length : Int)))) 1 (.fn (.func p1F) p1C)) 0 (.sl none 35 (List.map c_Chunk p0))) (fun g s => hp h []) () (HOk.nil _) (LeF.fm (Sub.refl _) (.cons (ALe.refl _ _) (.cons (ALe.refl _ _) (.cons (ALe.refl _ _) (.cons (ALe.refl _ _) (.nil)))))) ?_ ?_
  · rintro _ q29 x hk30 hm
    replace hm : M98_L0 fuel p0 p1 q29 = some x := hm
    unfold M98_L0 at hm
    refine AW_k fun K31 H31 => ?_
    refine AW_reg ?_
    refine s_v (o_bi rfl rfl rfl trivial) ?_
    refine s_nil ?_
    refine H31 _ _ ?_
    clear H31 K31
    refine AW_k fun K32 H32 => ?_
    refine AW_if' rfl (fun hc33 => ?_) (fun hc33 => ?_)
    · replace hm := ite_t hm hc33
      refine AW_skip ?_
      refine H32 _ _ ?_
      clear H32 K32
      refine AW_k fun K34 H34 => ?_
      refine AW_block ?_
      refine AW_k fun K35 H35 => ?_
      refine AW_reg ?_
      refine s_v (o_mv (.sc (.int _ _)) rfl) ?_
      refine s_v (o_as (.sc (.int _ _)) rfl) ?_
      refine s_nil ?_
      refine H35 _ _ ?_
      clear H35 K35
      refine AW_k fun K36 H36 => ?_
      refine AW_reg ?_
      refine s_v (o_mv (.fn _ _) rfl) ?_
      refine s_v (o_mv (.sl _ _ _) rfl) ?_
      refine s_v (o_mv (.sc (.int _ _)) rfl) ?_
      obtain ⟨x37, hx38, hm⟩ := bind_of hm
      refine s_v (o_ix hx38 el23 rfl rfl) ?_
      refine s_v (o_ld (.agg (c_Chunk x37)) ld63 rfl rfl) ?_
      obtain ⟨y39, hy40, hm⟩ := bind_of hm
      refine s_v (o_call (p1H _ _ _ (hp_sub (List.nil_sublist _) hk30).1 hy40) rfl p1B rfl) ?_
      refine s_nil ?_
      refine H36 _ _ ?_
      clear H36 K36
      refine AW_if' rfl (fun hc41 => ?_) (fun hc41 => ?_)
      · replace hm := ite_t hm hc41
        refine AW_k fun K42 H42 => ?_
        refine AW_reg ?_
        refine s_v (o_mv (.sc (.int _ _)) rfl) ?_
        refine s_v (o_as (.sc (.int _ _)) rfl) ?_
        refine s_nil ?_
        refine H42 _ _ ?_
        clear H42 K42
        refine AW_ret ?_
        cases hm
        refine ⟨⟨nofun, nofun⟩, fun he => ?_⟩
        subst he
        exact Ret.of1 (.inl rfl) (rsT _ _ (.sc (.int _ _)) rfl) (Sub.refl _) (ALe.refl _ _) ⟨rfl, rfl⟩
      · replace hm := ite_f hm hc41
        refine AW_skip ?_
        refine H34 _ _ ?_
        clear H34 K34
        refine AW_reg ?_
        refine s_v (o_bi rfl rfl rfl trivial) ?_
        refine s_v (o_mv (.sc (.int _ _)) rfl) ?_
        refine s_nil ?_
        cases hm
        exact ⟨rfl, (), hk30, LeF.fm (Sub.refl _) (.cons (ALe.refl _ _) (.cons (ALe.refl _ _) (.cons (ALe.refl _ _) (.cons (ALe.refl _ _) (.nil)))))⟩
    · replace hm := ite_f hm hc33
      refine AW_exit ?_
      refine Seq_exit ?_
      cases hm
      exact ⟨rfl, (), hk30, LeF.fm (Sub.refl _) (.cons (ALe.refl _ _) (.cons (ALe.refl _ _) (.cons (ALe.refl _ _) (.cons (ALe.refl _ _) (.nil)))))⟩
  · rintro _ r43 fr' h' hk44 hm le
    refine H2 _ _ (le.aw ?_)
    clear le H2 K2
    refine AW_k fun K45 H45 => ?_
    refine AW_reg ?_
    refine s_v (o_as (.sc (.int _ _)) rfl) ?_
    refine s_nil ?_
    refine H45 _ _ ?_
    clear H45 K45
    refine AW_ret ?_
    cases hm
    exact Ret.of1 (.inl rfl) (rsT _ _ (.sc (.int _ _)) rfl) (Sub.refl _) (ALe.refl _ _) ⟨rfl, rfl⟩
theorem bd98 : bodied Try.prog 98 = true := by kernel_rfl
def M99 (fuel : Nat) (p0 : TChunk) (c0 : Id32) : Option (Bool) :=
  some (decide (p0.Id = c0))
set_option maxRecDepth 100000 in
/-- cellarer/catalog.Chunk$1 -/
theorem W99 {fuel : Nat} {p0 : TChunk} {c0 : Id32} {o : Bool} (h : Heap) {c0K : Key} (c0H : h c0K = some (.obj 61 (c_id c0))) (hm : M99 fuel p0 c0 = some o) :
    ACalls Try.prog 99 [.agg (c_Chunk p0), .ptr c0K 0] h (fun r h' => r = .sc (.bool o) ∧ h' = h) := by
  refine ACalls_hp 8 [.tmp 3] Try.func99 rfl rfl rfl rfl ?_
  unfold M99 at hm
  refine AW_k fun K1 H1 => ?_
  refine AW_reg ?_
  refine s_op (a_box (HOk.nil _) rfl rfl fun k2 hk3 => ?_)
  refine s_v (o_as (.sc (.bool _)) rfl) ?_
  refine s_nil ?_
  refine H1 _ _ ?_
  clear H1 K1
  refine AW_k fun K5 H5 => ?_
  refine AW_reg ?_
  refine s_v (o_flp fd63_0 rfl rfl) ?_
  refine s_v (o_ldp (.agg (c_id p0.Id)) ld61 rfl (hp_get 0 hk3 rfl) rfl) ?_
  refine s_v (o_ldp (.agg (c_id c0)) ld61 rfl (hp_base hk3 c0H) rfl) ?_
  refine s_v (o_ide eg61 u61 u5 ld5 rfl rfl) ?_
  refine s_v (o_as (.sc (.bool _)) rfl) ?_
  refine s_nil ?_
  refine H5 _ _ ?_
  clear H5 K5
  refine AW_ret ?_
  cases hm
  exact Ret.of1 (.inl rfl) (rsT _ _ (.sc (.bool _)) rfl) (hp_sub (List.nil_sublist _) hk3).1 (ALe.refl _ _) ⟨rfl, rfl⟩
theorem bd99 : bodied Try.prog 99 = true := by kernel_rfl
def M48 (fuel : Nat) (p0 : TCatalog) (p1 : Id32) : Option (Int) :=
  (M98 fuel p0.Chunks (fun x0 => M99 fuel x0 p1)).bind fun y9 => some y9
set_option maxRecDepth 100000 in
/-- cellarer/catalog.Chunk -/
theorem W48 {fuel : Nat} {p0 : TCatalog} {p1 : Id32} {o : Int} (h : Heap) (hm : M48 fuel p0 p1 = some o) :
    ACalls Try.prog 48 [.agg (c_Catalog p0), .agg (c_id p1)] h (fun r h' => r = .sc (.int .i64 o) ∧ h' = h) := by
  refine ACalls_hp 9 [.tmp 4] Try.func48 rfl rfl rfl rfl ?_
  unfold M48 at hm
  refine AW_k fun K1 H1 => ?_
  refine AW_reg ?_
  refine s_op (a_box (HOk.nil _) rfl rfl fun k2 hk3 => ?_)
  refine s_op (a_box hk3 rfl rfl fun k5 hk6 => ?_)
  refine s_v (o_as (.sc (.int _ _)) rfl) ?_
  refine s_nil ?_
  refine H1 _ _ ?_
  clear H1 K1
  refine AW_k fun K8 H8 => ?_
  refine AW_reg ?_
  refine s_v (o_flp fd27_2 rfl rfl) ?_
  refine s_v (o_ldp (.sl none 35 (List.map c_Chunk p0.Chunks)) ld23 rfl (hp_get 1 hk6 rfl) rfl) ?_
  refine s_v (o_mf rfl) ?_
  obtain ⟨y9, hy10, hm⟩ := bind_of hm
  refine s_v (o_call (W98 _ bd99 (fun x0 o h0 hs ho => W99 _ (hs _ _ (hp_get 0 hk6 rfl)) ho) hy10) rfl bd98 rfl) ?_
  refine s_v (o_as (.sc (.int _ _)) rfl) ?_
  refine s_nil ?_
  refine H8 _ _ ?_
  clear H8 K8
  refine AW_ret ?_
  cases hm
  exact Ret.of1 (.inl rfl) (rsT _ _ (.sc (.int _ _)) rfl) (hp_sub (List.nil_sublist _) hk6).1 (ALe.refl _ _) ⟨rfl, rfl⟩
theorem bd48 : bodied Try.prog 48 = true := by kernel_rfl
def M49_L0 (fuel : Nat) (p0 : TCatalog) (q42 : Int) (q43 : Int) : Option (Lp (Int × Int) (Int)) :=
  if (decide (q43 < (p0.Chunks.length : Int))) = true then ((ix p0.Chunks q43).bind fun x50 => after (if x50.Staged = true then (some (.brk (IntKind.wrap .i64 (q42 + (x50.Data.length : Int))))) else some (.brk q42) : Option (Lp (Int) (Lp (Int × Int) (Int)))) fun j58 => some (.go (j58, IntKind.wrap .i64 (q43 + 1)))) else some (.brk (q42, q43))
def M49 (fuel : Nat) (p0 : TCatalog) : Option (Int) :=
  after (loopM (fun s => M49_L0 fuel p0 s.1 s.2) fuel (0, 0)) fun ⟨r61, r62⟩ => some r61
set_option maxRecDepth 100000 in
/-- cellarer/catalog.Staged -/
theorem W49 {fuel : Nat} {p0 : TCatalog} {o : Int} (h : Heap) (hm : M49 fuel p0 = some o) :
    ACalls Try.prog 49 [.agg (c_Catalog p0)] h (fun r h' => r = .sc (.int .i64 o) ∧ h' = h) := by
  refine ACalls_hp 22 [.tmp 2] Try.func49 rfl rfl rfl rfl ?_
  unfold M49 at hm
  refine AW_k fun K1 H1 => ?_
  refine AW_reg ?_
  refine s_op (a_box (HOk.nil _) rfl rfl fun k2 hk3 => ?_)
  refine s_v (o_as (.sc (.int _ _)) rfl) ?_
  refine s_nil ?_
  refine H1 _ _ ?_
  clear H1 K1
  refine AW_k fun K5 H5 => ?_
  refine AW_reg ?_
  refine s_v (o_as (.sc (.int _ _)) rfl) ?_
  refine s_nil ?_
  refine H5 _ _ ?_
  clear H5 K5
  refine AW_k fun K6 H6 => ?_
  refine AW_k fun K7 H7 => ?_
  refine AW_reg ?_
  refine s_v (o_flp fd27_2 rfl rfl) ?_
  refine s_v (o_ldp (.sl none 35 (List.map c_Chunk p0.Chunks)) ld23 rfl (hp_get 0 hk3 rfl) rfl) ?_
  refine s_v (o_lenm ln23 rfl) ?_
  refine s_v (o_mv (.sc (.int _ _)) rfl) ?_
  refine s_nil ?_
  refine H7 _ _ ?_
  clear H7 K7
  refine AW_loopG (n := 22) hm (σ := Int × Int) (τ := Unit) (fun g s => HOk h [(some k2, .obj 27 (c_Catalog p0))]) (fun g s => kp (kp (kp (kp (k0) 9 (.sc (.int .i64 s.2))) 8 (.sc (.int .i64 (p0.Chunks.length : Int)))) 7 (.sl none 35 (List.map c_Chunk p0.Chunks))) 3 (.sc (.int .i64 s.1))) (fun g s => hp h [(some k2, .obj 27 (c_Catalog p0))]) () hk3 (LeF.fm (Sub.refl _) (.cons (ALe.refl _ _) (.cons (ALe.refl _ _) (.cons (ALe.refl _ _) (.cons (ALe.refl _ _) (.nil)))))) ?_ ?_
  · rintro _ ⟨q42, q43⟩ x hk44 hm
    replace hm : M49_L0 fuel p0 q42 q43 = some x := hm
    unfold M49_L0 at hm
    refine AW_k fun K45 H45 => ?_
    refine AW_reg ?_
    refine s_v (o_bi rfl rfl rfl trivial) ?_
    refine s_nil ?_
    refine H45 _ _ ?_
    clear H45 K45
    refine AW_k fun K46 H46 => ?_
    refine AW_if' rfl (fun hc47 => ?_) (fun hc47 => ?_)
    · replace hm := ite_t hm hc47
      refine AW_skip ?_
      refine H46 _ _ ?_
      clear H46 K46
      refine AW_k fun K48 H48 => ?_
      refine AW_block ?_
      refine AW_k fun K49 H49 => ?_
      refine AW_reg ?_
      obtain ⟨x50, hx51, hm⟩ := bind_of hm
      refine s_v (o_ix hx51 el23 rfl rfl) ?_
      refine s_v (o_ld (.agg (c_Chunk x50)) ld63 rfl rfl) ?_
      refine s_op (a_alloc (c_id idZ ++ [.sc (.bool false), .sc (.slice none 0 0), .sc (.slice none 0 0)]) hk44 zr63 rfl rfl fun k52 hk53 => ?_)
      refine s_op (a_store 0 (c_Chunk x50) hk53 rfl rfl rfl rfl sz63 rfl rfl fun hk55 => ?_)
      refine s_nil ?_
      refine H49 _ _ ?_
      clear H49 K49
      refine AW_k fun K56 H56 => ?_
      refine AW_reg ?_
      refine s_v (o_flp fd63_1 rfl rfl) ?_
      refine s_v (o_ldp (.sc (.bool x50.Staged)) ld4 rfl (hp_get 0 hk55 rfl) rfl) ?_
      refine s_nil ?_
      refine H56 _ _ ?_
      clear H56 K56
      refine AW_joinG (n := 22) hm (σ := Int) (τ := Unit) (fun g s => HOk h [(some k52, .obj 63 (c_Chunk x50)), (some k2, .obj 27 (c_Catalog p0))]) (fun g s => kp (kp (kp (kp (k0) 9 (.sc (.int .i64 q43))) 8 (.sc (.int .i64 (p0.Chunks.length : Int)))) 7 (.sl none 35 (List.map c_Chunk p0.Chunks))) 3 (.sc (.int .i64 s))) (fun g s => hp h [(some k52, .obj 63 (c_Chunk x50)), (some k2, .obj 27 (c_Catalog p0))]) (fun x hm => ?_) ?_
      · refine AW_if' rfl (fun hc59 => ?_) (fun hc59 => ?_)
        · replace hm := ite_t hm hc59
          refine AW_reg ?_
          refine s_v (o_mv (.sc (.int _ _)) rfl) ?_
          refine s_v (o_flp fd63_2 rfl rfl) ?_
          refine s_v (o_ldp (.sl none 1 (List.map c_u8 x50.Data)) ld52 rfl (hp_get 0 hk55 rfl) rfl) ?_
          refine s_v (o_lenm ln52 rfl) ?_
          refine s_v (o_bi rfl rfl rfl trivial) ?_
          refine s_v (o_as (.sc (.int _ _)) rfl) ?_
          refine s_nil ?_
          cases hm
          exact ⟨rfl, (), hk55, LeF.fm (Sub.refl _) (.cons (ALe.refl _ _) (.cons (ALe.refl _ _) (.cons (ALe.refl _ _) (.cons (ALe.refl _ _) (.nil)))))⟩
        · replace hm := ite_f hm hc59
          refine AW_skip ?_
          cases hm
          exact ⟨rfl, (), hk55, LeF.fm (Sub.refl _) (.cons (ALe.refl _ _) (.cons (ALe.refl _ _) (.cons (ALe.refl _ _) (.cons (ALe.refl _ _) (.nil)))))⟩
      · rintro _ j58 fr' h' hk60 hm le
        refine H48 _ _ (le.aw ?_)
        clear le H48 K48
        refine AW_reg ?_
        refine s_v (o_bi rfl rfl rfl trivial) ?_
        refine s_v (o_mv (.sc (.int _ _)) rfl) ?_
        refine s_nil ?_
        cases hm
        exact ⟨rfl, (), (hp_sub (.cons _ (.refl _)) hk60).2, LeF.fm ((hp_sub (.cons _ (.refl _)) hk60).1) (.cons (ALe.refl _ _) (.cons (ALe.refl _ _) (.cons (ALe.refl _ _) (.cons (ALe.refl _ _) (.nil)))))⟩
    · replace hm := ite_f hm hc47
      refine AW_exit ?_
      refine Seq_exit ?_
      cases hm
      exact ⟨rfl, (), hk44, LeF.fm (Sub.refl _) (.cons (ALe.refl _ _) (.cons (ALe.refl _ _) (.cons (ALe.refl _ _) (.cons (ALe.refl _ _) (.nil)))))⟩
  · rintro _ ⟨r61, r62⟩ fr' h' hk63 hm le
    refine H6 _ _ (le.aw ?_)
    clear le H6 K6
    refine AW_k fun K64 H64 => ?_
    refine AW_reg ?_
    refine s_v (o_mv (.sc (.int _ _)) rfl) ?_
    refine s_v (o_as (.sc (.int _ _)) rfl) ?_
    refine s_nil ?_
    refine H64 _ _ ?_
    clear H64 K64
    refine AW_ret ?_
    cases hm
    exact Ret.of1 (.inl rfl) (rsT _ _ (.sc (.int _ _)) rfl) (hp_sub (List.nil_sublist _) hk63).1 (ALe.refl _ _) ⟨rfl, rfl⟩
theorem bd49 : bodied Try.prog 49 = true := by kernel_rfl
end Go.Proofs.Ytoomgangpjcaoaa
