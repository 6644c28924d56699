import Derived.Test.YtoomgangpjcaoaaK7Wd
set_option linter.unusedSimpArgs false
set_option linter.unusedVariables false
namespace Go.Proofs.Ytoomgangpjcaoaa
open Go.Vm
theorem cmpF : CmpF Try.prog 147 := ⟨Try.f147, Try.func147, by kernel_rfl, by kernel_rfl, rfl, rfl⟩
set_option maxRecDepth 100000 in
/-- bytes.Compare -/
theorem W140 {a b : AV} {xs ys : List Int} (h : Heap) (h1 : Byt Try.prog h a xs) (h2 : Byt Try.prog h b ys) : ACalls Try.prog 140 [a, b] h (fun r h' => r = .sc (.int .i64 (cmpI xs ys)) ∧ h' = h) := by
  refine ACalls_hp 8 [.tmp 4] Try.func140 rfl rfl rfl rfl ?_
  refine AW_k fun K1 H1 => ?_
  refine AW_reg ?_
  refine s_v (o_as (.sc (.int _ _)) rfl) ?_
  refine s_nil ?_
  refine H1 _ _ ?_
  clear H1 K1
  refine AW_k fun K1 H1 => ?_
  refine AW_reg ?_
  refine s_v (o_mv a rfl) ?_
  refine s_v (o_mv b rfl) ?_
  refine s_v (o_cmp cmpF rfl rfl h1 h2) ?_
  refine s_v (o_as (.sc (.int _ _)) rfl) ?_
  refine s_nil ?_
  refine H1 _ _ ?_
  refine AW_ret ?_
  exact Ret.one (.inl rfl) (Sub.refl _) (ALe.refl _ _) ⟨rfl, rfl⟩
theorem bd140 : bodied Try.prog 140 = true := by kernel_rfl
def M111 (fuel : Nat) (p0 : Id32) (p1 : Id32) : Option (Int) :=
  some (cmpI p0.1 p1.1)
set_option maxRecDepth 100000 in
/-- cellarer/catalog.order -/
theorem W111 {fuel : Nat} {p0 : Id32} {p1 : Id32} {o : Int} (h : Heap) (hm : M111 fuel p0 p1 = some o) :
    ACalls Try.prog 111 [.agg (c_id p0), .agg (c_id p1)] h (fun r h' => r = .sc (.int .i64 o) ∧ h' = h) := by
  refine ACalls_hp 8 [.tmp 4] Try.func111 rfl rfl rfl rfl ?_
  unfold M111 at hm
  refine AW_k fun K1 H1 => ?_
  refine AW_reg ?_
  refine s_op (a_box (HOk.nil _) rfl rfl fun k2 hk3 => ?_)
  refine s_op (a_box hk3 rfl rfl fun k5 hk6 => ?_)
  refine s_v (o_as (.sc (.int _ _)) rfl) ?_
  refine s_nil ?_
  refine H1 _ _ ?_
  clear H1 K1
  refine AW_k fun K8 H8 => ?_
  refine AW_region_q [(some 5, [2], []), (some 6, [3], []), (some 7, [5, 6], [0, 1]), (some 4, [7], [2, 2, 0, 1, 2])] mixed (by kernel_rfl) (by kernel_rfl) ?_
  refine q_v (o_slv ar61 rfl) ?_
  refine q_v (o_slv ar61 rfl) ?_
  refine q_v (o_call (W140 _ (Byt.view (hp_get 1 hk6 rfl) rfl) (Byt.view (hp_get 0 hk6 rfl) rfl)) rfl bd140 rfl) ?_
  refine q_v (o_as (.sc (.int _ _)) rfl) ?_
  refine q_nil ?_
  refine H8 _ _ ?_
  clear H8 K8
  refine AW_ret ?_
  cases hm
  exact Ret.of1 (.inl rfl) (rsT _ _ (.sc (.int _ _)) rfl) (hp_sub (List.nil_sublist _) hk6).1 (ALe.refl _ _) ⟨rfl, rfl⟩
theorem bd111 : bodied Try.prog 111 = true := by kernel_rfl
def M77 (fuel : Nat) (p0 : List Int) : Option (List Int) := app [] p0
set_option maxRecDepth 100000 in
/-- slices.Clone(()byte,byte) -/
theorem W77 {fuel : Nat} {p0 : List Int} {o : List Int} (h : Heap) (hm : M77 fuel p0 = some o) :
    ACalls Try.prog 77 [.sl none 1 (List.map c_u8 p0)] h (fun r h' => ∃ t, (t = none → o = []) ∧ HOk h [(t, .tok 5 1 (o.length * 1))] ∧ r = ow t 1 (List.map c_u8 o) ∧ h' = hp h [(t, .tok 5 1 (o.length * 1))]) := by
  refine ACalls_hp 8 [.tmp 2] Try.func77 rfl rfl rfl rfl ?_
  unfold M77 at hm
  refine AW_k fun K1 H1 => ?_
  refine AW_reg ?_
  refine s_v (o_as (.sc (.slice _ _ _)) rfl) ?_
  refine s_nil ?_
  refine H1 _ _ ?_
  clear H1 K1
  refine AW_k fun K1 H1 => ?_
  refine AW_k fun K2 H2 => ?_
  refine AW_reg ?_
  refine s_v (o_mv (.sl _ _ _) rfl) ?_
  refine s_op (AOp_eqnil rfl (by rw [el52]; rfl) (by rw [ev_fm]; exact rfl) (.inl ⟨_, _, _, rfl, fun b hb => ?_⟩))
  refine s_nil ?_
  refine H2 _ _ ?_
  clear H2 K2
  refine AW_if' rfl (fun hc => ?_) (fun hc => ?_)
  · have h0 : p0 = [] := by
      cases p0 with
      | nil => rfl
      | cons x l => have := hb (by simp); rw [this] at hc; cases hc
    subst h0
    obtain ⟨rfl, -⟩ := app_spec hm
    refine AW_k fun K1 H1 => ?_
    refine AW_reg ?_
    refine s_v (o_as (.sc (.slice _ _ _)) rfl) ?_
    refine s_nil ?_
    refine H1 _ _ ?_
    refine AW_ret ?_
    exact Ret.one (.inl rfl) (Sub.refl _) (ow_nil _ _) ⟨none, fun _ => rfl, HOk.none (HOk.nil _), rfl, rfl⟩
  · refine AW_skip ?_
    refine H1 _ _ ?_
    clear H1 K1
    refine AW_k fun K1 H1 => ?_
    refine AW_reg ?_
    refine s_op (a_lit0 (c := c_u8) (HOk.nil _) et52 fun hk => ?_)
    refine s_v (o_mv (.sl _ _ _) rfl) ?_
    refine s_op (a_app (c := c_u8) 0 hm et52 rfl rfl rfl (fun _ => rfl) hk rfl fun tg ot hk => ?_)
    refine s_v (o_as (ow _ _ _) rfl) ?_
    refine s_nil ?_
    refine H1 _ _ ?_
    refine AW_ret ?_
    exact Ret.one (.inl rfl) (Sub.refl _) (ALe.refl _ _) ⟨tg, ot, hk, rfl, rfl⟩
theorem bd77 : bodied Try.prog 77 = true := by kernel_rfl
def M70_L0 (fuel : Nat) (p0 : TCatalog) (q160 : Int) : Option (Lp (Int) (Bool)) :=
  if (decide (q160 < (p0.Chunks.length : Int))) = true then ((ix p0.Chunks q160).bind fun x167 => after (if (decide (0 < q160)) = true then ((ix p0.Chunks (IntKind.wrap .i64 (q160 - 1))).bind fun x206 => (M111 fuel x206.Id x167.Id).bind fun y208 => if (decide (0 ≤ y208)) = true then (some (.brk true)) else (M112 fuel p0 x167.Locs).bind fun y211 => if (!y211) = true then (some (.brk true)) else if (!x167.Staged) = true then (if (decide (0 < (x167.Data.length : Int))) = true then (some (.brk true)) else if ((x167.Locs.length : Int) == 0) = true then (some (.brk true)) else if x167.Staged = true then ((M68 fuel (x167.Data.length : Int) 1 64).bind fun y218 => some (.brk (!y218))) else some (.brk false)) else if x167.Staged = true then ((M68 fuel (x167.Data.length : Int) 1 64).bind fun y221 => some (.brk (!y221))) else some (.brk false)) else (M112 fuel p0 x167.Locs).bind fun y223 => if (!y223) = true then (some (.brk true)) else if (!x167.Staged) = true then (if (decide (0 < (x167.Data.length : Int))) = true then (some (.brk true)) else if ((x167.Locs.length : Int) == 0) = true then (some (.brk true)) else if x167.Staged = true then ((M68 fuel (x167.Data.length : Int) 1 64).bind fun y230 => some (.brk (!y230))) else some (.brk false)) else if x167.Staged = true then ((M68 fuel (x167.Data.length : Int) 1 64).bind fun y233 => some (.brk (!y233))) else some (.brk false) : Option (Lp (Bool) (Lp (Int) (Bool)))) fun j204 => if j204 = true then (some (.ret false)) else some (.go (IntKind.wrap .i64 (q160 + 1)))) else some (.brk q160)
def M70 (fuel : Nat) (p0 : TCatalog) : Option (Bool) :=
  after (loopM (fun s => M70_L0 fuel p0 s) fuel 0) fun r238 => some (decide ((p0.Chunks.length : Int) ≤ 200))
set_option maxRecDepth 100000 in
/-- cellarer/catalog.chunks -/
theorem W70 {fuel : Nat} {p0 : TCatalog} {o : Bool} (h : Heap) (hm : M70 fuel p0 = some o) :
    ACalls Try.prog 70 [.agg (c_Catalog p0)] h (fun r h' => r = .sc (.bool o) ∧ h' = h) := by
  refine ACalls_hp 68 [.tmp 2] Try.func70 rfl rfl rfl rfl ?_
  unfold M70 at hm
  refine AW_k fun K1 H1 => ?_
  refine AW_reg ?_
  refine s_op (a_box (HOk.nil _) rfl rfl fun k2 hk3 => ?_)
  refine s_v (o_as (.sc (.bool _)) rfl) ?_
  refine s_nil ?_
  refine H1 _ _ ?_
  clear H1 K1
  refine AW_k fun K5 H5 => ?_
  refine AW_k fun K6 H6 => ?_
  refine AW_reg ?_
  refine s_v (o_flp fd27_2 rfl rfl) ?_
  refine s_v (o_ldp (.sl none 35 (List.map c_Chunk p0.Chunks)) ld23 rfl (hp_get 0 hk3 rfl) rfl) ?_
  refine s_v (o_lenm ln23 rfl) ?_
  refine s_v (o_mv (.sc (.int _ _)) rfl) ?_
  refine s_nil ?_
  refine H6 _ _ ?_
  clear H6 K6
  refine AW_loopG (n := 68) hm (σ := Int) (τ := Unit) (fun g s => HOk h [(some k2, .obj 27 (c_Catalog p0))]) (fun g s => kp (kp (kp (kp (k0) 8 (.sc (.int .i64 s))) 7 (.sc (.int .i64 (p0.Chunks.length : Int)))) 6 (.sl none 35 (List.map c_Chunk p0.Chunks))) 1 (.ptr k2 0)) (fun g s => hp h [(some k2, .obj 27 (c_Catalog p0))]) () hk3 (LeF.fm (Sub.refl _) (.cons (ALe.refl _ _) (.cons (ALe.refl _ _) (.cons (ALe.refl _ _) (.cons (ALe.refl _ _) (.nil)))))) ?_ ?_
  · rintro _ q160 x hk161 hm
    replace hm : M70_L0 fuel p0 q160 = some x := hm
    unfold M70_L0 at hm
    refine AW_k fun K162 H162 => ?_
    refine AW_reg ?_
    refine s_v (o_bi rfl rfl rfl trivial) ?_
    refine s_nil ?_
    refine H162 _ _ ?_
    clear H162 K162
    refine AW_k fun K163 H163 => ?_
    refine AW_if' rfl (fun hc164 => ?_) (fun hc164 => ?_)
    · replace hm := ite_t hm hc164
      refine AW_skip ?_
      refine H163 _ _ ?_
      clear H163 K163
      refine AW_k fun K165 H165 => ?_
      refine AW_block ?_
      refine AW_k fun K166 H166 => ?_
      refine AW_reg ?_
      refine s_v (o_mv (.sc (.int _ _)) rfl) ?_
      obtain ⟨x167, hx168, hm⟩ := bind_of hm
      refine s_v (o_ix hx168 el23 rfl rfl) ?_
      refine s_v (o_ld (.agg (c_Chunk x167)) ld63 rfl rfl) ?_
      refine s_op (a_alloc (c_id idZ ++ [.sc (.bool false), .sc (.slice none 0 0), .sc (.slice none 0 0)]) hk161 zr63 rfl rfl fun k169 hk170 => ?_)
      refine s_v (o_as (.sc (.int _ _)) rfl) ?_
      refine s_op (a_store 0 (c_Chunk x167) hk170 rfl rfl rfl rfl sz63 rfl rfl fun hk172 => ?_)
      refine s_nil ?_
      refine H166 _ _ ?_
      clear H166 K166
      refine AW_k fun K173 H173 => ?_
      refine AW_joinG (n := 68) hm (σ := Bool) (τ := Unit) (fun g s => HOk h [(some k169, .obj 63 (c_Chunk x167)), (some k2, .obj 27 (c_Catalog p0))]) (fun g s => kp (kp (kp (kp (kp (k0) 62 (.sc (.bool s))) 8 (.sc (.int .i64 q160))) 7 (.sc (.int .i64 (p0.Chunks.length : Int)))) 6 (.sl none 35 (List.map c_Chunk p0.Chunks))) 1 (.ptr k2 0)) (fun g s => hp h [(some k169, .obj 63 (c_Chunk x167)), (some k2, .obj 27 (c_Catalog p0))]) (fun x hm => ?_) ?_
      · refine AW_region_q [(some 13, [3], []), (some 14, [13], [0]), (some 15, [14], [1]), (some 16, [1, 15], [2]), (some 17, [16, 15], [3, 2]), (some 18, [3, 15], [2]), (some 19, [18, 15], [5, 2]), (some 20, [17, 19, 15], [4, 6, 2]), (some 21, [20, 15], [7, 2]), (some 22, [21, 15], [8, 2]), (some 23, [4, 15], [2]), (some 24, [23, 15], [10, 2]), (some 25, [22, 24, 15], [9, 11, 2, 2]), (some 26, [25, 15], [12, 2]), (some 27, [15, 26], [2, 13]), (some 28, [27], [14, 12]), (some 29, [1, 28], [15]), (some 30, [4, 28], [15]), (some 31, [30, 28], [17, 15]), (some 32, [29, 31, 28], [16, 18, 15, 15]), (some 33, [32, 28], [19, 15]), (some 34, [28, 33], [15, 20]), (some 35, [34], [21, 19]), (some 36, [4, 35], [22]), (some 37, [36, 35], [23, 22]), (some 38, [37, 35], [24, 22]), (some 39, [38, 35], [25, 22, 22]), (some 40, [4, 39], [26]), (some 41, [40, 39], [27, 26]), (some 42, [41, 39], [28, 26]), (some 43, [42, 39], [29, 26]), (some 44, [43, 39], [30, 26, 26]), (some 45, [4, 44], [31]), (some 46, [45, 44], [32, 31]), (some 47, [46, 44], [33, 31]), (some 48, [47, 44], [34, 31]), (some 49, [44, 48, 39], [31, 35, 26]), (some 50, [39, 49, 35], [26, 36, 22]), (some 51, [35, 50], [22, 37]), (some 52, [51], [38, 31]), (some 53, [4, 52], [39]), (some 54, [53, 52], [40, 39]), (some 55, [54, 52], [41, 39, 39]), (some 56, [4, 55], [42]), (some 57, [56, 55], [43, 42]), (some 58, [57, 55], [44, 42]), (some 59, [58, 55], [45, 42, 42]), (some 60, [59, 55], [46, 42]), (some 61, [55, 60, 52], [42, 47, 39]), (some 62, [52, 61], [39, 48])] mixed (by kernel_rfl) (by kernel_rfl) ?_
        refine q_v (o_mv (.sc (.int _ _)) rfl) ?_
        refine q_v (o_bi rfl rfl rfl trivial) ?_
        refine q_v (o_mv (.sc (.bool _)) rfl) ?_
        rcases Bool.eq_false_or_eq_true (decide (0 < q160)) with hb205 | hb205
        · replace hm := ite_t hm hb205
          refine qg_y rfl rfl hb205 ?_
          refine q_v (o_flp fd27_2 rfl rfl) ?_
          refine qg_y rfl rfl hb205 ?_
          refine q_v (o_ldp (.sl none 35 (List.map c_Chunk p0.Chunks)) ld23 rfl (hp_get 1 hk172 rfl) rfl) ?_
          refine qg_y rfl rfl hb205 ?_
          refine q_v (o_mv (.sc (.int _ _)) rfl) ?_
          refine qg_y rfl rfl hb205 ?_
          refine q_v (o_bi rfl rfl rfl trivial) ?_
          refine qg_y rfl rfl hb205 ?_
          obtain ⟨x206, hx207, hm⟩ := bind_of hm
          refine q_v (o_ix hx207 el23 rfl rfl) ?_
          refine qg_y rfl rfl hb205 ?_
          refine q_v (o_fl fd63_0 rfl rfl) ?_
          refine qg_y rfl rfl hb205 ?_
          refine q_v (o_ld (.agg (c_id x206.Id)) ld61 rfl rfl) ?_
          refine qg_y rfl rfl hb205 ?_
          refine q_v (o_flp fd63_0 rfl rfl) ?_
          refine qg_y rfl rfl hb205 ?_
          refine q_v (o_ldp (.agg (c_id x167.Id)) ld61 rfl (hp_get 0 hk172 rfl) rfl) ?_
          refine qg_y rfl rfl hb205 ?_
          obtain ⟨y208, hy209, hm⟩ := bind_of hm
          refine q_v (o_call (W111 _ hy209) rfl bd111 rfl) ?_
          refine qg_y rfl rfl hb205 ?_
          refine q_v (o_bi rfl rfl rfl trivial) ?_
          refine q_v (o_pkt (.sc (.bool _)) rfl hb205 rfl) ?_
          refine q_v (o_mv (.sc (.bool _)) rfl) ?_
          rcases Bool.eq_false_or_eq_true (decide (0 ≤ y208)) with hb210 | hb210
          · replace hm := ite_t hm hb210
            refine qg_n rfl rfl hb210 ?_
            refine qg_n rfl rfl hb210 ?_
            refine qg_n rfl rfl hb210 ?_
            refine qg_n rfl rfl hb210 ?_
            refine qg_n rfl rfl hb210 ?_
            refine q_v (o_pkt (.sc (.bool _)) rfl hb210 rfl) ?_
            refine q_v (o_mv (.sc (.bool _)) rfl) ?_
            refine qg_n rfl rfl rfl ?_
            refine qg_n rfl rfl rfl ?_
            refine qg_n rfl rfl rfl ?_
            refine qg_n rfl rfl rfl ?_
            refine qg_u rfl rfl ?_
            refine qg_u rfl rfl ?_
            refine qg_u rfl rfl ?_
            refine qg_u rfl rfl ?_
            refine qg_u rfl rfl ?_
            refine qg_u rfl rfl ?_
            refine qg_u rfl rfl ?_
            refine qg_u rfl rfl ?_
            refine qg_u rfl rfl ?_
            refine qg_u rfl rfl ?_
            refine qg_n rfl rfl rfl ?_
            refine q_v (o_pkt (.sc (.bool _)) rfl rfl rfl) ?_
            refine q_v (o_mv (.sc (.bool _)) rfl) ?_
            refine qg_n rfl rfl rfl ?_
            refine qg_n rfl rfl rfl ?_
            refine qg_n rfl rfl rfl ?_
            refine qg_u rfl rfl ?_
            refine qg_u rfl rfl ?_
            refine qg_u rfl rfl ?_
            refine qg_u rfl rfl ?_
            refine qg_u rfl rfl ?_
            refine qg_n rfl rfl rfl ?_
            refine q_v (o_pkt (.sc (.bool _)) rfl rfl rfl) ?_
            refine q_nil ?_
            cases hm
            exact ⟨rfl, (), hk172, LeF.fm (Sub.refl _) (.cons (ALe.refl _ _) (.cons (ALe.refl _ _) (.cons (ALe.refl _ _) (.cons (ALe.refl _ _) (.cons (ALe.refl _ _) (.nil))))))⟩
          · replace hm := ite_f hm hb210
            refine qg_y rfl rfl hb210 ?_
            refine q_v (o_ldp (.agg (c_Catalog p0)) ld27 rfl (hp_get 1 hk172 rfl) rfl) ?_
            refine qg_y rfl rfl hb210 ?_
            refine q_v (o_flp fd63_3 rfl rfl) ?_
            refine qg_y rfl rfl hb210 ?_
            refine q_v (o_ldp (.sl none 4 (List.map c_Loc x167.Locs)) ld58 rfl (hp_get 0 hk172 rfl) rfl) ?_
            refine qg_y rfl rfl hb210 ?_
            obtain ⟨y211, hy212, hm⟩ := bind_of hm
            refine q_v (o_call (W112 _ hy212) rfl bd112 rfl) ?_
            refine qg_y rfl rfl hb210 ?_
            refine q_v (o_not rfl) ?_
            refine q_v (o_pkf (.sc (.bool _)) rfl hb210 rfl) ?_
            refine q_v (o_mv (.sc (.bool _)) rfl) ?_
            rcases Bool.eq_false_or_eq_true (!y211) with hb213 | hb213
            · replace hm := ite_t hm hb213
              refine qg_n rfl rfl hb213 ?_
              refine qg_n rfl rfl hb213 ?_
              refine qg_n rfl rfl hb213 ?_
              refine qg_n rfl rfl hb213 ?_
              refine qg_u rfl rfl ?_
              refine qg_u rfl rfl ?_
              refine qg_u rfl rfl ?_
              refine qg_u rfl rfl ?_
              refine qg_u rfl rfl ?_
              refine qg_u rfl rfl ?_
              refine qg_u rfl rfl ?_
              refine qg_u rfl rfl ?_
              refine qg_u rfl rfl ?_
              refine qg_u rfl rfl ?_
              refine qg_n rfl rfl hb213 ?_
              refine q_v (o_pkt (.sc (.bool _)) rfl hb213 rfl) ?_
              refine q_v (o_mv (.sc (.bool _)) rfl) ?_
              refine qg_n rfl rfl rfl ?_
              refine qg_n rfl rfl rfl ?_
              refine qg_n rfl rfl rfl ?_
              refine qg_u rfl rfl ?_
              refine qg_u rfl rfl ?_
              refine qg_u rfl rfl ?_
              refine qg_u rfl rfl ?_
              refine qg_u rfl rfl ?_
              refine qg_n rfl rfl rfl ?_
              refine q_v (o_pkt (.sc (.bool _)) rfl rfl rfl) ?_
              refine q_nil ?_
              cases hm
              exact ⟨rfl, (), hk172, LeF.fm (Sub.refl _) (.cons (ALe.refl _ _) (.cons (ALe.refl _ _) (.cons (ALe.refl _ _) (.cons (ALe.refl _ _) (.cons (ALe.refl _ _) (.nil))))))⟩
            · replace hm := ite_f hm hb213
              refine qg_y rfl rfl hb213 ?_
              refine q_v (o_flp fd63_1 rfl rfl) ?_
              refine qg_y rfl rfl hb213 ?_
              refine q_v (o_ldp (.sc (.bool x167.Staged)) ld4 rfl (hp_get 0 hk172 rfl) rfl) ?_
              refine qg_y rfl rfl hb213 ?_
              refine q_v (o_not rfl) ?_
              refine qg_y rfl rfl hb213 ?_
              refine q_v (o_mv (.sc (.bool _)) rfl) ?_
              rcases Bool.eq_false_or_eq_true (!x167.Staged) with hb214 | hb214
              · replace hm := ite_t hm hb214
                refine qg_y rfl rfl hb214 ?_
                refine q_v (o_flp fd63_2 rfl rfl) ?_
                refine qg_y rfl rfl hb214 ?_
                refine q_v (o_ldp (.sl none 1 (List.map c_u8 x167.Data)) ld52 rfl (hp_get 0 hk172 rfl) rfl) ?_
                refine qg_y rfl rfl hb214 ?_
                refine q_v (o_lenm ln52 rfl) ?_
                refine qg_y rfl rfl hb214 ?_
                refine q_v (o_bi rfl rfl rfl trivial) ?_
                refine qg_y rfl rfl hb214 ?_
                refine q_v (o_mv (.sc (.bool _)) rfl) ?_
                rcases Bool.eq_false_or_eq_true (decide (0 < (x167.Data.length : Int))) with hb215 | hb215
                · replace hm := ite_t hm hb215
                  refine qg_n rfl rfl hb215 ?_
                  refine qg_n rfl rfl hb215 ?_
                  refine qg_n rfl rfl hb215 ?_
                  refine qg_n rfl rfl hb215 ?_
                  refine qg_y rfl rfl hb214 ?_
                  refine q_v (o_pkt (.sc (.bool _)) rfl hb215 rfl) ?_
                  refine qg_y rfl rfl hb213 ?_
                  refine q_v (o_pkt (.sc (.bool _)) rfl hb214 rfl) ?_
                  refine q_v (o_pkf (.sc (.bool _)) rfl hb213 rfl) ?_
                  refine q_v (o_mv (.sc (.bool _)) rfl) ?_
                  refine qg_n rfl rfl rfl ?_
                  refine qg_n rfl rfl rfl ?_
                  refine qg_n rfl rfl rfl ?_
                  refine qg_u rfl rfl ?_
                  refine qg_u rfl rfl ?_
                  refine qg_u rfl rfl ?_
                  refine qg_u rfl rfl ?_
                  refine qg_u rfl rfl ?_
                  refine qg_n rfl rfl rfl ?_
                  refine q_v (o_pkt (.sc (.bool _)) rfl rfl rfl) ?_
                  refine q_nil ?_
                  cases hm
                  exact ⟨rfl, (), hk172, LeF.fm (Sub.refl _) (.cons (ALe.refl _ _) (.cons (ALe.refl _ _) (.cons (ALe.refl _ _) (.cons (ALe.refl _ _) (.cons (ALe.refl _ _) (.nil))))))⟩
                · replace hm := ite_f hm hb215
                  refine qg_y rfl rfl hb215 ?_
                  refine q_v (o_flp fd63_3 rfl rfl) ?_
                  refine qg_y rfl rfl hb215 ?_
                  refine q_v (o_ldp (.sl none 4 (List.map c_Loc x167.Locs)) ld58 rfl (hp_get 0 hk172 rfl) rfl) ?_
                  refine qg_y rfl rfl hb215 ?_
                  refine q_v (o_lenm ln58 rfl) ?_
                  refine qg_y rfl rfl hb215 ?_
                  refine q_v (o_bi rfl rfl rfl trivial) ?_
                  refine qg_y rfl rfl hb214 ?_
                  refine q_v (o_pkf (.sc (.bool _)) rfl hb215 rfl) ?_
                  refine qg_y rfl rfl hb213 ?_
                  refine q_v (o_pkt (.sc (.bool _)) rfl hb214 rfl) ?_
                  refine q_v (o_pkf (.sc (.bool _)) rfl hb213 rfl) ?_
                  refine q_v (o_mv (.sc (.bool _)) rfl) ?_
                  rcases Bool.eq_false_or_eq_true ((x167.Locs.length : Int) == 0) with hb216 | hb216
                  · replace hm := ite_t hm hb216
                    refine qg_n rfl rfl hb216 ?_
                    refine qg_n rfl rfl hb216 ?_
                    refine qg_n rfl rfl hb216 ?_
                    refine qg_u rfl rfl ?_
                    refine qg_u rfl rfl ?_
                    refine qg_u rfl rfl ?_
                    refine qg_u rfl rfl ?_
                    refine qg_u rfl rfl ?_
                    refine qg_n rfl rfl hb216 ?_
                    refine q_v (o_pkt (.sc (.bool _)) rfl hb216 rfl) ?_
                    refine q_nil ?_
                    cases hm
                    exact ⟨rfl, (), hk172, LeF.fm (Sub.refl _) (.cons (ALe.refl _ _) (.cons (ALe.refl _ _) (.cons (ALe.refl _ _) (.cons (ALe.refl _ _) (.cons (ALe.refl _ _) (.nil))))))⟩
                  · replace hm := ite_f hm hb216
                    refine qg_y rfl rfl hb216 ?_
                    refine q_v (o_flp fd63_1 rfl rfl) ?_
                    refine qg_y rfl rfl hb216 ?_
                    refine q_v (o_ldp (.sc (.bool x167.Staged)) ld4 rfl (hp_get 0 hk172 rfl) rfl) ?_
                    refine qg_y rfl rfl hb216 ?_
                    refine q_v (o_mv (.sc (.bool _)) rfl) ?_
                    rcases Bool.eq_false_or_eq_true x167.Staged with hb217 | hb217
                    · replace hm := ite_t hm hb217
                      refine qg_y rfl rfl hb217 ?_
                      refine q_v (o_flp fd63_2 rfl rfl) ?_
                      refine qg_y rfl rfl hb217 ?_
                      refine q_v (o_ldp (.sl none 1 (List.map c_u8 x167.Data)) ld52 rfl (hp_get 0 hk172 rfl) rfl) ?_
                      refine qg_y rfl rfl hb217 ?_
                      refine q_v (o_lenm ln52 rfl) ?_
                      refine qg_y rfl rfl hb217 ?_
                      obtain ⟨y218, hy219, hm⟩ := bind_of hm
                      refine q_v (o_call (W68 _ hy219) rfl bd68 rfl) ?_
                      refine qg_y rfl rfl hb217 ?_
                      refine q_v (o_not rfl) ?_
                      refine qg_y rfl rfl hb216 ?_
                      refine q_v (o_pkt (.sc (.bool _)) rfl hb217 rfl) ?_
                      refine q_v (o_pkf (.sc (.bool _)) rfl hb216 rfl) ?_
                      refine q_nil ?_
                      cases hm
                      exact ⟨rfl, (), hk172, LeF.fm (Sub.refl _) (.cons (ALe.refl _ _) (.cons (ALe.refl _ _) (.cons (ALe.refl _ _) (.cons (ALe.refl _ _) (.cons (ALe.refl _ _) (.nil))))))⟩
                    · replace hm := ite_f hm hb217
                      refine qg_n rfl rfl hb217 ?_
                      refine qg_n rfl rfl hb217 ?_
                      refine qg_n rfl rfl hb217 ?_
                      refine qg_n rfl rfl hb217 ?_
                      refine qg_n rfl rfl hb217 ?_
                      refine qg_y rfl rfl hb216 ?_
                      refine q_v (o_pkf (.sc (.bool _)) rfl hb217 rfl) ?_
                      refine q_v (o_pkf (.sc (.bool _)) rfl hb216 rfl) ?_
                      refine q_nil ?_
                      cases hm
                      exact ⟨rfl, (), hk172, LeF.fm (Sub.refl _) (.cons (ALe.refl _ _) (.cons (ALe.refl _ _) (.cons (ALe.refl _ _) (.cons (ALe.refl _ _) (.cons (ALe.refl _ _) (.nil))))))⟩
              · replace hm := ite_f hm hb214
                refine qg_n rfl rfl hb214 ?_
                refine qg_n rfl rfl hb214 ?_
                refine qg_n rfl rfl hb214 ?_
                refine qg_n rfl rfl hb214 ?_
                refine qg_n rfl rfl hb214 ?_
                refine qg_u rfl rfl ?_
                refine qg_u rfl rfl ?_
                refine qg_u rfl rfl ?_
                refine qg_u rfl rfl ?_
                refine qg_n rfl rfl hb214 ?_
                refine qg_y rfl rfl hb213 ?_
                refine q_v (o_pkf (.sc (.bool _)) rfl hb214 rfl) ?_
                refine q_v (o_pkf (.sc (.bool _)) rfl hb213 rfl) ?_
                refine q_v (o_mv (.sc (.bool _)) rfl) ?_
                refine qg_y rfl rfl rfl ?_
                refine q_v (o_flp fd63_1 rfl rfl) ?_
                refine qg_y rfl rfl rfl ?_
                refine q_v (o_ldp (.sc (.bool x167.Staged)) ld4 rfl (hp_get 0 hk172 rfl) rfl) ?_
                refine qg_y rfl rfl rfl ?_
                refine q_v (o_mv (.sc (.bool _)) rfl) ?_
                rcases Bool.eq_false_or_eq_true x167.Staged with hb220 | hb220
                · replace hm := ite_t hm hb220
                  refine qg_y rfl rfl hb220 ?_
                  refine q_v (o_flp fd63_2 rfl rfl) ?_
                  refine qg_y rfl rfl hb220 ?_
                  refine q_v (o_ldp (.sl none 1 (List.map c_u8 x167.Data)) ld52 rfl (hp_get 0 hk172 rfl) rfl) ?_
                  refine qg_y rfl rfl hb220 ?_
                  refine q_v (o_lenm ln52 rfl) ?_
                  refine qg_y rfl rfl hb220 ?_
                  obtain ⟨y221, hy222, hm⟩ := bind_of hm
                  refine q_v (o_call (W68 _ hy222) rfl bd68 rfl) ?_
                  refine qg_y rfl rfl hb220 ?_
                  refine q_v (o_not rfl) ?_
                  refine qg_y rfl rfl rfl ?_
                  refine q_v (o_pkt (.sc (.bool _)) rfl hb220 rfl) ?_
                  refine q_v (o_pkf (.sc (.bool _)) rfl rfl rfl) ?_
                  refine q_nil ?_
                  cases hm
                  exact ⟨rfl, (), hk172, LeF.fm (Sub.refl _) (.cons (ALe.refl _ _) (.cons (ALe.refl _ _) (.cons (ALe.refl _ _) (.cons (ALe.refl _ _) (.cons (ALe.refl _ _) (.nil))))))⟩
                · replace hm := ite_f hm hb220
                  refine qg_n rfl rfl hb220 ?_
                  refine qg_n rfl rfl hb220 ?_
                  refine qg_n rfl rfl hb220 ?_
                  refine qg_n rfl rfl hb220 ?_
                  refine qg_n rfl rfl hb220 ?_
                  refine qg_y rfl rfl rfl ?_
                  refine q_v (o_pkf (.sc (.bool _)) rfl hb220 rfl) ?_
                  refine q_v (o_pkf (.sc (.bool _)) rfl rfl rfl) ?_
                  refine q_nil ?_
                  cases hm
                  exact ⟨rfl, (), hk172, LeF.fm (Sub.refl _) (.cons (ALe.refl _ _) (.cons (ALe.refl _ _) (.cons (ALe.refl _ _) (.cons (ALe.refl _ _) (.cons (ALe.refl _ _) (.nil))))))⟩
        · replace hm := ite_f hm hb205
          refine qg_n rfl rfl hb205 ?_
          refine qg_n rfl rfl hb205 ?_
          refine qg_n rfl rfl hb205 ?_
          refine qg_n rfl rfl hb205 ?_
          refine qg_n rfl rfl hb205 ?_
          refine qg_n rfl rfl hb205 ?_
          refine qg_n rfl rfl hb205 ?_
          refine qg_n rfl rfl hb205 ?_
          refine qg_n rfl rfl hb205 ?_
          refine qg_n rfl rfl hb205 ?_
          refine qg_n rfl rfl hb205 ?_
          refine q_v (o_pkf (.sc (.bool _)) rfl hb205 rfl) ?_
          refine q_v (o_mv (.sc (.bool _)) rfl) ?_
          refine qg_y rfl rfl rfl ?_
          refine q_v (o_ldp (.agg (c_Catalog p0)) ld27 rfl (hp_get 1 hk172 rfl) rfl) ?_
          refine qg_y rfl rfl rfl ?_
          refine q_v (o_flp fd63_3 rfl rfl) ?_
          refine qg_y rfl rfl rfl ?_
          refine q_v (o_ldp (.sl none 4 (List.map c_Loc x167.Locs)) ld58 rfl (hp_get 0 hk172 rfl) rfl) ?_
          refine qg_y rfl rfl rfl ?_
          obtain ⟨y223, hy224, hm⟩ := bind_of hm
          refine q_v (o_call (W112 _ hy224) rfl bd112 rfl) ?_
          refine qg_y rfl rfl rfl ?_
          refine q_v (o_not rfl) ?_
          refine q_v (o_pkf (.sc (.bool _)) rfl rfl rfl) ?_
          refine q_v (o_mv (.sc (.bool _)) rfl) ?_
          rcases Bool.eq_false_or_eq_true (!y223) with hb225 | hb225
          · replace hm := ite_t hm hb225
            refine qg_n rfl rfl hb225 ?_
            refine qg_n rfl rfl hb225 ?_
            refine qg_n rfl rfl hb225 ?_
            refine qg_n rfl rfl hb225 ?_
            refine qg_u rfl rfl ?_
            refine qg_u rfl rfl ?_
            refine qg_u rfl rfl ?_
            refine qg_u rfl rfl ?_
            refine qg_u rfl rfl ?_
            refine qg_u rfl rfl ?_
            refine qg_u rfl rfl ?_
            refine qg_u rfl rfl ?_
            refine qg_u rfl rfl ?_
            refine qg_u rfl rfl ?_
            refine qg_n rfl rfl hb225 ?_
            refine q_v (o_pkt (.sc (.bool _)) rfl hb225 rfl) ?_
            refine q_v (o_mv (.sc (.bool _)) rfl) ?_
            refine qg_n rfl rfl rfl ?_
            refine qg_n rfl rfl rfl ?_
            refine qg_n rfl rfl rfl ?_
            refine qg_u rfl rfl ?_
            refine qg_u rfl rfl ?_
            refine qg_u rfl rfl ?_
            refine qg_u rfl rfl ?_
            refine qg_u rfl rfl ?_
            refine qg_n rfl rfl rfl ?_
            refine q_v (o_pkt (.sc (.bool _)) rfl rfl rfl) ?_
            refine q_nil ?_
            cases hm
            exact ⟨rfl, (), hk172, LeF.fm (Sub.refl _) (.cons (ALe.refl _ _) (.cons (ALe.refl _ _) (.cons (ALe.refl _ _) (.cons (ALe.refl _ _) (.cons (ALe.refl _ _) (.nil))))))⟩
          · replace hm := ite_f hm hb225
            refine qg_y rfl rfl hb225 ?_
            refine q_v (o_flp fd63_1 rfl rfl) ?_
            refine qg_y rfl rfl hb225 ?_
            refine q_v (o_ldp (.sc (.bool x167.Staged)) ld4 rfl (hp_get 0 hk172 rfl) rfl) ?_
            refine qg_y rfl rfl hb225 ?_
            refine q_v (o_not rfl) ?_
            refine qg_y rfl rfl hb225 ?_
            refine q_v (o_mv (.sc (.bool _)) rfl) ?_
            rcases Bool.eq_false_or_eq_true (!x167.Staged) with hb226 | hb226
            · replace hm := ite_t hm hb226
              refine qg_y rfl rfl hb226 ?_
              refine q_v (o_flp fd63_2 rfl rfl) ?_
              refine qg_y rfl rfl hb226 ?_
              refine q_v (o_ldp (.sl none 1 (List.map c_u8 x167.Data)) ld52 rfl (hp_get 0 hk172 rfl) rfl) ?_
              refine qg_y rfl rfl hb226 ?_
              refine q_v (o_lenm ln52 rfl) ?_
              refine qg_y rfl rfl hb226 ?_
              refine q_v (o_bi rfl rfl rfl trivial) ?_
              refine qg_y rfl rfl hb226 ?_
              refine q_v (o_mv (.sc (.bool _)) rfl) ?_
              rcases Bool.eq_false_or_eq_true (decide (0 < (x167.Data.length : Int))) with hb227 | hb227
              · replace hm := ite_t hm hb227
                refine qg_n rfl rfl hb227 ?_
                refine qg_n rfl rfl hb227 ?_
                refine qg_n rfl rfl hb227 ?_
                refine qg_n rfl rfl hb227 ?_
                refine qg_y rfl rfl hb226 ?_
                refine q_v (o_pkt (.sc (.bool _)) rfl hb227 rfl) ?_
                refine qg_y rfl rfl hb225 ?_
                refine q_v (o_pkt (.sc (.bool _)) rfl hb226 rfl) ?_
                refine q_v (o_pkf (.sc (.bool _)) rfl hb225 rfl) ?_
                refine q_v (o_mv (.sc (.bool _)) rfl) ?_
                refine qg_n rfl rfl rfl ?_
                refine qg_n rfl rfl rfl ?_
                refine qg_n rfl rfl rfl ?_
                refine qg_u rfl rfl ?_
                refine qg_u rfl rfl ?_
                refine qg_u rfl rfl ?_
                refine qg_u rfl rfl ?_
                refine qg_u rfl rfl ?_
                refine qg_n rfl rfl rfl ?_
                refine q_v (o_pkt (.sc (.bool _)) rfl rfl rfl) ?_
                refine q_nil ?_
                cases hm
                exact ⟨rfl, (), hk172, LeF.fm (Sub.refl _) (.cons (ALe.refl _ _) (.cons (ALe.refl _ _) (.cons (ALe.refl _ _) (.cons (ALe.refl _ _) (.cons (ALe.refl _ _) (.nil))))))⟩
              · replace hm := ite_f hm hb227
                refine qg_y rfl rfl hb227 ?_
                refine q_v (o_flp fd63_3 rfl rfl) ?_
                refine qg_y rfl rfl hb227 ?_
                refine q_v (o_ldp (.sl none 4 (List.map c_Loc x167.Locs)) ld58 rfl (hp_get 0 hk172 rfl) rfl) ?_
                refine qg_y rfl rfl hb227 ?_
                refine q_v (o_lenm ln58 rfl) ?_
                refine qg_y rfl rfl hb227 ?_
                refine q_v (o_bi rfl rfl rfl trivial) ?_
                refine qg_y rfl rfl hb226 ?_
                refine q_v (o_pkf (.sc (.bool _)) rfl hb227 rfl) ?_
                refine qg_y rfl rfl hb225 ?_
                refine q_v (o_pkt (.sc (.bool _)) rfl hb226 rfl) ?_
                refine q_v (o_pkf (.sc (.bool _)) rfl hb225 rfl) ?_
                refine q_v (o_mv (.sc (.bool _)) rfl) ?_
                rcases Bool.eq_false_or_eq_true ((x167.Locs.length : Int) == 0) with hb228 | hb228
                · replace hm := ite_t hm hb228
                  refine qg_n rfl rfl hb228 ?_
                  refine qg_n rfl rfl hb228 ?_
                  refine qg_n rfl rfl hb228 ?_
                  refine qg_u rfl rfl ?_
                  refine qg_u rfl rfl ?_
                  refine qg_u rfl rfl ?_
                  refine qg_u rfl rfl ?_
                  refine qg_u rfl rfl ?_
                  refine qg_n rfl rfl hb228 ?_
                  refine q_v (o_pkt (.sc (.bool _)) rfl hb228 rfl) ?_
                  refine q_nil ?_
                  cases hm
                  exact ⟨rfl, (), hk172, LeF.fm (Sub.refl _) (.cons (ALe.refl _ _) (.cons (ALe.refl _ _) (.cons (ALe.refl _ _) (.cons (ALe.refl _ _) (.cons (ALe.refl _ _) (.nil))))))⟩
                · replace hm := ite_f hm hb228
                  refine qg_y rfl rfl hb228 ?_
                  refine q_v (o_flp fd63_1 rfl rfl) ?_
                  refine qg_y rfl rfl hb228 ?_
                  refine q_v (o_ldp (.sc (.bool x167.Staged)) ld4 rfl (hp_get 0 hk172 rfl) rfl) ?_
                  refine qg_y rfl rfl hb228 ?_
                  refine q_v (o_mv (.sc (.bool _)) rfl) ?_
                  rcases Bool.eq_false_or_eq_true x167.Staged with hb229 | hb229
                  · replace hm := ite_t hm hb229
                    refine qg_y rfl rfl hb229 ?_
                    refine q_v (o_flp fd63_2 rfl rfl) ?_
                    refine qg_y rfl rfl hb229 ?_
                    refine q_v (o_ldp (.sl none 1 (List.map c_u8 x167.Data)) ld52 rfl (hp_get 0 hk172 rfl) rfl) ?_
                    refine qg_y rfl rfl hb229 ?_
                    refine q_v (o_lenm ln52 rfl) ?_
                    refine qg_y rfl rfl hb229 ?_
                    obtain ⟨y230, hy231, hm⟩ := bind_of hm
                    refine q_v (o_call (W68 _ hy231) rfl bd68 rfl) ?_
                    refine qg_y rfl rfl hb229 ?_
                    refine q_v (o_not rfl) ?_
                    refine qg_y rfl rfl hb228 ?_
                    refine q_v (o_pkt (.sc (.bool _)) rfl hb229 rfl) ?_
                    refine q_v (o_pkf (.sc (.bool _)) rfl hb228 rfl) ?_
                    refine q_nil ?_
                    cases hm
                    exact ⟨rfl, (), hk172, LeF.fm (Sub.refl _) (.cons (ALe.refl _ _) (.cons (ALe.refl _ _) (.cons (ALe.refl _ _) (.cons (ALe.refl _ _) (.cons (ALe.refl _ _) (.nil))))))⟩
                  · replace hm := ite_f hm hb229
                    refine qg_n rfl rfl hb229 ?_
                    refine qg_n rfl rfl hb229 ?_
                    refine qg_n rfl rfl hb229 ?_
                    refine qg_n rfl rfl hb229 ?_
                    refine qg_n rfl rfl hb229 ?_
                    refine qg_y rfl rfl hb228 ?_
                    refine q_v (o_pkf (.sc (.bool _)) rfl hb229 rfl) ?_
                    refine q_v (o_pkf (.sc (.bool _)) rfl hb228 rfl) ?_
                    refine q_nil ?_
                    cases hm
                    exact ⟨rfl, (), hk172, LeF.fm (Sub.refl _) (.cons (ALe.refl _ _) (.cons (ALe.refl _ _) (.cons (ALe.refl _ _) (.cons (ALe.refl _ _) (.cons (ALe.refl _ _) (.nil))))))⟩
            · replace hm := ite_f hm hb226
              refine qg_n rfl rfl hb226 ?_
              refine qg_n rfl rfl hb226 ?_
              refine qg_n rfl rfl hb226 ?_
              refine qg_n rfl rfl hb226 ?_
              refine qg_n rfl rfl hb226 ?_
              refine qg_u rfl rfl ?_
              refine qg_u rfl rfl ?_
              refine qg_u rfl rfl ?_
              refine qg_u rfl rfl ?_
              refine qg_n rfl rfl hb226 ?_
              refine qg_y rfl rfl hb225 ?_
              refine q_v (o_pkf (.sc (.bool _)) rfl hb226 rfl) ?_
              refine q_v (o_pkf (.sc (.bool _)) rfl hb225 rfl) ?_
              refine q_v (o_mv (.sc (.bool _)) rfl) ?_
              refine qg_y rfl rfl rfl ?_
              refine q_v (o_flp fd63_1 rfl rfl) ?_
              refine qg_y rfl rfl rfl ?_
              refine q_v (o_ldp (.sc (.bool x167.Staged)) ld4 rfl (hp_get 0 hk172 rfl) rfl) ?_
              refine qg_y rfl rfl rfl ?_
              refine q_v (o_mv (.sc (.bool _)) rfl) ?_
              rcases Bool.eq_false_or_eq_true x167.Staged with hb232 | hb232
              · replace hm := ite_t hm hb232
                refine qg_y rfl rfl hb232 ?_
                refine q_v (o_flp fd63_2 rfl rfl) ?_
                refine qg_y rfl rfl hb232 ?_
                refine q_v (o_ldp (.sl none 1 (List.map c_u8 x167.Data)) ld52 rfl (hp_get 0 hk172 rfl) rfl) ?_
                refine qg_y rfl rfl hb232 ?_
                refine q_v (o_lenm ln52 rfl) ?_
                refine qg_y rfl rfl hb232 ?_
                obtain ⟨y233, hy234, hm⟩ := bind_of hm
                refine q_v (o_call (W68 _ hy234) rfl bd68 rfl) ?_
                refine qg_y rfl rfl hb232 ?_
                refine q_v (o_not rfl) ?_
                refine qg_y rfl rfl rfl ?_
                refine q_v (o_pkt (.sc (.bool _)) rfl hb232 rfl) ?_
                refine q_v (o_pkf (.sc (.bool _)) rfl rfl rfl) ?_
                refine q_nil ?_
                cases hm
                exact ⟨rfl, (), hk172, LeF.fm (Sub.refl _) (.cons (ALe.refl _ _) (.cons (ALe.refl _ _) (.cons (ALe.refl _ _) (.cons (ALe.refl _ _) (.cons (ALe.refl _ _) (.nil))))))⟩
              · replace hm := ite_f hm hb232
                refine qg_n rfl rfl hb232 ?_
                refine qg_n rfl rfl hb232 ?_
                refine qg_n rfl rfl hb232 ?_
                refine qg_n rfl rfl hb232 ?_
                refine qg_n rfl rfl hb232 ?_
                refine qg_y rfl rfl rfl ?_
                refine q_v (o_pkf (.sc (.bool _)) rfl hb232 rfl) ?_
                refine q_v (o_pkf (.sc (.bool _)) rfl rfl rfl) ?_
                refine q_nil ?_
                cases hm
                exact ⟨rfl, (), hk172, LeF.fm (Sub.refl _) (.cons (ALe.refl _ _) (.cons (ALe.refl _ _) (.cons (ALe.refl _ _) (.cons (ALe.refl _ _) (.cons (ALe.refl _ _) (.nil))))))⟩
      · rintro _ j204 fr' h' hk235 hm le
        refine H173 _ _ (le.aw ?_)
        clear le H173 K173
        refine AW_if' rfl (fun hc236 => ?_) (fun hc236 => ?_)
        · replace hm := ite_t hm hc236
          refine AW_k fun K237 H237 => ?_
          refine AW_reg ?_
          refine s_v (o_as (.sc (.bool _)) rfl) ?_
          refine s_nil ?_
          refine H237 _ _ ?_
          clear H237 K237
          refine AW_ret ?_
          cases hm
          refine ⟨⟨nofun, nofun⟩, fun he => ?_⟩
          subst he
          exact Ret.of1 (.inl rfl) (rsT _ _ (.sc (.bool _)) rfl) (hp_sub (List.nil_sublist _) hk235).1 (ALe.refl _ _) ⟨rfl, rfl⟩
        · replace hm := ite_f hm hc236
          refine AW_skip ?_
          refine H165 _ _ ?_
          clear H165 K165
          refine AW_reg ?_
          refine s_v (o_bi rfl rfl rfl trivial) ?_
          refine s_v (o_mv (.sc (.int _ _)) rfl) ?_
          refine s_nil ?_
          cases hm
          exact ⟨rfl, (), (hp_sub (.cons _ (.refl _)) hk235).2, LeF.fm ((hp_sub (.cons _ (.refl _)) hk235).1) (.cons (ALe.refl _ _) (.cons (ALe.refl _ _) (.cons (ALe.refl _ _) (.cons (ALe.refl _ _) (.nil)))))⟩
    · replace hm := ite_f hm hc164
      refine AW_exit ?_
      refine Seq_exit ?_
      cases hm
      exact ⟨rfl, (), hk161, LeF.fm (Sub.refl _) (.cons (ALe.refl _ _) (.cons (ALe.refl _ _) (.cons (ALe.refl _ _) (.cons (ALe.refl _ _) (.nil)))))⟩
  · rintro _ r238 fr' h' hk239 hm le
    refine H5 _ _ (le.aw ?_)
    clear le H5 K5
    refine AW_k fun K240 H240 => ?_
    refine AW_reg ?_
    refine s_v (o_flp fd27_2 rfl rfl) ?_
    refine s_v (o_ldp (.sl none 35 (List.map c_Chunk p0.Chunks)) ld23 rfl (hp_get 0 hk239 rfl) rfl) ?_
    refine s_v (o_lenm ln23 rfl) ?_
    refine s_v (o_bi rfl rfl rfl trivial) ?_
    refine s_v (o_as (.sc (.bool _)) rfl) ?_
    refine s_nil ?_
    refine H240 _ _ ?_
    clear H240 K240
    refine AW_ret ?_
    cases hm
    exact Ret.of1 (.inl rfl) (rsT _ _ (.sc (.bool _)) rfl) (hp_sub (List.nil_sublist _) hk239).1 (ALe.refl _ _) ⟨rfl, rfl⟩
theorem bd70 : bodied Try.prog 70 = true := by kernel_rfl
def M143 (fuel : Nat) (p0 : TChunk) (p1 : Id32) : Option (Int) :=
  (M111 fuel p0.Id p1).bind fun y9 => some y9
set_option maxRecDepth 100000 in
/-- cellarer/catalog.Place$1 -/
theorem W143 {fuel : Nat} {p0 : TChunk} {p1 : Id32} {o : Int} (h : Heap) (hm : M143 fuel p0 p1 = some o) :
    ACalls Try.prog 143 [.agg (c_Chunk p0), .agg (c_id p1)] h (fun r h' => r = .sc (.int .i64 o) ∧ h' = h) := by
  refine ACalls_hp 9 [.tmp 4] Try.func143 rfl rfl rfl rfl ?_
  unfold M143 at hm
  refine AW_k fun K1 H1 => ?_
  refine AW_reg ?_
  refine s_op (a_box (HOk.nil _) rfl rfl fun k2 hk3 => ?_)
  refine s_op (a_box hk3 rfl rfl fun k5 hk6 => ?_)
  refine s_v (o_as (.sc (.int _ _)) rfl) ?_
  refine s_nil ?_
  refine H1 _ _ ?_
  clear H1 K1
  refine AW_k fun K8 H8 => ?_
  refine AW_reg ?_
  refine s_v (o_flp fd63_0 rfl rfl) ?_
  refine s_v (o_ldp (.agg (c_id p0.Id)) ld61 rfl (hp_get 1 hk6 rfl) rfl) ?_
  refine s_v (o_ldp (.agg (c_id p1)) ld61 rfl (hp_get 0 hk6 rfl) rfl) ?_
  obtain ⟨y9, hy10, hm⟩ := bind_of hm
  refine s_v (o_call (W111 _ hy10) rfl bd111 rfl) ?_
  refine s_v (o_as (.sc (.int _ _)) rfl) ?_
  refine s_nil ?_
  refine H8 _ _ ?_
  clear H8 K8
  refine AW_ret ?_
  cases hm
  exact Ret.of1 (.inl rfl) (rsT _ _ (.sc (.int _ _)) rfl) (hp_sub (List.nil_sublist _) hk6).1 (ALe.refl _ _) ⟨rfl, rfl⟩
theorem bd143 : bodied Try.prog 143 = true := by kernel_rfl
def M113 (fuel : Nat) (p0 : List TChunk) (p1 : Id32) : Option (Int × Bool) :=
  (M142 fuel p0 p1 (fun x0 x1 => M143 fuel x0 x1)).bind fun y6 => some (y6.1, y6.2)
set_option maxRecDepth 100000 in
/-- cellarer/catalog.Place -/
theorem W113 {fuel : Nat} {p0 : List TChunk} {p1 : Id32} {o : Int × Bool} (h : Heap) (hm : M113 fuel p0 p1 = some o) :
    ACalls Try.prog 113 [.sl none 35 (List.map c_Chunk p0), .agg (c_id p1)] h (fun r h' => r = .tup [.sc (.int .i64 o.1), .sc (.bool o.2)] ∧ h' = h) := by
  refine ACalls_hp 11 [.tmp 4, .tmp 5] Try.func113 rfl rfl rfl rfl ?_
  unfold M113 at hm
  refine AW_k fun K1 H1 => ?_
  refine AW_reg ?_
  refine s_op (a_box (HOk.nil _) rfl rfl fun k2 hk3 => ?_)
  refine s_v (o_as (.sc (.int _ _)) rfl) ?_
  refine s_v (o_as (.sc (.bool _)) rfl) ?_
  refine s_nil ?_
  refine H1 _ _ ?_
  clear H1 K1
  refine AW_k fun K5 H5 => ?_
  refine AW_reg ?_
  refine s_v (o_mv (.sl _ _ _) rfl) ?_
  refine s_v (o_ldp (.agg (c_id p1)) ld61 rfl (hp_get 0 hk3 rfl) rfl) ?_
  obtain ⟨y6, hy7, hm⟩ := bind_of hm
  refine s_v (o_call (W142 _ bd143 (fun x0 x1 o h0 hs ho => W143 _ ho) hy7) rfl bd142 rfl) ?_
  refine s_v (o_ex (.sc (.int _ _)) rfl rfl) ?_
  refine s_v (o_ex (.sc (.bool _)) rfl rfl) ?_
  refine s_v (o_as (.sc (.int _ _)) rfl) ?_
  refine s_v (o_as (.sc (.bool _)) rfl) ?_
  refine s_nil ?_
  refine H5 _ _ ?_
  clear H5 K5
  refine AW_ret ?_
  cases hm
  exact Ret.of2 (.inl rfl) (rsT _ _ (.sc (.int _ _)) rfl) (rsT _ _ (.sc (.bool _)) rfl) (hp_sub (List.nil_sublist _) hk3).1 (ALe.refl _ _) (ALe.refl _ _) ⟨rfl, rfl⟩
theorem bd113 : bodied Try.prog 113 = true := by kernel_rfl
def M71_L4 (fuel : Nat) (p0 : TCatalog) (x752 : TPart) (q794 : Int) : Option (Lp (Int) (Lp (Int) (Lp ((List ByteArray) × Int) (Bool)))) :=
  if (decide (q794 < (x752.Ids.length : Int))) = true then ((ix x752.Ids q794).bind fun x801 => (M113 fuel p0.Chunks x801).bind fun y808 => if (!y808.2) = true then (some (.ret (.ret (.ret false)))) else some (.go (IntKind.wrap .i64 (q794 + 1)))) else some (.brk q794)
def M71_L2 (fuel : Nat) (p0 : TCatalog) (x555 : TSnap) (q745 : Int) : Option (Lp (Int) (Lp ((List ByteArray) × Int) (Bool))) :=
  if (decide (q745 < (x555.Man.Parts.length : Int))) = true then ((ix x555.Man.Parts q745).bind fun x752 => after (loopM (fun s => M71_L4 fuel p0 x752 s) fuel 0) fun r813 => some (.go (IntKind.wrap .i64 (q745 + 1)))) else some (.brk q745)
def M71_L0 (fuel : Nat) (p0 : TCatalog) (q547 : List ByteArray) (q548 : Int) : Option (Lp ((List ByteArray) × Int) (Bool)) :=
  if (decide (q548 < (p0.Snaps.length : Int))) = true then ((ix p0.Snaps q548).bind fun x555 => after ((M68 fuel x555.Seq 0 (IntKind.wrap .i64 (p0.Seq - 1))).bind fun y583 => if (!y583) = true then (some (.brk true)) else if (decide (0 < q548)) = true then ((ix p0.Snaps (IntKind.wrap .i64 (q548 - 1))).bind fun x587 => if (decide (x555.Seq ≤ x587.Seq)) = true then (some (.brk true)) else if ((q547 : List ByteArray).any fun z => x555.Man.Name == z) = true then (some (.brk true)) else (M73 fuel x555.Man).bind fun y591 => if (y591 != 0) = true then (some (.brk true)) else (M112 fuel p0 x555.Locs).bind fun y594 => some (.brk (!y594))) else if ((q547 : List ByteArray).any fun z => x555.Man.Name == z) = true then (some (.brk true)) else (M73 fuel x555.Man).bind fun y597 => if (y597 != 0) = true then (some (.brk true)) else (M112 fuel p0 x555.Locs).bind fun y600 => some (.brk (!y600)) : Option (Lp (Bool) (Lp ((List ByteArray) × Int) (Bool)))) fun j582 => if j582 = true then (some (.ret false)) else after (loopM (fun s => M71_L2 fuel p0 x555 s) fuel 0) fun r815 => some (.go (madd (q547 : List ByteArray) x555.Man.Name, IntKind.wrap .i64 (q548 + 1)))) else some (.brk (q547, q548))
def M71 (fuel : Nat) (p0 : TCatalog) : Option (Bool) :=
  after (loopM (fun s => M71_L0 fuel p0 s.1 s.2) fuel ([], 0)) fun ⟨r817, r818⟩ => some (decide ((p0.Snaps.length : Int) ≤ 8))
set_option maxRecDepth 100000 in
/-- cellarer/catalog.snaps -/
theorem W71 {fuel : Nat} {p0 : TCatalog} {o : Bool} (h : Heap) (hm : M71 fuel p0 = some o) :
    ACalls Try.prog 71 [.agg (c_Catalog p0)] h (fun r h' => r = .sc (.bool o) ∧ h' = h) := by
  refine ACalls_hp 99 [.tmp 2] Try.func71 rfl rfl rfl rfl ?_
  unfold M71 at hm
  refine AW_k fun K1 H1 => ?_
  refine AW_reg ?_
  refine s_op (a_box (HOk.nil _) rfl rfl fun k2 hk3 => ?_)
  refine s_v (o_as (.sc (.bool _)) rfl) ?_
  refine s_nil ?_
  refine H1 _ _ ?_
  clear H1 K1
  refine AW_k fun K5 H5 => ?_
  refine AW_reg ?_
  refine s_op (a_mkmap hk3 fun k6 hk7 => ?_)
  refine s_v (o_as (.mpv _) rfl) ?_
  refine s_nil ?_
  refine H5 _ _ ?_
  clear H5 K5
  refine AW_k fun K9 H9 => ?_
  refine AW_k fun K10 H10 => ?_
  refine AW_reg ?_
  refine s_v (o_flp fd27_1 rfl rfl) ?_
  refine s_v (o_ldp (.sl none 4 (List.map c_Snap p0.Snaps)) ld22 rfl (hp_get 1 hk7 rfl) rfl) ?_
  refine s_v (o_lenm ln22 rfl) ?_
  refine s_v (o_mv (.sc (.int _ _)) rfl) ?_
  refine s_nil ?_
  refine H10 _ _ ?_
  clear H10 K10
  refine AW_loopG (n := 99) hm (σ := (List ByteArray) × Int) (τ := Unit) (fun g s => HOk h [(some k6, .mp (mset kS (s.1 : List ByteArray))), (some k2, .obj 27 (c_Catalog p0))]) (fun g s => kp (kp (kp (kp (kp (k0) 16 (.sc (.int .i64 s.2))) 15 (.sc (.int .i64 (p0.Snaps.length : Int)))) 14 (.sl none 4 (List.map c_Snap p0.Snaps))) 3 (.mpv k6)) 1 (.ptr k2 0)) (fun g s => hp h [(some k6, .mp (mset kS (s.1 : List ByteArray))), (some k2, .obj 27 (c_Catalog p0))]) () hk7 (LeF.fm (Sub.refl _) (.cons (ALe.refl _ _) (.cons (ALe.refl _ _) (.cons (ALe.refl _ _) (.cons (ALe.refl _ _) (.cons (ALe.refl _ _) (.nil))))))) ?_ ?_
  · rintro _ ⟨q547, q548⟩ x hk549 hm
    replace hm : M71_L0 fuel p0 q547 q548 = some x := hm
    unfold M71_L0 at hm
    refine AW_k fun K550 H550 => ?_
    refine AW_reg ?_
    refine s_v (o_bi rfl rfl rfl trivial) ?_
    refine s_nil ?_
    refine H550 _ _ ?_
    clear H550 K550
    refine AW_k fun K551 H551 => ?_
    refine AW_if' rfl (fun hc552 => ?_) (fun hc552 => ?_)
    · replace hm := ite_t hm hc552
      refine AW_skip ?_
      refine H551 _ _ ?_
      clear H551 K551
      refine AW_k fun K553 H553 => ?_
      refine AW_block ?_
      refine AW_k fun K554 H554 => ?_
      refine AW_reg ?_
      refine s_v (o_mv (.sc (.int _ _)) rfl) ?_
      obtain ⟨x555, hx556, hm⟩ := bind_of hm
      refine s_v (o_ix hx556 el22 rfl rfl) ?_
      refine s_v (o_ld (.agg (c_Snap x555)) ld60 rfl rfl) ?_
      refine s_op (a_alloc ([.sc (.int .i64 0), .sc (.string ByteArray.empty), .sc (.slice none 0 0), .sc (.slice none 0 0)]) hk549 zr60 rfl rfl fun k557 hk558 => ?_)
      refine s_v (o_as (.sc (.int _ _)) rfl) ?_
      refine s_op (a_store 0 (c_Snap x555) hk558 rfl rfl rfl rfl sz60 rfl rfl fun hk560 => ?_)
      refine s_nil ?_
      refine H554 _ _ ?_
      clear H554 K554
      refine AW_k fun K561 H561 => ?_
      refine AW_k fun K562 H562 => ?_
      refine AW_joinG (n := 99) hm (σ := Bool) (τ := Unit) (fun g s => HOk h [(some k557, .obj 60 (c_Snap x555)), (some k6, .mp (mset kS (q547 : List ByteArray))), (some k2, .obj 27 (c_Catalog p0))]) (fun g s => kp (kp (kp (kp (kp (kp (kp (k0) 63 (.sc (.bool s))) 16 (.sc (.int .i64 q548))) 15 (.sc (.int .i64 (p0.Snaps.length : Int)))) 14 (.sl none 4 (List.map c_Snap p0.Snaps))) 5 (.ptr k557 0)) 3 (.mpv k6)) 1 (.ptr k2 0)) (fun g s => hp h [(some k557, .obj 60 (c_Snap x555)), (some k6, .mp (mset kS (q547 : List ByteArray))), (some k2, .obj 27 (c_Catalog p0))]) (fun x hm => ?_) ?_
      · refine AW_region_q [(some 21, [5], []), (some 22, [21], [0]), (some 23, [1], []), (some 24, [23], [2]), (some 25, [24], [3]), (some 26, [22, 25], [1, 4]), (some 27, [26], [5]), (some 28, [27], [6, 5]), (some 29, [4, 28], [7]), (some 30, [29, 28], [8, 7]), (some 31, [30, 28], [9, 7, 7]), (some 32, [1, 31], [10]), (some 33, [32, 31], [11, 10]), (some 34, [4, 31], [10]), (some 35, [34, 31], [13, 10]), (some 36, [33, 35, 31], [12, 14, 10]), (some 37, [36, 31], [15, 10]), (some 38, [37, 31], [16, 10]), (some 39, [5, 31], [10]), (some 40, [39, 31], [18, 10]), (some 41, [38, 40, 31], [17, 19, 10]), (some 42, [31, 41, 28], [10, 20, 7]), (some 43, [28, 42], [7, 21]), (some 44, [43], [22, 10]), (some 45, [3, 44], [23]), (some 46, [5, 44], [23]), (some 47, [46, 44], [25, 23]), (some 48, [47, 44], [26, 23]), (some 49, [45, 48, 44], [24, 27, 23]), (some 50, [44, 49], [23, 28]), (some 51, [50], [29, 23]), (some 52, [5, 51], [30]), (some 53, [52, 51], [31, 30]), (some 54, [53, 51], [32, 30, 30]), (some 55, [54, 51], [33, 30]), (some 56, [51, 55], [30, 34]), (some 57, [56], [35, 33]), (some 58, [1, 57], [36]), (some 59, [5, 57], [36]), (some 60, [59, 57], [38, 36]), (some 61, [58, 60, 57], [37, 39, 36, 36]), (some 62, [61, 57], [40, 36]), (some 63, [57, 62], [36, 41])] mixed (by kernel_rfl) (by kernel_rfl) ?_
        refine q_v (o_flp fd60_0 rfl rfl) ?_
        refine q_v (o_ldp (.sc (.int .i64 x555.Seq)) ld3 rfl (hp_get 0 hk560 rfl) rfl) ?_
        refine q_v (o_flp fd27_0 rfl rfl) ?_
        refine q_v (o_ldp (.sc (.int .i64 p0.Seq)) ld3 rfl (hp_get 2 hk560 rfl) rfl) ?_
        refine q_v (o_bi rfl rfl rfl trivial) ?_
        obtain ⟨y583, hy584, hm⟩ := bind_of hm
        refine q_v (o_call (W68 _ hy584) rfl bd68 rfl) ?_
        refine q_v (o_not rfl) ?_
        refine q_v (o_mv (.sc (.bool _)) rfl) ?_
        rcases Bool.eq_false_or_eq_true (!y583) with hb585 | hb585
        · replace hm := ite_t hm hb585
          refine qg_n rfl rfl hb585 ?_
          refine qg_n rfl rfl hb585 ?_
          refine qg_n rfl rfl hb585 ?_
          refine qg_u rfl rfl ?_
          refine qg_u rfl rfl ?_
          refine qg_u rfl rfl ?_
          refine qg_u rfl rfl ?_
          refine qg_u rfl rfl ?_
          refine qg_u rfl rfl ?_
          refine qg_u rfl rfl ?_
          refine qg_u rfl rfl ?_
          refine qg_u rfl rfl ?_
          refine qg_u rfl rfl ?_
          refine qg_n rfl rfl hb585 ?_
          refine q_v (o_pkt (.sc (.bool _)) rfl hb585 rfl) ?_
          refine q_v (o_mv (.sc (.bool _)) rfl) ?_
          refine qg_n rfl rfl rfl ?_
          refine qg_n rfl rfl rfl ?_
          refine qg_n rfl rfl rfl ?_
          refine qg_n rfl rfl rfl ?_
          refine qg_n rfl rfl rfl ?_
          refine q_v (o_pkt (.sc (.bool _)) rfl rfl rfl) ?_
          refine q_v (o_mv (.sc (.bool _)) rfl) ?_
          refine qg_n rfl rfl rfl ?_
          refine qg_n rfl rfl rfl ?_
          refine qg_n rfl rfl rfl ?_
          refine qg_n rfl rfl rfl ?_
          refine q_v (o_pkt (.sc (.bool _)) rfl rfl rfl) ?_
          refine q_v (o_mv (.sc (.bool _)) rfl) ?_
          refine qg_n rfl rfl rfl ?_
          refine qg_n rfl rfl rfl ?_
          refine qg_n rfl rfl rfl ?_
          refine qg_n rfl rfl rfl ?_
          refine qg_n rfl rfl rfl ?_
          refine q_v (o_pkt (.sc (.bool _)) rfl rfl rfl) ?_
          refine q_nil ?_
          cases hm
          exact ⟨rfl, (), hk560, LeF.fm (Sub.refl _) (.cons (ALe.refl _ _) (.cons (ALe.refl _ _) (.cons (ALe.refl _ _) (.cons (ALe.refl _ _) (.cons (ALe.refl _ _) (.cons (ALe.refl _ _) (.cons (ALe.refl _ _) (.nil))))))))⟩
        · replace hm := ite_f hm hb585
          refine qg_y rfl rfl hb585 ?_
          refine q_v (o_mv (.sc (.int _ _)) rfl) ?_
          refine qg_y rfl rfl hb585 ?_
          refine q_v (o_bi rfl rfl rfl trivial) ?_
          refine qg_y rfl rfl hb585 ?_
          refine q_v (o_mv (.sc (.bool _)) rfl) ?_
          rcases Bool.eq_false_or_eq_true (decide (0 < q548)) with hb586 | hb586
          · replace hm := ite_t hm hb586
            refine qg_y rfl rfl hb586 ?_
            refine q_v (o_flp fd27_1 rfl rfl) ?_
            refine qg_y rfl rfl hb586 ?_
            refine q_v (o_ldp (.sl none 4 (List.map c_Snap p0.Snaps)) ld22 rfl (hp_get 2 hk560 rfl) rfl) ?_
            refine qg_y rfl rfl hb586 ?_
            refine q_v (o_mv (.sc (.int _ _)) rfl) ?_
            refine qg_y rfl rfl hb586 ?_
            refine q_v (o_bi rfl rfl rfl trivial) ?_
            refine qg_y rfl rfl hb586 ?_
            obtain ⟨x587, hx588, hm⟩ := bind_of hm
            refine q_v (o_ix hx588 el22 rfl rfl) ?_
            refine qg_y rfl rfl hb586 ?_
            refine q_v (o_fl fd60_0 rfl rfl) ?_
            refine qg_y rfl rfl hb586 ?_
            refine q_v (o_ld (.sc (.int .i64 x587.Seq)) ld3 rfl rfl) ?_
            refine qg_y rfl rfl hb586 ?_
            refine q_v (o_flp fd60_0 rfl rfl) ?_
            refine qg_y rfl rfl hb586 ?_
            refine q_v (o_ldp (.sc (.int .i64 x555.Seq)) ld3 rfl (hp_get 0 hk560 rfl) rfl) ?_
            refine qg_y rfl rfl hb586 ?_
            refine q_v (o_bi rfl rfl rfl trivial) ?_
            refine qg_y rfl rfl hb585 ?_
            refine q_v (o_pkt (.sc (.bool _)) rfl hb586 rfl) ?_
            refine q_v (o_pkf (.sc (.bool _)) rfl hb585 rfl) ?_
            refine q_v (o_mv (.sc (.bool _)) rfl) ?_
            rcases Bool.eq_false_or_eq_true (decide (x555.Seq ≤ x587.Seq)) with hb589 | hb589
            · replace hm := ite_t hm hb589
              refine qg_n rfl rfl hb589 ?_
              refine qg_n rfl rfl hb589 ?_
              refine qg_n rfl rfl hb589 ?_
              refine qg_n rfl rfl hb589 ?_
              refine qg_n rfl rfl hb589 ?_
              refine q_v (o_pkt (.sc (.bool _)) rfl hb589 rfl) ?_
              refine q_v (o_mv (.sc (.bool _)) rfl) ?_
              refine qg_n rfl rfl rfl ?_
              refine qg_n rfl rfl rfl ?_
              refine qg_n rfl rfl rfl ?_
              refine qg_n rfl rfl rfl ?_
              refine q_v (o_pkt (.sc (.bool _)) rfl rfl rfl) ?_
              refine q_v (o_mv (.sc (.bool _)) rfl) ?_
              refine qg_n rfl rfl rfl ?_
              refine qg_n rfl rfl rfl ?_
              refine qg_n rfl rfl rfl ?_
              refine qg_n rfl rfl rfl ?_
              refine qg_n rfl rfl rfl ?_
              refine q_v (o_pkt (.sc (.bool _)) rfl rfl rfl) ?_
              refine q_nil ?_
              cases hm
              exact ⟨rfl, (), hk560, LeF.fm (Sub.refl _) (.cons (ALe.refl _ _) (.cons (ALe.refl _ _) (.cons (ALe.refl _ _) (.cons (ALe.refl _ _) (.cons (ALe.refl _ _) (.cons (ALe.refl _ _) (.cons (ALe.refl _ _) (.nil))))))))⟩
            · replace hm := ite_f hm hb589
              refine qg_y rfl rfl hb589 ?_
              refine q_v (o_mv (.mpv _) rfl) ?_
              refine qg_y rfl rfl hb589 ?_
              refine q_v (o_flp fd60_1 rfl rfl) ?_
              refine qg_y rfl rfl hb589 ?_
              refine q_v (o_flp fd57_0 rfl rfl) ?_
              refine qg_y rfl rfl hb589 ?_
              refine q_v (o_ldp (.sc (.string x555.Man.Name)) ld9 rfl (hp_get 0 hk560 rfl) rfl) ?_
              refine qg_y rfl rfl hb589 ?_
              refine q_v (o_look um153 zb4 (KeyT.str u9) rfl rfl (hp_get 1 hk560 rfl)) ?_
              refine q_v (o_pkf (.sc (.bool _)) rfl hb589 rfl) ?_
              refine q_v (o_mv (.sc (.bool _)) rfl) ?_
              rcases Bool.eq_false_or_eq_true ((q547 : List ByteArray).any fun z => x555.Man.Name == z) with hb590 | hb590
              · replace hm := ite_t hm hb590
                refine qg_n rfl rfl hb590 ?_
                refine qg_n rfl rfl hb590 ?_
                refine qg_n rfl rfl hb590 ?_
                refine qg_n rfl rfl hb590 ?_
                refine q_v (o_pkt (.sc (.bool _)) rfl hb590 rfl) ?_
                refine q_v (o_mv (.sc (.bool _)) rfl) ?_
                refine qg_n rfl rfl rfl ?_
                refine qg_n rfl rfl rfl ?_
                refine qg_n rfl rfl rfl ?_
                refine qg_n rfl rfl rfl ?_
                refine qg_n rfl rfl rfl ?_
                refine q_v (o_pkt (.sc (.bool _)) rfl rfl rfl) ?_
                refine q_nil ?_
                cases hm
                exact ⟨rfl, (), hk560, LeF.fm (Sub.refl _) (.cons (ALe.refl _ _) (.cons (ALe.refl _ _) (.cons (ALe.refl _ _) (.cons (ALe.refl _ _) (.cons (ALe.refl _ _) (.cons (ALe.refl _ _) (.cons (ALe.refl _ _) (.nil))))))))⟩
              · replace hm := ite_f hm hb590
                refine qg_y rfl rfl hb590 ?_
                refine q_v (o_flp fd60_1 rfl rfl) ?_
                refine qg_y rfl rfl hb590 ?_
                refine q_v (o_ldp (.agg (c_Manifest x555.Man)) ld57 rfl (hp_get 0 hk560 rfl) rfl) ?_
                refine qg_y rfl rfl hb590 ?_
                obtain ⟨y591, hy592, hm⟩ := bind_of hm
                refine q_v (o_call (W73 _ hy592) rfl bd73 rfl) ?_
                refine qg_y rfl rfl hb590 ?_
                refine q_v (o_bi rfl rfl rfl trivial) ?_
                refine q_v (o_pkf (.sc (.bool _)) rfl hb590 rfl) ?_
                refine q_v (o_mv (.sc (.bool _)) rfl) ?_
                rcases Bool.eq_false_or_eq_true (y591 != 0) with hb593 | hb593
                · replace hm := ite_t hm hb593
                  refine qg_n rfl rfl hb593 ?_
                  refine qg_n rfl rfl hb593 ?_
                  refine qg_n rfl rfl hb593 ?_
                  refine qg_n rfl rfl hb593 ?_
                  refine qg_n rfl rfl hb593 ?_
                  refine q_v (o_pkt (.sc (.bool _)) rfl hb593 rfl) ?_
                  refine q_nil ?_
                  cases hm
                  exact ⟨rfl, (), hk560, LeF.fm (Sub.refl _) (.cons (ALe.refl _ _) (.cons (ALe.refl _ _) (.cons (ALe.refl _ _) (.cons (ALe.refl _ _) (.cons (ALe.refl _ _) (.cons (ALe.refl _ _) (.cons (ALe.refl _ _) (.nil))))))))⟩
                · replace hm := ite_f hm hb593
                  refine qg_y rfl rfl hb593 ?_
                  refine q_v (o_ldp (.agg (c_Catalog p0)) ld27 rfl (hp_get 2 hk560 rfl) rfl) ?_
                  refine qg_y rfl rfl hb593 ?_
                  refine q_v (o_flp fd60_2 rfl rfl) ?_
                  refine qg_y rfl rfl hb593 ?_
                  refine q_v (o_ldp (.sl none 4 (List.map c_Loc x555.Locs)) ld58 rfl (hp_get 0 hk560 rfl) rfl) ?_
                  refine qg_y rfl rfl hb593 ?_
                  obtain ⟨y594, hy595, hm⟩ := bind_of hm
                  refine q_v (o_call (W112 _ hy595) rfl bd112 rfl) ?_
                  refine qg_y rfl rfl hb593 ?_
                  refine q_v (o_not rfl) ?_
                  refine q_v (o_pkf (.sc (.bool _)) rfl hb593 rfl) ?_
                  refine q_nil ?_
                  cases hm
                  exact ⟨rfl, (), hk560, LeF.fm (Sub.refl _) (.cons (ALe.refl _ _) (.cons (ALe.refl _ _) (.cons (ALe.refl _ _) (.cons (ALe.refl _ _) (.cons (ALe.refl _ _) (.cons (ALe.refl _ _) (.cons (ALe.refl _ _) (.nil))))))))⟩
          · replace hm := ite_f hm hb586
            refine qg_n rfl rfl hb586 ?_
            refine qg_n rfl rfl hb586 ?_
            refine qg_n rfl rfl hb586 ?_
            refine qg_n rfl rfl hb586 ?_
            refine qg_n rfl rfl hb586 ?_
            refine qg_n rfl rfl hb586 ?_
            refine qg_n rfl rfl hb586 ?_
            refine qg_n rfl rfl hb586 ?_
            refine qg_n rfl rfl hb586 ?_
            refine qg_n rfl rfl hb586 ?_
            refine qg_y rfl rfl hb585 ?_
            refine q_v (o_pkf (.sc (.bool _)) rfl hb586 rfl) ?_
            refine q_v (o_pkf (.sc (.bool _)) rfl hb585 rfl) ?_
            refine q_v (o_mv (.sc (.bool _)) rfl) ?_
            refine qg_y rfl rfl rfl ?_
            refine q_v (o_mv (.mpv _) rfl) ?_
            refine qg_y rfl rfl rfl ?_
            refine q_v (o_flp fd60_1 rfl rfl) ?_
            refine qg_y rfl rfl rfl ?_
            refine q_v (o_flp fd57_0 rfl rfl) ?_
            refine qg_y rfl rfl rfl ?_
            refine q_v (o_ldp (.sc (.string x555.Man.Name)) ld9 rfl (hp_get 0 hk560 rfl) rfl) ?_
            refine qg_y rfl rfl rfl ?_
            refine q_v (o_look um153 zb4 (KeyT.str u9) rfl rfl (hp_get 1 hk560 rfl)) ?_
            refine q_v (o_pkf (.sc (.bool _)) rfl rfl rfl) ?_
            refine q_v (o_mv (.sc (.bool _)) rfl) ?_
            rcases Bool.eq_false_or_eq_true ((q547 : List ByteArray).any fun z => x555.Man.Name == z) with hb596 | hb596
            · replace hm := ite_t hm hb596
              refine qg_n rfl rfl hb596 ?_
              refine qg_n rfl rfl hb596 ?_
              refine qg_n rfl rfl hb596 ?_
              refine qg_n rfl rfl hb596 ?_
              refine q_v (o_pkt (.sc (.bool _)) rfl hb596 rfl) ?_
              refine q_v (o_mv (.sc (.bool _)) rfl) ?_
              refine qg_n rfl rfl rfl ?_
              refine qg_n rfl rfl rfl ?_
              refine qg_n rfl rfl rfl ?_
              refine qg_n rfl rfl rfl ?_
              refine qg_n rfl rfl rfl ?_
              refine q_v (o_pkt (.sc (.bool _)) rfl rfl rfl) ?_
              refine q_nil ?_
              cases hm
              exact ⟨rfl, (), hk560, LeF.fm (Sub.refl _) (.cons (ALe.refl _ _) (.cons (ALe.refl _ _) (.cons (ALe.refl _ _) (.cons (ALe.refl _ _) (.cons (ALe.refl _ _) (.cons (ALe.refl _ _) (.cons (ALe.refl _ _) (.nil))))))))⟩
            · replace hm := ite_f hm hb596
              refine qg_y rfl rfl hb596 ?_
              refine q_v (o_flp fd60_1 rfl rfl) ?_
              refine qg_y rfl rfl hb596 ?_
              refine q_v (o_ldp (.agg (c_Manifest x555.Man)) ld57 rfl (hp_get 0 hk560 rfl) rfl) ?_
              refine qg_y rfl rfl hb596 ?_
              obtain ⟨y597, hy598, hm⟩ := bind_of hm
              refine q_v (o_call (W73 _ hy598) rfl bd73 rfl) ?_
              refine qg_y rfl rfl hb596 ?_
              refine q_v (o_bi rfl rfl rfl trivial) ?_
              refine q_v (o_pkf (.sc (.bool _)) rfl hb596 rfl) ?_
              refine q_v (o_mv (.sc (.bool _)) rfl) ?_
              rcases Bool.eq_false_or_eq_true (y597 != 0) with hb599 | hb599
              · replace hm := ite_t hm hb599
                refine qg_n rfl rfl hb599 ?_
                refine qg_n rfl rfl hb599 ?_
                refine qg_n rfl rfl hb599 ?_
                refine qg_n rfl rfl hb599 ?_
                refine qg_n rfl rfl hb599 ?_
                refine q_v (o_pkt (.sc (.bool _)) rfl hb599 rfl) ?_
                refine q_nil ?_
                cases hm
                exact ⟨rfl, (), hk560, LeF.fm (Sub.refl _) (.cons (ALe.refl _ _) (.cons (ALe.refl _ _) (.cons (ALe.refl _ _) (.cons (ALe.refl _ _) (.cons (ALe.refl _ _) (.cons (ALe.refl _ _) (.cons (ALe.refl _ _) (.nil))))))))⟩
              · replace hm := ite_f hm hb599
                refine qg_y rfl rfl hb599 ?_
                refine q_v (o_ldp (.agg (c_Catalog p0)) ld27 rfl (hp_get 2 hk560 rfl) rfl) ?_
                refine qg_y rfl rfl hb599 ?_
                refine q_v (o_flp fd60_2 rfl rfl) ?_
                refine qg_y rfl rfl hb599 ?_
                refine q_v (o_ldp (.sl none 4 (List.map c_Loc x555.Locs)) ld58 rfl (hp_get 0 hk560 rfl) rfl) ?_
                refine qg_y rfl rfl hb599 ?_
                obtain ⟨y600, hy601, hm⟩ := bind_of hm
                refine q_v (o_call (W112 _ hy601) rfl bd112 rfl) ?_
                refine qg_y rfl rfl hb599 ?_
                refine q_v (o_not rfl) ?_
                refine q_v (o_pkf (.sc (.bool _)) rfl hb599 rfl) ?_
                refine q_nil ?_
                cases hm
                exact ⟨rfl, (), hk560, LeF.fm (Sub.refl _) (.cons (ALe.refl _ _) (.cons (ALe.refl _ _) (.cons (ALe.refl _ _) (.cons (ALe.refl _ _) (.cons (ALe.refl _ _) (.cons (ALe.refl _ _) (.cons (ALe.refl _ _) (.nil))))))))⟩
      · rintro _ j582 fr' h' hk602 hm le
        refine H562 _ _ (le.aw ?_)
        clear le H562 K562
        refine AW_if' rfl (fun hc603 => ?_) (fun hc603 => ?_)
        · replace hm := ite_t hm hc603
          refine AW_k fun K604 H604 => ?_
          refine AW_reg ?_
          refine s_v (o_as (.sc (.bool _)) rfl) ?_
          refine s_nil ?_
          refine H604 _ _ ?_
          clear H604 K604
          refine AW_ret ?_
          cases hm
          refine ⟨⟨nofun, nofun⟩, fun he => ?_⟩
          subst he
          exact Ret.of1 (.inl rfl) (rsT _ _ (.sc (.bool _)) rfl) (hp_sub (List.nil_sublist _) hk602).1 (ALe.refl _ _) ⟨rfl, rfl⟩
        · replace hm := ite_f hm hc603
          refine AW_skip ?_
          refine H561 _ _ ?_
          clear H561 K561
          refine AW_k fun K605 H605 => ?_
          refine AW_reg ?_
          refine s_v (o_mv (.mpv _) rfl) ?_
          refine s_v (o_flp fd60_1 rfl rfl) ?_
          refine s_v (o_flp fd57_0 rfl rfl) ?_
          refine s_v (o_ldp (.sc (.string x555.Man.Name)) ld9 rfl (hp_get 0 hk602 rfl) rfl) ?_
          refine s_op (a_mset 1 hk602 um153 (KeyT.str u9) rfl rfl rfl rfl fun hk606 => ?_)
          refine s_nil ?_
          refine H605 _ _ ?_
          clear H605 K605
          refine AW_k fun K607 H607 => ?_
          refine AW_reg ?_
          refine s_v (o_flp fd60_1 rfl rfl) ?_
          refine s_v (o_flp fd57_1 rfl rfl) ?_
          refine s_v (o_ldp (.sl none 3 (List.map c_Part x555.Man.Parts)) ld55 rfl (hp_get 0 hk606 rfl) rfl) ?_
          refine s_v (o_lenm ln55 rfl) ?_
          refine s_v (o_mv (.sc (.int _ _)) rfl) ?_
          refine s_nil ?_
          refine H607 _ _ ?_
          clear H607 K607
          refine AW_loopG (n := 99) hm (σ := Int) (τ := Unit) (fun g s => HOk h [(some k557, .obj 60 (c_Snap x555)), (some k6, .mp (mset kS (madd (q547 : List ByteArray) x555.Man.Name : List ByteArray))), (some k2, .obj 27 (c_Catalog p0))]) (fun g s => kp (kp (kp (kp (kp (kp (kp (kp (k0) 72 (.sc (.int .i64 s))) 71 (.sc (.int .i64 (x555.Man.Parts.length : Int)))) 70 (.sl none 3 (List.map c_Part x555.Man.Parts))) 16 (.sc (.int .i64 q548))) 15 (.sc (.int .i64 (p0.Snaps.length : Int)))) 14 (.sl none 4 (List.map c_Snap p0.Snaps))) 3 (.mpv k6)) 1 (.ptr k2 0)) (fun g s => hp h [(some k557, .obj 60 (c_Snap x555)), (some k6, .mp (mset kS (madd (q547 : List ByteArray) x555.Man.Name : List ByteArray))), (some k2, .obj 27 (c_Catalog p0))]) () hk606 (LeF.fm (Sub.refl _) (.cons (ALe.refl _ _) (.cons (ALe.refl _ _) (.cons (ALe.refl _ _) (.cons (ALe.refl _ _) (.cons (ALe.refl _ _) (.cons (ALe.refl _ _) (.cons (ALe.refl _ _) (.cons (ALe.refl _ _) (.nil)))))))))) ?_ ?_
          · rintro _ q745 x hk746 hm
            replace hm : M71_L2 fuel p0 x555 q745 = some x := hm
            unfold M71_L2 at hm
            refine AW_k fun K747 H747 => ?_
            refine AW_reg ?_
            refine s_v (o_bi rfl rfl rfl trivial) ?_
            refine s_nil ?_
            refine H747 _ _ ?_
            clear H747 K747
            refine AW_k fun K748 H748 => ?_
            refine AW_if' rfl (fun hc749 => ?_) (fun hc749 => ?_)
            · replace hm := ite_t hm hc749
              refine AW_skip ?_
              refine H748 _ _ ?_
              clear H748 K748
              refine AW_k fun K750 H750 => ?_
              refine AW_block ?_
              refine AW_k fun K751 H751 => ?_
              refine AW_reg ?_
              obtain ⟨x752, hx753, hm⟩ := bind_of hm
              refine s_v (o_ix hx753 el55 rfl rfl) ?_
              refine s_v (o_ld (.agg (c_Part x752)) ld82 rfl rfl) ?_
              refine s_op (a_alloc ([.sc (.string ByteArray.empty), .sc (.int .i64 0), .sc (.slice none 0 0)]) hk746 zr82 rfl rfl fun k754 hk755 => ?_)
              refine s_op (a_store 0 (c_Part x752) hk755 rfl rfl rfl rfl sz82 rfl rfl fun hk757 => ?_)
              refine s_nil ?_
              refine H751 _ _ ?_
              clear H751 K751
              refine AW_k fun K758 H758 => ?_
              refine AW_reg ?_
              refine s_v (o_flp fd82_2 rfl rfl) ?_
              refine s_v (o_ldp (.sl none 32 (List.map c_id x752.Ids)) ld80 rfl (hp_get 0 hk757 rfl) rfl) ?_
              refine s_v (o_lenm ln80 rfl) ?_
              refine s_v (o_mv (.sc (.int _ _)) rfl) ?_
              refine s_nil ?_
              refine H758 _ _ ?_
              clear H758 K758
              refine AW_loopG (n := 99) hm (σ := Int) (τ := Unit) (fun g s => HOk h [(some k754, .obj 82 (c_Part x752)), (some k557, .obj 60 (c_Snap x555)), (some k6, .mp (mset kS (madd (q547 : List ByteArray) x555.Man.Name : List ByteArray))), (some k2, .obj 27 (c_Catalog p0))]) (fun g s => kp (kp (kp (kp (kp (kp (kp (kp (kp (kp (kp (k0) 79 (.sc (.int .i64 s))) 78 (.sc (.int .i64 (x752.Ids.length : Int)))) 77 (.sl none 32 (List.map c_id x752.Ids))) 72 (.sc (.int .i64 q745))) 71 (.sc (.int .i64 (x555.Man.Parts.length : Int)))) 70 (.sl none 3 (List.map c_Part x555.Man.Parts))) 16 (.sc (.int .i64 q548))) 15 (.sc (.int .i64 (p0.Snaps.length : Int)))) 14 (.sl none 4 (List.map c_Snap p0.Snaps))) 3 (.mpv k6)) 1 (.ptr k2 0)) (fun g s => hp h [(some k754, .obj 82 (c_Part x752)), (some k557, .obj 60 (c_Snap x555)), (some k6, .mp (mset kS (madd (q547 : List ByteArray) x555.Man.Name : List ByteArray))), (some k2, .obj 27 (c_Catalog p0))]) () hk757 (LeF.fm (Sub.refl _) (.cons (ALe.refl _ _) (.cons (ALe.refl _ _) (.cons (ALe.refl _ _) (.cons (ALe.refl _ _) (.cons (ALe.refl _ _) (.cons (ALe.refl _ _) (.cons (ALe.refl _ _) (.cons (ALe.refl _ _) (.cons (ALe.refl _ _) (.cons (ALe.refl _ _) (.cons (ALe.refl _ _) (.nil))))))))))))) ?_ ?_
              · rintro _ q794 x hk795 hm
                replace hm : M71_L4 fuel p0 x752 q794 = some x := hm
                unfold M71_L4 at hm
                refine AW_k fun K796 H796 => ?_
                refine AW_reg ?_
                refine s_v (o_bi rfl rfl rfl trivial) ?_
                refine s_nil ?_
                refine H796 _ _ ?_
                clear H796 K796
                refine AW_k fun K797 H797 => ?_
                refine AW_if' rfl (fun hc798 => ?_) (fun hc798 => ?_)
                · replace hm := ite_t hm hc798
                  refine AW_skip ?_
                  refine H797 _ _ ?_
                  clear H797 K797
                  refine AW_k fun K799 H799 => ?_
                  refine AW_block ?_
                  refine AW_k fun K800 H800 => ?_
                  refine AW_reg ?_
                  obtain ⟨x801, hx802, hm⟩ := bind_of hm
                  refine s_v (o_ix hx802 el80 rfl rfl) ?_
                  refine s_v (o_ld (.agg (c_id x801)) ld61 rfl rfl) ?_
                  refine s_op (a_alloc (c_id idZ) hk795 zr61 rfl rfl fun k803 hk804 => ?_)
                  refine s_op (a_store 0 (c_id x801) hk804 rfl rfl rfl rfl sz61 rfl rfl fun hk806 => ?_)
                  refine s_nil ?_
                  refine H800 _ _ ?_
                  clear H800 K800
                  refine AW_k fun K807 H807 => ?_
                  refine AW_reg ?_
                  refine s_v (o_flp fd27_2 rfl rfl) ?_
                  refine s_v (o_ldp (.sl none 35 (List.map c_Chunk p0.Chunks)) ld23 rfl (hp_get 4 hk806 rfl) rfl) ?_
                  refine s_v (o_ldp (.agg (c_id x801)) ld61 rfl (hp_get 0 hk806 rfl) rfl) ?_
                  obtain ⟨y808, hy809, hm⟩ := bind_of hm
                  refine s_v (o_call (W113 _ hy809) rfl bd113 rfl) ?_
                  refine s_v (o_mv (.tup _) rfl) ?_
                  refine s_v (o_ex (.sc (.int _ _)) rfl rfl) ?_
                  refine s_v (o_ex (.sc (.bool _)) rfl rfl) ?_
                  refine s_v (o_as (.sc (.int _ _)) rfl) ?_
                  refine s_v (o_as (.sc (.bool _)) rfl) ?_
                  refine s_nil ?_
                  refine H807 _ _ ?_
                  clear H807 K807
                  refine AW_k fun K810 H810 => ?_
                  refine AW_reg ?_
                  refine s_v (o_mv (.sc (.bool _)) rfl) ?_
                  refine s_v (o_not rfl) ?_
                  refine s_nil ?_
                  refine H810 _ _ ?_
                  clear H810 K810
                  refine AW_if' rfl (fun hc811 => ?_) (fun hc811 => ?_)
                  · replace hm := ite_t hm hc811
                    refine AW_k fun K812 H812 => ?_
                    refine AW_reg ?_
                    refine s_v (o_as (.sc (.bool _)) rfl) ?_
                    refine s_nil ?_
                    refine H812 _ _ ?_
                    clear H812 K812
                    refine AW_ret ?_
                    cases hm
                    refine ⟨⟨nofun, nofun⟩, fun he => ?_⟩
                    subst he
                    refine ⟨⟨nofun, nofun⟩, fun he => ?_⟩
                    subst he
                    refine ⟨⟨nofun, nofun⟩, fun he => ?_⟩
                    subst he
                    exact Ret.of1 (.inl rfl) (rsT _ _ (.sc (.bool _)) rfl) (hp_sub (List.nil_sublist _) hk806).1 (ALe.refl _ _) ⟨rfl, rfl⟩
                  · replace hm := ite_f hm hc811
                    refine AW_skip ?_
                    refine H799 _ _ ?_
                    clear H799 K799
                    refine AW_reg ?_
                    refine s_v (o_bi rfl rfl rfl trivial) ?_
                    refine s_v (o_mv (.sc (.int _ _)) rfl) ?_
                    refine s_nil ?_
                    cases hm
                    exact ⟨rfl, (), (hp_sub (.cons _ (.refl _)) hk806).2, LeF.fm ((hp_sub (.cons _ (.refl _)) hk806).1) (.cons (ALe.refl _ _) (.cons (ALe.refl _ _) (.cons (ALe.refl _ _) (.cons (ALe.refl _ _) (.cons (ALe.refl _ _) (.cons (ALe.refl _ _) (.cons (ALe.refl _ _) (.cons (ALe.refl _ _) (.cons (ALe.refl _ _) (.cons (ALe.refl _ _) (.cons (ALe.refl _ _) (.nil))))))))))))⟩
                · replace hm := ite_f hm hc798
                  refine AW_exit ?_
                  refine Seq_exit ?_
                  cases hm
                  exact ⟨rfl, (), hk795, LeF.fm (Sub.refl _) (.cons (ALe.refl _ _) (.cons (ALe.refl _ _) (.cons (ALe.refl _ _) (.cons (ALe.refl _ _) (.cons (ALe.refl _ _) (.cons (ALe.refl _ _) (.cons (ALe.refl _ _) (.cons (ALe.refl _ _) (.cons (ALe.refl _ _) (.cons (ALe.refl _ _) (.cons (ALe.refl _ _) (.nil))))))))))))⟩
              · rintro _ r813 fr' h' hk814 hm le
                refine H750 _ _ (le.aw ?_)
                clear le H750 K750
                refine AW_reg ?_
                refine s_v (o_bi rfl rfl rfl trivial) ?_
                refine s_v (o_mv (.sc (.int _ _)) rfl) ?_
                refine s_nil ?_
                cases hm
                exact ⟨rfl, (), (hp_sub (.cons _ (.refl _)) hk814).2, LeF.fm ((hp_sub (.cons _ (.refl _)) hk814).1) (.cons (ALe.refl _ _) (.cons (ALe.refl _ _) (.cons (ALe.refl _ _) (.cons (ALe.refl _ _) (.cons (ALe.refl _ _) (.cons (ALe.refl _ _) (.cons (ALe.refl _ _) (.cons (ALe.refl _ _) (.nil)))))))))⟩
            · replace hm := ite_f hm hc749
              refine AW_exit ?_
              refine Seq_exit ?_
              cases hm
              exact ⟨rfl, (), hk746, LeF.fm (Sub.refl _) (.cons (ALe.refl _ _) (.cons (ALe.refl _ _) (.cons (ALe.refl _ _) (.cons (ALe.refl _ _) (.cons (ALe.refl _ _) (.cons (ALe.refl _ _) (.cons (ALe.refl _ _) (.cons (ALe.refl _ _) (.nil)))))))))⟩
          · rintro _ r815 fr' h' hk816 hm le
            refine H553 _ _ (le.aw ?_)
            clear le H553 K553
            refine AW_reg ?_
            refine s_v (o_bi rfl rfl rfl trivial) ?_
            refine s_v (o_mv (.sc (.int _ _)) rfl) ?_
            refine s_nil ?_
            cases hm
            exact ⟨rfl, (), (hp_sub (.cons _ (.refl _)) hk816).2, LeF.fm ((hp_sub (.cons _ (.refl _)) hk816).1) (.cons (ALe.refl _ _) (.cons (ALe.refl _ _) (.cons (ALe.refl _ _) (.cons (ALe.refl _ _) (.cons (ALe.refl _ _) (.nil))))))⟩
    · replace hm := ite_f hm hc552
      refine AW_exit ?_
      refine Seq_exit ?_
      cases hm
      exact ⟨rfl, (), hk549, LeF.fm (Sub.refl _) (.cons (ALe.refl _ _) (.cons (ALe.refl _ _) (.cons (ALe.refl _ _) (.cons (ALe.refl _ _) (.cons (ALe.refl _ _) (.nil))))))⟩
  · rintro _ ⟨r817, r818⟩ fr' h' hk819 hm le
    refine H9 _ _ (le.aw ?_)
    clear le H9 K9
    refine AW_k fun K820 H820 => ?_
    refine AW_reg ?_
    refine s_v (o_flp fd27_1 rfl rfl) ?_
    refine s_v (o_ldp (.sl none 4 (List.map c_Snap p0.Snaps)) ld22 rfl (hp_get 1 hk819 rfl) rfl) ?_
    refine s_v (o_lenm ln22 rfl) ?_
    refine s_v (o_bi rfl rfl rfl trivial) ?_
    refine s_v (o_as (.sc (.bool _)) rfl) ?_
    refine s_nil ?_
    refine H820 _ _ ?_
    clear H820 K820
    refine AW_ret ?_
    cases hm
    exact Ret.of1 (.inl rfl) (rsT _ _ (.sc (.bool _)) rfl) (hp_sub (List.nil_sublist _) hk819).1 (ALe.refl _ _) ⟨rfl, rfl⟩
theorem bd71 : bodied Try.prog 71 = true := by kernel_rfl
def M33 (fuel : Nat) (p0 : TCatalog) : Option (Int) :=
  after ((M68 fuel p0.Seq 0 1073741824).bind fun y22 => if y22 = true then ((M69 fuel p0.Vols).bind fun y25 => if y25 = true then ((M70 fuel p0).bind fun y28 => if y28 = true then ((M71 fuel p0).bind fun y31 => if y31 = true then ((M72 fuel p0).bind fun y34 => some (.brk y34)) else some (.brk false)) else some (.brk false)) else some (.brk false)) else some (.brk false) : Option (Lp (Bool) (Int))) fun j21 => if j21 = true then (some 0) else some 1
set_option maxRecDepth 100000 in
/-- cellarer/catalog.Check -/
theorem W33 {fuel : Nat} {p0 : TCatalog} {o : Int} (h : Heap) (hm : M33 fuel p0 = some o) :
    ACalls Try.prog 33 [.agg (c_Catalog p0)] h (fun r h' => r = .sc (.int .i64 o) ∧ h' = h) := by
  refine ACalls_hp 23 [.tmp 2] Try.func33 rfl rfl rfl rfl ?_
  unfold M33 at hm
  refine AW_k fun K1 H1 => ?_
  refine AW_reg ?_
  refine s_op (a_box (HOk.nil _) rfl rfl fun k2 hk3 => ?_)
  refine s_v (o_as (.sc (.int _ _)) rfl) ?_
  refine s_nil ?_
  refine H1 _ _ ?_
  clear H1 K1
  refine AW_k fun K5 H5 => ?_
  refine AW_k fun K6 H6 => ?_
  refine AW_joinG (n := 23) hm (σ := Bool) (τ := Unit) (fun g s => HOk h [(some k2, .obj 27 (c_Catalog p0))]) (fun g s => kp (k0) 22 (.sc (.bool s))) (fun g s => hp h [(some k2, .obj 27 (c_Catalog p0))]) (fun x hm => ?_) ?_
  · refine AW_reg ?_
    refine s_v (o_flp fd27_0 rfl rfl) ?_
    refine s_v (o_ldp (.sc (.int .i64 p0.Seq)) ld3 rfl (hp_get 0 hk3 rfl) rfl) ?_
    obtain ⟨y22, hy23, hm⟩ := bind_of hm
    refine s_v (o_call (W68 _ hy23) rfl bd68 rfl) ?_
    refine s_v (o_mv (.sc (.bool _)) rfl) ?_
    rcases Bool.eq_false_or_eq_true y22 with hb24 | hb24
    · replace hm := ite_t hm hb24
      refine sg_y rfl rfl hb24 ?_
      refine s_v (o_flp fd27_4 rfl rfl) ?_
      refine sg_y rfl rfl hb24 ?_
      refine s_v (o_ldp (.sl none 4 (List.map c_Vol p0.Vols)) ld25 rfl (hp_get 0 hk3 rfl) rfl) ?_
      refine sg_y rfl rfl hb24 ?_
      obtain ⟨y25, hy26, hm⟩ := bind_of hm
      refine s_v (o_call (W69 _ hy26) rfl bd69 rfl) ?_
      refine s_v (o_pkt (.sc (.bool _)) rfl hb24 rfl) ?_
      refine s_v (o_mv (.sc (.bool _)) rfl) ?_
      rcases Bool.eq_false_or_eq_true y25 with hb27 | hb27
      · replace hm := ite_t hm hb27
        refine sg_y rfl rfl hb27 ?_
        refine s_v (o_ldp (.agg (c_Catalog p0)) ld27 rfl (hp_get 0 hk3 rfl) rfl) ?_
        refine sg_y rfl rfl hb27 ?_
        obtain ⟨y28, hy29, hm⟩ := bind_of hm
        refine s_v (o_call (W70 _ hy29) rfl bd70 rfl) ?_
        refine s_v (o_pkt (.sc (.bool _)) rfl hb27 rfl) ?_
        refine s_v (o_mv (.sc (.bool _)) rfl) ?_
        rcases Bool.eq_false_or_eq_true y28 with hb30 | hb30
        · replace hm := ite_t hm hb30
          refine sg_y rfl rfl hb30 ?_
          refine s_v (o_ldp (.agg (c_Catalog p0)) ld27 rfl (hp_get 0 hk3 rfl) rfl) ?_
          refine sg_y rfl rfl hb30 ?_
          obtain ⟨y31, hy32, hm⟩ := bind_of hm
          refine s_v (o_call (W71 _ hy32) rfl bd71 rfl) ?_
          refine s_v (o_pkt (.sc (.bool _)) rfl hb30 rfl) ?_
          refine s_v (o_mv (.sc (.bool _)) rfl) ?_
          rcases Bool.eq_false_or_eq_true y31 with hb33 | hb33
          · replace hm := ite_t hm hb33
            refine sg_y rfl rfl hb33 ?_
            refine s_v (o_ldp (.agg (c_Catalog p0)) ld27 rfl (hp_get 0 hk3 rfl) rfl) ?_
            refine sg_y rfl rfl hb33 ?_
            obtain ⟨y34, hy35, hm⟩ := bind_of hm
            refine s_v (o_call (W72 _ hy35) rfl bd72 rfl) ?_
            refine s_v (o_pkt (.sc (.bool _)) rfl hb33 rfl) ?_
            refine s_nil ?_
            cases hm
            exact ⟨rfl, (), hk3, LeF.fm (Sub.refl _) (.cons (ALe.refl _ _) (.nil))⟩
          · replace hm := ite_f hm hb33
            refine sg_n rfl rfl hb33 ?_
            refine sg_n rfl rfl hb33 ?_
            refine s_v (o_pkf (.sc (.bool _)) rfl hb33 rfl) ?_
            refine s_nil ?_
            cases hm
            exact ⟨rfl, (), hk3, LeF.fm (Sub.refl _) (.cons (ALe.refl _ _) (.nil))⟩
        · replace hm := ite_f hm hb30
          refine sg_n rfl rfl hb30 ?_
          refine sg_n rfl rfl hb30 ?_
          refine s_v (o_pkf (.sc (.bool _)) rfl hb30 rfl) ?_
          refine s_v (o_mv (.sc (.bool _)) rfl) ?_
          refine sg_n rfl rfl rfl ?_
          refine sg_n rfl rfl rfl ?_
          refine s_v (o_pkf (.sc (.bool _)) rfl rfl rfl) ?_
          refine s_nil ?_
          cases hm
          exact ⟨rfl, (), hk3, LeF.fm (Sub.refl _) (.cons (ALe.refl _ _) (.nil))⟩
      · replace hm := ite_f hm hb27
        refine sg_n rfl rfl hb27 ?_
        refine sg_n rfl rfl hb27 ?_
        refine s_v (o_pkf (.sc (.bool _)) rfl hb27 rfl) ?_
        refine s_v (o_mv (.sc (.bool _)) rfl) ?_
        refine sg_n rfl rfl rfl ?_
        refine sg_n rfl rfl rfl ?_
        refine s_v (o_pkf (.sc (.bool _)) rfl rfl rfl) ?_
        refine s_v (o_mv (.sc (.bool _)) rfl) ?_
        refine sg_n rfl rfl rfl ?_
        refine sg_n rfl rfl rfl ?_
        refine s_v (o_pkf (.sc (.bool _)) rfl rfl rfl) ?_
        refine s_nil ?_
        cases hm
        exact ⟨rfl, (), hk3, LeF.fm (Sub.refl _) (.cons (ALe.refl _ _) (.nil))⟩
    · replace hm := ite_f hm hb24
      refine sg_n rfl rfl hb24 ?_
      refine sg_n rfl rfl hb24 ?_
      refine sg_n rfl rfl hb24 ?_
      refine s_v (o_pkf (.sc (.bool _)) rfl hb24 rfl) ?_
      refine s_v (o_mv (.sc (.bool _)) rfl) ?_
      refine sg_n rfl rfl rfl ?_
      refine sg_n rfl rfl rfl ?_
      refine s_v (o_pkf (.sc (.bool _)) rfl rfl rfl) ?_
      refine s_v (o_mv (.sc (.bool _)) rfl) ?_
      refine sg_n rfl rfl rfl ?_
      refine sg_n rfl rfl rfl ?_
      refine s_v (o_pkf (.sc (.bool _)) rfl rfl rfl) ?_
      refine s_v (o_mv (.sc (.bool _)) rfl) ?_
      refine sg_n rfl rfl rfl ?_
      refine sg_n rfl rfl rfl ?_
      refine s_v (o_pkf (.sc (.bool _)) rfl rfl rfl) ?_
      refine s_nil ?_
      cases hm
      exact ⟨rfl, (), hk3, LeF.fm (Sub.refl _) (.cons (ALe.refl _ _) (.nil))⟩
  · rintro _ j21 fr' h' hk36 hm le
    refine H6 _ _ (le.aw ?_)
    clear le H6 K6
    refine AW_if' rfl (fun hc37 => ?_) (fun hc37 => ?_)
    · replace hm := ite_t hm hc37
      refine AW_k fun K38 H38 => ?_
      refine AW_reg ?_
      refine s_v (o_as (.sc (.int _ _)) rfl) ?_
      refine s_nil ?_
      refine H38 _ _ ?_
      clear H38 K38
      refine AW_ret ?_
      cases hm
      exact Ret.of1 (.inl rfl) (rsT _ _ (.sc (.int _ _)) rfl) (hp_sub (List.nil_sublist _) hk36).1 (ALe.refl _ _) ⟨rfl, rfl⟩
    · replace hm := ite_f hm hc37
      refine AW_skip ?_
      refine H5 _ _ ?_
      clear H5 K5
      refine AW_k fun K39 H39 => ?_
      refine AW_reg ?_
      refine s_v (o_as (.sc (.int _ _)) rfl) ?_
      refine s_nil ?_
      refine H39 _ _ ?_
      clear H39 K39
      refine AW_ret ?_
      cases hm
      exact Ret.of1 (.inl rfl) (rsT _ _ (.sc (.int _ _)) rfl) (hp_sub (List.nil_sublist _) hk36).1 (ALe.refl _ _) ⟨rfl, rfl⟩
theorem bd33 : bodied Try.prog 33 = true := by kernel_rfl
end Go.Proofs.Ytoomgangpjcaoaa
