import Derived.Test.YtoomgangpjcaoaaWd
import Derived.Test.YtoomgangpjcaoaaWe
import Derived.Test.YtoomgangpjcaoaaWf
set_option linter.unusedSimpArgs false
set_option linter.unusedVariables false
namespace Go.Proofs.Ytoomgangpjcaoaa
open Go.Vm
def M16_L2 (fuel : Nat) (p0 : TCatalog) (p1 : Int) (p2 : Int) (p3 : List Int) (p4 : Int) (x209 : Int) (q265 : Int) : Option (Lp (Int) (Lp (Int) (Int × Int))) :=
  if (decide (q265 < (p0.Vols.length : Int))) = true then ((ix p0.Vols q265).bind fun x272 => after (if (x272.Pool == p1) = true then (if (q265 != p4) = true then (if (x272.State == x209) = true then ((ix p3 q265).bind fun x288 => some (.brk (decide (p2 ≤ x288)))) else some (.brk false)) else some (.brk false)) else some (.brk false) : Option (Lp (Bool) (Lp (Int) (Lp (Int) (Int × Int))))) fun j284 => if j284 = true then (some (.ret (.ret (q265, 0)))) else some (.go (IntKind.wrap .i64 (q265 + 1)))) else some (.brk q265)
def M16_L0 (fuel : Nat) (p0 : TCatalog) (p1 : Int) (p2 : Int) (p3 : List Int) (p4 : Int) (q202 : Int) : Option (Lp (Int) (Int × Int)) :=
  if (decide (q202 < (([2, 1] : List Int).length : Int))) = true then ((ix ([2, 1] : List Int) q202).bind fun x209 => after (loopM (fun s => M16_L2 fuel p0 p1 p2 p3 p4 x209 s) fuel 0) fun r293 => some (.go (IntKind.wrap .i64 (q202 + 1)))) else some (.brk q202)
def M16 (fuel : Nat) (p0 : TCatalog) (p1 : Int) (p2 : Int) (p3 : List Int) (p4 : Int) : Option (Int × Int) :=
  after ((M33 fuel p0).bind fun y11 => if (y11 != 0) = true then (some (.brk true)) else some (.brk ((p3.length : Int) != (p0.Vols.length : Int))) : Option (Lp (Bool) (Int × Int))) fun j10 => if j10 = true then (some (0, 1)) else after (loopM (fun s => M16_L0 fuel p0 p1 p2 p3 p4 s) fuel 0) fun r295 => some (0, 12)
set_option maxRecDepth 100000 in
/-- cellarer/pools.Target -/
theorem W16 {fuel : Nat} {p0 : TCatalog} {p1 : Int} {p2 : Int} {p3 : List Int} {p4 : Int} {o : Int × Int} (h : Heap) (hm : M16 fuel p0 p1 p2 p3 p4 = some o) :
    ACalls Try.prog 16 [.agg (c_Catalog p0), .sc (.int .i64 p1), .sc (.int .i64 p2), .sl none 1 (List.map c_i64 p3), .sc (.int .i64 p4)] h (fun r h' => r = .tup [.sc (.int .i64 o.1), .sc (.int .i64 o.2)] ∧ h' = h) := by
  refine ACalls_hp 67 [.tmp 10, .tmp 11] Try.func16 rfl rfl rfl rfl ?_
  unfold M16 at hm
  refine AW_k fun K1 H1 => ?_
  refine AW_reg ?_
  refine s_op (a_box (HOk.nil _) rfl rfl fun k2 hk3 => ?_)
  refine s_v (o_as (.sc (.int _ _)) rfl) ?_
  refine s_v (o_as (.sc (.int _ _)) rfl) ?_
  refine s_nil ?_
  refine H1 _ _ ?_
  clear H1 K1
  refine AW_k fun K5 H5 => ?_
  refine AW_k fun K6 H6 => ?_
  refine AW_joinG (n := 67) hm (σ := Bool) (τ := Unit) (fun g s => HOk h [(some k2, .obj 27 (c_Catalog p0))]) (fun g s => kp (kp (kp (kp (kp (kp (k0) 26 (.sc (.bool s))) 5 (.ptr k2 0)) 4 (.sc (.int .i64 p4))) 3 (.sl none 1 (List.map c_i64 p3))) 2 (.sc (.int .i64 p2))) 1 (.sc (.int .i64 p1))) (fun g s => hp h [(some k2, .obj 27 (c_Catalog p0))]) (fun x hm => ?_) ?_
  · refine AW_reg ?_
    refine s_v (o_ldp (.agg (c_Catalog p0)) ld27 rfl (hp_get 0 hk3 rfl) rfl) ?_
    obtain ⟨y11, hy12, hm⟩ := bind_of hm
    refine s_v (o_call (W33 _ hy12) rfl bd33 rfl) ?_
    refine s_v (o_bi rfl rfl rfl trivial) ?_
    refine s_v (o_mv (.sc (.bool _)) rfl) ?_
    rcases Bool.eq_false_or_eq_true (y11 != 0) with hb13 | hb13
    · replace hm := ite_t hm hb13
      refine sg_n rfl rfl hb13 ?_
      refine sg_n rfl rfl hb13 ?_
      refine sg_n rfl rfl hb13 ?_
      refine sg_n rfl rfl hb13 ?_
      refine sg_n rfl rfl hb13 ?_
      refine sg_n rfl rfl hb13 ?_
      refine s_v (o_pkt (.sc (.bool _)) rfl hb13 rfl) ?_
      refine s_nil ?_
      cases hm
      exact ⟨rfl, (), hk3, LeF.fm (Sub.refl _) (.cons (ALe.refl _ _) (.cons (ALe.refl _ _) (.cons (ALe.refl _ _) (.cons (ALe.refl _ _) (.cons (ALe.refl _ _) (.cons (ALe.refl _ _) (.nil)))))))⟩
    · replace hm := ite_f hm hb13
      refine sg_y rfl rfl hb13 ?_
      refine s_v (o_mv (.sl _ _ _) rfl) ?_
      refine sg_y rfl rfl hb13 ?_
      refine s_v (o_lenm ln28 rfl) ?_
      refine sg_y rfl rfl hb13 ?_
      refine s_v (o_flp fd27_4 rfl rfl) ?_
      refine sg_y rfl rfl hb13 ?_
      refine s_v (o_ldp (.sl none 4 (List.map c_Vol p0.Vols)) ld25 rfl (hp_get 0 hk3 rfl) rfl) ?_
      refine sg_y rfl rfl hb13 ?_
      refine s_v (o_lenm ln25 rfl) ?_
      refine sg_y rfl rfl hb13 ?_
      refine s_v (o_bi rfl rfl rfl trivial) ?_
      refine s_v (o_pkf (.sc (.bool _)) rfl hb13 rfl) ?_
      refine s_nil ?_
      cases hm
      exact ⟨rfl, (), hk3, LeF.fm (Sub.refl _) (.cons (ALe.refl _ _) (.cons (ALe.refl _ _) (.cons (ALe.refl _ _) (.cons (ALe.refl _ _) (.cons (ALe.refl _ _) (.cons (ALe.refl _ _) (.nil)))))))⟩
  · rintro _ j10 fr' h' hk14 hm le
    refine H6 _ _ (le.aw ?_)
    clear le H6 K6
    refine AW_if' rfl (fun hc15 => ?_) (fun hc15 => ?_)
    · replace hm := ite_t hm hc15
      refine AW_k fun K16 H16 => ?_
      refine AW_reg ?_
      refine s_v (o_as (.sc (.int _ _)) rfl) ?_
      refine s_v (o_as (.sc (.int _ _)) rfl) ?_
      refine s_nil ?_
      refine H16 _ _ ?_
      clear H16 K16
      refine AW_ret ?_
      cases hm
      exact Ret.of2 (.inl rfl) (rsT _ _ (.sc (.int _ _)) rfl) (rsT _ _ (.sc (.int _ _)) rfl) (hp_sub (List.nil_sublist _) hk14).1 (ALe.refl _ _) (ALe.refl _ _) ⟨rfl, rfl⟩
    · replace hm := ite_f hm hc15
      refine AW_skip ?_
      refine H5 _ _ ?_
      clear H5 K5
      refine AW_k fun K17 H17 => ?_
      refine AW_k fun K18 H18 => ?_
      refine AW_reg ?_
      refine s_v (o_lit (List.map c_i64 ([2, 1] : List Int)) et28 rfl rfl rfl rfl) ?_
      refine s_v (o_lenm ln28 rfl) ?_
      refine s_v (o_mv (.sc (.int _ _)) rfl) ?_
      refine s_nil ?_
      refine H18 _ _ ?_
      clear H18 K18
      refine AW_loopG (n := 67) hm (σ := Int) (τ := Unit) (fun g s => HOk h [(some k2, .obj 27 (c_Catalog p0))]) (fun g s => kp (kp (kp (kp (kp (kp (kp (kp (k0) 29 (.sc (.int .i64 s))) 28 (.sc (.int .i64 (([2, 1] : List Int).length : Int)))) 27 (.sl none 1 (List.map c_i64 ([2, 1] : List Int)))) 5 (.ptr k2 0)) 4 (.sc (.int .i64 p4))) 3 (.sl none 1 (List.map c_i64 p3))) 2 (.sc (.int .i64 p2))) 1 (.sc (.int .i64 p1))) (fun g s => hp h [(some k2, .obj 27 (c_Catalog p0))]) () hk14 (LeF.fm (Sub.refl _) (.cons (ALe.refl _ _) (.cons (ALe.refl _ _) (.cons (ALe.refl _ _) (.cons (ALe.refl _ _) (.cons (ALe.refl _ _) (.cons (ALe.refl _ _) (.cons (ALe.refl _ _) (.cons (ALe.refl _ _) (.nil)))))))))) ?_ ?_
      · rintro _ q202 x hk203 hm
        replace hm : M16_L0 fuel p0 p1 p2 p3 p4 q202 = some x := hm
        unfold M16_L0 at hm
        refine AW_k fun K204 H204 => ?_
        refine AW_reg ?_
        refine s_v (o_bi rfl rfl rfl trivial) ?_
        refine s_nil ?_
        refine H204 _ _ ?_
        clear H204 K204
        refine AW_k fun K205 H205 => ?_
        refine AW_if' rfl (fun hc206 => ?_) (fun hc206 => ?_)
        · replace hm := ite_t hm hc206
          refine AW_skip ?_
          refine H205 _ _ ?_
          clear H205 K205
          refine AW_k fun K207 H207 => ?_
          refine AW_block ?_
          refine AW_k fun K208 H208 => ?_
          refine AW_reg ?_
          obtain ⟨x209, hx210, hm⟩ := bind_of hm
          refine s_v (o_ix hx210 el28 rfl rfl) ?_
          refine s_v (o_ld (.sc (.int .i64 x209)) ld3 rfl rfl) ?_
          refine s_v (o_as (.sc (.int _ _)) rfl) ?_
          refine s_nil ?_
          refine H208 _ _ ?_
          clear H208 K208
          refine AW_k fun K211 H211 => ?_
          refine AW_reg ?_
          refine s_v (o_flp fd27_4 rfl rfl) ?_
          refine s_v (o_ldp (.sl none 4 (List.map c_Vol p0.Vols)) ld25 rfl (hp_get 0 hk203 rfl) rfl) ?_
          refine s_v (o_lenm ln25 rfl) ?_
          refine s_v (o_mv (.sc (.int _ _)) rfl) ?_
          refine s_nil ?_
          refine H211 _ _ ?_
          clear H211 K211
          refine AW_loopG (n := 67) hm (σ := Int) (τ := Unit) (fun g s => HOk h [(some k2, .obj 27 (c_Catalog p0))]) (fun g s => kp (kp (kp (kp (kp (kp (kp (kp (kp (kp (kp (kp (k0) 36 (.sc (.int .i64 s))) 35 (.sc (.int .i64 (p0.Vols.length : Int)))) 34 (.sl none 4 (List.map c_Vol p0.Vols))) 29 (.sc (.int .i64 q202))) 28 (.sc (.int .i64 (([2, 1] : List Int).length : Int)))) 27 (.sl none 1 (List.map c_i64 ([2, 1] : List Int)))) 13 (.sc (.int .i64 x209))) 5 (.ptr k2 0)) 4 (.sc (.int .i64 p4))) 3 (.sl none 1 (List.map c_i64 p3))) 2 (.sc (.int .i64 p2))) 1 (.sc (.int .i64 p1))) (fun g s => hp h [(some k2, .obj 27 (c_Catalog p0))]) () hk203 (LeF.fm (Sub.refl _) (.cons (ALe.refl _ _) (.cons (ALe.refl _ _) (.cons (ALe.refl _ _) (.cons (ALe.refl _ _) (.cons (ALe.refl _ _) (.cons (ALe.refl _ _) (.cons (ALe.refl _ _) (.cons (ALe.refl _ _) (.cons (ALe.refl _ _) (.cons (ALe.refl _ _) (.cons (ALe.refl _ _) (.cons (ALe.refl _ _) (.nil)))))))))))))) ?_ ?_
          · rintro _ q265 x hk266 hm
            replace hm : M16_L2 fuel p0 p1 p2 p3 p4 x209 q265 = some x := hm
            unfold M16_L2 at hm
            refine AW_k fun K267 H267 => ?_
            refine AW_reg ?_
            refine s_v (o_bi rfl rfl rfl trivial) ?_
            refine s_nil ?_
            refine H267 _ _ ?_
            clear H267 K267
            refine AW_k fun K268 H268 => ?_
            refine AW_if' rfl (fun hc269 => ?_) (fun hc269 => ?_)
            · replace hm := ite_t hm hc269
              refine AW_skip ?_
              refine H268 _ _ ?_
              clear H268 K268
              refine AW_k fun K270 H270 => ?_
              refine AW_block ?_
              refine AW_k fun K271 H271 => ?_
              refine AW_reg ?_
              refine s_v (o_mv (.sc (.int _ _)) rfl) ?_
              obtain ⟨x272, hx273, hm⟩ := bind_of hm
              refine s_v (o_ix hx273 el25 rfl rfl) ?_
              refine s_v (o_ld (.agg (c_Vol x272)) ld40 rfl rfl) ?_
              refine s_op (a_alloc ([.sc (.int .i64 0), .sc (.int .i64 0), .sc (.int .i64 0), .sc (.int .i64 0)]) hk266 zr40 rfl rfl fun k274 hk275 => ?_)
              refine s_v (o_as (.sc (.int _ _)) rfl) ?_
              refine s_op (a_store 0 (c_Vol x272) hk275 rfl rfl rfl rfl sz40 rfl rfl fun hk277 => ?_)
              refine s_nil ?_
              refine H271 _ _ ?_
              clear H271 K271
              refine AW_k fun K278 H278 => ?_
              refine AW_joinG (n := 67) hm (σ := Bool) (τ := Unit) (fun g s => HOk h [(some k274, .obj 40 (c_Vol x272)), (some k2, .obj 27 (c_Catalog p0))]) (fun g s => kp (kp (kp (kp (kp (kp (kp (kp (kp (kp (kp (kp (kp (kp (k0) 63 (.sc (.bool s))) 36 (.sc (.int .i64 q265))) 35 (.sc (.int .i64 (p0.Vols.length : Int)))) 34 (.sl none 4 (List.map c_Vol p0.Vols))) 29 (.sc (.int .i64 q202))) 28 (.sc (.int .i64 (([2, 1] : List Int).length : Int)))) 27 (.sl none 1 (List.map c_i64 ([2, 1] : List Int)))) 14 (.sc (.int .i64 q265))) 13 (.sc (.int .i64 x209))) 5 (.ptr k2 0)) 4 (.sc (.int .i64 p4))) 3 (.sl none 1 (List.map c_i64 p3))) 2 (.sc (.int .i64 p2))) 1 (.sc (.int .i64 p1))) (fun g s => hp h [(some k274, .obj 40 (c_Vol x272)), (some k2, .obj 27 (c_Catalog p0))]) (fun x hm => ?_) ?_
              · refine AW_reg ?_
                refine s_v (o_flp fd40_0 rfl rfl) ?_
                refine s_v (o_ldp (.sc (.int .i64 x272.Pool)) ld3 rfl (hp_get 0 hk277 rfl) rfl) ?_
                refine s_v (o_mv (.sc (.int _ _)) rfl) ?_
                refine s_v (o_bi rfl rfl rfl trivial) ?_
                refine s_v (o_mv (.sc (.bool _)) rfl) ?_
                rcases Bool.eq_false_or_eq_true (x272.Pool == p1) with hb285 | hb285
                · replace hm := ite_t hm hb285
                  refine sg_y rfl rfl hb285 ?_
                  refine s_v (o_mv (.sc (.int _ _)) rfl) ?_
                  refine sg_y rfl rfl hb285 ?_
                  refine s_v (o_mv (.sc (.int _ _)) rfl) ?_
                  refine sg_y rfl rfl hb285 ?_
                  refine s_v (o_bi rfl rfl rfl trivial) ?_
                  refine s_v (o_pkt (.sc (.bool _)) rfl hb285 rfl) ?_
                  refine s_v (o_mv (.sc (.bool _)) rfl) ?_
                  rcases Bool.eq_false_or_eq_true (q265 != p4) with hb286 | hb286
                  · replace hm := ite_t hm hb286
                    refine sg_y rfl rfl hb286 ?_
                    refine s_v (o_flp fd40_2 rfl rfl) ?_
                    refine sg_y rfl rfl hb286 ?_
                    refine s_v (o_ldp (.sc (.int .i64 x272.State)) ld3 rfl (hp_get 0 hk277 rfl) rfl) ?_
                    refine sg_y rfl rfl hb286 ?_
                    refine s_v (o_mv (.sc (.int _ _)) rfl) ?_
                    refine sg_y rfl rfl hb286 ?_
                    refine s_v (o_bi rfl rfl rfl trivial) ?_
                    refine s_v (o_pkt (.sc (.bool _)) rfl hb286 rfl) ?_
                    refine s_v (o_mv (.sc (.bool _)) rfl) ?_
                    rcases Bool.eq_false_or_eq_true (x272.State == x209) with hb287 | hb287
                    · replace hm := ite_t hm hb287
                      refine sg_y rfl rfl hb287 ?_
                      refine s_v (o_mv (.sl _ _ _) rfl) ?_
                      refine sg_y rfl rfl hb287 ?_
                      refine s_v (o_mv (.sc (.int _ _)) rfl) ?_
                      refine sg_y rfl rfl hb287 ?_
                      obtain ⟨x288, hx289, hm⟩ := bind_of hm
                      refine s_v (o_ix hx289 el28 rfl rfl) ?_
                      refine sg_y rfl rfl hb287 ?_
                      refine s_v (o_ld (.sc (.int .i64 x288)) ld3 rfl rfl) ?_
                      refine sg_y rfl rfl hb287 ?_
                      refine s_v (o_mv (.sc (.int _ _)) rfl) ?_
                      refine sg_y rfl rfl hb287 ?_
                      refine s_v (o_bi rfl rfl rfl trivial) ?_
                      refine s_v (o_pkt (.sc (.bool _)) rfl hb287 rfl) ?_
                      refine s_nil ?_
                      cases hm
                      exact ⟨rfl, (), hk277, LeF.fm (Sub.refl _) (.cons (ALe.refl _ _) (.cons (ALe.refl _ _) (.cons (ALe.refl _ _) (.cons (ALe.refl _ _) (.cons (ALe.refl _ _) (.cons (ALe.refl _ _) (.cons (ALe.refl _ _) (.cons (ALe.refl _ _) (.cons (ALe.refl _ _) (.cons (ALe.refl _ _) (.cons (ALe.refl _ _) (.cons (ALe.refl _ _) (.cons (ALe.refl _ _) (.cons (ALe.refl _ _) (.nil)))))))))))))))⟩
                    · replace hm := ite_f hm hb287
                      refine sg_n rfl rfl hb287 ?_
                      refine sg_n rfl rfl hb287 ?_
                      refine sg_n rfl rfl hb287 ?_
                      refine sg_n rfl rfl hb287 ?_
                      refine sg_n rfl rfl hb287 ?_
                      refine sg_n rfl rfl hb287 ?_
                      refine s_v (o_pkf (.sc (.bool _)) rfl hb287 rfl) ?_
                      refine s_nil ?_
                      cases hm
                      exact ⟨rfl, (), hk277, LeF.fm (Sub.refl _) (.cons (ALe.refl _ _) (.cons (ALe.refl _ _) (.cons (ALe.refl _ _) (.cons (ALe.refl _ _) (.cons (ALe.refl _ _) (.cons (ALe.refl _ _) (.cons (ALe.refl _ _) (.cons (ALe.refl _ _) (.cons (ALe.refl _ _) (.cons (ALe.refl _ _) (.cons (ALe.refl _ _) (.cons (ALe.refl _ _) (.cons (ALe.refl _ _) (.cons (ALe.refl _ _) (.nil)))))))))))))))⟩
                  · replace hm := ite_f hm hb286
                    refine sg_n rfl rfl hb286 ?_
                    refine sg_n rfl rfl hb286 ?_
                    refine sg_n rfl rfl hb286 ?_
                    refine sg_n rfl rfl hb286 ?_
                    refine s_v (o_pkf (.sc (.bool _)) rfl hb286 rfl) ?_
                    refine s_v (o_mv (.sc (.bool _)) rfl) ?_
                    refine sg_n rfl rfl rfl ?_
                    refine sg_n rfl rfl rfl ?_
                    refine sg_n rfl rfl rfl ?_
                    refine sg_n rfl rfl rfl ?_
                    refine sg_n rfl rfl rfl ?_
                    refine sg_n rfl rfl rfl ?_
                    refine s_v (o_pkf (.sc (.bool _)) rfl rfl rfl) ?_
                    refine s_nil ?_
                    cases hm
                    exact ⟨rfl, (), hk277, LeF.fm (Sub.refl _) (.cons (ALe.refl _ _) (.cons (ALe.refl _ _) (.cons (ALe.refl _ _) (.cons (ALe.refl _ _) (.cons (ALe.refl _ _) (.cons (ALe.refl _ _) (.cons (ALe.refl _ _) (.cons (ALe.refl _ _) (.cons (ALe.refl _ _) (.cons (ALe.refl _ _) (.cons (ALe.refl _ _) (.cons (ALe.refl _ _) (.cons (ALe.refl _ _) (.cons (ALe.refl _ _) (.nil)))))))))))))))⟩
                · replace hm := ite_f hm hb285
                  refine sg_n rfl rfl hb285 ?_
                  refine sg_n rfl rfl hb285 ?_
                  refine sg_n rfl rfl hb285 ?_
                  refine s_v (o_pkf (.sc (.bool _)) rfl hb285 rfl) ?_
                  refine s_v (o_mv (.sc (.bool _)) rfl) ?_
                  refine sg_n rfl rfl rfl ?_
                  refine sg_n rfl rfl rfl ?_
                  refine sg_n rfl rfl rfl ?_
                  refine sg_n rfl rfl rfl ?_
                  refine s_v (o_pkf (.sc (.bool _)) rfl rfl rfl) ?_
                  refine s_v (o_mv (.sc (.bool _)) rfl) ?_
                  refine sg_n rfl rfl rfl ?_
                  refine sg_n rfl rfl rfl ?_
                  refine sg_n rfl rfl rfl ?_
                  refine sg_n rfl rfl rfl ?_
                  refine sg_n rfl rfl rfl ?_
                  refine sg_n rfl rfl rfl ?_
                  refine s_v (o_pkf (.sc (.bool _)) rfl rfl rfl) ?_
                  refine s_nil ?_
                  cases hm
                  exact ⟨rfl, (), hk277, LeF.fm (Sub.refl _) (.cons (ALe.refl _ _) (.cons (ALe.refl _ _) (.cons (ALe.refl _ _) (.cons (ALe.refl _ _) (.cons (ALe.refl _ _) (.cons (ALe.refl _ _) (.cons (ALe.refl _ _) (.cons (ALe.refl _ _) (.cons (ALe.refl _ _) (.cons (ALe.refl _ _) (.cons (ALe.refl _ _) (.cons (ALe.refl _ _) (.cons (ALe.refl _ _) (.cons (ALe.refl _ _) (.nil)))))))))))))))⟩
              · rintro _ j284 fr' h' hk290 hm le
                refine H278 _ _ (le.aw ?_)
                clear le H278 K278
                refine AW_if' rfl (fun hc291 => ?_) (fun hc291 => ?_)
                · replace hm := ite_t hm hc291
                  refine AW_k fun K292 H292 => ?_
                  refine AW_reg ?_
                  refine s_v (o_mv (.sc (.int _ _)) rfl) ?_
                  refine s_v (o_as (.sc (.int _ _)) rfl) ?_
                  refine s_v (o_as (.sc (.int _ _)) rfl) ?_
                  refine s_nil ?_
                  refine H292 _ _ ?_
                  clear H292 K292
                  refine AW_ret ?_
                  cases hm
                  refine ⟨⟨nofun, nofun⟩, fun he => ?_⟩
                  subst he
                  refine ⟨⟨nofun, nofun⟩, fun he => ?_⟩
                  subst he
                  exact Ret.of2 (.inl rfl) (rsT _ _ (.sc (.int _ _)) rfl) (rsT _ _ (.sc (.int _ _)) rfl) (hp_sub (List.nil_sublist _) hk290).1 (ALe.refl _ _) (ALe.refl _ _) ⟨rfl, rfl⟩
                · replace hm := ite_f hm hc291
                  refine AW_skip ?_
                  refine H270 _ _ ?_
                  clear H270 K270
                  refine AW_reg ?_
                  refine s_v (o_bi rfl rfl rfl trivial) ?_
                  refine s_v (o_mv (.sc (.int _ _)) rfl) ?_
                  refine s_nil ?_
                  cases hm
                  exact ⟨rfl, (), (hp_sub (.cons _ (.refl _)) hk290).2, LeF.fm ((hp_sub (.cons _ (.refl _)) hk290).1) (.cons (ALe.refl _ _) (.cons (ALe.refl _ _) (.cons (ALe.refl _ _) (.cons (ALe.refl _ _) (.cons (ALe.refl _ _) (.cons (ALe.refl _ _) (.cons (ALe.refl _ _) (.cons (ALe.refl _ _) (.cons (ALe.refl _ _) (.cons (ALe.refl _ _) (.cons (ALe.refl _ _) (.cons (ALe.refl _ _) (.nil)))))))))))))⟩
            · replace hm := ite_f hm hc269
              refine AW_exit ?_
              refine Seq_exit ?_
              cases hm
              exact ⟨rfl, (), hk266, LeF.fm (Sub.refl _) (.cons (ALe.refl _ _) (.cons (ALe.refl _ _) (.cons (ALe.refl _ _) (.cons (ALe.refl _ _) (.cons (ALe.refl _ _) (.cons (ALe.refl _ _) (.cons (ALe.refl _ _) (.cons (ALe.refl _ _) (.cons (ALe.refl _ _) (.cons (ALe.refl _ _) (.cons (ALe.refl _ _) (.cons (ALe.refl _ _) (.nil)))))))))))))⟩
          · rintro _ r293 fr' h' hk294 hm le
            refine H207 _ _ (le.aw ?_)
            clear le H207 K207
            refine AW_reg ?_
            refine s_v (o_bi rfl rfl rfl trivial) ?_
            refine s_v (o_mv (.sc (.int _ _)) rfl) ?_
            refine s_nil ?_
            cases hm
            exact ⟨rfl, (), hk294, LeF.fm (Sub.refl _) (.cons (ALe.refl _ _) (.cons (ALe.refl _ _) (.cons (ALe.refl _ _) (.cons (ALe.refl _ _) (.cons (ALe.refl _ _) (.cons (ALe.refl _ _) (.cons (ALe.refl _ _) (.cons (ALe.refl _ _) (.nil)))))))))⟩
        · replace hm := ite_f hm hc206
          refine AW_exit ?_
          refine Seq_exit ?_
          cases hm
          exact ⟨rfl, (), hk203, LeF.fm (Sub.refl _) (.cons (ALe.refl _ _) (.cons (ALe.refl _ _) (.cons (ALe.refl _ _) (.cons (ALe.refl _ _) (.cons (ALe.refl _ _) (.cons (ALe.refl _ _) (.cons (ALe.refl _ _) (.cons (ALe.refl _ _) (.nil)))))))))⟩
      · rintro _ r295 fr' h' hk296 hm le
        refine H17 _ _ (le.aw ?_)
        clear le H17 K17
        refine AW_k fun K297 H297 => ?_
        refine AW_reg ?_
        refine s_v (o_as (.sc (.int _ _)) rfl) ?_
        refine s_v (o_as (.sc (.int _ _)) rfl) ?_
        refine s_nil ?_
        refine H297 _ _ ?_
        clear H297 K297
        refine AW_ret ?_
        cases hm
        exact Ret.of2 (.inl rfl) (rsT _ _ (.sc (.int _ _)) rfl) (rsT _ _ (.sc (.int _ _)) rfl) (hp_sub (List.nil_sublist _) hk296).1 (ALe.refl _ _) (ALe.refl _ _) ⟨rfl, rfl⟩
theorem bd16 : bodied Try.prog 16 = true := by kernel_rfl
def M37 (fuel : Nat) (p0 : TCatalog) (p1 : Int) : Option ((List TItem)) :=
  (M33 fuel p0).bind fun y10 => if (y10 != 0) = true then (some []) else (M78 fuel p0 (fun x0 x1 => M80 fuel x0 x1 p1)).bind fun y15 => some y15
set_option maxRecDepth 100000 in
/-- cellarer/stage.On -/
theorem W37 {fuel : Nat} {p0 : TCatalog} {p1 : Int} {o : (List TItem)} (h : Heap) (hm : M37 fuel p0 p1 = some o) :
    ACalls Try.prog 37 [.agg (c_Catalog p0), .sc (.int .i64 p1)] h (fun r h' => r = .sl none 37 (List.map c_Item o) ∧ h' = h) := by
  refine ACalls_hp 11 [.tmp 4] Try.func37 rfl rfl rfl rfl ?_
  unfold M37 at hm
  refine AW_k fun K1 H1 => ?_
  refine AW_reg ?_
  refine s_op (a_box (HOk.nil _) rfl rfl fun k2 hk3 => ?_)
  refine s_op (a_box hk3 rfl rfl fun k5 hk6 => ?_)
  refine s_v (o_as (.sc (.slice _ _ _)) rfl) ?_
  refine s_nil ?_
  refine H1 _ _ ?_
  clear H1 K1
  refine AW_k fun K8 H8 => ?_
  refine AW_k fun K9 H9 => ?_
  refine AW_reg ?_
  refine s_v (o_ldp (.agg (c_Catalog p0)) ld27 rfl (hp_get 1 hk6 rfl) rfl) ?_
  obtain ⟨y10, hy11, hm⟩ := bind_of hm
  refine s_v (o_call (W33 _ hy11) rfl bd33 rfl) ?_
  refine s_v (o_bi rfl rfl rfl trivial) ?_
  refine s_nil ?_
  refine H9 _ _ ?_
  clear H9 K9
  refine AW_if' rfl (fun hc12 => ?_) (fun hc12 => ?_)
  · replace hm := ite_t hm hc12
    refine AW_k fun K13 H13 => ?_
    refine AW_reg ?_
    refine s_v (o_as (.sc (.slice _ _ _)) rfl) ?_
    refine s_nil ?_
    refine H13 _ _ ?_
    clear H13 K13
    refine AW_ret ?_
    cases hm
    exact Ret.of1 (.inl rfl) (rsT _ _ (.sc (.slice _ _ _)) rfl) (hp_sub (List.nil_sublist _) hk6).1 (nil_lem _) ⟨rfl, rfl⟩
  · replace hm := ite_f hm hc12
    refine AW_skip ?_
    refine H8 _ _ ?_
    clear H8 K8
    refine AW_k fun K14 H14 => ?_
    refine AW_reg ?_
    refine s_v (o_ldp (.agg (c_Catalog p0)) ld27 rfl (hp_get 1 hk6 rfl) rfl) ?_
    refine s_v (o_mf rfl) ?_
    obtain ⟨y15, hy16, hm⟩ := bind_of hm
    refine s_v (o_call (W78 _ bd80 (fun x0 x1 o h0 hs ho => W80 _ (hs _ _ (hp_get 0 hk6 rfl)) ho) hy16) rfl bd78 rfl) ?_
    refine s_v (o_as (.sl _ _ _) rfl) ?_
    refine s_nil ?_
    refine H14 _ _ ?_
    clear H14 K14
    refine AW_ret ?_
    cases hm
    exact Ret.of1 (.inl rfl) (rsT _ _ (.sl _ _ _) rfl) (hp_sub (List.nil_sublist _) hk6).1 (ALe.refl _ _) ⟨rfl, rfl⟩
theorem bd37 : bodied Try.prog 37 = true := by kernel_rfl
def M20_L0 (fuel : Nat) (p0 : TCatalog) (y8 : (List TItem)) (q60 : Int) (q61 : Int) : Option (Lp (Int × Int) (Int)) :=
  if (decide (q61 < (y8.length : Int))) = true then ((ix y8 q61).bind fun x68 => after (if (x68.Kind != 1) = true then (some (.brk true)) else (M44 fuel p0 x68.Id).bind fun y80 => some (.brk y80) : Option (Lp (Bool) (Lp (Int × Int) (Int)))) fun j78 => after (if j78 = true then (some (.brk (IntKind.wrap .i64 (q60 + 1)))) else some (.brk q60) : Option (Lp (Int) (Lp (Int × Int) (Int)))) fun j84 => some (.go (j84, IntKind.wrap .i64 (q61 + 1)))) else some (.brk (q60, q61))
def M20 (fuel : Nat) (p0 : TCatalog) (p1 : Int) : Option (Int) :=
  (M37 fuel p0 p1).bind fun y8 => after (loopM (fun s => M20_L0 fuel p0 y8 s.1 s.2) fuel (0, 0)) fun ⟨r87, r88⟩ => some r87
set_option maxRecDepth 100000 in
/-- cellarer/pools.Live -/
theorem W20 {fuel : Nat} {p0 : TCatalog} {p1 : Int} {o : Int} (h : Heap) (hm : M20 fuel p0 p1 = some o) :
    ACalls Try.prog 20 [.agg (c_Catalog p0), .sc (.int .i64 p1)] h (fun r h' => r = .sc (.int .i64 o) ∧ h' = h) := by
  refine ACalls_hp 29 [.tmp 4] Try.func20 rfl rfl rfl rfl ?_
  unfold M20 at hm
  refine AW_k fun K1 H1 => ?_
  refine AW_reg ?_
  refine s_op (a_box (HOk.nil _) rfl rfl fun k2 hk3 => ?_)
  refine s_v (o_as (.sc (.int _ _)) rfl) ?_
  refine s_nil ?_
  refine H1 _ _ ?_
  clear H1 K1
  refine AW_k fun K5 H5 => ?_
  refine AW_reg ?_
  refine s_v (o_as (.sc (.int _ _)) rfl) ?_
  refine s_nil ?_
  refine H5 _ _ ?_
  clear H5 K5
  refine AW_k fun K6 H6 => ?_
  refine AW_k fun K7 H7 => ?_
  refine AW_reg ?_
  refine s_v (o_ldp (.agg (c_Catalog p0)) ld27 rfl (hp_get 0 hk3 rfl) rfl) ?_
  refine s_v (o_mv (.sc (.int _ _)) rfl) ?_
  obtain ⟨y8, hy9, hm⟩ := bind_of hm
  refine s_v (o_call (W37 _ hy9) rfl bd37 rfl) ?_
  refine s_v (o_lenm ln70 rfl) ?_
  refine s_v (o_mv (.sc (.int _ _)) rfl) ?_
  refine s_nil ?_
  refine H7 _ _ ?_
  clear H7 K7
  refine AW_loopG (n := 29) hm (σ := Int × Int) (τ := Unit) (fun g s => HOk h [(some k2, .obj 27 (c_Catalog p0))]) (fun g s => kp (kp (kp (kp (kp (k0) 12 (.sc (.int .i64 s.2))) 11 (.sc (.int .i64 (y8.length : Int)))) 10 (.sl none 37 (List.map c_Item y8))) 5 (.sc (.int .i64 s.1))) 2 (.ptr k2 0)) (fun g s => hp h [(some k2, .obj 27 (c_Catalog p0))]) () hk3 (LeF.fm (Sub.refl _) (.cons (ALe.refl _ _) (.cons (ALe.refl _ _) (.cons (ALe.refl _ _) (.cons (ALe.refl _ _) (.cons (ALe.refl _ _) (.nil))))))) ?_ ?_
  · rintro _ ⟨q60, q61⟩ x hk62 hm
    replace hm : M20_L0 fuel p0 y8 q60 q61 = some x := hm
    unfold M20_L0 at hm
    refine AW_k fun K63 H63 => ?_
    refine AW_reg ?_
    refine s_v (o_bi rfl rfl rfl trivial) ?_
    refine s_nil ?_
    refine H63 _ _ ?_
    clear H63 K63
    refine AW_k fun K64 H64 => ?_
    refine AW_if' rfl (fun hc65 => ?_) (fun hc65 => ?_)
    · replace hm := ite_t hm hc65
      refine AW_skip ?_
      refine H64 _ _ ?_
      clear H64 K64
      refine AW_k fun K66 H66 => ?_
      refine AW_block ?_
      refine AW_k fun K67 H67 => ?_
      refine AW_reg ?_
      obtain ⟨x68, hx69, hm⟩ := bind_of hm
      refine s_v (o_ix hx69 el70 rfl rfl) ?_
      refine s_v (o_ld (.agg (c_Item x68)) ld99 rfl rfl) ?_
      refine s_op (a_alloc ([.sc (.int .i64 0)] ++ c_id idZ ++ [.sc (.int .i64 0), .sc (.int .i64 0), .sc (.int .i64 0), .sc (.int .i64 0)]) hk62 zr99 rfl rfl fun k70 hk71 => ?_)
      refine s_op (a_store 0 (c_Item x68) hk71 rfl rfl rfl rfl sz99 rfl rfl fun hk73 => ?_)
      refine s_nil ?_
      refine H67 _ _ ?_
      clear H67 K67
      refine AW_k fun K74 H74 => ?_
      refine AW_joinG (n := 29) hm (σ := Bool) (τ := Unit) (fun g s => HOk h [(some k70, .obj 99 (c_Item x68)), (some k2, .obj 27 (c_Catalog p0))]) (fun g s => kp (kp (kp (kp (kp (kp (k0) 24 (.sc (.bool s))) 12 (.sc (.int .i64 q61))) 11 (.sc (.int .i64 (y8.length : Int)))) 10 (.sl none 37 (List.map c_Item y8))) 5 (.sc (.int .i64 q60))) 2 (.ptr k2 0)) (fun g s => hp h [(some k70, .obj 99 (c_Item x68)), (some k2, .obj 27 (c_Catalog p0))]) (fun x hm => ?_) ?_
      · refine AW_reg ?_
        refine s_v (o_flp fd99_0 rfl rfl) ?_
        refine s_v (o_ldp (.sc (.int .i64 x68.Kind)) ld3 rfl (hp_get 0 hk73 rfl) rfl) ?_
        refine s_v (o_bi rfl rfl rfl trivial) ?_
        refine s_v (o_mv (.sc (.bool _)) rfl) ?_
        rcases Bool.eq_false_or_eq_true (x68.Kind != 1) with hb79 | hb79
        · replace hm := ite_t hm hb79
          refine sg_n rfl rfl hb79 ?_
          refine sg_n rfl rfl hb79 ?_
          refine sg_n rfl rfl hb79 ?_
          refine sg_n rfl rfl hb79 ?_
          refine s_v (o_pkt (.sc (.bool _)) rfl hb79 rfl) ?_
          refine s_nil ?_
          cases hm
          exact ⟨rfl, (), hk73, LeF.fm (Sub.refl _) (.cons (ALe.refl _ _) (.cons (ALe.refl _ _) (.cons (ALe.refl _ _) (.cons (ALe.refl _ _) (.cons (ALe.refl _ _) (.cons (ALe.refl _ _) (.nil)))))))⟩
        · replace hm := ite_f hm hb79
          refine sg_y rfl rfl hb79 ?_
          refine s_v (o_ldp (.agg (c_Catalog p0)) ld27 rfl (hp_get 1 hk73 rfl) rfl) ?_
          refine sg_y rfl rfl hb79 ?_
          refine s_v (o_flp fd99_1 rfl rfl) ?_
          refine sg_y rfl rfl hb79 ?_
          refine s_v (o_ldp (.agg (c_id x68.Id)) ld61 rfl (hp_get 0 hk73 rfl) rfl) ?_
          refine sg_y rfl rfl hb79 ?_
          obtain ⟨y80, hy81, hm⟩ := bind_of hm
          refine s_v (o_call (W44 _ hy81) rfl bd44 rfl) ?_
          refine s_v (o_pkf (.sc (.bool _)) rfl hb79 rfl) ?_
          refine s_nil ?_
          cases hm
          exact ⟨rfl, (), hk73, LeF.fm (Sub.refl _) (.cons (ALe.refl _ _) (.cons (ALe.refl _ _) (.cons (ALe.refl _ _) (.cons (ALe.refl _ _) (.cons (ALe.refl _ _) (.cons (ALe.refl _ _) (.nil)))))))⟩
      · rintro _ j78 fr' h' hk82 hm le
        refine H74 _ _ (le.aw ?_)
        clear le H74 K74
        refine AW_joinG (n := 29) hm (σ := Int) (τ := Unit) (fun g s => HOk h [(some k70, .obj 99 (c_Item x68)), (some k2, .obj 27 (c_Catalog p0))]) (fun g s => kp (kp (kp (kp (kp (k0) 12 (.sc (.int .i64 q61))) 11 (.sc (.int .i64 (y8.length : Int)))) 10 (.sl none 37 (List.map c_Item y8))) 5 (.sc (.int .i64 s))) 2 (.ptr k2 0)) (fun g s => hp h [(some k70, .obj 99 (c_Item x68)), (some k2, .obj 27 (c_Catalog p0))]) (fun x hm => ?_) ?_
        · refine AW_if' rfl (fun hc85 => ?_) (fun hc85 => ?_)
          · replace hm := ite_t hm hc85
            refine AW_reg ?_
            refine s_v (o_mv (.sc (.int _ _)) rfl) ?_
            refine s_v (o_bi rfl rfl rfl trivial) ?_
            refine s_v (o_as (.sc (.int _ _)) rfl) ?_
            refine s_nil ?_
            cases hm
            exact ⟨rfl, (), hk82, LeF.fm (Sub.refl _) (.cons (ALe.refl _ _) (.cons (ALe.refl _ _) (.cons (ALe.refl _ _) (.cons (ALe.refl _ _) (.cons (ALe.refl _ _) (.nil))))))⟩
          · replace hm := ite_f hm hc85
            refine AW_skip ?_
            cases hm
            exact ⟨rfl, (), hk82, LeF.fm (Sub.refl _) (.cons (ALe.refl _ _) (.cons (ALe.refl _ _) (.cons (ALe.refl _ _) (.cons (ALe.refl _ _) (.cons (ALe.refl _ _) (.nil))))))⟩
        · rintro _ j84 fr' h' hk86 hm le
          refine H66 _ _ (le.aw ?_)
          clear le H66 K66
          refine AW_reg ?_
          refine s_v (o_bi rfl rfl rfl trivial) ?_
          refine s_v (o_mv (.sc (.int _ _)) rfl) ?_
          refine s_nil ?_
          cases hm
          exact ⟨rfl, (), (hp_sub (.cons _ (.refl _)) hk86).2, LeF.fm ((hp_sub (.cons _ (.refl _)) hk86).1) (.cons (ALe.refl _ _) (.cons (ALe.refl _ _) (.cons (ALe.refl _ _) (.cons (ALe.refl _ _) (.cons (ALe.refl _ _) (.nil))))))⟩
    · replace hm := ite_f hm hc65
      refine AW_exit ?_
      refine Seq_exit ?_
      cases hm
      exact ⟨rfl, (), hk62, LeF.fm (Sub.refl _) (.cons (ALe.refl _ _) (.cons (ALe.refl _ _) (.cons (ALe.refl _ _) (.cons (ALe.refl _ _) (.cons (ALe.refl _ _) (.nil))))))⟩
  · rintro _ ⟨r87, r88⟩ fr' h' hk89 hm le
    refine H6 _ _ (le.aw ?_)
    clear le H6 K6
    refine AW_k fun K90 H90 => ?_
    refine AW_reg ?_
    refine s_v (o_mv (.sc (.int _ _)) rfl) ?_
    refine s_v (o_as (.sc (.int _ _)) rfl) ?_
    refine s_nil ?_
    refine H90 _ _ ?_
    clear H90 K90
    refine AW_ret ?_
    cases hm
    exact Ret.of1 (.inl rfl) (rsT _ _ (.sc (.int _ _)) rfl) (hp_sub (List.nil_sublist _) hk89).1 (ALe.refl _ _) ⟨rfl, rfl⟩
theorem bd20 : bodied Try.prog 20 = true := by kernel_rfl
def M21_L0 (fuel : Nat) (p0 : TCatalog) (p1 : Int) (q139 : Int) (q140 : Int) (q141 : Int) : Option (Lp (Int × Int × Int) (Int)) :=
  if (decide (q141 < (p0.Vols.length : Int))) = true then (after ((ix p0.Vols q141).bind fun x177 => after (if (x177.Pool != p1) = true then (some (.brk true)) else some (.brk (x177.State != 2)) : Option (Lp (Bool) (Lp (Int × Int) (Lp (Int × Int × Int) (Int))))) fun j186 => if j186 = true then (some (.brk (q139, q140))) else (M20 fuel p0 q141).bind fun y191 => after (if (decide (q139 < 0)) = true then (some (.brk true)) else some (.brk (decide (y191 < q140))) : Option (Lp (Bool) (Lp (Int × Int) (Lp (Int × Int × Int) (Int))))) fun j195 => after (if j195 = true then (some (.brk (q141, y191))) else some (.brk (q139, q140)) : Option (Lp (Int × Int) (Lp (Int × Int) (Lp (Int × Int × Int) (Int))))) fun ⟨j199, j200⟩ => some (.brk (j199, j200)) : Option (Lp (Int × Int) (Lp (Int × Int × Int) (Int)))) fun ⟨j174, j175⟩ => some (.go (j174, j175, IntKind.wrap .i64 (q141 + 1)))) else some (.brk (q139, q140, q141))
def M21 (fuel : Nat) (p0 : TCatalog) (p1 : Int) : Option (Int) :=
  (M33 fuel p0).bind fun y7 => if (y7 != 0) = true then (some (-1)) else after (loopM (fun s => M21_L0 fuel p0 p1 s.1 s.2.1 s.2.2) fuel ((-1), 0, 0)) fun ⟨r204, r205, r206⟩ => some r204
set_option maxRecDepth 100000 in
/-- cellarer/pools.Sparse -/
theorem W21 {fuel : Nat} {p0 : TCatalog} {p1 : Int} {o : Int} (h : Heap) (hm : M21 fuel p0 p1 = some o) :
    ACalls Try.prog 21 [.agg (c_Catalog p0), .sc (.int .i64 p1)] h (fun r h' => r = .sc (.int .i64 o) ∧ h' = h) := by
  refine ACalls_hp 44 [.tmp 4] Try.func21 rfl rfl rfl rfl ?_
  unfold M21 at hm
  refine AW_k fun K1 H1 => ?_
  refine AW_reg ?_
  refine s_op (a_box (HOk.nil _) rfl rfl fun k2 hk3 => ?_)
  refine s_v (o_as (.sc (.int _ _)) rfl) ?_
  refine s_nil ?_
  refine H1 _ _ ?_
  clear H1 K1
  refine AW_k fun K5 H5 => ?_
  refine AW_k fun K6 H6 => ?_
  refine AW_reg ?_
  refine s_v (o_ldp (.agg (c_Catalog p0)) ld27 rfl (hp_get 0 hk3 rfl) rfl) ?_
  obtain ⟨y7, hy8, hm⟩ := bind_of hm
  refine s_v (o_call (W33 _ hy8) rfl bd33 rfl) ?_
  refine s_v (o_bi rfl rfl rfl trivial) ?_
  refine s_nil ?_
  refine H6 _ _ ?_
  clear H6 K6
  refine AW_if' rfl (fun hc9 => ?_) (fun hc9 => ?_)
  · replace hm := ite_t hm hc9
    refine AW_k fun K10 H10 => ?_
    refine AW_reg ?_
    refine s_v (o_as (.sc (.int _ _)) rfl) ?_
    refine s_nil ?_
    refine H10 _ _ ?_
    clear H10 K10
    refine AW_ret ?_
    cases hm
    exact Ret.of1 (.inl rfl) (rsT _ _ (.sc (.int _ _)) rfl) (hp_sub (List.nil_sublist _) hk3).1 (ALe.refl _ _) ⟨rfl, rfl⟩
  · replace hm := ite_f hm hc9
    refine AW_skip ?_
    refine H5 _ _ ?_
    clear H5 K5
    refine AW_k fun K11 H11 => ?_
    refine AW_reg ?_
    refine s_v (o_as (.sc (.int _ _)) rfl) ?_
    refine s_v (o_as (.sc (.int _ _)) rfl) ?_
    refine s_nil ?_
    refine H11 _ _ ?_
    clear H11 K11
    refine AW_k fun K12 H12 => ?_
    refine AW_k fun K13 H13 => ?_
    refine AW_reg ?_
    refine s_v (o_flp fd27_4 rfl rfl) ?_
    refine s_v (o_ldp (.sl none 4 (List.map c_Vol p0.Vols)) ld25 rfl (hp_get 0 hk3 rfl) rfl) ?_
    refine s_v (o_lenm ln25 rfl) ?_
    refine s_v (o_mv (.sc (.int _ _)) rfl) ?_
    refine s_nil ?_
    refine H13 _ _ ?_
    clear H13 K13
    refine AW_loopG (n := 44) hm (σ := Int × Int × Int) (τ := Unit) (fun g s => HOk h [(some k2, .obj 27 (c_Catalog p0))]) (fun g s => kp (kp (kp (kp (kp (kp (kp (k0) 16 (.sc (.int .i64 s.2.2))) 15 (.sc (.int .i64 (p0.Vols.length : Int)))) 14 (.sl none 4 (List.map c_Vol p0.Vols))) 6 (.sc (.int .i64 s.2.1))) 5 (.sc (.int .i64 s.1))) 2 (.ptr k2 0)) 1 (.sc (.int .i64 p1))) (fun g s => hp h [(some k2, .obj 27 (c_Catalog p0))]) () hk3 (LeF.fm (Sub.refl _) (.cons (ALe.refl _ _) (.cons (ALe.refl _ _) (.cons (ALe.refl _ _) (.cons (ALe.refl _ _) (.cons (ALe.refl _ _) (.cons (ALe.refl _ _) (.cons (ALe.refl _ _) (.nil))))))))) ?_ ?_
    · rintro _ ⟨q139, q140, q141⟩ x hk142 hm
      replace hm : M21_L0 fuel p0 p1 q139 q140 q141 = some x := hm
      unfold M21_L0 at hm
      refine AW_k fun K143 H143 => ?_
      refine AW_reg ?_
      refine s_v (o_bi rfl rfl rfl trivial) ?_
      refine s_nil ?_
      refine H143 _ _ ?_
      clear H143 K143
      refine AW_k fun K144 H144 => ?_
      refine AW_if' rfl (fun hc145 => ?_) (fun hc145 => ?_)
      · replace hm := ite_t hm hc145
        refine AW_skip ?_
        refine H144 _ _ ?_
        clear H144 K144
        refine AW_k fun K146 H146 => ?_
        refine AW_joinG (n := 44) hm (σ := Int × Int) (τ := Unit) (fun g s => HOk h [(some k2, .obj 27 (c_Catalog p0))]) (fun g s => kp (kp (kp (kp (kp (kp (kp (k0) 16 (.sc (.int .i64 q141))) 15 (.sc (.int .i64 (p0.Vols.length : Int)))) 14 (.sl none 4 (List.map c_Vol p0.Vols))) 6 (.sc (.int .i64 s.2))) 5 (.sc (.int .i64 s.1))) 2 (.ptr k2 0)) 1 (.sc (.int .i64 p1))) (fun g s => hp h [(some k2, .obj 27 (c_Catalog p0))]) (fun x hm => ?_) ?_
        · refine AW_block ?_
          refine AW_k fun K176 H176 => ?_
          refine AW_reg ?_
          refine s_v (o_mv (.sc (.int _ _)) rfl) ?_
          obtain ⟨x177, hx178, hm⟩ := bind_of hm
          refine s_v (o_ix hx178 el25 rfl rfl) ?_
          refine s_v (o_ld (.agg (c_Vol x177)) ld40 rfl rfl) ?_
          refine s_op (a_alloc ([.sc (.int .i64 0), .sc (.int .i64 0), .sc (.int .i64 0), .sc (.int .i64 0)]) hk142 zr40 rfl rfl fun k179 hk180 => ?_)
          refine s_v (o_as (.sc (.int _ _)) rfl) ?_
          refine s_op (a_store 0 (c_Vol x177) hk180 rfl rfl rfl rfl sz40 rfl rfl fun hk182 => ?_)
          refine s_nil ?_
          refine H176 _ _ ?_
          clear H176 K176
          refine AW_k fun K183 H183 => ?_
          refine AW_k fun K184 H184 => ?_
          refine AW_joinG (n := 44) hm (σ := Bool) (τ := Unit) (fun g s => HOk h [(some k179, .obj 40 (c_Vol x177)), (some k2, .obj 27 (c_Catalog p0))]) (fun g s => kp (kp (kp (kp (kp (kp (kp (kp (kp (k0) 29 (.sc (.bool s))) 16 (.sc (.int .i64 q141))) 15 (.sc (.int .i64 (p0.Vols.length : Int)))) 14 (.sl none 4 (List.map c_Vol p0.Vols))) 7 (.sc (.int .i64 q141))) 6 (.sc (.int .i64 q140))) 5 (.sc (.int .i64 q139))) 2 (.ptr k2 0)) 1 (.sc (.int .i64 p1))) (fun g s => hp h [(some k179, .obj 40 (c_Vol x177)), (some k2, .obj 27 (c_Catalog p0))]) (fun x hm => ?_) ?_
          · refine AW_reg ?_
            refine s_v (o_flp fd40_0 rfl rfl) ?_
            refine s_v (o_ldp (.sc (.int .i64 x177.Pool)) ld3 rfl (hp_get 0 hk182 rfl) rfl) ?_
            refine s_v (o_mv (.sc (.int _ _)) rfl) ?_
            refine s_v (o_bi rfl rfl rfl trivial) ?_
            refine s_v (o_mv (.sc (.bool _)) rfl) ?_
            rcases Bool.eq_false_or_eq_true (x177.Pool != p1) with hb187 | hb187
            · replace hm := ite_t hm hb187
              refine sg_n rfl rfl hb187 ?_
              refine sg_n rfl rfl hb187 ?_
              refine sg_n rfl rfl hb187 ?_
              refine s_v (o_pkt (.sc (.bool _)) rfl hb187 rfl) ?_
              refine s_nil ?_
              cases hm
              exact ⟨rfl, (), hk182, LeF.fm (Sub.refl _) (.cons (ALe.refl _ _) (.cons (ALe.refl _ _) (.cons (ALe.refl _ _) (.cons (ALe.refl _ _) (.cons (ALe.refl _ _) (.cons (ALe.refl _ _) (.cons (ALe.refl _ _) (.cons (ALe.refl _ _) (.cons (ALe.refl _ _) (.nil))))))))))⟩
            · replace hm := ite_f hm hb187
              refine sg_y rfl rfl hb187 ?_
              refine s_v (o_flp fd40_2 rfl rfl) ?_
              refine sg_y rfl rfl hb187 ?_
              refine s_v (o_ldp (.sc (.int .i64 x177.State)) ld3 rfl (hp_get 0 hk182 rfl) rfl) ?_
              refine sg_y rfl rfl hb187 ?_
              refine s_v (o_bi rfl rfl rfl trivial) ?_
              refine s_v (o_pkf (.sc (.bool _)) rfl hb187 rfl) ?_
              refine s_nil ?_
              cases hm
              exact ⟨rfl, (), hk182, LeF.fm (Sub.refl _) (.cons (ALe.refl _ _) (.cons (ALe.refl _ _) (.cons (ALe.refl _ _) (.cons (ALe.refl _ _) (.cons (ALe.refl _ _) (.cons (ALe.refl _ _) (.cons (ALe.refl _ _) (.cons (ALe.refl _ _) (.cons (ALe.refl _ _) (.nil))))))))))⟩
          · rintro _ j186 fr' h' hk188 hm le
            refine H184 _ _ (le.aw ?_)
            clear le H184 K184
            refine AW_if' rfl (fun hc189 => ?_) (fun hc189 => ?_)
            · replace hm := ite_t hm hc189
              refine AW_exit ?_
              refine Seq_exit ?_
              refine Blk_exit ?_
              cases hm
              exact ⟨rfl, (), (hp_sub (.cons _ (.refl _)) hk188).2, LeF.fm ((hp_sub (.cons _ (.refl _)) hk188).1) (.cons (ALe.refl _ _) (.cons (ALe.refl _ _) (.cons (ALe.refl _ _) (.cons (ALe.refl _ _) (.cons (ALe.refl _ _) (.cons (ALe.refl _ _) (.cons (ALe.refl _ _) (.nil))))))))⟩
            · replace hm := ite_f hm hc189
              refine AW_skip ?_
              refine H183 _ _ ?_
              clear H183 K183
              refine AW_k fun K190 H190 => ?_
              refine AW_reg ?_
              refine s_v (o_ldp (.agg (c_Catalog p0)) ld27 rfl (hp_get 1 hk188 rfl) rfl) ?_
              refine s_v (o_mv (.sc (.int _ _)) rfl) ?_
              obtain ⟨y191, hy192, hm⟩ := bind_of hm
              refine s_v (o_call (W20 _ hy192) rfl bd20 rfl) ?_
              refine s_v (o_as (.sc (.int _ _)) rfl) ?_
              refine s_nil ?_
              refine H190 _ _ ?_
              clear H190 K190
              refine AW_k fun K193 H193 => ?_
              refine AW_joinG (n := 44) hm (σ := Bool) (τ := Unit) (fun g s => HOk h [(some k179, .obj 40 (c_Vol x177)), (some k2, .obj 27 (c_Catalog p0))]) (fun g s => kp (kp (kp (kp (kp (kp (kp (kp (kp (kp (k0) 39 (.sc (.bool s))) 16 (.sc (.int .i64 q141))) 15 (.sc (.int .i64 (p0.Vols.length : Int)))) 14 (.sl none 4 (List.map c_Vol p0.Vols))) 9 (.sc (.int .i64 y191))) 7 (.sc (.int .i64 q141))) 6 (.sc (.int .i64 q140))) 5 (.sc (.int .i64 q139))) 2 (.ptr k2 0)) 1 (.sc (.int .i64 p1))) (fun g s => hp h [(some k179, .obj 40 (c_Vol x177)), (some k2, .obj 27 (c_Catalog p0))]) (fun x hm => ?_) ?_
              · refine AW_reg ?_
                refine s_v (o_mv (.sc (.int _ _)) rfl) ?_
                refine s_v (o_bi rfl rfl rfl trivial) ?_
                refine s_v (o_mv (.sc (.bool _)) rfl) ?_
                rcases Bool.eq_false_or_eq_true (decide (q139 < 0)) with hb196 | hb196
                · replace hm := ite_t hm hb196
                  refine sg_n rfl rfl hb196 ?_
                  refine sg_n rfl rfl hb196 ?_
                  refine sg_n rfl rfl hb196 ?_
                  refine s_v (o_pkt (.sc (.bool _)) rfl hb196 rfl) ?_
                  refine s_nil ?_
                  cases hm
                  exact ⟨rfl, (), hk188, LeF.fm (Sub.refl _) (.cons (ALe.refl _ _) (.cons (ALe.refl _ _) (.cons (ALe.refl _ _) (.cons (ALe.refl _ _) (.cons (ALe.refl _ _) (.cons (ALe.refl _ _) (.cons (ALe.refl _ _) (.cons (ALe.refl _ _) (.cons (ALe.refl _ _) (.cons (ALe.refl _ _) (.nil)))))))))))⟩
                · replace hm := ite_f hm hb196
                  refine sg_y rfl rfl hb196 ?_
                  refine s_v (o_mv (.sc (.int _ _)) rfl) ?_
                  refine sg_y rfl rfl hb196 ?_
                  refine s_v (o_mv (.sc (.int _ _)) rfl) ?_
                  refine sg_y rfl rfl hb196 ?_
                  refine s_v (o_bi rfl rfl rfl trivial) ?_
                  refine s_v (o_pkf (.sc (.bool _)) rfl hb196 rfl) ?_
                  refine s_nil ?_
                  cases hm
                  exact ⟨rfl, (), hk188, LeF.fm (Sub.refl _) (.cons (ALe.refl _ _) (.cons (ALe.refl _ _) (.cons (ALe.refl _ _) (.cons (ALe.refl _ _) (.cons (ALe.refl _ _) (.cons (ALe.refl _ _) (.cons (ALe.refl _ _) (.cons (ALe.refl _ _) (.cons (ALe.refl _ _) (.cons (ALe.refl _ _) (.nil)))))))))))⟩
              · rintro _ j195 fr' h' hk197 hm le
                refine H193 _ _ (le.aw ?_)
                clear le H193 K193
                refine AW_joinG (n := 44) hm (σ := Int × Int) (τ := Unit) (fun g s => HOk h [(some k179, .obj 40 (c_Vol x177)), (some k2, .obj 27 (c_Catalog p0))]) (fun g s => kp (kp (kp (kp (kp (kp (kp (k0) 16 (.sc (.int .i64 q141))) 15 (.sc (.int .i64 (p0.Vols.length : Int)))) 14 (.sl none 4 (List.map c_Vol p0.Vols))) 6 (.sc (.int .i64 s.2))) 5 (.sc (.int .i64 s.1))) 2 (.ptr k2 0)) 1 (.sc (.int .i64 p1))) (fun g s => hp h [(some k179, .obj 40 (c_Vol x177)), (some k2, .obj 27 (c_Catalog p0))]) (fun x hm => ?_) ?_
                · refine AW_if' rfl (fun hc201 => ?_) (fun hc201 => ?_)
                  · replace hm := ite_t hm hc201
                    refine AW_reg ?_
                    refine s_v (o_mv (.sc (.int _ _)) rfl) ?_
                    refine s_v (o_mv (.sc (.int _ _)) rfl) ?_
                    refine s_v (o_as (.sc (.int _ _)) rfl) ?_
                    refine s_v (o_as (.sc (.int _ _)) rfl) ?_
                    refine s_nil ?_
                    cases hm
                    exact ⟨rfl, (), hk197, LeF.fm (Sub.refl _) (.cons (ALe.refl _ _) (.cons (ALe.refl _ _) (.cons (ALe.refl _ _) (.cons (ALe.refl _ _) (.cons (ALe.refl _ _) (.cons (ALe.refl _ _) (.cons (ALe.refl _ _) (.nil))))))))⟩
                  · replace hm := ite_f hm hc201
                    refine AW_skip ?_
                    cases hm
                    exact ⟨rfl, (), hk197, LeF.fm (Sub.refl _) (.cons (ALe.refl _ _) (.cons (ALe.refl _ _) (.cons (ALe.refl _ _) (.cons (ALe.refl _ _) (.cons (ALe.refl _ _) (.cons (ALe.refl _ _) (.cons (ALe.refl _ _) (.nil))))))))⟩
                · rintro _ ⟨j199, j200⟩ fr' h' hk202 hm le
                  cases hm
                  exact ⟨rfl, (), (hp_sub (.cons _ (.refl _)) hk202).2, LeF.trans le (LeF.fm ((hp_sub (.cons _ (.refl _)) hk202).1) (.cons (ALe.refl _ _) (.cons (ALe.refl _ _) (.cons (ALe.refl _ _) (.cons (ALe.refl _ _) (.cons (ALe.refl _ _) (.cons (ALe.refl _ _) (.cons (ALe.refl _ _) (.nil)))))))))⟩
        · rintro _ ⟨j174, j175⟩ fr' h' hk203 hm le
          refine H146 _ _ (le.aw ?_)
          clear le H146 K146
          refine AW_reg ?_
          refine s_v (o_bi rfl rfl rfl trivial) ?_
          refine s_v (o_mv (.sc (.int _ _)) rfl) ?_
          refine s_nil ?_
          cases hm
          exact ⟨rfl, (), hk203, LeF.fm (Sub.refl _) (.cons (ALe.refl _ _) (.cons (ALe.refl _ _) (.cons (ALe.refl _ _) (.cons (ALe.refl _ _) (.cons (ALe.refl _ _) (.cons (ALe.refl _ _) (.cons (ALe.refl _ _) (.nil))))))))⟩
      · replace hm := ite_f hm hc145
        refine AW_exit ?_
        refine Seq_exit ?_
        cases hm
        exact ⟨rfl, (), hk142, LeF.fm (Sub.refl _) (.cons (ALe.refl _ _) (.cons (ALe.refl _ _) (.cons (ALe.refl _ _) (.cons (ALe.refl _ _) (.cons (ALe.refl _ _) (.cons (ALe.refl _ _) (.cons (ALe.refl _ _) (.nil))))))))⟩
    · rintro _ ⟨r204, r205, r206⟩ fr' h' hk207 hm le
      refine H12 _ _ (le.aw ?_)
      clear le H12 K12
      refine AW_k fun K208 H208 => ?_
      refine AW_reg ?_
      refine s_v (o_mv (.sc (.int _ _)) rfl) ?_
      refine s_v (o_as (.sc (.int _ _)) rfl) ?_
      refine s_nil ?_
      refine H208 _ _ ?_
      clear H208 K208
      refine AW_ret ?_
      cases hm
      exact Ret.of1 (.inl rfl) (rsT _ _ (.sc (.int _ _)) rfl) (hp_sub (List.nil_sublist _) hk207).1 (ALe.refl _ _) ⟨rfl, rfl⟩
theorem bd21 : bodied Try.prog 21 = true := by kernel_rfl
def M22_L0 (fuel : Nat) (p0 : TCatalog) (p1 : Int) (q56 : Int) (q57 : Int) : Option (Lp (Int × Int) (Int)) :=
  if (decide (q57 < (p0.Vols.length : Int))) = true then ((ix p0.Vols q57).bind fun x64 => after (if (x64.Pool == p1) = true then (some (.brk (x64.State != 3))) else some (.brk false) : Option (Lp (Bool) (Lp (Int × Int) (Int)))) fun j72 => after (if j72 = true then (some (.brk (IntKind.wrap .i64 (q56 + 1)))) else some (.brk q56) : Option (Lp (Int) (Lp (Int × Int) (Int)))) fun j76 => some (.go (j76, IntKind.wrap .i64 (q57 + 1)))) else some (.brk (q56, q57))
def M22 (fuel : Nat) (p0 : TCatalog) (p1 : Int) : Option (Int) :=
  (M33 fuel p0).bind fun y7 => if (y7 != 0) = true then (some 0) else after (loopM (fun s => M22_L0 fuel p0 p1 s.1 s.2) fuel (0, 0)) fun ⟨r79, r80⟩ => some r79
set_option maxRecDepth 100000 in
/-- cellarer/pools.Writable -/
theorem W22 {fuel : Nat} {p0 : TCatalog} {p1 : Int} {o : Int} (h : Heap) (hm : M22 fuel p0 p1 = some o) :
    ACalls Try.prog 22 [.agg (c_Catalog p0), .sc (.int .i64 p1)] h (fun r h' => r = .sc (.int .i64 o) ∧ h' = h) := by
  refine ACalls_hp 31 [.tmp 4] Try.func22 rfl rfl rfl rfl ?_
  unfold M22 at hm
  refine AW_k fun K1 H1 => ?_
  refine AW_reg ?_
  refine s_op (a_box (HOk.nil _) rfl rfl fun k2 hk3 => ?_)
  refine s_v (o_as (.sc (.int _ _)) rfl) ?_
  refine s_nil ?_
  refine H1 _ _ ?_
  clear H1 K1
  refine AW_k fun K5 H5 => ?_
  refine AW_k fun K6 H6 => ?_
  refine AW_reg ?_
  refine s_v (o_ldp (.agg (c_Catalog p0)) ld27 rfl (hp_get 0 hk3 rfl) rfl) ?_
  obtain ⟨y7, hy8, hm⟩ := bind_of hm
  refine s_v (o_call (W33 _ hy8) rfl bd33 rfl) ?_
  refine s_v (o_bi rfl rfl rfl trivial) ?_
  refine s_nil ?_
  refine H6 _ _ ?_
  clear H6 K6
  refine AW_if' rfl (fun hc9 => ?_) (fun hc9 => ?_)
  · replace hm := ite_t hm hc9
    refine AW_k fun K10 H10 => ?_
    refine AW_reg ?_
    refine s_v (o_as (.sc (.int _ _)) rfl) ?_
    refine s_nil ?_
    refine H10 _ _ ?_
    clear H10 K10
    refine AW_ret ?_
    cases hm
    exact Ret.of1 (.inl rfl) (rsT _ _ (.sc (.int _ _)) rfl) (hp_sub (List.nil_sublist _) hk3).1 (ALe.refl _ _) ⟨rfl, rfl⟩
  · replace hm := ite_f hm hc9
    refine AW_skip ?_
    refine H5 _ _ ?_
    clear H5 K5
    refine AW_k fun K11 H11 => ?_
    refine AW_reg ?_
    refine s_v (o_as (.sc (.int _ _)) rfl) ?_
    refine s_nil ?_
    refine H11 _ _ ?_
    clear H11 K11
    refine AW_k fun K12 H12 => ?_
    refine AW_k fun K13 H13 => ?_
    refine AW_reg ?_
    refine s_v (o_flp fd27_4 rfl rfl) ?_
    refine s_v (o_ldp (.sl none 4 (List.map c_Vol p0.Vols)) ld25 rfl (hp_get 0 hk3 rfl) rfl) ?_
    refine s_v (o_lenm ln25 rfl) ?_
    refine s_v (o_mv (.sc (.int _ _)) rfl) ?_
    refine s_nil ?_
    refine H13 _ _ ?_
    clear H13 K13
    refine AW_loopG (n := 31) hm (σ := Int × Int) (τ := Unit) (fun g s => HOk h [(some k2, .obj 27 (c_Catalog p0))]) (fun g s => kp (kp (kp (kp (kp (k0) 14 (.sc (.int .i64 s.2))) 13 (.sc (.int .i64 (p0.Vols.length : Int)))) 12 (.sl none 4 (List.map c_Vol p0.Vols))) 5 (.sc (.int .i64 s.1))) 1 (.sc (.int .i64 p1))) (fun g s => hp h [(some k2, .obj 27 (c_Catalog p0))]) () hk3 (LeF.fm (Sub.refl _) (.cons (ALe.refl _ _) (.cons (ALe.refl _ _) (.cons (ALe.refl _ _) (.cons (ALe.refl _ _) (.cons (ALe.refl _ _) (.nil))))))) ?_ ?_
    · rintro _ ⟨q56, q57⟩ x hk58 hm
      replace hm : M22_L0 fuel p0 p1 q56 q57 = some x := hm
      unfold M22_L0 at hm
      refine AW_k fun K59 H59 => ?_
      refine AW_reg ?_
      refine s_v (o_bi rfl rfl rfl trivial) ?_
      refine s_nil ?_
      refine H59 _ _ ?_
      clear H59 K59
      refine AW_k fun K60 H60 => ?_
      refine AW_if' rfl (fun hc61 => ?_) (fun hc61 => ?_)
      · replace hm := ite_t hm hc61
        refine AW_skip ?_
        refine H60 _ _ ?_
        clear H60 K60
        refine AW_k fun K62 H62 => ?_
        refine AW_block ?_
        refine AW_k fun K63 H63 => ?_
        refine AW_reg ?_
        obtain ⟨x64, hx65, hm⟩ := bind_of hm
        refine s_v (o_ix hx65 el25 rfl rfl) ?_
        refine s_v (o_ld (.agg (c_Vol x64)) ld40 rfl rfl) ?_
        refine s_op (a_alloc ([.sc (.int .i64 0), .sc (.int .i64 0), .sc (.int .i64 0), .sc (.int .i64 0)]) hk58 zr40 rfl rfl fun k66 hk67 => ?_)
        refine s_op (a_store 0 (c_Vol x64) hk67 rfl rfl rfl rfl sz40 rfl rfl fun hk69 => ?_)
        refine s_nil ?_
        refine H63 _ _ ?_
        clear H63 K63
        refine AW_k fun K70 H70 => ?_
        refine AW_joinG (n := 31) hm (σ := Bool) (τ := Unit) (fun g s => HOk h [(some k66, .obj 40 (c_Vol x64)), (some k2, .obj 27 (c_Catalog p0))]) (fun g s => kp (kp (kp (kp (kp (kp (k0) 26 (.sc (.bool s))) 14 (.sc (.int .i64 q57))) 13 (.sc (.int .i64 (p0.Vols.length : Int)))) 12 (.sl none 4 (List.map c_Vol p0.Vols))) 5 (.sc (.int .i64 q56))) 1 (.sc (.int .i64 p1))) (fun g s => hp h [(some k66, .obj 40 (c_Vol x64)), (some k2, .obj 27 (c_Catalog p0))]) (fun x hm => ?_) ?_
        · refine AW_reg ?_
          refine s_v (o_flp fd40_0 rfl rfl) ?_
          refine s_v (o_ldp (.sc (.int .i64 x64.Pool)) ld3 rfl (hp_get 0 hk69 rfl) rfl) ?_
          refine s_v (o_mv (.sc (.int _ _)) rfl) ?_
          refine s_v (o_bi rfl rfl rfl trivial) ?_
          refine s_v (o_mv (.sc (.bool _)) rfl) ?_
          rcases Bool.eq_false_or_eq_true (x64.Pool == p1) with hb73 | hb73
          · replace hm := ite_t hm hb73
            refine sg_y rfl rfl hb73 ?_
            refine s_v (o_flp fd40_2 rfl rfl) ?_
            refine sg_y rfl rfl hb73 ?_
            refine s_v (o_ldp (.sc (.int .i64 x64.State)) ld3 rfl (hp_get 0 hk69 rfl) rfl) ?_
            refine sg_y rfl rfl hb73 ?_
            refine s_v (o_bi rfl rfl rfl trivial) ?_
            refine s_v (o_pkt (.sc (.bool _)) rfl hb73 rfl) ?_
            refine s_nil ?_
            cases hm
            exact ⟨rfl, (), hk69, LeF.fm (Sub.refl _) (.cons (ALe.refl _ _) (.cons (ALe.refl _ _) (.cons (ALe.refl _ _) (.cons (ALe.refl _ _) (.cons (ALe.refl _ _) (.cons (ALe.refl _ _) (.nil)))))))⟩
          · replace hm := ite_f hm hb73
            refine sg_n rfl rfl hb73 ?_
            refine sg_n rfl rfl hb73 ?_
            refine sg_n rfl rfl hb73 ?_
            refine s_v (o_pkf (.sc (.bool _)) rfl hb73 rfl) ?_
            refine s_nil ?_
            cases hm
            exact ⟨rfl, (), hk69, LeF.fm (Sub.refl _) (.cons (ALe.refl _ _) (.cons (ALe.refl _ _) (.cons (ALe.refl _ _) (.cons (ALe.refl _ _) (.cons (ALe.refl _ _) (.cons (ALe.refl _ _) (.nil)))))))⟩
        · rintro _ j72 fr' h' hk74 hm le
          refine H70 _ _ (le.aw ?_)
          clear le H70 K70
          refine AW_joinG (n := 31) hm (σ := Int) (τ := Unit) (fun g s => HOk h [(some k66, .obj 40 (c_Vol x64)), (some k2, .obj 27 (c_Catalog p0))]) (fun g s => kp (kp (kp (kp (kp (k0) 14 (.sc (.int .i64 q57))) 13 (.sc (.int .i64 (p0.Vols.length : Int)))) 12 (.sl none 4 (List.map c_Vol p0.Vols))) 5 (.sc (.int .i64 s))) 1 (.sc (.int .i64 p1))) (fun g s => hp h [(some k66, .obj 40 (c_Vol x64)), (some k2, .obj 27 (c_Catalog p0))]) (fun x hm => ?_) ?_
          · refine AW_if' rfl (fun hc77 => ?_) (fun hc77 => ?_)
            · replace hm := ite_t hm hc77
              refine AW_reg ?_
              refine s_v (o_mv (.sc (.int _ _)) rfl) ?_
              refine s_v (o_bi rfl rfl rfl trivial) ?_
              refine s_v (o_as (.sc (.int _ _)) rfl) ?_
              refine s_nil ?_
              cases hm
              exact ⟨rfl, (), hk74, LeF.fm (Sub.refl _) (.cons (ALe.refl _ _) (.cons (ALe.refl _ _) (.cons (ALe.refl _ _) (.cons (ALe.refl _ _) (.cons (ALe.refl _ _) (.nil))))))⟩
            · replace hm := ite_f hm hc77
              refine AW_skip ?_
              cases hm
              exact ⟨rfl, (), hk74, LeF.fm (Sub.refl _) (.cons (ALe.refl _ _) (.cons (ALe.refl _ _) (.cons (ALe.refl _ _) (.cons (ALe.refl _ _) (.cons (ALe.refl _ _) (.nil))))))⟩
          · rintro _ j76 fr' h' hk78 hm le
            refine H62 _ _ (le.aw ?_)
            clear le H62 K62
            refine AW_reg ?_
            refine s_v (o_bi rfl rfl rfl trivial) ?_
            refine s_v (o_mv (.sc (.int _ _)) rfl) ?_
            refine s_nil ?_
            cases hm
            exact ⟨rfl, (), (hp_sub (.cons _ (.refl _)) hk78).2, LeF.fm ((hp_sub (.cons _ (.refl _)) hk78).1) (.cons (ALe.refl _ _) (.cons (ALe.refl _ _) (.cons (ALe.refl _ _) (.cons (ALe.refl _ _) (.cons (ALe.refl _ _) (.nil))))))⟩
      · replace hm := ite_f hm hc61
        refine AW_exit ?_
        refine Seq_exit ?_
        cases hm
        exact ⟨rfl, (), hk58, LeF.fm (Sub.refl _) (.cons (ALe.refl _ _) (.cons (ALe.refl _ _) (.cons (ALe.refl _ _) (.cons (ALe.refl _ _) (.cons (ALe.refl _ _) (.nil))))))⟩
    · rintro _ ⟨r79, r80⟩ fr' h' hk81 hm le
      refine H12 _ _ (le.aw ?_)
      clear le H12 K12
      refine AW_k fun K82 H82 => ?_
      refine AW_reg ?_
      refine s_v (o_mv (.sc (.int _ _)) rfl) ?_
      refine s_v (o_as (.sc (.int _ _)) rfl) ?_
      refine s_nil ?_
      refine H82 _ _ ?_
      clear H82 K82
      refine AW_ret ?_
      cases hm
      exact Ret.of1 (.inl rfl) (rsT _ _ (.sc (.int _ _)) rfl) (hp_sub (List.nil_sublist _) hk81).1 (ALe.refl _ _) ⟨rfl, rfl⟩
theorem bd22 : bodied Try.prog 22 = true := by kernel_rfl
def M30_L0 (fuel : Nat) (p0 : List Int) (q85 : List TVol) (q88 : Int) : Option (Lp ((List TVol) × Int) (TCatalog × Int)) :=
  if (decide (q88 < (p0.length : Int))) = true then ((ix p0 q88).bind fun x95 => (M68 fuel x95 0 1).bind fun y99 => if (!y99) = true then (some (.ret (({ Seq := 0, Snaps := [], Chunks := [], Exps := [], Vols := [] } : TCatalog), 1))) else (app q85 ([({ Pool := x95, Epoch := 0, State := 1, Files := 0 } : TVol)] : List TVol)).bind fun z104 => some (.go (z104, IntKind.wrap .i64 (q88 + 1)))) else some (.brk (q85, q88))
def M30 (fuel : Nat) (p0 : List Int) : Option (TCatalog × Int) :=
  (M68 fuel (p0.length : Int) 1 8).bind fun y7 => if (!y7) = true then (some (({ Seq := 0, Snaps := [], Chunks := [], Exps := [], Vols := [] } : TCatalog), 2)) else after (loopM (fun s => M30_L0 fuel p0 s.1 s.2) fuel ([], 0)) fun ⟨r110, r111⟩ => some (({ Seq := 0, Snaps := [], Chunks := [], Exps := [], Vols := r110 } : TCatalog), 0)
set_option maxRecDepth 100000 in
/-- cellarer/catalog.New -/
theorem W30 {fuel : Nat} {p0 : List Int} {o : TCatalog × Int} (h : Heap) (hm : M30 fuel p0 = some o) :
    ACalls Try.prog 30 [.sl none 1 (List.map c_i64 p0)] h (fun r h' => r = .tup [.agg (c_Catalog o.1), .sc (.int .i64 o.2)] ∧ h' = h) := by
  refine ACalls_hp 31 [.cell 2 27, .tmp 3] Try.func30 rfl rfl rfl rfl ?_
  unfold M30 at hm
  refine AW_k fun K1 H1 => ?_
  refine AW_reg ?_
  refine s_op (a_alloc ([.sc (.int .i64 0), .sc (.slice none 0 0), .sc (.slice none 0 0), .sc (.slice none 0 0), .sc (.slice none 0 0)]) (HOk.nil _) zr27 rfl rfl fun k2 hk3 => ?_)
  refine s_v (o_as (.sc (.int _ _)) rfl) ?_
  refine s_nil ?_
  refine H1 _ _ ?_
  clear H1 K1
  refine AW_k fun K5 H5 => ?_
  refine AW_k fun K6 H6 => ?_
  refine AW_reg ?_
  refine s_v (o_mv (.sl _ _ _) rfl) ?_
  refine s_v (o_lenm ln28 rfl) ?_
  obtain ⟨y7, hy8, hm⟩ := bind_of hm
  refine s_v (o_call (W68 _ hy8) rfl bd68 rfl) ?_
  refine s_v (o_not rfl) ?_
  refine s_nil ?_
  refine H6 _ _ ?_
  clear H6 K6
  refine AW_if' rfl (fun hc9 => ?_) (fun hc9 => ?_)
  · replace hm := ite_t hm hc9
    refine AW_k fun K10 H10 => ?_
    refine AW_reg ?_
    refine s_v (o_bld ([.sc (.int .i64 0), .sc (.slice none 0 0), .sc (.slice none 0 0), .sc (.slice none 0 0), .sc (.slice none 0 0)]) bt27 rfl) ?_
    refine s_op (a_store 0 ([.sc (.int .i64 0), .sc (.slice none 0 0), .sc (.slice none 0 0), .sc (.slice none 0 0), .sc (.slice none 0 0)]) hk3 rfl rfl rfl rfl sz27 rfl rfl fun hk11 => ?_)
    refine s_v (o_as (.sc (.int _ _)) rfl) ?_
    refine s_nil ?_
    refine H10 _ _ ?_
    clear H10 K10
    refine AW_ret ?_
    cases hm
    exact Ret.of2 (.inl rfl) (rsC (.agg ([.sc (.int .i64 0), .sc (.slice none 0 0), .sc (.slice none 0 0), .sc (.slice none 0 0), .sc (.slice none 0 0)])) ld27 rfl (hp_get 0 hk11 rfl) rfl) (rsT _ _ (.sc (.int _ _)) rfl) (hp_sub (List.nil_sublist _) hk11).1 (ALe.agg (.cons (ALe.refl _ _) (.cons (nil_lem _) (.cons (nil_lem _) (.cons (nil_lem _) (.cons (nil_lem _) (.nil))))))) (ALe.refl _ _) ⟨rfl, rfl⟩
  · replace hm := ite_f hm hc9
    refine AW_skip ?_
    refine H5 _ _ ?_
    clear H5 K5
    refine AW_k fun K12 H12 => ?_
    refine AW_reg ?_
    refine s_op (a_alloc ([.sc (.int .i64 0), .sc (.slice none 0 0), .sc (.slice none 0 0), .sc (.slice none 0 0), .sc (.slice none 0 0)]) hk3 zr27 rfl rfl fun k13 hk14 => ?_)
    refine s_nil ?_
    refine H12 _ _ ?_
    clear H12 K12
    refine AW_k fun K16 H16 => ?_
    refine AW_k fun K17 H17 => ?_
    refine AW_reg ?_
    refine s_v (o_mv (.sl _ _ _) rfl) ?_
    refine s_v (o_lenm ln28 rfl) ?_
    refine s_v (o_mv (.sc (.int _ _)) rfl) ?_
    refine s_nil ?_
    refine H17 _ _ ?_
    clear H17 K17
    obtain ⟨hk40, le0⟩ := LeF.obj (L := (none, .tok 40 4 (([] : List TVol).length * 4)) :: _) (n := 31) (f := _) 1 ([.sc (.int .i64 0), .sc (.slice none 0 0), .sc (.slice none 0 0), .sc (.slice none 0 0), ow none 4 (List.map c_Vol [])]) (HOk.none hk14) rfl (.cons (ALe.refl _ _) (.cons (ALe.refl _ _) (.cons (ALe.refl _ _) (.cons (ALe.refl _ _) (.cons (ow_nil (c := c_Vol) _ 4) (.nil))))))
    refine le0.aw ?_
    clear le0
    refine AW_loopG (n := 31) hm (σ := (List TVol) × Int) (τ := Option Key) (fun g s => HOk h [(g, .tok 40 4 ((s.1 : List TVol).length * 4)), (some k13, .obj 27 ([.sc (.int .i64 0), .sc (.slice none 0 0), .sc (.slice none 0 0), .sc (.slice none 0 0), ow g 4 (List.map c_Vol s.1)])), (some k2, .obj 27 ([.sc (.int .i64 0), .sc (.slice none 0 0), .sc (.slice none 0 0), .sc (.slice none 0 0), .sc (.slice none 0 0)]))] ∧ (g = none → s.1 = [])) (fun g s => kp (kp (kp (kp (kp (k0) 14 (.sc (.int .i64 s.2))) 13 (.sc (.int .i64 (p0.length : Int)))) 12 (.sl none 1 (List.map c_i64 p0))) 4 (.ptr k13 0)) 2 (.ptr k2 0)) (fun g s => hp h [(g, .tok 40 4 ((s.1 : List TVol).length * 4)), (some k13, .obj 27 ([.sc (.int .i64 0), .sc (.slice none 0 0), .sc (.slice none 0 0), .sc (.slice none 0 0), ow g 4 (List.map c_Vol s.1)])), (some k2, .obj 27 ([.sc (.int .i64 0), .sc (.slice none 0 0), .sc (.slice none 0 0), .sc (.slice none 0 0), .sc (.slice none 0 0)]))]) none (⟨hk40, (fun _ => rfl)⟩) (LeF.fm (Sub.refl _) (.cons (ALe.refl _ _) (.cons (ALe.refl _ _) (.cons (ALe.refl _ _) (.cons (ALe.refl _ _) (.cons (ALe.refl _ _) (.nil))))))) ?_ ?_
    · rintro tg86 ⟨q85, q88⟩ x ⟨hk89, ot87⟩ hm
      replace hm : M30_L0 fuel p0 q85 q88 = some x := hm
      unfold M30_L0 at hm
      refine AW_k fun K90 H90 => ?_
      refine AW_reg ?_
      refine s_v (o_bi rfl rfl rfl trivial) ?_
      refine s_nil ?_
      refine H90 _ _ ?_
      clear H90 K90
      refine AW_k fun K91 H91 => ?_
      refine AW_if' rfl (fun hc92 => ?_) (fun hc92 => ?_)
      · replace hm := ite_t hm hc92
        refine AW_skip ?_
        refine H91 _ _ ?_
        clear H91 K91
        refine AW_k fun K93 H93 => ?_
        refine AW_block ?_
        refine AW_k fun K94 H94 => ?_
        refine AW_reg ?_
        obtain ⟨x95, hx96, hm⟩ := bind_of hm
        refine s_v (o_ix hx96 el28 rfl rfl) ?_
        refine s_v (o_ld (.sc (.int .i64 x95)) ld3 rfl rfl) ?_
        refine s_v (o_as (.sc (.int _ _)) rfl) ?_
        refine s_nil ?_
        refine H94 _ _ ?_
        clear H94 K94
        refine AW_k fun K97 H97 => ?_
        refine AW_k fun K98 H98 => ?_
        refine AW_reg ?_
        refine s_v (o_mv (.sc (.int _ _)) rfl) ?_
        obtain ⟨y99, hy100, hm⟩ := bind_of hm
        refine s_v (o_call (W68 _ hy100) rfl bd68 rfl) ?_
        refine s_v (o_not rfl) ?_
        refine s_nil ?_
        refine H98 _ _ ?_
        clear H98 K98
        refine AW_if' rfl (fun hc101 => ?_) (fun hc101 => ?_)
        · replace hm := ite_t hm hc101
          refine AW_k fun K102 H102 => ?_
          refine AW_reg ?_
          refine s_v (o_bld ([.sc (.int .i64 0), .sc (.slice none 0 0), .sc (.slice none 0 0), .sc (.slice none 0 0), .sc (.slice none 0 0)]) bt27 rfl) ?_
          refine s_op (a_store 2 ([.sc (.int .i64 0), .sc (.slice none 0 0), .sc (.slice none 0 0), .sc (.slice none 0 0), .sc (.slice none 0 0)]) hk89 rfl rfl rfl rfl sz27 rfl rfl fun hk103 => ?_)
          refine s_v (o_as (.sc (.int _ _)) rfl) ?_
          refine s_nil ?_
          refine H102 _ _ ?_
          clear H102 K102
          refine AW_ret ?_
          cases hm
          refine ⟨⟨nofun, nofun⟩, fun he => ?_⟩
          subst he
          exact Ret.of2 (.inl rfl) (rsC (.agg ([.sc (.int .i64 0), .sc (.slice none 0 0), .sc (.slice none 0 0), .sc (.slice none 0 0), .sc (.slice none 0 0)])) ld27 rfl (hp_get 2 hk103 rfl) rfl) (rsT _ _ (.sc (.int _ _)) rfl) (hp_sub (List.nil_sublist _) hk103).1 (ALe.agg (.cons (ALe.refl _ _) (.cons (nil_lem _) (.cons (nil_lem _) (.cons (nil_lem _) (.cons (nil_lem _) (.nil))))))) (ALe.refl _ _) ⟨rfl, rfl⟩
        · replace hm := ite_f hm hc101
          refine AW_skip ?_
          refine H97 _ _ ?_
          clear H97 K97
          refine AW_reg ?_
          refine s_v (o_flp fd27_4 rfl rfl) ?_
          refine s_v (o_ldp (ow tg86 4 (List.map c_Vol q85)) ld25 rfl (hp_get 1 hk89 rfl) rfl) ?_
          refine s_v (o_mv (.sc (.int _ _)) rfl) ?_
          refine s_v (o_bld (c_Vol ({ Pool := x95, Epoch := 0, State := 1, Files := 0 } : TVol)) bt40 rfl) ?_
          refine s_v (o_lit (List.map c_Vol ([({ Pool := x95, Epoch := 0, State := 1, Files := 0 } : TVol)] : List TVol)) et25 rfl rfl rfl rfl) ?_
          obtain ⟨z104, hz105, hm⟩ := bind_of hm
          refine s_op (a_app (c := c_Vol) 0 hz105 et25 rfl rfl rfl ot87 hk89 rfl fun tg106 ot107 hk108 => ?_)
          refine s_v (o_flp fd27_4 rfl rfl) ?_
          refine s_op (a_store 1 ([.sc (.int .i64 0), .sc (.slice none 0 0), .sc (.slice none 0 0), .sc (.slice none 0 0), ow tg106 4 (List.map c_Vol z104)]) hk108 rfl rfl (cellsOf_ow rfl) (all_ow _ _ _) sz25 rfl rfl fun hk109 => ?_)
          refine s_nil ?_
          refine H93 _ _ ?_
          clear H93 K93
          refine AW_reg ?_
          refine s_v (o_bi rfl rfl rfl trivial) ?_
          refine s_v (o_mv (.sc (.int _ _)) rfl) ?_
          refine s_nil ?_
          cases hm
          exact ⟨rfl, tg106, ⟨hk109, ot107⟩, LeF.fm (Sub.refl _) (.cons (ALe.refl _ _) (.cons (ALe.refl _ _) (.cons (ALe.refl _ _) (.cons (ALe.refl _ _) (.cons (ALe.refl _ _) (.nil))))))⟩
      · replace hm := ite_f hm hc92
        refine AW_exit ?_
        refine Seq_exit ?_
        cases hm
        exact ⟨rfl, tg86, ⟨hk89, ot87⟩, LeF.fm (Sub.refl _) (.cons (ALe.refl _ _) (.cons (ALe.refl _ _) (.cons (ALe.refl _ _) (.cons (ALe.refl _ _) (.cons (ALe.refl _ _) (.nil))))))⟩
    · rintro tg112 ⟨r110, r111⟩ fr' h' ⟨hk114, ot113⟩ hm le
      refine H16 _ _ (le.aw ?_)
      clear le H16 K16
      refine AW_k fun K115 H115 => ?_
      refine AW_reg ?_
      refine s_v (o_ldp (.agg ([.sc (.int .i64 0), .sc (.slice none 0 0), .sc (.slice none 0 0), .sc (.slice none 0 0), ow tg112 4 (List.map c_Vol r110)])) ld27 rfl (hp_get 1 hk114 rfl) rfl) ?_
      refine s_op (a_store 2 ([.sc (.int .i64 0), .sc (.slice none 0 0), .sc (.slice none 0 0), .sc (.slice none 0 0), ow tg112 4 (List.map c_Vol r110)]) hk114 rfl rfl rfl (by repeat (first | exact rfl | refine all_c (ocell_ow _ _ _) ?_ | refine all_c rfl ?_)) sz27 rfl rfl fun hk116 => ?_)
      refine s_v (o_as (.sc (.int _ _)) rfl) ?_
      refine s_nil ?_
      refine H115 _ _ ?_
      clear H115 K115
      refine AW_ret ?_
      cases hm
      exact Ret.of2 (.inl rfl) (rsC (.agg ([.sc (.int .i64 0), .sc (.slice none 0 0), .sc (.slice none 0 0), .sc (.slice none 0 0), ow tg112 4 (List.map c_Vol r110)])) ld27 rfl (hp_get 2 hk116 rfl) rfl) (rsT _ _ (.sc (.int _ _)) rfl) (hp_sub (List.nil_sublist _) hk116).1 (ALe.agg (.cons (ALe.refl _ _) (.cons (nil_lem _) (.cons (nil_lem _) (.cons (nil_lem _) (.cons ((own_frz0 _ 0 ot113 hk116 rfl)) (.nil))))))) (ALe.refl _ _) ⟨rfl, rfl⟩
theorem bd30 : bodied Try.prog 30 = true := by kernel_rfl
def M23 (fuel : Nat) : Option (Bool) :=
  (M30 fuel ([1, 0, 0] : List Int)).bind fun y3 => (M16 fuel y3.1 0 5 ([9, 4, 5] : List Int) (-1)).bind fun y10 => after (if (y3.2 == 0) = true then (if (y10.2 == 0) = true then (if (y10.1 == 2) = true then ((M21 fuel y3.1 0).bind fun y25 => if (y25 == (-1)) = true then ((M22 fuel y3.1 0).bind fun y28 => some (.brk (y28 == 2))) else some (.brk false)) else some (.brk false)) else some (.brk false)) else some (.brk false) : Option (Lp (Bool) (Bool))) fun j21 => some j21
set_option maxRecDepth 100000 in
/-- cellarer/cellarerlaw23.wakes -/
theorem W23 {fuel : Nat} {o : Bool} (h : Heap) (hm : M23 fuel = some o) :
    ACalls Try.prog 23 [] h (fun r h' => r = .sc (.bool o) ∧ h' = h) := by
  refine ACalls_hp 36 [.tmp 0] Try.func23 rfl rfl rfl rfl ?_
  unfold M23 at hm
  refine AW_k fun K1 H1 => ?_
  refine AW_reg ?_
  refine s_v (o_as (.sc (.bool _)) rfl) ?_
  refine s_nil ?_
  refine H1 _ _ ?_
  clear H1 K1
  refine AW_k fun K2 H2 => ?_
  refine AW_reg ?_
  refine s_v (o_lit (List.map c_i64 ([1, 0, 0] : List Int)) et28 rfl rfl rfl rfl) ?_
  obtain ⟨y3, hy4, hm⟩ := bind_of hm
  refine s_v (o_call (W30 _ hy4) rfl bd30 rfl) ?_
  refine s_v (o_mv (.tup _) rfl) ?_
  refine s_v (o_ex (.agg _) rfl rfl) ?_
  refine s_v (o_ex (.sc (.int _ _)) rfl rfl) ?_
  refine s_op (a_alloc ([.sc (.int .i64 0), .sc (.slice none 0 0), .sc (.slice none 0 0), .sc (.slice none 0 0), .sc (.slice none 0 0)]) (HOk.nil _) zr27 rfl rfl fun k5 hk6 => ?_)
  refine s_op (a_store 0 (c_Catalog y3.1) hk6 rfl rfl rfl rfl sz27 rfl rfl fun hk8 => ?_)
  refine s_v (o_as (.sc (.int _ _)) rfl) ?_
  refine s_nil ?_
  refine H2 _ _ ?_
  clear H2 K2
  refine AW_k fun K9 H9 => ?_
  refine AW_reg ?_
  refine s_v (o_ldp (.agg (c_Catalog y3.1)) ld27 rfl (hp_get 0 hk8 rfl) rfl) ?_
  refine s_v (o_lit (List.map c_i64 ([9, 4, 5] : List Int)) et28 rfl rfl rfl rfl) ?_
  obtain ⟨y10, hy11, hm⟩ := bind_of hm
  refine s_v (o_call (W16 _ hy11) rfl bd16 rfl) ?_
  refine s_v (o_mv (.tup _) rfl) ?_
  refine s_v (o_ex (.sc (.int _ _)) rfl rfl) ?_
  refine s_v (o_ex (.sc (.int _ _)) rfl rfl) ?_
  refine s_v (o_as (.sc (.int _ _)) rfl) ?_
  refine s_v (o_as (.sc (.int _ _)) rfl) ?_
  refine s_nil ?_
  refine H9 _ _ ?_
  clear H9 K9
  refine AW_k fun K12 H12 => ?_
  refine AW_joinG (n := 36) hm (σ := Bool) (τ := Unit) (fun g s => HOk h [(some k5, .obj 27 (c_Catalog y3.1))]) (fun g s => kp (k0) 0 (.sc (.bool s))) (fun g s => hp h [(some k5, .obj 27 (c_Catalog y3.1))]) (fun x hm => ?_) ?_
  · refine AW_reg ?_
    refine s_v (o_mv (.sc (.int _ _)) rfl) ?_
    refine s_v (o_bi rfl rfl rfl trivial) ?_
    refine s_v (o_mv (.sc (.bool _)) rfl) ?_
    rcases Bool.eq_false_or_eq_true (y3.2 == 0) with hb22 | hb22
    · replace hm := ite_t hm hb22
      refine sg_y rfl rfl hb22 ?_
      refine s_v (o_mv (.sc (.int _ _)) rfl) ?_
      refine sg_y rfl rfl hb22 ?_
      refine s_v (o_bi rfl rfl rfl trivial) ?_
      refine s_v (o_pkt (.sc (.bool _)) rfl hb22 rfl) ?_
      refine s_v (o_mv (.sc (.bool _)) rfl) ?_
      rcases Bool.eq_false_or_eq_true (y10.2 == 0) with hb23 | hb23
      · replace hm := ite_t hm hb23
        refine sg_y rfl rfl hb23 ?_
        refine s_v (o_mv (.sc (.int _ _)) rfl) ?_
        refine sg_y rfl rfl hb23 ?_
        refine s_v (o_bi rfl rfl rfl trivial) ?_
        refine s_v (o_pkt (.sc (.bool _)) rfl hb23 rfl) ?_
        refine s_v (o_mv (.sc (.bool _)) rfl) ?_
        rcases Bool.eq_false_or_eq_true (y10.1 == 2) with hb24 | hb24
        · replace hm := ite_t hm hb24
          refine sg_y rfl rfl hb24 ?_
          refine s_v (o_ldp (.agg (c_Catalog y3.1)) ld27 rfl (hp_get 0 hk8 rfl) rfl) ?_
          refine sg_y rfl rfl hb24 ?_
          obtain ⟨y25, hy26, hm⟩ := bind_of hm
          refine s_v (o_call (W21 _ hy26) rfl bd21 rfl) ?_
          refine sg_y rfl rfl hb24 ?_
          refine s_v (o_bi rfl rfl rfl trivial) ?_
          refine s_v (o_pkt (.sc (.bool _)) rfl hb24 rfl) ?_
          refine s_v (o_mv (.sc (.bool _)) rfl) ?_
          rcases Bool.eq_false_or_eq_true (y25 == (-1)) with hb27 | hb27
          · replace hm := ite_t hm hb27
            refine sg_y rfl rfl hb27 ?_
            refine s_v (o_ldp (.agg (c_Catalog y3.1)) ld27 rfl (hp_get 0 hk8 rfl) rfl) ?_
            refine sg_y rfl rfl hb27 ?_
            obtain ⟨y28, hy29, hm⟩ := bind_of hm
            refine s_v (o_call (W22 _ hy29) rfl bd22 rfl) ?_
            refine sg_y rfl rfl hb27 ?_
            refine s_v (o_bi rfl rfl rfl trivial) ?_
            refine s_v (o_pkt (.sc (.bool _)) rfl hb27 rfl) ?_
            refine s_v (o_as (.sc (.bool _)) rfl) ?_
            refine s_nil ?_
            cases hm
            exact ⟨rfl, (), hk8, LeF.fm (Sub.refl _) (.cons (ALe.refl _ _) (.nil))⟩
          · replace hm := ite_f hm hb27
            refine sg_n rfl rfl hb27 ?_
            refine sg_n rfl rfl hb27 ?_
            refine sg_n rfl rfl hb27 ?_
            refine s_v (o_pkf (.sc (.bool _)) rfl hb27 rfl) ?_
            refine s_v (o_as (.sc (.bool _)) rfl) ?_
            refine s_nil ?_
            cases hm
            exact ⟨rfl, (), hk8, LeF.fm (Sub.refl _) (.cons (ALe.refl _ _) (.nil))⟩
        · replace hm := ite_f hm hb24
          refine sg_n rfl rfl hb24 ?_
          refine sg_n rfl rfl hb24 ?_
          refine sg_n rfl rfl hb24 ?_
          refine s_v (o_pkf (.sc (.bool _)) rfl hb24 rfl) ?_
          refine s_v (o_mv (.sc (.bool _)) rfl) ?_
          refine sg_n rfl rfl rfl ?_
          refine sg_n rfl rfl rfl ?_
          refine sg_n rfl rfl rfl ?_
          refine s_v (o_pkf (.sc (.bool _)) rfl rfl rfl) ?_
          refine s_v (o_as (.sc (.bool _)) rfl) ?_
          refine s_nil ?_
          cases hm
          exact ⟨rfl, (), hk8, LeF.fm (Sub.refl _) (.cons (ALe.refl _ _) (.nil))⟩
      · replace hm := ite_f hm hb23
        refine sg_n rfl rfl hb23 ?_
        refine sg_n rfl rfl hb23 ?_
        refine s_v (o_pkf (.sc (.bool _)) rfl hb23 rfl) ?_
        refine s_v (o_mv (.sc (.bool _)) rfl) ?_
        refine sg_n rfl rfl rfl ?_
        refine sg_n rfl rfl rfl ?_
        refine sg_n rfl rfl rfl ?_
        refine s_v (o_pkf (.sc (.bool _)) rfl rfl rfl) ?_
        refine s_v (o_mv (.sc (.bool _)) rfl) ?_
        refine sg_n rfl rfl rfl ?_
        refine sg_n rfl rfl rfl ?_
        refine sg_n rfl rfl rfl ?_
        refine s_v (o_pkf (.sc (.bool _)) rfl rfl rfl) ?_
        refine s_v (o_as (.sc (.bool _)) rfl) ?_
        refine s_nil ?_
        cases hm
        exact ⟨rfl, (), hk8, LeF.fm (Sub.refl _) (.cons (ALe.refl _ _) (.nil))⟩
    · replace hm := ite_f hm hb22
      refine sg_n rfl rfl hb22 ?_
      refine sg_n rfl rfl hb22 ?_
      refine s_v (o_pkf (.sc (.bool _)) rfl hb22 rfl) ?_
      refine s_v (o_mv (.sc (.bool _)) rfl) ?_
      refine sg_n rfl rfl rfl ?_
      refine sg_n rfl rfl rfl ?_
      refine s_v (o_pkf (.sc (.bool _)) rfl rfl rfl) ?_
      refine s_v (o_mv (.sc (.bool _)) rfl) ?_
      refine sg_n rfl rfl rfl ?_
      refine sg_n rfl rfl rfl ?_
      refine sg_n rfl rfl rfl ?_
      refine s_v (o_pkf (.sc (.bool _)) rfl rfl rfl) ?_
      refine s_v (o_mv (.sc (.bool _)) rfl) ?_
      refine sg_n rfl rfl rfl ?_
      refine sg_n rfl rfl rfl ?_
      refine sg_n rfl rfl rfl ?_
      refine s_v (o_pkf (.sc (.bool _)) rfl rfl rfl) ?_
      refine s_v (o_as (.sc (.bool _)) rfl) ?_
      refine s_nil ?_
      cases hm
      exact ⟨rfl, (), hk8, LeF.fm (Sub.refl _) (.cons (ALe.refl _ _) (.nil))⟩
  · rintro _ j21 fr' h' hk30 hm le
    refine H12 _ _ (le.aw ?_)
    clear le H12 K12
    refine AW_ret ?_
    cases hm
    exact Ret.of1 (.inl rfl) (rsT _ _ (.sc (.bool _)) rfl) (hp_sub (List.nil_sublist _) hk30).1 (ALe.refl _ _) ⟨rfl, rfl⟩
theorem bd23 : bodied Try.prog 23 = true := by kernel_rfl
end Go.Proofs.Ytoomgangpjcaoaa
