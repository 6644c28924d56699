import Derived.Test.YtoomgangpjcaoaaK6Wa
import Derived.Test.YtoomgangpjcaoaaK6Wb
import Derived.Test.YtoomgangpjcaoaaK6Types
import Derived.Test.YtoomgangpjcaoaaK6We
import Derived.Test.YtoomgangpjcaoaaK6Wf
import Derived.Test.YtoomgangpjcaoaaK6Wg
import Derived.Test.YtoomgangpjcaoaaK6Wi
set_option linter.unusedSimpArgs false
set_option linter.unusedVariables false
namespace Go.Proofs.Ytoomgangpjcaoaa
open Go.Vm
def M6_L0 (fuel : Nat) (p0 : List Int) (q69 : Int) (q70 : Int) : Option (Lp (Int × Int) (Bool)) :=
  if (decide (q70 < (p0.length : Int))) = true then (after ((ix p0 q70).bind fun x83 => if (x83 != 0) = true then ((ix p0 q70).bind fun x86 => some (.brk (x86 != 1))) else some (.brk false) : Option (Lp (Bool) (Lp (Int × Int) (Bool)))) fun j82 => after (if j82 = true then (some (.brk 1)) else some (.brk q69) : Option (Lp (Int) (Lp (Int × Int) (Bool)))) fun j90 => some (.go (j90, IntKind.wrap .i64 (q70 + 1)))) else some (.brk (q69, q70))
def M6 (fuel : Nat) (p0 : List Int) : Option (Bool) :=
  if (decide (30 < (p0.length : Int))) = true then (some true) else (M15 fuel p0).bind fun y7 => (M30 fuel y7).bind fun y10 => (M18 fuel y7 p0).bind fun y18 => if (!y18) = true then (some false) else after (loopM (fun s => M6_L0 fuel p0 s.1 s.2) fuel (0, 0)) fun ⟨r93, r94⟩ => after (if (decide ((p0.length : Int) < 1)) = true then (some (.brk true)) else some (.brk (decide (8 < (p0.length : Int)))) : Option (Lp (Bool) (Bool))) fun j99 => after (if j99 = true then (some (.brk 2)) else some (.brk r93) : Option (Lp (Int) (Bool))) fun j103 => if (j103 != 0) = true then (after (if (y10.2 == j103) = true then ((M17 fuel y10.1 ({ Seq := 0, Snaps := [], Chunks := [], Exps := [], Vols := [] } : TCatalog)).bind fun y119 => if y119 = true then (if (y10.1.Seq == 0) = true then ((M31 fuel).bind fun y123 => some (.brk y123)) else some (.brk false)) else some (.brk false)) else some (.brk false) : Option (Lp (Bool) (Bool))) fun j117 => some j117) else after (if (y10.2 == 0) = true then ((M32 fuel p0).bind fun y141 => (M17 fuel y10.1 y141).bind fun y143 => if y143 = true then (if (y10.1.Seq == 0) = true then ((M33 fuel y10.1).bind fun y147 => if (y147 == 0) = true then ((M31 fuel).bind fun y150 => some (.brk y150)) else some (.brk false)) else some (.brk false)) else some (.brk false)) else some (.brk false) : Option (Lp (Bool) (Bool))) fun j139 => some j139
set_option maxRecDepth 100000 in
/-- cellarer/cellarerlaw18.CatalogNew -/
theorem W6 {fuel : Nat} {p0 : List Int} {o : Bool} (h : Heap) (hm : M6 fuel p0 = some o) :
    ACalls Try.prog 6 [.sl none 1 (List.map c_i64 p0)] h (fun r h' => r = .sc (.bool o) ∧ h' = h) := by
  refine ACalls_hp 87 [.tmp 2] Try.func6 rfl rfl rfl rfl ?_
  unfold M6 at hm
  refine AW_k fun K1 H1 => ?_
  refine AW_reg ?_
  refine s_v (o_as (.sc (.bool _)) rfl) ?_
  refine s_nil ?_
  refine H1 _ _ ?_
  clear H1 K1
  refine AW_k fun K2 H2 => ?_
  refine AW_k fun K3 H3 => ?_
  refine AW_reg ?_
  refine s_v (o_mv (.sl _ _ _) rfl) ?_
  refine s_v (o_lenm ln28 rfl) ?_
  refine s_v (o_bi rfl rfl rfl trivial) ?_
  refine s_nil ?_
  refine H3 _ _ ?_
  clear H3 K3
  refine AW_if' rfl (fun hc4 => ?_) (fun hc4 => ?_)
  · replace hm := ite_t hm hc4
    refine AW_k fun K5 H5 => ?_
    refine AW_reg ?_
    refine s_v (o_as (.sc (.bool _)) rfl) ?_
    refine s_nil ?_
    refine H5 _ _ ?_
    clear H5 K5
    refine AW_ret ?_
    cases hm
    exact Ret.of1 (.inl rfl) (rsT _ _ (.sc (.bool _)) rfl) (Sub.refl _) (ALe.refl _ _) ⟨rfl, rfl⟩
  · replace hm := ite_f hm hc4
    refine AW_skip ?_
    refine H2 _ _ ?_
    clear H2 K2
    refine AW_k fun K6 H6 => ?_
    refine AW_reg ?_
    refine s_v (o_mv (.sl _ _ _) rfl) ?_
    obtain ⟨y7, hy8, hm⟩ := bind_of hm
    refine s_v (o_call (W15 _ hy8) rfl bd15 rfl) ?_
    refine s_v (o_as (.sl _ _ _) rfl) ?_
    refine s_nil ?_
    refine H6 _ _ ?_
    clear H6 K6
    refine AW_k fun K9 H9 => ?_
    refine AW_reg ?_
    refine s_v (o_mv (.sl _ _ _) rfl) ?_
    obtain ⟨y10, hy11, hm⟩ := bind_of hm
    refine s_v (o_call (W30 _ hy11) rfl bd30 rfl) ?_
    refine s_v (o_mv (.tup _) rfl) ?_
    refine s_v (o_ex (.agg _) rfl rfl) ?_
    refine s_v (o_ex (.sc (.int _ _)) rfl rfl) ?_
    refine s_op (a_alloc ([.sc (.int .i64 0), .sc (.slice none 0 0), .sc (.slice none 0 0), .sc (.slice none 0 0), .sc (.slice none 0 0)]) (HOk.nil _) zr27 rfl rfl fun k12 hk13 => ?_)
    refine s_op (a_store 0 (c_Catalog y10.1) hk13 rfl rfl rfl rfl sz27 rfl rfl fun hk15 => ?_)
    refine s_v (o_as (.sc (.int _ _)) rfl) ?_
    refine s_nil ?_
    refine H9 _ _ ?_
    clear H9 K9
    refine AW_k fun K16 H16 => ?_
    refine AW_k fun K17 H17 => ?_
    refine AW_reg ?_
    refine s_v (o_mv (.sl _ _ _) rfl) ?_
    refine s_v (o_mv (.sl _ _ _) rfl) ?_
    obtain ⟨y18, hy19, hm⟩ := bind_of hm
    refine s_v (o_call (W18 _ hy19) rfl bd18 rfl) ?_
    refine s_v (o_not rfl) ?_
    refine s_nil ?_
    refine H17 _ _ ?_
    clear H17 K17
    refine AW_if' rfl (fun hc20 => ?_) (fun hc20 => ?_)
    · replace hm := ite_t hm hc20
      refine AW_k fun K21 H21 => ?_
      refine AW_reg ?_
      refine s_v (o_as (.sc (.bool _)) rfl) ?_
      refine s_nil ?_
      refine H21 _ _ ?_
      clear H21 K21
      refine AW_ret ?_
      cases hm
      exact Ret.of1 (.inl rfl) (rsT _ _ (.sc (.bool _)) rfl) (hp_sub (List.nil_sublist _) hk15).1 (ALe.refl _ _) ⟨rfl, rfl⟩
    · replace hm := ite_f hm hc20
      refine AW_skip ?_
      refine H16 _ _ ?_
      clear H16 K16
      refine AW_k fun K22 H22 => ?_
      refine AW_reg ?_
      refine s_v (o_as (.sc (.int _ _)) rfl) ?_
      refine s_nil ?_
      refine H22 _ _ ?_
      clear H22 K22
      refine AW_k fun K23 H23 => ?_
      refine AW_k fun K24 H24 => ?_
      refine AW_reg ?_
      refine s_v (o_as (.sc (.int _ _)) rfl) ?_
      refine s_nil ?_
      refine H24 _ _ ?_
      clear H24 K24
      refine AW_loopG (n := 87) hm (σ := Int × Int) (τ := Unit) (fun g s => HOk h [(some k12, .obj 27 (c_Catalog y10.1))]) (fun g s => kp (kp (kp (kp (kp (k0) 7 (.sc (.int .i64 s.2))) 6 (.sc (.int .i64 s.1))) 5 (.sc (.int .i64 y10.2))) 4 (.ptr k12 0)) 0 (.sl none 1 (List.map c_i64 p0))) (fun g s => hp h [(some k12, .obj 27 (c_Catalog y10.1))]) () hk15 (LeF.fm (Sub.refl _) (.cons (ALe.refl _ _) (.cons (ALe.refl _ _) (.cons (ALe.refl _ _) (.cons (ALe.refl _ _) (.cons (ALe.refl _ _) (.nil))))))) ?_ ?_
      · rintro _ ⟨q69, q70⟩ x hk71 hm
        replace hm : M6_L0 fuel p0 q69 q70 = some x := hm
        unfold M6_L0 at hm
        refine AW_k fun K72 H72 => ?_
        refine AW_k fun K73 H73 => ?_
        refine AW_reg ?_
        refine s_v (o_mv (.sc (.int _ _)) rfl) ?_
        refine s_v (o_mv (.sl _ _ _) rfl) ?_
        refine s_v (o_lenm ln28 rfl) ?_
        refine s_v (o_bi rfl rfl rfl trivial) ?_
        refine s_nil ?_
        refine H73 _ _ ?_
        clear H73 K73
        refine AW_if' rfl (fun hc74 => ?_) (fun hc74 => ?_)
        · replace hm := ite_t hm hc74
          refine AW_skip ?_
          refine H72 _ _ ?_
          clear H72 K72
          refine AW_k fun K75 H75 => ?_
          refine AW_block ?_
          refine AW_k fun K76 H76 => ?_
          refine AW_joinG (n := 87) hm (σ := Bool) (τ := Unit) (fun g s => HOk h [(some k12, .obj 27 (c_Catalog y10.1))]) (fun g s => kp (kp (kp (kp (kp (kp (k0) 39 (.sc (.bool s))) 7 (.sc (.int .i64 q70))) 6 (.sc (.int .i64 q69))) 5 (.sc (.int .i64 y10.2))) 4 (.ptr k12 0)) 0 (.sl none 1 (List.map c_i64 p0))) (fun g s => hp h [(some k12, .obj 27 (c_Catalog y10.1))]) (fun x hm => ?_) ?_
          · refine AW_reg ?_
            refine s_v (o_mv (.sl _ _ _) rfl) ?_
            refine s_v (o_mv (.sc (.int _ _)) rfl) ?_
            obtain ⟨x83, hx84, hm⟩ := bind_of hm
            refine s_v (o_ix hx84 el28 rfl rfl) ?_
            refine s_v (o_ld (.sc (.int .i64 x83)) ld3 rfl rfl) ?_
            refine s_v (o_bi rfl rfl rfl trivial) ?_
            refine s_v (o_mv (.sc (.bool _)) rfl) ?_
            rcases Bool.eq_false_or_eq_true (x83 != 0) with hb85 | hb85
            · replace hm := ite_t hm hb85
              refine sg_y rfl rfl hb85 ?_
              refine s_v (o_mv (.sl _ _ _) rfl) ?_
              refine sg_y rfl rfl hb85 ?_
              refine s_v (o_mv (.sc (.int _ _)) rfl) ?_
              refine sg_y rfl rfl hb85 ?_
              obtain ⟨x86, hx87, hm⟩ := bind_of hm
              refine s_v (o_ix hx87 el28 rfl rfl) ?_
              refine sg_y rfl rfl hb85 ?_
              refine s_v (o_ld (.sc (.int .i64 x86)) ld3 rfl rfl) ?_
              refine sg_y rfl rfl hb85 ?_
              refine s_v (o_bi rfl rfl rfl trivial) ?_
              refine s_v (o_pkt (.sc (.bool _)) rfl hb85 rfl) ?_
              refine s_nil ?_
              cases hm
              exact ⟨rfl, (), hk71, LeF.fm (Sub.refl _) (.cons (ALe.refl _ _) (.cons (ALe.refl _ _) (.cons (ALe.refl _ _) (.cons (ALe.refl _ _) (.cons (ALe.refl _ _) (.cons (ALe.refl _ _) (.nil)))))))⟩
            · replace hm := ite_f hm hb85
              refine sg_n rfl rfl hb85 ?_
              refine sg_n rfl rfl hb85 ?_
              refine sg_n rfl rfl hb85 ?_
              refine sg_n rfl rfl hb85 ?_
              refine sg_n rfl rfl hb85 ?_
              refine s_v (o_pkf (.sc (.bool _)) rfl hb85 rfl) ?_
              refine s_nil ?_
              cases hm
              exact ⟨rfl, (), hk71, LeF.fm (Sub.refl _) (.cons (ALe.refl _ _) (.cons (ALe.refl _ _) (.cons (ALe.refl _ _) (.cons (ALe.refl _ _) (.cons (ALe.refl _ _) (.cons (ALe.refl _ _) (.nil)))))))⟩
          · rintro _ j82 fr' h' hk88 hm le
            refine H76 _ _ (le.aw ?_)
            clear le H76 K76
            refine AW_joinG (n := 87) hm (σ := Int) (τ := Unit) (fun g s => HOk h [(some k12, .obj 27 (c_Catalog y10.1))]) (fun g s => kp (kp (kp (kp (kp (k0) 7 (.sc (.int .i64 q70))) 6 (.sc (.int .i64 s))) 5 (.sc (.int .i64 y10.2))) 4 (.ptr k12 0)) 0 (.sl none 1 (List.map c_i64 p0))) (fun g s => hp h [(some k12, .obj 27 (c_Catalog y10.1))]) (fun x hm => ?_) ?_
            · refine AW_if' rfl (fun hc91 => ?_) (fun hc91 => ?_)
              · replace hm := ite_t hm hc91
                refine AW_reg ?_
                refine s_v (o_as (.sc (.int _ _)) rfl) ?_
                refine s_nil ?_
                cases hm
                exact ⟨rfl, (), hk88, LeF.fm (Sub.refl _) (.cons (ALe.refl _ _) (.cons (ALe.refl _ _) (.cons (ALe.refl _ _) (.cons (ALe.refl _ _) (.cons (ALe.refl _ _) (.nil))))))⟩
              · replace hm := ite_f hm hc91
                refine AW_skip ?_
                cases hm
                exact ⟨rfl, (), hk88, LeF.fm (Sub.refl _) (.cons (ALe.refl _ _) (.cons (ALe.refl _ _) (.cons (ALe.refl _ _) (.cons (ALe.refl _ _) (.cons (ALe.refl _ _) (.nil))))))⟩
            · rintro _ j90 fr' h' hk92 hm le
              refine H75 _ _ (le.aw ?_)
              clear le H75 K75
              refine AW_reg ?_
              refine s_v (o_mv (.sc (.int _ _)) rfl) ?_
              refine s_v (o_bi rfl rfl rfl trivial) ?_
              refine s_v (o_as (.sc (.int _ _)) rfl) ?_
              refine s_nil ?_
              cases hm
              exact ⟨rfl, (), hk92, LeF.fm (Sub.refl _) (.cons (ALe.refl _ _) (.cons (ALe.refl _ _) (.cons (ALe.refl _ _) (.cons (ALe.refl _ _) (.cons (ALe.refl _ _) (.nil))))))⟩
        · replace hm := ite_f hm hc74
          refine AW_exit ?_
          refine Seq_exit ?_
          cases hm
          exact ⟨rfl, (), hk71, LeF.fm (Sub.refl _) (.cons (ALe.refl _ _) (.cons (ALe.refl _ _) (.cons (ALe.refl _ _) (.cons (ALe.refl _ _) (.cons (ALe.refl _ _) (.nil))))))⟩
      · rintro _ ⟨r93, r94⟩ fr' h' hk95 hm le
        refine H23 _ _ (le.aw ?_)
        clear le H23 K23
        refine AW_k fun K96 H96 => ?_
        refine AW_k fun K97 H97 => ?_
        refine AW_joinG (n := 87) hm (σ := Bool) (τ := Unit) (fun g s => HOk h [(some k12, .obj 27 (c_Catalog y10.1))]) (fun g s => kp (kp (kp (kp (kp (k0) 47 (.sc (.bool s))) 6 (.sc (.int .i64 r93))) 5 (.sc (.int .i64 y10.2))) 4 (.ptr k12 0)) 0 (.sl none 1 (List.map c_i64 p0))) (fun g s => hp h [(some k12, .obj 27 (c_Catalog y10.1))]) (fun x hm => ?_) ?_
        · refine AW_reg ?_
          refine s_v (o_mv (.sl _ _ _) rfl) ?_
          refine s_v (o_lenm ln28 rfl) ?_
          refine s_v (o_bi rfl rfl rfl trivial) ?_
          refine s_v (o_mv (.sc (.bool _)) rfl) ?_
          rcases Bool.eq_false_or_eq_true (decide ((p0.length : Int) < 1)) with hb100 | hb100
          · replace hm := ite_t hm hb100
            refine sg_n rfl rfl hb100 ?_
            refine sg_n rfl rfl hb100 ?_
            refine sg_n rfl rfl hb100 ?_
            refine s_v (o_pkt (.sc (.bool _)) rfl hb100 rfl) ?_
            refine s_nil ?_
            cases hm
            exact ⟨rfl, (), hk95, LeF.fm (Sub.refl _) (.cons (ALe.refl _ _) (.cons (ALe.refl _ _) (.cons (ALe.refl _ _) (.cons (ALe.refl _ _) (.cons (ALe.refl _ _) (.nil))))))⟩
          · replace hm := ite_f hm hb100
            refine sg_y rfl rfl hb100 ?_
            refine s_v (o_mv (.sl _ _ _) rfl) ?_
            refine sg_y rfl rfl hb100 ?_
            refine s_v (o_lenm ln28 rfl) ?_
            refine sg_y rfl rfl hb100 ?_
            refine s_v (o_bi rfl rfl rfl trivial) ?_
            refine s_v (o_pkf (.sc (.bool _)) rfl hb100 rfl) ?_
            refine s_nil ?_
            cases hm
            exact ⟨rfl, (), hk95, LeF.fm (Sub.refl _) (.cons (ALe.refl _ _) (.cons (ALe.refl _ _) (.cons (ALe.refl _ _) (.cons (ALe.refl _ _) (.cons (ALe.refl _ _) (.nil))))))⟩
        · rintro _ j99 fr' h' hk101 hm le
          refine H97 _ _ (le.aw ?_)
          clear le H97 K97
          refine AW_joinG (n := 87) hm (σ := Int) (τ := Unit) (fun g s => HOk h [(some k12, .obj 27 (c_Catalog y10.1))]) (fun g s => kp (kp (kp (kp (k0) 6 (.sc (.int .i64 s))) 5 (.sc (.int .i64 y10.2))) 4 (.ptr k12 0)) 0 (.sl none 1 (List.map c_i64 p0))) (fun g s => hp h [(some k12, .obj 27 (c_Catalog y10.1))]) (fun x hm => ?_) ?_
          · refine AW_if' rfl (fun hc104 => ?_) (fun hc104 => ?_)
            · replace hm := ite_t hm hc104
              refine AW_reg ?_
              refine s_v (o_as (.sc (.int _ _)) rfl) ?_
              refine s_nil ?_
              cases hm
              exact ⟨rfl, (), hk101, LeF.fm (Sub.refl _) (.cons (ALe.refl _ _) (.cons (ALe.refl _ _) (.cons (ALe.refl _ _) (.cons (ALe.refl _ _) (.nil)))))⟩
            · replace hm := ite_f hm hc104
              refine AW_skip ?_
              cases hm
              exact ⟨rfl, (), hk101, LeF.fm (Sub.refl _) (.cons (ALe.refl _ _) (.cons (ALe.refl _ _) (.cons (ALe.refl _ _) (.cons (ALe.refl _ _) (.nil)))))⟩
          · rintro _ j103 fr' h' hk105 hm le
            refine H96 _ _ (le.aw ?_)
            clear le H96 K96
            refine AW_k fun K106 H106 => ?_
            refine AW_k fun K107 H107 => ?_
            refine AW_reg ?_
            refine s_v (o_mv (.sc (.int _ _)) rfl) ?_
            refine s_v (o_bi rfl rfl rfl trivial) ?_
            refine s_nil ?_
            refine H107 _ _ ?_
            clear H107 K107
            refine AW_if' rfl (fun hc108 => ?_) (fun hc108 => ?_)
            · replace hm := ite_t hm hc108
              refine AW_k fun K109 H109 => ?_
              refine AW_joinG (n := 87) hm (σ := Bool) (τ := Unit) (fun g s => HOk h [(some k12, .obj 27 (c_Catalog y10.1))]) (fun g s => kp (k0) 2 (.sc (.bool s))) (fun g s => hp h [(some k12, .obj 27 (c_Catalog y10.1))]) (fun x hm => ?_) ?_
              · refine AW_reg ?_
                refine s_v (o_mv (.sc (.int _ _)) rfl) ?_
                refine s_v (o_mv (.sc (.int _ _)) rfl) ?_
                refine s_v (o_bi rfl rfl rfl trivial) ?_
                refine s_v (o_mv (.sc (.bool _)) rfl) ?_
                rcases Bool.eq_false_or_eq_true (y10.2 == j103) with hb118 | hb118
                · replace hm := ite_t hm hb118
                  refine sg_y rfl rfl hb118 ?_
                  refine s_v (o_ldp (.agg (c_Catalog y10.1)) ld27 rfl (hp_get 0 hk105 rfl) rfl) ?_
                  refine sg_y rfl rfl hb118 ?_
                  refine s_v (o_bld ([.sc (.int .i64 0), .sc (.slice none 0 0), .sc (.slice none 0 0), .sc (.slice none 0 0), .sc (.slice none 0 0)]) bt27 rfl) ?_
                  refine sg_y rfl rfl hb118 ?_
                  obtain ⟨y119, hy120, hm⟩ := bind_of hm
                  refine s_v (o_call (ACalls_le (.cons (ALe.refl _ _) (.cons (ALe.agg (.cons (ALe.refl _ _) (.cons (nil_lem _) (.cons (nil_lem _) (.cons (nil_lem _) (.cons (nil_lem _) (.nil))))))) (.nil))) (W17 _ hy120)) rfl bd17 rfl) ?_
                  refine s_v (o_pkt (.sc (.bool _)) rfl hb118 rfl) ?_
                  refine s_v (o_mv (.sc (.bool _)) rfl) ?_
                  rcases Bool.eq_false_or_eq_true y119 with hb121 | hb121
                  · replace hm := ite_t hm hb121
                    refine sg_y rfl rfl hb121 ?_
                    refine s_v (o_flp fd27_0 rfl rfl) ?_
                    refine sg_y rfl rfl hb121 ?_
                    refine s_v (o_ldp (.sc (.int .i64 y10.1.Seq)) ld3 rfl (hp_get 0 hk105 rfl) rfl) ?_
                    refine sg_y rfl rfl hb121 ?_
                    refine s_v (o_bi rfl rfl rfl trivial) ?_
                    refine s_v (o_pkt (.sc (.bool _)) rfl hb121 rfl) ?_
                    refine s_v (o_mv (.sc (.bool _)) rfl) ?_
                    rcases Bool.eq_false_or_eq_true (y10.1.Seq == 0) with hb122 | hb122
                    · replace hm := ite_t hm hb122
                      refine sg_y rfl rfl hb122 ?_
                      obtain ⟨y123, hy124, hm⟩ := bind_of hm
                      refine s_v (o_call (W31 _ hy124) rfl bd31 rfl) ?_
                      refine s_v (o_pkt (.sc (.bool _)) rfl hb122 rfl) ?_
                      refine s_v (o_as (.sc (.bool _)) rfl) ?_
                      refine s_nil ?_
                      cases hm
                      exact ⟨rfl, (), hk105, LeF.fm (Sub.refl _) (.cons (ALe.refl _ _) (.nil))⟩
                    · replace hm := ite_f hm hb122
                      refine sg_n rfl rfl hb122 ?_
                      refine s_v (o_pkf (.sc (.bool _)) rfl hb122 rfl) ?_
                      refine s_v (o_as (.sc (.bool _)) rfl) ?_
                      refine s_nil ?_
                      cases hm
                      exact ⟨rfl, (), hk105, LeF.fm (Sub.refl _) (.cons (ALe.refl _ _) (.nil))⟩
                  · replace hm := ite_f hm hb121
                    refine sg_n rfl rfl hb121 ?_
                    refine sg_n rfl rfl hb121 ?_
                    refine sg_n rfl rfl hb121 ?_
                    refine s_v (o_pkf (.sc (.bool _)) rfl hb121 rfl) ?_
                    refine s_v (o_mv (.sc (.bool _)) rfl) ?_
                    refine sg_n rfl rfl rfl ?_
                    refine s_v (o_pkf (.sc (.bool _)) rfl rfl rfl) ?_
                    refine s_v (o_as (.sc (.bool _)) rfl) ?_
                    refine s_nil ?_
                    cases hm
                    exact ⟨rfl, (), hk105, LeF.fm (Sub.refl _) (.cons (ALe.refl _ _) (.nil))⟩
                · replace hm := ite_f hm hb118
                  refine sg_n rfl rfl hb118 ?_
                  refine sg_n rfl rfl hb118 ?_
                  refine sg_n rfl rfl hb118 ?_
                  refine s_v (o_pkf (.sc (.bool _)) rfl hb118 rfl) ?_
                  refine s_v (o_mv (.sc (.bool _)) rfl) ?_
                  refine sg_n rfl rfl rfl ?_
                  refine sg_n rfl rfl rfl ?_
                  refine sg_n rfl rfl rfl ?_
                  refine s_v (o_pkf (.sc (.bool _)) rfl rfl rfl) ?_
                  refine s_v (o_mv (.sc (.bool _)) rfl) ?_
                  refine sg_n rfl rfl rfl ?_
                  refine s_v (o_pkf (.sc (.bool _)) rfl rfl rfl) ?_
                  refine s_v (o_as (.sc (.bool _)) rfl) ?_
                  refine s_nil ?_
                  cases hm
                  exact ⟨rfl, (), hk105, LeF.fm (Sub.refl _) (.cons (ALe.refl _ _) (.nil))⟩
              · rintro _ j117 fr' h' hk125 hm le
                refine H109 _ _ (le.aw ?_)
                clear le H109 K109
                refine AW_ret ?_
                cases hm
                exact Ret.of1 (.inl rfl) (rsT _ _ (.sc (.bool _)) rfl) (hp_sub (List.nil_sublist _) hk125).1 (ALe.refl _ _) ⟨rfl, rfl⟩
            · replace hm := ite_f hm hc108
              refine AW_skip ?_
              refine H106 _ _ ?_
              clear H106 K106
              refine AW_k fun K126 H126 => ?_
              refine AW_joinG (n := 87) hm (σ := Bool) (τ := Unit) (fun g s => HOk h [(some k12, .obj 27 (c_Catalog y10.1))]) (fun g s => kp (k0) 2 (.sc (.bool s))) (fun g s => hp h [(some k12, .obj 27 (c_Catalog y10.1))]) (fun x hm => ?_) ?_
              · refine AW_region_q [(some 66, [5], []), (some 67, [66], [0]), (some 68, [67], [1]), (some 69, [4, 68], [2]), (some 70, [0, 68], [2]), (some 71, [70, 68], [4, 2, 2]), (some 72, [69, 71, 68], [3, 5, 5, 2]), (some 73, [68, 72], [2, 6]), (some 74, [73], [7, 6]), (some 75, [4, 74], [8]), (some 76, [75, 74], [9, 8]), (some 77, [76, 74], [10, 8]), (some 78, [74, 77], [8, 11]), (some 79, [78], [12, 8]), (some 80, [4, 79], [13]), (some 81, [80, 79], [14, 13, 13]), (some 82, [81, 79], [15, 13]), (some 83, [79, 82], [13, 16]), (some 84, [83], [17, 15]), (some 85, [84], [18, 18]), (some 86, [84, 85], [18, 19]), (some 2, [86], [20, 19, 0, 1, 2, 3, 4, 5, 6, 7, 8, 9, 10, 11, 12, 13, 14, 15, 16, 17, 18, 19, 20])] mixed (by kernel_rfl) (by kernel_rfl) ?_
                refine q_v (o_mv (.sc (.int _ _)) rfl) ?_
                refine q_v (o_bi rfl rfl rfl trivial) ?_
                refine q_v (o_mv (.sc (.bool _)) rfl) ?_
                rcases Bool.eq_false_or_eq_true (y10.2 == 0) with hb140 | hb140
                · replace hm := ite_t hm hb140
                  refine qg_y rfl rfl hb140 ?_
                  refine q_v (o_ldp (.agg (c_Catalog y10.1)) ld27 rfl (hp_get 0 hk105 rfl) rfl) ?_
                  refine qg_y rfl rfl hb140 ?_
                  refine q_v (o_mv (.sl _ _ _) rfl) ?_
                  refine qg_y rfl rfl hb140 ?_
                  obtain ⟨y141, hy142, hm⟩ := bind_of hm
                  refine q_v (o_call (W32 _ hy142) rfl bd32 rfl) ?_
                  refine qg_y rfl rfl hb140 ?_
                  obtain ⟨y143, hy144, hm⟩ := bind_of hm
                  refine q_v (o_call (W17 _ hy144) rfl bd17 rfl) ?_
                  refine q_v (o_pkt (.sc (.bool _)) rfl hb140 rfl) ?_
                  refine q_v (o_mv (.sc (.bool _)) rfl) ?_
                  rcases Bool.eq_false_or_eq_true y143 with hb145 | hb145
                  · replace hm := ite_t hm hb145
                    refine qg_y rfl rfl hb145 ?_
                    refine q_v (o_flp fd27_0 rfl rfl) ?_
                    refine qg_y rfl rfl hb145 ?_
                    refine q_v (o_ldp (.sc (.int .i64 y10.1.Seq)) ld3 rfl (hp_get 0 hk105 rfl) rfl) ?_
                    refine qg_y rfl rfl hb145 ?_
                    refine q_v (o_bi rfl rfl rfl trivial) ?_
                    refine q_v (o_pkt (.sc (.bool _)) rfl hb145 rfl) ?_
                    refine q_v (o_mv (.sc (.bool _)) rfl) ?_
                    rcases Bool.eq_false_or_eq_true (y10.1.Seq == 0) with hb146 | hb146
                    · replace hm := ite_t hm hb146
                      refine qg_y rfl rfl hb146 ?_
                      refine q_v (o_ldp (.agg (c_Catalog y10.1)) ld27 rfl (hp_get 0 hk105 rfl) rfl) ?_
                      refine qg_y rfl rfl hb146 ?_
                      obtain ⟨y147, hy148, hm⟩ := bind_of hm
                      refine q_v (o_call (W33 _ hy148) rfl bd33 rfl) ?_
                      refine qg_y rfl rfl hb146 ?_
                      refine q_v (o_bi rfl rfl rfl trivial) ?_
                      refine q_v (o_pkt (.sc (.bool _)) rfl hb146 rfl) ?_
                      refine q_v (o_mv (.sc (.bool _)) rfl) ?_
                      rcases Bool.eq_false_or_eq_true (y147 == 0) with hb149 | hb149
                      · replace hm := ite_t hm hb149
                        refine qg_y rfl rfl hb149 ?_
                        obtain ⟨y150, hy151, hm⟩ := bind_of hm
                        refine q_v (o_call (W31 _ hy151) rfl bd31 rfl) ?_
                        refine q_v (o_pkt (.sc (.bool _)) rfl hb149 rfl) ?_
                        refine q_v (o_as (.sc (.bool _)) rfl) ?_
                        refine q_nil ?_
                        cases hm
                        exact ⟨rfl, (), hk105, LeF.fm (Sub.refl _) (.cons (ALe.refl _ _) (.nil))⟩
                      · replace hm := ite_f hm hb149
                        refine qg_n rfl rfl hb149 ?_
                        refine q_v (o_pkf (.sc (.bool _)) rfl hb149 rfl) ?_
                        refine q_v (o_as (.sc (.bool _)) rfl) ?_
                        refine q_nil ?_
                        cases hm
                        exact ⟨rfl, (), hk105, LeF.fm (Sub.refl _) (.cons (ALe.refl _ _) (.nil))⟩
                    · replace hm := ite_f hm hb146
                      refine qg_n rfl rfl hb146 ?_
                      refine qg_n rfl rfl hb146 ?_
                      refine qg_n rfl rfl hb146 ?_
                      refine q_v (o_pkf (.sc (.bool _)) rfl hb146 rfl) ?_
                      refine q_v (o_mv (.sc (.bool _)) rfl) ?_
                      refine qg_n rfl rfl rfl ?_
                      refine q_v (o_pkf (.sc (.bool _)) rfl rfl rfl) ?_
                      refine q_v (o_as (.sc (.bool _)) rfl) ?_
                      refine q_nil ?_
                      cases hm
                      exact ⟨rfl, (), hk105, LeF.fm (Sub.refl _) (.cons (ALe.refl _ _) (.nil))⟩
                  · replace hm := ite_f hm hb145
                    refine qg_n rfl rfl hb145 ?_
                    refine qg_n rfl rfl hb145 ?_
                    refine qg_n rfl rfl hb145 ?_
                    refine q_v (o_pkf (.sc (.bool _)) rfl hb145 rfl) ?_
                    refine q_v (o_mv (.sc (.bool _)) rfl) ?_
                    refine qg_n rfl rfl rfl ?_
                    refine qg_n rfl rfl rfl ?_
                    refine qg_n rfl rfl rfl ?_
                    refine q_v (o_pkf (.sc (.bool _)) rfl rfl rfl) ?_
                    refine q_v (o_mv (.sc (.bool _)) rfl) ?_
                    refine qg_n rfl rfl rfl ?_
                    refine q_v (o_pkf (.sc (.bool _)) rfl rfl rfl) ?_
                    refine q_v (o_as (.sc (.bool _)) rfl) ?_
                    refine q_nil ?_
                    cases hm
                    exact ⟨rfl, (), hk105, LeF.fm (Sub.refl _) (.cons (ALe.refl _ _) (.nil))⟩
                · replace hm := ite_f hm hb140
                  refine qg_n rfl rfl hb140 ?_
                  refine qg_n rfl rfl hb140 ?_
                  refine qg_n rfl rfl hb140 ?_
                  refine qg_n rfl rfl hb140 ?_
                  refine q_v (o_pkf (.sc (.bool _)) rfl hb140 rfl) ?_
                  refine q_v (o_mv (.sc (.bool _)) rfl) ?_
                  refine qg_n rfl rfl rfl ?_
                  refine qg_n rfl rfl rfl ?_
                  refine qg_n rfl rfl rfl ?_
                  refine q_v (o_pkf (.sc (.bool _)) rfl rfl rfl) ?_
                  refine q_v (o_mv (.sc (.bool _)) rfl) ?_
                  refine qg_n rfl rfl rfl ?_
                  refine qg_n rfl rfl rfl ?_
                  refine qg_n rfl rfl rfl ?_
                  refine q_v (o_pkf (.sc (.bool _)) rfl rfl rfl) ?_
                  refine q_v (o_mv (.sc (.bool _)) rfl) ?_
                  refine qg_n rfl rfl rfl ?_
                  refine q_v (o_pkf (.sc (.bool _)) rfl rfl rfl) ?_
                  refine q_v (o_as (.sc (.bool _)) rfl) ?_
                  refine q_nil ?_
                  cases hm
                  exact ⟨rfl, (), hk105, LeF.fm (Sub.refl _) (.cons (ALe.refl _ _) (.nil))⟩
              · rintro _ j139 fr' h' hk152 hm le
                refine H126 _ _ (le.aw ?_)
                clear le H126 K126
                refine AW_ret ?_
                cases hm
                exact Ret.of1 (.inl rfl) (rsT _ _ (.sc (.bool _)) rfl) (hp_sub (List.nil_sublist _) hk152).1 (ALe.refl _ _) ⟨rfl, rfl⟩
end Go.Proofs.Ytoomgangpjcaoaa
