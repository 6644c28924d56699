import Derived.Test.YtoomgangpjcaoaaK7Wd
import Derived.Test.YtoomgangpjcaoaaK7We
import Derived.Test.YtoomgangpjcaoaaK7Wf
import Derived.Test.YtoomgangpjcaoaaK7Wg
set_option linter.unusedSimpArgs false
set_option linter.unusedVariables false
namespace Go.Proofs.Ytoomgangpjcaoaa
open Go.Vm
def M117 (fuel : Nat) (p0 : Int) : Option (Int) :=
  grd (decide (0 ≤ (IntKind.wrap .i64 (8 * p0)))) <| some (IntKind.wrap .i64 (1 * 2 ^ (min ((IntKind.wrap .i64 (8 * p0)) : Int).toNat (IntKind.bits .i64))))
set_option maxHeartbeats 4000000 in
set_option maxRecDepth 100000 in
/-- cellarer/bin.room -/
theorem W117 {fuel : Nat} {p0 : Int} {o : Int} (h : Heap) (hm : M117 fuel p0 = some o) :
    ACalls Try.prog 117 [.sc (.int .i64 p0)] h (fun r h' => r = .sc (.int .i64 o) ∧ h' = h) := by
  refine ACalls_hp 6 [.tmp 2] Try.func117 rfl rfl rfl rfl ?_
  unfold M117 at hm
  refine AW_k fun K1 H1 => ?_
  refine AW_reg ?_
  refine s_v (o_as (.sc (.int _ _)) rfl) ?_
  refine s_nil ?_
  refine H1 _ _ ?_
  clear H1 K1
  refine AW_k fun K2 H2 => ?_
  refine AW_reg ?_
  refine s_v (o_mv (.sc (.int _ _)) rfl) ?_
  refine s_v (o_bi rfl rfl rfl trivial) ?_
  obtain ⟨hz3, hm⟩ := grd_of hm
  refine s_v (o_sh rfl rfl rfl (of_decide_eq_true hz3)) ?_
  refine s_v (o_as (.sc (.int _ _)) rfl) ?_
  refine s_nil ?_
  refine H2 _ _ ?_
  clear H2 K2
  refine AW_ret ?_
  cases hm
  exact Ret.of1 (.inl rfl) (rsT _ _ (.sc (.int _ _)) rfl) (Sub.refl _) (ALe.refl _ _) ⟨rfl, rfl⟩
theorem bd117 : bodied Try.prog 117 = true := by kernel_rfl
def M74t_L0 (fuel : Nat) (p1 : Int) (q51 : List Int) (q54 : Int) : Option (Lp ((List Int) × Int) ((List Int) × Int)) :=
  if (decide (0 ≤ q54)) = true then (grd (decide (0 ≤ (IntKind.wrap .i64 (8 * q54)))) <| (app q51 ([IntKind.wrap .u8 (p1.fdiv (2 ^ (min ((IntKind.wrap .i64 (8 * q54)) : Int).toNat (IntKind.bits .i64))))] : List Int)).bind fun z61 => some (.go (z61, IntKind.wrap .i64 (q54 - 1)))) else some (.brk (q51, q54))
def M74t (fuel : Nat) (p0 : List Int) (p1 : Int) (p2 : Int) : Option ((List Int) × Int) :=
  after (if (decide (p2 < 1)) = true then (some (.brk true)) else if (decide (7 < p2)) = true then (some (.brk true)) else if (decide (p1 < 0)) = true then (some (.brk true)) else (M117 fuel p2).bind fun y13 => some (.brk (decide (y13 ≤ p1))) : Option (Lp (Bool) ((List Int) × Int))) fun j9 => if j9 = true then (some (([] : List Int), 1)) else (M77 fuel p0).bind fun y19 => after (loopM (fun s => M74t_L0 fuel p1 s.1 s.2) fuel (y19, IntKind.wrap .i64 (p2 - 1))) fun ⟨r66, r67⟩ => some (r66, 0)
set_option maxHeartbeats 4000000 in
set_option maxRecDepth 100000 in
/-- cellarer/bin.Put -/
theorem W74t {fuel : Nat} {p0 : List Int} {p1 : Int} {p2 : Int} {o : (List Int) × Int} (h : Heap) (hm : M74t fuel p0 p1 p2 = some o) :
    ACalls Try.prog 74 [.sl none 1 (List.map c_u8 p0), .sc (.int .i64 p1), .sc (.int .i64 p2)] h (fun r h' => ∃ t : Option Key, (t = none → o.1 = []) ∧ HOk h [(t, .tok 5 1 ((o.1 : List Int).length * 1))] ∧ r = .tup [ow t 1 (List.map c_u8 o.1), .sc (.int .i64 o.2)] ∧ h' = hp h [(t, .tok 5 1 ((o.1 : List Int).length * 1))]) := by
  refine ACalls_hp 43 [.tmp 6, .tmp 7] Try.func74 rfl rfl rfl rfl ?_
  unfold M74t at hm
  refine AW_k fun K1 H1 => ?_
  refine AW_reg ?_
  refine s_v (o_as (.sc (.slice _ _ _)) rfl) ?_
  refine s_v (o_as (.sc (.int _ _)) rfl) ?_
  refine s_nil ?_
  refine H1 _ _ ?_
  clear H1 K1
  refine AW_k fun K2 H2 => ?_
  refine AW_k fun K3 H3 => ?_
  refine AW_joinG (n := 43) hm (σ := Bool) (τ := Unit) (fun g s => HOk h []) (fun g s => kp (kp (kp (kp (k0) 25 (.sc (.bool s))) 2 (.sc (.int .i64 p2))) 1 (.sc (.int .i64 p1))) 0 (.sl none 1 (List.map c_u8 p0))) (fun g s => hp h []) (fun x hm => ?_) ?_
  · refine AW_reg ?_
    refine s_v (o_mv (.sc (.int _ _)) rfl) ?_
    refine s_v (o_bi rfl rfl rfl trivial) ?_
    refine s_v (o_mv (.sc (.bool _)) rfl) ?_
    rcases Bool.eq_false_or_eq_true (decide (p2 < 1)) with hb10 | hb10
    · replace hm := ite_t hm hb10
      refine sg_n rfl rfl hb10 ?_
      refine sg_n rfl rfl hb10 ?_
      refine s_v (o_pkt (.sc (.bool _)) rfl hb10 rfl) ?_
      refine s_v (o_mv (.sc (.bool _)) rfl) ?_
      refine sg_n rfl rfl rfl ?_
      refine sg_n rfl rfl rfl ?_
      refine s_v (o_pkt (.sc (.bool _)) rfl rfl rfl) ?_
      refine s_v (o_mv (.sc (.bool _)) rfl) ?_
      refine sg_n rfl rfl rfl ?_
      refine sg_n rfl rfl rfl ?_
      refine sg_n rfl rfl rfl ?_
      refine sg_n rfl rfl rfl ?_
      refine s_v (o_pkt (.sc (.bool _)) rfl rfl rfl) ?_
      refine s_nil ?_
      cases hm
      exact ⟨rfl, (), HOk.nil _, LeF.fm (Sub.refl _) (.cons (ALe.refl _ _) (.cons (ALe.refl _ _) (.cons (ALe.refl _ _) (.cons (ALe.refl _ _) (.nil)))))⟩
    · replace hm := ite_f hm hb10
      refine sg_y rfl rfl hb10 ?_
      refine s_v (o_mv (.sc (.int _ _)) rfl) ?_
      refine sg_y rfl rfl hb10 ?_
      refine s_v (o_bi rfl rfl rfl trivial) ?_
      refine s_v (o_pkf (.sc (.bool _)) rfl hb10 rfl) ?_
      refine s_v (o_mv (.sc (.bool _)) rfl) ?_
      rcases Bool.eq_false_or_eq_true (decide (7 < p2)) with hb11 | hb11
      · replace hm := ite_t hm hb11
        refine sg_n rfl rfl hb11 ?_
        refine sg_n rfl rfl hb11 ?_
        refine s_v (o_pkt (.sc (.bool _)) rfl hb11 rfl) ?_
        refine s_v (o_mv (.sc (.bool _)) rfl) ?_
        refine sg_n rfl rfl rfl ?_
        refine sg_n rfl rfl rfl ?_
        refine sg_n rfl rfl rfl ?_
        refine sg_n rfl rfl rfl ?_
        refine s_v (o_pkt (.sc (.bool _)) rfl rfl rfl) ?_
        refine s_nil ?_
        cases hm
        exact ⟨rfl, (), HOk.nil _, LeF.fm (Sub.refl _) (.cons (ALe.refl _ _) (.cons (ALe.refl _ _) (.cons (ALe.refl _ _) (.cons (ALe.refl _ _) (.nil)))))⟩
      · replace hm := ite_f hm hb11
        refine sg_y rfl rfl hb11 ?_
        refine s_v (o_mv (.sc (.int _ _)) rfl) ?_
        refine sg_y rfl rfl hb11 ?_
        refine s_v (o_bi rfl rfl rfl trivial) ?_
        refine s_v (o_pkf (.sc (.bool _)) rfl hb11 rfl) ?_
        refine s_v (o_mv (.sc (.bool _)) rfl) ?_
        rcases Bool.eq_false_or_eq_true (decide (p1 < 0)) with hb12 | hb12
        · replace hm := ite_t hm hb12
          refine sg_n rfl rfl hb12 ?_
          refine sg_n rfl rfl hb12 ?_
          refine sg_n rfl rfl hb12 ?_
          refine sg_n rfl rfl hb12 ?_
          refine s_v (o_pkt (.sc (.bool _)) rfl hb12 rfl) ?_
          refine s_nil ?_
          cases hm
          exact ⟨rfl, (), HOk.nil _, LeF.fm (Sub.refl _) (.cons (ALe.refl _ _) (.cons (ALe.refl _ _) (.cons (ALe.refl _ _) (.cons (ALe.refl _ _) (.nil)))))⟩
        · replace hm := ite_f hm hb12
          refine sg_y rfl rfl hb12 ?_
          refine s_v (o_mv (.sc (.int _ _)) rfl) ?_
          refine sg_y rfl rfl hb12 ?_
          refine s_v (o_mv (.sc (.int _ _)) rfl) ?_
          refine sg_y rfl rfl hb12 ?_
          obtain ⟨y13, hy14, hm⟩ := bind_of hm
          refine s_v (o_call (W117 _ hy14) rfl bd117 rfl) ?_
          refine sg_y rfl rfl hb12 ?_
          refine s_v (o_bi rfl rfl rfl trivial) ?_
          refine s_v (o_pkf (.sc (.bool _)) rfl hb12 rfl) ?_
          refine s_nil ?_
          cases hm
          exact ⟨rfl, (), HOk.nil _, LeF.fm (Sub.refl _) (.cons (ALe.refl _ _) (.cons (ALe.refl _ _) (.cons (ALe.refl _ _) (.cons (ALe.refl _ _) (.nil)))))⟩
  · rintro _ j9 fr' h' hk15 hm le
    refine H3 _ _ (le.aw ?_)
    clear le H3 K3
    refine AW_if' rfl (fun hc16 => ?_) (fun hc16 => ?_)
    · replace hm := ite_t hm hc16
      refine AW_k fun K17 H17 => ?_
      refine AW_reg ?_
      refine s_v (o_as (.sc (.slice _ _ _)) rfl) ?_
      refine s_v (o_as (.sc (.int _ _)) rfl) ?_
      refine s_nil ?_
      refine H17 _ _ ?_
      clear H17 K17
      refine AW_ret ?_
      have hmo := Option.some.inj hm; subst hmo
      exact Ret.of2 (.inl rfl) (rsT _ _ (.sc (.slice _ _ _)) rfl) (rsT _ _ (.sc (.int _ _)) rfl) (Sub.refl _) (ow_nil _ _) (ALe.refl _ _) ⟨none, fun _ => rfl, HOk.none (HOk.nil _), rfl, rfl⟩
    · replace hm := ite_f hm hc16
      refine AW_skip ?_
      refine H2 _ _ ?_
      clear H2 K2
      refine AW_k fun K18 H18 => ?_
      refine AW_reg ?_
      refine s_v (o_mv (.sl _ _ _) rfl) ?_
      obtain ⟨y19, hy20, hm⟩ := bind_of hm
      refine s_op (a_call (W77 _ hy20) rfl bd77 rfl ?_)
      rintro x h' ⟨tg21, ot22, hk23, rfl, rfl⟩
      rw [hp_cat]
      refine s_v (o_as (ow _ _ _) rfl) ?_
      refine s_nil ?_
      refine H18 _ _ ?_
      clear H18 K18
      refine AW_k fun K25 H25 => ?_
      refine AW_k fun K26 H26 => ?_
      refine AW_reg ?_
      refine s_v (o_mv (.sc (.int _ _)) rfl) ?_
      refine s_v (o_bi rfl rfl rfl trivial) ?_
      refine s_v (o_as (.sc (.int _ _)) rfl) ?_
      refine s_nil ?_
      refine H26 _ _ ?_
      clear H26 K26
      refine AW_loopG (n := 43) hm (σ := (List Int) × Int) (τ := Option Key) (fun g s => HOk h [(g, .tok 5 1 ((s.1 : List Int).length * 1))] ∧ (g = none → s.1 = [])) (fun g s => kp (kp (kp (k0) 9 (.sc (.int .i64 s.2))) 8 (ow g 1 (List.map c_u8 s.1))) 1 (.sc (.int .i64 p1))) (fun g s => hp h [(g, .tok 5 1 ((s.1 : List Int).length * 1))]) tg21 (⟨(HOk.co hk15 hk23), ot22⟩) (LeF.fm (Sub.refl _) (.cons (ALe.refl _ _) (.cons (ALe.refl _ _) (.cons (ALe.refl _ _) (.nil))))) ?_ ?_
      · rintro tg52 ⟨q51, q54⟩ x ⟨hk55, ot53⟩ hm
        replace hm : M74t_L0 fuel p1 q51 q54 = some x := hm
        unfold M74t_L0 at hm
        refine AW_k fun K56 H56 => ?_
        refine AW_k fun K57 H57 => ?_
        refine AW_reg ?_
        refine s_v (o_mv (.sc (.int _ _)) rfl) ?_
        refine s_v (o_bi rfl rfl rfl trivial) ?_
        refine s_nil ?_
        refine H57 _ _ ?_
        clear H57 K57
        refine AW_if' rfl (fun hc58 => ?_) (fun hc58 => ?_)
        · replace hm := ite_t hm hc58
          refine AW_skip ?_
          refine H56 _ _ ?_
          clear H56 K56
          refine AW_k fun K59 H59 => ?_
          refine AW_block ?_
          refine AW_reg ?_
          refine s_v (o_mv (ow _ _ _) rfl) ?_
          refine s_v (o_mv (.sc (.int _ _)) rfl) ?_
          refine s_v (o_mv (.sc (.int _ _)) rfl) ?_
          refine s_v (o_bi rfl rfl rfl trivial) ?_
          obtain ⟨hz60, hm⟩ := grd_of hm
          refine s_v (o_sh rfl rfl rfl (of_decide_eq_true hz60)) ?_
          refine s_v (o_cv ti3 ti5 rfl) ?_
          refine s_v (o_lit (List.map c_u8 ([IntKind.wrap .u8 (p1.fdiv (2 ^ (min ((IntKind.wrap .i64 (8 * q54)) : Int).toNat (IntKind.bits .i64))))] : List Int)) et52 rfl rfl rfl rfl) ?_
          obtain ⟨z61, hz62, hm⟩ := bind_of hm
          refine s_op (a_app (c := c_u8) 0 hz62 et52 rfl rfl rfl ot53 hk55 rfl fun tg63 ot64 hk65 => ?_)
          refine s_v (o_as (ow _ _ _) rfl) ?_
          refine s_nil ?_
          refine H59 _ _ ?_
          clear H59 K59
          refine AW_reg ?_
          refine s_v (o_mv (.sc (.int _ _)) rfl) ?_
          refine s_v (o_bi rfl rfl rfl trivial) ?_
          refine s_v (o_as (.sc (.int _ _)) rfl) ?_
          refine s_nil ?_
          cases hm
          exact ⟨rfl, tg63, ⟨hk65, ot64⟩, LeF.fm (Sub.refl _) (.cons (ALe.refl _ _) (.cons (ALe.refl _ _) (.cons (ALe.refl _ _) (.nil))))⟩
        · replace hm := ite_f hm hc58
          refine AW_exit ?_
          refine Seq_exit ?_
          cases hm
          exact ⟨rfl, tg52, ⟨hk55, ot53⟩, LeF.fm (Sub.refl _) (.cons (ALe.refl _ _) (.cons (ALe.refl _ _) (.cons (ALe.refl _ _) (.nil))))⟩
      · rintro tg68 ⟨r66, r67⟩ fr' h' ⟨hk70, ot69⟩ hm le
        refine H25 _ _ (le.aw ?_)
        clear le H25 K25
        refine AW_k fun K71 H71 => ?_
        refine AW_reg ?_
        refine s_v (o_mv (ow _ _ _) rfl) ?_
        refine s_v (o_as (ow _ _ _) rfl) ?_
        refine s_v (o_as (.sc (.int _ _)) rfl) ?_
        refine s_nil ?_
        refine H71 _ _ ?_
        clear H71 K71
        refine AW_ret ?_
        have hmo := Option.some.inj hm; subst hmo
        exact Ret.of2 (.inl rfl) (rsT _ _ (ow _ _ _) rfl) (rsT _ _ (.sc (.int _ _)) rfl) (hp_sub (h0 := h) (L' := [(tg68, .tok 5 1 ((r66 : List Int).length * 1))]) (.refl _) hk70).1 (ALe.refl _ _) (ALe.refl _ _) ⟨tg68, ot69, (hp_sub (h0 := h) (L' := [(tg68, .tok 5 1 ((r66 : List Int).length * 1))]) (.refl _) hk70).2, rfl, rfl⟩
theorem bd74 : bodied Try.prog 74 = true := by kernel_rfl
def M75 (fuel : Nat) (p0 : Twriter) (p1 : Int) (p2 : Int) : Option ((List Int)) :=
  (M74t fuel [] p1 p2).bind fun y2 => (app p0.b y2.1).bind fun z8 => some z8
set_option maxHeartbeats 4000000 in
set_option maxRecDepth 100000 in
/-- (*cellarer/catalog.writer).num -/
theorem W75 {fuel : Nat} {p0 : Twriter} {p1 : Int} {p2 : Int} {o : (List Int)} (h : Heap) {p0K : Key} {t_b : Option Key} (ot_b : t_b = none → p0.b = []) (hk0 : HOk h [(some p0K, .obj 116 ([ow t_b 1 (List.map c_u8 p0.b)])), (t_b, .tok 5 1 ((p0.b : List Int).length * 1))]) (hm : M75 fuel p0 p1 p2 = some o) :
    ACalls Try.prog 75 [.ptr p0K 0, .sc (.int .i64 p1), .sc (.int .i64 p2)] (hp h [(some p0K, .obj 116 ([ow t_b 1 (List.map c_u8 p0.b)])), (t_b, .tok 5 1 ((p0.b : List Int).length * 1))]) (fun r h' => ∃ t_b' : Option Key, (t_b' = none → o = []) ∧ HOk h [(some p0K, .obj 116 ([ow t_b' 1 (List.map c_u8 o)])), (t_b', .tok 5 1 ((o : List Int).length * 1))] ∧ r = .tup [] ∧ h' = hp h [(some p0K, .obj 116 ([ow t_b' 1 (List.map c_u8 o)])), (t_b', .tok 5 1 ((o : List Int).length * 1))]) := by
  refine ACalls_fm 23 [] Try.func75 rfl rfl rfl rfl ?_
  unfold M75 at hm
  refine AW_lq ?_
  refine AW_k fun K1 H1 => ?_
  refine AW_reg ?_
  refine s_v (o_mv (.sc (.int _ _)) rfl) ?_
  refine s_v (o_mv (.sc (.int _ _)) rfl) ?_
  obtain ⟨y2, hy3, hm⟩ := bind_of hm
  refine s_op (a_call (ACalls_le (.cons (nil_lem _) (.cons (ALe.refl _ _) (.cons (ALe.refl _ _) (.nil)))) (W74t _ hy3)) rfl bd74 rfl ?_)
  rintro x h' ⟨tg4, ot5, hk6, rfl, rfl⟩
  rw [hp_cat]
  refine s_v (o_mv (.tup _) rfl) ?_
  refine s_v (o_ex (ow _ _ _) rfl rfl) ?_
  refine s_v (o_ex (.sc (.int _ _)) rfl rfl) ?_
  refine s_v (o_as (ow _ _ _) rfl) ?_
  refine s_v (o_as (.sc (.int _ _)) rfl) ?_
  refine s_nil ?_
  refine H1 _ _ ?_
  clear H1 K1
  refine AW_reg ?_
  refine s_v (o_mv (.ptr _ _) rfl) ?_
  refine s_v (o_mv (.ptr _ _) rfl) ?_
  refine s_v (o_nil rfl) ?_
  refine s_v (o_flp fd116_0 rfl rfl) ?_
  refine s_v (o_ldp (ow t_b 1 (List.map c_u8 p0.b)) ld52 rfl (hp_get 1 (HOk.co hk0 hk6) rfl) rfl) ?_
  refine s_v (o_mv (ow _ _ _) rfl) ?_
  obtain ⟨z8, hz9, hm⟩ := bind_of hm
  refine s_op (a_app (c := c_u8) 2 hz9 et52 rfl rfl rfl ot_b (HOk.co hk0 hk6) (srcOf_own ot5) fun tg10 ot11 hk12 => ?_)
  refine s_v (o_nil rfl) ?_
  refine s_v (o_flp fd116_0 rfl rfl) ?_
  refine s_op (a_store 1 ([ow tg10 1 (List.map c_u8 z8)]) hk12 rfl rfl (cellsOf_ow rfl) (all_ow _ _ _) sz52 rfl rfl fun hk13 => ?_)
  refine s_nil ?_
  have hmo := Option.some.inj hm; subst hmo
  exact LqE.mk (LeF.eqh rfl) (Ret.zero (.inr rfl) (Sub_eq (hp_perm ((.trans (.swap _ _ _) (.cons _ (.swap _ _ _))) : List.Perm (α := Option Key × Ent) [(tg4, .tok 5 1 ((y2.1 : List Int).length * 1)), (some p0K, .obj 116 ([ow tg10 1 (List.map c_u8 z8)])), (tg10, .tok 5 1 ((z8 : List Int).length * 1))] ([(some p0K, .obj 116 ([ow tg10 1 (List.map c_u8 z8)])), (tg10, .tok 5 1 ((z8 : List Int).length * 1))] ++ [(tg4, .tok 5 1 ((y2.1 : List Int).length * 1))])) hk13).1 (hp_sub (h0 := h) (L' := [(some p0K, .obj 116 ([ow tg10 1 (List.map c_u8 z8)])), (tg10, .tok 5 1 ((z8 : List Int).length * 1))]) (List.sublist_append_left _ _) (hp_perm ((.trans (.swap _ _ _) (.cons _ (.swap _ _ _))) : List.Perm (α := Option Key × Ent) [(tg4, .tok 5 1 ((y2.1 : List Int).length * 1)), (some p0K, .obj 116 ([ow tg10 1 (List.map c_u8 z8)])), (tg10, .tok 5 1 ((z8 : List Int).length * 1))] ([(some p0K, .obj 116 ([ow tg10 1 (List.map c_u8 z8)])), (tg10, .tok 5 1 ((z8 : List Int).length * 1))] ++ [(tg4, .tok 5 1 ((y2.1 : List Int).length * 1))])) hk13).2).1) ⟨tg10, ot11, (hp_sub (h0 := h) (L' := [(some p0K, .obj 116 ([ow tg10 1 (List.map c_u8 z8)])), (tg10, .tok 5 1 ((z8 : List Int).length * 1))]) (List.sublist_append_left _ _) (hp_perm ((.trans (.swap _ _ _) (.cons _ (.swap _ _ _))) : List.Perm (α := Option Key × Ent) [(tg4, .tok 5 1 ((y2.1 : List Int).length * 1)), (some p0K, .obj 116 ([ow tg10 1 (List.map c_u8 z8)])), (tg10, .tok 5 1 ((z8 : List Int).length * 1))] ([(some p0K, .obj 116 ([ow tg10 1 (List.map c_u8 z8)])), (tg10, .tok 5 1 ((z8 : List Int).length * 1))] ++ [(tg4, .tok 5 1 ((y2.1 : List Int).length * 1))])) hk13).2).2, rfl, rfl⟩)
theorem bd75 : bodied Try.prog 75 = true := by kernel_rfl
def M76_L0 (fuel : Nat) (p1 : List TLoc) (q98 : List Int) (q101 : Int) : Option (Lp ((List Int) × Int) ((List Int))) :=
  if (decide (q101 < (p1.length : Int))) = true then ((ix p1 q101).bind fun x108 => (M75 fuel ({ b := q98 } : Twriter) x108.Vol 1).bind fun y115 => (M75 fuel ({ b := y115 } : Twriter) x108.File 2).bind fun y123 => (M75 fuel ({ b := y123 } : Twriter) x108.Off 3).bind fun y131 => (M75 fuel ({ b := y131 } : Twriter) x108.Len 2).bind fun y138 => some (.go (y138, IntKind.wrap .i64 (q101 + 1)))) else some (.brk (q98, q101))
def M76 (fuel : Nat) (p0 : Twriter) (p1 : List TLoc) : Option ((List Int)) :=
  (M75 fuel ({ b := p0.b } : Twriter) (p1.length : Int) 1).bind fun y2 => after (loopM (fun s => M76_L0 fuel p1 s.1 s.2) fuel (y2, 0)) fun ⟨r145, r146⟩ => some r145
set_option maxHeartbeats 4000000 in
set_option maxRecDepth 100000 in
/-- (*cellarer/catalog.writer).locs -/
theorem W76 {fuel : Nat} {p0 : Twriter} {p1 : List TLoc} {o : (List Int)} (h : Heap) {p0K : Key} {t_b : Option Key} (ot_b : t_b = none → p0.b = []) (hk0 : HOk h [(some p0K, .obj 116 ([ow t_b 1 (List.map c_u8 p0.b)])), (t_b, .tok 5 1 ((p0.b : List Int).length * 1))]) (hm : M76 fuel p0 p1 = some o) :
    ACalls Try.prog 76 [.ptr p0K 0, .sl none 4 (List.map c_Loc p1)] (hp h [(some p0K, .obj 116 ([ow t_b 1 (List.map c_u8 p0.b)])), (t_b, .tok 5 1 ((p0.b : List Int).length * 1))]) (fun r h' => ∃ t_b' : Option Key, (t_b' = none → o = []) ∧ HOk h [(some p0K, .obj 116 ([ow t_b' 1 (List.map c_u8 o)])), (t_b', .tok 5 1 ((o : List Int).length * 1))] ∧ r = .tup [] ∧ h' = hp h [(some p0K, .obj 116 ([ow t_b' 1 (List.map c_u8 o)])), (t_b', .tok 5 1 ((o : List Int).length * 1))]) := by
  refine ACalls_fm 33 [] Try.func76 rfl rfl rfl rfl ?_
  unfold M76 at hm
  refine AW_lq ?_
  refine AW_k fun K1 H1 => ?_
  refine AW_reg ?_
  refine s_v (o_mv (.ptr _ _) rfl) ?_
  refine s_v (o_mv (.sl _ _ _) rfl) ?_
  refine s_v (o_lenm ln58 rfl) ?_
  obtain ⟨y2, hy3, hm⟩ := bind_of hm
  refine s_op (AOp_eqh ((hp_perm (.refl _ : List.Perm (α := Option Key × Ent) [(some p0K, .obj 116 ([ow t_b 1 (List.map c_u8 p0.b)])), (t_b, .tok 5 1 ((p0.b : List Int).length * 1))] ([(some p0K, .obj 116 ([ow t_b 1 (List.map c_u8 p0.b)])), (t_b, .tok 5 1 ((p0.b : List Int).length * 1))] ++ [])) hk0).1.trans (hp_app h [(some p0K, .obj 116 ([ow t_b 1 (List.map c_u8 p0.b)])), (t_b, .tok 5 1 ((p0.b : List Int).length * 1))] []).symm) (a_call (W75 (hp h []) ot_b (HOk_spl [(some p0K, .obj 116 ([ow t_b 1 (List.map c_u8 p0.b)])), (t_b, .tok 5 1 ((p0.b : List Int).length * 1))] [] (hp_perm (.refl _ : List.Perm (α := Option Key × Ent) [(some p0K, .obj 116 ([ow t_b 1 (List.map c_u8 p0.b)])), (t_b, .tok 5 1 ((p0.b : List Int).length * 1))] ([(some p0K, .obj 116 ([ow t_b 1 (List.map c_u8 p0.b)])), (t_b, .tok 5 1 ((p0.b : List Int).length * 1))] ++ [])) hk0).2).2 hy3) rfl bd75 rfl ?_))
  rintro x h' ⟨tg4, ot5, hk6, rfl, rfl⟩
  have hk8 := hp_perm (.refl _ : List.Perm (α := Option Key × Ent) ([(some p0K, .obj 116 ([ow tg4 1 (List.map c_u8 y2)])), (tg4, .tok 5 1 ((y2 : List Int).length * 1))] ++ []) [(some p0K, .obj 116 ([ow tg4 1 (List.map c_u8 y2)])), (tg4, .tok 5 1 ((y2 : List Int).length * 1))]) (HOk_app (HOk_spl [(some p0K, .obj 116 ([ow t_b 1 (List.map c_u8 p0.b)])), (t_b, .tok 5 1 ((p0.b : List Int).length * 1))] [] (hp_perm (.refl _ : List.Perm (α := Option Key × Ent) [(some p0K, .obj 116 ([ow t_b 1 (List.map c_u8 p0.b)])), (t_b, .tok 5 1 ((p0.b : List Int).length * 1))] ([(some p0K, .obj 116 ([ow t_b 1 (List.map c_u8 p0.b)])), (t_b, .tok 5 1 ((p0.b : List Int).length * 1))] ++ [])) hk0).2).1 hk6)
  refine AOps_eqh ((hp_app h [(some p0K, .obj 116 ([ow tg4 1 (List.map c_u8 y2)])), (tg4, .tok 5 1 ((y2 : List Int).length * 1))] []).trans hk8.1) ?_
  refine s_nil ?_
  refine H1 _ _ ?_
  clear H1 K1
  refine AW_k fun K9 H9 => ?_
  refine AW_reg ?_
  refine s_v (o_mv (.sl _ _ _) rfl) ?_
  refine s_v (o_lenm ln58 rfl) ?_
  refine s_v (o_mv (.sc (.int _ _)) rfl) ?_
  refine s_nil ?_
  refine H9 _ _ ?_
  clear H9 K9
  refine AW_loopG (n := 33) hm (σ := (List Int) × Int) (τ := Option Key) (fun g s => HOk h [(some p0K, .obj 116 ([ow g 1 (List.map c_u8 s.1)])), (g, .tok 5 1 ((s.1 : List Int).length * 1))] ∧ (g = none → s.1 = [])) (fun g s => kp (kp (kp (kp (k0) 12 (.sc (.int .i64 s.2))) 11 (.sc (.int .i64 (p1.length : Int)))) 10 (.sl none 4 (List.map c_Loc p1))) 0 (.ptr p0K 0)) (fun g s => hp h [(some p0K, .obj 116 ([ow g 1 (List.map c_u8 s.1)])), (g, .tok 5 1 ((s.1 : List Int).length * 1))]) tg4 (⟨hk8.2, ot5⟩) (LeF.fm (Sub.refl _) (.cons (ALe.refl _ _) (.cons (ALe.refl _ _) (.cons (ALe.refl _ _) (.cons (ALe.refl _ _) (.nil)))))) ?_ ?_
  · rintro tg99 ⟨q98, q101⟩ x ⟨hk102, ot100⟩ hm
    replace hm : M76_L0 fuel p1 q98 q101 = some x := hm
    unfold M76_L0 at hm
    refine AW_k fun K103 H103 => ?_
    refine AW_reg ?_
    refine s_v (o_bi rfl rfl rfl trivial) ?_
    refine s_nil ?_
    refine H103 _ _ ?_
    clear H103 K103
    refine AW_k fun K104 H104 => ?_
    refine AW_if' rfl (fun hc105 => ?_) (fun hc105 => ?_)
    · replace hm := ite_t hm hc105
      refine AW_skip ?_
      refine H104 _ _ ?_
      clear H104 K104
      refine AW_k fun K106 H106 => ?_
      refine AW_block ?_
      refine AW_k fun K107 H107 => ?_
      refine AW_reg ?_
      obtain ⟨x108, hx109, hm⟩ := bind_of hm
      refine s_v (o_ix hx109 el58 rfl rfl) ?_
      refine s_v (o_ld (.agg (c_Loc x108)) ld77 rfl rfl) ?_
      refine s_op (a_alloc ([.sc (.int .i64 0), .sc (.int .i64 0), .sc (.int .i64 0), .sc (.int .i64 0)]) hk102 zr77 rfl rfl fun k110 hk111 => ?_)
      refine s_op (a_store 0 (c_Loc x108) hk111 rfl rfl rfl rfl sz77 rfl rfl fun hk113 => ?_)
      refine s_nil ?_
      refine H107 _ _ ?_
      clear H107 K107
      refine AW_k fun K114 H114 => ?_
      refine AW_reg ?_
      refine s_v (o_mv (.ptr _ _) rfl) ?_
      refine s_v (o_flp fd77_0 rfl rfl) ?_
      refine s_v (o_ldp (.sc (.int .i64 x108.Vol)) ld3 rfl (hp_get 0 hk113 rfl) rfl) ?_
      obtain ⟨y115, hy116, hm⟩ := bind_of hm
      refine s_op (AOp_eqh ((hp_perm ((.trans (.swap _ _ _) (.cons _ (.swap _ _ _))) : List.Perm (α := Option Key × Ent) [(some k110, .obj 77 (c_Loc x108)), (some p0K, .obj 116 ([ow tg99 1 (List.map c_u8 q98)])), (tg99, .tok 5 1 ((q98 : List Int).length * 1))] ([(some p0K, .obj 116 ([ow tg99 1 (List.map c_u8 q98)])), (tg99, .tok 5 1 ((q98 : List Int).length * 1))] ++ [(some k110, .obj 77 (c_Loc x108))])) hk113).1.trans (hp_app h [(some p0K, .obj 116 ([ow tg99 1 (List.map c_u8 q98)])), (tg99, .tok 5 1 ((q98 : List Int).length * 1))] [(some k110, .obj 77 (c_Loc x108))]).symm) (a_call (W75 (hp h [(some k110, .obj 77 (c_Loc x108))]) ot100 (HOk_spl [(some p0K, .obj 116 ([ow tg99 1 (List.map c_u8 q98)])), (tg99, .tok 5 1 ((q98 : List Int).length * 1))] [(some k110, .obj 77 (c_Loc x108))] (hp_perm ((.trans (.swap _ _ _) (.cons _ (.swap _ _ _))) : List.Perm (α := Option Key × Ent) [(some k110, .obj 77 (c_Loc x108)), (some p0K, .obj 116 ([ow tg99 1 (List.map c_u8 q98)])), (tg99, .tok 5 1 ((q98 : List Int).length * 1))] ([(some p0K, .obj 116 ([ow tg99 1 (List.map c_u8 q98)])), (tg99, .tok 5 1 ((q98 : List Int).length * 1))] ++ [(some k110, .obj 77 (c_Loc x108))])) hk113).2).2 hy116) rfl bd75 rfl ?_))
      rintro x h' ⟨tg117, ot118, hk119, rfl, rfl⟩
      have hk121 := hp_perm (((.trans (.cons _ (.swap _ _ _)) (.swap _ _ _))) : List.Perm (α := Option Key × Ent) ([(some p0K, .obj 116 ([ow tg117 1 (List.map c_u8 y115)])), (tg117, .tok 5 1 ((y115 : List Int).length * 1))] ++ [(some k110, .obj 77 (c_Loc x108))]) [(some k110, .obj 77 (c_Loc x108)), (some p0K, .obj 116 ([ow tg117 1 (List.map c_u8 y115)])), (tg117, .tok 5 1 ((y115 : List Int).length * 1))]) (HOk_app (HOk_spl [(some p0K, .obj 116 ([ow tg99 1 (List.map c_u8 q98)])), (tg99, .tok 5 1 ((q98 : List Int).length * 1))] [(some k110, .obj 77 (c_Loc x108))] (hp_perm ((.trans (.swap _ _ _) (.cons _ (.swap _ _ _))) : List.Perm (α := Option Key × Ent) [(some k110, .obj 77 (c_Loc x108)), (some p0K, .obj 116 ([ow tg99 1 (List.map c_u8 q98)])), (tg99, .tok 5 1 ((q98 : List Int).length * 1))] ([(some p0K, .obj 116 ([ow tg99 1 (List.map c_u8 q98)])), (tg99, .tok 5 1 ((q98 : List Int).length * 1))] ++ [(some k110, .obj 77 (c_Loc x108))])) hk113).2).1 hk119)
      refine AOps_eqh ((hp_app h [(some p0K, .obj 116 ([ow tg117 1 (List.map c_u8 y115)])), (tg117, .tok 5 1 ((y115 : List Int).length * 1))] [(some k110, .obj 77 (c_Loc x108))]).trans hk121.1) ?_
      refine s_nil ?_
      refine H114 _ _ ?_
      clear H114 K114
      refine AW_k fun K122 H122 => ?_
      refine AW_reg ?_
      refine s_v (o_mv (.ptr _ _) rfl) ?_
      refine s_v (o_flp fd77_1 rfl rfl) ?_
      refine s_v (o_ldp (.sc (.int .i64 x108.File)) ld3 rfl (hp_get 0 hk121.2 rfl) rfl) ?_
      obtain ⟨y123, hy124, hm⟩ := bind_of hm
      refine s_op (AOp_eqh ((hp_perm ((.trans (.swap _ _ _) (.cons _ (.swap _ _ _))) : List.Perm (α := Option Key × Ent) [(some k110, .obj 77 (c_Loc x108)), (some p0K, .obj 116 ([ow tg117 1 (List.map c_u8 y115)])), (tg117, .tok 5 1 ((y115 : List Int).length * 1))] ([(some p0K, .obj 116 ([ow tg117 1 (List.map c_u8 y115)])), (tg117, .tok 5 1 ((y115 : List Int).length * 1))] ++ [(some k110, .obj 77 (c_Loc x108))])) hk121.2).1.trans (hp_app h [(some p0K, .obj 116 ([ow tg117 1 (List.map c_u8 y115)])), (tg117, .tok 5 1 ((y115 : List Int).length * 1))] [(some k110, .obj 77 (c_Loc x108))]).symm) (a_call (W75 (hp h [(some k110, .obj 77 (c_Loc x108))]) ot118 (HOk_spl [(some p0K, .obj 116 ([ow tg117 1 (List.map c_u8 y115)])), (tg117, .tok 5 1 ((y115 : List Int).length * 1))] [(some k110, .obj 77 (c_Loc x108))] (hp_perm ((.trans (.swap _ _ _) (.cons _ (.swap _ _ _))) : List.Perm (α := Option Key × Ent) [(some k110, .obj 77 (c_Loc x108)), (some p0K, .obj 116 ([ow tg117 1 (List.map c_u8 y115)])), (tg117, .tok 5 1 ((y115 : List Int).length * 1))] ([(some p0K, .obj 116 ([ow tg117 1 (List.map c_u8 y115)])), (tg117, .tok 5 1 ((y115 : List Int).length * 1))] ++ [(some k110, .obj 77 (c_Loc x108))])) hk121.2).2).2 hy124) rfl bd75 rfl ?_))
      rintro x h' ⟨tg125, ot126, hk127, rfl, rfl⟩
      have hk129 := hp_perm (((.trans (.cons _ (.swap _ _ _)) (.swap _ _ _))) : List.Perm (α := Option Key × Ent) ([(some p0K, .obj 116 ([ow tg125 1 (List.map c_u8 y123)])), (tg125, .tok 5 1 ((y123 : List Int).length * 1))] ++ [(some k110, .obj 77 (c_Loc x108))]) [(some k110, .obj 77 (c_Loc x108)), (some p0K, .obj 116 ([ow tg125 1 (List.map c_u8 y123)])), (tg125, .tok 5 1 ((y123 : List Int).length * 1))]) (HOk_app (HOk_spl [(some p0K, .obj 116 ([ow tg117 1 (List.map c_u8 y115)])), (tg117, .tok 5 1 ((y115 : List Int).length * 1))] [(some k110, .obj 77 (c_Loc x108))] (hp_perm ((.trans (.swap _ _ _) (.cons _ (.swap _ _ _))) : List.Perm (α := Option Key × Ent) [(some k110, .obj 77 (c_Loc x108)), (some p0K, .obj 116 ([ow tg117 1 (List.map c_u8 y115)])), (tg117, .tok 5 1 ((y115 : List Int).length * 1))] ([(some p0K, .obj 116 ([ow tg117 1 (List.map c_u8 y115)])), (tg117, .tok 5 1 ((y115 : List Int).length * 1))] ++ [(some k110, .obj 77 (c_Loc x108))])) hk121.2).2).1 hk127)
      refine AOps_eqh ((hp_app h [(some p0K, .obj 116 ([ow tg125 1 (List.map c_u8 y123)])), (tg125, .tok 5 1 ((y123 : List Int).length * 1))] [(some k110, .obj 77 (c_Loc x108))]).trans hk129.1) ?_
      refine s_nil ?_
      refine H122 _ _ ?_
      clear H122 K122
      refine AW_k fun K130 H130 => ?_
      refine AW_reg ?_
      refine s_v (o_mv (.ptr _ _) rfl) ?_
      refine s_v (o_flp fd77_2 rfl rfl) ?_
      refine s_v (o_ldp (.sc (.int .i64 x108.Off)) ld3 rfl (hp_get 0 hk129.2 rfl) rfl) ?_
      obtain ⟨y131, hy132, hm⟩ := bind_of hm
      refine s_op (AOp_eqh ((hp_perm ((.trans (.swap _ _ _) (.cons _ (.swap _ _ _))) : List.Perm (α := Option Key × Ent) [(some k110, .obj 77 (c_Loc x108)), (some p0K, .obj 116 ([ow tg125 1 (List.map c_u8 y123)])), (tg125, .tok 5 1 ((y123 : List Int).length * 1))] ([(some p0K, .obj 116 ([ow tg125 1 (List.map c_u8 y123)])), (tg125, .tok 5 1 ((y123 : List Int).length * 1))] ++ [(some k110, .obj 77 (c_Loc x108))])) hk129.2).1.trans (hp_app h [(some p0K, .obj 116 ([ow tg125 1 (List.map c_u8 y123)])), (tg125, .tok 5 1 ((y123 : List Int).length * 1))] [(some k110, .obj 77 (c_Loc x108))]).symm) (a_call (W75 (hp h [(some k110, .obj 77 (c_Loc x108))]) ot126 (HOk_spl [(some p0K, .obj 116 ([ow tg125 1 (List.map c_u8 y123)])), (tg125, .tok 5 1 ((y123 : List Int).length * 1))] [(some k110, .obj 77 (c_Loc x108))] (hp_perm ((.trans (.swap _ _ _) (.cons _ (.swap _ _ _))) : List.Perm (α := Option Key × Ent) [(some k110, .obj 77 (c_Loc x108)), (some p0K, .obj 116 ([ow tg125 1 (List.map c_u8 y123)])), (tg125, .tok 5 1 ((y123 : List Int).length * 1))] ([(some p0K, .obj 116 ([ow tg125 1 (List.map c_u8 y123)])), (tg125, .tok 5 1 ((y123 : List Int).length * 1))] ++ [(some k110, .obj 77 (c_Loc x108))])) hk129.2).2).2 hy132) rfl bd75 rfl ?_))
      rintro x h' ⟨tg133, ot134, hk135, rfl, rfl⟩
      have hk137 := hp_perm (((.trans (.cons _ (.swap _ _ _)) (.swap _ _ _))) : List.Perm (α := Option Key × Ent) ([(some p0K, .obj 116 ([ow tg133 1 (List.map c_u8 y131)])), (tg133, .tok 5 1 ((y131 : List Int).length * 1))] ++ [(some k110, .obj 77 (c_Loc x108))]) [(some k110, .obj 77 (c_Loc x108)), (some p0K, .obj 116 ([ow tg133 1 (List.map c_u8 y131)])), (tg133, .tok 5 1 ((y131 : List Int).length * 1))]) (HOk_app (HOk_spl [(some p0K, .obj 116 ([ow tg125 1 (List.map c_u8 y123)])), (tg125, .tok 5 1 ((y123 : List Int).length * 1))] [(some k110, .obj 77 (c_Loc x108))] (hp_perm ((.trans (.swap _ _ _) (.cons _ (.swap _ _ _))) : List.Perm (α := Option Key × Ent) [(some k110, .obj 77 (c_Loc x108)), (some p0K, .obj 116 ([ow tg125 1 (List.map c_u8 y123)])), (tg125, .tok 5 1 ((y123 : List Int).length * 1))] ([(some p0K, .obj 116 ([ow tg125 1 (List.map c_u8 y123)])), (tg125, .tok 5 1 ((y123 : List Int).length * 1))] ++ [(some k110, .obj 77 (c_Loc x108))])) hk129.2).2).1 hk135)
      refine AOps_eqh ((hp_app h [(some p0K, .obj 116 ([ow tg133 1 (List.map c_u8 y131)])), (tg133, .tok 5 1 ((y131 : List Int).length * 1))] [(some k110, .obj 77 (c_Loc x108))]).trans hk137.1) ?_
      refine s_nil ?_
      refine H130 _ _ ?_
      clear H130 K130
      refine AW_reg ?_
      refine s_v (o_mv (.ptr _ _) rfl) ?_
      refine s_v (o_flp fd77_3 rfl rfl) ?_
      refine s_v (o_ldp (.sc (.int .i64 x108.Len)) ld3 rfl (hp_get 0 hk137.2 rfl) rfl) ?_
      obtain ⟨y138, hy139, hm⟩ := bind_of hm
      refine s_op (AOp_eqh ((hp_perm ((.trans (.swap _ _ _) (.cons _ (.swap _ _ _))) : List.Perm (α := Option Key × Ent) [(some k110, .obj 77 (c_Loc x108)), (some p0K, .obj 116 ([ow tg133 1 (List.map c_u8 y131)])), (tg133, .tok 5 1 ((y131 : List Int).length * 1))] ([(some p0K, .obj 116 ([ow tg133 1 (List.map c_u8 y131)])), (tg133, .tok 5 1 ((y131 : List Int).length * 1))] ++ [(some k110, .obj 77 (c_Loc x108))])) hk137.2).1.trans (hp_app h [(some p0K, .obj 116 ([ow tg133 1 (List.map c_u8 y131)])), (tg133, .tok 5 1 ((y131 : List Int).length * 1))] [(some k110, .obj 77 (c_Loc x108))]).symm) (a_call (W75 (hp h [(some k110, .obj 77 (c_Loc x108))]) ot134 (HOk_spl [(some p0K, .obj 116 ([ow tg133 1 (List.map c_u8 y131)])), (tg133, .tok 5 1 ((y131 : List Int).length * 1))] [(some k110, .obj 77 (c_Loc x108))] (hp_perm ((.trans (.swap _ _ _) (.cons _ (.swap _ _ _))) : List.Perm (α := Option Key × Ent) [(some k110, .obj 77 (c_Loc x108)), (some p0K, .obj 116 ([ow tg133 1 (List.map c_u8 y131)])), (tg133, .tok 5 1 ((y131 : List Int).length * 1))] ([(some p0K, .obj 116 ([ow tg133 1 (List.map c_u8 y131)])), (tg133, .tok 5 1 ((y131 : List Int).length * 1))] ++ [(some k110, .obj 77 (c_Loc x108))])) hk137.2).2).2 hy139) rfl bd75 rfl ?_))
      rintro x h' ⟨tg140, ot141, hk142, rfl, rfl⟩
      have hk144 := hp_perm (((.trans (.cons _ (.swap _ _ _)) (.swap _ _ _))) : List.Perm (α := Option Key × Ent) ([(some p0K, .obj 116 ([ow tg140 1 (List.map c_u8 y138)])), (tg140, .tok 5 1 ((y138 : List Int).length * 1))] ++ [(some k110, .obj 77 (c_Loc x108))]) [(some k110, .obj 77 (c_Loc x108)), (some p0K, .obj 116 ([ow tg140 1 (List.map c_u8 y138)])), (tg140, .tok 5 1 ((y138 : List Int).length * 1))]) (HOk_app (HOk_spl [(some p0K, .obj 116 ([ow tg133 1 (List.map c_u8 y131)])), (tg133, .tok 5 1 ((y131 : List Int).length * 1))] [(some k110, .obj 77 (c_Loc x108))] (hp_perm ((.trans (.swap _ _ _) (.cons _ (.swap _ _ _))) : List.Perm (α := Option Key × Ent) [(some k110, .obj 77 (c_Loc x108)), (some p0K, .obj 116 ([ow tg133 1 (List.map c_u8 y131)])), (tg133, .tok 5 1 ((y131 : List Int).length * 1))] ([(some p0K, .obj 116 ([ow tg133 1 (List.map c_u8 y131)])), (tg133, .tok 5 1 ((y131 : List Int).length * 1))] ++ [(some k110, .obj 77 (c_Loc x108))])) hk137.2).2).1 hk142)
      refine AOps_eqh ((hp_app h [(some p0K, .obj 116 ([ow tg140 1 (List.map c_u8 y138)])), (tg140, .tok 5 1 ((y138 : List Int).length * 1))] [(some k110, .obj 77 (c_Loc x108))]).trans hk144.1) ?_
      refine s_nil ?_
      refine H106 _ _ ?_
      clear H106 K106
      refine AW_reg ?_
      refine s_v (o_bi rfl rfl rfl trivial) ?_
      refine s_v (o_mv (.sc (.int _ _)) rfl) ?_
      refine s_nil ?_
      cases hm
      exact ⟨rfl, tg140, ⟨(hp_sub (.cons _ (.refl _)) hk144.2).2, ot141⟩, LeF.fm ((hp_sub (.cons _ (.refl _)) hk144.2).1) (.cons (ALe.refl _ _) (.cons (ALe.refl _ _) (.cons (ALe.refl _ _) (.cons (ALe.refl _ _) (.nil)))))⟩
    · replace hm := ite_f hm hc105
      refine AW_exit ?_
      refine Seq_exit ?_
      cases hm
      exact ⟨rfl, tg99, ⟨hk102, ot100⟩, LeF.fm (Sub.refl _) (.cons (ALe.refl _ _) (.cons (ALe.refl _ _) (.cons (ALe.refl _ _) (.cons (ALe.refl _ _) (.nil)))))⟩
  · rintro tg147 ⟨r145, r146⟩ fr' h' ⟨hk149, ot148⟩ hm le
    have hmo := Option.some.inj hm; subst hmo
    exact LqE.mk le (Ret.zero (.inr rfl) (Sub_eq (hp_perm (.refl _ : List.Perm (α := Option Key × Ent) [(some p0K, .obj 116 ([ow tg147 1 (List.map c_u8 r145)])), (tg147, .tok 5 1 ((r145 : List Int).length * 1))] ([(some p0K, .obj 116 ([ow tg147 1 (List.map c_u8 r145)])), (tg147, .tok 5 1 ((r145 : List Int).length * 1))] ++ [])) hk149).1 (hp_sub (h0 := h) (L' := [(some p0K, .obj 116 ([ow tg147 1 (List.map c_u8 r145)])), (tg147, .tok 5 1 ((r145 : List Int).length * 1))]) (List.sublist_append_left _ _) (hp_perm (.refl _ : List.Perm (α := Option Key × Ent) [(some p0K, .obj 116 ([ow tg147 1 (List.map c_u8 r145)])), (tg147, .tok 5 1 ((r145 : List Int).length * 1))] ([(some p0K, .obj 116 ([ow tg147 1 (List.map c_u8 r145)])), (tg147, .tok 5 1 ((r145 : List Int).length * 1))] ++ [])) hk149).2).1) ⟨tg147, ot148, (hp_sub (h0 := h) (L' := [(some p0K, .obj 116 ([ow tg147 1 (List.map c_u8 r145)])), (tg147, .tok 5 1 ((r145 : List Int).length * 1))]) (List.sublist_append_left _ _) (hp_perm (.refl _ : List.Perm (α := Option Key × Ent) [(some p0K, .obj 116 ([ow tg147 1 (List.map c_u8 r145)])), (tg147, .tok 5 1 ((r145 : List Int).length * 1))] ([(some p0K, .obj 116 ([ow tg147 1 (List.map c_u8 r145)])), (tg147, .tok 5 1 ((r145 : List Int).length * 1))] ++ [])) hk149).2).2, rfl, rfl⟩)
theorem bd76 : bodied Try.prog 76 = true := by kernel_rfl
def M34_L2 (fuel : Nat) (x260 : TPart) (q337 : List Int) (q340 : Int) : Option (Lp ((List Int) × Int) (Lp ((List Int) × Int) ((List Int) × Int))) :=
  if (decide (q340 < (x260.Ids.length : Int))) = true then ((ix x260.Ids q340).bind fun x347 => (app q337 x347.1).bind fun z353 => some (.go (z353, IntKind.wrap .i64 (q340 + 1)))) else some (.brk (q337, q340))
def M34_L0 (fuel : Nat) (p0 : TManifest) (q250 : List Int) (q253 : Int) : Option (Lp ((List Int) × Int) ((List Int) × Int)) :=
  if (decide (q253 < (p0.Parts.length : Int))) = true then ((ix p0.Parts q253).bind fun x260 => (app q250 ([IntKind.wrap .u8 (x260.Path.size : Int)] : List Int)).bind fun z277 => (app z277 (strB x260.Path)).bind fun z282 => (M74t fuel z282 x260.Size 2).bind fun y288 => (app y288.1 ([IntKind.wrap .u8 (x260.Ids.length : Int)] : List Int)).bind fun z295 => after (loopM (fun s => M34_L2 fuel x260 s.1 s.2) fuel (z295, 0)) fun ⟨r358, r359⟩ => some (.go (r358, IntKind.wrap .i64 (q253 + 1)))) else some (.brk (q250, q253))
def M34 (fuel : Nat) (p0 : TManifest) : Option ((List Int) × Int) :=
  (M73 fuel p0).bind fun y6 => if (y6 != 0) = true then (some ([], y6)) else (app ([IntKind.wrap .u8 (p0.Name.size : Int)] : List Int) (strB p0.Name)).bind fun z17 => (app z17 ([IntKind.wrap .u8 (p0.Parts.length : Int)] : List Int)).bind fun z23 => after (loopM (fun s => M34_L0 fuel p0 s.1 s.2) fuel (z23, 0)) fun ⟨r363, r364⟩ => some (r363, 0)
set_option maxHeartbeats 4000000 in
set_option maxRecDepth 100000 in
/-- cellarer/manifest.Bytes -/
theorem W34 {fuel : Nat} {p0 : TManifest} {o : (List Int) × Int} (h : Heap) (hm : M34 fuel p0 = some o) :
    ACalls Try.prog 34 [.agg (c_Manifest p0)] h (fun r h' => r = .tup [.sl none 1 (List.map c_u8 o.1), .sc (.int .i64 o.2)] ∧ h' = h) := by
  refine ACalls_hp 74 [.tmp 2, .tmp 3] Try.func34 rfl rfl rfl rfl ?_
  unfold M34 at hm
  refine AW_k fun K1 H1 => ?_
  refine AW_reg ?_
  refine s_op (a_box (HOk.nil _) rfl rfl fun k2 hk3 => ?_)
  refine s_v (o_as (.sc (.slice _ _ _)) rfl) ?_
  refine s_v (o_as (.sc (.int _ _)) rfl) ?_
  refine s_nil ?_
  refine H1 _ _ ?_
  clear H1 K1
  refine AW_k fun K5 H5 => ?_
  refine AW_reg ?_
  refine s_v (o_ldp (.agg (c_Manifest p0)) ld57 rfl (hp_get 0 hk3 rfl) rfl) ?_
  obtain ⟨y6, hy7, hm⟩ := bind_of hm
  refine s_v (o_call (W73 _ hy7) rfl bd73 rfl) ?_
  refine s_v (o_as (.sc (.int _ _)) rfl) ?_
  refine s_nil ?_
  refine H5 _ _ ?_
  clear H5 K5
  refine AW_k fun K8 H8 => ?_
  refine AW_k fun K9 H9 => ?_
  refine AW_reg ?_
  refine s_v (o_mv (.sc (.int _ _)) rfl) ?_
  refine s_v (o_bi rfl rfl rfl trivial) ?_
  refine s_nil ?_
  refine H9 _ _ ?_
  clear H9 K9
  refine AW_if' rfl (fun hc10 => ?_) (fun hc10 => ?_)
  · replace hm := ite_t hm hc10
    refine AW_k fun K11 H11 => ?_
    refine AW_reg ?_
    refine s_v (o_mv (.sc (.int _ _)) rfl) ?_
    refine s_v (o_as (.sc (.slice _ _ _)) rfl) ?_
    refine s_v (o_as (.sc (.int _ _)) rfl) ?_
    refine s_nil ?_
    refine H11 _ _ ?_
    clear H11 K11
    refine AW_ret ?_
    cases hm
    exact Ret.of2 (.inl rfl) (rsT _ _ (.sc (.slice _ _ _)) rfl) (rsT _ _ (.sc (.int _ _)) rfl) (hp_sub (List.nil_sublist _) hk3).1 (nil_lem _) (ALe.refl _ _) ⟨rfl, rfl⟩
  · replace hm := ite_f hm hc10
    refine AW_skip ?_
    refine H8 _ _ ?_
    clear H8 K8
    refine AW_k fun K12 H12 => ?_
    refine AW_reg ?_
    refine s_v (o_flp fd57_0 rfl rfl) ?_
    refine s_v (o_ldp (.sc (.string p0.Name)) ld9 rfl (hp_get 0 hk3 rfl) rfl) ?_
    refine s_v (o_lent ln9 rfl) ?_
    refine s_v (o_cv ti3 ti5 rfl) ?_
    refine s_op (a_litg (c := c_u8) ([IntKind.wrap .u8 (p0.Name.size : Int)] : List Int) hk3 et52 rfl rfl rfl rfl fun tg13 ot14 hk15 => ?_)
    refine s_v (o_flp fd57_0 rfl rfl) ?_
    refine s_v (o_ldp (.sc (.string p0.Name)) ld9 rfl (hp_get 1 hk15 rfl) rfl) ?_
    obtain ⟨z17, hz18, hm⟩ := bind_of hm
    refine s_op (a_appS (c := c_u8) 0 hz18 u9 et52 rfl (fun _ => rfl) rfl rfl ot14 hk15 rfl fun tg19 ot20 hk21 => ?_)
    refine s_v (o_as (ow _ _ _) rfl) ?_
    refine s_nil ?_
    refine H12 _ _ ?_
    clear H12 K12
    refine AW_k fun K22 H22 => ?_
    refine AW_reg ?_
    refine s_v (o_mv (ow _ _ _) rfl) ?_
    refine s_v (o_flp fd57_1 rfl rfl) ?_
    refine s_v (o_ldp (.sl none 3 (List.map c_Part p0.Parts)) ld55 rfl (hp_get 1 hk21 rfl) rfl) ?_
    refine s_v (o_lenm ln55 rfl) ?_
    refine s_v (o_cv ti3 ti5 rfl) ?_
    refine s_v (o_lit (List.map c_u8 ([IntKind.wrap .u8 (p0.Parts.length : Int)] : List Int)) et52 rfl rfl rfl rfl) ?_
    obtain ⟨z23, hz24, hm⟩ := bind_of hm
    refine s_op (a_app (c := c_u8) 0 hz24 et52 rfl rfl rfl ot20 hk21 rfl fun tg25 ot26 hk27 => ?_)
    refine s_v (o_as (ow _ _ _) rfl) ?_
    refine s_nil ?_
    refine H22 _ _ ?_
    clear H22 K22
    refine AW_k fun K28 H28 => ?_
    refine AW_k fun K29 H29 => ?_
    refine AW_reg ?_
    refine s_v (o_flp fd57_1 rfl rfl) ?_
    refine s_v (o_ldp (.sl none 3 (List.map c_Part p0.Parts)) ld55 rfl (hp_get 1 hk27 rfl) rfl) ?_
    refine s_v (o_lenm ln55 rfl) ?_
    refine s_v (o_mv (.sc (.int _ _)) rfl) ?_
    refine s_nil ?_
    refine H29 _ _ ?_
    clear H29 K29
    refine AW_loopG (n := 74) hm (σ := (List Int) × Int) (τ := Option Key) (fun g s => HOk h [(g, .tok 5 1 ((s.1 : List Int).length * 1)), (some k2, .obj 57 (c_Manifest p0))] ∧ (g = none → s.1 = [])) (fun g s => kp (kp (kp (kp (k0) 33 (.sc (.int .i64 s.2))) 32 (.sc (.int .i64 (p0.Parts.length : Int)))) 31 (.sl none 3 (List.map c_Part p0.Parts))) 5 (ow g 1 (List.map c_u8 s.1))) (fun g s => hp h [(g, .tok 5 1 ((s.1 : List Int).length * 1)), (some k2, .obj 57 (c_Manifest p0))]) tg25 (⟨hk27, ot26⟩) (LeF.fm (Sub.refl _) (.cons (ALe.refl _ _) (.cons (ALe.refl _ _) (.cons (ALe.refl _ _) (.cons (ALe.refl _ _) (.nil)))))) ?_ ?_
    · rintro tg251 ⟨q250, q253⟩ x ⟨hk254, ot252⟩ hm
      replace hm : M34_L0 fuel p0 q250 q253 = some x := hm
      unfold M34_L0 at hm
      refine AW_k fun K255 H255 => ?_
      refine AW_reg ?_
      refine s_v (o_bi rfl rfl rfl trivial) ?_
      refine s_nil ?_
      refine H255 _ _ ?_
      clear H255 K255
      refine AW_k fun K256 H256 => ?_
      refine AW_if' rfl (fun hc257 => ?_) (fun hc257 => ?_)
      · replace hm := ite_t hm hc257
        refine AW_skip ?_
        refine H256 _ _ ?_
        clear H256 K256
        refine AW_k fun K258 H258 => ?_
        refine AW_block ?_
        refine AW_k fun K259 H259 => ?_
        refine AW_reg ?_
        obtain ⟨x260, hx261, hm⟩ := bind_of hm
        refine s_v (o_ix hx261 el55 rfl rfl) ?_
        refine s_v (o_ld (.agg (c_Part x260)) ld82 rfl rfl) ?_
        refine s_op (a_alloc ([.sc (.string ByteArray.empty), .sc (.int .i64 0), .sc (.slice none 0 0)]) hk254 zr82 rfl rfl fun k262 hk263 => ?_)
        refine s_op (a_store 0 (c_Part x260) hk263 rfl rfl rfl rfl sz82 rfl rfl fun hk265 => ?_)
        refine s_nil ?_
        refine H259 _ _ ?_
        clear H259 K259
        refine AW_k fun K266 H266 => ?_
        refine AW_zreg [(1000000, some k262, .obj 82 (c_Part x260))] mixed (⟨fun _ => hp_at 0 hk265 rfl, trivial⟩) ?_
        refine z_v 0 rfl (by kernel_rfl) rfl (fun S' h' hi hB => o_mv (ow _ _ _) rfl) ?_
        refine z_v 1 rfl (by kernel_rfl) rfl (fun S' h' hi hB => o_flp fd82_0 rfl rfl) ?_
        refine z_v 2 rfl (by kernel_rfl) rfl (fun S' h' hi hB => o_ldp (.sc (.string x260.Path)) ld9 rfl (At.s (InvL.get 0 hi rfl (hB 1000000 (by kernel_rfl)))) rfl) ?_
        refine z_v 3 rfl (by kernel_rfl) rfl (fun S' h' hi hB => o_lent ln9 rfl) ?_
        refine z_v 4 rfl (by kernel_rfl) rfl (fun S' h' hi hB => o_cv ti3 ti5 rfl) ?_
        refine z_v 5 rfl (by kernel_rfl) rfl (fun S' h' hi hB => o_lit (List.map c_u8 ([IntKind.wrap .u8 (x260.Path.size : Int)] : List Int)) et52 rfl rfl rfl rfl) ?_
        refine z_v 7 rfl (by kernel_rfl) rfl (fun S' h' hi hB => o_flp fd82_0 rfl rfl) ?_
        refine z_v 8 rfl (by kernel_rfl) rfl (fun S' h' hi hB => o_ldp (.sc (.string x260.Path)) ld9 rfl (At.s (InvL.get 0 hi rfl (hB 1000000 (by kernel_rfl)))) rfl) ?_
        obtain ⟨z277, hz278, hm⟩ := bind_of hm
        refine z_e 6 rfl (by kernel_rfl) (a_app (c := c_u8) 1 hz278 et52 rfl rfl rfl ot252 hk265 rfl fun tg279 ot280 hk281 => ⟨⟨fun _ => hp_at 0 hk281 rfl, trivial⟩, ?_⟩)
        obtain ⟨z282, hz283, hm⟩ := bind_of hm
        refine z_e 9 rfl (by kernel_rfl) (a_appS (c := c_u8) 1 hz283 u9 et52 rfl (fun _ => rfl) rfl rfl ot280 hk281 rfl fun tg284 ot285 hk286 => ⟨⟨fun _ => hp_at 0 hk286 rfl, trivial⟩, ?_⟩)
        refine z_v 10 rfl (by kernel_rfl) rfl (fun S' h' hi hB => o_as (ow _ _ _) rfl) ?_
        refine z_nil (by kernel_rfl) ?_
        refine H266 _ _ ?_
        clear H266 K266
        refine AW_k fun K287 H287 => ?_
        refine AW_reg ?_
        refine s_v (o_mv (ow _ _ _) rfl) ?_
        refine s_v (o_flp fd82_1 rfl rfl) ?_
        refine s_v (o_ldp (.sc (.int .i64 x260.Size)) ld3 rfl (hp_get 0 hk286 rfl) rfl) ?_
        obtain ⟨y288, hy289, hm⟩ := bind_of hm
        refine s_fz (t := 48) (.sl none 1 (List.map c_u8 z282)) (hp_sub (List.eraseIdx_sublist _ 1) hk286).1 (own_frzE _ 1 ot285 hk286 rfl (.refl _)) ?_
        refine s_op (a_call (W74t _ hy289) rfl bd74 rfl ?_)
        rintro x h' ⟨tg290, ot291, hk292, rfl, rfl⟩
        rw [hp_cat]
        refine s_v (o_mv (.tup _) rfl) ?_
        refine s_v (o_ex (ow _ _ _) rfl rfl) ?_
        refine s_v (o_ex (.sc (.int _ _)) rfl rfl) ?_
        refine s_v (o_as (ow _ _ _) rfl) ?_
        refine s_nil ?_
        refine H287 _ _ ?_
        clear H287 K287
        refine AW_k fun K294 H294 => ?_
        refine AW_reg ?_
        refine s_v (o_mv (ow _ _ _) rfl) ?_
        refine s_v (o_flp fd82_2 rfl rfl) ?_
        refine s_v (o_ldp (.sl none 32 (List.map c_id x260.Ids)) ld80 rfl (hp_get 1 (HOk.co ((hp_sub (List.eraseIdx_sublist _ 1) hk286).2) hk292) rfl) rfl) ?_
        refine s_v (o_lenm ln80 rfl) ?_
        refine s_v (o_cv ti3 ti5 rfl) ?_
        refine s_v (o_lit (List.map c_u8 ([IntKind.wrap .u8 (x260.Ids.length : Int)] : List Int)) et52 rfl rfl rfl rfl) ?_
        obtain ⟨z295, hz296, hm⟩ := bind_of hm
        refine s_op (a_app (c := c_u8) 0 hz296 et52 rfl rfl rfl ot291 (HOk.co ((hp_sub (List.eraseIdx_sublist _ 1) hk286).2) hk292) rfl fun tg297 ot298 hk299 => ?_)
        refine s_v (o_as (ow _ _ _) rfl) ?_
        refine s_nil ?_
        refine H294 _ _ ?_
        clear H294 K294
        refine AW_k fun K300 H300 => ?_
        refine AW_reg ?_
        refine s_v (o_flp fd82_2 rfl rfl) ?_
        refine s_v (o_ldp (.sl none 32 (List.map c_id x260.Ids)) ld80 rfl (hp_get 1 hk299 rfl) rfl) ?_
        refine s_v (o_lenm ln80 rfl) ?_
        refine s_v (o_mv (.sc (.int _ _)) rfl) ?_
        refine s_nil ?_
        refine H300 _ _ ?_
        clear H300 K300
        refine AW_loopG (n := 74) hm (σ := (List Int) × Int) (τ := Option Key) (fun g s => HOk h [(g, .tok 5 1 ((s.1 : List Int).length * 1)), (some k262, .obj 82 (c_Part x260)), (some k2, .obj 57 (c_Manifest p0))] ∧ (g = none → s.1 = [])) (fun g s => kp (kp (kp (kp (kp (kp (kp (k0) 64 (.sc (.int .i64 s.2))) 63 (.sc (.int .i64 (x260.Ids.length : Int)))) 62 (.sl none 32 (List.map c_id x260.Ids))) 33 (.sc (.int .i64 q253))) 32 (.sc (.int .i64 (p0.Parts.length : Int)))) 31 (.sl none 3 (List.map c_Part p0.Parts))) 5 (ow g 1 (List.map c_u8 s.1))) (fun g s => hp h [(g, .tok 5 1 ((s.1 : List Int).length * 1)), (some k262, .obj 82 (c_Part x260)), (some k2, .obj 57 (c_Manifest p0))]) tg297 (⟨hk299, ot298⟩) (LeF.fm (Sub.refl _) (.cons (ALe.refl _ _) (.cons (ALe.refl _ _) (.cons (ALe.refl _ _) (.cons (ALe.refl _ _) (.cons (ALe.refl _ _) (.cons (ALe.refl _ _) (.cons (ALe.refl _ _) (.nil))))))))) ?_ ?_
        · rintro tg338 ⟨q337, q340⟩ x ⟨hk341, ot339⟩ hm
          replace hm : M34_L2 fuel x260 q337 q340 = some x := hm
          unfold M34_L2 at hm
          refine AW_k fun K342 H342 => ?_
          refine AW_reg ?_
          refine s_v (o_bi rfl rfl rfl trivial) ?_
          refine s_nil ?_
          refine H342 _ _ ?_
          clear H342 K342
          refine AW_k fun K343 H343 => ?_
          refine AW_if' rfl (fun hc344 => ?_) (fun hc344 => ?_)
          · replace hm := ite_t hm hc344
            refine AW_skip ?_
            refine H343 _ _ ?_
            clear H343 K343
            refine AW_k fun K345 H345 => ?_
            refine AW_block ?_
            refine AW_k fun K346 H346 => ?_
            refine AW_reg ?_
            obtain ⟨x347, hx348, hm⟩ := bind_of hm
            refine s_v (o_ix hx348 el80 rfl rfl) ?_
            refine s_v (o_ld (.agg (c_id x347)) ld61 rfl rfl) ?_
            refine s_op (a_alloc (c_id idZ) hk341 zr61 rfl rfl fun k349 hk350 => ?_)
            refine s_op (a_store 0 (c_id x347) hk350 rfl rfl rfl rfl sz61 rfl rfl fun hk352 => ?_)
            refine s_nil ?_
            refine H346 _ _ ?_
            clear H346 K346
            refine AW_reg ?_
            refine s_v (o_mv (ow _ _ _) rfl) ?_
            refine s_v (o_slv ar61 rfl) ?_
            obtain ⟨z353, hz354, hm⟩ := bind_of hm
            refine s_op (a_app (c := c_u8) 1 hz354 et52 rfl rfl rfl ot339 hk352 (srcOf_id (hp_get 0 hk352 rfl) rfl rfl) fun tg355 ot356 hk357 => ?_)
            refine s_v (o_as (ow _ _ _) rfl) ?_
            refine s_nil ?_
            refine H345 _ _ ?_
            clear H345 K345
            refine AW_reg ?_
            refine s_v (o_bi rfl rfl rfl trivial) ?_
            refine s_v (o_mv (.sc (.int _ _)) rfl) ?_
            refine s_nil ?_
            cases hm
            exact ⟨rfl, tg355, ⟨(hp_sub (.cons _ (.refl _)) hk357).2, ot356⟩, LeF.fm ((hp_sub (.cons _ (.refl _)) hk357).1) (.cons (ALe.refl _ _) (.cons (ALe.refl _ _) (.cons (ALe.refl _ _) (.cons (ALe.refl _ _) (.cons (ALe.refl _ _) (.cons (ALe.refl _ _) (.cons (ALe.refl _ _) (.nil))))))))⟩
          · replace hm := ite_f hm hc344
            refine AW_exit ?_
            refine Seq_exit ?_
            cases hm
            exact ⟨rfl, tg338, ⟨hk341, ot339⟩, LeF.fm (Sub.refl _) (.cons (ALe.refl _ _) (.cons (ALe.refl _ _) (.cons (ALe.refl _ _) (.cons (ALe.refl _ _) (.cons (ALe.refl _ _) (.cons (ALe.refl _ _) (.cons (ALe.refl _ _) (.nil))))))))⟩
        · rintro tg360 ⟨r358, r359⟩ fr' h' ⟨hk362, ot361⟩ hm le
          refine H258 _ _ (le.aw ?_)
          clear le H258 K258
          refine AW_reg ?_
          refine s_v (o_bi rfl rfl rfl trivial) ?_
          refine s_v (o_mv (.sc (.int _ _)) rfl) ?_
          refine s_nil ?_
          cases hm
          exact ⟨rfl, tg360, ⟨(hp_sub (.cons_cons _ (.cons _ (.refl _))) hk362).2, ot361⟩, LeF.fm ((hp_sub (.cons_cons _ (.cons _ (.refl _))) hk362).1) (.cons (ALe.refl _ _) (.cons (ALe.refl _ _) (.cons (ALe.refl _ _) (.cons (ALe.refl _ _) (.nil)))))⟩
      · replace hm := ite_f hm hc257
        refine AW_exit ?_
        refine Seq_exit ?_
        cases hm
        exact ⟨rfl, tg251, ⟨hk254, ot252⟩, LeF.fm (Sub.refl _) (.cons (ALe.refl _ _) (.cons (ALe.refl _ _) (.cons (ALe.refl _ _) (.cons (ALe.refl _ _) (.nil)))))⟩
    · rintro tg365 ⟨r363, r364⟩ fr' h' ⟨hk367, ot366⟩ hm le
      refine H28 _ _ (le.aw ?_)
      clear le H28 K28
      refine AW_k fun K368 H368 => ?_
      refine AW_reg ?_
      refine s_v (o_mv (ow _ _ _) rfl) ?_
      refine s_v (o_as (ow _ _ _) rfl) ?_
      refine s_v (o_as (.sc (.int _ _)) rfl) ?_
      refine s_nil ?_
      refine H368 _ _ ?_
      clear H368 K368
      refine AW_ret ?_
      cases hm
      exact Ret.of2 (.inl rfl) (rsT _ _ (ow _ _ _) rfl) (rsT _ _ (.sc (.int _ _)) rfl) (hp_sub (List.nil_sublist _) hk367).1 ((own_frz0 _ 0 ot366 hk367 rfl)) (ALe.refl _ _) ⟨rfl, rfl⟩
theorem bd34 : bodied Try.prog 34 = true := by kernel_rfl
def M35_L0 (fuel : Nat) (p0 : TCatalog) (q128 : List Int) (q131 : Int) : Option (Lp ((List Int) × Int) ((List Int) × Int)) :=
  if (decide (q131 < (p0.Snaps.length : Int))) = true then ((ix p0.Snaps q131).bind fun x138 => (M34 fuel x138.Man).bind fun y145 => (M75 fuel ({ b := q128 } : Twriter) x138.Seq 4).bind fun y148 => (M75 fuel ({ b := y148 } : Twriter) (y145.1.length : Int) 4).bind fun y156 => (app y156 y145.1).bind fun z164 => (M76 fuel ({ b := z164 } : Twriter) x138.Locs).bind fun y170 => some (.go (y170, IntKind.wrap .i64 (q131 + 1)))) else some (.brk (q128, q131))
def M35_L2 (fuel : Nat) (p0 : TCatalog) (q330 : List Int) (q333 : Int) : Option (Lp ((List Int) × Int) ((List Int) × Int)) :=
  if (decide (q333 < (p0.Chunks.length : Int))) = true then ((ix p0.Chunks q333).bind fun x340 => after (if x340.Staged = true then (some (.brk 1)) else some (.brk 0) : Option (Lp (Int) (Lp ((List Int) × Int) ((List Int) × Int)))) fun j350 => (app q330 x340.Id.1).bind fun z360 => (M75 fuel ({ b := z360 } : Twriter) j350 1).bind fun y367 => (M75 fuel ({ b := y367 } : Twriter) (x340.Data.length : Int) 1).bind fun y375 => (app y375 x340.Data).bind fun z389 => (M76 fuel ({ b := z389 } : Twriter) x340.Locs).bind fun y395 => some (.go (y395, IntKind.wrap .i64 (q333 + 1)))) else some (.brk (q330, q333))
def M35_L4 (fuel : Nat) (p0 : TCatalog) (q489 : List Int) (q492 : Int) : Option (Lp ((List Int) × Int) ((List Int) × Int)) :=
  if (decide (q492 < (p0.Exps.length : Int))) = true then ((ix p0.Exps q492).bind fun x499 => (M75 fuel ({ b := q489 } : Twriter) x499.Seq 4).bind fun y506 => (M75 fuel ({ b := y506 } : Twriter) x499.Of 4).bind fun y514 => (M76 fuel ({ b := y514 } : Twriter) x499.Locs).bind fun y521 => some (.go (y521, IntKind.wrap .i64 (q492 + 1)))) else some (.brk (q489, q492))
def M35_L6 (fuel : Nat) (p0 : TCatalog) (q631 : List Int) (q634 : Int) : Option (Lp ((List Int) × Int) ((List Int) × Int)) :=
  if (decide (q634 < (p0.Vols.length : Int))) = true then ((ix p0.Vols q634).bind fun x641 => (M75 fuel ({ b := q631 } : Twriter) x641.Pool 1).bind fun y648 => (M75 fuel ({ b := y648 } : Twriter) x641.State 1).bind fun y656 => (M75 fuel ({ b := y656 } : Twriter) x641.Epoch 4).bind fun y664 => (M75 fuel ({ b := y664 } : Twriter) x641.Files 2).bind fun y671 => some (.go (y671, IntKind.wrap .i64 (q634 + 1)))) else some (.brk (q631, q634))
def M35 (fuel : Nat) (p0 : TCatalog) : Option ((List Int) × Int) :=
  (M33 fuel p0).bind fun y6 => if (y6 != 0) = true then (some ([], y6)) else (M75 fuel ({ b := [] } : Twriter) p0.Seq 4).bind fun y19 => (M75 fuel ({ b := y19 } : Twriter) (p0.Snaps.length : Int) 1).bind fun y27 => after (loopM (fun s => M35_L0 fuel p0 s.1 s.2) fuel (y27, 0)) fun ⟨r177, r178⟩ => (M75 fuel ({ b := r177 } : Twriter) (p0.Chunks.length : Int) 2).bind fun y183 => after (loopM (fun s => M35_L2 fuel p0 s.1 s.2) fuel (y183, 0)) fun ⟨r402, r403⟩ => (M75 fuel ({ b := r402 } : Twriter) (p0.Exps.length : Int) 2).bind fun y408 => after (loopM (fun s => M35_L4 fuel p0 s.1 s.2) fuel (y408, 0)) fun ⟨r528, r529⟩ => (M75 fuel ({ b := r528 } : Twriter) (p0.Vols.length : Int) 1).bind fun y534 => after (loopM (fun s => M35_L6 fuel p0 s.1 s.2) fuel (y534, 0)) fun ⟨r678, r679⟩ => (M77 fuel r678).bind fun y684 => some (y684, 0)
set_option maxHeartbeats 4000000 in
set_option maxRecDepth 100000 in
/-- cellarer/catalog.Bytes -/
theorem W35 {fuel : Nat} {p0 : TCatalog} {o : (List Int) × Int} (h : Heap) (hm : M35 fuel p0 = some o) :
    ACalls Try.prog 35 [.agg (c_Catalog p0)] h (fun r h' => r = .tup [.sl none 1 (List.map c_u8 o.1), .sc (.int .i64 o.2)] ∧ h' = h) := by
  refine ACalls_hp 174 [.tmp 2, .tmp 3] Try.func35 rfl rfl rfl rfl ?_
  unfold M35 at hm
  refine AW_k fun K1 H1 => ?_
  refine AW_reg ?_
  refine s_op (a_box (HOk.nil _) rfl rfl fun k2 hk3 => ?_)
  refine s_v (o_as (.sc (.slice _ _ _)) rfl) ?_
  refine s_v (o_as (.sc (.int _ _)) rfl) ?_
  refine s_nil ?_
  refine H1 _ _ ?_
  clear H1 K1
  refine AW_k fun K5 H5 => ?_
  refine AW_reg ?_
  refine s_v (o_ldp (.agg (c_Catalog p0)) ld27 rfl (hp_get 0 hk3 rfl) rfl) ?_
  obtain ⟨y6, hy7, hm⟩ := bind_of hm
  refine s_v (o_call (W33 _ hy7) rfl bd33 rfl) ?_
  refine s_v (o_as (.sc (.int _ _)) rfl) ?_
  refine s_nil ?_
  refine H5 _ _ ?_
  clear H5 K5
  refine AW_k fun K8 H8 => ?_
  refine AW_k fun K9 H9 => ?_
  refine AW_reg ?_
  refine s_v (o_mv (.sc (.int _ _)) rfl) ?_
  refine s_v (o_bi rfl rfl rfl trivial) ?_
  refine s_nil ?_
  refine H9 _ _ ?_
  clear H9 K9
  refine AW_if' rfl (fun hc10 => ?_) (fun hc10 => ?_)
  · replace hm := ite_t hm hc10
    refine AW_k fun K11 H11 => ?_
    refine AW_reg ?_
    refine s_v (o_mv (.sc (.int _ _)) rfl) ?_
    refine s_v (o_as (.sc (.slice _ _ _)) rfl) ?_
    refine s_v (o_as (.sc (.int _ _)) rfl) ?_
    refine s_nil ?_
    refine H11 _ _ ?_
    clear H11 K11
    refine AW_ret ?_
    cases hm
    exact Ret.of2 (.inl rfl) (rsT _ _ (.sc (.slice _ _ _)) rfl) (rsT _ _ (.sc (.int _ _)) rfl) (hp_sub (List.nil_sublist _) hk3).1 (nil_lem _) (ALe.refl _ _) ⟨rfl, rfl⟩
  · replace hm := ite_f hm hc10
    refine AW_skip ?_
    refine H8 _ _ ?_
    clear H8 K8
    refine AW_k fun K12 H12 => ?_
    refine AW_reg ?_
    refine s_v (o_bld ([.sc (.slice none 0 0)]) bt116 rfl) ?_
    refine s_op (a_box hk3 rfl rfl fun k13 hk14 => ?_)
    obtain ⟨hk17, le0⟩ := LeF.obj (L := (none, .tok 5 1 (([] : List Int).length * 1)) :: _) (n := 174) (f := _) 1 ([ow none 1 (List.map c_u8 [])]) (HOk.none hk14) rfl (.cons (ow_nil (c := c_u8) _ 1) (.nil))
    refine le0.aops ?_
    clear le0
    refine s_v (o_as (.ptr _ _) rfl) ?_
    refine s_nil ?_
    refine H12 _ _ ?_
    clear H12 K12
    refine AW_k fun K18 H18 => ?_
    refine AW_reg ?_
    refine s_v (o_mv (.ptr _ _) rfl) ?_
    refine s_v (o_flp fd27_0 rfl rfl) ?_
    refine s_v (o_ldp (.sc (.int .i64 p0.Seq)) ld3 rfl (hp_get 2 hk17 rfl) rfl) ?_
    obtain ⟨y19, hy20, hm⟩ := bind_of hm
    refine s_op (AOp_eqh ((hp_perm ((.swap _ _ _) : List.Perm (α := Option Key × Ent) [(none, .tok 5 1 (([] : List Int).length * 1)), (some k13, .obj 116 ([ow none 1 (List.map c_u8 [])])), (some k2, .obj 27 (c_Catalog p0))] ([(some k13, .obj 116 ([ow none 1 (List.map c_u8 [])])), (none, .tok 5 1 (([] : List Int).length * 1))] ++ [(some k2, .obj 27 (c_Catalog p0))])) hk17).1.trans (hp_app h [(some k13, .obj 116 ([ow none 1 (List.map c_u8 [])])), (none, .tok 5 1 (([] : List Int).length * 1))] [(some k2, .obj 27 (c_Catalog p0))]).symm) (a_call (W75 (hp h [(some k2, .obj 27 (c_Catalog p0))]) (fun _ => rfl) (HOk_spl [(some k13, .obj 116 ([ow none 1 (List.map c_u8 [])])), (none, .tok 5 1 (([] : List Int).length * 1))] [(some k2, .obj 27 (c_Catalog p0))] (hp_perm ((.swap _ _ _) : List.Perm (α := Option Key × Ent) [(none, .tok 5 1 (([] : List Int).length * 1)), (some k13, .obj 116 ([ow none 1 (List.map c_u8 [])])), (some k2, .obj 27 (c_Catalog p0))] ([(some k13, .obj 116 ([ow none 1 (List.map c_u8 [])])), (none, .tok 5 1 (([] : List Int).length * 1))] ++ [(some k2, .obj 27 (c_Catalog p0))])) hk17).2).2 hy20) rfl bd75 rfl ?_))
    rintro x h' ⟨tg21, ot22, hk23, rfl, rfl⟩
    have hk25 := hp_perm ((.swap _ _ _) : List.Perm (α := Option Key × Ent) ([(some k13, .obj 116 ([ow tg21 1 (List.map c_u8 y19)])), (tg21, .tok 5 1 ((y19 : List Int).length * 1))] ++ [(some k2, .obj 27 (c_Catalog p0))]) [(tg21, .tok 5 1 ((y19 : List Int).length * 1)), (some k13, .obj 116 ([ow tg21 1 (List.map c_u8 y19)])), (some k2, .obj 27 (c_Catalog p0))]) (HOk_app (HOk_spl [(some k13, .obj 116 ([ow none 1 (List.map c_u8 [])])), (none, .tok 5 1 (([] : List Int).length * 1))] [(some k2, .obj 27 (c_Catalog p0))] (hp_perm ((.swap _ _ _) : List.Perm (α := Option Key × Ent) [(none, .tok 5 1 (([] : List Int).length * 1)), (some k13, .obj 116 ([ow none 1 (List.map c_u8 [])])), (some k2, .obj 27 (c_Catalog p0))] ([(some k13, .obj 116 ([ow none 1 (List.map c_u8 [])])), (none, .tok 5 1 (([] : List Int).length * 1))] ++ [(some k2, .obj 27 (c_Catalog p0))])) hk17).2).1 hk23)
    refine AOps_eqh ((hp_app h [(some k13, .obj 116 ([ow tg21 1 (List.map c_u8 y19)])), (tg21, .tok 5 1 ((y19 : List Int).length * 1))] [(some k2, .obj 27 (c_Catalog p0))]).trans hk25.1) ?_
    refine s_nil ?_
    refine H18 _ _ ?_
    clear H18 K18
    refine AW_k fun K26 H26 => ?_
    refine AW_reg ?_
    refine s_v (o_mv (.ptr _ _) rfl) ?_
    refine s_v (o_flp fd27_1 rfl rfl) ?_
    refine s_v (o_ldp (.sl none 4 (List.map c_Snap p0.Snaps)) ld22 rfl (hp_get 2 hk25.2 rfl) rfl) ?_
    refine s_v (o_lenm ln22 rfl) ?_
    obtain ⟨y27, hy28, hm⟩ := bind_of hm
    refine s_op (AOp_eqh ((hp_perm ((.swap _ _ _) : List.Perm (α := Option Key × Ent) [(tg21, .tok 5 1 ((y19 : List Int).length * 1)), (some k13, .obj 116 ([ow tg21 1 (List.map c_u8 y19)])), (some k2, .obj 27 (c_Catalog p0))] ([(some k13, .obj 116 ([ow tg21 1 (List.map c_u8 y19)])), (tg21, .tok 5 1 ((y19 : List Int).length * 1))] ++ [(some k2, .obj 27 (c_Catalog p0))])) hk25.2).1.trans (hp_app h [(some k13, .obj 116 ([ow tg21 1 (List.map c_u8 y19)])), (tg21, .tok 5 1 ((y19 : List Int).length * 1))] [(some k2, .obj 27 (c_Catalog p0))]).symm) (a_call (W75 (hp h [(some k2, .obj 27 (c_Catalog p0))]) ot22 (HOk_spl [(some k13, .obj 116 ([ow tg21 1 (List.map c_u8 y19)])), (tg21, .tok 5 1 ((y19 : List Int).length * 1))] [(some k2, .obj 27 (c_Catalog p0))] (hp_perm ((.swap _ _ _) : List.Perm (α := Option Key × Ent) [(tg21, .tok 5 1 ((y19 : List Int).length * 1)), (some k13, .obj 116 ([ow tg21 1 (List.map c_u8 y19)])), (some k2, .obj 27 (c_Catalog p0))] ([(some k13, .obj 116 ([ow tg21 1 (List.map c_u8 y19)])), (tg21, .tok 5 1 ((y19 : List Int).length * 1))] ++ [(some k2, .obj 27 (c_Catalog p0))])) hk25.2).2).2 hy28) rfl bd75 rfl ?_))
    rintro x h' ⟨tg29, ot30, hk31, rfl, rfl⟩
    have hk33 := hp_perm ((.swap _ _ _) : List.Perm (α := Option Key × Ent) ([(some k13, .obj 116 ([ow tg29 1 (List.map c_u8 y27)])), (tg29, .tok 5 1 ((y27 : List Int).length * 1))] ++ [(some k2, .obj 27 (c_Catalog p0))]) [(tg29, .tok 5 1 ((y27 : List Int).length * 1)), (some k13, .obj 116 ([ow tg29 1 (List.map c_u8 y27)])), (some k2, .obj 27 (c_Catalog p0))]) (HOk_app (HOk_spl [(some k13, .obj 116 ([ow tg21 1 (List.map c_u8 y19)])), (tg21, .tok 5 1 ((y19 : List Int).length * 1))] [(some k2, .obj 27 (c_Catalog p0))] (hp_perm ((.swap _ _ _) : List.Perm (α := Option Key × Ent) [(tg21, .tok 5 1 ((y19 : List Int).length * 1)), (some k13, .obj 116 ([ow tg21 1 (List.map c_u8 y19)])), (some k2, .obj 27 (c_Catalog p0))] ([(some k13, .obj 116 ([ow tg21 1 (List.map c_u8 y19)])), (tg21, .tok 5 1 ((y19 : List Int).length * 1))] ++ [(some k2, .obj 27 (c_Catalog p0))])) hk25.2).2).1 hk31)
    refine AOps_eqh ((hp_app h [(some k13, .obj 116 ([ow tg29 1 (List.map c_u8 y27)])), (tg29, .tok 5 1 ((y27 : List Int).length * 1))] [(some k2, .obj 27 (c_Catalog p0))]).trans hk33.1) ?_
    refine s_nil ?_
    refine H26 _ _ ?_
    clear H26 K26
    refine AW_k fun K34 H34 => ?_
    refine AW_k fun K35 H35 => ?_
    refine AW_reg ?_
    refine s_v (o_flp fd27_1 rfl rfl) ?_
    refine s_v (o_ldp (.sl none 4 (List.map c_Snap p0.Snaps)) ld22 rfl (hp_get 2 hk33.2 rfl) rfl) ?_
    refine s_v (o_lenm ln22 rfl) ?_
    refine s_v (o_mv (.sc (.int _ _)) rfl) ?_
    refine s_nil ?_
    refine H35 _ _ ?_
    clear H35 K35
    refine AW_loopG (n := 174) hm (σ := (List Int) × Int) (τ := Option Key) (fun g s => HOk h [(g, .tok 5 1 ((s.1 : List Int).length * 1)), (some k13, .obj 116 ([ow g 1 (List.map c_u8 s.1)])), (some k2, .obj 27 (c_Catalog p0))] ∧ (g = none → s.1 = [])) (fun g s => kp (kp (kp (kp (kp (k0) 36 (.sc (.int .i64 s.2))) 35 (.sc (.int .i64 (p0.Snaps.length : Int)))) 34 (.sl none 4 (List.map c_Snap p0.Snaps))) 5 (.ptr k13 0)) 1 (.ptr k2 0)) (fun g s => hp h [(g, .tok 5 1 ((s.1 : List Int).length * 1)), (some k13, .obj 116 ([ow g 1 (List.map c_u8 s.1)])), (some k2, .obj 27 (c_Catalog p0))]) tg29 (⟨hk33.2, ot30⟩) (LeF.fm (Sub.refl _) (.cons (ALe.refl _ _) (.cons (ALe.refl _ _) (.cons (ALe.refl _ _) (.cons (ALe.refl _ _) (.cons (ALe.refl _ _) (.nil))))))) ?_ ?_
    · rintro tg129 ⟨q128, q131⟩ x ⟨hk132, ot130⟩ hm
      replace hm : M35_L0 fuel p0 q128 q131 = some x := hm
      unfold M35_L0 at hm
      refine AW_k fun K133 H133 => ?_
      refine AW_reg ?_
      refine s_v (o_bi rfl rfl rfl trivial) ?_
      refine s_nil ?_
      refine H133 _ _ ?_
      clear H133 K133
      refine AW_k fun K134 H134 => ?_
      refine AW_if' rfl (fun hc135 => ?_) (fun hc135 => ?_)
      · replace hm := ite_t hm hc135
        refine AW_skip ?_
        refine H134 _ _ ?_
        clear H134 K134
        refine AW_k fun K136 H136 => ?_
        refine AW_block ?_
        refine AW_k fun K137 H137 => ?_
        refine AW_reg ?_
        obtain ⟨x138, hx139, hm⟩ := bind_of hm
        refine s_v (o_ix hx139 el22 rfl rfl) ?_
        refine s_v (o_ld (.agg (c_Snap x138)) ld60 rfl rfl) ?_
        refine s_op (a_alloc ([.sc (.int .i64 0), .sc (.string ByteArray.empty), .sc (.slice none 0 0), .sc (.slice none 0 0)]) hk132 zr60 rfl rfl fun k140 hk141 => ?_)
        refine s_op (a_store 0 (c_Snap x138) hk141 rfl rfl rfl rfl sz60 rfl rfl fun hk143 => ?_)
        refine s_nil ?_
        refine H137 _ _ ?_
        clear H137 K137
        refine AW_k fun K144 H144 => ?_
        refine AW_reg ?_
        refine s_v (o_flp fd60_1 rfl rfl) ?_
        refine s_v (o_ldp (.agg (c_Manifest x138.Man)) ld57 rfl (hp_get 0 hk143 rfl) rfl) ?_
        obtain ⟨y145, hy146, hm⟩ := bind_of hm
        refine s_v (o_call (W34 _ hy146) rfl bd34 rfl) ?_
        refine s_v (o_mv (.tup _) rfl) ?_
        refine s_v (o_ex (.sl _ _ _) rfl rfl) ?_
        refine s_v (o_ex (.sc (.int _ _)) rfl rfl) ?_
        refine s_v (o_as (.sl _ _ _) rfl) ?_
        refine s_v (o_as (.sc (.int _ _)) rfl) ?_
        refine s_nil ?_
        refine H144 _ _ ?_
        clear H144 K144
        refine AW_k fun K147 H147 => ?_
        refine AW_reg ?_
        refine s_v (o_mv (.ptr _ _) rfl) ?_
        refine s_v (o_flp fd60_0 rfl rfl) ?_
        refine s_v (o_ldp (.sc (.int .i64 x138.Seq)) ld3 rfl (hp_get 0 hk143 rfl) rfl) ?_
        obtain ⟨y148, hy149, hm⟩ := bind_of hm
        refine s_op (AOp_eqh ((hp_perm ((.trans ((.trans (.cons _ (.swap _ _ _)) (.swap _ _ _))) (.cons _ (.swap _ _ _))) : List.Perm (α := Option Key × Ent) [(some k140, .obj 60 (c_Snap x138)), (tg129, .tok 5 1 ((q128 : List Int).length * 1)), (some k13, .obj 116 ([ow tg129 1 (List.map c_u8 q128)])), (some k2, .obj 27 (c_Catalog p0))] ([(some k13, .obj 116 ([ow tg129 1 (List.map c_u8 q128)])), (tg129, .tok 5 1 ((q128 : List Int).length * 1))] ++ [(some k140, .obj 60 (c_Snap x138)), (some k2, .obj 27 (c_Catalog p0))])) hk143).1.trans (hp_app h [(some k13, .obj 116 ([ow tg129 1 (List.map c_u8 q128)])), (tg129, .tok 5 1 ((q128 : List Int).length * 1))] [(some k140, .obj 60 (c_Snap x138)), (some k2, .obj 27 (c_Catalog p0))]).symm) (a_call (W75 (hp h [(some k140, .obj 60 (c_Snap x138)), (some k2, .obj 27 (c_Catalog p0))]) ot130 (HOk_spl [(some k13, .obj 116 ([ow tg129 1 (List.map c_u8 q128)])), (tg129, .tok 5 1 ((q128 : List Int).length * 1))] [(some k140, .obj 60 (c_Snap x138)), (some k2, .obj 27 (c_Catalog p0))] (hp_perm ((.trans ((.trans (.cons _ (.swap _ _ _)) (.swap _ _ _))) (.cons _ (.swap _ _ _))) : List.Perm (α := Option Key × Ent) [(some k140, .obj 60 (c_Snap x138)), (tg129, .tok 5 1 ((q128 : List Int).length * 1)), (some k13, .obj 116 ([ow tg129 1 (List.map c_u8 q128)])), (some k2, .obj 27 (c_Catalog p0))] ([(some k13, .obj 116 ([ow tg129 1 (List.map c_u8 q128)])), (tg129, .tok 5 1 ((q128 : List Int).length * 1))] ++ [(some k140, .obj 60 (c_Snap x138)), (some k2, .obj 27 (c_Catalog p0))])) hk143).2).2 hy149) rfl bd75 rfl ?_))
        rintro x h' ⟨tg150, ot151, hk152, rfl, rfl⟩
        have hk154 := hp_perm ((.trans ((.trans (.cons _ (.swap _ _ _)) (.swap _ _ _))) (.cons _ (.swap _ _ _))) : List.Perm (α := Option Key × Ent) ([(some k13, .obj 116 ([ow tg150 1 (List.map c_u8 y148)])), (tg150, .tok 5 1 ((y148 : List Int).length * 1))] ++ [(some k140, .obj 60 (c_Snap x138)), (some k2, .obj 27 (c_Catalog p0))]) [(some k140, .obj 60 (c_Snap x138)), (tg150, .tok 5 1 ((y148 : List Int).length * 1)), (some k13, .obj 116 ([ow tg150 1 (List.map c_u8 y148)])), (some k2, .obj 27 (c_Catalog p0))]) (HOk_app (HOk_spl [(some k13, .obj 116 ([ow tg129 1 (List.map c_u8 q128)])), (tg129, .tok 5 1 ((q128 : List Int).length * 1))] [(some k140, .obj 60 (c_Snap x138)), (some k2, .obj 27 (c_Catalog p0))] (hp_perm ((.trans ((.trans (.cons _ (.swap _ _ _)) (.swap _ _ _))) (.cons _ (.swap _ _ _))) : List.Perm (α := Option Key × Ent) [(some k140, .obj 60 (c_Snap x138)), (tg129, .tok 5 1 ((q128 : List Int).length * 1)), (some k13, .obj 116 ([ow tg129 1 (List.map c_u8 q128)])), (some k2, .obj 27 (c_Catalog p0))] ([(some k13, .obj 116 ([ow tg129 1 (List.map c_u8 q128)])), (tg129, .tok 5 1 ((q128 : List Int).length * 1))] ++ [(some k140, .obj 60 (c_Snap x138)), (some k2, .obj 27 (c_Catalog p0))])) hk143).2).1 hk152)
        refine AOps_eqh ((hp_app h [(some k13, .obj 116 ([ow tg150 1 (List.map c_u8 y148)])), (tg150, .tok 5 1 ((y148 : List Int).length * 1))] [(some k140, .obj 60 (c_Snap x138)), (some k2, .obj 27 (c_Catalog p0))]).trans hk154.1) ?_
        refine s_nil ?_
        refine H147 _ _ ?_
        clear H147 K147
        refine AW_k fun K155 H155 => ?_
        refine AW_reg ?_
        refine s_v (o_mv (.ptr _ _) rfl) ?_
        refine s_v (o_mv (.sl _ _ _) rfl) ?_
        refine s_v (o_lenm ln52 rfl) ?_
        obtain ⟨y156, hy157, hm⟩ := bind_of hm
        refine s_op (AOp_eqh ((hp_perm ((.trans ((.trans (.cons _ (.swap _ _ _)) (.swap _ _ _))) (.cons _ (.swap _ _ _))) : List.Perm (α := Option Key × Ent) [(some k140, .obj 60 (c_Snap x138)), (tg150, .tok 5 1 ((y148 : List Int).length * 1)), (some k13, .obj 116 ([ow tg150 1 (List.map c_u8 y148)])), (some k2, .obj 27 (c_Catalog p0))] ([(some k13, .obj 116 ([ow tg150 1 (List.map c_u8 y148)])), (tg150, .tok 5 1 ((y148 : List Int).length * 1))] ++ [(some k140, .obj 60 (c_Snap x138)), (some k2, .obj 27 (c_Catalog p0))])) hk154.2).1.trans (hp_app h [(some k13, .obj 116 ([ow tg150 1 (List.map c_u8 y148)])), (tg150, .tok 5 1 ((y148 : List Int).length * 1))] [(some k140, .obj 60 (c_Snap x138)), (some k2, .obj 27 (c_Catalog p0))]).symm) (a_call (W75 (hp h [(some k140, .obj 60 (c_Snap x138)), (some k2, .obj 27 (c_Catalog p0))]) ot151 (HOk_spl [(some k13, .obj 116 ([ow tg150 1 (List.map c_u8 y148)])), (tg150, .tok 5 1 ((y148 : List Int).length * 1))] [(some k140, .obj 60 (c_Snap x138)), (some k2, .obj 27 (c_Catalog p0))] (hp_perm ((.trans ((.trans (.cons _ (.swap _ _ _)) (.swap _ _ _))) (.cons _ (.swap _ _ _))) : List.Perm (α := Option Key × Ent) [(some k140, .obj 60 (c_Snap x138)), (tg150, .tok 5 1 ((y148 : List Int).length * 1)), (some k13, .obj 116 ([ow tg150 1 (List.map c_u8 y148)])), (some k2, .obj 27 (c_Catalog p0))] ([(some k13, .obj 116 ([ow tg150 1 (List.map c_u8 y148)])), (tg150, .tok 5 1 ((y148 : List Int).length * 1))] ++ [(some k140, .obj 60 (c_Snap x138)), (some k2, .obj 27 (c_Catalog p0))])) hk154.2).2).2 hy157) rfl bd75 rfl ?_))
        rintro x h' ⟨tg158, ot159, hk160, rfl, rfl⟩
        have hk162 := hp_perm ((.trans ((.trans (.cons _ (.swap _ _ _)) (.swap _ _ _))) (.cons _ (.swap _ _ _))) : List.Perm (α := Option Key × Ent) ([(some k13, .obj 116 ([ow tg158 1 (List.map c_u8 y156)])), (tg158, .tok 5 1 ((y156 : List Int).length * 1))] ++ [(some k140, .obj 60 (c_Snap x138)), (some k2, .obj 27 (c_Catalog p0))]) [(some k140, .obj 60 (c_Snap x138)), (tg158, .tok 5 1 ((y156 : List Int).length * 1)), (some k13, .obj 116 ([ow tg158 1 (List.map c_u8 y156)])), (some k2, .obj 27 (c_Catalog p0))]) (HOk_app (HOk_spl [(some k13, .obj 116 ([ow tg150 1 (List.map c_u8 y148)])), (tg150, .tok 5 1 ((y148 : List Int).length * 1))] [(some k140, .obj 60 (c_Snap x138)), (some k2, .obj 27 (c_Catalog p0))] (hp_perm ((.trans ((.trans (.cons _ (.swap _ _ _)) (.swap _ _ _))) (.cons _ (.swap _ _ _))) : List.Perm (α := Option Key × Ent) [(some k140, .obj 60 (c_Snap x138)), (tg150, .tok 5 1 ((y148 : List Int).length * 1)), (some k13, .obj 116 ([ow tg150 1 (List.map c_u8 y148)])), (some k2, .obj 27 (c_Catalog p0))] ([(some k13, .obj 116 ([ow tg150 1 (List.map c_u8 y148)])), (tg150, .tok 5 1 ((y148 : List Int).length * 1))] ++ [(some k140, .obj 60 (c_Snap x138)), (some k2, .obj 27 (c_Catalog p0))])) hk154.2).2).1 hk160)
        refine AOps_eqh ((hp_app h [(some k13, .obj 116 ([ow tg158 1 (List.map c_u8 y156)])), (tg158, .tok 5 1 ((y156 : List Int).length * 1))] [(some k140, .obj 60 (c_Snap x138)), (some k2, .obj 27 (c_Catalog p0))]).trans hk162.1) ?_
        refine s_nil ?_
        refine H155 _ _ ?_
        clear H155 K155
        refine AW_k fun K163 H163 => ?_
        refine AW_reg ?_
        refine s_v (o_mv (.ptr _ _) rfl) ?_
        refine s_v (o_mv (.ptr _ _) rfl) ?_
        refine s_v (o_nil rfl) ?_
        refine s_v (o_flp fd116_0 rfl rfl) ?_
        refine s_v (o_ldp (ow tg158 1 (List.map c_u8 y156)) ld52 rfl (hp_get 2 hk162.2 rfl) rfl) ?_
        refine s_v (o_mv (.sl _ _ _) rfl) ?_
        obtain ⟨z164, hz165, hm⟩ := bind_of hm
        refine s_op (a_app (c := c_u8) 1 hz165 et52 rfl rfl rfl ot159 hk162.2 rfl fun tg166 ot167 hk168 => ?_)
        refine s_v (o_nil rfl) ?_
        refine s_v (o_flp fd116_0 rfl rfl) ?_
        refine s_op (a_store 2 ([ow tg166 1 (List.map c_u8 z164)]) hk168 rfl rfl (cellsOf_ow rfl) (all_ow _ _ _) sz52 rfl rfl fun hk169 => ?_)
        refine s_nil ?_
        refine H163 _ _ ?_
        clear H163 K163
        refine AW_reg ?_
        refine s_v (o_mv (.ptr _ _) rfl) ?_
        refine s_v (o_flp fd60_2 rfl rfl) ?_
        refine s_v (o_ldp (.sl none 4 (List.map c_Loc x138.Locs)) ld58 rfl (hp_get 0 hk169 rfl) rfl) ?_
        obtain ⟨y170, hy171, hm⟩ := bind_of hm
        refine s_op (AOp_eqh ((hp_perm ((.trans ((.trans (.cons _ (.swap _ _ _)) (.swap _ _ _))) (.cons _ (.swap _ _ _))) : List.Perm (α := Option Key × Ent) [(some k140, .obj 60 (c_Snap x138)), (tg166, .tok 5 1 ((z164 : List Int).length * 1)), (some k13, .obj 116 ([ow tg166 1 (List.map c_u8 z164)])), (some k2, .obj 27 (c_Catalog p0))] ([(some k13, .obj 116 ([ow tg166 1 (List.map c_u8 z164)])), (tg166, .tok 5 1 ((z164 : List Int).length * 1))] ++ [(some k140, .obj 60 (c_Snap x138)), (some k2, .obj 27 (c_Catalog p0))])) hk169).1.trans (hp_app h [(some k13, .obj 116 ([ow tg166 1 (List.map c_u8 z164)])), (tg166, .tok 5 1 ((z164 : List Int).length * 1))] [(some k140, .obj 60 (c_Snap x138)), (some k2, .obj 27 (c_Catalog p0))]).symm) (a_call (W76 (hp h [(some k140, .obj 60 (c_Snap x138)), (some k2, .obj 27 (c_Catalog p0))]) ot167 (HOk_spl [(some k13, .obj 116 ([ow tg166 1 (List.map c_u8 z164)])), (tg166, .tok 5 1 ((z164 : List Int).length * 1))] [(some k140, .obj 60 (c_Snap x138)), (some k2, .obj 27 (c_Catalog p0))] (hp_perm ((.trans ((.trans (.cons _ (.swap _ _ _)) (.swap _ _ _))) (.cons _ (.swap _ _ _))) : List.Perm (α := Option Key × Ent) [(some k140, .obj 60 (c_Snap x138)), (tg166, .tok 5 1 ((z164 : List Int).length * 1)), (some k13, .obj 116 ([ow tg166 1 (List.map c_u8 z164)])), (some k2, .obj 27 (c_Catalog p0))] ([(some k13, .obj 116 ([ow tg166 1 (List.map c_u8 z164)])), (tg166, .tok 5 1 ((z164 : List Int).length * 1))] ++ [(some k140, .obj 60 (c_Snap x138)), (some k2, .obj 27 (c_Catalog p0))])) hk169).2).2 hy171) rfl bd76 rfl ?_))
        rintro x h' ⟨tg172, ot173, hk174, rfl, rfl⟩
        have hk176 := hp_perm ((.trans ((.trans (.cons _ (.swap _ _ _)) (.swap _ _ _))) (.cons _ (.swap _ _ _))) : List.Perm (α := Option Key × Ent) ([(some k13, .obj 116 ([ow tg172 1 (List.map c_u8 y170)])), (tg172, .tok 5 1 ((y170 : List Int).length * 1))] ++ [(some k140, .obj 60 (c_Snap x138)), (some k2, .obj 27 (c_Catalog p0))]) [(some k140, .obj 60 (c_Snap x138)), (tg172, .tok 5 1 ((y170 : List Int).length * 1)), (some k13, .obj 116 ([ow tg172 1 (List.map c_u8 y170)])), (some k2, .obj 27 (c_Catalog p0))]) (HOk_app (HOk_spl [(some k13, .obj 116 ([ow tg166 1 (List.map c_u8 z164)])), (tg166, .tok 5 1 ((z164 : List Int).length * 1))] [(some k140, .obj 60 (c_Snap x138)), (some k2, .obj 27 (c_Catalog p0))] (hp_perm ((.trans ((.trans (.cons _ (.swap _ _ _)) (.swap _ _ _))) (.cons _ (.swap _ _ _))) : List.Perm (α := Option Key × Ent) [(some k140, .obj 60 (c_Snap x138)), (tg166, .tok 5 1 ((z164 : List Int).length * 1)), (some k13, .obj 116 ([ow tg166 1 (List.map c_u8 z164)])), (some k2, .obj 27 (c_Catalog p0))] ([(some k13, .obj 116 ([ow tg166 1 (List.map c_u8 z164)])), (tg166, .tok 5 1 ((z164 : List Int).length * 1))] ++ [(some k140, .obj 60 (c_Snap x138)), (some k2, .obj 27 (c_Catalog p0))])) hk169).2).1 hk174)
        refine AOps_eqh ((hp_app h [(some k13, .obj 116 ([ow tg172 1 (List.map c_u8 y170)])), (tg172, .tok 5 1 ((y170 : List Int).length * 1))] [(some k140, .obj 60 (c_Snap x138)), (some k2, .obj 27 (c_Catalog p0))]).trans hk176.1) ?_
        refine s_nil ?_
        refine H136 _ _ ?_
        clear H136 K136
        refine AW_reg ?_
        refine s_v (o_bi rfl rfl rfl trivial) ?_
        refine s_v (o_mv (.sc (.int _ _)) rfl) ?_
        refine s_nil ?_
        cases hm
        exact ⟨rfl, tg172, ⟨(hp_sub (.cons _ (.refl _)) hk176.2).2, ot173⟩, LeF.fm ((hp_sub (.cons _ (.refl _)) hk176.2).1) (.cons (ALe.refl _ _) (.cons (ALe.refl _ _) (.cons (ALe.refl _ _) (.cons (ALe.refl _ _) (.cons (ALe.refl _ _) (.nil))))))⟩
      · replace hm := ite_f hm hc135
        refine AW_exit ?_
        refine Seq_exit ?_
        cases hm
        exact ⟨rfl, tg129, ⟨hk132, ot130⟩, LeF.fm (Sub.refl _) (.cons (ALe.refl _ _) (.cons (ALe.refl _ _) (.cons (ALe.refl _ _) (.cons (ALe.refl _ _) (.cons (ALe.refl _ _) (.nil))))))⟩
    · rintro tg179 ⟨r177, r178⟩ fr' h' ⟨hk181, ot180⟩ hm le
      refine H34 _ _ (le.aw ?_)
      clear le H34 K34
      refine AW_k fun K182 H182 => ?_
      refine AW_reg ?_
      refine s_v (o_mv (.ptr _ _) rfl) ?_
      refine s_v (o_flp fd27_2 rfl rfl) ?_
      refine s_v (o_ldp (.sl none 35 (List.map c_Chunk p0.Chunks)) ld23 rfl (hp_get 2 hk181 rfl) rfl) ?_
      refine s_v (o_lenm ln23 rfl) ?_
      obtain ⟨y183, hy184, hm⟩ := bind_of hm
      refine s_op (AOp_eqh ((hp_perm ((.swap _ _ _) : List.Perm (α := Option Key × Ent) [(tg179, .tok 5 1 ((r177 : List Int).length * 1)), (some k13, .obj 116 ([ow tg179 1 (List.map c_u8 r177)])), (some k2, .obj 27 (c_Catalog p0))] ([(some k13, .obj 116 ([ow tg179 1 (List.map c_u8 r177)])), (tg179, .tok 5 1 ((r177 : List Int).length * 1))] ++ [(some k2, .obj 27 (c_Catalog p0))])) hk181).1.trans (hp_app h [(some k13, .obj 116 ([ow tg179 1 (List.map c_u8 r177)])), (tg179, .tok 5 1 ((r177 : List Int).length * 1))] [(some k2, .obj 27 (c_Catalog p0))]).symm) (a_call (W75 (hp h [(some k2, .obj 27 (c_Catalog p0))]) ot180 (HOk_spl [(some k13, .obj 116 ([ow tg179 1 (List.map c_u8 r177)])), (tg179, .tok 5 1 ((r177 : List Int).length * 1))] [(some k2, .obj 27 (c_Catalog p0))] (hp_perm ((.swap _ _ _) : List.Perm (α := Option Key × Ent) [(tg179, .tok 5 1 ((r177 : List Int).length * 1)), (some k13, .obj 116 ([ow tg179 1 (List.map c_u8 r177)])), (some k2, .obj 27 (c_Catalog p0))] ([(some k13, .obj 116 ([ow tg179 1 (List.map c_u8 r177)])), (tg179, .tok 5 1 ((r177 : List Int).length * 1))] ++ [(some k2, .obj 27 (c_Catalog p0))])) hk181).2).2 hy184) rfl bd75 rfl ?_))
      rintro x h' ⟨tg185, ot186, hk187, rfl, rfl⟩
      have hk189 := hp_perm ((.swap _ _ _) : List.Perm (α := Option Key × Ent) ([(some k13, .obj 116 ([ow tg185 1 (List.map c_u8 y183)])), (tg185, .tok 5 1 ((y183 : List Int).length * 1))] ++ [(some k2, .obj 27 (c_Catalog p0))]) [(tg185, .tok 5 1 ((y183 : List Int).length * 1)), (some k13, .obj 116 ([ow tg185 1 (List.map c_u8 y183)])), (some k2, .obj 27 (c_Catalog p0))]) (HOk_app (HOk_spl [(some k13, .obj 116 ([ow tg179 1 (List.map c_u8 r177)])), (tg179, .tok 5 1 ((r177 : List Int).length * 1))] [(some k2, .obj 27 (c_Catalog p0))] (hp_perm ((.swap _ _ _) : List.Perm (α := Option Key × Ent) [(tg179, .tok 5 1 ((r177 : List Int).length * 1)), (some k13, .obj 116 ([ow tg179 1 (List.map c_u8 r177)])), (some k2, .obj 27 (c_Catalog p0))] ([(some k13, .obj 116 ([ow tg179 1 (List.map c_u8 r177)])), (tg179, .tok 5 1 ((r177 : List Int).length * 1))] ++ [(some k2, .obj 27 (c_Catalog p0))])) hk181).2).1 hk187)
      refine AOps_eqh ((hp_app h [(some k13, .obj 116 ([ow tg185 1 (List.map c_u8 y183)])), (tg185, .tok 5 1 ((y183 : List Int).length * 1))] [(some k2, .obj 27 (c_Catalog p0))]).trans hk189.1) ?_
      refine s_nil ?_
      refine H182 _ _ ?_
      clear H182 K182
      refine AW_k fun K190 H190 => ?_
      refine AW_k fun K191 H191 => ?_
      refine AW_reg ?_
      refine s_v (o_flp fd27_2 rfl rfl) ?_
      refine s_v (o_ldp (.sl none 35 (List.map c_Chunk p0.Chunks)) ld23 rfl (hp_get 2 hk189.2 rfl) rfl) ?_
      refine s_v (o_lenm ln23 rfl) ?_
      refine s_v (o_mv (.sc (.int _ _)) rfl) ?_
      refine s_nil ?_
      refine H191 _ _ ?_
      clear H191 K191
      refine AW_loopG (n := 174) hm (σ := (List Int) × Int) (τ := Option Key) (fun g s => HOk h [(g, .tok 5 1 ((s.1 : List Int).length * 1)), (some k13, .obj 116 ([ow g 1 (List.map c_u8 s.1)])), (some k2, .obj 27 (c_Catalog p0))] ∧ (g = none → s.1 = [])) (fun g s => kp (kp (kp (kp (kp (k0) 76 (.sc (.int .i64 s.2))) 75 (.sc (.int .i64 (p0.Chunks.length : Int)))) 74 (.sl none 35 (List.map c_Chunk p0.Chunks))) 5 (.ptr k13 0)) 1 (.ptr k2 0)) (fun g s => hp h [(g, .tok 5 1 ((s.1 : List Int).length * 1)), (some k13, .obj 116 ([ow g 1 (List.map c_u8 s.1)])), (some k2, .obj 27 (c_Catalog p0))]) tg185 (⟨hk189.2, ot186⟩) (LeF.fm (Sub.refl _) (.cons (ALe.refl _ _) (.cons (ALe.refl _ _) (.cons (ALe.refl _ _) (.cons (ALe.refl _ _) (.cons (ALe.refl _ _) (.nil))))))) ?_ ?_
      · rintro tg331 ⟨q330, q333⟩ x ⟨hk334, ot332⟩ hm
        replace hm : M35_L2 fuel p0 q330 q333 = some x := hm
        unfold M35_L2 at hm
        refine AW_k fun K335 H335 => ?_
        refine AW_reg ?_
        refine s_v (o_bi rfl rfl rfl trivial) ?_
        refine s_nil ?_
        refine H335 _ _ ?_
        clear H335 K335
        refine AW_k fun K336 H336 => ?_
        refine AW_if' rfl (fun hc337 => ?_) (fun hc337 => ?_)
        · replace hm := ite_t hm hc337
          refine AW_skip ?_
          refine H336 _ _ ?_
          clear H336 K336
          refine AW_k fun K338 H338 => ?_
          refine AW_block ?_
          refine AW_k fun K339 H339 => ?_
          refine AW_reg ?_
          obtain ⟨x340, hx341, hm⟩ := bind_of hm
          refine s_v (o_ix hx341 el23 rfl rfl) ?_
          refine s_v (o_ld (.agg (c_Chunk x340)) ld63 rfl rfl) ?_
          refine s_op (a_alloc (c_id idZ ++ [.sc (.bool false), .sc (.slice none 0 0), .sc (.slice none 0 0)]) hk334 zr63 rfl rfl fun k342 hk343 => ?_)
          refine s_op (a_store 0 (c_Chunk x340) hk343 rfl rfl rfl rfl sz63 rfl rfl fun hk345 => ?_)
          refine s_nil ?_
          refine H339 _ _ ?_
          clear H339 K339
          refine AW_k fun K346 H346 => ?_
          refine AW_reg ?_
          refine s_v (o_as (.sc (.int _ _)) rfl) ?_
          refine s_nil ?_
          refine H346 _ _ ?_
          clear H346 K346
          refine AW_k fun K347 H347 => ?_
          refine AW_k fun K348 H348 => ?_
          refine AW_reg ?_
          refine s_v (o_flp fd63_1 rfl rfl) ?_
          refine s_v (o_ldp (.sc (.bool x340.Staged)) ld4 rfl (hp_get 0 hk345 rfl) rfl) ?_
          refine s_nil ?_
          refine H348 _ _ ?_
          clear H348 K348
          refine AW_joinG (n := 174) hm (σ := Int) (τ := Unit) (fun g s => HOk h [(some k342, .obj 63 (c_Chunk x340)), (tg331, .tok 5 1 ((q330 : List Int).length * 1)), (some k13, .obj 116 ([ow tg331 1 (List.map c_u8 q330)])), (some k2, .obj 27 (c_Catalog p0))]) (fun g s => kp (kp (kp (kp (kp (kp (kp (k0) 76 (.sc (.int .i64 q333))) 75 (.sc (.int .i64 (p0.Chunks.length : Int)))) 74 (.sl none 35 (List.map c_Chunk p0.Chunks))) 12 (.sc (.int .i64 s))) 11 (.ptr k342 0)) 5 (.ptr k13 0)) 1 (.ptr k2 0)) (fun g s => hp h [(some k342, .obj 63 (c_Chunk x340)), (tg331, .tok 5 1 ((q330 : List Int).length * 1)), (some k13, .obj 116 ([ow tg331 1 (List.map c_u8 q330)])), (some k2, .obj 27 (c_Catalog p0))]) (fun x hm => ?_) ?_
          · refine AW_if' rfl (fun hc351 => ?_) (fun hc351 => ?_)
            · replace hm := ite_t hm hc351
              refine AW_reg ?_
              refine s_v (o_as (.sc (.int _ _)) rfl) ?_
              refine s_nil ?_
              cases hm
              exact ⟨rfl, (), hk345, LeF.fm (Sub.refl _) (.cons (ALe.refl _ _) (.cons (ALe.refl _ _) (.cons (ALe.refl _ _) (.cons (ALe.refl _ _) (.cons (ALe.refl _ _) (.cons (ALe.refl _ _) (.cons (ALe.refl _ _) (.nil))))))))⟩
            · replace hm := ite_f hm hc351
              refine AW_skip ?_
              cases hm
              exact ⟨rfl, (), hk345, LeF.fm (Sub.refl _) (.cons (ALe.refl _ _) (.cons (ALe.refl _ _) (.cons (ALe.refl _ _) (.cons (ALe.refl _ _) (.cons (ALe.refl _ _) (.cons (ALe.refl _ _) (.cons (ALe.refl _ _) (.nil))))))))⟩
          · rintro _ j350 fr' h' hk352 hm le
            refine H347 _ _ (le.aw ?_)
            clear le H347 K347
            refine AW_k fun K353 H353 => ?_
            refine AW_zreg [(10, some k13, .obj 116 ([ow tg331 1 (List.map c_u8 q330)])), (1000000, some k342, .obj 63 (c_Chunk x340))] mixed (⟨fun _ => hp_at 2 hk352 rfl, fun _ => hp_at 0 hk352 rfl, trivial⟩) ?_
            refine z_v 0 rfl (by kernel_rfl) rfl (fun S' h' hi hB => o_mv (.ptr _ _) rfl) ?_
            refine z_v 1 rfl (by kernel_rfl) rfl (fun S' h' hi hB => o_mv (.ptr _ _) rfl) ?_
            refine z_v 2 rfl (by kernel_rfl) rfl (fun S' h' hi hB => o_nil rfl) ?_
            refine z_v 3 rfl (by kernel_rfl) rfl (fun S' h' hi hB => o_flp fd116_0 rfl rfl) ?_
            refine z_v 4 rfl (by kernel_rfl) rfl (fun S' h' hi hB => o_ldp (ow tg331 1 (List.map c_u8 q330)) ld52 rfl (At.s (InvL.get 0 hi rfl (hB 10 (by kernel_rfl)))) rfl) ?_
            refine z_v 5 rfl (by kernel_rfl) rfl (fun S' h' hi hB => o_flp fd63_0 rfl rfl) ?_
            refine z_v 6 rfl (by kernel_rfl) rfl (fun S' h' hi hB => o_slv ar61 rfl) ?_
            obtain ⟨z360, hz361, hm⟩ := bind_of hm
            refine z_e 7 rfl (by kernel_rfl) (a_app (c := c_u8) 1 hz361 et52 rfl rfl rfl ot332 hk352 (srcOf_id (hp_get 0 hk352 rfl) rfl rfl) fun tg362 ot363 hk364 => ⟨⟨fun _ => hp_at 2 hk364 rfl, fun _ => hp_at 0 hk364 rfl, trivial⟩, ?_⟩)
            refine z_v 8 rfl (by kernel_rfl) rfl (fun S' h' hi hB => o_nil rfl) ?_
            refine z_v 9 rfl (by kernel_rfl) rfl (fun S' h' hi hB => o_flp fd116_0 rfl rfl) ?_
            refine z_e 10 rfl (by kernel_rfl) (a_store 2 ([ow tg362 1 (List.map c_u8 z360)]) hk364 rfl rfl (cellsOf_ow rfl) (all_ow _ _ _) sz52 rfl rfl fun hk365 => ⟨⟨fun e => absurd e (by decide), fun _ => hp_at 0 hk365 rfl, trivial⟩, ?_⟩)
            refine z_nil (by kernel_rfl) ?_
            refine H353 _ _ ?_
            clear H353 K353
            refine AW_k fun K366 H366 => ?_
            refine AW_reg ?_
            refine s_v (o_mv (.ptr _ _) rfl) ?_
            refine s_v (o_mv (.sc (.int _ _)) rfl) ?_
            obtain ⟨y367, hy368, hm⟩ := bind_of hm
            refine s_op (AOp_eqh ((hp_perm ((.trans ((.trans (.cons _ (.swap _ _ _)) (.swap _ _ _))) (.cons _ (.swap _ _ _))) : List.Perm (α := Option Key × Ent) [(some k342, .obj 63 (c_Chunk x340)), (tg362, .tok 5 1 ((z360 : List Int).length * 1)), (some k13, .obj 116 ([ow tg362 1 (List.map c_u8 z360)])), (some k2, .obj 27 (c_Catalog p0))] ([(some k13, .obj 116 ([ow tg362 1 (List.map c_u8 z360)])), (tg362, .tok 5 1 ((z360 : List Int).length * 1))] ++ [(some k342, .obj 63 (c_Chunk x340)), (some k2, .obj 27 (c_Catalog p0))])) hk365).1.trans (hp_app h [(some k13, .obj 116 ([ow tg362 1 (List.map c_u8 z360)])), (tg362, .tok 5 1 ((z360 : List Int).length * 1))] [(some k342, .obj 63 (c_Chunk x340)), (some k2, .obj 27 (c_Catalog p0))]).symm) (a_call (W75 (hp h [(some k342, .obj 63 (c_Chunk x340)), (some k2, .obj 27 (c_Catalog p0))]) ot363 (HOk_spl [(some k13, .obj 116 ([ow tg362 1 (List.map c_u8 z360)])), (tg362, .tok 5 1 ((z360 : List Int).length * 1))] [(some k342, .obj 63 (c_Chunk x340)), (some k2, .obj 27 (c_Catalog p0))] (hp_perm ((.trans ((.trans (.cons _ (.swap _ _ _)) (.swap _ _ _))) (.cons _ (.swap _ _ _))) : List.Perm (α := Option Key × Ent) [(some k342, .obj 63 (c_Chunk x340)), (tg362, .tok 5 1 ((z360 : List Int).length * 1)), (some k13, .obj 116 ([ow tg362 1 (List.map c_u8 z360)])), (some k2, .obj 27 (c_Catalog p0))] ([(some k13, .obj 116 ([ow tg362 1 (List.map c_u8 z360)])), (tg362, .tok 5 1 ((z360 : List Int).length * 1))] ++ [(some k342, .obj 63 (c_Chunk x340)), (some k2, .obj 27 (c_Catalog p0))])) hk365).2).2 hy368) rfl bd75 rfl ?_))
            rintro x h' ⟨tg369, ot370, hk371, rfl, rfl⟩
            have hk373 := hp_perm ((.trans ((.trans (.cons _ (.swap _ _ _)) (.swap _ _ _))) (.cons _ (.swap _ _ _))) : List.Perm (α := Option Key × Ent) ([(some k13, .obj 116 ([ow tg369 1 (List.map c_u8 y367)])), (tg369, .tok 5 1 ((y367 : List Int).length * 1))] ++ [(some k342, .obj 63 (c_Chunk x340)), (some k2, .obj 27 (c_Catalog p0))]) [(some k342, .obj 63 (c_Chunk x340)), (tg369, .tok 5 1 ((y367 : List Int).length * 1)), (some k13, .obj 116 ([ow tg369 1 (List.map c_u8 y367)])), (some k2, .obj 27 (c_Catalog p0))]) (HOk_app (HOk_spl [(some k13, .obj 116 ([ow tg362 1 (List.map c_u8 z360)])), (tg362, .tok 5 1 ((z360 : List Int).length * 1))] [(some k342, .obj 63 (c_Chunk x340)), (some k2, .obj 27 (c_Catalog p0))] (hp_perm ((.trans ((.trans (.cons _ (.swap _ _ _)) (.swap _ _ _))) (.cons _ (.swap _ _ _))) : List.Perm (α := Option Key × Ent) [(some k342, .obj 63 (c_Chunk x340)), (tg362, .tok 5 1 ((z360 : List Int).length * 1)), (some k13, .obj 116 ([ow tg362 1 (List.map c_u8 z360)])), (some k2, .obj 27 (c_Catalog p0))] ([(some k13, .obj 116 ([ow tg362 1 (List.map c_u8 z360)])), (tg362, .tok 5 1 ((z360 : List Int).length * 1))] ++ [(some k342, .obj 63 (c_Chunk x340)), (some k2, .obj 27 (c_Catalog p0))])) hk365).2).1 hk371)
            refine AOps_eqh ((hp_app h [(some k13, .obj 116 ([ow tg369 1 (List.map c_u8 y367)])), (tg369, .tok 5 1 ((y367 : List Int).length * 1))] [(some k342, .obj 63 (c_Chunk x340)), (some k2, .obj 27 (c_Catalog p0))]).trans hk373.1) ?_
            refine s_nil ?_
            refine H366 _ _ ?_
            clear H366 K366
            refine AW_k fun K374 H374 => ?_
            refine AW_reg ?_
            refine s_v (o_mv (.ptr _ _) rfl) ?_
            refine s_v (o_flp fd63_2 rfl rfl) ?_
            refine s_v (o_ldp (.sl none 1 (List.map c_u8 x340.Data)) ld52 rfl (hp_get 0 hk373.2 rfl) rfl) ?_
            refine s_v (o_lenm ln52 rfl) ?_
            obtain ⟨y375, hy376, hm⟩ := bind_of hm
            refine s_op (AOp_eqh ((hp_perm ((.trans ((.trans (.cons _ (.swap _ _ _)) (.swap _ _ _))) (.cons _ (.swap _ _ _))) : List.Perm (α := Option Key × Ent) [(some k342, .obj 63 (c_Chunk x340)), (tg369, .tok 5 1 ((y367 : List Int).length * 1)), (some k13, .obj 116 ([ow tg369 1 (List.map c_u8 y367)])), (some k2, .obj 27 (c_Catalog p0))] ([(some k13, .obj 116 ([ow tg369 1 (List.map c_u8 y367)])), (tg369, .tok 5 1 ((y367 : List Int).length * 1))] ++ [(some k342, .obj 63 (c_Chunk x340)), (some k2, .obj 27 (c_Catalog p0))])) hk373.2).1.trans (hp_app h [(some k13, .obj 116 ([ow tg369 1 (List.map c_u8 y367)])), (tg369, .tok 5 1 ((y367 : List Int).length * 1))] [(some k342, .obj 63 (c_Chunk x340)), (some k2, .obj 27 (c_Catalog p0))]).symm) (a_call (W75 (hp h [(some k342, .obj 63 (c_Chunk x340)), (some k2, .obj 27 (c_Catalog p0))]) ot370 (HOk_spl [(some k13, .obj 116 ([ow tg369 1 (List.map c_u8 y367)])), (tg369, .tok 5 1 ((y367 : List Int).length * 1))] [(some k342, .obj 63 (c_Chunk x340)), (some k2, .obj 27 (c_Catalog p0))] (hp_perm ((.trans ((.trans (.cons _ (.swap _ _ _)) (.swap _ _ _))) (.cons _ (.swap _ _ _))) : List.Perm (α := Option Key × Ent) [(some k342, .obj 63 (c_Chunk x340)), (tg369, .tok 5 1 ((y367 : List Int).length * 1)), (some k13, .obj 116 ([ow tg369 1 (List.map c_u8 y367)])), (some k2, .obj 27 (c_Catalog p0))] ([(some k13, .obj 116 ([ow tg369 1 (List.map c_u8 y367)])), (tg369, .tok 5 1 ((y367 : List Int).length * 1))] ++ [(some k342, .obj 63 (c_Chunk x340)), (some k2, .obj 27 (c_Catalog p0))])) hk373.2).2).2 hy376) rfl bd75 rfl ?_))
            rintro x h' ⟨tg377, ot378, hk379, rfl, rfl⟩
            have hk381 := hp_perm ((.trans ((.trans (.cons _ (.swap _ _ _)) (.swap _ _ _))) (.cons _ (.swap _ _ _))) : List.Perm (α := Option Key × Ent) ([(some k13, .obj 116 ([ow tg377 1 (List.map c_u8 y375)])), (tg377, .tok 5 1 ((y375 : List Int).length * 1))] ++ [(some k342, .obj 63 (c_Chunk x340)), (some k2, .obj 27 (c_Catalog p0))]) [(some k342, .obj 63 (c_Chunk x340)), (tg377, .tok 5 1 ((y375 : List Int).length * 1)), (some k13, .obj 116 ([ow tg377 1 (List.map c_u8 y375)])), (some k2, .obj 27 (c_Catalog p0))]) (HOk_app (HOk_spl [(some k13, .obj 116 ([ow tg369 1 (List.map c_u8 y367)])), (tg369, .tok 5 1 ((y367 : List Int).length * 1))] [(some k342, .obj 63 (c_Chunk x340)), (some k2, .obj 27 (c_Catalog p0))] (hp_perm ((.trans ((.trans (.cons _ (.swap _ _ _)) (.swap _ _ _))) (.cons _ (.swap _ _ _))) : List.Perm (α := Option Key × Ent) [(some k342, .obj 63 (c_Chunk x340)), (tg369, .tok 5 1 ((y367 : List Int).length * 1)), (some k13, .obj 116 ([ow tg369 1 (List.map c_u8 y367)])), (some k2, .obj 27 (c_Catalog p0))] ([(some k13, .obj 116 ([ow tg369 1 (List.map c_u8 y367)])), (tg369, .tok 5 1 ((y367 : List Int).length * 1))] ++ [(some k342, .obj 63 (c_Chunk x340)), (some k2, .obj 27 (c_Catalog p0))])) hk373.2).2).1 hk379)
            refine AOps_eqh ((hp_app h [(some k13, .obj 116 ([ow tg377 1 (List.map c_u8 y375)])), (tg377, .tok 5 1 ((y375 : List Int).length * 1))] [(some k342, .obj 63 (c_Chunk x340)), (some k2, .obj 27 (c_Catalog p0))]).trans hk381.1) ?_
            refine s_nil ?_
            refine H374 _ _ ?_
            clear H374 K374
            refine AW_k fun K382 H382 => ?_
            refine AW_zreg [(10, some k13, .obj 116 ([ow tg377 1 (List.map c_u8 y375)])), (1000000, some k342, .obj 63 (c_Chunk x340))] mixed (⟨fun _ => hp_at 2 hk381.2 rfl, fun _ => hp_at 0 hk381.2 rfl, trivial⟩) ?_
            refine z_v 0 rfl (by kernel_rfl) rfl (fun S' h' hi hB => o_mv (.ptr _ _) rfl) ?_
            refine z_v 1 rfl (by kernel_rfl) rfl (fun S' h' hi hB => o_mv (.ptr _ _) rfl) ?_
            refine z_v 2 rfl (by kernel_rfl) rfl (fun S' h' hi hB => o_nil rfl) ?_
            refine z_v 3 rfl (by kernel_rfl) rfl (fun S' h' hi hB => o_flp fd116_0 rfl rfl) ?_
            refine z_v 4 rfl (by kernel_rfl) rfl (fun S' h' hi hB => o_ldp (ow tg377 1 (List.map c_u8 y375)) ld52 rfl (At.s (InvL.get 0 hi rfl (hB 10 (by kernel_rfl)))) rfl) ?_
            refine z_v 5 rfl (by kernel_rfl) rfl (fun S' h' hi hB => o_flp fd63_2 rfl rfl) ?_
            refine z_v 6 rfl (by kernel_rfl) rfl (fun S' h' hi hB => o_ldp (.sl none 1 (List.map c_u8 x340.Data)) ld52 rfl (At.s (InvL.get 1 hi rfl (hB 1000000 (by kernel_rfl)))) rfl) ?_
            obtain ⟨z389, hz390, hm⟩ := bind_of hm
            refine z_e 7 rfl (by kernel_rfl) (a_app (c := c_u8) 1 hz390 et52 rfl rfl rfl ot378 hk381.2 rfl fun tg391 ot392 hk393 => ⟨⟨fun _ => hp_at 2 hk393 rfl, fun _ => hp_at 0 hk393 rfl, trivial⟩, ?_⟩)
            refine z_v 8 rfl (by kernel_rfl) rfl (fun S' h' hi hB => o_nil rfl) ?_
            refine z_v 9 rfl (by kernel_rfl) rfl (fun S' h' hi hB => o_flp fd116_0 rfl rfl) ?_
            refine z_e 10 rfl (by kernel_rfl) (a_store 2 ([ow tg391 1 (List.map c_u8 z389)]) hk393 rfl rfl (cellsOf_ow rfl) (all_ow _ _ _) sz52 rfl rfl fun hk394 => ⟨⟨fun e => absurd e (by decide), fun _ => hp_at 0 hk394 rfl, trivial⟩, ?_⟩)
            refine z_nil (by kernel_rfl) ?_
            refine H382 _ _ ?_
            clear H382 K382
            refine AW_reg ?_
            refine s_v (o_mv (.ptr _ _) rfl) ?_
            refine s_v (o_flp fd63_3 rfl rfl) ?_
            refine s_v (o_ldp (.sl none 4 (List.map c_Loc x340.Locs)) ld58 rfl (hp_get 0 hk394 rfl) rfl) ?_
            obtain ⟨y395, hy396, hm⟩ := bind_of hm
            refine s_op (AOp_eqh ((hp_perm ((.trans ((.trans (.cons _ (.swap _ _ _)) (.swap _ _ _))) (.cons _ (.swap _ _ _))) : List.Perm (α := Option Key × Ent) [(some k342, .obj 63 (c_Chunk x340)), (tg391, .tok 5 1 ((z389 : List Int).length * 1)), (some k13, .obj 116 ([ow tg391 1 (List.map c_u8 z389)])), (some k2, .obj 27 (c_Catalog p0))] ([(some k13, .obj 116 ([ow tg391 1 (List.map c_u8 z389)])), (tg391, .tok 5 1 ((z389 : List Int).length * 1))] ++ [(some k342, .obj 63 (c_Chunk x340)), (some k2, .obj 27 (c_Catalog p0))])) hk394).1.trans (hp_app h [(some k13, .obj 116 ([ow tg391 1 (List.map c_u8 z389)])), (tg391, .tok 5 1 ((z389 : List Int).length * 1))] [(some k342, .obj 63 (c_Chunk x340)), (some k2, .obj 27 (c_Catalog p0))]).symm) (a_call (W76 (hp h [(some k342, .obj 63 (c_Chunk x340)), (some k2, .obj 27 (c_Catalog p0))]) ot392 (HOk_spl [(some k13, .obj 116 ([ow tg391 1 (List.map c_u8 z389)])), (tg391, .tok 5 1 ((z389 : List Int).length * 1))] [(some k342, .obj 63 (c_Chunk x340)), (some k2, .obj 27 (c_Catalog p0))] (hp_perm ((.trans ((.trans (.cons _ (.swap _ _ _)) (.swap _ _ _))) (.cons _ (.swap _ _ _))) : List.Perm (α := Option Key × Ent) [(some k342, .obj 63 (c_Chunk x340)), (tg391, .tok 5 1 ((z389 : List Int).length * 1)), (some k13, .obj 116 ([ow tg391 1 (List.map c_u8 z389)])), (some k2, .obj 27 (c_Catalog p0))] ([(some k13, .obj 116 ([ow tg391 1 (List.map c_u8 z389)])), (tg391, .tok 5 1 ((z389 : List Int).length * 1))] ++ [(some k342, .obj 63 (c_Chunk x340)), (some k2, .obj 27 (c_Catalog p0))])) hk394).2).2 hy396) rfl bd76 rfl ?_))
            rintro x h' ⟨tg397, ot398, hk399, rfl, rfl⟩
            have hk401 := hp_perm ((.trans ((.trans (.cons _ (.swap _ _ _)) (.swap _ _ _))) (.cons _ (.swap _ _ _))) : List.Perm (α := Option Key × Ent) ([(some k13, .obj 116 ([ow tg397 1 (List.map c_u8 y395)])), (tg397, .tok 5 1 ((y395 : List Int).length * 1))] ++ [(some k342, .obj 63 (c_Chunk x340)), (some k2, .obj 27 (c_Catalog p0))]) [(some k342, .obj 63 (c_Chunk x340)), (tg397, .tok 5 1 ((y395 : List Int).length * 1)), (some k13, .obj 116 ([ow tg397 1 (List.map c_u8 y395)])), (some k2, .obj 27 (c_Catalog p0))]) (HOk_app (HOk_spl [(some k13, .obj 116 ([ow tg391 1 (List.map c_u8 z389)])), (tg391, .tok 5 1 ((z389 : List Int).length * 1))] [(some k342, .obj 63 (c_Chunk x340)), (some k2, .obj 27 (c_Catalog p0))] (hp_perm ((.trans ((.trans (.cons _ (.swap _ _ _)) (.swap _ _ _))) (.cons _ (.swap _ _ _))) : List.Perm (α := Option Key × Ent) [(some k342, .obj 63 (c_Chunk x340)), (tg391, .tok 5 1 ((z389 : List Int).length * 1)), (some k13, .obj 116 ([ow tg391 1 (List.map c_u8 z389)])), (some k2, .obj 27 (c_Catalog p0))] ([(some k13, .obj 116 ([ow tg391 1 (List.map c_u8 z389)])), (tg391, .tok 5 1 ((z389 : List Int).length * 1))] ++ [(some k342, .obj 63 (c_Chunk x340)), (some k2, .obj 27 (c_Catalog p0))])) hk394).2).1 hk399)
            refine AOps_eqh ((hp_app h [(some k13, .obj 116 ([ow tg397 1 (List.map c_u8 y395)])), (tg397, .tok 5 1 ((y395 : List Int).length * 1))] [(some k342, .obj 63 (c_Chunk x340)), (some k2, .obj 27 (c_Catalog p0))]).trans hk401.1) ?_
            refine s_nil ?_
            refine H338 _ _ ?_
            clear H338 K338
            refine AW_reg ?_
            refine s_v (o_bi rfl rfl rfl trivial) ?_
            refine s_v (o_mv (.sc (.int _ _)) rfl) ?_
            refine s_nil ?_
            cases hm
            exact ⟨rfl, tg397, ⟨(hp_sub (.cons _ (.refl _)) hk401.2).2, ot398⟩, LeF.fm ((hp_sub (.cons _ (.refl _)) hk401.2).1) (.cons (ALe.refl _ _) (.cons (ALe.refl _ _) (.cons (ALe.refl _ _) (.cons (ALe.refl _ _) (.cons (ALe.refl _ _) (.nil))))))⟩
        · replace hm := ite_f hm hc337
          refine AW_exit ?_
          refine Seq_exit ?_
          cases hm
          exact ⟨rfl, tg331, ⟨hk334, ot332⟩, LeF.fm (Sub.refl _) (.cons (ALe.refl _ _) (.cons (ALe.refl _ _) (.cons (ALe.refl _ _) (.cons (ALe.refl _ _) (.cons (ALe.refl _ _) (.nil))))))⟩
      · rintro tg404 ⟨r402, r403⟩ fr' h' ⟨hk406, ot405⟩ hm le
        refine H190 _ _ (le.aw ?_)
        clear le H190 K190
        refine AW_k fun K407 H407 => ?_
        refine AW_reg ?_
        refine s_v (o_mv (.ptr _ _) rfl) ?_
        refine s_v (o_flp fd27_3 rfl rfl) ?_
        refine s_v (o_ldp (.sl none 3 (List.map c_Exp p0.Exps)) ld24 rfl (hp_get 2 hk406 rfl) rfl) ?_
        refine s_v (o_lenm ln24 rfl) ?_
        obtain ⟨y408, hy409, hm⟩ := bind_of hm
        refine s_op (AOp_eqh ((hp_perm ((.swap _ _ _) : List.Perm (α := Option Key × Ent) [(tg404, .tok 5 1 ((r402 : List Int).length * 1)), (some k13, .obj 116 ([ow tg404 1 (List.map c_u8 r402)])), (some k2, .obj 27 (c_Catalog p0))] ([(some k13, .obj 116 ([ow tg404 1 (List.map c_u8 r402)])), (tg404, .tok 5 1 ((r402 : List Int).length * 1))] ++ [(some k2, .obj 27 (c_Catalog p0))])) hk406).1.trans (hp_app h [(some k13, .obj 116 ([ow tg404 1 (List.map c_u8 r402)])), (tg404, .tok 5 1 ((r402 : List Int).length * 1))] [(some k2, .obj 27 (c_Catalog p0))]).symm) (a_call (W75 (hp h [(some k2, .obj 27 (c_Catalog p0))]) ot405 (HOk_spl [(some k13, .obj 116 ([ow tg404 1 (List.map c_u8 r402)])), (tg404, .tok 5 1 ((r402 : List Int).length * 1))] [(some k2, .obj 27 (c_Catalog p0))] (hp_perm ((.swap _ _ _) : List.Perm (α := Option Key × Ent) [(tg404, .tok 5 1 ((r402 : List Int).length * 1)), (some k13, .obj 116 ([ow tg404 1 (List.map c_u8 r402)])), (some k2, .obj 27 (c_Catalog p0))] ([(some k13, .obj 116 ([ow tg404 1 (List.map c_u8 r402)])), (tg404, .tok 5 1 ((r402 : List Int).length * 1))] ++ [(some k2, .obj 27 (c_Catalog p0))])) hk406).2).2 hy409) rfl bd75 rfl ?_))
        rintro x h' ⟨tg410, ot411, hk412, rfl, rfl⟩
        have hk414 := hp_perm ((.swap _ _ _) : List.Perm (α := Option Key × Ent) ([(some k13, .obj 116 ([ow tg410 1 (List.map c_u8 y408)])), (tg410, .tok 5 1 ((y408 : List Int).length * 1))] ++ [(some k2, .obj 27 (c_Catalog p0))]) [(tg410, .tok 5 1 ((y408 : List Int).length * 1)), (some k13, .obj 116 ([ow tg410 1 (List.map c_u8 y408)])), (some k2, .obj 27 (c_Catalog p0))]) (HOk_app (HOk_spl [(some k13, .obj 116 ([ow tg404 1 (List.map c_u8 r402)])), (tg404, .tok 5 1 ((r402 : List Int).length * 1))] [(some k2, .obj 27 (c_Catalog p0))] (hp_perm ((.swap _ _ _) : List.Perm (α := Option Key × Ent) [(tg404, .tok 5 1 ((r402 : List Int).length * 1)), (some k13, .obj 116 ([ow tg404 1 (List.map c_u8 r402)])), (some k2, .obj 27 (c_Catalog p0))] ([(some k13, .obj 116 ([ow tg404 1 (List.map c_u8 r402)])), (tg404, .tok 5 1 ((r402 : List Int).length * 1))] ++ [(some k2, .obj 27 (c_Catalog p0))])) hk406).2).1 hk412)
        refine AOps_eqh ((hp_app h [(some k13, .obj 116 ([ow tg410 1 (List.map c_u8 y408)])), (tg410, .tok 5 1 ((y408 : List Int).length * 1))] [(some k2, .obj 27 (c_Catalog p0))]).trans hk414.1) ?_
        refine s_nil ?_
        refine H407 _ _ ?_
        clear H407 K407
        refine AW_k fun K415 H415 => ?_
        refine AW_k fun K416 H416 => ?_
        refine AW_reg ?_
        refine s_v (o_flp fd27_3 rfl rfl) ?_
        refine s_v (o_ldp (.sl none 3 (List.map c_Exp p0.Exps)) ld24 rfl (hp_get 2 hk414.2 rfl) rfl) ?_
        refine s_v (o_lenm ln24 rfl) ?_
        refine s_v (o_mv (.sc (.int _ _)) rfl) ?_
        refine s_nil ?_
        refine H416 _ _ ?_
        clear H416 K416
        refine AW_loopG (n := 174) hm (σ := (List Int) × Int) (τ := Option Key) (fun g s => HOk h [(g, .tok 5 1 ((s.1 : List Int).length * 1)), (some k13, .obj 116 ([ow g 1 (List.map c_u8 s.1)])), (some k2, .obj 27 (c_Catalog p0))] ∧ (g = none → s.1 = [])) (fun g s => kp (kp (kp (kp (kp (k0) 123 (.sc (.int .i64 s.2))) 122 (.sc (.int .i64 (p0.Exps.length : Int)))) 121 (.sl none 3 (List.map c_Exp p0.Exps))) 5 (.ptr k13 0)) 1 (.ptr k2 0)) (fun g s => hp h [(g, .tok 5 1 ((s.1 : List Int).length * 1)), (some k13, .obj 116 ([ow g 1 (List.map c_u8 s.1)])), (some k2, .obj 27 (c_Catalog p0))]) tg410 (⟨hk414.2, ot411⟩) (LeF.fm (Sub.refl _) (.cons (ALe.refl _ _) (.cons (ALe.refl _ _) (.cons (ALe.refl _ _) (.cons (ALe.refl _ _) (.cons (ALe.refl _ _) (.nil))))))) ?_ ?_
        · rintro tg490 ⟨q489, q492⟩ x ⟨hk493, ot491⟩ hm
          replace hm : M35_L4 fuel p0 q489 q492 = some x := hm
          unfold M35_L4 at hm
          refine AW_k fun K494 H494 => ?_
          refine AW_reg ?_
          refine s_v (o_bi rfl rfl rfl trivial) ?_
          refine s_nil ?_
          refine H494 _ _ ?_
          clear H494 K494
          refine AW_k fun K495 H495 => ?_
          refine AW_if' rfl (fun hc496 => ?_) (fun hc496 => ?_)
          · replace hm := ite_t hm hc496
            refine AW_skip ?_
            refine H495 _ _ ?_
            clear H495 K495
            refine AW_k fun K497 H497 => ?_
            refine AW_block ?_
            refine AW_k fun K498 H498 => ?_
            refine AW_reg ?_
            obtain ⟨x499, hx500, hm⟩ := bind_of hm
            refine s_v (o_ix hx500 el24 rfl rfl) ?_
            refine s_v (o_ld (.agg (c_Exp x499)) ld65 rfl rfl) ?_
            refine s_op (a_alloc ([.sc (.int .i64 0), .sc (.int .i64 0), .sc (.slice none 0 0)]) hk493 zr65 rfl rfl fun k501 hk502 => ?_)
            refine s_op (a_store 0 (c_Exp x499) hk502 rfl rfl rfl rfl sz65 rfl rfl fun hk504 => ?_)
            refine s_nil ?_
            refine H498 _ _ ?_
            clear H498 K498
            refine AW_k fun K505 H505 => ?_
            refine AW_reg ?_
            refine s_v (o_mv (.ptr _ _) rfl) ?_
            refine s_v (o_flp fd65_0 rfl rfl) ?_
            refine s_v (o_ldp (.sc (.int .i64 x499.Seq)) ld3 rfl (hp_get 0 hk504 rfl) rfl) ?_
            obtain ⟨y506, hy507, hm⟩ := bind_of hm
            refine s_op (AOp_eqh ((hp_perm ((.trans ((.trans (.cons _ (.swap _ _ _)) (.swap _ _ _))) (.cons _ (.swap _ _ _))) : List.Perm (α := Option Key × Ent) [(some k501, .obj 65 (c_Exp x499)), (tg490, .tok 5 1 ((q489 : List Int).length * 1)), (some k13, .obj 116 ([ow tg490 1 (List.map c_u8 q489)])), (some k2, .obj 27 (c_Catalog p0))] ([(some k13, .obj 116 ([ow tg490 1 (List.map c_u8 q489)])), (tg490, .tok 5 1 ((q489 : List Int).length * 1))] ++ [(some k501, .obj 65 (c_Exp x499)), (some k2, .obj 27 (c_Catalog p0))])) hk504).1.trans (hp_app h [(some k13, .obj 116 ([ow tg490 1 (List.map c_u8 q489)])), (tg490, .tok 5 1 ((q489 : List Int).length * 1))] [(some k501, .obj 65 (c_Exp x499)), (some k2, .obj 27 (c_Catalog p0))]).symm) (a_call (W75 (hp h [(some k501, .obj 65 (c_Exp x499)), (some k2, .obj 27 (c_Catalog p0))]) ot491 (HOk_spl [(some k13, .obj 116 ([ow tg490 1 (List.map c_u8 q489)])), (tg490, .tok 5 1 ((q489 : List Int).length * 1))] [(some k501, .obj 65 (c_Exp x499)), (some k2, .obj 27 (c_Catalog p0))] (hp_perm ((.trans ((.trans (.cons _ (.swap _ _ _)) (.swap _ _ _))) (.cons _ (.swap _ _ _))) : List.Perm (α := Option Key × Ent) [(some k501, .obj 65 (c_Exp x499)), (tg490, .tok 5 1 ((q489 : List Int).length * 1)), (some k13, .obj 116 ([ow tg490 1 (List.map c_u8 q489)])), (some k2, .obj 27 (c_Catalog p0))] ([(some k13, .obj 116 ([ow tg490 1 (List.map c_u8 q489)])), (tg490, .tok 5 1 ((q489 : List Int).length * 1))] ++ [(some k501, .obj 65 (c_Exp x499)), (some k2, .obj 27 (c_Catalog p0))])) hk504).2).2 hy507) rfl bd75 rfl ?_))
            rintro x h' ⟨tg508, ot509, hk510, rfl, rfl⟩
            have hk512 := hp_perm ((.trans ((.trans (.cons _ (.swap _ _ _)) (.swap _ _ _))) (.cons _ (.swap _ _ _))) : List.Perm (α := Option Key × Ent) ([(some k13, .obj 116 ([ow tg508 1 (List.map c_u8 y506)])), (tg508, .tok 5 1 ((y506 : List Int).length * 1))] ++ [(some k501, .obj 65 (c_Exp x499)), (some k2, .obj 27 (c_Catalog p0))]) [(some k501, .obj 65 (c_Exp x499)), (tg508, .tok 5 1 ((y506 : List Int).length * 1)), (some k13, .obj 116 ([ow tg508 1 (List.map c_u8 y506)])), (some k2, .obj 27 (c_Catalog p0))]) (HOk_app (HOk_spl [(some k13, .obj 116 ([ow tg490 1 (List.map c_u8 q489)])), (tg490, .tok 5 1 ((q489 : List Int).length * 1))] [(some k501, .obj 65 (c_Exp x499)), (some k2, .obj 27 (c_Catalog p0))] (hp_perm ((.trans ((.trans (.cons _ (.swap _ _ _)) (.swap _ _ _))) (.cons _ (.swap _ _ _))) : List.Perm (α := Option Key × Ent) [(some k501, .obj 65 (c_Exp x499)), (tg490, .tok 5 1 ((q489 : List Int).length * 1)), (some k13, .obj 116 ([ow tg490 1 (List.map c_u8 q489)])), (some k2, .obj 27 (c_Catalog p0))] ([(some k13, .obj 116 ([ow tg490 1 (List.map c_u8 q489)])), (tg490, .tok 5 1 ((q489 : List Int).length * 1))] ++ [(some k501, .obj 65 (c_Exp x499)), (some k2, .obj 27 (c_Catalog p0))])) hk504).2).1 hk510)
            refine AOps_eqh ((hp_app h [(some k13, .obj 116 ([ow tg508 1 (List.map c_u8 y506)])), (tg508, .tok 5 1 ((y506 : List Int).length * 1))] [(some k501, .obj 65 (c_Exp x499)), (some k2, .obj 27 (c_Catalog p0))]).trans hk512.1) ?_
            refine s_nil ?_
            refine H505 _ _ ?_
            clear H505 K505
            refine AW_k fun K513 H513 => ?_
            refine AW_reg ?_
            refine s_v (o_mv (.ptr _ _) rfl) ?_
            refine s_v (o_flp fd65_1 rfl rfl) ?_
            refine s_v (o_ldp (.sc (.int .i64 x499.Of)) ld3 rfl (hp_get 0 hk512.2 rfl) rfl) ?_
            obtain ⟨y514, hy515, hm⟩ := bind_of hm
            refine s_op (AOp_eqh ((hp_perm ((.trans ((.trans (.cons _ (.swap _ _ _)) (.swap _ _ _))) (.cons _ (.swap _ _ _))) : List.Perm (α := Option Key × Ent) [(some k501, .obj 65 (c_Exp x499)), (tg508, .tok 5 1 ((y506 : List Int).length * 1)), (some k13, .obj 116 ([ow tg508 1 (List.map c_u8 y506)])), (some k2, .obj 27 (c_Catalog p0))] ([(some k13, .obj 116 ([ow tg508 1 (List.map c_u8 y506)])), (tg508, .tok 5 1 ((y506 : List Int).length * 1))] ++ [(some k501, .obj 65 (c_Exp x499)), (some k2, .obj 27 (c_Catalog p0))])) hk512.2).1.trans (hp_app h [(some k13, .obj 116 ([ow tg508 1 (List.map c_u8 y506)])), (tg508, .tok 5 1 ((y506 : List Int).length * 1))] [(some k501, .obj 65 (c_Exp x499)), (some k2, .obj 27 (c_Catalog p0))]).symm) (a_call (W75 (hp h [(some k501, .obj 65 (c_Exp x499)), (some k2, .obj 27 (c_Catalog p0))]) ot509 (HOk_spl [(some k13, .obj 116 ([ow tg508 1 (List.map c_u8 y506)])), (tg508, .tok 5 1 ((y506 : List Int).length * 1))] [(some k501, .obj 65 (c_Exp x499)), (some k2, .obj 27 (c_Catalog p0))] (hp_perm ((.trans ((.trans (.cons _ (.swap _ _ _)) (.swap _ _ _))) (.cons _ (.swap _ _ _))) : List.Perm (α := Option Key × Ent) [(some k501, .obj 65 (c_Exp x499)), (tg508, .tok 5 1 ((y506 : List Int).length * 1)), (some k13, .obj 116 ([ow tg508 1 (List.map c_u8 y506)])), (some k2, .obj 27 (c_Catalog p0))] ([(some k13, .obj 116 ([ow tg508 1 (List.map c_u8 y506)])), (tg508, .tok 5 1 ((y506 : List Int).length * 1))] ++ [(some k501, .obj 65 (c_Exp x499)), (some k2, .obj 27 (c_Catalog p0))])) hk512.2).2).2 hy515) rfl bd75 rfl ?_))
            rintro x h' ⟨tg516, ot517, hk518, rfl, rfl⟩
            have hk520 := hp_perm ((.trans ((.trans (.cons _ (.swap _ _ _)) (.swap _ _ _))) (.cons _ (.swap _ _ _))) : List.Perm (α := Option Key × Ent) ([(some k13, .obj 116 ([ow tg516 1 (List.map c_u8 y514)])), (tg516, .tok 5 1 ((y514 : List Int).length * 1))] ++ [(some k501, .obj 65 (c_Exp x499)), (some k2, .obj 27 (c_Catalog p0))]) [(some k501, .obj 65 (c_Exp x499)), (tg516, .tok 5 1 ((y514 : List Int).length * 1)), (some k13, .obj 116 ([ow tg516 1 (List.map c_u8 y514)])), (some k2, .obj 27 (c_Catalog p0))]) (HOk_app (HOk_spl [(some k13, .obj 116 ([ow tg508 1 (List.map c_u8 y506)])), (tg508, .tok 5 1 ((y506 : List Int).length * 1))] [(some k501, .obj 65 (c_Exp x499)), (some k2, .obj 27 (c_Catalog p0))] (hp_perm ((.trans ((.trans (.cons _ (.swap _ _ _)) (.swap _ _ _))) (.cons _ (.swap _ _ _))) : List.Perm (α := Option Key × Ent) [(some k501, .obj 65 (c_Exp x499)), (tg508, .tok 5 1 ((y506 : List Int).length * 1)), (some k13, .obj 116 ([ow tg508 1 (List.map c_u8 y506)])), (some k2, .obj 27 (c_Catalog p0))] ([(some k13, .obj 116 ([ow tg508 1 (List.map c_u8 y506)])), (tg508, .tok 5 1 ((y506 : List Int).length * 1))] ++ [(some k501, .obj 65 (c_Exp x499)), (some k2, .obj 27 (c_Catalog p0))])) hk512.2).2).1 hk518)
            refine AOps_eqh ((hp_app h [(some k13, .obj 116 ([ow tg516 1 (List.map c_u8 y514)])), (tg516, .tok 5 1 ((y514 : List Int).length * 1))] [(some k501, .obj 65 (c_Exp x499)), (some k2, .obj 27 (c_Catalog p0))]).trans hk520.1) ?_
            refine s_nil ?_
            refine H513 _ _ ?_
            clear H513 K513
            refine AW_reg ?_
            refine s_v (o_mv (.ptr _ _) rfl) ?_
            refine s_v (o_flp fd65_2 rfl rfl) ?_
            refine s_v (o_ldp (.sl none 4 (List.map c_Loc x499.Locs)) ld58 rfl (hp_get 0 hk520.2 rfl) rfl) ?_
            obtain ⟨y521, hy522, hm⟩ := bind_of hm
            refine s_op (AOp_eqh ((hp_perm ((.trans ((.trans (.cons _ (.swap _ _ _)) (.swap _ _ _))) (.cons _ (.swap _ _ _))) : List.Perm (α := Option Key × Ent) [(some k501, .obj 65 (c_Exp x499)), (tg516, .tok 5 1 ((y514 : List Int).length * 1)), (some k13, .obj 116 ([ow tg516 1 (List.map c_u8 y514)])), (some k2, .obj 27 (c_Catalog p0))] ([(some k13, .obj 116 ([ow tg516 1 (List.map c_u8 y514)])), (tg516, .tok 5 1 ((y514 : List Int).length * 1))] ++ [(some k501, .obj 65 (c_Exp x499)), (some k2, .obj 27 (c_Catalog p0))])) hk520.2).1.trans (hp_app h [(some k13, .obj 116 ([ow tg516 1 (List.map c_u8 y514)])), (tg516, .tok 5 1 ((y514 : List Int).length * 1))] [(some k501, .obj 65 (c_Exp x499)), (some k2, .obj 27 (c_Catalog p0))]).symm) (a_call (W76 (hp h [(some k501, .obj 65 (c_Exp x499)), (some k2, .obj 27 (c_Catalog p0))]) ot517 (HOk_spl [(some k13, .obj 116 ([ow tg516 1 (List.map c_u8 y514)])), (tg516, .tok 5 1 ((y514 : List Int).length * 1))] [(some k501, .obj 65 (c_Exp x499)), (some k2, .obj 27 (c_Catalog p0))] (hp_perm ((.trans ((.trans (.cons _ (.swap _ _ _)) (.swap _ _ _))) (.cons _ (.swap _ _ _))) : List.Perm (α := Option Key × Ent) [(some k501, .obj 65 (c_Exp x499)), (tg516, .tok 5 1 ((y514 : List Int).length * 1)), (some k13, .obj 116 ([ow tg516 1 (List.map c_u8 y514)])), (some k2, .obj 27 (c_Catalog p0))] ([(some k13, .obj 116 ([ow tg516 1 (List.map c_u8 y514)])), (tg516, .tok 5 1 ((y514 : List Int).length * 1))] ++ [(some k501, .obj 65 (c_Exp x499)), (some k2, .obj 27 (c_Catalog p0))])) hk520.2).2).2 hy522) rfl bd76 rfl ?_))
            rintro x h' ⟨tg523, ot524, hk525, rfl, rfl⟩
            have hk527 := hp_perm ((.trans ((.trans (.cons _ (.swap _ _ _)) (.swap _ _ _))) (.cons _ (.swap _ _ _))) : List.Perm (α := Option Key × Ent) ([(some k13, .obj 116 ([ow tg523 1 (List.map c_u8 y521)])), (tg523, .tok 5 1 ((y521 : List Int).length * 1))] ++ [(some k501, .obj 65 (c_Exp x499)), (some k2, .obj 27 (c_Catalog p0))]) [(some k501, .obj 65 (c_Exp x499)), (tg523, .tok 5 1 ((y521 : List Int).length * 1)), (some k13, .obj 116 ([ow tg523 1 (List.map c_u8 y521)])), (some k2, .obj 27 (c_Catalog p0))]) (HOk_app (HOk_spl [(some k13, .obj 116 ([ow tg516 1 (List.map c_u8 y514)])), (tg516, .tok 5 1 ((y514 : List Int).length * 1))] [(some k501, .obj 65 (c_Exp x499)), (some k2, .obj 27 (c_Catalog p0))] (hp_perm ((.trans ((.trans (.cons _ (.swap _ _ _)) (.swap _ _ _))) (.cons _ (.swap _ _ _))) : List.Perm (α := Option Key × Ent) [(some k501, .obj 65 (c_Exp x499)), (tg516, .tok 5 1 ((y514 : List Int).length * 1)), (some k13, .obj 116 ([ow tg516 1 (List.map c_u8 y514)])), (some k2, .obj 27 (c_Catalog p0))] ([(some k13, .obj 116 ([ow tg516 1 (List.map c_u8 y514)])), (tg516, .tok 5 1 ((y514 : List Int).length * 1))] ++ [(some k501, .obj 65 (c_Exp x499)), (some k2, .obj 27 (c_Catalog p0))])) hk520.2).2).1 hk525)
            refine AOps_eqh ((hp_app h [(some k13, .obj 116 ([ow tg523 1 (List.map c_u8 y521)])), (tg523, .tok 5 1 ((y521 : List Int).length * 1))] [(some k501, .obj 65 (c_Exp x499)), (some k2, .obj 27 (c_Catalog p0))]).trans hk527.1) ?_
            refine s_nil ?_
            refine H497 _ _ ?_
            clear H497 K497
            refine AW_reg ?_
            refine s_v (o_bi rfl rfl rfl trivial) ?_
            refine s_v (o_mv (.sc (.int _ _)) rfl) ?_
            refine s_nil ?_
            cases hm
            exact ⟨rfl, tg523, ⟨(hp_sub (.cons _ (.refl _)) hk527.2).2, ot524⟩, LeF.fm ((hp_sub (.cons _ (.refl _)) hk527.2).1) (.cons (ALe.refl _ _) (.cons (ALe.refl _ _) (.cons (ALe.refl _ _) (.cons (ALe.refl _ _) (.cons (ALe.refl _ _) (.nil))))))⟩
          · replace hm := ite_f hm hc496
            refine AW_exit ?_
            refine Seq_exit ?_
            cases hm
            exact ⟨rfl, tg490, ⟨hk493, ot491⟩, LeF.fm (Sub.refl _) (.cons (ALe.refl _ _) (.cons (ALe.refl _ _) (.cons (ALe.refl _ _) (.cons (ALe.refl _ _) (.cons (ALe.refl _ _) (.nil))))))⟩
        · rintro tg530 ⟨r528, r529⟩ fr' h' ⟨hk532, ot531⟩ hm le
          refine H415 _ _ (le.aw ?_)
          clear le H415 K415
          refine AW_k fun K533 H533 => ?_
          refine AW_reg ?_
          refine s_v (o_mv (.ptr _ _) rfl) ?_
          refine s_v (o_flp fd27_4 rfl rfl) ?_
          refine s_v (o_ldp (.sl none 4 (List.map c_Vol p0.Vols)) ld25 rfl (hp_get 2 hk532 rfl) rfl) ?_
          refine s_v (o_lenm ln25 rfl) ?_
          obtain ⟨y534, hy535, hm⟩ := bind_of hm
          refine s_op (AOp_eqh ((hp_perm ((.swap _ _ _) : List.Perm (α := Option Key × Ent) [(tg530, .tok 5 1 ((r528 : List Int).length * 1)), (some k13, .obj 116 ([ow tg530 1 (List.map c_u8 r528)])), (some k2, .obj 27 (c_Catalog p0))] ([(some k13, .obj 116 ([ow tg530 1 (List.map c_u8 r528)])), (tg530, .tok 5 1 ((r528 : List Int).length * 1))] ++ [(some k2, .obj 27 (c_Catalog p0))])) hk532).1.trans (hp_app h [(some k13, .obj 116 ([ow tg530 1 (List.map c_u8 r528)])), (tg530, .tok 5 1 ((r528 : List Int).length * 1))] [(some k2, .obj 27 (c_Catalog p0))]).symm) (a_call (W75 (hp h [(some k2, .obj 27 (c_Catalog p0))]) ot531 (HOk_spl [(some k13, .obj 116 ([ow tg530 1 (List.map c_u8 r528)])), (tg530, .tok 5 1 ((r528 : List Int).length * 1))] [(some k2, .obj 27 (c_Catalog p0))] (hp_perm ((.swap _ _ _) : List.Perm (α := Option Key × Ent) [(tg530, .tok 5 1 ((r528 : List Int).length * 1)), (some k13, .obj 116 ([ow tg530 1 (List.map c_u8 r528)])), (some k2, .obj 27 (c_Catalog p0))] ([(some k13, .obj 116 ([ow tg530 1 (List.map c_u8 r528)])), (tg530, .tok 5 1 ((r528 : List Int).length * 1))] ++ [(some k2, .obj 27 (c_Catalog p0))])) hk532).2).2 hy535) rfl bd75 rfl ?_))
          rintro x h' ⟨tg536, ot537, hk538, rfl, rfl⟩
          have hk540 := hp_perm ((.swap _ _ _) : List.Perm (α := Option Key × Ent) ([(some k13, .obj 116 ([ow tg536 1 (List.map c_u8 y534)])), (tg536, .tok 5 1 ((y534 : List Int).length * 1))] ++ [(some k2, .obj 27 (c_Catalog p0))]) [(tg536, .tok 5 1 ((y534 : List Int).length * 1)), (some k13, .obj 116 ([ow tg536 1 (List.map c_u8 y534)])), (some k2, .obj 27 (c_Catalog p0))]) (HOk_app (HOk_spl [(some k13, .obj 116 ([ow tg530 1 (List.map c_u8 r528)])), (tg530, .tok 5 1 ((r528 : List Int).length * 1))] [(some k2, .obj 27 (c_Catalog p0))] (hp_perm ((.swap _ _ _) : List.Perm (α := Option Key × Ent) [(tg530, .tok 5 1 ((r528 : List Int).length * 1)), (some k13, .obj 116 ([ow tg530 1 (List.map c_u8 r528)])), (some k2, .obj 27 (c_Catalog p0))] ([(some k13, .obj 116 ([ow tg530 1 (List.map c_u8 r528)])), (tg530, .tok 5 1 ((r528 : List Int).length * 1))] ++ [(some k2, .obj 27 (c_Catalog p0))])) hk532).2).1 hk538)
          refine AOps_eqh ((hp_app h [(some k13, .obj 116 ([ow tg536 1 (List.map c_u8 y534)])), (tg536, .tok 5 1 ((y534 : List Int).length * 1))] [(some k2, .obj 27 (c_Catalog p0))]).trans hk540.1) ?_
          refine s_nil ?_
          refine H533 _ _ ?_
          clear H533 K533
          refine AW_k fun K541 H541 => ?_
          refine AW_k fun K542 H542 => ?_
          refine AW_reg ?_
          refine s_v (o_flp fd27_4 rfl rfl) ?_
          refine s_v (o_ldp (.sl none 4 (List.map c_Vol p0.Vols)) ld25 rfl (hp_get 2 hk540.2 rfl) rfl) ?_
          refine s_v (o_lenm ln25 rfl) ?_
          refine s_v (o_mv (.sc (.int _ _)) rfl) ?_
          refine s_nil ?_
          refine H542 _ _ ?_
          clear H542 K542
          refine AW_loopG (n := 174) hm (σ := (List Int) × Int) (τ := Option Key) (fun g s => HOk h [(g, .tok 5 1 ((s.1 : List Int).length * 1)), (some k13, .obj 116 ([ow g 1 (List.map c_u8 s.1)])), (some k2, .obj 27 (c_Catalog p0))] ∧ (g = none → s.1 = [])) (fun g s => kp (kp (kp (kp (k0) 148 (.sc (.int .i64 s.2))) 147 (.sc (.int .i64 (p0.Vols.length : Int)))) 146 (.sl none 4 (List.map c_Vol p0.Vols))) 5 (.ptr k13 0)) (fun g s => hp h [(g, .tok 5 1 ((s.1 : List Int).length * 1)), (some k13, .obj 116 ([ow g 1 (List.map c_u8 s.1)])), (some k2, .obj 27 (c_Catalog p0))]) tg536 (⟨hk540.2, ot537⟩) (LeF.fm (Sub.refl _) (.cons (ALe.refl _ _) (.cons (ALe.refl _ _) (.cons (ALe.refl _ _) (.cons (ALe.refl _ _) (.nil)))))) ?_ ?_
          · rintro tg632 ⟨q631, q634⟩ x ⟨hk635, ot633⟩ hm
            replace hm : M35_L6 fuel p0 q631 q634 = some x := hm
            unfold M35_L6 at hm
            refine AW_k fun K636 H636 => ?_
            refine AW_reg ?_
            refine s_v (o_bi rfl rfl rfl trivial) ?_
            refine s_nil ?_
            refine H636 _ _ ?_
            clear H636 K636
            refine AW_k fun K637 H637 => ?_
            refine AW_if' rfl (fun hc638 => ?_) (fun hc638 => ?_)
            · replace hm := ite_t hm hc638
              refine AW_skip ?_
              refine H637 _ _ ?_
              clear H637 K637
              refine AW_k fun K639 H639 => ?_
              refine AW_block ?_
              refine AW_k fun K640 H640 => ?_
              refine AW_reg ?_
              obtain ⟨x641, hx642, hm⟩ := bind_of hm
              refine s_v (o_ix hx642 el25 rfl rfl) ?_
              refine s_v (o_ld (.agg (c_Vol x641)) ld40 rfl rfl) ?_
              refine s_op (a_alloc ([.sc (.int .i64 0), .sc (.int .i64 0), .sc (.int .i64 0), .sc (.int .i64 0)]) hk635 zr40 rfl rfl fun k643 hk644 => ?_)
              refine s_op (a_store 0 (c_Vol x641) hk644 rfl rfl rfl rfl sz40 rfl rfl fun hk646 => ?_)
              refine s_nil ?_
              refine H640 _ _ ?_
              clear H640 K640
              refine AW_k fun K647 H647 => ?_
              refine AW_reg ?_
              refine s_v (o_mv (.ptr _ _) rfl) ?_
              refine s_v (o_flp fd40_0 rfl rfl) ?_
              refine s_v (o_ldp (.sc (.int .i64 x641.Pool)) ld3 rfl (hp_get 0 hk646 rfl) rfl) ?_
              obtain ⟨y648, hy649, hm⟩ := bind_of hm
              refine s_op (AOp_eqh ((hp_perm ((.trans ((.trans (.cons _ (.swap _ _ _)) (.swap _ _ _))) (.cons _ (.swap _ _ _))) : List.Perm (α := Option Key × Ent) [(some k643, .obj 40 (c_Vol x641)), (tg632, .tok 5 1 ((q631 : List Int).length * 1)), (some k13, .obj 116 ([ow tg632 1 (List.map c_u8 q631)])), (some k2, .obj 27 (c_Catalog p0))] ([(some k13, .obj 116 ([ow tg632 1 (List.map c_u8 q631)])), (tg632, .tok 5 1 ((q631 : List Int).length * 1))] ++ [(some k643, .obj 40 (c_Vol x641)), (some k2, .obj 27 (c_Catalog p0))])) hk646).1.trans (hp_app h [(some k13, .obj 116 ([ow tg632 1 (List.map c_u8 q631)])), (tg632, .tok 5 1 ((q631 : List Int).length * 1))] [(some k643, .obj 40 (c_Vol x641)), (some k2, .obj 27 (c_Catalog p0))]).symm) (a_call (W75 (hp h [(some k643, .obj 40 (c_Vol x641)), (some k2, .obj 27 (c_Catalog p0))]) ot633 (HOk_spl [(some k13, .obj 116 ([ow tg632 1 (List.map c_u8 q631)])), (tg632, .tok 5 1 ((q631 : List Int).length * 1))] [(some k643, .obj 40 (c_Vol x641)), (some k2, .obj 27 (c_Catalog p0))] (hp_perm ((.trans ((.trans (.cons _ (.swap _ _ _)) (.swap _ _ _))) (.cons _ (.swap _ _ _))) : List.Perm (α := Option Key × Ent) [(some k643, .obj 40 (c_Vol x641)), (tg632, .tok 5 1 ((q631 : List Int).length * 1)), (some k13, .obj 116 ([ow tg632 1 (List.map c_u8 q631)])), (some k2, .obj 27 (c_Catalog p0))] ([(some k13, .obj 116 ([ow tg632 1 (List.map c_u8 q631)])), (tg632, .tok 5 1 ((q631 : List Int).length * 1))] ++ [(some k643, .obj 40 (c_Vol x641)), (some k2, .obj 27 (c_Catalog p0))])) hk646).2).2 hy649) rfl bd75 rfl ?_))
              rintro x h' ⟨tg650, ot651, hk652, rfl, rfl⟩
              have hk654 := hp_perm ((.trans ((.trans (.cons _ (.swap _ _ _)) (.swap _ _ _))) (.cons _ (.swap _ _ _))) : List.Perm (α := Option Key × Ent) ([(some k13, .obj 116 ([ow tg650 1 (List.map c_u8 y648)])), (tg650, .tok 5 1 ((y648 : List Int).length * 1))] ++ [(some k643, .obj 40 (c_Vol x641)), (some k2, .obj 27 (c_Catalog p0))]) [(some k643, .obj 40 (c_Vol x641)), (tg650, .tok 5 1 ((y648 : List Int).length * 1)), (some k13, .obj 116 ([ow tg650 1 (List.map c_u8 y648)])), (some k2, .obj 27 (c_Catalog p0))]) (HOk_app (HOk_spl [(some k13, .obj 116 ([ow tg632 1 (List.map c_u8 q631)])), (tg632, .tok 5 1 ((q631 : List Int).length * 1))] [(some k643, .obj 40 (c_Vol x641)), (some k2, .obj 27 (c_Catalog p0))] (hp_perm ((.trans ((.trans (.cons _ (.swap _ _ _)) (.swap _ _ _))) (.cons _ (.swap _ _ _))) : List.Perm (α := Option Key × Ent) [(some k643, .obj 40 (c_Vol x641)), (tg632, .tok 5 1 ((q631 : List Int).length * 1)), (some k13, .obj 116 ([ow tg632 1 (List.map c_u8 q631)])), (some k2, .obj 27 (c_Catalog p0))] ([(some k13, .obj 116 ([ow tg632 1 (List.map c_u8 q631)])), (tg632, .tok 5 1 ((q631 : List Int).length * 1))] ++ [(some k643, .obj 40 (c_Vol x641)), (some k2, .obj 27 (c_Catalog p0))])) hk646).2).1 hk652)
              refine AOps_eqh ((hp_app h [(some k13, .obj 116 ([ow tg650 1 (List.map c_u8 y648)])), (tg650, .tok 5 1 ((y648 : List Int).length * 1))] [(some k643, .obj 40 (c_Vol x641)), (some k2, .obj 27 (c_Catalog p0))]).trans hk654.1) ?_
              refine s_nil ?_
              refine H647 _ _ ?_
              clear H647 K647
              refine AW_k fun K655 H655 => ?_
              refine AW_reg ?_
              refine s_v (o_mv (.ptr _ _) rfl) ?_
              refine s_v (o_flp fd40_2 rfl rfl) ?_
              refine s_v (o_ldp (.sc (.int .i64 x641.State)) ld3 rfl (hp_get 0 hk654.2 rfl) rfl) ?_
              obtain ⟨y656, hy657, hm⟩ := bind_of hm
              refine s_op (AOp_eqh ((hp_perm ((.trans ((.trans (.cons _ (.swap _ _ _)) (.swap _ _ _))) (.cons _ (.swap _ _ _))) : List.Perm (α := Option Key × Ent) [(some k643, .obj 40 (c_Vol x641)), (tg650, .tok 5 1 ((y648 : List Int).length * 1)), (some k13, .obj 116 ([ow tg650 1 (List.map c_u8 y648)])), (some k2, .obj 27 (c_Catalog p0))] ([(some k13, .obj 116 ([ow tg650 1 (List.map c_u8 y648)])), (tg650, .tok 5 1 ((y648 : List Int).length * 1))] ++ [(some k643, .obj 40 (c_Vol x641)), (some k2, .obj 27 (c_Catalog p0))])) hk654.2).1.trans (hp_app h [(some k13, .obj 116 ([ow tg650 1 (List.map c_u8 y648)])), (tg650, .tok 5 1 ((y648 : List Int).length * 1))] [(some k643, .obj 40 (c_Vol x641)), (some k2, .obj 27 (c_Catalog p0))]).symm) (a_call (W75 (hp h [(some k643, .obj 40 (c_Vol x641)), (some k2, .obj 27 (c_Catalog p0))]) ot651 (HOk_spl [(some k13, .obj 116 ([ow tg650 1 (List.map c_u8 y648)])), (tg650, .tok 5 1 ((y648 : List Int).length * 1))] [(some k643, .obj 40 (c_Vol x641)), (some k2, .obj 27 (c_Catalog p0))] (hp_perm ((.trans ((.trans (.cons _ (.swap _ _ _)) (.swap _ _ _))) (.cons _ (.swap _ _ _))) : List.Perm (α := Option Key × Ent) [(some k643, .obj 40 (c_Vol x641)), (tg650, .tok 5 1 ((y648 : List Int).length * 1)), (some k13, .obj 116 ([ow tg650 1 (List.map c_u8 y648)])), (some k2, .obj 27 (c_Catalog p0))] ([(some k13, .obj 116 ([ow tg650 1 (List.map c_u8 y648)])), (tg650, .tok 5 1 ((y648 : List Int).length * 1))] ++ [(some k643, .obj 40 (c_Vol x641)), (some k2, .obj 27 (c_Catalog p0))])) hk654.2).2).2 hy657) rfl bd75 rfl ?_))
              rintro x h' ⟨tg658, ot659, hk660, rfl, rfl⟩
              have hk662 := hp_perm ((.trans ((.trans (.cons _ (.swap _ _ _)) (.swap _ _ _))) (.cons _ (.swap _ _ _))) : List.Perm (α := Option Key × Ent) ([(some k13, .obj 116 ([ow tg658 1 (List.map c_u8 y656)])), (tg658, .tok 5 1 ((y656 : List Int).length * 1))] ++ [(some k643, .obj 40 (c_Vol x641)), (some k2, .obj 27 (c_Catalog p0))]) [(some k643, .obj 40 (c_Vol x641)), (tg658, .tok 5 1 ((y656 : List Int).length * 1)), (some k13, .obj 116 ([ow tg658 1 (List.map c_u8 y656)])), (some k2, .obj 27 (c_Catalog p0))]) (HOk_app (HOk_spl [(some k13, .obj 116 ([ow tg650 1 (List.map c_u8 y648)])), (tg650, .tok 5 1 ((y648 : List Int).length * 1))] [(some k643, .obj 40 (c_Vol x641)), (some k2, .obj 27 (c_Catalog p0))] (hp_perm ((.trans ((.trans (.cons _ (.swap _ _ _)) (.swap _ _ _))) (.cons _ (.swap _ _ _))) : List.Perm (α := Option Key × Ent) [(some k643, .obj 40 (c_Vol x641)), (tg650, .tok 5 1 ((y648 : List Int).length * 1)), (some k13, .obj 116 ([ow tg650 1 (List.map c_u8 y648)])), (some k2, .obj 27 (c_Catalog p0))] ([(some k13, .obj 116 ([ow tg650 1 (List.map c_u8 y648)])), (tg650, .tok 5 1 ((y648 : List Int).length * 1))] ++ [(some k643, .obj 40 (c_Vol x641)), (some k2, .obj 27 (c_Catalog p0))])) hk654.2).2).1 hk660)
              refine AOps_eqh ((hp_app h [(some k13, .obj 116 ([ow tg658 1 (List.map c_u8 y656)])), (tg658, .tok 5 1 ((y656 : List Int).length * 1))] [(some k643, .obj 40 (c_Vol x641)), (some k2, .obj 27 (c_Catalog p0))]).trans hk662.1) ?_
              refine s_nil ?_
              refine H655 _ _ ?_
              clear H655 K655
              refine AW_k fun K663 H663 => ?_
              refine AW_reg ?_
              refine s_v (o_mv (.ptr _ _) rfl) ?_
              refine s_v (o_flp fd40_1 rfl rfl) ?_
              refine s_v (o_ldp (.sc (.int .i64 x641.Epoch)) ld3 rfl (hp_get 0 hk662.2 rfl) rfl) ?_
              obtain ⟨y664, hy665, hm⟩ := bind_of hm
              refine s_op (AOp_eqh ((hp_perm ((.trans ((.trans (.cons _ (.swap _ _ _)) (.swap _ _ _))) (.cons _ (.swap _ _ _))) : List.Perm (α := Option Key × Ent) [(some k643, .obj 40 (c_Vol x641)), (tg658, .tok 5 1 ((y656 : List Int).length * 1)), (some k13, .obj 116 ([ow tg658 1 (List.map c_u8 y656)])), (some k2, .obj 27 (c_Catalog p0))] ([(some k13, .obj 116 ([ow tg658 1 (List.map c_u8 y656)])), (tg658, .tok 5 1 ((y656 : List Int).length * 1))] ++ [(some k643, .obj 40 (c_Vol x641)), (some k2, .obj 27 (c_Catalog p0))])) hk662.2).1.trans (hp_app h [(some k13, .obj 116 ([ow tg658 1 (List.map c_u8 y656)])), (tg658, .tok 5 1 ((y656 : List Int).length * 1))] [(some k643, .obj 40 (c_Vol x641)), (some k2, .obj 27 (c_Catalog p0))]).symm) (a_call (W75 (hp h [(some k643, .obj 40 (c_Vol x641)), (some k2, .obj 27 (c_Catalog p0))]) ot659 (HOk_spl [(some k13, .obj 116 ([ow tg658 1 (List.map c_u8 y656)])), (tg658, .tok 5 1 ((y656 : List Int).length * 1))] [(some k643, .obj 40 (c_Vol x641)), (some k2, .obj 27 (c_Catalog p0))] (hp_perm ((.trans ((.trans (.cons _ (.swap _ _ _)) (.swap _ _ _))) (.cons _ (.swap _ _ _))) : List.Perm (α := Option Key × Ent) [(some k643, .obj 40 (c_Vol x641)), (tg658, .tok 5 1 ((y656 : List Int).length * 1)), (some k13, .obj 116 ([ow tg658 1 (List.map c_u8 y656)])), (some k2, .obj 27 (c_Catalog p0))] ([(some k13, .obj 116 ([ow tg658 1 (List.map c_u8 y656)])), (tg658, .tok 5 1 ((y656 : List Int).length * 1))] ++ [(some k643, .obj 40 (c_Vol x641)), (some k2, .obj 27 (c_Catalog p0))])) hk662.2).2).2 hy665) rfl bd75 rfl ?_))
              rintro x h' ⟨tg666, ot667, hk668, rfl, rfl⟩
              have hk670 := hp_perm ((.trans ((.trans (.cons _ (.swap _ _ _)) (.swap _ _ _))) (.cons _ (.swap _ _ _))) : List.Perm (α := Option Key × Ent) ([(some k13, .obj 116 ([ow tg666 1 (List.map c_u8 y664)])), (tg666, .tok 5 1 ((y664 : List Int).length * 1))] ++ [(some k643, .obj 40 (c_Vol x641)), (some k2, .obj 27 (c_Catalog p0))]) [(some k643, .obj 40 (c_Vol x641)), (tg666, .tok 5 1 ((y664 : List Int).length * 1)), (some k13, .obj 116 ([ow tg666 1 (List.map c_u8 y664)])), (some k2, .obj 27 (c_Catalog p0))]) (HOk_app (HOk_spl [(some k13, .obj 116 ([ow tg658 1 (List.map c_u8 y656)])), (tg658, .tok 5 1 ((y656 : List Int).length * 1))] [(some k643, .obj 40 (c_Vol x641)), (some k2, .obj 27 (c_Catalog p0))] (hp_perm ((.trans ((.trans (.cons _ (.swap _ _ _)) (.swap _ _ _))) (.cons _ (.swap _ _ _))) : List.Perm (α := Option Key × Ent) [(some k643, .obj 40 (c_Vol x641)), (tg658, .tok 5 1 ((y656 : List Int).length * 1)), (some k13, .obj 116 ([ow tg658 1 (List.map c_u8 y656)])), (some k2, .obj 27 (c_Catalog p0))] ([(some k13, .obj 116 ([ow tg658 1 (List.map c_u8 y656)])), (tg658, .tok 5 1 ((y656 : List Int).length * 1))] ++ [(some k643, .obj 40 (c_Vol x641)), (some k2, .obj 27 (c_Catalog p0))])) hk662.2).2).1 hk668)
              refine AOps_eqh ((hp_app h [(some k13, .obj 116 ([ow tg666 1 (List.map c_u8 y664)])), (tg666, .tok 5 1 ((y664 : List Int).length * 1))] [(some k643, .obj 40 (c_Vol x641)), (some k2, .obj 27 (c_Catalog p0))]).trans hk670.1) ?_
              refine s_nil ?_
              refine H663 _ _ ?_
              clear H663 K663
              refine AW_reg ?_
              refine s_v (o_mv (.ptr _ _) rfl) ?_
              refine s_v (o_flp fd40_3 rfl rfl) ?_
              refine s_v (o_ldp (.sc (.int .i64 x641.Files)) ld3 rfl (hp_get 0 hk670.2 rfl) rfl) ?_
              obtain ⟨y671, hy672, hm⟩ := bind_of hm
              refine s_op (AOp_eqh ((hp_perm ((.trans ((.trans (.cons _ (.swap _ _ _)) (.swap _ _ _))) (.cons _ (.swap _ _ _))) : List.Perm (α := Option Key × Ent) [(some k643, .obj 40 (c_Vol x641)), (tg666, .tok 5 1 ((y664 : List Int).length * 1)), (some k13, .obj 116 ([ow tg666 1 (List.map c_u8 y664)])), (some k2, .obj 27 (c_Catalog p0))] ([(some k13, .obj 116 ([ow tg666 1 (List.map c_u8 y664)])), (tg666, .tok 5 1 ((y664 : List Int).length * 1))] ++ [(some k643, .obj 40 (c_Vol x641)), (some k2, .obj 27 (c_Catalog p0))])) hk670.2).1.trans (hp_app h [(some k13, .obj 116 ([ow tg666 1 (List.map c_u8 y664)])), (tg666, .tok 5 1 ((y664 : List Int).length * 1))] [(some k643, .obj 40 (c_Vol x641)), (some k2, .obj 27 (c_Catalog p0))]).symm) (a_call (W75 (hp h [(some k643, .obj 40 (c_Vol x641)), (some k2, .obj 27 (c_Catalog p0))]) ot667 (HOk_spl [(some k13, .obj 116 ([ow tg666 1 (List.map c_u8 y664)])), (tg666, .tok 5 1 ((y664 : List Int).length * 1))] [(some k643, .obj 40 (c_Vol x641)), (some k2, .obj 27 (c_Catalog p0))] (hp_perm ((.trans ((.trans (.cons _ (.swap _ _ _)) (.swap _ _ _))) (.cons _ (.swap _ _ _))) : List.Perm (α := Option Key × Ent) [(some k643, .obj 40 (c_Vol x641)), (tg666, .tok 5 1 ((y664 : List Int).length * 1)), (some k13, .obj 116 ([ow tg666 1 (List.map c_u8 y664)])), (some k2, .obj 27 (c_Catalog p0))] ([(some k13, .obj 116 ([ow tg666 1 (List.map c_u8 y664)])), (tg666, .tok 5 1 ((y664 : List Int).length * 1))] ++ [(some k643, .obj 40 (c_Vol x641)), (some k2, .obj 27 (c_Catalog p0))])) hk670.2).2).2 hy672) rfl bd75 rfl ?_))
              rintro x h' ⟨tg673, ot674, hk675, rfl, rfl⟩
              have hk677 := hp_perm ((.trans ((.trans (.cons _ (.swap _ _ _)) (.swap _ _ _))) (.cons _ (.swap _ _ _))) : List.Perm (α := Option Key × Ent) ([(some k13, .obj 116 ([ow tg673 1 (List.map c_u8 y671)])), (tg673, .tok 5 1 ((y671 : List Int).length * 1))] ++ [(some k643, .obj 40 (c_Vol x641)), (some k2, .obj 27 (c_Catalog p0))]) [(some k643, .obj 40 (c_Vol x641)), (tg673, .tok 5 1 ((y671 : List Int).length * 1)), (some k13, .obj 116 ([ow tg673 1 (List.map c_u8 y671)])), (some k2, .obj 27 (c_Catalog p0))]) (HOk_app (HOk_spl [(some k13, .obj 116 ([ow tg666 1 (List.map c_u8 y664)])), (tg666, .tok 5 1 ((y664 : List Int).length * 1))] [(some k643, .obj 40 (c_Vol x641)), (some k2, .obj 27 (c_Catalog p0))] (hp_perm ((.trans ((.trans (.cons _ (.swap _ _ _)) (.swap _ _ _))) (.cons _ (.swap _ _ _))) : List.Perm (α := Option Key × Ent) [(some k643, .obj 40 (c_Vol x641)), (tg666, .tok 5 1 ((y664 : List Int).length * 1)), (some k13, .obj 116 ([ow tg666 1 (List.map c_u8 y664)])), (some k2, .obj 27 (c_Catalog p0))] ([(some k13, .obj 116 ([ow tg666 1 (List.map c_u8 y664)])), (tg666, .tok 5 1 ((y664 : List Int).length * 1))] ++ [(some k643, .obj 40 (c_Vol x641)), (some k2, .obj 27 (c_Catalog p0))])) hk670.2).2).1 hk675)
              refine AOps_eqh ((hp_app h [(some k13, .obj 116 ([ow tg673 1 (List.map c_u8 y671)])), (tg673, .tok 5 1 ((y671 : List Int).length * 1))] [(some k643, .obj 40 (c_Vol x641)), (some k2, .obj 27 (c_Catalog p0))]).trans hk677.1) ?_
              refine s_nil ?_
              refine H639 _ _ ?_
              clear H639 K639
              refine AW_reg ?_
              refine s_v (o_bi rfl rfl rfl trivial) ?_
              refine s_v (o_mv (.sc (.int _ _)) rfl) ?_
              refine s_nil ?_
              cases hm
              exact ⟨rfl, tg673, ⟨(hp_sub (.cons _ (.refl _)) hk677.2).2, ot674⟩, LeF.fm ((hp_sub (.cons _ (.refl _)) hk677.2).1) (.cons (ALe.refl _ _) (.cons (ALe.refl _ _) (.cons (ALe.refl _ _) (.cons (ALe.refl _ _) (.nil)))))⟩
            · replace hm := ite_f hm hc638
              refine AW_exit ?_
              refine Seq_exit ?_
              cases hm
              exact ⟨rfl, tg632, ⟨hk635, ot633⟩, LeF.fm (Sub.refl _) (.cons (ALe.refl _ _) (.cons (ALe.refl _ _) (.cons (ALe.refl _ _) (.cons (ALe.refl _ _) (.nil)))))⟩
          · rintro tg680 ⟨r678, r679⟩ fr' h' ⟨hk682, ot681⟩ hm le
            refine H541 _ _ (le.aw ?_)
            clear le H541 K541
            refine AW_k fun K683 H683 => ?_
            refine AW_reg ?_
            refine s_v (o_mv (.ptr _ _) rfl) ?_
            refine s_v (o_nil rfl) ?_
            refine s_v (o_flp fd116_0 rfl rfl) ?_
            refine s_v (o_ldp (ow tg680 1 (List.map c_u8 r678)) ld52 rfl (hp_get 1 hk682 rfl) rfl) ?_
            obtain ⟨y684, hy685, hm⟩ := bind_of hm
            refine s_fz (t := 172) (.sl none 1 (List.map c_u8 r678)) (hp_sub (List.eraseIdx_sublist _ 0) hk682).1 (own_frzE _ 0 ot681 hk682 rfl (.refl _)) ?_
            refine s_op (a_call (W77 _ hy685) rfl bd77 rfl ?_)
            rintro x h' ⟨tg686, ot687, hk688, rfl, rfl⟩
            rw [hp_cat]
            refine s_v (o_as (ow _ _ _) rfl) ?_
            refine s_v (o_as (.sc (.int _ _)) rfl) ?_
            refine s_nil ?_
            refine H683 _ _ ?_
            clear H683 K683
            refine AW_ret ?_
            cases hm
            exact Ret.of2 (.inl rfl) (rsT _ _ (ow _ _ _) rfl) (rsT _ _ (.sc (.int _ _)) rfl) (hp_sub (List.nil_sublist _) (HOk.co ((hp_sub (List.eraseIdx_sublist _ 0) hk682).2) hk688)).1 ((own_frz0 _ 0 ot687 (HOk.co ((hp_sub (List.eraseIdx_sublist _ 0) hk682).2) hk688) rfl)) (ALe.refl _ _) ⟨rfl, rfl⟩
theorem bd35 : bodied Try.prog 35 = true := by kernel_rfl
def M31 (fuel : Nat) : Option (Bool) :=
  (M30 fuel ([0] : List Int)).bind fun y3 => (M35 fuel y3.1).bind fun y10 => after (if (y3.2 == 0) = true then (if (y10.2 == 0) = true then (if ((y10.1.length : Int) == 18) = true then ((M33 fuel y3.1).bind fun y25 => if (y25 == 0) = true then ((M47 fuel y3.1 (ByteArray.mk #[120])).bind fun y28 => some (.brk (y28 == (-1)))) else some (.brk false)) else some (.brk false)) else some (.brk false)) else some (.brk false) : Option (Lp (Bool) (Bool))) fun j21 => some j21
set_option maxHeartbeats 4000000 in
set_option maxRecDepth 100000 in
/-- cellarer/cellarerlaw18.wakes -/
theorem W31 {fuel : Nat} {o : Bool} (h : Heap) (hm : M31 fuel = some o) :
    ACalls Try.prog 31 [] h (fun r h' => r = .sc (.bool o) ∧ h' = h) := by
  refine ACalls_hp 36 [.tmp 0] Try.func31 rfl rfl rfl rfl ?_
  unfold M31 at hm
  refine AW_k fun K1 H1 => ?_
  refine AW_reg ?_
  refine s_v (o_as (.sc (.bool _)) rfl) ?_
  refine s_nil ?_
  refine H1 _ _ ?_
  clear H1 K1
  refine AW_k fun K2 H2 => ?_
  refine AW_reg ?_
  refine s_v (o_lit (List.map c_i64 ([0] : List Int)) et28 rfl rfl rfl rfl) ?_
  obtain ⟨y3, hy4, hm⟩ := bind_of hm
  refine s_v (o_call (W30 _ hy4) rfl bd30 rfl) ?_
  refine s_v (o_mv (.tup _) rfl) ?_
  refine s_v (o_ex (.agg _) rfl rfl) ?_
  refine s_v (o_ex (.sc (.int _ _)) rfl rfl) ?_
  refine s_op (a_alloc ([.sc (.int .i64 0), .sc (.slice none 0 0), .sc (.slice none 0 0), .sc (.slice none 0 0), .sc (.slice none 0 0)]) (HOk.nil _) zr27 rfl rfl fun k5 hk6 => ?_)
  refine s_op (a_store 0 (c_Catalog y3.1) hk6 rfl rfl rfl rfl sz27 rfl rfl fun hk8 => ?_)
  refine s_v (o_as (.sc (.int _ _)) rfl) ?_
  refine s_nil ?_
  refine H2 _ _ ?_
  clear H2 K2
  refine AW_k fun K9 H9 => ?_
  refine AW_reg ?_
  refine s_v (o_ldp (.agg (c_Catalog y3.1)) ld27 rfl (hp_get 0 hk8 rfl) rfl) ?_
  obtain ⟨y10, hy11, hm⟩ := bind_of hm
  refine s_v (o_call (W35 _ hy11) rfl bd35 rfl) ?_
  refine s_v (o_mv (.tup _) rfl) ?_
  refine s_v (o_ex (.sl _ _ _) rfl rfl) ?_
  refine s_v (o_ex (.sc (.int _ _)) rfl rfl) ?_
  refine s_v (o_as (.sl _ _ _) rfl) ?_
  refine s_v (o_as (.sc (.int _ _)) rfl) ?_
  refine s_nil ?_
  refine H9 _ _ ?_
  clear H9 K9
  refine AW_k fun K12 H12 => ?_
  refine AW_joinG (n := 36) hm (σ := Bool) (τ := Unit) (fun g s => HOk h [(some k5, .obj 27 (c_Catalog y3.1))]) (fun g s => kp (k0) 0 (.sc (.bool s))) (fun g s => hp h [(some k5, .obj 27 (c_Catalog y3.1))]) (fun x hm => ?_) ?_
  · refine AW_reg ?_
    refine s_v (o_mv (.sc (.int _ _)) rfl) ?_
    refine s_v (o_bi rfl rfl rfl trivial) ?_
    refine s_v (o_mv (.sc (.bool _)) rfl) ?_
    rcases Bool.eq_false_or_eq_true (y3.2 == 0) with hb22 | hb22
    · replace hm := ite_t hm hb22
      refine sg_y rfl rfl hb22 ?_
      refine s_v (o_mv (.sc (.int _ _)) rfl) ?_
      refine sg_y rfl rfl hb22 ?_
      refine s_v (o_bi rfl rfl rfl trivial) ?_
      refine s_v (o_pkt (.sc (.bool _)) rfl hb22 rfl) ?_
      refine s_v (o_mv (.sc (.bool _)) rfl) ?_
      rcases Bool.eq_false_or_eq_true (y10.2 == 0) with hb23 | hb23
      · replace hm := ite_t hm hb23
        refine sg_y rfl rfl hb23 ?_
        refine s_v (o_mv (.sl _ _ _) rfl) ?_
        refine sg_y rfl rfl hb23 ?_
        refine s_v (o_lenm ln52 rfl) ?_
        refine sg_y rfl rfl hb23 ?_
        refine s_v (o_bi rfl rfl rfl trivial) ?_
        refine s_v (o_pkt (.sc (.bool _)) rfl hb23 rfl) ?_
        refine s_v (o_mv (.sc (.bool _)) rfl) ?_
        rcases Bool.eq_false_or_eq_true ((y10.1.length : Int) == 18) with hb24 | hb24
        · replace hm := ite_t hm hb24
          refine sg_y rfl rfl hb24 ?_
          refine s_v (o_ldp (.agg (c_Catalog y3.1)) ld27 rfl (hp_get 0 hk8 rfl) rfl) ?_
          refine sg_y rfl rfl hb24 ?_
          obtain ⟨y25, hy26, hm⟩ := bind_of hm
          refine s_v (o_call (W33 _ hy26) rfl bd33 rfl) ?_
          refine sg_y rfl rfl hb24 ?_
          refine s_v (o_bi rfl rfl rfl trivial) ?_
          refine s_v (o_pkt (.sc (.bool _)) rfl hb24 rfl) ?_
          refine s_v (o_mv (.sc (.bool _)) rfl) ?_
          rcases Bool.eq_false_or_eq_true (y25 == 0) with hb27 | hb27
          · replace hm := ite_t hm hb27
            refine sg_y rfl rfl hb27 ?_
            refine s_v (o_ldp (.agg (c_Catalog y3.1)) ld27 rfl (hp_get 0 hk8 rfl) rfl) ?_
            refine sg_y rfl rfl hb27 ?_
            obtain ⟨y28, hy29, hm⟩ := bind_of hm
            refine s_v (o_call (W47 _ hy29) rfl bd47 rfl) ?_
            refine sg_y rfl rfl hb27 ?_
            refine s_v (o_bi rfl rfl rfl trivial) ?_
            refine s_v (o_pkt (.sc (.bool _)) rfl hb27 rfl) ?_
            refine s_v (o_as (.sc (.bool _)) rfl) ?_
            refine s_nil ?_
            cases hm
            exact ⟨rfl, (), hk8, LeF.fm (Sub.refl _) (.cons (ALe.refl _ _) (.nil))⟩
          · replace hm := ite_f hm hb27
            refine sg_n rfl rfl hb27 ?_
            refine sg_n rfl rfl hb27 ?_
            refine sg_n rfl rfl hb27 ?_
            refine s_v (o_pkf (.sc (.bool _)) rfl hb27 rfl) ?_
            refine s_v (o_as (.sc (.bool _)) rfl) ?_
            refine s_nil ?_
            cases hm
            exact ⟨rfl, (), hk8, LeF.fm (Sub.refl _) (.cons (ALe.refl _ _) (.nil))⟩
        · replace hm := ite_f hm hb24
          refine sg_n rfl rfl hb24 ?_
          refine sg_n rfl rfl hb24 ?_
          refine sg_n rfl rfl hb24 ?_
          refine s_v (o_pkf (.sc (.bool _)) rfl hb24 rfl) ?_
          refine s_v (o_mv (.sc (.bool _)) rfl) ?_
          refine sg_n rfl rfl rfl ?_
          refine sg_n rfl rfl rfl ?_
          refine sg_n rfl rfl rfl ?_
          refine s_v (o_pkf (.sc (.bool _)) rfl rfl rfl) ?_
          refine s_v (o_as (.sc (.bool _)) rfl) ?_
          refine s_nil ?_
          cases hm
          exact ⟨rfl, (), hk8, LeF.fm (Sub.refl _) (.cons (ALe.refl _ _) (.nil))⟩
      · replace hm := ite_f hm hb23
        refine sg_n rfl rfl hb23 ?_
        refine sg_n rfl rfl hb23 ?_
        refine sg_n rfl rfl hb23 ?_
        refine s_v (o_pkf (.sc (.bool _)) rfl hb23 rfl) ?_
        refine s_v (o_mv (.sc (.bool _)) rfl) ?_
        refine sg_n rfl rfl rfl ?_
        refine sg_n rfl rfl rfl ?_
        refine sg_n rfl rfl rfl ?_
        refine s_v (o_pkf (.sc (.bool _)) rfl rfl rfl) ?_
        refine s_v (o_mv (.sc (.bool _)) rfl) ?_
        refine sg_n rfl rfl rfl ?_
        refine sg_n rfl rfl rfl ?_
        refine sg_n rfl rfl rfl ?_
        refine s_v (o_pkf (.sc (.bool _)) rfl rfl rfl) ?_
        refine s_v (o_as (.sc (.bool _)) rfl) ?_
        refine s_nil ?_
        cases hm
        exact ⟨rfl, (), hk8, LeF.fm (Sub.refl _) (.cons (ALe.refl _ _) (.nil))⟩
    · replace hm := ite_f hm hb22
      refine sg_n rfl rfl hb22 ?_
      refine sg_n rfl rfl hb22 ?_
      refine s_v (o_pkf (.sc (.bool _)) rfl hb22 rfl) ?_
      refine s_v (o_mv (.sc (.bool _)) rfl) ?_
      refine sg_n rfl rfl rfl ?_
      refine sg_n rfl rfl rfl ?_
      refine sg_n rfl rfl rfl ?_
      refine s_v (o_pkf (.sc (.bool _)) rfl rfl rfl) ?_
      refine s_v (o_mv (.sc (.bool _)) rfl) ?_
      refine sg_n rfl rfl rfl ?_
      refine sg_n rfl rfl rfl ?_
      refine sg_n rfl rfl rfl ?_
      refine s_v (o_pkf (.sc (.bool _)) rfl rfl rfl) ?_
      refine s_v (o_mv (.sc (.bool _)) rfl) ?_
      refine sg_n rfl rfl rfl ?_
      refine sg_n rfl rfl rfl ?_
      refine sg_n rfl rfl rfl ?_
      refine s_v (o_pkf (.sc (.bool _)) rfl rfl rfl) ?_
      refine s_v (o_as (.sc (.bool _)) rfl) ?_
      refine s_nil ?_
      cases hm
      exact ⟨rfl, (), hk8, LeF.fm (Sub.refl _) (.cons (ALe.refl _ _) (.nil))⟩
  · rintro _ j21 fr' h' hk30 hm le
    refine H12 _ _ (le.aw ?_)
    clear le H12 K12
    refine AW_ret ?_
    cases hm
    exact Ret.of1 (.inl rfl) (rsT _ _ (.sc (.bool _)) rfl) (hp_sub (List.nil_sublist _) hk30).1 (ALe.refl _ _) ⟨rfl, rfl⟩
theorem bd31 : bodied Try.prog 31 = true := by kernel_rfl
end Go.Proofs.Ytoomgangpjcaoaa
