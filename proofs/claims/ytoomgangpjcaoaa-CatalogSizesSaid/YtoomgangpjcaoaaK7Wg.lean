import Derived.Test.YtoomgangpjcaoaaK7Wd
import Derived.Test.YtoomgangpjcaoaaK7We
import Derived.Test.YtoomgangpjcaoaaK7Wf
set_option linter.unusedSimpArgs false
set_option linter.unusedVariables false
namespace Go.Proofs.Ytoomgangpjcaoaa
open Go.Vm
def M30_L0 (fuel : Nat) (p0 : List Int) (q85 : List TVol) (q88 : Int) : Option (Lp ((List TVol) × Int) (TCatalog × Int)) :=
  if (decide (q88 < (p0.length : Int))) = true then ((ix p0 q88).bind fun x95 => (M68 fuel x95 0 1).bind fun y99 => if (!y99) = true then (some (.ret (({ Seq := 0, Snaps := [], Chunks := [], Exps := [], Vols := [] } : TCatalog), 1))) else (app q85 ([({ Pool := x95, Epoch := 0, State := 1, Files := 0 } : TVol)] : List TVol)).bind fun z104 => some (.go (z104, IntKind.wrap .i64 (q88 + 1)))) else some (.brk (q85, q88))
def M30 (fuel : Nat) (p0 : List Int) : Option (TCatalog × Int) :=
  (M68 fuel (p0.length : Int) 1 8).bind fun y7 => if (!y7) = true then (some (({ Seq := 0, Snaps := [], Chunks := [], Exps := [], Vols := [] } : TCatalog), 2)) else after (loopM (fun s => M30_L0 fuel p0 s.1 s.2) fuel ([], 0)) fun ⟨r110, r111⟩ => some (({ Seq := 0, Snaps := [], Chunks := [], Exps := [], Vols := r110 } : TCatalog), 0)
set_option maxRecDepth 100000 in
/-- cellarer/catalog.New -/
theorem W30 {fuel : Nat} {p0 : List Int} {o : TCatalog × Int} (h : Heap) (hm : M30 fuel p0 = some o) :
    ACalls Try.prog 30 [.sl none 1 (List.map c_i64 p0)] h (fun r h' => r = .tup [.agg (c_Catalog o.1), .sc (.int .i64 o.2)] ∧ h' = h) := by
  refine ACalls_hp 31 [.cell 2 27, .tmp 3] Try.func30 rfl rfl rfl rfl ?_
  unfold M30 at hm
  refine AW_k fun K1 H1 => ?_
  refine AW_reg ?_
  refine s_op (a_alloc ([.sc (.int .i64 0), .sc (.slice none 0 0), .sc (.slice none 0 0), .sc (.slice none 0 0), .sc (.slice none 0 0)]) (HOk.nil _) zr27 rfl rfl fun k2 hk3 => ?_)
  refine s_v (o_as (.sc (.int _ _)) rfl) ?_
  refine s_nil ?_
  refine H1 _ _ ?_
  clear H1 K1
  refine AW_k fun K5 H5 => ?_
  refine AW_k fun K6 H6 => ?_
  refine AW_reg ?_
  refine s_v (o_mv (.sl _ _ _) rfl) ?_
  refine s_v (o_lenm ln28 rfl) ?_
  obtain ⟨y7, hy8, hm⟩ := bind_of hm
  refine s_v (o_call (W68 _ hy8) rfl bd68 rfl) ?_
  refine s_v (o_not rfl) ?_
  refine s_nil ?_
  refine H6 _ _ ?_
  clear H6 K6
  refine AW_if' rfl (fun hc9 => ?_) (fun hc9 => ?_)
  · replace hm := ite_t hm hc9
    refine AW_k fun K10 H10 => ?_
    refine AW_reg ?_
    refine s_v (o_bld ([.sc (.int .i64 0), .sc (.slice none 0 0), .sc (.slice none 0 0), .sc (.slice none 0 0), .sc (.slice none 0 0)]) bt27 rfl) ?_
    refine s_op (a_store 0 ([.sc (.int .i64 0), .sc (.slice none 0 0), .sc (.slice none 0 0), .sc (.slice none 0 0), .sc (.slice none 0 0)]) hk3 rfl rfl rfl rfl sz27 rfl rfl fun hk11 => ?_)
    refine s_v (o_as (.sc (.int _ _)) rfl) ?_
    refine s_nil ?_
    refine H10 _ _ ?_
    clear H10 K10
    refine AW_ret ?_
    cases hm
    exact Ret.of2 (.inl rfl) (rsC (.agg ([.sc (.int .i64 0), .sc (.slice none 0 0), .sc (.slice none 0 0), .sc (.slice none 0 0), .sc (.slice none 0 0)])) ld27 rfl (hp_get 0 hk11 rfl) rfl) (rsT _ _ (.sc (.int _ _)) rfl) (hp_sub (List.nil_sublist _) hk11).1 (ALe.agg (.cons (ALe.refl _ _) (.cons (nil_lem _) (.cons (nil_lem _) (.cons (nil_lem _) (.cons (nil_lem _) (.nil))))))) (ALe.refl _ _) ⟨rfl, rfl⟩
  · replace hm := ite_f hm hc9
    refine AW_skip ?_
    refine H5 _ _ ?_
    clear H5 K5
    refine AW_k fun K12 H12 => ?_
    refine AW_reg ?_
    refine s_op (a_alloc ([.sc (.int .i64 0), .sc (.slice none 0 0), .sc (.slice none 0 0), .sc (.slice none 0 0), .sc (.slice none 0 0)]) hk3 zr27 rfl rfl fun k13 hk14 => ?_)
    refine s_nil ?_
    refine H12 _ _ ?_
    clear H12 K12
    refine AW_k fun K16 H16 => ?_
    refine AW_k fun K17 H17 => ?_
    refine AW_reg ?_
    refine s_v (o_mv (.sl _ _ _) rfl) ?_
    refine s_v (o_lenm ln28 rfl) ?_
    refine s_v (o_mv (.sc (.int _ _)) rfl) ?_
    refine s_nil ?_
    refine H17 _ _ ?_
    clear H17 K17
    obtain ⟨hk40, le0⟩ := LeF.obj (L := (none, .tok 40 4 (([] : List TVol).length * 4)) :: _) (n := 31) (f := _) 1 ([.sc (.int .i64 0), .sc (.slice none 0 0), .sc (.slice none 0 0), .sc (.slice none 0 0), ow none 4 (List.map c_Vol [])]) (HOk.none hk14) rfl (.cons (ALe.refl _ _) (.cons (ALe.refl _ _) (.cons (ALe.refl _ _) (.cons (ALe.refl _ _) (.cons (ow_nil (c := c_Vol) _ 4) (.nil))))))
    refine le0.aw ?_
    clear le0
    refine AW_loopG (n := 31) hm (σ := (List TVol) × Int) (τ := Option Key) (fun g s => HOk h [(g, .tok 40 4 ((s.1 : List TVol).length * 4)), (some k13, .obj 27 ([.sc (.int .i64 0), .sc (.slice none 0 0), .sc (.slice none 0 0), .sc (.slice none 0 0), ow g 4 (List.map c_Vol s.1)])), (some k2, .obj 27 ([.sc (.int .i64 0), .sc (.slice none 0 0), .sc (.slice none 0 0), .sc (.slice none 0 0), .sc (.slice none 0 0)]))] ∧ (g = none → s.1 = [])) (fun g s => kp (kp (kp (kp (kp (k0) 14 (.sc (.int .i64 s.2))) 13 (.sc (.int .i64 (p0.length : Int)))) 12 (.sl none 1 (List.map c_i64 p0))) 4 (.ptr k13 0)) 2 (.ptr k2 0)) (fun g s => hp h [(g, .tok 40 4 ((s.1 : List TVol).length * 4)), (some k13, .obj 27 ([.sc (.int .i64 0), .sc (.slice none 0 0), .sc (.slice none 0 0), .sc (.slice none 0 0), ow g 4 (List.map c_Vol s.1)])), (some k2, .obj 27 ([.sc (.int .i64 0), .sc (.slice none 0 0), .sc (.slice none 0 0), .sc (.slice none 0 0), .sc (.slice none 0 0)]))]) none (⟨hk40, (fun _ => rfl)⟩) (LeF.fm (Sub.refl _) (.cons (ALe.refl _ _) (.cons (ALe.refl _ _) (.cons (ALe.refl _ _) (.cons (ALe.refl _ _) (.cons (ALe.refl _ _) (.nil))))))) ?_ ?_
    · rintro tg86 ⟨q85, q88⟩ x ⟨hk89, ot87⟩ hm
      replace hm : M30_L0 fuel p0 q85 q88 = some x := hm
      unfold M30_L0 at hm
      refine AW_k fun K90 H90 => ?_
      refine AW_reg ?_
      refine s_v (o_bi rfl rfl rfl trivial) ?_
      refine s_nil ?_
      refine H90 _ _ ?_
      clear H90 K90
      refine AW_k fun K91 H91 => ?_
      refine AW_if' rfl (fun hc92 => ?_) (fun hc92 => ?_)
      · replace hm := ite_t hm hc92
        refine AW_skip ?_
        refine H91 _ _ ?_
        clear H91 K91
        refine AW_k fun K93 H93 => ?_
        refine AW_block ?_
        refine AW_k fun K94 H94 => ?_
        refine AW_reg ?_
        obtain ⟨x95, hx96, hm⟩ := bind_of hm
        refine s_v (o_ix hx96 el28 rfl rfl) ?_
        refine s_v (o_ld (.sc (.int .i64 x95)) ld3 rfl rfl) ?_
        refine s_v (o_as (.sc (.int _ _)) rfl) ?_
        refine s_nil ?_
        refine H94 _ _ ?_
        clear H94 K94
        refine AW_k fun K97 H97 => ?_
        refine AW_k fun K98 H98 => ?_
        refine AW_reg ?_
        refine s_v (o_mv (.sc (.int _ _)) rfl) ?_
        obtain ⟨y99, hy100, hm⟩ := bind_of hm
        refine s_v (o_call (W68 _ hy100) rfl bd68 rfl) ?_
        refine s_v (o_not rfl) ?_
        refine s_nil ?_
        refine H98 _ _ ?_
        clear H98 K98
        refine AW_if' rfl (fun hc101 => ?_) (fun hc101 => ?_)
        · replace hm := ite_t hm hc101
          refine AW_k fun K102 H102 => ?_
          refine AW_reg ?_
          refine s_v (o_bld ([.sc (.int .i64 0), .sc (.slice none 0 0), .sc (.slice none 0 0), .sc (.slice none 0 0), .sc (.slice none 0 0)]) bt27 rfl) ?_
          refine s_op (a_store 2 ([.sc (.int .i64 0), .sc (.slice none 0 0), .sc (.slice none 0 0), .sc (.slice none 0 0), .sc (.slice none 0 0)]) hk89 rfl rfl rfl rfl sz27 rfl rfl fun hk103 => ?_)
          refine s_v (o_as (.sc (.int _ _)) rfl) ?_
          refine s_nil ?_
          refine H102 _ _ ?_
          clear H102 K102
          refine AW_ret ?_
          cases hm
          refine ⟨⟨nofun, nofun⟩, fun he => ?_⟩
          subst he
          exact Ret.of2 (.inl rfl) (rsC (.agg ([.sc (.int .i64 0), .sc (.slice none 0 0), .sc (.slice none 0 0), .sc (.slice none 0 0), .sc (.slice none 0 0)])) ld27 rfl (hp_get 2 hk103 rfl) rfl) (rsT _ _ (.sc (.int _ _)) rfl) (hp_sub (List.nil_sublist _) hk103).1 (ALe.agg (.cons (ALe.refl _ _) (.cons (nil_lem _) (.cons (nil_lem _) (.cons (nil_lem _) (.cons (nil_lem _) (.nil))))))) (ALe.refl _ _) ⟨rfl, rfl⟩
        · replace hm := ite_f hm hc101
          refine AW_skip ?_
          refine H97 _ _ ?_
          clear H97 K97
          refine AW_reg ?_
          refine s_v (o_flp fd27_4 rfl rfl) ?_
          refine s_v (o_ldp (ow tg86 4 (List.map c_Vol q85)) ld25 rfl (hp_get 1 hk89 rfl) rfl) ?_
          refine s_v (o_mv (.sc (.int _ _)) rfl) ?_
          refine s_v (o_bld (c_Vol ({ Pool := x95, Epoch := 0, State := 1, Files := 0 } : TVol)) bt40 rfl) ?_
          refine s_v (o_lit (List.map c_Vol ([({ Pool := x95, Epoch := 0, State := 1, Files := 0 } : TVol)] : List TVol)) et25 rfl rfl rfl rfl) ?_
          obtain ⟨z104, hz105, hm⟩ := bind_of hm
          refine s_op (a_app (c := c_Vol) 0 hz105 et25 rfl rfl rfl ot87 hk89 rfl fun tg106 ot107 hk108 => ?_)
          refine s_v (o_flp fd27_4 rfl rfl) ?_
          refine s_op (a_store 1 ([.sc (.int .i64 0), .sc (.slice none 0 0), .sc (.slice none 0 0), .sc (.slice none 0 0), ow tg106 4 (List.map c_Vol z104)]) hk108 rfl rfl (cellsOf_ow rfl) (all_ow _ _ _) sz25 rfl rfl fun hk109 => ?_)
          refine s_nil ?_
          refine H93 _ _ ?_
          clear H93 K93
          refine AW_reg ?_
          refine s_v (o_bi rfl rfl rfl trivial) ?_
          refine s_v (o_mv (.sc (.int _ _)) rfl) ?_
          refine s_nil ?_
          cases hm
          exact ⟨rfl, tg106, ⟨hk109, ot107⟩, LeF.fm (Sub.refl _) (.cons (ALe.refl _ _) (.cons (ALe.refl _ _) (.cons (ALe.refl _ _) (.cons (ALe.refl _ _) (.cons (ALe.refl _ _) (.nil))))))⟩
      · replace hm := ite_f hm hc92
        refine AW_exit ?_
        refine Seq_exit ?_
        cases hm
        exact ⟨rfl, tg86, ⟨hk89, ot87⟩, LeF.fm (Sub.refl _) (.cons (ALe.refl _ _) (.cons (ALe.refl _ _) (.cons (ALe.refl _ _) (.cons (ALe.refl _ _) (.cons (ALe.refl _ _) (.nil))))))⟩
    · rintro tg112 ⟨r110, r111⟩ fr' h' ⟨hk114, ot113⟩ hm le
      refine H16 _ _ (le.aw ?_)
      clear le H16 K16
      refine AW_k fun K115 H115 => ?_
      refine AW_reg ?_
      refine s_v (o_ldp (.agg ([.sc (.int .i64 0), .sc (.slice none 0 0), .sc (.slice none 0 0), .sc (.slice none 0 0), ow tg112 4 (List.map c_Vol r110)])) ld27 rfl (hp_get 1 hk114 rfl) rfl) ?_
      refine s_op (a_store 2 ([.sc (.int .i64 0), .sc (.slice none 0 0), .sc (.slice none 0 0), .sc (.slice none 0 0), ow tg112 4 (List.map c_Vol r110)]) hk114 rfl rfl rfl (by repeat (first | exact rfl | refine all_c (ocell_ow _ _ _) ?_ | refine all_c (ocell_aw _ _ _) ?_ | refine all_c rfl ?_)) sz27 rfl rfl fun hk116 => ?_)
      refine s_v (o_as (.sc (.int _ _)) rfl) ?_
      refine s_nil ?_
      refine H115 _ _ ?_
      clear H115 K115
      refine AW_ret ?_
      cases hm
      exact Ret.of2 (.inl rfl) (rsC (.agg ([.sc (.int .i64 0), .sc (.slice none 0 0), .sc (.slice none 0 0), .sc (.slice none 0 0), ow tg112 4 (List.map c_Vol r110)])) ld27 rfl (hp_get 2 hk116 rfl) rfl) (rsT _ _ (.sc (.int _ _)) rfl) (hp_sub (List.nil_sublist _) hk116).1 (ALe.agg (.cons (ALe.refl _ _) (.cons (nil_lem _) (.cons (nil_lem _) (.cons (nil_lem _) (.cons ((own_frz0 _ 0 ot113 hk116 rfl)) (.nil))))))) (ALe.refl _ _) ⟨rfl, rfl⟩
theorem bd30 : bodied Try.prog 30 = true := by kernel_rfl
end Go.Proofs.Ytoomgangpjcaoaa
