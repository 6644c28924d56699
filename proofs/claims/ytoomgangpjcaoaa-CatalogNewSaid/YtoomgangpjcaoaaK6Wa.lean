import Derived.Test.YtoomgangpjcaoaaK6Types
set_option linter.unusedSimpArgs false
set_option linter.unusedVariables false
namespace Go.Proofs.Ytoomgangpjcaoaa
open Go.Vm
def M15 (fuel : Nat) (p0 : List Int) : Option ((List Int)) :=
  (app ([] : List Int) p0).bind fun z4 => some z4
set_option maxRecDepth 100000 in
/-- cellarer/cellarerkeep.TwinInts -/
theorem W15 {fuel : Nat} {p0 : List Int} {o : (List Int)} (h : Heap) (hm : M15 fuel p0 = some o) :
    ACalls Try.prog 15 [.sl none 1 (List.map c_i64 p0)] h (fun r h' => r = .sl none 1 (List.map c_i64 o) ∧ h' = h) := by
  refine ACalls_hp 7 [.tmp 2] Try.func15 rfl rfl rfl rfl ?_
  unfold M15 at hm
  refine AW_k fun K1 H1 => ?_
  refine AW_reg ?_
  refine s_v (o_as (.sc (.slice _ _ _)) rfl) ?_
  refine s_nil ?_
  refine H1 _ _ ?_
  clear H1 K1
  refine AW_k fun K2 H2 => ?_
  refine AW_reg ?_
  refine s_v (o_as (.sc (.slice _ _ _)) rfl) ?_
  refine s_nil ?_
  refine H2 _ _ ?_
  clear H2 K2
  refine AW_k fun K3 H3 => ?_
  refine AW_reg ?_
  refine s_v (o_mv (.sc (.slice _ _ _)) rfl) ?_
  refine s_v (o_mv (.sl _ _ _) rfl) ?_
  obtain ⟨z4, hz5, hm⟩ := bind_of hm
  refine s_op (a_app0 (c := c_i64) hz5 et28 rfl rfl (HOk.nil _) nofun rfl fun tg6 ot7 hk8 => ?_)
  refine s_v (o_as (ow _ _ _) rfl) ?_
  refine s_nil ?_
  refine H3 _ _ ?_
  clear H3 K3
  refine AW_ret ?_
  cases hm
  exact Ret.of1 (.inl rfl) (rsT _ _ (ow _ _ _) rfl) (hp_sub (List.nil_sublist _) hk8).1 ((own_frz0 _ 0 ot7 hk8 rfl)) ⟨rfl, rfl⟩
theorem bd15 : bodied Try.prog 15 = true := by kernel_rfl
end Go.Proofs.Ytoomgangpjcaoaa
