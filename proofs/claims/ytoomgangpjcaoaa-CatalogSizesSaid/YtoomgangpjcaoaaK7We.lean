import Derived.Test.YtoomgangpjcaoaaK7Wd
set_option linter.unusedSimpArgs false
set_option linter.unusedVariables false
namespace Go.Proofs.Ytoomgangpjcaoaa
open Go.Vm
def M97 (fuel : Nat) (p0 : TSnap) (c0 : ByteArray) : Option (Bool) :=
  some (p0.Man.Name.toList == c0.toList)
set_option maxRecDepth 100000 in
/-- cellarer/catalog.Snap$1 -/
theorem W97 {fuel : Nat} {p0 : TSnap} {c0 : ByteArray} {o : Bool} (h : Heap) {c0K : Key} (c0H : h c0K = some (.obj 9 (c_str c0))) (hm : M97 fuel p0 c0 = some o) :
    ACalls Try.prog 97 [.agg (c_Snap p0), .ptr c0K 0] h (fun r h' => r = .sc (.bool o) ∧ h' = h) := by
  refine ACalls_hp 9 [.tmp 3] Try.func97 rfl rfl rfl rfl ?_
  unfold M97 at hm
  refine AW_k fun K1 H1 => ?_
  refine AW_reg ?_
  refine s_op (a_box (HOk.nil _) rfl rfl fun k2 hk3 => ?_)
  refine s_v (o_as (.sc (.bool _)) rfl) ?_
  refine s_nil ?_
  refine H1 _ _ ?_
  clear H1 K1
  refine AW_k fun K5 H5 => ?_
  refine AW_reg ?_
  refine s_v (o_flp fd60_1 rfl rfl) ?_
  refine s_v (o_flp fd57_0 rfl rfl) ?_
  refine s_v (o_ldp (.sc (.string p0.Man.Name)) ld9 rfl (hp_get 0 hk3 rfl) rfl) ?_
  refine s_v (o_ldp (.sc (.string c0)) ld9 rfl (hp_base hk3 c0H) rfl) ?_
  refine s_v (o_bs rfl rfl rfl trivial) ?_
  refine s_v (o_as (.sc (.bool _)) rfl) ?_
  refine s_nil ?_
  refine H5 _ _ ?_
  clear H5 K5
  refine AW_ret ?_
  cases hm
  exact Ret.of1 (.inl rfl) (rsT _ _ (.sc (.bool _)) rfl) (hp_sub (List.nil_sublist _) hk3).1 (ALe.refl _ _) ⟨rfl, rfl⟩
theorem bd97 : bodied Try.prog 97 = true := by kernel_rfl
def M47 (fuel : Nat) (p0 : TCatalog) (p1 : ByteArray) : Option (Int) :=
  (M96 fuel p0.Snaps (fun x0 => M97 fuel x0 p1)).bind fun y9 => some y9
set_option maxRecDepth 100000 in
/-- cellarer/catalog.Snap -/
theorem W47 {fuel : Nat} {p0 : TCatalog} {p1 : ByteArray} {o : Int} (h : Heap) (hm : M47 fuel p0 p1 = some o) :
    ACalls Try.prog 47 [.agg (c_Catalog p0), .sc (.string p1)] h (fun r h' => r = .sc (.int .i64 o) ∧ h' = h) := by
  refine ACalls_hp 9 [.tmp 4] Try.func47 rfl rfl rfl rfl ?_
  unfold M47 at hm
  refine AW_k fun K1 H1 => ?_
  refine AW_reg ?_
  refine s_op (a_box (HOk.nil _) rfl rfl fun k2 hk3 => ?_)
  refine s_op (a_box hk3 rfl rfl fun k5 hk6 => ?_)
  refine s_v (o_as (.sc (.int _ _)) rfl) ?_
  refine s_nil ?_
  refine H1 _ _ ?_
  clear H1 K1
  refine AW_k fun K8 H8 => ?_
  refine AW_reg ?_
  refine s_v (o_flp fd27_1 rfl rfl) ?_
  refine s_v (o_ldp (.sl none 4 (List.map c_Snap p0.Snaps)) ld22 rfl (hp_get 1 hk6 rfl) rfl) ?_
  refine s_v (o_mf rfl) ?_
  obtain ⟨y9, hy10, hm⟩ := bind_of hm
  refine s_v (o_call (W96 _ bd97 (fun x0 o h0 hs ho => W97 _ (hs _ _ (hp_get 0 hk6 rfl)) ho) hy10) rfl bd96 rfl) ?_
  refine s_v (o_as (.sc (.int _ _)) rfl) ?_
  refine s_nil ?_
  refine H8 _ _ ?_
  clear H8 K8
  refine AW_ret ?_
  cases hm
  exact Ret.of1 (.inl rfl) (rsT _ _ (.sc (.int _ _)) rfl) (hp_sub (List.nil_sublist _) hk6).1 (ALe.refl _ _) ⟨rfl, rfl⟩
theorem bd47 : bodied Try.prog 47 = true := by kernel_rfl
end Go.Proofs.Ytoomgangpjcaoaa
