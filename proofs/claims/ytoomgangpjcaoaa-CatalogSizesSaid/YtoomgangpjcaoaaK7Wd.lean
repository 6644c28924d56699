import Derived.Test.YtoomgangpjcaoaaK7Types
set_option linter.unusedSimpArgs false
set_option linter.unusedVariables false
namespace Go.Proofs.Ytoomgangpjcaoaa
open Go.Vm
def M68 (fuel : Nat) (p0 : Int) (p1 : Int) (p2 : Int) : Option (Bool) :=
  after (if (decide (p1 ≤ p0)) = true then (some (.brk (decide (p0 ≤ p2)))) else some (.brk false) : Option (Lp (Bool) (Bool))) fun j4 => some j4
set_option maxRecDepth 100000 in
/-- cellarer/catalog.in -/
theorem W68 {fuel : Nat} {p0 : Int} {p1 : Int} {p2 : Int} {o : Bool} (h : Heap) (hm : M68 fuel p0 p1 p2 = some o) :
    ACalls Try.prog 68 [.sc (.int .i64 p0), .sc (.int .i64 p1), .sc (.int .i64 p2)] h (fun r h' => r = .sc (.bool o) ∧ h' = h) := by
  refine ACalls_hp 15 [.tmp 6] Try.func68 rfl rfl rfl rfl ?_
  unfold M68 at hm
  refine AW_k fun K1 H1 => ?_
  refine AW_reg ?_
  refine s_v (o_as (.sc (.bool _)) rfl) ?_
  refine s_nil ?_
  refine H1 _ _ ?_
  clear H1 K1
  refine AW_k fun K2 H2 => ?_
  refine AW_joinG (n := 15) hm (σ := Bool) (τ := Unit) (fun g s => HOk h []) (fun g s => kp (k0) 6 (.sc (.bool s))) (fun g s => hp h []) (fun x hm => ?_) ?_
  · refine AW_reg ?_
    refine s_v (o_mv (.sc (.int _ _)) rfl) ?_
    refine s_v (o_mv (.sc (.int _ _)) rfl) ?_
    refine s_v (o_bi rfl rfl rfl trivial) ?_
    refine s_v (o_mv (.sc (.bool _)) rfl) ?_
    rcases Bool.eq_false_or_eq_true (decide (p1 ≤ p0)) with hb5 | hb5
    · replace hm := ite_t hm hb5
      refine sg_y rfl rfl hb5 ?_
      refine s_v (o_mv (.sc (.int _ _)) rfl) ?_
      refine sg_y rfl rfl hb5 ?_
      refine s_v (o_mv (.sc (.int _ _)) rfl) ?_
      refine sg_y rfl rfl hb5 ?_
      refine s_v (o_bi rfl rfl rfl trivial) ?_
      refine s_v (o_pkt (.sc (.bool _)) rfl hb5 rfl) ?_
      refine s_v (o_as (.sc (.bool _)) rfl) ?_
      refine s_nil ?_
      cases hm
      exact ⟨rfl, (), HOk.nil _, LeF.fm (Sub.refl _) (.cons (ALe.refl _ _) (.nil))⟩
    · replace hm := ite_f hm hb5
      refine sg_n rfl rfl hb5 ?_
      refine sg_n rfl rfl hb5 ?_
      refine sg_n rfl rfl hb5 ?_
      refine s_v (o_pkf (.sc (.bool _)) rfl hb5 rfl) ?_
      refine s_v (o_as (.sc (.bool _)) rfl) ?_
      refine s_nil ?_
      cases hm
      exact ⟨rfl, (), HOk.nil _, LeF.fm (Sub.refl _) (.cons (ALe.refl _ _) (.nil))⟩
  · rintro _ j4 fr' h' hk6 hm le
    refine H2 _ _ (le.aw ?_)
    clear le H2 K2
    refine AW_ret ?_
    cases hm
    exact Ret.of1 (.inl rfl) (rsT _ _ (.sc (.bool _)) rfl) (Sub.refl _) (ALe.refl _ _) ⟨rfl, rfl⟩
theorem bd68 : bodied Try.prog 68 = true := by kernel_rfl
def M69_L0 (fuel : Nat) (p0 : List TVol) (q97 : Int) : Option (Lp (Int) (Bool)) :=
  if (decide (q97 < (p0.length : Int))) = true then ((ix p0 q97).bind fun x104 => after (if (x104.State == 2) = true then ((M68 fuel x104.Files 1 65535).bind fun y116 => some (.brk y116)) else some (.brk false) : Option (Lp (Bool) (Lp (Int) (Bool)))) fun j114 => after (if (x104.State == 1) = true then (some (.brk (x104.Files == 0))) else if (x104.State == 3) = true then (some (.brk (x104.Files == 0))) else some (.brk false) : Option (Lp (Bool) (Lp (Int) (Bool)))) fun j122 => after ((M68 fuel x104.Pool 0 1).bind fun y135 => if (!y135) = true then (some (.brk true)) else (M68 fuel x104.Epoch 0 1048576).bind fun y138 => if (!y138) = true then (some (.brk true)) else if (!j114) = true then (some (.brk (!j122))) else some (.brk false) : Option (Lp (Bool) (Lp (Int) (Bool)))) fun j134 => if j134 = true then (some (.ret false)) else some (.go (IntKind.wrap .i64 (q97 + 1)))) else some (.brk q97)
def M69 (fuel : Nat) (p0 : List TVol) : Option (Bool) :=
  after (loopM (fun s => M69_L0 fuel p0 s) fuel 0) fun r145 => (M68 fuel (p0.length : Int) 1 8).bind fun y148 => some y148
set_option maxRecDepth 100000 in
/-- cellarer/catalog.vols -/
theorem W69 {fuel : Nat} {p0 : List TVol} {o : Bool} (h : Heap) (hm : M69 fuel p0 = some o) :
    ACalls Try.prog 69 [.sl none 4 (List.map c_Vol p0)] h (fun r h' => r = .sc (.bool o) ∧ h' = h) := by
  refine ACalls_hp 56 [.tmp 2] Try.func69 rfl rfl rfl rfl ?_
  unfold M69 at hm
  refine AW_k fun K1 H1 => ?_
  refine AW_reg ?_
  refine s_v (o_as (.sc (.bool _)) rfl) ?_
  refine s_nil ?_
  refine H1 _ _ ?_
  clear H1 K1
  refine AW_k fun K2 H2 => ?_
  refine AW_k fun K3 H3 => ?_
  refine AW_reg ?_
  refine s_v (o_mv (.sl _ _ _) rfl) ?_
  refine s_v (o_lenm ln25 rfl) ?_
  refine s_v (o_mv (.sc (.int _ _)) rfl) ?_
  refine s_nil ?_
  refine H3 _ _ ?_
  clear H3 K3
  refine AW_loopG (n := 56) hm (σ := Int) (τ := Unit) (fun g s => HOk h []) (fun g s => kp (kp (kp (kp (k0) 9 (.sc (.int .i64 s))) 8 (.sc (.int .i64 (p0.length : Int)))) 7 (.sl none 4 (List.map c_Vol p0))) 0 (.sl none 4 (List.map c_Vol p0))) (fun g s => hp h []) () (HOk.nil _) (LeF.fm (Sub.refl _) (.cons (ALe.refl _ _) (.cons (ALe.refl _ _) (.cons (ALe.refl _ _) (.cons (ALe.refl _ _) (.nil)))))) ?_ ?_
  · rintro _ q97 x hk98 hm
    replace hm : M69_L0 fuel p0 q97 = some x := hm
    unfold M69_L0 at hm
    refine AW_k fun K99 H99 => ?_
    refine AW_reg ?_
    refine s_v (o_bi rfl rfl rfl trivial) ?_
    refine s_nil ?_
    refine H99 _ _ ?_
    clear H99 K99
    refine AW_k fun K100 H100 => ?_
    refine AW_if' rfl (fun hc101 => ?_) (fun hc101 => ?_)
    · replace hm := ite_t hm hc101
      refine AW_skip ?_
      refine H100 _ _ ?_
      clear H100 K100
      refine AW_k fun K102 H102 => ?_
      refine AW_block ?_
      refine AW_k fun K103 H103 => ?_
      refine AW_reg ?_
      obtain ⟨x104, hx105, hm⟩ := bind_of hm
      refine s_v (o_ix hx105 el25 rfl rfl) ?_
      refine s_v (o_ld (.agg (c_Vol x104)) ld40 rfl rfl) ?_
      refine s_op (a_alloc ([.sc (.int .i64 0), .sc (.int .i64 0), .sc (.int .i64 0), .sc (.int .i64 0)]) hk98 zr40 rfl rfl fun k106 hk107 => ?_)
      refine s_op (a_store 0 (c_Vol x104) hk107 rfl rfl rfl rfl sz40 rfl rfl fun hk109 => ?_)
      refine s_nil ?_
      refine H103 _ _ ?_
      clear H103 K103
      refine AW_k fun K110 H110 => ?_
      refine AW_joinG (n := 56) hm (σ := Bool) (τ := Unit) (fun g s => HOk h [(some k106, .obj 40 (c_Vol x104))]) (fun g s => kp (kp (kp (kp (kp (kp (k0) 9 (.sc (.int .i64 q97))) 8 (.sc (.int .i64 (p0.length : Int)))) 7 (.sl none 4 (List.map c_Vol p0))) 5 (.sc (.bool s))) 4 (.ptr k106 0)) 0 (.sl none 4 (List.map c_Vol p0))) (fun g s => hp h [(some k106, .obj 40 (c_Vol x104))]) (fun x hm => ?_) ?_
      · refine AW_reg ?_
        refine s_v (o_flp fd40_2 rfl rfl) ?_
        refine s_v (o_ldp (.sc (.int .i64 x104.State)) ld3 rfl (hp_get 0 hk109 rfl) rfl) ?_
        refine s_v (o_bi rfl rfl rfl trivial) ?_
        refine s_v (o_mv (.sc (.bool _)) rfl) ?_
        rcases Bool.eq_false_or_eq_true (x104.State == 2) with hb115 | hb115
        · replace hm := ite_t hm hb115
          refine sg_y rfl rfl hb115 ?_
          refine s_v (o_flp fd40_3 rfl rfl) ?_
          refine sg_y rfl rfl hb115 ?_
          refine s_v (o_ldp (.sc (.int .i64 x104.Files)) ld3 rfl (hp_get 0 hk109 rfl) rfl) ?_
          refine sg_y rfl rfl hb115 ?_
          obtain ⟨y116, hy117, hm⟩ := bind_of hm
          refine s_v (o_call (W68 _ hy117) rfl bd68 rfl) ?_
          refine s_v (o_pkt (.sc (.bool _)) rfl hb115 rfl) ?_
          refine s_v (o_as (.sc (.bool _)) rfl) ?_
          refine s_nil ?_
          cases hm
          exact ⟨rfl, (), hk109, LeF.fm (Sub.refl _) (.cons (ALe.refl _ _) (.cons (ALe.refl _ _) (.cons (ALe.refl _ _) (.cons (ALe.refl _ _) (.cons (ALe.refl _ _) (.cons (ALe.refl _ _) (.nil)))))))⟩
        · replace hm := ite_f hm hb115
          refine sg_n rfl rfl hb115 ?_
          refine sg_n rfl rfl hb115 ?_
          refine sg_n rfl rfl hb115 ?_
          refine s_v (o_pkf (.sc (.bool _)) rfl hb115 rfl) ?_
          refine s_v (o_as (.sc (.bool _)) rfl) ?_
          refine s_nil ?_
          cases hm
          exact ⟨rfl, (), hk109, LeF.fm (Sub.refl _) (.cons (ALe.refl _ _) (.cons (ALe.refl _ _) (.cons (ALe.refl _ _) (.cons (ALe.refl _ _) (.cons (ALe.refl _ _) (.cons (ALe.refl _ _) (.nil)))))))⟩
      · rintro _ j114 fr' h' hk118 hm le
        refine H110 _ _ (le.aw ?_)
        clear le H110 K110
        refine AW_k fun K119 H119 => ?_
        refine AW_joinG (n := 56) hm (σ := Bool) (τ := Unit) (fun g s => HOk h [(some k106, .obj 40 (c_Vol x104))]) (fun g s => kp (kp (kp (kp (kp (kp (kp (k0) 9 (.sc (.int .i64 q97))) 8 (.sc (.int .i64 (p0.length : Int)))) 7 (.sl none 4 (List.map c_Vol p0))) 6 (.sc (.bool s))) 5 (.sc (.bool j114))) 4 (.ptr k106 0)) 0 (.sl none 4 (List.map c_Vol p0))) (fun g s => hp h [(some k106, .obj 40 (c_Vol x104))]) (fun x hm => ?_) ?_
        · refine AW_reg ?_
          refine s_v (o_flp fd40_2 rfl rfl) ?_
          refine s_v (o_ldp (.sc (.int .i64 x104.State)) ld3 rfl (hp_get 0 hk118 rfl) rfl) ?_
          refine s_v (o_bi rfl rfl rfl trivial) ?_
          refine s_v (o_mv (.sc (.bool _)) rfl) ?_
          rcases Bool.eq_false_or_eq_true (x104.State == 1) with hb123 | hb123
          · replace hm := ite_t hm hb123
            refine sg_n rfl rfl hb123 ?_
            refine sg_n rfl rfl hb123 ?_
            refine sg_n rfl rfl hb123 ?_
            refine s_v (o_pkt (.sc (.bool _)) rfl hb123 rfl) ?_
            refine s_v (o_mv (.sc (.bool _)) rfl) ?_
            refine sg_y rfl rfl rfl ?_
            refine s_v (o_flp fd40_3 rfl rfl) ?_
            refine sg_y rfl rfl rfl ?_
            refine s_v (o_ldp (.sc (.int .i64 x104.Files)) ld3 rfl (hp_get 0 hk118 rfl) rfl) ?_
            refine sg_y rfl rfl rfl ?_
            refine s_v (o_bi rfl rfl rfl trivial) ?_
            refine s_v (o_pkt (.sc (.bool _)) rfl rfl rfl) ?_
            refine s_v (o_as (.sc (.bool _)) rfl) ?_
            refine s_nil ?_
            cases hm
            exact ⟨rfl, (), hk118, LeF.fm (Sub.refl _) (.cons (ALe.refl _ _) (.cons (ALe.refl _ _) (.cons (ALe.refl _ _) (.cons (ALe.refl _ _) (.cons (ALe.refl _ _) (.cons (ALe.refl _ _) (.cons (ALe.refl _ _) (.nil))))))))⟩
          · replace hm := ite_f hm hb123
            refine sg_y rfl rfl hb123 ?_
            refine s_v (o_flp fd40_2 rfl rfl) ?_
            refine sg_y rfl rfl hb123 ?_
            refine s_v (o_ldp (.sc (.int .i64 x104.State)) ld3 rfl (hp_get 0 hk118 rfl) rfl) ?_
            refine sg_y rfl rfl hb123 ?_
            refine s_v (o_bi rfl rfl rfl trivial) ?_
            refine s_v (o_pkf (.sc (.bool _)) rfl hb123 rfl) ?_
            refine s_v (o_mv (.sc (.bool _)) rfl) ?_
            rcases Bool.eq_false_or_eq_true (x104.State == 3) with hb124 | hb124
            · replace hm := ite_t hm hb124
              refine sg_y rfl rfl hb124 ?_
              refine s_v (o_flp fd40_3 rfl rfl) ?_
              refine sg_y rfl rfl hb124 ?_
              refine s_v (o_ldp (.sc (.int .i64 x104.Files)) ld3 rfl (hp_get 0 hk118 rfl) rfl) ?_
              refine sg_y rfl rfl hb124 ?_
              refine s_v (o_bi rfl rfl rfl trivial) ?_
              refine s_v (o_pkt (.sc (.bool _)) rfl hb124 rfl) ?_
              refine s_v (o_as (.sc (.bool _)) rfl) ?_
              refine s_nil ?_
              cases hm
              exact ⟨rfl, (), hk118, LeF.fm (Sub.refl _) (.cons (ALe.refl _ _) (.cons (ALe.refl _ _) (.cons (ALe.refl _ _) (.cons (ALe.refl _ _) (.cons (ALe.refl _ _) (.cons (ALe.refl _ _) (.cons (ALe.refl _ _) (.nil))))))))⟩
            · replace hm := ite_f hm hb124
              refine sg_n rfl rfl hb124 ?_
              refine sg_n rfl rfl hb124 ?_
              refine sg_n rfl rfl hb124 ?_
              refine s_v (o_pkf (.sc (.bool _)) rfl hb124 rfl) ?_
              refine s_v (o_as (.sc (.bool _)) rfl) ?_
              refine s_nil ?_
              cases hm
              exact ⟨rfl, (), hk118, LeF.fm (Sub.refl _) (.cons (ALe.refl _ _) (.cons (ALe.refl _ _) (.cons (ALe.refl _ _) (.cons (ALe.refl _ _) (.cons (ALe.refl _ _) (.cons (ALe.refl _ _) (.cons (ALe.refl _ _) (.nil))))))))⟩
        · rintro _ j122 fr' h' hk125 hm le
          refine H119 _ _ (le.aw ?_)
          clear le H119 K119
          refine AW_k fun K126 H126 => ?_
          refine AW_joinG (n := 56) hm (σ := Bool) (τ := Unit) (fun g s => HOk h [(some k106, .obj 40 (c_Vol x104))]) (fun g s => kp (kp (kp (kp (kp (k0) 51 (.sc (.bool s))) 9 (.sc (.int .i64 q97))) 8 (.sc (.int .i64 (p0.length : Int)))) 7 (.sl none 4 (List.map c_Vol p0))) 0 (.sl none 4 (List.map c_Vol p0))) (fun g s => hp h [(some k106, .obj 40 (c_Vol x104))]) (fun x hm => ?_) ?_
          · refine AW_reg ?_
            refine s_v (o_flp fd40_0 rfl rfl) ?_
            refine s_v (o_ldp (.sc (.int .i64 x104.Pool)) ld3 rfl (hp_get 0 hk125 rfl) rfl) ?_
            obtain ⟨y135, hy136, hm⟩ := bind_of hm
            refine s_v (o_call (W68 _ hy136) rfl bd68 rfl) ?_
            refine s_v (o_not rfl) ?_
            refine s_v (o_mv (.sc (.bool _)) rfl) ?_
            rcases Bool.eq_false_or_eq_true (!y135) with hb137 | hb137
            · replace hm := ite_t hm hb137
              refine sg_n rfl rfl hb137 ?_
              refine sg_n rfl rfl hb137 ?_
              refine sg_n rfl rfl hb137 ?_
              refine sg_n rfl rfl hb137 ?_
              refine s_v (o_pkt (.sc (.bool _)) rfl hb137 rfl) ?_
              refine s_v (o_mv (.sc (.bool _)) rfl) ?_
              refine sg_n rfl rfl rfl ?_
              refine sg_n rfl rfl rfl ?_
              refine sg_n rfl rfl rfl ?_
              refine sg_u rfl rfl ?_
              refine sg_u rfl rfl ?_
              refine sg_n rfl rfl rfl ?_
              refine s_v (o_pkt (.sc (.bool _)) rfl rfl rfl) ?_
              refine s_nil ?_
              cases hm
              exact ⟨rfl, (), hk125, LeF.fm (Sub.refl _) (.cons (ALe.refl _ _) (.cons (ALe.refl _ _) (.cons (ALe.refl _ _) (.cons (ALe.refl _ _) (.cons (ALe.refl _ _) (.nil))))))⟩
            · replace hm := ite_f hm hb137
              refine sg_y rfl rfl hb137 ?_
              refine s_v (o_flp fd40_1 rfl rfl) ?_
              refine sg_y rfl rfl hb137 ?_
              refine s_v (o_ldp (.sc (.int .i64 x104.Epoch)) ld3 rfl (hp_get 0 hk125 rfl) rfl) ?_
              refine sg_y rfl rfl hb137 ?_
              obtain ⟨y138, hy139, hm⟩ := bind_of hm
              refine s_v (o_call (W68 _ hy139) rfl bd68 rfl) ?_
              refine sg_y rfl rfl hb137 ?_
              refine s_v (o_not rfl) ?_
              refine s_v (o_pkf (.sc (.bool _)) rfl hb137 rfl) ?_
              refine s_v (o_mv (.sc (.bool _)) rfl) ?_
              rcases Bool.eq_false_or_eq_true (!y138) with hb140 | hb140
              · replace hm := ite_t hm hb140
                refine sg_n rfl rfl hb140 ?_
                refine sg_n rfl rfl hb140 ?_
                refine sg_n rfl rfl hb140 ?_
                refine sg_u rfl rfl ?_
                refine sg_u rfl rfl ?_
                refine sg_n rfl rfl hb140 ?_
                refine s_v (o_pkt (.sc (.bool _)) rfl hb140 rfl) ?_
                refine s_nil ?_
                cases hm
                exact ⟨rfl, (), hk125, LeF.fm (Sub.refl _) (.cons (ALe.refl _ _) (.cons (ALe.refl _ _) (.cons (ALe.refl _ _) (.cons (ALe.refl _ _) (.cons (ALe.refl _ _) (.nil))))))⟩
              · replace hm := ite_f hm hb140
                refine sg_y rfl rfl hb140 ?_
                refine s_v (o_mv (.sc (.bool _)) rfl) ?_
                refine sg_y rfl rfl hb140 ?_
                refine s_v (o_not rfl) ?_
                refine sg_y rfl rfl hb140 ?_
                refine s_v (o_mv (.sc (.bool _)) rfl) ?_
                rcases Bool.eq_false_or_eq_true (!j114) with hb141 | hb141
                · replace hm := ite_t hm hb141
                  refine sg_y rfl rfl hb141 ?_
                  refine s_v (o_mv (.sc (.bool _)) rfl) ?_
                  refine sg_y rfl rfl hb141 ?_
                  refine s_v (o_not rfl) ?_
                  refine sg_y rfl rfl hb140 ?_
                  refine s_v (o_pkt (.sc (.bool _)) rfl hb141 rfl) ?_
                  refine s_v (o_pkf (.sc (.bool _)) rfl hb140 rfl) ?_
                  refine s_nil ?_
                  cases hm
                  exact ⟨rfl, (), hk125, LeF.fm (Sub.refl _) (.cons (ALe.refl _ _) (.cons (ALe.refl _ _) (.cons (ALe.refl _ _) (.cons (ALe.refl _ _) (.cons (ALe.refl _ _) (.nil))))))⟩
                · replace hm := ite_f hm hb141
                  refine sg_n rfl rfl hb141 ?_
                  refine sg_n rfl rfl hb141 ?_
                  refine sg_y rfl rfl hb140 ?_
                  refine s_v (o_pkf (.sc (.bool _)) rfl hb141 rfl) ?_
                  refine s_v (o_pkf (.sc (.bool _)) rfl hb140 rfl) ?_
                  refine s_nil ?_
                  cases hm
                  exact ⟨rfl, (), hk125, LeF.fm (Sub.refl _) (.cons (ALe.refl _ _) (.cons (ALe.refl _ _) (.cons (ALe.refl _ _) (.cons (ALe.refl _ _) (.cons (ALe.refl _ _) (.nil))))))⟩
          · rintro _ j134 fr' h' hk142 hm le
            refine H126 _ _ (le.aw ?_)
            clear le H126 K126
            refine AW_if' rfl (fun hc143 => ?_) (fun hc143 => ?_)
            · replace hm := ite_t hm hc143
              refine AW_k fun K144 H144 => ?_
              refine AW_reg ?_
              refine s_v (o_as (.sc (.bool _)) rfl) ?_
              refine s_nil ?_
              refine H144 _ _ ?_
              clear H144 K144
              refine AW_ret ?_
              cases hm
              refine ⟨⟨nofun, nofun⟩, fun he => ?_⟩
              subst he
              exact Ret.of1 (.inl rfl) (rsT _ _ (.sc (.bool _)) rfl) (hp_sub (List.nil_sublist _) hk142).1 (ALe.refl _ _) ⟨rfl, rfl⟩
            · replace hm := ite_f hm hc143
              refine AW_skip ?_
              refine H102 _ _ ?_
              clear H102 K102
              refine AW_reg ?_
              refine s_v (o_bi rfl rfl rfl trivial) ?_
              refine s_v (o_mv (.sc (.int _ _)) rfl) ?_
              refine s_nil ?_
              cases hm
              exact ⟨rfl, (), (hp_sub (.cons _ (.refl _)) hk142).2, LeF.fm ((hp_sub (.cons _ (.refl _)) hk142).1) (.cons (ALe.refl _ _) (.cons (ALe.refl _ _) (.cons (ALe.refl _ _) (.cons (ALe.refl _ _) (.nil)))))⟩
    · replace hm := ite_f hm hc101
      refine AW_exit ?_
      refine Seq_exit ?_
      cases hm
      exact ⟨rfl, (), hk98, LeF.fm (Sub.refl _) (.cons (ALe.refl _ _) (.cons (ALe.refl _ _) (.cons (ALe.refl _ _) (.cons (ALe.refl _ _) (.nil)))))⟩
  · rintro _ r145 fr' h' hk146 hm le
    refine H2 _ _ (le.aw ?_)
    clear le H2 K2
    refine AW_k fun K147 H147 => ?_
    refine AW_reg ?_
    refine s_v (o_mv (.sl _ _ _) rfl) ?_
    refine s_v (o_lenm ln25 rfl) ?_
    obtain ⟨y148, hy149, hm⟩ := bind_of hm
    refine s_v (o_call (W68 _ hy149) rfl bd68 rfl) ?_
    refine s_v (o_as (.sc (.bool _)) rfl) ?_
    refine s_nil ?_
    refine H147 _ _ ?_
    clear H147 K147
    refine AW_ret ?_
    cases hm
    exact Ret.of1 (.inl rfl) (rsT _ _ (.sc (.bool _)) rfl) (Sub.refl _) (ALe.refl _ _) ⟨rfl, rfl⟩
theorem bd69 : bodied Try.prog 69 = true := by kernel_rfl
def M141 (fuel : Nat) (p0 : TLoc) (p1 : TLoc) : Option (Bool) :=
  if (p0.Vol != p1.Vol) = true then (some (decide (p1.Vol < p0.Vol))) else if (p0.File != p1.File) = true then (some (decide (p1.File < p0.File))) else some (decide (p1.Off < p0.Off))
set_option maxRecDepth 100000 in
/-- cellarer/catalog.after -/
theorem W141 {fuel : Nat} {p0 : TLoc} {p1 : TLoc} {o : Bool} (h : Heap) (hm : M141 fuel p0 p1 = some o) :
    ACalls Try.prog 141 [.agg (c_Loc p0), .agg (c_Loc p1)] h (fun r h' => r = .sc (.bool o) ∧ h' = h) := by
  refine ACalls_hp 32 [.tmp 4] Try.func141 rfl rfl rfl rfl ?_
  unfold M141 at hm
  refine AW_k fun K1 H1 => ?_
  refine AW_reg ?_
  refine s_op (a_box (HOk.nil _) rfl rfl fun k2 hk3 => ?_)
  refine s_op (a_box hk3 rfl rfl fun k5 hk6 => ?_)
  refine s_v (o_as (.sc (.bool _)) rfl) ?_
  refine s_nil ?_
  refine H1 _ _ ?_
  clear H1 K1
  refine AW_k fun K8 H8 => ?_
  refine AW_block ?_
  refine AW_k fun K9 H9 => ?_
  refine AW_reg ?_
  refine s_v (o_flp fd77_0 rfl rfl) ?_
  refine s_v (o_ldp (.sc (.int .i64 p0.Vol)) ld3 rfl (hp_get 1 hk6 rfl) rfl) ?_
  refine s_v (o_flp fd77_0 rfl rfl) ?_
  refine s_v (o_ldp (.sc (.int .i64 p1.Vol)) ld3 rfl (hp_get 0 hk6 rfl) rfl) ?_
  refine s_v (o_bi rfl rfl rfl trivial) ?_
  refine s_v (o_as (.sc (.bool _)) rfl) ?_
  refine s_nil ?_
  refine H9 _ _ ?_
  clear H9 K9
  refine AW_if' rfl (fun hc10 => ?_) (fun hc10 => ?_)
  · replace hm := ite_t hm hc10
    refine AW_k fun K11 H11 => ?_
    refine AW_reg ?_
    refine s_v (o_flp fd77_0 rfl rfl) ?_
    refine s_v (o_ldp (.sc (.int .i64 p0.Vol)) ld3 rfl (hp_get 1 hk6 rfl) rfl) ?_
    refine s_v (o_flp fd77_0 rfl rfl) ?_
    refine s_v (o_ldp (.sc (.int .i64 p1.Vol)) ld3 rfl (hp_get 0 hk6 rfl) rfl) ?_
    refine s_v (o_bi rfl rfl rfl trivial) ?_
    refine s_v (o_as (.sc (.bool _)) rfl) ?_
    refine s_nil ?_
    refine H11 _ _ ?_
    clear H11 K11
    refine AW_ret ?_
    cases hm
    exact Ret.of1 (.inl rfl) (rsT _ _ (.sc (.bool _)) rfl) (hp_sub (List.nil_sublist _) hk6).1 (ALe.refl _ _) ⟨rfl, rfl⟩
  · replace hm := ite_f hm hc10
    refine AW_k fun K12 H12 => ?_
    refine AW_reg ?_
    refine s_v (o_flp fd77_1 rfl rfl) ?_
    refine s_v (o_ldp (.sc (.int .i64 p0.File)) ld3 rfl (hp_get 1 hk6 rfl) rfl) ?_
    refine s_v (o_flp fd77_1 rfl rfl) ?_
    refine s_v (o_ldp (.sc (.int .i64 p1.File)) ld3 rfl (hp_get 0 hk6 rfl) rfl) ?_
    refine s_v (o_bi rfl rfl rfl trivial) ?_
    refine s_v (o_as (.sc (.bool _)) rfl) ?_
    refine s_nil ?_
    refine H12 _ _ ?_
    clear H12 K12
    refine AW_if' rfl (fun hc13 => ?_) (fun hc13 => ?_)
    · replace hm := ite_t hm hc13
      refine AW_k fun K14 H14 => ?_
      refine AW_reg ?_
      refine s_v (o_flp fd77_1 rfl rfl) ?_
      refine s_v (o_ldp (.sc (.int .i64 p0.File)) ld3 rfl (hp_get 1 hk6 rfl) rfl) ?_
      refine s_v (o_flp fd77_1 rfl rfl) ?_
      refine s_v (o_ldp (.sc (.int .i64 p1.File)) ld3 rfl (hp_get 0 hk6 rfl) rfl) ?_
      refine s_v (o_bi rfl rfl rfl trivial) ?_
      refine s_v (o_as (.sc (.bool _)) rfl) ?_
      refine s_nil ?_
      refine H14 _ _ ?_
      clear H14 K14
      refine AW_ret ?_
      cases hm
      exact Ret.of1 (.inl rfl) (rsT _ _ (.sc (.bool _)) rfl) (hp_sub (List.nil_sublist _) hk6).1 (ALe.refl _ _) ⟨rfl, rfl⟩
    · replace hm := ite_f hm hc13
      refine AW_skip ?_
      refine H8 _ _ ?_
      clear H8 K8
      refine AW_k fun K15 H15 => ?_
      refine AW_reg ?_
      refine s_v (o_flp fd77_2 rfl rfl) ?_
      refine s_v (o_ldp (.sc (.int .i64 p0.Off)) ld3 rfl (hp_get 1 hk6 rfl) rfl) ?_
      refine s_v (o_flp fd77_2 rfl rfl) ?_
      refine s_v (o_ldp (.sc (.int .i64 p1.Off)) ld3 rfl (hp_get 0 hk6 rfl) rfl) ?_
      refine s_v (o_bi rfl rfl rfl trivial) ?_
      refine s_v (o_as (.sc (.bool _)) rfl) ?_
      refine s_nil ?_
      refine H15 _ _ ?_
      clear H15 K15
      refine AW_ret ?_
      cases hm
      exact Ret.of1 (.inl rfl) (rsT _ _ (.sc (.bool _)) rfl) (hp_sub (List.nil_sublist _) hk6).1 (ALe.refl _ _) ⟨rfl, rfl⟩
theorem bd141 : bodied Try.prog 141 = true := by kernel_rfl
def M112_L0 (fuel : Nat) (p0 : TCatalog) (p1 : List TLoc) (q132 : Int) : Option (Lp (Int) (Bool)) :=
  if (decide (q132 < (p1.length : Int))) = true then ((ix p1 q132).bind fun x139 => after ((M68 fuel x139.Vol 0 (IntKind.wrap .i64 ((p0.Vols.length : Int) - 1))).bind fun y169 => if (!y169) = true then (some (.brk true)) else (ix p0.Vols x139.Vol).bind fun x172 => if (x172.State != 2) = true then (some (.brk true)) else (ix p0.Vols x139.Vol).bind fun x175 => (M68 fuel x139.File 1 x175.Files).bind fun y177 => if (!y177) = true then (some (.brk true)) else (M68 fuel x139.Off 0 16777215).bind fun y180 => if (!y180) = true then (some (.brk true)) else (M68 fuel x139.Len 13 8013).bind fun y183 => if (!y183) = true then (some (.brk true)) else if (decide (0 < q132)) = true then ((ix p1 (IntKind.wrap .i64 (q132 - 1))).bind fun x187 => (M141 fuel x139 x187).bind fun y189 => some (.brk (!y189))) else some (.brk false) : Option (Lp (Bool) (Lp (Int) (Bool)))) fun j168 => if j168 = true then (some (.ret false)) else some (.go (IntKind.wrap .i64 (q132 + 1)))) else some (.brk q132)
def M112 (fuel : Nat) (p0 : TCatalog) (p1 : List TLoc) : Option (Bool) :=
  if (decide (200 < (p1.length : Int))) = true then (some false) else after (loopM (fun s => M112_L0 fuel p0 p1 s) fuel 0) fun r194 => some true
set_option maxRecDepth 100000 in
/-- cellarer/catalog.locs -/
theorem W112 {fuel : Nat} {p0 : TCatalog} {p1 : List TLoc} {o : Bool} (h : Heap) (hm : M112 fuel p0 p1 = some o) :
    ACalls Try.prog 112 [.agg (c_Catalog p0), .sl none 4 (List.map c_Loc p1)] h (fun r h' => r = .sc (.bool o) ∧ h' = h) := by
  refine ACalls_hp 75 [.tmp 4] Try.func112 rfl rfl rfl rfl ?_
  unfold M112 at hm
  refine AW_k fun K1 H1 => ?_
  refine AW_reg ?_
  refine s_op (a_box (HOk.nil _) rfl rfl fun k2 hk3 => ?_)
  refine s_v (o_as (.sc (.bool _)) rfl) ?_
  refine s_nil ?_
  refine H1 _ _ ?_
  clear H1 K1
  refine AW_k fun K5 H5 => ?_
  refine AW_k fun K6 H6 => ?_
  refine AW_reg ?_
  refine s_v (o_mv (.sl _ _ _) rfl) ?_
  refine s_v (o_lenm ln58 rfl) ?_
  refine s_v (o_bi rfl rfl rfl trivial) ?_
  refine s_nil ?_
  refine H6 _ _ ?_
  clear H6 K6
  refine AW_if' rfl (fun hc7 => ?_) (fun hc7 => ?_)
  · replace hm := ite_t hm hc7
    refine AW_k fun K8 H8 => ?_
    refine AW_reg ?_
    refine s_v (o_as (.sc (.bool _)) rfl) ?_
    refine s_nil ?_
    refine H8 _ _ ?_
    clear H8 K8
    refine AW_ret ?_
    cases hm
    exact Ret.of1 (.inl rfl) (rsT _ _ (.sc (.bool _)) rfl) (hp_sub (List.nil_sublist _) hk3).1 (ALe.refl _ _) ⟨rfl, rfl⟩
  · replace hm := ite_f hm hc7
    refine AW_skip ?_
    refine H5 _ _ ?_
    clear H5 K5
    refine AW_k fun K9 H9 => ?_
    refine AW_k fun K10 H10 => ?_
    refine AW_reg ?_
    refine s_v (o_mv (.sl _ _ _) rfl) ?_
    refine s_v (o_lenm ln58 rfl) ?_
    refine s_v (o_mv (.sc (.int _ _)) rfl) ?_
    refine s_nil ?_
    refine H10 _ _ ?_
    clear H10 K10
    refine AW_loopG (n := 75) hm (σ := Int) (τ := Unit) (fun g s => HOk h [(some k2, .obj 27 (c_Catalog p0))]) (fun g s => kp (kp (kp (kp (kp (k0) 12 (.sc (.int .i64 s))) 11 (.sc (.int .i64 (p1.length : Int)))) 10 (.sl none 4 (List.map c_Loc p1))) 2 (.ptr k2 0)) 1 (.sl none 4 (List.map c_Loc p1))) (fun g s => hp h [(some k2, .obj 27 (c_Catalog p0))]) () hk3 (LeF.fm (Sub.refl _) (.cons (ALe.refl _ _) (.cons (ALe.refl _ _) (.cons (ALe.refl _ _) (.cons (ALe.refl _ _) (.cons (ALe.refl _ _) (.nil))))))) ?_ ?_
    · rintro _ q132 x hk133 hm
      replace hm : M112_L0 fuel p0 p1 q132 = some x := hm
      unfold M112_L0 at hm
      refine AW_k fun K134 H134 => ?_
      refine AW_reg ?_
      refine s_v (o_bi rfl rfl rfl trivial) ?_
      refine s_nil ?_
      refine H134 _ _ ?_
      clear H134 K134
      refine AW_k fun K135 H135 => ?_
      refine AW_if' rfl (fun hc136 => ?_) (fun hc136 => ?_)
      · replace hm := ite_t hm hc136
        refine AW_skip ?_
        refine H135 _ _ ?_
        clear H135 K135
        refine AW_k fun K137 H137 => ?_
        refine AW_block ?_
        refine AW_k fun K138 H138 => ?_
        refine AW_reg ?_
        refine s_v (o_mv (.sc (.int _ _)) rfl) ?_
        obtain ⟨x139, hx140, hm⟩ := bind_of hm
        refine s_v (o_ix hx140 el58 rfl rfl) ?_
        refine s_v (o_ld (.agg (c_Loc x139)) ld77 rfl rfl) ?_
        refine s_op (a_alloc ([.sc (.int .i64 0), .sc (.int .i64 0), .sc (.int .i64 0), .sc (.int .i64 0)]) hk133 zr77 rfl rfl fun k141 hk142 => ?_)
        refine s_v (o_as (.sc (.int _ _)) rfl) ?_
        refine s_op (a_store 0 (c_Loc x139) hk142 rfl rfl rfl rfl sz77 rfl rfl fun hk144 => ?_)
        refine s_nil ?_
        refine H138 _ _ ?_
        clear H138 K138
        refine AW_k fun K145 H145 => ?_
        refine AW_joinG (n := 75) hm (σ := Bool) (τ := Unit) (fun g s => HOk h [(some k141, .obj 77 (c_Loc x139)), (some k2, .obj 27 (c_Catalog p0))]) (fun g s => kp (kp (kp (kp (kp (kp (k0) 73 (.sc (.bool s))) 12 (.sc (.int .i64 q132))) 11 (.sc (.int .i64 (p1.length : Int)))) 10 (.sl none 4 (List.map c_Loc p1))) 2 (.ptr k2 0)) 1 (.sl none 4 (List.map c_Loc p1))) (fun g s => hp h [(some k141, .obj 77 (c_Loc x139)), (some k2, .obj 27 (c_Catalog p0))]) (fun x hm => ?_) ?_
        · refine AW_region_q [(some 17, [6], []), (some 18, [17], [0]), (some 19, [2], []), (some 20, [19], [2]), (some 21, [20], [3]), (some 22, [21], [4]), (some 23, [18, 22], [1, 5]), (some 24, [23], [6]), (some 25, [24], [7, 6]), (some 26, [2, 25], [8]), (some 27, [26, 25], [9, 8]), (some 28, [6, 25], [8]), (some 29, [28, 25], [11, 8]), (some 30, [27, 29, 25], [10, 12, 8]), (some 31, [30, 25], [13, 8]), (some 32, [31, 25], [14, 8]), (some 33, [32, 25], [15, 8]), (some 34, [25, 33], [8, 16]), (some 35, [34], [17, 8]), (some 36, [6, 35], [18]), (some 37, [36, 35], [19, 18]), (some 38, [2, 35], [18]), (some 39, [38, 35], [21, 18]), (some 40, [6, 35], [18]), (some 41, [40, 35], [23, 18]), (some 42, [39, 41, 35], [22, 24, 18]), (some 43, [42, 35], [25, 18]), (some 44, [43, 35], [26, 18]), (some 45, [37, 44, 35], [20, 27, 18, 18]), (some 46, [45, 35], [28, 18]), (some 47, [35, 46], [18, 29]), (some 48, [47], [30, 28]), (some 49, [6, 48], [31]), (some 50, [49, 48], [32, 31]), (some 51, [50, 48], [33, 31, 31]), (some 52, [51, 48], [34, 31]), (some 53, [48, 52], [31, 35]), (some 54, [53], [36, 34]), (some 55, [6, 54], [37]), (some 56, [55, 54], [38, 37]), (some 57, [56, 54], [39, 37, 37]), (some 58, [57, 54], [40, 37]), (some 59, [54, 58], [37, 41]), (some 60, [59], [42, 40]), (some 61, [5, 60], [43]), (some 62, [61, 60], [44, 43]), (some 63, [62, 60], [45, 43, 43]), (some 64, [6, 63], [46]), (some 65, [1, 63], [46]), (some 66, [5, 63], [46]), (some 67, [66, 63], [49, 46]), (some 68, [65, 67, 63], [48, 50, 46]), (some 69, [68, 63], [51, 46]), (some 70, [64, 69, 63], [47, 52, 46, 46]), (some 71, [70, 63], [53, 46]), (some 72, [63, 71, 60], [46, 54, 43]), (some 73, [60, 72], [43, 55])] mixed (by kernel_rfl) (by kernel_rfl) ?_
          refine q_v (o_flp fd77_0 rfl rfl) ?_
          refine q_v (o_ldp (.sc (.int .i64 x139.Vol)) ld3 rfl (hp_get 0 hk144 rfl) rfl) ?_
          refine q_v (o_flp fd27_4 rfl rfl) ?_
          refine q_v (o_ldp (.sl none 4 (List.map c_Vol p0.Vols)) ld25 rfl (hp_get 1 hk144 rfl) rfl) ?_
          refine q_v (o_lenm ln25 rfl) ?_
          refine q_v (o_bi rfl rfl rfl trivial) ?_
          obtain ⟨y169, hy170, hm⟩ := bind_of hm
          refine q_v (o_call (W68 _ hy170) rfl bd68 rfl) ?_
          refine q_v (o_not rfl) ?_
          refine q_v (o_mv (.sc (.bool _)) rfl) ?_
          rcases Bool.eq_false_or_eq_true (!y169) with hb171 | hb171
          · replace hm := ite_t hm hb171
            refine qg_n rfl rfl hb171 ?_
            refine qg_n rfl rfl hb171 ?_
            refine qg_n rfl rfl hb171 ?_
            refine qg_n rfl rfl hb171 ?_
            refine qg_n rfl rfl hb171 ?_
            refine qg_n rfl rfl hb171 ?_
            refine qg_n rfl rfl hb171 ?_
            refine qg_n rfl rfl hb171 ?_
            refine q_v (o_pkt (.sc (.bool _)) rfl hb171 rfl) ?_
            refine q_v (o_mv (.sc (.bool _)) rfl) ?_
            refine qg_n rfl rfl rfl ?_
            refine qg_n rfl rfl rfl ?_
            refine qg_n rfl rfl rfl ?_
            refine qg_n rfl rfl rfl ?_
            refine qg_n rfl rfl rfl ?_
            refine qg_n rfl rfl rfl ?_
            refine qg_n rfl rfl rfl ?_
            refine qg_n rfl rfl rfl ?_
            refine qg_n rfl rfl rfl ?_
            refine qg_n rfl rfl rfl ?_
            refine qg_n rfl rfl rfl ?_
            refine q_v (o_pkt (.sc (.bool _)) rfl rfl rfl) ?_
            refine q_v (o_mv (.sc (.bool _)) rfl) ?_
            refine qg_n rfl rfl rfl ?_
            refine qg_n rfl rfl rfl ?_
            refine qg_n rfl rfl rfl ?_
            refine qg_n rfl rfl rfl ?_
            refine q_v (o_pkt (.sc (.bool _)) rfl rfl rfl) ?_
            refine q_v (o_mv (.sc (.bool _)) rfl) ?_
            refine qg_n rfl rfl rfl ?_
            refine qg_n rfl rfl rfl ?_
            refine qg_n rfl rfl rfl ?_
            refine qg_n rfl rfl rfl ?_
            refine q_v (o_pkt (.sc (.bool _)) rfl rfl rfl) ?_
            refine q_v (o_mv (.sc (.bool _)) rfl) ?_
            refine qg_n rfl rfl rfl ?_
            refine qg_n rfl rfl rfl ?_
            refine qg_n rfl rfl rfl ?_
            refine qg_u rfl rfl ?_
            refine qg_u rfl rfl ?_
            refine qg_u rfl rfl ?_
            refine qg_u rfl rfl ?_
            refine qg_u rfl rfl ?_
            refine qg_u rfl rfl ?_
            refine qg_u rfl rfl ?_
            refine qg_u rfl rfl ?_
            refine qg_n rfl rfl rfl ?_
            refine q_v (o_pkt (.sc (.bool _)) rfl rfl rfl) ?_
            refine q_nil ?_
            cases hm
            exact ⟨rfl, (), hk144, LeF.fm (Sub.refl _) (.cons (ALe.refl _ _) (.cons (ALe.refl _ _) (.cons (ALe.refl _ _) (.cons (ALe.refl _ _) (.cons (ALe.refl _ _) (.cons (ALe.refl _ _) (.nil)))))))⟩
          · replace hm := ite_f hm hb171
            refine qg_y rfl rfl hb171 ?_
            refine q_v (o_flp fd27_4 rfl rfl) ?_
            refine qg_y rfl rfl hb171 ?_
            refine q_v (o_ldp (.sl none 4 (List.map c_Vol p0.Vols)) ld25 rfl (hp_get 1 hk144 rfl) rfl) ?_
            refine qg_y rfl rfl hb171 ?_
            refine q_v (o_flp fd77_0 rfl rfl) ?_
            refine qg_y rfl rfl hb171 ?_
            refine q_v (o_ldp (.sc (.int .i64 x139.Vol)) ld3 rfl (hp_get 0 hk144 rfl) rfl) ?_
            refine qg_y rfl rfl hb171 ?_
            obtain ⟨x172, hx173, hm⟩ := bind_of hm
            refine q_v (o_ix hx173 el25 rfl rfl) ?_
            refine qg_y rfl rfl hb171 ?_
            refine q_v (o_fl fd40_2 rfl rfl) ?_
            refine qg_y rfl rfl hb171 ?_
            refine q_v (o_ld (.sc (.int .i64 x172.State)) ld3 rfl rfl) ?_
            refine qg_y rfl rfl hb171 ?_
            refine q_v (o_bi rfl rfl rfl trivial) ?_
            refine q_v (o_pkf (.sc (.bool _)) rfl hb171 rfl) ?_
            refine q_v (o_mv (.sc (.bool _)) rfl) ?_
            rcases Bool.eq_false_or_eq_true (x172.State != 2) with hb174 | hb174
            · replace hm := ite_t hm hb174
              refine qg_n rfl rfl hb174 ?_
              refine qg_n rfl rfl hb174 ?_
              refine qg_n rfl rfl hb174 ?_
              refine qg_n rfl rfl hb174 ?_
              refine qg_n rfl rfl hb174 ?_
              refine qg_n rfl rfl hb174 ?_
              refine qg_n rfl rfl hb174 ?_
              refine qg_n rfl rfl hb174 ?_
              refine qg_n rfl rfl hb174 ?_
              refine qg_n rfl rfl hb174 ?_
              refine qg_n rfl rfl hb174 ?_
              refine q_v (o_pkt (.sc (.bool _)) rfl hb174 rfl) ?_
              refine q_v (o_mv (.sc (.bool _)) rfl) ?_
              refine qg_n rfl rfl rfl ?_
              refine qg_n rfl rfl rfl ?_
              refine qg_n rfl rfl rfl ?_
              refine qg_n rfl rfl rfl ?_
              refine q_v (o_pkt (.sc (.bool _)) rfl rfl rfl) ?_
              refine q_v (o_mv (.sc (.bool _)) rfl) ?_
              refine qg_n rfl rfl rfl ?_
              refine qg_n rfl rfl rfl ?_
              refine qg_n rfl rfl rfl ?_
              refine qg_n rfl rfl rfl ?_
              refine q_v (o_pkt (.sc (.bool _)) rfl rfl rfl) ?_
              refine q_v (o_mv (.sc (.bool _)) rfl) ?_
              refine qg_n rfl rfl rfl ?_
              refine qg_n rfl rfl rfl ?_
              refine qg_n rfl rfl rfl ?_
              refine qg_u rfl rfl ?_
              refine qg_u rfl rfl ?_
              refine qg_u rfl rfl ?_
              refine qg_u rfl rfl ?_
              refine qg_u rfl rfl ?_
              refine qg_u rfl rfl ?_
              refine qg_u rfl rfl ?_
              refine qg_u rfl rfl ?_
              refine qg_n rfl rfl rfl ?_
              refine q_v (o_pkt (.sc (.bool _)) rfl rfl rfl) ?_
              refine q_nil ?_
              cases hm
              exact ⟨rfl, (), hk144, LeF.fm (Sub.refl _) (.cons (ALe.refl _ _) (.cons (ALe.refl _ _) (.cons (ALe.refl _ _) (.cons (ALe.refl _ _) (.cons (ALe.refl _ _) (.cons (ALe.refl _ _) (.nil)))))))⟩
            · replace hm := ite_f hm hb174
              refine qg_y rfl rfl hb174 ?_
              refine q_v (o_flp fd77_1 rfl rfl) ?_
              refine qg_y rfl rfl hb174 ?_
              refine q_v (o_ldp (.sc (.int .i64 x139.File)) ld3 rfl (hp_get 0 hk144 rfl) rfl) ?_
              refine qg_y rfl rfl hb174 ?_
              refine q_v (o_flp fd27_4 rfl rfl) ?_
              refine qg_y rfl rfl hb174 ?_
              refine q_v (o_ldp (.sl none 4 (List.map c_Vol p0.Vols)) ld25 rfl (hp_get 1 hk144 rfl) rfl) ?_
              refine qg_y rfl rfl hb174 ?_
              refine q_v (o_flp fd77_0 rfl rfl) ?_
              refine qg_y rfl rfl hb174 ?_
              refine q_v (o_ldp (.sc (.int .i64 x139.Vol)) ld3 rfl (hp_get 0 hk144 rfl) rfl) ?_
              refine qg_y rfl rfl hb174 ?_
              obtain ⟨x175, hx176, hm⟩ := bind_of hm
              refine q_v (o_ix hx176 el25 rfl rfl) ?_
              refine qg_y rfl rfl hb174 ?_
              refine q_v (o_fl fd40_3 rfl rfl) ?_
              refine qg_y rfl rfl hb174 ?_
              refine q_v (o_ld (.sc (.int .i64 x175.Files)) ld3 rfl rfl) ?_
              refine qg_y rfl rfl hb174 ?_
              obtain ⟨y177, hy178, hm⟩ := bind_of hm
              refine q_v (o_call (W68 _ hy178) rfl bd68 rfl) ?_
              refine qg_y rfl rfl hb174 ?_
              refine q_v (o_not rfl) ?_
              refine q_v (o_pkf (.sc (.bool _)) rfl hb174 rfl) ?_
              refine q_v (o_mv (.sc (.bool _)) rfl) ?_
              rcases Bool.eq_false_or_eq_true (!y177) with hb179 | hb179
              · replace hm := ite_t hm hb179
                refine qg_n rfl rfl hb179 ?_
                refine qg_n rfl rfl hb179 ?_
                refine qg_n rfl rfl hb179 ?_
                refine qg_n rfl rfl hb179 ?_
                refine q_v (o_pkt (.sc (.bool _)) rfl hb179 rfl) ?_
                refine q_v (o_mv (.sc (.bool _)) rfl) ?_
                refine qg_n rfl rfl rfl ?_
                refine qg_n rfl rfl rfl ?_
                refine qg_n rfl rfl rfl ?_
                refine qg_n rfl rfl rfl ?_
                refine q_v (o_pkt (.sc (.bool _)) rfl rfl rfl) ?_
                refine q_v (o_mv (.sc (.bool _)) rfl) ?_
                refine qg_n rfl rfl rfl ?_
                refine qg_n rfl rfl rfl ?_
                refine qg_n rfl rfl rfl ?_
                refine qg_u rfl rfl ?_
                refine qg_u rfl rfl ?_
                refine qg_u rfl rfl ?_
                refine qg_u rfl rfl ?_
                refine qg_u rfl rfl ?_
                refine qg_u rfl rfl ?_
                refine qg_u rfl rfl ?_
                refine qg_u rfl rfl ?_
                refine qg_n rfl rfl rfl ?_
                refine q_v (o_pkt (.sc (.bool _)) rfl rfl rfl) ?_
                refine q_nil ?_
                cases hm
                exact ⟨rfl, (), hk144, LeF.fm (Sub.refl _) (.cons (ALe.refl _ _) (.cons (ALe.refl _ _) (.cons (ALe.refl _ _) (.cons (ALe.refl _ _) (.cons (ALe.refl _ _) (.cons (ALe.refl _ _) (.nil)))))))⟩
              · replace hm := ite_f hm hb179
                refine qg_y rfl rfl hb179 ?_
                refine q_v (o_flp fd77_2 rfl rfl) ?_
                refine qg_y rfl rfl hb179 ?_
                refine q_v (o_ldp (.sc (.int .i64 x139.Off)) ld3 rfl (hp_get 0 hk144 rfl) rfl) ?_
                refine qg_y rfl rfl hb179 ?_
                obtain ⟨y180, hy181, hm⟩ := bind_of hm
                refine q_v (o_call (W68 _ hy181) rfl bd68 rfl) ?_
                refine qg_y rfl rfl hb179 ?_
                refine q_v (o_not rfl) ?_
                refine q_v (o_pkf (.sc (.bool _)) rfl hb179 rfl) ?_
                refine q_v (o_mv (.sc (.bool _)) rfl) ?_
                rcases Bool.eq_false_or_eq_true (!y180) with hb182 | hb182
                · replace hm := ite_t hm hb182
                  refine qg_n rfl rfl hb182 ?_
                  refine qg_n rfl rfl hb182 ?_
                  refine qg_n rfl rfl hb182 ?_
                  refine qg_n rfl rfl hb182 ?_
                  refine q_v (o_pkt (.sc (.bool _)) rfl hb182 rfl) ?_
                  refine q_v (o_mv (.sc (.bool _)) rfl) ?_
                  refine qg_n rfl rfl rfl ?_
                  refine qg_n rfl rfl rfl ?_
                  refine qg_n rfl rfl rfl ?_
                  refine qg_u rfl rfl ?_
                  refine qg_u rfl rfl ?_
                  refine qg_u rfl rfl ?_
                  refine qg_u rfl rfl ?_
                  refine qg_u rfl rfl ?_
                  refine qg_u rfl rfl ?_
                  refine qg_u rfl rfl ?_
                  refine qg_u rfl rfl ?_
                  refine qg_n rfl rfl rfl ?_
                  refine q_v (o_pkt (.sc (.bool _)) rfl rfl rfl) ?_
                  refine q_nil ?_
                  cases hm
                  exact ⟨rfl, (), hk144, LeF.fm (Sub.refl _) (.cons (ALe.refl _ _) (.cons (ALe.refl _ _) (.cons (ALe.refl _ _) (.cons (ALe.refl _ _) (.cons (ALe.refl _ _) (.cons (ALe.refl _ _) (.nil)))))))⟩
                · replace hm := ite_f hm hb182
                  refine qg_y rfl rfl hb182 ?_
                  refine q_v (o_flp fd77_3 rfl rfl) ?_
                  refine qg_y rfl rfl hb182 ?_
                  refine q_v (o_ldp (.sc (.int .i64 x139.Len)) ld3 rfl (hp_get 0 hk144 rfl) rfl) ?_
                  refine qg_y rfl rfl hb182 ?_
                  obtain ⟨y183, hy184, hm⟩ := bind_of hm
                  refine q_v (o_call (W68 _ hy184) rfl bd68 rfl) ?_
                  refine qg_y rfl rfl hb182 ?_
                  refine q_v (o_not rfl) ?_
                  refine q_v (o_pkf (.sc (.bool _)) rfl hb182 rfl) ?_
                  refine q_v (o_mv (.sc (.bool _)) rfl) ?_
                  rcases Bool.eq_false_or_eq_true (!y183) with hb185 | hb185
                  · replace hm := ite_t hm hb185
                    refine qg_n rfl rfl hb185 ?_
                    refine qg_n rfl rfl hb185 ?_
                    refine qg_n rfl rfl hb185 ?_
                    refine qg_u rfl rfl ?_
                    refine qg_u rfl rfl ?_
                    refine qg_u rfl rfl ?_
                    refine qg_u rfl rfl ?_
                    refine qg_u rfl rfl ?_
                    refine qg_u rfl rfl ?_
                    refine qg_u rfl rfl ?_
                    refine qg_u rfl rfl ?_
                    refine qg_n rfl rfl hb185 ?_
                    refine q_v (o_pkt (.sc (.bool _)) rfl hb185 rfl) ?_
                    refine q_nil ?_
                    cases hm
                    exact ⟨rfl, (), hk144, LeF.fm (Sub.refl _) (.cons (ALe.refl _ _) (.cons (ALe.refl _ _) (.cons (ALe.refl _ _) (.cons (ALe.refl _ _) (.cons (ALe.refl _ _) (.cons (ALe.refl _ _) (.nil)))))))⟩
                  · replace hm := ite_f hm hb185
                    refine qg_y rfl rfl hb185 ?_
                    refine q_v (o_mv (.sc (.int _ _)) rfl) ?_
                    refine qg_y rfl rfl hb185 ?_
                    refine q_v (o_bi rfl rfl rfl trivial) ?_
                    refine qg_y rfl rfl hb185 ?_
                    refine q_v (o_mv (.sc (.bool _)) rfl) ?_
                    rcases Bool.eq_false_or_eq_true (decide (0 < q132)) with hb186 | hb186
                    · replace hm := ite_t hm hb186
                      refine qg_y rfl rfl hb186 ?_
                      refine q_v (o_ldp (.agg (c_Loc x139)) ld77 rfl (hp_get 0 hk144 rfl) rfl) ?_
                      refine qg_y rfl rfl hb186 ?_
                      refine q_v (o_mv (.sl _ _ _) rfl) ?_
                      refine qg_y rfl rfl hb186 ?_
                      refine q_v (o_mv (.sc (.int _ _)) rfl) ?_
                      refine qg_y rfl rfl hb186 ?_
                      refine q_v (o_bi rfl rfl rfl trivial) ?_
                      refine qg_y rfl rfl hb186 ?_
                      obtain ⟨x187, hx188, hm⟩ := bind_of hm
                      refine q_v (o_ix hx188 el58 rfl rfl) ?_
                      refine qg_y rfl rfl hb186 ?_
                      refine q_v (o_ld (.agg (c_Loc x187)) ld77 rfl rfl) ?_
                      refine qg_y rfl rfl hb186 ?_
                      obtain ⟨y189, hy190, hm⟩ := bind_of hm
                      refine q_v (o_call (W141 _ hy190) rfl bd141 rfl) ?_
                      refine qg_y rfl rfl hb186 ?_
                      refine q_v (o_not rfl) ?_
                      refine qg_y rfl rfl hb185 ?_
                      refine q_v (o_pkt (.sc (.bool _)) rfl hb186 rfl) ?_
                      refine q_v (o_pkf (.sc (.bool _)) rfl hb185 rfl) ?_
                      refine q_nil ?_
                      cases hm
                      exact ⟨rfl, (), hk144, LeF.fm (Sub.refl _) (.cons (ALe.refl _ _) (.cons (ALe.refl _ _) (.cons (ALe.refl _ _) (.cons (ALe.refl _ _) (.cons (ALe.refl _ _) (.cons (ALe.refl _ _) (.nil)))))))⟩
                    · replace hm := ite_f hm hb186
                      refine qg_n rfl rfl hb186 ?_
                      refine qg_n rfl rfl hb186 ?_
                      refine qg_n rfl rfl hb186 ?_
                      refine qg_n rfl rfl hb186 ?_
                      refine qg_n rfl rfl hb186 ?_
                      refine qg_n rfl rfl hb186 ?_
                      refine qg_n rfl rfl hb186 ?_
                      refine qg_n rfl rfl hb186 ?_
                      refine qg_y rfl rfl hb185 ?_
                      refine q_v (o_pkf (.sc (.bool _)) rfl hb186 rfl) ?_
                      refine q_v (o_pkf (.sc (.bool _)) rfl hb185 rfl) ?_
                      refine q_nil ?_
                      cases hm
                      exact ⟨rfl, (), hk144, LeF.fm (Sub.refl _) (.cons (ALe.refl _ _) (.cons (ALe.refl _ _) (.cons (ALe.refl _ _) (.cons (ALe.refl _ _) (.cons (ALe.refl _ _) (.cons (ALe.refl _ _) (.nil)))))))⟩
        · rintro _ j168 fr' h' hk191 hm le
          refine H145 _ _ (le.aw ?_)
          clear le H145 K145
          refine AW_if' rfl (fun hc192 => ?_) (fun hc192 => ?_)
          · replace hm := ite_t hm hc192
            refine AW_k fun K193 H193 => ?_
            refine AW_reg ?_
            refine s_v (o_as (.sc (.bool _)) rfl) ?_
            refine s_nil ?_
            refine H193 _ _ ?_
            clear H193 K193
            refine AW_ret ?_
            cases hm
            refine ⟨⟨nofun, nofun⟩, fun he => ?_⟩
            subst he
            exact Ret.of1 (.inl rfl) (rsT _ _ (.sc (.bool _)) rfl) (hp_sub (List.nil_sublist _) hk191).1 (ALe.refl _ _) ⟨rfl, rfl⟩
          · replace hm := ite_f hm hc192
            refine AW_skip ?_
            refine H137 _ _ ?_
            clear H137 K137
            refine AW_reg ?_
            refine s_v (o_bi rfl rfl rfl trivial) ?_
            refine s_v (o_mv (.sc (.int _ _)) rfl) ?_
            refine s_nil ?_
            cases hm
            exact ⟨rfl, (), (hp_sub (.cons _ (.refl _)) hk191).2, LeF.fm ((hp_sub (.cons _ (.refl _)) hk191).1) (.cons (ALe.refl _ _) (.cons (ALe.refl _ _) (.cons (ALe.refl _ _) (.cons (ALe.refl _ _) (.cons (ALe.refl _ _) (.nil))))))⟩
      · replace hm := ite_f hm hc136
        refine AW_exit ?_
        refine Seq_exit ?_
        cases hm
        exact ⟨rfl, (), hk133, LeF.fm (Sub.refl _) (.cons (ALe.refl _ _) (.cons (ALe.refl _ _) (.cons (ALe.refl _ _) (.cons (ALe.refl _ _) (.cons (ALe.refl _ _) (.nil))))))⟩
    · rintro _ r194 fr' h' hk195 hm le
      refine H9 _ _ (le.aw ?_)
      clear le H9 K9
      refine AW_k fun K196 H196 => ?_
      refine AW_reg ?_
      refine s_v (o_as (.sc (.bool _)) rfl) ?_
      refine s_nil ?_
      refine H196 _ _ ?_
      clear H196 K196
      refine AW_ret ?_
      cases hm
      exact Ret.of1 (.inl rfl) (rsT _ _ (.sc (.bool _)) rfl) (hp_sub (List.nil_sublist _) hk195).1 (ALe.refl _ _) ⟨rfl, rfl⟩
theorem bd112 : bodied Try.prog 112 = true := by kernel_rfl
def M115_L0 (fuel : Nat) (p0 : ByteArray) (q53 : Int) : Option (Lp (Int) (Bool)) :=
  if (decide (q53 < (p0.size : Int))) = true then (after ((six p0 q53).bind fun x67 => if (decide (x67 < 33)) = true then (some (.brk true)) else (six p0 q53).bind fun x70 => some (.brk (decide (126 < x70))) : Option (Lp (Bool) (Lp (Int) (Bool)))) fun j66 => if j66 = true then (some (.ret false)) else some (.go (IntKind.wrap .i64 (q53 + 1)))) else some (.brk q53)
def M115 (fuel : Nat) (p0 : ByteArray) : Option (Bool) :=
  after (if (decide ((p0.size : Int) < 1)) = true then (some (.brk true)) else some (.brk (decide (20 < (p0.size : Int)))) : Option (Lp (Bool) (Bool))) fun j5 => if j5 = true then (some false) else after (loopM (fun s => M115_L0 fuel p0 s) fuel 0) fun r75 => some true
set_option maxRecDepth 100000 in
/-- cellarer/tree.Name -/
theorem W115 {fuel : Nat} {p0 : ByteArray} {o : Bool} (h : Heap) (hm : M115 fuel p0 = some o) :
    ACalls Try.prog 115 [.sc (.string p0)] h (fun r h' => r = .sc (.bool o) ∧ h' = h) := by
  refine ACalls_hp 28 [.tmp 2] Try.func115 rfl rfl rfl rfl ?_
  unfold M115 at hm
  refine AW_k fun K1 H1 => ?_
  refine AW_reg ?_
  refine s_v (o_as (.sc (.bool _)) rfl) ?_
  refine s_nil ?_
  refine H1 _ _ ?_
  clear H1 K1
  refine AW_k fun K2 H2 => ?_
  refine AW_k fun K3 H3 => ?_
  refine AW_joinG (n := 28) hm (σ := Bool) (τ := Unit) (fun g s => HOk h []) (fun g s => kp (kp (k0) 11 (.sc (.bool s))) 0 (.sc (.string p0))) (fun g s => hp h []) (fun x hm => ?_) ?_
  · refine AW_reg ?_
    refine s_v (o_mv (.sc (.string _)) rfl) ?_
    refine s_v (o_lent ln9 rfl) ?_
    refine s_v (o_bi rfl rfl rfl trivial) ?_
    refine s_v (o_mv (.sc (.bool _)) rfl) ?_
    rcases Bool.eq_false_or_eq_true (decide ((p0.size : Int) < 1)) with hb6 | hb6
    · replace hm := ite_t hm hb6
      refine sg_n rfl rfl hb6 ?_
      refine sg_n rfl rfl hb6 ?_
      refine sg_n rfl rfl hb6 ?_
      refine s_v (o_pkt (.sc (.bool _)) rfl hb6 rfl) ?_
      refine s_nil ?_
      cases hm
      exact ⟨rfl, (), HOk.nil _, LeF.fm (Sub.refl _) (.cons (ALe.refl _ _) (.cons (ALe.refl _ _) (.nil)))⟩
    · replace hm := ite_f hm hb6
      refine sg_y rfl rfl hb6 ?_
      refine s_v (o_mv (.sc (.string _)) rfl) ?_
      refine sg_y rfl rfl hb6 ?_
      refine s_v (o_lent ln9 rfl) ?_
      refine sg_y rfl rfl hb6 ?_
      refine s_v (o_bi rfl rfl rfl trivial) ?_
      refine s_v (o_pkf (.sc (.bool _)) rfl hb6 rfl) ?_
      refine s_nil ?_
      cases hm
      exact ⟨rfl, (), HOk.nil _, LeF.fm (Sub.refl _) (.cons (ALe.refl _ _) (.cons (ALe.refl _ _) (.nil)))⟩
  · rintro _ j5 fr' h' hk7 hm le
    refine H3 _ _ (le.aw ?_)
    clear le H3 K3
    refine AW_if' rfl (fun hc8 => ?_) (fun hc8 => ?_)
    · replace hm := ite_t hm hc8
      refine AW_k fun K9 H9 => ?_
      refine AW_reg ?_
      refine s_v (o_as (.sc (.bool _)) rfl) ?_
      refine s_nil ?_
      refine H9 _ _ ?_
      clear H9 K9
      refine AW_ret ?_
      cases hm
      exact Ret.of1 (.inl rfl) (rsT _ _ (.sc (.bool _)) rfl) (Sub.refl _) (ALe.refl _ _) ⟨rfl, rfl⟩
    · replace hm := ite_f hm hc8
      refine AW_skip ?_
      refine H2 _ _ ?_
      clear H2 K2
      refine AW_k fun K10 H10 => ?_
      refine AW_k fun K11 H11 => ?_
      refine AW_reg ?_
      refine s_v (o_mv (.sc (.string _)) rfl) ?_
      refine s_v (o_lent ln9 rfl) ?_
      refine s_v (o_mv (.sc (.int _ _)) rfl) ?_
      refine s_nil ?_
      refine H11 _ _ ?_
      clear H11 K11
      refine AW_loopG (n := 28) hm (σ := Int) (τ := Unit) (fun g s => HOk h []) (fun g s => kp (kp (kp (k0) 14 (.sc (.int .i64 s))) 13 (.sc (.int .i64 (p0.size : Int)))) 0 (.sc (.string p0))) (fun g s => hp h []) () hk7 (LeF.fm (Sub.refl _) (.cons (ALe.refl _ _) (.cons (ALe.refl _ _) (.cons (ALe.refl _ _) (.nil))))) ?_ ?_
      · rintro _ q53 x hk54 hm
        replace hm : M115_L0 fuel p0 q53 = some x := hm
        unfold M115_L0 at hm
        refine AW_k fun K55 H55 => ?_
        refine AW_reg ?_
        refine s_v (o_bi rfl rfl rfl trivial) ?_
        refine s_nil ?_
        refine H55 _ _ ?_
        clear H55 K55
        refine AW_k fun K56 H56 => ?_
        refine AW_if' rfl (fun hc57 => ?_) (fun hc57 => ?_)
        · replace hm := ite_t hm hc57
          refine AW_skip ?_
          refine H56 _ _ ?_
          clear H56 K56
          refine AW_k fun K58 H58 => ?_
          refine AW_block ?_
          refine AW_k fun K59 H59 => ?_
          refine AW_reg ?_
          refine s_v (o_mv (.sc (.int _ _)) rfl) ?_
          refine s_v (o_as (.sc (.int _ _)) rfl) ?_
          refine s_nil ?_
          refine H59 _ _ ?_
          clear H59 K59
          refine AW_k fun K60 H60 => ?_
          refine AW_joinG (n := 28) hm (σ := Bool) (τ := Unit) (fun g s => HOk h []) (fun g s => kp (kp (kp (kp (k0) 26 (.sc (.bool s))) 14 (.sc (.int .i64 q53))) 13 (.sc (.int .i64 (p0.size : Int)))) 0 (.sc (.string p0))) (fun g s => hp h []) (fun x hm => ?_) ?_
          · refine AW_reg ?_
            refine s_v (o_mv (.sc (.string _)) rfl) ?_
            refine s_v (o_mv (.sc (.int _ _)) rfl) ?_
            obtain ⟨x67, hx68, hm⟩ := bind_of hm
            refine s_v (o_six hx68 u9 rfl rfl) ?_
            refine s_v (o_bi rfl rfl rfl trivial) ?_
            refine s_v (o_mv (.sc (.bool _)) rfl) ?_
            rcases Bool.eq_false_or_eq_true (decide (x67 < 33)) with hb69 | hb69
            · replace hm := ite_t hm hb69
              refine sg_n rfl rfl hb69 ?_
              refine sg_n rfl rfl hb69 ?_
              refine sg_n rfl rfl hb69 ?_
              refine sg_n rfl rfl hb69 ?_
              refine s_v (o_pkt (.sc (.bool _)) rfl hb69 rfl) ?_
              refine s_nil ?_
              cases hm
              exact ⟨rfl, (), hk54, LeF.fm (Sub.refl _) (.cons (ALe.refl _ _) (.cons (ALe.refl _ _) (.cons (ALe.refl _ _) (.cons (ALe.refl _ _) (.nil)))))⟩
            · replace hm := ite_f hm hb69
              refine sg_y rfl rfl hb69 ?_
              refine s_v (o_mv (.sc (.string _)) rfl) ?_
              refine sg_y rfl rfl hb69 ?_
              refine s_v (o_mv (.sc (.int _ _)) rfl) ?_
              refine sg_y rfl rfl hb69 ?_
              obtain ⟨x70, hx71, hm⟩ := bind_of hm
              refine s_v (o_six hx71 u9 rfl rfl) ?_
              refine sg_y rfl rfl hb69 ?_
              refine s_v (o_bi rfl rfl rfl trivial) ?_
              refine s_v (o_pkf (.sc (.bool _)) rfl hb69 rfl) ?_
              refine s_nil ?_
              cases hm
              exact ⟨rfl, (), hk54, LeF.fm (Sub.refl _) (.cons (ALe.refl _ _) (.cons (ALe.refl _ _) (.cons (ALe.refl _ _) (.cons (ALe.refl _ _) (.nil)))))⟩
          · rintro _ j66 fr' h' hk72 hm le
            refine H60 _ _ (le.aw ?_)
            clear le H60 K60
            refine AW_if' rfl (fun hc73 => ?_) (fun hc73 => ?_)
            · replace hm := ite_t hm hc73
              refine AW_k fun K74 H74 => ?_
              refine AW_reg ?_
              refine s_v (o_as (.sc (.bool _)) rfl) ?_
              refine s_nil ?_
              refine H74 _ _ ?_
              clear H74 K74
              refine AW_ret ?_
              cases hm
              refine ⟨⟨nofun, nofun⟩, fun he => ?_⟩
              subst he
              exact Ret.of1 (.inl rfl) (rsT _ _ (.sc (.bool _)) rfl) (Sub.refl _) (ALe.refl _ _) ⟨rfl, rfl⟩
            · replace hm := ite_f hm hc73
              refine AW_skip ?_
              refine H58 _ _ ?_
              clear H58 K58
              refine AW_reg ?_
              refine s_v (o_bi rfl rfl rfl trivial) ?_
              refine s_v (o_mv (.sc (.int _ _)) rfl) ?_
              refine s_nil ?_
              cases hm
              exact ⟨rfl, (), hk72, LeF.fm (Sub.refl _) (.cons (ALe.refl _ _) (.cons (ALe.refl _ _) (.cons (ALe.refl _ _) (.nil))))⟩
        · replace hm := ite_f hm hc57
          refine AW_exit ?_
          refine Seq_exit ?_
          cases hm
          exact ⟨rfl, (), hk54, LeF.fm (Sub.refl _) (.cons (ALe.refl _ _) (.cons (ALe.refl _ _) (.cons (ALe.refl _ _) (.nil))))⟩
      · rintro _ r75 fr' h' hk76 hm le
        refine H10 _ _ (le.aw ?_)
        clear le H10 K10
        refine AW_k fun K77 H77 => ?_
        refine AW_reg ?_
        refine s_v (o_as (.sc (.bool _)) rfl) ?_
        refine s_nil ?_
        refine H77 _ _ ?_
        clear H77 K77
        refine AW_ret ?_
        cases hm
        exact Ret.of1 (.inl rfl) (rsT _ _ (.sc (.bool _)) rfl) (Sub.refl _) (ALe.refl _ _) ⟨rfl, rfl⟩
theorem bd115 : bodied Try.prog 115 = true := by kernel_rfl
def M116 (fuel : Nat) (p0 : TPart) : Option (Bool) :=
  after ((M115 fuel p0.Path).bind fun y13 => if y13 = true then (if (decide (0 ≤ p0.Size)) = true then (if (decide (p0.Size ≤ 200)) = true then (if (decide ((p0.Ids.length : Int) ≤ 25)) = true then (some (.brk (((p0.Ids.length : Int) == 0) == (p0.Size == 0)))) else some (.brk false)) else some (.brk false)) else some (.brk false)) else some (.brk false) : Option (Lp (Bool) (Bool))) fun j12 => some j12
set_option maxRecDepth 100000 in
/-- cellarer/manifest.part -/
theorem W116 {fuel : Nat} {p0 : TPart} {o : Bool} (h : Heap) (hm : M116 fuel p0 = some o) :
    ACalls Try.prog 116 [.agg (c_Part p0)] h (fun r h' => r = .sc (.bool o) ∧ h' = h) := by
  refine ACalls_hp 32 [.tmp 2] Try.func116 rfl rfl rfl rfl ?_
  unfold M116 at hm
  refine AW_k fun K1 H1 => ?_
  refine AW_reg ?_
  refine s_op (a_box (HOk.nil _) rfl rfl fun k2 hk3 => ?_)
  refine s_v (o_as (.sc (.bool _)) rfl) ?_
  refine s_nil ?_
  refine H1 _ _ ?_
  clear H1 K1
  refine AW_k fun K5 H5 => ?_
  refine AW_joinG (n := 32) hm (σ := Bool) (τ := Unit) (fun g s => HOk h [(some k2, .obj 82 (c_Part p0))]) (fun g s => kp (k0) 2 (.sc (.bool s))) (fun g s => hp h [(some k2, .obj 82 (c_Part p0))]) (fun x hm => ?_) ?_
  · refine AW_reg ?_
    refine s_v (o_flp fd82_0 rfl rfl) ?_
    refine s_v (o_ldp (.sc (.string p0.Path)) ld9 rfl (hp_get 0 hk3 rfl) rfl) ?_
    obtain ⟨y13, hy14, hm⟩ := bind_of hm
    refine s_v (o_call (W115 _ hy14) rfl bd115 rfl) ?_
    refine s_v (o_mv (.sc (.bool _)) rfl) ?_
    rcases Bool.eq_false_or_eq_true y13 with hb15 | hb15
    · replace hm := ite_t hm hb15
      refine sg_y rfl rfl hb15 ?_
      refine s_v (o_flp fd82_1 rfl rfl) ?_
      refine sg_y rfl rfl hb15 ?_
      refine s_v (o_ldp (.sc (.int .i64 p0.Size)) ld3 rfl (hp_get 0 hk3 rfl) rfl) ?_
      refine sg_y rfl rfl hb15 ?_
      refine s_v (o_bi rfl rfl rfl trivial) ?_
      refine s_v (o_pkt (.sc (.bool _)) rfl hb15 rfl) ?_
      refine s_v (o_mv (.sc (.bool _)) rfl) ?_
      rcases Bool.eq_false_or_eq_true (decide (0 ≤ p0.Size)) with hb16 | hb16
      · replace hm := ite_t hm hb16
        refine sg_y rfl rfl hb16 ?_
        refine s_v (o_flp fd82_1 rfl rfl) ?_
        refine sg_y rfl rfl hb16 ?_
        refine s_v (o_ldp (.sc (.int .i64 p0.Size)) ld3 rfl (hp_get 0 hk3 rfl) rfl) ?_
        refine sg_y rfl rfl hb16 ?_
        refine s_v (o_bi rfl rfl rfl trivial) ?_
        refine s_v (o_pkt (.sc (.bool _)) rfl hb16 rfl) ?_
        refine s_v (o_mv (.sc (.bool _)) rfl) ?_
        rcases Bool.eq_false_or_eq_true (decide (p0.Size ≤ 200)) with hb17 | hb17
        · replace hm := ite_t hm hb17
          refine sg_y rfl rfl hb17 ?_
          refine s_v (o_flp fd82_2 rfl rfl) ?_
          refine sg_y rfl rfl hb17 ?_
          refine s_v (o_ldp (.sl none 32 (List.map c_id p0.Ids)) ld80 rfl (hp_get 0 hk3 rfl) rfl) ?_
          refine sg_y rfl rfl hb17 ?_
          refine s_v (o_lenm ln80 rfl) ?_
          refine sg_y rfl rfl hb17 ?_
          refine s_v (o_bi rfl rfl rfl trivial) ?_
          refine s_v (o_pkt (.sc (.bool _)) rfl hb17 rfl) ?_
          refine s_v (o_mv (.sc (.bool _)) rfl) ?_
          rcases Bool.eq_false_or_eq_true (decide ((p0.Ids.length : Int) ≤ 25)) with hb18 | hb18
          · replace hm := ite_t hm hb18
            refine sg_y rfl rfl hb18 ?_
            refine s_v (o_flp fd82_2 rfl rfl) ?_
            refine sg_y rfl rfl hb18 ?_
            refine s_v (o_ldp (.sl none 32 (List.map c_id p0.Ids)) ld80 rfl (hp_get 0 hk3 rfl) rfl) ?_
            refine sg_y rfl rfl hb18 ?_
            refine s_v (o_lenm ln80 rfl) ?_
            refine sg_y rfl rfl hb18 ?_
            refine s_v (o_bi rfl rfl rfl trivial) ?_
            refine sg_y rfl rfl hb18 ?_
            refine s_v (o_flp fd82_1 rfl rfl) ?_
            refine sg_y rfl rfl hb18 ?_
            refine s_v (o_ldp (.sc (.int .i64 p0.Size)) ld3 rfl (hp_get 0 hk3 rfl) rfl) ?_
            refine sg_y rfl rfl hb18 ?_
            refine s_v (o_bi rfl rfl rfl trivial) ?_
            refine sg_y rfl rfl hb18 ?_
            refine s_v (o_bb u4 rfl rfl rfl) ?_
            refine s_v (o_pkt (.sc (.bool _)) rfl hb18 rfl) ?_
            refine s_v (o_as (.sc (.bool _)) rfl) ?_
            refine s_nil ?_
            cases hm
            exact ⟨rfl, (), hk3, LeF.fm (Sub.refl _) (.cons (ALe.refl _ _) (.nil))⟩
          · replace hm := ite_f hm hb18
            refine sg_n rfl rfl hb18 ?_
            refine sg_n rfl rfl hb18 ?_
            refine sg_n rfl rfl hb18 ?_
            refine sg_n rfl rfl hb18 ?_
            refine sg_n rfl rfl hb18 ?_
            refine sg_n rfl rfl hb18 ?_
            refine sg_n rfl rfl hb18 ?_
            refine sg_n rfl rfl hb18 ?_
            refine s_v (o_pkf (.sc (.bool _)) rfl hb18 rfl) ?_
            refine s_v (o_as (.sc (.bool _)) rfl) ?_
            refine s_nil ?_
            cases hm
            exact ⟨rfl, (), hk3, LeF.fm (Sub.refl _) (.cons (ALe.refl _ _) (.nil))⟩
        · replace hm := ite_f hm hb17
          refine sg_n rfl rfl hb17 ?_
          refine sg_n rfl rfl hb17 ?_
          refine sg_n rfl rfl hb17 ?_
          refine sg_n rfl rfl hb17 ?_
          refine s_v (o_pkf (.sc (.bool _)) rfl hb17 rfl) ?_
          refine s_v (o_mv (.sc (.bool _)) rfl) ?_
          refine sg_n rfl rfl rfl ?_
          refine sg_n rfl rfl rfl ?_
          refine sg_n rfl rfl rfl ?_
          refine sg_n rfl rfl rfl ?_
          refine sg_n rfl rfl rfl ?_
          refine sg_n rfl rfl rfl ?_
          refine sg_n rfl rfl rfl ?_
          refine sg_n rfl rfl rfl ?_
          refine s_v (o_pkf (.sc (.bool _)) rfl rfl rfl) ?_
          refine s_v (o_as (.sc (.bool _)) rfl) ?_
          refine s_nil ?_
          cases hm
          exact ⟨rfl, (), hk3, LeF.fm (Sub.refl _) (.cons (ALe.refl _ _) (.nil))⟩
      · replace hm := ite_f hm hb16
        refine sg_n rfl rfl hb16 ?_
        refine sg_n rfl rfl hb16 ?_
        refine sg_n rfl rfl hb16 ?_
        refine s_v (o_pkf (.sc (.bool _)) rfl hb16 rfl) ?_
        refine s_v (o_mv (.sc (.bool _)) rfl) ?_
        refine sg_n rfl rfl rfl ?_
        refine sg_n rfl rfl rfl ?_
        refine sg_n rfl rfl rfl ?_
        refine sg_n rfl rfl rfl ?_
        refine s_v (o_pkf (.sc (.bool _)) rfl rfl rfl) ?_
        refine s_v (o_mv (.sc (.bool _)) rfl) ?_
        refine sg_n rfl rfl rfl ?_
        refine sg_n rfl rfl rfl ?_
        refine sg_n rfl rfl rfl ?_
        refine sg_n rfl rfl rfl ?_
        refine sg_n rfl rfl rfl ?_
        refine sg_n rfl rfl rfl ?_
        refine sg_n rfl rfl rfl ?_
        refine sg_n rfl rfl rfl ?_
        refine s_v (o_pkf (.sc (.bool _)) rfl rfl rfl) ?_
        refine s_v (o_as (.sc (.bool _)) rfl) ?_
        refine s_nil ?_
        cases hm
        exact ⟨rfl, (), hk3, LeF.fm (Sub.refl _) (.cons (ALe.refl _ _) (.nil))⟩
    · replace hm := ite_f hm hb15
      refine sg_n rfl rfl hb15 ?_
      refine sg_n rfl rfl hb15 ?_
      refine sg_n rfl rfl hb15 ?_
      refine s_v (o_pkf (.sc (.bool _)) rfl hb15 rfl) ?_
      refine s_v (o_mv (.sc (.bool _)) rfl) ?_
      refine sg_n rfl rfl rfl ?_
      refine sg_n rfl rfl rfl ?_
      refine sg_n rfl rfl rfl ?_
      refine s_v (o_pkf (.sc (.bool _)) rfl rfl rfl) ?_
      refine s_v (o_mv (.sc (.bool _)) rfl) ?_
      refine sg_n rfl rfl rfl ?_
      refine sg_n rfl rfl rfl ?_
      refine sg_n rfl rfl rfl ?_
      refine sg_n rfl rfl rfl ?_
      refine s_v (o_pkf (.sc (.bool _)) rfl rfl rfl) ?_
      refine s_v (o_mv (.sc (.bool _)) rfl) ?_
      refine sg_n rfl rfl rfl ?_
      refine sg_n rfl rfl rfl ?_
      refine sg_n rfl rfl rfl ?_
      refine sg_n rfl rfl rfl ?_
      refine sg_n rfl rfl rfl ?_
      refine sg_n rfl rfl rfl ?_
      refine sg_n rfl rfl rfl ?_
      refine sg_n rfl rfl rfl ?_
      refine s_v (o_pkf (.sc (.bool _)) rfl rfl rfl) ?_
      refine s_v (o_as (.sc (.bool _)) rfl) ?_
      refine s_nil ?_
      cases hm
      exact ⟨rfl, (), hk3, LeF.fm (Sub.refl _) (.cons (ALe.refl _ _) (.nil))⟩
  · rintro _ j12 fr' h' hk19 hm le
    refine H5 _ _ (le.aw ?_)
    clear le H5 K5
    refine AW_ret ?_
    cases hm
    exact Ret.of1 (.inl rfl) (rsT _ _ (.sc (.bool _)) rfl) (hp_sub (List.nil_sublist _) hk19).1 (ALe.refl _ _) ⟨rfl, rfl⟩
theorem bd116 : bodied Try.prog 116 = true := by kernel_rfl
def M73_L0 (fuel : Nat) (p0 : TManifest) (q76 : Int) : Option (Lp (Int) (Int)) :=
  if (decide (q76 < (p0.Parts.length : Int))) = true then ((ix p0.Parts q76).bind fun x83 => after ((M116 fuel x83).bind fun y97 => if (!y97) = true then (some (.brk true)) else if (decide (0 < q76)) = true then ((ix p0.Parts (IntKind.wrap .i64 (q76 - 1))).bind fun x101 => some (.brk (Op.bytesLess x83.Path.toList x101.Path.toList || x83.Path.toList == x101.Path.toList))) else some (.brk false) : Option (Lp (Bool) (Lp (Int) (Int)))) fun j96 => if j96 = true then (some (.ret 1)) else some (.go (IntKind.wrap .i64 (q76 + 1)))) else some (.brk q76)
def M73 (fuel : Nat) (p0 : TManifest) : Option (Int) :=
  after ((M115 fuel p0.Name).bind fun y11 => if (!y11) = true then (some (.brk true)) else some (.brk (decide (6 < (p0.Parts.length : Int)))) : Option (Lp (Bool) (Int))) fun j10 => if j10 = true then (some 1) else after (loopM (fun s => M73_L0 fuel p0 s) fuel 0) fun r106 => some 0
set_option maxRecDepth 100000 in
/-- cellarer/manifest.Check -/
theorem W73 {fuel : Nat} {p0 : TManifest} {o : Int} (h : Heap) (hm : M73 fuel p0 = some o) :
    ACalls Try.prog 73 [.agg (c_Manifest p0)] h (fun r h' => r = .sc (.int .i64 o) ∧ h' = h) := by
  refine ACalls_hp 43 [.tmp 2] Try.func73 rfl rfl rfl rfl ?_
  unfold M73 at hm
  refine AW_k fun K1 H1 => ?_
  refine AW_reg ?_
  refine s_op (a_box (HOk.nil _) rfl rfl fun k2 hk3 => ?_)
  refine s_v (o_as (.sc (.int _ _)) rfl) ?_
  refine s_nil ?_
  refine H1 _ _ ?_
  clear H1 K1
  refine AW_k fun K5 H5 => ?_
  refine AW_k fun K6 H6 => ?_
  refine AW_joinG (n := 43) hm (σ := Bool) (τ := Unit) (fun g s => HOk h [(some k2, .obj 57 (c_Manifest p0))]) (fun g s => kp (kp (k0) 14 (.sc (.bool s))) 1 (.ptr k2 0)) (fun g s => hp h [(some k2, .obj 57 (c_Manifest p0))]) (fun x hm => ?_) ?_
  · refine AW_reg ?_
    refine s_v (o_flp fd57_0 rfl rfl) ?_
    refine s_v (o_ldp (.sc (.string p0.Name)) ld9 rfl (hp_get 0 hk3 rfl) rfl) ?_
    obtain ⟨y11, hy12, hm⟩ := bind_of hm
    refine s_v (o_call (W115 _ hy12) rfl bd115 rfl) ?_
    refine s_v (o_not rfl) ?_
    refine s_v (o_mv (.sc (.bool _)) rfl) ?_
    rcases Bool.eq_false_or_eq_true (!y11) with hb13 | hb13
    · replace hm := ite_t hm hb13
      refine sg_n rfl rfl hb13 ?_
      refine sg_n rfl rfl hb13 ?_
      refine sg_n rfl rfl hb13 ?_
      refine sg_n rfl rfl hb13 ?_
      refine s_v (o_pkt (.sc (.bool _)) rfl hb13 rfl) ?_
      refine s_nil ?_
      cases hm
      exact ⟨rfl, (), hk3, LeF.fm (Sub.refl _) (.cons (ALe.refl _ _) (.cons (ALe.refl _ _) (.nil)))⟩
    · replace hm := ite_f hm hb13
      refine sg_y rfl rfl hb13 ?_
      refine s_v (o_flp fd57_1 rfl rfl) ?_
      refine sg_y rfl rfl hb13 ?_
      refine s_v (o_ldp (.sl none 3 (List.map c_Part p0.Parts)) ld55 rfl (hp_get 0 hk3 rfl) rfl) ?_
      refine sg_y rfl rfl hb13 ?_
      refine s_v (o_lenm ln55 rfl) ?_
      refine sg_y rfl rfl hb13 ?_
      refine s_v (o_bi rfl rfl rfl trivial) ?_
      refine s_v (o_pkf (.sc (.bool _)) rfl hb13 rfl) ?_
      refine s_nil ?_
      cases hm
      exact ⟨rfl, (), hk3, LeF.fm (Sub.refl _) (.cons (ALe.refl _ _) (.cons (ALe.refl _ _) (.nil)))⟩
  · rintro _ j10 fr' h' hk14 hm le
    refine H6 _ _ (le.aw ?_)
    clear le H6 K6
    refine AW_if' rfl (fun hc15 => ?_) (fun hc15 => ?_)
    · replace hm := ite_t hm hc15
      refine AW_k fun K16 H16 => ?_
      refine AW_reg ?_
      refine s_v (o_as (.sc (.int _ _)) rfl) ?_
      refine s_nil ?_
      refine H16 _ _ ?_
      clear H16 K16
      refine AW_ret ?_
      cases hm
      exact Ret.of1 (.inl rfl) (rsT _ _ (.sc (.int _ _)) rfl) (hp_sub (List.nil_sublist _) hk14).1 (ALe.refl _ _) ⟨rfl, rfl⟩
    · replace hm := ite_f hm hc15
      refine AW_skip ?_
      refine H5 _ _ ?_
      clear H5 K5
      refine AW_k fun K17 H17 => ?_
      refine AW_k fun K18 H18 => ?_
      refine AW_reg ?_
      refine s_v (o_flp fd57_1 rfl rfl) ?_
      refine s_v (o_ldp (.sl none 3 (List.map c_Part p0.Parts)) ld55 rfl (hp_get 0 hk14 rfl) rfl) ?_
      refine s_v (o_lenm ln55 rfl) ?_
      refine s_v (o_mv (.sc (.int _ _)) rfl) ?_
      refine s_nil ?_
      refine H18 _ _ ?_
      clear H18 K18
      refine AW_loopG (n := 43) hm (σ := Int) (τ := Unit) (fun g s => HOk h [(some k2, .obj 57 (c_Manifest p0))]) (fun g s => kp (kp (kp (kp (k0) 18 (.sc (.int .i64 s))) 17 (.sc (.int .i64 (p0.Parts.length : Int)))) 16 (.sl none 3 (List.map c_Part p0.Parts))) 1 (.ptr k2 0)) (fun g s => hp h [(some k2, .obj 57 (c_Manifest p0))]) () hk14 (LeF.fm (Sub.refl _) (.cons (ALe.refl _ _) (.cons (ALe.refl _ _) (.cons (ALe.refl _ _) (.cons (ALe.refl _ _) (.nil)))))) ?_ ?_
      · rintro _ q76 x hk77 hm
        replace hm : M73_L0 fuel p0 q76 = some x := hm
        unfold M73_L0 at hm
        refine AW_k fun K78 H78 => ?_
        refine AW_reg ?_
        refine s_v (o_bi rfl rfl rfl trivial) ?_
        refine s_nil ?_
        refine H78 _ _ ?_
        clear H78 K78
        refine AW_k fun K79 H79 => ?_
        refine AW_if' rfl (fun hc80 => ?_) (fun hc80 => ?_)
        · replace hm := ite_t hm hc80
          refine AW_skip ?_
          refine H79 _ _ ?_
          clear H79 K79
          refine AW_k fun K81 H81 => ?_
          refine AW_block ?_
          refine AW_k fun K82 H82 => ?_
          refine AW_reg ?_
          refine s_v (o_mv (.sc (.int _ _)) rfl) ?_
          obtain ⟨x83, hx84, hm⟩ := bind_of hm
          refine s_v (o_ix hx84 el55 rfl rfl) ?_
          refine s_v (o_ld (.agg (c_Part x83)) ld82 rfl rfl) ?_
          refine s_op (a_alloc ([.sc (.string ByteArray.empty), .sc (.int .i64 0), .sc (.slice none 0 0)]) hk77 zr82 rfl rfl fun k85 hk86 => ?_)
          refine s_v (o_as (.sc (.int _ _)) rfl) ?_
          refine s_op (a_store 0 (c_Part x83) hk86 rfl rfl rfl rfl sz82 rfl rfl fun hk88 => ?_)
          refine s_nil ?_
          refine H82 _ _ ?_
          clear H82 K82
          refine AW_k fun K89 H89 => ?_
          refine AW_joinG (n := 43) hm (σ := Bool) (τ := Unit) (fun g s => HOk h [(some k85, .obj 82 (c_Part x83)), (some k2, .obj 57 (c_Manifest p0))]) (fun g s => kp (kp (kp (kp (kp (k0) 41 (.sc (.bool s))) 18 (.sc (.int .i64 q76))) 17 (.sc (.int .i64 (p0.Parts.length : Int)))) 16 (.sl none 3 (List.map c_Part p0.Parts))) 1 (.ptr k2 0)) (fun g s => hp h [(some k85, .obj 82 (c_Part x83)), (some k2, .obj 57 (c_Manifest p0))]) (fun x hm => ?_) ?_
          · refine AW_region_q [(some 23, [4], []), (some 24, [23], [0]), (some 25, [24], [1]), (some 26, [25], [2, 1]), (some 27, [3, 26], [3]), (some 28, [27, 26], [4, 3]), (some 29, [28, 26], [5, 3, 3]), (some 30, [4, 29], [6]), (some 31, [30, 29], [7, 6]), (some 32, [1, 29], [6]), (some 33, [32, 29], [9, 6]), (some 34, [3, 29], [6]), (some 35, [34, 29], [11, 6]), (some 36, [33, 35, 29], [10, 12, 6]), (some 37, [36, 29], [13, 6]), (some 38, [37, 29], [14, 6]), (some 39, [31, 38, 29], [8, 15, 6]), (some 40, [29, 39, 26], [6, 16, 3]), (some 41, [26, 40], [3, 17])] mixed (by kernel_rfl) (by kernel_rfl) ?_
            refine q_v (o_ldp (.agg (c_Part x83)) ld82 rfl (hp_get 0 hk88 rfl) rfl) ?_
            obtain ⟨y97, hy98, hm⟩ := bind_of hm
            refine q_v (o_call (W116 _ hy98) rfl bd116 rfl) ?_
            refine q_v (o_not rfl) ?_
            refine q_v (o_mv (.sc (.bool _)) rfl) ?_
            rcases Bool.eq_false_or_eq_true (!y97) with hb99 | hb99
            · replace hm := ite_t hm hb99
              refine qg_n rfl rfl hb99 ?_
              refine qg_n rfl rfl hb99 ?_
              refine qg_n rfl rfl hb99 ?_
              refine qg_u rfl rfl ?_
              refine qg_u rfl rfl ?_
              refine qg_u rfl rfl ?_
              refine qg_u rfl rfl ?_
              refine qg_u rfl rfl ?_
              refine qg_u rfl rfl ?_
              refine qg_u rfl rfl ?_
              refine qg_u rfl rfl ?_
              refine qg_u rfl rfl ?_
              refine qg_u rfl rfl ?_
              refine qg_n rfl rfl hb99 ?_
              refine q_v (o_pkt (.sc (.bool _)) rfl hb99 rfl) ?_
              refine q_nil ?_
              cases hm
              exact ⟨rfl, (), hk88, LeF.fm (Sub.refl _) (.cons (ALe.refl _ _) (.cons (ALe.refl _ _) (.cons (ALe.refl _ _) (.cons (ALe.refl _ _) (.cons (ALe.refl _ _) (.nil))))))⟩
            · replace hm := ite_f hm hb99
              refine qg_y rfl rfl hb99 ?_
              refine q_v (o_mv (.sc (.int _ _)) rfl) ?_
              refine qg_y rfl rfl hb99 ?_
              refine q_v (o_bi rfl rfl rfl trivial) ?_
              refine qg_y rfl rfl hb99 ?_
              refine q_v (o_mv (.sc (.bool _)) rfl) ?_
              rcases Bool.eq_false_or_eq_true (decide (0 < q76)) with hb100 | hb100
              · replace hm := ite_t hm hb100
                refine qg_y rfl rfl hb100 ?_
                refine q_v (o_flp fd82_0 rfl rfl) ?_
                refine qg_y rfl rfl hb100 ?_
                refine q_v (o_ldp (.sc (.string x83.Path)) ld9 rfl (hp_get 0 hk88 rfl) rfl) ?_
                refine qg_y rfl rfl hb100 ?_
                refine q_v (o_flp fd57_1 rfl rfl) ?_
                refine qg_y rfl rfl hb100 ?_
                refine q_v (o_ldp (.sl none 3 (List.map c_Part p0.Parts)) ld55 rfl (hp_get 1 hk88 rfl) rfl) ?_
                refine qg_y rfl rfl hb100 ?_
                refine q_v (o_mv (.sc (.int _ _)) rfl) ?_
                refine qg_y rfl rfl hb100 ?_
                refine q_v (o_bi rfl rfl rfl trivial) ?_
                refine qg_y rfl rfl hb100 ?_
                obtain ⟨x101, hx102, hm⟩ := bind_of hm
                refine q_v (o_ix hx102 el55 rfl rfl) ?_
                refine qg_y rfl rfl hb100 ?_
                refine q_v (o_fl fd82_0 rfl rfl) ?_
                refine qg_y rfl rfl hb100 ?_
                refine q_v (o_ld (.sc (.string x101.Path)) ld9 rfl rfl) ?_
                refine qg_y rfl rfl hb100 ?_
                refine q_v (o_bs rfl rfl rfl trivial) ?_
                refine qg_y rfl rfl hb99 ?_
                refine q_v (o_pkt (.sc (.bool _)) rfl hb100 rfl) ?_
                refine q_v (o_pkf (.sc (.bool _)) rfl hb99 rfl) ?_
                refine q_nil ?_
                cases hm
                exact ⟨rfl, (), hk88, LeF.fm (Sub.refl _) (.cons (ALe.refl _ _) (.cons (ALe.refl _ _) (.cons (ALe.refl _ _) (.cons (ALe.refl _ _) (.cons (ALe.refl _ _) (.nil))))))⟩
              · replace hm := ite_f hm hb100
                refine qg_n rfl rfl hb100 ?_
                refine qg_n rfl rfl hb100 ?_
                refine qg_n rfl rfl hb100 ?_
                refine qg_n rfl rfl hb100 ?_
                refine qg_n rfl rfl hb100 ?_
                refine qg_n rfl rfl hb100 ?_
                refine qg_n rfl rfl hb100 ?_
                refine qg_n rfl rfl hb100 ?_
                refine qg_n rfl rfl hb100 ?_
                refine qg_n rfl rfl hb100 ?_
                refine qg_y rfl rfl hb99 ?_
                refine q_v (o_pkf (.sc (.bool _)) rfl hb100 rfl) ?_
                refine q_v (o_pkf (.sc (.bool _)) rfl hb99 rfl) ?_
                refine q_nil ?_
                cases hm
                exact ⟨rfl, (), hk88, LeF.fm (Sub.refl _) (.cons (ALe.refl _ _) (.cons (ALe.refl _ _) (.cons (ALe.refl _ _) (.cons (ALe.refl _ _) (.cons (ALe.refl _ _) (.nil))))))⟩
          · rintro _ j96 fr' h' hk103 hm le
            refine H89 _ _ (le.aw ?_)
            clear le H89 K89
            refine AW_if' rfl (fun hc104 => ?_) (fun hc104 => ?_)
            · replace hm := ite_t hm hc104
              refine AW_k fun K105 H105 => ?_
              refine AW_reg ?_
              refine s_v (o_as (.sc (.int _ _)) rfl) ?_
              refine s_nil ?_
              refine H105 _ _ ?_
              clear H105 K105
              refine AW_ret ?_
              cases hm
              refine ⟨⟨nofun, nofun⟩, fun he => ?_⟩
              subst he
              exact Ret.of1 (.inl rfl) (rsT _ _ (.sc (.int _ _)) rfl) (hp_sub (List.nil_sublist _) hk103).1 (ALe.refl _ _) ⟨rfl, rfl⟩
            · replace hm := ite_f hm hc104
              refine AW_skip ?_
              refine H81 _ _ ?_
              clear H81 K81
              refine AW_reg ?_
              refine s_v (o_bi rfl rfl rfl trivial) ?_
              refine s_v (o_mv (.sc (.int _ _)) rfl) ?_
              refine s_nil ?_
              cases hm
              exact ⟨rfl, (), (hp_sub (.cons _ (.refl _)) hk103).2, LeF.fm ((hp_sub (.cons _ (.refl _)) hk103).1) (.cons (ALe.refl _ _) (.cons (ALe.refl _ _) (.cons (ALe.refl _ _) (.cons (ALe.refl _ _) (.nil)))))⟩
        · replace hm := ite_f hm hc80
          refine AW_exit ?_
          refine Seq_exit ?_
          cases hm
          exact ⟨rfl, (), hk77, LeF.fm (Sub.refl _) (.cons (ALe.refl _ _) (.cons (ALe.refl _ _) (.cons (ALe.refl _ _) (.cons (ALe.refl _ _) (.nil)))))⟩
      · rintro _ r106 fr' h' hk107 hm le
        refine H17 _ _ (le.aw ?_)
        clear le H17 K17
        refine AW_k fun K108 H108 => ?_
        refine AW_reg ?_
        refine s_v (o_as (.sc (.int _ _)) rfl) ?_
        refine s_nil ?_
        refine H108 _ _ ?_
        clear H108 K108
        refine AW_ret ?_
        cases hm
        exact Ret.of1 (.inl rfl) (rsT _ _ (.sc (.int _ _)) rfl) (hp_sub (List.nil_sublist _) hk107).1 (ALe.refl _ _) ⟨rfl, rfl⟩
theorem bd73 : bodied Try.prog 73 = true := by kernel_rfl
def M142_L0 (fuel : Nat) (p0 : List TChunk) (p1 : Id32) (p2 : TChunk → Id32 → Option Int) (q38 : Int) (q39 : Int) : Option (Lp (Int × Int) (Int × Bool)) :=
  if (decide (q38 < q39)) = true then ((ix p0 (IntKind.wrap .i64 ((IntKind.wrap .u64 (IntKind.wrap .i64 (q38 + q39))).fdiv (2 ^ (min (1 : Int).toNat (IntKind.bits .u64)))))).bind fun x46 => (p2 x46 p1).bind fun y48 => after (if (decide (y48 < 0)) = true then (some (.brk (IntKind.wrap .i64 ((IntKind.wrap .i64 ((IntKind.wrap .u64 (IntKind.wrap .i64 (q38 + q39))).fdiv (2 ^ (min (1 : Int).toNat (IntKind.bits .u64))))) + 1), q39))) else some (.brk (q38, IntKind.wrap .i64 ((IntKind.wrap .u64 (IntKind.wrap .i64 (q38 + q39))).fdiv (2 ^ (min (1 : Int).toNat (IntKind.bits .u64)))))) : Option (Lp (Int × Int) (Lp (Int × Int) (Int × Bool)))) fun ⟨j51, j52⟩ => some (.go (j51, j52))) else some (.brk (q38, q39))
def M142 (fuel : Nat) (p0 : List TChunk) (p1 : Id32) (p2 : TChunk → Id32 → Option Int) : Option (Int × Bool) :=
  after (loopM (fun s => M142_L0 fuel p0 p1 p2 s.1 s.2) fuel (0, (p0.length : Int))) fun ⟨r55, r56⟩ => after (if (decide (r55 < (p0.length : Int))) = true then ((ix p0 r55).bind fun x67 => (p2 x67 p1).bind fun y69 => some (.brk (r55, (y69 == 0)))) else some (.brk (r55, false)) : Option (Lp (Int × Bool) (Int × Bool))) fun ⟨j64, j65⟩ => some (j64, j65)
set_option maxRecDepth 100000 in
/-- slices.BinarySearchFunc(()cellarer/api.Chunk,cellarer/api.Chunk,(32)byte) -/
theorem W142 {fuel : Nat} {p0 : List TChunk} {p1 : Id32} {p2 : TChunk → Id32 → Option Int} {o : Int × Bool} (h : Heap) {p2F : Nat} {p2C : List AV} (p2B : bodied Try.prog p2F = true) (p2H : ∀ x0 x1 o h0, Sub h h0 → p2 x0 x1 = some o → ACalls Try.prog p2F ([.agg (c_Chunk x0), .agg (c_id x1)] ++ p2C) h0 (fun r h' => r = .sc (.int .i64 o) ∧ h' = h0)) (hm : M142 fuel p0 p1 p2 = some o) :
    ACalls Try.prog 142 [.sl none 35 (List.map c_Chunk p0), .agg (c_id p1), .fn (.func p2F) p2C] h (fun r h' => r = .tup [.sc (.int .i64 o.1), .sc (.bool o.2)] ∧ h' = h) := by
  refine ACalls_hp 49 [.tmp 6, .tmp 7] Try.func142 rfl rfl rfl rfl ?_
  unfold M142 at hm
  refine AW_k fun K1 H1 => ?_
  refine AW_reg ?_
  refine s_op (a_box (HOk.nil _) rfl rfl fun k2 hk3 => ?_)
  refine s_v (o_as (.sc (.int _ _)) rfl) ?_
  refine s_v (o_as (.sc (.bool _)) rfl) ?_
  refine s_nil ?_
  refine H1 _ _ ?_
  clear H1 K1
  refine AW_k fun K5 H5 => ?_
  refine AW_reg ?_
  refine s_v (o_mv (.sl _ _ _) rfl) ?_
  refine s_v (o_lenm ln23 rfl) ?_
  refine s_v (o_as (.sc (.int _ _)) rfl) ?_
  refine s_nil ?_
  refine H5 _ _ ?_
  clear H5 K5
  refine AW_k fun K6 H6 => ?_
  refine AW_reg ?_
  refine s_v (o_mv (.sc (.int _ _)) rfl) ?_
  refine s_v (o_as (.sc (.int _ _)) rfl) ?_
  refine s_v (o_as (.sc (.int _ _)) rfl) ?_
  refine s_nil ?_
  refine H6 _ _ ?_
  clear H6 K6
  refine AW_k fun K7 H7 => ?_
  refine AW_loopG (n := 49) hm (σ := Int × Int) (τ := Unit) (fun g s => HOk h [(some k2, .obj 61 (c_id p1))]) (fun g s => kp (kp (kp (kp (kp (kp (k0) 10 (.sc (.int .i64 s.2))) 9 (.sc (.int .i64 s.1))) 8 (.sc (.int .i64 (p0.length : Int)))) 4 (.ptr k2 0)) 2 (.fn (.func p2F) p2C)) 0 (.sl none 35 (List.map c_Chunk p0))) (fun g s => hp h [(some k2, .obj 61 (c_id p1))]) () hk3 (LeF.fm (Sub.refl _) (.cons (ALe.refl _ _) (.cons (ALe.refl _ _) (.cons (ALe.refl _ _) (.cons (ALe.refl _ _) (.cons (ALe.refl _ _) (.cons (ALe.refl _ _) (.nil)))))))) ?_ ?_
  · rintro _ ⟨q38, q39⟩ x hk40 hm
    replace hm : M142_L0 fuel p0 p1 p2 q38 q39 = some x := hm
    unfold M142_L0 at hm
    refine AW_k fun K41 H41 => ?_
    refine AW_k fun K42 H42 => ?_
    refine AW_reg ?_
    refine s_v (o_mv (.sc (.int _ _)) rfl) ?_
    refine s_v (o_mv (.sc (.int _ _)) rfl) ?_
    refine s_v (o_bi rfl rfl rfl trivial) ?_
    refine s_nil ?_
    refine H42 _ _ ?_
    clear H42 K42
    refine AW_if' rfl (fun hc43 => ?_) (fun hc43 => ?_)
    · replace hm := ite_t hm hc43
      refine AW_skip ?_
      refine H41 _ _ ?_
      clear H41 K41
      refine AW_block ?_
      refine AW_k fun K44 H44 => ?_
      refine AW_reg ?_
      refine s_v (o_mv (.sc (.int _ _)) rfl) ?_
      refine s_v (o_mv (.sc (.int _ _)) rfl) ?_
      refine s_v (o_bi rfl rfl rfl trivial) ?_
      refine s_v (o_cv ti3 ti46 rfl) ?_
      refine s_v (o_sh rfl rfl rfl (by decide)) ?_
      refine s_v (o_cv ti46 ti3 rfl) ?_
      refine s_v (o_as (.sc (.int _ _)) rfl) ?_
      refine s_nil ?_
      refine H44 _ _ ?_
      clear H44 K44
      refine AW_k fun K45 H45 => ?_
      refine AW_region_q [(some 24, [2], []), (some 25, [0], []), (some 26, [11], []), (some 27, [25, 26], [1, 2]), (some 28, [27], [3]), (some 29, [4], []), (some 30, [24, 28, 29], [0, 4, 5]), (some 31, [30], [6])] mixed (by kernel_rfl) (by kernel_rfl) ?_
      refine q_v (o_mv (.fn _ _) rfl) ?_
      refine q_v (o_mv (.sl _ _ _) rfl) ?_
      refine q_v (o_mv (.sc (.int _ _)) rfl) ?_
      obtain ⟨x46, hx47, hm⟩ := bind_of hm
      refine q_v (o_ix hx47 el23 rfl rfl) ?_
      refine q_v (o_ld (.agg (c_Chunk x46)) ld63 rfl rfl) ?_
      refine q_v (o_ldp (.agg (c_id p1)) ld61 rfl (hp_get 0 hk40 rfl) rfl) ?_
      obtain ⟨y48, hy49, hm⟩ := bind_of hm
      refine q_v (o_call (p2H _ _ _ _ (hp_sub (List.nil_sublist _) hk40).1 hy49) rfl p2B rfl) ?_
      refine q_v (o_bi rfl rfl rfl trivial) ?_
      refine q_nil ?_
      refine H45 _ _ ?_
      clear H45 K45
      refine AW_joinG (n := 49) hm (σ := Int × Int) (τ := Unit) (fun g s => HOk h [(some k2, .obj 61 (c_id p1))]) (fun g s => kp (kp (kp (kp (kp (kp (k0) 10 (.sc (.int .i64 s.2))) 9 (.sc (.int .i64 s.1))) 8 (.sc (.int .i64 (p0.length : Int)))) 4 (.ptr k2 0)) 2 (.fn (.func p2F) p2C)) 0 (.sl none 35 (List.map c_Chunk p0))) (fun g s => hp h [(some k2, .obj 61 (c_id p1))]) (fun x hm => ?_) ?_
      · refine AW_if' rfl (fun hc53 => ?_) (fun hc53 => ?_)
        · replace hm := ite_t hm hc53
          refine AW_reg ?_
          refine s_v (o_mv (.sc (.int _ _)) rfl) ?_
          refine s_v (o_bi rfl rfl rfl trivial) ?_
          refine s_v (o_as (.sc (.int _ _)) rfl) ?_
          refine s_nil ?_
          cases hm
          exact ⟨rfl, (), hk40, LeF.fm (Sub.refl _) (.cons (ALe.refl _ _) (.cons (ALe.refl _ _) (.cons (ALe.refl _ _) (.cons (ALe.refl _ _) (.cons (ALe.refl _ _) (.cons (ALe.refl _ _) (.nil)))))))⟩
        · replace hm := ite_f hm hc53
          refine AW_reg ?_
          refine s_v (o_mv (.sc (.int _ _)) rfl) ?_
          refine s_v (o_as (.sc (.int _ _)) rfl) ?_
          refine s_nil ?_
          cases hm
          exact ⟨rfl, (), hk40, LeF.fm (Sub.refl _) (.cons (ALe.refl _ _) (.cons (ALe.refl _ _) (.cons (ALe.refl _ _) (.cons (ALe.refl _ _) (.cons (ALe.refl _ _) (.cons (ALe.refl _ _) (.nil)))))))⟩
      · rintro _ ⟨j51, j52⟩ fr' h' hk54 hm le
        cases hm
        exact ⟨rfl, (), hk54, LeF.trans le (LeF.fm (Sub.refl _) (.cons (ALe.refl _ _) (.cons (ALe.refl _ _) (.cons (ALe.refl _ _) (.cons (ALe.refl _ _) (.cons (ALe.refl _ _) (.cons (ALe.refl _ _) (.nil))))))))⟩
    · replace hm := ite_f hm hc43
      refine AW_exit ?_
      refine Seq_exit ?_
      cases hm
      exact ⟨rfl, (), hk40, LeF.fm (Sub.refl _) (.cons (ALe.refl _ _) (.cons (ALe.refl _ _) (.cons (ALe.refl _ _) (.cons (ALe.refl _ _) (.cons (ALe.refl _ _) (.cons (ALe.refl _ _) (.nil)))))))⟩
  · rintro _ ⟨r55, r56⟩ fr' h' hk57 hm le
    refine H7 _ _ (le.aw ?_)
    clear le H7 K7
    refine AW_k fun K58 H58 => ?_
    refine AW_joinG (n := 49) hm (σ := Int × Bool) (τ := Unit) (fun g s => HOk h [(some k2, .obj 61 (c_id p1))]) (fun g s => kp (kp (k0) 7 (.sc (.bool s.2))) 6 (.sc (.int .i64 s.1))) (fun g s => hp h [(some k2, .obj 61 (c_id p1))]) (fun x hm => ?_) ?_
    · refine AW_region_q [(some 35, [9], []), (some 36, [9], []), (some 37, [8], []), (some 38, [36, 37], [1, 2]), (some 39, [38], [3]), (some 40, [2, 39], [4]), (some 41, [0, 39], [4]), (some 42, [9, 39], [4]), (some 43, [41, 42, 39], [6, 7, 4]), (some 44, [43, 39], [8, 4]), (some 45, [4, 39], [4]), (some 46, [40, 44, 45, 39], [5, 9, 10, 4, 4]), (some 47, [46, 39], [11, 4]), (some 48, [39, 47], [4, 12]), (some 6, [35], [0, 11, 0]), (some 7, [48], [13, 14, 0, 1, 2, 3, 4, 5, 6, 7, 8, 9, 10, 11, 12, 13, 14])] mixed (by kernel_rfl) (by kernel_rfl) ?_
      refine q_v (o_mv (.sc (.int _ _)) rfl) ?_
      refine q_v (o_mv (.sc (.int _ _)) rfl) ?_
      refine q_v (o_mv (.sc (.int _ _)) rfl) ?_
      refine q_v (o_bi rfl rfl rfl trivial) ?_
      refine q_v (o_mv (.sc (.bool _)) rfl) ?_
      rcases Bool.eq_false_or_eq_true (decide (r55 < (p0.length : Int))) with hb66 | hb66
      · replace hm := ite_t hm hb66
        refine qg_y rfl rfl hb66 ?_
        refine q_v (o_mv (.fn _ _) rfl) ?_
        refine qg_y rfl rfl hb66 ?_
        refine q_v (o_mv (.sl _ _ _) rfl) ?_
        refine qg_y rfl rfl hb66 ?_
        refine q_v (o_mv (.sc (.int _ _)) rfl) ?_
        refine qg_y rfl rfl hb66 ?_
        obtain ⟨x67, hx68, hm⟩ := bind_of hm
        refine q_v (o_ix hx68 el23 rfl rfl) ?_
        refine qg_y rfl rfl hb66 ?_
        refine q_v (o_ld (.agg (c_Chunk x67)) ld63 rfl rfl) ?_
        refine qg_y rfl rfl hb66 ?_
        refine q_v (o_ldp (.agg (c_id p1)) ld61 rfl (hp_get 0 hk57 rfl) rfl) ?_
        refine qg_y rfl rfl hb66 ?_
        obtain ⟨y69, hy70, hm⟩ := bind_of hm
        refine q_v (o_call (p2H _ _ _ _ (hp_sub (List.nil_sublist _) hk57).1 hy70) rfl p2B rfl) ?_
        refine qg_y rfl rfl hb66 ?_
        refine q_v (o_bi rfl rfl rfl trivial) ?_
        refine q_v (o_pkt (.sc (.bool _)) rfl hb66 rfl) ?_
        refine q_v (o_as (.sc (.int _ _)) rfl) ?_
        refine q_v (o_as (.sc (.bool _)) rfl) ?_
        refine q_nil ?_
        cases hm
        exact ⟨rfl, (), hk57, LeF.fm (Sub.refl _) (.cons (ALe.refl _ _) (.cons (ALe.refl _ _) (.nil)))⟩
      · replace hm := ite_f hm hb66
        refine qg_n rfl rfl hb66 ?_
        refine qg_n rfl rfl hb66 ?_
        refine qg_n rfl rfl hb66 ?_
        refine qg_n rfl rfl hb66 ?_
        refine qg_n rfl rfl hb66 ?_
        refine qg_n rfl rfl hb66 ?_
        refine qg_n rfl rfl hb66 ?_
        refine qg_n rfl rfl hb66 ?_
        refine q_v (o_pkf (.sc (.bool _)) rfl hb66 rfl) ?_
        refine q_v (o_as (.sc (.int _ _)) rfl) ?_
        refine q_v (o_as (.sc (.bool _)) rfl) ?_
        refine q_nil ?_
        cases hm
        exact ⟨rfl, (), hk57, LeF.fm (Sub.refl _) (.cons (ALe.refl _ _) (.cons (ALe.refl _ _) (.nil)))⟩
    · rintro _ ⟨j64, j65⟩ fr' h' hk71 hm le
      refine H58 _ _ (le.aw ?_)
      clear le H58 K58
      refine AW_ret ?_
      cases hm
      exact Ret.of2 (.inl rfl) (rsT _ _ (.sc (.int _ _)) rfl) (rsT _ _ (.sc (.bool _)) rfl) (hp_sub (List.nil_sublist _) hk71).1 (ALe.refl _ _) (ALe.refl _ _) ⟨rfl, rfl⟩
theorem bd142 : bodied Try.prog 142 = true := by kernel_rfl
def M96_L0 (fuel : Nat) (p0 : List TSnap) (p1 : TSnap → Option Bool) (q29 : Int) : Option (Lp (Int) (Int)) :=
  if (decide (q29 < (p0.length : Int))) = true then ((ix p0 q29).bind fun x37 => (p1 x37).bind fun y39 => if y39 = true then (some (.ret q29)) else some (.go (IntKind.wrap .i64 (q29 + 1)))) else some (.brk q29)
def M96 (fuel : Nat) (p0 : List TSnap) (p1 : TSnap → Option Bool) : Option (Int) :=
  after (loopM (fun s => M96_L0 fuel p0 p1 s) fuel 0) fun r43 => some (-1)
set_option maxRecDepth 100000 in
/-- slices.IndexFunc(()cellarer/api.Snap,cellarer/api.Snap) -/
theorem W96 {fuel : Nat} {p0 : List TSnap} {p1 : TSnap → Option Bool} {o : Int} (h : Heap) {p1F : Nat} {p1C : List AV} (p1B : bodied Try.prog p1F = true) (p1H : ∀ x0 o h0, Sub h h0 → p1 x0 = some o → ACalls Try.prog p1F ([.agg (c_Snap x0)] ++ p1C) h0 (fun r h' => r = .sc (.bool o) ∧ h' = h0)) (hm : M96 fuel p0 p1 = some o) :
    ACalls Try.prog 96 [.sl none 4 (List.map c_Snap p0), .fn (.func p1F) p1C] h (fun r h' => r = .sc (.int .i64 o) ∧ h' = h) := by
  refine ACalls_hp 19 [.tmp 4] Try.func96 rfl rfl rfl rfl ?_
  unfold M96 at hm
  refine AW_k fun K1 H1 => ?_
  refine AW_reg ?_
  refine s_v (o_as (.sc (.int _ _)) rfl) ?_
  refine s_nil ?_
  refine H1 _ _ ?_
  clear H1 K1
  refine AW_k fun K2 H2 => ?_
  refine AW_k fun K3 H3 => ?_
  refine AW_reg ?_
  refine s_v (o_mv (.sl _ _ _) rfl) ?_
  refine s_v (o_lenm ln22 rfl) ?_
  refine s_v (o_mv (.sc (.int _ _)) rfl) ?_
  refine s_nil ?_
  refine H3 _ _ ?_
  clear H3 K3
  refine AW_loopG (n := 19) hm (σ := Int) (τ := Unit) (fun g s => HOk h []) (fun g s => kp (kp (kp (kp (k0) 8 (.sc (.int .i64 s))) 7 (.sc (.int .i64 (p0.length : Int)))) 1 (.fn (.func p1F) p1C)) 0 (.sl none 4 (List.map c_Snap p0))) (fun g s => hp h []) () (HOk.nil _) (LeF.fm (Sub.refl _) (.cons (ALe.refl _ _) (.cons (ALe.refl _ _) (.cons (ALe.refl _ _) (.cons (ALe.refl _ _) (.nil)))))) ?_ ?_
  · rintro _ q29 x hk30 hm
    replace hm : M96_L0 fuel p0 p1 q29 = some x := hm
    unfold M96_L0 at hm
    refine AW_k fun K31 H31 => ?_
    refine AW_reg ?_
    refine s_v (o_bi rfl rfl rfl trivial) ?_
    refine s_nil ?_
    refine H31 _ _ ?_
    clear H31 K31
    refine AW_k fun K32 H32 => ?_
    refine AW_if' rfl (fun hc33 => ?_) (fun hc33 => ?_)
    · replace hm := ite_t hm hc33
      refine AW_skip ?_
      refine H32 _ _ ?_
      clear H32 K32
      refine AW_k fun K34 H34 => ?_
      refine AW_block ?_
      refine AW_k fun K35 H35 => ?_
      refine AW_reg ?_
      refine s_v (o_mv (.sc (.int _ _)) rfl) ?_
      refine s_v (o_as (.sc (.int _ _)) rfl) ?_
      refine s_nil ?_
      refine H35 _ _ ?_
      clear H35 K35
      refine AW_k fun K36 H36 => ?_
      refine AW_reg ?_
      refine s_v (o_mv (.fn _ _) rfl) ?_
      refine s_v (o_mv (.sl _ _ _) rfl) ?_
      refine s_v (o_mv (.sc (.int _ _)) rfl) ?_
      obtain ⟨x37, hx38, hm⟩ := bind_of hm
      refine s_v (o_ix hx38 el22 rfl rfl) ?_
      refine s_v (o_ld (.agg (c_Snap x37)) ld60 rfl rfl) ?_
      obtain ⟨y39, hy40, hm⟩ := bind_of hm
      refine s_v (o_call (p1H _ _ _ (hp_sub (List.nil_sublist _) hk30).1 hy40) rfl p1B rfl) ?_
      refine s_nil ?_
      refine H36 _ _ ?_
      clear H36 K36
      refine AW_if' rfl (fun hc41 => ?_) (fun hc41 => ?_)
      · replace hm := ite_t hm hc41
        refine AW_k fun K42 H42 => ?_
        refine AW_reg ?_
        refine s_v (o_mv (.sc (.int _ _)) rfl) ?_
        refine s_v (o_as (.sc (.int _ _)) rfl) ?_
        refine s_nil ?_
        refine H42 _ _ ?_
        clear H42 K42
        refine AW_ret ?_
        cases hm
        refine ⟨⟨nofun, nofun⟩, fun he => ?_⟩
        subst he
        exact Ret.of1 (.inl rfl) (rsT _ _ (.sc (.int _ _)) rfl) (Sub.refl _) (ALe.refl _ _) ⟨rfl, rfl⟩
      · replace hm := ite_f hm hc41
        refine AW_skip ?_
        refine H34 _ _ ?_
        clear H34 K34
        refine AW_reg ?_
        refine s_v (o_bi rfl rfl rfl trivial) ?_
        refine s_v (o_mv (.sc (.int _ _)) rfl) ?_
        refine s_nil ?_
        cases hm
        exact ⟨rfl, (), hk30, LeF.fm (Sub.refl _) (.cons (ALe.refl _ _) (.cons (ALe.refl _ _) (.cons (ALe.refl _ _) (.cons (ALe.refl _ _) (.nil)))))⟩
    · replace hm := ite_f hm hc33
      refine AW_exit ?_
      refine Seq_exit ?_
      cases hm
      exact ⟨rfl, (), hk30, LeF.fm (Sub.refl _) (.cons (ALe.refl _ _) (.cons (ALe.refl _ _) (.cons (ALe.refl _ _) (.cons (ALe.refl _ _) (.nil)))))⟩
  · rintro _ r43 fr' h' hk44 hm le
    refine H2 _ _ (le.aw ?_)
    clear le H2 K2
    refine AW_k fun K45 H45 => ?_
    refine AW_reg ?_
    refine s_v (o_as (.sc (.int _ _)) rfl) ?_
    refine s_nil ?_
    refine H45 _ _ ?_
    clear H45 K45
    refine AW_ret ?_
    cases hm
    exact Ret.of1 (.inl rfl) (rsT _ _ (.sc (.int _ _)) rfl) (Sub.refl _) (ALe.refl _ _) ⟨rfl, rfl⟩
theorem bd96 : bodied Try.prog 96 = true := by kernel_rfl
def M89 (fuel : Nat) (p0 : List TSnap) (p1 : TSnap → Option Bool) : Option (Bool) :=
  (M96 fuel p0 p1).bind fun y3 => some (decide (0 ≤ y3))
set_option maxRecDepth 100000 in
/-- slices.ContainsFunc(()cellarer/api.Snap,cellarer/api.Snap) -/
theorem W89 {fuel : Nat} {p0 : List TSnap} {p1 : TSnap → Option Bool} {o : Bool} (h : Heap) {p1F : Nat} {p1C : List AV} (p1B : bodied Try.prog p1F = true) (p1H : ∀ x0 o h0, Sub h h0 → p1 x0 = some o → ACalls Try.prog p1F ([.agg (c_Snap x0)] ++ p1C) h0 (fun r h' => r = .sc (.bool o) ∧ h' = h0)) (hm : M89 fuel p0 p1 = some o) :
    ACalls Try.prog 89 [.sl none 4 (List.map c_Snap p0), .fn (.func p1F) p1C] h (fun r h' => r = .sc (.bool o) ∧ h' = h) := by
  refine ACalls_hp 9 [.tmp 4] Try.func89 rfl rfl rfl rfl ?_
  unfold M89 at hm
  refine AW_k fun K1 H1 => ?_
  refine AW_reg ?_
  refine s_v (o_as (.sc (.bool _)) rfl) ?_
  refine s_nil ?_
  refine H1 _ _ ?_
  clear H1 K1
  refine AW_k fun K2 H2 => ?_
  refine AW_reg ?_
  refine s_v (o_mv (.sl _ _ _) rfl) ?_
  refine s_v (o_mv (.fn _ _) rfl) ?_
  obtain ⟨y3, hy4, hm⟩ := bind_of hm
  refine s_v (o_call (W96 _ p1B (fun x0 o h0 hs ho => p1H x0 o h0 ((hp_sub (List.nil_sublist _) (HOk.nil _)).1.trans hs) ho) hy4) rfl bd96 rfl) ?_
  refine s_v (o_bi rfl rfl rfl trivial) ?_
  refine s_v (o_as (.sc (.bool _)) rfl) ?_
  refine s_nil ?_
  refine H2 _ _ ?_
  clear H2 K2
  refine AW_ret ?_
  cases hm
  exact Ret.of1 (.inl rfl) (rsT _ _ (.sc (.bool _)) rfl) (Sub.refl _) (ALe.refl _ _) ⟨rfl, rfl⟩
theorem bd89 : bodied Try.prog 89 = true := by kernel_rfl
def M114 (fuel : Nat) (p0 : TSnap) (c0 : TExp) : Option (Bool) :=
  some (p0.Seq == c0.Of)
set_option maxRecDepth 100000 in
/-- cellarer/catalog.exps$1 -/
theorem W114 {fuel : Nat} {p0 : TSnap} {c0 : TExp} {o : Bool} (h : Heap) {c0K : Key} (c0H : h c0K = some (.obj 65 (c_Exp c0))) (hm : M114 fuel p0 c0 = some o) :
    ACalls Try.prog 114 [.agg (c_Snap p0), .ptr c0K 0] h (fun r h' => r = .sc (.bool o) ∧ h' = h) := by
  refine ACalls_hp 9 [.tmp 3] Try.func114 rfl rfl rfl rfl ?_
  unfold M114 at hm
  refine AW_k fun K1 H1 => ?_
  refine AW_reg ?_
  refine s_op (a_box (HOk.nil _) rfl rfl fun k2 hk3 => ?_)
  refine s_v (o_as (.sc (.bool _)) rfl) ?_
  refine s_nil ?_
  refine H1 _ _ ?_
  clear H1 K1
  refine AW_k fun K5 H5 => ?_
  refine AW_reg ?_
  refine s_v (o_flp fd60_0 rfl rfl) ?_
  refine s_v (o_ldp (.sc (.int .i64 p0.Seq)) ld3 rfl (hp_get 0 hk3 rfl) rfl) ?_
  refine s_v (o_flp fd65_1 rfl rfl) ?_
  refine s_v (o_ldp (.sc (.int .i64 c0.Of)) ld3 rfl (hp_base hk3 c0H) rfl) ?_
  refine s_v (o_bi rfl rfl rfl trivial) ?_
  refine s_v (o_as (.sc (.bool _)) rfl) ?_
  refine s_nil ?_
  refine H5 _ _ ?_
  clear H5 K5
  refine AW_ret ?_
  cases hm
  exact Ret.of1 (.inl rfl) (rsT _ _ (.sc (.bool _)) rfl) (hp_sub (List.nil_sublist _) hk3).1 (ALe.refl _ _) ⟨rfl, rfl⟩
theorem bd114 : bodied Try.prog 114 = true := by kernel_rfl
def M72_L0 (fuel : Nat) (p0 : TCatalog) (q128 : Int) : Option (Lp (Int) (Bool)) :=
  if (decide (q128 < (p0.Exps.length : Int))) = true then ((ix p0.Exps q128).bind fun x135 => after ((M68 fuel x135.Seq 0 (IntKind.wrap .i64 (p0.Seq - 1))).bind fun y163 => if (!y163) = true then (some (.brk true)) else if (decide (0 < q128)) = true then ((ix p0.Exps (IntKind.wrap .i64 (q128 - 1))).bind fun x167 => if (decide (x135.Seq ≤ x167.Seq)) = true then (some (.brk true)) else (M68 fuel x135.Of 0 (IntKind.wrap .i64 (x135.Seq - 1))).bind fun y170 => if (!y170) = true then (some (.brk true)) else if ((x135.Locs.length : Int) == 0) = true then (some (.brk true)) else (M112 fuel p0 x135.Locs).bind fun y174 => some (.brk (!y174))) else (M68 fuel x135.Of 0 (IntKind.wrap .i64 (x135.Seq - 1))).bind fun y176 => if (!y176) = true then (some (.brk true)) else if ((x135.Locs.length : Int) == 0) = true then (some (.brk true)) else (M112 fuel p0 x135.Locs).bind fun y180 => some (.brk (!y180)) : Option (Lp (Bool) (Lp (Int) (Bool)))) fun j162 => if j162 = true then (some (.ret false)) else (M89 fuel p0.Snaps (fun x0 => M114 fuel x0 x135)).bind fun y186 => if y186 = true then (some (.ret false)) else some (.go (IntKind.wrap .i64 (q128 + 1)))) else some (.brk q128)
def M72 (fuel : Nat) (p0 : TCatalog) : Option (Bool) :=
  after (loopM (fun s => M72_L0 fuel p0 s) fuel 0) fun r190 => some (decide ((p0.Exps.length : Int) ≤ 200))
set_option maxRecDepth 100000 in
/-- cellarer/catalog.exps -/
theorem W72 {fuel : Nat} {p0 : TCatalog} {o : Bool} (h : Heap) (hm : M72 fuel p0 = some o) :
    ACalls Try.prog 72 [.agg (c_Catalog p0)] h (fun r h' => r = .sc (.bool o) ∧ h' = h) := by
  refine ACalls_hp 67 [.tmp 2] Try.func72 rfl rfl rfl rfl ?_
  unfold M72 at hm
  refine AW_k fun K1 H1 => ?_
  refine AW_reg ?_
  refine s_op (a_box (HOk.nil _) rfl rfl fun k2 hk3 => ?_)
  refine s_v (o_as (.sc (.bool _)) rfl) ?_
  refine s_nil ?_
  refine H1 _ _ ?_
  clear H1 K1
  refine AW_k fun K5 H5 => ?_
  refine AW_k fun K6 H6 => ?_
  refine AW_reg ?_
  refine s_v (o_flp fd27_3 rfl rfl) ?_
  refine s_v (o_ldp (.sl none 3 (List.map c_Exp p0.Exps)) ld24 rfl (hp_get 0 hk3 rfl) rfl) ?_
  refine s_v (o_lenm ln24 rfl) ?_
  refine s_v (o_mv (.sc (.int _ _)) rfl) ?_
  refine s_nil ?_
  refine H6 _ _ ?_
  clear H6 K6
  refine AW_loopG (n := 67) hm (σ := Int) (τ := Unit) (fun g s => HOk h [(some k2, .obj 27 (c_Catalog p0))]) (fun g s => kp (kp (kp (kp (k0) 8 (.sc (.int .i64 s))) 7 (.sc (.int .i64 (p0.Exps.length : Int)))) 6 (.sl none 3 (List.map c_Exp p0.Exps))) 1 (.ptr k2 0)) (fun g s => hp h [(some k2, .obj 27 (c_Catalog p0))]) () hk3 (LeF.fm (Sub.refl _) (.cons (ALe.refl _ _) (.cons (ALe.refl _ _) (.cons (ALe.refl _ _) (.cons (ALe.refl _ _) (.nil)))))) ?_ ?_
  · rintro _ q128 x hk129 hm
    replace hm : M72_L0 fuel p0 q128 = some x := hm
    unfold M72_L0 at hm
    refine AW_k fun K130 H130 => ?_
    refine AW_reg ?_
    refine s_v (o_bi rfl rfl rfl trivial) ?_
    refine s_nil ?_
    refine H130 _ _ ?_
    clear H130 K130
    refine AW_k fun K131 H131 => ?_
    refine AW_if' rfl (fun hc132 => ?_) (fun hc132 => ?_)
    · replace hm := ite_t hm hc132
      refine AW_skip ?_
      refine H131 _ _ ?_
      clear H131 K131
      refine AW_k fun K133 H133 => ?_
      refine AW_block ?_
      refine AW_k fun K134 H134 => ?_
      refine AW_reg ?_
      refine s_v (o_mv (.sc (.int _ _)) rfl) ?_
      obtain ⟨x135, hx136, hm⟩ := bind_of hm
      refine s_v (o_ix hx136 el24 rfl rfl) ?_
      refine s_v (o_ld (.agg (c_Exp x135)) ld65 rfl rfl) ?_
      refine s_op (a_alloc ([.sc (.int .i64 0), .sc (.int .i64 0), .sc (.slice none 0 0)]) hk129 zr65 rfl rfl fun k137 hk138 => ?_)
      refine s_v (o_as (.sc (.int _ _)) rfl) ?_
      refine s_op (a_store 0 (c_Exp x135) hk138 rfl rfl rfl rfl sz65 rfl rfl fun hk140 => ?_)
      refine s_nil ?_
      refine H134 _ _ ?_
      clear H134 K134
      refine AW_k fun K141 H141 => ?_
      refine AW_k fun K142 H142 => ?_
      refine AW_joinG (n := 67) hm (σ := Bool) (τ := Unit) (fun g s => HOk h [(some k137, .obj 65 (c_Exp x135)), (some k2, .obj 27 (c_Catalog p0))]) (fun g s => kp (kp (kp (kp (kp (kp (k0) 57 (.sc (.bool s))) 8 (.sc (.int .i64 q128))) 7 (.sc (.int .i64 (p0.Exps.length : Int)))) 6 (.sl none 3 (List.map c_Exp p0.Exps))) 4 (.ptr k137 0)) 1 (.ptr k2 0)) (fun g s => hp h [(some k137, .obj 65 (c_Exp x135)), (some k2, .obj 27 (c_Catalog p0))]) (fun x hm => ?_) ?_
      · refine AW_region_q [(some 13, [4], []), (some 14, [13], [0]), (some 15, [1], []), (some 16, [15], [2]), (some 17, [16], [3]), (some 18, [14, 17], [1, 4]), (some 19, [18], [5]), (some 20, [19], [6, 5]), (some 21, [3, 20], [7]), (some 22, [21, 20], [8, 7]), (some 23, [22, 20], [9, 7, 7]), (some 24, [1, 23], [10]), (some 25, [24, 23], [11, 10]), (some 26, [3, 23], [10]), (some 27, [26, 23], [13, 10]), (some 28, [25, 27, 23], [12, 14, 10]), (some 29, [28, 23], [15, 10]), (some 30, [29, 23], [16, 10]), (some 31, [4, 23], [10]), (some 32, [31, 23], [18, 10]), (some 33, [30, 32, 23], [17, 19, 10]), (some 34, [23, 33, 20], [10, 20, 7]), (some 35, [20, 34], [7, 21]), (some 36, [35], [22, 10]), (some 37, [4, 36], [23]), (some 38, [37, 36], [24, 23]), (some 39, [4, 36], [23]), (some 40, [39, 36], [26, 23]), (some 41, [40, 36], [27, 23]), (some 42, [38, 41, 36], [25, 28, 23, 23]), (some 43, [42, 36], [29, 23]), (some 44, [36, 43], [23, 30]), (some 45, [44], [31, 29]), (some 46, [4, 45], [32]), (some 47, [46, 45], [33, 32]), (some 48, [47, 45], [34, 32]), (some 49, [48, 45], [35, 32]), (some 50, [45, 49], [32, 36]), (some 51, [50], [37, 32]), (some 52, [1, 51], [38]), (some 53, [4, 51], [38]), (some 54, [53, 51], [40, 38]), (some 55, [52, 54, 51], [39, 41, 38, 38]), (some 56, [55, 51], [42, 38]), (some 57, [51, 56], [38, 43])] mixed (by kernel_rfl) (by kernel_rfl) ?_
        refine q_v (o_flp fd65_0 rfl rfl) ?_
        refine q_v (o_ldp (.sc (.int .i64 x135.Seq)) ld3 rfl (hp_get 0 hk140 rfl) rfl) ?_
        refine q_v (o_flp fd27_0 rfl rfl) ?_
        refine q_v (o_ldp (.sc (.int .i64 p0.Seq)) ld3 rfl (hp_get 1 hk140 rfl) rfl) ?_
        refine q_v (o_bi rfl rfl rfl trivial) ?_
        obtain ⟨y163, hy164, hm⟩ := bind_of hm
        refine q_v (o_call (W68 _ hy164) rfl bd68 rfl) ?_
        refine q_v (o_not rfl) ?_
        refine q_v (o_mv (.sc (.bool _)) rfl) ?_
        rcases Bool.eq_false_or_eq_true (!y163) with hb165 | hb165
        · replace hm := ite_t hm hb165
          refine qg_n rfl rfl hb165 ?_
          refine qg_n rfl rfl hb165 ?_
          refine qg_n rfl rfl hb165 ?_
          refine qg_u rfl rfl ?_
          refine qg_u rfl rfl ?_
          refine qg_u rfl rfl ?_
          refine qg_u rfl rfl ?_
          refine qg_u rfl rfl ?_
          refine qg_u rfl rfl ?_
          refine qg_u rfl rfl ?_
          refine qg_u rfl rfl ?_
          refine qg_u rfl rfl ?_
          refine qg_u rfl rfl ?_
          refine qg_n rfl rfl hb165 ?_
          refine q_v (o_pkt (.sc (.bool _)) rfl hb165 rfl) ?_
          refine q_v (o_mv (.sc (.bool _)) rfl) ?_
          refine qg_n rfl rfl rfl ?_
          refine qg_n rfl rfl rfl ?_
          refine qg_n rfl rfl rfl ?_
          refine qg_n rfl rfl rfl ?_
          refine qg_n rfl rfl rfl ?_
          refine qg_n rfl rfl rfl ?_
          refine qg_n rfl rfl rfl ?_
          refine q_v (o_pkt (.sc (.bool _)) rfl rfl rfl) ?_
          refine q_v (o_mv (.sc (.bool _)) rfl) ?_
          refine qg_n rfl rfl rfl ?_
          refine qg_n rfl rfl rfl ?_
          refine qg_n rfl rfl rfl ?_
          refine qg_n rfl rfl rfl ?_
          refine q_v (o_pkt (.sc (.bool _)) rfl rfl rfl) ?_
          refine q_v (o_mv (.sc (.bool _)) rfl) ?_
          refine qg_n rfl rfl rfl ?_
          refine qg_n rfl rfl rfl ?_
          refine qg_n rfl rfl rfl ?_
          refine qg_n rfl rfl rfl ?_
          refine qg_n rfl rfl rfl ?_
          refine q_v (o_pkt (.sc (.bool _)) rfl rfl rfl) ?_
          refine q_nil ?_
          cases hm
          exact ⟨rfl, (), hk140, LeF.fm (Sub.refl _) (.cons (ALe.refl _ _) (.cons (ALe.refl _ _) (.cons (ALe.refl _ _) (.cons (ALe.refl _ _) (.cons (ALe.refl _ _) (.cons (ALe.refl _ _) (.nil)))))))⟩
        · replace hm := ite_f hm hb165
          refine qg_y rfl rfl hb165 ?_
          refine q_v (o_mv (.sc (.int _ _)) rfl) ?_
          refine qg_y rfl rfl hb165 ?_
          refine q_v (o_bi rfl rfl rfl trivial) ?_
          refine qg_y rfl rfl hb165 ?_
          refine q_v (o_mv (.sc (.bool _)) rfl) ?_
          rcases Bool.eq_false_or_eq_true (decide (0 < q128)) with hb166 | hb166
          · replace hm := ite_t hm hb166
            refine qg_y rfl rfl hb166 ?_
            refine q_v (o_flp fd27_3 rfl rfl) ?_
            refine qg_y rfl rfl hb166 ?_
            refine q_v (o_ldp (.sl none 3 (List.map c_Exp p0.Exps)) ld24 rfl (hp_get 1 hk140 rfl) rfl) ?_
            refine qg_y rfl rfl hb166 ?_
            refine q_v (o_mv (.sc (.int _ _)) rfl) ?_
            refine qg_y rfl rfl hb166 ?_
            refine q_v (o_bi rfl rfl rfl trivial) ?_
            refine qg_y rfl rfl hb166 ?_
            obtain ⟨x167, hx168, hm⟩ := bind_of hm
            refine q_v (o_ix hx168 el24 rfl rfl) ?_
            refine qg_y rfl rfl hb166 ?_
            refine q_v (o_fl fd65_0 rfl rfl) ?_
            refine qg_y rfl rfl hb166 ?_
            refine q_v (o_ld (.sc (.int .i64 x167.Seq)) ld3 rfl rfl) ?_
            refine qg_y rfl rfl hb166 ?_
            refine q_v (o_flp fd65_0 rfl rfl) ?_
            refine qg_y rfl rfl hb166 ?_
            refine q_v (o_ldp (.sc (.int .i64 x135.Seq)) ld3 rfl (hp_get 0 hk140 rfl) rfl) ?_
            refine qg_y rfl rfl hb166 ?_
            refine q_v (o_bi rfl rfl rfl trivial) ?_
            refine qg_y rfl rfl hb165 ?_
            refine q_v (o_pkt (.sc (.bool _)) rfl hb166 rfl) ?_
            refine q_v (o_pkf (.sc (.bool _)) rfl hb165 rfl) ?_
            refine q_v (o_mv (.sc (.bool _)) rfl) ?_
            rcases Bool.eq_false_or_eq_true (decide (x135.Seq ≤ x167.Seq)) with hb169 | hb169
            · replace hm := ite_t hm hb169
              refine qg_n rfl rfl hb169 ?_
              refine qg_n rfl rfl hb169 ?_
              refine qg_n rfl rfl hb169 ?_
              refine qg_n rfl rfl hb169 ?_
              refine qg_n rfl rfl hb169 ?_
              refine qg_n rfl rfl hb169 ?_
              refine qg_n rfl rfl hb169 ?_
              refine q_v (o_pkt (.sc (.bool _)) rfl hb169 rfl) ?_
              refine q_v (o_mv (.sc (.bool _)) rfl) ?_
              refine qg_n rfl rfl rfl ?_
              refine qg_n rfl rfl rfl ?_
              refine qg_n rfl rfl rfl ?_
              refine qg_n rfl rfl rfl ?_
              refine q_v (o_pkt (.sc (.bool _)) rfl rfl rfl) ?_
              refine q_v (o_mv (.sc (.bool _)) rfl) ?_
              refine qg_n rfl rfl rfl ?_
              refine qg_n rfl rfl rfl ?_
              refine qg_n rfl rfl rfl ?_
              refine qg_n rfl rfl rfl ?_
              refine qg_n rfl rfl rfl ?_
              refine q_v (o_pkt (.sc (.bool _)) rfl rfl rfl) ?_
              refine q_nil ?_
              cases hm
              exact ⟨rfl, (), hk140, LeF.fm (Sub.refl _) (.cons (ALe.refl _ _) (.cons (ALe.refl _ _) (.cons (ALe.refl _ _) (.cons (ALe.refl _ _) (.cons (ALe.refl _ _) (.cons (ALe.refl _ _) (.nil)))))))⟩
            · replace hm := ite_f hm hb169
              refine qg_y rfl rfl hb169 ?_
              refine q_v (o_flp fd65_1 rfl rfl) ?_
              refine qg_y rfl rfl hb169 ?_
              refine q_v (o_ldp (.sc (.int .i64 x135.Of)) ld3 rfl (hp_get 0 hk140 rfl) rfl) ?_
              refine qg_y rfl rfl hb169 ?_
              refine q_v (o_flp fd65_0 rfl rfl) ?_
              refine qg_y rfl rfl hb169 ?_
              refine q_v (o_ldp (.sc (.int .i64 x135.Seq)) ld3 rfl (hp_get 0 hk140 rfl) rfl) ?_
              refine qg_y rfl rfl hb169 ?_
              refine q_v (o_bi rfl rfl rfl trivial) ?_
              refine qg_y rfl rfl hb169 ?_
              obtain ⟨y170, hy171, hm⟩ := bind_of hm
              refine q_v (o_call (W68 _ hy171) rfl bd68 rfl) ?_
              refine qg_y rfl rfl hb169 ?_
              refine q_v (o_not rfl) ?_
              refine q_v (o_pkf (.sc (.bool _)) rfl hb169 rfl) ?_
              refine q_v (o_mv (.sc (.bool _)) rfl) ?_
              rcases Bool.eq_false_or_eq_true (!y170) with hb172 | hb172
              · replace hm := ite_t hm hb172
                refine qg_n rfl rfl hb172 ?_
                refine qg_n rfl rfl hb172 ?_
                refine qg_n rfl rfl hb172 ?_
                refine qg_n rfl rfl hb172 ?_
                refine q_v (o_pkt (.sc (.bool _)) rfl hb172 rfl) ?_
                refine q_v (o_mv (.sc (.bool _)) rfl) ?_
                refine qg_n rfl rfl rfl ?_
                refine qg_n rfl rfl rfl ?_
                refine qg_n rfl rfl rfl ?_
                refine qg_n rfl rfl rfl ?_
                refine qg_n rfl rfl rfl ?_
                refine q_v (o_pkt (.sc (.bool _)) rfl rfl rfl) ?_
                refine q_nil ?_
                cases hm
                exact ⟨rfl, (), hk140, LeF.fm (Sub.refl _) (.cons (ALe.refl _ _) (.cons (ALe.refl _ _) (.cons (ALe.refl _ _) (.cons (ALe.refl _ _) (.cons (ALe.refl _ _) (.cons (ALe.refl _ _) (.nil)))))))⟩
              · replace hm := ite_f hm hb172
                refine qg_y rfl rfl hb172 ?_
                refine q_v (o_flp fd65_2 rfl rfl) ?_
                refine qg_y rfl rfl hb172 ?_
                refine q_v (o_ldp (.sl none 4 (List.map c_Loc x135.Locs)) ld58 rfl (hp_get 0 hk140 rfl) rfl) ?_
                refine qg_y rfl rfl hb172 ?_
                refine q_v (o_lenm ln58 rfl) ?_
                refine qg_y rfl rfl hb172 ?_
                refine q_v (o_bi rfl rfl rfl trivial) ?_
                refine q_v (o_pkf (.sc (.bool _)) rfl hb172 rfl) ?_
                refine q_v (o_mv (.sc (.bool _)) rfl) ?_
                rcases Bool.eq_false_or_eq_true ((x135.Locs.length : Int) == 0) with hb173 | hb173
                · replace hm := ite_t hm hb173
                  refine qg_n rfl rfl hb173 ?_
                  refine qg_n rfl rfl hb173 ?_
                  refine qg_n rfl rfl hb173 ?_
                  refine qg_n rfl rfl hb173 ?_
                  refine qg_n rfl rfl hb173 ?_
                  refine q_v (o_pkt (.sc (.bool _)) rfl hb173 rfl) ?_
                  refine q_nil ?_
                  cases hm
                  exact ⟨rfl, (), hk140, LeF.fm (Sub.refl _) (.cons (ALe.refl _ _) (.cons (ALe.refl _ _) (.cons (ALe.refl _ _) (.cons (ALe.refl _ _) (.cons (ALe.refl _ _) (.cons (ALe.refl _ _) (.nil)))))))⟩
                · replace hm := ite_f hm hb173
                  refine qg_y rfl rfl hb173 ?_
                  refine q_v (o_ldp (.agg (c_Catalog p0)) ld27 rfl (hp_get 1 hk140 rfl) rfl) ?_
                  refine qg_y rfl rfl hb173 ?_
                  refine q_v (o_flp fd65_2 rfl rfl) ?_
                  refine qg_y rfl rfl hb173 ?_
                  refine q_v (o_ldp (.sl none 4 (List.map c_Loc x135.Locs)) ld58 rfl (hp_get 0 hk140 rfl) rfl) ?_
                  refine qg_y rfl rfl hb173 ?_
                  obtain ⟨y174, hy175, hm⟩ := bind_of hm
                  refine q_v (o_call (W112 _ hy175) rfl bd112 rfl) ?_
                  refine qg_y rfl rfl hb173 ?_
                  refine q_v (o_not rfl) ?_
                  refine q_v (o_pkf (.sc (.bool _)) rfl hb173 rfl) ?_
                  refine q_nil ?_
                  cases hm
                  exact ⟨rfl, (), hk140, LeF.fm (Sub.refl _) (.cons (ALe.refl _ _) (.cons (ALe.refl _ _) (.cons (ALe.refl _ _) (.cons (ALe.refl _ _) (.cons (ALe.refl _ _) (.cons (ALe.refl _ _) (.nil)))))))⟩
          · replace hm := ite_f hm hb166
            refine qg_n rfl rfl hb166 ?_
            refine qg_n rfl rfl hb166 ?_
            refine qg_n rfl rfl hb166 ?_
            refine qg_n rfl rfl hb166 ?_
            refine qg_n rfl rfl hb166 ?_
            refine qg_n rfl rfl hb166 ?_
            refine qg_n rfl rfl hb166 ?_
            refine qg_n rfl rfl hb166 ?_
            refine qg_n rfl rfl hb166 ?_
            refine qg_n rfl rfl hb166 ?_
            refine qg_y rfl rfl hb165 ?_
            refine q_v (o_pkf (.sc (.bool _)) rfl hb166 rfl) ?_
            refine q_v (o_pkf (.sc (.bool _)) rfl hb165 rfl) ?_
            refine q_v (o_mv (.sc (.bool _)) rfl) ?_
            refine qg_y rfl rfl rfl ?_
            refine q_v (o_flp fd65_1 rfl rfl) ?_
            refine qg_y rfl rfl rfl ?_
            refine q_v (o_ldp (.sc (.int .i64 x135.Of)) ld3 rfl (hp_get 0 hk140 rfl) rfl) ?_
            refine qg_y rfl rfl rfl ?_
            refine q_v (o_flp fd65_0 rfl rfl) ?_
            refine qg_y rfl rfl rfl ?_
            refine q_v (o_ldp (.sc (.int .i64 x135.Seq)) ld3 rfl (hp_get 0 hk140 rfl) rfl) ?_
            refine qg_y rfl rfl rfl ?_
            refine q_v (o_bi rfl rfl rfl trivial) ?_
            refine qg_y rfl rfl rfl ?_
            obtain ⟨y176, hy177, hm⟩ := bind_of hm
            refine q_v (o_call (W68 _ hy177) rfl bd68 rfl) ?_
            refine qg_y rfl rfl rfl ?_
            refine q_v (o_not rfl) ?_
            refine q_v (o_pkf (.sc (.bool _)) rfl rfl rfl) ?_
            refine q_v (o_mv (.sc (.bool _)) rfl) ?_
            rcases Bool.eq_false_or_eq_true (!y176) with hb178 | hb178
            · replace hm := ite_t hm hb178
              refine qg_n rfl rfl hb178 ?_
              refine qg_n rfl rfl hb178 ?_
              refine qg_n rfl rfl hb178 ?_
              refine qg_n rfl rfl hb178 ?_
              refine q_v (o_pkt (.sc (.bool _)) rfl hb178 rfl) ?_
              refine q_v (o_mv (.sc (.bool _)) rfl) ?_
              refine qg_n rfl rfl rfl ?_
              refine qg_n rfl rfl rfl ?_
              refine qg_n rfl rfl rfl ?_
              refine qg_n rfl rfl rfl ?_
              refine qg_n rfl rfl rfl ?_
              refine q_v (o_pkt (.sc (.bool _)) rfl rfl rfl) ?_
              refine q_nil ?_
              cases hm
              exact ⟨rfl, (), hk140, LeF.fm (Sub.refl _) (.cons (ALe.refl _ _) (.cons (ALe.refl _ _) (.cons (ALe.refl _ _) (.cons (ALe.refl _ _) (.cons (ALe.refl _ _) (.cons (ALe.refl _ _) (.nil)))))))⟩
            · replace hm := ite_f hm hb178
              refine qg_y rfl rfl hb178 ?_
              refine q_v (o_flp fd65_2 rfl rfl) ?_
              refine qg_y rfl rfl hb178 ?_
              refine q_v (o_ldp (.sl none 4 (List.map c_Loc x135.Locs)) ld58 rfl (hp_get 0 hk140 rfl) rfl) ?_
              refine qg_y rfl rfl hb178 ?_
              refine q_v (o_lenm ln58 rfl) ?_
              refine qg_y rfl rfl hb178 ?_
              refine q_v (o_bi rfl rfl rfl trivial) ?_
              refine q_v (o_pkf (.sc (.bool _)) rfl hb178 rfl) ?_
              refine q_v (o_mv (.sc (.bool _)) rfl) ?_
              rcases Bool.eq_false_or_eq_true ((x135.Locs.length : Int) == 0) with hb179 | hb179
              · replace hm := ite_t hm hb179
                refine qg_n rfl rfl hb179 ?_
                refine qg_n rfl rfl hb179 ?_
                refine qg_n rfl rfl hb179 ?_
                refine qg_n rfl rfl hb179 ?_
                refine qg_n rfl rfl hb179 ?_
                refine q_v (o_pkt (.sc (.bool _)) rfl hb179 rfl) ?_
                refine q_nil ?_
                cases hm
                exact ⟨rfl, (), hk140, LeF.fm (Sub.refl _) (.cons (ALe.refl _ _) (.cons (ALe.refl _ _) (.cons (ALe.refl _ _) (.cons (ALe.refl _ _) (.cons (ALe.refl _ _) (.cons (ALe.refl _ _) (.nil)))))))⟩
              · replace hm := ite_f hm hb179
                refine qg_y rfl rfl hb179 ?_
                refine q_v (o_ldp (.agg (c_Catalog p0)) ld27 rfl (hp_get 1 hk140 rfl) rfl) ?_
                refine qg_y rfl rfl hb179 ?_
                refine q_v (o_flp fd65_2 rfl rfl) ?_
                refine qg_y rfl rfl hb179 ?_
                refine q_v (o_ldp (.sl none 4 (List.map c_Loc x135.Locs)) ld58 rfl (hp_get 0 hk140 rfl) rfl) ?_
                refine qg_y rfl rfl hb179 ?_
                obtain ⟨y180, hy181, hm⟩ := bind_of hm
                refine q_v (o_call (W112 _ hy181) rfl bd112 rfl) ?_
                refine qg_y rfl rfl hb179 ?_
                refine q_v (o_not rfl) ?_
                refine q_v (o_pkf (.sc (.bool _)) rfl hb179 rfl) ?_
                refine q_nil ?_
                cases hm
                exact ⟨rfl, (), hk140, LeF.fm (Sub.refl _) (.cons (ALe.refl _ _) (.cons (ALe.refl _ _) (.cons (ALe.refl _ _) (.cons (ALe.refl _ _) (.cons (ALe.refl _ _) (.cons (ALe.refl _ _) (.nil)))))))⟩
      · rintro _ j162 fr' h' hk182 hm le
        refine H142 _ _ (le.aw ?_)
        clear le H142 K142
        refine AW_if' rfl (fun hc183 => ?_) (fun hc183 => ?_)
        · replace hm := ite_t hm hc183
          refine AW_k fun K184 H184 => ?_
          refine AW_reg ?_
          refine s_v (o_as (.sc (.bool _)) rfl) ?_
          refine s_nil ?_
          refine H184 _ _ ?_
          clear H184 K184
          refine AW_ret ?_
          cases hm
          refine ⟨⟨nofun, nofun⟩, fun he => ?_⟩
          subst he
          exact Ret.of1 (.inl rfl) (rsT _ _ (.sc (.bool _)) rfl) (hp_sub (List.nil_sublist _) hk182).1 (ALe.refl _ _) ⟨rfl, rfl⟩
        · replace hm := ite_f hm hc183
          refine AW_skip ?_
          refine H141 _ _ ?_
          clear H141 K141
          refine AW_k fun K185 H185 => ?_
          refine AW_reg ?_
          refine s_v (o_flp fd27_1 rfl rfl) ?_
          refine s_v (o_ldp (.sl none 4 (List.map c_Snap p0.Snaps)) ld22 rfl (hp_get 1 hk182 rfl) rfl) ?_
          refine s_v (o_mf rfl) ?_
          obtain ⟨y186, hy187, hm⟩ := bind_of hm
          refine s_v (o_call (W89 _ bd114 (fun x0 o h0 hs ho => W114 _ (hs _ _ (hp_get 0 hk182 rfl)) ho) hy187) rfl bd89 rfl) ?_
          refine s_nil ?_
          refine H185 _ _ ?_
          clear H185 K185
          refine AW_if' rfl (fun hc188 => ?_) (fun hc188 => ?_)
          · replace hm := ite_t hm hc188
            refine AW_k fun K189 H189 => ?_
            refine AW_reg ?_
            refine s_v (o_as (.sc (.bool _)) rfl) ?_
            refine s_nil ?_
            refine H189 _ _ ?_
            clear H189 K189
            refine AW_ret ?_
            cases hm
            refine ⟨⟨nofun, nofun⟩, fun he => ?_⟩
            subst he
            exact Ret.of1 (.inl rfl) (rsT _ _ (.sc (.bool _)) rfl) (hp_sub (List.nil_sublist _) hk182).1 (ALe.refl _ _) ⟨rfl, rfl⟩
          · replace hm := ite_f hm hc188
            refine AW_skip ?_
            refine H133 _ _ ?_
            clear H133 K133
            refine AW_reg ?_
            refine s_v (o_bi rfl rfl rfl trivial) ?_
            refine s_v (o_mv (.sc (.int _ _)) rfl) ?_
            refine s_nil ?_
            cases hm
            exact ⟨rfl, (), (hp_sub (.cons _ (.refl _)) hk182).2, LeF.fm ((hp_sub (.cons _ (.refl _)) hk182).1) (.cons (ALe.refl _ _) (.cons (ALe.refl _ _) (.cons (ALe.refl _ _) (.cons (ALe.refl _ _) (.nil)))))⟩
    · replace hm := ite_f hm hc132
      refine AW_exit ?_
      refine Seq_exit ?_
      cases hm
      exact ⟨rfl, (), hk129, LeF.fm (Sub.refl _) (.cons (ALe.refl _ _) (.cons (ALe.refl _ _) (.cons (ALe.refl _ _) (.cons (ALe.refl _ _) (.nil)))))⟩
  · rintro _ r190 fr' h' hk191 hm le
    refine H5 _ _ (le.aw ?_)
    clear le H5 K5
    refine AW_k fun K192 H192 => ?_
    refine AW_reg ?_
    refine s_v (o_flp fd27_3 rfl rfl) ?_
    refine s_v (o_ldp (.sl none 3 (List.map c_Exp p0.Exps)) ld24 rfl (hp_get 0 hk191 rfl) rfl) ?_
    refine s_v (o_lenm ln24 rfl) ?_
    refine s_v (o_bi rfl rfl rfl trivial) ?_
    refine s_v (o_as (.sc (.bool _)) rfl) ?_
    refine s_nil ?_
    refine H192 _ _ ?_
    clear H192 K192
    refine AW_ret ?_
    cases hm
    exact Ret.of1 (.inl rfl) (rsT _ _ (.sc (.bool _)) rfl) (hp_sub (List.nil_sublist _) hk191).1 (ALe.refl _ _) ⟨rfl, rfl⟩
theorem bd72 : bodied Try.prog 72 = true := by kernel_rfl
end Go.Proofs.Ytoomgangpjcaoaa
