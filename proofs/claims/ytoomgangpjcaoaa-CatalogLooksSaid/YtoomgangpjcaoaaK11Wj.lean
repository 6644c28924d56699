import Derived.Test.YtoomgangpjcaoaaK11Wa
import Derived.Test.YtoomgangpjcaoaaK11Types
import Derived.Test.YtoomgangpjcaoaaK11Wc
import Derived.Test.YtoomgangpjcaoaaK11We
import Derived.Test.YtoomgangpjcaoaaK11Wf
import Derived.Test.YtoomgangpjcaoaaK11Wg
import Derived.Test.YtoomgangpjcaoaaK11Wi
set_option linter.unusedSimpArgs false
set_option linter.unusedVariables false
namespace Go.Proofs.Ytoomgangpjcaoaa
open Go.Vm
def M11_L4 (fuel : Nat) (p0 : TCatalog) (q870 : Int) (q1156 : Int) (q1248 : Int) : Option (Lp (Int) (Lp (Int) (Lp (Int) (Bool)))) :=
  (ix p0.Snaps q870).bind fun x1252 => (ix x1252.Man.Parts q1156).bind fun x1254 => if (decide (q1248 < (x1254.Ids.length : Int))) = true then ((ix p0.Snaps q870).bind fun x1259 => (ix x1259.Man.Parts q1156).bind fun x1261 => (ix x1261.Ids q1248).bind fun x1263 => (M48 fuel p0 x1263).bind fun y1270 => after (if (decide (y1270 < 0)) = true then (some (.brk true)) else if (decide ((p0.Chunks.length : Int) ≤ y1270)) = true then (some (.brk true)) else (ix p0.Chunks y1270).bind fun x1283 => if (!decide (x1283.Id = x1263)) = true then (some (.brk true)) else (M44 fuel p0 x1263).bind fun y1286 => some (.brk (!y1286)) : Option (Lp (Bool) (Lp (Int) (Lp (Int) (Lp (Int) (Bool)))))) fun j1280 => if j1280 = true then (some (.ret (.ret (.ret false)))) else some (.go (IntKind.wrap .i64 (q1248 + 1)))) else some (.brk q1248)
def M11_L2 (fuel : Nat) (p0 : TCatalog) (q870 : Int) (q1156 : Int) : Option (Lp (Int) (Lp (Int) (Bool))) :=
  (ix p0.Snaps q870).bind fun x1160 => if (decide (q1156 < (x1160.Man.Parts.length : Int))) = true then (after (loopM (fun s => M11_L4 fuel p0 q870 q1156 s) fuel 0) fun r1291 => some (.go (IntKind.wrap .i64 (q1156 + 1)))) else some (.brk q1156)
def M11_L0 (fuel : Nat) (p0 : TCatalog) (q870 : Int) : Option (Lp (Int) (Bool)) :=
  if (decide (q870 < (p0.Snaps.length : Int))) = true then ((ix p0.Snaps q870).bind fun x878 => (M47 fuel p0 x878.Man.Name).bind fun y880 => if (y880 != q870) = true then (some (.ret false)) else after (loopM (fun s => M11_L2 fuel p0 q870 s) fuel 0) fun r1293 => some (.go (IntKind.wrap .i64 (q870 + 1)))) else some (.brk q870)
def M11_L6 (fuel : Nat) (p0 : TCatalog) (q1394 : Int) (q1395 : Int) : Option (Lp (Int × Int) (Bool)) :=
  if (decide (q1395 < (p0.Chunks.length : Int))) = true then (after ((ix p0.Chunks q1395).bind fun x1421 => (M48 fuel p0 x1421.Id).bind fun y1423 => if (y1423 != q1395) = true then (some (.brk true)) else (ix p0.Chunks q1395).bind fun x1426 => if (!x1426.Staged) = true then ((ix p0.Chunks q1395).bind fun x1429 => (M46 fuel p0 x1429.Locs 0).bind fun y1431 => if (!y1431) = true then ((ix p0.Chunks q1395).bind fun x1434 => (M46 fuel p0 x1434.Locs 1).bind fun y1436 => some (.brk (!y1436))) else some (.brk false)) else some (.brk false) : Option (Lp (Bool) (Lp (Int × Int) (Bool)))) fun j1420 => if j1420 = true then (some (.ret false)) else (ix p0.Chunks q1395).bind fun x1441 => some (.go (IntKind.wrap .i64 (q1394 + (x1441.Data.length : Int)), IntKind.wrap .i64 (q1395 + 1)))) else some (.brk (q1394, q1395))
def M11 (fuel : Nat) (p0 : TCatalog) : Option (Bool) :=
  after ((M13 fuel p0).bind fun y13 => if y13 = true then (some (.brk true)) else (M19 fuel p0).bind fun y16 => some (.brk (!y16)) : Option (Lp (Bool) (Bool))) fun j12 => if j12 = true then (some true) else after (loopM (fun s => M11_L0 fuel p0 s) fuel 0) fun r1295 => after (loopM (fun s => M11_L6 fuel p0 s.1 s.2) fuel (0, 0)) fun ⟨r1443, r1444⟩ => after ((M49 fuel p0).bind fun y1458 => if (y1458 == r1443) = true then ((M47 fuel p0 (ByteArray.mk #[63])).bind fun y1461 => (M50 fuel p0 (ByteArray.mk #[63])).bind fun y1463 => if (y1461 == y1463) = true then ((M31 fuel).bind fun y1466 => some (.brk y1466)) else some (.brk false)) else some (.brk false) : Option (Lp (Bool) (Bool))) fun j1457 => some j1457
set_option maxRecDepth 100000 in
/-- cellarer/cellarerlaw18.CatalogLooks -/
theorem W11 {fuel : Nat} {p0 : TCatalog} {o : Bool} (h : Heap) (hm : M11 fuel p0 = some o) :
    ACalls Try.prog 11 [.agg (c_Catalog p0)] h (fun r h' => r = .sc (.bool o) ∧ h' = h) := by
  refine ACalls_hp 176 [.tmp 2] Try.func11 rfl rfl rfl rfl ?_
  unfold M11 at hm
  refine AW_k fun K1 H1 => ?_
  refine AW_reg ?_
  refine s_op (a_box (HOk.nil _) rfl rfl fun k2 hk3 => ?_)
  refine s_v (o_as (.sc (.bool _)) rfl) ?_
  refine s_nil ?_
  refine H1 _ _ ?_
  clear H1 K1
  refine AW_k fun K5 H5 => ?_
  refine AW_k fun K6 H6 => ?_
  refine AW_joinG (n := 176) hm (σ := Bool) (τ := Unit) (fun g s => HOk h [(some k2, .obj 27 (c_Catalog p0))]) (fun g s => kp (kp (k0) 16 (.sc (.bool s))) 1 (.ptr k2 0)) (fun g s => hp h [(some k2, .obj 27 (c_Catalog p0))]) (fun x hm => ?_) ?_
  · refine AW_reg ?_
    refine s_v (o_ldp (.agg (c_Catalog p0)) ld27 rfl (hp_get 0 hk3 rfl) rfl) ?_
    obtain ⟨y13, hy14, hm⟩ := bind_of hm
    refine s_v (o_call (W13 _ hy14) rfl bd13 rfl) ?_
    refine s_v (o_mv (.sc (.bool _)) rfl) ?_
    rcases Bool.eq_false_or_eq_true y13 with hb15 | hb15
    · replace hm := ite_t hm hb15
      refine sg_n rfl rfl hb15 ?_
      refine sg_n rfl rfl hb15 ?_
      refine sg_n rfl rfl hb15 ?_
      refine s_v (o_pkt (.sc (.bool _)) rfl hb15 rfl) ?_
      refine s_nil ?_
      cases hm
      exact ⟨rfl, (), hk3, LeF.fm (Sub.refl _) (.cons (ALe.refl _ _) (.cons (ALe.refl _ _) (.nil)))⟩
    · replace hm := ite_f hm hb15
      refine sg_y rfl rfl hb15 ?_
      refine s_v (o_ldp (.agg (c_Catalog p0)) ld27 rfl (hp_get 0 hk3 rfl) rfl) ?_
      refine sg_y rfl rfl hb15 ?_
      obtain ⟨y16, hy17, hm⟩ := bind_of hm
      refine s_v (o_call (W19 _ hy17) rfl bd19 rfl) ?_
      refine sg_y rfl rfl hb15 ?_
      refine s_v (o_not rfl) ?_
      refine s_v (o_pkf (.sc (.bool _)) rfl hb15 rfl) ?_
      refine s_nil ?_
      cases hm
      exact ⟨rfl, (), hk3, LeF.fm (Sub.refl _) (.cons (ALe.refl _ _) (.cons (ALe.refl _ _) (.nil)))⟩
  · rintro _ j12 fr' h' hk18 hm le
    refine H6 _ _ (le.aw ?_)
    clear le H6 K6
    refine AW_if' rfl (fun hc19 => ?_) (fun hc19 => ?_)
    · replace hm := ite_t hm hc19
      refine AW_k fun K20 H20 => ?_
      refine AW_reg ?_
      refine s_v (o_as (.sc (.bool _)) rfl) ?_
      refine s_nil ?_
      refine H20 _ _ ?_
      clear H20 K20
      refine AW_ret ?_
      cases hm
      exact Ret.of1 (.inl rfl) (rsT _ _ (.sc (.bool _)) rfl) (hp_sub (List.nil_sublist _) hk18).1 (ALe.refl _ _) ⟨rfl, rfl⟩
    · replace hm := ite_f hm hc19
      refine AW_skip ?_
      refine H5 _ _ ?_
      clear H5 K5
      refine AW_k fun K21 H21 => ?_
      refine AW_k fun K22 H22 => ?_
      refine AW_reg ?_
      refine s_v (o_as (.sc (.int _ _)) rfl) ?_
      refine s_nil ?_
      refine H22 _ _ ?_
      clear H22 K22
      refine AW_loopG (n := 176) hm (σ := Int) (τ := Unit) (fun g s => HOk h [(some k2, .obj 27 (c_Catalog p0))]) (fun g s => kp (kp (k0) 3 (.sc (.int .i64 s))) 1 (.ptr k2 0)) (fun g s => hp h [(some k2, .obj 27 (c_Catalog p0))]) () hk18 (LeF.fm (Sub.refl _) (.cons (ALe.refl _ _) (.cons (ALe.refl _ _) (.nil)))) ?_ ?_
      · rintro _ q870 x hk871 hm
        replace hm : M11_L0 fuel p0 q870 = some x := hm
        unfold M11_L0 at hm
        refine AW_k fun K872 H872 => ?_
        refine AW_k fun K873 H873 => ?_
        refine AW_reg ?_
        refine s_v (o_mv (.sc (.int _ _)) rfl) ?_
        refine s_v (o_flp fd27_1 rfl rfl) ?_
        refine s_v (o_ldp (.sl none 4 (List.map c_Snap p0.Snaps)) ld22 rfl (hp_get 0 hk871 rfl) rfl) ?_
        refine s_v (o_lenm ln22 rfl) ?_
        refine s_v (o_bi rfl rfl rfl trivial) ?_
        refine s_nil ?_
        refine H873 _ _ ?_
        clear H873 K873
        refine AW_if' rfl (fun hc874 => ?_) (fun hc874 => ?_)
        · replace hm := ite_t hm hc874
          refine AW_skip ?_
          refine H872 _ _ ?_
          clear H872 K872
          refine AW_k fun K875 H875 => ?_
          refine AW_block ?_
          refine AW_k fun K876 H876 => ?_
          refine AW_k fun K877 H877 => ?_
          refine AW_region_q [(some 24, [1], []), (some 25, [1], []), (some 26, [25], [1]), (some 27, [3], []), (some 28, [26, 27], [2, 3]), (some 29, [28], [4]), (some 30, [29], [5]), (some 31, [30], [6]), (some 32, [24, 31], [0, 7]), (some 33, [3], []), (some 34, [32, 33], [8, 9])] mixed (by kernel_rfl) (by kernel_rfl) ?_
          refine q_v (o_ldp (.agg (c_Catalog p0)) ld27 rfl (hp_get 0 hk871 rfl) rfl) ?_
          refine q_v (o_flp fd27_1 rfl rfl) ?_
          refine q_v (o_ldp (.sl none 4 (List.map c_Snap p0.Snaps)) ld22 rfl (hp_get 0 hk871 rfl) rfl) ?_
          refine q_v (o_mv (.sc (.int _ _)) rfl) ?_
          obtain ⟨x878, hx879, hm⟩ := bind_of hm
          refine q_v (o_ix hx879 el22 rfl rfl) ?_
          refine q_v (o_fl fd60_1 rfl rfl) ?_
          refine q_v (o_fl fd57_0 rfl rfl) ?_
          refine q_v (o_ld (.sc (.string x878.Man.Name)) ld9 rfl rfl) ?_
          obtain ⟨y880, hy881, hm⟩ := bind_of hm
          refine q_v (o_call (W47 _ hy881) rfl bd47 rfl) ?_
          refine q_v (o_mv (.sc (.int _ _)) rfl) ?_
          refine q_v (o_bi rfl rfl rfl trivial) ?_
          refine q_nil ?_
          refine H877 _ _ ?_
          clear H877 K877
          refine AW_if' rfl (fun hc882 => ?_) (fun hc882 => ?_)
          · replace hm := ite_t hm hc882
            refine AW_k fun K883 H883 => ?_
            refine AW_reg ?_
            refine s_v (o_as (.sc (.bool _)) rfl) ?_
            refine s_nil ?_
            refine H883 _ _ ?_
            clear H883 K883
            refine AW_ret ?_
            cases hm
            refine ⟨⟨nofun, nofun⟩, fun he => ?_⟩
            subst he
            exact Ret.of1 (.inl rfl) (rsT _ _ (.sc (.bool _)) rfl) (hp_sub (List.nil_sublist _) hk871).1 (ALe.refl _ _) ⟨rfl, rfl⟩
          · replace hm := ite_f hm hc882
            refine AW_skip ?_
            refine H876 _ _ ?_
            clear H876 K876
            refine AW_k fun K884 H884 => ?_
            refine AW_reg ?_
            refine s_v (o_as (.sc (.int _ _)) rfl) ?_
            refine s_nil ?_
            refine H884 _ _ ?_
            clear H884 K884
            refine AW_loopG (n := 176) hm (σ := Int) (τ := Unit) (fun g s => HOk h [(some k2, .obj 27 (c_Catalog p0))]) (fun g s => kp (kp (kp (k0) 4 (.sc (.int .i64 s))) 3 (.sc (.int .i64 q870))) 1 (.ptr k2 0)) (fun g s => hp h [(some k2, .obj 27 (c_Catalog p0))]) () hk871 (LeF.fm (Sub.refl _) (.cons (ALe.refl _ _) (.cons (ALe.refl _ _) (.cons (ALe.refl _ _) (.nil))))) ?_ ?_
            · rintro _ q1156 x hk1157 hm
              replace hm : M11_L2 fuel p0 q870 q1156 = some x := hm
              unfold M11_L2 at hm
              refine AW_k fun K1158 H1158 => ?_
              refine AW_k fun K1159 H1159 => ?_
              refine AW_reg ?_
              refine s_v (o_mv (.sc (.int _ _)) rfl) ?_
              refine s_v (o_flp fd27_1 rfl rfl) ?_
              refine s_v (o_ldp (.sl none 4 (List.map c_Snap p0.Snaps)) ld22 rfl (hp_get 0 hk1157 rfl) rfl) ?_
              refine s_v (o_mv (.sc (.int _ _)) rfl) ?_
              obtain ⟨x1160, hx1161, hm⟩ := bind_of hm
              refine s_v (o_ix hx1161 el22 rfl rfl) ?_
              refine s_v (o_fl fd60_1 rfl rfl) ?_
              refine s_v (o_fl fd57_1 rfl rfl) ?_
              refine s_v (o_ld (.sl none 3 (List.map c_Part x1160.Man.Parts)) ld55 rfl rfl) ?_
              refine s_v (o_lenm ln55 rfl) ?_
              refine s_v (o_bi rfl rfl rfl trivial) ?_
              refine s_nil ?_
              refine H1159 _ _ ?_
              clear H1159 K1159
              refine AW_if' rfl (fun hc1162 => ?_) (fun hc1162 => ?_)
              · replace hm := ite_t hm hc1162
                refine AW_skip ?_
                refine H1158 _ _ ?_
                clear H1158 K1158
                refine AW_k fun K1163 H1163 => ?_
                refine AW_block ?_
                refine AW_k fun K1164 H1164 => ?_
                refine AW_reg ?_
                refine s_v (o_as (.sc (.int _ _)) rfl) ?_
                refine s_nil ?_
                refine H1164 _ _ ?_
                clear H1164 K1164
                refine AW_loopG (n := 176) hm (σ := Int) (τ := Unit) (fun g s => HOk h [(some k2, .obj 27 (c_Catalog p0))]) (fun g s => kp (kp (kp (kp (k0) 5 (.sc (.int .i64 s))) 4 (.sc (.int .i64 q1156))) 3 (.sc (.int .i64 q870))) 1 (.ptr k2 0)) (fun g s => hp h [(some k2, .obj 27 (c_Catalog p0))]) () hk1157 (LeF.fm (Sub.refl _) (.cons (ALe.refl _ _) (.cons (ALe.refl _ _) (.cons (ALe.refl _ _) (.cons (ALe.refl _ _) (.nil)))))) ?_ ?_
                · rintro _ q1248 x hk1249 hm
                  replace hm : M11_L4 fuel p0 q870 q1156 q1248 = some x := hm
                  unfold M11_L4 at hm
                  refine AW_k fun K1250 H1250 => ?_
                  refine AW_k fun K1251 H1251 => ?_
                  refine AW_reg ?_
                  refine s_v (o_mv (.sc (.int _ _)) rfl) ?_
                  refine s_v (o_flp fd27_1 rfl rfl) ?_
                  refine s_v (o_ldp (.sl none 4 (List.map c_Snap p0.Snaps)) ld22 rfl (hp_get 0 hk1249 rfl) rfl) ?_
                  refine s_v (o_mv (.sc (.int _ _)) rfl) ?_
                  obtain ⟨x1252, hx1253, hm⟩ := bind_of hm
                  refine s_v (o_ix hx1253 el22 rfl rfl) ?_
                  refine s_v (o_fl fd60_1 rfl rfl) ?_
                  refine s_v (o_fl fd57_1 rfl rfl) ?_
                  refine s_v (o_ld (.sl none 3 (List.map c_Part x1252.Man.Parts)) ld55 rfl rfl) ?_
                  refine s_v (o_mv (.sc (.int _ _)) rfl) ?_
                  obtain ⟨x1254, hx1255, hm⟩ := bind_of hm
                  refine s_v (o_ix hx1255 el55 rfl rfl) ?_
                  refine s_v (o_fl fd82_2 rfl rfl) ?_
                  refine s_v (o_ld (.sl none 32 (List.map c_id x1254.Ids)) ld80 rfl rfl) ?_
                  refine s_v (o_lenm ln80 rfl) ?_
                  refine s_v (o_bi rfl rfl rfl trivial) ?_
                  refine s_nil ?_
                  refine H1251 _ _ ?_
                  clear H1251 K1251
                  refine AW_if' rfl (fun hc1256 => ?_) (fun hc1256 => ?_)
                  · replace hm := ite_t hm hc1256
                    refine AW_skip ?_
                    refine H1250 _ _ ?_
                    clear H1250 K1250
                    refine AW_k fun K1257 H1257 => ?_
                    refine AW_block ?_
                    refine AW_k fun K1258 H1258 => ?_
                    refine AW_reg ?_
                    refine s_v (o_flp fd27_1 rfl rfl) ?_
                    refine s_v (o_ldp (.sl none 4 (List.map c_Snap p0.Snaps)) ld22 rfl (hp_get 0 hk1249 rfl) rfl) ?_
                    refine s_v (o_mv (.sc (.int _ _)) rfl) ?_
                    obtain ⟨x1259, hx1260, hm⟩ := bind_of hm
                    refine s_v (o_ix hx1260 el22 rfl rfl) ?_
                    refine s_v (o_fl fd60_1 rfl rfl) ?_
                    refine s_v (o_fl fd57_1 rfl rfl) ?_
                    refine s_v (o_ld (.sl none 3 (List.map c_Part x1259.Man.Parts)) ld55 rfl rfl) ?_
                    refine s_v (o_mv (.sc (.int _ _)) rfl) ?_
                    obtain ⟨x1261, hx1262, hm⟩ := bind_of hm
                    refine s_v (o_ix hx1262 el55 rfl rfl) ?_
                    refine s_v (o_fl fd82_2 rfl rfl) ?_
                    refine s_v (o_ld (.sl none 32 (List.map c_id x1261.Ids)) ld80 rfl rfl) ?_
                    refine s_v (o_mv (.sc (.int _ _)) rfl) ?_
                    obtain ⟨x1263, hx1264, hm⟩ := bind_of hm
                    refine s_v (o_ix hx1264 el80 rfl rfl) ?_
                    refine s_v (o_ld (.agg (c_id x1263)) ld61 rfl rfl) ?_
                    refine s_op (a_alloc (c_id idZ) hk1249 zr61 rfl rfl fun k1265 hk1266 => ?_)
                    refine s_op (a_store 0 (c_id x1263) hk1266 rfl rfl rfl rfl sz61 rfl rfl fun hk1268 => ?_)
                    refine s_nil ?_
                    refine H1258 _ _ ?_
                    clear H1258 K1258
                    refine AW_k fun K1269 H1269 => ?_
                    refine AW_reg ?_
                    refine s_v (o_ldp (.agg (c_Catalog p0)) ld27 rfl (hp_get 1 hk1268 rfl) rfl) ?_
                    refine s_v (o_ldp (.agg (c_id x1263)) ld61 rfl (hp_get 0 hk1268 rfl) rfl) ?_
                    obtain ⟨y1270, hy1271, hm⟩ := bind_of hm
                    refine s_v (o_call (W48 _ hy1271) rfl bd48 rfl) ?_
                    refine s_v (o_as (.sc (.int _ _)) rfl) ?_
                    refine s_nil ?_
                    refine H1269 _ _ ?_
                    clear H1269 K1269
                    refine AW_k fun K1272 H1272 => ?_
                    refine AW_joinG (n := 176) hm (σ := Bool) (τ := Unit) (fun g s => HOk h [(some k1265, .obj 61 (c_id x1263)), (some k2, .obj 27 (c_Catalog p0))]) (fun g s => kp (kp (kp (kp (kp (k0) 104 (.sc (.bool s))) 5 (.sc (.int .i64 q1248))) 4 (.sc (.int .i64 q1156))) 3 (.sc (.int .i64 q870))) 1 (.ptr k2 0)) (fun g s => hp h [(some k1265, .obj 61 (c_id x1263)), (some k2, .obj 27 (c_Catalog p0))]) (fun x hm => ?_) ?_
                    · refine AW_region_q [(some 80, [7], []), (some 81, [80], [0]), (some 82, [81], [1]), (some 83, [7, 82], [2]), (some 84, [1, 82], [2]), (some 85, [84, 82], [4, 2]), (some 86, [85, 82], [5, 2]), (some 87, [83, 86, 82], [3, 6, 2]), (some 88, [82, 87], [2, 7]), (some 89, [88], [8, 2]), (some 90, [1, 89], [9]), (some 91, [90, 89], [10, 9]), (some 92, [7, 89], [9]), (some 93, [91, 92, 89], [11, 12, 9]), (some 94, [93, 89], [13, 9]), (some 95, [94, 89], [14, 9]), (some 96, [6, 89], [9]), (some 97, [95, 96, 89], [15, 16, 9]), (some 98, [89, 97], [9, 17]), (some 99, [98], [18, 9]), (some 100, [1, 99], [19]), (some 101, [6, 99], [19]), (some 102, [100, 101, 99], [20, 21, 19, 19]), (some 103, [102, 99], [22, 19]), (some 104, [99, 103], [19, 23])] mixed (by kernel_rfl) (by kernel_rfl) ?_
                      refine q_v (o_mv (.sc (.int _ _)) rfl) ?_
                      refine q_v (o_bi rfl rfl rfl trivial) ?_
                      refine q_v (o_mv (.sc (.bool _)) rfl) ?_
                      rcases Bool.eq_false_or_eq_true (decide (y1270 < 0)) with hb1281 | hb1281
                      · replace hm := ite_t hm hb1281
                        refine qg_n rfl rfl hb1281 ?_
                        refine qg_n rfl rfl hb1281 ?_
                        refine qg_n rfl rfl hb1281 ?_
                        refine qg_n rfl rfl hb1281 ?_
                        refine qg_n rfl rfl hb1281 ?_
                        refine q_v (o_pkt (.sc (.bool _)) rfl hb1281 rfl) ?_
                        refine q_v (o_mv (.sc (.bool _)) rfl) ?_
                        refine qg_n rfl rfl rfl ?_
                        refine qg_n rfl rfl rfl ?_
                        refine qg_n rfl rfl rfl ?_
                        refine qg_n rfl rfl rfl ?_
                        refine qg_n rfl rfl rfl ?_
                        refine qg_n rfl rfl rfl ?_
                        refine qg_n rfl rfl rfl ?_
                        refine qg_n rfl rfl rfl ?_
                        refine q_v (o_pkt (.sc (.bool _)) rfl rfl rfl) ?_
                        refine q_v (o_mv (.sc (.bool _)) rfl) ?_
                        refine qg_n rfl rfl rfl ?_
                        refine qg_n rfl rfl rfl ?_
                        refine qg_n rfl rfl rfl ?_
                        refine qg_n rfl rfl rfl ?_
                        refine q_v (o_pkt (.sc (.bool _)) rfl rfl rfl) ?_
                        refine q_nil ?_
                        cases hm
                        exact ⟨rfl, (), hk1268, LeF.fm (Sub.refl _) (.cons (ALe.refl _ _) (.cons (ALe.refl _ _) (.cons (ALe.refl _ _) (.cons (ALe.refl _ _) (.cons (ALe.refl _ _) (.nil))))))⟩
                      · replace hm := ite_f hm hb1281
                        refine qg_y rfl rfl hb1281 ?_
                        refine q_v (o_mv (.sc (.int _ _)) rfl) ?_
                        refine qg_y rfl rfl hb1281 ?_
                        refine q_v (o_flp fd27_2 rfl rfl) ?_
                        refine qg_y rfl rfl hb1281 ?_
                        refine q_v (o_ldp (.sl none 35 (List.map c_Chunk p0.Chunks)) ld23 rfl (hp_get 1 hk1268 rfl) rfl) ?_
                        refine qg_y rfl rfl hb1281 ?_
                        refine q_v (o_lenm ln23 rfl) ?_
                        refine qg_y rfl rfl hb1281 ?_
                        refine q_v (o_bi rfl rfl rfl trivial) ?_
                        refine q_v (o_pkf (.sc (.bool _)) rfl hb1281 rfl) ?_
                        refine q_v (o_mv (.sc (.bool _)) rfl) ?_
                        rcases Bool.eq_false_or_eq_true (decide ((p0.Chunks.length : Int) ≤ y1270)) with hb1282 | hb1282
                        · replace hm := ite_t hm hb1282
                          refine qg_n rfl rfl hb1282 ?_
                          refine qg_n rfl rfl hb1282 ?_
                          refine qg_n rfl rfl hb1282 ?_
                          refine qg_n rfl rfl hb1282 ?_
                          refine qg_n rfl rfl hb1282 ?_
                          refine qg_n rfl rfl hb1282 ?_
                          refine qg_n rfl rfl hb1282 ?_
                          refine qg_n rfl rfl hb1282 ?_
                          refine q_v (o_pkt (.sc (.bool _)) rfl hb1282 rfl) ?_
                          refine q_v (o_mv (.sc (.bool _)) rfl) ?_
                          refine qg_n rfl rfl rfl ?_
                          refine qg_n rfl rfl rfl ?_
                          refine qg_n rfl rfl rfl ?_
                          refine qg_n rfl rfl rfl ?_
                          refine q_v (o_pkt (.sc (.bool _)) rfl rfl rfl) ?_
                          refine q_nil ?_
                          cases hm
                          exact ⟨rfl, (), hk1268, LeF.fm (Sub.refl _) (.cons (ALe.refl _ _) (.cons (ALe.refl _ _) (.cons (ALe.refl _ _) (.cons (ALe.refl _ _) (.cons (ALe.refl _ _) (.nil))))))⟩
                        · replace hm := ite_f hm hb1282
                          refine qg_y rfl rfl hb1282 ?_
                          refine q_v (o_flp fd27_2 rfl rfl) ?_
                          refine qg_y rfl rfl hb1282 ?_
                          refine q_v (o_ldp (.sl none 35 (List.map c_Chunk p0.Chunks)) ld23 rfl (hp_get 1 hk1268 rfl) rfl) ?_
                          refine qg_y rfl rfl hb1282 ?_
                          refine q_v (o_mv (.sc (.int _ _)) rfl) ?_
                          refine qg_y rfl rfl hb1282 ?_
                          obtain ⟨x1283, hx1284, hm⟩ := bind_of hm
                          refine q_v (o_ix hx1284 el23 rfl rfl) ?_
                          refine qg_y rfl rfl hb1282 ?_
                          refine q_v (o_fl fd63_0 rfl rfl) ?_
                          refine qg_y rfl rfl hb1282 ?_
                          refine q_v (o_ld (.agg (c_id x1283.Id)) ld61 rfl rfl) ?_
                          refine qg_y rfl rfl hb1282 ?_
                          refine q_v (o_ldp (.agg (c_id x1263)) ld61 rfl (hp_get 0 hk1268 rfl) rfl) ?_
                          refine qg_y rfl rfl hb1282 ?_
                          refine q_v (o_idn eg61 u61 u5 ld5 rfl rfl) ?_
                          refine q_v (o_pkf (.sc (.bool _)) rfl hb1282 rfl) ?_
                          refine q_v (o_mv (.sc (.bool _)) rfl) ?_
                          rcases Bool.eq_false_or_eq_true (!decide (x1283.Id = x1263)) with hb1285 | hb1285
                          · replace hm := ite_t hm hb1285
                            refine qg_n rfl rfl hb1285 ?_
                            refine qg_n rfl rfl hb1285 ?_
                            refine qg_n rfl rfl hb1285 ?_
                            refine qg_n rfl rfl hb1285 ?_
                            refine q_v (o_pkt (.sc (.bool _)) rfl hb1285 rfl) ?_
                            refine q_nil ?_
                            cases hm
                            exact ⟨rfl, (), hk1268, LeF.fm (Sub.refl _) (.cons (ALe.refl _ _) (.cons (ALe.refl _ _) (.cons (ALe.refl _ _) (.cons (ALe.refl _ _) (.cons (ALe.refl _ _) (.nil))))))⟩
                          · replace hm := ite_f hm hb1285
                            refine qg_y rfl rfl hb1285 ?_
                            refine q_v (o_ldp (.agg (c_Catalog p0)) ld27 rfl (hp_get 1 hk1268 rfl) rfl) ?_
                            refine qg_y rfl rfl hb1285 ?_
                            refine q_v (o_ldp (.agg (c_id x1263)) ld61 rfl (hp_get 0 hk1268 rfl) rfl) ?_
                            refine qg_y rfl rfl hb1285 ?_
                            obtain ⟨y1286, hy1287, hm⟩ := bind_of hm
                            refine q_v (o_call (W44 _ hy1287) rfl bd44 rfl) ?_
                            refine qg_y rfl rfl hb1285 ?_
                            refine q_v (o_not rfl) ?_
                            refine q_v (o_pkf (.sc (.bool _)) rfl hb1285 rfl) ?_
                            refine q_nil ?_
                            cases hm
                            exact ⟨rfl, (), hk1268, LeF.fm (Sub.refl _) (.cons (ALe.refl _ _) (.cons (ALe.refl _ _) (.cons (ALe.refl _ _) (.cons (ALe.refl _ _) (.cons (ALe.refl _ _) (.nil))))))⟩
                    · rintro _ j1280 fr' h' hk1288 hm le
                      refine H1272 _ _ (le.aw ?_)
                      clear le H1272 K1272
                      refine AW_if' rfl (fun hc1289 => ?_) (fun hc1289 => ?_)
                      · replace hm := ite_t hm hc1289
                        refine AW_k fun K1290 H1290 => ?_
                        refine AW_reg ?_
                        refine s_v (o_as (.sc (.bool _)) rfl) ?_
                        refine s_nil ?_
                        refine H1290 _ _ ?_
                        clear H1290 K1290
                        refine AW_ret ?_
                        cases hm
                        refine ⟨⟨nofun, nofun⟩, fun he => ?_⟩
                        subst he
                        refine ⟨⟨nofun, nofun⟩, fun he => ?_⟩
                        subst he
                        refine ⟨⟨nofun, nofun⟩, fun he => ?_⟩
                        subst he
                        exact Ret.of1 (.inl rfl) (rsT _ _ (.sc (.bool _)) rfl) (hp_sub (List.nil_sublist _) hk1288).1 (ALe.refl _ _) ⟨rfl, rfl⟩
                      · replace hm := ite_f hm hc1289
                        refine AW_skip ?_
                        refine H1257 _ _ ?_
                        clear H1257 K1257
                        refine AW_reg ?_
                        refine s_v (o_mv (.sc (.int _ _)) rfl) ?_
                        refine s_v (o_bi rfl rfl rfl trivial) ?_
                        refine s_v (o_as (.sc (.int _ _)) rfl) ?_
                        refine s_nil ?_
                        cases hm
                        exact ⟨rfl, (), (hp_sub (.cons _ (.refl _)) hk1288).2, LeF.fm ((hp_sub (.cons _ (.refl _)) hk1288).1) (.cons (ALe.refl _ _) (.cons (ALe.refl _ _) (.cons (ALe.refl _ _) (.cons (ALe.refl _ _) (.nil)))))⟩
                  · replace hm := ite_f hm hc1256
                    refine AW_exit ?_
                    refine Seq_exit ?_
                    cases hm
                    exact ⟨rfl, (), hk1249, LeF.fm (Sub.refl _) (.cons (ALe.refl _ _) (.cons (ALe.refl _ _) (.cons (ALe.refl _ _) (.cons (ALe.refl _ _) (.nil)))))⟩
                · rintro _ r1291 fr' h' hk1292 hm le
                  refine H1163 _ _ (le.aw ?_)
                  clear le H1163 K1163
                  refine AW_reg ?_
                  refine s_v (o_mv (.sc (.int _ _)) rfl) ?_
                  refine s_v (o_bi rfl rfl rfl trivial) ?_
                  refine s_v (o_as (.sc (.int _ _)) rfl) ?_
                  refine s_nil ?_
                  cases hm
                  exact ⟨rfl, (), hk1292, LeF.fm (Sub.refl _) (.cons (ALe.refl _ _) (.cons (ALe.refl _ _) (.cons (ALe.refl _ _) (.nil))))⟩
              · replace hm := ite_f hm hc1162
                refine AW_exit ?_
                refine Seq_exit ?_
                cases hm
                exact ⟨rfl, (), hk1157, LeF.fm (Sub.refl _) (.cons (ALe.refl _ _) (.cons (ALe.refl _ _) (.cons (ALe.refl _ _) (.nil))))⟩
            · rintro _ r1293 fr' h' hk1294 hm le
              refine H875 _ _ (le.aw ?_)
              clear le H875 K875
              refine AW_reg ?_
              refine s_v (o_mv (.sc (.int _ _)) rfl) ?_
              refine s_v (o_bi rfl rfl rfl trivial) ?_
              refine s_v (o_as (.sc (.int _ _)) rfl) ?_
              refine s_nil ?_
              cases hm
              exact ⟨rfl, (), hk1294, LeF.fm (Sub.refl _) (.cons (ALe.refl _ _) (.cons (ALe.refl _ _) (.nil)))⟩
        · replace hm := ite_f hm hc874
          refine AW_exit ?_
          refine Seq_exit ?_
          cases hm
          exact ⟨rfl, (), hk871, LeF.fm (Sub.refl _) (.cons (ALe.refl _ _) (.cons (ALe.refl _ _) (.nil)))⟩
      · rintro _ r1295 fr' h' hk1296 hm le
        refine H21 _ _ (le.aw ?_)
        clear le H21 K21
        refine AW_k fun K1297 H1297 => ?_
        refine AW_reg ?_
        refine s_v (o_as (.sc (.int _ _)) rfl) ?_
        refine s_nil ?_
        refine H1297 _ _ ?_
        clear H1297 K1297
        refine AW_k fun K1298 H1298 => ?_
        refine AW_k fun K1299 H1299 => ?_
        refine AW_reg ?_
        refine s_v (o_as (.sc (.int _ _)) rfl) ?_
        refine s_nil ?_
        refine H1299 _ _ ?_
        clear H1299 K1299
        refine AW_loopG (n := 176) hm (σ := Int × Int) (τ := Unit) (fun g s => HOk h [(some k2, .obj 27 (c_Catalog p0))]) (fun g s => kp (kp (kp (k0) 9 (.sc (.int .i64 s.2))) 8 (.sc (.int .i64 s.1))) 1 (.ptr k2 0)) (fun g s => hp h [(some k2, .obj 27 (c_Catalog p0))]) () hk1296 (LeF.fm (Sub.refl _) (.cons (ALe.refl _ _) (.cons (ALe.refl _ _) (.cons (ALe.refl _ _) (.nil))))) ?_ ?_
        · rintro _ ⟨q1394, q1395⟩ x hk1396 hm
          replace hm : M11_L6 fuel p0 q1394 q1395 = some x := hm
          unfold M11_L6 at hm
          refine AW_k fun K1397 H1397 => ?_
          refine AW_k fun K1398 H1398 => ?_
          refine AW_reg ?_
          refine s_v (o_mv (.sc (.int _ _)) rfl) ?_
          refine s_v (o_flp fd27_2 rfl rfl) ?_
          refine s_v (o_ldp (.sl none 35 (List.map c_Chunk p0.Chunks)) ld23 rfl (hp_get 0 hk1396 rfl) rfl) ?_
          refine s_v (o_lenm ln23 rfl) ?_
          refine s_v (o_bi rfl rfl rfl trivial) ?_
          refine s_nil ?_
          refine H1398 _ _ ?_
          clear H1398 K1398
          refine AW_if' rfl (fun hc1399 => ?_) (fun hc1399 => ?_)
          · replace hm := ite_t hm hc1399
            refine AW_skip ?_
            refine H1397 _ _ ?_
            clear H1397 K1397
            refine AW_k fun K1400 H1400 => ?_
            refine AW_block ?_
            refine AW_k fun K1401 H1401 => ?_
            refine AW_k fun K1402 H1402 => ?_
            refine AW_joinG (n := 176) hm (σ := Bool) (τ := Unit) (fun g s => HOk h [(some k2, .obj 27 (c_Catalog p0))]) (fun g s => kp (kp (kp (kp (k0) 152 (.sc (.bool s))) 9 (.sc (.int .i64 q1395))) 8 (.sc (.int .i64 q1394))) 1 (.ptr k2 0)) (fun g s => hp h [(some k2, .obj 27 (c_Catalog p0))]) (fun x hm => ?_) ?_
            · refine AW_region_q [(some 112, [1], []), (some 113, [1], []), (some 114, [113], [1]), (some 115, [9], []), (some 116, [114, 115], [2, 3]), (some 117, [116], [4]), (some 118, [117], [5]), (some 119, [112, 118], [0, 6]), (some 120, [9], []), (some 121, [119, 120], [7, 8]), (some 122, [121], [9, 7]), (some 123, [1, 122], [10]), (some 124, [123, 122], [11, 10]), (some 125, [9, 122], [10]), (some 126, [124, 125, 122], [12, 13, 10]), (some 127, [126, 122], [14, 10]), (some 128, [127, 122], [15, 10]), (some 129, [128, 122], [16, 10]), (some 130, [129, 122], [17, 10, 10]), (some 131, [1, 130], [18]), (some 132, [1, 130], [18]), (some 133, [132, 130], [20, 18]), (some 134, [9, 130], [18]), (some 135, [133, 134, 130], [21, 22, 18]), (some 136, [135, 130], [23, 18]), (some 137, [136, 130], [24, 18]), (some 138, [131, 137, 130], [19, 25, 18, 18]), (some 139, [138, 130], [26, 18]), (some 140, [130, 139, 122], [18, 27, 10]), (some 141, [140, 122], [28, 26, 10]), (some 142, [1, 141], [29]), (some 143, [1, 141], [29]), (some 144, [143, 141], [31, 29]), (some 145, [9, 141], [29]), (some 146, [144, 145, 141], [32, 33, 29]), (some 147, [146, 141], [34, 29]), (some 148, [147, 141], [35, 29]), (some 149, [142, 148, 141], [30, 36, 29, 29]), (some 150, [149, 141], [37, 29]), (some 151, [141, 150, 122], [29, 38, 10]), (some 152, [122, 151], [10, 39])] mixed (by kernel_rfl) (by kernel_rfl) ?_
              refine q_v (o_ldp (.agg (c_Catalog p0)) ld27 rfl (hp_get 0 hk1396 rfl) rfl) ?_
              refine q_v (o_flp fd27_2 rfl rfl) ?_
              refine q_v (o_ldp (.sl none 35 (List.map c_Chunk p0.Chunks)) ld23 rfl (hp_get 0 hk1396 rfl) rfl) ?_
              refine q_v (o_mv (.sc (.int _ _)) rfl) ?_
              obtain ⟨x1421, hx1422, hm⟩ := bind_of hm
              refine q_v (o_ix hx1422 el23 rfl rfl) ?_
              refine q_v (o_fl fd63_0 rfl rfl) ?_
              refine q_v (o_ld (.agg (c_id x1421.Id)) ld61 rfl rfl) ?_
              obtain ⟨y1423, hy1424, hm⟩ := bind_of hm
              refine q_v (o_call (W48 _ hy1424) rfl bd48 rfl) ?_
              refine q_v (o_mv (.sc (.int _ _)) rfl) ?_
              refine q_v (o_bi rfl rfl rfl trivial) ?_
              refine q_v (o_mv (.sc (.bool _)) rfl) ?_
              rcases Bool.eq_false_or_eq_true (y1423 != q1395) with hb1425 | hb1425
              · replace hm := ite_t hm hb1425
                refine qg_n rfl rfl hb1425 ?_
                refine qg_n rfl rfl hb1425 ?_
                refine qg_n rfl rfl hb1425 ?_
                refine qg_n rfl rfl hb1425 ?_
                refine qg_n rfl rfl hb1425 ?_
                refine qg_n rfl rfl hb1425 ?_
                refine qg_n rfl rfl hb1425 ?_
                refine qg_n rfl rfl hb1425 ?_
                refine qg_u rfl rfl ?_
                refine qg_u rfl rfl ?_
                refine qg_u rfl rfl ?_
                refine qg_u rfl rfl ?_
                refine qg_u rfl rfl ?_
                refine qg_u rfl rfl ?_
                refine qg_u rfl rfl ?_
                refine qg_u rfl rfl ?_
                refine qg_u rfl rfl ?_
                refine qg_n rfl rfl hb1425 ?_
                refine qg_n rfl rfl hb1425 ?_
                refine qg_u rfl rfl ?_
                refine qg_u rfl rfl ?_
                refine qg_u rfl rfl ?_
                refine qg_u rfl rfl ?_
                refine qg_u rfl rfl ?_
                refine qg_u rfl rfl ?_
                refine qg_u rfl rfl ?_
                refine qg_u rfl rfl ?_
                refine qg_u rfl rfl ?_
                refine qg_n rfl rfl hb1425 ?_
                refine q_v (o_pkt (.sc (.bool _)) rfl hb1425 rfl) ?_
                refine q_nil ?_
                cases hm
                exact ⟨rfl, (), hk1396, LeF.fm (Sub.refl _) (.cons (ALe.refl _ _) (.cons (ALe.refl _ _) (.cons (ALe.refl _ _) (.cons (ALe.refl _ _) (.nil)))))⟩
              · replace hm := ite_f hm hb1425
                refine qg_y rfl rfl hb1425 ?_
                refine q_v (o_flp fd27_2 rfl rfl) ?_
                refine qg_y rfl rfl hb1425 ?_
                refine q_v (o_ldp (.sl none 35 (List.map c_Chunk p0.Chunks)) ld23 rfl (hp_get 0 hk1396 rfl) rfl) ?_
                refine qg_y rfl rfl hb1425 ?_
                refine q_v (o_mv (.sc (.int _ _)) rfl) ?_
                refine qg_y rfl rfl hb1425 ?_
                obtain ⟨x1426, hx1427, hm⟩ := bind_of hm
                refine q_v (o_ix hx1427 el23 rfl rfl) ?_
                refine qg_y rfl rfl hb1425 ?_
                refine q_v (o_fl fd63_1 rfl rfl) ?_
                refine qg_y rfl rfl hb1425 ?_
                refine q_v (o_ld (.sc (.bool x1426.Staged)) ld4 rfl rfl) ?_
                refine qg_y rfl rfl hb1425 ?_
                refine q_v (o_not rfl) ?_
                refine qg_y rfl rfl hb1425 ?_
                refine q_v (o_mv (.sc (.bool _)) rfl) ?_
                rcases Bool.eq_false_or_eq_true (!x1426.Staged) with hb1428 | hb1428
                · replace hm := ite_t hm hb1428
                  refine qg_y rfl rfl hb1428 ?_
                  refine q_v (o_ldp (.agg (c_Catalog p0)) ld27 rfl (hp_get 0 hk1396 rfl) rfl) ?_
                  refine qg_y rfl rfl hb1428 ?_
                  refine q_v (o_flp fd27_2 rfl rfl) ?_
                  refine qg_y rfl rfl hb1428 ?_
                  refine q_v (o_ldp (.sl none 35 (List.map c_Chunk p0.Chunks)) ld23 rfl (hp_get 0 hk1396 rfl) rfl) ?_
                  refine qg_y rfl rfl hb1428 ?_
                  refine q_v (o_mv (.sc (.int _ _)) rfl) ?_
                  refine qg_y rfl rfl hb1428 ?_
                  obtain ⟨x1429, hx1430, hm⟩ := bind_of hm
                  refine q_v (o_ix hx1430 el23 rfl rfl) ?_
                  refine qg_y rfl rfl hb1428 ?_
                  refine q_v (o_fl fd63_3 rfl rfl) ?_
                  refine qg_y rfl rfl hb1428 ?_
                  refine q_v (o_ld (.sl none 4 (List.map c_Loc x1429.Locs)) ld58 rfl rfl) ?_
                  refine qg_y rfl rfl hb1428 ?_
                  obtain ⟨y1431, hy1432, hm⟩ := bind_of hm
                  refine q_v (o_call (W46 _ hy1432) rfl bd46 rfl) ?_
                  refine qg_y rfl rfl hb1428 ?_
                  refine q_v (o_not rfl) ?_
                  refine qg_y rfl rfl hb1425 ?_
                  refine q_v (o_pkt (.sc (.bool _)) rfl hb1428 rfl) ?_
                  refine qg_y rfl rfl hb1425 ?_
                  refine q_v (o_mv (.sc (.bool _)) rfl) ?_
                  rcases Bool.eq_false_or_eq_true (!y1431) with hb1433 | hb1433
                  · replace hm := ite_t hm hb1433
                    refine qg_y rfl rfl hb1433 ?_
                    refine q_v (o_ldp (.agg (c_Catalog p0)) ld27 rfl (hp_get 0 hk1396 rfl) rfl) ?_
                    refine qg_y rfl rfl hb1433 ?_
                    refine q_v (o_flp fd27_2 rfl rfl) ?_
                    refine qg_y rfl rfl hb1433 ?_
                    refine q_v (o_ldp (.sl none 35 (List.map c_Chunk p0.Chunks)) ld23 rfl (hp_get 0 hk1396 rfl) rfl) ?_
                    refine qg_y rfl rfl hb1433 ?_
                    refine q_v (o_mv (.sc (.int _ _)) rfl) ?_
                    refine qg_y rfl rfl hb1433 ?_
                    obtain ⟨x1434, hx1435, hm⟩ := bind_of hm
                    refine q_v (o_ix hx1435 el23 rfl rfl) ?_
                    refine qg_y rfl rfl hb1433 ?_
                    refine q_v (o_fl fd63_3 rfl rfl) ?_
                    refine qg_y rfl rfl hb1433 ?_
                    refine q_v (o_ld (.sl none 4 (List.map c_Loc x1434.Locs)) ld58 rfl rfl) ?_
                    refine qg_y rfl rfl hb1433 ?_
                    obtain ⟨y1436, hy1437, hm⟩ := bind_of hm
                    refine q_v (o_call (W46 _ hy1437) rfl bd46 rfl) ?_
                    refine qg_y rfl rfl hb1433 ?_
                    refine q_v (o_not rfl) ?_
                    refine qg_y rfl rfl hb1425 ?_
                    refine q_v (o_pkt (.sc (.bool _)) rfl hb1433 rfl) ?_
                    refine q_v (o_pkf (.sc (.bool _)) rfl hb1425 rfl) ?_
                    refine q_nil ?_
                    cases hm
                    exact ⟨rfl, (), hk1396, LeF.fm (Sub.refl _) (.cons (ALe.refl _ _) (.cons (ALe.refl _ _) (.cons (ALe.refl _ _) (.cons (ALe.refl _ _) (.nil)))))⟩
                  · replace hm := ite_f hm hb1433
                    refine qg_n rfl rfl hb1433 ?_
                    refine qg_n rfl rfl hb1433 ?_
                    refine qg_n rfl rfl hb1433 ?_
                    refine qg_n rfl rfl hb1433 ?_
                    refine qg_n rfl rfl hb1433 ?_
                    refine qg_n rfl rfl hb1433 ?_
                    refine qg_n rfl rfl hb1433 ?_
                    refine qg_n rfl rfl hb1433 ?_
                    refine qg_n rfl rfl hb1433 ?_
                    refine qg_y rfl rfl hb1425 ?_
                    refine q_v (o_pkf (.sc (.bool _)) rfl hb1433 rfl) ?_
                    refine q_v (o_pkf (.sc (.bool _)) rfl hb1425 rfl) ?_
                    refine q_nil ?_
                    cases hm
                    exact ⟨rfl, (), hk1396, LeF.fm (Sub.refl _) (.cons (ALe.refl _ _) (.cons (ALe.refl _ _) (.cons (ALe.refl _ _) (.cons (ALe.refl _ _) (.nil)))))⟩
                · replace hm := ite_f hm hb1428
                  refine qg_n rfl rfl hb1428 ?_
                  refine qg_n rfl rfl hb1428 ?_
                  refine qg_n rfl rfl hb1428 ?_
                  refine qg_n rfl rfl hb1428 ?_
                  refine qg_n rfl rfl hb1428 ?_
                  refine qg_n rfl rfl hb1428 ?_
                  refine qg_n rfl rfl hb1428 ?_
                  refine qg_n rfl rfl hb1428 ?_
                  refine qg_n rfl rfl hb1428 ?_
                  refine qg_y rfl rfl hb1425 ?_
                  refine q_v (o_pkf (.sc (.bool _)) rfl hb1428 rfl) ?_
                  refine qg_y rfl rfl hb1425 ?_
                  refine q_v (o_mv (.sc (.bool _)) rfl) ?_
                  refine qg_n rfl rfl rfl ?_
                  refine qg_n rfl rfl rfl ?_
                  refine qg_n rfl rfl rfl ?_
                  refine qg_n rfl rfl rfl ?_
                  refine qg_n rfl rfl rfl ?_
                  refine qg_n rfl rfl rfl ?_
                  refine qg_n rfl rfl rfl ?_
                  refine qg_n rfl rfl rfl ?_
                  refine qg_n rfl rfl rfl ?_
                  refine qg_y rfl rfl hb1425 ?_
                  refine q_v (o_pkf (.sc (.bool _)) rfl rfl rfl) ?_
                  refine q_v (o_pkf (.sc (.bool _)) rfl hb1425 rfl) ?_
                  refine q_nil ?_
                  cases hm
                  exact ⟨rfl, (), hk1396, LeF.fm (Sub.refl _) (.cons (ALe.refl _ _) (.cons (ALe.refl _ _) (.cons (ALe.refl _ _) (.cons (ALe.refl _ _) (.nil)))))⟩
            · rintro _ j1420 fr' h' hk1438 hm le
              refine H1402 _ _ (le.aw ?_)
              clear le H1402 K1402
              refine AW_if' rfl (fun hc1439 => ?_) (fun hc1439 => ?_)
              · replace hm := ite_t hm hc1439
                refine AW_k fun K1440 H1440 => ?_
                refine AW_reg ?_
                refine s_v (o_as (.sc (.bool _)) rfl) ?_
                refine s_nil ?_
                refine H1440 _ _ ?_
                clear H1440 K1440
                refine AW_ret ?_
                cases hm
                refine ⟨⟨nofun, nofun⟩, fun he => ?_⟩
                subst he
                exact Ret.of1 (.inl rfl) (rsT _ _ (.sc (.bool _)) rfl) (hp_sub (List.nil_sublist _) hk1438).1 (ALe.refl _ _) ⟨rfl, rfl⟩
              · replace hm := ite_f hm hc1439
                refine AW_skip ?_
                refine H1401 _ _ ?_
                clear H1401 K1401
                refine AW_reg ?_
                refine s_v (o_mv (.sc (.int _ _)) rfl) ?_
                refine s_v (o_flp fd27_2 rfl rfl) ?_
                refine s_v (o_ldp (.sl none 35 (List.map c_Chunk p0.Chunks)) ld23 rfl (hp_get 0 hk1438 rfl) rfl) ?_
                refine s_v (o_mv (.sc (.int _ _)) rfl) ?_
                obtain ⟨x1441, hx1442, hm⟩ := bind_of hm
                refine s_v (o_ix hx1442 el23 rfl rfl) ?_
                refine s_v (o_fl fd63_2 rfl rfl) ?_
                refine s_v (o_ld (.sl none 1 (List.map c_u8 x1441.Data)) ld52 rfl rfl) ?_
                refine s_v (o_lenm ln52 rfl) ?_
                refine s_v (o_bi rfl rfl rfl trivial) ?_
                refine s_v (o_as (.sc (.int _ _)) rfl) ?_
                refine s_nil ?_
                refine H1400 _ _ ?_
                clear H1400 K1400
                refine AW_reg ?_
                refine s_v (o_mv (.sc (.int _ _)) rfl) ?_
                refine s_v (o_bi rfl rfl rfl trivial) ?_
                refine s_v (o_as (.sc (.int _ _)) rfl) ?_
                refine s_nil ?_
                cases hm
                exact ⟨rfl, (), hk1438, LeF.fm (Sub.refl _) (.cons (ALe.refl _ _) (.cons (ALe.refl _ _) (.cons (ALe.refl _ _) (.nil))))⟩
          · replace hm := ite_f hm hc1399
            refine AW_exit ?_
            refine Seq_exit ?_
            cases hm
            exact ⟨rfl, (), hk1396, LeF.fm (Sub.refl _) (.cons (ALe.refl _ _) (.cons (ALe.refl _ _) (.cons (ALe.refl _ _) (.nil))))⟩
        · rintro _ ⟨r1443, r1444⟩ fr' h' hk1445 hm le
          refine H1298 _ _ (le.aw ?_)
          clear le H1298 K1298
          refine AW_k fun K1446 H1446 => ?_
          refine AW_joinG (n := 176) hm (σ := Bool) (τ := Unit) (fun g s => HOk h [(some k2, .obj 27 (c_Catalog p0))]) (fun g s => kp (k0) 2 (.sc (.bool s))) (fun g s => hp h [(some k2, .obj 27 (c_Catalog p0))]) (fun x hm => ?_) ?_
          · refine AW_region_q [(some 162, [1], []), (some 163, [162], [0]), (some 164, [8], []), (some 165, [163, 164], [1, 2]), (some 166, [165], [3, 1]), (some 167, [1, 166], [4]), (some 168, [167, 166], [5, 4, 4]), (some 169, [1, 166], [4]), (some 170, [169, 166], [7, 6, 4]), (some 171, [168, 170, 166], [6, 8, 4]), (some 172, [166, 171], [4, 9]), (some 173, [172], [10, 8]), (some 174, [173], [11, 11]), (some 175, [173, 174], [11, 12]), (some 2, [175], [13, 12, 0, 1, 2, 3, 4, 5, 6, 7, 8, 9, 10, 11, 12, 13])] mixed (by kernel_rfl) (by kernel_rfl) ?_
            refine q_v (o_ldp (.agg (c_Catalog p0)) ld27 rfl (hp_get 0 hk1445 rfl) rfl) ?_
            obtain ⟨y1458, hy1459, hm⟩ := bind_of hm
            refine q_v (o_call (W49 _ hy1459) rfl bd49 rfl) ?_
            refine q_v (o_mv (.sc (.int _ _)) rfl) ?_
            refine q_v (o_bi rfl rfl rfl trivial) ?_
            refine q_v (o_mv (.sc (.bool _)) rfl) ?_
            rcases Bool.eq_false_or_eq_true (y1458 == r1443) with hb1460 | hb1460
            · replace hm := ite_t hm hb1460
              refine qg_y rfl rfl hb1460 ?_
              refine q_v (o_ldp (.agg (c_Catalog p0)) ld27 rfl (hp_get 0 hk1445 rfl) rfl) ?_
              refine qg_y rfl rfl hb1460 ?_
              obtain ⟨y1461, hy1462, hm⟩ := bind_of hm
              refine q_v (o_call (W47 _ hy1462) rfl bd47 rfl) ?_
              refine qg_y rfl rfl hb1460 ?_
              refine q_v (o_ldp (.agg (c_Catalog p0)) ld27 rfl (hp_get 0 hk1445 rfl) rfl) ?_
              refine qg_y rfl rfl hb1460 ?_
              obtain ⟨y1463, hy1464, hm⟩ := bind_of hm
              refine q_v (o_call (W50 _ hy1464) rfl bd50 rfl) ?_
              refine qg_y rfl rfl hb1460 ?_
              refine q_v (o_bi rfl rfl rfl trivial) ?_
              refine q_v (o_pkt (.sc (.bool _)) rfl hb1460 rfl) ?_
              refine q_v (o_mv (.sc (.bool _)) rfl) ?_
              rcases Bool.eq_false_or_eq_true (y1461 == y1463) with hb1465 | hb1465
              · replace hm := ite_t hm hb1465
                refine qg_y rfl rfl hb1465 ?_
                obtain ⟨y1466, hy1467, hm⟩ := bind_of hm
                refine q_v (o_call (W31 _ hy1467) rfl bd31 rfl) ?_
                refine q_v (o_pkt (.sc (.bool _)) rfl hb1465 rfl) ?_
                refine q_v (o_as (.sc (.bool _)) rfl) ?_
                refine q_nil ?_
                cases hm
                exact ⟨rfl, (), hk1445, LeF.fm (Sub.refl _) (.cons (ALe.refl _ _) (.nil))⟩
              · replace hm := ite_f hm hb1465
                refine qg_n rfl rfl hb1465 ?_
                refine q_v (o_pkf (.sc (.bool _)) rfl hb1465 rfl) ?_
                refine q_v (o_as (.sc (.bool _)) rfl) ?_
                refine q_nil ?_
                cases hm
                exact ⟨rfl, (), hk1445, LeF.fm (Sub.refl _) (.cons (ALe.refl _ _) (.nil))⟩
            · replace hm := ite_f hm hb1460
              refine qg_n rfl rfl hb1460 ?_
              refine qg_n rfl rfl hb1460 ?_
              refine qg_n rfl rfl hb1460 ?_
              refine qg_n rfl rfl hb1460 ?_
              refine qg_n rfl rfl hb1460 ?_
              refine q_v (o_pkf (.sc (.bool _)) rfl hb1460 rfl) ?_
              refine q_v (o_mv (.sc (.bool _)) rfl) ?_
              refine qg_n rfl rfl rfl ?_
              refine q_v (o_pkf (.sc (.bool _)) rfl rfl rfl) ?_
              refine q_v (o_as (.sc (.bool _)) rfl) ?_
              refine q_nil ?_
              cases hm
              exact ⟨rfl, (), hk1445, LeF.fm (Sub.refl _) (.cons (ALe.refl _ _) (.nil))⟩
          · rintro _ j1457 fr' h' hk1468 hm le
            refine H1446 _ _ (le.aw ?_)
            clear le H1446 K1446
            refine AW_ret ?_
            cases hm
            exact Ret.of1 (.inl rfl) (rsT _ _ (.sc (.bool _)) rfl) (hp_sub (List.nil_sublist _) hk1468).1 (ALe.refl _ _) ⟨rfl, rfl⟩
end Go.Proofs.Ytoomgangpjcaoaa
