import Derived.Test.YtoomgangpjcaoaaK8Wa
import Derived.Test.YtoomgangpjcaoaaK8Wc
import Derived.Test.YtoomgangpjcaoaaK8Wf
import Derived.Test.YtoomgangpjcaoaaK8Wi
import Derived.Test.YtoomgangpjcaoaaK8Wk
set_option linter.unusedSimpArgs false
set_option linter.unusedVariables false
namespace Go.Proofs.Ytoomgangpjcaoaa
open Go.Vm
def M8 (fuel : Nat) (p0 : TCatalog) (p1 : Int) (p2 : Int) : Option (Bool) :=
  after ((M13 fuel p0).bind fun y13 => if y13 = true then (some (.brk true)) else (M19 fuel p0).bind fun y16 => some (.brk (!y16)) : Option (Lp (Bool) (Bool))) fun j12 => if j12 = true then (some true) else (M14d fuel p0).bind fun y22 => after (if (((IntKind.wrap .u64 p1).tmod 10) == 0) = true then (some (.brk ((-1), y22.Snaps, y22.Chunks, y22.Exps, y22.Vols, 0))) else after (if (((IntKind.wrap .u64 p1).tmod 10) == 1) = true then (grd ((IntKind.wrap .u64 (y22.Vols.length : Int)) != 0) <| (ix y22.Vols (IntKind.wrap .i64 ((IntKind.wrap .u64 p2).tmod (IntKind.wrap .u64 (y22.Vols.length : Int))))).bind fun x23174 => some (.brk (y22.Snaps, y22.Chunks, y22.Exps, y22.Vols.set ((IntKind.wrap .i64 ((IntKind.wrap .u64 p2).tmod (IntKind.wrap .u64 (y22.Vols.length : Int)))).toNat) ({ x23174 with Pool := 2 }), 0))) else after (if (((IntKind.wrap .u64 p1).tmod 10) == 2) = true then (grd ((IntKind.wrap .u64 (y22.Vols.length : Int)) != 0) <| (ix y22.Vols (IntKind.wrap .i64 ((IntKind.wrap .u64 p2).tmod (IntKind.wrap .u64 (y22.Vols.length : Int))))).bind fun x27031 => some (.brk (y22.Snaps, y22.Chunks, y22.Exps, y22.Vols.set ((IntKind.wrap .i64 ((IntKind.wrap .u64 p2).tmod (IntKind.wrap .u64 (y22.Vols.length : Int)))).toNat) ({ x27031 with Epoch := (-1) }), 0))) else after (if (((IntKind.wrap .u64 p1).tmod 10) == 3) = true then (grd ((IntKind.wrap .u64 (y22.Vols.length : Int)) != 0) <| (ix y22.Vols (IntKind.wrap .i64 ((IntKind.wrap .u64 p2).tmod (IntKind.wrap .u64 (y22.Vols.length : Int))))).bind fun x28956 => some (.brk (y22.Snaps, y22.Chunks, y22.Exps, y22.Vols.set ((IntKind.wrap .i64 ((IntKind.wrap .u64 p2).tmod (IntKind.wrap .u64 (y22.Vols.length : Int)))).toNat) ({ x28956 with State := 4 }), 0))) else after (if (((IntKind.wrap .u64 p1).tmod 10) == 4) = true then (after (if (decide (0 < (y22.Chunks.length : Int))) = true then (grd ((IntKind.wrap .u64 (y22.Chunks.length : Int)) != 0) <| (ix y22.Chunks (IntKind.wrap .i64 ((IntKind.wrap .u64 p2).tmod (IntKind.wrap .u64 (y22.Chunks.length : Int))))).bind fun x29932 => some (.brk (((y22.Chunks.set ((IntKind.wrap .i64 ((IntKind.wrap .u64 p2).tmod (IntKind.wrap .u64 (y22.Chunks.length : Int)))).toNat) ({ x29932 with Staged := false })).set ((IntKind.wrap .i64 ((IntKind.wrap .u64 p2).tmod (IntKind.wrap .u64 (y22.Chunks.length : Int)))).toNat) ({ ({ x29932 with Staged := false } : TChunk) with Data := ([] : List Int) })).set ((IntKind.wrap .i64 ((IntKind.wrap .u64 p2).tmod (IntKind.wrap .u64 (y22.Chunks.length : Int)))).toNat) ({ ({ ({ x29932 with Staged := false } : TChunk) with Data := ([] : List Int) } : TChunk) with Locs := ([] : List TLoc) })))) else some (.brk y22.Chunks) : Option (Lp ((List TChunk)) (Lp ((List TSnap) × (List TChunk) × (List TExp) × (List TVol) × Int) (Lp ((List TSnap) × (List TChunk) × (List TExp) × (List TVol) × Int) (Lp ((List TSnap) × (List TChunk) × (List TExp) × (List TVol) × Int) (Lp ((List TSnap) × (List TChunk) × (List TExp) × (List TVol) × Int) (Lp (Int × (List TSnap) × (List TChunk) × (List TExp) × (List TVol) × Int) (Bool)))))))) fun j29926 => some (.brk (y22.Snaps, j29926, y22.Exps, y22.Vols, (y22.Chunks.length : Int)))) else after (if (((IntKind.wrap .u64 p1).tmod 10) == 5) = true then (after (if (decide (1 < (y22.Chunks.length : Int))) = true then (grd ((IntKind.wrap .u64 (IntKind.wrap .i64 ((y22.Chunks.length : Int) - 1))) != 0) <| (ix y22.Chunks (IntKind.wrap .i64 ((IntKind.wrap .i64 ((IntKind.wrap .u64 p2).tmod (IntKind.wrap .u64 (IntKind.wrap .i64 ((y22.Chunks.length : Int) - 1))))) + 1))).bind fun x30447 => (ix y22.Chunks (IntKind.wrap .i64 ((IntKind.wrap .u64 p2).tmod (IntKind.wrap .u64 (IntKind.wrap .i64 ((y22.Chunks.length : Int) - 1)))))).bind fun x30449 => (ix y22.Chunks (IntKind.wrap .i64 ((IntKind.wrap .u64 p2).tmod (IntKind.wrap .u64 (IntKind.wrap .i64 ((y22.Chunks.length : Int) - 1)))))).bind fun x30451 => (ix (y22.Chunks.set ((IntKind.wrap .i64 ((IntKind.wrap .u64 p2).tmod (IntKind.wrap .u64 (IntKind.wrap .i64 ((y22.Chunks.length : Int) - 1))))).toNat) (x30447)) (IntKind.wrap .i64 ((IntKind.wrap .i64 ((IntKind.wrap .u64 p2).tmod (IntKind.wrap .u64 (IntKind.wrap .i64 ((y22.Chunks.length : Int) - 1))))) + 1))).bind fun x30454 => some (.brk ((y22.Chunks.set ((IntKind.wrap .i64 ((IntKind.wrap .u64 p2).tmod (IntKind.wrap .u64 (IntKind.wrap .i64 ((y22.Chunks.length : Int) - 1))))).toNat) (x30447)).set ((IntKind.wrap .i64 ((IntKind.wrap .i64 ((IntKind.wrap .u64 p2).tmod (IntKind.wrap .u64 (IntKind.wrap .i64 ((y22.Chunks.length : Int) - 1))))) + 1)).toNat) (x30449)))) else some (.brk y22.Chunks) : Option (Lp ((List TChunk)) (Lp ((List TSnap) × (List TChunk) × (List TExp) × (List TVol) × Int) (Lp ((List TSnap) × (List TChunk) × (List TExp) × (List TVol) × Int) (Lp ((List TSnap) × (List TChunk) × (List TExp) × (List TVol) × Int) (Lp ((List TSnap) × (List TChunk) × (List TExp) × (List TVol) × Int) (Lp ((List TSnap) × (List TChunk) × (List TExp) × (List TVol) × Int) (Lp (Int × (List TSnap) × (List TChunk) × (List TExp) × (List TVol) × Int) (Bool))))))))) fun j30431 => some (.brk (y22.Snaps, j30431, y22.Exps, y22.Vols, IntKind.wrap .i64 ((y22.Chunks.length : Int) - 1)))) else after (if (((IntKind.wrap .u64 p1).tmod 10) == 6) = true then (after (if (decide (0 < (y22.Snaps.length : Int))) = true then (grd ((IntKind.wrap .u64 (y22.Snaps.length : Int)) != 0) <| (ix y22.Snaps (IntKind.wrap .i64 ((IntKind.wrap .u64 p2).tmod (IntKind.wrap .u64 (y22.Snaps.length : Int))))).bind fun x30683 => some (.brk (y22.Snaps.set ((IntKind.wrap .i64 ((IntKind.wrap .u64 p2).tmod (IntKind.wrap .u64 (y22.Snaps.length : Int)))).toNat) ({ x30683 with Man := { x30683.Man with Name := (ByteArray.mk #[]) } })))) else some (.brk y22.Snaps) : Option (Lp ((List TSnap)) (Lp ((List TSnap) × (List TExp) × (List TVol) × Int) (Lp ((List TSnap) × (List TChunk) × (List TExp) × (List TVol) × Int) (Lp ((List TSnap) × (List TChunk) × (List TExp) × (List TVol) × Int) (Lp ((List TSnap) × (List TChunk) × (List TExp) × (List TVol) × Int) (Lp ((List TSnap) × (List TChunk) × (List TExp) × (List TVol) × Int) (Lp ((List TSnap) × (List TChunk) × (List TExp) × (List TVol) × Int) (Lp (Int × (List TSnap) × (List TChunk) × (List TExp) × (List TVol) × Int) (Bool)))))))))) fun j30674 => some (.brk (j30674, y22.Exps, y22.Vols, (y22.Snaps.length : Int)))) else after (if (((IntKind.wrap .u64 p1).tmod 10) == 7) = true then (after (if (decide (0 < (y22.Snaps.length : Int))) = true then ((ix y22.Snaps (IntKind.wrap .i64 ((y22.Snaps.length : Int) - 1))).bind fun x30787 => some (.brk (y22.Snaps.set ((IntKind.wrap .i64 ((y22.Snaps.length : Int) - 1)).toNat) ({ x30787 with Seq := y22.Seq })))) else some (.brk y22.Snaps) : Option (Lp ((List TSnap)) (Lp ((List TSnap) × (List TExp) × (List TVol) × Int) (Lp ((List TSnap) × (List TExp) × (List TVol) × Int) (Lp ((List TSnap) × (List TChunk) × (List TExp) × (List TVol) × Int) (Lp ((List TSnap) × (List TChunk) × (List TExp) × (List TVol) × Int) (Lp ((List TSnap) × (List TChunk) × (List TExp) × (List TVol) × Int) (Lp ((List TSnap) × (List TChunk) × (List TExp) × (List TVol) × Int) (Lp ((List TSnap) × (List TChunk) × (List TExp) × (List TVol) × Int) (Lp (Int × (List TSnap) × (List TChunk) × (List TExp) × (List TVol) × Int) (Bool))))))))))) fun j30783 => some (.brk (j30783, y22.Exps, y22.Vols, (y22.Snaps.length : Int)))) else after (if (((IntKind.wrap .u64 p1).tmod 10) == 8) = true then (after (if (decide (0 < (y22.Exps.length : Int))) = true then (grd ((IntKind.wrap .u64 (y22.Exps.length : Int)) != 0) <| (ix y22.Exps (IntKind.wrap .i64 ((IntKind.wrap .u64 p2).tmod (IntKind.wrap .u64 (y22.Exps.length : Int))))).bind fun x30847 => some (.brk (y22.Exps.set ((IntKind.wrap .i64 ((IntKind.wrap .u64 p2).tmod (IntKind.wrap .u64 (y22.Exps.length : Int)))).toNat) ({ x30847 with Locs := ([] : List TLoc) })))) else some (.brk y22.Exps) : Option (Lp ((List TExp)) (Lp ((List TExp) × (List TVol) × Int) (Lp ((List TSnap) × (List TExp) × (List TVol) × Int) (Lp ((List TSnap) × (List TExp) × (List TVol) × Int) (Lp ((List TSnap) × (List TChunk) × (List TExp) × (List TVol) × Int) (Lp ((List TSnap) × (List TChunk) × (List TExp) × (List TVol) × Int) (Lp ((List TSnap) × (List TChunk) × (List TExp) × (List TVol) × Int) (Lp ((List TSnap) × (List TChunk) × (List TExp) × (List TVol) × Int) (Lp ((List TSnap) × (List TChunk) × (List TExp) × (List TVol) × Int) (Lp (Int × (List TSnap) × (List TChunk) × (List TExp) × (List TVol) × Int) (Bool)))))))))))) fun j30838 => some (.brk (j30838, y22.Vols, (y22.Exps.length : Int)))) else some (.brk (y22.Exps, [], 0)) : Option (Lp ((List TExp) × (List TVol) × Int) (Lp ((List TSnap) × (List TExp) × (List TVol) × Int) (Lp ((List TSnap) × (List TExp) × (List TVol) × Int) (Lp ((List TSnap) × (List TChunk) × (List TExp) × (List TVol) × Int) (Lp ((List TSnap) × (List TChunk) × (List TExp) × (List TVol) × Int) (Lp ((List TSnap) × (List TChunk) × (List TExp) × (List TVol) × Int) (Lp ((List TSnap) × (List TChunk) × (List TExp) × (List TVol) × Int) (Lp ((List TSnap) × (List TChunk) × (List TExp) × (List TVol) × Int) (Lp (Int × (List TSnap) × (List TChunk) × (List TExp) × (List TVol) × Int) (Bool))))))))))) fun ⟨j30819, j30822, j30825⟩ => some (.brk (y22.Snaps, j30819, j30822, j30825)) : Option (Lp ((List TSnap) × (List TExp) × (List TVol) × Int) (Lp ((List TSnap) × (List TExp) × (List TVol) × Int) (Lp ((List TSnap) × (List TChunk) × (List TExp) × (List TVol) × Int) (Lp ((List TSnap) × (List TChunk) × (List TExp) × (List TVol) × Int) (Lp ((List TSnap) × (List TChunk) × (List TExp) × (List TVol) × Int) (Lp ((List TSnap) × (List TChunk) × (List TExp) × (List TVol) × Int) (Lp ((List TSnap) × (List TChunk) × (List TExp) × (List TVol) × Int) (Lp (Int × (List TSnap) × (List TChunk) × (List TExp) × (List TVol) × Int) (Bool)))))))))) fun ⟨j30766, j30769, j30772, j30775⟩ => some (.brk (j30766, j30769, j30772, j30775)) : Option (Lp ((List TSnap) × (List TExp) × (List TVol) × Int) (Lp ((List TSnap) × (List TChunk) × (List TExp) × (List TVol) × Int) (Lp ((List TSnap) × (List TChunk) × (List TExp) × (List TVol) × Int) (Lp ((List TSnap) × (List TChunk) × (List TExp) × (List TVol) × Int) (Lp ((List TSnap) × (List TChunk) × (List TExp) × (List TVol) × Int) (Lp ((List TSnap) × (List TChunk) × (List TExp) × (List TVol) × Int) (Lp (Int × (List TSnap) × (List TChunk) × (List TExp) × (List TVol) × Int) (Bool))))))))) fun ⟨j30652, j30655, j30658, j30661⟩ => some (.brk (j30652, y22.Chunks, j30655, j30658, j30661)) : Option (Lp ((List TSnap) × (List TChunk) × (List TExp) × (List TVol) × Int) (Lp ((List TSnap) × (List TChunk) × (List TExp) × (List TVol) × Int) (Lp ((List TSnap) × (List TChunk) × (List TExp) × (List TVol) × Int) (Lp ((List TSnap) × (List TChunk) × (List TExp) × (List TVol) × Int) (Lp ((List TSnap) × (List TChunk) × (List TExp) × (List TVol) × Int) (Lp (Int × (List TSnap) × (List TChunk) × (List TExp) × (List TVol) × Int) (Bool)))))))) fun ⟨j30391, j30394, j30397, j30400, j30403⟩ => some (.brk (j30391, j30394, j30397, j30400, j30403)) : Option (Lp ((List TSnap) × (List TChunk) × (List TExp) × (List TVol) × Int) (Lp ((List TSnap) × (List TChunk) × (List TExp) × (List TVol) × Int) (Lp ((List TSnap) × (List TChunk) × (List TExp) × (List TVol) × Int) (Lp ((List TSnap) × (List TChunk) × (List TExp) × (List TVol) × Int) (Lp (Int × (List TSnap) × (List TChunk) × (List TExp) × (List TVol) × Int) (Bool))))))) fun ⟨j29902, j29905, j29908, j29911, j29914⟩ => some (.brk (j29902, j29905, j29908, j29911, j29914)) : Option (Lp ((List TSnap) × (List TChunk) × (List TExp) × (List TVol) × Int) (Lp ((List TSnap) × (List TChunk) × (List TExp) × (List TVol) × Int) (Lp ((List TSnap) × (List TChunk) × (List TExp) × (List TVol) × Int) (Lp (Int × (List TSnap) × (List TChunk) × (List TExp) × (List TVol) × Int) (Bool)))))) fun ⟨j28940, j28943, j28946, j28949, j28952⟩ => some (.brk (j28940, j28943, j28946, j28949, j28952)) : Option (Lp ((List TSnap) × (List TChunk) × (List TExp) × (List TVol) × Int) (Lp ((List TSnap) × (List TChunk) × (List TExp) × (List TVol) × Int) (Lp (Int × (List TSnap) × (List TChunk) × (List TExp) × (List TVol) × Int) (Bool))))) fun ⟨j27012, j27015, j27018, j27021, j27024⟩ => some (.brk (j27012, j27015, j27018, j27021, j27024)) : Option (Lp ((List TSnap) × (List TChunk) × (List TExp) × (List TVol) × Int) (Lp (Int × (List TSnap) × (List TChunk) × (List TExp) × (List TVol) × Int) (Bool)))) fun ⟨j23155, j23158, j23161, j23164, j23167⟩ => some (.brk (y22.Seq, j23155, j23158, j23161, j23164, j23167)) : Option (Lp (Int × (List TSnap) × (List TChunk) × (List TExp) × (List TVol) × Int) (Bool))) fun ⟨j15446, j15447, j15450, j15453, j15456, j15459⟩ => after (if (decide (4 ≤ ((IntKind.wrap .u64 p1).tmod 10))) = true then (if (decide (((IntKind.wrap .u64 p1).tmod 10) ≤ 8)) = true then (some (.brk (decide (j15459 < 1)))) else some (.brk false)) else some (.brk false) : Option (Lp (Bool) (Bool))) fun j30866 => if j30866 = true then ((M31 fuel).bind fun y30872 => some y30872) else (M35 fuel ({ Seq := j15446, Snaps := j15447, Chunks := j15450, Exps := j15453, Vols := j15456 } : TCatalog)).bind fun y30883 => after ((M33 fuel ({ Seq := j15446, Snaps := j15447, Chunks := j15450, Exps := j15453, Vols := j15456 } : TCatalog)).bind fun y30897 => if (y30897 == 1) = true then (if (y30883.2 == 1) = true then (if ((y30883.1.length : Int) == 0) = true then ((M33 fuel p0).bind fun y30902 => if (y30902 == 0) = true then ((M31 fuel).bind fun y30905 => some (.brk y30905)) else some (.brk false)) else some (.brk false)) else some (.brk false)) else some (.brk false) : Option (Lp (Bool) (Bool))) fun j30896 => some j30896
set_option maxHeartbeats 4000000 in
set_option maxRecDepth 100000 in
/-- cellarer/cellarerlaw18.CatalogWrong -/
theorem W8 {fuel : Nat} {p0 : TCatalog} {p1 : Int} {p2 : Int} {o : Bool} (h : Heap) (hm : M8 fuel p0 p1 p2 = some o) :
    ACalls Try.prog 8 [.agg (c_Catalog p0), .sc (.int .i64 p1), .sc (.int .i64 p2)] h (fun r h' => r = .sc (.bool o) ∧ h' = h) := by
  refine ACalls_hp 225 [.tmp 6] Try.func8 rfl rfl rfl rfl ?_
  unfold M8 at hm
  refine AW_lq ?_
  refine AW_k fun K1 H1 => ?_
  refine AW_reg ?_
  refine s_op (a_box (HOk.nil _) rfl rfl fun k2 hk3 => ?_)
  refine s_v (o_as (.sc (.bool _)) rfl) ?_
  refine s_nil ?_
  refine H1 _ _ ?_
  clear H1 K1
  refine AW_k fun K5 H5 => ?_
  refine AW_k fun K6 H6 => ?_
  refine AW_joinG (n := 225) hm (σ := Bool) (τ := Unit) (fun g s => HOk h [(some k2, .obj 27 (c_Catalog p0))]) (fun g s => kp (kp (kp (kp (k0) 20 (.sc (.bool s))) 3 (.ptr k2 0)) 2 (.sc (.int .i64 p2))) 1 (.sc (.int .i64 p1))) (fun g s => hp h [(some k2, .obj 27 (c_Catalog p0))]) (fun x hm => ?_) ?_
  · refine AW_reg ?_
    refine s_v (o_ldp (.agg (c_Catalog p0)) ld27 rfl (hp_get 0 hk3 rfl) rfl) ?_
    obtain ⟨y13, hy14, hm⟩ := bind_of hm
    refine s_v (o_call (W13 _ hy14) rfl bd13 rfl) ?_
    refine s_v (o_mv (.sc (.bool _)) rfl) ?_
    rcases Bool.eq_false_or_eq_true y13 with hb15 | hb15
    · replace hm := ite_t hm hb15
      refine sg_n rfl rfl hb15 ?_
      refine sg_n rfl rfl hb15 ?_
      refine sg_n rfl rfl hb15 ?_
      refine s_v (o_pkt (.sc (.bool _)) rfl hb15 rfl) ?_
      refine s_nil ?_
      cases hm
      exact ⟨rfl, (), hk3, LeF.fm (Sub.refl _) (.cons (ALe.refl _ _) (.cons (ALe.refl _ _) (.cons (ALe.refl _ _) (.cons (ALe.refl _ _) (.nil)))))⟩
    · replace hm := ite_f hm hb15
      refine sg_y rfl rfl hb15 ?_
      refine s_v (o_ldp (.agg (c_Catalog p0)) ld27 rfl (hp_get 0 hk3 rfl) rfl) ?_
      refine sg_y rfl rfl hb15 ?_
      obtain ⟨y16, hy17, hm⟩ := bind_of hm
      refine s_v (o_call (W19 _ hy17) rfl bd19 rfl) ?_
      refine sg_y rfl rfl hb15 ?_
      refine s_v (o_not rfl) ?_
      refine s_v (o_pkf (.sc (.bool _)) rfl hb15 rfl) ?_
      refine s_nil ?_
      cases hm
      exact ⟨rfl, (), hk3, LeF.fm (Sub.refl _) (.cons (ALe.refl _ _) (.cons (ALe.refl _ _) (.cons (ALe.refl _ _) (.cons (ALe.refl _ _) (.nil)))))⟩
  · rintro _ j12 fr' h' hk18 hm le
    refine H6 _ _ (le.aw ?_)
    clear le H6 K6
    refine AW_if' rfl (fun hc19 => ?_) (fun hc19 => ?_)
    · replace hm := ite_t hm hc19
      refine AW_k fun K20 H20 => ?_
      refine AW_reg ?_
      refine s_v (o_as (.sc (.bool _)) rfl) ?_
      refine s_nil ?_
      refine H20 _ _ ?_
      clear H20 K20
      refine AW_ret ?_
      cases hm
      exact LqE.mk (LeF.eqh rfl) (Ret.of1 (.inl rfl) (rsT _ _ (.sc (.bool _)) rfl) (hp_sub (List.nil_sublist _) hk18).1 (ALe.refl _ _) ⟨rfl, rfl⟩)
    · replace hm := ite_f hm hc19
      refine AW_skip ?_
      refine H5 _ _ ?_
      clear H5 K5
      refine AW_k fun K21 H21 => ?_
      refine AW_reg ?_
      refine s_v (o_ldp (.agg (c_Catalog p0)) ld27 rfl (hp_get 0 hk18 rfl) rfl) ?_
      obtain ⟨y22, hy23, hm⟩ := bind_of hm
      refine s_op (a_call (W14d _ hy23) rfl bd14 rfl ?_)
      rintro x h' ⟨ag25, ok26, ag28, ok29, ag31, ok32, ag34, ok35, hk24, rfl, rfl⟩
      refine AOps_eqh (hp_app h [(ag25.t, .obj 60 (fl c_Snap (y22.Snaps : List TSnap) ag25.sp)), (ag28.t, .obj 63 (fl c_Chunk (y22.Chunks : List TChunk) ag28.sp)), (ag31.t, .obj 65 (fl c_Exp (y22.Exps : List TExp) ag31.sp)), (ag34.t, .obj 40 (fl c_Vol (y22.Vols : List TVol) ag34.sp))] [(some k2, .obj 27 (c_Catalog p0))]) ?_
      refine s_op (a_alloc ([.sc (.int .i64 0), .sc (.slice none 0 0), .sc (.slice none 0 0), .sc (.slice none 0 0), .sc (.slice none 0 0)]) (HOk_app hk18 hk24) zr27 rfl rfl fun k37 hk38 => ?_)
      refine s_op (a_store 0 ([.sc (.int .i64 y22.Seq), aw ag25.t ag25.n ag25.cap, aw ag28.t ag28.n ag28.cap, aw ag31.t ag31.n ag31.cap, aw ag34.t ag34.n ag34.cap]) hk38 rfl rfl rfl (by repeat (first | exact rfl | refine all_c (ocell_ow _ _ _) ?_ | refine all_c (ocell_aw _ _ _) ?_ | refine all_c rfl ?_)) sz27 rfl rfl fun hk40 => ?_)
      refine s_nil ?_
      refine H21 _ _ ?_
      clear H21 K21
      refine AW_k fun K41 H41 => ?_
      refine AW_reg ?_
      refine s_v (o_as (.sc (.int _ _)) rfl) ?_
      refine s_nil ?_
      refine H41 _ _ ?_
      clear H41 K41
      refine AW_k fun K42 H42 => ?_
      refine AW_k fun K43 H43 => ?_
      refine AW_reg ?_
      refine s_v (o_mv (.sc (.int _ _)) rfl) ?_
      refine s_v (o_cv ti3 ti46 rfl) ?_
      refine s_v (o_bi rfl rfl rfl (by decide)) ?_
      refine s_nil ?_
      refine H43 _ _ ?_
      clear H43 K43
      refine AW_block ?_
      refine AW_k fun K44 H44 => ?_
      refine AW_reg ?_
      refine s_v (o_bi rfl rfl rfl trivial) ?_
      refine s_v (o_as (.sc (.bool _)) rfl) ?_
      refine s_nil ?_
      refine H44 _ _ ?_
      clear H44 K44
      refine AW_joinG (n := 225) hm (σ := Int × (List TSnap) × (List TChunk) × (List TExp) × (List TVol) × Int) (τ := AGh × AGh × AGh × AGh) (fun g s => HOk h [(some k37, .obj 27 ([.sc (.int .i64 s.1), aw g.1.t g.1.n g.1.cap, aw g.2.1.t g.2.1.n g.2.1.cap, aw g.2.2.1.t g.2.2.1.n g.2.2.1.cap, aw g.2.2.2.t g.2.2.2.n g.2.2.2.cap])), (g.1.t, .obj 60 (fl c_Snap (s.2.1 : List TSnap) g.1.sp)), (g.2.1.t, .obj 63 (fl c_Chunk (s.2.2.1 : List TChunk) g.2.1.sp)), (g.2.2.1.t, .obj 65 (fl c_Exp (s.2.2.2.1 : List TExp) g.2.2.1.sp)), (g.2.2.2.t, .obj 40 (fl c_Vol (s.2.2.2.2.1 : List TVol) g.2.2.2.sp)), (some k2, .obj 27 (c_Catalog p0))] ∧ AOk g.1 4 (s.2.1 : List TSnap).length ∧ AOk g.2.1 35 (s.2.2.1 : List TChunk).length ∧ AOk g.2.2.1 3 (s.2.2.2.1 : List TExp).length ∧ AOk g.2.2.2 4 (s.2.2.2.2.1 : List TVol).length) (fun g s => kp (kp (kp (kp (k0) 8 (.sc (.int .i64 s.2.2.2.2.2))) 7 (.ptr k37 0)) 3 (.ptr k2 0)) 1 (.sc (.int .i64 p1))) (fun g s => hp h [(some k37, .obj 27 ([.sc (.int .i64 s.1), aw g.1.t g.1.n g.1.cap, aw g.2.1.t g.2.1.n g.2.1.cap, aw g.2.2.1.t g.2.2.1.n g.2.2.1.cap, aw g.2.2.2.t g.2.2.2.n g.2.2.2.cap])), (g.1.t, .obj 60 (fl c_Snap (s.2.1 : List TSnap) g.1.sp)), (g.2.1.t, .obj 63 (fl c_Chunk (s.2.2.1 : List TChunk) g.2.1.sp)), (g.2.2.1.t, .obj 65 (fl c_Exp (s.2.2.2.1 : List TExp) g.2.2.1.sp)), (g.2.2.2.t, .obj 40 (fl c_Vol (s.2.2.2.2.1 : List TVol) g.2.2.2.sp)), (some k2, .obj 27 (c_Catalog p0))]) (fun x hm => ?_) ?_
      · refine AW_if' rfl (fun hc15460 => ?_) (fun hc15460 => ?_)
        · replace hm := ite_t hm hc15460
          refine AW_reg ?_
          refine s_v (o_flp fd27_0 rfl rfl) ?_
          refine s_op (a_store 0 ([.sc (.int .i64 (-1)), aw ag25.t ag25.n ag25.cap, aw ag28.t ag28.n ag28.cap, aw ag31.t ag31.n ag31.cap, aw ag34.t ag34.n ag34.cap]) hk40 rfl rfl rfl rfl sz3 rfl rfl fun hk15461 => ?_)
          refine s_nil ?_
          cases hm
          exact ⟨rfl, (ag25, ag28, ag31, ag34), ⟨hk15461, ok26, ok29, ok32, ok35⟩, LeF.fm (Sub.refl _) (.cons (ALe.refl _ _) (.cons (ALe.refl _ _) (.cons (ALe.refl _ _) (.cons (ALe.refl _ _) (.nil)))))⟩
        · replace hm := ite_f hm hc15460
          refine AW_k fun K15462 H15462 => ?_
          refine AW_reg ?_
          refine s_v (o_bi rfl rfl rfl trivial) ?_
          refine s_v (o_as (.sc (.bool _)) rfl) ?_
          refine s_nil ?_
          refine H15462 _ _ ?_
          clear H15462 K15462
          refine AW_joinG (n := 225) hm (σ := (List TSnap) × (List TChunk) × (List TExp) × (List TVol) × Int) (τ := AGh × AGh × AGh × AGh) (fun g s => HOk h [(some k37, .obj 27 ([.sc (.int .i64 y22.Seq), aw g.1.t g.1.n g.1.cap, aw g.2.1.t g.2.1.n g.2.1.cap, aw g.2.2.1.t g.2.2.1.n g.2.2.1.cap, aw g.2.2.2.t g.2.2.2.n g.2.2.2.cap])), (g.1.t, .obj 60 (fl c_Snap (s.1 : List TSnap) g.1.sp)), (g.2.1.t, .obj 63 (fl c_Chunk (s.2.1 : List TChunk) g.2.1.sp)), (g.2.2.1.t, .obj 65 (fl c_Exp (s.2.2.1 : List TExp) g.2.2.1.sp)), (g.2.2.2.t, .obj 40 (fl c_Vol (s.2.2.2.1 : List TVol) g.2.2.2.sp)), (some k2, .obj 27 (c_Catalog p0))] ∧ AOk g.1 4 (s.1 : List TSnap).length ∧ AOk g.2.1 35 (s.2.1 : List TChunk).length ∧ AOk g.2.2.1 3 (s.2.2.1 : List TExp).length ∧ AOk g.2.2.2 4 (s.2.2.2.1 : List TVol).length) (fun g s => kp (kp (kp (kp (k0) 8 (.sc (.int .i64 s.2.2.2.2))) 7 (.ptr k37 0)) 3 (.ptr k2 0)) 1 (.sc (.int .i64 p1))) (fun g s => hp h [(some k37, .obj 27 ([.sc (.int .i64 y22.Seq), aw g.1.t g.1.n g.1.cap, aw g.2.1.t g.2.1.n g.2.1.cap, aw g.2.2.1.t g.2.2.1.n g.2.2.1.cap, aw g.2.2.2.t g.2.2.2.n g.2.2.2.cap])), (g.1.t, .obj 60 (fl c_Snap (s.1 : List TSnap) g.1.sp)), (g.2.1.t, .obj 63 (fl c_Chunk (s.2.1 : List TChunk) g.2.1.sp)), (g.2.2.1.t, .obj 65 (fl c_Exp (s.2.2.1 : List TExp) g.2.2.1.sp)), (g.2.2.2.t, .obj 40 (fl c_Vol (s.2.2.2.1 : List TVol) g.2.2.2.sp)), (some k2, .obj 27 (c_Catalog p0))]) (fun x hm => ?_) ?_
          · refine AW_if' rfl (fun hc23168 => ?_) (fun hc23168 => ?_)
            · replace hm := ite_t hm hc23168
              refine AW_zreg [(1000000, some k37, .obj 27 ([.sc (.int .i64 y22.Seq), aw ag25.t ag25.n ag25.cap, aw ag28.t ag28.n ag28.cap, aw ag31.t ag31.n ag31.cap, aw ag34.t ag34.n ag34.cap]))] mixed (⟨fun _ => hp_at 0 hk40 rfl, trivial⟩) ?_
              refine z_v 0 rfl (by kernel_rfl) rfl (fun S' h' hi hB => o_flp fd27_4 rfl rfl) ?_
              refine z_v 1 rfl (by kernel_rfl) rfl (fun S' h' hi hB => o_ldp (aw ag34.t ag34.n ag34.cap) ld25 rfl (At.s (InvL.get 0 hi rfl (hB 1000000 (by kernel_rfl)))) rfl) ?_
              refine z_v 2 rfl (by kernel_rfl) rfl (fun S' h' hi hB => o_mv (.sc (.int _ _)) rfl) ?_
              refine z_v 3 rfl (by kernel_rfl) rfl (fun S' h' hi hB => o_cv ti3 ti46 rfl) ?_
              refine z_v 4 rfl (by kernel_rfl) rfl (fun S' h' hi hB => o_flp fd27_4 rfl rfl) ?_
              refine z_v 5 rfl (by kernel_rfl) rfl (fun S' h' hi hB => o_ldp (aw ag34.t ag34.n ag34.cap) ld25 rfl (At.s (InvL.get 0 hi rfl (hB 1000000 (by kernel_rfl)))) rfl) ?_
              refine z_v 6 rfl (by kernel_rfl) rfl (fun S' h' hi hB => o_lenA ln25 ok35 rfl) ?_
              refine z_v 7 rfl (by kernel_rfl) rfl (fun S' h' hi hB => o_cv ti3 ti46 rfl) ?_
              obtain ⟨hz23173, hm⟩ := grd_of hm
              refine z_v 8 rfl (by kernel_rfl) rfl (fun S' h' hi hB => o_bi rfl rfl rfl (bne_z hz23173)) ?_
              refine z_v 9 rfl (by kernel_rfl) rfl (fun S' h' hi hB => o_cv ti46 ti3 rfl) ?_
              obtain ⟨x23174, hx23175, hm⟩ := bind_of hm
              refine z_v 10 rfl (by kernel_rfl) rfl (fun S' h' hi hB => o_ixA hx23175 el25 ok35 rfl rfl) ?_
              refine z_v 11 rfl (by kernel_rfl) rfl (fun S' h' hi hB => o_flA (AOk.ne ok35 hx23175) fd40_0 rfl rfl) ?_
              refine z_e 12 rfl (by kernel_rfl) (a_storeA (fo := 0) ({ x23174 with Pool := 2 } : TVol) 4 hk40 hx23175 cz_Vol ok35 rfl rfl rfl rfl (ALeL.refl _ _) sz3 rfl rfl fun hk23176 => ⟨⟨fun _ => hp_at 0 hk23176 rfl, trivial⟩, ?_⟩)
              refine z_nil (by kernel_rfl) ?_
              cases hm
              exact ⟨rfl, (ag25, ag28, ag31, ag34), ⟨hk23176, ok26, ok29, ok32, (AOk.set ok35)⟩, LeF.fm (Sub.refl _) (.cons (ALe.refl _ _) (.cons (ALe.refl _ _) (.cons (ALe.refl _ _) (.cons (ALe.refl _ _) (.nil)))))⟩
            · replace hm := ite_f hm hc23168
              refine AW_k fun K23177 H23177 => ?_
              refine AW_reg ?_
              refine s_v (o_bi rfl rfl rfl trivial) ?_
              refine s_v (o_as (.sc (.bool _)) rfl) ?_
              refine s_nil ?_
              refine H23177 _ _ ?_
              clear H23177 K23177
              refine AW_joinG (n := 225) hm (σ := (List TSnap) × (List TChunk) × (List TExp) × (List TVol) × Int) (τ := AGh × AGh × AGh × AGh) (fun g s => HOk h [(some k37, .obj 27 ([.sc (.int .i64 y22.Seq), aw g.1.t g.1.n g.1.cap, aw g.2.1.t g.2.1.n g.2.1.cap, aw g.2.2.1.t g.2.2.1.n g.2.2.1.cap, aw g.2.2.2.t g.2.2.2.n g.2.2.2.cap])), (g.1.t, .obj 60 (fl c_Snap (s.1 : List TSnap) g.1.sp)), (g.2.1.t, .obj 63 (fl c_Chunk (s.2.1 : List TChunk) g.2.1.sp)), (g.2.2.1.t, .obj 65 (fl c_Exp (s.2.2.1 : List TExp) g.2.2.1.sp)), (g.2.2.2.t, .obj 40 (fl c_Vol (s.2.2.2.1 : List TVol) g.2.2.2.sp)), (some k2, .obj 27 (c_Catalog p0))] ∧ AOk g.1 4 (s.1 : List TSnap).length ∧ AOk g.2.1 35 (s.2.1 : List TChunk).length ∧ AOk g.2.2.1 3 (s.2.2.1 : List TExp).length ∧ AOk g.2.2.2 4 (s.2.2.2.1 : List TVol).length) (fun g s => kp (kp (kp (kp (k0) 8 (.sc (.int .i64 s.2.2.2.2))) 7 (.ptr k37 0)) 3 (.ptr k2 0)) 1 (.sc (.int .i64 p1))) (fun g s => hp h [(some k37, .obj 27 ([.sc (.int .i64 y22.Seq), aw g.1.t g.1.n g.1.cap, aw g.2.1.t g.2.1.n g.2.1.cap, aw g.2.2.1.t g.2.2.1.n g.2.2.1.cap, aw g.2.2.2.t g.2.2.2.n g.2.2.2.cap])), (g.1.t, .obj 60 (fl c_Snap (s.1 : List TSnap) g.1.sp)), (g.2.1.t, .obj 63 (fl c_Chunk (s.2.1 : List TChunk) g.2.1.sp)), (g.2.2.1.t, .obj 65 (fl c_Exp (s.2.2.1 : List TExp) g.2.2.1.sp)), (g.2.2.2.t, .obj 40 (fl c_Vol (s.2.2.2.1 : List TVol) g.2.2.2.sp)), (some k2, .obj 27 (c_Catalog p0))]) (fun x hm => ?_) ?_
              · refine AW_if' rfl (fun hc27025 => ?_) (fun hc27025 => ?_)
                · replace hm := ite_t hm hc27025
                  refine AW_zreg [(1000000, some k37, .obj 27 ([.sc (.int .i64 y22.Seq), aw ag25.t ag25.n ag25.cap, aw ag28.t ag28.n ag28.cap, aw ag31.t ag31.n ag31.cap, aw ag34.t ag34.n ag34.cap]))] mixed (⟨fun _ => hp_at 0 hk40 rfl, trivial⟩) ?_
                  refine z_v 0 rfl (by kernel_rfl) rfl (fun S' h' hi hB => o_flp fd27_4 rfl rfl) ?_
                  refine z_v 1 rfl (by kernel_rfl) rfl (fun S' h' hi hB => o_ldp (aw ag34.t ag34.n ag34.cap) ld25 rfl (At.s (InvL.get 0 hi rfl (hB 1000000 (by kernel_rfl)))) rfl) ?_
                  refine z_v 2 rfl (by kernel_rfl) rfl (fun S' h' hi hB => o_mv (.sc (.int _ _)) rfl) ?_
                  refine z_v 3 rfl (by kernel_rfl) rfl (fun S' h' hi hB => o_cv ti3 ti46 rfl) ?_
                  refine z_v 4 rfl (by kernel_rfl) rfl (fun S' h' hi hB => o_flp fd27_4 rfl rfl) ?_
                  refine z_v 5 rfl (by kernel_rfl) rfl (fun S' h' hi hB => o_ldp (aw ag34.t ag34.n ag34.cap) ld25 rfl (At.s (InvL.get 0 hi rfl (hB 1000000 (by kernel_rfl)))) rfl) ?_
                  refine z_v 6 rfl (by kernel_rfl) rfl (fun S' h' hi hB => o_lenA ln25 ok35 rfl) ?_
                  refine z_v 7 rfl (by kernel_rfl) rfl (fun S' h' hi hB => o_cv ti3 ti46 rfl) ?_
                  obtain ⟨hz27030, hm⟩ := grd_of hm
                  refine z_v 8 rfl (by kernel_rfl) rfl (fun S' h' hi hB => o_bi rfl rfl rfl (bne_z hz27030)) ?_
                  refine z_v 9 rfl (by kernel_rfl) rfl (fun S' h' hi hB => o_cv ti46 ti3 rfl) ?_
                  obtain ⟨x27031, hx27032, hm⟩ := bind_of hm
                  refine z_v 10 rfl (by kernel_rfl) rfl (fun S' h' hi hB => o_ixA hx27032 el25 ok35 rfl rfl) ?_
                  refine z_v 11 rfl (by kernel_rfl) rfl (fun S' h' hi hB => o_flA (AOk.ne ok35 hx27032) fd40_1 rfl rfl) ?_
                  refine z_e 12 rfl (by kernel_rfl) (a_storeA (fo := 1) ({ x27031 with Epoch := (-1) } : TVol) 4 hk40 hx27032 cz_Vol ok35 rfl rfl rfl rfl (ALeL.refl _ _) sz3 rfl rfl fun hk27033 => ⟨⟨fun _ => hp_at 0 hk27033 rfl, trivial⟩, ?_⟩)
                  refine z_nil (by kernel_rfl) ?_
                  cases hm
                  exact ⟨rfl, (ag25, ag28, ag31, ag34), ⟨hk27033, ok26, ok29, ok32, (AOk.set ok35)⟩, LeF.fm (Sub.refl _) (.cons (ALe.refl _ _) (.cons (ALe.refl _ _) (.cons (ALe.refl _ _) (.cons (ALe.refl _ _) (.nil)))))⟩
                · replace hm := ite_f hm hc27025
                  refine AW_k fun K27034 H27034 => ?_
                  refine AW_reg ?_
                  refine s_v (o_bi rfl rfl rfl trivial) ?_
                  refine s_v (o_as (.sc (.bool _)) rfl) ?_
                  refine s_nil ?_
                  refine H27034 _ _ ?_
                  clear H27034 K27034
                  refine AW_joinG (n := 225) hm (σ := (List TSnap) × (List TChunk) × (List TExp) × (List TVol) × Int) (τ := AGh × AGh × AGh × AGh) (fun g s => HOk h [(some k37, .obj 27 ([.sc (.int .i64 y22.Seq), aw g.1.t g.1.n g.1.cap, aw g.2.1.t g.2.1.n g.2.1.cap, aw g.2.2.1.t g.2.2.1.n g.2.2.1.cap, aw g.2.2.2.t g.2.2.2.n g.2.2.2.cap])), (g.1.t, .obj 60 (fl c_Snap (s.1 : List TSnap) g.1.sp)), (g.2.1.t, .obj 63 (fl c_Chunk (s.2.1 : List TChunk) g.2.1.sp)), (g.2.2.1.t, .obj 65 (fl c_Exp (s.2.2.1 : List TExp) g.2.2.1.sp)), (g.2.2.2.t, .obj 40 (fl c_Vol (s.2.2.2.1 : List TVol) g.2.2.2.sp)), (some k2, .obj 27 (c_Catalog p0))] ∧ AOk g.1 4 (s.1 : List TSnap).length ∧ AOk g.2.1 35 (s.2.1 : List TChunk).length ∧ AOk g.2.2.1 3 (s.2.2.1 : List TExp).length ∧ AOk g.2.2.2 4 (s.2.2.2.1 : List TVol).length) (fun g s => kp (kp (kp (kp (k0) 8 (.sc (.int .i64 s.2.2.2.2))) 7 (.ptr k37 0)) 3 (.ptr k2 0)) 1 (.sc (.int .i64 p1))) (fun g s => hp h [(some k37, .obj 27 ([.sc (.int .i64 y22.Seq), aw g.1.t g.1.n g.1.cap, aw g.2.1.t g.2.1.n g.2.1.cap, aw g.2.2.1.t g.2.2.1.n g.2.2.1.cap, aw g.2.2.2.t g.2.2.2.n g.2.2.2.cap])), (g.1.t, .obj 60 (fl c_Snap (s.1 : List TSnap) g.1.sp)), (g.2.1.t, .obj 63 (fl c_Chunk (s.2.1 : List TChunk) g.2.1.sp)), (g.2.2.1.t, .obj 65 (fl c_Exp (s.2.2.1 : List TExp) g.2.2.1.sp)), (g.2.2.2.t, .obj 40 (fl c_Vol (s.2.2.2.1 : List TVol) g.2.2.2.sp)), (some k2, .obj 27 (c_Catalog p0))]) (fun x hm => ?_) ?_
                  · refine AW_if' rfl (fun hc28953 => ?_) (fun hc28953 => ?_)
                    · replace hm := ite_t hm hc28953
                      refine AW_k fun K28954 H28954 => ?_
                      refine AW_region_q [(some 60, [7], []), (some 61, [60], [0]), (some 62, [2], []), (some 63, [62], [2]), (some 64, [7], []), (some 65, [64], [4]), (some 66, [65], [5]), (some 67, [66], [6]), (some 68, [63, 67], [3, 7]), (some 69, [68], [8]), (some 70, [61, 69], [1, 9]), (some 9, [70], [10, 0, 1, 2, 3, 4, 5, 6, 7, 8, 9, 10])] mixed (by kernel_rfl) (by kernel_rfl) ?_
                      refine q_v (o_flp fd27_4 rfl rfl) ?_
                      refine q_v (o_ldp (aw ag34.t ag34.n ag34.cap) ld25 rfl (hp_get 0 hk40 rfl) rfl) ?_
                      refine q_v (o_mv (.sc (.int _ _)) rfl) ?_
                      refine q_v (o_cv ti3 ti46 rfl) ?_
                      refine q_v (o_flp fd27_4 rfl rfl) ?_
                      refine q_v (o_ldp (aw ag34.t ag34.n ag34.cap) ld25 rfl (hp_get 0 hk40 rfl) rfl) ?_
                      refine q_v (o_lenA ln25 ok35 rfl) ?_
                      refine q_v (o_cv ti3 ti46 rfl) ?_
                      obtain ⟨hz28955, hm⟩ := grd_of hm
                      refine q_v (o_bi rfl rfl rfl (bne_z hz28955)) ?_
                      refine q_v (o_cv ti46 ti3 rfl) ?_
                      obtain ⟨x28956, hx28957, hm⟩ := bind_of hm
                      refine q_v (o_ixA hx28957 el25 ok35 rfl rfl) ?_
                      refine q_v (o_as (apt _ _) rfl) ?_
                      refine q_nil ?_
                      refine H28954 _ _ ?_
                      clear H28954 K28954
                      refine AW_reg ?_
                      refine s_v (o_mv (apt _ _) rfl) ?_
                      refine s_v (o_nilA (AOk.ne ok35 hx28957) rfl) ?_
                      refine s_v (o_flA (AOk.ne ok35 hx28957) fd40_2 rfl rfl) ?_
                      refine s_op (a_storeA (fo := 2) ({ x28956 with State := 4 } : TVol) 4 hk40 hx28957 cz_Vol ok35 rfl rfl rfl rfl (ALeL.refl _ _) sz3 rfl rfl fun hk28958 => ?_)
                      refine s_nil ?_
                      cases hm
                      exact ⟨rfl, (ag25, ag28, ag31, ag34), ⟨hk28958, ok26, ok29, ok32, (AOk.set ok35)⟩, LeF.fm (Sub.refl _) (.cons (ALe.refl _ _) (.cons (ALe.refl _ _) (.cons (ALe.refl _ _) (.cons (ALe.refl _ _) (.nil)))))⟩
                    · replace hm := ite_f hm hc28953
                      refine AW_k fun K28959 H28959 => ?_
                      refine AW_reg ?_
                      refine s_v (o_bi rfl rfl rfl trivial) ?_
                      refine s_v (o_as (.sc (.bool _)) rfl) ?_
                      refine s_nil ?_
                      refine H28959 _ _ ?_
                      clear H28959 K28959
                      refine AW_joinG (n := 225) hm (σ := (List TSnap) × (List TChunk) × (List TExp) × (List TVol) × Int) (τ := AGh × AGh × AGh × AGh) (fun g s => HOk h [(some k37, .obj 27 ([.sc (.int .i64 y22.Seq), aw g.1.t g.1.n g.1.cap, aw g.2.1.t g.2.1.n g.2.1.cap, aw g.2.2.1.t g.2.2.1.n g.2.2.1.cap, aw g.2.2.2.t g.2.2.2.n g.2.2.2.cap])), (g.1.t, .obj 60 (fl c_Snap (s.1 : List TSnap) g.1.sp)), (g.2.1.t, .obj 63 (fl c_Chunk (s.2.1 : List TChunk) g.2.1.sp)), (g.2.2.1.t, .obj 65 (fl c_Exp (s.2.2.1 : List TExp) g.2.2.1.sp)), (g.2.2.2.t, .obj 40 (fl c_Vol (s.2.2.2.1 : List TVol) g.2.2.2.sp)), (some k2, .obj 27 (c_Catalog p0))] ∧ AOk g.1 4 (s.1 : List TSnap).length ∧ AOk g.2.1 35 (s.2.1 : List TChunk).length ∧ AOk g.2.2.1 3 (s.2.2.1 : List TExp).length ∧ AOk g.2.2.2 4 (s.2.2.2.1 : List TVol).length) (fun g s => kp (kp (kp (kp (k0) 8 (.sc (.int .i64 s.2.2.2.2))) 7 (.ptr k37 0)) 3 (.ptr k2 0)) 1 (.sc (.int .i64 p1))) (fun g s => hp h [(some k37, .obj 27 ([.sc (.int .i64 y22.Seq), aw g.1.t g.1.n g.1.cap, aw g.2.1.t g.2.1.n g.2.1.cap, aw g.2.2.1.t g.2.2.1.n g.2.2.1.cap, aw g.2.2.2.t g.2.2.2.n g.2.2.2.cap])), (g.1.t, .obj 60 (fl c_Snap (s.1 : List TSnap) g.1.sp)), (g.2.1.t, .obj 63 (fl c_Chunk (s.2.1 : List TChunk) g.2.1.sp)), (g.2.2.1.t, .obj 65 (fl c_Exp (s.2.2.1 : List TExp) g.2.2.1.sp)), (g.2.2.2.t, .obj 40 (fl c_Vol (s.2.2.2.1 : List TVol) g.2.2.2.sp)), (some k2, .obj 27 (c_Catalog p0))]) (fun x hm => ?_) ?_
                      · refine AW_if' rfl (fun hc29915 => ?_) (fun hc29915 => ?_)
                        · replace hm := ite_t hm hc29915
                          refine AW_k fun K29916 H29916 => ?_
                          refine AW_reg ?_
                          refine s_v (o_flp fd27_2 rfl rfl) ?_
                          refine s_v (o_ldp (aw ag28.t ag28.n ag28.cap) ld23 rfl (hp_get 0 hk40 rfl) rfl) ?_
                          refine s_v (o_lenA ln23 ok29 rfl) ?_
                          refine s_v (o_as (.sc (.int _ _)) rfl) ?_
                          refine s_nil ?_
                          refine H29916 _ _ ?_
                          clear H29916 K29916
                          refine AW_k fun K29917 H29917 => ?_
                          refine AW_reg ?_
                          refine s_v (o_mv (.sc (.int _ _)) rfl) ?_
                          refine s_v (o_bi rfl rfl rfl trivial) ?_
                          refine s_nil ?_
                          refine H29917 _ _ ?_
                          clear H29917 K29917
                          refine AW_joinG (n := 225) hm (σ := (List TChunk)) (τ := AGh) (fun g s => HOk h [(some k37, .obj 27 ([.sc (.int .i64 y22.Seq), aw ag25.t ag25.n ag25.cap, aw g.t g.n g.cap, aw ag31.t ag31.n ag31.cap, aw ag34.t ag34.n ag34.cap])), (ag25.t, .obj 60 (fl c_Snap (y22.Snaps : List TSnap) ag25.sp)), (g.t, .obj 63 (fl c_Chunk (s : List TChunk) g.sp)), (ag31.t, .obj 65 (fl c_Exp (y22.Exps : List TExp) ag31.sp)), (ag34.t, .obj 40 (fl c_Vol (y22.Vols : List TVol) ag34.sp)), (some k2, .obj 27 (c_Catalog p0))] ∧ AOk g 35 (s : List TChunk).length) (fun g s => kp (kp (kp (kp (k0) 8 (.sc (.int .i64 (y22.Chunks.length : Int)))) 7 (.ptr k37 0)) 3 (.ptr k2 0)) 1 (.sc (.int .i64 p1))) (fun g s => hp h [(some k37, .obj 27 ([.sc (.int .i64 y22.Seq), aw ag25.t ag25.n ag25.cap, aw g.t g.n g.cap, aw ag31.t ag31.n ag31.cap, aw ag34.t ag34.n ag34.cap])), (ag25.t, .obj 60 (fl c_Snap (y22.Snaps : List TSnap) ag25.sp)), (g.t, .obj 63 (fl c_Chunk (s : List TChunk) g.sp)), (ag31.t, .obj 65 (fl c_Exp (y22.Exps : List TExp) ag31.sp)), (ag34.t, .obj 40 (fl c_Vol (y22.Vols : List TVol) ag34.sp)), (some k2, .obj 27 (c_Catalog p0))]) (fun x hm => ?_) ?_
                          · refine AW_if' rfl (fun hc29929 => ?_) (fun hc29929 => ?_)
                            · replace hm := ite_t hm hc29929
                              refine AW_k fun K29930 H29930 => ?_
                              refine AW_region_q [(some 81, [7], []), (some 82, [81], [0]), (some 83, [2], []), (some 84, [83], [2]), (some 85, [8], []), (some 86, [85], [4]), (some 87, [84, 86], [3, 5]), (some 88, [87], [6]), (some 89, [82, 88], [1, 7]), (some 10, [89], [8, 0, 1, 2, 3, 4, 5, 6, 7, 8])] mixed (by kernel_rfl) (by kernel_rfl) ?_
                              refine q_v (o_flp fd27_2 rfl rfl) ?_
                              refine q_v (o_ldp (aw ag28.t ag28.n ag28.cap) ld23 rfl (hp_get 0 hk40 rfl) rfl) ?_
                              refine q_v (o_mv (.sc (.int _ _)) rfl) ?_
                              refine q_v (o_cv ti3 ti46 rfl) ?_
                              refine q_v (o_mv (.sc (.int _ _)) rfl) ?_
                              refine q_v (o_cv ti3 ti46 rfl) ?_
                              obtain ⟨hz29931, hm⟩ := grd_of hm
                              refine q_v (o_bi rfl rfl rfl (bne_z hz29931)) ?_
                              refine q_v (o_cv ti46 ti3 rfl) ?_
                              obtain ⟨x29932, hx29933, hm⟩ := bind_of hm
                              refine q_v (o_ixA hx29933 el23 ok29 rfl rfl) ?_
                              refine q_v (o_as (apt _ _) rfl) ?_
                              refine q_nil ?_
                              refine H29930 _ _ ?_
                              clear H29930 K29930
                              refine AW_reg ?_
                              refine s_v (o_mv (apt _ _) rfl) ?_
                              refine s_v (o_mv (apt _ _) rfl) ?_
                              refine s_v (o_mv (apt _ _) rfl) ?_
                              refine s_v (o_nilA (AOk.ne ok29 hx29933) rfl) ?_
                              refine s_v (o_flA (AOk.ne ok29 hx29933) fd63_1 rfl rfl) ?_
                              refine s_op (a_storeA (fo := 32) ({ x29932 with Staged := false } : TChunk) 2 hk40 hx29933 cz_Chunk ok29 rfl rfl rfl rfl (ALeL.refl _ _) sz4 rfl rfl fun hk29934 => ?_)
                              refine s_v (o_nilA (AOk.ne (AOk.set ok29) (ix_set (x' := ({ x29932 with Staged := false } : TChunk)) hx29933)) rfl) ?_
                              refine s_v (o_flA (AOk.ne (AOk.set ok29) (ix_set (x' := ({ x29932 with Staged := false } : TChunk)) hx29933)) fd63_2 rfl rfl) ?_
                              refine s_op (a_storeA (fo := 33) ({ ({ x29932 with Staged := false } : TChunk) with Data := ([] : List Int) } : TChunk) 2 hk29934 (ix_set (x' := ({ x29932 with Staged := false } : TChunk)) hx29933) cz_Chunk (AOk.set ok29) rfl rfl rfl rfl (.cons (nil_lem _) .nil) sz52 rfl rfl fun hk29935 => ?_)
                              refine s_v (o_nilA (AOk.ne (AOk.set (AOk.set ok29)) (ix_set (x' := ({ ({ x29932 with Staged := false } : TChunk) with Data := ([] : List Int) } : TChunk)) (ix_set (x' := ({ x29932 with Staged := false } : TChunk)) hx29933))) rfl) ?_
                              refine s_v (o_flA (AOk.ne (AOk.set (AOk.set ok29)) (ix_set (x' := ({ ({ x29932 with Staged := false } : TChunk) with Data := ([] : List Int) } : TChunk)) (ix_set (x' := ({ x29932 with Staged := false } : TChunk)) hx29933))) fd63_3 rfl rfl) ?_
                              refine s_op (a_storeA (fo := 34) ({ ({ ({ x29932 with Staged := false } : TChunk) with Data := ([] : List Int) } : TChunk) with Locs := ([] : List TLoc) } : TChunk) 2 hk29935 (ix_set (x' := ({ ({ x29932 with Staged := false } : TChunk) with Data := ([] : List Int) } : TChunk)) (ix_set (x' := ({ x29932 with Staged := false } : TChunk)) hx29933)) cz_Chunk (AOk.set (AOk.set ok29)) rfl rfl rfl rfl (.cons (nil_lem _) .nil) sz58 rfl rfl fun hk29936 => ?_)
                              refine s_nil ?_
                              cases hm
                              exact ⟨rfl, ag28, ⟨hk29936, (AOk.set (AOk.set (AOk.set ok29)))⟩, LeF.fm (Sub.refl _) (.cons (ALe.refl _ _) (.cons (ALe.refl _ _) (.cons (ALe.refl _ _) (.cons (ALe.refl _ _) (.nil)))))⟩
                            · replace hm := ite_f hm hc29929
                              refine AW_skip ?_
                              cases hm
                              exact ⟨rfl, ag28, ⟨hk40, ok29⟩, LeF.fm (Sub.refl _) (.cons (ALe.refl _ _) (.cons (ALe.refl _ _) (.cons (ALe.refl _ _) (.cons (ALe.refl _ _) (.nil)))))⟩
                          · rintro ag29927 j29926 fr' h' ⟨hk29937, ok29928⟩ hm le
                            cases hm
                            exact ⟨rfl, (ag25, ag29927, ag31, ag34), ⟨hk29937, ok26, ok29928, ok32, ok35⟩, LeF.trans le (LeF.fm (Sub.refl _) (.cons (ALe.refl _ _) (.cons (ALe.refl _ _) (.cons (ALe.refl _ _) (.cons (ALe.refl _ _) (.nil))))))⟩
                        · replace hm := ite_f hm hc29915
                          refine AW_k fun K29938 H29938 => ?_
                          refine AW_reg ?_
                          refine s_v (o_bi rfl rfl rfl trivial) ?_
                          refine s_v (o_as (.sc (.bool _)) rfl) ?_
                          refine s_nil ?_
                          refine H29938 _ _ ?_
                          clear H29938 K29938
                          refine AW_joinG (n := 225) hm (σ := (List TSnap) × (List TChunk) × (List TExp) × (List TVol) × Int) (τ := AGh × AGh × AGh × AGh) (fun g s => HOk h [(some k37, .obj 27 ([.sc (.int .i64 y22.Seq), aw g.1.t g.1.n g.1.cap, aw g.2.1.t g.2.1.n g.2.1.cap, aw g.2.2.1.t g.2.2.1.n g.2.2.1.cap, aw g.2.2.2.t g.2.2.2.n g.2.2.2.cap])), (g.1.t, .obj 60 (fl c_Snap (s.1 : List TSnap) g.1.sp)), (g.2.1.t, .obj 63 (fl c_Chunk (s.2.1 : List TChunk) g.2.1.sp)), (g.2.2.1.t, .obj 65 (fl c_Exp (s.2.2.1 : List TExp) g.2.2.1.sp)), (g.2.2.2.t, .obj 40 (fl c_Vol (s.2.2.2.1 : List TVol) g.2.2.2.sp)), (some k2, .obj 27 (c_Catalog p0))] ∧ AOk g.1 4 (s.1 : List TSnap).length ∧ AOk g.2.1 35 (s.2.1 : List TChunk).length ∧ AOk g.2.2.1 3 (s.2.2.1 : List TExp).length ∧ AOk g.2.2.2 4 (s.2.2.2.1 : List TVol).length) (fun g s => kp (kp (kp (kp (k0) 8 (.sc (.int .i64 s.2.2.2.2))) 7 (.ptr k37 0)) 3 (.ptr k2 0)) 1 (.sc (.int .i64 p1))) (fun g s => hp h [(some k37, .obj 27 ([.sc (.int .i64 y22.Seq), aw g.1.t g.1.n g.1.cap, aw g.2.1.t g.2.1.n g.2.1.cap, aw g.2.2.1.t g.2.2.1.n g.2.2.1.cap, aw g.2.2.2.t g.2.2.2.n g.2.2.2.cap])), (g.1.t, .obj 60 (fl c_Snap (s.1 : List TSnap) g.1.sp)), (g.2.1.t, .obj 63 (fl c_Chunk (s.2.1 : List TChunk) g.2.1.sp)), (g.2.2.1.t, .obj 65 (fl c_Exp (s.2.2.1 : List TExp) g.2.2.1.sp)), (g.2.2.2.t, .obj 40 (fl c_Vol (s.2.2.2.1 : List TVol) g.2.2.2.sp)), (some k2, .obj 27 (c_Catalog p0))]) (fun x hm => ?_) ?_
                          · refine AW_if' rfl (fun hc30404 => ?_) (fun hc30404 => ?_)
                            · replace hm := ite_t hm hc30404
                              refine AW_k fun K30405 H30405 => ?_
                              refine AW_k fun K30406 H30406 => ?_
                              refine AW_reg ?_
                              refine s_v (o_flp fd27_2 rfl rfl) ?_
                              refine s_v (o_ldp (aw ag28.t ag28.n ag28.cap) ld23 rfl (hp_get 0 hk40 rfl) rfl) ?_
                              refine s_v (o_lenA ln23 ok29 rfl) ?_
                              refine s_v (o_as (.sc (.int _ _)) rfl) ?_
                              refine s_nil ?_
                              refine H30406 _ _ ?_
                              clear H30406 K30406
                              refine AW_k fun K30407 H30407 => ?_
                              refine AW_reg ?_
                              refine s_v (o_mv (.sc (.int _ _)) rfl) ?_
                              refine s_v (o_bi rfl rfl rfl trivial) ?_
                              refine s_nil ?_
                              refine H30407 _ _ ?_
                              clear H30407 K30407
                              refine AW_joinG (n := 225) hm (σ := (List TChunk)) (τ := AGh) (fun g s => HOk h [(some k37, .obj 27 ([.sc (.int .i64 y22.Seq), aw ag25.t ag25.n ag25.cap, aw g.t g.n g.cap, aw ag31.t ag31.n ag31.cap, aw ag34.t ag34.n ag34.cap])), (ag25.t, .obj 60 (fl c_Snap (y22.Snaps : List TSnap) ag25.sp)), (g.t, .obj 63 (fl c_Chunk (s : List TChunk) g.sp)), (ag31.t, .obj 65 (fl c_Exp (y22.Exps : List TExp) ag31.sp)), (ag34.t, .obj 40 (fl c_Vol (y22.Vols : List TVol) ag34.sp)), (some k2, .obj 27 (c_Catalog p0))] ∧ AOk g 35 (s : List TChunk).length) (fun g s => kp (kp (kp (kp (k0) 8 (.sc (.int .i64 (y22.Chunks.length : Int)))) 7 (.ptr k37 0)) 3 (.ptr k2 0)) 1 (.sc (.int .i64 p1))) (fun g s => hp h [(some k37, .obj 27 ([.sc (.int .i64 y22.Seq), aw ag25.t ag25.n ag25.cap, aw g.t g.n g.cap, aw ag31.t ag31.n ag31.cap, aw ag34.t ag34.n ag34.cap])), (ag25.t, .obj 60 (fl c_Snap (y22.Snaps : List TSnap) ag25.sp)), (g.t, .obj 63 (fl c_Chunk (s : List TChunk) g.sp)), (ag31.t, .obj 65 (fl c_Exp (y22.Exps : List TExp) ag31.sp)), (ag34.t, .obj 40 (fl c_Vol (y22.Vols : List TVol) ag34.sp)), (some k2, .obj 27 (c_Catalog p0))]) (fun x hm => ?_) ?_
                              · refine AW_if' rfl (fun hc30434 => ?_) (fun hc30434 => ?_)
                                · replace hm := ite_t hm hc30434
                                  refine AW_k fun K30435 H30435 => ?_
                                  refine AW_reg ?_
                                  refine s_v (o_mv (.sc (.int _ _)) rfl) ?_
                                  refine s_v (o_cv ti3 ti46 rfl) ?_
                                  refine s_v (o_mv (.sc (.int _ _)) rfl) ?_
                                  refine s_v (o_bi rfl rfl rfl trivial) ?_
                                  refine s_v (o_cv ti3 ti46 rfl) ?_
                                  obtain ⟨hz30436, hm⟩ := grd_of hm
                                  refine s_v (o_bi rfl rfl rfl (bne_z hz30436)) ?_
                                  refine s_v (o_cv ti46 ti3 rfl) ?_
                                  refine s_v (o_as (.sc (.int _ _)) rfl) ?_
                                  refine s_nil ?_
                                  refine H30435 _ _ ?_
                                  clear H30435 K30435
                                  refine AW_zreg [(1000000, some k37, .obj 27 ([.sc (.int .i64 y22.Seq), aw ag25.t ag25.n ag25.cap, aw ag28.t ag28.n ag28.cap, aw ag31.t ag31.n ag31.cap, aw ag34.t ag34.n ag34.cap])), (19, ag28.t, .obj 63 (fl c_Chunk (y22.Chunks : List TChunk) ag28.sp))] mixed (⟨fun _ => hp_at 0 hk40 rfl, fun _ => hp_at 2 hk40 rfl, trivial⟩) ?_
                                  refine z_v 0 rfl (by kernel_rfl) rfl (fun S' h' hi hB => o_flp fd27_2 rfl rfl) ?_
                                  refine z_v 1 rfl (by kernel_rfl) rfl (fun S' h' hi hB => o_ldp (aw ag28.t ag28.n ag28.cap) ld23 rfl (At.s (InvL.get 0 hi rfl (hB 1000000 (by kernel_rfl)))) rfl) ?_
                                  refine z_v 2 rfl (by kernel_rfl) rfl (fun S' h' hi hB => o_mv (.sc (.int _ _)) rfl) ?_
                                  refine z_v 3 rfl (by kernel_rfl) rfl (fun S' h' hi hB => o_flp fd27_2 rfl rfl) ?_
                                  refine z_v 4 rfl (by kernel_rfl) rfl (fun S' h' hi hB => o_ldp (aw ag28.t ag28.n ag28.cap) ld23 rfl (At.s (InvL.get 0 hi rfl (hB 1000000 (by kernel_rfl)))) rfl) ?_
                                  refine z_v 5 rfl (by kernel_rfl) rfl (fun S' h' hi hB => o_mv (.sc (.int _ _)) rfl) ?_
                                  refine z_v 6 rfl (by kernel_rfl) rfl (fun S' h' hi hB => o_bi rfl rfl rfl trivial) ?_
                                  refine z_v 7 rfl (by kernel_rfl) rfl (fun S' h' hi hB => o_flp fd27_2 rfl rfl) ?_
                                  refine z_v 8 rfl (by kernel_rfl) rfl (fun S' h' hi hB => o_ldp (aw ag28.t ag28.n ag28.cap) ld23 rfl (At.s (InvL.get 0 hi rfl (hB 1000000 (by kernel_rfl)))) rfl) ?_
                                  refine z_v 9 rfl (by kernel_rfl) rfl (fun S' h' hi hB => o_mv (.sc (.int _ _)) rfl) ?_
                                  refine z_v 10 rfl (by kernel_rfl) rfl (fun S' h' hi hB => o_bi rfl rfl rfl trivial) ?_
                                  obtain ⟨x30447, hx30448, hm⟩ := bind_of hm
                                  refine z_v 11 rfl (by kernel_rfl) rfl (fun S' h' hi hB => o_ixA hx30448 el23 ok29 rfl rfl) ?_
                                  refine z_v 12 rfl (by kernel_rfl) rfl (fun S' h' hi hB => o_ldA (fo := 0) (.agg (c_Chunk x30447)) hx30448 cz_Chunk ok29 ld63 rfl (InvL.get 1 hi rfl (hB 19 (by kernel_rfl))) (fun _ => rfl)) ?_
                                  refine z_v 13 rfl (by kernel_rfl) rfl (fun S' h' hi hB => o_flp fd27_2 rfl rfl) ?_
                                  refine z_v 14 rfl (by kernel_rfl) rfl (fun S' h' hi hB => o_ldp (aw ag28.t ag28.n ag28.cap) ld23 rfl (At.s (InvL.get 0 hi rfl (hB 1000000 (by kernel_rfl)))) rfl) ?_
                                  refine z_v 15 rfl (by kernel_rfl) rfl (fun S' h' hi hB => o_mv (.sc (.int _ _)) rfl) ?_
                                  obtain ⟨x30449, hx30450, hm⟩ := bind_of hm
                                  refine z_v 16 rfl (by kernel_rfl) rfl (fun S' h' hi hB => o_ixA hx30450 el23 ok29 rfl rfl) ?_
                                  refine z_v 17 rfl (by kernel_rfl) rfl (fun S' h' hi hB => o_ldA (fo := 0) (.agg (c_Chunk x30449)) hx30450 cz_Chunk ok29 ld63 rfl (InvL.get 1 hi rfl (hB 19 (by kernel_rfl))) (fun _ => rfl)) ?_
                                  obtain ⟨x30451, hx30452, hm⟩ := bind_of hm
                                  refine z_v 18 rfl (by kernel_rfl) rfl (fun S' h' hi hB => o_ixA hx30452 el23 ok29 rfl rfl) ?_
                                  refine z_e 19 rfl (by kernel_rfl) (a_storeA (fo := 0) (x30447 : TChunk) 2 hk40 hx30452 cz_Chunk ok29 rfl rfl rfl rfl (ALeL.refl _ _) sz63 rfl rfl fun hk30453 => ⟨⟨fun _ => hp_at 0 hk30453 rfl, fun e => absurd e (by decide), trivial⟩, ?_⟩)
                                  obtain ⟨x30454, hx30455, hm⟩ := bind_of hm
                                  refine z_v 20 rfl (by kernel_rfl) rfl (fun S' h' hi hB => o_ixA hx30455 el23 (AOk.set ok29) rfl rfl) ?_
                                  refine z_e 21 rfl (by kernel_rfl) (a_storeA (fo := 0) (x30449 : TChunk) 2 hk30453 hx30455 cz_Chunk (AOk.set ok29) rfl rfl rfl rfl (ALeL.refl _ _) sz63 rfl rfl fun hk30456 => ⟨⟨fun _ => hp_at 0 hk30456 rfl, fun e => absurd e (by decide), trivial⟩, ?_⟩)
                                  refine z_nil (by kernel_rfl) ?_
                                  cases hm
                                  exact ⟨rfl, ag28, ⟨hk30456, (AOk.set (AOk.set ok29))⟩, LeF.fm (Sub.refl _) (.cons (ALe.refl _ _) (.cons (ALe.refl _ _) (.cons (ALe.refl _ _) (.cons (ALe.refl _ _) (.nil)))))⟩
                                · replace hm := ite_f hm hc30434
                                  refine AW_skip ?_
                                  cases hm
                                  exact ⟨rfl, ag28, ⟨hk40, ok29⟩, LeF.fm (Sub.refl _) (.cons (ALe.refl _ _) (.cons (ALe.refl _ _) (.cons (ALe.refl _ _) (.cons (ALe.refl _ _) (.nil)))))⟩
                              · rintro ag30432 j30431 fr' h' ⟨hk30457, ok30433⟩ hm le
                                refine H30405 _ _ (le.aw ?_)
                                clear le H30405 K30405
                                refine AW_reg ?_
                                refine s_v (o_mv (.sc (.int _ _)) rfl) ?_
                                refine s_v (o_bi rfl rfl rfl trivial) ?_
                                refine s_v (o_as (.sc (.int _ _)) rfl) ?_
                                refine s_nil ?_
                                cases hm
                                exact ⟨rfl, (ag25, ag30432, ag31, ag34), ⟨hk30457, ok26, ok30433, ok32, ok35⟩, LeF.fm (Sub.refl _) (.cons (ALe.refl _ _) (.cons (ALe.refl _ _) (.cons (ALe.refl _ _) (.cons (ALe.refl _ _) (.nil)))))⟩
                            · replace hm := ite_f hm hc30404
                              refine AW_k fun K30458 H30458 => ?_
                              refine AW_reg ?_
                              refine s_v (o_bi rfl rfl rfl trivial) ?_
                              refine s_v (o_as (.sc (.bool _)) rfl) ?_
                              refine s_nil ?_
                              refine H30458 _ _ ?_
                              clear H30458 K30458
                              refine AW_joinG (n := 225) hm (σ := (List TSnap) × (List TExp) × (List TVol) × Int) (τ := AGh × AGh × AGh) (fun g s => HOk h [(some k37, .obj 27 ([.sc (.int .i64 y22.Seq), aw g.1.t g.1.n g.1.cap, aw ag28.t ag28.n ag28.cap, aw g.2.1.t g.2.1.n g.2.1.cap, aw g.2.2.t g.2.2.n g.2.2.cap])), (g.1.t, .obj 60 (fl c_Snap (s.1 : List TSnap) g.1.sp)), (ag28.t, .obj 63 (fl c_Chunk (y22.Chunks : List TChunk) ag28.sp)), (g.2.1.t, .obj 65 (fl c_Exp (s.2.1 : List TExp) g.2.1.sp)), (g.2.2.t, .obj 40 (fl c_Vol (s.2.2.1 : List TVol) g.2.2.sp)), (some k2, .obj 27 (c_Catalog p0))] ∧ AOk g.1 4 (s.1 : List TSnap).length ∧ AOk g.2.1 3 (s.2.1 : List TExp).length ∧ AOk g.2.2 4 (s.2.2.1 : List TVol).length) (fun g s => kp (kp (kp (kp (k0) 8 (.sc (.int .i64 s.2.2.2))) 7 (.ptr k37 0)) 3 (.ptr k2 0)) 1 (.sc (.int .i64 p1))) (fun g s => hp h [(some k37, .obj 27 ([.sc (.int .i64 y22.Seq), aw g.1.t g.1.n g.1.cap, aw ag28.t ag28.n ag28.cap, aw g.2.1.t g.2.1.n g.2.1.cap, aw g.2.2.t g.2.2.n g.2.2.cap])), (g.1.t, .obj 60 (fl c_Snap (s.1 : List TSnap) g.1.sp)), (ag28.t, .obj 63 (fl c_Chunk (y22.Chunks : List TChunk) ag28.sp)), (g.2.1.t, .obj 65 (fl c_Exp (s.2.1 : List TExp) g.2.1.sp)), (g.2.2.t, .obj 40 (fl c_Vol (s.2.2.1 : List TVol) g.2.2.sp)), (some k2, .obj 27 (c_Catalog p0))]) (fun x hm => ?_) ?_
                              · refine AW_if' rfl (fun hc30662 => ?_) (fun hc30662 => ?_)
                                · replace hm := ite_t hm hc30662
                                  refine AW_k fun K30663 H30663 => ?_
                                  refine AW_reg ?_
                                  refine s_v (o_flp fd27_1 rfl rfl) ?_
                                  refine s_v (o_ldp (aw ag25.t ag25.n ag25.cap) ld22 rfl (hp_get 0 hk40 rfl) rfl) ?_
                                  refine s_v (o_lenA ln22 ok26 rfl) ?_
                                  refine s_v (o_as (.sc (.int _ _)) rfl) ?_
                                  refine s_nil ?_
                                  refine H30663 _ _ ?_
                                  clear H30663 K30663
                                  refine AW_k fun K30664 H30664 => ?_
                                  refine AW_reg ?_
                                  refine s_v (o_mv (.sc (.int _ _)) rfl) ?_
                                  refine s_v (o_bi rfl rfl rfl trivial) ?_
                                  refine s_nil ?_
                                  refine H30664 _ _ ?_
                                  clear H30664 K30664
                                  refine AW_joinG (n := 225) hm (σ := (List TSnap)) (τ := AGh) (fun g s => HOk h [(some k37, .obj 27 ([.sc (.int .i64 y22.Seq), aw g.t g.n g.cap, aw ag28.t ag28.n ag28.cap, aw ag31.t ag31.n ag31.cap, aw ag34.t ag34.n ag34.cap])), (g.t, .obj 60 (fl c_Snap (s : List TSnap) g.sp)), (ag28.t, .obj 63 (fl c_Chunk (y22.Chunks : List TChunk) ag28.sp)), (ag31.t, .obj 65 (fl c_Exp (y22.Exps : List TExp) ag31.sp)), (ag34.t, .obj 40 (fl c_Vol (y22.Vols : List TVol) ag34.sp)), (some k2, .obj 27 (c_Catalog p0))] ∧ AOk g 4 (s : List TSnap).length) (fun g s => kp (kp (kp (kp (k0) 8 (.sc (.int .i64 (y22.Snaps.length : Int)))) 7 (.ptr k37 0)) 3 (.ptr k2 0)) 1 (.sc (.int .i64 p1))) (fun g s => hp h [(some k37, .obj 27 ([.sc (.int .i64 y22.Seq), aw g.t g.n g.cap, aw ag28.t ag28.n ag28.cap, aw ag31.t ag31.n ag31.cap, aw ag34.t ag34.n ag34.cap])), (g.t, .obj 60 (fl c_Snap (s : List TSnap) g.sp)), (ag28.t, .obj 63 (fl c_Chunk (y22.Chunks : List TChunk) ag28.sp)), (ag31.t, .obj 65 (fl c_Exp (y22.Exps : List TExp) ag31.sp)), (ag34.t, .obj 40 (fl c_Vol (y22.Vols : List TVol) ag34.sp)), (some k2, .obj 27 (c_Catalog p0))]) (fun x hm => ?_) ?_
                                  · refine AW_if' rfl (fun hc30677 => ?_) (fun hc30677 => ?_)
                                    · replace hm := ite_t hm hc30677
                                      refine AW_zreg [(1000000, some k37, .obj 27 ([.sc (.int .i64 y22.Seq), aw ag25.t ag25.n ag25.cap, aw ag28.t ag28.n ag28.cap, aw ag31.t ag31.n ag31.cap, aw ag34.t ag34.n ag34.cap]))] mixed (⟨fun _ => hp_at 0 hk40 rfl, trivial⟩) ?_
                                      refine z_v 0 rfl (by kernel_rfl) rfl (fun S' h' hi hB => o_flp fd27_1 rfl rfl) ?_
                                      refine z_v 1 rfl (by kernel_rfl) rfl (fun S' h' hi hB => o_ldp (aw ag25.t ag25.n ag25.cap) ld22 rfl (At.s (InvL.get 0 hi rfl (hB 1000000 (by kernel_rfl)))) rfl) ?_
                                      refine z_v 2 rfl (by kernel_rfl) rfl (fun S' h' hi hB => o_mv (.sc (.int _ _)) rfl) ?_
                                      refine z_v 3 rfl (by kernel_rfl) rfl (fun S' h' hi hB => o_cv ti3 ti46 rfl) ?_
                                      refine z_v 4 rfl (by kernel_rfl) rfl (fun S' h' hi hB => o_mv (.sc (.int _ _)) rfl) ?_
                                      refine z_v 5 rfl (by kernel_rfl) rfl (fun S' h' hi hB => o_cv ti3 ti46 rfl) ?_
                                      obtain ⟨hz30682, hm⟩ := grd_of hm
                                      refine z_v 6 rfl (by kernel_rfl) rfl (fun S' h' hi hB => o_bi rfl rfl rfl (bne_z hz30682)) ?_
                                      refine z_v 7 rfl (by kernel_rfl) rfl (fun S' h' hi hB => o_cv ti46 ti3 rfl) ?_
                                      obtain ⟨x30683, hx30684, hm⟩ := bind_of hm
                                      refine z_v 8 rfl (by kernel_rfl) rfl (fun S' h' hi hB => o_ixA hx30684 el22 ok26 rfl rfl) ?_
                                      refine z_v 9 rfl (by kernel_rfl) rfl (fun S' h' hi hB => o_flA (AOk.ne ok26 hx30684) fd60_1 rfl rfl) ?_
                                      refine z_v 10 rfl (by kernel_rfl) rfl (fun S' h' hi hB => o_flA (AOk.ne ok26 hx30684) fd57_0 rfl rfl) ?_
                                      refine z_e 11 rfl (by kernel_rfl) (a_storeA (fo := 1) ({ x30683 with Man := { x30683.Man with Name := (ByteArray.mk #[]) } } : TSnap) 1 hk40 hx30684 cz_Snap ok26 rfl rfl rfl rfl (ALeL.refl _ _) sz9 rfl rfl fun hk30685 => ⟨⟨fun _ => hp_at 0 hk30685 rfl, trivial⟩, ?_⟩)
                                      refine z_nil (by kernel_rfl) ?_
                                      cases hm
                                      exact ⟨rfl, ag25, ⟨hk30685, (AOk.set ok26)⟩, LeF.fm (Sub.refl _) (.cons (ALe.refl _ _) (.cons (ALe.refl _ _) (.cons (ALe.refl _ _) (.cons (ALe.refl _ _) (.nil)))))⟩
                                    · replace hm := ite_f hm hc30677
                                      refine AW_skip ?_
                                      cases hm
                                      exact ⟨rfl, ag25, ⟨hk40, ok26⟩, LeF.fm (Sub.refl _) (.cons (ALe.refl _ _) (.cons (ALe.refl _ _) (.cons (ALe.refl _ _) (.cons (ALe.refl _ _) (.nil)))))⟩
                                  · rintro ag30675 j30674 fr' h' ⟨hk30686, ok30676⟩ hm le
                                    cases hm
                                    exact ⟨rfl, (ag30675, ag31, ag34), ⟨hk30686, ok30676, ok32, ok35⟩, LeF.trans le (LeF.fm (Sub.refl _) (.cons (ALe.refl _ _) (.cons (ALe.refl _ _) (.cons (ALe.refl _ _) (.cons (ALe.refl _ _) (.nil))))))⟩
                                · replace hm := ite_f hm hc30662
                                  refine AW_k fun K30687 H30687 => ?_
                                  refine AW_reg ?_
                                  refine s_v (o_bi rfl rfl rfl trivial) ?_
                                  refine s_v (o_as (.sc (.bool _)) rfl) ?_
                                  refine s_nil ?_
                                  refine H30687 _ _ ?_
                                  clear H30687 K30687
                                  refine AW_joinG (n := 225) hm (σ := (List TSnap) × (List TExp) × (List TVol) × Int) (τ := AGh × AGh × AGh) (fun g s => HOk h [(some k37, .obj 27 ([.sc (.int .i64 y22.Seq), aw g.1.t g.1.n g.1.cap, aw ag28.t ag28.n ag28.cap, aw g.2.1.t g.2.1.n g.2.1.cap, aw g.2.2.t g.2.2.n g.2.2.cap])), (g.1.t, .obj 60 (fl c_Snap (s.1 : List TSnap) g.1.sp)), (ag28.t, .obj 63 (fl c_Chunk (y22.Chunks : List TChunk) ag28.sp)), (g.2.1.t, .obj 65 (fl c_Exp (s.2.1 : List TExp) g.2.1.sp)), (g.2.2.t, .obj 40 (fl c_Vol (s.2.2.1 : List TVol) g.2.2.sp)), (some k2, .obj 27 (c_Catalog p0))] ∧ AOk g.1 4 (s.1 : List TSnap).length ∧ AOk g.2.1 3 (s.2.1 : List TExp).length ∧ AOk g.2.2 4 (s.2.2.1 : List TVol).length) (fun g s => kp (kp (kp (kp (k0) 8 (.sc (.int .i64 s.2.2.2))) 7 (.ptr k37 0)) 3 (.ptr k2 0)) 1 (.sc (.int .i64 p1))) (fun g s => hp h [(some k37, .obj 27 ([.sc (.int .i64 y22.Seq), aw g.1.t g.1.n g.1.cap, aw ag28.t ag28.n ag28.cap, aw g.2.1.t g.2.1.n g.2.1.cap, aw g.2.2.t g.2.2.n g.2.2.cap])), (g.1.t, .obj 60 (fl c_Snap (s.1 : List TSnap) g.1.sp)), (ag28.t, .obj 63 (fl c_Chunk (y22.Chunks : List TChunk) ag28.sp)), (g.2.1.t, .obj 65 (fl c_Exp (s.2.1 : List TExp) g.2.1.sp)), (g.2.2.t, .obj 40 (fl c_Vol (s.2.2.1 : List TVol) g.2.2.sp)), (some k2, .obj 27 (c_Catalog p0))]) (fun x hm => ?_) ?_
                                  · refine AW_if' rfl (fun hc30776 => ?_) (fun hc30776 => ?_)
                                    · replace hm := ite_t hm hc30776
                                      refine AW_k fun K30777 H30777 => ?_
                                      refine AW_reg ?_
                                      refine s_v (o_flp fd27_1 rfl rfl) ?_
                                      refine s_v (o_ldp (aw ag25.t ag25.n ag25.cap) ld22 rfl (hp_get 0 hk40 rfl) rfl) ?_
                                      refine s_v (o_lenA ln22 ok26 rfl) ?_
                                      refine s_v (o_as (.sc (.int _ _)) rfl) ?_
                                      refine s_nil ?_
                                      refine H30777 _ _ ?_
                                      clear H30777 K30777
                                      refine AW_k fun K30778 H30778 => ?_
                                      refine AW_reg ?_
                                      refine s_v (o_mv (.sc (.int _ _)) rfl) ?_
                                      refine s_v (o_bi rfl rfl rfl trivial) ?_
                                      refine s_nil ?_
                                      refine H30778 _ _ ?_
                                      clear H30778 K30778
                                      refine AW_joinG (n := 225) hm (σ := (List TSnap)) (τ := AGh) (fun g s => HOk h [(some k37, .obj 27 ([.sc (.int .i64 y22.Seq), aw g.t g.n g.cap, aw ag28.t ag28.n ag28.cap, aw ag31.t ag31.n ag31.cap, aw ag34.t ag34.n ag34.cap])), (g.t, .obj 60 (fl c_Snap (s : List TSnap) g.sp)), (ag28.t, .obj 63 (fl c_Chunk (y22.Chunks : List TChunk) ag28.sp)), (ag31.t, .obj 65 (fl c_Exp (y22.Exps : List TExp) ag31.sp)), (ag34.t, .obj 40 (fl c_Vol (y22.Vols : List TVol) ag34.sp)), (some k2, .obj 27 (c_Catalog p0))] ∧ AOk g 4 (s : List TSnap).length) (fun g s => kp (kp (kp (kp (k0) 8 (.sc (.int .i64 (y22.Snaps.length : Int)))) 7 (.ptr k37 0)) 3 (.ptr k2 0)) 1 (.sc (.int .i64 p1))) (fun g s => hp h [(some k37, .obj 27 ([.sc (.int .i64 y22.Seq), aw g.t g.n g.cap, aw ag28.t ag28.n ag28.cap, aw ag31.t ag31.n ag31.cap, aw ag34.t ag34.n ag34.cap])), (g.t, .obj 60 (fl c_Snap (s : List TSnap) g.sp)), (ag28.t, .obj 63 (fl c_Chunk (y22.Chunks : List TChunk) ag28.sp)), (ag31.t, .obj 65 (fl c_Exp (y22.Exps : List TExp) ag31.sp)), (ag34.t, .obj 40 (fl c_Vol (y22.Vols : List TVol) ag34.sp)), (some k2, .obj 27 (c_Catalog p0))]) (fun x hm => ?_) ?_
                                      · refine AW_if' rfl (fun hc30786 => ?_) (fun hc30786 => ?_)
                                        · replace hm := ite_t hm hc30786
                                          refine AW_reg ?_
                                          refine s_v (o_flp fd27_1 rfl rfl) ?_
                                          refine s_v (o_ldp (aw ag25.t ag25.n ag25.cap) ld22 rfl (hp_get 0 hk40 rfl) rfl) ?_
                                          refine s_v (o_mv (.sc (.int _ _)) rfl) ?_
                                          refine s_v (o_bi rfl rfl rfl trivial) ?_
                                          refine s_v (o_flp fd27_0 rfl rfl) ?_
                                          refine s_v (o_ldp (.sc (.int .i64 y22.Seq)) ld3 rfl (hp_get 0 hk40 rfl) rfl) ?_
                                          obtain ⟨x30787, hx30788, hm⟩ := bind_of hm
                                          refine s_v (o_ixA hx30788 el22 ok26 rfl rfl) ?_
                                          refine s_v (o_flA (AOk.ne ok26 hx30788) fd60_0 rfl rfl) ?_
                                          refine s_op (a_storeA (fo := 0) ({ x30787 with Seq := y22.Seq } : TSnap) 1 hk40 hx30788 cz_Snap ok26 rfl rfl rfl rfl (ALeL.refl _ _) sz3 rfl rfl fun hk30789 => ?_)
                                          refine s_nil ?_
                                          cases hm
                                          exact ⟨rfl, ag25, ⟨hk30789, (AOk.set ok26)⟩, LeF.fm (Sub.refl _) (.cons (ALe.refl _ _) (.cons (ALe.refl _ _) (.cons (ALe.refl _ _) (.cons (ALe.refl _ _) (.nil)))))⟩
                                        · replace hm := ite_f hm hc30786
                                          refine AW_skip ?_
                                          cases hm
                                          exact ⟨rfl, ag25, ⟨hk40, ok26⟩, LeF.fm (Sub.refl _) (.cons (ALe.refl _ _) (.cons (ALe.refl _ _) (.cons (ALe.refl _ _) (.cons (ALe.refl _ _) (.nil)))))⟩
                                      · rintro ag30784 j30783 fr' h' ⟨hk30790, ok30785⟩ hm le
                                        cases hm
                                        exact ⟨rfl, (ag30784, ag31, ag34), ⟨hk30790, ok30785, ok32, ok35⟩, LeF.trans le (LeF.fm (Sub.refl _) (.cons (ALe.refl _ _) (.cons (ALe.refl _ _) (.cons (ALe.refl _ _) (.cons (ALe.refl _ _) (.nil))))))⟩
                                    · replace hm := ite_f hm hc30776
                                      refine AW_k fun K30791 H30791 => ?_
                                      refine AW_reg ?_
                                      refine s_v (o_bi rfl rfl rfl trivial) ?_
                                      refine s_v (o_as (.sc (.bool _)) rfl) ?_
                                      refine s_nil ?_
                                      refine H30791 _ _ ?_
                                      clear H30791 K30791
                                      refine AW_joinG (n := 225) hm (σ := (List TExp) × (List TVol) × Int) (τ := AGh × AGh) (fun g s => HOk h [(some k37, .obj 27 ([.sc (.int .i64 y22.Seq), aw ag25.t ag25.n ag25.cap, aw ag28.t ag28.n ag28.cap, aw g.1.t g.1.n g.1.cap, aw g.2.t g.2.n g.2.cap])), (ag25.t, .obj 60 (fl c_Snap (y22.Snaps : List TSnap) ag25.sp)), (ag28.t, .obj 63 (fl c_Chunk (y22.Chunks : List TChunk) ag28.sp)), (g.1.t, .obj 65 (fl c_Exp (s.1 : List TExp) g.1.sp)), (g.2.t, .obj 40 (fl c_Vol (s.2.1 : List TVol) g.2.sp)), (some k2, .obj 27 (c_Catalog p0))] ∧ AOk g.1 3 (s.1 : List TExp).length ∧ AOk g.2 4 (s.2.1 : List TVol).length) (fun g s => kp (kp (kp (kp (k0) 8 (.sc (.int .i64 s.2.2))) 7 (.ptr k37 0)) 3 (.ptr k2 0)) 1 (.sc (.int .i64 p1))) (fun g s => hp h [(some k37, .obj 27 ([.sc (.int .i64 y22.Seq), aw ag25.t ag25.n ag25.cap, aw ag28.t ag28.n ag28.cap, aw g.1.t g.1.n g.1.cap, aw g.2.t g.2.n g.2.cap])), (ag25.t, .obj 60 (fl c_Snap (y22.Snaps : List TSnap) ag25.sp)), (ag28.t, .obj 63 (fl c_Chunk (y22.Chunks : List TChunk) ag28.sp)), (g.1.t, .obj 65 (fl c_Exp (s.1 : List TExp) g.1.sp)), (g.2.t, .obj 40 (fl c_Vol (s.2.1 : List TVol) g.2.sp)), (some k2, .obj 27 (c_Catalog p0))]) (fun x hm => ?_) ?_
                                      · refine AW_if' rfl (fun hc30826 => ?_) (fun hc30826 => ?_)
                                        · replace hm := ite_t hm hc30826
                                          refine AW_k fun K30827 H30827 => ?_
                                          refine AW_reg ?_
                                          refine s_v (o_flp fd27_3 rfl rfl) ?_
                                          refine s_v (o_ldp (aw ag31.t ag31.n ag31.cap) ld24 rfl (hp_get 0 hk40 rfl) rfl) ?_
                                          refine s_v (o_lenA ln24 ok32 rfl) ?_
                                          refine s_v (o_as (.sc (.int _ _)) rfl) ?_
                                          refine s_nil ?_
                                          refine H30827 _ _ ?_
                                          clear H30827 K30827
                                          refine AW_k fun K30828 H30828 => ?_
                                          refine AW_reg ?_
                                          refine s_v (o_mv (.sc (.int _ _)) rfl) ?_
                                          refine s_v (o_bi rfl rfl rfl trivial) ?_
                                          refine s_nil ?_
                                          refine H30828 _ _ ?_
                                          clear H30828 K30828
                                          refine AW_joinG (n := 225) hm (σ := (List TExp)) (τ := AGh) (fun g s => HOk h [(some k37, .obj 27 ([.sc (.int .i64 y22.Seq), aw ag25.t ag25.n ag25.cap, aw ag28.t ag28.n ag28.cap, aw g.t g.n g.cap, aw ag34.t ag34.n ag34.cap])), (ag25.t, .obj 60 (fl c_Snap (y22.Snaps : List TSnap) ag25.sp)), (ag28.t, .obj 63 (fl c_Chunk (y22.Chunks : List TChunk) ag28.sp)), (g.t, .obj 65 (fl c_Exp (s : List TExp) g.sp)), (ag34.t, .obj 40 (fl c_Vol (y22.Vols : List TVol) ag34.sp)), (some k2, .obj 27 (c_Catalog p0))] ∧ AOk g 3 (s : List TExp).length) (fun g s => kp (kp (kp (kp (k0) 8 (.sc (.int .i64 (y22.Exps.length : Int)))) 7 (.ptr k37 0)) 3 (.ptr k2 0)) 1 (.sc (.int .i64 p1))) (fun g s => hp h [(some k37, .obj 27 ([.sc (.int .i64 y22.Seq), aw ag25.t ag25.n ag25.cap, aw ag28.t ag28.n ag28.cap, aw g.t g.n g.cap, aw ag34.t ag34.n ag34.cap])), (ag25.t, .obj 60 (fl c_Snap (y22.Snaps : List TSnap) ag25.sp)), (ag28.t, .obj 63 (fl c_Chunk (y22.Chunks : List TChunk) ag28.sp)), (g.t, .obj 65 (fl c_Exp (s : List TExp) g.sp)), (ag34.t, .obj 40 (fl c_Vol (y22.Vols : List TVol) ag34.sp)), (some k2, .obj 27 (c_Catalog p0))]) (fun x hm => ?_) ?_
                                          · refine AW_if' rfl (fun hc30841 => ?_) (fun hc30841 => ?_)
                                            · replace hm := ite_t hm hc30841
                                              refine AW_zreg [(1000000, some k37, .obj 27 ([.sc (.int .i64 y22.Seq), aw ag25.t ag25.n ag25.cap, aw ag28.t ag28.n ag28.cap, aw ag31.t ag31.n ag31.cap, aw ag34.t ag34.n ag34.cap]))] mixed (⟨fun _ => hp_at 0 hk40 rfl, trivial⟩) ?_
                                              refine z_v 0 rfl (by kernel_rfl) rfl (fun S' h' hi hB => o_flp fd27_3 rfl rfl) ?_
                                              refine z_v 1 rfl (by kernel_rfl) rfl (fun S' h' hi hB => o_ldp (aw ag31.t ag31.n ag31.cap) ld24 rfl (At.s (InvL.get 0 hi rfl (hB 1000000 (by kernel_rfl)))) rfl) ?_
                                              refine z_v 2 rfl (by kernel_rfl) rfl (fun S' h' hi hB => o_mv (.sc (.int _ _)) rfl) ?_
                                              refine z_v 3 rfl (by kernel_rfl) rfl (fun S' h' hi hB => o_cv ti3 ti46 rfl) ?_
                                              refine z_v 4 rfl (by kernel_rfl) rfl (fun S' h' hi hB => o_mv (.sc (.int _ _)) rfl) ?_
                                              refine z_v 5 rfl (by kernel_rfl) rfl (fun S' h' hi hB => o_cv ti3 ti46 rfl) ?_
                                              obtain ⟨hz30846, hm⟩ := grd_of hm
                                              refine z_v 6 rfl (by kernel_rfl) rfl (fun S' h' hi hB => o_bi rfl rfl rfl (bne_z hz30846)) ?_
                                              refine z_v 7 rfl (by kernel_rfl) rfl (fun S' h' hi hB => o_cv ti46 ti3 rfl) ?_
                                              obtain ⟨x30847, hx30848, hm⟩ := bind_of hm
                                              refine z_v 8 rfl (by kernel_rfl) rfl (fun S' h' hi hB => o_ixA hx30848 el24 ok32 rfl rfl) ?_
                                              refine z_v 9 rfl (by kernel_rfl) rfl (fun S' h' hi hB => o_flA (AOk.ne ok32 hx30848) fd65_2 rfl rfl) ?_
                                              refine z_e 10 rfl (by kernel_rfl) (a_storeA (fo := 2) ({ x30847 with Locs := ([] : List TLoc) } : TExp) 3 hk40 hx30848 cz_Exp ok32 rfl rfl rfl rfl (.cons (nil_lem _) .nil) sz58 rfl rfl fun hk30849 => ⟨⟨fun _ => hp_at 0 hk30849 rfl, trivial⟩, ?_⟩)
                                              refine z_nil (by kernel_rfl) ?_
                                              cases hm
                                              exact ⟨rfl, ag31, ⟨hk30849, (AOk.set ok32)⟩, LeF.fm (Sub.refl _) (.cons (ALe.refl _ _) (.cons (ALe.refl _ _) (.cons (ALe.refl _ _) (.cons (ALe.refl _ _) (.nil)))))⟩
                                            · replace hm := ite_f hm hc30841
                                              refine AW_skip ?_
                                              cases hm
                                              exact ⟨rfl, ag31, ⟨hk40, ok32⟩, LeF.fm (Sub.refl _) (.cons (ALe.refl _ _) (.cons (ALe.refl _ _) (.cons (ALe.refl _ _) (.cons (ALe.refl _ _) (.nil)))))⟩
                                          · rintro ag30839 j30838 fr' h' ⟨hk30850, ok30840⟩ hm le
                                            cases hm
                                            exact ⟨rfl, (ag30839, ag34), ⟨hk30850, ok30840, ok35⟩, LeF.trans le (LeF.fm (Sub.refl _) (.cons (ALe.refl _ _) (.cons (ALe.refl _ _) (.cons (ALe.refl _ _) (.cons (ALe.refl _ _) (.nil))))))⟩
                                        · replace hm := ite_f hm hc30826
                                          refine AW_reg ?_
                                          refine s_v (o_flp fd27_4 rfl rfl) ?_
                                          refine s_op (a_storeL 0 ([.sc (.int .i64 y22.Seq), aw ag25.t ag25.n ag25.cap, aw ag28.t ag28.n ag28.cap, aw ag31.t ag31.n ag31.cap, aw g0.t g0.n g0.cap]) hk40 rfl rfl rfl rfl (.cons (ALe_nilA _) .nil) sz25 rfl rfl fun hk30852 => ?_)
                                          refine s_nil ?_
                                          cases hm
                                          exact ⟨rfl, (ag31, g0), ⟨(hp_sub (L' := [(some k37, .obj 27 ([.sc (.int .i64 y22.Seq), aw ag25.t ag25.n ag25.cap, aw ag28.t ag28.n ag28.cap, aw ag31.t ag31.n ag31.cap, aw g0.t g0.n g0.cap])), (ag25.t, .obj 60 (fl c_Snap (y22.Snaps : List TSnap) ag25.sp)), (ag28.t, .obj 63 (fl c_Chunk (y22.Chunks : List TChunk) ag28.sp)), (ag31.t, .obj 65 (fl c_Exp (y22.Exps : List TExp) ag31.sp)), (g0.t, .obj 40 (fl c_Vol ([] : List TVol) g0.sp)), (some k2, .obj 27 (c_Catalog p0))]) (List.sublist_append_left _ _) (hp_perm ((.trans (.swap _ _ _) (.cons _ (.trans (.swap _ _ _) (.cons _ (.trans (.swap _ _ _) (.cons _ (.trans (.swap _ _ _) (.cons _ (.cons _ (.swap _ _ _)))))))))) : List.Perm (α := Option Key × Ent) [(g0.t, .obj 40 (fl c_Vol ([] : List TVol) g0.sp)), (some k37, .obj 27 ([.sc (.int .i64 y22.Seq), aw ag25.t ag25.n ag25.cap, aw ag28.t ag28.n ag28.cap, aw ag31.t ag31.n ag31.cap, aw g0.t g0.n g0.cap])), (ag25.t, .obj 60 (fl c_Snap (y22.Snaps : List TSnap) ag25.sp)), (ag28.t, .obj 63 (fl c_Chunk (y22.Chunks : List TChunk) ag28.sp)), (ag31.t, .obj 65 (fl c_Exp (y22.Exps : List TExp) ag31.sp)), (ag34.t, .obj 40 (fl c_Vol (y22.Vols : List TVol) ag34.sp)), (some k2, .obj 27 (c_Catalog p0))] ([(some k37, .obj 27 ([.sc (.int .i64 y22.Seq), aw ag25.t ag25.n ag25.cap, aw ag28.t ag28.n ag28.cap, aw ag31.t ag31.n ag31.cap, aw g0.t g0.n g0.cap])), (ag25.t, .obj 60 (fl c_Snap (y22.Snaps : List TSnap) ag25.sp)), (ag28.t, .obj 63 (fl c_Chunk (y22.Chunks : List TChunk) ag28.sp)), (ag31.t, .obj 65 (fl c_Exp (y22.Exps : List TExp) ag31.sp)), (g0.t, .obj 40 (fl c_Vol ([] : List TVol) g0.sp)), (some k2, .obj 27 (c_Catalog p0))] ++ [(ag34.t, .obj 40 (fl c_Vol (y22.Vols : List TVol) ag34.sp))])) (HOk.none (e := .obj 40 (fl c_Vol ([] : List TVol) g0.sp)) hk30852)).2).2, ok32, (AOk.g0 4)⟩, LeF.fm (Sub_eq (hp_perm ((.trans (.swap _ _ _) (.cons _ (.trans (.swap _ _ _) (.cons _ (.trans (.swap _ _ _) (.cons _ (.trans (.swap _ _ _) (.cons _ (.cons _ (.swap _ _ _)))))))))) : List.Perm (α := Option Key × Ent) [(g0.t, .obj 40 (fl c_Vol ([] : List TVol) g0.sp)), (some k37, .obj 27 ([.sc (.int .i64 y22.Seq), aw ag25.t ag25.n ag25.cap, aw ag28.t ag28.n ag28.cap, aw ag31.t ag31.n ag31.cap, aw g0.t g0.n g0.cap])), (ag25.t, .obj 60 (fl c_Snap (y22.Snaps : List TSnap) ag25.sp)), (ag28.t, .obj 63 (fl c_Chunk (y22.Chunks : List TChunk) ag28.sp)), (ag31.t, .obj 65 (fl c_Exp (y22.Exps : List TExp) ag31.sp)), (ag34.t, .obj 40 (fl c_Vol (y22.Vols : List TVol) ag34.sp)), (some k2, .obj 27 (c_Catalog p0))] ([(some k37, .obj 27 ([.sc (.int .i64 y22.Seq), aw ag25.t ag25.n ag25.cap, aw ag28.t ag28.n ag28.cap, aw ag31.t ag31.n ag31.cap, aw g0.t g0.n g0.cap])), (ag25.t, .obj 60 (fl c_Snap (y22.Snaps : List TSnap) ag25.sp)), (ag28.t, .obj 63 (fl c_Chunk (y22.Chunks : List TChunk) ag28.sp)), (ag31.t, .obj 65 (fl c_Exp (y22.Exps : List TExp) ag31.sp)), (g0.t, .obj 40 (fl c_Vol ([] : List TVol) g0.sp)), (some k2, .obj 27 (c_Catalog p0))] ++ [(ag34.t, .obj 40 (fl c_Vol (y22.Vols : List TVol) ag34.sp))])) (HOk.none (e := .obj 40 (fl c_Vol ([] : List TVol) g0.sp)) hk30852)).1 (hp_sub (L' := [(some k37, .obj 27 ([.sc (.int .i64 y22.Seq), aw ag25.t ag25.n ag25.cap, aw ag28.t ag28.n ag28.cap, aw ag31.t ag31.n ag31.cap, aw g0.t g0.n g0.cap])), (ag25.t, .obj 60 (fl c_Snap (y22.Snaps : List TSnap) ag25.sp)), (ag28.t, .obj 63 (fl c_Chunk (y22.Chunks : List TChunk) ag28.sp)), (ag31.t, .obj 65 (fl c_Exp (y22.Exps : List TExp) ag31.sp)), (g0.t, .obj 40 (fl c_Vol ([] : List TVol) g0.sp)), (some k2, .obj 27 (c_Catalog p0))]) (List.sublist_append_left _ _) (hp_perm ((.trans (.swap _ _ _) (.cons _ (.trans (.swap _ _ _) (.cons _ (.trans (.swap _ _ _) (.cons _ (.trans (.swap _ _ _) (.cons _ (.cons _ (.swap _ _ _)))))))))) : List.Perm (α := Option Key × Ent) [(g0.t, .obj 40 (fl c_Vol ([] : List TVol) g0.sp)), (some k37, .obj 27 ([.sc (.int .i64 y22.Seq), aw ag25.t ag25.n ag25.cap, aw ag28.t ag28.n ag28.cap, aw ag31.t ag31.n ag31.cap, aw g0.t g0.n g0.cap])), (ag25.t, .obj 60 (fl c_Snap (y22.Snaps : List TSnap) ag25.sp)), (ag28.t, .obj 63 (fl c_Chunk (y22.Chunks : List TChunk) ag28.sp)), (ag31.t, .obj 65 (fl c_Exp (y22.Exps : List TExp) ag31.sp)), (ag34.t, .obj 40 (fl c_Vol (y22.Vols : List TVol) ag34.sp)), (some k2, .obj 27 (c_Catalog p0))] ([(some k37, .obj 27 ([.sc (.int .i64 y22.Seq), aw ag25.t ag25.n ag25.cap, aw ag28.t ag28.n ag28.cap, aw ag31.t ag31.n ag31.cap, aw g0.t g0.n g0.cap])), (ag25.t, .obj 60 (fl c_Snap (y22.Snaps : List TSnap) ag25.sp)), (ag28.t, .obj 63 (fl c_Chunk (y22.Chunks : List TChunk) ag28.sp)), (ag31.t, .obj 65 (fl c_Exp (y22.Exps : List TExp) ag31.sp)), (g0.t, .obj 40 (fl c_Vol ([] : List TVol) g0.sp)), (some k2, .obj 27 (c_Catalog p0))] ++ [(ag34.t, .obj 40 (fl c_Vol (y22.Vols : List TVol) ag34.sp))])) (HOk.none (e := .obj 40 (fl c_Vol ([] : List TVol) g0.sp)) hk30852)).2).1) (.cons (ALe.refl _ _) (.cons (ALe.refl _ _) (.cons (ALe.refl _ _) (.cons (ALe.refl _ _) (.nil)))))⟩
                                      · rintro ⟨ag30820, ag30823⟩ ⟨j30819, j30822, j30825⟩ fr' h' ⟨hk30853, ok30821, ok30824⟩ hm le
                                        cases hm
                                        exact ⟨rfl, (ag25, ag30820, ag30823), ⟨hk30853, ok26, ok30821, ok30824⟩, LeF.trans le (LeF.fm (Sub.refl _) (.cons (ALe.refl _ _) (.cons (ALe.refl _ _) (.cons (ALe.refl _ _) (.cons (ALe.refl _ _) (.nil))))))⟩
                                  · rintro ⟨ag30767, ag30770, ag30773⟩ ⟨j30766, j30769, j30772, j30775⟩ fr' h' ⟨hk30854, ok30768, ok30771, ok30774⟩ hm le
                                    cases hm
                                    exact ⟨rfl, (ag30767, ag30770, ag30773), ⟨hk30854, ok30768, ok30771, ok30774⟩, LeF.trans le (LeF.fm (Sub.refl _) (.cons (ALe.refl _ _) (.cons (ALe.refl _ _) (.cons (ALe.refl _ _) (.cons (ALe.refl _ _) (.nil))))))⟩
                              · rintro ⟨ag30653, ag30656, ag30659⟩ ⟨j30652, j30655, j30658, j30661⟩ fr' h' ⟨hk30855, ok30654, ok30657, ok30660⟩ hm le
                                cases hm
                                exact ⟨rfl, (ag30653, ag28, ag30656, ag30659), ⟨hk30855, ok30654, ok29, ok30657, ok30660⟩, LeF.trans le (LeF.fm (Sub.refl _) (.cons (ALe.refl _ _) (.cons (ALe.refl _ _) (.cons (ALe.refl _ _) (.cons (ALe.refl _ _) (.nil))))))⟩
                          · rintro ⟨ag30392, ag30395, ag30398, ag30401⟩ ⟨j30391, j30394, j30397, j30400, j30403⟩ fr' h' ⟨hk30856, ok30393, ok30396, ok30399, ok30402⟩ hm le
                            cases hm
                            exact ⟨rfl, (ag30392, ag30395, ag30398, ag30401), ⟨hk30856, ok30393, ok30396, ok30399, ok30402⟩, LeF.trans le (LeF.fm (Sub.refl _) (.cons (ALe.refl _ _) (.cons (ALe.refl _ _) (.cons (ALe.refl _ _) (.cons (ALe.refl _ _) (.nil))))))⟩
                      · rintro ⟨ag29903, ag29906, ag29909, ag29912⟩ ⟨j29902, j29905, j29908, j29911, j29914⟩ fr' h' ⟨hk30857, ok29904, ok29907, ok29910, ok29913⟩ hm le
                        cases hm
                        exact ⟨rfl, (ag29903, ag29906, ag29909, ag29912), ⟨hk30857, ok29904, ok29907, ok29910, ok29913⟩, LeF.trans le (LeF.fm (Sub.refl _) (.cons (ALe.refl _ _) (.cons (ALe.refl _ _) (.cons (ALe.refl _ _) (.cons (ALe.refl _ _) (.nil))))))⟩
                  · rintro ⟨ag28941, ag28944, ag28947, ag28950⟩ ⟨j28940, j28943, j28946, j28949, j28952⟩ fr' h' ⟨hk30858, ok28942, ok28945, ok28948, ok28951⟩ hm le
                    cases hm
                    exact ⟨rfl, (ag28941, ag28944, ag28947, ag28950), ⟨hk30858, ok28942, ok28945, ok28948, ok28951⟩, LeF.trans le (LeF.fm (Sub.refl _) (.cons (ALe.refl _ _) (.cons (ALe.refl _ _) (.cons (ALe.refl _ _) (.cons (ALe.refl _ _) (.nil))))))⟩
              · rintro ⟨ag27013, ag27016, ag27019, ag27022⟩ ⟨j27012, j27015, j27018, j27021, j27024⟩ fr' h' ⟨hk30859, ok27014, ok27017, ok27020, ok27023⟩ hm le
                cases hm
                exact ⟨rfl, (ag27013, ag27016, ag27019, ag27022), ⟨hk30859, ok27014, ok27017, ok27020, ok27023⟩, LeF.trans le (LeF.fm (Sub.refl _) (.cons (ALe.refl _ _) (.cons (ALe.refl _ _) (.cons (ALe.refl _ _) (.cons (ALe.refl _ _) (.nil))))))⟩
          · rintro ⟨ag23156, ag23159, ag23162, ag23165⟩ ⟨j23155, j23158, j23161, j23164, j23167⟩ fr' h' ⟨hk30860, ok23157, ok23160, ok23163, ok23166⟩ hm le
            cases hm
            exact ⟨rfl, (ag23156, ag23159, ag23162, ag23165), ⟨hk30860, ok23157, ok23160, ok23163, ok23166⟩, LeF.trans le (LeF.fm (Sub.refl _) (.cons (ALe.refl _ _) (.cons (ALe.refl _ _) (.cons (ALe.refl _ _) (.cons (ALe.refl _ _) (.nil))))))⟩
      · rintro ⟨ag15448, ag15451, ag15454, ag15457⟩ ⟨j15446, j15447, j15450, j15453, j15456, j15459⟩ fr' h' ⟨hk30861, ok15449, ok15452, ok15455, ok15458⟩ hm le
        refine H42 _ _ (le.aw ?_)
        clear le H42 K42
        refine AW_k fun K30862 H30862 => ?_
        refine AW_k fun K30863 H30863 => ?_
        refine AW_joinG (n := 225) hm (σ := Bool) (τ := Unit) (fun g s => HOk h [(some k37, .obj 27 ([.sc (.int .i64 j15446), aw ag15448.t ag15448.n ag15448.cap, aw ag15451.t ag15451.n ag15451.cap, aw ag15454.t ag15454.n ag15454.cap, aw ag15457.t ag15457.n ag15457.cap])), (ag15448.t, .obj 60 (fl c_Snap (j15447 : List TSnap) ag15448.sp)), (ag15451.t, .obj 63 (fl c_Chunk (j15450 : List TChunk) ag15451.sp)), (ag15454.t, .obj 65 (fl c_Exp (j15453 : List TExp) ag15454.sp)), (ag15457.t, .obj 40 (fl c_Vol (j15456 : List TVol) ag15457.sp)), (some k2, .obj 27 (c_Catalog p0))]) (fun g s => kp (kp (kp (k0) 198 (.sc (.bool s))) 7 (.ptr k37 0)) 3 (.ptr k2 0)) (fun g s => hp h [(some k37, .obj 27 ([.sc (.int .i64 j15446), aw ag15448.t ag15448.n ag15448.cap, aw ag15451.t ag15451.n ag15451.cap, aw ag15454.t ag15454.n ag15454.cap, aw ag15457.t ag15457.n ag15457.cap])), (ag15448.t, .obj 60 (fl c_Snap (j15447 : List TSnap) ag15448.sp)), (ag15451.t, .obj 63 (fl c_Chunk (j15450 : List TChunk) ag15451.sp)), (ag15454.t, .obj 65 (fl c_Exp (j15453 : List TExp) ag15454.sp)), (ag15457.t, .obj 40 (fl c_Vol (j15456 : List TVol) ag15457.sp)), (some k2, .obj 27 (c_Catalog p0))]) (fun x hm => ?_) ?_
        · refine AW_reg ?_
          refine s_v (o_mv (.sc (.int _ _)) rfl) ?_
          refine s_v (o_cv ti3 ti46 rfl) ?_
          refine s_v (o_bi rfl rfl rfl (by decide)) ?_
          refine s_v (o_bi rfl rfl rfl trivial) ?_
          refine s_v (o_mv (.sc (.bool _)) rfl) ?_
          rcases Bool.eq_false_or_eq_true (decide (4 ≤ ((IntKind.wrap .u64 p1).tmod 10))) with hb30867 | hb30867
          · replace hm := ite_t hm hb30867
            refine sg_y rfl rfl hb30867 ?_
            refine s_v (o_mv (.sc (.int _ _)) rfl) ?_
            refine sg_y rfl rfl hb30867 ?_
            refine s_v (o_cv ti3 ti46 rfl) ?_
            refine sg_y rfl rfl hb30867 ?_
            refine s_v (o_bi rfl rfl rfl (by decide)) ?_
            refine sg_y rfl rfl hb30867 ?_
            refine s_v (o_bi rfl rfl rfl trivial) ?_
            refine s_v (o_pkt (.sc (.bool _)) rfl hb30867 rfl) ?_
            refine s_v (o_mv (.sc (.bool _)) rfl) ?_
            rcases Bool.eq_false_or_eq_true (decide (((IntKind.wrap .u64 p1).tmod 10) ≤ 8)) with hb30868 | hb30868
            · replace hm := ite_t hm hb30868
              refine sg_y rfl rfl hb30868 ?_
              refine s_v (o_mv (.sc (.int _ _)) rfl) ?_
              refine sg_y rfl rfl hb30868 ?_
              refine s_v (o_bi rfl rfl rfl trivial) ?_
              refine s_v (o_pkt (.sc (.bool _)) rfl hb30868 rfl) ?_
              refine s_nil ?_
              cases hm
              exact ⟨rfl, (), hk30861, LeF.fm (Sub.refl _) (.cons (ALe.refl _ _) (.cons (ALe.refl _ _) (.cons (ALe.refl _ _) (.nil))))⟩
            · replace hm := ite_f hm hb30868
              refine sg_n rfl rfl hb30868 ?_
              refine sg_n rfl rfl hb30868 ?_
              refine s_v (o_pkf (.sc (.bool _)) rfl hb30868 rfl) ?_
              refine s_nil ?_
              cases hm
              exact ⟨rfl, (), hk30861, LeF.fm (Sub.refl _) (.cons (ALe.refl _ _) (.cons (ALe.refl _ _) (.cons (ALe.refl _ _) (.nil))))⟩
          · replace hm := ite_f hm hb30867
            refine sg_n rfl rfl hb30867 ?_
            refine sg_n rfl rfl hb30867 ?_
            refine sg_n rfl rfl hb30867 ?_
            refine sg_n rfl rfl hb30867 ?_
            refine s_v (o_pkf (.sc (.bool _)) rfl hb30867 rfl) ?_
            refine s_v (o_mv (.sc (.bool _)) rfl) ?_
            refine sg_n rfl rfl rfl ?_
            refine sg_n rfl rfl rfl ?_
            refine s_v (o_pkf (.sc (.bool _)) rfl rfl rfl) ?_
            refine s_nil ?_
            cases hm
            exact ⟨rfl, (), hk30861, LeF.fm (Sub.refl _) (.cons (ALe.refl _ _) (.cons (ALe.refl _ _) (.cons (ALe.refl _ _) (.nil))))⟩
        · rintro _ j30866 fr' h' hk30869 hm le
          refine H30863 _ _ (le.aw ?_)
          clear le H30863 K30863
          refine AW_if' rfl (fun hc30870 => ?_) (fun hc30870 => ?_)
          · replace hm := ite_t hm hc30870
            refine AW_k fun K30871 H30871 => ?_
            refine AW_reg ?_
            obtain ⟨y30872, hy30873, hm⟩ := bind_of hm
            refine s_v (o_call (W31 _ hy30873) rfl bd31 rfl) ?_
            refine s_v (o_as (.sc (.bool _)) rfl) ?_
            refine s_nil ?_
            refine H30871 _ _ ?_
            clear H30871 K30871
            refine AW_ret ?_
            cases hm
            exact LqE.mk (LeF.eqh rfl) (Ret.of1 (.inl rfl) (rsT _ _ (.sc (.bool _)) rfl) (hp_sub (List.nil_sublist _) hk30869).1 (ALe.refl _ _) ⟨rfl, rfl⟩)
          · replace hm := ite_f hm hc30870
            refine AW_skip ?_
            refine H30862 _ _ ?_
            clear H30862 K30862
            refine AW_k fun K30874 H30874 => ?_
            obtain ⟨hk30875, le30876⟩ := LeF.fzO (n := 225) (f := _) 1 0 ([.sc (.int .i64 j15446), .sl none 4 (List.map c_Snap j15447), aw ag15451.t ag15451.n ag15451.cap, aw ag15454.t ag15454.n ag15454.cap, aw ag15457.t ag15457.n ag15457.cap]) hk30869 rfl (.cons (Fz.refl _ _ _) (.cons (Fz.aw 1 cz_Snap ok15449 hk30869 rfl (.refl _)) (.cons (Fz.refl _ _ _) (.cons (Fz.refl _ _ _) (.cons (Fz.refl _ _ _) (.nil))))))
            refine le30876.aw ?_
            clear le30876
            obtain ⟨hk30877, le30878⟩ := LeF.fzO (n := 225) (f := _) 1 0 ([.sc (.int .i64 j15446), .sl none 4 (List.map c_Snap j15447), .sl none 35 (List.map c_Chunk j15450), aw ag15454.t ag15454.n ag15454.cap, aw ag15457.t ag15457.n ag15457.cap]) hk30875 rfl (.cons (Fz.refl _ _ _) (.cons (Fz.refl _ _ _) (.cons (Fz.aw 1 cz_Chunk ok15452 hk30875 rfl (.refl _)) (.cons (Fz.refl _ _ _) (.cons (Fz.refl _ _ _) (.nil))))))
            refine le30878.aw ?_
            clear le30878
            obtain ⟨hk30879, le30880⟩ := LeF.fzO (n := 225) (f := _) 1 0 ([.sc (.int .i64 j15446), .sl none 4 (List.map c_Snap j15447), .sl none 35 (List.map c_Chunk j15450), .sl none 3 (List.map c_Exp j15453), aw ag15457.t ag15457.n ag15457.cap]) hk30877 rfl (.cons (Fz.refl _ _ _) (.cons (Fz.refl _ _ _) (.cons (Fz.refl _ _ _) (.cons (Fz.aw 1 cz_Exp ok15455 hk30877 rfl (.refl _)) (.cons (Fz.refl _ _ _) (.nil))))))
            refine le30880.aw ?_
            clear le30880
            obtain ⟨hk30881, le30882⟩ := LeF.fzO (n := 225) (f := _) 1 0 ([.sc (.int .i64 j15446), .sl none 4 (List.map c_Snap j15447), .sl none 35 (List.map c_Chunk j15450), .sl none 3 (List.map c_Exp j15453), .sl none 4 (List.map c_Vol j15456)]) hk30879 rfl (.cons (Fz.refl _ _ _) (.cons (Fz.refl _ _ _) (.cons (Fz.refl _ _ _) (.cons (Fz.refl _ _ _) (.cons (Fz.aw 1 cz_Vol ok15458 hk30879 rfl (.refl _)) (.nil))))))
            refine le30882.aw ?_
            clear le30882
            refine AW_reg ?_
            refine s_v (o_ldp (.agg ([.sc (.int .i64 j15446), .sl none 4 (List.map c_Snap j15447), .sl none 35 (List.map c_Chunk j15450), .sl none 3 (List.map c_Exp j15453), .sl none 4 (List.map c_Vol j15456)])) ld27 rfl (hp_get 0 hk30881 rfl) rfl) ?_
            obtain ⟨y30883, hy30884, hm⟩ := bind_of hm
            refine s_v (o_call (W35 _ hy30884) rfl bd35 rfl) ?_
            refine s_v (o_mv (.tup _) rfl) ?_
            refine s_v (o_ex (.sl _ _ _) rfl rfl) ?_
            refine s_v (o_ex (.sc (.int _ _)) rfl rfl) ?_
            refine s_v (o_as (.sl _ _ _) rfl) ?_
            refine s_v (o_as (.sc (.int _ _)) rfl) ?_
            refine s_nil ?_
            refine H30874 _ _ ?_
            clear H30874 K30874
            refine AW_k fun K30885 H30885 => ?_
            refine AW_joinG (n := 225) hm (σ := Bool) (τ := Unit) (fun g s => HOk h [(some k37, .obj 27 ([.sc (.int .i64 j15446), .sl none 4 (List.map c_Snap j15447), .sl none 35 (List.map c_Chunk j15450), .sl none 3 (List.map c_Exp j15453), .sl none 4 (List.map c_Vol j15456)])), (some k2, .obj 27 (c_Catalog p0))]) (fun g s => kp (k0) 6 (.sc (.bool s))) (fun g s => hp h [(some k37, .obj 27 ([.sc (.int .i64 j15446), .sl none 4 (List.map c_Snap j15447), .sl none 35 (List.map c_Chunk j15450), .sl none 3 (List.map c_Exp j15453), .sl none 4 (List.map c_Vol j15456)])), (some k2, .obj 27 (c_Catalog p0))]) (fun x hm => ?_) ?_
            · refine AW_reg ?_
              refine s_v (o_ldp (.agg ([.sc (.int .i64 j15446), .sl none 4 (List.map c_Snap j15447), .sl none 35 (List.map c_Chunk j15450), .sl none 3 (List.map c_Exp j15453), .sl none 4 (List.map c_Vol j15456)])) ld27 rfl (hp_get 0 hk30881 rfl) rfl) ?_
              obtain ⟨y30897, hy30898, hm⟩ := bind_of hm
              refine s_v (o_call (W33 _ hy30898) rfl bd33 rfl) ?_
              refine s_v (o_bi rfl rfl rfl trivial) ?_
              refine s_v (o_mv (.sc (.bool _)) rfl) ?_
              rcases Bool.eq_false_or_eq_true (y30897 == 1) with hb30899 | hb30899
              · replace hm := ite_t hm hb30899
                refine sg_y rfl rfl hb30899 ?_
                refine s_v (o_mv (.sc (.int _ _)) rfl) ?_
                refine sg_y rfl rfl hb30899 ?_
                refine s_v (o_bi rfl rfl rfl trivial) ?_
                refine s_v (o_pkt (.sc (.bool _)) rfl hb30899 rfl) ?_
                refine s_v (o_mv (.sc (.bool _)) rfl) ?_
                rcases Bool.eq_false_or_eq_true (y30883.2 == 1) with hb30900 | hb30900
                · replace hm := ite_t hm hb30900
                  refine sg_y rfl rfl hb30900 ?_
                  refine s_v (o_mv (.sl _ _ _) rfl) ?_
                  refine sg_y rfl rfl hb30900 ?_
                  refine s_v (o_lenm ln52 rfl) ?_
                  refine sg_y rfl rfl hb30900 ?_
                  refine s_v (o_bi rfl rfl rfl trivial) ?_
                  refine s_v (o_pkt (.sc (.bool _)) rfl hb30900 rfl) ?_
                  refine s_v (o_mv (.sc (.bool _)) rfl) ?_
                  rcases Bool.eq_false_or_eq_true ((y30883.1.length : Int) == 0) with hb30901 | hb30901
                  · replace hm := ite_t hm hb30901
                    refine sg_y rfl rfl hb30901 ?_
                    refine s_v (o_ldp (.agg (c_Catalog p0)) ld27 rfl (hp_get 1 hk30881 rfl) rfl) ?_
                    refine sg_y rfl rfl hb30901 ?_
                    obtain ⟨y30902, hy30903, hm⟩ := bind_of hm
                    refine s_v (o_call (W33 _ hy30903) rfl bd33 rfl) ?_
                    refine sg_y rfl rfl hb30901 ?_
                    refine s_v (o_bi rfl rfl rfl trivial) ?_
                    refine s_v (o_pkt (.sc (.bool _)) rfl hb30901 rfl) ?_
                    refine s_v (o_mv (.sc (.bool _)) rfl) ?_
                    rcases Bool.eq_false_or_eq_true (y30902 == 0) with hb30904 | hb30904
                    · replace hm := ite_t hm hb30904
                      refine sg_y rfl rfl hb30904 ?_
                      obtain ⟨y30905, hy30906, hm⟩ := bind_of hm
                      refine s_v (o_call (W31 _ hy30906) rfl bd31 rfl) ?_
                      refine s_v (o_pkt (.sc (.bool _)) rfl hb30904 rfl) ?_
                      refine s_v (o_as (.sc (.bool _)) rfl) ?_
                      refine s_nil ?_
                      cases hm
                      exact ⟨rfl, (), hk30881, LeF.fm (Sub.refl _) (.cons (ALe.refl _ _) (.nil))⟩
                    · replace hm := ite_f hm hb30904
                      refine sg_n rfl rfl hb30904 ?_
                      refine s_v (o_pkf (.sc (.bool _)) rfl hb30904 rfl) ?_
                      refine s_v (o_as (.sc (.bool _)) rfl) ?_
                      refine s_nil ?_
                      cases hm
                      exact ⟨rfl, (), hk30881, LeF.fm (Sub.refl _) (.cons (ALe.refl _ _) (.nil))⟩
                  · replace hm := ite_f hm hb30901
                    refine sg_n rfl rfl hb30901 ?_
                    refine sg_n rfl rfl hb30901 ?_
                    refine sg_n rfl rfl hb30901 ?_
                    refine s_v (o_pkf (.sc (.bool _)) rfl hb30901 rfl) ?_
                    refine s_v (o_mv (.sc (.bool _)) rfl) ?_
                    refine sg_n rfl rfl rfl ?_
                    refine s_v (o_pkf (.sc (.bool _)) rfl rfl rfl) ?_
                    refine s_v (o_as (.sc (.bool _)) rfl) ?_
                    refine s_nil ?_
                    cases hm
                    exact ⟨rfl, (), hk30881, LeF.fm (Sub.refl _) (.cons (ALe.refl _ _) (.nil))⟩
                · replace hm := ite_f hm hb30900
                  refine sg_n rfl rfl hb30900 ?_
                  refine sg_n rfl rfl hb30900 ?_
                  refine sg_n rfl rfl hb30900 ?_
                  refine s_v (o_pkf (.sc (.bool _)) rfl hb30900 rfl) ?_
                  refine s_v (o_mv (.sc (.bool _)) rfl) ?_
                  refine sg_n rfl rfl rfl ?_
                  refine sg_n rfl rfl rfl ?_
                  refine sg_n rfl rfl rfl ?_
                  refine s_v (o_pkf (.sc (.bool _)) rfl rfl rfl) ?_
                  refine s_v (o_mv (.sc (.bool _)) rfl) ?_
                  refine sg_n rfl rfl rfl ?_
                  refine s_v (o_pkf (.sc (.bool _)) rfl rfl rfl) ?_
                  refine s_v (o_as (.sc (.bool _)) rfl) ?_
                  refine s_nil ?_
                  cases hm
                  exact ⟨rfl, (), hk30881, LeF.fm (Sub.refl _) (.cons (ALe.refl _ _) (.nil))⟩
              · replace hm := ite_f hm hb30899
                refine sg_n rfl rfl hb30899 ?_
                refine sg_n rfl rfl hb30899 ?_
                refine s_v (o_pkf (.sc (.bool _)) rfl hb30899 rfl) ?_
                refine s_v (o_mv (.sc (.bool _)) rfl) ?_
                refine sg_n rfl rfl rfl ?_
                refine sg_n rfl rfl rfl ?_
                refine sg_n rfl rfl rfl ?_
                refine s_v (o_pkf (.sc (.bool _)) rfl rfl rfl) ?_
                refine s_v (o_mv (.sc (.bool _)) rfl) ?_
                refine sg_n rfl rfl rfl ?_
                refine sg_n rfl rfl rfl ?_
                refine sg_n rfl rfl rfl ?_
                refine s_v (o_pkf (.sc (.bool _)) rfl rfl rfl) ?_
                refine s_v (o_mv (.sc (.bool _)) rfl) ?_
                refine sg_n rfl rfl rfl ?_
                refine s_v (o_pkf (.sc (.bool _)) rfl rfl rfl) ?_
                refine s_v (o_as (.sc (.bool _)) rfl) ?_
                refine s_nil ?_
                cases hm
                exact ⟨rfl, (), hk30881, LeF.fm (Sub.refl _) (.cons (ALe.refl _ _) (.nil))⟩
            · rintro _ j30896 fr' h' hk30907 hm le
              refine H30885 _ _ (le.aw ?_)
              clear le H30885 K30885
              refine AW_ret ?_
              cases hm
              exact LqE.mk (LeF.eqh rfl) (Ret.of1 (.inl rfl) (rsT _ _ (.sc (.bool _)) rfl) (hp_sub (List.nil_sublist _) hk30907).1 (ALe.refl _ _) ⟨rfl, rfl⟩)
end Go.Proofs.Ytoomgangpjcaoaa
