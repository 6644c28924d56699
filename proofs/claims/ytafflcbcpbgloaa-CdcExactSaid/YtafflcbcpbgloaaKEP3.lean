import Derived.Test.YtafflcbcpbgloaaKEP2
import Derived.Test.YtafflcbcpbgloaaKEP1
set_option linter.unusedSimpArgs false
set_option linter.unusedVariables false
namespace Go.Proofs.Ytafflcbcpbgloaa
open Go.Vm
theorem VRM_br {E : Env} {H : Heap} {w : World} (r : Rel E H w) {xs ys : List AV} (hl : BrL H xs ys) (g : Nat) : ∀ (o : Nat), VRM E w none g o xs → VRM (Epl E H w) w none g o ys := by
 induction hl with
 | nil => intro o _; simp only [VRM]
 | cons a _ ih =>
  intro o hv
  simp only [VRM] at hv ⊢
  obtain ⟨h1, ⟨cv, h2, h3, h4⟩, h5⟩ := hv
  refine ⟨?_, ⟨cv, h2, h3, a E w cv r h4⟩, ih _ h5⟩
  rcases h1 with h1 | ⟨k, t, e, _⟩
  ·exact .inl (.inl h1)
  ·cases e
theorem VRG_br {E : Env} {H : Heap} {w : World} (r : Rel E H w) {γ : Type} {c c' : γ → List AV} {sz : Nat} (hc : ∀ y, (c y).length = sz) (hc' : ∀ y, (c' y).length = sz) (g : Nat) : ∀ (ys : List γ) (o : Nat), (∀ y ∈ ys, BrL H (c y) (c' y)) → VRG E w none g o (ys.map c) → VRG (Epl E H w) w none g o (ys.map c')
 | [], _, _, _ => by simp only [List.map_nil, VRG]
 | y :: ys, o, hb, hv => by
  simp only [List.map_cons, VRG] at hv ⊢
  refine ⟨VRM_br r (hb y List.mem_cons_self) g o hv.1, ?_⟩
  have := VRG_br r hc hc' g ys _ (fun z hz => hb z (List.mem_cons_of_mem _ hz)) hv.2
  rw [hc] at this
  rw [hc']
  exact this
theorem Br_slN {γ : Type} {c c' : γ → List AV} {ys : List γ} {H : Heap} {sz : Nat} (hc : ∀ y, (c y).length = sz) (hc' : ∀ y, (c' y).length = sz) (hb : ∀ y ∈ ys, BrL H (c y) (c' y)) : Br H (.sl none sz (ys.map c)) (.sl none sz (ys.map c')) := by
 intro E w v r hv
 simp only [VR] at hv ⊢
 obtain ⟨a, cap, rfl, h1, h2, h3, h4, h5⟩ := hv
 simp only [List.length_map] at h1 ⊢
 refine ⟨a, cap, rfl, h1, h2, ?_, ?_, nofun⟩
 ·rcases h3 with h3 | ⟨g, o, rfl, h3⟩
  ·left
   have : ys = [] := by simpa using h3
   subst this; rfl
  ·exact .inr ⟨g, o, rfl, VRG_br r hc hc' g ys o hb h3⟩
 ·intro x hx
  obtain ⟨y, _, rfl⟩ := List.mem_map.1 hx
  exact hc' y
theorem rows_br {h : Heap} {zs : List RW} (ok : oR zs) (hk : HOk h (fR zs)) : Br (hp h (fR zs)) (.sl none 1 (List.map cR zs)) (.sl none 1 (List.map c_s_u8 (zs.map Prod.fst))) := by
 rw [List.map_map]
 refine Br_slN (c' := c_s_u8 ∘ Prod.fst) (fun _ => rfl) (fun _ => rfl) fun z hz => .cons ?_ .nil
 obtain ⟨i, hi⟩ := List.getElem?_of_mem hz
 have : (fR zs)[i]? = some (z.2.t, .obj 5 (fl c_u8 z.1 z.2.sp)) := by unfold fR; rw [List.getElem?_map, hi]; rfl
 exact Br.aw i cz_u8 (ok z hz) hk this
theorem rows_out {h : Heap} {g : List RW} {i : Nat} {z : RW} (hk : HOk h (fR g)) (hz : g[i]? = some z) : HOk h (fR (g.eraseIdx i)) ∧ HOk (hp h (fR (g.eraseIdx i))) [frR z] ∧ hp h (fR g) = hp (hp h (fR (g.eraseIdx i))) [frR z] := by
 have p : (fR g).Perm (frR z :: fR (g.eraseIdx i)) := (perm_out hz).map frR
 obtain ⟨e, k⟩ := hp_perm p hk
 obtain ⟨k1, k2⟩ := HOk_spl [frR z] (fR (g.eraseIdx i)) k
 exact ⟨k1, k2, e.trans (hp_app h [frR z] (fR (g.eraseIdx i))).symm⟩
theorem rows_in {h : Heap} {g : List RW} {i : Nat} {y : RW} (hi : i < g.length) (k1 : HOk h (fR (g.eraseIdx i))) (k2 : HOk (hp h (fR (g.eraseIdx i))) [frR y]) : HOk h (fR (g.set i y)) ∧ hp (hp h (fR (g.eraseIdx i))) [frR y] = hp h (fR (g.set i y)) := by
 have p : (fR (g.set i y)).Perm (frR y :: fR (g.eraseIdx i)) := by
  have := (perm_out (zs := g.set i y) (j := i) (z := y) (by simp [hi])).map frR
  rwa [List.eraseIdx_set_eq] at this
 have k : HOk h (frR y :: fR (g.eraseIdx i)) := HOk_app (A := [frR y]) k1 k2
 obtain ⟨e, k3⟩ := hp_perm p.symm k
 exact ⟨k3, (hp_app h [frR y] (fR (g.eraseIdx i))).trans e⟩
theorem cR_set {g : List RW} {i : Nat} {z : RW} {y : List Int} (hz : g[i]? = some z) : (g.set i (y, z.2)).map cR = g.map cR := by
 apply List.ext_getElem?
 intro j
 rw [List.getElem?_map, List.getElem?_map, List.getElem?_set]
 split
 ·rename_i q; subst q
  rw [hz]
  have := (List.getElem?_eq_some_iff.1 hz).1
  simp [this, cR]
 ·rfl
theorem m25_loop : ∀ (G : Nat) (p : List Int) (i : Nat), p.length - i < G → i ≤ p.length → p.length < 1000000000 → ∃ o, loopM (fun s : List Int × Int => M25_L0 s.1 s.2) G (p, (i : Int)) = some (.brk o) ∧ o.1.length = p.length
 | 0, _, _, h, _, _ => by omega
 | G + 1, p, i, h, h1, h2 => by
  unfold loopM
  simp only [M25_L0]
  by_cases hi : i < p.length
  ·have hx : p[i]? = some p[i] := List.getElem?_eq_getElem hi
   have w1 : IntKind.wrap .i64 ((i : Int) + 1) = ((i + 1 : Nat) : Int) := wr1 (by omega)
   simp only [ix_nat, hx, Option.bind_some, Int.ofNat_lt, hi, decide_true, if_true, w1]
   obtain ⟨o, e1, e2⟩ := m25_loop G (p.set (i : Int).toNat (IntKind.wrap .u8 (p[i] + 101))) (i + 1) (by rw [List.length_set]; omega) (by rw [List.length_set]; omega) (by rw [List.length_set]; omega)
   exact ⟨o, e1, by rw [e2, List.length_set]⟩
  ·simp only [Int.ofNat_lt, hi, decide_false, Bool.false_eq_true, if_false]
   exact ⟨_, rfl, rfl⟩
theorem m25 {F : Nat} {p : List Int} (h : p.length < F) (hp : p.length < 1000000000) : ∃ o, M25 F p = some o ∧ o.length = p.length := by
 obtain ⟨o, e1, e2⟩ := m25_loop F p 0 (by omega) (by omega) hp
 have e1' : loopM (fun s : List Int × Int => M25_L0 s.1 s.2) F (p, 0) = some (.brk o) := e1
 exact ⟨o.1, by unfold M25; rw [e1']; rfl, e2⟩
def M17_L0 (n : Nat) (q : Int) : Option (Lp Int Unit) := if decide (q < (n : Int)) = true then some (.go (IntKind.wrap .i64 (q + 1))) else some (.brk q)
theorem m17_loop (n : Nat) (hn : n < 1000000000) : ∀ (G i : Nat), n - i < G → i ≤ n → ∃ o, loopM (M17_L0 n) G (i : Int) = some (.brk o)
 | 0, _, h, _ => by omega
 | G + 1, i, h, h1 => by
  unfold loopM
  simp only [M17_L0]
  by_cases hi : i < n
  ·have w1 : IntKind.wrap .i64 ((i : Int) + 1) = ((i + 1 : Nat) : Int) := wr1 (by omega)
   simp only [Int.ofNat_lt, hi, decide_true, if_true, w1]
   exact m17_loop n hn G (i + 1) (by omega) (by omega)
  ·simp only [Int.ofNat_lt, hi, decide_false, Bool.false_eq_true, if_false]
   exact ⟨_, rfl⟩
set_option maxHeartbeats 4000000 in
set_option maxRecDepth 100000 in
theorem W17 {zs : List RW} (h : Heap) (hk0 : HOk h (fR zs)) (ok : oR zs) (hl : ∀ z ∈ zs, z.1.length < 1000000) (hn : zs.length < 1000000) :
    ACalls Try.prog 17 [.sl none 1 (List.map cR zs)] (hp h (fR zs)) (fun r h' => ∃ ys : List RW, HOk h (fR ys) ∧ h' = hp h (fR ys)) := by
  refine ACp hk0 14 [] Try.func17 rfl rfl rfl rfl ?_
  obtain ⟨o, ho⟩ := m17_loop zs.length (by omega) 1000000 0 (by omega) (by omega)
  have hm : after (loopM (M17_L0 zs.length) 1000000 0) (fun _ => some ()) = some () := by
    have ho' : loopM (M17_L0 zs.length) 1000000 0 = some (.brk o) := ho
    rw [ho']; rfl
  refine v ?_
  refine vlp hm (σ := Int) (τ := List RW) (fun g _ => fR g) (fun g q => g.length = zs.length ∧ oR g ∧ (∀ z ∈ g, z.1.length < 1000000) ∧ 0 ≤ q) (fun g q => .c 0 (.sl none 1 (List.map cR g)) (.c 2 (.sc (.int .i64 q)) .nil)) zs ⟨rfl, ok, hl, Int.le_refl _⟩ (lx (.k2 .nil)) ?_ ?_
  · rintro g q x ⟨hlen, ok0, hl0, hq⟩ hm
    unfold M17_L0 at hm
    refine v ?_
    refine vln ln24 rfl ?_
    rw [← hlen] at hm
    refine v ?_
    refine vi hm (fun hc hm => ?_) fun hc hm => ?_
    · refine v ?_
      refine v ?_
      refine v ?_
      have hc' : q < (zs.length : Int) := by rw [← hlen]; exact of_decide_eq_true hc
      obtain ⟨z, hz⟩ : ∃ z, g[q.toNat]? = some z := ⟨g[q.toNat]'(by omega), List.getElem?_eq_getElem (by omega)⟩
      have hzm : z ∈ g := List.mem_of_getElem? hz
      have hx : ix g q = some z := by rw [ix_pos g hq]; exact hz
      obtain ⟨y, hy, hyl⟩ := m25 (F := 1000000) (hl0 z hzm) (by have := hl0 z hzm; omega)
      refine vn (fun _ => o_ix (e := cR) hx el24 rfl rfl) ?_
      refine ve fun hk => ?_
      obtain ⟨k1, k2, e1⟩ := rows_out hk hz
      refine AOp_eqh e1 (a_call (W25 (hp h (fR (g.eraseIdx q.toNat))) (ok0 z hzm) k2 hy) rfl bd25 rfl ?_)
      rintro r h' ⟨ok1, k3, rfl⟩
      obtain ⟨k4, e2⟩ := rows_in (y := (y, z.2)) (by omega) k1 k3
      refine qk k4 e2 ?_
      refine v ?_
      have hw : IntKind.wrap .i64 (q + 1) = q + 1 := wr (by omega) (by omega)
      refine vgo hm (g.set q.toNat (y, z.2)) ⟨by rw [List.length_set, hlen], ?_, ?_, by rw [hw]; omega⟩ ?_
      · intro z' hz'
        rcases List.mem_or_eq_of_mem_set hz' with hz' | rfl
        · exact ok0 z' hz'
        · exact ok1
      · intro z' hz'
        rcases List.mem_or_eq_of_mem_set hz' with hz' | rfl
        · exact hl0 z' hz'
        · show y.length < _; rw [hyl]; exact hl0 z hzm
      · rw [cR_set hz]
        exact lx (.k2 .nil)
    · refine v ?_
      exact vbk hm g ⟨hlen, ok0, hl0, hq⟩ (lx (.k2 .nil))
  · rintro g q ⟨hlen, ok0, hl0, hq⟩ hm
    exact vr fun hk => Ret.zero (.inr rfl) (Sub.refl _) ⟨g, hk, rfl⟩
theorem bd17 : bodied Try.prog 17 = true := by kernel_rfl
open Go.Vm
set_option maxHeartbeats 4000000 in
set_option maxRecDepth 100000 in
theorem W11f {fuel : Nat} {p0 : List Int} {o : (List Int)} (h : Heap) (hm : M11 fuel p0 = some o) :
    ACalls Try.prog 11 [.sl none 1 (List.map c_u8 p0)] h (fun r h' => r = .sl none 1 (List.map c_u8 o) ∧ h' = h) := by
  refine ACv 7 [.tmp 2] Try.func11 rfl rfl rfl rfl ?_
  unfold M11 at hm
  refine v ?_
  refine v ?_
  refine v ?_
  obtain ⟨z4, hz5, hm⟩ := Zc hm
  refine ve fun hk => a_app0 (c := c_u8) hz5 et22 rfl rfl hk nofun rfl fun tg6 ot7 hk8 => qk hk8 rfl ?_
  refine v ?_
  injection hm with hm; subst hm
  exact vr fun hk => Ret.of1 (.inl rfl) (rsT _ _ (ow _ _ _) rfl) (hp_sub (List.nil_sublist _) hk).1 (own_frz0 _ 0 ot7 hk rfl) ⟨rfl, rfl⟩
theorem vcs {b : Bool} {X Y : Prop} (ht : b = true → X) (hf : b = false → Y) : cnd b X Y := by
 cases b
 ·exact hf rfl
 ·exact ht rfl
structure Ex (p0 : List Int) (rows : List (List Int)) (n : Int) : Prop where
 h11 : M11 10000 p0 = some p0
 h12 : M12 10000 p0 = some (rows, 0)
 h14 : M14 10000 p0 = some rows
 h13 : M13 10000 rows rows = some true
 h15 : M15 10000 p0 = some n
 h16 : M16 10000 p0 = some n
 h18 : M18 10000 p0 p0 = some true
 h19 : M19 10000 = some true
 hl : ∀ r ∈ rows, r.length < 1000000
 hn : rows.length < 1000000
set_option maxHeartbeats 4000000 in
set_option maxRecDepth 100000 in
theorem W3 {p0 : List Int} (h : Heap) (he : decide ((1500 : Int) < (p0.length : Int)) = false → ∃ rows n, Ex p0 rows n) :
    ACalls Try.prog 3 [.sl none 1 (List.map c_u8 p0)] h (fun r h' => r = .sc (.bool true) ∧ h' = h) := by
  refine ACv 40 [.tmp 2] Try.func3 rfl rfl rfl rfl ?_
  refine v ?_
  refine v ?_
  refine vln ln22 rfl ?_
  refine v ?_
  refine vcs (fun hc => ?_) fun hc => ?_
  · refine v ?_
    refine v ?_
    exact vr1 rfl
  · refine v ?_
    obtain ⟨rows, n, ex⟩ := he hc
    refine v ?_
    refine vn (fun _ => o_call (W11f _ ex.h11) rfl bd11 rfl) ?_
    refine v ?_
    refine ve fun hk => a_call (W12r _ ex.h12) rfl bd12 rfl ?_
    rintro x h' ⟨zs, hz, ok, hk1, rfl, rfl⟩
    obtain rfl : zs.map Prod.fst = rows := hz
    refine qk hk1 rfl ?_
    refine v ?_
    refine vn (fun _ => o_call (W14 _ ex.h14) rfl bd14 rfl) ?_
    refine vn (fun hk => o_call (ACalls_pure (.cons (rows_br ok hk) (.cons (Br.refl _ _) .nil)) rfl (W13 hz ex.h13)) rfl bd13 rfl) ?_
    refine vn (fun _ => o_call (W15 _ ex.h15) rfl bd15 rfl) ?_
    refine vn (fun _ => o_call (W16 _ ex.h16) rfl bd16 rfl) ?_
    refine v ?_
    refine vf (bne_self_eq_false n) ?_
    refine v ?_
    refine v ?_
    refine ve fun hk => a_call (W17 h hk ok (fun z hz => ex.hl _ (List.mem_map_of_mem hz)) (by have := ex.hn; rwa [List.length_map] at this)) rfl bd17 rfl ?_
    rintro x h' ⟨ys, hk2, rfl⟩
    refine qk hk2 rfl ?_
    refine v ?_
    refine vn (fun _ => o_call (W18 _ ex.h18) rfl bd18 rfl) ?_
    refine vn (fun _ => o_call (W19 _ ex.h19) rfl bd19 rfl) ?_
    refine v ?_
    exact vr1 rfl
open Go.Vm
theorem loop_dec {S ρ : Type} {body : S → Option (Lp S ρ)} (I : S → Prop) (J : S → Prop) (m : S → Nat) (hb : ∀ s, I s → (∃ s', body s = some (.brk s') ∧ J s') ∨ ∃ s', body s = some (.go s') ∧ I s' ∧ m s' < m s) : ∀ (G : Nat) (s : S), I s → m s < G → ∃ s', loopM body G s = some (.brk s') ∧ J s'
 | 0, _, _, h => by omega
 | G + 1, s, hi, h => by
  unfold loopM
  rcases hb s hi with ⟨s', e, j⟩ | ⟨s', e, i', l⟩
  ·rw [e]; exact ⟨s', rfl, j⟩
  ·rw [e]; exact loop_dec I J m hb G s' i' (by omega)
theorem m15_loop {F : Nat} {b : List Int} (hb : b.length < 1000000) : ∀ (G i : Nat) (r : Int), i ≤ b.length → i ≤ 63 → 64 - i < G →
    (∃ k : Nat, loopM (fun s => M15_L0 F b s.1 s.2) G (r, (i : Int)) = some (.ret (k : Int)) ∧ i < k ∧ k ≤ b.length) ∨ ∃ s, loopM (fun s => M15_L0 F b s.1 s.2) G (r, (i : Int)) = some (.brk s)
  | 0, _, _, _, _, h => by omega
  | G + 1, i, r, h1, h2, h3 => by
    unfold loopM
    have w1 : IntKind.wrap .i64 ((i : Int) + 1) = ((i + 1 : Nat) : Int) := wr1 (by omega)
    by_cases hi : i < b.length
    · have hx : b[i]? = some b[i] := List.getElem?_eq_getElem hi
      unfold M15_L0
      simp only [ix_nat, hx, Option.bind_some, Int.ofNat_lt, hi, decide_true, if_true, w1]
      generalize IntKind.wrap .u32 ((IntKind.wrap .u32 (r * 2 ^ (min (1 : Int).toNat (IntKind.bits .u32)))) + (IntKind.wrap .u32 ((IntKind.wrap .u32 ((IntKind.wrap .u32 b[i]) + 1)) * 2654435761))) = r2
      by_cases h64 : (64 : Int) ≤ ((i + 1 : Nat) : Int)
      · simp only [h64, decide_true, if_true, after_brk]
        exact .inl ⟨i + 1, rfl, by omega, by omega⟩
      · simp only [h64, decide_false, Bool.false_eq_true, if_false]
        have go := m15_loop (F := F) hb G (i + 1) r2 (by omega) (by omega) (by omega)
        have fin : (∃ k : Nat, loopM (fun s => M15_L0 F b s.1 s.2) G (r2, ((i + 1 : Nat) : Int)) = some (.ret (k : Int)) ∧ i < k ∧ k ≤ b.length) ∨ ∃ s, loopM (fun s => M15_L0 F b s.1 s.2) G (r2, ((i + 1 : Nat) : Int)) = some (.brk s) := by
          rcases go with ⟨k, e1, e2, e3⟩ | ⟨s, e1⟩
          · exact .inl ⟨k, e1, by omega, e3⟩
          · exact .inr ⟨s, e1⟩
        by_cases h8 : (8 : Int) ≤ ((i + 1 : Nat) : Int)
        · simp only [h8, decide_true, if_true, after_brk]
          cases (r2.fdiv (2 ^ (min (28 : Int).toNat (IntKind.bits .u32))) == 0)
          · exact fin
          · exact .inl ⟨i + 1, rfl, by omega, by omega⟩
        · simp only [h8, decide_false, Bool.false_eq_true, if_false, after_brk]
          exact fin
    · right
      refine ⟨(r, (i : Int)), ?_⟩
      have : ¬ ((i : Int) < (b.length : Int)) := by omega
      unfold M15_L0
      simp only [this, decide_false, Bool.false_eq_true, if_false]
theorem m15 {F : Nat} {b : List Int} (hF : 1000 ≤ F) (hb : b.length < 1000000) : ∃ k : Nat, M15 F b = some (k : Int) ∧ k ≤ b.length ∧ (b ≠ [] → 0 < k) := by
 unfold M15
 rcases m15_loop (F := F) hb F 0 0 (by omega) (by omega) (by omega) with ⟨k, e1, e2, e3⟩ | ⟨s, e1⟩
 ·have e1' : loopM (fun s => M15_L0 F b s.1 s.2) F (0, 0) = some (.ret (k : Int)) := e1
  rw [e1']
  exact ⟨k, rfl, e3, fun _ => e2⟩
 ·have e1' : loopM (fun s => M15_L0 F b s.1 s.2) F (0, 0) = some (.brk s) := e1
  rw [e1']
  exact ⟨b.length, rfl, Nat.le_refl _, fun h => List.length_pos_iff.2 h⟩
def nx (F : Nat) (b : List Int) : Nat := match M15 F b with | some k => k.toNat | none => 0
theorem nx_spec {F : Nat} {b : List Int} (hF : 1000 ≤ F) (hb : b.length < 1000000) : M15 F b = some (nx F b : Int) ∧ nx F b ≤ b.length ∧ (b ≠ [] → 0 < nx F b) := by
 obtain ⟨k, e1, e2, e3⟩ := m15 hF hb
 have : nx F b = k := by unfold nx; rw [e1]; simp
 rw [this]
 exact ⟨e1, e2, e3⟩
def cutF (F : Nat) : Nat → List Int → List (List Int)
 | 0, _ => []
 | n + 1, b => if b = [] then [] else b.take (nx F b) :: cutF F n (b.drop (nx F b))
theorem cutF_more {F : Nat} (hF : 1000 ≤ F) : ∀ (n m : Nat) (b : List Int), b.length < 1000000 → b.length ≤ n → b.length ≤ m → cutF F n b = cutF F m b
 | 0, 0, _, _, _, _ => rfl
 | 0, m + 1, b, _, h, _ => by
  have : b = [] := List.length_eq_zero_iff.1 (by omega)
  simp [cutF, this]
 | n + 1, 0, b, _, _, h => by
  have : b = [] := List.length_eq_zero_iff.1 (by omega)
  simp [cutF, this]
 | n + 1, m + 1, b, hb, h1, h2 => by
  unfold cutF
  by_cases e : b = []
  ·simp [e]
  ·obtain ⟨_, a2, a3⟩ := nx_spec hF hb
   have := a3 e
   rw [if_neg e, if_neg e, cutF_more hF n m _ (by rw [List.length_drop]; omega) (by rw [List.length_drop]; omega) (by rw [List.length_drop]; omega)]
def cut (F : Nat) (b : List Int) : List (List Int) := cutF F b.length b
theorem cut_nil (F : Nat) : cut F [] = [] := rfl
theorem cut_cons {F : Nat} {b : List Int} (hF : 1000 ≤ F) (hb : b.length < 1000000) (h : b ≠ []) : cut F b = b.take (nx F b) :: cut F (b.drop (nx F b)) := by
 obtain ⟨_, a2, a3⟩ := nx_spec hF hb
 have := a3 h
 have hl := List.length_pos_iff.2 h
 unfold cut
 cases e : b.length with
 | zero => omega
 | succ n =>
  rw [cutF, if_neg h, cutF_more hF n (b.drop (nx F b)).length _ (by rw [List.length_drop]; omega) (by rw [List.length_drop]; omega) (Nat.le_refl _)]
theorem cut_ind {F : Nat} (hF : 1000 ≤ F) {p : List Int → Prop} (h0 : p []) (h1 : ∀ b, b.length < 1000000 → b ≠ [] → p (b.drop (nx F b)) → p b) : ∀ (n : Nat) (b : List Int), b.length ≤ n → b.length < 1000000 → p b
 | 0, b, h, _ => by
  have : b = [] := List.length_eq_zero_iff.1 (by omega)
  rw [this]; exact h0
 | n + 1, b, h, hb => by
  by_cases e : b = []
  ·rw [e]; exact h0
  ·obtain ⟨_, a2, a3⟩ := nx_spec hF hb
   have := a3 e
   exact h1 b hb e (cut_ind hF h0 h1 n _ (by rw [List.length_drop]; omega) (by rw [List.length_drop]; omega))
theorem cut_flat {F : Nat} (hF : 1000 ≤ F) (b : List Int) (hb : b.length < 1000000) : (cut F b).flatten = b :=
 cut_ind hF (p := fun b => (cut F b).flatten = b) rfl (fun b hb e ih => by rw [cut_cons hF hb e, List.flatten_cons, ih, List.take_append_drop]) b.length b (Nat.le_refl _) hb
theorem cut_len {F : Nat} (hF : 1000 ≤ F) (b : List Int) (hb : b.length < 1000000) : (cut F b).length ≤ b.length :=
 cut_ind hF (p := fun b => (cut F b).length ≤ b.length) (Nat.le_refl _) (fun b hb e ih => by
  obtain ⟨_, a2, a3⟩ := nx_spec hF hb
  have := a3 e
  rw [cut_cons hF hb e, List.length_cons]
  rw [List.length_drop] at ih
  omega) b.length b (Nat.le_refl _) hb
theorem slc_pre {α : Type} {l : List α} {k : Nat} (h : k ≤ l.length) : slc l 0 (k : Int) = some (l.take k) := by
 unfold slc
 rw [if_pos ⟨Int.le_refl _, by omega, by omega⟩]
 simp
theorem slc_suf {α : Type} {l : List α} {k : Nat} (h : k ≤ l.length) : slc l (k : Int) (l.length : Int) = some (l.drop k) := by
 unfold slc
 rw [if_pos ⟨by omega, by omega, Int.le_refl _⟩]
 simp
theorem m12 {F : Nat} {b : List Int} (hF : 10000 ≤ F) (hb : b.length ≤ 9000) : M12 F b = some (cut F b, 0) := by
 unfold M12
 have n0 : ¬ ((32768 : Int) < (b.length : Int)) := by omega
 rw [if_neg (by simpa using n0)]
 obtain ⟨s, e1, e2⟩ := loop_dec (body := fun s : List (List Int) × List Int => M12_L0 F s.1 s.2) (ρ := List (List Int) × Int) (fun s => s.2.length ≤ 9000 ∧ s.1.length + s.2.length ≤ 9000 ∧ s.1 ++ cut F s.2 = cut F b) (fun s => s.1 = cut F b) (fun s => s.2.length) (fun s hs => by
  obtain ⟨acc, t⟩ := s
  obtain ⟨h1, h2, h3⟩ := hs
  simp only at h1 h2 h3
  unfold M12_L0
  by_cases e : t = []
  ·left
   subst e
   refine ⟨_, rfl, ?_⟩
   rw [cut_nil, List.append_nil] at h3
   exact h3
  ·right
   obtain ⟨a1, a2, a3⟩ := nx_spec (F := F) (b := t) (by omega) (by omega)
   have a4 := a3 e
   have hp : (0 : Int) < (t.length : Int) := by omega
   simp only [hp, decide_true, if_true, a1, Option.bind_some, slc_pre a2, slc_suf a2]
   unfold M24
   rw [app_some (by simp; omega)]
   simp only [Option.bind_some, List.nil_append]
   rw [app_some (by simp; omega)]
   simp only [Option.bind_some]
   refine ⟨_, rfl, ⟨by simp; omega, by simp; omega, ?_⟩, by simp; omega⟩
   rw [List.append_assoc, ← h3, cut_cons (F := F) (by omega) (by omega) e]
   rfl) F ([], b) ⟨by simpa using hb, by simpa using hb, by simp⟩ (by simp; omega)
 rw [e1]
 show some (s.1, (0 : Int)) = _
 rw [e2]
theorem m11 {F : Nat} {l : List Int} (hl : l.length ≤ 1000000) : M11 F l = some l := by unfold M11; rw [app_some (by simp; omega)]; simp
theorem m18 {F : Nat} {l : List Int} (hF : 10000 ≤ F) (hl : l.length ≤ 9000) : M18 F l l = some true := by
 unfold M18
 rw [if_neg (by simp)]
 obtain ⟨s, e1, -⟩ := loop_dec (body := fun s : Int => M18_L0 F l l s) (ρ := Bool) (fun s => 0 ≤ s ∧ s ≤ l.length) (fun _ => True) (fun s => (l.length - s).toNat) (fun s hs => by
  unfold M18_L0
  by_cases h : s < (l.length : Int)
  ·right
   have hx : ix l s = some l[s.toNat] := by rw [ix_pos l hs.1]; exact List.getElem?_eq_getElem (by omega)
   rw [wr (by omega) (by omega)]
   simp only [h, decide_true, if_true, hx, Option.bind_some, bne_self_eq_false, Bool.false_eq_true, if_false]
   exact ⟨_, rfl, ⟨by omega, by omega⟩, by omega⟩
  ·left
   simp only [h, decide_false, Bool.false_eq_true, if_false]
   exact ⟨_, rfl, trivial⟩) F 0 ⟨by omega, by omega⟩ (by omega)
 rw [e1]
 rfl
theorem m19 : M19 10000 = some true := by decide +kernel
theorem flat_mem {l : List (List Int)} {x : List Int} (h : x ∈ l) : x.length ≤ l.flatten.length := by
 induction l with
 | nil => cases h
 | cons y l ih =>
  rw [List.flatten_cons, List.length_append]
  rcases List.mem_cons.1 h with rfl | h
  ·omega
  ·have := ih h; omega
open Go.Vm
theorem loop_congr {S ρ : Type} {f g : S → Option (Lp S ρ)} (I : S → Prop) (h : ∀ s, I s → f s = g s ∧ ∀ s', f s = some (.go s') → I s') : ∀ (G : Nat) (s : S), I s → loopM f G s = loopM g G s
 | 0, _, _ => rfl
 | G + 1, s, hi => by
  obtain ⟨e, k⟩ := h s hi
  unfold loopM
  rw [← e]
  cases q : f s with
  | none => rfl
  | some x => cases x with
   | go s' => exact loop_congr I h G s' (k s' q)
   | brk s' => rfl
   | ret r => rfl
theorem m16_step {F : Nat} {b : List Int} {i : Nat} (hi : i ≤ 63) (r : Int) : M15_L0 F b r (i : Int) = M16_L0 F b r (i : Int) ∧ ∀ s' : Int × Int, M15_L0 F b r (i : Int) = some (.go s') → ∃ j : Nat, s'.2 = (j : Int) ∧ j ≤ 63 := by
 unfold M15_L0 M16_L0
 have w1 : IntKind.wrap .i64 ((i : Int) + 1) = ((i + 1 : Nat) : Int) := wr1 (by omega)
 simp only [w1]
 by_cases h : (i : Int) < (b.length : Int)
 rotate_left
 ·simp only [h, decide_false, Bool.false_eq_true, if_false]
  exact ⟨trivial, fun s' e => by cases e⟩
 simp only [h, decide_true, if_true]
 cases ix b (i : Int) with
 | none => exact ⟨rfl, fun s' e => by cases e⟩
 | some x =>
  simp only [Option.bind_some]
  have e2 : (2 : Int) ^ (min (1 : Int).toNat (IntKind.bits .u32)) = 2 := rfl
  rw [e2]
  generalize IntKind.wrap .u32 ((IntKind.wrap .u32 (r * 2)) + (IntKind.wrap .u32 ((IntKind.wrap .u32 ((IntKind.wrap .u32 x) + 1)) * 2654435761))) = q
  generalize (q.fdiv (2 ^ (min (28 : Int).toNat (IntKind.bits .u32))) == 0) = z
  by_cases h64 : i = 63
  ·subst h64
   simp only [Nat.reduceAdd, Int.reduceLE, Int.cast_ofNat_Int, decide_true, if_true, after_brk, beq_self_eq_true, ite_self]
   refine ⟨by cases z <;> trivial, fun s' e => by cases e⟩
  ·have h1 : ¬ (64 : Int) ≤ ((i + 1 : Nat) : Int) := by omega
   have h2 : (((i + 1 : Nat) : Int) == 64) = false := by simpa using (by omega : ¬ ((i + 1 : Nat) : Int) = 64)
   simp only [h1, h2, decide_false, Bool.false_eq_true, if_false]
   have fin : ∀ (y : Bool) (s' : Int × Int), (if y = true then some (.ret ((i + 1 : Nat) : Int)) else some (.go (q, ((i + 1 : Nat) : Int))) : Option (Lp (Int × Int) Int)) = some (.go s') → ∃ j : Nat, s'.2 = (j : Int) ∧ j ≤ 63 := by
    intro y s' e
    cases y
    ·simp only [Bool.false_eq_true, if_false, Option.some.injEq, Lp.go.injEq] at e
     subst e
     exact ⟨i + 1, rfl, by omega⟩
    ·simp at e
   by_cases h8 : (8 : Int) ≤ ((i + 1 : Nat) : Int)
   ·simp only [h8, decide_true, if_true, after_brk]
    refine ⟨by cases z <;> rfl, fin z⟩
   ·simp only [h8, decide_false, Bool.false_eq_true, if_false, after_brk]
    refine ⟨trivial, fun s' e => fin false s' (by simpa using e)⟩
theorem m16 (F : Nat) (b : List Int) : M16 F b = M15 F b := by
 unfold M16 M15
 have := loop_congr (f := fun s : Int × Int => M15_L0 F b s.1 s.2) (g := fun s => M16_L0 F b s.1 s.2) (fun s => ∃ j : Nat, s.2 = (j : Int) ∧ j ≤ 63) (fun s hs => by
  obtain ⟨r, i⟩ := s
  obtain ⟨j, rfl, hj⟩ := hs
  exact m16_step hj r) F (0, 0) ⟨0, rfl, by omega⟩
 rw [← this]
theorem m14 {F : Nat} {b : List Int} (hF : 10000 ≤ F) (hb : b.length ≤ 9000) : M14 F b = some (cut F b) := by
 unfold M14
 obtain ⟨s, e1, e2⟩ := loop_dec (body := fun s : List (List Int) × List Int => M14_L0 F s.1 s.2) (ρ := List (List Int)) (fun s => s.2.length ≤ 9000 ∧ s.1.length + s.2.length ≤ 9000 ∧ s.1 ++ cut F s.2 = cut F b) (fun s => s.1 = cut F b) (fun s => s.2.length) (fun s hs => by
  obtain ⟨acc, t⟩ := s
  obtain ⟨h1, h2, h3⟩ := hs
  simp only at h1 h2 h3
  unfold M14_L0
  by_cases e : t = []
  ·left
   subst e
   refine ⟨_, rfl, ?_⟩
   rw [cut_nil, List.append_nil] at h3
   exact h3
  ·right
   obtain ⟨a1, a2, a3⟩ := nx_spec (F := F) (b := t) (by omega) (by omega)
   have a4 := a3 e
   have hp : (0 : Int) < (t.length : Int) := by omega
   simp only [hp, decide_true, if_true, m16, a1, Option.bind_some, slc_pre a2, slc_suf a2]
   rw [m11 (by simp; omega)]
   simp only [Option.bind_some]
   rw [app_some (by simp; omega)]
   simp only [Option.bind_some]
   refine ⟨_, rfl, ⟨by simp; omega, by simp; omega, ?_⟩, by simp; omega⟩
   rw [List.append_assoc, ← h3, cut_cons (F := F) (by omega) (by omega) e]
   rfl) F ([], b) ⟨by simpa using hb, by simpa using hb, by simp⟩ (by simp; omega)
 rw [e1]
 show some s.1 = _
 rw [e2]
theorem m13 {F : Nat} {l : List (List Int)} (hF : 10000 ≤ F) (hl : l.length ≤ 9000) (hr : ∀ r ∈ l, r.length ≤ 9000) : M13 F l l = some true := by
 unfold M13
 rw [if_neg (by simp)]
 obtain ⟨s, e1, -⟩ := loop_dec (body := fun s : Int => M13_L0 F l l s) (ρ := Bool) (fun s => 0 ≤ s ∧ s ≤ l.length) (fun _ => True) (fun s => (l.length - s).toNat) (fun s hs => by
  unfold M13_L0
  by_cases h : s < (l.length : Int)
  ·right
   have hx : ix l s = some l[s.toNat] := by rw [ix_pos l hs.1]; exact List.getElem?_eq_getElem (by omega)
   rw [wr (by omega) (by omega)]
   simp only [h, decide_true, if_true, hx, Option.bind_some, m18 hF (hr _ (List.getElem_mem _)), Bool.not_true, Bool.false_eq_true, if_false]
   exact ⟨_, rfl, ⟨by omega, by omega⟩, by omega⟩
  ·left
   simp only [h, decide_false, Bool.false_eq_true, if_false]
   exact ⟨_, rfl, trivial⟩) F 0 ⟨by omega, by omega⟩ (by omega)
 rw [e1]
 rfl
theorem cdc_exact {b : List Int} (h : decide ((1500 : Int) < (b.length : Int)) = false) : ∃ rows n, Ex b rows n := by
 have hb : ¬ (1500 : Int) < (b.length : Int) := of_decide_eq_false h
 have hl := cut_len (F := 10000) (by omega) b (by omega)
 have hf := cut_flat (F := 10000) (by omega) b (by omega)
 have hm : ∀ r ∈ cut 10000 b, r.length ≤ b.length := fun r hr => by
  have := flat_mem hr
  rwa [hf] at this
 obtain ⟨a1, a2, a3⟩ := nx_spec (F := 10000) (b := b) (by omega) (by omega)
 exact ⟨cut 10000 b, nx 10000 b, m11 (by omega), m12 (by omega) (by omega), m14 (by omega) (by omega), m13 (by omega) (by omega) (fun r hr => by have := hm r hr; omega), a1, by rw [m16]; exact a1, m18 (by omega) (by omega), m19, fun r hr => by have := hm r hr; omega, by omega⟩
theorem cdc_exact3 {b : List Int} (_ : gL gB b) : decide ((1500 : Int) < (b.length : Int)) = false → ∃ rows n, Ex b rows n := cdc_exact
open Go.Vm Go.ChangeShapes Go.WideShapes
section
variable {H : Type} {enc : TypeId × Value → H} {W : World}
theorem ce5 : Try.prog.cellsOf 5 = 1 := by kernel_rfl
theorem rd5 : Rd enc Try.prog W 5 c_u8 gB := Rd_u8 u5
theorem rd22 : Rd enc Try.prog W 22 c_s_u8 (gL gB) := Rd.slice rd5 u22 ce5 (fun _ => rfl) (by decide)
theorem rr22 : Try.prog.readableRec 22 = true ∧ 22 < Try.prog.types.size := ⟨by kernel_rfl, of_decide_eq_true (by kernel_rfl)⟩
theorem own0 : ownKnob Try.prog.godebug = none := by kernel_rfl
theorem laidOut0 : laidOutB Try.prog = true := by kernel_rfl
end
end Go.Proofs.Ytafflcbcpbgloaa
