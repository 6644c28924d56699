import Derived.Test.YtoomgangpjcaoaaGreatK1P3
import Derived.Test.YtoomgangpjcaoaaGreatK1P4
set_option linter.unusedSimpArgs false
set_option linter.unusedVariables false
namespace Go.Proofs.YtoomgangpjcaoaaGreat
open Go.Vm
def M18_L0 (fuel : Nat) (p0 : List TItem) (p1 : List TItem) (q0 : Int) : Option (Lp (Int) (Bool)) :=
 if (decide (q0 < (p0.length : Int))) = true then ((ix p0 q0).bind fun x0 => (ix p1 q0).bind fun x1 => after (if (x0.Kind != x1.Kind) = true then (some (.brk true)) else if (!decide (x0.Id = x1.Id)) = true then (some (.brk true)) else if (x0.Seq != x1.Seq) = true then (some (.brk true)) else if (x0.Of != x1.Of) = true then (some (.brk true)) else if (x0.Off != x1.Off) = true then (some (.brk true)) else some (.brk (x0.Len != x1.Len)) : Option (Lp (Bool) (Lp (Int) (Bool)))) fun j0 => if j0 = true then (some (.ret false)) else some (.go (IntKind.wrap .i64 (q0 + 1)))) else some (.brk q0)
def M18 (fuel : Nat) (p0 : List TItem) (p1 : List TItem) : Option (Bool) :=
 if ((p0.length : Int) != (p1.length : Int)) = true then (some false) else after (loopM (fun s => M18_L0 fuel p0 p1 s) fuel 0) fun r0 => some true
set_option maxHeartbeats 4000000 in
set_option maxRecDepth 100000 in
theorem W18 {fuel : Nat} {p0 : List TItem} {p1 : List TItem} {o : Bool} (h : Heap) (hm : M18 fuel p0 p1 = some o) :
 ACalls Tryz.prog 18 [.sl none 37 (List.map c_Item p0), .sl none 37 (List.map c_Item p1)] h (fun r h' => r = .sc (.bool o) ∧ h' = h) := by
 refine ACv 67 [.tmp 4] Tryz.func18 rfl rfl rfl rfl ?_
 unfold M18 at hm
 refine v (v (vln ln33 rfl (vln ln33 rfl (v ?_))))
 refine vi hm (fun hc4 hm => ?_) fun hc4 hm => ?_
 refine v (v ?_)
 injection hm with hm; subst hm
 exact vr1 rfl
 refine v (v ?_)
 refine vlpH hm (σ := Int) (τ := Unit) (fun g s => []) (fun g s => .c 0 (.sl none 37 (List.map c_Item p0)) (.c 1 (.sl none 37 (List.map c_Item p1)) (.c 5 (.sc (.int .i64 s)) .nil))) () (lx (.k3 .nil)) ?_ ?_
 rintro _ q0 x hm
 replace hm : M18_L0 fuel p0 p1 q0 = some x := hm
 unfold M18_L0 at hm
 refine v (vln ln33 rfl (v ?_))
 refine vi hm (fun hc0 hm => ?_) fun hc0 hm => ?_
 refine v (v (v ?_))
 refine vz [] mixed (fun hk => trivial) fun hk => ?_
 refine z_w 0 rfl (fun S' h' hi hB => o_mv (.sl _ _ _) rfl) ?_
 refine z_w 1 rfl (fun S' h' hi hB => o_mv (.sc (.int _ _)) rfl) ?_
 obtain ⟨x0, hx0, hm⟩ := Zc hm
 refine z_w 2 rfl (fun S' h' hi hB => o_ix hx0 el33 rfl rfl) ?_
 refine z_w 3 rfl (fun S' h' hi hB => o_ld (.agg (c_Item x0)) ld38 rfl rfl) ?_
 refine z_w 4 rfl (fun S' h' hi hB => o_mv (.sl _ _ _) rfl) ?_
 refine z_w 5 rfl (fun S' h' hi hB => o_mv (.sc (.int _ _)) rfl) ?_
 obtain ⟨x1, hx1, hm⟩ := Zc hm
 refine z_w 6 rfl (fun S' h' hi hB => o_ix hx1 el33 rfl rfl) ?_
 refine z_w 7 rfl (fun S' h' hi hB => o_ld (.agg (c_Item x1)) ld38 rfl rfl) ?_
 refine z_e2 8 9 rfl rfl (by kernel_rfl) ?_ ?_
 refine (a_alloc (([.sc (.int .i64 0)] : List AV) ++ c_id idZ ++ ([.sc (.int .i64 0), .sc (.int .i64 0), .sc (.int .i64 0), .sc (.int .i64 0)] : List AV)) hk zr38 rfl rfl fun k189 hk0 => ⟨trivial, ?_⟩)
 refine z_e 9 rfl (by kernel_rfl) (a_alloc (([.sc (.int .i64 0)] : List AV) ++ c_id idZ ++ ([.sc (.int .i64 0), .sc (.int .i64 0), .sc (.int .i64 0), .sc (.int .i64 0)] : List AV)) hk0 zr38 rfl rfl fun k192 hk1 => ⟨trivial, ?_⟩)
 refine z_e 10 rfl (by kernel_rfl) (a_store 1 (c_Item x0) hk1 rfl rfl rfl rfl sz38 rfl rfl fun hk2 => ⟨trivial, ?_⟩)
 refine z_e 11 rfl (by kernel_rfl) (a_store 0 (c_Item x1) hk2 rfl rfl rfl rfl sz38 rfl rfl fun hk3 => ⟨trivial, ?_⟩)
 refine z_nil (by kernel_rfl) (qk (f := .c 7 _ (.c 6 _ (.c 26 _ (.c 25 _ (.c 24 _ (.c 23 _ (.c 22 _ (.c 21 _ (.c 20 _ (.c 19 _ _)))))))))) hk3 rfl ?_)
 refine vs ?_
 refine vjnH hm (σ := Bool) (τ := Unit) (fun g s => [(some k192, .obj 38 (c_Item x1)), (some k189, .obj 38 (c_Item x0))]) (fun g s => .c 0 (.sl none 37 (List.map c_Item p0)) (.c 1 (.sl none 37 (List.map c_Item p1)) (.c 5 (.sc (.int .i64 q0)) (.c 66 (.sc (.bool s)) .nil)))) (fun x hm => ?_) ?_
 refine v (vl 1 _ ld3 rfl rfl rfl (vl 0 _ ld3 rfl rfl rfl ?_))
 refine vi hm (fun hb0 hm => ?_) fun hb0 hm => ?_
 rw [hb0]
 exact vgo hm () trivial (lx (.k4 .nil))
 rw [hb0]
 refine vl 1 (.agg (c_id x0.Id)) ld36 rfl rfl rfl (vl 0 (.agg (c_id x1.Id)) ld36 rfl rfl rfl (vn (fun _ => o_idn eg36 u36 u5 ld5 rfl rfl) ?_))
 refine vi hm (fun hb1 hm => ?_) fun hb1 hm => ?_
 rw [hb1]
 exact vgo hm () trivial (lx (.k4 .nil))
 rw [hb1]
 refine vl 1 _ ld3 rfl rfl rfl (vl 0 _ ld3 rfl rfl rfl ?_)
 refine vi hm (fun hb2 hm => ?_) fun hb2 hm => ?_
 rw [hb2]
 exact vgo hm () trivial (lx (.k4 .nil))
 rw [hb2]
 refine vl 1 _ ld3 rfl rfl rfl (vl 0 _ ld3 rfl rfl rfl ?_)
 refine vi hm (fun hb3 hm => ?_) fun hb3 hm => ?_
 rw [hb3]
 exact vgo hm () trivial (lx (.k4 .nil))
 rw [hb3]
 refine vl 1 _ ld3 rfl rfl rfl (vl 0 _ ld3 rfl rfl rfl ?_)
 refine vi hm (fun hb4 hm => ?_) fun hb4 hm => ?_
 rw [hb4]
 exact vgo hm () trivial (lx (.k4 .nil))
 rw [hb4]
 refine vl 1 _ ld3 rfl rfl rfl (vl 0 _ ld3 rfl rfl rfl ?_)
 exact vgo hm () trivial (lx (.k4 .nil))
 rintro _ j0 hm
 refine v ?_
 refine vi hm (fun hc1 hm => ?_) fun hc1 hm => ?_
 refine v (v ?_)
 refine vrt hm fun hm => ?_
 injection hm with hm; subst hm
 exact vr1 rfl
 refine v (v ?_)
 exact vgo hm () trivial (lxs [] rfl rfl (.k3 .nil))
 refine (a_alloc (([.sc (.int .i64 0)] : List AV) ++ c_id idZ ++ ([.sc (.int .i64 0), .sc (.int .i64 0), .sc (.int .i64 0), .sc (.int .i64 0)] : List AV)) hk zr38 rfl rfl fun k212 hk4 => ⟨trivial, ?_⟩)
 refine z_e 8 rfl (by kernel_rfl) (a_alloc (([.sc (.int .i64 0)] : List AV) ++ c_id idZ ++ ([.sc (.int .i64 0), .sc (.int .i64 0), .sc (.int .i64 0), .sc (.int .i64 0)] : List AV)) hk4 zr38 rfl rfl fun k215 hk5 => ⟨trivial, ?_⟩)
 refine z_e 10 rfl (by kernel_rfl) (a_store 0 (c_Item x0) hk5 rfl rfl rfl rfl sz38 rfl rfl fun hk6 => ⟨trivial, ?_⟩)
 refine z_e 11 rfl (by kernel_rfl) (a_store 1 (c_Item x1) hk6 rfl rfl rfl rfl sz38 rfl rfl fun hk7 => ⟨trivial, ?_⟩)
 refine z_nil (by kernel_rfl) (qk (f := .c 6 _ (.c 7 _ (.c 26 _ (.c 25 _ (.c 24 _ (.c 23 _ (.c 22 _ (.c 21 _ (.c 20 _ (.c 19 _ _)))))))))) hk7 rfl ?_)
 refine vs ?_
 refine vjnH hm (σ := Bool) (τ := Unit) (fun g s => [(some k215, .obj 38 (c_Item x0)), (some k212, .obj 38 (c_Item x1))]) (fun g s => .c 0 (.sl none 37 (List.map c_Item p0)) (.c 1 (.sl none 37 (List.map c_Item p1)) (.c 5 (.sc (.int .i64 q0)) (.c 66 (.sc (.bool s)) .nil)))) (fun x hm => ?_) ?_
 refine v (vl 0 _ ld3 rfl rfl rfl (vl 1 _ ld3 rfl rfl rfl ?_))
 refine vi hm (fun hb5 hm => ?_) fun hb5 hm => ?_
 rw [hb5]
 exact vgo hm () trivial (lx (.k4 .nil))
 rw [hb5]
 refine vl 0 (.agg (c_id x0.Id)) ld36 rfl rfl rfl (vl 1 (.agg (c_id x1.Id)) ld36 rfl rfl rfl (vn (fun _ => o_idn eg36 u36 u5 ld5 rfl rfl) ?_))
 refine vi hm (fun hb6 hm => ?_) fun hb6 hm => ?_
 rw [hb6]
 exact vgo hm () trivial (lx (.k4 .nil))
 rw [hb6]
 refine vl 0 _ ld3 rfl rfl rfl (vl 1 _ ld3 rfl rfl rfl ?_)
 refine vi hm (fun hb7 hm => ?_) fun hb7 hm => ?_
 rw [hb7]
 exact vgo hm () trivial (lx (.k4 .nil))
 rw [hb7]
 refine vl 0 _ ld3 rfl rfl rfl (vl 1 _ ld3 rfl rfl rfl ?_)
 refine vi hm (fun hb8 hm => ?_) fun hb8 hm => ?_
 rw [hb8]
 exact vgo hm () trivial (lx (.k4 .nil))
 rw [hb8]
 refine vl 0 _ ld3 rfl rfl rfl (vl 1 _ ld3 rfl rfl rfl ?_)
 refine vi hm (fun hb9 hm => ?_) fun hb9 hm => ?_
 rw [hb9]
 exact vgo hm () trivial (lx (.k4 .nil))
 rw [hb9]
 refine vl 0 _ ld3 rfl rfl rfl (vl 1 _ ld3 rfl rfl rfl ?_)
 exact vgo hm () trivial (lx (.k4 .nil))
 rintro _ j1 hm
 refine v ?_
 refine vi hm (fun hc2 hm => ?_) fun hc2 hm => ?_
 refine v (v ?_)
 refine vrt hm fun hm => ?_
 injection hm with hm; subst hm
 exact vr1 rfl
 refine v (v ?_)
 exact vgo hm () trivial (lxs [] rfl rfl (.k3 .nil))
 refine v ?_
 exact vbk hm () trivial (lx (.k3 .nil))
 rintro _ r0 hm
 refine v (v ?_)
 injection hm with hm; subst hm
 exact vr1 rfl
theorem bd18 : bodied Tryz.prog 18 = true := by kernel_rfl
open Go.Vm
theorem any_loop {α ρ : Type} {l : List α} {F : Nat} {body : Int → Option (Lp Int ρ)} (q : α → Bool) (r : ρ) (hF : l.length < F) (hb : ∀ (i : Nat) (x : α), l[i]? = some x → x ∈ l → i < l.length → body (i : Int) = some (if q x then .ret r else .go ((i + 1 : Nat) : Int)))
    (he : body (l.length : Int) = some (.brk (l.length : Int))) : loopM body F 0 = some (if l.any q then .ret r else .brk (l.length : Int)) := by
  rw [loop_ff (s0 := (0 : Int)) (n := l.length) (F := F) (fun i : Nat => (i : Int)) (fun i => (l[i]?).any q) (fun _ => r) hF rfl (fun i hi _ => by
    rw [hb i l[i] (List.getElem?_eq_getElem hi) (List.getElem_mem hi) hi, List.getElem?_eq_getElem hi]; rfl) (fun _ => he), LF_all, range_any]
theorem m53 {F : Nat} {l : List TLoc} (hl : l.length ≤ 1000) : M151 F l = some l := by unfold M151; rw [app_some (by simp; omega)]; simp
theorem m100 {F : Nat} {l : List Int} (hl : l.length ≤ 1000) : M141 F l = some l := by unfold M141; rw [app_some (by simp; omega)]; simp
theorem go_loop {S ρ : Type} {body : S → Option (Lp S ρ)} {n F : Nat} {s0 : S} (emb : Nat → S) (hF : n < F) (h0 : s0 = emb 0) (hb : ∀ i, i < n → body (emb i) = some (.go (emb (i + 1)))) (he : body (emb n) = some (.brk (emb n))) :
    loopM body F s0 = some (.brk (emb n)) := by
  obtain ⟨s', h1, h2⟩ := loop_inv (body := body) (I := fun i s => s = emb i) (n := n) (fun i s hi hs => ⟨_, by rw [hs]; exact hb i hi, rfl⟩) (fun s hs => by rw [hs]; exact he) F 0 s0 (Nat.zero_le _) (by omega) h0
  rw [h2, h1]
theorem twin_loop {α ρ : Type} {l : List α} {F : Nat} {body : List α × Int → Option (Lp (List α × Int) ρ)} (hF : l.length < F)
    (hb : ∀ (i : Nat) (x : α), l[i]? = some x → x ∈ l → i < l.length → body (l.take i, (i : Int)) = some (.go (l.take i ++ [x], ((i + 1 : Nat) : Int)))) (he : body (l, (l.length : Int)) = some (.brk (l, (l.length : Int)))) :
    loopM body F ([], 0) = some (.brk (l, (l.length : Int))) := by
  have := go_loop (body := body) (s0 := (([] : List α), (0 : Int))) (n := l.length) (F := F) (fun i : Nat => (l.take i, (i : Int))) hF rfl (fun i hi => by
    rw [hb i l[i] (List.getElem?_eq_getElem hi) (List.getElem_mem hi) hi]
    simp) (by simpa using he)
  simpa using this
theorem m52 {F : Nat} {m : TManifest} (hF : 1000 ≤ F) (hp : m.Parts.length ≤ 10) (hi : ∀ p ∈ m.Parts, p.Ids.length ≤ 40) : M150 F m = some m := by
 unfold M150
 rw [twin_loop (l := m.Parts) (by omega) (fun i x hx hm hi' => by
  have := hi x hm
  unfold M150_L0
  rw [wr1 (by omega)]
  simp only [ix_nat, hx, Option.bind_some, Int.ofNat_lt, hi', decide_true, if_true]
  rw [app_some (by simp; omega)]
  simp only [Option.bind_some, List.nil_append]
  rw [app_some (by simp; omega)]
  rfl) (by unfold M150_L0; simp)]
 rfl
theorem m54 {F : Nat} {l : List TChunk} (hF : 1000 ≤ F) (hl : l.length ≤ 400) (hx : ∀ x ∈ l, x.Locs.length ≤ 300 ∧ x.Data.length ≤ 300) : M152 F l = some l := by
 unfold M152
 rw [twin_loop (l := l) (by omega) (fun i x hx' hm hi' => by
  have := hx x hm
  unfold M152_L0
  rw [wr1 (by omega)]
  simp only [ix_nat, hx', Option.bind_some, Int.ofNat_lt, hi', decide_true, if_true, m100 (F := F) (show x.Data.length ≤ 1000 by omega), m53 (F := F) (show x.Locs.length ≤ 1000 by omega)]
  rw [app_some (by simp; omega)]
  rfl) (by unfold M152_L0; simp)]
 rfl
theorem m14 {F : Nat} {c : TCatalog} (hF : 1000 ≤ F) (h : Sm c) : M90 F c = some c := by
 have hsn := h.sn
 have hex := h.ex
 have hvo := h.vo
 unfold M90
 rw [twin_loop (l := c.Snaps) (by omega) (fun i x hx hm hi' => by
  have h1 := h.sl x hm
  obtain ⟨-, h2, h3⟩ := h.man x hm
  unfold M90_L0
  rw [wr1 (by omega)]
  simp only [ix_nat, hx, Option.bind_some, Int.ofNat_lt, hi', decide_true, if_true, m52 hF h2 (fun p hp => (h3 p hp).2), m53 (F := F) (show x.Locs.length ≤ 1000 by omega)]
  rw [app_some (by simp; omega)]
  rfl) (by unfold M90_L0; simp)]
 rw [twin_loop (l := c.Exps) (by omega) (fun i x hx hm hi' => by
  have h1 := h.el x hm
  unfold M90_L2
  rw [wr1 (by omega)]
  simp only [ix_nat, hx, Option.bind_some, Int.ofNat_lt, hi', decide_true, if_true, m53 (F := F) (show x.Locs.length ≤ 1000 by omega)]
  rw [app_some (by simp; omega)]
  rfl) (by unfold M90_L2; simp)]
 simp only [after_brk, m54 hF h.ch h.cl, Option.bind_some]
 rw [app_some (by simp; omega)]
 rfl
open Go.Vm
def M23 (fuel : Nat) (p0 : TCatalog) (p1 : Int) : Option ((List TItem)) :=
 (M31 fuel p0).bind fun y0 => if (y0 != 0) = true then (some []) else (M50 fuel p0 (fun x0 x1 => M63 fuel x0 x1 p1)).bind fun y1 => some y1
set_option maxHeartbeats 4000000 in
set_option maxRecDepth 100000 in
theorem W23 {fuel : Nat} {p0 : TCatalog} {p1 : Int} {o : (List TItem)} (h : Heap) (hm : M23 fuel p0 p1 = some o) :
 ACalls Tryz.prog 23 [.agg (c_Catalog p0), .sc (.int .i64 p1)] h (fun r h' => r = .sl none 37 (List.map c_Item o) ∧ h' = h) := by
 refine ACv 11 [.tmp 4] Tryz.func23 rfl rfl rfl rfl ?_
 unfold M23 at hm
 refine v ?_
 refine ve fun hk => a_box hk rfl rfl fun k2 hk3 => qk hk3 rfl ?_
 refine ve fun hk => a_box hk rfl rfl fun k5 hk6 => qk hk6 rfl ?_
 refine v (vl 1 (.agg (c_Catalog p0)) ld30 rfl rfl rfl ?_)
 refine vk W31 bd31 hm rfl rfl fun _ hm => ?_
 refine v ?_
 refine vi hm (fun hc0 hm => ?_) fun hc0 hm => ?_
 refine v (v ?_)
 cases hm
 exact vr fun hk => Ret.of1 (.inl rfl) (rsT _ _ (.sc (.slice _ _ _)) rfl) (hp_sub (List.nil_sublist _) hk).1 (nil_lem _) ⟨rfl, rfl⟩
 refine v (v (vl 1 (.agg (c_Catalog p0)) ld30 rfl rfl rfl ?_))
 obtain ⟨_, hy0, hm⟩ := Zc hm
 refine vn (fun hk => o_call (W50 _ bd63 (fun _ _ o h0 hs ho => W63 _ (hs _ _ (Zd 0 hk rfl)) ho) hy0) rfl bd50 rfl) (v ?_)
 injection hm with hm; subst hm
 exact vr1 rfl
theorem bd23 : bodied Tryz.prog 23 = true := by kernel_rfl
def M33_L0 (fuel : Nat) (p0 : List Int) (q0 : List TVol) (q1 : Int) : Option (Lp ((List TVol) × Int) (TCatalog)) :=
 if (decide (q1 < (p0.length : Int))) = true then ((ix p0 q1).bind fun x0 => (app q0 ([({ Pool := x0, Epoch := 0, State := 1, Files := 0 } : TVol)] : List TVol)).bind fun z0 => some (.go (z0, IntKind.wrap .i64 (q1 + 1)))) else some (.brk (q0, q1))
def M33 (fuel : Nat) (p0 : List Int) : Option (TCatalog) :=
 after (loopM (fun s => M33_L0 fuel p0 s.1 s.2) fuel ([], 0)) fun ⟨r0, r1⟩ => some ({ Seq := 0, Snaps := [], Chunks := [], Exps := [], Vols := r0 } : TCatalog)
set_option maxHeartbeats 4000000 in
set_option maxRecDepth 100000 in
theorem W33 {fuel : Nat} {p0 : List Int} {o : TCatalog} (h : Heap) (hm : M33 fuel p0 = some o) :
 ACalls Tryz.prog 33 [.sl none 1 (List.map c_i64 p0)] h (fun r h' => r = .agg (c_Catalog o) ∧ h' = h) := by
 refine ACv 22 [.cell 2 30] Tryz.func33 rfl rfl rfl rfl ?_
 unfold M33 at hm
 refine v ?_
 refine ve fun hk => a_alloc ([.sc (.int .i64 0), .sc (.slice none 0 0), .sc (.slice none 0 0), .sc (.slice none 0 0), .sc (.slice none 0 0)]) hk zr30 rfl rfl fun k2 hk3 => qk hk3 rfl ?_
 refine v ?_
 refine ve fun hk => a_alloc ([.sc (.int .i64 0), .sc (.slice none 0 0), .sc (.slice none 0 0), .sc (.slice none 0 0), .sc (.slice none 0 0)]) hk zr30 rfl rfl fun k6 hk7 => qk hk7 rfl ?_
 refine v (vle (leo (.tok 49 4 (([] : List TVol).length * 4)) 1 ([.sc (.int .i64 0), .sc (.slice none 0 0), .sc (.slice none 0 0), .sc (.slice none 0 0), ow none 4 (List.map c_Vol [])]) rfl (.k4 (.cons (ow_nil (c := c_Vol) _ 4) .nil))) ?_)
 refine vlp hm (σ := (List TVol) × Int) (τ := Option Key) (fun g s => [(g, .tok 49 4 ((s.1 : List TVol).length * 4)), (some k6, .obj 30 ([.sc (.int .i64 0), .sc (.slice none 0 0), .sc (.slice none 0 0), .sc (.slice none 0 0), ow g 4 (List.map c_Vol s.1)])), (some k2, .obj 30 ([.sc (.int .i64 0), .sc (.slice none 0 0), .sc (.slice none 0 0), .sc (.slice none 0 0), .sc (.slice none 0 0)]))]) (fun g s => (g = none → s.1 = [])) (fun g s => .c 0 (.sl none 1 (List.map c_i64 p0)) (.c 2 (.ptr k2 0) (.c 3 (.ptr k6 0) (.c 4 (.sc (.int .i64 s.2)) .nil)))) none (fun _ => rfl) (lx (.k4 .nil)) ?_ ?_
 rintro tg0 ⟨q0, q1⟩ x ot0 hm
 replace hm : M33_L0 fuel p0 q0 q1 = some x := hm
 unfold M33_L0 at hm
 refine v (vln ln22 rfl (v ?_))
 refine vi hm (fun hc0 hm => ?_) fun hc0 hm => ?_
 refine v (v (v ?_))
 refine vz [(10, some k6, .obj 30 ([.sc (.int .i64 0), .sc (.slice none 0 0), .sc (.slice none 0 0), .sc (.slice none 0 0), ow tg0 4 (List.map c_Vol q0)]))] mixed (fun hk => ⟨fun _ => hp_at 1 hk rfl, trivial⟩) fun hk => ?_
 refine z_w 0 rfl (fun S' h' hi hB => Zh fd30_4 rfl rfl) ?_
 refine z_w 1 rfl (fun S' h' hi hB => Zg (ow tg0 4 (List.map c_Vol q0)) ld28 rfl (At.s (InvL.get 0 hi rfl (hB 10 (by kernel_rfl)))) rfl) ?_
 refine z_w 2 rfl (fun S' h' hi hB => o_mv (.sl _ _ _) rfl) ?_
 refine z_w 3 rfl (fun S' h' hi hB => o_mv (.sc (.int _ _)) rfl) ?_
 obtain ⟨x0, hx0, hm⟩ := Zc hm
 refine z_w 4 rfl (fun S' h' hi hB => o_ix hx0 el22 rfl rfl) ?_
 refine z_w 5 rfl (fun S' h' hi hB => o_ld (.sc (.int .i64 x0)) ld3 rfl rfl) ?_
 refine z_w 6 rfl (fun S' h' hi hB => o_bld (c_Vol ({ Pool := x0, Epoch := 0, State := 1, Files := 0 } : TVol)) bt49 rfl) ?_
 refine z_w 7 rfl (fun S' h' hi hB => o_lit (List.map c_Vol ([({ Pool := x0, Epoch := 0, State := 1, Files := 0 } : TVol)] : List TVol)) et28 rfl rfl rfl rfl) ?_
 obtain ⟨z0, hz0, hm⟩ := Zc hm
 refine z_e 8 rfl (by kernel_rfl) (a_app (c := c_Vol) 0 hz0 et28 rfl rfl rfl ot0 hk rfl fun tg1 ot1 hk0 => ⟨⟨fun _ => hp_at 1 hk0 rfl, trivial⟩, ?_⟩)
 refine z_w 9 rfl (fun S' h' hi hB => Zh fd30_4 rfl rfl) ?_
 refine z_e 10 rfl (by kernel_rfl) (a_store 1 ([.sc (.int .i64 0), .sc (.slice none 0 0), .sc (.slice none 0 0), .sc (.slice none 0 0), ow tg1 4 (List.map c_Vol z0)]) hk0 rfl rfl (cellsOf_ow rfl) (all_ow _ _ _) sz28 rfl rfl fun hk1 => ⟨⟨fun e => absurd e (by decide), trivial⟩, ?_⟩)
 refine z_nil (by kernel_rfl) (qk (f := .c 20 _ (.c 19 _ (.c 18 _ (.c 17 _ (.c 16 _ (.c 15 _ (.c 14 _ (.c 13 _ (.c 12 _ (.c 11 _ _)))))))))) hk1 rfl ?_)
 refine v ?_
 exact vgo hm tg1 ot1 (lx (.k4 .nil))
 refine v ?_
 exact vbk hm tg0 ot0 (lx (.k4 .nil))
 rintro tg2 ⟨r0, r1⟩ ot2 hm
 refine v (vl 1 (.agg ([.sc (.int .i64 0), .sc (.slice none 0 0), .sc (.slice none 0 0), .sc (.slice none 0 0), ow tg2 4 (List.map c_Vol r0)])) ld30 rfl rfl rfl ?_)
 refine ve fun hk => a_store 2 ([.sc (.int .i64 0), .sc (.slice none 0 0), .sc (.slice none 0 0), .sc (.slice none 0 0), ow tg2 4 (List.map c_Vol r0)]) hk rfl rfl rfl (by repeat (first | exact rfl | refine all_c (ocell_ow _ _ _) ?_ | refine all_c (ocell_aw _ _ _) ?_ | refine all_c rfl ?_)) sz30 rfl rfl fun hk2 => qk hk2 rfl ?_
 refine v ?_
 cases hm
 exact vr fun hk => Ret.of1 (.inl rfl) (rsC (.agg ([.sc (.int .i64 0), .sc (.slice none 0 0), .sc (.slice none 0 0), .sc (.slice none 0 0), ow tg2 4 (List.map c_Vol r0)])) ld30 rfl (Zd 2 hk rfl) rfl) (hp_sub (List.nil_sublist _) hk).1 (ALe.agg (.cons (ALe.refl _ _) (.cons (nil_lem _) (.cons (nil_lem _) (.cons (nil_lem _) (.cons ((own_frz0 _ 0 ot2 hk rfl)) .nil)))))) ⟨rfl, rfl⟩
theorem bd33 : bodied Tryz.prog 33 = true := by kernel_rfl
open Go.Vm
def M38_L4 (fuel : Nat) (p0 : TCatalog) (p1 : Id32) (q0 : Int) (q1 : Int) (q2 : Int) : Option (Lp (Int) (Lp (Int) (Lp (Int) (Bool)))) :=
 (ix p0.Snaps q0).bind fun x0 => (ix x0.Man.Parts q1).bind fun x1 => if (decide (q2 < (x1.Ids.length : Int))) = true then ((ix p0.Snaps q0).bind fun x2 => (ix x2.Man.Parts q1).bind fun x3 => (ix x3.Ids q2).bind fun x4 => if (decide (x4 = p1)) = true then (some (.ret (.ret (.ret true)))) else some (.go (IntKind.wrap .i64 (q2 + 1)))) else some (.brk q2)
def M38_L2 (fuel : Nat) (p0 : TCatalog) (p1 : Id32) (q0 : Int) (q1 : Int) : Option (Lp (Int) (Lp (Int) (Bool))) :=
 (ix p0.Snaps q0).bind fun x0 => if (decide (q1 < (x0.Man.Parts.length : Int))) = true then (after (loopM (fun s => M38_L4 fuel p0 p1 q0 q1 s) fuel 0) fun r0 => some (.go (IntKind.wrap .i64 (q1 + 1)))) else some (.brk q1)
def M38_L0 (fuel : Nat) (p0 : TCatalog) (p1 : Id32) (q0 : Int) : Option (Lp (Int) (Bool)) :=
 if (decide (q0 < (p0.Snaps.length : Int))) = true then (after (loopM (fun s => M38_L2 fuel p0 p1 q0 s) fuel 0) fun r0 => some (.go (IntKind.wrap .i64 (q0 + 1)))) else some (.brk q0)
def M38 (fuel : Nat) (p0 : TCatalog) (p1 : Id32) : Option (Bool) :=
 after (loopM (fun s => M38_L0 fuel p0 p1 s) fuel 0) fun r0 => some false
set_option maxHeartbeats 4000000 in
set_option maxRecDepth 100000 in
theorem W38 {fuel : Nat} {p0 : TCatalog} {p1 : Id32} {o : Bool} (h : Heap) (hm : M38 fuel p0 p1 = some o) :
 ACalls Tryz.prog 38 [.agg (c_Catalog p0), .agg (c_id p1)] h (fun r h' => r = .sc (.bool o) ∧ h' = h) := by
 refine ACv 59 [.tmp 4] Tryz.func38 rfl rfl rfl rfl ?_
 unfold M38 at hm
 refine v ?_
 refine ve fun hk => a_box hk rfl rfl fun k2 hk3 => qk hk3 rfl ?_
 refine ve fun hk => a_box hk rfl rfl fun k5 hk6 => qk hk6 rfl ?_
 refine v ?_
 refine vlpH hm (σ := Int) (τ := Unit) (fun g s => [(some k5, .obj 36 (c_id p1)), (some k2, .obj 30 (c_Catalog p0))]) (fun g s => .c 2 (.ptr k2 0) (.c 3 (.ptr k5 0) (.c 5 (.sc (.int .i64 s)) .nil))) () (lx (.k3 .nil)) ?_ ?_
 rintro _ q0 x hm
 replace hm : M38_L0 fuel p0 p1 q0 = some x := hm
 unfold M38_L0 at hm
 refine v (vl 1 _ ld25 rfl rfl rfl (vln ln25 rfl (v ?_)))
 refine vi hm (fun hc0 hm => ?_) fun hc0 hm => ?_
 refine v (v (v ?_))
 refine vlpH hm (σ := Int) (τ := Unit) (fun g s => [(some k5, .obj 36 (c_id p1)), (some k2, .obj 30 (c_Catalog p0))]) (fun g s => .c 2 (.ptr k2 0) (.c 3 (.ptr k5 0) (.c 5 (.sc (.int .i64 q0)) (.c 6 (.sc (.int .i64 s)) .nil)))) () (lx (.k4 .nil)) ?_ ?_
 rintro _ q1 x hm
 replace hm : M38_L2 fuel p0 p1 q0 q1 = some x := hm
 unfold M38_L2 at hm
 refine v (vl 1 _ ld25 rfl rfl rfl ?_)
 refine vx hm el25 rfl rfl fun _ _ hm => ?_
 refine vln ln56 rfl (v ?_)
 refine vi hm (fun hc1 hm => ?_) fun hc1 hm => ?_
 refine v (v (v ?_))
 refine vlpH hm (σ := Int) (τ := Unit) (fun g s => [(some k5, .obj 36 (c_id p1)), (some k2, .obj 30 (c_Catalog p0))]) (fun g s => .c 2 (.ptr k2 0) (.c 3 (.ptr k5 0) (.c 5 (.sc (.int .i64 q0)) (.c 6 (.sc (.int .i64 q1)) (.c 7 (.sc (.int .i64 s)) .nil))))) () (lx (.k5 .nil)) ?_ ?_
 rintro _ q2 x hm
 replace hm : M38_L4 fuel p0 p1 q0 q1 q2 = some x := hm
 unfold M38_L4 at hm
 refine v (vl 1 _ ld25 rfl rfl rfl ?_)
 refine vx hm el25 rfl rfl fun _ _ hm => ?_
 refine vx hm el56 rfl rfl fun _ _ hm => ?_
 refine vln ln68 rfl (v ?_)
 refine vi hm (fun hc2 hm => ?_) fun hc2 hm => ?_
 refine v (v (v (vq (by kernel_rfl) (vl 1 _ ld25 rfl rfl rfl ?_))))
 refine vx hm el25 rfl rfl fun _ _ hm => ?_
 refine vx hm el56 rfl rfl fun _ _ hm => ?_
 refine vx hm el68 rfl rfl fun x0 _ hm => ?_
 refine va (.agg (c_id x0)) ld36 rfl rfl (vl 0 (.agg (c_id p1)) ld36 rfl rfl rfl (vn (fun _ => o_ide eg36 u36 u5 ld5 rfl rfl) (v ?_)))
 refine vi hm (fun hc3 hm => ?_) fun hc3 hm => ?_
 refine v (v ?_)
 refine vrt hm fun hm => ?_
 refine vrt hm fun hm => ?_
 refine vrt hm fun hm => ?_
 injection hm with hm; subst hm
 exact vr1 rfl
 refine v (v ?_)
 exact vgo hm () trivial (lx (.k5 .nil))
 refine v ?_
 exact vbk hm () trivial (lx (.k5 .nil))
 rintro _ r0 hm
 refine v ?_
 exact vgo hm () trivial (lx (.k4 .nil))
 refine v ?_
 exact vbk hm () trivial (lx (.k4 .nil))
 rintro _ r1 hm
 refine v ?_
 exact vgo hm () trivial (lx (.k3 .nil))
 refine v ?_
 exact vbk hm () trivial (lx (.k3 .nil))
 rintro _ r2 hm
 refine v (v ?_)
 injection hm with hm; subst hm
 exact vr1 rfl
theorem bd38 : bodied Tryz.prog 38 = true := by kernel_rfl
def M112_L0 (fuel : Nat) (p0 : TCatalog) (p1 : List TLoc) (p2 : Int) (q0 : Bool) (q1 : Bool) (q2 : Int) : Option (Lp (Bool × Bool × Int) (Bool × Bool)) :=
 if (decide (q2 < (p1.length : Int))) = true then ((ix p1 q2).bind fun x0 => after (if (x0.Vol == p2) = true then (some (.brk (true, q1))) else (ix p1 q2).bind fun x1 => (ix p0.Vols x1.Vol).bind fun x2 => (ix p0.Vols p2).bind fun x3 => after (if (x2.Pool == x3.Pool) = true then (some (.brk true)) else some (.brk q1) : Option (Lp (Bool) (Lp (Bool × Bool) (Lp (Bool × Bool × Int) (Bool × Bool))))) fun j0 => some (.brk (q0, j0)) : Option (Lp (Bool × Bool) (Lp (Bool × Bool × Int) (Bool × Bool)))) fun ⟨j1, j2⟩ => some (.go (j1, j2, IntKind.wrap .i64 (q2 + 1)))) else some (.brk (q0, q1, q2))
def M112 (fuel : Nat) (p0 : TCatalog) (p1 : List TLoc) (p2 : Int) : Option (Bool × Bool) :=
 after (loopM (fun s => M112_L0 fuel p0 p1 p2 s.1 s.2.1 s.2.2) fuel (false, false, 0)) fun ⟨r0, r1, r2⟩ => some (r0, r1)
set_option maxHeartbeats 4000000 in
set_option maxRecDepth 100000 in
theorem W112 {fuel : Nat} {p0 : TCatalog} {p1 : List TLoc} {p2 : Int} {o : Bool × Bool} (h : Heap) (hm : M112 fuel p0 p1 p2 = some o) :
 ACalls Tryz.prog 112 [.agg (c_Catalog p0), .sl none 4 (List.map c_Loc p1), .sc (.int .i64 p2)] h (fun r h' => r = .tup [.sc (.bool o.1), .sc (.bool o.2)] ∧ h' = h) := by
 refine ACv 41 [.tmp 6, .tmp 7] Tryz.func112 rfl rfl rfl rfl ?_
 unfold M112 at hm
 refine v ?_
 refine ve fun hk => a_box hk rfl rfl fun k2 hk3 => qk hk3 rfl ?_
 refine v ?_
 refine vlpH hm (σ := Bool × Bool × Int) (τ := Unit) (fun g s => [(some k2, .obj 30 (c_Catalog p0))]) (fun g s => .c 1 (.sl none 4 (List.map c_Loc p1)) (.c 2 (.sc (.int .i64 p2)) (.c 3 (.ptr k2 0) (.c 6 (.sc (.bool s.1)) (.c 7 (.sc (.bool s.2.1)) (.c 8 (.sc (.int .i64 s.2.2)) .nil)))))) () (lx (.k6 .nil)) ?_ ?_
 rintro _ ⟨q0, q1, q2⟩ x hm
 replace hm : M112_L0 fuel p0 p1 p2 q0 q1 q2 = some x := hm
 unfold M112_L0 at hm
 refine v (vln ln42 rfl (v ?_))
 refine vi hm (fun hc0 hm => ?_) fun hc0 hm => ?_
 refine v (v (v ?_))
 refine vx hm el42 rfl rfl fun _ _ hm => ?_
 refine vjnH hm (σ := Bool × Bool) (τ := Unit) (fun g s => [(some k2, .obj 30 (c_Catalog p0))]) (fun g s => .c 1 (.sl none 4 (List.map c_Loc p1)) (.c 2 (.sc (.int .i64 p2)) (.c 3 (.ptr k2 0) (.c 6 (.sc (.bool s.1)) (.c 7 (.sc (.bool s.2)) (.c 8 (.sc (.int .i64 q2)) .nil)))))) (fun x hm => ?_) ?_
 refine v ?_
 refine vi hm (fun hc1 hm => ?_) fun hc1 hm => ?_
 refine v ?_
 exact vgo hm () trivial (lx (.k6 .nil))
 refine v (vq (by kernel_rfl) (vl 0 _ ld28 rfl rfl rfl ?_))
 refine vx hm el42 rfl rfl fun _ _ hm => ?_
 refine vx hm el28 rfl rfl fun _ _ hm => ?_
 refine vl 0 _ ld28 rfl rfl rfl ?_
 refine vx hm el28 rfl rfl fun _ _ hm => ?_
 refine vjnH hm (σ := Bool) (τ := Unit) (fun g s => [(some k2, .obj 30 (c_Catalog p0))]) (fun g s => .c 1 (.sl none 4 (List.map c_Loc p1)) (.c 2 (.sc (.int .i64 p2)) (.c 3 (.ptr k2 0) (.c 6 (.sc (.bool q0)) (.c 7 (.sc (.bool s)) (.c 8 (.sc (.int .i64 q2)) .nil)))))) (fun x hm => ?_) ?_
 refine v ?_
 refine vi hm (fun hc2 hm => ?_) fun hc2 hm => ?_
 refine v ?_
 exact vgo hm () trivial (lx (.k6 .nil))
 refine v ?_
 exact vgo hm () trivial (lx (.k6 .nil))
 rintro _ j0 hm
 exact vgo hm () trivial (lx (.k6 .nil))
 rintro _ ⟨j1, j2⟩ hm
 refine v ?_
 exact vgo hm () trivial (lx (.k6 .nil))
 refine v ?_
 exact vbk hm () trivial (lx (.k6 .nil))
 rintro _ ⟨r0, r1, r2⟩ hm
 refine v (v ?_)
 cases hm
 exact vr2 rfl rfl
theorem bd112 : bodied Tryz.prog 112 = true := by kernel_rfl
def M69_L0 (fuel : Nat) (p0 : TCatalog) (p1 : Int) (p2 : Bool) (q0 : List TItem) (q1 : Int) : Option (Lp ((List TItem) × Int) ((List TItem))) :=
 if (decide (q1 < (p0.Chunks.length : Int))) = true then ((ix p0.Chunks q1).bind fun x0 => (M112 fuel p0 x0.Locs p1).bind fun y0 => after (if y0.1 = true then (if (!p2) = true then (some (.brk true)) else if (!y0.2) = true then ((ix p0.Chunks q1).bind fun x1 => (M38 fuel p0 x1.Id).bind fun y1 => some (.brk y1)) else some (.brk false)) else some (.brk false) : Option (Lp (Bool) (Lp ((List TItem) × Int) ((List TItem))))) fun j0 => after (if j0 = true then ((ix p0.Chunks q1).bind fun x2 => (app q0 ([({ Kind := 1, Id := x2.Id, Seq := 0, Of := 0, Off := 0, Len := 0 } : TItem)] : List TItem)).bind fun z0 => some (.brk z0)) else some (.brk q0) : Option (Lp ((List TItem)) (Lp ((List TItem) × Int) ((List TItem))))) fun j1 => some (.go (j1, IntKind.wrap .i64 (q1 + 1)))) else some (.brk (q0, q1))
def M69_L2 (fuel : Nat) (p0 : TCatalog) (p1 : Int) (p2 : Bool) (q0 : List TItem) (q1 : Int) : Option (Lp ((List TItem) × Int) ((List TItem))) :=
 if (decide (q1 < (p0.Snaps.length : Int))) = true then ((ix p0.Snaps q1).bind fun x0 => (M112 fuel p0 x0.Locs p1).bind fun y0 => after (if y0.1 = true then (if (!p2) = true then (some (.brk true)) else some (.brk (!y0.2))) else some (.brk false) : Option (Lp (Bool) (Lp ((List TItem) × Int) ((List TItem))))) fun j0 => after (if j0 = true then ((ix p0.Snaps q1).bind fun x1 => (app q0 ([({ Kind := 2, Id := idZ, Seq := x1.Seq, Of := 0, Off := 0, Len := 0 } : TItem)] : List TItem)).bind fun z0 => some (.brk z0)) else some (.brk q0) : Option (Lp ((List TItem)) (Lp ((List TItem) × Int) ((List TItem))))) fun j1 => some (.go (j1, IntKind.wrap .i64 (q1 + 1)))) else some (.brk (q0, q1))
def M69_L4 (fuel : Nat) (p0 : TCatalog) (p1 : Int) (p2 : Bool) (q0 : List TItem) (q1 : Int) : Option (Lp ((List TItem) × Int) ((List TItem))) :=
 if (decide (q1 < (p0.Exps.length : Int))) = true then ((ix p0.Exps q1).bind fun x0 => (M112 fuel p0 x0.Locs p1).bind fun y0 => after (if y0.1 = true then (if (!p2) = true then (some (.brk true)) else some (.brk (!y0.2))) else some (.brk false) : Option (Lp (Bool) (Lp ((List TItem) × Int) ((List TItem))))) fun j0 => after (if j0 = true then ((ix p0.Exps q1).bind fun x1 => (ix p0.Exps q1).bind fun x2 => (app q0 ([({ Kind := 3, Id := idZ, Seq := x1.Seq, Of := x2.Of, Off := 0, Len := 0 } : TItem)] : List TItem)).bind fun z0 => some (.brk z0)) else some (.brk q0) : Option (Lp ((List TItem)) (Lp ((List TItem) × Int) ((List TItem))))) fun j1 => some (.go (j1, IntKind.wrap .i64 (q1 + 1)))) else some (.brk (q0, q1))
def M69 (fuel : Nat) (p0 : TCatalog) (p1 : Int) (p2 : Bool) : Option ((List TItem)) :=
 after (if (decide (p1 < 0)) = true then (some (.brk true)) else some (.brk (decide ((p0.Vols.length : Int) ≤ p1))) : Option (Lp (Bool) ((List TItem)))) fun j9 => if j9 = true then (some []) else after (loopM (fun s => M69_L0 fuel p0 p1 p2 s.1 s.2) fuel ([], 0)) fun ⟨r0, r1⟩ => after (loopM (fun s => M69_L2 fuel p0 p1 p2 s.1 s.2) fuel (r0, 0)) fun ⟨r2, r3⟩ => after (loopM (fun s => M69_L4 fuel p0 p1 p2 s.1 s.2) fuel (r2, 0)) fun ⟨r4, r5⟩ => some r4
set_option maxHeartbeats 4000000 in
set_option maxRecDepth 100000 in
theorem W69 {fuel : Nat} {p0 : TCatalog} {p1 : Int} {p2 : Bool} {o : (List TItem)} (h : Heap) (hm : M69 fuel p0 p1 p2 = some o) :
 ACalls Tryz.prog 69 [.agg (c_Catalog p0), .sc (.int .i64 p1), .sc (.bool p2)] h (fun r h' => r = .sl none 37 (List.map c_Item o) ∧ h' = h) := by
 refine ACv 157 [.tmp 6] Tryz.func69 rfl rfl rfl rfl ?_
 unfold M69 at hm
 refine v ?_
 refine ve fun hk => a_box hk rfl rfl fun k2 hk3 => qk hk3 rfl ?_
 refine v (vs (vs ?_))
 refine vjnH hm (σ := Bool) (τ := Unit) (fun g s => [(some k2, .obj 30 (c_Catalog p0))]) (fun g s => .c 1 (.sc (.int .i64 p1)) (.c 2 (.sc (.bool p2)) (.c 3 (.ptr k2 0) (.c 7 (.sc (.slice none 0 0)) (.c 25 (.sc (.bool s)) .nil))))) (fun x hm => ?_) ?_
 refine v ?_
 refine vi hm (fun hb0 hm => ?_) fun hb0 hm => ?_
 rw [hb0]
 exact vgo hm () trivial (lx (.k5 .nil))
 rw [hb0]
 refine vl 0 _ ld28 rfl rfl rfl (vln ln28 rfl ?_)
 exact vgo hm () trivial (lx (.k5 .nil))
 rintro _ j9 hm
 refine v ?_
 refine vi hm (fun hc0 hm => ?_) fun hc0 hm => ?_
 refine v (v ?_)
 cases hm
 exact vr fun hk => Ret.of1 (.inl rfl) (rsT _ _ (.sc (.slice _ _ _)) rfl) (hp_sub (List.nil_sublist _) hk).1 (nil_lem _) ⟨rfl, rfl⟩
 refine v (v (vle (lno (.tok 38 37 (([] : List TItem).length * 37)) 7 (ow none 37 (List.map c_Item [])) (ow_nil _ _)) ?_))
 refine vlp hm (σ := (List TItem) × Int) (τ := Option Key) (fun g s => [(g, .tok 38 37 ((s.1 : List TItem).length * 37)), (some k2, .obj 30 (c_Catalog p0))]) (fun g s => (g = none → s.1 = [])) (fun g s => .c 1 (.sc (.int .i64 p1)) (.c 2 (.sc (.bool p2)) (.c 3 (.ptr k2 0) (.c 7 (ow g 37 (List.map c_Item s.1)) (.c 8 (.sc (.int .i64 s.2)) .nil))))) none (fun _ => rfl) (lx (.k5 .nil)) ?_ ?_
 rintro tg0 ⟨q0, q1⟩ x ot0 hm
 replace hm : M69_L0 fuel p0 p1 p2 q0 q1 = some x := hm
 unfold M69_L0 at hm
 refine v (vl 1 _ ld26 rfl rfl rfl (vln ln26 rfl (v ?_)))
 refine vi hm (fun hc1 hm => ?_) fun hc1 hm => ?_
 refine v (v (v (vq (by kernel_rfl) (vl 1 (.agg (c_Catalog p0)) ld30 rfl rfl rfl (vl 1 _ ld26 rfl rfl rfl ?_)))))
 refine vx hm el26 rfl rfl fun _ _ hm => ?_
 refine vk W112 bd112 hm rfl rfl fun _ hm => ?_
 refine vs ?_
 refine vjnH hm (σ := Bool) (τ := Unit) (fun g s => [(tg0, .tok 38 37 ((q0 : List TItem).length * 37)), (some k2, .obj 30 (c_Catalog p0))]) (fun g s => .c 1 (.sc (.int .i64 p1)) (.c 2 (.sc (.bool p2)) (.c 3 (.ptr k2 0) (.c 7 (ow tg0 37 (List.map c_Item q0)) (.c 8 (.sc (.int .i64 q1)) (.c 63 (.sc (.bool s)) .nil)))))) (fun x hm => ?_) ?_
 refine v (vq (by kernel_rfl) ?_)
 refine vi hm (fun hb1 hm => ?_) fun hb1 hm => ?_
 rw [hb1]
 refine vi hm (fun hb2 hm => ?_) fun hb2 hm => ?_
 rw [hb2]
 exact vgo hm () trivial (lx (.k6 .nil))
 rw [hb2]
 refine vi hm (fun hb3 hm => ?_) fun hb3 hm => ?_
 rw [hb3]
 refine vl 1 (.agg (c_Catalog p0)) ld30 rfl rfl rfl (vl 1 _ ld26 rfl rfl rfl ?_)
 refine vx hm el26 rfl rfl fun x0 _ hm => ?_
 refine va (.agg (c_id x0.Id)) ld36 rfl rfl ?_
 refine vk W38 bd38 hm rfl rfl fun _ hm => ?_
 exact vgo hm () trivial (lx (.k6 .nil))
 rw [hb3]
 exact vgo hm () trivial (lx (.k6 .nil))
 rw [hb1]
 exact vgo hm () trivial (lx (.k6 .nil))
 rintro _ j0 hm
 refine vjn hm (σ := (List TItem)) (τ := Option Key) (fun g s => [(g, .tok 38 37 ((s : List TItem).length * 37)), (some k2, .obj 30 (c_Catalog p0))]) (fun g s => (g = none → s = [])) (fun g s => .c 1 (.sc (.int .i64 p1)) (.c 2 (.sc (.bool p2)) (.c 3 (.ptr k2 0) (.c 7 (ow g 37 (List.map c_Item s)) (.c 8 (.sc (.int .i64 q1)) .nil))))) (fun x hm => ?_) ?_
 refine v ?_
 refine vi hm (fun hc2 hm => ?_) fun hc2 hm => ?_
 refine v (vl 1 _ ld26 rfl rfl rfl ?_)
 refine vx hm el26 rfl rfl fun x1 _ hm => ?_
 refine va (.agg (c_id x1.Id)) ld36 rfl rfl (vn (fun _ => o_bld (c_Item ({ Kind := 1, Id := x1.Id, Seq := 0, Of := 0, Off := 0, Len := 0 } : TItem)) bt38 rfl) (vn (fun _ => o_lit (List.map c_Item ([({ Kind := 1, Id := x1.Id, Seq := 0, Of := 0, Off := 0, Len := 0 } : TItem)] : List TItem)) et33 rfl rfl rfl rfl) ?_))
 obtain ⟨z0, hz0, hm⟩ := Zc hm
 refine ve fun hk => a_app (c := c_Item) 0 hz0 et33 rfl rfl rfl ot0 hk rfl fun tg1 ot1 hk0 => qk hk0 rfl ?_
 exact vgo hm tg1 ot1 (lx (.k5 .nil))
 refine v ?_
 exact vgo hm tg0 ot0 (lx (.k5 .nil))
 rintro tg2 j1 ot2 hm
 refine v ?_
 exact vgo hm tg2 ot2 (lx (.k5 .nil))
 refine v ?_
 exact vbk hm tg0 ot0 (lx (.k5 .nil))
 rintro tg3 ⟨r0, r1⟩ ot3 hm
 refine v ?_
 refine vlp hm (σ := (List TItem) × Int) (τ := Option Key) (fun g s => [(g, .tok 38 37 ((s.1 : List TItem).length * 37)), (some k2, .obj 30 (c_Catalog p0))]) (fun g s => (g = none → s.1 = [])) (fun g s => .c 1 (.sc (.int .i64 p1)) (.c 2 (.sc (.bool p2)) (.c 3 (.ptr k2 0) (.c 7 (ow g 37 (List.map c_Item s.1)) (.c 11 (.sc (.int .i64 s.2)) .nil))))) tg3 ot3 (lx (.k5 .nil)) ?_ ?_
 rintro tg4 ⟨q2, q3⟩ x ot4 hm
 replace hm : M69_L2 fuel p0 p1 p2 q2 q3 = some x := hm
 unfold M69_L2 at hm
 refine v (vl 1 _ ld25 rfl rfl rfl (vln ln25 rfl (v ?_)))
 refine vi hm (fun hc3 hm => ?_) fun hc3 hm => ?_
 refine v (v (v (vq (by kernel_rfl) (vl 1 (.agg (c_Catalog p0)) ld30 rfl rfl rfl (vl 1 _ ld25 rfl rfl rfl ?_)))))
 refine vx hm el25 rfl rfl fun _ _ hm => ?_
 refine vk W112 bd112 hm rfl rfl fun _ hm => ?_
 refine vs ?_
 refine vjnH hm (σ := Bool) (τ := Unit) (fun g s => [(tg4, .tok 38 37 ((q2 : List TItem).length * 37)), (some k2, .obj 30 (c_Catalog p0))]) (fun g s => .c 1 (.sc (.int .i64 p1)) (.c 2 (.sc (.bool p2)) (.c 3 (.ptr k2 0) (.c 7 (ow tg4 37 (List.map c_Item q2)) (.c 11 (.sc (.int .i64 q3)) (.c 101 (.sc (.bool s)) .nil)))))) (fun x hm => ?_) ?_
 refine v ?_
 refine vi hm (fun hb4 hm => ?_) fun hb4 hm => ?_
 rw [hb4]
 refine vi hm (fun hb5 hm => ?_) fun hb5 hm => ?_
 rw [hb5]
 exact vgo hm () trivial (lx (.k6 .nil))
 rw [hb5]
 exact vgo hm () trivial (lx (.k6 .nil))
 rw [hb4]
 exact vgo hm () trivial (lx (.k6 .nil))
 rintro _ j2 hm
 refine vjn hm (σ := (List TItem)) (τ := Option Key) (fun g s => [(g, .tok 38 37 ((s : List TItem).length * 37)), (some k2, .obj 30 (c_Catalog p0))]) (fun g s => (g = none → s = [])) (fun g s => .c 1 (.sc (.int .i64 p1)) (.c 2 (.sc (.bool p2)) (.c 3 (.ptr k2 0) (.c 7 (ow g 37 (List.map c_Item s)) (.c 11 (.sc (.int .i64 q3)) .nil))))) (fun x hm => ?_) ?_
 refine v ?_
 refine vi hm (fun hc4 hm => ?_) fun hc4 hm => ?_
 refine v (vl 1 _ ld25 rfl rfl rfl ?_)
 refine vx hm el25 rfl rfl fun x2 _ hm => ?_
 refine vn (fun _ => o_bld (c_Item ({ Kind := 2, Id := idZ, Seq := x2.Seq, Of := 0, Off := 0, Len := 0 } : TItem)) bt38 rfl) (vn (fun _ => o_lit (List.map c_Item ([({ Kind := 2, Id := idZ, Seq := x2.Seq, Of := 0, Off := 0, Len := 0 } : TItem)] : List TItem)) et33 rfl rfl rfl rfl) ?_)
 obtain ⟨z1, hz1, hm⟩ := Zc hm
 refine ve fun hk => a_app (c := c_Item) 0 hz1 et33 rfl rfl rfl ot4 hk rfl fun tg5 ot5 hk1 => qk hk1 rfl ?_
 exact vgo hm tg5 ot5 (lx (.k5 .nil))
 refine v ?_
 exact vgo hm tg4 ot4 (lx (.k5 .nil))
 rintro tg6 j3 ot6 hm
 refine v ?_
 exact vgo hm tg6 ot6 (lx (.k5 .nil))
 refine v ?_
 exact vbk hm tg4 ot4 (lx (.k5 .nil))
 rintro tg7 ⟨r2, r3⟩ ot7 hm
 refine v ?_
 refine vlp hm (σ := (List TItem) × Int) (τ := Option Key) (fun g s => [(g, .tok 38 37 ((s.1 : List TItem).length * 37)), (some k2, .obj 30 (c_Catalog p0))]) (fun g s => (g = none → s.1 = [])) (fun g s => .c 1 (.sc (.int .i64 p1)) (.c 2 (.sc (.bool p2)) (.c 3 (.ptr k2 0) (.c 7 (ow g 37 (List.map c_Item s.1)) (.c 14 (.sc (.int .i64 s.2)) .nil))))) tg7 ot7 (lx (.k5 .nil)) ?_ ?_
 rintro tg8 ⟨q4, q5⟩ x ot8 hm
 replace hm : M69_L4 fuel p0 p1 p2 q4 q5 = some x := hm
 unfold M69_L4 at hm
 refine v (vl 1 _ ld27 rfl rfl rfl (vln ln27 rfl (v ?_)))
 refine vi hm (fun hc5 hm => ?_) fun hc5 hm => ?_
 refine v (v (v (vq (by kernel_rfl) (vl 1 (.agg (c_Catalog p0)) ld30 rfl rfl rfl (vl 1 _ ld27 rfl rfl rfl ?_)))))
 refine vx hm el27 rfl rfl fun _ _ hm => ?_
 refine vk W112 bd112 hm rfl rfl fun _ hm => ?_
 refine vs ?_
 refine vjnH hm (σ := Bool) (τ := Unit) (fun g s => [(tg8, .tok 38 37 ((q4 : List TItem).length * 37)), (some k2, .obj 30 (c_Catalog p0))]) (fun g s => .c 1 (.sc (.int .i64 p1)) (.c 2 (.sc (.bool p2)) (.c 3 (.ptr k2 0) (.c 7 (ow tg8 37 (List.map c_Item q4)) (.c 14 (.sc (.int .i64 q5)) (.c 139 (.sc (.bool s)) .nil)))))) (fun x hm => ?_) ?_
 refine v ?_
 refine vi hm (fun hb6 hm => ?_) fun hb6 hm => ?_
 rw [hb6]
 refine vi hm (fun hb7 hm => ?_) fun hb7 hm => ?_
 rw [hb7]
 exact vgo hm () trivial (lx (.k6 .nil))
 rw [hb7]
 exact vgo hm () trivial (lx (.k6 .nil))
 rw [hb6]
 exact vgo hm () trivial (lx (.k6 .nil))
 rintro _ j4 hm
 refine vjn hm (σ := (List TItem)) (τ := Option Key) (fun g s => [(g, .tok 38 37 ((s : List TItem).length * 37)), (some k2, .obj 30 (c_Catalog p0))]) (fun g s => (g = none → s = [])) (fun g s => .c 1 (.sc (.int .i64 p1)) (.c 2 (.sc (.bool p2)) (.c 3 (.ptr k2 0) (.c 7 (ow g 37 (List.map c_Item s)) (.c 14 (.sc (.int .i64 q5)) .nil))))) (fun x hm => ?_) ?_
 refine v ?_
 refine vi hm (fun hc6 hm => ?_) fun hc6 hm => ?_
 refine v ?_
 refine vz [(1000000, some k2, .obj 30 (c_Catalog p0))] mixed (fun hk => ⟨fun _ => hp_at 1 hk rfl, trivial⟩) fun hk => ?_
 refine z_w 0 rfl (fun S' h' hi hB => o_mv (ow _ _ _) rfl) ?_
 refine z_w 1 rfl (fun S' h' hi hB => Zh fd30_3 rfl rfl) ?_
 refine z_w 2 rfl (fun S' h' hi hB => Zg (.sl none 3 (List.map c_Exp p0.Exps)) ld27 rfl (At.s (InvL.get 0 hi rfl (hB 1000000 (by kernel_rfl)))) rfl) ?_
 refine z_w 3 rfl (fun S' h' hi hB => o_mv (.sc (.int _ _)) rfl) ?_
 obtain ⟨x3, hx0, hm⟩ := Zc hm
 refine z_w 4 rfl (fun S' h' hi hB => o_ix hx0 el27 rfl rfl) ?_
 refine z_w 5 rfl (fun S' h' hi hB => o_fl fd99_0 rfl rfl) ?_
 refine z_w 6 rfl (fun S' h' hi hB => o_ld (.sc (.int .i64 x3.Seq)) ld3 rfl rfl) ?_
 refine z_w 7 rfl (fun S' h' hi hB => Zh fd30_3 rfl rfl) ?_
 refine z_w 8 rfl (fun S' h' hi hB => Zg (.sl none 3 (List.map c_Exp p0.Exps)) ld27 rfl (At.s (InvL.get 0 hi rfl (hB 1000000 (by kernel_rfl)))) rfl) ?_
 refine z_w 9 rfl (fun S' h' hi hB => o_mv (.sc (.int _ _)) rfl) ?_
 obtain ⟨x4, hx1, hm⟩ := Zc hm
 refine z_w 10 rfl (fun S' h' hi hB => o_ix hx1 el27 rfl rfl) ?_
 refine z_w 11 rfl (fun S' h' hi hB => o_fl fd99_1 rfl rfl) ?_
 refine z_w 12 rfl (fun S' h' hi hB => o_ld (.sc (.int .i64 x4.Of)) ld3 rfl rfl) ?_
 refine z_w 13 rfl (fun S' h' hi hB => o_bld (c_Item ({ Kind := 3, Id := idZ, Seq := x3.Seq, Of := x4.Of, Off := 0, Len := 0 } : TItem)) bt38 rfl) ?_
 refine z_w 14 rfl (fun S' h' hi hB => o_lit (List.map c_Item ([({ Kind := 3, Id := idZ, Seq := x3.Seq, Of := x4.Of, Off := 0, Len := 0 } : TItem)] : List TItem)) et33 rfl rfl rfl rfl) ?_
 obtain ⟨z2, hz2, hm⟩ := Zc hm
 refine z_e 15 rfl (by kernel_rfl) (a_app (c := c_Item) 0 hz2 et33 rfl rfl rfl ot8 hk rfl fun tg9 ot9 hk2 => ⟨⟨fun _ => hp_at 1 hk2 rfl, trivial⟩, ?_⟩)
 refine z_w 16 rfl (fun S' h' hi hB => o_as (ow _ _ _) rfl) ?_
 refine z_nil (by kernel_rfl) (qk (f := .c 7 _ (.c 155 _ (.c 154 _ (.c 153 _ (.c 152 _ (.c 151 _ (.c 150 _ (.c 149 _ (.c 148 _ (.c 147 _ (.c 146 _ (.c 145 _ (.c 144 _ (.c 143 _ (.c 142 _ (.c 141 _ (.c 140 _ _))))))))))))))))) hk2 rfl ?_)
 exact vgo hm tg9 ot9 (lx (.k5 .nil))
 refine v ?_
 exact vgo hm tg8 ot8 (lx (.k5 .nil))
 rintro tg10 j5 ot10 hm
 refine v ?_
 exact vgo hm tg10 ot10 (lx (.k5 .nil))
 refine v ?_
 exact vbk hm tg8 ot8 (lx (.k5 .nil))
 rintro tg11 ⟨r4, r5⟩ ot11 hm
 refine v (v ?_)
 injection hm with hm; subst hm
 exact vr fun hk => Ret.of1 (.inl rfl) (rsT _ _ (ow _ _ _) rfl) (hp_sub (List.nil_sublist _) hk).1 ((own_frz0 _ 0 ot11 hk rfl)) ⟨rfl, rfl⟩
theorem bd69 : bodied Tryz.prog 69 = true := by kernel_rfl
def M25 (fuel : Nat) (p0 : TCatalog) (p1 : Int) : Option ((List TItem)) :=
 (M69 fuel p0 p1 false).bind fun y6 => some y6
set_option maxHeartbeats 4000000 in
set_option maxRecDepth 100000 in
theorem W25 {fuel : Nat} {p0 : TCatalog} {p1 : Int} {o : (List TItem)} (h : Heap) (hm : M25 fuel p0 p1 = some o) :
 ACalls Tryz.prog 25 [.agg (c_Catalog p0), .sc (.int .i64 p1)] h (fun r h' => r = .sl none 37 (List.map c_Item o) ∧ h' = h) := by
 refine ACv 8 [.tmp 4] Tryz.func25 rfl rfl rfl rfl ?_
 unfold M25 at hm
 refine v ?_
 refine ve fun hk => a_box hk rfl rfl fun k2 hk3 => qk hk3 rfl ?_
 refine v (vl 0 (.agg (c_Catalog p0)) ld30 rfl rfl rfl ?_)
 refine vk W69 bd69 hm rfl rfl fun _ hm => ?_
 refine v ?_
 injection hm with hm; subst hm
 exact vr1 rfl
theorem bd25 : bodied Tryz.prog 25 = true := by kernel_rfl
open Go.Vm
def onV (v : Int) (l : List TLoc) : Bool := l.any fun y => y.Vol == v
def it1 (x : TChunk) : TItem := { Kind := 1, Id := x.Id, Seq := 0, Of := 0, Off := 0, Len := 0 }
def it2 (x : TSnap) : TItem := { Kind := 2, Id := idZ, Seq := x.Seq, Of := 0, Off := 0, Len := 0 }
def it3 (x : TExp) : TItem := { Kind := 3, Id := idZ, Seq := x.Seq, Of := x.Of, Off := 0, Len := 0 }
def onL (c : TCatalog) (v : Int) : List TItem := (c.Chunks.filter fun x => onV v x.Locs).map it1 ++ (c.Snaps.filter fun x => onV v x.Locs).map it2 ++ (c.Exps.filter fun x => onV v x.Locs).map it3
theorem m80 {F : Nat} {l : List TLoc} {b : Bool} {v : Int} (hF : 1000 ≤ F) (hl : l.length ≤ 300) : M63 F l b v = some (onV v l) := by
 unfold M63 M64 onV
 have := m94 (F := F) (l := l) (f := fun x0 => M111 F x0 v) (fun y => y.Vol == v) (by omega) (by omega) (fun x _ => rfl)
 rw [this]
 rfl
theorem filt_loop {α β ρ : Type} {l : List α} {F : Nat} (acc0 : List β) (q : α → Bool) (it : α → β) {body : List β × Int → Option (Lp (List β × Int) ρ)} (hF : l.length < F)
    (hb : ∀ (i : Nat) (x : α), l[i]? = some x → x ∈ l → i < l.length → ∀ acc : List β, acc.length ≤ acc0.length + i → body (acc, (i : Int)) = some (.go (if q x then acc ++ [it x] else acc, ((i + 1 : Nat) : Int))))
    (he : ∀ acc, body (acc, (l.length : Int)) = some (.brk (acc, (l.length : Int)))) : loopM body F (acc0, 0) = some (.brk (acc0 ++ (l.filter q).map it, (l.length : Int))) := by
  have := go_loop (body := body) (s0 := (acc0, (0 : Int))) (n := l.length) (F := F) (fun i : Nat => (acc0 ++ ((l.take i).filter q).map it, (i : Int))) hF (by simp) (fun i hi => by
    have hlen : ((l.take i).filter q).length ≤ i := Nat.le_trans (List.length_filter_le _ _) (by rw [List.length_take]; omega)
    rw [hb i l[i] (List.getElem?_eq_getElem hi) (List.getElem_mem hi) hi _ (by rw [List.length_append, List.length_map]; omega)]
    rw [List.take_succ_eq_append_getElem hi, List.filter_append, List.map_append]
    cases hq : q l[i] <;> simp [List.filter, hq]) (he _)
  simpa using this
theorem m78 {F : Nat} {c : TCatalog} {v : Int} (hF : 1000 ≤ F) (h : Sm c) : M50 F c (fun x0 x1 => M63 F x0 x1 v) = some (onL c v) := by
 have hsn := h.sn
 have hch := h.ch
 have hex := h.ex
 unfold M50
 rw [filt_loop (l := c.Chunks) [] (fun x => onV v x.Locs) it1 (by omega) (fun i x hx hm hi acc ha => by
  unfold M50_L0
  rw [wr1 (by omega)]
  simp only [ix_nat, hx, Option.bind_some, Int.ofNat_lt, hi, decide_true, if_true, m44 hF h, m80 hF (h.cl x hm).1]
  simp only [List.length_nil] at ha
  rw [app_some (by simp; omega)]
  cases onV v x.Locs <;> rfl) (fun acc => by unfold M50_L0; simp)]
 simp only [after_brk, List.nil_append]
 have l1 : ((c.Chunks.filter fun x => onV v x.Locs).map it1).length ≤ 400 := by rw [List.length_map]; exact Nat.le_trans (List.length_filter_le _ _) hch
 rw [filt_loop (l := c.Snaps) _ (fun x => onV v x.Locs) it2 (by omega) (fun i x hx hm hi acc ha => by
  unfold M50_L2
  rw [wr1 (by omega)]
  simp only [ix_nat, hx, Option.bind_some, Int.ofNat_lt, hi, decide_true, if_true, m80 hF (h.sl x hm)]
  rw [app_some (by simp; omega)]
  cases onV v x.Locs <;> rfl) (fun acc => by unfold M50_L2; simp)]
 simp only [after_brk]
 have l2 : ((c.Snaps.filter fun x => onV v x.Locs).map it2).length ≤ 12 := by rw [List.length_map]; exact Nat.le_trans (List.length_filter_le _ _) hsn
 rw [filt_loop (l := c.Exps) _ (fun x => onV v x.Locs) it3 (by omega) (fun i x hx hm hi acc ha => by
  unfold M50_L4
  rw [wr1 (by omega)]
  simp only [ix_nat, hx, Option.bind_some, Int.ofNat_lt, hi, decide_true, if_true, m80 hF (h.el x hm)]
  rw [List.length_append] at ha
  rw [app_some (by simp; omega)]
  cases onV v x.Locs <;> rfl) (fun acc => by unfold M50_L4; simp)]
 rfl
theorem m37 {F : Nat} {c : TCatalog} {v : Int} (hF : 1000 ≤ F) (h : Sm c) : M23 F c v = some (if good c then onL c v else []) := by
 unfold M23
 rw [m33 hF h, m78 hF h]
 cases good c <;> simp
theorem onL_len {c : TCatalog} {v : Int} (h : Sm c) : (onL c v).length ≤ 720 := by
 have hsn := h.sn
 have hch := h.ch
 have hex := h.ex
 unfold onL
 simp only [List.length_append, List.length_map]
 have h1 := List.length_filter_le (fun x : TChunk => onV v x.Locs) c.Chunks
 have h2 := List.length_filter_le (fun x : TSnap => onV v x.Locs) c.Snaps
 have h3 := List.length_filter_le (fun x : TExp => onV v x.Locs) c.Exps
 omega
def live (c : TCatalog) (v : Int) : Nat := ((onL c v).filter fun x => x.Kind != 1 || usedB c x.Id).length
theorem locs_in {c : TCatalog} {l : List TLoc} (h : locsB c l = true) : ∀ x ∈ l, 0 ≤ x.Vol ∧ x.Vol.toNat < c.Vols.length := by
 intro x hx
 obtain ⟨i, hi, rfl⟩ := List.getElem_of_mem hx
 unfold locsB at h
 simp only [Bool.and_eq_true, Bool.not_eq_true', List.any_eq_false, List.mem_range] at h
 have this : locB c l i = true := by simpa using h.2 i hi
 unfold locB at this
 rw [List.getElem?_eq_getElem hi] at this
 simp only [Bool.and_eq_true, inR, decide_eq_true_eq] at this
 obtain ⟨⟨⟨⟨⟨k1, k2⟩, -⟩, -⟩, -⟩, -⟩ := this
 omega
theorem m123 {F : Nat} {c : TCatalog} {l : List TLoc} {v : Int} (hF : 1000 ≤ F) (hl : l.length ≤ 300) (hin : ∀ x ∈ l, 0 ≤ x.Vol ∧ x.Vol.toNat < c.Vols.length) (hv : 0 ≤ v ∧ v.toNat < c.Vols.length) :
    ∃ b, M112 F c l v = some (onV v l, b) := by
  unfold M112
  obtain ⟨s, ⟨h1, h2⟩, h3⟩ := loop_inv (body := fun s : Bool × Bool × Int => M112_L0 F c l v s.1 s.2.1 s.2.2) (I := fun i s => s.2.2 = (i : Int) ∧ s.1 = (l.take i).any fun y => y.Vol == v) (n := l.length) (fun i s hi hI => by
    obtain ⟨a, b, q⟩ := s
    obtain ⟨rfl, rfl⟩ := hI
    have hx : l[i]? = some l[i] := List.getElem?_eq_getElem hi
    have hm := List.getElem_mem hi
    have htk := List.take_succ_eq_append_getElem hi
    generalize l[i] = x at hx hm htk
    obtain ⟨i1, i2⟩ := hin x hm
    have e1 : c.Vols[x.Vol.toNat]? = some c.Vols[x.Vol.toNat] := List.getElem?_eq_getElem i2
    have e2 : c.Vols[v.toNat]? = some c.Vols[v.toNat] := List.getElem?_eq_getElem hv.2
    generalize c.Vols[x.Vol.toNat] = w1 at e1
    generalize c.Vols[v.toNat] = w2 at e2
    refine ⟨((l.take (i + 1)).any fun y => y.Vol == v, (if x.Vol == v then b else if w1.Pool == w2.Pool then true else b), ((i + 1 : Nat) : Int)), ?_, rfl, rfl⟩
    unfold M112_L0
    rw [wr1 (by omega)]
    simp only [ix_nat, hx, ix_pos _ i1, ix_pos _ hv.1, e1, e2, Option.bind_some, Int.ofNat_lt, hi, decide_true, if_true, htk, List.any_append]
    cases hq : x.Vol == v
    · cases w1.Pool == w2.Pool <;> simp [after, hq]
    · simp [after, hq]) (fun s hs => by
    obtain ⟨a, b, q⟩ := s
    obtain ⟨rfl, -⟩ := hs
    unfold M112_L0
    simp) F 0 (false, false, 0) (by omega) (by omega) ⟨rfl, rfl⟩
  rw [h3]
  simp only [after_brk]
  refine ⟨s.2.1, ?_⟩
  rw [h2, List.take_length]
  rfl
theorem good_locs {c : TCatalog} (hg : good c = true) : (∀ x ∈ c.Chunks, locsB c x.Locs = true) ∧ (∀ x ∈ c.Snaps, locsB c x.Locs = true) ∧ (∀ x ∈ c.Exps, locsB c x.Locs = true) := by
 unfold good chsB snsB exsB at hg
 simp only [Bool.and_eq_true, Bool.not_eq_true', List.any_eq_false, List.mem_range] at hg
 obtain ⟨⟨⟨⟨-, -⟩, h1, -⟩, h2, -⟩, h3, -⟩ := hg
 refine ⟨fun x hx => ?_, fun x hx => ?_, fun x hx => ?_⟩
 ·obtain ⟨i, hi, rfl⟩ := List.getElem_of_mem hx
  have this : chB c i = true := by simpa using h1 i hi
  unfold chB at this
  rw [List.getElem?_eq_getElem hi] at this
  simp only [Bool.and_eq_true] at this
  exact this.1.2
 ·obtain ⟨i, hi, rfl⟩ := List.getElem_of_mem hx
  have this : snB c i = true ∧ snC c i = true := by simpa using h2 i hi
  replace this := this.1
  unfold snB at this
  rw [List.getElem?_eq_getElem hi] at this
  simp only [Bool.and_eq_true] at this
  exact this.2
 ·obtain ⟨i, hi, rfl⟩ := List.getElem_of_mem hx
  have this : exA c i = true ∧ exC c i = true := by simpa using h3 i hi
  replace this := this.1
  unfold exA at this
  rw [List.getElem?_eq_getElem hi] at this
  simp only [Bool.and_eq_true] at this
  exact this.2
theorem onV_out {c : TCatalog} {l : List TLoc} {v : Int} (h : locsB c l = true) (hv : ¬ (0 ≤ v ∧ v.toNat < c.Vols.length)) : onV v l = false := by
 refine List.any_eq_false.2 fun x hx => ?_
 have := locs_in h x hx
 simp only [beq_iff_eq]
 rintro rfl
 exact hv this
theorem onL_out {c : TCatalog} {v : Int} (hg : good c = true) (hv : ¬ (0 ≤ v ∧ v.toNat < c.Vols.length)) : onL c v = [] := by
 obtain ⟨h1, h2, h3⟩ := good_locs hg
 unfold onL
 rw [List.filter_eq_nil_iff.2 (fun x hx => by simp [onV_out (h1 x hx) hv]), List.filter_eq_nil_iff.2 (fun x hx => by simp [onV_out (h2 x hx) hv]), List.filter_eq_nil_iff.2 (fun x hx => by simp [onV_out (h3 x hx) hv])]
 rfl
theorem m42 {F : Nat} {c : TCatalog} {v : Int} (hF : 1000 ≤ F) (h : Sm c) (hg : good c = true) : M25 F c v = some (onL c v) := by
 have hsn := h.sn
 have hch := h.ch
 have hex := h.ex
 obtain ⟨g1, g2, g3⟩ := good_locs hg
 unfold M25 M69
 by_cases hv : 0 ≤ v ∧ v.toNat < c.Vols.length
 ·have v1 : decide (v < 0) = false := by simp; omega
  have v2 : decide ((c.Vols.length : Int) ≤ v) = false := by simp; omega
  simp only [v1, v2, Bool.false_eq_true, if_false, after_brk]
  rw [filt_loop (l := c.Chunks) [] (fun x => onV v x.Locs) it1 (by omega) (fun i x hx hm hi acc ha => by
   obtain ⟨b, hb⟩ := m123 (F := F) (v := v) hF (h.cl x hm).1 (locs_in (g1 x hm)) hv
   unfold M69_L0
   rw [wr1 (by omega)]
   simp only [ix_nat, hx, Option.bind_some, Int.ofNat_lt, hi, decide_true, if_true, hb]
   simp only [List.length_nil] at ha
   rw [app_some (by simp; omega)]
   cases onV v x.Locs <;> rfl) (fun acc => by unfold M69_L0; simp)]
  simp only [after_brk, List.nil_append]
  have l1 : ((c.Chunks.filter fun x => onV v x.Locs).map it1).length ≤ 400 := by rw [List.length_map]; exact Nat.le_trans (List.length_filter_le _ _) hch
  rw [filt_loop (l := c.Snaps) _ (fun x => onV v x.Locs) it2 (by omega) (fun i x hx hm hi acc ha => by
   obtain ⟨b, hb⟩ := m123 (F := F) (v := v) hF (h.sl x hm) (locs_in (g2 x hm)) hv
   unfold M69_L2
   rw [wr1 (by omega)]
   simp only [ix_nat, hx, Option.bind_some, Int.ofNat_lt, hi, decide_true, if_true, hb]
   rw [app_some (by simp; omega)]
   cases onV v x.Locs <;> rfl) (fun acc => by unfold M69_L2; simp)]
  simp only [after_brk]
  have l2 : ((c.Snaps.filter fun x => onV v x.Locs).map it2).length ≤ 12 := by rw [List.length_map]; exact Nat.le_trans (List.length_filter_le _ _) hsn
  rw [filt_loop (l := c.Exps) _ (fun x => onV v x.Locs) it3 (by omega) (fun i x hx hm hi acc ha => by
   obtain ⟨b, hb⟩ := m123 (F := F) (v := v) hF (h.el x hm) (locs_in (g3 x hm)) hv
   unfold M69_L4
   rw [wr1 (by omega)]
   simp only [ix_nat, hx, Option.bind_some, Int.ofNat_lt, hi, decide_true, if_true, hb]
   rw [List.length_append] at ha
   rw [app_some (by simp; omega)]
   cases onV v x.Locs <;> rfl) (fun acc => by unfold M69_L4; simp)]
  rfl
 ·rw [onL_out hg hv]
  have : (decide (v < 0) || decide ((c.Vols.length : Int) ≤ v)) = true := by simp; omega
  cases q1 : decide (v < 0)
  ·rw [q1] at this
   simp only [Bool.false_or] at this
   simp only [Bool.false_eq_true, if_false, this, after_brk, if_true]
   rfl
  ·simp only [if_true, after_brk]
   rfl
theorem m65 {F : Nat} {c : TCatalog} {d : Id32} (hF : 1000 ≤ F) (h : Sm c) : M38 F c d = some (usedB c d) := by
 have hsn := h.sn
 unfold M38
 rw [any_loop (l := c.Snaps) (F := F) (fun s => s.Man.Parts.any fun p => p.Ids.any fun x => decide (d = x)) true (by omega) (fun i s hs hm hi => by
  obtain ⟨-, k2, k3⟩ := h.man s hm
  unfold M38_L0
  rw [wr1 (by omega), any_loop (l := s.Man.Parts) (F := F) (fun p => p.Ids.any fun x => decide (d = x)) (Lp.ret true) (by omega) (fun j p hp hm' hj => by
   have k4 := (k3 p hm').2
   unfold M38_L2
   rw [wr1 (by omega), any_loop (l := p.Ids) (F := F) (fun x => decide (d = x)) (Lp.ret (Lp.ret true)) (by omega) (fun k x hx _ hk => by
    unfold M38_L4
    rw [wr1 (by omega)]
    simp only [ix_nat, hs, hp, hx, Option.bind_some, Int.ofNat_lt, hk, decide_true, if_true, decide_eq_true_eq, eq_comm (a := x)]
    split <;> rfl) (by unfold M38_L4; simp [ix_nat, hs, hp])]
   simp only [ix_nat, hs, Option.bind_some, Int.ofNat_lt, hj, decide_true, if_true]
   cases p.Ids.any fun x => decide (d = x) <;> rfl) (by unfold M38_L2; simp [ix_nat, hs])]
  simp only [Int.ofNat_lt, hi, decide_true, if_true]
  cases s.Man.Parts.any fun p => p.Ids.any fun x => decide (d = x) <;> rfl) (by unfold M38_L0; simp)]
 unfold usedB
 cases c.Snaps.any fun s => s.Man.Parts.any fun p => p.Ids.any fun x => decide (d = x) <;> rfl
open Go.Vm
def fits (c : TCatalog) (p need : Int) (r : List Int) (nt st : Int) (i : Nat) : Bool := match c.Vols[i]?, r[i]? with
 | some x, some z => x.Pool == p && (i : Int) != nt && x.State == st && decide (need ≤ z)
 | _, _ => false
open Go.Vm
def fidx {α : Type} (l : List α) (q : α → Bool) : Int := match (List.range l.length).find? fun i => (l[i]?).any q with
 | none => -1
 | some i => (i : Int)
theorem fidx_loop {α : Type} {l : List α} (q : α → Bool) {F : Nat} {body : Int → Option (Lp Int Int)} (hF : l.length < F)
    (hb : ∀ (i : Nat) (x : α), l[i]? = some x → x ∈ l → i < l.length → body (i : Int) = some (if q x then .ret (i : Int) else .go ((i + 1 : Nat) : Int))) (he : body (l.length : Int) = some (.brk (l.length : Int))) :
    (after (loopM body F 0) fun _ => some (-1)) = some (fidx l q) := by
  rw [loop_ff (s0 := (0 : Int)) (n := l.length) (F := F) (fun i : Nat => (i : Int)) (fun i => (l[i]?).any q) (fun i => (i : Int)) hF rfl (fun i hi _ => by
    rw [hb i l[i] (List.getElem?_eq_getElem hi) (List.getElem_mem hi) hi, List.getElem?_eq_getElem hi]; rfl) (fun _ => he)]
  unfold LF fidx
  cases (List.range l.length).find? fun i => (l[i]?).any q <;> rfl
theorem fidx_first {α : Type} {l : List α} {q : α → Bool} {i : Nat} {x : α} (hx : l[i]? = some x) (hq : q x = true) (hn : ∀ (j : Nat) (y : α), j < i → l[j]? = some y → q y = false) : fidx l q = (i : Int) := by
 unfold fidx
 have hi := (List.getElem?_eq_some_iff.1 hx).1
 have : (List.range l.length).find? (fun i => (l[i]?).any q) = some i := by
  rw [List.find?_range_eq_some]
  refine ⟨by simp [hx, hq], by simpa using hi, fun j hj => ?_⟩
  cases e : l[j]? with
  | none => simp
  | some y => simp [hn j y hj e]
 rw [this]
theorem m50f {F : Nat} {c : TCatalog} {nm : ByteArray} (hF : 1000 ≤ F) (hl : c.Snaps.length < 1000) : M149 F c nm = some (fidx c.Snaps fun s => s.Man.Name.toList == nm.toList) := by
 unfold M149
 refine fidx_loop _ (by omega) (fun i x hx hm hi => ?_) (by unfold M149_L0; simp)
 unfold M149_L0
 rw [wr1 (by omega)]
 simp only [ix_nat, hx, Option.bind_some, Int.ofNat_lt, hi, decide_true, if_true]
 cases x.Man.Name.toList == nm.toList <;> simp
theorem m98 {F : Nat} {l : List TChunk} {f : TChunk → Option Bool} (q : TChunk → Bool) (hF : l.length < F) (hl : l.length < 1000) (hf : ∀ x ∈ l, f x = some (q x)) : M53 F l f = some (fidx l q) := by
 unfold M53
 refine fidx_loop q hF (fun i x hx hm hi => ?_) (by unfold M53_L0; simp)
 unfold M53_L0
 rw [wr1 (by omega)]
 simp only [ix_nat, hx, hf x hm, Option.bind_some, Int.ofNat_lt, hi, decide_true, if_true]
 cases q x <;> simp
theorem m48 {F : Nat} {c : TCatalog} {d : Id32} (hF : 1000 ≤ F) (hl : c.Chunks.length < 1000) : M20 F c d = some (fidx c.Chunks fun x => decide (x.Id = d)) := by
 unfold M20
 rw [m98 (f := fun x0 => M54 F x0 d) (fun x => decide (x.Id = d)) (by omega) hl (fun x _ => rfl)]
 rfl
def inP (c : TCatalog) (p : Int) (x : TLoc) : Bool := inR x.Vol 0 ((c.Vols.length : Int) - 1) && (c.Vols[x.Vol.toNat]?).any fun v => v.Pool == p
theorem m95 {F : Nat} {c : TCatalog} {p : Int} {x : TLoc} (hv : c.Vols.length < 1000) : M56 F x c p = some (inP c p x) := by
 unfold M56 inP
 rw [wr (by omega) (by omega), m68]
 simp only [Option.bind_some]
 cases h : inR x.Vol 0 ((c.Vols.length : Int) - 1)
 ·rfl
 ·have h' : 0 ≤ x.Vol ∧ x.Vol ≤ (c.Vols.length : Int) - 1 := by simpa [inR] using h
  have hi : x.Vol.toNat < c.Vols.length := by omega
  simp only [if_true, ix_pos _ h'.1, List.getElem?_eq_getElem hi, Option.bind_some, after_brk, Option.any_some, Bool.true_and]
theorem m46 {F : Nat} {c : TCatalog} {l : List TLoc} {p : Int} (hF : 1000 ≤ F) (hv : c.Vols.length < 1000) (hl : l.length ≤ 300) : M21 F c l p = some (l.any (inP c p)) := by
 unfold M21
 rw [m94 (F := F) (f := fun x0 => M56 F x0 c p) (inP c p) (by omega) (by omega) (fun x _ => m95 hv)]
 rfl
def newC (l : List Int) : TCatalog := { Seq := 0, Snaps := [], Chunks := [], Exps := [], Vols := l.map fun p => { Pool := p, Epoch := 0, State := 1, Files := 0 } }
theorem m32 {F : Nat} {l : List Int} (hF : 1000 ≤ F) (hl : l.length ≤ 100) : M33 F l = some (newC l) := by
  unfold M33
  rw [go_loop (s0 := (([] : List TVol), (0 : Int))) (n := l.length) (F := F) (fun i : Nat => ((l.take i).map fun p => ({ Pool := p, Epoch := 0, State := 1, Files := 0 } : TVol), (i : Int))) (by omega) (by simp) (fun i hi => by
      unfold M33_L0
      have hx : l[i]? = some l[i] := List.getElem?_eq_getElem hi
      rw [wr1 (by omega)]
      simp only [ix_nat, hx, Option.bind_some, Int.ofNat_lt, hi, decide_true, if_true]
      rw [app_some (by simp; omega), List.take_succ_eq_append_getElem hi, List.map_append]; rfl) (by unfold M33_L0; simp)]
  simp [newC, after]
def poolB (p : Int) : Bool := inR p 0 1
theorem newC_sm {l : List Int} (hl : l.length ≤ 8) (hg : gL gI l) : Sm (newC l) where
 g := by
  refine ⟨by simp [newC, gI], fun _ h => by simp [newC] at h, fun _ h => by simp [newC] at h, fun _ h => by simp [newC] at h, fun x hx => ?_⟩
  obtain ⟨p, hp, rfl⟩ := List.mem_map.1 hx
  exact ⟨hg p hp, by simp [gI], by simp [gI], by simp [gI]⟩
 sn := by simp [newC]
 ch := by simp [newC]
 ex := by simp [newC]
 vo := by simp [newC]; omega
 sl := by simp [newC]
 man := by simp [newC]
 cl := by simp [newC]
 el := by simp [newC]
theorem newC_good {l : List Int} (hl : inR l.length 1 8 = true) (hp : l.all poolB = true) : good (newC l) = true := by
 have h1 : (newC l).Vols.all volB = true := by
  rw [List.all_eq_true]
  intro x hx
  obtain ⟨p, hq, rfl⟩ := List.mem_map.1 hx
  have := List.all_eq_true.1 hp p hq
  simp only [poolB, inR, Bool.and_eq_true, decide_eq_true_eq] at this
  simp [volB, inR, this.1, this.2]
 have h2 : (newC l).Vols.length = l.length := by simp [newC]
 unfold good
 rw [h1, h2, hl]
 simp [newC, chsB, snsB, exsB, inR]
theorem snB_at {c : TCatalog} (hg : good c = true) {i : Nat} {s : TSnap} (hs : c.Snaps[i]? = some s) : snB c i = true ∧ plB c s.Man = true := by
 unfold good snsB at hg
 simp only [Bool.and_eq_true, Bool.not_eq_true', List.any_eq_false, List.mem_range] at hg
 obtain ⟨⟨⟨⟨-, -⟩, -, -⟩, h2, -⟩, -, -⟩ := hg
 have h := h2 i (List.getElem?_eq_some_iff.1 hs).1
 have h : snB c i = true ∧ snC c i = true := by simpa using h
 refine ⟨h.1, ?_⟩
 have := h.2
 unfold snC at this
 rw [hs] at this
 exact this
theorem chB_at {c : TCatalog} (hg : good c = true) {i : Nat} {x : TChunk} (hs : c.Chunks[i]? = some x) : chB c i = true := by
 unfold good chsB at hg
 simp only [Bool.and_eq_true, Bool.not_eq_true', List.any_eq_false, List.mem_range] at hg
 obtain ⟨⟨⟨⟨-, -⟩, h1, -⟩, -, -⟩, -, -⟩ := hg
 have h := h1 i (List.getElem?_eq_some_iff.1 hs).1
 simpa using h
theorem good_chs {c : TCatalog} (hg : good c = true) : chsB c = true := by
 unfold good at hg
 simp only [Bool.and_eq_true] at hg
 exact hg.1.1.2.1
theorem chunk_at {c : TCatalog} (h : Sm c) (hg : good c = true) {i : Nat} {x : TChunk} (hx : c.Chunks[i]? = some x) : (fidx c.Chunks fun y => decide (y.Id = x.Id)) = (i : Int) := by
 have hr := ris_of h (good_chs hg)
 refine fidx_first hx (by simp) (fun j y hj hy => ?_)
 have := hr.2 j i y x hy hx hj
 simp only [decide_eq_false_iff_not]
 rintro e
 rw [e] at this
 omega
open Go.Vm
def M67a (fuel : Nat) (p0 : List TLoc) : Option (List TLoc) := app [] p0
set_option maxRecDepth 100000 in
theorem W67a {fuel : Nat} {p0 : List TLoc} {o : List TLoc} (h : Heap) (hm : M67a fuel p0 = some o) :
 ACalls Tryz.prog 67 [.sl none 4 (List.map c_Loc p0)] h (fun r h' => ∃ g : AGh, AOk g 4 o.length ∧ HOk h [(g.t, .obj 81 (fl c_Loc o g.sp))] ∧ r = aw g.t g.n g.cap ∧ h' = hp h [(g.t, .obj 81 (fl c_Loc o g.sp))]) := by
 refine ACalls_hp 8 [.tmp 2] Tryz.func67 rfl rfl rfl rfl ?_
 unfold M67a at hm
 refine Zf fun K1 H1 => (Za (s_v (o_as (.sc (.slice _ _ _)) rfl) (Zb (H1 _ _ (Zf fun K1 H1 => (Zf fun K2 H2 => (Za (vE rfl ?_))))))))
 refine s_op (AOp_eqnil rfl (by rw [el42]; rfl) (by rw [ev_fm]; exact rfl) (.inl ⟨_, _, _, rfl, fun b hb => ?_⟩))
 refine Zb (H2 _ _ ?_)
 refine AW_if' rfl (fun hc => ?_) (fun hc => ?_)
 have h0 : p0 = [] := by
   cases p0 with
   | nil => rfl
   | cons x l => have := hb (by simp); rw [this] at hc; cases hc
 subst h0
 obtain ⟨rfl, -⟩ := app_spec hm
 refine Zf fun K1 H1 => (Za (s_v (o_as (.sc (.slice _ _ _)) rfl) (Zb (H1 _ _ (AW_ret ?_)))))
 exact Ret.one (.inl rfl) (Sub.refl _) (ALe_nilA _) ⟨g0, AOk.g0 _, HOk.none (HOk.nil _), rfl, rfl⟩
 refine Zl (H1 _ _ (Zf fun K1 H1 => (Za ?_)))
 refine s_op (a_lit0A (c := c_Loc) (HOk.nil _) et42 fun hk => ?_)
 refine vE rfl ?_
 refine s_op (a_appA (c := c_Loc) 0 hm et42 rfl zr81 rfl cz_Loc rfl rfl (AOk.g0 _) hk rfl fun g ok hk => ?_)
 refine s_v (o_as (aw _ _ _) rfl) (Zb (H1 _ _ (AW_ret ?_)))
 exact Ret.one (.inl rfl) (Sub.refl _) (ALe.refl _ _) ⟨g, ok, hk, rfl, rfl⟩
theorem bd67 : bodied Tryz.prog 67 = true := by kernel_rfl
def M108p_L0 (fuel : Nat) (p0 : List TLoc) (p1 : TLoc → Option Bool) (q0 : Int) : Option (Lp (Int) (Int)) :=
 if (decide (q0 < (p0.length : Int))) = true then ((ix p0 q0).bind fun x0 => (p1 x0).bind fun y0 => if y0 = true then (some (.ret q0)) else some (.go (IntKind.wrap .i64 (q0 + 1)))) else some (.brk q0)
def M108p (fuel : Nat) (p0 : List TLoc) (p1 : TLoc → Option Bool) : Option (Int) :=
 after (loopM (fun s => M108p_L0 fuel p0 p1 s) fuel 0) fun r0 => some (-1)
set_option maxHeartbeats 4000000 in
set_option maxRecDepth 100000 in
theorem W108p {fuel : Nat} {p0 : List TLoc} {p1 : TLoc → Option Bool} {o : Int} (h : Heap) {g_p0 : AGh} (ok_p0 : AOk g_p0 4 p0.length) (hk0 : HOk h [(g_p0.t, .obj 81 (fl c_Loc (p0 : List TLoc) g_p0.sp))]) {p1F : Nat} {p1C : List AV} (p1B : bodied Tryz.prog p1F = true) (p1H : ∀ x0 o h0, Sub h h0 → p1 x0 = some o → ACalls Tryz.prog p1F ([.agg (c_Loc x0)] ++ p1C) h0 (fun r h' => r = .sc (.bool o) ∧ h' = h0)) (hm : M108p fuel p0 p1 = some o) :
 ACalls Tryz.prog 108 [aw g_p0.t g_p0.n g_p0.cap, .fn (.func p1F) p1C] (hp h [(g_p0.t, .obj 81 (fl c_Loc (p0 : List TLoc) g_p0.sp))]) (fun r h' => r = .sc (.int .i64 o) ∧ h' = hp h [(g_p0.t, .obj 81 (fl c_Loc (p0 : List TLoc) g_p0.sp))]) := by
 refine ACp hk0 19 [.tmp 4] Tryz.func108 rfl rfl rfl rfl ?_
 unfold M108p at hm
 refine vs (v0 (vs (vs (v0 (vn (fun _ => o_lenA ln42 ok_p0 rfl) ?_)))))
 refine vlpH hm (σ := Int) (τ := Unit) (fun g s => [(g_p0.t, .obj 81 (fl c_Loc (p0 : List TLoc) g_p0.sp))]) (fun g s => .c 0 (aw g_p0.t g_p0.n g_p0.cap) (.c 1 (.fn (.func p1F) p1C) (.c 7 (.sc (.int .i64 (p0.length : Int))) (.c 8 (.sc (.int .i64 s)) .nil)))) () (lx (.k4 .nil)) ?_ ?_
 rintro _ q0 x hm
 replace hm : M108p_L0 fuel p0 p1 q0 = some x := hm
 unfold M108p_L0 at hm
 refine vs (v0 (vs (v0 ?_)))
 refine vi hm (fun hc0 hm => ?_) fun hc0 hm => ?_
 refine v0 (vs (v0 (vs (v0 (vs (v0 ?_))))))
 obtain ⟨x1, hx0, hm⟩ := Zc hm
 refine vn (fun _ => o_ixA hx0 el42 ok_p0 rfl rfl) (vn (fun hk => o_ldA (fo := 0) (.agg (c_Loc x1)) hx0 cz_Loc ok_p0 ld81 rfl (hp_at 0 hk rfl) (fun _ => rfl)) ?_)
 obtain ⟨_, hy0, hm⟩ := Zc hm
 refine vn (fun hk => o_call (p1H _ _ _ (hp_sub (List.nil_sublist _) hk).1 hy0) rfl p1B rfl) (v0 ?_)
 refine vi hm (fun hc1 hm => ?_) fun hc1 hm => ?_
 refine vs (v0 (v0 ?_))
 refine vrt hm fun hm => ?_
 injection hm with hm; subst hm
 exact vr fun hk => Ret.of1 (.inl rfl) (rsT _ _ (.sc (.int _ _)) rfl) (hp_pick hk [0] rfl).2 (ALe.refl _ _) ⟨rfl, rfl⟩
 refine v0 (v0 ?_)
 exact vgo hm () trivial (lx (.k4 .nil))
 refine v0 ?_
 exact vbk hm () trivial (lx (.k4 .nil))
 rintro _ r0 hm
 refine vs (v0 (v0 ?_))
 cases hm
 exact vr fun hk => Ret.of1 (.inl rfl) (rsT _ _ (.sc (.int _ _)) rfl) (hp_pick hk [0] rfl).2 (ALe.refl _ _) ⟨rfl, rfl⟩
def M66P_L0 (fuel : Nat) (p1 : TLoc → Option Bool) (q0 : List TLoc) (q1 : Int) (q2 : Int) : Option (Lp ((List TLoc) × Int × Int) ((List TLoc))) :=
 if (decide (q2 < (q0.length : Int))) = true then ((ix q0 q2).bind fun x0 => (p1 x0).bind fun y0 => after (if (!y0) = true then ((ix q0 q1).bind fun _ => some (.brk (q0.set q1.toNat (x0), IntKind.wrap .i64 (q1 + 1)))) else some (.brk (q0, q1)) : Option (Lp ((List TLoc) × Int) (Lp ((List TLoc) × Int × Int) ((List TLoc))))) fun ⟨j0, j1⟩ => some (.go (j0, j1, IntKind.wrap .i64 (q2 + 1)))) else some (.brk (q0, q1, q2))
def M66P (fuel : Nat) (p0 : List TLoc) (p1 : TLoc → Option Bool) : Option ((List TLoc)) :=
 (M108p fuel p0 p1).bind fun y3 => if (y3 == (-1)) = true then (some p0) else after (loopM (fun s => M66P_L0 fuel p1 s.1 s.2.1 s.2.2) fuel (p0, y3, IntKind.wrap .i64 (y3 + 1))) fun ⟨r0, r1, r2⟩ => grd (decide (0 ≤ r1) && decide (r1 < (r0.length : Int))) <| grd (decide (0 ≤ r1) && decide (r1 ≤ (r0.length : Int))) <| some (r0.take r1.toNat)
set_option maxHeartbeats 4000000 in
set_option maxRecDepth 100000 in
theorem W66P {fuel : Nat} {p0 : List TLoc} {p1 : TLoc → Option Bool} {o : (List TLoc)} (h : Heap) {g_p0 : AGh} (ok_p0 : AOk g_p0 4 p0.length) (hk0 : HOk h [(g_p0.t, .obj 81 (fl c_Loc (p0 : List TLoc) g_p0.sp))]) {p1F : Nat} {p1C : List AV} (p1B : bodied Tryz.prog p1F = true) (p1H : ∀ x0 o h0, Sub h h0 → p1 x0 = some o → ACalls Tryz.prog p1F ([.agg (c_Loc x0)] ++ p1C) h0 (fun r h' => r = .sc (.bool o) ∧ h' = h0)) (hm : M66P fuel p0 p1 = some o) :
 ACalls Tryz.prog 66 [aw g_p0.t g_p0.n g_p0.cap, .fn (.func p1F) p1C] (hp h [(g_p0.t, .obj 81 (fl c_Loc (p0 : List TLoc) g_p0.sp))]) (fun r h' => ∃ g : AGh, AOk g 4 o.length ∧ HOk h [(g.t, .obj 81 (fl c_Loc o g.sp))] ∧ r = aw g.t g.n g.cap ∧ h' = hp h [(g.t, .obj 81 (fl c_Loc o g.sp))]) := by
 refine ACp hk0 42 [.tmp 4] Tryz.func66 rfl rfl rfl rfl ?_
 unfold M66P at hm
 refine vs (v0 (vs (v0 ?_)))
 obtain ⟨_, hy4, hm⟩ := Zc hm
 refine ve fun hk => AOp_eqh ((hp_permI hk [0] rfl rfl).1.trans (hp_app h [(g_p0.t, .obj 81 (fl c_Loc (p0 : List TLoc) g_p0.sp))] []).symm) (a_call (W108p (hp h []) ok_p0 (HOk_spl [(g_p0.t, .obj 81 (fl c_Loc (p0 : List TLoc) g_p0.sp))] [] (hp_permI hk [0] rfl rfl).2).2 p1B (fun x0 o h0 hs ho => p1H x0 o h0 ((hp_sub (List.nil_sublist _) (HOk_spl [(g_p0.t, .obj 81 (fl c_Loc (p0 : List TLoc) g_p0.sp))] [] (hp_permI hk [0] rfl rfl).2).1).1.trans hs) ho) hy4) rfl bd108 rfl ?_)
 rintro x h' ⟨rfl, rfl⟩
 refine qk hk ((hp_app h [(g_p0.t, .obj 81 (fl c_Loc (p0 : List TLoc) g_p0.sp))] []).trans (hp_permI hk [0] rfl rfl).1.symm) ?_
 refine vs (vs (v0 (v0 ?_)))
 refine vi hm (fun hc7 hm => ?_) fun hc7 hm => ?_
 refine vs (v0 (v0 ?_))
 injection hm with hm; subst hm
 exact vr fun hk => Ret.one (.inl rfl) (hp_sub (h0 := h) (L' := [(g_p0.t, .obj 81 (fl c_Loc (p0 : List TLoc) g_p0.sp))]) (.refl _) hk).1 (ALe.refl _ _) ⟨g_p0, ok_p0, (hp_sub (h0 := h) (L' := [(g_p0.t, .obj 81 (fl c_Loc (p0 : List TLoc) g_p0.sp))]) (.refl _) hk).2, rfl, rfl⟩
 refine v0 (vs (vs (v0 ?_)))
 refine vlp hm (σ := (List TLoc) × Int × Int) (τ := AGh) (fun g s => [(g.t, .obj 81 (fl c_Loc (s.1 : List TLoc) g.sp))]) (fun g s => AOk g 4 (s.1 : List TLoc).length) (fun g s => .c 0 (aw g.t g.n g.cap) (.c 1 (.fn (.func p1F) p1C) (.c 5 (.sc (.int .i64 s.2.1)) (.c 6 (.sc (.int .i64 s.2.2)) .nil)))) g_p0 ok_p0 (lx (.k4 .nil)) ?_ ?_
 rintro ag0 ⟨q0, q1, q2⟩ x ok0 hm
 replace hm : M66P_L0 fuel p1 q0 q1 q2 = some x := hm
 unfold M66P_L0 at hm
 refine vs (vs (v0 (vn (fun _ => o_lenA ln42 ok0 rfl) (v0 ?_))))
 refine vi hm (fun hc0 hm => ?_) fun hc0 hm => ?_
 refine v0 (vs (v0 (vs (v0 ?_))))
 obtain ⟨x1, hx0, hm⟩ := Zc hm
 refine vn (fun _ => o_ixA hx0 el42 ok0 rfl rfl) (vn (fun hk => o_ldA (fo := 0) (.agg (c_Loc x1)) hx0 cz_Loc ok0 ld81 rfl (hp_at 0 hk rfl) (fun _ => rfl)) ?_)
 refine ve fun hk => a_alloc ([.sc (.int .i64 0), .sc (.int .i64 0), .sc (.int .i64 0), .sc (.int .i64 0)]) hk zr81 rfl rfl fun k86 hk1 => qk hk1 rfl ?_
 refine ve fun hk => a_store 0 (c_Loc x1) hk rfl rfl rfl rfl sz81 rfl rfl fun hk2 => qk hk2 rfl ?_
 refine vs (v0 (vl 0 (.agg (c_Loc x1)) ld81 rfl rfl rfl ?_))
 obtain ⟨_, hy0, hm⟩ := Zc hm
 refine vn (fun hk => o_call (p1H _ _ _ (hp_sub (List.nil_sublist _) hk).1 hy0) rfl p1B rfl) ?_
 refine vjn hm (σ := (List TLoc) × Int) (τ := AGh) (fun g s => [(some k86, .obj 81 (c_Loc x1)), (g.t, .obj 81 (fl c_Loc (s.1 : List TLoc) g.sp))]) (fun g s => AOk g 4 (s.1 : List TLoc).length) (fun g s => .c 0 (aw g.t g.n g.cap) (.c 1 (.fn (.func p1F) p1C) (.c 5 (.sc (.int .i64 s.2)) (.c 6 (.sc (.int .i64 q2)) .nil)))) (fun x hm => ?_) ?_
 refine v0 ?_
 refine vi hm (fun hc1 hm => ?_) fun hc1 hm => ?_
 refine vs (v0 (vl 0 (.agg (c_Loc x1)) ld81 rfl rfl rfl ?_))
 obtain ⟨_, hx1, hm⟩ := Zc hm
 refine vn (fun _ => o_ixA hx1 el42 ok0 rfl rfl) ?_
 refine ve fun hk => a_storeA (fo := 0) (x1 : TLoc) 1 hk hx1 cz_Loc ok0 rfl rfl rfl rfl (ALeL.refl _ _) sz81 rfl rfl fun hk3 => qk hk3 rfl ?_
 refine v0 ?_
 exact vgo hm ag0 (AOk.set ok0) (lx (.k4 .nil))
 refine v0 ?_
 exact vgo hm ag0 ok0 (lx (.k4 .nil))
 rintro ag1 ⟨j0, j1⟩ ok1 hm
 refine v0 ?_
 exact vgo hm ag1 ok1 (lxs [1] rfl rfl (.k4 .nil))
 refine v0 ?_
 exact vbk hm ag0 ok0 (lx (.k4 .nil))
 rintro ag2 ⟨r0, r1, r2⟩ ot0 hm
 refine vs (v0 ?_)
 obtain ⟨hz0, hm⟩ := grd_of hm
 refine vn (fun _ => o_slAt hz0 el42 ot0 rfl rfl) ?_
 refine ve fun hk => a_clr 0 hk hz0 cz_Loc ot0 u42 zr81 rfl rfl rfl rfl fun sp0 ok2 hk4 => qk hk4 rfl ?_
 refine vs (v0 ?_)
 obtain ⟨hz1, hm⟩ := grd_of hm
 refine vn (fun _ => o_slAh hz1 ot0 el42 rfl rfl) (v0 ?_)
 cases hm
 exact vr fun hk => Ret.one (.inl rfl) (hp_sub (h0 := h) (L' := [((⟨ag2.t, r1.toNat, ag2.cap, sp0⟩ : AGh).t, .obj 81 (fl c_Loc (r0.take r1.toNat : List TLoc) (⟨ag2.t, r1.toNat, ag2.cap, sp0⟩ : AGh).sp))]) (.refl _) hk).1 (ALe.refl _ _) ⟨(⟨ag2.t, r1.toNat, ag2.cap, sp0⟩ : AGh), ok2, (hp_sub (h0 := h) (L' := [((⟨ag2.t, r1.toNat, ag2.cap, sp0⟩ : AGh).t, .obj 81 (fl c_Loc (r0.take r1.toNat : List TLoc) (⟨ag2.t, r1.toNat, ag2.cap, sp0⟩ : AGh).sp))]) (.refl _) hk).2, rfl, rfl⟩
theorem bd66 : bodied Tryz.prog 66 = true := by kernel_rfl
def M65 (fuel : Nat) (p0 : List TLoc) (p1 : Bool) (c0 : Int) (c1 : TCatalog) (c2 : Int) : Option (Bool) :=
 (M67a fuel p0).bind fun y3 => (M66P fuel y3 (fun x0 => M68 fuel x0 c0)).bind fun y9 => after (if p1 = true then ((M64 fuel p0 c0).bind fun y0 => if y0 = true then ((M21 fuel c1 y9 c2).bind fun y1 => some (.brk (!y1))) else some (.brk false)) else some (.brk false) : Option (Lp (Bool) (Bool))) fun j0 => some j0
set_option maxHeartbeats 4000000 in
set_option maxRecDepth 100000 in
theorem W65 {fuel : Nat} {p0 : List TLoc} {p1 : Bool} {c0 : Int} {c1 : TCatalog} {c2 : Int} {o : Bool} (h : Heap) {c0K : Key} (c0H : h c0K = some (.obj 3 (c_i64 c0))) {c1K : Key} (c1H : h c1K = some (.obj 30 (c_Catalog c1))) {c2K : Key} (c2H : h c2K = some (.obj 3 (c_i64 c2))) (hm : M65 fuel p0 p1 c0 c1 c2 = some o) :
 ACalls Tryz.prog 65 [.sl none 4 (List.map c_Loc p0), .sc (.bool p1), .ptr c0K 0, .ptr c1K 0, .ptr c2K 0] h (fun r h' => r = .sc (.bool o) ∧ h' = h) := by
 refine ACv 26 [.tmp 7] Tryz.func65 rfl rfl rfl rfl ?_
 unfold M65 at hm
 refine vs (v0 (vs (v0 ?_)))
 obtain ⟨y3, hy4, hm⟩ := Zc hm
 refine ve fun hk => a_call (W67a _ hy4) rfl bd67 rfl ?_
 rintro x h' ⟨ag5, ok6, hk7, rfl, rfl⟩
 refine qk (HOk.co hk hk7) (hp_cat _ _ _) ?_
 obtain ⟨y9, hy0, hm⟩ := Zc hm
 refine ve fun hk => AOp_eqh ((hp_permI hk [0] rfl rfl).1.trans (hp_app h [(ag5.t, .obj 81 (fl c_Loc (y3 : List TLoc) ag5.sp))] []).symm) (a_call (W66P (hp h []) ok6 (HOk_spl [(ag5.t, .obj 81 (fl c_Loc (y3 : List TLoc) ag5.sp))] [] (hp_permI hk [0] rfl rfl).2).2 bd68 (fun _ o h0 hs ho => W68 _ (hs _ _ (hp_base (HOk_spl [(ag5.t, .obj 81 (fl c_Loc (y3 : List TLoc) ag5.sp))] [] (hp_permI hk [0] rfl rfl).2).1 c0H)) ho) hy0) rfl bd66 rfl ?_)
 rintro x h' ⟨ag0, ok0, hk0, rfl, rfl⟩
 have hk1 := hp_permI (L' := [(ag0.t, .obj 81 (fl c_Loc (y9 : List TLoc) ag0.sp))]) (HOk_app (HOk_spl [(ag5.t, .obj 81 (fl c_Loc (y3 : List TLoc) ag5.sp))] [] (hp_permI hk [0] rfl rfl).2).1 hk0) [0] rfl rfl
 refine qk hk1.2 ((hp_app h [(ag0.t, .obj 81 (fl c_Loc (y9 : List TLoc) ag0.sp))] []).trans hk1.1) ?_
 refine vs ?_
 refine vjnH hm (σ := Bool) (τ := Unit) (fun g s => [(ag0.t, .obj 81 (fl c_Loc (y9 : List TLoc) ag0.sp))]) (fun g s => .c 7 (.sc (.bool s)) .nil) (fun x hm => ?_) ?_
 refine v0 ?_
 refine vi hm (fun hb0 hm => ?_) fun hb0 hm => ?_
 rw [hb0]
 refine vn (fun hk => Zg (.sc (.int .i64 c0)) ld3 rfl (hp_base hk c0H) rfl) ?_
 refine vk W64 bd64 hm rfl rfl fun _ hm => ?_
 refine vi hm (fun hb1 hm => ?_) fun hb1 hm => ?_
 rw [hb1]
 refine vn (fun hk => Zg (.agg (c_Catalog c1)) ld30 rfl (hp_base hk c1H) rfl) (vn (fun hk => Zg (.sc (.int .i64 c2)) ld3 rfl (hp_base hk c2H) rfl) ?_)
 obtain ⟨_, hy1, hm⟩ := Zc hm
 refine vn (fun hk => o_call (ACalls_pure (.cons (Br.refl _ _) (.cons (Br.aw 0 cz_Loc ok0 hk rfl) (.cons (Br.refl _ _) .nil))) rfl (W21 _ hy1)) rfl bd21 rfl) ?_
 exact vgo hm () trivial (lx (.cons (ALe.refl _ _) .nil))
 rw [hb1]
 exact vgo hm () trivial (lx (.cons (ALe.refl _ _) .nil))
 rw [hb0]
 exact vgo hm () trivial (lx (.cons (ALe.refl _ _) .nil))
 rintro _ j0 hm
 refine v0 ?_
 injection hm with hm; subst hm
 exact vr fun hk => Ret.of1 (.inl rfl) (rsT _ _ (.sc (.bool _)) rfl) (hp_sub (List.nil_sublist _) hk).1 (ALe.refl _ _) ⟨rfl, rfl⟩
theorem bd65 : bodied Tryz.prog 65 = true := by kernel_rfl
open Go.Vm
def M24 (fuel : Nat) (p0 : TCatalog) (p1 : Int) : Option ((List TItem)) :=
 after (if (decide (p1 < 0)) = true then (some (.brk true)) else if (decide ((p0.Vols.length : Int) ≤ p1)) = true then (some (.brk true)) else (M31 fuel p0).bind fun y0 => some (.brk (y0 != 0)) : Option (Lp (Bool) ((List TItem)))) fun j0 => if j0 = true then (some []) else (ix p0.Vols p1).bind fun x2 => (M50 fuel p0 (fun x0 x1 => M65 fuel x0 x1 p1 p0 x2.Pool)).bind fun y1 => some y1
set_option maxHeartbeats 4000000 in
set_option maxRecDepth 100000 in
theorem W24 {fuel : Nat} {p0 : TCatalog} {p1 : Int} {o : (List TItem)} (h : Heap) (hm : M24 fuel p0 p1 = some o) :
 ACalls Tryz.prog 24 [.agg (c_Catalog p0), .sc (.int .i64 p1)] h (fun r h' => r = .sl none 37 (List.map c_Item o) ∧ h' = h) := by
 refine ACv 29 [.tmp 4] Tryz.func24 rfl rfl rfl rfl ?_
 unfold M24 at hm
 refine v ?_
 refine ve fun hk => a_box hk rfl rfl fun k2 hk3 => qk hk3 rfl ?_
 refine ve fun hk => a_box hk rfl rfl fun k5 hk6 => qk hk6 rfl ?_
 refine vs (vs ?_)
 refine vjnH hm (σ := Bool) (τ := Unit) (fun g s => [(some k5, .obj 3 (c_i64 p1)), (some k2, .obj 30 (c_Catalog p0))]) (fun g s => .c 2 (.ptr k2 0) (.c 3 (.ptr k5 0) (.c 19 (.sc (.bool s)) .nil))) (fun x hm => ?_) ?_
 refine v (vl 0 _ ld3 rfl rfl rfl ?_)
 refine vi hm (fun hb0 hm => ?_) fun hb0 hm => ?_
 rw [hb0]
 exact vgo hm () trivial (lx (.k3 .nil))
 rw [hb0]
 refine vl 0 _ ld3 rfl rfl rfl (vl 1 _ ld28 rfl rfl rfl (vln ln28 rfl ?_))
 refine vi hm (fun hb1 hm => ?_) fun hb1 hm => ?_
 rw [hb1]
 exact vgo hm () trivial (lx (.k3 .nil))
 rw [hb1]
 refine vl 1 (.agg (c_Catalog p0)) ld30 rfl rfl rfl ?_
 refine vk W31 bd31 hm rfl rfl fun _ hm => ?_
 exact vgo hm () trivial (lx (.k3 .nil))
 rintro _ j0 hm
 refine v ?_
 refine vi hm (fun hc0 hm => ?_) fun hc0 hm => ?_
 refine v (v ?_)
 cases hm
 exact vr fun hk => Ret.of1 (.inl rfl) (rsT _ _ (.sc (.slice _ _ _)) rfl) (hp_sub (List.nil_sublist _) hk).1 (nil_lem _) ⟨rfl, rfl⟩
 refine v (v (vl 1 _ ld28 rfl rfl rfl (vl 0 _ ld3 rfl rfl rfl ?_)))
 refine vx hm el28 rfl rfl fun x0 _ hm => ?_
 refine ve fun hk => a_alloc (c_i64 0) hk zr3 rfl rfl fun k25 hk0 => qk hk0 rfl ?_
 refine ve fun hk => a_store 0 (c_i64 x0.Pool) hk rfl rfl rfl rfl sz3 rfl rfl fun hk1 => qk hk1 rfl ?_
 refine v (vl 2 (.agg (c_Catalog p0)) ld30 rfl rfl rfl ?_)
 obtain ⟨_, hy0, hm⟩ := Zc hm
 refine vn (fun hk => o_call (W50 _ bd65 (fun _ _ o h0 hs ho => W65 _ (hs _ _ (Zd 1 hk rfl)) (hs _ _ (Zd 2 hk rfl)) (hs _ _ (Zd 0 hk rfl)) ho) hy0) rfl bd50 rfl) (v ?_)
 injection hm with hm; subst hm
 exact vr1 rfl
theorem bd24 : bodied Tryz.prog 24 = true := by kernel_rfl
open Go.Vm
theorem fidx_spec {α : Type} {l : List α} {q : α → Bool} (h : l.any q = true) : ∃ (i : Nat) (x : α), fidx l q = (i : Int) ∧ l[i]? = some x ∧ q x = true ∧ ∀ y ∈ l.take i, q y = false := by
 unfold fidx
 cases e : (List.range l.length).find? fun i => (l[i]?).any q with
 | none =>
  exfalso
  obtain ⟨x, hx, hq⟩ := List.any_eq_true.1 h
  obtain ⟨i, hi, rfl⟩ := List.getElem_of_mem hx
  have := List.find?_eq_none.1 e i (List.mem_range.2 hi)
  simp [hi, hq] at this
 | some i =>
  obtain ⟨h1, h2, h3⟩ := List.find?_range_eq_some.1 e
  cases e2 : l[i]? with
  | none => rw [e2] at h1; cases h1
  | some x =>
   refine ⟨i, x, rfl, e2, by rw [e2] at h1; simpa using h1, fun y hy => ?_⟩
   obtain ⟨j, hj, rfl⟩ := List.getElem_of_mem hy
   rw [List.length_take] at hj
   have h4 := h3 j (by omega)
   have : l[j]? = some l[j] := List.getElem?_eq_getElem (by omega)
   rw [this] at h4
   rw [List.getElem_take]
   simpa using h4
theorem fidx_none {α : Type} {l : List α} {q : α → Bool} (h : l.any q = false) : fidx l q = -1 := by
 unfold fidx
 have : (List.range l.length).find? (fun i => (l[i]?).any q) = none := by
  rw [List.find?_eq_none]
  intro i hi
  have hi := List.mem_range.1 hi
  rw [List.getElem?_eq_getElem hi]
  have := List.any_eq_false.1 h l[i] (List.getElem_mem hi)
  simpa using this
 rw [this]
theorem del_loop {α ρ : Type} {l : List α} {q : α → Bool} {F : Nat} {body : List α × Int × Int → Option (Lp (List α × Int × Int) ρ)} {i0 : Nat} {x0 : α} (hF : l.length < F) (h0 : l[i0]? = some x0) (hq : q x0 = true) (hn : ∀ y ∈ l.take i0, q y = false)
    (hb : ∀ (cur : List α) (w r : Nat) (x : α), cur.length = l.length → w < r → r < l.length → cur[r]? = some x → x ∈ l → body (cur, (w : Int), (r : Int)) = some (.go (if q x then (cur, (w : Int), ((r + 1 : Nat) : Int)) else (cur.set w x, ((w + 1 : Nat) : Int), ((r + 1 : Nat) : Int)))))
    (he : ∀ (cur : List α) (w : Nat), cur.length = l.length → body (cur, (w : Int), (l.length : Int)) = some (.brk (cur, (w : Int), (l.length : Int)))) :
    ∃ (cur : List α) (w : Nat), loopM body F (l, (i0 : Int), ((i0 + 1 : Nat) : Int)) = some (.brk (cur, (w : Int), (l.length : Int))) ∧ w < l.length ∧ cur.length = l.length ∧ cur.take w = l.filter fun x => !q x := by
  have hi0 := (List.getElem?_eq_some_iff.1 h0).1
  have hx0 := (List.getElem?_eq_some_iff.1 h0).2
  obtain ⟨s, ⟨cur, w, e1, e2, e3, e4, e5⟩, h3⟩ := loop_inv (body := body) (I := fun k s => ∃ (cur : List α) (w : Nat), s = (cur, (w : Int), (k : Int)) ∧ w < k ∧ cur.length = l.length ∧ cur.take w = ((l.take k).filter fun x => !q x) ∧ cur.drop k = l.drop k) (n := l.length) (fun k s hk hI => by
    obtain ⟨cur, w, rfl, i2, i3, i4, i5⟩ := hI
    have hx : cur[k]? = l[k]? := by
      have := congrArg (fun z => z[0]?) i5
      simpa [List.getElem?_drop] using this
    have hlk : l[k]? = some l[k] := List.getElem?_eq_getElem hk
    rw [hlk] at hx
    have htk := List.take_succ_eq_append_getElem hk
    have hmem := List.getElem_mem hk
    generalize l[k] = x at hx htk hmem
    have hd : cur.drop (k + 1) = l.drop (k + 1) := by
      have := congrArg (List.drop 1) i5
      simpa [List.drop_drop, Nat.add_comm] using this
    refine ⟨_, hb cur w k x i3 i2 hk hx hmem, ?_⟩
    cases hqx : q x
    · refine ⟨cur.set w x, w + 1, by simp, by omega, by simpa using i3, ?_, ?_⟩
      · rw [htk, List.filter_append, ← i4]
        have hw : w < (cur.set w x).length := by rw [List.length_set]; omega
        rw [List.take_succ_eq_append_getElem hw, List.getElem_set_self, List.take_set_of_le (Nat.le_refl _)]
        simp [List.filter, hqx]
      · rw [List.drop_set_of_lt (by omega)]
        exact hd
    · refine ⟨cur, w, by simp, by omega, i3, ?_, hd⟩
      rw [htk, List.filter_append, ← i4]
      simp [List.filter, hqx]) (fun s hI => by
    obtain ⟨cur, w, rfl, i2, i3, -⟩ := hI
    exact he cur w i3) F (i0 + 1) (l, (i0 : Int), ((i0 + 1 : Nat) : Int)) hi0 (by omega) ⟨l, i0, rfl, by omega, rfl, by
      rw [List.take_succ_eq_append_getElem hi0, List.filter_append, hx0]
      have : (l.take i0).filter (fun x => !q x) = l.take i0 := List.filter_eq_self.2 fun y hy => by simp [hn y hy]
      rw [this]
      simp [List.filter, hq], rfl⟩
  subst e1
  refine ⟨cur, w, h3, by omega, e3, ?_⟩
  rw [e4, List.take_length]
theorem m83 {F : Nat} {l : List TLoc} {f : TLoc → Option Bool} (q : TLoc → Bool) (hF : 1000 ≤ F) (hl : l.length ≤ 300) (hf : ∀ x ∈ l, f x = some (q x)) : M66P F l f = some (l.filter fun x => !q x) := by
 have h119 : M108p F l f = some (fidx l q) := by
  unfold M108p
  refine fidx_loop q (by omega) (fun i x hx hm hi => ?_) (by unfold M108p_L0; simp)
  unfold M108p_L0
  rw [wr1 (by omega)]
  simp only [ix_nat, hx, hf x hm, Option.bind_some, Int.ofNat_lt, hi, decide_true, if_true]
  split <;> rfl
 unfold M66P
 rw [h119]
 simp only [Option.bind_some]
 cases ha : l.any q with
 | false =>
  rw [fidx_none ha]
  simp only [beq_self_eq_true, if_true]
  rw [List.filter_eq_self.2 fun x hx => by simpa using List.any_eq_false.1 ha x hx]
 | true =>
  obtain ⟨i, x, h1, h2, h3, h4⟩ := fidx_spec ha
  rw [h1]
  have hn : ((i : Int) == -1) = false := by simp
  have hil := (List.getElem?_eq_some_iff.1 h2).1
  rw [hn, wr1 (by omega)]
  simp only [Bool.false_eq_true, if_false]
  obtain ⟨cur, w, e1, e2, e3, e4⟩ := del_loop (l := l) (q := q) (F := F) (body := fun s => M66P_L0 F f s.1 s.2.1 s.2.2) (by omega) h2 h3 h4 (fun cur w r x hc hw hr hx hm => by
   unfold M66P_L0
   simp only
   rw [wr1 (i := r) (by omega), wr1 (i := w) (by omega)]
   have hcw : cur[w]? = some cur[w] := List.getElem?_eq_getElem (by omega)
   simp only [ix_nat, hx, hf x hm, Option.bind_some, hc, Int.ofNat_lt, hr, decide_true, if_true, hcw, Int.toNat_natCast]
   cases q x <;> rfl) (fun cur w hc => by unfold M66P_L0; simp [hc])
  rw [e1]
  simp only [after_brk]
  have g1 : (decide ((0 : Int) ≤ (w : Int)) && decide ((w : Int) < (cur.length : Int))) = true := by simp; omega
  have g2 : (decide ((0 : Int) ≤ (w : Int)) && decide ((w : Int) ≤ (cur.length : Int))) = true := by simp; omega
  simp only [grd, g1, g2, if_true, Int.toNat_natCast, e4]
def allL (c : TCatalog) (g : List TLoc → Bool → Bool) : List TItem := (c.Chunks.filter fun x => g x.Locs (usedB c x.Id)).map it1 ++ (c.Snaps.filter fun x => g x.Locs true).map it2 ++ (c.Exps.filter fun x => g x.Locs true).map it3
theorem m78g {F : Nat} {c : TCatalog} {f : List TLoc → Bool → Option Bool} (g : List TLoc → Bool → Bool) (hF : 1000 ≤ F) (h : Sm c) (hf : ∀ l b, l.length ≤ 300 → f l b = some (g l b)) : M50 F c f = some (allL c g) := by
 have hsn := h.sn
 have hch := h.ch
 have hex := h.ex
 unfold M50
 rw [filt_loop (l := c.Chunks) [] (fun x => g x.Locs (usedB c x.Id)) it1 (by omega) (fun i x hx hm hi acc ha => by
  unfold M50_L0
  rw [wr1 (by omega)]
  simp only [ix_nat, hx, Option.bind_some, Int.ofNat_lt, hi, decide_true, if_true, m44 hF h, hf _ _ (h.cl x hm).1]
  simp only [List.length_nil] at ha
  rw [app_some (by simp; omega)]
  cases g x.Locs (usedB c x.Id) <;> rfl) (fun acc => by unfold M50_L0; simp)]
 simp only [after_brk, List.nil_append]
 have l1 : ((c.Chunks.filter fun x => g x.Locs (usedB c x.Id)).map it1).length ≤ 400 := by rw [List.length_map]; exact Nat.le_trans (List.length_filter_le _ _) hch
 rw [filt_loop (l := c.Snaps) _ (fun x => g x.Locs true) it2 (by omega) (fun i x hx hm hi acc ha => by
  unfold M50_L2
  rw [wr1 (by omega)]
  simp only [ix_nat, hx, Option.bind_some, Int.ofNat_lt, hi, decide_true, if_true, hf _ _ (h.sl x hm)]
  rw [app_some (by simp; omega)]
  cases g x.Locs true <;> rfl) (fun acc => by unfold M50_L2; simp)]
 simp only [after_brk]
 have l2 : ((c.Snaps.filter fun x => g x.Locs true).map it2).length ≤ 12 := by rw [List.length_map]; exact Nat.le_trans (List.length_filter_le _ _) hsn
 rw [filt_loop (l := c.Exps) _ (fun x => g x.Locs true) it3 (by omega) (fun i x hx hm hi acc ha => by
  unfold M50_L4
  rw [wr1 (by omega)]
  simp only [ix_nat, hx, Option.bind_some, Int.ofNat_lt, hi, decide_true, if_true, hf _ _ (h.el x hm)]
  rw [List.length_append] at ha
  rw [app_some (by simp; omega)]
  cases g x.Locs true <;> rfl) (fun acc => by unfold M50_L4; simp)]
 rfl
def movB (c : TCatalog) (v p : Int) (l : List TLoc) (b : Bool) : Bool := b && onV v l && !((l.filter fun x => !(x.Vol == v)).any (inP c p))
theorem m82 {F : Nat} {c : TCatalog} {v p : Int} {l : List TLoc} {b : Bool} (hF : 1000 ≤ F) (h : Sm c) (hl : l.length ≤ 300) : M65 F l b v c p = some (movB c v p l b) := by
 have hvo := h.vo
 unfold M65 M67a movB
 rw [app_some (by simp; omega)]
 have h81 : M64 F l v = some (onV v l) := by
  unfold M64 onV
  rw [m94 (F := F) (l := l) (f := fun x0 => M111 F x0 v) (fun y => y.Vol == v) (by omega) (by omega) (fun x _ => rfl)]
  rfl
 simp only [List.nil_append, Option.bind_some]
 rw [m83 (f := fun x0 => M68 F x0 v) (fun y => y.Vol == v) hF hl (fun x _ => rfl)]
 simp only [Option.bind_some, h81, m46 hF (by omega : c.Vols.length < 1000) (Nat.le_trans (List.length_filter_le _ _) hl)]
 cases b <;> cases onV v l <;> simp [after]
theorem m38 {F : Nat} {c : TCatalog} {v : Int} (hF : 1000 ≤ F) (h : Sm c) : M24 F c v = some (if good c = true ∧ 0 ≤ v ∧ v < c.Vols.length then allL c (movB c v ((c.Vols[v.toNat]?).elim 0 (·.Pool))) else []) := by
 unfold M24
 by_cases h1 : v < 0
 ·have : ¬ (good c = true ∧ 0 ≤ v ∧ v < c.Vols.length) := by omega
  simp [h1, this, after]
 ·by_cases h2 : (c.Vols.length : Int) ≤ v
  ·have : ¬ (good c = true ∧ 0 ≤ v ∧ v < c.Vols.length) := by omega
   simp [h1, h2, this, after]
  ·rw [m33 hF h]
   have hv : v.toNat < c.Vols.length := by omega
   have e : c.Vols[v.toNat]? = some c.Vols[v.toNat] := List.getElem?_eq_getElem hv
   generalize c.Vols[v.toNat] = x at e
   have h3 : v < (c.Vols.length : Int) := by omega
   have h0 : 0 ≤ v := by omega
   cases hg : good c
   ·simp [h1, h2, hg, after]
   ·simp only [h1, h2, decide_false, Bool.false_eq_true, if_false, if_true, Option.bind_some, bne_self_eq_false, after_brk, ix_pos _ h0, e, h0, h3, and_self, true_and, Option.elim_some]
    rw [m78g (movB c v x.Pool) hF h (fun l b hl => m82 hF h hl)]
    rfl
theorem mov_live {c : TCatalog} {v p : Int} : (allL c (movB c v p)).length ≤ live c v := by
 unfold allL live onL
 simp only [List.length_append, List.length_map, List.filter_append, List.filter_map, List.filter_filter]
 have h1 : (c.Chunks.filter fun x => movB c v p x.Locs (usedB c x.Id)).length ≤ (c.Chunks.filter fun x => ((fun x => x.Kind != 1 || usedB c x.Id) ∘ it1) x && onV v x.Locs).length := by
  simp only [← List.countP_eq_length_filter]
  refine List.countP_mono_left fun x _ hx => ?_
  unfold movB at hx
  simp only [Bool.and_eq_true] at hx
  simp [it1, hx.1.1, hx.1.2]
 have h2 : (c.Snaps.filter fun x => movB c v p x.Locs true).length ≤ (c.Snaps.filter fun x => ((fun x => x.Kind != 1 || usedB c x.Id) ∘ it2) x && onV v x.Locs).length := by
  simp only [← List.countP_eq_length_filter]
  refine List.countP_mono_left fun x _ hx => ?_
  unfold movB at hx
  simp only [Bool.and_eq_true] at hx
  simp [it2, hx.1.2]
 have h3 : (c.Exps.filter fun x => movB c v p x.Locs true).length ≤ (c.Exps.filter fun x => ((fun x => x.Kind != 1 || usedB c x.Id) ∘ it3) x && onV v x.Locs).length := by
  simp only [← List.countP_eq_length_filter]
  refine List.countP_mono_left fun x _ hx => ?_
  unfold movB at hx
  simp only [Bool.and_eq_true] at hx
  simp [it3, hx.1.2]
 omega
theorem live_on {c : TCatalog} {v : Int} : live c v ≤ (onL c v).length := List.length_filter_le _ _
open Go.Vm
def M152a_L0 (fuel : Nat) (p0 : List TChunk) (q0 : List TChunk) (q1 : Int) : Option (Lp ((List TChunk) × Int) ((List TChunk))) :=
 if (decide (q1 < (p0.length : Int))) = true then ((ix p0 q1).bind fun x0 => (M141 fuel x0.Data).bind fun y0 => (M151 fuel x0.Locs).bind fun y1 => (app q0 ([{ { x0 with Data := y0 } with Locs := y1 }] : List TChunk)).bind fun z0 => some (.go (z0, IntKind.wrap .i64 (q1 + 1)))) else some (.brk (q0, q1))
def M152a (fuel : Nat) (p0 : List TChunk) : Option ((List TChunk)) :=
 after (loopM (fun s => M152a_L0 fuel p0 s.1 s.2) fuel ([], 0)) fun ⟨r0, r1⟩ => some r0
set_option maxHeartbeats 4000000 in
set_option maxRecDepth 100000 in
theorem W152a {fuel : Nat} {p0 : List TChunk} {o : (List TChunk)} (h : Heap) (hm : M152a fuel p0 = some o) :
 ACalls Tryz.prog 152 [.sl none 35 (List.map c_Chunk p0)] h (fun r h' => ∃ g : AGh, AOk g 35 o.length ∧ HOk h [(g.t, .obj 44 (fl c_Chunk o g.sp))] ∧ r = aw g.t g.n g.cap ∧ h' = hp h [(g.t, .obj 44 (fl c_Chunk o g.sp))]) := by
 refine ACv 29 [.tmp 2] Tryz.func152 rfl rfl rfl rfl ?_
 unfold M152a at hm
 refine vs (v0 (vs (v0 (vs (vs (v0 (vle (lno (.obj 44 (fl c_Chunk ([] : List TChunk) g0.sp)) 3 (aw g0.t g0.n g0.cap) (ALe_nilA _)) ?_)))))))
 refine vlp hm (σ := (List TChunk) × Int) (τ := AGh) (fun g s => [(g.t, .obj 44 (fl c_Chunk (s.1 : List TChunk) g.sp))]) (fun g s => AOk g 35 (s.1 : List TChunk).length) (fun g s => .c 0 (.sl none 35 (List.map c_Chunk p0)) (.c 3 (aw g.t g.n g.cap) (.c 4 (.sc (.int .i64 s.2)) .nil))) g0 (AOk.g0 35) (lx (.k3 .nil)) ?_ ?_
 rintro ag0 ⟨q0, q1⟩ x ok0 hm
 replace hm : M152a_L0 fuel p0 q0 q1 = some x := hm
 unfold M152a_L0 at hm
 refine vs (vs (v0 (vln ln26 rfl (v0 ?_))))
 refine vi hm (fun hc0 hm => ?_) fun hc0 hm => ?_
 refine v0 (vs (v0 (vs (v0 ?_))))
 refine vx hm el26 rfl rfl fun x0 _ hm => ?_
 refine va (.agg (c_Chunk x0)) ld44 rfl rfl ?_
 refine ve fun hk => a_alloc (c_id idZ ++ ([.sc (.bool false), .sc (.slice none 0 0), .sc (.slice none 0 0)] : List AV)) hk zr44 rfl rfl fun k115 hk0 => qk hk0 rfl ?_
 refine ve fun hk => a_store 0 (c_Chunk x0) hk rfl rfl rfl rfl sz44 rfl rfl fun hk1 => qk hk1 rfl ?_
 refine vs (v0 ?_)
 refine vz [(7, some k115, .obj 44 (c_Chunk x0))] mixed (fun hk => ⟨fun _ => hp_at 0 hk rfl, trivial⟩) fun hk => ?_
 refine z_w 0 rfl (fun S' h' hi hB => Zh fd44_2 rfl rfl) ?_
 refine z_w 1 rfl (fun S' h' hi hB => Zg (.sl none 1 (List.map c_u8 x0.Data)) ld41 rfl (At.s (InvL.get 0 hi rfl (hB 7 (by kernel_rfl)))) rfl) ?_
 obtain ⟨y0, hy0, hm⟩ := Zc hm
 refine z_w 2 rfl (fun S' h' hi hB => o_call (W141 _ hy0) rfl bd141 rfl) ?_
 refine z_w 3 rfl (fun S' h' hi hB => Zh fd44_3 rfl rfl) ?_
 refine z_w 4 rfl (fun S' h' hi hB => Zg (.sl none 4 (List.map c_Loc x0.Locs)) ld42 rfl (At.s (InvL.get 0 hi rfl (hB 7 (by kernel_rfl)))) rfl) ?_
 obtain ⟨y1, hy1, hm⟩ := Zc hm
 refine z_w 5 rfl (fun S' h' hi hB => o_call (W151 _ hy1) rfl bd151 rfl) ?_
 refine z_w 6 rfl (fun S' h' hi hB => Zh fd44_2 rfl rfl) ?_
 refine z_e 7 rfl (by kernel_rfl) (a_store 0 (c_Chunk { x0 with Data := y0 }) hk rfl rfl rfl rfl sz41 rfl rfl fun hk2 => ⟨⟨fun e => absurd e (by decide), trivial⟩, ?_⟩)
 refine z_w 8 rfl (fun S' h' hi hB => Zh fd44_3 rfl rfl) ?_
 refine z_e 9 rfl (by kernel_rfl) (a_store 0 (c_Chunk { { x0 with Data := y0 } with Locs := y1 }) hk2 rfl rfl rfl rfl sz42 rfl rfl fun hk3 => ⟨⟨fun e => absurd e (by decide), trivial⟩, ?_⟩)
 refine z_nil (by kernel_rfl) (qk (f := .c 23 _ (.c 22 _ (.c 21 _ (.c 20 _ (.c 19 _ (.c 18 _ (.c 17 _ (.c 16 _ _)))))))) hk3 rfl ?_)
 refine v0 (vl 0 (.agg (c_Chunk { { x0 with Data := y0 } with Locs := y1 })) ld44 rfl rfl rfl (vn (fun _ => o_lit (List.map c_Chunk ([{ { x0 with Data := y0 } with Locs := y1 }] : List TChunk)) et26 rfl rfl rfl rfl) ?_))
 obtain ⟨z0, hz0, hm⟩ := Zc hm
 refine ve fun hk => a_appA (c := c_Chunk) 1 hz0 et26 rfl zr44 rfl cz_Chunk rfl rfl ok0 hk rfl fun ag1 ok1 hk4 => qk hk4 rfl ?_
 refine v0 ?_
 exact vgo hm ag1 ok1 (lxs [1] rfl rfl (.k3 .nil))
 refine v0 ?_
 exact vbk hm ag0 ok0 (lx (.k3 .nil))
 rintro ag2 ⟨r0, r1⟩ ot0 hm
 refine vs (v0 (v0 ?_))
 injection hm with hm; subst hm
 exact vr fun hk => Ret.one (.inl rfl) (hp_sub (h0 := h) (L' := [(ag2.t, .obj 44 (fl c_Chunk (r0 : List TChunk) ag2.sp))]) (.refl _) hk).1 (ALe.refl _ _) ⟨ag2, ot0, (hp_sub (h0 := h) (L' := [(ag2.t, .obj 44 (fl c_Chunk (r0 : List TChunk) ag2.sp))]) (.refl _) hk).2, rfl, rfl⟩
def M90d_L0 (fuel : Nat) (p0 : TCatalog) (q0 : List TSnap) (q1 : Int) : Option (Lp ((List TSnap) × Int) (TCatalog)) :=
 if (decide (q1 < (p0.Snaps.length : Int))) = true then ((ix p0.Snaps q1).bind fun x0 => (M150 fuel x0.Man).bind fun y0 => (M151 fuel x0.Locs).bind fun y1 => (app q0 ([{ { x0 with Man := y0 } with Locs := y1 }] : List TSnap)).bind fun z0 => some (.go (z0, IntKind.wrap .i64 (q1 + 1)))) else some (.brk (q0, q1))
def M90d_L2 (fuel : Nat) (p0 : TCatalog) (q0 : List TExp) (q1 : Int) : Option (Lp ((List TExp) × Int) (TCatalog)) :=
 if (decide (q1 < (p0.Exps.length : Int))) = true then ((ix p0.Exps q1).bind fun x0 => (M151 fuel x0.Locs).bind fun y0 => (app q0 ([{ x0 with Locs := y0 }] : List TExp)).bind fun z0 => some (.go (z0, IntKind.wrap .i64 (q1 + 1)))) else some (.brk (q0, q1))
def M90d (fuel : Nat) (p0 : TCatalog) : Option (TCatalog) :=
 after (loopM (fun s => M90d_L0 fuel p0 s.1 s.2) fuel ([], 0)) fun ⟨r0, r1⟩ => after (loopM (fun s => M90d_L2 fuel p0 s.1 s.2) fuel ([], 0)) fun ⟨r2, r3⟩ => (M152a fuel p0.Chunks).bind fun y0 => (app ([] : List TVol) p0.Vols).bind fun z0 => some ({ Seq := p0.Seq, Snaps := r0, Chunks := y0, Exps := r2, Vols := z0 } : TCatalog)
set_option maxHeartbeats 4000000 in
set_option maxRecDepth 100000 in
theorem W90d {fuel : Nat} {p0 : TCatalog} {o : TCatalog} (h : Heap) (hm : M90d fuel p0 = some o) :
 ACalls Tryz.prog 90 [.agg (c_Catalog p0)] h (fun r h' => ∃ g_Snaps : AGh, AOk g_Snaps 4 o.Snaps.length ∧ ∃ g_Chunks : AGh, AOk g_Chunks 35 o.Chunks.length ∧ ∃ g_Exps : AGh, AOk g_Exps 3 o.Exps.length ∧ ∃ g_Vols : AGh, AOk g_Vols 4 o.Vols.length ∧ HOk h [(g_Snaps.t, .obj 60 (fl c_Snap (o.Snaps : List TSnap) g_Snaps.sp)), (g_Chunks.t, .obj 44 (fl c_Chunk (o.Chunks : List TChunk) g_Chunks.sp)), (g_Exps.t, .obj 99 (fl c_Exp (o.Exps : List TExp) g_Exps.sp)), (g_Vols.t, .obj 49 (fl c_Vol (o.Vols : List TVol) g_Vols.sp))] ∧ r = .agg ([.sc (.int .i64 o.Seq), aw g_Snaps.t g_Snaps.n g_Snaps.cap, aw g_Chunks.t g_Chunks.n g_Chunks.cap, aw g_Exps.t g_Exps.n g_Exps.cap, aw g_Vols.t g_Vols.n g_Vols.cap]) ∧ h' = hp h [(g_Snaps.t, .obj 60 (fl c_Snap (o.Snaps : List TSnap) g_Snaps.sp)), (g_Chunks.t, .obj 44 (fl c_Chunk (o.Chunks : List TChunk) g_Chunks.sp)), (g_Exps.t, .obj 99 (fl c_Exp (o.Exps : List TExp) g_Exps.sp)), (g_Vols.t, .obj 49 (fl c_Vol (o.Vols : List TVol) g_Vols.sp))]) := by
 refine ACv 68 [.cell 2 30] Tryz.func90 rfl rfl rfl rfl ?_
 unfold M90d at hm
 refine vs (v0 ?_)
 refine ve fun hk => a_box hk rfl rfl fun k2 hk3 => qk hk3 rfl ?_
 refine ve fun hk => a_alloc ([.sc (.int .i64 0), .sc (.slice none 0 0), .sc (.slice none 0 0), .sc (.slice none 0 0), .sc (.slice none 0 0)]) hk zr30 rfl rfl fun k5 hk6 => qk hk6 rfl ?_
 refine vs (v0 (vs (vs (v0 (vle (lno (.obj 60 (fl c_Snap ([] : List TSnap) g0.sp)) 3 (aw g0.t g0.n g0.cap) (ALe_nilA _)) ?_)))))
 refine vlp hm (σ := (List TSnap) × Int) (τ := AGh) (fun g s => [(g.t, .obj 60 (fl c_Snap (s.1 : List TSnap) g.sp)), (some k5, .obj 30 ([.sc (.int .i64 0), .sc (.slice none 0 0), .sc (.slice none 0 0), .sc (.slice none 0 0), .sc (.slice none 0 0)])), (some k2, .obj 30 (c_Catalog p0))]) (fun g s => AOk g 4 (s.1 : List TSnap).length) (fun g s => .c 1 (.ptr k2 0) (.c 2 (.ptr k5 0) (.c 3 (aw g.t g.n g.cap) (.c 4 (.sc (.int .i64 s.2)) .nil)))) g0 (AOk.g0 4) (lx (.k4 .nil)) ?_ ?_
 rintro ag0 ⟨q0, q1⟩ x ok0 hm
 replace hm : M90d_L0 fuel p0 q0 q1 = some x := hm
 unfold M90d_L0 at hm
 refine vs (vs (v0 (vn (fun _ => Zh fd30_1 rfl rfl) (vl 2 _ ld25 rfl rfl rfl (vln ln25 rfl (v0 ?_))))))
 refine vi hm (fun hc0 hm => ?_) fun hc0 hm => ?_
 refine v0 (vs (v0 (vs (v0 (vn (fun _ => Zh fd30_1 rfl rfl) (vl 2 _ ld25 rfl rfl rfl ?_))))))
 refine vx hm el25 rfl rfl fun x0 _ hm => ?_
 refine va (.agg (c_Snap x0)) ld60 rfl rfl ?_
 refine ve fun hk => a_alloc ([.sc (.int .i64 0), .sc (.string ByteArray.empty), .sc (.slice none 0 0), .sc (.slice none 0 0)]) hk zr60 rfl rfl fun k121 hk0 => qk hk0 rfl ?_
 refine ve fun hk => a_store 0 (c_Snap x0) hk rfl rfl rfl rfl sz60 rfl rfl fun hk1 => qk hk1 rfl ?_
 refine vs (v0 ?_)
 refine vz [(7, some k121, .obj 60 (c_Snap x0))] mixed (fun hk => ⟨fun _ => hp_at 0 hk rfl, trivial⟩) fun hk => ?_
 refine z_w 0 rfl (fun S' h' hi hB => Zh fd60_1 rfl rfl) ?_
 refine z_w 1 rfl (fun S' h' hi hB => Zg (.agg (c_Manifest x0.Man)) ld58 rfl (At.s (InvL.get 0 hi rfl (hB 7 (by kernel_rfl)))) rfl) ?_
 obtain ⟨y0, hy0, hm⟩ := Zc hm
 refine z_w 2 rfl (fun S' h' hi hB => o_call (W150 _ hy0) rfl bd150 rfl) ?_
 refine z_w 3 rfl (fun S' h' hi hB => Zh fd60_2 rfl rfl) ?_
 refine z_w 4 rfl (fun S' h' hi hB => Zg (.sl none 4 (List.map c_Loc x0.Locs)) ld42 rfl (At.s (InvL.get 0 hi rfl (hB 7 (by kernel_rfl)))) rfl) ?_
 obtain ⟨y1, hy1, hm⟩ := Zc hm
 refine z_w 5 rfl (fun S' h' hi hB => o_call (W151 _ hy1) rfl bd151 rfl) ?_
 refine z_w 6 rfl (fun S' h' hi hB => Zh fd60_1 rfl rfl) ?_
 refine z_e 7 rfl (by kernel_rfl) (a_store 0 (c_Snap { x0 with Man := y0 }) hk rfl rfl rfl rfl sz58 rfl rfl fun hk2 => ⟨⟨fun e => absurd e (by decide), trivial⟩, ?_⟩)
 refine z_w 8 rfl (fun S' h' hi hB => Zh fd60_2 rfl rfl) ?_
 refine z_e 9 rfl (by kernel_rfl) (a_store 0 (c_Snap { { x0 with Man := y0 } with Locs := y1 }) hk2 rfl rfl rfl rfl sz42 rfl rfl fun hk4 => ⟨⟨fun e => absurd e (by decide), trivial⟩, ?_⟩)
 refine z_nil (by kernel_rfl) (qk (f := .c 29 _ (.c 28 _ (.c 27 _ (.c 26 _ (.c 25 _ (.c 24 _ (.c 23 _ (.c 22 _ _)))))))) hk4 rfl ?_)
 refine v0 (vl 0 (.agg (c_Snap { { x0 with Man := y0 } with Locs := y1 })) ld60 rfl rfl rfl (vn (fun _ => o_lit (List.map c_Snap ([{ { x0 with Man := y0 } with Locs := y1 }] : List TSnap)) et25 rfl rfl rfl rfl) ?_))
 obtain ⟨z0, hz0, hm⟩ := Zc hm
 refine ve fun hk => a_appA (c := c_Snap) 1 hz0 et25 rfl zr60 rfl cz_Snap rfl rfl ok0 hk rfl fun ag1 ok1 hk5 => qk hk5 rfl ?_
 refine v0 ?_
 exact vgo hm ag1 ok1 (lxs [1, 2, 3] rfl rfl (.k4 .nil))
 refine v0 ?_
 exact vbk hm ag0 ok0 (lx (.k4 .nil))
 rintro ag2 ⟨r0, r1⟩ ot0 hm
 refine vs (v0 (vs (vs (v0 (vle (lno (.obj 99 (fl c_Exp ([] : List TExp) g0.sp)) 6 (aw g0.t g0.n g0.cap) (ALe_nilA _)) ?_)))))
 refine vlp hm (σ := (List TExp) × Int) (τ := AGh) (fun g s => [(g.t, .obj 99 (fl c_Exp (s.1 : List TExp) g.sp)), (ag2.t, .obj 60 (fl c_Snap (r0 : List TSnap) ag2.sp)), (some k5, .obj 30 ([.sc (.int .i64 0), .sc (.slice none 0 0), .sc (.slice none 0 0), .sc (.slice none 0 0), .sc (.slice none 0 0)])), (some k2, .obj 30 (c_Catalog p0))]) (fun g s => AOk g 3 (s.1 : List TExp).length) (fun g s => .c 1 (.ptr k2 0) (.c 2 (.ptr k5 0) (.c 3 (aw ag2.t ag2.n ag2.cap) (.c 6 (aw g.t g.n g.cap) (.c 7 (.sc (.int .i64 s.2)) .nil))))) g0 (AOk.g0 3) (lx (.k5 .nil)) ?_ ?_
 rintro ag3 ⟨q2, q3⟩ x ok2 hm
 replace hm : M90d_L2 fuel p0 q2 q3 = some x := hm
 unfold M90d_L2 at hm
 refine vs (vs (v0 (vn (fun _ => Zh fd30_3 rfl rfl) (vl 3 _ ld27 rfl rfl rfl (vln ln27 rfl (v0 ?_))))))
 refine vi hm (fun hc1 hm => ?_) fun hc1 hm => ?_
 refine v0 (vs (v0 (vs (v0 (vn (fun _ => Zh fd30_3 rfl rfl) (vl 3 _ ld27 rfl rfl rfl ?_))))))
 refine vx hm el27 rfl rfl fun x1 _ hm => ?_
 refine va (.agg (c_Exp x1)) ld99 rfl rfl ?_
 refine ve fun hk => a_alloc ([.sc (.int .i64 0), .sc (.int .i64 0), .sc (.slice none 0 0)]) hk zr99 rfl rfl fun k235 hk7 => qk hk7 rfl ?_
 refine ve fun hk => a_store 0 (c_Exp x1) hk rfl rfl rfl rfl sz99 rfl rfl fun hk8 => qk hk8 rfl ?_
 refine vs (v0 (vn (fun _ => Zh fd99_2 rfl rfl) (vl 0 _ ld42 rfl rfl rfl ?_)))
 refine vk W151 bd151 hm rfl rfl fun y2 hm => ?_
 refine vn (fun _ => Zh fd99_2 rfl rfl) ?_
 refine ve fun hk => a_store 0 (c_Exp { x1 with Locs := y2 }) hk rfl rfl rfl rfl sz42 rfl rfl fun hk9 => qk hk9 rfl ?_
 refine v0 (vl 0 (.agg (c_Exp { x1 with Locs := y2 })) ld99 rfl rfl rfl (vn (fun _ => o_lit (List.map c_Exp ([{ x1 with Locs := y2 }] : List TExp)) et27 rfl rfl rfl rfl) ?_))
 obtain ⟨z1, hz1, hm⟩ := Zc hm
 refine ve fun hk => a_appA (c := c_Exp) 1 hz1 et27 rfl zr99 rfl cz_Exp rfl rfl ok2 hk rfl fun ag4 ok3 hk10 => qk hk10 rfl ?_
 refine v0 ?_
 exact vgo hm ag4 ok3 (lxs [1, 2, 3, 4] rfl rfl (.k5 .nil))
 refine v0 ?_
 exact vbk hm ag3 ok2 (lx (.k5 .nil))
 rintro ag5 ⟨r2, r3⟩ ot1 hm
 refine vs (v0 (vs (v0 ?_)))
 refine vz [(10, some k2, .obj 30 (c_Catalog p0))] mixed (fun hk => ⟨fun _ => hp_at 3 hk rfl, trivial⟩) fun hk => ?_
 refine z_w 0 rfl (fun S' h' hi hB => o_mv (aw _ _ _) rfl) ?_
 refine z_w 1 rfl (fun S' h' hi hB => Zh fd30_2 rfl rfl) ?_
 refine z_w 2 rfl (fun S' h' hi hB => Zg (.sl none 35 (List.map c_Chunk p0.Chunks)) ld26 rfl (At.s (InvL.get 0 hi rfl (hB 10 (by kernel_rfl)))) rfl) ?_
 refine z_w 4 rfl (fun S' h' hi hB => o_mv (aw _ _ _) rfl) ?_
 refine z_w 5 rfl (fun S' h' hi hB => o_mv (.sc (.slice _ _ _)) rfl) ?_
 refine z_w 6 rfl (fun S' h' hi hB => Zh fd30_4 rfl rfl) ?_
 refine z_w 7 rfl (fun S' h' hi hB => Zg (.sl none 4 (List.map c_Vol p0.Vols)) ld28 rfl (At.s (InvL.get 0 hi rfl (hB 10 (by kernel_rfl)))) rfl) ?_
 refine z_w 9 rfl (fun S' h' hi hB => Zh fd30_1 rfl rfl) ?_
 obtain ⟨_, hy2, hm⟩ := Zc hm
 refine z_e 3 rfl (by kernel_rfl) (a_call (W152a _ hy2) rfl bd152 rfl ?_)
 rintro x h' ⟨ag6, ok4, hk11, rfl, rfl⟩
 rw [hp_cat]
 refine ⟨⟨fun _ => hp_at 4 (HOk.co hk hk11) rfl, trivial⟩, ?_⟩
 obtain ⟨z2, hz2, hm⟩ := Zc hm
 refine z_e 8 rfl (by kernel_rfl) (a_appA0 (c := c_Vol) hz2 et28 rfl zr49 rfl cz_Vol rfl (HOk.co hk hk11) rfl fun ag7 ok5 hk12 => ⟨⟨fun _ => hp_at 5 hk12 rfl, trivial⟩, ?_⟩)
 refine z_e 10 rfl (by kernel_rfl) (a_store 5 ([.sc (.int .i64 p0.Seq), aw ag2.t ag2.n ag2.cap, .sl none 35 (List.map c_Chunk p0.Chunks), .sl none 3 (List.map c_Exp p0.Exps), .sl none 4 (List.map c_Vol p0.Vols)]) hk12 rfl rfl (cellsOf_aw rfl) (all_c (ocell_aw _ _ _) rfl) sz25 rfl rfl fun hk13 => ⟨⟨fun e => absurd e (by decide), trivial⟩, ?_⟩)
 refine z_w 11 rfl (fun S' h' hi hB => Zh fd30_2 rfl rfl) ?_
 refine z_e 12 rfl (by kernel_rfl) (a_store 5 ([.sc (.int .i64 p0.Seq), aw ag2.t ag2.n ag2.cap, aw ag6.t ag6.n ag6.cap, .sl none 3 (List.map c_Exp p0.Exps), .sl none 4 (List.map c_Vol p0.Vols)]) hk13 rfl rfl (cellsOf_aw rfl) (all_c (ocell_aw _ _ _) rfl) sz26 rfl rfl fun hk14 => ⟨⟨fun e => absurd e (by decide), trivial⟩, ?_⟩)
 refine z_w 13 rfl (fun S' h' hi hB => Zh fd30_3 rfl rfl) ?_
 refine z_e 14 rfl (by kernel_rfl) (a_store 5 ([.sc (.int .i64 p0.Seq), aw ag2.t ag2.n ag2.cap, aw ag6.t ag6.n ag6.cap, aw ag5.t ag5.n ag5.cap, .sl none 4 (List.map c_Vol p0.Vols)]) hk14 rfl rfl (cellsOf_aw rfl) (all_c (ocell_aw _ _ _) rfl) sz27 rfl rfl fun hk15 => ⟨⟨fun e => absurd e (by decide), trivial⟩, ?_⟩)
 refine z_w 15 rfl (fun S' h' hi hB => Zh fd30_4 rfl rfl) ?_
 refine z_e 16 rfl (by kernel_rfl) (a_store 5 ([.sc (.int .i64 p0.Seq), aw ag2.t ag2.n ag2.cap, aw ag6.t ag6.n ag6.cap, aw ag5.t ag5.n ag5.cap, aw ag7.t ag7.n ag7.cap]) hk15 rfl rfl (cellsOf_aw rfl) (all_c (ocell_aw _ _ _) rfl) sz28 rfl rfl fun hk16 => ⟨⟨fun e => absurd e (by decide), trivial⟩, ?_⟩)
 refine z_nil (by kernel_rfl) (qk (f := .c 66 _ (.c 65 _ (.c 64 _ (.c 62 _ (.c 57 _ (.c 63 _ (.c 61 _ (.c 60 _ (.c 59 _ (.c 58 _ (.c 56 _ (.c 55 _ (.c 54 _ _))))))))))))) hk16 rfl ?_)
 refine vs (v0 (vl 5 (.agg ([.sc (.int .i64 p0.Seq), aw ag2.t ag2.n ag2.cap, aw ag6.t ag6.n ag6.cap, aw ag5.t ag5.n ag5.cap, aw ag7.t ag7.n ag7.cap])) ld30 rfl rfl rfl ?_))
 refine ve fun hk => a_store 4 ([.sc (.int .i64 p0.Seq), aw ag2.t ag2.n ag2.cap, aw ag6.t ag6.n ag6.cap, aw ag5.t ag5.n ag5.cap, aw ag7.t ag7.n ag7.cap]) hk rfl rfl rfl (by repeat (first | exact rfl | refine all_c (ocell_ow _ _ _) ?_ | refine all_c (ocell_aw _ _ _) ?_ | refine all_c rfl ?_)) sz30 rfl rfl fun hk17 => qk hk17 rfl ?_
 refine v0 ?_
 cases hm
 exact vr fun hk => Ret.of1 (.inl rfl) (rsC (.agg ([.sc (.int .i64 p0.Seq), aw ag2.t ag2.n ag2.cap, aw ag6.t ag6.n ag6.cap, aw ag5.t ag5.n ag5.cap, aw ag7.t ag7.n ag7.cap])) ld30 rfl (Zd 4 hk rfl) rfl) (hp_pick hk [3, 1, 2, 0] rfl).2 (ALe.refl _ _) ⟨ag2, ot0, ag6, ok4, ag5, ot1, ag7, ok5, (hp_pick hk [3, 1, 2, 0] rfl).1, rfl, rfl⟩
def M191 (fuel : Nat) (p0 : TLoc) (p1 : TLoc) : Option (Bool) :=
 if (p0.Vol != p1.Vol) = true then (some (decide (p0.Vol < p1.Vol))) else if (p0.File != p1.File) = true then (some (decide (p0.File < p1.File))) else if (p0.Off != p1.Off) = true then (some (decide (p0.Off < p1.Off))) else some (decide (p0.Len < p1.Len))
set_option maxHeartbeats 4000000 in
set_option maxRecDepth 100000 in
theorem W191 {fuel : Nat} {p0 : TLoc} {p1 : TLoc} {o : Bool} (h : Heap) (hm : M191 fuel p0 p1 = some o) :
 ACalls Tryz.prog 191 [.agg (c_Loc p0), .agg (c_Loc p1)] h (fun r h' => r = .sc (.bool o) ∧ h' = h) := by
 refine ACv 40 [.tmp 4] Tryz.func191 rfl rfl rfl rfl ?_
 unfold M191 at hm
 refine v ?_
 refine ve fun hk => a_box hk rfl rfl fun k2 hk3 => qk hk3 rfl ?_
 refine ve fun hk => a_box hk rfl rfl fun k5 hk6 => qk hk6 rfl ?_
 refine v (vl 1 _ ld3 rfl rfl rfl (vl 0 _ ld3 rfl rfl rfl (v ?_)))
 refine vi hm (fun hc0 hm => ?_) fun hc0 hm => ?_
 refine v (vl 1 _ ld3 rfl rfl rfl (vl 0 _ ld3 rfl rfl rfl (v ?_)))
 cases hm
 exact vr1 rfl
 refine v (v (vl 1 _ ld3 rfl rfl rfl (vl 0 _ ld3 rfl rfl rfl (v ?_))))
 refine vi hm (fun hc1 hm => ?_) fun hc1 hm => ?_
 refine v (vl 1 _ ld3 rfl rfl rfl (vl 0 _ ld3 rfl rfl rfl (v ?_)))
 cases hm
 exact vr1 rfl
 refine v (v (vl 1 _ ld3 rfl rfl rfl (vl 0 _ ld3 rfl rfl rfl (v ?_))))
 refine vi hm (fun hc2 hm => ?_) fun hc2 hm => ?_
 refine v (vl 1 _ ld3 rfl rfl rfl (vl 0 _ ld3 rfl rfl rfl (v ?_)))
 cases hm
 exact vr1 rfl
 refine v (v (vl 1 _ ld3 rfl rfl rfl (vl 0 _ ld3 rfl rfl rfl (v ?_))))
 cases hm
 exact vr1 rfl
theorem bd191 : bodied Tryz.prog 191 = true := by kernel_rfl
def M185_L0 (fuel : Nat) (p0 : List TLoc) (p1 : TLoc) (q0 : Int) : Option (Lp (Int) ((List TLoc))) :=
 after (if (decide (q0 < (p0.length : Int))) = true then ((ix p0 q0).bind fun x0 => (M191 fuel x0 p1).bind fun y0 => some (.brk y0)) else some (.brk false) : Option (Lp (Bool) (Lp (Int) ((List TLoc))))) fun j0 => if j0 = true then (some (.go (IntKind.wrap .i64 (q0 + 1)))) else some (.brk q0)
def M185 (fuel : Nat) (p0 : List TLoc) (p1 : TLoc) : Option ((List TLoc)) :=
 after (loopM (fun s => M185_L0 fuel p0 p1 s) fuel 0) fun r0 => (slc p0 0 r0).bind fun x0 => (app ([] : List TLoc) x0).bind fun z0 => (app z0 ([p1] : List TLoc)).bind fun z1 => (slc p0 r0 (p0).length).bind fun x1 => (app z1 x1).bind fun z2 => some z2
set_option maxHeartbeats 4000000 in
set_option maxRecDepth 100000 in
theorem W185 {fuel : Nat} {p0 : List TLoc} {p1 : TLoc} {o : (List TLoc)} (h : Heap) (hm : M185 fuel p0 p1 = some o) :
 ACalls Tryz.prog 185 [.sl none 4 (List.map c_Loc p0), .agg (c_Loc p1)] h (fun r h' => r = .sl none 4 (List.map c_Loc o) ∧ h' = h) := by
 refine ACv 34 [.tmp 4] Tryz.func185 rfl rfl rfl rfl ?_
 unfold M185 at hm
 refine v ?_
 refine ve fun hk => a_box hk rfl rfl fun k2 hk3 => qk hk3 rfl ?_
 refine v (vs ?_)
 refine vlpH hm (σ := Int) (τ := Unit) (fun g s => [(some k2, .obj 81 (c_Loc p1))]) (fun g s => .c 0 (.sl none 4 (List.map c_Loc p0)) (.c 3 (.ptr k2 0) (.c 5 (.sc (.int .i64 s)) .nil))) () (lx (.k3 .nil)) ?_ ?_
 rintro _ q0 x hm
 replace hm : M185_L0 fuel p0 p1 q0 = some x := hm
 unfold M185_L0 at hm
 refine vs (vs ?_)
 refine vjnH hm (σ := Bool) (τ := Unit) (fun g s => [(some k2, .obj 81 (c_Loc p1))]) (fun g s => .c 0 (.sl none 4 (List.map c_Loc p0)) (.c 3 (.ptr k2 0) (.c 5 (.sc (.int .i64 q0)) (.c 18 (.sc (.bool s)) .nil)))) (fun x hm => ?_) ?_
 refine v (vq (by kernel_rfl) (vln ln42 rfl ?_))
 refine vi hm (fun hb0 hm => ?_) fun hb0 hm => ?_
 rw [hb0]
 refine vx hm el42 rfl rfl fun x0 _ hm => ?_
 refine va (.agg (c_Loc x0)) ld81 rfl rfl (vl 0 (.agg (c_Loc p1)) ld81 rfl rfl rfl ?_)
 refine vk W191 bd191 hm rfl rfl fun _ hm => ?_
 exact vgo hm () trivial (lx (.k4 .nil))
 rw [hb0]
 exact vgo hm () trivial (lx (.k4 .nil))
 rintro _ j0 hm
 refine v ?_
 refine vi hm (fun hc0 hm => ?_) fun hc0 hm => ?_
 refine v (v (v ?_))
 exact vgo hm () trivial (lx (.k3 .nil))
 refine v ?_
 exact vbk hm () trivial (lx (.k3 .nil))
 rintro _ r0 hm
 refine v (v ?_)
 refine vz [(1000000, some k2, .obj 81 (c_Loc p1))] mixed (fun hk => ⟨fun _ => hp_at 0 hk rfl, trivial⟩) fun hk => ?_
 refine z_w 0 rfl (fun S' h' hi hB => o_mv (.sc (.slice _ _ _)) rfl) ?_
 refine z_w 1 rfl (fun S' h' hi hB => o_mv (.sl _ _ _) rfl) ?_
 refine z_w 2 rfl (fun S' h' hi hB => o_mv (.sc (.int _ _)) rfl) ?_
 obtain ⟨_, hx0, hm⟩ := Zc hm
 refine z_w 3 rfl (fun S' h' hi hB => o_slc hx0 el42 rfl rfl rfl rfl) ?_
 refine z_w 5 rfl (fun S' h' hi hB => Zg (.agg (c_Loc p1)) ld81 rfl (At.s (InvL.get 0 hi rfl (hB 1000000 (by kernel_rfl)))) rfl) ?_
 refine z_w 6 rfl (fun S' h' hi hB => o_lit (List.map c_Loc ([p1] : List TLoc)) et42 rfl rfl rfl rfl) ?_
 obtain ⟨z0, hz0, hm⟩ := Zc hm
 refine z_e 4 rfl (by kernel_rfl) (a_app0 (c := c_Loc) hz0 et42 rfl rfl hk nofun rfl fun tg0 ot0 hk0 => ⟨⟨fun _ => hp_at 1 hk0 rfl, trivial⟩, ?_⟩)
 obtain ⟨z1, hz1, hm⟩ := Zc hm
 refine z_e 7 rfl (by kernel_rfl) (a_app (c := c_Loc) 0 hz1 et42 rfl rfl rfl ot0 hk0 rfl fun tg1 ot1 hk1 => ⟨⟨fun _ => hp_at 1 hk1 rfl, trivial⟩, ?_⟩)
 refine z_w 8 rfl (fun S' h' hi hB => o_as (ow _ _ _) rfl) ?_
 refine z_nil (by kernel_rfl) (qk (f := .c 6 _ (.c 28 _ (.c 25 _ (.c 27 _ (.c 26 _ (.c 24 _ (.c 23 _ (.c 22 _ (.c 21 _ _))))))))) hk1 rfl ?_)
 refine v ?_
 obtain ⟨_, hx1, hm⟩ := Zc hm
 refine vn (fun _ => o_slc hx1 el42 rfl rfl rfl rfl) ?_
 obtain ⟨z2, hz2, hm⟩ := Zc hm
 refine ve fun hk => a_app (c := c_Loc) 0 hz2 et42 rfl rfl rfl ot1 hk rfl fun tg2 ot2 hk2 => qk hk2 rfl ?_
 refine v ?_
 injection hm with hm; subst hm
 exact vr fun hk => Ret.of1 (.inl rfl) (rsT _ _ (ow _ _ _) rfl) (hp_sub (List.nil_sublist _) hk).1 ((own_frz0 _ 0 ot2 hk rfl)) ⟨rfl, rfl⟩
theorem bd185 : bodied Tryz.prog 185 = true := by kernel_rfl
def M157_L0 (fuel : Nat) (p0 : List TLoc) (p1 : Int) (q0 : List TLoc) (q1 : Int) : Option (Lp ((List TLoc) × Int) ((List TLoc))) :=
 if (decide (q1 < (p0.length : Int))) = true then ((ix p0 q1).bind fun x0 => after (if (x0.Vol != p1) = true then ((ix p0 q1).bind fun x1 => (app q0 ([x1] : List TLoc)).bind fun z0 => some (.brk z0)) else some (.brk q0) : Option (Lp ((List TLoc)) (Lp ((List TLoc) × Int) ((List TLoc))))) fun j0 => some (.go (j0, IntKind.wrap .i64 (q1 + 1)))) else some (.brk (q0, q1))
def M157 (fuel : Nat) (p0 : List TLoc) (p1 : Int) : Option ((List TLoc)) :=
 after (loopM (fun s => M157_L0 fuel p0 p1 s.1 s.2) fuel ([], 0)) fun ⟨r0, r1⟩ => some r0
set_option maxHeartbeats 4000000 in
set_option maxRecDepth 100000 in
theorem W157 {fuel : Nat} {p0 : List TLoc} {p1 : Int} {o : (List TLoc)} (h : Heap) (hm : M157 fuel p0 p1 = some o) :
 ACalls Tryz.prog 157 [.sl none 4 (List.map c_Loc p0), .sc (.int .i64 p1)] h (fun r h' => r = .sl none 4 (List.map c_Loc o) ∧ h' = h) := by
 refine ACv 28 [.tmp 4] Tryz.func157 rfl rfl rfl rfl ?_
 unfold M157 at hm
 refine v (v (v (vle (lno (.tok 81 4 (([] : List TLoc).length * 4)) 5 (ow none 4 (List.map c_Loc [])) (ow_nil _ _)) ?_)))
 refine vlp hm (σ := (List TLoc) × Int) (τ := Option Key) (fun g s => [(g, .tok 81 4 ((s.1 : List TLoc).length * 4))]) (fun g s => (g = none → s.1 = [])) (fun g s => .c 0 (.sl none 4 (List.map c_Loc p0)) (.c 1 (.sc (.int .i64 p1)) (.c 5 (ow g 4 (List.map c_Loc s.1)) (.c 6 (.sc (.int .i64 s.2)) .nil)))) none (fun _ => rfl) (lx (.k4 .nil)) ?_ ?_
 rintro tg0 ⟨q0, q1⟩ x ot0 hm
 replace hm : M157_L0 fuel p0 p1 q0 q1 = some x := hm
 unfold M157_L0 at hm
 refine v (vln ln42 rfl (v ?_))
 refine vi hm (fun hc0 hm => ?_) fun hc0 hm => ?_
 refine v (v (v ?_))
 refine vx hm el42 rfl rfl fun _ _ hm => ?_
 refine vjn hm (σ := (List TLoc)) (τ := Option Key) (fun g s => [(g, .tok 81 4 ((s : List TLoc).length * 4))]) (fun g s => (g = none → s = [])) (fun g s => .c 0 (.sl none 4 (List.map c_Loc p0)) (.c 1 (.sc (.int .i64 p1)) (.c 5 (ow g 4 (List.map c_Loc s)) (.c 6 (.sc (.int .i64 q1)) .nil)))) (fun x hm => ?_) ?_
 refine v ?_
 refine vi hm (fun hc1 hm => ?_) fun hc1 hm => ?_
 refine v ?_
 refine vx hm el42 rfl rfl fun x0 _ hm => ?_
 refine va (.agg (c_Loc x0)) ld81 rfl rfl (vn (fun _ => o_lit (List.map c_Loc ([x0] : List TLoc)) et42 rfl rfl rfl rfl) ?_)
 obtain ⟨z0, hz0, hm⟩ := Zc hm
 refine ve fun hk => a_app (c := c_Loc) 0 hz0 et42 rfl rfl rfl ot0 hk rfl fun tg1 ot1 hk0 => qk hk0 rfl ?_
 exact vgo hm tg1 ot1 (lx (.k4 .nil))
 refine v ?_
 exact vgo hm tg0 ot0 (lx (.k4 .nil))
 rintro tg2 j0 ot2 hm
 refine v ?_
 exact vgo hm tg2 ot2 (lx (.k4 .nil))
 refine v ?_
 exact vbk hm tg0 ot0 (lx (.k4 .nil))
 rintro tg3 ⟨r0, r1⟩ ot3 hm
 refine v (v ?_)
 injection hm with hm; subst hm
 exact vr fun hk => Ret.of1 (.inl rfl) (rsT _ _ (ow _ _ _) rfl) (hp_sub (List.nil_sublist _) hk).1 ((own_frz0 _ 0 ot3 hk rfl)) ⟨rfl, rfl⟩
theorem bd157 : bodied Tryz.prog 157 = true := by kernel_rfl
def M92 (fuel : Nat) (p0 : TChange) : Option (TChange) :=
 (M150 fuel p0.Snap.Man).bind fun y0 => (M151 fuel p0.Snap.Locs).bind fun y1 => (M152 fuel ({ { p0 with Snap := { p0.Snap with Man := y0 } } with Snap := { { p0 with Snap := { p0.Snap with Man := y0 } }.Snap with Locs := y1 } }.Chunks)).bind fun y2 => (app ([] : List TItem) ({ { p0 with Snap := { p0.Snap with Man := y0 } } with Snap := { { p0 with Snap := { p0.Snap with Man := y0 } }.Snap with Locs := y1 } }.Items)).bind fun z0 => some ({ Kind := { { { p0 with Snap := { p0.Snap with Man := y0 } } with Snap := { { p0 with Snap := { p0.Snap with Man := y0 } }.Snap with Locs := y1 } } with Chunks := y2 }.Kind, Snap := ({ Seq := ({ { { p0 with Snap := { p0.Snap with Man := y0 } } with Snap := { { p0 with Snap := { p0.Snap with Man := y0 } }.Snap with Locs := y1 } } with Chunks := y2 }.Snap).Seq, Man := ({ Name := (({ { { p0 with Snap := { p0.Snap with Man := y0 } } with Snap := { { p0 with Snap := { p0.Snap with Man := y0 } }.Snap with Locs := y1 } } with Chunks := y2 }.Snap).Man).Name, Parts := (({ { { p0 with Snap := { p0.Snap with Man := y0 } } with Snap := { { p0 with Snap := { p0.Snap with Man := y0 } }.Snap with Locs := y1 } } with Chunks := y2 }.Snap).Man).Parts } : TManifest), Locs := ({ { { p0 with Snap := { p0.Snap with Man := y0 } } with Snap := { { p0 with Snap := { p0.Snap with Man := y0 } }.Snap with Locs := y1 } } with Chunks := y2 }.Snap).Locs } : TSnap), Chunks := { { { p0 with Snap := { p0.Snap with Man := y0 } } with Snap := { { p0 with Snap := { p0.Snap with Man := y0 } }.Snap with Locs := y1 } } with Chunks := y2 }.Chunks, Seq := { { { p0 with Snap := { p0.Snap with Man := y0 } } with Snap := { { p0 with Snap := { p0.Snap with Man := y0 } }.Snap with Locs := y1 } } with Chunks := y2 }.Seq, Vol := { { { p0 with Snap := { p0.Snap with Man := y0 } } with Snap := { { p0 with Snap := { p0.Snap with Man := y0 } }.Snap with Locs := y1 } } with Chunks := y2 }.Vol, Items := z0 } : TChange)
set_option maxHeartbeats 4000000 in
set_option maxRecDepth 100000 in
theorem W92 {fuel : Nat} {p0 : TChange} {o : TChange} (h : Heap) (hm : M92 fuel p0 = some o) :
 ACalls Tryz.prog 92 [.agg (c_Change p0)] h (fun r h' => r = .agg (c_Change o) ∧ h' = h) := by
 refine ACv 26 [.cell 2 62] Tryz.func92 rfl rfl rfl rfl ?_
 unfold M92 at hm
 refine v ?_
 refine ve fun hk => a_box hk rfl rfl fun k2 hk3 => qk hk3 rfl ?_
 refine ve fun hk => a_alloc ([.sc (.int .i64 0), .sc (.int .i64 0), .sc (.string ByteArray.empty), .sc (.slice none 0 0), .sc (.slice none 0 0), .sc (.slice none 0 0), .sc (.int .i64 0), .sc (.int .i64 0), .sc (.slice none 0 0)]) hk zr62 rfl rfl fun k5 hk6 => qk hk6 rfl ?_
 refine v ?_
 refine vz [(10, some k2, .obj 62 (c_Change p0))] mixed (fun hk => ⟨fun _ => hp_at 1 hk rfl, trivial⟩) fun hk => ?_
 refine z_w 0 rfl (fun S' h' hi hB => Zh fd62_1 rfl rfl) ?_
 refine z_w 1 rfl (fun S' h' hi hB => Zh fd60_1 rfl rfl) ?_
 refine z_w 2 rfl (fun S' h' hi hB => Zg (.agg (c_Manifest p0.Snap.Man)) ld58 rfl (At.s (InvL.get 0 hi rfl (hB 10 (by kernel_rfl)))) rfl) ?_
 obtain ⟨y0, hy0, hm⟩ := Zc hm
 refine z_w 3 rfl (fun S' h' hi hB => o_call (W150 _ hy0) rfl bd150 rfl) ?_
 refine z_w 4 rfl (fun S' h' hi hB => Zh fd62_1 rfl rfl) ?_
 refine z_w 5 rfl (fun S' h' hi hB => Zh fd60_2 rfl rfl) ?_
 refine z_w 6 rfl (fun S' h' hi hB => Zg (.sl none 4 (List.map c_Loc p0.Snap.Locs)) ld42 rfl (At.s (InvL.get 0 hi rfl (hB 10 (by kernel_rfl)))) rfl) ?_
 obtain ⟨y1, hy1, hm⟩ := Zc hm
 refine z_w 7 rfl (fun S' h' hi hB => o_call (W151 _ hy1) rfl bd151 rfl) ?_
 refine z_w 8 rfl (fun S' h' hi hB => Zh fd62_1 rfl rfl) ?_
 refine z_w 9 rfl (fun S' h' hi hB => Zh fd60_1 rfl rfl) ?_
 refine z_e 10 rfl (by kernel_rfl) (a_store 1 (c_Change { p0 with Snap := { p0.Snap with Man := y0 } }) hk rfl rfl rfl rfl sz58 rfl rfl fun hk0 => ⟨⟨fun e => absurd e (by decide), trivial⟩, ?_⟩)
 refine z_w 11 rfl (fun S' h' hi hB => Zh fd62_1 rfl rfl) ?_
 refine z_w 12 rfl (fun S' h' hi hB => Zh fd60_2 rfl rfl) ?_
 refine z_e 13 rfl (by kernel_rfl) (a_store 1 (c_Change { { p0 with Snap := { p0.Snap with Man := y0 } } with Snap := { { p0 with Snap := { p0.Snap with Man := y0 } }.Snap with Locs := y1 } }) hk0 rfl rfl rfl rfl sz42 rfl rfl fun hk1 => ⟨⟨fun e => absurd e (by decide), trivial⟩, ?_⟩)
 refine z_nil (by kernel_rfl) (qk (f := .c 15 _ (.c 14 _ (.c 13 _ (.c 12 _ (.c 11 _ (.c 10 _ (.c 9 _ (.c 8 _ (.c 7 _ (.c 6 _ (.c 5 _ (.c 4 _ _)))))))))))) hk1 rfl ?_)
 refine v (v ?_)
 refine vz [(8, some k2, .obj 62 (c_Change { { p0 with Snap := { p0.Snap with Man := y0 } } with Snap := { { p0 with Snap := { p0.Snap with Man := y0 } }.Snap with Locs := y1 } }))] mixed (fun hk => ⟨fun _ => hp_at 1 hk rfl, trivial⟩) fun hk => ?_
 refine z_w 0 rfl (fun S' h' hi hB => Zh fd62_2 rfl rfl) ?_
 refine z_w 1 rfl (fun S' h' hi hB => Zg (.sl none 35 (List.map c_Chunk ({ { p0 with Snap := { p0.Snap with Man := y0 } } with Snap := { { p0 with Snap := { p0.Snap with Man := y0 } }.Snap with Locs := y1 } }.Chunks))) ld26 rfl (At.s (InvL.get 0 hi rfl (hB 8 (by kernel_rfl)))) rfl) ?_
 obtain ⟨y2, hy2, hm⟩ := Zc hm
 refine z_w 2 rfl (fun S' h' hi hB => o_call (W152 _ hy2) rfl bd152 rfl) ?_
 refine z_w 3 rfl (fun S' h' hi hB => o_mv (.sc (.slice _ _ _)) rfl) ?_
 refine z_w 4 rfl (fun S' h' hi hB => Zh fd62_5 rfl rfl) ?_
 refine z_w 5 rfl (fun S' h' hi hB => Zg (.sl none 37 (List.map c_Item ({ { p0 with Snap := { p0.Snap with Man := y0 } } with Snap := { { p0 with Snap := { p0.Snap with Man := y0 } }.Snap with Locs := y1 } }.Items))) ld33 rfl (At.s (InvL.get 0 hi rfl (hB 8 (by kernel_rfl)))) rfl) ?_
 refine z_w 7 rfl (fun S' h' hi hB => Zh fd62_2 rfl rfl) ?_
 obtain ⟨z0, hz0, hm⟩ := Zc hm
 refine z_e 6 rfl (by kernel_rfl) (a_app0 (c := c_Item) hz0 et33 rfl rfl hk nofun rfl fun tg0 ot0 hk2 => ⟨⟨fun _ => hp_at 2 hk2 rfl, trivial⟩, ?_⟩)
 refine z_e 8 rfl (by kernel_rfl) (a_store 2 (c_Change { { { p0 with Snap := { p0.Snap with Man := y0 } } with Snap := { { p0 with Snap := { p0.Snap with Man := y0 } }.Snap with Locs := y1 } } with Chunks := y2 }) hk2 rfl rfl rfl rfl sz26 rfl rfl fun hk4 => ⟨⟨fun e => absurd e (by decide), trivial⟩, ?_⟩)
 refine z_w 9 rfl (fun S' h' hi hB => Zh fd62_5 rfl rfl) ?_
 refine z_e 10 rfl (by kernel_rfl) (a_store 2 ([.sc (.int .i64 ({ { { p0 with Snap := { p0.Snap with Man := y0 } } with Snap := { { p0 with Snap := { p0.Snap with Man := y0 } }.Snap with Locs := y1 } } with Chunks := y2 }.Kind)), .sc (.int .i64 (({ { { p0 with Snap := { p0.Snap with Man := y0 } } with Snap := { { p0 with Snap := { p0.Snap with Man := y0 } }.Snap with Locs := y1 } } with Chunks := y2 }.Snap).Seq)), .sc (.string ((({ { { p0 with Snap := { p0.Snap with Man := y0 } } with Snap := { { p0 with Snap := { p0.Snap with Man := y0 } }.Snap with Locs := y1 } } with Chunks := y2 }.Snap).Man).Name)), .sl none 3 (List.map c_Part ((({ { { p0 with Snap := { p0.Snap with Man := y0 } } with Snap := { { p0 with Snap := { p0.Snap with Man := y0 } }.Snap with Locs := y1 } } with Chunks := y2 }.Snap).Man).Parts)), .sl none 4 (List.map c_Loc (({ { { p0 with Snap := { p0.Snap with Man := y0 } } with Snap := { { p0 with Snap := { p0.Snap with Man := y0 } }.Snap with Locs := y1 } } with Chunks := y2 }.Snap).Locs)), .sl none 35 (List.map c_Chunk ({ { { p0 with Snap := { p0.Snap with Man := y0 } } with Snap := { { p0 with Snap := { p0.Snap with Man := y0 } }.Snap with Locs := y1 } } with Chunks := y2 }.Chunks)), .sc (.int .i64 ({ { { p0 with Snap := { p0.Snap with Man := y0 } } with Snap := { { p0 with Snap := { p0.Snap with Man := y0 } }.Snap with Locs := y1 } } with Chunks := y2 }.Seq)), .sc (.int .i64 ({ { { p0 with Snap := { p0.Snap with Man := y0 } } with Snap := { { p0 with Snap := { p0.Snap with Man := y0 } }.Snap with Locs := y1 } } with Chunks := y2 }.Vol)), ow tg0 37 (List.map c_Item z0)]) hk4 rfl rfl (cellsOf_ow rfl) (all_ow _ _ _) sz33 rfl rfl fun hk5 => ⟨⟨fun e => absurd e (by decide), trivial⟩, ?_⟩)
 refine z_nil (by kernel_rfl) (qk (f := .c 24 _ (.c 22 _ (.c 23 _ (.c 21 _ (.c 20 _ (.c 19 _ (.c 18 _ (.c 17 _ (.c 16 _ _))))))))) hk5 rfl ?_)
 refine v (vl 2 (.agg ([.sc (.int .i64 ({ { { p0 with Snap := { p0.Snap with Man := y0 } } with Snap := { { p0 with Snap := { p0.Snap with Man := y0 } }.Snap with Locs := y1 } } with Chunks := y2 }.Kind)), .sc (.int .i64 (({ { { p0 with Snap := { p0.Snap with Man := y0 } } with Snap := { { p0 with Snap := { p0.Snap with Man := y0 } }.Snap with Locs := y1 } } with Chunks := y2 }.Snap).Seq)), .sc (.string ((({ { { p0 with Snap := { p0.Snap with Man := y0 } } with Snap := { { p0 with Snap := { p0.Snap with Man := y0 } }.Snap with Locs := y1 } } with Chunks := y2 }.Snap).Man).Name)), .sl none 3 (List.map c_Part ((({ { { p0 with Snap := { p0.Snap with Man := y0 } } with Snap := { { p0 with Snap := { p0.Snap with Man := y0 } }.Snap with Locs := y1 } } with Chunks := y2 }.Snap).Man).Parts)), .sl none 4 (List.map c_Loc (({ { { p0 with Snap := { p0.Snap with Man := y0 } } with Snap := { { p0 with Snap := { p0.Snap with Man := y0 } }.Snap with Locs := y1 } } with Chunks := y2 }.Snap).Locs)), .sl none 35 (List.map c_Chunk ({ { { p0 with Snap := { p0.Snap with Man := y0 } } with Snap := { { p0 with Snap := { p0.Snap with Man := y0 } }.Snap with Locs := y1 } } with Chunks := y2 }.Chunks)), .sc (.int .i64 ({ { { p0 with Snap := { p0.Snap with Man := y0 } } with Snap := { { p0 with Snap := { p0.Snap with Man := y0 } }.Snap with Locs := y1 } } with Chunks := y2 }.Seq)), .sc (.int .i64 ({ { { p0 with Snap := { p0.Snap with Man := y0 } } with Snap := { { p0 with Snap := { p0.Snap with Man := y0 } }.Snap with Locs := y1 } } with Chunks := y2 }.Vol)), ow tg0 37 (List.map c_Item z0)])) ld62 rfl rfl rfl ?_)
 refine ve fun hk => a_store 1 ([.sc (.int .i64 ({ { { p0 with Snap := { p0.Snap with Man := y0 } } with Snap := { { p0 with Snap := { p0.Snap with Man := y0 } }.Snap with Locs := y1 } } with Chunks := y2 }.Kind)), .sc (.int .i64 (({ { { p0 with Snap := { p0.Snap with Man := y0 } } with Snap := { { p0 with Snap := { p0.Snap with Man := y0 } }.Snap with Locs := y1 } } with Chunks := y2 }.Snap).Seq)), .sc (.string ((({ { { p0 with Snap := { p0.Snap with Man := y0 } } with Snap := { { p0 with Snap := { p0.Snap with Man := y0 } }.Snap with Locs := y1 } } with Chunks := y2 }.Snap).Man).Name)), .sl none 3 (List.map c_Part ((({ { { p0 with Snap := { p0.Snap with Man := y0 } } with Snap := { { p0 with Snap := { p0.Snap with Man := y0 } }.Snap with Locs := y1 } } with Chunks := y2 }.Snap).Man).Parts)), .sl none 4 (List.map c_Loc (({ { { p0 with Snap := { p0.Snap with Man := y0 } } with Snap := { { p0 with Snap := { p0.Snap with Man := y0 } }.Snap with Locs := y1 } } with Chunks := y2 }.Snap).Locs)), .sl none 35 (List.map c_Chunk ({ { { p0 with Snap := { p0.Snap with Man := y0 } } with Snap := { { p0 with Snap := { p0.Snap with Man := y0 } }.Snap with Locs := y1 } } with Chunks := y2 }.Chunks)), .sc (.int .i64 ({ { { p0 with Snap := { p0.Snap with Man := y0 } } with Snap := { { p0 with Snap := { p0.Snap with Man := y0 } }.Snap with Locs := y1 } } with Chunks := y2 }.Seq)), .sc (.int .i64 ({ { { p0 with Snap := { p0.Snap with Man := y0 } } with Snap := { { p0 with Snap := { p0.Snap with Man := y0 } }.Snap with Locs := y1 } } with Chunks := y2 }.Vol)), ow tg0 37 (List.map c_Item z0)]) hk rfl rfl rfl (by repeat (first | exact rfl | refine all_c (ocell_ow _ _ _) ?_ | refine all_c (ocell_aw _ _ _) ?_ | refine all_c rfl ?_)) sz62 rfl rfl fun hk7 => qk hk7 rfl ?_
 refine v ?_
 cases hm
 exact vr fun hk => Ret.of1 (.inl rfl) (rsC (.agg ([.sc (.int .i64 ({ { { p0 with Snap := { p0.Snap with Man := y0 } } with Snap := { { p0 with Snap := { p0.Snap with Man := y0 } }.Snap with Locs := y1 } } with Chunks := y2 }.Kind)), .sc (.int .i64 (({ { { p0 with Snap := { p0.Snap with Man := y0 } } with Snap := { { p0 with Snap := { p0.Snap with Man := y0 } }.Snap with Locs := y1 } } with Chunks := y2 }.Snap).Seq)), .sc (.string ((({ { { p0 with Snap := { p0.Snap with Man := y0 } } with Snap := { { p0 with Snap := { p0.Snap with Man := y0 } }.Snap with Locs := y1 } } with Chunks := y2 }.Snap).Man).Name)), .sl none 3 (List.map c_Part ((({ { { p0 with Snap := { p0.Snap with Man := y0 } } with Snap := { { p0 with Snap := { p0.Snap with Man := y0 } }.Snap with Locs := y1 } } with Chunks := y2 }.Snap).Man).Parts)), .sl none 4 (List.map c_Loc (({ { { p0 with Snap := { p0.Snap with Man := y0 } } with Snap := { { p0 with Snap := { p0.Snap with Man := y0 } }.Snap with Locs := y1 } } with Chunks := y2 }.Snap).Locs)), .sl none 35 (List.map c_Chunk ({ { { p0 with Snap := { p0.Snap with Man := y0 } } with Snap := { { p0 with Snap := { p0.Snap with Man := y0 } }.Snap with Locs := y1 } } with Chunks := y2 }.Chunks)), .sc (.int .i64 ({ { { p0 with Snap := { p0.Snap with Man := y0 } } with Snap := { { p0 with Snap := { p0.Snap with Man := y0 } }.Snap with Locs := y1 } } with Chunks := y2 }.Seq)), .sc (.int .i64 ({ { { p0 with Snap := { p0.Snap with Man := y0 } } with Snap := { { p0 with Snap := { p0.Snap with Man := y0 } }.Snap with Locs := y1 } } with Chunks := y2 }.Vol)), ow tg0 37 (List.map c_Item z0)])) ld62 rfl (Zd 1 hk rfl) rfl) (hp_sub (List.nil_sublist _) hk).1 (ALe.agg (.k8 (.cons ((own_frz0 _ 0 ot0 hk rfl)) .nil))) ⟨rfl, rfl⟩
theorem bd92 : bodied Tryz.prog 92 = true := by kernel_rfl
def M155 (fuel : Nat) (p0 : TCatalog) (p1 : Int) (p2 : Int) (p3 : Int) : Option (Bool) :=
 after (if (decide (0 ≤ p1)) = true then (if (decide (p1 < (p0.Vols.length : Int))) = true then ((ix p0.Vols p1).bind fun x0 => if (x0.State == p2) = true then (some (.brk true)) else (ix p0.Vols p1).bind fun x1 => some (.brk (x1.State == p3))) else some (.brk false)) else some (.brk false) : Option (Lp (Bool) (Bool))) fun j0 => some j0
set_option maxHeartbeats 4000000 in
set_option maxRecDepth 100000 in
theorem W155 {fuel : Nat} {p0 : TCatalog} {p1 : Int} {p2 : Int} {p3 : Int} {o : Bool} (h : Heap) {p0K : Key} {g_Snaps : AGh} (ok_Snaps : AOk g_Snaps 4 p0.Snaps.length) {g_Chunks : AGh} (ok_Chunks : AOk g_Chunks 35 p0.Chunks.length) {g_Exps : AGh} (ok_Exps : AOk g_Exps 3 p0.Exps.length) {g_Vols : AGh} (ok_Vols : AOk g_Vols 4 p0.Vols.length) (hk0 : HOk h [(some p0K, .obj 30 ([.sc (.int .i64 p0.Seq), aw g_Snaps.t g_Snaps.n g_Snaps.cap, aw g_Chunks.t g_Chunks.n g_Chunks.cap, aw g_Exps.t g_Exps.n g_Exps.cap, aw g_Vols.t g_Vols.n g_Vols.cap])), (g_Snaps.t, .obj 60 (fl c_Snap (p0.Snaps : List TSnap) g_Snaps.sp)), (g_Chunks.t, .obj 44 (fl c_Chunk (p0.Chunks : List TChunk) g_Chunks.sp)), (g_Exps.t, .obj 99 (fl c_Exp (p0.Exps : List TExp) g_Exps.sp)), (g_Vols.t, .obj 49 (fl c_Vol (p0.Vols : List TVol) g_Vols.sp))]) (hm : M155 fuel p0 p1 p2 p3 = some o) :
 ACalls Tryz.prog 155 [.ptr p0K 0, .sc (.int .i64 p1), .sc (.int .i64 p2), .sc (.int .i64 p3)] (hp h [(some p0K, .obj 30 ([.sc (.int .i64 p0.Seq), aw g_Snaps.t g_Snaps.n g_Snaps.cap, aw g_Chunks.t g_Chunks.n g_Chunks.cap, aw g_Exps.t g_Exps.n g_Exps.cap, aw g_Vols.t g_Vols.n g_Vols.cap])), (g_Snaps.t, .obj 60 (fl c_Snap (p0.Snaps : List TSnap) g_Snaps.sp)), (g_Chunks.t, .obj 44 (fl c_Chunk (p0.Chunks : List TChunk) g_Chunks.sp)), (g_Exps.t, .obj 99 (fl c_Exp (p0.Exps : List TExp) g_Exps.sp)), (g_Vols.t, .obj 49 (fl c_Vol (p0.Vols : List TVol) g_Vols.sp))]) (fun r h' => HOk h [(some p0K, .obj 30 ([.sc (.int .i64 p0.Seq), aw g_Snaps.t g_Snaps.n g_Snaps.cap, aw g_Chunks.t g_Chunks.n g_Chunks.cap, aw g_Exps.t g_Exps.n g_Exps.cap, aw g_Vols.t g_Vols.n g_Vols.cap])), (g_Snaps.t, .obj 60 (fl c_Snap (p0.Snaps : List TSnap) g_Snaps.sp)), (g_Chunks.t, .obj 44 (fl c_Chunk (p0.Chunks : List TChunk) g_Chunks.sp)), (g_Exps.t, .obj 99 (fl c_Exp (p0.Exps : List TExp) g_Exps.sp)), (g_Vols.t, .obj 49 (fl c_Vol (p0.Vols : List TVol) g_Vols.sp))] ∧ r = .sc (.bool o) ∧ h' = hp h [(some p0K, .obj 30 ([.sc (.int .i64 p0.Seq), aw g_Snaps.t g_Snaps.n g_Snaps.cap, aw g_Chunks.t g_Chunks.n g_Chunks.cap, aw g_Exps.t g_Exps.n g_Exps.cap, aw g_Vols.t g_Vols.n g_Vols.cap])), (g_Snaps.t, .obj 60 (fl c_Snap (p0.Snaps : List TSnap) g_Snaps.sp)), (g_Chunks.t, .obj 44 (fl c_Chunk (p0.Chunks : List TChunk) g_Chunks.sp)), (g_Exps.t, .obj 99 (fl c_Exp (p0.Exps : List TExp) g_Exps.sp)), (g_Vols.t, .obj 49 (fl c_Vol (p0.Vols : List TVol) g_Vols.sp))]) := by
 refine ACp hk0 44 [.tmp 8] Tryz.func155 rfl rfl rfl rfl ?_
 unfold M155 at hm
 refine vs (v0 (vs ?_))
 refine vjnH hm (σ := Bool) (τ := Unit) (fun g s => [(some p0K, .obj 30 ([.sc (.int .i64 p0.Seq), aw g_Snaps.t g_Snaps.n g_Snaps.cap, aw g_Chunks.t g_Chunks.n g_Chunks.cap, aw g_Exps.t g_Exps.n g_Exps.cap, aw g_Vols.t g_Vols.n g_Vols.cap])), (g_Snaps.t, .obj 60 (fl c_Snap (p0.Snaps : List TSnap) g_Snaps.sp)), (g_Chunks.t, .obj 44 (fl c_Chunk (p0.Chunks : List TChunk) g_Chunks.sp)), (g_Exps.t, .obj 99 (fl c_Exp (p0.Exps : List TExp) g_Exps.sp)), (g_Vols.t, .obj 49 (fl c_Vol (p0.Vols : List TVol) g_Vols.sp))]) (fun g s => .c 8 (.sc (.bool s)) .nil) (fun x hm => ?_) ?_
 refine v0 ?_
 refine vi hm (fun hb0 hm => ?_) fun hb0 hm => ?_
 rw [hb0]
 refine vn (fun _ => o_nil rfl) (vn (fun _ => Zh fd30_4 rfl rfl) (vl 0 (aw g_Vols.t g_Vols.n g_Vols.cap) ld28 rfl rfl rfl (vn (fun _ => o_lenA ln28 ok_Vols rfl) ?_)))
 refine vi hm (fun hb1 hm => ?_) fun hb1 hm => ?_
 rw [hb1]
 refine vn (fun _ => o_nil rfl) (vn (fun _ => Zh fd30_4 rfl rfl) (vl 0 (aw g_Vols.t g_Vols.n g_Vols.cap) ld28 rfl rfl rfl ?_))
 obtain ⟨x0, hx0, hm⟩ := Zc hm
 refine vn (fun _ => o_ixA hx0 el28 ok_Vols rfl rfl) (vn (fun _ => o_flA (AOk.ne ok_Vols hx0) fd49_2 rfl rfl) (vn (fun hk => o_ldA (fo := 2) (.sc (.int .i64 x0.State)) hx0 cz_Vol ok_Vols ld3 rfl (hp_at 4 hk rfl) (fun _ => rfl)) ?_))
 refine vi hm (fun hb2 hm => ?_) fun hb2 hm => ?_
 rw [hb2]
 exact vgo hm () trivial (lx (.cons (ALe.refl _ _) .nil))
 rw [hb2]
 refine vn (fun _ => o_nil rfl) (vn (fun _ => Zh fd30_4 rfl rfl) (vl 0 (aw g_Vols.t g_Vols.n g_Vols.cap) ld28 rfl rfl rfl ?_))
 obtain ⟨x1, hx1, hm⟩ := Zc hm
 refine vn (fun _ => o_ixA hx1 el28 ok_Vols rfl rfl) (vn (fun _ => o_flA (AOk.ne ok_Vols hx1) fd49_2 rfl rfl) (vn (fun hk => o_ldA (fo := 2) (.sc (.int .i64 x1.State)) hx1 cz_Vol ok_Vols ld3 rfl (hp_at 4 hk rfl) (fun _ => rfl)) ?_))
 exact vgo hm () trivial (lx (.cons (ALe.refl _ _) .nil))
 rw [hb1]
 exact vgo hm () trivial (lx (.cons (ALe.refl _ _) .nil))
 rw [hb0]
 exact vgo hm () trivial (lx (.cons (ALe.refl _ _) .nil))
 rintro _ j0 hm
 refine v0 ?_
 injection hm with hm; subst hm
 exact vr fun hk => Ret.of1 (.inl rfl) (rsT _ _ (.sc (.bool _)) rfl) (hp_pick hk [0, 1, 2, 3, 4] rfl).2 (ALe.refl _ _) ⟨(hp_pick hk [0, 1, 2, 3, 4] rfl).1, rfl, rfl⟩
theorem bd155 : bodied Tryz.prog 155 = true := by kernel_rfl
def M153a_L0 (fuel : Nat) (p0 : List TChunk) (p1 : TChunk) (q0 : Int) : Option (Lp (Int) ((List TChunk))) :=
 after (if (decide (q0 < (p0.length : Int))) = true then ((ix p0 q0).bind fun x0 => (M147 fuel x0.Id p1.Id).bind fun y0 => some (.brk y0)) else some (.brk false) : Option (Lp (Bool) (Lp (Int) ((List TChunk))))) fun j0 => if j0 = true then (some (.go (IntKind.wrap .i64 (q0 + 1)))) else some (.brk q0)
def M153a (fuel : Nat) (p0 : List TChunk) (p1 : TChunk) : Option ((List TChunk)) :=
 after (loopM (fun s => M153a_L0 fuel p0 p1 s) fuel 0) fun r0 => after (if (decide (r0 < (p0.length : Int))) = true then ((ix p0 r0).bind fun x0 => some (.brk (decide (x0.Id = p1.Id)))) else some (.brk false) : Option (Lp (Bool) ((List TChunk)))) fun j0 => if j0 = true then ((M152a fuel p0).bind fun y0 => (M141 fuel p1.Data).bind fun y1 => (ix y0 r0).bind fun x1 => (ix (y0.set r0.toNat ({ x1 with Staged := true })) r0).bind fun x2 => some ((y0.set r0.toNat ({ x1 with Staged := true })).set r0.toNat ({ x2 with Data := y1 }))) else (slc p0 0 r0).bind fun x3 => (app ([] : List TChunk) x3).bind fun z0 => (app z0 ([p1] : List TChunk)).bind fun z1 => (slc p0 r0 (p0).length).bind fun x4 => (app z1 x4).bind fun z2 => some z2
set_option maxHeartbeats 4000000 in
set_option maxRecDepth 100000 in
theorem W153a {fuel : Nat} {p0 : List TChunk} {p1 : TChunk} {o : (List TChunk)} (h : Heap) (hm : M153a fuel p0 p1 = some o) :
 ACalls Tryz.prog 153 [.sl none 35 (List.map c_Chunk p0), .agg (c_Chunk p1)] h (fun r h' => ∃ g : AGh, AOk g 35 o.length ∧ HOk h [(g.t, .obj 44 (fl c_Chunk o g.sp))] ∧ r = aw g.t g.n g.cap ∧ h' = hp h [(g.t, .obj 44 (fl c_Chunk o g.sp))]) := by
 refine ACv 65 [.tmp 4] Tryz.func153 rfl rfl rfl rfl ?_
 unfold M153a at hm
 refine vs (v0 ?_)
 refine ve fun hk => a_box hk rfl rfl fun k2 hk3 => qk hk3 rfl ?_
 refine vs (v0 (vs ?_))
 refine vlpH hm (σ := Int) (τ := Unit) (fun g s => [(some k2, .obj 44 (c_Chunk p1))]) (fun g s => .c 0 (.sl none 35 (List.map c_Chunk p0)) (.c 3 (.ptr k2 0) (.c 5 (.sc (.int .i64 s)) .nil))) () (lx (.k3 .nil)) ?_ ?_
 rintro _ q0 x hm
 replace hm : M153a_L0 fuel p0 p1 q0 = some x := hm
 unfold M153a_L0 at hm
 refine vs (vs ?_)
 refine vjnH hm (σ := Bool) (τ := Unit) (fun g s => [(some k2, .obj 44 (c_Chunk p1))]) (fun g s => .c 0 (.sl none 35 (List.map c_Chunk p0)) (.c 3 (.ptr k2 0) (.c 5 (.sc (.int .i64 q0)) (.c 21 (.sc (.bool s)) .nil)))) (fun x hm => ?_) ?_
 refine v0 (vq0 (by kernel_rfl) (vln ln26 rfl ?_))
 refine vi hm (fun hb0 hm => ?_) fun hb0 hm => ?_
 rw [hb0]
 refine vx hm el26 rfl rfl fun x0 _ hm => ?_
 refine vn (fun _ => o_fl fd44_0 rfl rfl) (va (.agg (c_id x0.Id)) ld36 rfl rfl (vn (fun _ => Zh fd44_0 rfl rfl) (vl 0 (.agg (c_id p1.Id)) ld36 rfl rfl rfl ?_)))
 refine vk W147 bd147 hm rfl rfl fun _ hm => ?_
 exact vgo hm () trivial (lx (.k4 .nil))
 rw [hb0]
 exact vgo hm () trivial (lx (.k4 .nil))
 rintro _ j0 hm
 refine v0 ?_
 refine vi hm (fun hc0 hm => ?_) fun hc0 hm => ?_
 refine v0 (v0 (v0 ?_))
 exact vgo hm () trivial (lx (.k3 .nil))
 refine v0 ?_
 exact vbk hm () trivial (lx (.k3 .nil))
 rintro _ r0 hm
 refine vs (vs ?_)
 refine vjnH hm (σ := Bool) (τ := Unit) (fun g s => [(some k2, .obj 44 (c_Chunk p1))]) (fun g s => .c 0 (.sl none 35 (List.map c_Chunk p0)) (.c 3 (.ptr k2 0) (.c 5 (.sc (.int .i64 r0)) (.c 37 (.sc (.bool s)) .nil)))) (fun x hm => ?_) ?_
 refine v0 (vq0 (by kernel_rfl) (vln ln26 rfl ?_))
 refine vi hm (fun hb1 hm => ?_) fun hb1 hm => ?_
 rw [hb1]
 refine vx hm el26 rfl rfl fun x1 _ hm => ?_
 refine vn (fun _ => o_fl fd44_0 rfl rfl) (va (.agg (c_id x1.Id)) ld36 rfl rfl (vn (fun _ => Zh fd44_0 rfl rfl) (vl 0 (.agg (c_id p1.Id)) ld36 rfl rfl rfl (vn (fun _ => o_ide eg36 u36 u5 ld5 rfl rfl) ?_))))
 exact vgo hm () trivial (lx (.k4 .nil))
 rw [hb1]
 exact vgo hm () trivial (lx (.k4 .nil))
 rintro _ j1 hm
 refine v0 ?_
 refine vi hm (fun hc1 hm => ?_) fun hc1 hm => ?_
 refine vs (v0 ?_)
 obtain ⟨y0, hy0, hm⟩ := Zc hm
 refine ve fun hk => a_call (W152a _ hy0) rfl bd152 rfl ?_
 rintro x h' ⟨ag0, ok0, hk0, rfl, rfl⟩
 refine qk (HOk.co hk hk0) (hp_cat _ _ _) ?_
 refine vs (v0 (vn (fun _ => Zh fd44_2 rfl rfl) (vl 1 _ ld41 rfl rfl rfl ?_)))
 refine vk W141 bd141 hm rfl rfl fun y1 hm => ?_
 obtain ⟨x2, hx0, hm⟩ := Zc hm
 refine vn (fun _ => o_ixA hx0 el26 ok0 rfl rfl) (vn (fun _ => o_flA (AOk.ne ok0 hx0) fd44_1 rfl rfl) ?_)
 refine ve fun hk => a_storeA (fo := 32) ({ x2 with Staged := true } : TChunk) 0 hk hx0 cz_Chunk ok0 rfl rfl rfl rfl (ALeL.refl _ _) sz4 rfl rfl fun hk1 => qk hk1 rfl ?_
 obtain ⟨x3, hx1, hm⟩ := Zc hm
 refine vn (fun _ => o_ixA hx1 el26 (AOk.set ok0) rfl rfl) (vn (fun _ => o_flA (AOk.ne (AOk.set ok0) hx1) fd44_2 rfl rfl) ?_)
 refine ve fun hk => a_storeA (fo := 33) ({ x3 with Data := y1 } : TChunk) 0 hk hx1 cz_Chunk (AOk.set ok0) rfl rfl rfl rfl (ALeL.refl _ _) sz41 rfl rfl fun hk2 => qk hk2 rfl ?_
 refine vs (v0 (v0 ?_))
 cases hm
 exact vr fun hk => Ret.one (.inl rfl) (hp_sub (h0 := h) (L' := [(ag0.t, .obj 44 (fl c_Chunk ((y0.set r0.toNat ({ x2 with Staged := true })).set r0.toNat ({ x3 with Data := y1 }) : List TChunk) ag0.sp))]) (.cons_cons _ (.cons _ (.refl _))) hk).1 (ALe.refl _ _) ⟨ag0, (AOk.set (AOk.set ok0)), (hp_sub (h0 := h) (L' := [(ag0.t, .obj 44 (fl c_Chunk ((y0.set r0.toNat ({ x2 with Staged := true })).set r0.toNat ({ x3 with Data := y1 }) : List TChunk) ag0.sp))]) (.cons_cons _ (.cons _ (.refl _))) hk).2, rfl, rfl⟩
 refine v0 (vs (v0 (vs (v0 ?_))))
 refine vz [(1000000, some k2, .obj 44 (c_Chunk p1))] mixed (fun hk => ⟨fun _ => hp_at 0 hk rfl, trivial⟩) fun hk => ?_
 refine z_w 0 rfl (fun S' h' hi hB => o_mv (.sc (.slice _ _ _)) rfl) ?_
 refine z_w 1 rfl (fun S' h' hi hB => o_mv (.sl _ _ _) rfl) ?_
 refine z_w 2 rfl (fun S' h' hi hB => o_mv (.sc (.int _ _)) rfl) ?_
 obtain ⟨_, hx2, hm⟩ := Zc hm
 refine z_w 3 rfl (fun S' h' hi hB => o_slc hx2 el26 rfl rfl rfl rfl) ?_
 refine z_w 5 rfl (fun S' h' hi hB => Zg (.agg (c_Chunk p1)) ld44 rfl (At.s (InvL.get 0 hi rfl (hB 1000000 (by kernel_rfl)))) rfl) ?_
 refine z_w 6 rfl (fun S' h' hi hB => o_lit (List.map c_Chunk ([p1] : List TChunk)) et26 rfl rfl rfl rfl) ?_
 obtain ⟨z0, hz0, hm⟩ := Zc hm
 refine z_e 4 rfl (by kernel_rfl) (a_appA0 (c := c_Chunk) hz0 et26 rfl zr44 rfl cz_Chunk rfl hk rfl fun ag1 ok1 hk4 => ⟨⟨fun _ => hp_at 1 hk4 rfl, trivial⟩, ?_⟩)
 obtain ⟨z1, hz1, hm⟩ := Zc hm
 refine z_e 7 rfl (by kernel_rfl) (a_appA (c := c_Chunk) 0 hz1 et26 rfl zr44 rfl cz_Chunk rfl rfl ok1 hk4 rfl fun ag2 ok2 hk5 => ⟨⟨fun _ => hp_at 1 hk5 rfl, trivial⟩, ?_⟩)
 refine z_w 8 rfl (fun S' h' hi hB => o_as (aw _ _ _) rfl) ?_
 refine z_nil (by kernel_rfl) (qk (f := .c 7 _ (.c 59 _ (.c 56 _ (.c 58 _ (.c 57 _ (.c 55 _ (.c 54 _ (.c 53 _ (.c 52 _ _))))))))) hk5 rfl ?_)
 refine vs (v0 ?_)
 obtain ⟨_, hx3, hm⟩ := Zc hm
 refine vn (fun _ => o_slc hx3 el26 rfl rfl rfl rfl) ?_
 obtain ⟨z2, hz2, hm⟩ := Zc hm
 refine ve fun hk => a_appA (c := c_Chunk) 0 hz2 et26 rfl zr44 rfl cz_Chunk rfl rfl ok2 hk rfl fun ag3 ok3 hk6 => qk hk6 rfl ?_
 refine v0 ?_
 injection hm with hm; subst hm
 exact vr fun hk => Ret.one (.inl rfl) (hp_sub (h0 := h) (L' := [(ag3.t, .obj 44 (fl c_Chunk (z2 : List TChunk) ag3.sp))]) (.cons_cons _ (.cons _ (.refl _))) hk).1 (ALe.refl _ _) ⟨ag3, ok3, (hp_sub (h0 := h) (L' := [(ag3.t, .obj 44 (fl c_Chunk (z2 : List TChunk) ag3.sp))]) (.cons_cons _ (.cons _ (.refl _))) hk).2, rfl, rfl⟩
theorem bd153 : bodied Tryz.prog 153 = true := by kernel_rfl
end Go.Proofs.YtoomgangpjcaoaaGreat
