/-
  'pv' is what the model does.
-/
import Derived.Test.YtafflcbcpbgloaaQ7VmE
namespace Go.Vm

section
variable {P : Program} {E : Env} {w : World} {h : Heap}

theorem VR_int {k : IntKind} {n : Int} {v : Value} (hv : VR E w (.sc (.int k n)) v) : v = .int k n := by simpa only [VR] using hv
theorem intA_spec {x : AV} {n : Int} (hx : intA x = some n) : ∃ k, x = .sc (.int k n) := by
  unfold intA at hx; split at hx
  · cases hx; exact ⟨_, rfl⟩
  · cases hx

theorem elS_spec {t : TypeId} {s : Nat} (he : elS P t = some s) : ∃ e, P.underlying t = some (.slice e) ∧ tSz P e = some s := by
  simp only [elS, Option.bind_eq_some_iff] at he
  obtain ⟨e, h1, h2⟩ := he
  exact ⟨e, tEl_spec h1, h2⟩
theorem arS_spec {t : TypeId} {n s : Nat} (he : arS P t = some (n, s)) : ∃ e, P.underlying t = some (.array n e) ∧ tSz P e = some s := by
  simp only [arS, Option.bind_eq_some_iff, Option.map_eq_some_iff, Prod.mk.injEq] at he
  obtain ⟨⟨m, e⟩, h1, s', h2, rfl, rfl⟩ := he
  exact ⟨e, tArr_spec h1, h2⟩
theorem fdS_spec {t : TypeId} {f o s : Nat} (he : fdS P t f = some (o, s)) : ∃ fs fd, P.underlying t = some (.struct fs) ∧ fs[f]? = some fd ∧ fd.offset = o ∧ tSz P fd.type = some s := by
  simp only [fdS, Option.bind_eq_some_iff, Option.map_eq_some_iff, Prod.mk.injEq] at he
  obtain ⟨⟨m, e⟩, h1, s', h2, rfl, rfl⟩ := he
  obtain ⟨fs, fd, a1, a2, a3, a4⟩ := tFld_spec h1
  exact ⟨fs, fd, a1, a2, a3, by rw [a4]; exact h2⟩
theorem ldT_spec {t : TypeId} {a : Bool} {n : Nat} (he : ldT P t = some (a, n)) : tAgg P t = some a ∧ tSz P t = some n := by
  simp only [ldT, Option.bind_eq_some_iff, Option.map_eq_some_iff, Prod.mk.injEq] at he
  obtain ⟨a', h1, s', h2, rfl, rfl⟩ := he
  exact ⟨h1, h2⟩

theorem ixA_sound {t : TypeId} {n : Int} {k : IntKind} {x y : AV} {c : Prop} (hx : ixA n (elS P t) (arS P t) x = some (c, y)) (hc : c) {v : Value} (hv : VR E w x v) :
    ∃ u, (Instr.indexAt t v (.int k n)).run P w = .ok u w ∧ VR E w y u := by
  cases x with
  | sl tag sz xs =>
    simp only [ixA, Option.bind_eq_some_iff, Option.some.injEq, Prod.mk.injEq] at hx
    obtain ⟨s, hs, rfl, rfl⟩ := hx
    obtain ⟨e, hu, he⟩ := elS_spec hs
    obtain ⟨⟨hss, h0⟩, h1⟩ := hc
    subst hss
    simp only [VR] at hv
    obtain ⟨a, cap, rfl, _, _, h3, h4, _⟩ := hv
    have hne : xs ≠ [] := by intro e; subst e; simp at h1; omega
    obtain ⟨g, o, rfl, h5⟩ := h3.resolve_left hne
    have hi : n.toNat < xs.length := by omega
    refine ⟨.pointer (some ⟨g, o + n.toNat * sz, none⟩), ?_, ?_⟩
    · simp [Instr.indexAt, run_underlying hu, asIntOf, run_sizeOf' he, h0, h1, Addr.add_lit]
    · simp only [VR]
      exact ⟨g, _, rfl, VRG_get h4 h5 _ hi⟩
  | view key off len =>
    simp only [ixA, Option.bind_eq_some_iff, Option.some.injEq, Prod.mk.injEq] at hx
    obtain ⟨s, hs, rfl, rfl⟩ := hx
    obtain ⟨e, hu, he⟩ := elS_spec hs
    obtain ⟨h0, h1⟩ := hc
    simp only [VR] at hv
    obtain ⟨g, cap, h2, rfl, _⟩ := hv
    refine ⟨.pointer (some ⟨g, off + n.toNat * s, none⟩), ?_, ?_⟩
    · simp [Instr.indexAt, run_underlying hu, asIntOf, run_sizeOf' he, h0, h1, Addr.add_lit]
    · simp only [VR]
      exact ⟨g, h2, rfl⟩
  | ptr key off =>
    simp only [ixA, Option.bind_eq_some_iff, Option.some.injEq, Prod.mk.injEq] at hx
    obtain ⟨⟨len, s⟩, hs, rfl, rfl⟩ := hx
    obtain ⟨e, hu, he⟩ := arS_spec hs
    obtain ⟨h0, h1⟩ := hc
    simp only [VR] at hv
    obtain ⟨g, h2, rfl⟩ := hv
    refine ⟨.pointer (some ⟨g, off + n.toNat * s, none⟩), ?_, ?_⟩
    · simp only at h1
      simp [Instr.indexAt, Instr.sureAddr, run_underlying hu, asIntOf, run_sizeOf' he, h0, h1, Addr.add_lit]
    · simp only [VR]
      exact ⟨g, h2, rfl⟩
  | rp tag cs =>
    simp only [ixA, Option.bind_eq_some_iff, Option.some.injEq, Prod.mk.injEq] at hx
    obtain ⟨⟨len, s⟩, hs, rfl, rfl⟩ := hx
    obtain ⟨e, hu, he⟩ := arS_spec hs
    obtain ⟨h0, h1⟩ := hc
    simp only [VR] at hv
    obtain ⟨g, o, rfl, h2⟩ := hv
    refine ⟨.pointer (some ⟨g, o + n.toNat * s, none⟩), ?_, ?_⟩
    · simp only at h1
      simp [Instr.indexAt, Instr.sureAddr, run_underlying hu, asIntOf, run_sizeOf' he, h0, h1, Addr.add_lit]
    · simp only [VR]
      exact ⟨g, _, rfl, VRM_drop _ h2⟩
  | _ => simp [ixA] at hx

theorem VRG_split {tag : Option Key} {g : Nat} : ∀ {o : Nat} {xs ys : List (List AV)}, VRG E w tag g o (xs ++ ys) ↔ VRG E w tag g o xs ∧ VRG E w tag g (o + xs.flatten.length) ys
  | o, [], ys => by simp [VRG]
  | o, x :: xs, ys => by
    simp only [List.cons_append, VRG, VRG_split (xs := xs), List.flatten_cons, List.length_append, and_assoc]
    rw [show o + x.length + xs.flatten.length = o + (x.length + xs.flatten.length) from by omega]
theorem flatten_length {sz : Nat} : ∀ {xs : List (List AV)}, (∀ x ∈ xs, x.length = sz) → xs.flatten.length = xs.length * sz
  | [], _ => by simp
  | x :: xs, h => by
    rw [List.flatten_cons, List.length_append, flatten_length fun y hy => h y (by simp [hy]), h x (by simp), List.length_cons, Nat.add_mul]
    omega
theorem VRG_sub {tag : Option Key} {g sz o : Nat} {xs : List (List AV)} (hs : ∀ x ∈ xs, x.length = sz) (hv : VRG E w tag g o xs) (l h : Nat) (hl : l ≤ xs.length) : VRG E w tag g (o + l * sz) ((xs.take h).drop l) := by
  have e : xs = xs.take l ++ xs.drop l := (List.take_append_drop l xs).symm
  rw [e, VRG_split] at hv
  have hlen : (xs.take l).flatten.length = l * sz := by
    rw [flatten_length fun x hx => hs x (List.mem_of_mem_take hx), List.length_take, Nat.min_eq_left hl]
  rw [hlen] at hv
  have h2 := hv.2
  rw [List.drop_take]
  rw [← List.take_append_drop (h - l) (xs.drop l), VRG_split] at h2
  exact h2.1

theorem bdA_spec {d : Int} {x : Option AV} {n : Int} (hx : bdA d x = some n) : (x = none ∧ n = d) ∨ ∃ k, x = some (.sc (.int k n)) := by
  cases x with
  | none => simp [bdA] at hx; exact .inl ⟨rfl, hx.symm⟩
  | some y =>
    obtain ⟨k, e⟩ := intA_spec (x := y) (by simpa [bdA] using hx)
    exact .inr ⟨k, by rw [e]⟩

theorem run_bounds {sl : Bool} {len cap : Nat} {l h : Int} {lo hi : Option AV} {lv hv : Option Value} (hlo : bdA 0 lo = some l) (hhi : bdA len hi = some h)
    (rl : ∀ x, lo = some x → ∃ v, lv = some v ∧ VR E w x v) (rl' : lo = none → lv = none) (rh : ∀ x, hi = some x → ∃ v, hv = some v ∧ VR E w x v) (rh' : hi = none → hv = none)
    (h0 : 0 ≤ l) (h1 : l ≤ h) (h2 : h ≤ cap) : (Instr.sliceBounds sl len cap lv hv none).run P w = .ok (l.toNat, h.toNat, cap) w := by
  have eh : (h.toNat : Int) = h := Int.toNat_of_nonneg (by omega)
  rcases bdA_spec hlo with ⟨rfl, rfl⟩ | ⟨k, rfl⟩ <;> rcases bdA_spec hhi with ⟨rfl, e⟩ | ⟨k', rfl⟩
  · rw [rl' rfl, rh' rfl]
    simp [Instr.sliceBounds, e]
  · obtain ⟨v, rfl, hv⟩ := rh _ rfl
    simp only [VR] at hv; subst hv
    rw [rl' rfl]
    simp [Instr.sliceBounds, run_sliceBound, h1, h2]
  · obtain ⟨v, rfl, hv⟩ := rl _ rfl
    simp only [VR] at hv; subst hv
    rw [rh' rfl]
    subst e
    simp [Instr.sliceBounds, run_sliceBound, h0, h1]
  · obtain ⟨v, rfl, hv⟩ := rl _ rfl
    obtain ⟨v', rfl, hv'⟩ := rh _ rfl
    simp only [VR] at hv hv'; subst hv hv'
    simp [Instr.sliceBounds, run_sliceBound, h0, h1, h2, eh, show 0 ≤ h from by omega]

theorem slA_sound {t : TypeId} {lo hi : Option AV} {x y : AV} {c : Prop} (hx : slA lo hi (elS P t) (arS P t) x = some (c, y)) (ht : slT P t = true) (hc : c) {v : Value} (hv : VR E w x v) {lv hv' : Option Value}
    (rl : ∀ x, lo = some x → ∃ v, lv = some v ∧ VR E w x v) (rl' : lo = none → lv = none) (rh : ∀ x, hi = some x → ∃ v, hv' = some v ∧ VR E w x v) (rh' : hi = none → hv' = none) :
    ∃ u, (Instr.sliceAt t v lv hv' none).run P w = .ok u w ∧ VR E w y u := by
  cases x with
  | sl tag sz xs =>
    simp only [slA, Option.bind_eq_some_iff, Option.some.injEq, Prod.mk.injEq] at hx
    obtain ⟨s, hs, l, hl, h, hh, rfl, rfl⟩ := hx
    obtain ⟨e, hu, he⟩ := elS_spec hs
    obtain ⟨⟨rfl, hspos⟩, h0, h1, h2⟩ := hc
    simp only [VR] at hv
    obtain ⟨a, cap, rfl, hc1, hc2, h3, h4, h5⟩ := hv
    have hb := run_bounds (P := P) (sl := true) (cap := cap) hl hh rl rl' rh rh' h0 h1 (by omega)
    have hlen : ((xs.take h.toNat).drop l.toNat).length = h.toNat - l.toNat := by rw [List.length_drop, List.length_take]; omega
    refine ⟨.slice (if cap = l.toNat then a else a.map (·.add (l.toNat * sz))) (h.toNat - l.toNat) (cap - l.toNat), ?_, ?_⟩
    · simp [Instr.sliceAt, Instr.slice, run_underlying hu, hb, run_sizeOf' he]
    · simp only [VR]
      refine ⟨_, _, by rw [hlen], by rw [hlen]; omega, by omega, ?_, fun z hz => h4 z (List.mem_of_mem_take (List.mem_of_mem_drop hz)), ?_⟩
      · by_cases hn : (xs.take h.toNat).drop l.toNat = []
        · exact .inl hn
        · have hpos : 0 < h.toNat - l.toNat := by
            rw [← hlen]; exact List.length_pos_iff.2 hn
          have hxs : xs ≠ [] := by intro e; subst e; simp at hn
          obtain ⟨g, o, rfl, h6⟩ := h3.resolve_left hxs
          refine .inr ⟨g, o + l.toNat * sz, ?_, VRG_sub h4 h6 _ _ (by omega)⟩
          rw [if_neg (by omega)]
          simp [Addr.add_lit]
      · intro k hk
        obtain ⟨hu', ht'⟩ := h5 k hk
        refine ⟨hu', fun t ht => ?_⟩
        obtain ⟨f1, f2⟩ := ht' t ht
        rw [hlen]
        have hle : (h.toNat - l.toNat) * sz ≤ xs.length * sz := Nat.mul_le_mul_right _ (by omega)
        refine ⟨by omega, fun e => ?_⟩
        have e1 : xs.length * sz = t.m := by omega
        obtain ⟨g1, g2, g3⟩ := f2 e1
        · have hz := hspos
          have : h.toNat - l.toNat = xs.length := Nat.eq_of_mul_eq_mul_right hz (by omega)
          have hl0 : l.toNat = 0 := by omega
          rw [hl0]
          refine ⟨?_, by omega, g3⟩
          rw [g1]
          split <;> simp [Addr.add_lit]
  | view key off len =>
    simp only [slA, Option.bind_eq_some_iff, Option.some.injEq, Prod.mk.injEq] at hx
    obtain ⟨s, hs, l, hl, h, hh, rfl, rfl⟩ := hx
    obtain ⟨e, hu, he⟩ := elS_spec hs
    obtain ⟨h0, h1, h2⟩ := hc
    simp only [VR] at hv
    obtain ⟨g, cap, h3, rfl, hc1, hc2⟩ := hv
    have hb := run_bounds (P := P) (sl := true) (cap := cap) hl hh rl rl' rh rh' h0 (by omega) (by omega)
    refine ⟨.slice (some ⟨g, off + l.toNat * s, none⟩) (h.toNat - l.toNat) (cap - l.toNat), ?_, ?_⟩
    · have : ¬ cap = l.toNat := by omega
      simp [Instr.sliceAt, Instr.slice, run_underlying hu, hb, run_sizeOf' he, this, Addr.add_lit]
    · simp only [VR]
      exact ⟨g, _, h3, rfl, by omega, by omega⟩
  | ptr key off =>
    simp only [slA, Option.bind_eq_some_iff, Option.some.injEq, Prod.mk.injEq] at hx
    obtain ⟨⟨len, s⟩, hs, l, hl, h, hh, rfl, rfl⟩ := hx
    obtain ⟨e, hu, he⟩ := arS_spec hs
    obtain ⟨hn, h0, h1, h2⟩ := hc
    simp only at hl hh hn h2
    simp only [VR] at hv
    obtain ⟨g, h3, rfl⟩ := hv
    have hb := run_bounds (P := P) (sl := false) (cap := len) hl hh rl rl' rh rh' h0 (by omega) (by omega)
    refine ⟨.slice (some ⟨g, off + l.toNat * s, none⟩) (h.toNat - l.toNat) (len - l.toNat), ?_, ?_⟩
    · have : ¬ len = l.toNat := by omega
      simp [Instr.sliceAt, Instr.sureAddr, run_underlying hu, hb, run_sizeOf' he, this, Addr.add_lit]
    · simp only [VR]
      exact ⟨g, _, h3, rfl, by omega, by simp only [maxLen]; omega⟩
  | rp tag cs =>
    cases tag with
    | some k => simp [slA] at hx
    | none =>
    simp only [slA, Option.bind_eq_some_iff, Option.some.injEq, Prod.mk.injEq] at hx
    obtain ⟨⟨len, s⟩, hs, l, hl, h, hh, rfl, rfl⟩ := hx
    obtain ⟨e, hu, he⟩ := arS_spec hs
    obtain ⟨⟨hs1, hn, hcs⟩, h0, h1, h2⟩ := hc
    simp only at hl hh hn h2 hs1 hcs
    subst hs1
    simp only [VR] at hv
    obtain ⟨g, o, rfl, h3⟩ := hv
    have hb := run_bounds (P := P) (sl := false) (cap := len) hl hh rl rl' rh rh' h0 (by omega) (by omega)
    have hlen : ((cs.take h.toNat).drop l.toNat).length = h.toNat - l.toNat := by rw [List.length_drop, List.length_take]; omega
    refine ⟨.slice (some ⟨g, o + l.toNat, none⟩) (h.toNat - l.toNat) (len - l.toNat), ?_, ?_⟩
    · have : ¬ len = l.toNat := by omega
      simp [Instr.sliceAt, Instr.sureAddr, run_underlying hu, hb, run_sizeOf' he, this, Addr.add_lit]
    · simp only [VR]
      refine ⟨_, _, by rw [List.length_map, hlen], by rw [List.length_map, hlen]; omega, by simp only [maxLen]; omega, .inr ⟨g, o + l.toNat, rfl, ?_⟩, ?_, by simp⟩
      rotate_left
      · intro z hz
        obtain ⟨q, _, rfl⟩ := List.mem_map.1 hz
        rfl
      rw [VRG_flat]
      have e1 : (List.map (fun x => [x]) ((cs.take h.toNat).drop l.toNat)).flatten = (cs.take h.toNat).drop l.toNat := by
        generalize (cs.take h.toNat).drop l.toNat = q
        induction q with
        | nil => rfl
        | cons y q ih => simp [ih]
      rw [e1]
      have h4 := VRM_drop l.toNat h3
      rw [List.drop_take]
      rw [← List.take_append_drop (h.toNat - l.toNat) (cs.drop l.toNat), VRM_append] at h4
      exact h4.1
  | sc z =>
    unfold slA at hx
    split at hx <;> (try (simp only [reduceCtorEq] at hx; done))
    · rename_i hz; cases hz
    · rename_i hz; cases hz
    · rename_i hz; cases hz
    · rename_i hz; cases hz
    · rename_i hz
      cases hz
      simp only [Option.bind_eq_some_iff, Option.some.injEq, Prod.mk.injEq] at hx
      obtain ⟨s, hs, l, hl, h, hh, rfl, rfl⟩ := hx
      obtain ⟨e, hu, he⟩ := elS_spec hs
      obtain ⟨rfl, rfl⟩ := hc
      simp only [VR] at hv
      subst hv
      have hb := run_bounds (P := P) (sl := true) (len := 0) (cap := 0) (by simpa using hl) (by simpa using hh) rl rl' rh rh' (by omega) (by omega) (by omega)
      refine ⟨.slice none 0 0, ?_, by simp only [VR]⟩
      simp [Instr.sliceAt, Instr.slice, run_underlying hu, hb, run_sizeOf' he]
    · rename_i q hz
      cases hz
      split at hx
      · rename_i hn
        simp only [Option.bind_eq_some_iff, Option.some.injEq, Prod.mk.injEq] at hx
        obtain ⟨l, hl, h, hh, rfl, rfl⟩ := hx
        obtain ⟨h0, h1, h2⟩ := hc
        simp only [VR] at hv
        subst hv
        have hu : P.underlying t = some .string := by
          simp only [slT, hn.1, hn.2, Option.isSome_none, Bool.false_or, lnT] at ht
          revert ht
          cases P.underlying t with
          | none => simp
          | some d => cases d <;> simp
        have hb := run_bounds (P := P) (sl := false) (cap := q.size) hl hh rl rl' rh rh' h0 h1 h2
        refine ⟨.string (q.extract l.toNat h.toNat), ?_, by simp only [VR]⟩
        simp [Instr.sliceAt, Instr.slice, run_underlying hu, hb]
      · cases hx
    · rename_i hz; cases hz
  | e0 =>
    simp only [slA, Option.bind_eq_some_iff, Option.some.injEq, Prod.mk.injEq] at hx
    obtain ⟨s, hs, l, hl, h, hh, rfl, rfl⟩ := hx
    obtain ⟨e, hu, he⟩ := elS_spec hs
    obtain ⟨rfl, rfl⟩ := hc
    simp only [VR] at hv
    obtain ⟨a, rfl⟩ := hv
    have hb := run_bounds (P := P) (sl := true) (len := 0) (cap := 0) (by simpa using hl) (by simpa using hh) rl rl' rh rh' (by omega) (by omega) (by omega)
    refine ⟨.slice a 0 0, ?_, by simp only [VR]; exact ⟨a, rfl⟩⟩
    simp [Instr.sliceAt, Instr.slice, run_underlying hu, hb, run_sizeOf' he]
  | _ => simp [slA] at hx

theorem run_bounds3 {sl : Bool} {len cap : Nat} {l h m : Int} {lo : Option AV} {hi mi : AV} {lv : Option Value} {hv mv : Value} (hlo : bdA 0 lo = some l) (hhi : intA hi = some h) (hmi : intA mi = some m)
    (rl : ∀ x, lo = some x → ∃ v, lv = some v ∧ VR E w x v) (rl' : lo = none → lv = none) (rh : VR E w hi hv) (rm : VR E w mi mv)
    (h0 : 0 ≤ l) (h1 : l ≤ h) (h2 : h ≤ m) (h3 : m ≤ cap) : (Instr.sliceBounds sl len cap lv (some hv) (some mv)).run P w = .ok (l.toNat, h.toNat, m.toNat) w := by
  obtain ⟨k, rfl⟩ := intA_spec hhi
  obtain ⟨k', rfl⟩ := intA_spec hmi
  simp only [VR] at rh rm
  subst rh rm
  have eh : (h.toNat : Int) = h := Int.toNat_of_nonneg (by omega)
  have em : (m.toNat : Int) = m := Int.toNat_of_nonneg (by omega)
  rcases bdA_spec hlo with ⟨rfl, rfl⟩ | ⟨k, rfl⟩
  · rw [rl' rfl]
    simp [Instr.sliceBounds, run_sliceBound, h1, h2, h3, em, show 0 ≤ m from by omega]
  · obtain ⟨v, rfl, hv⟩ := rl _ rfl
    simp only [VR] at hv; subst hv
    simp [Instr.sliceBounds, run_sliceBound, h0, h1, h2, h3, eh, em, show 0 ≤ h from by omega, show 0 ≤ m from by omega]

theorem run_slice3 {t e : TypeId} {s : Nat} (hu : P.underlying t = some (.slice e)) (he : tSz P e = some s) {a : Option Addr} {len cap : Nat} {lv : Option Value} {hv mv : Value} {l h m : Nat}
    (hb : (Instr.sliceBounds true len cap lv (some hv) (some mv)).run P w = .ok (l, h, m) w) :
    (Instr.sliceAt t (.slice a len cap) lv (some hv) (some mv)).run P w = .ok (.slice (if m = l then a else a.map (·.add (l * s))) (h - l) (m - l)) w := by
  simp [Instr.sliceAt, Instr.slice, run_underlying hu, hb, run_sizeOf' he]

theorem sl3_sound {t : TypeId} {lo : Option AV} {hi mi x y : AV} {c : Prop} (hx : sl3 lo hi mi (elS P t) x = some (c, y)) (hc : c) {v : Value} (hv : VR E w x v) {lv : Option Value} {hv' mv : Value}
    (rl : ∀ x, lo = some x → ∃ v, lv = some v ∧ VR E w x v) (rl' : lo = none → lv = none) (rh : VR E w hi hv') (rm : VR E w mi mv) :
    ∃ u, (Instr.sliceAt t v lv (some hv') (some mv)).run P w = .ok u w ∧ VR E w y u := by
  cases x with
  | sl tag sz xs =>
    cases tag with
    | some k => simp [sl3] at hx
    | none =>
    simp only [sl3, Option.bind_eq_some_iff, Option.some.injEq, Prod.mk.injEq] at hx
    obtain ⟨s, hs, l, hl, h, hh, m, hm, rfl, rfl⟩ := hx
    obtain ⟨e, hu, he⟩ := elS_spec hs
    obtain ⟨⟨rfl, hspos⟩, h0, h1, h2, h2'⟩ := hc
    simp only [VR] at hv
    obtain ⟨a, cap, rfl, hc1, hc2, h3, h4, h5⟩ := hv
    have hb := run_bounds3 (P := P) (sl := true) (len := xs.length) (cap := cap) hl hh hm rl rl' rh rm h0 h1 h2 (by omega)
    have hlen : ((xs.take h.toNat).drop l.toNat).length = h.toNat - l.toNat := by rw [List.length_drop, List.length_take]; omega
    refine ⟨_, run_slice3 hu he hb, ?_⟩
    simp only [VR]
    refine ⟨_, _, by rw [hlen], by rw [hlen]; omega, by omega, ?_, fun z hz => h4 z (List.mem_of_mem_take (List.mem_of_mem_drop hz)), by simp⟩
    by_cases hn : (xs.take h.toNat).drop l.toNat = []
    · exact .inl hn
    · have hpos : 0 < h.toNat - l.toNat := by
        rw [← hlen]; exact List.length_pos_iff.2 hn
      have hxs : xs ≠ [] := by intro e; subst e; simp at hn
      obtain ⟨g, o, rfl, h6⟩ := h3.resolve_left hxs
      refine .inr ⟨g, o + l.toNat * sz, ?_, VRG_sub h4 h6 _ _ (by omega)⟩
      rw [if_neg (by omega)]
      simp [Addr.add_lit]
  | sc z =>
    unfold sl3 at hx
    split at hx <;> (try (simp only [reduceCtorEq] at hx; done))
    · rename_i hz; cases hz
    · rename_i hz
      cases hz
      simp only [Option.bind_eq_some_iff, Option.some.injEq, Prod.mk.injEq] at hx
      obtain ⟨s, hs, l, hl, h, hh, m, hm, rfl, rfl⟩ := hx
      obtain ⟨e, hu, he⟩ := elS_spec hs
      obtain ⟨rfl, rfl, rfl⟩ := hc
      simp only [VR] at hv
      subst hv
      have hb := run_bounds3 (P := P) (sl := true) (len := 0) (cap := 0) hl hh hm rl rl' rh rm (by omega) (by omega) (by omega) (by omega)
      exact ⟨_, run_slice3 hu he hb, by simp only [VR]; exact ⟨_, rfl⟩⟩
    · rename_i hz; cases hz
  | e0 =>
    simp only [sl3, Option.bind_eq_some_iff, Option.some.injEq, Prod.mk.injEq] at hx
    obtain ⟨s, hs, l, hl, h, hh, m, hm, rfl, rfl⟩ := hx
    obtain ⟨e, hu, he⟩ := elS_spec hs
    obtain ⟨rfl, rfl, rfl⟩ := hc
    simp only [VR] at hv
    obtain ⟨a, rfl⟩ := hv
    have hb := run_bounds3 (P := P) (sl := true) (len := 0) (cap := 0) hl hh hm rl rl' rh rm (by omega) (by omega) (by omega) (by omega)
    exact ⟨_, run_slice3 hu he hb, by simp only [VR]; exact ⟨_, rfl⟩⟩
  | _ => simp [sl3] at hx

theorem sl00_sound {t : TypeId} {lo : Option AV} {hi mi x y : AV} {c : Prop} (hx : sl00 lo hi mi (elS P t) x = some (c, y)) (hc : c) {v : Value} (hv : VR E w x v) {lv : Option Value} {hv' mv : Value}
    (rl : ∀ x, lo = some x → ∃ v, lv = some v ∧ VR E w x v) (rl' : lo = none → lv = none) (rh : VR E w hi hv') (rm : VR E w mi mv) :
    ∃ u, (Instr.sliceAt t v lv (some hv') (some mv)).run P w = .ok u w ∧ VR E w y u := by
  have key : ∀ a len cap, v = .slice a len cap → (((elS P t).bind fun _ => (bdA 0 lo).bind fun l => (intA hi).bind fun h => (intA mi).bind fun m => some (l = 0 ∧ h = 0 ∧ m = 0, AV.e0)) = some (c, y)) →
      ∃ u, (Instr.sliceAt t v lv (some hv') (some mv)).run P w = .ok u w ∧ VR E w y u := by
    intro a len cap e hx
    subst e
    simp only [Option.bind_eq_some_iff, Option.some.injEq, Prod.mk.injEq] at hx
    obtain ⟨s, hs, l, hl, h, hh, m, hm, rfl, rfl⟩ := hx
    obtain ⟨e, hu, he⟩ := elS_spec hs
    obtain ⟨rfl, rfl, rfl⟩ := hc
    have hb := run_bounds3 (P := P) (sl := true) (len := len) (cap := cap) hl hh hm rl rl' rh rm (by omega) (by omega) (by omega) (by omega)
    exact ⟨_, run_slice3 hu he hb, by simp only [VR]; exact ⟨_, rfl⟩⟩
  cases x with
  | sl tag sz xs =>
    simp only [VR] at hv
    obtain ⟨a, cap, e, _⟩ := hv
    exact key a _ cap e hx
  | view k off n =>
    simp only [VR] at hv
    obtain ⟨g, cap, _, e, _⟩ := hv
    exact key _ _ cap e hx
  | _ => simp [sl00] at hx

theorem slM_sound {t : TypeId} {lo : Option AV} {hi mi x y : AV} {c : Prop} (hx : slM lo hi mi (elS P t) x = some (c, y)) (hc : c) {v : Value} (hv : VR E w x v) {lv : Option Value} {hv' mv : Value}
    (rl : ∀ x, lo = some x → ∃ v, lv = some v ∧ VR E w x v) (rl' : lo = none → lv = none) (rh : VR E w hi hv') (rm : VR E w mi mv) :
    ∃ u, (Instr.sliceAt t v lv (some hv') (some mv)).run P w = .ok u w ∧ VR E w y u := by
  unfold slM at hx
  split at hx
  · split at hx
    · rename_i r hr
      cases hx
      exact sl00_sound hr hc hv rl rl' rh rm
    · exact sl3_sound hx hc hv rl rl' rh rm
  · exact sl3_sound hx hc hv rl rl' rh rm

theorem fdA_sound {t : TypeId} {f o s : Nat} {x y : AV} (hf : fdS P t f = some (o, s)) (hs : s ≠ 0) (hx : fdA o x = some y) {v : Value} (hv : VR E w x v) :
    ∃ u, (Instr.fieldAt t v f).run P w = .ok u w ∧ VR E w y u := by
  obtain ⟨fs, fd, hu, h1, rfl, h2⟩ := fdS_spec hf
  have run : ∀ g q, (Instr.fieldAt t (.pointer (some ⟨g, q, none⟩)) f).run P w = .ok (.pointer (some ⟨g, q + fd.offset, none⟩)) w := by
    intro g q
    simp [Instr.fieldAt, run_underlying hu, h1, Instr.sureAddr, fieldPlace, run_sizeOf' h2, hs, Addr.add_lit]
  cases x with
  | ptr key off =>
    simp only [fdA, Option.some.injEq] at hx; subst hx
    simp only [VR] at hv
    obtain ⟨g, h3, rfl⟩ := hv
    exact ⟨_, run g off, by simp only [VR]; exact ⟨g, h3, rfl⟩⟩
  | rp tag cs =>
    simp only [fdA, Option.some.injEq] at hx; subst hx
    simp only [VR] at hv
    obtain ⟨g, q, rfl, h3⟩ := hv
    exact ⟨_, run g q, by simp only [VR]; exact ⟨g, _, rfl, VRM_drop _ h3⟩⟩
  | _ => simp [fdA] at hx

theorem ldA_sound (r : Rel E h w) {t : TypeId} {ag : Bool} {n : Nat} {x y : AV} (ht : ldT P t = some (ag, n)) (hx : ldA h ag n x = some y) {v : Value} (hv : VR E w x v) :
    ∃ u, (Instr.loadAt t v).run P w = .ok u w ∧ VR E w y u := by
  obtain ⟨h1, h2⟩ := ldT_spec ht
  cases x with
  | rp tag cs =>
    simp only [ldA] at hx
    simp only [VR] at hv
    obtain ⟨g, o, rfl, h3⟩ := hv
    obtain ⟨cv, e1, _, e3⟩ := VRM_cells h3
    obtain ⟨u, e4, e5⟩ := run_loadVar_cells (P := P) h1 h2 e1 (fun j v hj => (e3 j v hj).1) hx
    exact ⟨u, by simp [Instr.loadAt, Instr.sureAddr, e4], e5⟩
  | ptr key off =>
    simp only [ldA] at hx
    split at hx
    · rename_i ty cs hk
      simp only [VR] at hv
      obtain ⟨g, h3, rfl⟩ := hv
      obtain ⟨g', cur, e1, e2, e3, e4⟩ := r.obj _ _ _ hk
      rw [h3] at e1; cases e1
      obtain ⟨u, e5, e6⟩ := run_loadVar_cells (P := P) (g := g) (o := off) h1 h2 (VRL_drop off e3) (fun j v hj => by
        rw [List.getElem?_drop] at hj
        simp only [World.cell?, e2]
        simpa using hj) hx
      exact ⟨u, by simp [Instr.loadAt, Instr.sureAddr, e5], e6⟩
    · cases hx
  | _ => simp [ldA] at hx

theorem VRL_map_ev {fr : Fr} {a : Act} : ∀ (l : List Operand), (∀ y ∈ l, VR E w (ev fr y) (a.eval y)) → VRL E w (l.map (ev fr)) (l.map a.eval)
  | [], _ => by simp [VRL]
  | y :: l, hl => by simp only [List.map_cons, VRL]; exact ⟨hl y (by simp), VRL_map_ev l fun z hz => hl z (by simp [hz])⟩

theorem VRL_get? : ∀ {xs : List AV} {vs : List Value} {i : Nat} {x : AV}, VRL E w xs vs → xs[i]? = some x → ∃ v, vs[i]? = some v ∧ VR E w x v
  | x :: xs, v :: vs, 0, y, h, hx => by simp only [VRL] at h; simp at hx; subst hx; exact ⟨v, by simp, h.1⟩
  | x :: xs, v :: vs, i + 1, y, h, hx => by simp only [VRL] at h; simpa using VRL_get? h.2 (by simpa using hx)
  | [], [], _, _, _, hx => by simp at hx
  | [], _ :: _, _, _, h, _ => by simp only [VRL] at h
  | _ :: _, [], _, _, h, _ => by simp only [VRL] at h
end

theorem pv_sound {P : Program} {h : Heap} {fr : Fr} {o : Oper} {c : Prop} {x : AV} (hp : pv P h fr o.op = some (c, x)) (hc : c) (E : Env) (w : World) (a : Act) (r : Rel E h w)
    (hv : ∀ y ∈ o.op.operands, VR E w (ev fr y) (a.eval y)) : ∃ v, (execOp a.eval o).run P w = .ok (.value v) w ∧ VR E w x v := by
  obtain ⟨dst, op, type, pos, after, guard⟩ := o
  simp only at hp hv ⊢
  have wrapV : ∀ (s : Sem Value) (v : Value), s.run P w = .ok v w → ((do pure (Next.value (← s))) : Sem Next).run P w = .ok (.value v) w := by
    intro s v hs; simp [hs]
  cases op <;> simp only [pv, reduceCtorEq, Option.some.injEq, Prod.mk.injEq, Option.map_eq_some_iff, Option.bind_eq_some_iff, tt] at hp <;> simp only [Op.operands, List.mem_toArray, List.mem_cons, List.not_mem_nil, or_false] at hv
  case move y => obtain ⟨rfl, rfl⟩ := hp; exact ⟨_, by simp [execOp], hv y rfl⟩
  case assign y => obtain ⟨rfl, rfl⟩ := hp; exact ⟨_, by simp [execOp], hv y rfl⟩
  case pick q y z =>
    obtain ⟨u, h1, rfl, rfl⟩ := hp
    have hq := hv q (by simp)
    generalize ev fr q = qa at h1 hq
    unfold pkA at h1
    split at h1
    · rename_i b
      cases h1
      simp only [VR] at hq
      refine ⟨if b then a.eval y else a.eval z, by simp [execOp, hq, asBool], ?_⟩
      cases b
      · exact hv z (by simp)
      · exact hv y (by simp)
    · cases h1
  case load t y =>
    obtain ⟨⟨ag, n⟩, h1, u, h2, rfl, rfl⟩ := hp
    obtain ⟨v, h3, h4⟩ := ldA_sound r h1 h2 (hv y rfl)
    exact ⟨v, wrapV _ _ h3, h4⟩
  case nilCheck y =>
    obtain ⟨u, h1, rfl, rfl⟩ := hp
    have hy := hv y rfl
    generalize ev fr y = ya at h1 hy
    unfold nilA at h1
    split at h1
    · cases h1
      have hy' := hy
      simp only [VR] at hy
      obtain ⟨g, h3, e⟩ := hy
      exact ⟨a.eval y, by simp [execOp, e], hy'⟩
    · cases h1
      have hy' := hy
      simp only [VR] at hy
      obtain ⟨g, o, e, h3⟩ := hy
      exact ⟨a.eval y, by simp [execOp, e], hy'⟩
    · cases h1
  case binOp op t y z yt =>
    obtain ⟨u, h1, rfl, rfl⟩ := hp
    exact ⟨u.2, wrapV _ _ (bv_sound (c := u.1) (r := u.2) h1 hc (hv y (by simp)) (hv z (by simp))), by simp only [VR]⟩
  case unOp op t y =>
    obtain ⟨u, h1, rfl, rfl⟩ := hp
    have hy := hv y rfl
    generalize ev fr y = ya at h1 hy
    unfold unA at h1
    split at h1
    · split at h1
      · cases h1
        simp only [VR] at hy
        exact ⟨_, wrapV _ _ (by rw [hy]; rfl), by simp only [VR]⟩
      · cases h1
    · split at h1
      · cases h1
        simp only [VR] at hy
        exact ⟨_, wrapV _ _ (by rw [hy]; rfl), by simp only [VR]⟩
      · cases h1
    · cases h1
  case convert src dst y =>
    obtain ⟨k0, h0, u, h1, rfl, rfl⟩ := hp
    have hy := hv y rfl
    generalize ev fr y = ya at h1 hy
    unfold cvA at h1
    split at h1
    · rename_i k n
      simp only [Option.map_eq_some_iff] at h1
      obtain ⟨k', h2, rfl⟩ := h1
      simp only [VR] at hy
      have hu := tInt_spec h2
      have hs := tInt_spec h0
      exact ⟨.int k' (k'.wrap n), wrapV _ _ (by rw [hy]; simp [convert, run_underlying hu, run_underlying hs, Conv.intToInt]), by simp only [VR]⟩
    · cases h1
  case makeFunc fn first caps =>
    split at hp
    · rename_i hf
      cases hp
      have : first = #[] := Array.eq_empty_of_size_eq_zero hf
      subst this
      refine ⟨.func fn #[] (caps.map a.eval), by simp [execOp, Instr.makeFunc], ?_⟩
      simp only [VR]
      exact ⟨_, rfl, by simpa using VRL_map_ev caps.toList fun y hy => hv y (by simpa using hy)⟩
    · cases hp
  case fieldAddr t y f =>
    obtain ⟨⟨o, s⟩, h1, h2⟩ := hp
    split at h2
    · cases h2
    · rename_i hs
      simp only [Option.map_eq_some_iff] at h2
      obtain ⟨u, h3, h2⟩ := h2
      cases h2
      obtain ⟨v, h4, h5⟩ := fdA_sound h1 hs h3 (hv y rfl)
      exact ⟨v, wrapV _ _ h4, h5⟩
  case indexAddr t y i =>
    obtain ⟨n, h1, h2⟩ := hp
    obtain ⟨k, e⟩ := intA_spec h1
    have hi := hv i (by simp)
    rw [e] at hi
    have hi' := VR_int hi
    obtain ⟨v, h4, h5⟩ := ixA_sound (k := k) h2 hc (hv y (by simp))
    refine ⟨v, wrapV _ _ ?_, h5⟩
    simp only [hi']
    exact h4
  case slice t y lo hi mx =>
    cases mx with
    | some m =>
      cases hi with
      | none => simp at hp
      | some hh =>
      have hops : ∀ z, z = y ∨ lo = some z ∨ z = hh ∨ z = m → VR E w (ev fr z) (a.eval z) := by
        intro z hz
        refine hv z ?_
        rcases hz with rfl | rfl | rfl | rfl <;> simp
      obtain ⟨v, h4, h5⟩ := slM_sound hp hc (hops y (.inl rfl)) (lv := lo.map a.eval)
        (fun x hx => by
          cases lo with
          | none => cases hx
          | some z => simp only [Option.map_some, Option.some.injEq] at hx; subst hx; exact ⟨_, rfl, hops z (.inr (.inl rfl))⟩)
        (fun hx => by cases lo with | none => rfl | some z => cases hx) (hops hh (by simp)) (hops m (by simp))
      exact ⟨v, wrapV _ _ h4, h5⟩
    | none =>
    simp only [Option.bind_eq_some_iff] at hp
    obtain ⟨u, h1, h2⟩ := hp
    split at h2
    · rename_i hty
      cases h2
      have hops : ∀ z, z = y ∨ lo = some z ∨ hi = some z → VR E w (ev fr z) (a.eval z) := by
        intro z hz
        refine hv z ?_
        rcases hz with rfl | rfl | rfl <;> simp
      obtain ⟨v, h4, h5⟩ := slA_sound h1 hty hc (hops y (.inl rfl)) (lv := lo.map a.eval) (hv' := hi.map a.eval)
        (fun x hx => by
          cases lo with
          | none => cases hx
          | some z => simp only [Option.map_some, Option.some.injEq] at hx; subst hx; exact ⟨_, rfl, hops z (.inr (.inl rfl))⟩)
        (fun hx => by cases lo with | none => rfl | some z => cases hx)
        (fun x hx => by
          cases hi with
          | none => cases hx
          | some z => simp only [Option.map_some, Option.some.injEq] at hx; subst hx; exact ⟨_, rfl, hops z (.inr (.inr rfl))⟩)
        (fun hx => by cases hi with | none => rfl | some z => cases hx)
      exact ⟨v, wrapV _ _ h4, h5⟩
    · cases h2
  case extract y i =>
    obtain ⟨u, h1, rfl, rfl⟩ := hp
    have hy := hv y rfl
    generalize ev fr y = ya at h1 hy
    unfold exA at h1
    split at h1
    · simp only [VR] at hy
      obtain ⟨cs, e, hc⟩ := hy
      obtain ⟨v, h3, h4⟩ := VRL_get? hc h1
      refine ⟨v, ?_, h4⟩
      have h3' : cs[i]? = some v := by simpa using h3
      simp [execOp, e, Instr.extract, h3']
    · cases h1
  case call cl =>
    obtain ⟨callee, args, argTypes⟩ := cl
    unfold pvc at hp
    split at hp
    · rename_i y t hcl ha ht
      simp only at hcl ha ht
      subst hcl
      simp only [Option.bind_eq_some_iff, Option.map_eq_some_iff, tt, Prod.mk.injEq] at hp
      obtain ⟨sl, h1, u, h2, rfl, rfl⟩ := hp
      have ha' : args = #[y] := by rw [← Array.toArray_toList (xs := args), ha]
      have ht' : argTypes = #[t] := by rw [← Array.toArray_toList (xs := argTypes), ht]
      subst ha' ht'
      have hy := hv y (by simp [Call.operands])
      generalize hy0 : ev fr y = ya at h2 hy
      have hst : (P.underlying t = some .string ∧ sl = false) ∨ (∃ e, P.underlying t = some (.slice e)) ∧ sl = true := by
        unfold lnT at h1
        split at h1
        · rename_i e he; cases h1; exact .inr ⟨⟨e, he⟩, rfl⟩
        · rename_i he; cases h1; exact .inl ⟨he, rfl⟩
        · cases h1
      have key : ∀ n : Nat, (Builtin.len_ #[t] type #[a.eval y]).run P w = .ok (.int .i64 n) w → ∃ v, (execOp a.eval { dst := dst, op := .call { callee := .builtin .len, args := #[y], argTypes := #[t] }, type := type, pos := pos, after := after, guard := guard }).run P w = .ok (.value v) w ∧ VR E w (.sc (.int .i64 n)) v := by
        intro n hn
        refine ⟨.int .i64 n, ?_, by simp only [VR]⟩
        simp [execOp, resolve, invoke, builtin, hn]
      unfold lnA at h2
      split at h2
      · split at h2
        · cases h2
          simp only [VR] at hy
          obtain ⟨q, cap, e, _⟩ := hy
          rcases hst with ⟨_, h3⟩ | ⟨⟨el, h3⟩, _⟩
          · simp_all
          · exact key _ (by simp [Builtin.len_, run_underlying h3, e, goInt])
        · cases h2
      · split at h2
        · cases h2
          simp only [VR] at hy
          obtain ⟨q, cap, _, e, _⟩ := hy
          rcases hst with ⟨_, h3⟩ | ⟨⟨el, h3⟩, _⟩
          · simp_all
          · exact key _ (by simp [Builtin.len_, run_underlying h3, e, goInt])
        · cases h2
      · split at h2
        · cases h2
        · cases h2
          have hy' := hy
          simp only [VR] at hy
          rcases hst with ⟨h3, _⟩ | ⟨_, h3⟩
          · exact key _ (by simp [Builtin.len_, run_underlying h3, hy, goInt])
          · simp_all
      · split at h2
        · cases h2
          simp only [VR] at hy
          rcases hst with ⟨_, h3⟩ | ⟨⟨el, h3⟩, _⟩
          · simp_all
          · exact key _ (by simp [Builtin.len_, run_underlying h3, hy, goInt])
        · cases h2
      · split at h2
        · cases h2
          simp only [VR] at hy
          obtain ⟨q, e⟩ := hy
          rcases hst with ⟨_, h3⟩ | ⟨⟨el, h3⟩, _⟩
          · simp_all
          · exact key 0 (by simp [Builtin.len_, run_underlying h3, e, goInt])
        · cases h2
      · cases h2
    · cases hp

end Go.Vm
