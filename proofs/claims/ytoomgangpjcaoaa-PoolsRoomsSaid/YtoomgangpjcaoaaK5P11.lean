import Derived.Test.YtoomgangpjcaoaaK5P10
set_option linter.unusedSimpArgs false
set_option linter.unusedVariables false
namespace Go.Proofs.Ytoomgangpjcaoaa
open Go.Vm
theorem tm (p : Int) {n : Int} (h0 : 0 < n) (hn : n < 1000) : 0 ≤ IntKind.wrap .i64 ((IntKind.wrap .u64 p).tmod n) ∧ IntKind.wrap .i64 ((IntKind.wrap .u64 p).tmod n) < n := by
 have h1 := wru0 p
 generalize IntKind.wrap .u64 p = a at h1
 rw [Int.tmod_eq_emod_of_nonneg h1]
 have h2 : 0 ≤ a % n := Int.emod_nonneg _ (by omega)
 have h3 : a % n < n := Int.emod_lt_of_pos _ (by omega)
 rw [wr (by omega) (by omega)]
 omega
theorem writ_pos {c : TCatalog} {p need nt st : Int} {r : List Int} {i : Nat} (hs : st ≠ 3) (h : fits c p need r nt st i = true) : ∃ x, c.Vols[i]? = some x ∧ (x.State == 3) = false ∧ 0 < writ c p := by
 obtain ⟨x, z, e1, e2, e3, e4, e5, e6⟩ := fits_at h
 refine ⟨x, e1, by simp [e5, hs], ?_⟩
 unfold writ
 refine List.length_pos_of_mem (a := x) (List.mem_filter.2 ⟨List.mem_of_getElem? e1, ?_⟩)
 simp [e3, e5, hs]
theorem found {c : TCatalog} {p need nt : Int} {r : List Int} {y : Int × Int} (h : (after (some (tgt c p need r nt)) fun _ => some ((0 : Int), (12 : Int))) = some y) :
    (∃ (i : Nat) (x : TVol) (st : Int), y = ((i : Int), 0) ∧ i < c.Vols.length ∧ (st = 2 ∨ st = 1) ∧ fits c p need r nt st i = true ∧ c.Vols[i]? = some x ∧ (x.State == 3) = false ∧ 0 < writ c p) ∨
    (y = (0, 12) ∧ ∀ j, j < c.Vols.length → fits c p need r nt 2 j = false ∧ fits c p need r nt 1 j = false) := by
  rcases tgt_cases h with ⟨i, hi, rfl, hf | ⟨hf, -⟩⟩ | hn
  · obtain ⟨x, e1, e2, e3⟩ := writ_pos (by decide) hf
    exact .inl ⟨i, x, 2, rfl, hi, .inl rfl, hf, e1, e2, e3⟩
  · obtain ⟨x, e1, e2, e3⟩ := writ_pos (by decide) hf
    exact .inl ⟨i, x, 1, rfl, hi, .inr rfl, hf, e1, e2, e3⟩
  · exact .inr hn
theorem pools_rooms {q r : List Int} {l : List TAct} {p0 p3 p5 : Int} (gq : gL gI q) (gl : gL g_Act l) : M5 1000 q l p0 p3 r p5 = some true := by
  have hF : 1000 ≤ 1000 := Nat.le_refl _
  have key : T (M5 1000 q l p0 p3 r p5) fun b => b = true := by
    unfold M5
    refine .after (.ite (fun _ => .brk (T.ite (fun _ => .some rfl) fun h => absurd rfl h)) fun _ => .bind _ (t27 hF) fun b hb => .ite (fun _ => .brk (T.ite (fun _ => .some rfl) fun h => absurd rfl h)) fun hb0 => .brk (T.ite (fun _ => .some rfl) fun _ => ?_))
    have ho := hb (by simpa using hb0)
    refine .bind _ (t29 hF gq) fun q hq => .bind _ (t28 hF hq.1 hq.2.1 hq.2.2 gl ho) fun c hc => ?_
    obtain ⟨h, hg⟩ := hc
    have hvo := h.vo
    refine .loop (fun s => 0 ≤ s.2.2.2 ∧ s.2.2.2 ≤ c.Vols.length ∧ (s.1.length : Int) = s.2.2.2 ∧ (∀ x ∈ s.1, x = 0) ∧ ∃ L : List (Int × Int), (L.length : Int) = s.2.2.2 ∧ s.2.1 = L.map (·.2) ∧ s.2.2.1 = L.map (·.1) ∧ ∀ x ∈ L, x.1 ≤ x.2) (fun s => (c.Vols.length - s.2.2.2).toNat)
      (fun s => s.1.length = c.Vols.length ∧ (∀ x ∈ s.1, x = 0) ∧ ∃ L : List (Int × Int), L.length = c.Vols.length ∧ s.2.1 = L.map (·.2) ∧ s.2.2.1 = L.map (·.1) ∧ ∀ x ∈ L, x.1 ≤ x.2) (by simp; omega) ⟨by simp, by simp, by simp, by simp, [], by simp, rfl, rfl, by simp⟩ (fun s hs => ?_) (fun s hr => ?_)
    · obtain ⟨a1, a2, a3, i⟩ := s
      simp only at hs
      obtain ⟨s1, s2, s3, s4, L, s5, s6, s7, s8⟩ := hs
      subst s6 s7
      have t5 := tm p5 (n := 50) (by omega) (by omega)
      unfold M5_L0
      refine .ite (fun hc => ?_) fun hc => .brk ?_
      · have hc := of_decide_eq_true hc
        simp only at hc
        rw [wr (n := i + 1) (by omega) (by omega)]
        have put : ∀ j : Int, 0 ≤ j → j < 60 → T ((app (L.map (·.1)) ([j] : List Int)).bind fun z161 => (app (L.map (·.2)) ([IntKind.wrap .i64 (j + (IntKind.wrap .i64 ((IntKind.wrap .u64 p5).tmod 50)))] : List Int)).bind fun z166 => (app a1 ([0] : List Int)).bind fun z171 => some (.go (z171, z166, z161, i + 1)) : Option (Lp (List Int × List Int × List Int × Int) Bool))
            (L3 (fun s' => (0 ≤ s'.2.2.2 ∧ s'.2.2.2 ≤ c.Vols.length ∧ (s'.1.length : Int) = s'.2.2.2 ∧ (∀ x ∈ s'.1, x = 0) ∧ ∃ L : List (Int × Int), (L.length : Int) = s'.2.2.2 ∧ s'.2.1 = L.map (·.2) ∧ s'.2.2.1 = L.map (·.1) ∧ ∀ x ∈ L, x.1 ≤ x.2) ∧ (c.Vols.length - s'.2.2.2).toNat < (c.Vols.length - i).toNat) (fun s => s.1.length = c.Vols.length ∧ (∀ x ∈ s.1, x = 0) ∧ ∃ L : List (Int × Int), L.length = c.Vols.length ∧ s.2.1 = L.map (·.2) ∧ s.2.2.1 = L.map (·.1) ∧ ∀ x ∈ L, x.1 ≤ x.2) (fun b => b = true)) := fun j j0 j1 => by
          rw [wr (n := j + _) (by omega) (by omega)]
          refine .app (by simp; omega) (.app (by simp; omega) (.app (by simp; omega) (.go ⟨⟨by simp only; omega, by simp only; omega, by simp; omega, fun x hx => ?_, L ++ [(j, j + IntKind.wrap .i64 ((IntKind.wrap .u64 p5).tmod 50))], by simp; omega, by simp, by simp, fun x hx => ?_⟩, by simp only; omega⟩)))
          · rcases List.mem_append.1 hx with h | h
            · exact s4 x h
            · exact List.mem_singleton.1 h
          · rcases List.mem_append.1 hx with h | h
            · exact s8 x h
            · rw [List.mem_singleton] at h
              subst h
              simp only
              omega
        refine .after (.ite (fun h2 => ?_) fun _ => .brk (put _ (by omega) (by omega)))
        have h2 := of_decide_eq_true h2
        simp only at h2
        refine .ix (by omega) (by omega) fun x _ _ => .brk (put _ ?_ ?_)
        · exact (tm x (n := 60) (by omega) (by omega)).1
        · exact (tm x (n := 60) (by omega) (by omega)).2
      · have hc : ¬ (i < c.Vols.length) := by simpa using hc
        exact ⟨by show a1.length = _; omega, s4, L, by omega, rfl, rfl, s8⟩
    · obtain ⟨a1, a2, a3, i0⟩ := s
      obtain ⟨s3, s4, L, s5, s6, s7, s8⟩ := hr
      simp only at s3 s4 s5 s6 s7
      subst s6 s7
      have t3 := tm p3 (n := 50) (by omega) (by omega)
      generalize hnd : IntKind.wrap .i64 ((IntKind.wrap .u64 p3).tmod 50) = nd at t3
      generalize hpp : bitsV .and .i64 p0 1 = p
      obtain ⟨y1, hy1⟩ := tgt_some c p nd (L.map (·.1)) (-1)
      obtain ⟨y2, hy2⟩ := tgt_some c p nd (L.map (·.2)) (-1)
      obtain ⟨y3, hy3⟩ := tgt_some c p (IntKind.wrap .i64 (nd + 1)) a1 (-1)
      simp only [hnd, hpp]
      refine .bindEq ((m16 hF h hg (by simp [s5])).trans hy1) (.bindEq ((m16 hF h hg (by simp [s5])).trans hy2) (.bindEq ((m16 hF h hg s3).trans hy3) ?_))
      have k3 : y3 = (0, 12) := by
        rcases found hy3 with ⟨i, x, st, -, hi, -, hf, -⟩ | ⟨rfl, -⟩
        · obtain ⟨x, z, e1, e2, e3, e4, e5, e6⟩ := fits_at hf
          have := s4 z (List.mem_of_getElem? e2)
          rw [wr (by omega) (by omega)] at e6
          omega
        · rfl
      subst k3
      have b1 : ((0 : Int) == 0) = true := rfl
      have b2 : ((0 : Int) != 0) = false := rfl
      have b3 : ((12 : Int) == 0) = false := rfl
      have b4 : ((12 : Int) != 12) = false := rfl
      have b5 : ((12 : Int) == 12) = true := rfl
      have b6 : ∀ i : Nat, decide ((i : Int) < 0) = false := fun i => by simp
      have b7 : ∀ i : Nat, i < c.Vols.length → decide ((c.Vols.length : Int) ≤ (i : Int)) = false := fun i hi => by simp; omega
      refine .of (a := true) ?_ rfl
      rcases found hy1 with ⟨i, x, st, rfl, hi, hst, hf, e1, e2, e3⟩ | ⟨rfl, hn1⟩
      · rcases found hy2 with ⟨i', x', st', rfl, hi', hst', hf', e1', e2', e3'⟩ | ⟨rfl, hn2⟩
        · have w : decide (0 < (writ c p : Int)) = true := by simp [e3]
          simp only [b1, b2, b4, if_true, Bool.false_eq_true, if_false, after_brk, b6, b7 i hi, b7 i' hi', ix_nat, e1, e1', e2, e2', Option.bind_some, m22 hF h, hg, w, m23]
        · exfalso
          obtain ⟨x2, z, f1, f2, f3, f4, f5, f6⟩ := fits_at hf
          rw [List.getElem?_map] at f2
          obtain ⟨w, hw, rfl⟩ := Option.map_eq_some_iff.1 f2
          have hle := s8 w (List.mem_of_getElem? hw)
          have f2' : (L.map (·.2))[i]? = some w.2 := by rw [List.getElem?_map, hw]; rfl
          have := fits_of (need := nd) (nt := -1) f1 f2' f3 f4 f5 (by omega)
          rcases hst with rfl | rfl
          · rw [(hn2 i hi).1] at this; cases this
          · rw [(hn2 i hi).2] at this; cases this
      · rcases found hy2 with ⟨i', x', st', rfl, hi', hst', hf', e1', e2', e3'⟩ | ⟨rfl, hn2⟩
        · have w : decide (0 < (writ c p : Int)) = true := by simp [e3']
          simp only [b1, b2, b3, b4, if_true, Bool.false_eq_true, if_false, after_brk, b6, b7 i' hi', ix_nat, e1', e2', Option.bind_some, m22 hF h, hg, w, m23]
        · simp only [b3, b4, b5, if_true, Bool.false_eq_true, if_false, after_brk, Option.bind_some, m22 hF h, hg, m23]
          cases decide (0 < (writ c p : Int)) <;> rfl
  obtain ⟨b, hb, rfl⟩ := key
  exact hb
theorem pools_rooms6 {q r : List Int} {l : List TAct} {p0 p3 p5 : Int} (gq : gL gI q) (gl : gL g_Act l) (_ : gI p0) (_ : gI p3) (_ : gL gI r) (_ : gI p5) : M5 1000 q l p0 p3 r p5 = some true := pools_rooms gq gl
end Go.Proofs.Ytoomgangpjcaoaa
