/-
  Plain laws: CatalogWrong.
-/
import Derived.Test.YtoomgangpjcaoaaK8PlM
import Derived.Test.YtoomgangpjcaoaaK8Wo
namespace Go.Proofs.Ytoomgangpjcaoaa
open Go.Vm

theorem m14d {F : Nat} {c : TCatalog} (hF : 1000 ≤ F) (h : Sm c) : M14d F c = some c := by
  rw [← m14 (F := F) hF h]
  rfl
theorem m35_bad {F : Nat} {c : TCatalog} (hF : 1000 ≤ F) (h : Sm c) (hb : good c = false) : M35 F c = some ([], 1) := by
  unfold M35
  rw [m33 hF h, hb]
  rfl
theorem wru {n : Nat} (h : n < 1000000000) : IntKind.wrap .u64 (n : Int) = n := by
  have e : IntKind.wrap .u64 (n : Int) = (n : Int) % 18446744073709551616 := rfl
  rw [e]; omega
theorem wru0 (p : Int) : 0 ≤ IntKind.wrap .u64 p := by
  have e : IntKind.wrap .u64 p = p % 18446744073709551616 := rfl
  rw [e]; omega
theorem idxW (p : Int) {n : Nat} (h0 : 0 < n) (hn : n < 1000000000) : ∃ j : Nat, j < n ∧ IntKind.wrap .i64 ((IntKind.wrap .u64 p).tmod (n : Int)) = (j : Int) := by
  have h1 := wru0 p
  generalize IntKind.wrap .u64 p = a at h1
  rw [Int.tmod_eq_emod_of_nonneg h1]
  have h2 : 0 ≤ a % (n : Int) := Int.emod_nonneg _ (by omega)
  have h3 : a % (n : Int) < n := Int.emod_lt_of_pos _ (by omega)
  refine ⟨(a % (n : Int)).toNat, by omega, ?_⟩
  rw [wr (by omega) (by omega)]
  omega
/-- What the law goes on with: a catalog that is bent is refused. -/
def bent (d : TCatalog) : Prop := Sm d ∧ good d = false
theorem set_at {α : Type} {l : List α} {j : Nat} {x : α} (h : j < l.length) : (l.set j x)[j]? = some x := List.getElem?_set_self h
theorem mem_set {α : Type} {l : List α} {j : Nat} {x y : α} (h : y ∈ l.set j x) : y ∈ l ∨ y = x := by
  have := List.mem_or_eq_of_mem_set h
  exact this
theorem bent_vol {c : TCatalog} (h : Sm c) {j : Nat} {x : TVol} (hj : j < c.Vols.length) (hx : volB x = false) (gx : g_Vol x) : bent { c with Vols := c.Vols.set j x } := by
  refine ⟨⟨⟨h.g.1, h.g.2.1, h.g.2.2.1, h.g.2.2.2.1, fun y hy => ?_⟩, h.sn, h.ch, h.ex, by simp [h.vo], h.sl, h.cl, h.el, h.man⟩, ?_⟩
  · rcases mem_set hy with hy | rfl
    · exact h.g.2.2.2.2 y hy
    · exact gx
  · have : (c.Vols.set j x).all volB = false := by
      rw [List.all_eq_false]
      exact ⟨x, List.mem_of_getElem? (set_at hj), by simp [hx]⟩
    unfold good
    simp [this]
theorem bent_chunk {c : TCatalog} (h : Sm c) {l : List TChunk} (hl : l.length = c.Chunks.length) (hm : ∀ y ∈ l, y ∈ c.Chunks ∨ (gId y.Id ∧ y.Locs = [] ∧ y.Data = [])) {j : Nat} (hj : j < l.length) (hx : chB { c with Chunks := l } j = false) : bent { c with Chunks := l } := by
  refine ⟨⟨⟨h.g.1, h.g.2.1, fun y hy => ?_, h.g.2.2.2.1, h.g.2.2.2.2⟩, h.sn, by rw [hl]; exact h.ch, h.ex, h.vo, h.sl, fun y hy => ?_, h.el, h.man⟩, ?_⟩
  · rcases hm y hy with hy | ⟨h1, h2, h3⟩
    · exact h.g.2.2.1 y hy
    · exact ⟨h1, trivial, by rw [h3]; exact fun _ q => by simp at q, by rw [h2]; exact fun _ q => by simp at q⟩
  · rcases hm y hy with hy | ⟨h1, h2, h3⟩
    · exact h.cl y hy
    · rw [h2, h3]; simp
  · have : chsB { c with Chunks := l } = false := by
      unfold chsB
      simp only [Bool.not_eq_false', List.any_eq_true, List.mem_range]
      exact ⟨j, hj, by rw [hx]; rfl⟩
    unfold good
    simp [this]
theorem bent_snap {c : TCatalog} (h : Sm c) {j : Nat} {x y : TSnap} (hj : c.Snaps[j]? = some y) (gx : g_Snap x) (h1 : x.Man.Parts = y.Man.Parts) (h2 : x.Locs = y.Locs) (h3 : x.Man.Name.size ≤ 100) (hx : inR x.Seq 0 (c.Seq - 1) = false ∨ manB x.Man = false) : bent { c with Snaps := c.Snaps.set j x } := by
  have hjl := (List.getElem?_eq_some_iff.1 hj).1
  have hym := List.mem_of_getElem? hj
  refine ⟨⟨⟨h.g.1, fun z hz => ?_, h.g.2.2.1, h.g.2.2.2.1, h.g.2.2.2.2⟩, by simp [h.sn], h.ch, h.ex, h.vo, fun z hz => ?_, h.cl, h.el, fun z hz => ?_⟩, ?_⟩
  · rcases mem_set hz with hz | rfl
    · exact h.g.2.1 z hz
    · exact gx
  · rcases mem_set hz with hz | rfl
    · exact h.sl z hz
    · rw [h2]; exact h.sl y hym
  · rcases mem_set hz with hz | rfl
    · exact h.man z hz
    · have := h.man y hym
      exact ⟨h3, by rw [h1]; exact this.2.1, by rw [h1]; exact this.2.2⟩
  · have hs : (c.Snaps.set j x)[j]? = some x := set_at hjl
    have hb : snB { c with Snaps := c.Snaps.set j x } j = false := by
      unfold snB
      simp only [hs]
      rcases hx with hx | hx
      · simp [hx]
      · simp [hx]
    have : snsB { c with Snaps := c.Snaps.set j x } = false := by
      unfold snsB
      simp only [Bool.not_eq_false', List.any_eq_true, List.mem_range]
      exact ⟨j, by simpa using hjl, by rw [hb]; rfl⟩
    unfold good
    simp [this]
theorem bent_exp {c : TCatalog} (h : Sm c) {j : Nat} {x y : TExp} (hj : c.Exps[j]? = some y) (gx : g_Exp x) (h2 : x.Locs = []) : bent { c with Exps := c.Exps.set j x } := by
  have hjl := (List.getElem?_eq_some_iff.1 hj).1
  refine ⟨⟨⟨h.g.1, h.g.2.1, h.g.2.2.1, fun z hz => ?_, h.g.2.2.2.2⟩, h.sn, h.ch, by simp [h.ex], h.vo, h.sl, h.cl, fun z hz => ?_, h.man⟩, ?_⟩
  · rcases mem_set hz with hz | rfl
    · exact h.g.2.2.2.1 z hz
    · exact gx
  · rcases mem_set hz with hz | rfl
    · exact h.el z hz
    · rw [h2]; simp
  · have hs : (c.Exps.set j x)[j]? = some x := set_at hjl
    have hb : exA { c with Exps := c.Exps.set j x } j = false := by
      unfold exA
      simp only [hs, h2]
      simp
    have : exsB { c with Exps := c.Exps.set j x } = false := by
      unfold exsB
      simp only [Bool.not_eq_false', List.any_eq_true, List.mem_range]
      exact ⟨j, by simpa using hjl, by rw [hb]; rfl⟩
    unfold good
    simp [this]
theorem bent_seq {c : TCatalog} (h : Sm c) : bent { c with Seq := -1 } := by
  refine ⟨⟨⟨by simp [gI], h.g.2.1, h.g.2.2.1, h.g.2.2.2.1, h.g.2.2.2.2⟩, h.sn, h.ch, h.ex, h.vo, h.sl, h.cl, h.el, h.man⟩, ?_⟩
  unfold good
  simp [inR]
theorem bent_none {c : TCatalog} (h : Sm c) : bent { c with Vols := [] } := by
  refine ⟨⟨⟨h.g.1, h.g.2.1, h.g.2.2.1, h.g.2.2.2.1, fun _ q => by simp at q⟩, h.sn, h.ch, h.ex, by simp, h.sl, h.cl, h.el, h.man⟩, ?_⟩
  unfold good
  simp [inR]

theorem grd_ne {ρ : Type} {n : Nat} (h : 0 < n) (k : Option ρ) : grd ((n : Int) != 0) k = k := by
  have : ((n : Int) != 0) = true := by simp; omega
  unfold grd
  rw [if_pos this]
theorem catalog_wrong {c : TCatalog} {p q : Int} (hg : g_Catalog c) : M8 1000 c p q = some true := by
  have hF : 1000 ≤ 1000 := Nat.le_refl _
  obtain ⟨b, hb, hs⟩ := m13 (F := 1000) hF hg
  unfold M8
  rw [hb]
  cases b
  · have h := hs rfl
    have hvo := h.vo
    have hch := h.ch
    have hex := h.ex
    have hsn := h.sn
    simp only [Option.bind_some, Bool.false_eq_true, if_false, m19 hF h, after_brk]
    cases hq : good c
    · simp
    · have hv0 : 0 < c.Vols.length := by
        unfold good at hq
        simp only [Bool.and_eq_true, inR, decide_eq_true_eq] at hq
        omega
      simp only [Bool.not_true, Bool.false_eq_true, if_false, m14d hF h, Option.bind_some]
      have hr : 0 ≤ (IntKind.wrap .u64 p).tmod 10 ∧ (IntKind.wrap .u64 p).tmod 10 < 10 := by
        have h1 := wru0 p
        rw [Int.tmod_eq_emod_of_nonneg h1]
        omega
      generalize (IntKind.wrap .u64 p).tmod 10 = r at hr
      have wv : IntKind.wrap .u64 (c.Vols.length : Int) = c.Vols.length := wru (by omega)
      have wc : IntKind.wrap .u64 (c.Chunks.length : Int) = c.Chunks.length := wru (by omega)
      have ws : IntKind.wrap .u64 (c.Snaps.length : Int) = c.Snaps.length := wru (by omega)
      have we : IntKind.wrap .u64 (c.Exps.length : Int) = c.Exps.length := wru (by omega)
      obtain ⟨jv, hjv, ejv⟩ := idxW q hv0 (by omega)
      have hxv : c.Vols[jv]? = some c.Vols[jv] := List.getElem?_eq_getElem hjv
      have gxv := h.g.2.2.2.2 _ (List.getElem_mem hjv)
      generalize c.Vols[jv] = xv at hxv gxv
      have tail : ∀ d : TCatalog, bent d → ((M35 1000 d).bind fun y => after ((M33 1000 d).bind fun z => if (z == 1) = true then (if (y.2 == 1) = true then (if ((y.1.length : Int) == 0) = true then ((M33 1000 c).bind fun u => if (u == 0) = true then ((M31 1000).bind fun t => some (Lp.brk t)) else some (.brk false)) else some (.brk false)) else some (.brk false)) else some (.brk false) : Option (Lp Bool Bool)) fun j => some j) = some true := by
        intro d hd
        rw [m35_bad hF hd.1 hd.2, m33 hF hd.1, hd.2, m33 hF h, hq, m31]
        rfl
      have hcase : r = 0 ∨ r = 1 ∨ r = 2 ∨ r = 3 ∨ r = 4 ∨ r = 5 ∨ r = 6 ∨ r = 7 ∨ r = 8 ∨ r = 9 := by omega
      rcases hcase with rfl | rfl | rfl | rfl | rfl | rfl | rfl | rfl | rfl | rfl
      · simp only [Int.reduceBEq, Int.reduceLE, decide_true, decide_false, Bool.false_eq_true, if_true, if_false, after_brk]
        exact tail _ (bent_seq h)
      · simp only [Int.reduceBEq, Int.reduceLE, decide_true, decide_false, Bool.false_eq_true, if_true, if_false, after_brk, wv, grd_ne hv0, ejv, ix_nat, hxv, Option.bind_some, Int.toNat_natCast]
        exact tail _ (bent_vol h hjv (by simp [volB, inR]) ⟨by simp [gI], gxv.2.1, gxv.2.2.1, gxv.2.2.2⟩)
      · simp only [Int.reduceBEq, Int.reduceLE, decide_true, decide_false, Bool.false_eq_true, if_true, if_false, after_brk, wv, grd_ne hv0, ejv, ix_nat, hxv, Option.bind_some, Int.toNat_natCast]
        exact tail _ (bent_vol h hjv (by simp [volB, inR]) ⟨gxv.1, by simp [gI], gxv.2.2.1, gxv.2.2.2⟩)
      · simp only [Int.reduceBEq, Int.reduceLE, decide_true, decide_false, Bool.false_eq_true, if_true, if_false, after_brk, wv, grd_ne hv0, ejv, ix_nat, hxv, Option.bind_some, Int.toNat_natCast]
        exact tail _ (bent_vol h hjv (by simp [volB, inR]) ⟨gxv.1, gxv.2.1, by simp [gI], gxv.2.2.2⟩)
      · simp only [Int.reduceBEq, Int.reduceLE, decide_true, decide_false, Bool.false_eq_true, if_true, if_false, after_brk]
        by_cases h0 : 0 < c.Chunks.length
        · obtain ⟨j, hj, ej⟩ := idxW q h0 (by omega)
          have hx : c.Chunks[j]? = some c.Chunks[j] := List.getElem?_eq_getElem hj
          have gx := h.g.2.2.1 _ (List.getElem_mem hj)
          generalize c.Chunks[j] = x at hx gx
          have n1 : ¬ ((c.Chunks.length : Int) < 1) := by omega
          have n0 : (0 : Int) < (c.Chunks.length : Int) := by omega
          simp only [n0, n1, decide_true, decide_false, if_true, after_brk, wc, grd_ne h0, ej, ix_nat, hx, Option.bind_some, Int.toNat_natCast, Bool.false_eq_true, if_false, List.set_set]
          refine tail _ (bent_chunk h (by simp) (fun y hy => ?_) (j := j) (by simpa using hj) ?_)
          · rcases mem_set hy with hy | rfl
            · exact .inl hy
            · exact .inr ⟨gx.1, rfl, rfl⟩
          · unfold chB
            simp only [set_at hj]
            simp
        · have e0 : c.Chunks.length = 0 := by omega
          simp [e0, after, m31]
      · simp only [Int.reduceBEq, Int.reduceLE, decide_true, decide_false, Bool.false_eq_true, if_true, if_false, after_brk]
        by_cases h0 : 1 < c.Chunks.length
        · have em : IntKind.wrap .i64 ((c.Chunks.length : Int) - 1) = ((c.Chunks.length - 1 : Nat) : Int) := wr_1 (by omega) (by omega)
          have em2 : IntKind.wrap .u64 ((c.Chunks.length - 1 : Nat) : Int) = ((c.Chunks.length - 1 : Nat) : Int) := wru (by omega)
          obtain ⟨j, hj, ej⟩ := idxW q (n := c.Chunks.length - 1) (by omega) (by omega)
          have ej1 : IntKind.wrap .i64 ((j : Int) + 1) = ((j + 1 : Nat) : Int) := wr1 (by omega)
          have hj0 : j < c.Chunks.length := by omega
          have hj1 : j + 1 < c.Chunks.length := by omega
          have hx : c.Chunks[j]? = some c.Chunks[j] := List.getElem?_eq_getElem hj0
          have hy : c.Chunks[j + 1]? = some c.Chunks[j + 1] := List.getElem?_eq_getElem hj1
          have mx := List.getElem_mem hj0
          have my := List.getElem_mem hj1
          generalize c.Chunks[j] = x at hx mx
          generalize c.Chunks[j + 1] = y at hy my
          have hlt := (ris_of h (good_chs hq)).2 j (j + 1) x y hx hy (by omega)
          have hz : (c.Chunks.set j y)[j + 1]? = some y := by rw [List.getElem?_set_ne (by omega)]; exact hy
          have n1 : ¬ (((c.Chunks.length - 1 : Nat) : Int) < 1) := by omega
          have n0 : (1 : Int) < (c.Chunks.length : Int) := by omega
          simp only [n0, n1, decide_true, decide_false, if_true, after_brk, em, em2, grd_ne (show 0 < c.Chunks.length - 1 by omega), ej, ej1, ix_nat, hx, hy, hz, Option.bind_some, Int.toNat_natCast, Bool.false_eq_true, if_false]
          refine tail _ (bent_chunk h (by simp) (fun z hz => ?_) (j := j + 1) (by simpa using hj1) ?_)
          · rcases mem_set hz with hz | rfl
            · rcases mem_set hz with hz | rfl
              · exact .inl hz
              · exact .inl my
            · exact .inl mx
          · unfold chB
            have e1 : ((c.Chunks.set j y).set (j + 1) x)[j + 1]? = some x := set_at (by simpa using hj1)
            have e2 : ((c.Chunks.set j y).set (j + 1) x)[j]? = some y := by rw [List.getElem?_set_ne (by omega)]; exact set_at hj0
            simp only [e1, Nat.add_sub_cancel, e2]
            have : ¬ (ky y.Id < ky x.Id) := by omega
            simp [this]
        · have n0 : ¬ ((1 : Int) < (c.Chunks.length : Int)) := by omega
          have n1 : IntKind.wrap .i64 ((c.Chunks.length : Int) - 1) < 1 := by rw [wr (by omega) (by omega)]; omega
          simp [n0, n1, after, m31]
      · simp only [Int.reduceBEq, Int.reduceLE, decide_true, decide_false, Bool.false_eq_true, if_true, if_false, after_brk]
        by_cases h0 : 0 < c.Snaps.length
        · obtain ⟨j, hj, ej⟩ := idxW q h0 (by omega)
          have hx : c.Snaps[j]? = some c.Snaps[j] := List.getElem?_eq_getElem hj
          have gx := h.g.2.1 _ (List.getElem_mem hj)
          generalize c.Snaps[j] = x at hx gx
          have n1 : ¬ ((c.Snaps.length : Int) < 1) := by omega
          have n0 : (0 : Int) < (c.Snaps.length : Int) := by omega
          simp only [n0, n1, decide_true, decide_false, if_true, after_brk, ws, grd_ne h0, ej, ix_nat, hx, Option.bind_some, Int.toNat_natCast, Bool.false_eq_true, if_false]
          refine tail _ (bent_snap h hx ⟨gx.1, ⟨trivial, gx.2.1.2⟩, gx.2.2⟩ rfl rfl (show (ByteArray.mk #[]).size ≤ 100 by decide) (.inr ?_))
          have : nameB (ByteArray.mk #[]) = false := by decide +kernel
          simp [manB, this]
        · have e0 : c.Snaps.length = 0 := by omega
          simp [e0, after, m31]
      · simp only [Int.reduceBEq, Int.reduceLE, decide_true, decide_false, Bool.false_eq_true, if_true, if_false, after_brk]
        by_cases h0 : 0 < c.Snaps.length
        · have em : IntKind.wrap .i64 ((c.Snaps.length : Int) - 1) = ((c.Snaps.length - 1 : Nat) : Int) := wr_1 (by omega) (by omega)
          have hj : c.Snaps.length - 1 < c.Snaps.length := by omega
          have hx : c.Snaps[c.Snaps.length - 1]? = some c.Snaps[c.Snaps.length - 1] := List.getElem?_eq_getElem hj
          have gx := h.g.2.1 _ (List.getElem_mem hj)
          have mx := h.man _ (List.getElem_mem hj)
          generalize c.Snaps[c.Snaps.length - 1] = x at hx gx mx
          have n1 : ¬ ((c.Snaps.length : Int) < 1) := by omega
          have n0 : (0 : Int) < (c.Snaps.length : Int) := by omega
          simp only [n0, n1, decide_true, decide_false, if_true, after_brk, em, ix_nat, hx, Option.bind_some, Int.toNat_natCast, Bool.false_eq_true, if_false]
          exact tail _ (bent_snap h hx ⟨h.g.1, gx.2.1, gx.2.2⟩ rfl rfl mx.1 (.inl (by simp [inR]; omega)))
        · have e0 : c.Snaps.length = 0 := by omega
          simp [e0, after, m31]
      · simp only [Int.reduceBEq, Int.reduceLE, decide_true, decide_false, Bool.false_eq_true, if_true, if_false, after_brk]
        by_cases h0 : 0 < c.Exps.length
        · obtain ⟨j, hj, ej⟩ := idxW q h0 (by omega)
          have hx : c.Exps[j]? = some c.Exps[j] := List.getElem?_eq_getElem hj
          have gx := h.g.2.2.2.1 _ (List.getElem_mem hj)
          generalize c.Exps[j] = x at hx gx
          have n1 : ¬ ((c.Exps.length : Int) < 1) := by omega
          have n0 : (0 : Int) < (c.Exps.length : Int) := by omega
          simp only [n0, n1, decide_true, decide_false, if_true, after_brk, we, grd_ne h0, ej, ix_nat, hx, Option.bind_some, Int.toNat_natCast, Bool.false_eq_true, if_false]
          exact tail _ (bent_exp h hx ⟨gx.1, gx.2.1, fun _ q => by simp at q⟩ rfl)
        · have e0 : c.Exps.length = 0 := by omega
          simp [e0, after, m31]
      · simp only [Int.reduceBEq, Int.reduceLE, decide_true, decide_false, Bool.false_eq_true, if_true, if_false, after_brk]
        exact tail _ (bent_none h)
  · simp [after]
theorem catalog_wrong3 {c : TCatalog} {p q : Int} (hg : g_Catalog c) (_ : gI p) (_ : gI q) : M8 1000 c p q = some true := catalog_wrong hg
end Go.Proofs.Ytoomgangpjcaoaa
