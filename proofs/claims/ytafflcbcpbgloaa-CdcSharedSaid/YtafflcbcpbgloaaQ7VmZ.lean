/-
  What is handed in, read as plain data: type by type.
-/
import Derived.Test.YtafflcbcpbgloaaQ7VmR
import Derived.Test.YtafflcbcpbgloaaQ7VmW
import Derived.ChangeArms
import Derived.Deep.Slices
import Derived.OpenShut
namespace Go.Vm
open Go.ChangeShapes Go.WideShapes Go.Deep

section
variable {H : Type} {enc : TypeId × Value → H} {P : Program} {W : World}

/-- The cells of a type's value stand for plain data that is right. -/
def Rd {α : Type} (enc : TypeId × Value → H) (P : Program) (W : World) (t : TypeId) (c : α → List AV) (g : α → Prop) : Prop :=
  ∀ {fuel : Nat} {cs : List Value} {x : DataW H × List MemPlace}, DataW.trod enc P W 0 (fun _ => true) true fuel t cs = some x → ∃ a, g a ∧ VRL (E0 W) W (c a) cs ∧ (∀ v ∈ cs, v.oneCell' = true)

def gI (n : Int) : Prop := -9223372036854775808 ≤ n ∧ n < 9223372036854775808
def gB (n : Int) : Prop := 0 ≤ n ∧ n < 256
def gL {α : Type} (g : α → Prop) (l : List α) : Prop := ∀ x ∈ l, g x
theorem Rd_u8 {t : TypeId} (ht : P.underlying t = some (.int .u8)) : Rd enc P W t (fun n : Int => [AV.sc (.int .u8 n)]) gB := by
  intro fuel cs x h
  obtain ⟨n, rfl, -, hw⟩ := DataW.trod_int ht h
  refine ⟨n, ?_, by simp only [VRL, VR]; trivial, by simp [Value.oneCell']⟩
  simp only [Lit.wf, Bool.and_eq_true, decide_eq_true_eq] at hw
  rw [show IntKind.u8.min = 0 from by decide, show IntKind.u8.max = 255 from by decide] at hw
  unfold gB; omega
/-- Windows of a row of cells. -/
def Win (W : World) (o : Nat) (xs : List AV) (cs : List Value) : Prop := VRL (E0 W) W xs (cs.drop o) ∧ ∀ v ∈ cs.drop o, v.oneCell' = true
theorem Win.nil {o : Nat} {cs : List Value} (h : cs.length = o) : Win W o [] cs := by
  subst h
  simp [Win, VRL]
theorem Win.cons {o n m : Nat} {xs ys : List AV} {cs : List Value} (h : VRL (E0 W) W xs ((cs.drop o).take n)) (h1 : ∀ v ∈ (cs.drop o).take n, v.oneCell' = true) (k : Win W m ys cs) (hm : m = o + n) : Win W o (xs ++ ys) cs := by
  subst hm
  have e : cs.drop o = (cs.drop o).take n ++ cs.drop (o + n) := by rw [← List.drop_drop, List.take_append_drop]
  constructor
  · rw [e]; exact VRL_append h k.1
  · intro v hv
    rw [e] at hv
    rcases List.mem_append.1 hv with q | q
    · exact h1 v q
    · exact k.2 v q
theorem Rd.id {t e : TypeId} (ht : P.underlying t = some (.array 32 e)) (he : P.underlying e = some (.int .u8)) (hc : P.cellsOf e = 1) (hn : P.cellsOf t = 32) : Rd enc P W t c_id (fun x => gL gB x.1) := by
  intro fuel cs x h
  obtain ⟨xs, m, -, -, hl, hx, hf⟩ := DataW.trod_array ht h
  rw [hn] at hl
  have hk : ∀ i, i < 32 → ∃ z : Int, cs[i]? = some (.int .u8 z) ∧ gB z := by
    intro i hi
    have q := hf i hi
    rw [List.getElem?_eq_getElem (by omega), hc, Nat.mul_one] at q
    obtain ⟨n, e1, -, hw⟩ := DataW.trod_int he q
    refine ⟨n, ?_, ?_⟩
    · have := congrArg (fun l : List Value => l[0]?) e1
      simpa using this
    · simp only [Lit.wf, Bool.and_eq_true, decide_eq_true_eq] at hw
      rw [show IntKind.u8.min = 0 from by decide, show IntKind.u8.max = 255 from by decide] at hw
      unfold gB; omega
  obtain ⟨V, hV⟩ := choose_lt hk
  refine ⟨⟨(List.range 32).map V, by simp⟩, ?_, ?_, ?_⟩
  · intro z hz
    obtain ⟨i, hi, rfl⟩ := List.mem_map.1 hz
    exact (hV i (List.mem_range.1 hi)).2
  · have : cs = (List.range 32).map fun i => Value.int .u8 (V i) := by
      apply List.ext_getElem?
      intro i
      by_cases hi : i < 32
      · rw [(hV i hi).1]; simp [hi]
      · rw [List.getElem?_eq_none (by omega), List.getElem?_eq_none (by simp; omega)]
    rw [this, c_id_map, List.map_map]
    have := VRL_sc (E := E0 W) (w := W) ((List.range 32).map fun i => Value.int .u8 (V i))
    rwa [List.map_map] at this
  · intro v hv
    obtain ⟨i, hi, rfl⟩ := List.getElem_of_mem hv
    have := (hV i (by omega)).1
    rw [List.getElem?_eq_getElem hi] at this
    rw [Option.some.inj this]
    rfl

theorem spot_of_cell {a : Addr} {v : Value} (h : W.cell? a = some v) : a.spot = none := by
  unfold World.cell? at h
  split at h
  · split at h
    · cases h
    · rename_i q; simpa using q
  · cases h

theorem VRG_of_rows {g o sz : Nat} {α : Type} {c : α → List AV} : ∀ (l : List α) (rows : Nat → List Value) (k : Nat), (∀ x ∈ l, (c x).length = sz) →
    (∀ i x, l[i]? = some x → VRL (E0 W) W (c x) (rows (k + i)) ∧ (∀ v ∈ rows (k + i), v.oneCell' = true) ∧ ∀ j, j < sz → W.cell? ⟨g, o + (k + i) * sz + j, none⟩ = (rows (k + i))[j]? ∧ (rows (k + i)).length = sz) →
    VRG (E0 W) W none g (o + k * sz) (l.map c)
  | [], _, _, _, _ => by simp only [List.map_nil, VRG]
  | x :: l, rows, k, hs, h => by
    simp only [List.map_cons, VRG]
    obtain ⟨h1, h2, h3⟩ := h 0 x rfl
    have hsz := hs x (by simp)
    refine ⟨VRM_of_cells h1 (by simpa using h2) ?_, ?_⟩
    · intro j v hj
      have hl : (rows (k + 0)).length = sz := by
        by_cases h0 : 0 < sz
        · exact (h3 0 h0).2
        · have := VRL_length h1
          omega
      have hj' : j < sz := by rw [← hl]; exact (List.getElem?_eq_some_iff.1 hj).1
      have q := (h3 j hj').1
      rw [hj, Nat.add_zero] at q
      exact ⟨q, .inl (by show (W.cell? _).isSome = true; rw [q]; rfl)⟩
    · rw [hsz, show o + k * sz + sz = o + (k + 1) * sz from by rw [Nat.add_mul]; omega]
      refine VRG_of_rows l rows (k + 1) (fun y hy => hs y (by simp [hy])) fun i y hi => ?_
      have := h (i + 1) y (by simpa using hi)
      rwa [show k + (i + 1) = k + 1 + i from by omega] at this

theorem Rd.slice {α : Type} {t e : TypeId} {c : α → List AV} {g : α → Prop} {sz : Nat} (r : Rd enc P W e c g) (ht : P.underlying t = some (.slice e)) (hc : P.cellsOf e = sz) (hs : ∀ x, (c x).length = sz) (h0 : 0 < sz) :
    Rd enc P W t (fun l : List α => [AV.sl none sz (l.map c)]) (gL g) := by
  intro fuel cs x h
  rcases open_slice ht h with ⟨rfl, -⟩ | ⟨a, len, cap, m, n, D, Pl, rfl, -, hl, hm, hmm, -, hx⟩
  · exact ⟨[], by intro x hx; simp at hx, by simp only [VRL, VR]; exact ⟨⟨none, 0, rfl, by simp, by simp, by simp, by simp, by simp⟩, trivial⟩, by simp [Value.oneCell']⟩
  · simp only [if_true] at hmm
    rw [hmm] at hx
    have key : ∀ i, i < len → ∃ q : α × List Value, g q.1 ∧ VRL (E0 W) W (c q.1) q.2 ∧ (∀ v ∈ q.2, v.oneCell' = true) ∧ W.cells? 0 (a.add (i * sz)) sz = some q.2 := by
      intro i hi
      obtain ⟨cs', h1, h2⟩ := hx i (by omega)
      obtain ⟨y, gy, v1, v2⟩ := r h2
      exact ⟨(y, cs'), gy, v1, v2, by rwa [hc] at h1⟩
    have : Nonempty (α × List Value) ∨ len = 0 := by
      by_cases hz : 0 < len
      · obtain ⟨q, -⟩ := key 0 hz
        exact .inl ⟨q⟩
      · exact .inr (by omega)
    rcases this with hin | hz
    · have : Inhabited (α × List Value) := Classical.inhabited_of_nonempty hin
      obtain ⟨Q, hQ⟩ := choose_lt key
      refine ⟨(List.range len).map fun i => (Q i).1, ?_, ?_, by simp [Value.oneCell']⟩
      · intro y hy
        obtain ⟨i, hi, rfl⟩ := List.mem_map.1 hy
        exact (hQ i (List.mem_range.1 hi)).1
      · simp only [VRL, VR]
        refine ⟨⟨some a, cap, by simp, by simpa using hl, hm, ?_, ?_, by simp⟩, trivial⟩
        · by_cases hz : len = 0
          · left; subst hz; simp
          · right
            have h00 := (World.cells?_some (hQ 0 (by omega)).2.2.2).2.2 0 h0
            have hlen := (World.cells?_some (hQ 0 (by omega)).2.2.2).2.1
            rw [List.getElem?_eq_getElem (by omega)] at h00
            have hsp := spot_of_cell h00
            obtain ⟨b, o, sp⟩ := a
            obtain rfl : sp = none := by simpa [Addr.add] using hsp
            refine ⟨b, o, rfl, ?_⟩
            have := VRG_of_rows (W := W) (g := b) (o := o) (sz := sz) (c := c) ((List.range len).map fun i => (Q i).1) (fun i => (Q i).2) 0 (fun y _ => hs y) ?_
            · simpa using this
            · intro i y hi
              rw [List.getElem?_map, Option.map_eq_some_iff] at hi
              obtain ⟨i', hi', rfl⟩ := hi
              obtain ⟨hlt, e1⟩ := List.getElem?_eq_some_iff.1 hi'
              simp only [List.length_range] at hlt
              simp only [List.getElem_range] at e1
              subst e1
              rw [Nat.zero_add]
              obtain ⟨-, q1, q2, q3⟩ := hQ i hlt
              refine ⟨q1, q2, fun j hj => ⟨?_, (World.cells?_some q3).2.1⟩⟩
              have := (World.cells?_some q3).2.2 j hj
              rw [← this, Addr.add_lit, Addr.add_lit]
        · intro y hy
          simp only [List.map_map, List.mem_map] at hy
          obtain ⟨i, -, rfl⟩ := hy
          exact hs _
    · subst hz
      refine ⟨[], by intro x hx; simp at hx, by simp only [VRL, VR]; exact ⟨⟨some a, cap, rfl, by simp, hm, by simp, by simp, by simp⟩, trivial⟩, by simp [Value.oneCell']⟩

/-- A struct that is handed in. -/
theorem Rd.agg {α : Type} {t : TypeId} {c : α → List AV} {g : α → Prop} {fs : Array Field} (r : Rd enc P W t c g) (ht : P.underlying t = some (.struct fs)) {v : Value} {d : DataW H} {ps : List MemPlace} {base : Nat} (hval : Value.okWide P W .any base t v)
    (h : DataW.Trod enc P W 0 (fun _ => true) true t v d ps) : ∃ a, g a ∧ VR (E0 W) W (.agg (c a)) v := by
  unfold Value.okWide at hval
  rw [ht] at hval
  obtain ⟨cs, rfl, -, -⟩ := hval
  obtain ⟨fuel, hf⟩ := h
  obtain ⟨a, ga, v1, -⟩ := r hf
  exact ⟨a, ga, by simp only [VR]; exact ⟨cs, rfl, v1⟩⟩
/-- A slice that is handed in. -/
theorem Rd.one {α : Type} {t e : TypeId} {c : α → AV} {g : α → Prop} (r : Rd enc P W t (fun a => [c a]) g) (ht : P.underlying t = some (.slice e)) {v : Value} {d : DataW H} {ps : List MemPlace} {base : Nat} (hval : Value.okWide P W .any base t v)
    (h : DataW.Trod enc P W 0 (fun _ => true) true t v d ps) : ∃ a, g a ∧ VR (E0 W) W (c a) v := by
  obtain ⟨a0, len0, cap0, rfl⟩ := okWide_slice ht hval
  obtain ⟨fuel, hf⟩ := h
  obtain ⟨a, ga, v1, -⟩ := r hf
  refine ⟨a, ga, ?_⟩
  simp only [Value.cells, VRL] at v1
  exact v1.1
/-- A number that is handed in. -/
theorem Rd.int {E : Env} {w : World} {t : TypeId} {v : Value} {d : DataW H} {ps : List MemPlace} {base : Nat} (ht : P.underlying t = some (.int .i64)) (hval : Value.okWide P W .any base t v)
    (h : DataW.Trod enc P W 0 (fun _ => true) true t v d ps) : ∃ n : Int, gI n ∧ VR E w (.sc (.int .i64 n)) v := by
  obtain ⟨n, h1, hw⟩ := VR_number (E := E) (w := w) ht hval h
  refine ⟨n, ?_, h1⟩
  simp only [Lit.wf, Bool.and_eq_true, decide_eq_true_eq] at hw
  rw [show IntKind.i64.min = -9223372036854775808 from by decide, show IntKind.i64.max = 9223372036854775807 from by decide] at hw
  unfold gI; omega
end
end Go.Vm
