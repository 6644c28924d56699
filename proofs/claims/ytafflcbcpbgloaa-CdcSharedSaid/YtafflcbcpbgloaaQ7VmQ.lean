/-
  A quick test for regions that draw their order and leave the heap alone.
-/
import Derived.Test.YtafflcbcpbgloaaQ7VmV
namespace Go.Vm

abbrev Sum := Option Nat × List Nat × List Nat
def summ (ops : Array Oper) (o : Oper) : Sum := (o.dst, o.looksAt ops, (o.after.toList.filter fun e => Region.binds .any e).map (·.on))
def apS (a b : Sum) : Bool :=
  (match a.1 with | some x => !(b.2.1.any (Nat.beq x)) && (match b.1 with | some y => !(Nat.beq x y) | none => true) | none => true) &&
  (match b.1 with | some y => !(a.2.1.any (Nat.beq y)) | none => true)
def lexS : Nat → List Sum → Bool
  | _, [] => true
  | k, a :: r => a.2.2.all (fun x => Nat.blt x k) && r.all (fun b => b.2.2.any (Nat.beq k) || apS a b) && lexS (k + 1) r

theorem any_beq {x : Nat} {l : List Nat} : l.any (Nat.beq x) = true ↔ x ∈ l := by
  rw [List.any_eq_true]
  constructor
  · rintro ⟨y, hy, e⟩
    rw [Nat.eq_of_beq_eq_true e]; exact hy
  · intro h
    exact ⟨x, h, Nat.beq_refl x⟩

theorem apS_apart {ops : Array Oper} {x y : Oper} (h : apS (summ ops x) (summ ops y) = true) : x.apart ops y = true := by
  simp only [apS, summ, Bool.and_eq_true] at h
  simp only [Oper.apart, Bool.and_eq_true]
  obtain ⟨h1, h2⟩ := h
  refine ⟨?_, ?_⟩
  · cases hx : x.dst with
    | none => rfl
    | some d =>
      rw [hx] at h1
      simp only [Bool.and_eq_true, Bool.not_eq_true'] at h1 ⊢
      refine ⟨?_, ?_⟩
      · cases e : (y.looksAt ops).contains d with
        | false => rfl
        | true =>
          have : d ∈ y.looksAt ops := by simpa using e
          rw [any_beq.2 this] at h1
          cases h1.1
      · cases hy : y.dst with
        | none => rfl
        | some d' =>
          rw [hy] at h1
          have h3 := h1.2
          simp only [bne_iff_ne, ne_eq, Option.some.injEq]
          intro e
          subst e
          simp at h3
  · cases hy : y.dst with
    | none => rfl
    | some d =>
      rw [hy] at h2
      simp only [Bool.not_eq_true'] at h2 ⊢
      cases e : (x.looksAt ops).contains d with
      | false => rfl
      | true =>
        have : d ∈ x.looksAt ops := by simpa using e
        rw [any_beq.2 this] at h2
        cases h2

def upto (n k : Nat) (S : Array Bool) : Prop := S.size = n ∧ ∀ j, j < n → S[j]? = some (decide (j < k))

theorem upto.getD {n k j : Nat} {S : Array Bool} (h : upto n k S) (hj : j < n) (b : Bool) : S.getD j b = decide (j < k) := by
  have := h.2 j hj
  rw [Array.getD_eq_getD_getElem?, this]; rfl

theorem lexS_from {ops : Array Oper} : ∀ (l : List Oper) (k : Nat) (S : Array Bool), (∀ j, l[j]? = ops[k + j]?) → k + l.length = ops.size → upto ops.size k S → lexS k (l.map (summ ops)) = true → Region.lexFrom .any ops l.length k S = true
  | [], k, S, _, hsz, hu, _ => by
    simp only [List.length_nil, Region.lexFrom, List.isEmpty_iff]
    cases e : Region.ready .any ops S with
    | nil => rfl
    | cons j r =>
      have hj : j ∈ Region.ready .any ops S := by rw [e]; simp
      obtain ⟨h1, o, ho, _⟩ := mem_ready.1 hj
      have hlt : j < ops.size := (Array.getElem?_eq_some_iff.1 ho).1
      rw [hu.getD hlt] at h1
      simp only [List.length_nil, Nat.add_zero] at hsz
      simp at h1
      omega
  | o :: l, k, S, hl, hsz, hu, hs => by
    have h0 : ops[k]? = some o := by simpa using (hl 0).symm
    have hk : k < ops.size := (Array.getElem?_eq_some_iff.1 h0).1
    simp only [List.map_cons, lexS, Bool.and_eq_true] at hs
    obtain ⟨⟨hs1, hs2⟩, hs3⟩ := hs
    simp only [List.length_cons, Region.lexFrom, Bool.and_eq_true]
    refine ⟨⟨?_, ?_⟩, ?_⟩
    · have : k ∈ Region.ready .any ops S := by
        refine mem_ready.2 ⟨by rw [hu.getD hk]; simp, o, h0, fun e he hb => ?_⟩
        have hon : e.on < k := by
          have := List.all_eq_true.1 hs1 e.on (by
            simp only [summ, List.mem_map, List.mem_filter]
            exact ⟨e, ⟨by simpa using he, hb⟩, rfl⟩)
          rwa [Nat.blt_eq] at this
        rw [hu.getD (by omega)]
        simpa using hon
      simpa using this
    · simp only [Region.free, h0, List.all_eq_true, List.mem_range]
      intro j hj
      simp only [Bool.or_eq_true, beq_iff_eq]
      by_cases e1 : j = k
      · exact .inl (.inl e1)
      · by_cases e2 : j < k
        · exact .inl (.inr (by rw [hu.getD hj]; simpa using e2))
        · right
          obtain ⟨q, rfl⟩ : ∃ q, j = k + (q + 1) := ⟨j - k - 1, by omega⟩
          have hlq := hl (q + 1)
          simp only [List.getElem?_cons_succ] at hlq
          have hlt : q < l.length := by simp only [List.length_cons] at hsz; omega
          rw [← hlq, List.getElem?_eq_getElem hlt]
          have := List.all_eq_true.1 hs2 (summ ops l[q]) (List.mem_map.2 ⟨l[q], List.getElem_mem hlt, rfl⟩)
          simp only [Bool.or_eq_true] at this ⊢
          rcases this with h1 | h1
          · left
            have h1 := any_beq.1 h1
            simp only [summ, List.mem_map, List.mem_filter] at h1
            obtain ⟨e, ⟨he, hb⟩, hon⟩ := h1
            rw [Array.any_eq_true']
            exact ⟨e, by simpa using he, by simp [hb, hon]⟩
          · exact .inr (apS_apart h1)
    · refine lexS_from l (k + 1) _ (fun j => by have := hl (j + 1); simpa [Nat.add_assoc, Nat.add_comm 1 j] using this) (by simp only [List.length_cons] at hsz; omega) ?_ hs3
      refine ⟨by simpa using hu.1, fun j hj => ?_⟩
      rw [Array.getElem?_setIfInBounds]
      by_cases e : k = j
      · subst e; simp [hu.1, hj]
      · rw [if_neg e, hu.2 j hj]
        congr 1
        by_cases q : j < k
        · simp [q, show j < k + 1 from by omega]
        · simp [q, show ¬ j < k + 1 from by omega]

theorem AW_region_q {P : Program} {Q : Exit → Fr → Heap → Prop} {fr : Fr} {h : Heap} {id : Nat} {l : List Oper} (sm : List Sum) (hm : P.follows .mixedOrders = true) (h1 : l.map (summ l.toArray) = sm) (h2 : lexS 0 sm = true)
    (hl : AQuiet P l.toArray h (fun fr' => Q .normal fr' h) l fr) : AW P (.region id l.toArray true) Q fr h := by
  intro E w a r v d
  refine wp_region_any hm ?_
  have hlex : Region.lexFrom .any l.toArray l.length 0 (Array.replicate l.toArray.size false) = true := by
    refine lexS_from l 0 _ (by simp) (by simp) ⟨by simp, fun j hj => ?_⟩ (by rw [h1]; exact h2)
    simp only [List.size_toArray] at hj
    simp [hj]
  have hA := AAny_lex (md := .any) l 0 (Array.replicate l.toArray.size false) fr (by simp) hlex hl
  obtain ⟨r', k⟩ := r.drewn (w.drawn + 1)
  have := AAny_sound l.length (Array.replicate l.toArray.size false) fr E { w with drawn := w.drawn + 1 } a hA r' (VRL_keep k _ _ v) d (fun e a' w' => Post E w (Q e) a' w') (fun a' w' p => (p.trans k).mono fun fr' h' q => by rw [q.2]; exact q.1)
  simpa using this
end Go.Vm
