/-
  Plain laws: cutting; CdcShared.
-/
import Derived.Test.YtafflcbcpbgloaaQ7PlA
import Derived.Test.YtafflcbcpbgloaaQ7Xb
import Derived.Test.YtafflcbcpbgloaaQ7Reads
namespace Go.Proofs.Ytafflcbcpbgloaa
open Go.Vm

/-- A loop that stops, for something shrinks. -/
theorem loop_dec {S ρ : Type} {body : S → Option (Lp S ρ)} (I : S → Prop) (J : S → Prop) (m : S → Nat) (hb : ∀ s, I s → (∃ s', body s = some (.brk s') ∧ J s') ∨ ∃ s', body s = some (.go s') ∧ I s' ∧ m s' < m s) : ∀ (G : Nat) (s : S), I s → m s < G → ∃ s', loopM body G s = some (.brk s') ∧ J s'
  | 0, _, _, h => by omega
  | G + 1, s, hi, h => by
    unfold loopM
    rcases hb s hi with ⟨s', e, j⟩ | ⟨s', e, i', l⟩
    · rw [e]; exact ⟨s', rfl, j⟩
    · rw [e]; exact loop_dec I J m hb G s' i' (by omega)

theorem m15_loop {F : Nat} {b : List Int} (hb : b.length < 1000000) : ∀ (G i : Nat) (r : Int), i ≤ b.length → i ≤ 63 → 64 - i < G →
    (∃ k : Nat, loopM (fun s => M15_L0 F b s.1 s.2) G (r, (i : Int)) = some (.ret (k : Int)) ∧ i < k ∧ k ≤ b.length) ∨ ∃ s, loopM (fun s => M15_L0 F b s.1 s.2) G (r, (i : Int)) = some (.brk s)
  | 0, _, _, _, _, h => by omega
  | G + 1, i, r, h1, h2, h3 => by
    unfold loopM
    have w1 : IntKind.wrap .i64 ((i : Int) + 1) = ((i + 1 : Nat) : Int) := wr1 (by omega)
    by_cases hi : i < b.length
    · have hx : b[i]? = some b[i] := List.getElem?_eq_getElem hi
      unfold M15_L0
      simp only [ix_nat, hx, Option.bind_some, Int.ofNat_lt, hi, decide_true, if_true, w1]
      generalize IntKind.wrap .u32 ((IntKind.wrap .u32 (r * 2 ^ (min (1 : Int).toNat (IntKind.bits .u32)))) + (IntKind.wrap .u32 ((IntKind.wrap .u32 ((IntKind.wrap .u32 b[i]) + 1)) * 2654435761))) = r2
      by_cases h64 : (64 : Int) ≤ ((i + 1 : Nat) : Int)
      · simp only [h64, decide_true, if_true, after_brk]
        exact .inl ⟨i + 1, rfl, by omega, by omega⟩
      · simp only [h64, decide_false, Bool.false_eq_true, if_false]
        have go := m15_loop (F := F) hb G (i + 1) r2 (by omega) (by omega) (by omega)
        have fin : (∃ k : Nat, loopM (fun s => M15_L0 F b s.1 s.2) G (r2, ((i + 1 : Nat) : Int)) = some (.ret (k : Int)) ∧ i < k ∧ k ≤ b.length) ∨ ∃ s, loopM (fun s => M15_L0 F b s.1 s.2) G (r2, ((i + 1 : Nat) : Int)) = some (.brk s) := by
          rcases go with ⟨k, e1, e2, e3⟩ | ⟨s, e1⟩
          · exact .inl ⟨k, e1, by omega, e3⟩
          · exact .inr ⟨s, e1⟩
        by_cases h8 : (8 : Int) ≤ ((i + 1 : Nat) : Int)
        · simp only [h8, decide_true, if_true, after_brk]
          cases (r2.fdiv (2 ^ (min (28 : Int).toNat (IntKind.bits .u32))) == 0)
          · exact fin
          · exact .inl ⟨i + 1, rfl, by omega, by omega⟩
        · simp only [h8, decide_false, Bool.false_eq_true, if_false, after_brk]
          exact fin
    · right
      refine ⟨(r, (i : Int)), ?_⟩
      have : ¬ ((i : Int) < (b.length : Int)) := by omega
      unfold M15_L0
      simp only [this, decide_false, Bool.false_eq_true, if_false]
theorem m15 {F : Nat} {b : List Int} (hF : 1000 ≤ F) (hb : b.length < 1000000) : ∃ k : Nat, M15 F b = some (k : Int) ∧ k ≤ b.length ∧ (b ≠ [] → 0 < k) := by
  unfold M15
  rcases m15_loop (F := F) hb F 0 0 (by omega) (by omega) (by omega) with ⟨k, e1, e2, e3⟩ | ⟨s, e1⟩
  · have e1' : loopM (fun s => M15_L0 F b s.1 s.2) F (0, 0) = some (.ret (k : Int)) := e1
    rw [e1']
    exact ⟨k, rfl, e3, fun _ => e2⟩
  · have e1' : loopM (fun s => M15_L0 F b s.1 s.2) F (0, 0) = some (.brk s) := e1
    rw [e1']
    exact ⟨b.length, rfl, Nat.le_refl _, fun h => List.length_pos_iff.2 h⟩
def nx (F : Nat) (b : List Int) : Nat := match M15 F b with | some k => k.toNat | none => 0
theorem nx_spec {F : Nat} {b : List Int} (hF : 1000 ≤ F) (hb : b.length < 1000000) : M15 F b = some (nx F b : Int) ∧ nx F b ≤ b.length ∧ (b ≠ [] → 0 < nx F b) := by
  obtain ⟨k, e1, e2, e3⟩ := m15 hF hb
  have : nx F b = k := by unfold nx; rw [e1]; simp
  rw [this]
  exact ⟨e1, e2, e3⟩
/-- The chunks. -/
def cutF (F : Nat) : Nat → List Int → List (List Int)
  | 0, _ => []
  | n + 1, b => if b = [] then [] else b.take (nx F b) :: cutF F n (b.drop (nx F b))
theorem cutF_more {F : Nat} (hF : 1000 ≤ F) : ∀ (n m : Nat) (b : List Int), b.length < 1000000 → b.length ≤ n → b.length ≤ m → cutF F n b = cutF F m b
  | 0, 0, _, _, _, _ => rfl
  | 0, m + 1, b, _, h, _ => by
    have : b = [] := List.length_eq_zero_iff.1 (by omega)
    simp [cutF, this]
  | n + 1, 0, b, _, _, h => by
    have : b = [] := List.length_eq_zero_iff.1 (by omega)
    simp [cutF, this]
  | n + 1, m + 1, b, hb, h1, h2 => by
    unfold cutF
    by_cases e : b = []
    · simp [e]
    · obtain ⟨_, a2, a3⟩ := nx_spec hF hb
      have := a3 e
      rw [if_neg e, if_neg e, cutF_more hF n m _ (by rw [List.length_drop]; omega) (by rw [List.length_drop]; omega) (by rw [List.length_drop]; omega)]
def cut (F : Nat) (b : List Int) : List (List Int) := cutF F b.length b
theorem cut_nil (F : Nat) : cut F [] = [] := rfl
theorem cut_cons {F : Nat} {b : List Int} (hF : 1000 ≤ F) (hb : b.length < 1000000) (h : b ≠ []) : cut F b = b.take (nx F b) :: cut F (b.drop (nx F b)) := by
  obtain ⟨_, a2, a3⟩ := nx_spec hF hb
  have := a3 h
  have hl := List.length_pos_iff.2 h
  unfold cut
  cases e : b.length with
  | zero => omega
  | succ n =>
    rw [cutF, if_neg h, cutF_more hF n (b.drop (nx F b)).length _ (by rw [List.length_drop]; omega) (by rw [List.length_drop]; omega) (Nat.le_refl _)]
theorem cut_ind {F : Nat} (hF : 1000 ≤ F) {p : List Int → Prop} (h0 : p []) (h1 : ∀ b, b.length < 1000000 → b ≠ [] → p (b.drop (nx F b)) → p b) : ∀ (n : Nat) (b : List Int), b.length ≤ n → b.length < 1000000 → p b
  | 0, b, h, _ => by
    have : b = [] := List.length_eq_zero_iff.1 (by omega)
    rw [this]; exact h0
  | n + 1, b, h, hb => by
    by_cases e : b = []
    · rw [e]; exact h0
    · obtain ⟨_, a2, a3⟩ := nx_spec hF hb
      have := a3 e
      exact h1 b hb e (cut_ind hF h0 h1 n _ (by rw [List.length_drop]; omega) (by rw [List.length_drop]; omega))
theorem cut_flat {F : Nat} (hF : 1000 ≤ F) (b : List Int) (hb : b.length < 1000000) : (cut F b).flatten = b :=
  cut_ind hF (p := fun b => (cut F b).flatten = b) rfl (fun b hb e ih => by rw [cut_cons hF hb e, List.flatten_cons, ih, List.take_append_drop]) b.length b (Nat.le_refl _) hb
theorem cut_len {F : Nat} (hF : 1000 ≤ F) (b : List Int) (hb : b.length < 1000000) : (cut F b).length ≤ b.length :=
  cut_ind hF (p := fun b => (cut F b).length ≤ b.length) (Nat.le_refl _) (fun b hb e ih => by
    obtain ⟨_, a2, a3⟩ := nx_spec hF hb
    have := a3 e
    rw [cut_cons hF hb e, List.length_cons]
    rw [List.length_drop] at ih
    omega) b.length b (Nat.le_refl _) hb
theorem cut_suffix {F : Nat} (hF : 1000 ≤ F) (t : List Int) (ht : t.length < 1000000) : ∀ i, cut F ((cut F t).drop i).flatten = (cut F t).drop i :=
  cut_ind hF (p := fun t => t.length < 1000000 → ∀ i, cut F ((cut F t).drop i).flatten = (cut F t).drop i) (fun _ i => by rw [cut_nil]; simp [cut_nil]) (fun t ht h ih _ i => by
    cases i with
    | zero => rw [List.drop_zero, cut_flat hF t ht]
    | succ i =>
      rw [cut_cons hF ht h, List.drop_succ_cons]
      exact ih (by rw [List.length_drop]; omega) i) t.length t (Nat.le_refl _) ht ht
theorem flat_suffix {t : List Int} {l : List (List Int)} (h : l.flatten = t) (i : Nat) : ((l.drop i).flatten) = t.drop (t.length - (l.drop i).flatten.length) := by
  have e : (l.take i).flatten ++ (l.drop i).flatten = t := by rw [← List.flatten_append, List.take_append_drop, h]
  have e2 := congrArg List.length e
  rw [List.length_append] at e2
  rw [show t.length - (l.drop i).flatten.length = (l.take i).flatten.length from by omega]
  conv => rhs; rw [← e]
  rw [List.drop_left]
theorem cut_shared {F : Nat} (hF : 1000 ≤ F) (a b rest : List Int) (ha : (a ++ rest).length < 1000000) (hb : (b ++ rest).length < 1000000) (i j p : Nat) (hi : ((cut F (a ++ rest)).drop i).flatten.length = p) (hj : ((cut F (b ++ rest)).drop j).flatten.length = p) (hp : p ≤ rest.length) : (cut F (a ++ rest)).drop i = (cut F (b ++ rest)).drop j := by
  have key : ∀ (c : List Int) (i : Nat), (c ++ rest).length < 1000000 → ((cut F (c ++ rest)).drop i).flatten.length = p → ((cut F (c ++ rest)).drop i).flatten = rest.drop (rest.length - p) := by
    intro c i hc h
    have := flat_suffix (cut_flat hF (c ++ rest) hc) i
    rw [h] at this
    rw [this, List.length_append, show c.length + rest.length - p = c.length + (rest.length - p) from by omega, ← List.drop_drop, List.drop_left]
  have h1 := cut_suffix hF (a ++ rest) ha i
  have h2 := cut_suffix hF (b ++ rest) hb j
  rw [key a i ha hi] at h1
  rw [key b j hb hj] at h2
  rw [← h1, ← h2]
theorem slc_pre {α : Type} {l : List α} {k : Nat} (h : k ≤ l.length) : slc l 0 (k : Int) = some (l.take k) := by
  unfold slc
  rw [if_pos ⟨Int.le_refl _, by omega, by omega⟩]
  simp
theorem slc_suf {α : Type} {l : List α} {k : Nat} (h : k ≤ l.length) : slc l (k : Int) (l.length : Int) = some (l.drop k) := by
  unfold slc
  rw [if_pos ⟨by omega, by omega, Int.le_refl _⟩]
  simp
theorem m12 {F : Nat} {b : List Int} (hF : 10000 ≤ F) (hb : b.length ≤ 9000) : M12 F b = some (cut F b, 0) := by
  unfold M12
  have n0 : ¬ ((32768 : Int) < (b.length : Int)) := by omega
  rw [if_neg (by simpa using n0)]
  obtain ⟨s, e1, e2⟩ := loop_dec (body := fun s : List (List Int) × List Int => M12_L0 F s.1 s.2) (ρ := List (List Int) × Int) (fun s => s.2.length ≤ 9000 ∧ s.1.length + s.2.length ≤ 9000 ∧ s.1 ++ cut F s.2 = cut F b) (fun s => s.1 = cut F b) (fun s => s.2.length) (fun s hs => by
    obtain ⟨acc, t⟩ := s
    obtain ⟨h1, h2, h3⟩ := hs
    simp only at h1 h2 h3
    unfold M12_L0
    by_cases e : t = []
    · left
      subst e
      refine ⟨_, rfl, ?_⟩
      rw [cut_nil, List.append_nil] at h3
      exact h3
    · right
      obtain ⟨a1, a2, a3⟩ := nx_spec (F := F) (b := t) (by omega) (by omega)
      have a4 := a3 e
      have hp : (0 : Int) < (t.length : Int) := by omega
      simp only [hp, decide_true, if_true, a1, Option.bind_some, slc_pre a2, slc_suf a2]
      unfold M24
      rw [app_some (by simp; omega)]
      simp only [Option.bind_some, List.nil_append]
      rw [app_some (by simp; omega)]
      simp only [Option.bind_some]
      refine ⟨_, rfl, ⟨by simp; omega, by simp; omega, ?_⟩, by simp; omega⟩
      rw [List.append_assoc, ← h3, cut_cons (F := F) (by omega) (by omega) e]
      rfl) F ([], b) ⟨by simpa using hb, by simpa using hb, by simp⟩ (by simp; omega)
  rw [e1]
  show some (s.1, (0 : Int)) = _
  rw [e2]
theorem m11 {F : Nat} {l : List Int} (hl : l.length ≤ 1000000) : M11 F l = some l := by unfold M11; rw [app_some (by simp; omega)]; simp
theorem m18 {F : Nat} {l : List Int} (hF : 10000 ≤ F) (hl : l.length ≤ 9000) : M18 F l l = some true := by
  unfold M18
  rw [if_neg (by simp)]
  obtain ⟨s, e1, -⟩ := loop_dec (body := fun s : Int => M18_L0 F l l s) (ρ := Bool) (fun s => 0 ≤ s ∧ s ≤ l.length) (fun _ => True) (fun s => (l.length - s).toNat) (fun s hs => by
    unfold M18_L0
    by_cases h : s < (l.length : Int)
    · right
      have hx : ix l s = some l[s.toNat] := by rw [ix_pos l hs.1]; exact List.getElem?_eq_getElem (by omega)
      rw [wr (by omega) (by omega)]
      simp only [h, decide_true, if_true, hx, Option.bind_some, bne_self_eq_false, Bool.false_eq_true, if_false]
      exact ⟨_, rfl, ⟨by omega, by omega⟩, by omega⟩
    · left
      simp only [h, decide_false, Bool.false_eq_true, if_false]
      exact ⟨_, rfl, trivial⟩) F 0 ⟨by omega, by omega⟩ (by omega)
  rw [e1]
  rfl
theorem m19 : M19 10000 = some true := by decide +kernel
theorem flat_mem {l : List (List Int)} {x : List Int} (h : x ∈ l) : x.length ≤ l.flatten.length := by
  induction l with
  | nil => cases h
  | cons y l ih =>
    rw [List.flatten_cons, List.length_append]
    rcases List.mem_cons.1 h with rfl | h
    · omega
    · have := ih h; omega
theorem drop_pred {l : List (List Int)} {i : Nat} (h : i < l.length) : (l.drop i).flatten.length = l[i].length + (l.drop (i + 1)).flatten.length := by
  rw [List.drop_eq_getElem_cons h, List.flatten_cons, List.length_append]
theorem cdc_shared {a b rest : List Int} : M7 10000 a b rest = some true := by
  have hF : 10000 ≤ 10000 := Nat.le_refl _
  unfold M7
  by_cases h1 : (1500 : Int) < (a.length : Int)
  · simp [h1, after]
  by_cases h2 : (1500 : Int) < (b.length : Int)
  · simp [h1, h2, after]
  by_cases h3 : (1500 : Int) < (rest.length : Int)
  · simp [h1, h2, h3, after]
  simp only [h1, h2, h3, decide_false, Bool.false_eq_true, if_false, after_brk, m11 (F := 10000) (show a.length ≤ 1000000 by omega), m11 (F := 10000) (show b.length ≤ 1000000 by omega), Option.bind_some]
  rw [app_some (by omega), app_some (by omega)]
  simp only [Option.bind_some]
  rw [m12 hF (by rw [List.length_append]; omega), m12 hF (by rw [List.length_append]; omega)]
  have la : (a ++ rest).length < 1000000 := by rw [List.length_append]; omega
  have lb : (b ++ rest).length < 1000000 := by rw [List.length_append]; omega
  have share := cut_shared (F := 10000) (by omega) a b rest la lb
  have fx := cut_flat (F := 10000) (by omega) (a ++ rest) la
  have fy := cut_flat (F := 10000) (by omega) (b ++ rest) lb
  have nx1 := cut_len (F := 10000) (by omega) (a ++ rest) la
  have ny1 := cut_len (F := 10000) (by omega) (b ++ rest) lb
  rw [List.length_append] at nx1 ny1
  have fxl := congrArg List.length fx
  have fyl := congrArg List.length fy
  rw [List.length_append] at fxl fyl
  generalize cut 10000 (a ++ rest) = x at share nx1 fxl
  generalize cut 10000 (b ++ rest) = y at share ny1 fyl
  have bnd : ∀ (l : List (List Int)) (k : Nat), (l.drop k).flatten.length ≤ l.flatten.length := by
    intro l k
    have : (l.take k).flatten ++ (l.drop k).flatten = l.flatten := by rw [← List.flatten_append, List.take_append_drop]
    have := congrArg List.length this
    rw [List.length_append] at this
    omega
  simp only [Option.bind_some, bne_self_eq_false, Bool.false_eq_true, if_false, after_brk]
  obtain ⟨s, e1, -⟩ := loop_dec (body := fun s : Int × Int × Int × Int => M7_L0 10000 rest (x, 0) (y, 0) s.1 s.2.1 s.2.2.1 s.2.2.2) (ρ := Bool)
    (fun s => ∃ i j : Nat, i ≤ x.length ∧ j ≤ y.length ∧ s.1 = (i : Int) ∧ s.2.1 = (j : Int) ∧ s.2.2.1 = ((x.drop i).flatten.length : Int) ∧ s.2.2.2 = ((y.drop j).flatten.length : Int)) (fun _ => True) (fun s => (s.1 + s.2.1).toNat) (fun s hs => by
      obtain ⟨s1, s2, s3, s4⟩ := s
      obtain ⟨i, j, hi, hj, rfl, rfl, rfl, rfl⟩ := hs
      unfold M7_L0
      by_cases c1 : (0 : Int) < (i : Int)
      rotate_left
      · left
        simp only [c1, decide_false, Bool.false_eq_true, if_false, after_brk]
        exact ⟨_, rfl, trivial⟩
      by_cases c2 : (0 : Int) < (j : Int)
      rotate_left
      · left
        simp only [c1, c2, decide_false, decide_true, Bool.false_eq_true, if_true, if_false, after_brk]
        exact ⟨_, rfl, trivial⟩
      simp only [c1, c2, decide_true, if_true, after_brk]
      -- the comparing part goes through
      have mid : ∀ K : Unit → Option (Lp (Int × Int × Int × Int) Bool), (after (if (((x.drop i).flatten.length : Int) == ((y.drop j).flatten.length : Int)) = true then (if decide (((x.drop i).flatten.length : Int) ≤ (rest.length : Int)) = true then some (.brk (decide ((0 : Int) < ((x.drop i).flatten.length : Int)))) else some (.brk false)) else some (.brk false) : Option (Lp Bool (Lp (Int × Int × Int × Int) Bool))) fun j404 => after (if j404 = true then (after (loopM (fun s => M7_L2 10000 (x, 0) (y, 0) (i : Int) (j : Int) s) 10000 0) fun _ => if (IntKind.wrap .i64 ((x.length : Int) - (i : Int)) != IntKind.wrap .i64 ((y.length : Int) - (j : Int))) = true then some (.ret (.ret false)) else some (.brk ())) else some (.brk ()) : Option (Lp Unit (Lp (Int × Int × Int × Int) Bool))) K) = K () := by
        intro K
        by_cases t1 : (x.drop i).flatten.length = (y.drop j).flatten.length
        rotate_left
        · have : ((((x.drop i).flatten.length : Nat) : Int) == (((y.drop j).flatten.length : Nat) : Int)) = false := by simpa using (by omega : ¬ (((x.drop i).flatten.length : Nat) : Int) = (((y.drop j).flatten.length : Nat) : Int))
          simp only [this, Bool.false_eq_true, if_false, after_brk]
        by_cases t2 : (x.drop i).flatten.length ≤ rest.length
        rotate_left
        · have : ¬ ((((x.drop i).flatten.length : Nat) : Int) ≤ (rest.length : Int)) := by omega
          simp only [t1, beq_self_eq_true, if_true] at this ⊢
          simp only [this, decide_false, Bool.false_eq_true, if_false, after_brk]
        have hd := share i j _ rfl t1.symm t2
        have hl := congrArg List.length hd
        rw [List.length_drop, List.length_drop] at hl
        have t2' : (((y.drop j).flatten.length : Nat) : Int) ≤ (rest.length : Int) := by omega
        simp only [t1, beq_self_eq_true, if_true, t2', decide_true, after_brk]
        cases decide ((0 : Int) < (((y.drop j).flatten.length : Nat) : Int))
        · simp only [Bool.false_eq_true, if_false, after_brk]
        · simp only [if_true]
          obtain ⟨s, e1, -⟩ := loop_dec (body := fun s : Int => M7_L2 10000 (x, 0) (y, 0) (i : Int) (j : Int) s) (ρ := Lp Unit (Lp (Int × Int × Int × Int) Bool)) (fun s => ∃ k : Nat, s = (k : Int) ∧ i + k ≤ x.length) (fun _ => True) (fun s => (x.length - s).toNat) (fun s hs => by
            obtain ⟨k, rfl, hk⟩ := hs
            unfold M7_L2
            have w1 : IntKind.wrap .i64 ((i : Int) + (k : Int)) = ((i + k : Nat) : Int) := by rw [wr (by omega) (by omega)]; omega
            have w2 : IntKind.wrap .i64 ((j : Int) + (k : Int)) = ((j + k : Nat) : Int) := by rw [wr (by omega) (by omega)]; omega
            have w3 : IntKind.wrap .i64 ((k : Int) + 1) = ((k + 1 : Nat) : Int) := wr1 (by omega)
            simp only [w1, w2, w3, ix_nat]
            by_cases hlt : i + k < x.length
            · right
              have g1 : x[i + k]? = some x[i + k] := List.getElem?_eq_getElem hlt
              have g2 : y[j + k]? = x[i + k]? := by
                rw [← List.getElem?_drop, ← List.getElem?_drop, hd]
              have n1 : ((i + k : Nat) : Int) < (x.length : Int) := by omega
              have n2 : ((j + k : Nat) : Int) < (y.length : Int) := by omega
              have hb : (x[i + k]).length ≤ 9000 := by
                have := flat_mem (l := x) (List.getElem_mem hlt)
                omega
              simp only [n1, n2, decide_true, if_true, after_brk, g2, g1, Option.bind_some, m18 hF hb, Bool.not_true, Bool.false_eq_true, if_false]
              exact ⟨_, rfl, ⟨k + 1, rfl, by omega⟩, by omega⟩
            · left
              have n1 : ¬ (((i + k : Nat) : Int) < (x.length : Int)) := by omega
              simp only [n1, decide_false, Bool.false_eq_true, if_false, after_brk]
              exact ⟨_, rfl, trivial⟩) 10000 0 ⟨0, rfl, by omega⟩ (by omega)
          rw [e1]
          have w4 : IntKind.wrap .i64 ((x.length : Int) - (i : Int)) = IntKind.wrap .i64 ((y.length : Int) - (j : Int)) := by
            rw [wr (by omega) (by omega), wr (by omega) (by omega)]; omega
          simp only [after_brk, w4, bne_self_eq_false, Bool.false_eq_true, if_false]
      rw [mid]
      have bx := bnd x (i - 1)
      have by' := bnd y (j - 1)
      have wi : IntKind.wrap .i64 ((i : Int) - 1) = ((i - 1 : Nat) : Int) := wr_1 (by omega) (by omega)
      have wj : IntKind.wrap .i64 ((j : Int) - 1) = ((j - 1 : Nat) : Int) := wr_1 (by omega) (by omega)
      have fin : ∀ (u : Int × Int × Int × Int), (∃ i' j' : Nat, i' ≤ x.length ∧ j' ≤ y.length ∧ u.1 = (i' : Int) ∧ u.2.1 = (j' : Int) ∧ u.2.2.1 = ((x.drop i').flatten.length : Int) ∧ u.2.2.2 = ((y.drop j').flatten.length : Int)) → (u.1 + u.2.1).toNat < ((i : Int) + (j : Int)).toNat →
          (∃ s', (after (if decide ((rest.length : Int) < u.2.2.1) = true then some (.brk true) else some (.brk (decide ((rest.length : Int) < u.2.2.2))) : Option (Lp Bool (Lp (Int × Int × Int × Int) Bool))) fun j556 => if j556 = true then some (Lp.brk (ρ := Bool) u) else some (.go u)) = some (.brk s') ∧ True) ∨
          ∃ s', (after (if decide ((rest.length : Int) < u.2.2.1) = true then some (.brk true) else some (.brk (decide ((rest.length : Int) < u.2.2.2))) : Option (Lp Bool (Lp (Int × Int × Int × Int) Bool))) fun j556 => if j556 = true then some (Lp.brk (ρ := Bool) u) else some (.go u)) = some (.go s') ∧ (∃ i' j' : Nat, i' ≤ x.length ∧ j' ≤ y.length ∧ s'.1 = (i' : Int) ∧ s'.2.1 = (j' : Int) ∧ s'.2.2.1 = ((x.drop i').flatten.length : Int) ∧ s'.2.2.2 = ((y.drop j').flatten.length : Int)) ∧ (s'.1 + s'.2.1).toNat < ((i : Int) + (j : Int)).toNat := by
        intro u hu hm
        cases decide ((rest.length : Int) < u.2.2.1)
        · simp only [Bool.false_eq_true, if_false, after_brk]
          cases decide ((rest.length : Int) < u.2.2.2)
          · right; exact ⟨u, by simp, hu, hm⟩
          · left; exact ⟨u, by simp, trivial⟩
        · left; exact ⟨u, by simp [after], trivial⟩
      by_cases hpq : (((x.drop i).flatten.length : Nat) : Int) ≤ (((y.drop j).flatten.length : Nat) : Int)
      · have g1 : x[i - 1]? = some x[i - 1] := List.getElem?_eq_getElem (by omega)
        have hdp := drop_pred (l := x) (i := i - 1) (by omega)
        rw [show i - 1 + 1 = i from by omega] at hdp
        have w5 : IntKind.wrap .i64 ((((x.drop i).flatten.length : Nat) : Int) + (((x[i - 1]).length : Nat) : Int)) = (((x.drop (i - 1)).flatten.length : Nat) : Int) := by rw [wr (by omega) (by omega)]; omega
        simp only [hpq, decide_true, if_true, wi, ix_nat, g1, Option.bind_some, after_brk, w5]
        exact fin (((i - 1 : Nat) : Int), (j : Int), (((x.drop (i - 1)).flatten.length : Nat) : Int), (((y.drop j).flatten.length : Nat) : Int)) ⟨i - 1, j, by omega, hj, rfl, rfl, rfl, rfl⟩ (by show (((i - 1 : Nat) : Int) + (j : Int)).toNat < _; omega)
      · have g1 : y[j - 1]? = some y[j - 1] := List.getElem?_eq_getElem (by omega)
        have hdp := drop_pred (l := y) (i := j - 1) (by omega)
        rw [show j - 1 + 1 = j from by omega] at hdp
        have w5 : IntKind.wrap .i64 ((((y.drop j).flatten.length : Nat) : Int) + (((y[j - 1]).length : Nat) : Int)) = (((y.drop (j - 1)).flatten.length : Nat) : Int) := by rw [wr (by omega) (by omega)]; omega
        simp only [hpq, decide_false, Bool.false_eq_true, if_false, wj, ix_nat, g1, Option.bind_some, after_brk, w5]
        exact fin ((i : Int), ((j - 1 : Nat) : Int), (((x.drop i).flatten.length : Nat) : Int), (((y.drop (j - 1)).flatten.length : Nat) : Int)) ⟨i, j - 1, hi, by omega, rfl, rfl, rfl, rfl⟩ (by show ((i : Int) + ((j - 1 : Nat) : Int)).toNat < _; omega)) 10000 ((x.length : Int), (y.length : Int), 0, 0) ⟨x.length, y.length, Nat.le_refl _, Nat.le_refl _, rfl, rfl, by simp, by simp⟩ (by simp; omega)
  rw [e1]
  simp only [after_brk, m19, Option.bind_some]
theorem cdc_shared3 {a b rest : List Int} (_ : gL gB a) (_ : gL gB b) (_ : gL gB rest) : M7 10000 a b rest = some true := cdc_shared
end Go.Proofs.Ytafflcbcpbgloaa
