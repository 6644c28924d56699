import Derived.Test.YtafflcbcpbgloaaCdcCut
namespace Go.Proofs.Ytafflcbcpbgloaa
namespace Cdc
theorem nxt_app (b : List Nat) (a : List Nat) : ∀ r n, nxtFrom r n a < n + a.length → nxtFrom r n (a ++ b) = nxtFrom r n a := by
  induction a with
  | nil => intro r n h; simp [nxtFrom] at h
  | cons c a ih =>
    intro r n h
    simp only [List.cons_append, nxtFrom] at h ⊢
    split
    · rfl
    · rename_i e
      rw [if_neg e, List.length_cons] at h
      exact ih _ _ (by omega)

theorem cut_pos {l : List Nat} (h : l ≠ []) : 1 ≤ (cut l).length := by rw [cut_cons h, List.length_cons]; omega

theorem cut_app (b : List Nat) : ∀ a : List Nat, (cut a).length ≤ (cut (a ++ b)).length ∧ ∀ i, i + 1 < (cut a).length → (cut (a ++ b)).getD i [] = (cut a).getD i [] := by
  refine cut_ind ⟨by rw [cut_nil]; simp, fun i h => by rw [cut_nil] at h; simp at h⟩ ?_
  intro a h ih
  have hne : a ++ b ≠ [] := by simp [h]
  have hle := nxt_le a 0 0
  by_cases hn : nxtFrom 0 0 a = a.length
  · have e : cut a = [a] := by
      rw [cut_cons h]
      show a.take (nxtFrom 0 0 a) :: cut (a.drop (nxtFrom 0 0 a)) = [a]
      rw [hn, List.take_length, List.drop_length, cut_nil]
    rw [e]
    exact ⟨cut_pos hne, fun i hi => by simp at hi⟩
  · have hn' : nxtFrom 0 0 (a ++ b) = nxtFrom 0 0 a := nxt_app b a 0 0 (by omega)
    have e1 : cut (a ++ b) = a.take (nxtFrom 0 0 a) :: cut (a.drop (nxtFrom 0 0 a) ++ b) := by
      rw [cut_cons hne]
      show (a ++ b).take (nxtFrom 0 0 (a ++ b)) :: cut ((a ++ b).drop (nxtFrom 0 0 (a ++ b))) = _
      rw [hn', List.take_append_of_le_length (by omega), List.drop_append_of_le_length (by omega)]
    have e2 : cut a = a.take (nxtFrom 0 0 a) :: cut (a.drop (nxtFrom 0 0 a)) := cut_cons h
    rw [e1, e2]
    refine ⟨by simpa using ih.1, fun i hi => ?_⟩
    cases i with
    | zero => rfl
    | succ i => simpa using ih.2 i (by simpa using hi)

/-- What stands behind a cut is cut as alone. -/
theorem cut_suffix : ∀ t : List Nat, ∀ i, cut ((cut t).drop i).flatten = (cut t).drop i := by
  refine cut_ind (fun i => by rw [cut_nil]; simp [cut_nil]) ?_
  intro t h ih i
  cases i with
  | zero => rw [List.drop_zero, cut_flat]
  | succ i =>
    have e : cut t = t.take (nxt t) :: cut (t.drop (nxt t)) := cut_cons h
    rw [e, List.drop_succ_cons]
    exact ih i

theorem flat_suffix {t : List Nat} {l : List (List Nat)} (h : l.flatten = t) (i : Nat) : ((l.drop i).flatten) = t.drop (t.length - (l.drop i).flatten.length) := by
  have e : (l.take i).flatten ++ (l.drop i).flatten = t := by rw [← List.flatten_append, List.take_append_drop, h]
  have e2 := congrArg List.length e
  rw [List.length_append] at e2
  rw [show t.length - (l.drop i).flatten.length = (l.take i).flatten.length from by omega]
  conv => rhs; rw [← e]
  rw [List.drop_left]

/-- Two texts with the same end: where both are cut at the same distance from the end, all behind it is alike. -/
theorem cut_shared (a b rest : List Nat) (i j p : Nat) (hi : ((cut (a ++ rest)).drop i).flatten.length = p) (hj : ((cut (b ++ rest)).drop j).flatten.length = p) (hp : p ≤ rest.length) : (cut (a ++ rest)).drop i = (cut (b ++ rest)).drop j := by
  have key : ∀ (c : List Nat) (i : Nat), ((cut (c ++ rest)).drop i).flatten.length = p → ((cut (c ++ rest)).drop i).flatten = rest.drop (rest.length - p) := by
    intro c i h
    have := flat_suffix (cut_flat (c ++ rest)) i
    rw [h] at this
    rw [this, List.length_append, show c.length + rest.length - p = c.length + (rest.length - p) from by omega, ← List.drop_drop, List.drop_left]
  have h1 := cut_suffix (a ++ rest) i
  have h2 := cut_suffix (b ++ rest) j
  rw [key a i hi] at h1
  rw [key b j hj] at h2
  rw [← h1, ← h2]
end Cdc
end Go.Proofs.Ytafflcbcpbgloaa
