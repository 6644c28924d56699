namespace Go.Proofs.Ytafflcbcpbgloaa
namespace Cdc
def stepR (r c : Nat) : Nat := (2 * r + (c + 1) * 2654435761) % 4294967296
def endsB (n r : Nat) : Bool := decide (64 ≤ n) || (decide (8 ≤ n) && decide (r / 268435456 = 0))
def nxtFrom (r n : Nat) : List Nat → Nat
  | [] => n
  | c :: l => if endsB (n + 1) (stepR r c) then n + 1 else nxtFrom (stepR r c) (n + 1) l
theorem nxt_drop (r n : Nat) (zs : List Nat) (k : Nat) (h : k < zs.length) :
    nxtFrom r n (zs.drop k) = if endsB (n + 1) (stepR r (zs.getD k 0)) then n + 1 else nxtFrom (stepR r (zs.getD k 0)) (n + 1) (zs.drop (k+1)) := by
  rw [List.drop_eq_getElem_cons h]
  simp [nxtFrom, List.getD, List.getElem?_eq_getElem h]
end Cdc
end Go.Proofs.Ytafflcbcpbgloaa
