/-
  Arrays of numbers; the bits of a number turned; a string out of bytes.
-/
import Derived.Test.YtafflcbcpbgloaaQ7VmArr
import Derived.Lib.AppendStr
namespace Go.Vm
section ops
variable {P : Program} {ops : Array Oper} {h h0 : Heap} {L : HL} {n : Nat} {kvs : KV} {l : List Oper} {ty : TypeId} {pos : String} {aft : Array Edge}
/-- Bytes to a string. -/
def bstr (l : List Int) : Option ByteArray := if (l.all fun z => decide (0 ≤ z) && decide (z < 256)) = true then some ⟨(l.map fun z => z.toNat.toUInt8).toArray⟩ else none
theorem strOf_b : ∀ {l : List Int}, (l.all fun z => decide (0 ≤ z) && decide (z < 256)) = true → strOf (l.map fun z => [AV.sc (.int .u8 z)]) = some (l.map fun z => z.toNat.toUInt8)
  | [], _ => rfl
  | z :: l, h => by
    simp only [List.all_cons, Bool.and_eq_true, decide_eq_true_eq] at h
    have ih := strOf_b (l := l) (by simpa using h.2)
    simp only [List.map_cons, strOf, ih]
    simp [h.1.1, h.1.2]
theorem o_bstr {c : Int → List AV} {dst : Option Tmp} {src dt e : TypeId} {x : Operand} {tag : Option Key} {l : List Int} {s : ByteArray} (hm : bstr l = some s) (hc : ∀ z, c z = [.sc (.int .u8 z)]) (hs : P.underlying src = some (.slice e)) (he : P.underlying e = some (.int .u8)) (hd : P.underlying dt = some .string)
    (hx : evk n kvs x = .sl tag 1 (l.map c)) : AOpV P ⟨dst, .convert src dt x, ty, pos, aft, none⟩ (.sc (.string s)) (fm n kvs) h := by
  unfold bstr at hm
  split at hm
  · rename_i hh
    cases hm
    have hcf : c = fun z => [.sc (.int .u8 z)] := funext hc
    subst hcf
    exact AOp_str rfl hs he hd (by rw [ev_fm]; exact hx) (strOf_b hh) ⟨rfl, rfl⟩
  · cases hm

/-- A literal []byte. -/
theorem a_cvown {K : AV → Heap → Prop} {α : Type} {c : α → List AV} {xs : List α} {dst : Option Tmp} {s : Operand} {t e el : TypeId} {sz : Nat} {tg : Option Key} (i : Nat) (hs : P.underlying t = some (.slice el)) (he : P.underlying el = some (.int .u8)) (hne : xs ≠ [])
    (ha : evk n kvs s = ow tg sz (xs.map c)) (hi : L[i]? = some (tg, .tok e sz (xs.length * sz))) (ot : tg = none → xs = []) (hk : HOk h0 L) (k : K (.sl none sz (xs.map c)) (hp h0 (L.eraseIdx i))) :
    AOp P ⟨dst, .convert t t s, ty, pos, aft, none⟩ K (fm n kvs) (hp h0 L) := by
  cases tg with
  | none => exact absurd (ot rfl) hne
  | some kk =>
    have hg := hp_get i hk hi
    refine AOp_conv_own rfl hs he (k := kk) (by rw [ev_fm]; exact ha) (by rw [hg, List.length_map]) ?_
    rw [← hp_eraseK i hk hi]
    exact k
end ops
end Go.Vm
