/-
  Plain laws: ids u numbers.
-/
import Derived.Test.YtoomgangpjcaoaaK7PlB
import Derived.Lib.Bytealg
set_option linter.unusedSimpArgs false
set_option linter.unusedVariables false
namespace Go.Proofs.Ytoomgangpjcaoaa
open Go.Vm Go.Lib

def key : List Int → Int
  | [] => 0
  | a :: u => a * 256 ^ u.length + key u
theorem key_lt : ∀ {l : List Int}, gL gB l → 0 ≤ key l ∧ key l < 256 ^ l.length
  | [], _ => by simp [key]
  | a :: u, h => by
    have ⟨h1, h2⟩ := h a (by simp)
    have ⟨h3, h4⟩ := key_lt (l := u) fun x hx => h x (by simp [hx])
    have hp : (0 : Int) < 256 ^ u.length := Int.pow_pos (by decide)
    simp only [key, List.length_cons, Int.pow_succ]
    have : a * 256 ^ u.length ≤ 255 * 256 ^ u.length := Int.mul_le_mul_of_nonneg_right (by omega) (by omega)
    have : 0 ≤ a * 256 ^ u.length := Int.mul_nonneg h1 (by omega)
    omega
theorem key_cmp {a b : Int} {u v : List Int} (hl : u.length = v.length) (ha : gL gB (a :: u)) (hb : gL gB (b :: v)) :
    (a < b → key (a :: u) < key (b :: v)) ∧ (a = b → (key (a :: u) < key (b :: v) ↔ key u < key v) ∧ (key (a :: u) = key (b :: v) ↔ key u = key v)) := by
  have ⟨h3, h4⟩ := key_lt (l := u) fun x hx => ha x (by simp [hx])
  have ⟨h5, h6⟩ := key_lt (l := v) fun x hx => hb x (by simp [hx])
  simp only [key]
  rw [hl] at h4 ⊢
  generalize (256 : Int) ^ v.length = q at h4 h6
  constructor
  · intro h
    have : (a + 1) * q ≤ b * q := Int.mul_le_mul_of_nonneg_right (by omega) (by omega)
    rw [Int.add_mul] at this
    omega
  · rintro rfl
    omega
theorem key_inj : ∀ {a b : List Int}, a.length = b.length → gL gB a → gL gB b → key a = key b → a = b
  | [], [], _, _, _, _ => rfl
  | x :: u, y :: v, hl, ha, hb, h => by
    have hl' : u.length = v.length := by simpa using hl
    obtain ⟨h1, h2⟩ := key_cmp hl' ha hb
    obtain ⟨h3, -⟩ := key_cmp hl'.symm hb ha
    rcases Int.lt_trichotomy x y with q | q | q
    · have := h1 q; omega
    · subst q
      rw [key_inj hl' (fun z hz => ha z (by simp [hz])) (fun z hz => hb z (by simp [hz])) ((h2 rfl).2.1 h)]
    · have := h3 q; omega

theorem bA_toList (xs : List Int) : (bA xs).data.toList = xs.map fun z => z.toNat.toUInt8 := by
  have : ∀ (xs : List Int) (acc : ByteArray), (xs.foldl (fun acc z => acc.push z.toNat.toUInt8) acc).data.toList = acc.data.toList ++ xs.map fun z => z.toNat.toUInt8 := by
    intro xs
    induction xs with
    | nil => simp
    | cons x xs ih => intro acc; rw [List.foldl_cons, ih]; simp [ByteArray.push]
  rw [bA, this]
  rfl

theorem u8_lt {a b : Int} (ha : gB a) (hb : gB b) : a.toNat.toUInt8 < b.toNat.toUInt8 ↔ a < b := by
  unfold gB at ha hb
  rw [UInt8.lt_iff_toNat_lt]
  simp only [Nat.toUInt8, UInt8.toNat_ofNat']
  omega

theorem cmpI_key : ∀ {a b : List Int}, a.length = b.length → gL gB a → gL gB b → compareBytes (a.map fun z => z.toNat.toUInt8) (b.map fun z => z.toNat.toUInt8) = if key a < key b then -1 else if key b < key a then 1 else 0
  | [], [], _, _, _ => by simp [compareBytes, key]
  | x :: u, y :: v, hl, ha, hb => by
    have hl' : u.length = v.length := by simpa using hl
    obtain ⟨h1, h2⟩ := key_cmp hl' ha hb
    obtain ⟨h3, h4⟩ := key_cmp hl'.symm hb ha
    have hx := ha x (by simp)
    have hy := hb y (by simp)
    simp only [List.map_cons, compareBytes, u8_lt hx hy, u8_lt hy hx]
    rcases Int.lt_trichotomy x y with q | q | q
    · rw [if_pos q, if_pos (h1 q)]
    · subst q
      rw [if_neg (by omega), if_neg (by omega), cmpI_key hl' (fun z hz => ha z (by simp [hz])) (fun z hz => hb z (by simp [hz]))]
      simp only [(h2 rfl).1, (h4 rfl).1]
    · rw [if_neg (by omega), if_pos q, if_neg (by have := h3 q; omega), if_pos (h3 q)]

def gId (x : Id32) : Prop := gL gB x.1
def ky (x : Id32) : Int := key x.1
theorem ky_inj {a b : Id32} (ha : gId a) (hb : gId b) (h : ky a = ky b) : a = b := Subtype.ext (key_inj (by rw [a.2, b.2]) ha hb h)
theorem m111 (F : Nat) {a b : Id32} (ha : gId a) (hb : gId b) : M111 F a b = some (if ky a < ky b then -1 else if ky b < ky a then 1 else 0) := by
  unfold M111 cmpI ky
  rw [cmp_eq, bA_toList, bA_toList, cmpI_key (by rw [a.2, b.2]) ha hb]

theorem before_key : ∀ (n : Nat) {a b : List Int}, a.length = n → b.length = n → gL gB a → gL gB b →
    (match (List.range n).find? fun i => a.getD i 0 != b.getD i 0 with | none => false | some i => decide (a.getD i 0 < b.getD i 0)) = decide (key a < key b)
  | 0, [], [], _, _, _, _ => by simp [key]
  | n + 1, x :: u, y :: v, h1, h2, ha, hb => by
    have hl' : u.length = v.length := by simp at h1 h2; omega
    obtain ⟨k1, k2⟩ := key_cmp hl' ha hb
    obtain ⟨k3, k4⟩ := key_cmp hl'.symm hb ha
    have ih := before_key n (a := u) (b := v) (by simpa using h1) (by simpa using h2) (fun z hz => ha z (by simp [hz])) (fun z hz => hb z (by simp [hz]))
    rw [find_range_succ]
    simp only [List.getD_cons_zero, List.getD_cons_succ]
    by_cases q : x = y
    · subst q
      simp only [bne_self_eq_false, Bool.false_eq_true, if_false, (k2 rfl).1]
      rw [← ih]
      cases (List.range n).find? fun i => u.getD i 0 != v.getD i 0 with
      | none => rfl
      | some i => simp only [Option.map_some, List.getD_cons_succ]
    · have hne : (x != y) = true := by simpa using q
      simp only [hne, if_true, List.getD_cons_zero]
      rcases Int.lt_trichotomy x y with w | w | w
      · have := k1 w; simp [w, this]
      · exact absurd w q
      · have := k3 w
        simp; constructor <;> intro <;> omega

theorem before_loop {F : Nat} {a b : Id32} (body : Int → Option (Lp Int Bool)) (hF : 1000 ≤ F) (ha : gId a) (hb : gId b)
    (h : ∀ i : Nat, body i = if decide ((i : Int) < 32) = true then ((ix a.1 i).bind fun x48 => (ix b.1 i).bind fun x50 => if (x48 != x50) = true then ((ix a.1 i).bind fun x54 => (ix b.1 i).bind fun x56 => some (.ret (decide (x54 < x56)))) else some (.go (IntKind.wrap .i64 (i + 1)))) else some (.brk (i : Int))) :
    (after (loopM body F 0) fun _ => some false) = some (decide (ky a < ky b)) := by
  rw [loop_ff (s0 := (0 : Int)) (n := 32) (F := F) (fun i : Nat => (i : Int)) (fun i => a.1.getD i 0 != b.1.getD i 0) (fun i => decide (a.1.getD i 0 < b.1.getD i 0)) (by omega) rfl]
  · have := before_key 32 a.2 b.2 ha hb
    unfold ky
    rw [← this]
    unfold LF
    cases (List.range 32).find? fun i => a.1.getD i 0 != b.1.getD i 0 <;> rfl
  · intro i hi _
    rw [h, wr1 (by omega)]
    have h1 : a.1[i]? = some a.1[i] := List.getElem?_eq_getElem (by rw [a.2]; exact hi)
    have h2 : b.1[i]? = some b.1[i] := List.getElem?_eq_getElem (by rw [b.2]; exact hi)
    have h3 : (i : Int) < 32 := by omega
    simp [ix_nat, h1, h2, h3, List.getD]
    split <;> rfl
  · intro _
    rw [h]; simp
theorem m60 {F : Nat} {a b : Id32} (hF : 1000 ≤ F) (ha : gId a) (hb : gId b) : M60 F a b = some (decide (ky a < ky b)) := before_loop (M60_L0 F a b) hF ha hb fun _ => rfl
theorem m128 {F : Nat} {a b : Id32} (hF : 1000 ≤ F) (ha : gId a) (hb : gId b) : M128 F a b = some (decide (ky a < ky b)) := before_loop (M128_L0 F a b) hF ha hb fun _ => rfl
end Go.Proofs.Ytoomgangpjcaoaa
