import Derived.Test.YtafflcbcpbgloaaK7P1
import Derived.Lib.AppendStr
import Derived.Test.YtafflcbcpbgloaaProg
import Derived.RangeFuncLeaves
import Derived.RangeFuncRecord
import Derived.OrdersIn
set_option linter.unusedSimpArgs false
set_option linter.unusedVariables false
namespace Go.Vm
def pick {α : Type} (σ : List Nat) (L : List α) : List α := σ.filterMap fun i => L[i]?
def restI (σ : List Nat) (n : Nat) : List Nat := (List.range n).filter fun i => !σ.contains i
theorem pick_range {α : Type} (L : List α) : pick (List.range L.length) L = L := by
 induction L with
 | nil => rfl
 | cons x L ih =>
  unfold pick at ih ⊢
  rw [List.length_cons, List.range_succ_eq_map, List.filterMap_cons]
  simp only [List.getElem?_cons_zero, List.filterMap_map]
  exact congrArg (x :: ·) ih
theorem pick_perm {α : Type} {L : List α} {σ : List Nat} (h : σ.isPerm (List.range L.length) = true) : L.Perm (pick σ L) := by
 have := ((List.isPerm_iff.1 h).filterMap fun i => L[i]?).symm
 rwa [show (List.range L.length).filterMap (fun i => L[i]?) = L from pick_range L] at this
theorem hp_pick {h0 : Heap} {L : HL} (hk : HOk h0 L) (σ : List Nat) (ho : (σ ++ restI σ L.length).isPerm (List.range L.length) = true) : HOk h0 (pick σ L) ∧ Sub (hp h0 (pick σ L)) (hp h0 L) := by
 obtain ⟨e, k⟩ := hp_perm (pick_perm ho) hk
 have e2 : pick (σ ++ restI σ L.length) L = pick σ L ++ pick (restI σ L.length) L := List.filterMap_append
 rw [e2] at e k
 have := hp_sub (L' := pick σ L) (List.sublist_append_left _ _) k
 exact ⟨this.2, by rw [e]; exact this.1⟩
theorem FT.k2 {h : Heap} {n : Nat} {f g : KV} {d0 d1 : Nat} (hf : FT h n f g) : FT h n f (kp (kp g d1 (lk n f d1)) d0 (lk n f d0)) := .cons (ALe.refl _ _) (.cons (ALe.refl _ _) hf)
theorem ALeL.k2 {h : Heap} {x0 x1 : AV} {xs ys : List AV} (hf : ALeL h xs ys) : ALeL h (x0 :: x1 :: xs) (x0 :: x1 :: ys) := .cons (ALe.refl _ _) (.cons (ALe.refl _ _) hf)
theorem FT.k3 {h : Heap} {n : Nat} {f g : KV} {d0 d1 d2 : Nat} (hf : FT h n f g) : FT h n f (kp (kp (kp g d2 (lk n f d2)) d1 (lk n f d1)) d0 (lk n f d0)) := .cons (ALe.refl _ _) (.cons (ALe.refl _ _) (.cons (ALe.refl _ _) hf))
theorem ALeL.k3 {h : Heap} {x0 x1 x2 : AV} {xs ys : List AV} (hf : ALeL h xs ys) : ALeL h (x0 :: x1 :: x2 :: xs) (x0 :: x1 :: x2 :: ys) := .cons (ALe.refl _ _) (.cons (ALe.refl _ _) (.cons (ALe.refl _ _) hf))
theorem FT.k4 {h : Heap} {n : Nat} {f g : KV} {d0 d1 d2 d3 : Nat} (hf : FT h n f g) : FT h n f (kp (kp (kp (kp g d3 (lk n f d3)) d2 (lk n f d2)) d1 (lk n f d1)) d0 (lk n f d0)) := .cons (ALe.refl _ _) (.cons (ALe.refl _ _) (.cons (ALe.refl _ _) (.cons (ALe.refl _ _) hf)))
theorem ALeL.k4 {h : Heap} {x0 x1 x2 x3 : AV} {xs ys : List AV} (hf : ALeL h xs ys) : ALeL h (x0 :: x1 :: x2 :: x3 :: xs) (x0 :: x1 :: x2 :: x3 :: ys) := .cons (ALe.refl _ _) (.cons (ALe.refl _ _) (.cons (ALe.refl _ _) (.cons (ALe.refl _ _) hf)))
theorem FT.k5 {h : Heap} {n : Nat} {f g : KV} {d0 d1 d2 d3 d4 : Nat} (hf : FT h n f g) : FT h n f (kp (kp (kp (kp (kp g d4 (lk n f d4)) d3 (lk n f d3)) d2 (lk n f d2)) d1 (lk n f d1)) d0 (lk n f d0)) := .cons (ALe.refl _ _) (.cons (ALe.refl _ _) (.cons (ALe.refl _ _) (.cons (ALe.refl _ _) (.cons (ALe.refl _ _) hf))))
theorem ALeL.k5 {h : Heap} {x0 x1 x2 x3 x4 : AV} {xs ys : List AV} (hf : ALeL h xs ys) : ALeL h (x0 :: x1 :: x2 :: x3 :: x4 :: xs) (x0 :: x1 :: x2 :: x3 :: x4 :: ys) := .cons (ALe.refl _ _) (.cons (ALe.refl _ _) (.cons (ALe.refl _ _) (.cons (ALe.refl _ _) (.cons (ALe.refl _ _) hf))))
theorem FT.k12 {h : Heap} {n : Nat} {f g : KV} {d0 d1 d2 d3 d4 d5 d6 d7 d8 d9 d10 d11 : Nat} (hf : FT h n f g) : FT h n f (kp (kp (kp (kp (kp (kp (kp (kp (kp (kp (kp (kp g d11 (lk n f d11)) d10 (lk n f d10)) d9 (lk n f d9)) d8 (lk n f d8)) d7 (lk n f d7)) d6 (lk n f d6)) d5 (lk n f d5)) d4 (lk n f d4)) d3 (lk n f d3)) d2 (lk n f d2)) d1 (lk n f d1)) d0 (lk n f d0)) := .cons (ALe.refl _ _) (.cons (ALe.refl _ _) (.cons (ALe.refl _ _) (.cons (ALe.refl _ _) (.cons (ALe.refl _ _) (.cons (ALe.refl _ _) (.cons (ALe.refl _ _) (.cons (ALe.refl _ _) (.cons (ALe.refl _ _) (.cons (ALe.refl _ _) (.cons (ALe.refl _ _) (.cons (ALe.refl _ _) hf)))))))))))
theorem ALeL.k12 {h : Heap} {x0 x1 x2 x3 x4 x5 x6 x7 x8 x9 x10 x11 : AV} {xs ys : List AV} (hf : ALeL h xs ys) : ALeL h (x0 :: x1 :: x2 :: x3 :: x4 :: x5 :: x6 :: x7 :: x8 :: x9 :: x10 :: x11 :: xs) (x0 :: x1 :: x2 :: x3 :: x4 :: x5 :: x6 :: x7 :: x8 :: x9 :: x10 :: x11 :: ys) := .cons (ALe.refl _ _) (.cons (ALe.refl _ _) (.cons (ALe.refl _ _) (.cons (ALe.refl _ _) (.cons (ALe.refl _ _) (.cons (ALe.refl _ _) (.cons (ALe.refl _ _) (.cons (ALe.refl _ _) (.cons (ALe.refl _ _) (.cons (ALe.refl _ _) (.cons (ALe.refl _ _) (.cons (ALe.refl _ _) hf)))))))))))
section
variable {P : Program} {Q : Exit → Fr → Heap → Prop} {h h' : Heap} {n : Nat}
end
section
variable {P : Program} {ops : Array Oper} {K : Fr → Heap → Prop} {KQ : Fr → Prop} {h : Heap} {n : Nat} {kvs : KV} {l : List Oper} {ty : TypeId} {pos : String} {aft : Array Edge} {d : Option Tmp} {a b c : Operand} {q : IntKind} {x y : Int} {z t u : Bool} {T U : TypeId} {xs : List (List AV)} {sz : Nat} {w : Option Key}
end
theorem LeF.s {n : Nat} {f g : KV} {h : Heap} (hf : FT h n f g) : LeF (Vm.fm n g) h (Vm.fm n f) h := LeF.fm (Sub.refl _) hf
theorem AW_rq {P : Program} {Q : Exit → Fr → Heap → Prop} {fr : Fr} {h : Heap} {id : Nat} {l : List Oper} (hm : P.follows .mixedOrders = true) (h2 : lexS 0 (l.map (summ l.toArray)) = true)
    (hl : AQuiet P l.toArray h (fun fr' => Q .normal fr' h) l fr) : AW P (.region id l.toArray true) Q fr h := AW_region_q _ hm rfl h2 hl
section
variable {P : Program} {ops : Array Oper} {K : Fr → Heap → Prop} {fs : List (Nat × Option Key × Ent)} {h : Heap} {n : Nat} {kvs : KV} {ty : TypeId} {pos : String} {aft' : Array Edge}
end
inductive Tr (α : Type) where
 | nil
 | node (k : Nat) (v : α) (l r : Tr α)
def Tr.find {α : Type} : Tr α → Nat → Option α
 | .nil, _ => none
 | .node k v l r, q => bif Nat.beq q k then some v else bif Nat.blt q k then l.find q else r.find q
def Tr.all {α : Type} (p : Nat → α → Bool) : Tr α → Bool
 | .nil => true
 | .node k v l r => p k v && l.all p && r.all p
theorem Tr.find_all {α : Type} {p : Nat → α → Bool} {q : Nat} {i : α} : ∀ {t : Tr α}, t.all p = true → t.find q = some i → p q i = true
 | .nil, _, h => by cases h
 | .node k v l r, ha, h => by
  simp only [Tr.all, Bool.and_eq_true] at ha
  simp only [Tr.find] at h
  cases e : Nat.beq q k
  ·rw [e] at h
   cases e2 : Nat.blt q k
   ·rw [e2] at h; exact find_all ha.2 h
   ·rw [e2] at h; exact find_all ha.1.2 h
  ·rw [e] at h
   cases h
   have := Nat.eq_of_beq_eq_true e
   subst this
   exact ha.1.1
structure TI where
 ld : Option (Bool × Nat)
 ti : Option IntKind
 fs : List Nat
def tiOk (P : Program) (q : Nat) (i : TI) : Bool :=
 (match i.ld with | none => true | some x => ldT P q == some x) && (match i.ti with | none => true | some k => decide (tInt P q = some k)) &&
 (List.range i.fs.length).all fun f => match i.fs[f]?, fdS P q f with | some o, some (o', s) => o == o' && s != 0 | _, _ => false
def TOk (P : Program) (T : Tr TI) : Prop := T.all (tiOk P) = true
theorem TOk.nil (P : Program) : TOk P .nil := rfl
section
variable {P : Program} {T : Tr TI}
theorem TOk.ld (hT : TOk P T) {t : Nat} {i : TI} (hi : T.find t = some i) {x : Bool × Nat} (hx : i.ld = some x) : ldT P t = some x := by
 have := Tr.find_all hT hi
 simp only [tiOk, Bool.and_eq_true, hx] at this
 exact beq_iff_eq.1 this.1.1
theorem TOk.ti (hT : TOk P T) {t : Nat} {i : TI} (hi : T.find t = some i) {k : IntKind} (hx : i.ti = some k) : tInt P t = some k := by
 have := Tr.find_all hT hi
 simp only [tiOk, Bool.and_eq_true, hx] at this
 exact of_decide_eq_true this.1.2
theorem TOk.fs (hT : TOk P T) {t f o : Nat} {i : TI} (hi : T.find t = some i) (hx : i.fs[f]? = some o) : ∃ s, fdS P t f = some (o, s) ∧ s ≠ 0 := by
 have := Tr.find_all hT hi
 simp only [tiOk, Bool.and_eq_true, List.all_eq_true, List.mem_range] at this
 have h1 := this.2 f (List.getElem?_eq_some_iff.1 hx).1
 rw [hx] at h1
 cases hf : fdS P t f with
 | none => rw [hf] at h1; cases h1
 | some y =>
  rw [hf] at h1
  simp only [Bool.and_eq_true, beq_iff_eq, bne_iff_ne, ne_eq] at h1
  exact ⟨y.2, by rw [h1.1], h1.2⟩
end
def cnd (b : Bool) (X Y : Prop) : Prop := match b with | true => X | false => Y
def cni (b : Bool) (X Y : Prop) : Prop := match b with | true => X | false => Y
inductive FR where
 | nil
 | c (d : Nat) (x : AV) (r : FR)
def FR.k : FR → KV
 | .nil => k0
 | .c d x r => kp r.k d x
def FR.put (f : FR) (d : Option Tmp) (x : AV) : FR := match d with | some d => .c d x f | none => f
theorem FR.put_k (f : FR) (d : Option Tmp) (x : AV) : (f.put d x).k = putk f.k d x := by cases d <;> rfl
def FR.find (f : FR) (t : Nat) (K : AV → Prop) : Prop := match f with
 | .nil => K .any
 | .c d x r => cni (Nat.beq d t) (K x) (r.find t K)
theorem FR.find_eq (t : Nat) (K : AV → Prop) : ∀ f : FR, f.find t K = K (f.k t)
 | .nil => rfl
 | .c d x r => by
  simp only [FR.find, FR.k, kp]
  cases Nat.beq d t
  ·exact FR.find_eq t K r
  ·rfl
def lkc (n : Nat) (f : FR) (t : Nat) (K : AV → Prop) : Prop := cni (Nat.blt t n) (f.find t K) (K .any)
theorem lkc_eq (n : Nat) (f : FR) (t : Nat) (K : AV → Prop) : lkc n f t K = K (lk n f.k t) := by
 unfold lkc lk
 cases Nat.blt t n
 ·rfl
 ·exact FR.find_eq t K f
def evc (n : Nat) (f : FR) (a : Operand) (K : AV → Prop) : Prop := match a with
 | .tmp t => lkc n f t K
 | .const v => K (cv v)
 | .global _ => K .any
 | .func f => K (.fn (.func f) [])
theorem evc_eq (n : Nat) (f : FR) (a : Operand) (K : AV → Prop) : evc n f a K = K (evk n f.k a) := by
 cases a <;> first | rfl | exact lkc_eq n f _ K
def iop (op : BinOp) (k : IntKind) (a b : Int) : Option Value :=
 match op with
 | .add => some (.int k (k.wrap (a + b)))
 | .sub => some (.int k (k.wrap (a - b)))
 | .mul => some (.int k (k.wrap (a * b)))
 | .and => some (.int k (bitsV .and k a b))
 | .or => some (.int k (bitsV .or k a b))
 | .xor => some (.int k (bitsV .xor k a b))
 | .eql => some (.bool (a == b))
 | .neq => some (.bool (a != b))
 | .lss => some (.bool (decide (a < b)))
 | .leq => some (.bool (decide (a ≤ b)))
 | .gtr => some (.bool (decide (b < a)))
 | .geq => some (.bool (decide (b ≤ a)))
 | _ => none
def vint (op : BinOp) (q : IntKind) (x : Int) (r : IntKind) (y : Int) (K : AV → Prop) (E : Prop) : Prop :=
 match op with
 | .shl => cnd (decide (0 ≤ y)) (K (.sc (.int q (q.wrap (x * 2 ^ (min y.toNat q.bits)))))) False
 | .shr => cnd (decide (0 ≤ y)) (K (.sc (.int q (x.fdiv (2 ^ (min y.toNat q.bits)))))) False
 | .quo => cni (decide (q = r)) (cnd (y != 0) (K (.sc (.int q (q.wrap (x.tdiv y))))) False) E
 | .rem => cni (decide (q = r)) (cnd (y != 0) (K (.sc (.int q (x.tmod y)))) False) E
 | op => cni (decide (q = r)) (match iop op q x y with | some v => K (.sc v) | none => E) E
def vbo (op : BinOp) (K : AV → Prop) (E : Prop) : AV → AV → Prop
 | .sc (.int q x), .sc (.int r y) => vint op q x r y K E
 | _, _ => E
def vpk (X Y : Prop) : AV → Prop
 | .sc (.bool b) => cnd b X Y
 | _ => False
def vnt (K : AV → Prop) (E : Prop) : AV → Prop
 | .sc (.bool b) => K (.sc (.bool (!b)))
 | _ => E
def vng (K : AV → Prop) (E : Prop) : AV → Prop
 | .sc (.int q x) => K (.sc (.int q (q.wrap (0 - x))))
 | _ => E
def vcv (a b : Option TI) (K : AV → Prop) (E : Prop) : AV → Prop
 | .sc (.int _ x) => match a.bind TI.ti, b.bind TI.ti with
  | some _, some r => K (.sc (.int r (r.wrap x)))
  | _, _ => E
 | _ => E
def vex (i : Nat) (K : AV → Prop) : AV → Prop
 | .tup xs => match xs[i]? with | some x => K x | none => False
 | _ => False
def vfl (a : Bool) (o : Option Nat) (x : AV) (K : AV → Prop) (E : Prop) : Prop := match a, o with
 | true, _ => E
 | _, none => E
 | false, some o => match x with
  | .rp t cs => K (.rp t (cs.drop o))
  | .ptr q f => K (.ptr q (f + o))
  | _ => E
def vld (a : Bool) (o : Option (Bool × Nat)) (x : AV) (K : AV → Prop) (E : Prop) : Prop := match a, o with
 | false, some (false, _) => match x with
  | .rp _ cs => match cs.head? with | some y => K y | none => False
  | _ => E
 | _, _ => E
def vnl (a : Bool) (x : AV) (K : AV → Prop) (E : Prop) : Prop := match a with
 | true => E
 | false => match x with
  | .ptr q f => K (.ptr q f)
  | .rp t cs => K (.rp t cs)
  | _ => E
def fsO (T : Tr TI) (t f : Nat) : Option Nat := (T.find t).bind fun i => i.fs[f]?
def vv (T : Tr TI) (w : Bool) (n : Nat) (f : FR) (op : Op) (K : AV → Prop) (E : Prop) : Prop :=
 match op with
 | .move a => evc n f a K
 | .assign a => evc n f a K
 | .pick c a b => evc n f c (vpk (evc n f a K) (evc n f b K))
 | .binOp op _ a b _ => evc n f a fun x => evc n f b fun y => vbo op K E x y
 | .unOp .not _ a => evc n f a (vnt K E)
 | .unOp .neg _ a => evc n f a (vng K E)
 | .convert t u a => evc n f a (vcv (T.find t) (T.find u) K E)
 | .extract a i => evc n f a (vex i K)
 | .fieldAddr t a g => evc n f a fun x => vfl w (fsO T t g) x K E
 | .load t a => evc n f a fun x => vld w ((T.find t).bind TI.ld) x K E
 | .nilCheck a => evc n f a fun x => vnl w x K E
 | .makeFunc fn first caps => cni (Nat.beq first.size 0) (K (.fn fn (caps.toList.map (evk n f.k)))) E
 | _ => E
theorem cnd_of {b : Bool} {X Y : Prop} (h : cnd b X Y) : (b = true ∧ X) ∨ (b = false ∧ Y) := by
 cases b
 ·exact .inr ⟨rfl, h⟩
 ·exact .inl ⟨rfl, h⟩
theorem cni_of {b : Bool} {X Y : Prop} (h : cni b X Y) : (b = true ∧ X) ∨ (b = false ∧ Y) := by
 cases b
 ·exact .inr ⟨rfl, h⟩
 ·exact .inl ⟨rfl, h⟩
theorem iop_ib {op : BinOp} {k : IntKind} {a b : Int} {v : Value} (h : iop op k a b = some v) : ib op k a b = some (True, v) ∧ op ≠ .shl ∧ op ≠ .shr := by
 cases op <;> simp only [iop, Option.some.injEq, reduceCtorEq] at h <;> subst h <;> exact ⟨rfl, nofun, nofun⟩
theorem bv_iop {op : BinOp} {k : IntKind} {a b : Int} {v : Value} (h : iop op k a b = some v) : bv op (.sc (.int k a)) (.sc (.int k b)) = some (True, v) := by
 obtain ⟨h1, h2, h3⟩ := iop_ib h
 cases op <;> first | exact absurd rfl h2 | exact absurd rfl h3 | (simp only [bv, if_true]; exact h1)
section
variable {P : Program} {T : Tr TI} {h : Heap} {n : Nat} {f : FR} {K : AV → Prop} {E : Prop}
def PV (P : Program) (h : Heap) (n : Nat) (f : FR) (op : Op) (K : AV → Prop) : Prop := ∃ x, (∃ c, pv P h (fm n f.k) op = some (c, x) ∧ c) ∧ K x
theorem PV.mk {op : Op} {x : AV} (c : Prop) (hp : pv P h (fm n f.k) op = some (c, x)) (hc : c) (k : K x) : PV P h n f op K := ⟨x, ⟨c, hp, hc⟩, k⟩
theorem vint_sound {op : BinOp} {q r : IntKind} {x y : Int} (hv : vint op q x r y K E) : (∃ c v, bv op (.sc (.int q x)) (.sc (.int r y)) = some (c, v) ∧ c ∧ K (.sc v)) ∨ E := by
 unfold vint at hv
 split at hv
 ·rcases cnd_of hv with ⟨h1, h2⟩ | ⟨_, h2⟩
  ·exact .inl ⟨_, _, rfl, of_decide_eq_true h1, h2⟩
  ·exact h2.elim
 ·rcases cnd_of hv with ⟨h1, h2⟩ | ⟨_, h2⟩
  ·exact .inl ⟨_, _, rfl, of_decide_eq_true h1, h2⟩
  ·exact h2.elim
 ·rcases cni_of hv with ⟨h1, h2⟩ | ⟨_, h2⟩
  ·have := of_decide_eq_true h1; subst this
   rcases cnd_of h2 with ⟨h3, h4⟩ | ⟨_, h4⟩
   ·exact .inl ⟨y ≠ 0, _, by simp only [bv, if_true, ib], by simpa using h3, h4⟩
   ·exact h4.elim
  ·exact .inr h2
 ·rcases cni_of hv with ⟨h1, h2⟩ | ⟨_, h2⟩
  ·have := of_decide_eq_true h1; subst this
   rcases cnd_of h2 with ⟨h3, h4⟩ | ⟨_, h4⟩
   ·exact .inl ⟨y ≠ 0, _, by simp only [bv, if_true, ib], by simpa using h3, h4⟩
   ·exact h4.elim
  ·exact .inr h2
 ·rcases cni_of hv with ⟨h1, h2⟩ | ⟨_, h2⟩
  ·have := of_decide_eq_true h1; subst this
   split at h2
   ·rename_i v hv; exact .inl ⟨True, v, bv_iop hv, trivial, h2⟩
   ·exact .inr h2
  ·exact .inr h2
theorem vv_sound (hT : TOk P T) {w : Bool} {op : Op} (hv : vv T w n f op K E) : PV P h n f op K ∨ E := by
 unfold vv at hv
 split at hv
 ·rename_i a; rw [evc_eq] at hv; exact .inl (.mk True (by simp only [pv, ev_fm]) trivial hv)
 ·rename_i a; rw [evc_eq] at hv; exact .inl (.mk True (by simp only [pv, ev_fm]) trivial hv)
 ·rename_i c a b
  simp only [evc_eq] at hv
  unfold vpk at hv
  split at hv
  ·rename_i t hc
   rcases cnd_of hv with ⟨h1, h2⟩ | ⟨h1, h2⟩ <;> subst h1 <;> exact .inl (.mk True (by simp only [pv, ev_fm, hc, pkA, pk, Option.map_some, tt]) trivial h2)
  ·exact hv.elim
 ·rename_i op t a b u
  simp only [evc_eq] at hv
  unfold vbo at hv
  split at hv
  ·rename_i q x r y ha hb
   rcases vint_sound hv with ⟨c, v, h1, h2, h3⟩ | hE
   ·exact .inl (.mk c (by simp only [pv, ev_fm, ha, hb, h1, Option.map_some]) h2 h3)
   ·exact .inr hE
  ·exact .inr hv
 ·rename_i t a
  simp only [evc_eq] at hv
  unfold vnt at hv
  split at hv
  ·rename_i b ha; exact .inl (.mk True (by simp only [pv, ev_fm, ha, unA, Option.map_some, tt]) trivial hv)
  ·exact .inr hv
 ·rename_i t a
  simp only [evc_eq] at hv
  unfold vng at hv
  split at hv
  ·rename_i q x ha; exact .inl (.mk True (by simp only [pv, ev_fm, ha, unA, Option.map_some, tt]) trivial hv)
  ·exact .inr hv
 ·rename_i t u a
  simp only [evc_eq] at hv
  unfold vcv at hv
  split at hv
  ·rename_i q x ha
   split at hv
   ·rename_i k r h1 h2
    rw [Option.bind_eq_some_iff] at h1 h2
    obtain ⟨i1, a1, b1⟩ := h1
    obtain ⟨i2, a2, b2⟩ := h2
    have e1 := hT.ti a1 b1
    have e2 := hT.ti a2 b2
    exact .inl (.mk True (by simp only [pv, ev_fm, ha, e1, e2, cvA, Option.map_some, Option.bind_some, tt]) trivial hv)
   ·exact .inr hv
  ·exact .inr hv
 ·rename_i a i
  simp only [evc_eq] at hv
  unfold vex at hv
  split at hv
  ·rename_i xs ha
   split at hv
   ·rename_i x hx
    exact .inl (.mk True (by simp only [pv, ev_fm, ha, exA, hx, Option.map_some, tt]) trivial hv)
   ·exact hv.elim
  ·exact hv.elim
 ·rename_i t a g
  simp only [evc_eq] at hv
  unfold vfl fsO at hv
  split at hv
  ·exact .inr hv
  ·exact .inr hv
  ·rename_i o ho
   rw [Option.bind_eq_some_iff] at ho
   obtain ⟨i, a1, b1⟩ := ho
   obtain ⟨s, e1, e2⟩ := hT.fs a1 b1
   split at hv
   ·rename_i tg cs ha; exact .inl (.mk True (by simp only [pv, ev_fm, ha, e1, Option.bind_some, e2, if_false, fdA, Option.map_some, tt]) trivial hv)
   ·rename_i q off ha; exact .inl (.mk True (by simp only [pv, ev_fm, ha, e1, Option.bind_some, e2, if_false, fdA, Option.map_some, tt]) trivial hv)
   ·exact .inr hv
 ·rename_i t a
  simp only [evc_eq] at hv
  unfold vld at hv
  split at hv
  ·rename_i m ho
   rw [Option.bind_eq_some_iff] at ho
   obtain ⟨i, a1, b1⟩ := ho
   have e1 := hT.ld a1 b1
   split at hv
   ·rename_i tg cs ha
    split at hv
    ·rename_i y hy
     exact .inl (.mk True (by simp only [pv, ev_fm, ha, e1, Option.bind_some, ldA, ldv, hy, Option.map_some, tt]) trivial hv)
    ·exact hv.elim
   ·exact .inr hv
  ·exact .inr hv
 ·rename_i a
  simp only [evc_eq] at hv
  unfold vnl at hv
  split at hv
  ·exact .inr hv
  ·split at hv
   ·rename_i q off ha; exact .inl (.mk True (by simp only [pv, ev_fm, ha, nilA, Option.map_some, tt]) trivial hv)
   ·rename_i tg cs ha; exact .inl (.mk True (by simp only [pv, ev_fm, ha, nilA, Option.map_some, tt]) trivial hv)
   ·exact .inr hv
 ·rename_i fn first caps
  rcases cni_of hv with ⟨h1, h2⟩ | ⟨_, h2⟩
  ·have h1 := Nat.eq_of_beq_eq_true h1
   refine .inl (.mk True ?_ trivial h2)
   have e : caps.toList.map (ev (fm n f.k)) = caps.toList.map (evk n f.k) := List.map_congr_left fun o _ => ev_fm n f.k o
   simp only [pv, h1, if_true, e]
  ·exact .inr h2
 ·exact .inr hv
end
def QK (h : Heap) (n : Nat) (K : FR → HL → Prop) (fr : Fr) (hh : Heap) : Prop := ∃ f L, HOk h L ∧ LeF (fm n f.k) (hp h L) fr hh ∧ K f L
theorem LeF.rfl' {fr : Fr} {h : Heap} : LeF fr h fr h := LeF.eqh rfl
structure VN (q : Bool) (P : Program) (h : Heap) (n : Nat) (o : Oper) (K : FR → HL → Prop) (f : FR) (L : HL) : Prop where
 v : q = true → HOk h L → ∃ x, AOpV P o x (fm n f.k) (hp h L) ∧ K (f.put o.dst x) L
 e : q = false → HOk h L → AOp P o (fun x h' => QK h n K (fm n (f.put o.dst x).k) h') (fm n f.k) (hp h L)
def gd (_ : Nat) (w : Bool) (X Y : FR → Prop) (f : FR) (b : Bool) : Prop := match w with
 | true => cnd b (X f) (Y f)
 | false => cnd b (Y f) (X f)
def vgb (d : Nat) (w : Bool) (X Y : FR → Prop) (f : FR) : AV → Prop
 | .sc (.bool b) => gd d w X Y f b
 | .sc (.tuple _) => Y f
 | _ => False
def vgd (l0 : List Oper) (n : Nat) (g : Option (Nat × Bool)) (X Y : FR → Prop) (f : FR) : Prop := match g with
 | none => X f
 | some (j, w) => match (l0[j]?).bind (·.dst) with
  | some d => lkc n f d (vgb d w X Y f)
  | none => False
def vo (q : Bool) (T : Tr TI) (w : Bool) (P : Program) (h : Heap) (n : Nat) (l0 : List Oper) (K : FR → HL → Prop) : List Oper → FR → HL → Prop
  | [], f, L => K f L
  | ⟨d, op, ty, pos, aft, g⟩ :: l, f, L => vgd l0 n g
      (fun f => vv T w n f op (fun x => vo q T w P h n l0 K l (f.put d x) L) (VN q P h n ⟨d, op, ty, pos, aft, none⟩ (vo q T w P h n l0 K l) f L))
      (fun f => vo q T w P h n l0 K l (f.put d (.sc undef)) L) f
section
variable {P : Program} {T : Tr TI} {w : Bool} {h : Heap} {n : Nat} {l0 : List Oper} {K : FR → HL → Prop}
theorem vo_s (hT : TOk P T) : ∀ (l : List Oper) (f : FR) (L : HL), vo false T w P h n l0 K l f L → HOk h L → AOps P l0.toArray l (QK h n K) (fm n f.k) (hp h L)
 | [], f, L, hv, hk => AOps_nil ⟨f, L, hk, LeF.rfl', hv⟩
 | ⟨d, op, ty, pos, aft, g⟩ :: l, f, L, hv, hk => by
  have ih : ∀ (f : FR) (d : Option Tmp) (x : AV) (L : HL), vo false T w P h n l0 K l (f.put d x) L → HOk h L → AOps P l0.toArray l (QK h n K) (fm n (putk f.k d x)) (hp h L) := fun f d x L a b => by
   rw [← FR.put_k]; exact vo_s hT l _ _ a b
  have main : ∀ f, vv T w n f op (fun x => vo false T w P h n l0 K l (f.put d x) L) (VN false P h n ⟨d, op, ty, pos, aft, none⟩ (vo false T w P h n l0 K l) f L) → AOps P l0.toArray (⟨d, op, ty, pos, aft, none⟩ :: l) (QK h n K) (fm n f.k) (hp h L) := by
   intro f hv
   rcases vv_sound (h := hp h L) hT hv with ⟨x, ⟨c, hp, hc⟩, k⟩ | hE
   ·exact s_v (o_pv hp hc) (ih _ _ _ _ k hk)
   ·refine s_op ((hE.e rfl hk).mono ?_)
    intro x h' q
    rw [FR.put_k] at q
    obtain ⟨f', L', hk', le, k⟩ := q
    exact le.aops (vo_s hT l _ _ k hk')
  unfold vo vgd at hv
  split at hv
  ·exact main f hv
  ·rename_i j w'
   split at hv
   ·rename_i dj hd
    have hd' : (l0.toArray[j]?).bind (·.dst) = some dj := by simpa using hd
    rw [lkc_eq] at hv
    unfold vgb at hv
    split at hv
    ·rename_i b hu
     unfold gd at hv
     split at hv
     ·rcases cnd_of hv with ⟨h1, h2⟩ | ⟨h1, h2⟩
      ·exact sg_y hd' hu h1 (main f h2)
      ·exact Zo hd' hu h1 (ih _ _ _ _ h2 hk)
     ·rcases cnd_of hv with ⟨h1, h2⟩ | ⟨h1, h2⟩
      ·exact Zo hd' hu h1 (ih _ _ _ _ h2 hk)
      ·exact sg_y hd' hu h1 (main f h2)
    ·rename_i vs hu; exact sg_u hd' hu (ih _ _ _ _ hv hk)
    ·exact hv.elim
   ·exact hv.elim
theorem vo_q (hT : TOk P T) : ∀ (l : List Oper) (f : FR) (L : HL), vo true T w P h n l0 K l f L → HOk h L → AQuiet P l0.toArray (hp h L) (fun fr => ∃ f, fr = fm n f.k ∧ K f L) l (fm n f.k)
 | [], f, L, hv, hk => ⟨f, rfl, hv⟩
 | ⟨d, op, ty, pos, aft, g⟩ :: l, f, L, hv, hk => by
  have ih : ∀ (f : FR) (d : Option Tmp) (x : AV) (L : HL), vo true T w P h n l0 K l (f.put d x) L → HOk h L → AQuiet P l0.toArray (hp h L) (fun fr => ∃ f : FR, fr = fm n f.k ∧ K f L) l (fm n (putk f.k d x)) := fun f d x L a b => by
   rw [← FR.put_k]; exact vo_q hT l _ _ a b
  have main : ∀ f, vv T w n f op (fun x => vo true T w P h n l0 K l (f.put d x) L) (VN true P h n ⟨d, op, ty, pos, aft, none⟩ (vo true T w P h n l0 K l) f L) → AQuiet P l0.toArray (hp h L) (fun fr => ∃ f, fr = fm n f.k ∧ K f L) (⟨d, op, ty, pos, aft, none⟩ :: l) (fm n f.k) := by
   intro f hv
   rcases vv_sound (h := hp h L) hT hv with ⟨x, ⟨c, hp, hc⟩, k⟩ | hE
   ·exact q_v (o_pv hp hc) (ih _ _ _ _ k hk)
   ·obtain ⟨x, ho, k⟩ := hE.v rfl hk
    exact q_v ho (ih _ _ _ _ k hk)
  unfold vo vgd at hv
  split at hv
  ·exact main f hv
  ·rename_i j w'
   split at hv
   ·rename_i dj hd
    have hd' : (l0.toArray[j]?).bind (·.dst) = some dj := by simpa using hd
    rw [lkc_eq] at hv
    unfold vgb at hv
    split at hv
    ·rename_i b hu
     unfold gd at hv
     split at hv
     ·rcases cnd_of hv with ⟨h1, h2⟩ | ⟨h1, h2⟩
      ·exact Zk hd' hu h1 (main f h2)
      ·exact Ze hd' hu h1 (ih _ _ _ _ h2 hk)
     ·rcases cnd_of hv with ⟨h1, h2⟩ | ⟨h1, h2⟩
      ·exact Ze hd' hu h1 (ih _ _ _ _ h2 hk)
      ·exact Zk hd' hu h1 (main f h2)
    ·rename_i vs hu; exact qg_u hd' hu (ih _ _ _ _ hv hk)
    ·exact hv.elim
   ·exact hv.elim
end
def QQ (h : Heap) (n : Nat) (kn : FR → HL → Prop) (ke : Exit → FR → HL → Prop) (e : Exit) : Fr → Heap → Prop := QK h n (match e with | .normal => kn | e => ke e)
structure VC (P : Program) (h : Heap) (n : Nat) (c : Code) (kn : FR → HL → Prop) (ke : Exit → FR → HL → Prop) (f : FR) (L : HL) : Prop where
 r : HOk h L → AW P c (QQ h n kn ke) (fm n f.k) (hp h L)
structure VD (P : Program) (h : Heap) (n : Nat) (id : Nat) (ops : Array Oper) (kn : FR → HL → Prop) (f : FR) (L : HL) : Prop where
 r : HOk h L → AW P (.region id ops true) (fun e fr hh => e = .normal ∧ QK h n kn fr hh) (fm n f.k) (hp h L)
def vbx (id : Nat) (kn : FR → HL → Prop) (ke : Exit → FR → HL → Prop) : Exit → FR → HL → Prop
 | .exit i => bif Nat.beq i id then kn else ke (.exit i)
 | e => ke e
def vc (T : Tr TI) (w : Bool) (P : Program) (h : Heap) (n : Nat) : Code → (FR → HL → Prop) → (Exit → FR → HL → Prop) → FR → HL → Prop
 | .skip, kn, _, f, L => kn f L
 | .region id ops z, kn, _, f, L => match z with
  | false => vo false T w P h n ops.toList kn ops.toList f L
  | true => VD P h n id ops kn f L
 | .seq a b, kn, ke, f, L => vc T w P h n a (VC P h n b kn ke) ke f L
 | .cond c a b, kn, ke, f, L => evc n f c (vpk (VC P h n a kn ke f L) (VC P h n b kn ke f L))
 | .block id c, kn, ke, f, L => VC P h n c kn (vbx id kn ke) f L
 | .exit id, _, ke, f, L => ke (.exit id) f L
 | .label _, kn, _, f, L => kn f L
 | .ret, _, ke, f, L => ke .ret f L
 | .goto l, _, ke, f, L => ke (.goto l) f L
 | c, kn, ke, f, L => VC P h n c kn ke f L
section
variable {P : Program} {T : Tr TI} {w : Bool} {h : Heap} {n : Nat}
theorem QK.aw {c : Code} {Q : Exit → Fr → Heap → Prop} {K : FR → HL → Prop} {fr : Fr} {hh : Heap} (hq : QK h n K fr hh) (hc : ∀ f L, HOk h L → K f L → AW P c Q (fm n f.k) (hp h L)) : AW P c Q fr hh :=
 let ⟨f, L, hk, le, k⟩ := hq; le.aw (hc f L hk k)
theorem QK.of {K : FR → HL → Prop} {f : FR} {L : HL} (hk : HOk h L) (k : K f L) : QK h n K (fm n f.k) (hp h L) := ⟨f, L, hk, LeF.rfl', k⟩
theorem vcS (hT : TOk P T) : ∀ (c : Code) {kn : FR → HL → Prop} {ke : Exit → FR → HL → Prop} {f : FR} {L : HL}, vc T w P h n c kn ke f L → VC P h n c kn ke f L
  | .skip, _, _, _, _, hv => ⟨fun hk => Zl (QK.of hk hv)⟩
  | .region id ops false, kn, ke, f, L, hv => ⟨fun hk => by
      have h1 := vo_s hT ops.toList f L hv hk
      exact AW_region (l := ops.toList) h1⟩
  | .region id ops true, kn, ke, f, L, hv => ⟨fun hk => (VD.r hv hk).mono fun e fr hh q => by obtain ⟨rfl, q⟩ := q; exact q⟩
  | .seq a b, kn, ke, f, L, hv => ⟨fun hk => AW_seq (((vcS hT a hv).r hk).mono fun e fr hh q => by
      cases e with
      | normal => exact QK.aw q fun f L hk k => k.r hk
      | exit i => exact q
      | goto l => exact q
      | ret => exact q
      | panic c => exact q
      | outgrown => exact q)⟩
  | .cond c a b, kn, ke, f, L, hv => ⟨fun hk => by
      unfold vc at hv
      rw [evc_eq] at hv
      unfold vpk at hv
      split at hv
      · rename_i t hc
        rcases cnd_of hv with ⟨h1, h2⟩ | ⟨h1, h2⟩
        · exact AW_if' hc (fun _ => h2.r hk) (fun e => by rw [e] at h1; cases h1)
        · exact AW_if' hc (fun e => by rw [e] at h1; cases h1) (fun _ => h2.r hk)
      · exact hv.elim⟩
  | .block id c, kn, ke, f, L, hv => ⟨fun hk => AW_block ((VC.r hv hk).mono fun e fr hh q => by
      cases e with
      | normal => exact q
      | exit i =>
        simp only [QQ, vbx] at q
        by_cases hi : i = id
        · subst hi
          have : Nat.beq i i = true := Nat.beq_refl i
          rw [this] at q
          simp only [Blk, if_true]
          exact q
        · have : Nat.beq i id = false := by
            cases e : Nat.beq i id with
            | false => rfl
            | true => exact absurd (Nat.eq_of_beq_eq_true e) hi
          rw [this] at q
          simp only [Blk, hi, if_false]
          exact q
      | goto l => exact q
      | ret => exact q
      | panic c => exact q
      | outgrown => exact q)⟩
  | .exit id, _, _, _, _, hv => ⟨fun hk => AW_exit (QK.of hk hv)⟩
  | .label l, _, _, _, _, hv => ⟨fun hk => AW_label (QK.of hk hv)⟩
  | .ret, _, _, _, _, hv => ⟨fun hk => AW_ret (QK.of hk hv)⟩
  | .goto l, _, _, _, _, hv => ⟨fun hk => AW_goto (QK.of hk hv)⟩
  | .loop c, _, _, _, _, hv => hv
  | .rangeFunc a b c d, _, _, _, _, hv => hv
  | .scope c, _, _, _, _, hv => hv
  | .refuse s, _, _, _, _, hv => hv
theorem vs {a b : Code} {kn : FR → HL → Prop} {ke : Exit → FR → HL → Prop} {f : FR} {L : HL} (hv : VC P h n a (VC P h n b kn ke) ke f L) : VC P h n (.seq a b) kn ke f L :=
  ⟨fun hk => AW_seq ((hv.r hk).mono fun e fr hh q => by
      cases e with
      | normal => exact QK.aw q fun f L hk k => k.r hk
      | exit i => exact q
      | goto l => exact q
      | ret => exact q
      | panic c => exact q
      | outgrown => exact q)⟩
theorem vle {c : Code} {kn : FR → HL → Prop} {ke : Exit → FR → HL → Prop} {f g : FR} {L L' : HL} (le : HOk h L → HOk h L' ∧ LeF (fm n g.k) (hp h L') (fm n f.k) (hp h L)) (k : VC P h n c kn ke g L') : VC P h n c kn ke f L :=
 ⟨fun hk => let ⟨h1, h2⟩ := le hk; h2.aw (k.r h1)⟩
theorem AQuiet.mono {ops : Array Oper} {h : Heap} {K K' : Fr → Prop} (hk : ∀ fr, K fr → K' fr) : ∀ {l : List Oper} {fr : Fr}, AQuiet P ops h K l fr → AQuiet P ops h K' l fr
 | [], _, q => hk _ q
 | _ :: _, _, q => let ⟨x, hy, k⟩ := q; ⟨x, hy, AQuiet.mono hk k⟩
theorem vqT (hT : TOk P T) {id : Nat} {l : List Oper} {kn : FR → HL → Prop} {f : FR} {L : HL} (hm : P.follows .mixedOrders = true) (h2 : lexS 0 (l.map (summ l.toArray)) = true)
    (k : vo true T w P h n l kn l f L) : VD P h n id l.toArray kn f L :=
  ⟨fun hk => (AW_rq (Q := fun e fr hh => e = .normal ∧ QK h n kn fr hh) hm h2 ((vo_q hT l f L k hk).mono fun fr q => by
    obtain ⟨f', rfl, q⟩ := q; exact ⟨rfl, QK.of hk q⟩))⟩
end
section
variable {P : Program} {h : Heap} {n : Nat}
def LX (h : Heap) (n : Nat) (f : FR) (L : HL) (g : FR) (L' : HL) : Prop := HOk h L → HOk h L' ∧ LeF (fm n g.k) (hp h L') (fm n f.k) (hp h L)
theorem lx {f g : FR} {L : HL} (hf : FT (hp h L) n f.k g.k) : LX h n f L g L := fun hk => ⟨hk, LeF.s hf⟩
theorem lxs {f g : FR} {L L' : HL} (σ : List Nat) (hL : pick σ L = L') (ho : (σ ++ restI σ L.length).isPerm (List.range L.length) = true) (hf : FT (hp h L') n f.k g.k) : LX h n f L g L' := fun hk => by
 subst hL
 obtain ⟨h1, h2⟩ := hp_pick hk σ ho
 exact ⟨h1, LeF.fm h2 hf⟩
structure GN {τ σ ρ : Type} (h : Heap) (n : Nat) (J : τ → σ → Prop) (sl : τ → σ → FR) (Lg : τ → σ → HL) (w : σ → Lp σ ρ) (x : Lp σ ρ) (f : FR) (L : HL) : Prop where
 g : ∃ s g, x = w s ∧ J g s ∧ LX h n f L (sl g s) (Lg g s)
inductive GE {τ σ ρ : Type} (h : Heap) (n : Nat) (J : τ → σ → Prop) (sl : τ → σ → FR) (Lg : τ → σ → HL) (id : Option Nat) (ke : Exit → FR → HL → Prop) (o : ρ) (x : Lp σ ρ) (e : Exit) (f : FR) (L : HL) : Prop
 | b (i : Nat) (hi : id = some i) (he : e = .exit i) (q : GN h n J sl Lg .brk x f L)
 | r (y : ρ) (hx : x = .ret y) (h1 : e ≠ .normal) (h2 : ∀ i, id = some i → e ≠ .exit i) (k : y = o → ke e f L)
theorem vgo {τ σ ρ : Type} {J : τ → σ → Prop} {sl : τ → σ → FR} {Lg : τ → σ → HL} {w : σ → Lp σ ρ} {x : Lp σ ρ} {f : FR} {L : HL} {s : σ} (hm : some (w s) = some x) (g : τ) (j : J g s) (le : LX h n f L (sl g s) (Lg g s)) : GN h n J sl Lg w x f L :=
 ⟨s, g, (Option.some.inj hm).symm, j, le⟩
theorem vbk {τ σ ρ : Type} {J : τ → σ → Prop} {sl : τ → σ → FR} {Lg : τ → σ → HL} {i : Nat} {ke : Exit → FR → HL → Prop} {o : ρ} {x : Lp σ ρ} {f : FR} {L : HL} {s : σ} (hm : some (.brk s) = some x) (g : τ) (j : J g s) (le : LX h n f L (sl g s) (Lg g s)) : GE h n J sl Lg (some i) ke o x (.exit i) f L :=
 .b i rfl rfl (vgo hm g j le)
theorem vrt {τ σ ρ : Type} {J : τ → σ → Prop} {sl : τ → σ → FR} {Lg : τ → σ → HL} {id : Option Nat} {ke : Exit → FR → HL → Prop} {o y : ρ} {x : Lp σ ρ} {f : FR} {L : HL} (hm : some (.ret y) = some x) (k : some y = some o → ke .ret f L) : GE h n J sl Lg id ke o x .ret f L :=
 .r y (Option.some.inj hm).symm nofun (fun _ _ => nofun) fun e => k (by rw [e])
theorem LX.le {f g : FR} {L L' : HL} {fr : Fr} {hh : Heap} (le : LX h n f L g L') (hk : HOk h L) (l0 : LeF (fm n f.k) (hp h L) fr hh) : HOk h L' ∧ LeF (fm n g.k) (hp h L') fr hh :=
 let ⟨h1, h2⟩ := le hk; ⟨h1, l0.trans h2⟩
theorem vlp {τ σ ρ : Type} {id : Nat} {c : Code} {kn : FR → HL → Prop} {ke : Exit → FR → HL → Prop} {f : FR} {L : HL} {step : σ → Option (Lp σ ρ)} {fuel : Nat} {s0 : σ} {k : σ → Option ρ} {o : ρ} (hm : after (loopM step fuel s0) k = some o)
    (Lg : τ → σ → HL) (J : τ → σ → Prop) (sl : τ → σ → FR) (g0 : τ) (i0 : J g0 s0) (h0 : LX h n f L (sl g0 s0) (Lg g0 s0))
    (round : ∀ g s x, J g s → step s = some x → VC P h n c (GN h n J sl Lg .go x) (GE h n J sl Lg (some id) ke o x) (sl g s) (Lg g s))
    (next : ∀ g s, J g s → k s = some o → kn (sl g s) (Lg g s)) : VC P h n (.block id (.loop c)) kn ke f L := by
  refine ⟨fun hkL => AW_block ?_⟩
  obtain ⟨out, hout, hk⟩ : ∃ out, loopM step fuel s0 = some out ∧ ((∃ s, out = .brk s ∧ k s = some o) ∨ ∃ r, out = .ret r ∧ r = o) := by
    cases e : loopM step fuel s0 with
    | none => rw [e] at hm; cases hm
    | some out =>
      rw [e] at hm
      cases out with
      | go s => cases hm
      | brk s => exact ⟨_, rfl, .inl ⟨s, rfl, hm⟩⟩
      | ret r => exact ⟨_, rfl, .inr ⟨r, rfl, Option.some.inj hm⟩⟩
  obtain ⟨hk1, le1⟩ := h0 hkL
  refine AW_loop (fun m fr' h' => ∃ s, loopM step m s = some out ∧ ∃ g, J g s ∧ HOk h (Lg g s) ∧ LeF (fm n (sl g s).k) (hp h (Lg g s)) fr' h') fuel ⟨s0, hout, g0, i0, hk1, le1⟩ ?_
  rintro m fr' h' ⟨s, hs, g, hj, hk2, hle⟩
  cases m with
  | zero => cases hs
  | succ m =>
    simp only [loopM] at hs
    cases e : step s with
    | none => rw [e] at hs; cases hs
    | some x =>
      rw [e] at hs
      refine hle.aw (((round g s x hj e).r hk2).mono ?_)
      rintro ex fr'' h'' ⟨f1, L1, hk3, le3, q⟩
      cases ex with
      | normal =>
        obtain ⟨s', g', rfl, j', le4⟩ := q.g
        obtain ⟨hk5, le5⟩ := le4.le hk3 le3
        exact ⟨m, Nat.lt_succ_self m, s', hs, g', j', hk5, le5⟩
      | exit i =>
        cases q with
        | b i' hi he q =>
          cases hi; cases he
          obtain ⟨s', g', rfl, j', le4⟩ := q.g
          obtain ⟨hk5, le5⟩ := le4.le hk3 le3
          cases hs
          simp only [Seq, Blk, if_true]
          rcases hk with ⟨s2, e2, hk⟩ | ⟨r, e2, _⟩
          · cases e2; exact ⟨_, _, hk5, le5, next _ _ j' hk⟩
          · cases e2
        | r y hx h1 h2 k2 =>
          subst hx
          have : i ≠ id := fun e => h2 id rfl (by rw [e])
          cases hs
          simp only [Seq, Blk, this, if_false]
          rcases hk with ⟨s2, e2, _⟩ | ⟨r', e2, e3⟩
          · cases e2
          · cases e2; exact ⟨_, _, hk3, le3, k2 e3⟩
      | goto l =>
        cases q with
        | b i' hi he q => cases he
        | r y hx h1 h2 k2 =>
          subst hx; cases hs
          rcases hk with ⟨s2, e2, _⟩ | ⟨r', e2, e3⟩
          · cases e2
          · cases e2; exact ⟨_, _, hk3, le3, k2 e3⟩
      | ret =>
        cases q with
        | b i' hi he q => cases he
        | r y hx h1 h2 k2 =>
          subst hx; cases hs
          rcases hk with ⟨s2, e2, _⟩ | ⟨r', e2, e3⟩
          · cases e2
          · cases e2; exact ⟨_, _, hk3, le3, k2 e3⟩
      | panic c =>
        cases q with
        | b i' hi he q => cases he
        | r y hx h1 h2 k2 =>
          subst hx; cases hs
          rcases hk with ⟨s2, e2, _⟩ | ⟨r', e2, e3⟩
          · cases e2
          · cases e2; exact ⟨_, _, hk3, le3, k2 e3⟩
      | outgrown =>
        cases q with
        | b i' hi he q => cases he
        | r y hx h1 h2 k2 =>
          subst hx; cases hs
          rcases hk with ⟨s2, e2, _⟩ | ⟨r', e2, e3⟩
          · cases e2
          · cases e2; exact ⟨_, _, hk3, le3, k2 e3⟩
theorem vjn {τ σ ρ : Type} {c : Code} {kn : FR → HL → Prop} {ke : Exit → FR → HL → Prop} {f : FR} {L : HL} {m : Option (Lp σ ρ)} {k : σ → Option ρ} {o : ρ} (hm : after m k = some o)
    (Lg : τ → σ → HL) (J : τ → σ → Prop) (sl : τ → σ → FR)
    (hc : ∀ x, m = some x → VC P h n c (GN h n J sl Lg .brk x) (GE h n J sl Lg none ke o x) f L)
    (next : ∀ g s, J g s → k s = some o → kn (sl g s) (Lg g s)) : VC P h n c kn ke f L := by
  refine ⟨fun hkL => ?_⟩
  cases e : m with
  | none => rw [e] at hm; cases hm
  | some x =>
    rw [e] at hm
    refine ((hc x e).r hkL).mono ?_
    have fin : ∀ {ex : Exit} {f1 : FR} {L1 : HL}, GE h n J sl Lg none ke o x ex f1 L1 → ex ≠ .normal ∧ ke ex f1 L1 := by
      intro ex f1 L1 q
      cases q with
      | b i hi he q => cases hi
      | r y hx h1 h2 k2 => subst hx; exact ⟨h1, k2 (Option.some.inj hm)⟩
    rintro ex fr'' h'' ⟨f1, L1, hk3, le3, q⟩
    cases ex with
    | normal =>
      obtain ⟨s', g', rfl, j', le4⟩ := q.g
      obtain ⟨hk5, le5⟩ := le4.le hk3 le3
      exact ⟨_, _, hk5, le5, next _ _ j' hm⟩
    | exit i => exact ⟨_, _, hk3, le3, (fin q).2⟩
    | goto l => exact ⟨_, _, hk3, le3, (fin q).2⟩
    | ret => exact ⟨_, _, hk3, le3, (fin q).2⟩
    | panic c => exact ⟨_, _, hk3, le3, (fin q).2⟩
    | outgrown => exact ⟨_, _, hk3, le3, (fin q).2⟩
theorem vlpH {τ σ ρ : Type} {id : Nat} {c : Code} {kn : FR → HL → Prop} {ke : Exit → FR → HL → Prop} {f : FR} {L : HL} {step : σ → Option (Lp σ ρ)} {fuel : Nat} {s0 : σ} {k : σ → Option ρ} {o : ρ} (hm : after (loopM step fuel s0) k = some o)
    (Lg : τ → σ → HL) (sl : τ → σ → FR) (g0 : τ) (h0 : LX h n f L (sl g0 s0) (Lg g0 s0))
    (round : ∀ g s x, step s = some x → VC P h n c (GN h n (fun _ _ => True) sl Lg .go x) (GE h n (fun _ _ => True) sl Lg (some id) ke o x) (sl g s) (Lg g s))
    (next : ∀ g s, k s = some o → kn (sl g s) (Lg g s)) : VC P h n (.block id (.loop c)) kn ke f L :=
  vlp hm Lg (fun _ _ => True) sl g0 trivial h0 (fun g s x _ => round g s x) (fun g s _ => next g s)
theorem vjnH {τ σ ρ : Type} {c : Code} {kn : FR → HL → Prop} {ke : Exit → FR → HL → Prop} {f : FR} {L : HL} {m : Option (Lp σ ρ)} {k : σ → Option ρ} {o : ρ} (hm : after m k = some o)
    (Lg : τ → σ → HL) (sl : τ → σ → FR)
    (hc : ∀ x, m = some x → VC P h n c (GN h n (fun _ _ => True) sl Lg .brk x) (GE h n (fun _ _ => True) sl Lg none ke o x) f L)
    (next : ∀ g s, k s = some o → kn (sl g s) (Lg g s)) : VC P h n c kn ke f L :=
  vjn hm Lg (fun _ _ => True) sl hc (fun g s _ => next g s)
theorem lno {f : FR} {L : HL} (e : Ent) (t : Nat) (v : AV) (hv : ALe (hp h L) (lk n f.k t) v) (hk : HOk h L) : HOk h ((none, e) :: L) ∧ LeF (fm n (FR.c t v f).k) (hp h ((none, e) :: L)) (fm n f.k) (hp h L) := ⟨HOk.none hk, LeF.put (Sub.refl _) hv⟩
theorem leo {f : FR} {L : HL} {k : Key} {ty : TypeId} {cs : List AV} (e : Ent) (i : Nat) (cs' : List AV) (hi : ((none, e) :: L)[i]? = some (some k, .obj ty cs)) (hl : ALeL (hp h L) cs cs') (hk : HOk h L) :
    HOk h (((none, e) :: L).set i (some k, .obj ty cs')) ∧ LeF (fm n f.k) (hp h (((none, e) :: L).set i (some k, .obj ty cs'))) (fm n f.k) (hp h L) := LeF.obj (L := (none, e) :: L) i cs' (HOk.none hk) hi hl
def argf : Nat → List AV → FR
 | _, [] => .nil
 | i, x :: xs => .c i x (argf (i + 1) xs)
theorem argf_k : ∀ (i : Nat) (xs : List AV), (argf i xs).k = argk i xs
 | _, [] => rfl
 | i, x :: xs => by simp only [argf, argk, FR.k, argf_k (i + 1) xs]
structure RV (P : Program) (rs : List ResultVar) (Q : AV → Heap → Prop) (h : Heap) (n : Nat) (e : Exit) (f : FR) (L : HL) : Prop where
 r : HOk h L → LqE (Ret P rs Q) e (fm n f.k) (hp h L)
theorem ACp {f : FuncId} {fn : Func} {c : Code} {args : List AV} {Q : AV → Heap → Prop} {L : HL} (hk : HOk h L) (n : Nat) (rs : List ResultVar) (hf : P.funcs[f]? = some fn) (hb : fn.body = some c) (hn : fn.ntmps = n) (hr : fn.results.toList = rs) (hle : Nat.ble args.length n = true)
    (hc : VC P h n c (RV P rs Q h n .normal) (RV P rs Q h n) (argf 0 args) L) : ACalls P f args (hp h L) Q := by
  have hc := hc.r hk
  rw [argf_k] at hc
  refine ACalls_fm n rs hf hb hn hr hle (AW_lq (hc.mono ?_))
  rintro e fr hh ⟨f', L', hk, le, q⟩
  have fin : RV P rs Q h n e f' L' → LqE (Ret P rs Q) e fr hh := fun q => let ⟨fr2, h2, le2, q2⟩ := q.r hk; ⟨fr2, h2, le.trans le2, q2⟩
  cases e with
  | normal => exact fin q
  | exit i => exact fin q
  | goto l => exact fin q
  | ret => exact fin q
  | panic c => exact fin q
  | outgrown => exact fin q
theorem ACv {f : FuncId} {fn : Func} {c : Code} {args : List AV} {Q : AV → Heap → Prop} (n : Nat) (rs : List ResultVar) (hf : P.funcs[f]? = some fn) (hb : fn.body = some c) (hn : fn.ntmps = n) (hr : fn.results.toList = rs) (hle : Nat.ble args.length n = true)
    (hc : VC P h n c (RV P rs Q h n .normal) (RV P rs Q h n) (argf 0 args) []) : ACalls P f args h Q := ACp (L := []) trivial n rs hf hb hn hr hle hc
theorem vr {rs : List ResultVar} {Q : AV → Heap → Prop} {e : Exit} {f : FR} {L : HL} (k : HOk h L → Ret P rs Q e (fm n f.k) (hp h L)) : RV P rs Q h n e f L := ⟨fun hk => LqE.mk LeF.rfl' (k hk)⟩
theorem hp_nil {L : HL} (hk : HOk h L) : Sub h (hp h L) := (hp_sub (List.nil_sublist _) hk).1
theorem vr1 {t : Nat} {y : AV} {f : FR} {L : HL} {e : Exit} (hx : lk n f.k t = y) (he : e = .ret ∨ e = .normal := by first | exact .inl rfl | exact .inr rfl) : RV P [.tmp t] (fun r h' => r = y ∧ h' = h) h n e f L :=
 vr fun hk => Ret.of1 he (rsT _ _ y hx) (hp_nil hk) (ALe.refl _ _) ⟨rfl, rfl⟩
theorem AG.mono {ops : Array Oper} {fs : List (Nat × Option Key × Ent)} {K K' : Fr → Heap → Prop} (hk : ∀ fr h, K fr h → K' fr h) : ∀ {m : Nat} {S : Array Bool} {fr : Fr} {h : Heap}, AG P ops fs K m S fr h → AG P ops fs K' m S fr h
  | 0, _, _, _, ⟨h1, h2⟩ => ⟨h1, hk _ _ h2⟩
  | m + 1, S, fr, h, ⟨h1, h2⟩ => ⟨fun e => hk _ _ (h1 e), fun i hi o ho => by
      rcases h2 i hi o ho with ⟨x, a, b⟩ | ⟨a, b⟩
      · exact .inl ⟨x, a, AG.mono hk b⟩
      · exact .inr ⟨a, b.mono fun x h' q => ⟨q.1, AG.mono hk q.2⟩⟩⟩
variable {q : Bool} {K : FR → HL → Prop} {f : FR} {L : HL} {dst : Option Tmp} {ty : TypeId} {pos : String} {aft : Array Edge} {ρ : Type} {r : ρ}
theorem qk {K : FR → HL → Prop} {f : FR} {L : HL} {hh : Heap} (hk : HOk h L) (e : hh = hp h L) (k : K f L) : QK h n K (fm n f.k) hh := by subst e; exact QK.of hk k
theorem vn {op : Op} {x : AV} (ho : HOk h L → AOpV P ⟨dst, op, ty, pos, aft, none⟩ x (fm n f.k) (hp h L)) (k : K (f.put dst x) L) : VN q P h n ⟨dst, op, ty, pos, aft, none⟩ K f L :=
 ⟨fun _ hk => ⟨x, ho hk, k⟩, fun _ hk => (ho hk).mono fun x' h' e => by obtain ⟨rfl, rfl⟩ := e; exact QK.of hk k⟩
theorem ve {o : Oper} (ho : HOk h L → AOp P o (fun x h' => QK h n K (fm n (f.put o.dst x).k) h') (fm n f.k) (hp h L)) : VN false P h n o K f L := ⟨nofun, fun _ => ho⟩
theorem a_v {K : AV → Heap → Prop} {o : Oper} {x : AV} {fr : Fr} {hh : Heap} (ho : AOpV P o x fr hh) (k : K x hh) : AOp P o K fr hh := ho.mono fun x' h' e => by obtain ⟨rfl, rfl⟩ := e; exact k
theorem AOp_sfz {K : AV → Heap → Prop} {o : Oper} {h1 h2 : Heap} {t : Nat} (v : AV) (hs : Sub h2 h1) (hv : ALe h2 (lk n f.k t) v) (ho : AOp P o K (fm n (kp f.k t v)) h2) : AOp P o K (fm n f.k) h1 := by
 intro E w a r hva Nx Qx hn
 obtain ⟨E', k, r'⟩ := r.drop hs
 refine ho E' w a r' (fun y hy => ?_) Nx Qx fun x u w' E'' h' k' => hn x u w' E'' h' (k.trans k')
 have h1 := VR_keep k _ _ (hva y hy)
 rw [ev_fm] at h1 ⊢
 cases y with
 | tmp s =>
  simp only [evk] at h1 ⊢
  by_cases e : t = s
  ·subst e
   have h3 := hv E' w _ r' h1
   rw [lk_eq]
   split
   ·rw [kp_same]; exact h3
   ·simp only [VR]
  ·rw [lk_eq] at h1 ⊢
   rw [kp_ne _ _ e]; exact h1
 | const v => exact h1
 | global g => exact h1
 | func g => exact h1
theorem vz {id : Nat} {l : List Oper} {kn : FR → HL → Prop} (fs : List (Nat × Option Key × Ent)) (hm : P.follows .mixedOrders = true) (hI : HOk h L → InvL fs (Array.replicate l.length false) (hp h L))
    (hl : HOk h L → AGI P l.toArray fs (QK h n kn) l.length (Array.replicate l.length false) (fm n f.k) (hp h L)) : VD P h n id l.toArray kn f L :=
  ⟨fun hk => AW_zreg (Q := fun e fr hh => e = .normal ∧ QK h n kn fr hh) fs hm (hI hk) fun hi => (AG.mono fun _ _ q => ⟨rfl, q⟩) (hl hk hi)⟩
theorem vi {b : Bool} {X Y : Prop} {x y : Option ρ} (hm : (if b = true then x else y) = some r) (ht : b = true → x = some r → X) (hf : b = false → y = some r → Y) : cnd b X Y := by
 cases b
 ·exact hf rfl (by simpa using hm)
 ·exact ht rfl (by simpa using hm)
theorem vt {b : Bool} {X Y : Prop} (hb : b = true) (k : X) : cnd b X Y := by subst hb; exact k
theorem vf {b : Bool} {X Y : Prop} (hb : b = false) (k : Y) : cnd b X Y := by subst hb; exact k
theorem vx {α : Type} {c : α → List AV} {xs : List α} {i : Int} {kk : α → Option ρ} {a b : Operand} {t : TypeId} {tag : Option Key} {sz : Nat} {m : IntKind} (hm : (ix xs i).bind kk = some r) (he : elS P t = some sz) (ha : evk n f.k a = .sl tag sz (xs.map c)) (hb : evk n f.k b = .sc (.int m i))
    (k : ∀ x, ix xs i = some x → kk x = some r → K (f.put dst (.rp tag (c x))) L) : VN q P h n ⟨dst, .indexAddr t a b, ty, pos, aft, none⟩ K f L :=
  let ⟨x, h1, h2⟩ := Zc hm; vn (fun _ => o_ix h1 he ha hb) (k x h1 h2)
theorem vl {a : Operand} {t : TypeId} {p : Key} {off : Nat} {oty : TypeId} {cs : List AV} {ag : Bool} {m : Nat} (i : Nat) (x : AV) (ht : ldT P t = some (ag, m)) (ha : evk n f.k a = .ptr p off) (hi : L[i]? = some (some p, .obj oty cs)) (hx : ldv ag m (cs.drop off) = some x) (k : K (f.put dst x) L) :
    VN q P h n ⟨dst, .load t a, ty, pos, aft, none⟩ K f L := vn (fun hk => Zg x ht ha (Zd i hk hi) hx) k
theorem va {a : Operand} {t : TypeId} {tag : Option Key} {cs : List AV} {ag : Bool} {m : Nat} (x : AV) (ht : ldT P t = some (ag, m)) (ha : evk n f.k a = .rp tag cs) (hx : ldv ag m cs = some x) (k : K (f.put dst x) L) :
    VN q P h n ⟨dst, .load t a, ty, pos, aft, none⟩ K f L := vn (fun _ => o_ld x ht ha hx) k
theorem vln {α : Type} {e : α → List AV} {xs : List α} {a : Operand} {t : TypeId} {tag : Option Key} {sz : Nat} (ht : lnT P t = some true) (ha : evk n f.k a = .sl tag sz (xs.map e)) (k : K (f.put dst (.sc (.int .i64 xs.length))) L) :
    VN q P h n ⟨dst, .call { callee := .builtin .len, args := #[a], argTypes := #[t] }, ty, pos, aft, none⟩ K f L := vn (fun _ => o_lenm ht ha) k
theorem vk {α : Type} {m : Option α} {kk : α → Option ρ} {e : α → AV} {fid : FuncId} {g : Operand} {args : Array Operand} {ts : Array TypeId} {caps az : List AV} (hc : ∀ {y : α} (h : Heap), m = some y → ACalls P fid az h (fun r h' => r = e y ∧ h' = h)) (hb : bodied P fid = true) (hm : m.bind kk = some r)
    (hg : evk n f.k g = .fn (.func fid) caps) (ha : args.toList.map (evk n f.k) ++ caps = az) (k : ∀ y, kk y = some r → K (f.put dst (e y)) L) :
    VN q P h n ⟨dst, .call { callee := .value g, args := args, argTypes := ts }, ty, pos, aft, none⟩ K f L :=
  let ⟨_, h1, h2⟩ := Zc hm; vn (fun _ => o_call (hc _ h1) hg hb ha) (k _ h2)
theorem val {t : TypeId} {zs : List Value} (cs : List AV) (hz : zrT P t = some zs) (ho : zs.all (·.oneCell') = true) (hcs : zs.map AV.sc = cs) (k : ∀ q : Key, K (f.put dst (.ptr q 0)) ((some q, .obj t cs) :: L)) : VN false P h n ⟨dst, .alloc t, ty, pos, aft, none⟩ K f L :=
 ve fun hk => a_alloc cs hk hz ho hcs fun q hk' => qk hk' rfl (k q)
end
end Go.Vm
namespace Go.Proofs.Ytafflcbcpbgloaa
open Go.Vm
abbrev c_i64 (x : Int) : List AV := [.sc (.int .i64 x)]
structure TItem where
 Kind : Int
 Id : Id32
 Seq : Int
 Of : Int
 Off : Int
 Len : Int
 deriving DecidableEq
def c_Item (x : TItem) : List AV := [.sc (.int .i64 x.Kind)] ++ c_id x.Id ++ [.sc (.int .i64 x.Seq), .sc (.int .i64 x.Of), .sc (.int .i64 x.Off), .sc (.int .i64 x.Len)]
abbrev c_s_Item (x : List TItem) : List AV := [.sl none 37 (List.map c_Item x)]
theorem ld3 : ldT Try.prog 3 = some (false, 1) := by kernel_rfl
theorem u3 : Try.prog.underlying 3 = some (.int .i64) := by kernel_rfl
theorem u4 : Try.prog.underlying 4 = some .bool := by kernel_rfl
theorem ld5 : ldT Try.prog 5 = some (false, 1) := by kernel_rfl
theorem u5 : Try.prog.underlying 5 = some (.int .u8) := by kernel_rfl
theorem ln39 : lnT Try.prog 39 = some true := by kernel_rfl
theorem el39 : elS Try.prog 39 = some 37 := by kernel_rfl
theorem et39 : ElT Try.prog 39 51 37 72 := ElT.of (by kernel_rfl) (by kernel_rfl) (by decide)
theorem ld39 : ldT Try.prog 39 = some (false, 1) := by kernel_rfl
theorem u39 : Try.prog.underlying 39 = some (.slice 51) := by kernel_rfl
theorem ln40 : lnT Try.prog 40 = some true := by kernel_rfl
theorem el40 : elS Try.prog 40 = some 1 := by kernel_rfl
theorem et40 : ElT Try.prog 40 39 1 24 := ElT.of (by kernel_rfl) (by kernel_rfl) (by decide)
theorem ld40 : ldT Try.prog 40 = some (false, 1) := by kernel_rfl
theorem sz40 : tSz Try.prog 40 = some 1 := by kernel_rfl
theorem zr40 : zrT Try.prog 40 = some [.slice none 0 0] := by kernel_rfl
theorem ld49 : ldT Try.prog 49 = some (true, 32) := by kernel_rfl
theorem u49 : Try.prog.underlying 49 = some (.array 32 5) := by kernel_rfl
theorem eg49 : Try.prog.eqGuardType Try.prog.depth 49 = false := by kernel_rfl
theorem ld51 : ldT Try.prog 51 = some (true, 37) := by kernel_rfl
theorem sz51 : tSz Try.prog 51 = some 37 := by kernel_rfl
theorem tf51_0 : tFld Try.prog 51 0 = some (0, 3) := by kernel_rfl
theorem tf51_1 : tFld Try.prog 51 1 = some (1, 49) := by kernel_rfl
theorem tf51_2 : tFld Try.prog 51 2 = some (33, 3) := by kernel_rfl
theorem tf51_3 : tFld Try.prog 51 3 = some (34, 3) := by kernel_rfl
theorem tf51_4 : tFld Try.prog 51 4 = some (35, 3) := by kernel_rfl
theorem tf51_5 : tFld Try.prog 51 5 = some (36, 3) := by kernel_rfl
theorem bt51 : bldT Try.prog 51 = some ([.int .i64 0, .int .u8 0, .int .u8 0, .int .u8 0, .int .u8 0, .int .u8 0, .int .u8 0, .int .u8 0, .int .u8 0, .int .u8 0, .int .u8 0, .int .u8 0, .int .u8 0, .int .u8 0, .int .u8 0, .int .u8 0, .int .u8 0, .int .u8 0, .int .u8 0, .int .u8 0, .int .u8 0, .int .u8 0, .int .u8 0, .int .u8 0, .int .u8 0, .int .u8 0, .int .u8 0, .int .u8 0, .int .u8 0, .int .u8 0, .int .u8 0, .int .u8 0, .int .u8 0, .int .i64 0, .int .i64 0, .int .i64 0, .int .i64 0], [(0, 1), (1, 32), (33, 1), (34, 1), (35, 1), (36, 1)]) := by kernel_rfl
theorem zr51 : zrT Try.prog 51 = some [.int .i64 0, .int .u8 0, .int .u8 0, .int .u8 0, .int .u8 0, .int .u8 0, .int .u8 0, .int .u8 0, .int .u8 0, .int .u8 0, .int .u8 0, .int .u8 0, .int .u8 0, .int .u8 0, .int .u8 0, .int .u8 0, .int .u8 0, .int .u8 0, .int .u8 0, .int .u8 0, .int .u8 0, .int .u8 0, .int .u8 0, .int .u8 0, .int .u8 0, .int .u8 0, .int .u8 0, .int .u8 0, .int .u8 0, .int .u8 0, .int .u8 0, .int .u8 0, .int .u8 0, .int .i64 0, .int .i64 0, .int .i64 0, .int .i64 0] := by kernel_rfl
theorem mixed : Try.prog.follows .mixedOrders = true := by kernel_rfl
def tb : Tr TI := .node 35 ⟨some (false, 1), none, []⟩ (.node 21 ⟨some (false, 1), some .i32, []⟩ (.node 9 ⟨some (false, 1), none, []⟩ (.node 4 ⟨some (false, 1), none, []⟩ (.node 2 ⟨some (false, 1), some .i64, []⟩ (.node 1 ⟨some (false, 1), none, []⟩ .nil .nil) (.node 3 ⟨some (false, 1), some .i64, []⟩ .nil .nil)) (.node 7 ⟨some (true, 4), none, [0, 1, 2, 3]⟩ (.node 5 ⟨some (false, 1), some .u8, []⟩ .nil .nil) .nil)) (.node 16 ⟨some (false, 1), none, []⟩ (.node 13 ⟨some (true, 2), none, [0, 1]⟩ (.node 12 ⟨some (false, 1), some .u64, []⟩ .nil .nil) (.node 15 ⟨some (false, 1), none, []⟩ .nil .nil)) (.node 18 ⟨some (true, 1), none, [0]⟩ (.node 17 ⟨some (false, 1), none, []⟩ .nil .nil) .nil))) (.node 29 ⟨some (false, 1), none, []⟩ (.node 25 ⟨some (false, 1), some .i64, []⟩ (.node 23 ⟨some (false, 1), none, []⟩ (.node 22 ⟨some (false, 1), none, []⟩ .nil .nil) (.node 24 ⟨some (false, 1), none, []⟩ .nil .nil)) (.node 28 ⟨some (false, 1), none, []⟩ (.node 27 ⟨some (false, 1), none, []⟩ .nil .nil) .nil)) (.node 32 ⟨some (false, 1), none, []⟩ (.node 31 ⟨some (false, 1), none, []⟩ (.node 30 ⟨some (false, 1), none, []⟩ .nil .nil) .nil) (.node 34 ⟨some (false, 1), none, []⟩ (.node 33 ⟨some (false, 1), none, []⟩ .nil .nil) .nil)))) (.node 49 ⟨some (true, 32), none, []⟩ (.node 42 ⟨some (false, 1), none, []⟩ (.node 39 ⟨some (false, 1), none, []⟩ (.node 37 ⟨some (false, 1), some .u64, []⟩ (.node 36 ⟨some (false, 1), none, []⟩ .nil .nil) (.node 38 ⟨some (false, 1), none, []⟩ .nil .nil)) (.node 41 ⟨some (false, 1), none, []⟩ (.node 40 ⟨some (false, 1), none, []⟩ .nil .nil) .nil)) (.node 46 ⟨some (false, 1), none, []⟩ (.node 44 ⟨some (false, 1), some .u32, []⟩ (.node 43 ⟨some (false, 1), none, []⟩ .nil .nil) (.node 45 ⟨some (false, 1), none, []⟩ .nil .nil)) (.node 48 ⟨some (false, 1), none, []⟩ (.node 47 ⟨some (false, 1), none, []⟩ .nil .nil) .nil))) (.node 57 ⟨some (true, 0), none, []⟩ (.node 53 ⟨some (false, 1), none, []⟩ (.node 51 ⟨some (true, 37), none, [0, 1, 33, 34, 35, 36]⟩ (.node 50 ⟨some (true, 37), none, [0, 1, 33, 34, 35, 36]⟩ .nil .nil) (.node 52 ⟨some (false, 1), none, []⟩ .nil .nil)) (.node 55 ⟨some (true, 4), none, [0, 1, 2, 3]⟩ (.node 54 ⟨some (false, 1), none, []⟩ .nil .nil) .nil)) (.node 63 ⟨some (false, 1), none, []⟩ (.node 60 ⟨some (false, 1), none, []⟩ (.node 58 ⟨some (true, 0), none, []⟩ .nil .nil) .nil) (.node 67 ⟨some (true, 11), none, [0, 1, 2, 3, 4, 5, 6, 7, 8, 9, 10]⟩ (.node 64 ⟨some (false, 1), none, []⟩ .nil .nil) .nil))))
theorem tbk : TOk Try.prog tb := by unfold TOk; kernel_rfl
section
variable {h : Heap} {n : Nat} {c : Code} {kn : FR → HL → Prop} {ke : Exit → FR → HL → Prop} {f : FR} {L : HL} {id : Nat} {l : List Oper}
theorem v (k : vc tb false Try.prog h n c kn ke f L) : VC Try.prog h n c kn ke f L := vcS tbk c k
theorem v0 (k : vc tb true Try.prog h n c kn ke f L) : VC Try.prog h n c kn ke f L := vcS tbk c k
theorem vq (h2 : lexS 0 (l.map (summ l.toArray)) = true) (k : vo true tb false Try.prog h n l kn l f L) : VD Try.prog h n id l.toArray kn f L := vqT tbk mixed h2 k
end
end Go.Proofs.Ytafflcbcpbgloaa
namespace Go.Vm
theorem wr {n : Int} (h : -9223372036854775808 ≤ n) (h2 : n < 9223372036854775808) : IntKind.wrap .i64 n = n := by
 have e : IntKind.wrap .i64 n = (if decide (n % 18446744073709551616 ≥ 9223372036854775808) = true then n % 18446744073709551616 - 18446744073709551616 else n % 18446744073709551616) := rfl
 rw [e]
 simp only [decide_eq_true_eq]
 split <;> omega
theorem wr1 {i : Nat} (h : i < 1000000000) : IntKind.wrap .i64 ((i : Int) + 1) = ((i + 1 : Nat) : Int) := by rw [wr (by omega) (by omega)]; rfl
theorem ix_nat {α : Type} (l : List α) (i : Nat) : ix l (i : Int) = l[i]? := by simp [ix]
theorem app_some {α : Type} {xs ys : List α} (h : xs.length + ys.length ≤ 1000000000) : app xs ys = some (xs ++ ys) := by simp [app, h]
theorem after_brk {σ ρ : Type} (s : σ) (k : σ → Option ρ) : after (some (.brk s)) k = k s := rfl
def LF {S ρ : Type} (emb : Nat → S) (p : Nat → Bool) (rv : Nat → ρ) (n : Nat) : Lp S ρ := match (List.range n).find? p with
 | none => .brk (emb n)
 | some i => .ret (rv i)
theorem loop_ffG {S ρ : Type} {body : S → Option (Lp S ρ)} (emb : Nat → S) (p : Nat → Bool) (rv : Nat → ρ) : ∀ (m k F : Nat), m < F →
    (∀ i, k ≤ i → i < k + m → (∀ j, j < i → k ≤ j → p j = false) → body (emb i) = some (if p i then .ret (rv i) else .go (emb (i + 1)))) → ((∀ j, k ≤ j → j < k + m → p j = false) → body (emb (k + m)) = some (.brk (emb (k + m)))) →
    loopM body F (emb k) = some (match (List.range' k m).find? p with | none => .brk (emb (k + m)) | some i => .ret (rv i))
  | 0, k, F + 1, _, _, he => by
    have := he (fun j h1 h2 => by omega)
    simp only [Nat.add_zero] at this
    simp [loopM, this]
  | m + 1, k, F + 1, hF, hb, he => by
    have h0 := hb k (Nat.le_refl _) (by omega) (fun j h1 h2 => by omega)
    rw [List.range'_succ, List.find?_cons]
    cases hp : p k with
    | true => simp [loopM, h0, hp]
    | false =>
      have := loop_ffG (body := body) emb p rv m (k + 1) F (by omega) (fun i h1 h2 h3 => hb i (by omega) (by omega) (fun j h4 h5 => by
        by_cases e : j = k
        · subst e; exact hp
        · exact h3 j h4 (by omega))) (fun h => by
        rw [show k + 1 + m = k + (m + 1) from by omega]
        exact he fun j h4 h5 => by
          by_cases e : j = k
          · subst e; exact hp
          · exact h j (by omega) (by omega))
      simp only [loopM, h0, hp]
      rw [if_neg (by simp)]
      simp only [this, show k + 1 + m = k + (m + 1) from by omega]
theorem loop_ff {S ρ : Type} {body : S → Option (Lp S ρ)} {n F : Nat} {s0 : S} (emb : Nat → S) (p : Nat → Bool) (rv : Nat → ρ) (hF : n < F) (h0 : s0 = emb 0)
    (hb : ∀ i, i < n → (∀ j, j < i → p j = false) → body (emb i) = some (if p i then .ret (rv i) else .go (emb (i + 1)))) (he : (∀ j, j < n → p j = false) → body (emb n) = some (.brk (emb n))) :
    loopM body F s0 = some (LF emb p rv n) := by
  subst h0
  have := loop_ffG (body := body) emb p rv n 0 F hF (fun i _ h2 h3 => hb i (by omega) fun j hj => h3 j hj (Nat.zero_le _)) (fun h => by simpa using he fun j hj => h j (Nat.zero_le _) (by omega))
  rw [this, LF, List.range_eq_range']
  simp
theorem LF_none {S ρ : Type} {emb : Nat → S} {p : Nat → Bool} {rv : Nat → ρ} {n : Nat} (h : ∀ i, i < n → p i = false) : LF emb p rv n = .brk (emb n) := by
 have : (List.range n).find? p = none := List.find?_eq_none.2 fun x hx => by simp [h x (List.mem_range.1 hx)]
 simp [LF, this]
def Fc : Option Nat → Fence
 | none => Fence.wide
 | some l => Fence.wide.inRound l
theorem Fc_fn (ro : Option Nat) (f : FuncId) : (Fc ro).fn f := by cases ro <;> trivial
theorem Fc_depth (ro : Option Nat) : (Fc ro).depth.isSome = true → 1 ≤ 0 := by cases ro <;> exact fun h => by cases h
theorem Fc_calls {ro : Option Nat} {n : Nat} {P : Program} {f : FuncId} {args : Array Value} {w : World} {R : Ending → World → Prop} (h : Calls P f args w R) : CallsIn (Fc ro) n P f args w R := by
 cases ro <;> exact callsIn_wide.2 h
theorem Fc_rows {ro : Option Nat} {n : Nat} {P : Program} {r : String} {args : Array Value} {w : World} {R : Value → World → Prop} (h : Rows P r args w R) : RowsIn (Fc ro) n P r args w R := by
 intro c cs _
 obtain ⟨v, w', hR, hs⟩ := h c cs
 refine ⟨v, w', hR, ?_⟩
 cases ro <;> exact stepsIn_wide.2 hs
def nd : Op → Bool
 | .defer _ => false
 | _ => true
theorem nd_ne {o : Op} (h : nd o = true) : ∀ c, o ≠ .defer c := fun c e => by subst e; cases h
section
variable {P : Program} {ro : Option Nat}
theorem op_in {o : Oper} {a : Act} {w : World} {Nx : Act → World → Prop} {Qx : Exit → Act → World → Prop} (hd : nd o.op = true) (h : o.wp P a w Nx Qx) : o.wpIn (Fc ro) 0 P a w Nx Qx := by
 refine ⟨fun f _ => Fc_fn ro f, ?_⟩
 have hs : o.semAt (Fc ro).round a.eval = execOp a.eval o := by
  cases ro with
  | none => simp [Oper.semAt, Fc]
  | some l => exact Oper.semAt_some _ _ _ (nd_ne hd)
 rw [hs]
 unfold Oper.wp at h
 cases e : (execOp a.eval o).run P w with
 | ok nx w' =>
  rw [e] at h
  cases nx with
  | value v => exact h
  | skip => exact h
  | defer d => exact h
  | enter f args => exact ⟨Fc_depth ro, Fc_calls h⟩
  | row r args => exact ⟨Fc_depth ro, Fc_rows h⟩
  | _ => first | exact h.elim | exact h
 | halt x w' =>
  rw [e] at h
  cases x with
  | panic v => exact h
  | _ => first | exact h.elim | exact h
theorem list_in {ops : Array Oper} {Q : Exit → Act → World → Prop} (hq : ¬ LetsOut Q) : ∀ {l : List Oper} {a : Act} {w : World}, (l.all fun o => nd o.op) = true → wpList P ops Q l a w → wpListIn (Fc ro) 0 P ops Q l a w
 | [], _, _, _, h => h
 | o :: l, a, w, hd, h => by
  simp only [List.all_cons, Bool.and_eq_true] at hd
  refine wpListIn_step fun K hK => ?_
  unfold wpList at h
  split at h
  ·rename_i hw
   rw [if_pos hw]
   rcases h with h | ⟨_, h⟩
   ·exact op_in hd.1 (Oper.wp_mono (fun a' w' h' => hK _ _ (list_in hq hd.2 h')) h)
   ·exact absurd h hq
  ·rename_i hw
   rw [if_neg hw]
   exact ⟨fun f _ => Fc_fn ro f, hK _ _ (list_in hq hd.2 h)⟩
theorem any_in {md : Region.Mode} {ops : Array Oper} {Q : Exit → Act → World → Prop} (hq : ¬ LetsOut Q) (hd : (ops.toList.all fun o => nd o.op) = true) : ∀ {fuel : Nat} {S : Array Bool} {a : Act} {w : World}, wpAny P md ops Q fuel S a w → wpAnyIn (Fc ro) 0 P md ops Q fuel S a w
 | 0, _, _, _, h => h
 | fuel + 1, S, a, w, h => by
  refine ⟨h.1, fun i hi => ?_⟩
  have hi' := h.2 i hi
  unfold wpOp at hi'
  unfold wpOpIn
  cases ho : ops[i]? with
  | none => rw [ho] at hi'; exact any_in hq hd hi'
  | some o =>
   rw [ho] at hi'
   simp only at hi' ⊢
   have hn : nd o.op = true := List.all_eq_true.1 hd o (by
    have := Array.mem_of_getElem? ho
    simpa using this)
   split at hi'
   ·rename_i hw
    rw [if_pos hw]
    rcases hi' with hi' | ⟨_, hi'⟩
    ·exact op_in hn (Oper.wp_mono (fun a' w' h' => any_in hq hd h') hi')
    ·exact absurd hi' hq
   ·rename_i hw
    rw [if_neg hw]
    exact ⟨fun f _ => Fc_fn ro f, any_in hq hd hi'⟩
end
def Stb (I : Env → World → Prop) : Prop := ∀ E w E' w', Keep E w E' w' → I E w → I E' w'
def AWn (I : Env → World → Prop) (ro : Option Nat) (P : Program) (c : Code) (Q : Exit → Fr → Heap → Prop) (fr : Fr) (h : Heap) : Prop :=
 ∀ E w a, I E w → Rel E h w → VRL E w fr a.tmps.toList → a.defers = [] → c.wpIn (Fc ro) 0 P (fun e a' w' => Post E w (Q e) a' w') a w
section
variable {P : Program} {ro : Option Nat} {I : Env → World → Prop} {Q : Exit → Fr → Heap → Prop} {fr : Fr} {h : Heap}
theorem AWn.mono {c : Code} {Q' : Exit → Fr → Heap → Prop} (hc : AWn I ro P c Q fr h) (hq : ∀ e fr h, Q e fr h → Q' e fr h) : AWn I ro P c Q' fr h :=
 fun E w a i r v d => wpIn_mono (hc E w a i r v d) fun e _ _ p => p.mono (hq e)
theorem AWn_of {c : Code} (hc : AW P c Q fr h) : AWn I none P c Q fr h := fun E w a _ r v d => wpIn_wide.2 (hc E w a r v d)
theorem AWn_seq (hI : Stb I) {x y : Code} (hx : AWn I ro P x (Seq (AWn I ro P y Q) Q) fr h) : AWn I ro P (.seq x y) Q fr h := by
 intro E w a i r v d
 refine wpIn_seq (wpIn_mono (hx E w a i r v d) ?_)
 intro e a' w' p
 cases e with
 | normal =>
  obtain ⟨E', fr', h', k, r', v', d', q⟩ := p
  exact wpIn_mono (q E' w' a' (hI _ _ _ _ k i) r' v' d') fun _ _ _ p' => p'.trans k
 | exit id => exact p
 | goto l => exact p
 | ret => exact p
 | panic ch => exact p
 | outgrown => exact p
theorem AWn_if {c : Operand} {x y : Code} {t : Bool} (hc : ev fr c = .sc (.bool t)) (ht : t = true → AWn I ro P x Q fr h) (hf : t = false → AWn I ro P y Q fr h) : AWn I ro P (.cond c x y) Q fr h :=
 fun E w a i r v d => wpIn_cond (t := t) (ev_sc v hc) (by
  cases t
  ·exact hf rfl E w a i r v d
  ·exact ht rfl E w a i r v d)
theorem AWn_block {id : Nat} {c : Code} (hc : AWn I ro P c (Blk id Q) fr h) : AWn I ro P (.block id c) Q fr h := by
 intro E w a i r v d
 refine wpIn_block (wpIn_mono (hc E w a i r v d) ?_)
 intro e a' w' p
 cases e with
 | exit id' =>
  by_cases hid : id' = id
  ·simp only [Exit.inBlock, hid, if_true]
   exact p.mono (fun fr h q => by simpa [Blk, hid] using q)
  ·simp only [Exit.inBlock, hid, if_false]
   exact p.mono (fun fr h q => by simpa [Blk, hid] using q)
 | normal => exact p
 | goto l => exact p
 | ret => exact p
 | panic ch => exact p
 | outgrown => exact p
theorem LeF.awn (hI : Stb I) {c : Code} {fr' : Fr} {h' : Heap} (le : LeF fr' h' fr h) (hc : AWn I ro P c Q fr' h') : AWn I ro P c Q fr h := by
 intro E w a i r v d
 obtain ⟨E', k, r', v'⟩ := le E w _ r v
 exact wpIn_mono (hc E' w a (hI _ _ _ _ k i) r' v' d) fun _ _ _ p => p.trans k
theorem AWn_reg {id : Nat} {l : List Oper} (hd : (l.all fun o => nd o.op) = true) (hl : AOps P l.toArray l (Q .normal) fr h) : AWn I ro P (.region id l.toArray false) Q fr h := by
 intro E w a _ r v d
 have h1 := hl E w a r v d (fun e a' w' => e = .normal ∧ Post E w (Q .normal) a' w') fun a' w' p => ⟨rfl, p⟩
 have hq : ¬ LetsOut fun e a' w' => e = Exit.normal ∧ Post E w (Q .normal) a' w' := fun hx => by
  obtain ⟨_, _, e, _⟩ := hx
  cases e
 refine wpIn_mono (wpIn_region_lit (id := id) (list_in (ro := ro) hq hd h1)) ?_
 rintro e a' w' ⟨rfl, p⟩
 exact p
theorem AWn_zreg {id : Nat} {l : List Oper} (fs : List (Nat × Option Key × Ent)) (hd : (l.all fun o => nd o.op) = true) (hm : P.follows .mixedOrders = true) (hI : InvL fs (Array.replicate l.length false) h)
    (hl : AGI P l.toArray fs (Q .normal) l.length (Array.replicate l.length false) fr h) : AWn I ro P (.region id l.toArray true) Q fr h := by
  intro E w a _ r v d
  obtain ⟨r', k⟩ := r.drewn (w.drawn + 1)
  have h1 := AG_sound l.length (Array.replicate l.length false) fr h (hl hI) E { w with drawn := w.drawn + 1 } a r' (VRL_keep k _ _ v) d (fun e a' w' => e = .normal ∧ Post E w (Q .normal) a' w') (fun a' w' p => ⟨rfl, p.trans k⟩)
  have hq : ¬ LetsOut fun e a' w' => e = Exit.normal ∧ Post E w (Q .normal) a' w' := fun hx => by
    obtain ⟨_, _, e, _⟩ := hx
    cases e
  have h2 := wpIn_region_any (F := Fc ro) (n := 0) (id := id) (ops := l.toArray) (a := a) (w := w) hm (any_in (ro := ro) hq (by simpa using hd) (by simpa using h1))
  refine wpIn_mono h2 ?_
  rintro e a' w' ⟨rfl, p⟩
  exact p
end
def nC : Obj → Bool
 | .cells _ _ _ => false
 | _ => true
theorem nC_cell {w : World} {g o : Nat} {ob : Obj} (hl : w.heap[g]? = some ob) (ho : nC ob = true) : w.cell? ⟨g, o, none⟩ = none := by
 cases ob <;> simp_all [World.cell?, nC]
theorem cellP {w : World} {l g o : Nat} {ob ob' : Obj} (hl : w.heap[l]? = some ob) (ho : nC ob = true) (ho' : nC ob' = true) : (w.putObj l ob').cell? ⟨g, o, none⟩ = w.cell? ⟨g, o, none⟩ := by
 by_cases e : g = l
 ·subst e
  have h1 := World.putObj_heap_same (w := w) (o := ob') (Array.getElem?_eq_some_iff.1 hl).1
  rw [nC_cell h1 ho', nC_cell hl ho]
 ·exact cell_of_block (World.putObj_heap_other e) o
theorem Rel.relock {E : Env} {h : Heap} {w : World} (r : Rel E h w) (L : Nat → Prop) (hL : ∀ k g, E.at h k g → ¬ L g) (hb : ∀ g, L g → g < w.heap.size) : Rel { E with lock := L } h w := by
 have hat : ∀ k g, Env.at { E with lock := L } h k g → E.at h k g := fun k g ha => ha
 constructor
 ·intro k ty cs hk
  obtain ⟨g, cur, e1, e2, e3, e4⟩ := r.obj k ty cs hk
  refine ⟨g, cur, e1, e2, ?_, e4⟩
  exact VRL_keepV (E := E) (E' := { E with lock := L }) ⟨fun _ _ h => ⟨h, rfl⟩, fun _ h => h, fun _ _ h => h, fun _ t ht o ho => ⟨.inr ⟨t, ht, rfl, ho⟩, rfl⟩, fun _ t ht _ => ⟨t, ht, Nat.le_refl _, fun _ => rfl⟩⟩ _ _ e3
 ·exact r.tok
 ·exact r.tkh
 ·exact fun k k' g ha hb => r.sep k k' g ha hb
 ·exact fun k g ha => ⟨hL k g ha, (r.dis k g ha).2⟩
 ·exact r.hus
 ·exact r.obu
 ·exact r.fre
 ·exact r.imb
 ·exact hb
 ·exact r.mp
theorem VRL_relock {E : Env} {w : World} {L : Nat → Prop} {xs : List AV} {vs : List Value} (h : VRL E w xs vs) : VRL { E with lock := L } w xs vs :=
 VRL_keepV (E := E) (E' := { E with lock := L }) ⟨fun _ _ h => ⟨h, rfl⟩, fun _ h => h, fun _ _ h => h, fun _ t ht o ho => ⟨.inr ⟨t, ht, rfl, ho⟩, rfl⟩, fun _ t ht _ => ⟨t, ht, Nat.le_refl _, fun _ => rfl⟩⟩ _ _ h
theorem Rel.turn {E : Env} {h : Heap} {w : World} (r : Rel E h w) {l : Nat} {ob ob' : Obj} (hl : w.heap[l]? = some ob) (ho : nC ob = true) (ho' : nC ob' = true) (hlk : ∀ k, ¬ E.at h k l) : Rel E h (w.putObj l ob') ∧ KeepV E w E (w.putObj l ob') := by
 have hv : KeepV E w E (w.putObj l ob') := ⟨fun g o hi => ⟨hi, cellP hl ho ho'⟩, fun _ h => h, fun _ _ h => h, fun _ t ht o ho2 => ⟨.inr ⟨t, ht, rfl, ho2⟩, cellP hl ho ho'⟩, fun _ t ht _ => ⟨t, ht, Nat.le_refl _, fun _ => rfl⟩⟩
 refine ⟨?_, hv⟩
 have ne : ∀ k g, E.at h k g → g ≠ l := fun k g ha e => hlk k (e ▸ ha)
 constructor
 ·intro k ty cs hk
  obtain ⟨g, cur, e1, e2, e3, e4⟩ := r.obj k ty cs hk
  exact ⟨g, cur, e1, by rw [World.putObj_heap_other (ne k g (.inl ⟨_, rfl, hk, e1⟩))]; exact e2, VRL_keepV hv _ _ e3, e4⟩
 ·intro k ty sz m hk
  obtain ⟨t, cur, e1, e2, e3, e4, e5⟩ := r.tok k ty sz m hk
  exact ⟨t, cur, e1, e2, e3, by rw [World.putObj_heap_other (ne k t.b (.inr ⟨_, _, _, t, hk, e1, rfl⟩))]; exact e4, e5⟩
 ·exact r.tkh
 ·exact r.sep
 ·exact r.dis
 ·exact r.hus
 ·exact r.obu
 ·exact r.fre
 ·intro g o hg
  obtain ⟨v, e⟩ := r.imb g o hg
  exact ⟨v, (cellP hl ho ho').trans e⟩
 ·intro g hg
  rw [World.putObj_size]
  exact r.lkb g hg
 ·intro k es hk
  obtain ⟨g, ents, clk, e1, e2, e3⟩ := r.mp k es hk
  exact ⟨g, ents, clk, e1, by rw [World.putObj_heap_other (ne k g (.inl ⟨_, rfl, hk, e1⟩))]; exact e2, e3⟩
theorem Rel.more {E : Env} {h : Heap} {w : World} (r : Rel E h w) (ob : Obj) : Rel E h (w.alloc ob) ∧ Keep E w E (w.alloc ob) := by
 have hb : ∀ g, g < w.heap.size → (w.alloc ob).heap[g]? = w.heap[g]? := fun g hg => by
  show (w.heap.push ob)[g]? = w.heap[g]?
  rw [Array.getElem?_push_lt hg, Array.getElem?_eq_getElem hg]
 have hc : ∀ g o v, w.cell? ⟨g, o, none⟩ = some v → (w.alloc ob).cell? ⟨g, o, none⟩ = w.cell? ⟨g, o, none⟩ := fun g o v e => cell_of_block (hb g (block_of_cell e)) o
 have htk : ∀ k t, E.tk k = some t → t.b < w.heap.size := fun k t ht => by
  obtain ⟨ty, e⟩ := r.tkh k t ht
  exact r.at_lt (.inr ⟨_, _, _, t, e, ht, rfl⟩)
 have hk : Keep E w E (w.alloc ob) := by
  refine ⟨fun g o hi => ⟨hi, ?_⟩, fun _ => Iff.rfl, fun g hg => hb g (r.lkb g hg), fun _ h => h, fun _ _ h => h, fun k t ht o ho => ⟨.inr ⟨t, ht, rfl, ho⟩, cell_of_block (hb _ (htk k t ht)) o⟩, fun _ t ht _ => ⟨t, ht, Nat.le_refl _, fun _ => rfl⟩, rfl, rfl, rfl, ?_⟩
  ·obtain ⟨v, e⟩ := r.imb g o hi
   exact hc g o v e
  ·show w.heap.size ≤ (w.heap.push ob).size
   simp
 refine ⟨?_, hk⟩
 constructor
 ·intro k ty cs hk'
  obtain ⟨g, cur, e1, e2, e3, e4⟩ := r.obj k ty cs hk'
  exact ⟨g, cur, e1, by rw [hb g (Array.getElem?_eq_some_iff.1 e2).1]; exact e2, VRL_keep hk _ _ e3, e4⟩
 ·intro k ty sz m hk'
  obtain ⟨t, cur, e1, e2, e3, e4, e5⟩ := r.tok k ty sz m hk'
  exact ⟨t, cur, e1, e2, e3, by rw [hb t.b (Array.getElem?_eq_some_iff.1 e4).1]; exact e4, e5⟩
 ·exact r.tkh
 ·exact r.sep
 ·exact r.dis
 ·exact r.hus
 ·exact r.obu
 ·exact r.fre
 ·intro g o hg
  obtain ⟨v, e⟩ := r.imb g o hg
  exact ⟨v, (hc g o v e).trans e⟩
 ·intro g hg
  have := r.lkb g hg
  show g < (w.heap.push ob).size
  simp; omega
 ·intro k es hk'
  obtain ⟨g, ents, clk, e1, e2, e3⟩ := r.mp k es hk'
  exact ⟨g, ents, clk, e1, by rw [hb g (Array.getElem?_eq_some_iff.1 e2).1]; exact e2, e3⟩
def Ird (l D : Nat) (rec : Loop) (fr0 : Fr) (E : Env) (w : World) : Prop :=
 E.lock l ∧ w.heap[l]? = some (.loop rec) ∧ E.lock D ∧ w.heap[D]? = some (.deferred (some [])) ∧ VRL E w fr0 rec.tmps.toList
theorem Ird.stb {l D : Nat} {rec : Loop} {fr0 : Fr} : Stb (Ird l D rec fr0) := fun E w E' w' k ⟨a, b, c, d, e⟩ =>
 ⟨(k.lockEq l).2 a, (k.lock l a).trans b, (k.lockEq D).2 c, (k.lock D c).trans d, VRL_keep k _ _ e⟩
theorem round_abs {P : Program} {l D p : Nat} {rec : Loop} {fr0 fr1 : Fr} {h : Heap} {K : Heap → Prop} {x : AV} (hst : rec.state = .ready) (hpn : rec.pending = none)
    (ha : AWn (fun _ _ => True) (some l) P rec.assign (fun e fr hh => e = .normal ∧ LeF fr1 h fr hh) (fr0.set p x) h)
    (hb : AWn (fun _ _ => True) (some l) P rec.body (fun e fr hh => e = .normal ∧ ∃ h' g, K h' ∧ LeF g h' fr hh) fr1 h)
    {E : Env} {w : World} {v : Value} (hi : Ird l D rec fr0 E w) (r : Rel E h w) (hv : VR E w x v) :
    RoundIn Fence.wide 0 P l rec.fn (rec.tmps.setIfInBounds p v) rec.assign rec.body w (fun e w' => e = .returned (.bool true) ∧ ∃ E' h', Keep E w E' w' ∧ Rel E' h' w' ∧ K h') := by
  obtain ⟨il, ih, iD, iDh, iv⟩ := hi
  have hnat : ∀ {E : Env} {h : Heap} {w : World}, Rel E h w → E.lock l → ∀ k, ¬ E.at h k l := fun r hl k ha => (r.dis k l ha).1 hl
  refine roundIn_of_wpIn trivial ?_
  have hv0 : VRL E w (fr0.set p x) (rec.tmps.setIfInBounds p v).toList := by
    rw [Array.toList_setIfInBounds]
    exact VRL_set p iv hv
  refine wpIn_mono (ha E w { tmps := rec.tmps.setIfInBounds p v, defers := [] } trivial r hv0 rfl) ?_
  rintro e a1 w1 ⟨E1, fr', hh, k1, r1, v1, d1, rfl, le1⟩
  obtain ⟨E2, k2, r2, v2⟩ := le1 E1 w1 _ r1 v1
  have k12 := k1.trans k2
  have il2 : E2.lock l := (k12.lockEq l).2 il
  have hl1 : w1.heap[l]? = some (.loop rec) := (k1.lock l il).trans ih
  refine ⟨_, run_beginRound hl1 hst, ?_⟩
  obtain ⟨r3, kv3⟩ := r2.turn (ob' := .loop { rec with state := .busy }) hl1 rfl rfl (hnat r2 il2)
  have hl3 : (w1.putObj l (.loop { rec with state := .busy })).heap[l]? = some (.loop { rec with state := .busy }) := World.putObj_heap_same (Array.getElem?_eq_some_iff.1 hl1).1
  refine wpIn_mono (hb E2 _ a1 trivial r3 (VRL_keepV kv3 _ _ v2) d1) ?_
  rintro e a4 w4 ⟨E4, fr4, h4, k4, r4, v4, d4, rfl, h', g4, kh, le4⟩
  obtain ⟨E5, k5, r5, -⟩ := le4 E4 w4 _ r4 v4
  have k45 := k4.trans k5
  have hl4 : w4.heap[l]? = some (.loop { rec with state := .busy }) := (k4.lock l il2).trans hl3
  have il5 : E5.lock l := (k45.lockEq l).2 il2
  obtain ⟨r6, kv6⟩ := r5.turn (ob' := .loop rec) hl4 rfl rfl (hnat r5 il5)
  have hend := run_endRound (P := P) none hl4
  have hrec : ({ ({ rec with state := .busy } : Loop) with state := if (none : Option Code).isNone then .ready else .done, pending := none } : Loop) = rec := by
    cases rec; simp_all
  rw [hrec] at hend
  refine ⟨_, _, hend, rfl, E5, h', ?_, r6, kh⟩
  have hl6 : (w4.putObj l (.loop rec)).heap[l]? = some (.loop rec) := World.putObj_heap_same (Array.getElem?_eq_some_iff.1 hl4).1
  have oth : ∀ g, g ≠ l → (w4.putObj l (.loop rec)).heap[g]? = w4.heap[g]? := fun g hg => World.putObj_heap_other hg
  have oth3 : ∀ g, g ≠ l → (w1.putObj l (.loop { rec with state := .busy })).heap[g]? = w1.heap[g]? := fun g hg => World.putObj_heap_other hg
  -- what is kept, from the round's begin to its end
  have c1 := kv3
  refine ⟨fun g o hg => ?_, fun g => ?_, fun g hg => ?_, fun k hk => k45.used k (k12.used k hk), fun k g hk => k45.ob k g (k12.ob k g hk), fun k t ht o ho => ?_, fun k t' ht' hu => ?_, ?_, ?_, ?_, ?_⟩
  · obtain ⟨q1, q2⟩ := k12.imm g o hg
    obtain ⟨q3, q4⟩ := kv3.imm g o q1
    obtain ⟨q5, q6⟩ := k45.imm g o q3
    obtain ⟨q7, q8⟩ := kv6.imm g o q5
    exact ⟨q7, q8.trans (q6.trans (q4.trans q2))⟩
  · exact (k45.lockEq g).trans (k12.lockEq g)
  · by_cases e : g = l
    · subst e; exact hl6.trans ih.symm
    · rw [oth g e, k45.lock g ((k12.lockEq g).2 hg), oth3 g e, k12.lock g hg]
  · obtain ⟨q1, q2⟩ := k12.tkc k t ht o ho
    rcases q1 with q1 | ⟨t2, q1, qb, qm⟩
    · obtain ⟨q3, q4⟩ := kv3.imm _ _ q1
      obtain ⟨q5, q6⟩ := k45.imm _ _ q3
      obtain ⟨q7, q8⟩ := kv6.imm _ _ q5
      exact ⟨.inl q7, q8.trans (q6.trans (q4.trans q2))⟩
    · obtain ⟨q3, q4⟩ := kv3.tkc k t2 q1 o qm
      obtain ⟨q5, q6⟩ := k45.tkc k t2 q1 o qm
      rw [qb] at q4 q5 q6
      have q8 : (w4.putObj l (.loop rec)).cell? ⟨t.b, o, none⟩ = w4.cell? ⟨t.b, o, none⟩ := cellP hl4 rfl rfl
      refine ⟨?_, q8.trans (q6.trans (q4.trans q2))⟩
      rcases q5 with q5 | ⟨t3, q5, qb3, qm3⟩
      · exact .inl q5
      · exact .inr ⟨t3, q5, qb3, qm3⟩
  · obtain ⟨t5, q1, q2, q3⟩ := k45.tkf k t' ht' (k12.used k hu)
    obtain ⟨t1, q4, q5, q6⟩ := k12.tkf k t5 q1 hu
    refine ⟨t1, q4, Nat.le_trans q5 q2, fun e => ?_⟩
    have e1 : t1.m = t5.m := by omega
    have e2 : t5.m = t'.m := by omega
    rw [q6 e1, q3 e2]
  · exact (show (w4.putObj l (.loop rec)).os = w4.os from rfl).trans (k45.os.trans ((show (w1.putObj l (.loop { rec with state := .busy })).os = w1.os from rfl).trans k12.os))
  · exact (show (w4.putObj l (.loop rec)).tape = w4.tape from rfl).trans (k45.tape.trans ((show (w1.putObj l (.loop { rec with state := .busy })).tape = w1.tape from rfl).trans k12.tape))
  · exact (show (w4.putObj l (.loop rec)).output = w4.output from rfl).trans (k45.output.trans ((show (w1.putObj l (.loop { rec with state := .busy })).output = w1.output from rfl).trans k12.output))
  · have s1 := k12.size
    have s2 := k45.size
    rw [World.putObj_size] at s2 ⊢
    omega
def Rnd (P : Program) (l D p : Nat) (rec : Loop) (fr0 : Fr) (x : AV) (h : Heap) (K : Heap → Prop) : Prop :=
 ∀ E w v, Ird l D rec fr0 E w → Rel E h w → VR E w x v →
  RoundIn Fence.wide 0 P l rec.fn (rec.tmps.setIfInBounds p v) rec.assign rec.body w (fun e w' => e = .returned (.bool true) ∧ ∃ E' h', Keep E w E' w' ∧ Rel E' h' w' ∧ K h')
theorem Rnd.of {P : Program} {l D p : Nat} {rec : Loop} {fr0 fr1 : Fr} {h : Heap} {K : Heap → Prop} {x : AV} (hst : rec.state = .ready) (hpn : rec.pending = none)
    (ha : AWn (fun _ _ => True) (some l) P rec.assign (fun e fr hh => e = .normal ∧ LeF fr1 h fr hh) (fr0.set p x) h)
    (hb : AWn (fun _ _ => True) (some l) P rec.body (fun e fr hh => e = .normal ∧ ∃ h' g, K h' ∧ LeF g h' fr hh) fr1 h) : Rnd P l D p rec fr0 x h K :=
  fun _ _ _ hi r hv => round_abs hst hpn ha hb hi r hv
def AOn (I : Env → World → Prop) (ro : Option Nat) (P : Program) (ops : Array Oper) (l : List Oper) (K : Fr → Heap → Prop) (fr : Fr) (h : Heap) : Prop :=
 ∀ E w a, I E w → Rel E h w → VRL E w fr a.tmps.toList → a.defers = [] → ∀ Q : Exit → Act → World → Prop, ¬ LetsOut Q → (∀ a' w', Post E w K a' w' → Q .normal a' w') → wpListIn (Fc ro) 0 P ops Q l a w
theorem wp_ex {P : Program} {o : Oper} {a : Act} {w : World} {K : Act → World → Prop} {Q Q' : Exit → Act → World → Prop} (hp : ∀ ch a w, Q (.panic ch) a w → Q' (.panic ch) a w) (ho : LetsOut Q → LetsOut Q')
    (hh : o.wp P a w K Q) : o.wp P a w K Q' := by
  unfold Oper.wp at *
  generalize (execOp a.eval o).run P w = r at *
  cases r with
  | ok n w' =>
    cases n <;> simp only [Oper.upon] at hh ⊢ <;>
      first
        | exact hh
        | exact Calls.mono hh (fun e w'' he => by cases e <;> first | exact he | exact hp _ _ _ he | exact ho he)
        | exact Rows.mono hh (fun _ _ he => he)
  | halt x w' => cases x <;> simp only [Oper.upon] at hh ⊢ <;> first | exact hh | exact hp _ _ _ hh
section
variable {P : Program} {ro : Option Nat} {I : Env → World → Prop} {Q : Exit → Fr → Heap → Prop} {fr : Fr} {h : Heap} {ops : Array Oper} {K : Fr → Heap → Prop}
theorem list_pre {Q Q1 : Exit → Act → World → Prop} {l2 : List Oper} (hq : ¬ LetsOut Q) (hp : ∀ ch a w, Q1 (.panic ch) a w → Q (.panic ch) a w) (ho : LetsOut Q1 → LetsOut Q) (hn : ∀ a w, Q1 .normal a w → wpListIn (Fc ro) 0 P ops Q l2 a w) :
    ∀ {l : List Oper} {a : Act} {w : World}, (l.all fun o => nd o.op) = true → wpList P ops Q1 l a w → wpListIn (Fc ro) 0 P ops Q (l ++ l2) a w
  | [], _, _, _, h => hn _ _ h
  | o :: l, a, w, hd, h => by
    simp only [List.all_cons, Bool.and_eq_true] at hd
    refine wpListIn_step fun K hK => ?_
    unfold wpList at h
    split at h
    · rename_i hw
      rw [if_pos hw]
      rcases h with h | ⟨_, h⟩
      · exact op_in hd.1 (wp_ex hp ho (Oper.wp_mono (fun a' w' h' => hK _ _ (list_pre hq hp ho hn hd.2 h')) h))
      · exact absurd (ho h) hq
    · rename_i hw
      rw [if_neg hw]
      exact ⟨fun f _ => Fc_fn ro f, hK _ _ (list_pre hq hp ho hn hd.2 h)⟩
theorem AOn_of {l l2 : List Oper} (hI : Stb I) (hd : (l.all fun o => nd o.op) = true) (hl : AOps P ops l (fun fr hh => AOn I ro P ops l2 K fr hh) fr h) : AOn I ro P ops (l ++ l2) K fr h := by
 intro E w a i r v d Q hq hQ
 refine list_pre (Q1 := fun e a' w' => match e with | .normal => wpListIn (Fc ro) 0 P ops Q l2 a' w' | e => Q e a' w') hq (fun _ _ _ p => p) (fun p => p) (fun _ _ p => p) hd (hl E w a r v d _ ?_)
 rintro a' w' ⟨E', fr', h', k, r', v', d', q⟩
 exact q E' w' a' (hI _ _ _ _ k i) r' v' d' Q hq fun a'' w'' p => hQ _ _ (p.trans k)
theorem AOn_nil (hk : K fr h) : AOn I ro P ops [] K fr h := fun E w a _ r v d _ _ hQ => hQ a w ⟨E, fr, h, Keep.refl E w, r, v, d, hk⟩
theorem AWn_list {id : Nat} {l : List Oper} (hl : AOn I ro P l.toArray l (Q .normal) fr h) : AWn I ro P (.region id l.toArray false) Q fr h := by
 intro E w a i r v d
 refine wpIn_mono (wpIn_region_lit (id := id) (Q := fun e a' w' => e = .normal ∧ Post E w (Q .normal) a' w') (hl E w a i r v d _ ?_ fun _ _ p => ⟨rfl, p⟩)) ?_
 ·rintro ⟨_, _, e, _⟩
  cases e
 ·rintro e a' w' ⟨rfl, p⟩
  exact p
theorem AWn_now {c : Code} {e : Exit} (hc : ∀ (R : Exit → Act → World → Prop) a w, R e a w → c.wpIn (Fc ro) 0 P R a w) (hq : Q e fr h) : AWn I ro P c Q fr h :=
 fun E w a _ r v d => hc _ a w ⟨E, fr, h, Keep.refl E w, r, v, d, hq⟩
theorem AWn_skip (hq : Q .normal fr h) : AWn I ro P .skip Q fr h := AWn_now (fun _ _ _ p => wpIn_skip p) hq
theorem AWn_loop {c : Code} (hI : Stb I) (J : Nat → Fr → Heap → Prop) (n : Nat) (h0 : J n fr h)
    (round : ∀ n fr h, J n fr h → AWn I none P c (Seq (fun fr' h' => ∃ n', n' < n ∧ J n' fr' h') Q) fr h) : AWn I none P (.loop c) Q fr h := by
  intro E w a i r v d
  refine wpIn_wide.2 (wp_loop_ghost (fun n a' w' => Post E w (J n) a' w') n ⟨E, fr, h, Keep.refl E w, r, v, d, h0⟩ ?_)
  intro n a' w' p
  obtain ⟨E', fr', h', k, r', v', d', q⟩ := p
  refine wp_mono (wpIn_wide.1 (round n fr' h' q E' w' a' (hI _ _ _ _ k i) r' v' d')) ?_
  intro e a'' w'' p'
  cases e with
  | normal =>
    obtain ⟨E'', fr'', h'', k', r'', v'', d'', n', hn, q'⟩ := p'
    exact ⟨n', hn, E'', fr'', h'', k.trans k', r'', v'', d'', q'⟩
  | exit id => exact p'.trans k
  | goto l => exact p'.trans k
  | ret => exact p'.trans k
  | panic ch => exact p'.trans k
  | outgrown => exact p'.trans k
theorem AOn_yield {l D p : Nat} {rec : Loop} {fr0 : Fr} {x : AV} {Kr : Heap → Prop} {y b : Operand} {dst : Option Tmp} {ts : Array TypeId} {ty : TypeId} {pos : String} {aft : Array Edge} {l2 : List Oper}
    (hp : rec.params = #[p]) (hy : ev fr y = .fn (.yield l) []) (hx : ev fr b = x) (hr : Rnd P l D p rec fr0 x h Kr)
    (k : ∀ h', Kr h' → AOn (Ird l D rec fr0) none P ops l2 K (fput fr dst (.sc (.bool true))) h') :
    AOn (Ird l D rec fr0) none P ops (⟨dst, .call { callee := .value y, args := #[b], argTypes := ts }, ty, pos, aft, none⟩ :: l2) K fr h := by
  intro E w a i r v d Q hq hQ
  refine wpListIn_plain rfl fun K' hK' => ⟨fun f _ => Fc_fn none f, ?_⟩
  have e1 : a.eval y = .func (.yield l) #[] #[] := by
    have h1 := VR_ev v y
    rw [hy] at h1
    simp only [VR] at h1
    obtain ⟨vs, e, h2⟩ := h1
    have : vs = #[] := by
      have := VRL_length h2
      exact Array.eq_empty_of_size_eq_zero (by simpa using this.symm)
    rw [e, this]
  have e2 : VR E w x (a.eval b) := hx ▸ VR_ev v b
  have hrun : ((⟨dst, .call { callee := .value y, args := #[b], argTypes := ts }, ty, pos, aft, none⟩ : Oper).semAt (Fc none).round a.eval).run P w = .ok (.round l rec.fn (rec.tmps.setIfInBounds p (a.eval b)) rec.assign rec.body) w := by
    have hy := run_yield (P := P) (args := #[a.eval b]) i.2.1 (by rw [hp]; rfl)
    rw [hp] at hy
    have hz : Array.foldl (fun (tmps : Array Value) (x : Tmp × Value) => match x with | (t, a) => tmps.setIfInBounds t a) rec.tmps (#[p].zip #[a.eval b]) = rec.tmps.setIfInBounds p (a.eval b) := by simp
    rw [hz] at hy
    simp only [Oper.semAt, Fc]
    simp [execOp, resolve, Deferred.ofValue, e1, invoke, Fence.wide, hy]
  rw [hrun, Oper.uponIn_round]
  refine ⟨fun hh => (by cases hh), (hr E w _ i r e2).mono ?_⟩
  rintro e w' ⟨rfl, E', h', k1, r1, kh⟩
  refine hK' _ _ (k h' kh E' w' _ (Ird.stb _ _ _ _ k1 i) r1 (VRL_put _ (VRL_keep k1 _ _ v) (by simp [VR])) (by rw [put_defers]; exact d) Q hq fun a'' w'' p' => hQ _ _ (p'.trans k1))
end
theorem Keep.unlock {E E' : Env} {w w' : World} {L : Nat → Prop} (L0 : Nat → Prop) (hs : ∀ g, L0 g → L g) (k : Keep { E with lock := L } w E' w') : Keep { E with lock := L0 } w { E' with lock := L0 } w' :=
 ⟨k.imm, fun _ => Iff.rfl, fun g hg => k.lock g (hs g hg), k.used, k.ob, k.tkc, k.tkf, k.os, k.tape, k.output, k.size⟩
theorem Rel.turnK {E : Env} {h : Heap} {w : World} (r : Rel E h w) {l : Nat} {ob ob' : Obj} (hl : w.heap[l]? = some ob) (ho : nC ob = true) (ho' : nC ob' = true) (hlk : ∀ k, ¬ E.at h k l) (hn : ¬ E.lock l) :
    Rel E h (w.putObj l ob') ∧ Keep E w E (w.putObj l ob') := by
  obtain ⟨r1, kv⟩ := r.turn hl ho ho' hlk
  refine ⟨r1, fun g o hi => kv.imm g o hi, fun _ => Iff.rfl, fun g hg => World.putObj_heap_other fun e => hn (e ▸ hg), kv.used, kv.ob, fun k t ht o ho2 => kv.tkc k t ht o ho2, kv.tkf, rfl, rfl, rfl, ?_⟩
  rw [World.putObj_size]
  exact Nat.le_refl _
def mkD (D : Nat) : Deferred := { target := .collected D, args := #[] }
def PostM (E : Env) (w : World) (K : Fr → Heap → Prop) (a' : Act) (w' : World) : Prop :=
 ∃ D E1 w1 E' fr' h', ¬ E.lock D ∧ Keep E w E1 w1 ∧ Keep { E1 with lock := fun g => E1.lock g ∨ g = D } w1 E' w' ∧ Rel E' h' w' ∧ VRL E' w' fr' a'.tmps.toList ∧ a'.defers = [mkD D] ∧ w'.heap[D]? = some (.deferred (some [])) ∧ K fr' h'
def PostD (D : Nat) (E : Env) (w : World) (K : Fr → Heap → Prop) (a' : Act) (w' : World) : Prop :=
 ∃ E' fr' h', Keep E w E' w' ∧ Rel E' h' w' ∧ VRL E' w' fr' a'.tmps.toList ∧ a'.defers = [mkD D] ∧ K fr' h'
def AWm (P : Program) (c : Code) (Q : Exit → Fr → Heap → Prop) (fr : Fr) (h : Heap) : Prop :=
 ∀ E w a, Rel E h w → VRL E w fr a.tmps.toList → a.defers = [] → c.wpIn Fence.wide 0 P (fun e a' w' => PostM E w (Q e) a' w') a w
def AWd (P : Program) (c : Code) (Q : Exit → Fr → Heap → Prop) (fr : Fr) (h : Heap) : Prop :=
 ∀ D E w a, Rel E h w → VRL E w fr a.tmps.toList → a.defers = [mkD D] → c.wpIn Fence.wide 0 P (fun e a' w' => PostD D E w (Q e) a' w') a w
def AOd (P : Program) (ops : Array Oper) (l : List Oper) (K : Fr → Heap → Prop) (fr : Fr) (h : Heap) : Prop :=
 ∀ D E w a, Rel E h w → VRL E w fr a.tmps.toList → a.defers = [mkD D] → ∀ Q, (∀ a' w', PostD D E w K a' w' → Q .normal a' w') → wpListIn Fence.wide 0 P ops Q l a w
theorem PostD.trans {D : Nat} {E E' : Env} {w w' : World} {K : Fr → Heap → Prop} {a'' : Act} {w'' : World} (k : Keep E w E' w') (h : PostD D E' w' K a'' w'') : PostD D E w K a'' w'' :=
 let ⟨E'', fr', h', h1, h2, h3, h4, h5⟩ := h; ⟨E'', fr', h', k.trans h1, h2, h3, h4, h5⟩
theorem PostM.trans {E E' : Env} {w w' : World} {K : Fr → Heap → Prop} {a'' : Act} {w'' : World} (k : Keep E w E' w') (h : PostM E' w' K a'' w'') : PostM E w K a'' w'' := by
 obtain ⟨D, E1, w1, E2, fr', h', n, k1, k2, r, v, d, c, q⟩ := h
 exact ⟨D, E1, w1, E2, fr', h', fun e => n ((k.lockEq D).2 e), k.trans k1, k2, r, v, d, c, q⟩
theorem PostM.mono {E : Env} {w : World} {K K' : Fr → Heap → Prop} {a' : Act} {w' : World} (hk : ∀ fr h, K fr h → K' fr h) (h : PostM E w K a' w') : PostM E w K' a' w' :=
 let ⟨D, E1, w1, E2, fr', h', n, k1, k2, r, v, d, c, q⟩ := h; ⟨D, E1, w1, E2, fr', h', n, k1, k2, r, v, d, c, hk _ _ q⟩
section
variable {P : Program} {Q : Exit → Fr → Heap → Prop} {fr : Fr} {h : Heap} {ops : Array Oper} {K : Fr → Heap → Prop}
theorem AOd_nil (hk : K fr h) : AOd P ops [] K fr h := fun D E w a r v d _ hQ => hQ a w ⟨E, fr, h, Keep.refl E w, r, v, d, hk⟩
theorem AOd_plain {o : Oper} {l : List Oper} (hg : o.guard = none) (hd : nd o.op = true) (ho : AOp P o (fun x h' => AOd P ops l K (fput fr o.dst x) h') fr h) : AOd P ops (o :: l) K fr h := by
 intro D E w a r v d Q hQ
 refine wpListIn_plain hg fun K' hK' => op_in (ro := none) hd (ho E w a r (fun y _ => VR_ev v y) K' Q ?_)
 intro x u w' E' h' k r' vx kx
 refine hK' _ _ (kx D E' w' _ r' (VRL_put _ (VRL_keep k _ _ v) vx) (by rw [put_defers]; exact d) Q ?_)
 intro a' w'' p
 exact hQ _ _ (p.trans k)
theorem AWd_list {id : Nat} {l : List Oper} (hl : AOd P l.toArray l (Q .normal) fr h) : AWd P (.region id l.toArray false) Q fr h :=
 fun D E w a r v d => wpIn_region_lit (hl D E w a r v d _ fun _ _ p => p)
theorem AWd_ret (hq : Q .ret fr h) : AWd P .ret Q fr h := fun D E w a r v d => wpIn_ret ⟨E, fr, h, Keep.refl E w, r, v, d, hq⟩
theorem AWd_seq {x y : Code} (hx : AWd P x (Seq (AWd P y Q) Q) fr h) : AWd P (.seq x y) Q fr h := by
 intro D E w a r v d
 refine wpIn_seq (wpIn_mono (hx D E w a r v d) ?_)
 intro e a' w' p
 cases e with
 | normal =>
  obtain ⟨E', fr', h', k, r', v', d', q⟩ := p
  exact wpIn_mono (q D E' w' a' r' v' d') fun _ _ _ p' => p'.trans k
 | exit id => exact p
 | goto l => exact p
 | ret => exact p
 | panic ch => exact p
 | outgrown => exact p
theorem LeF.awm {c : Code} {fr' : Fr} {h' : Heap} (le : LeF fr' h' fr h) (hc : AWm P c Q fr' h') : AWm P c Q fr h := by
 intro E w a r v d
 obtain ⟨E', k, r', v'⟩ := le E w _ r v
 exact wpIn_mono (hc E' w a r' v' d) fun _ _ _ p => p.trans k
theorem AWm_pre {x y : Code} (hx : AW P x (fun e fr h => e = .normal ∧ AWm P y Q fr h) fr h) : AWm P (.seq x y) Q fr h := by
 intro E w a r v d
 refine wpIn_seq (wpIn_mono (wpIn_wide.2 (hx E w a r v d)) ?_)
 rintro e a' w' ⟨E', fr', h', k, r', v', d', rfl, q⟩
 exact wpIn_mono (q E' w' a' r' v' d') fun _ _ _ p' => p'.trans k
theorem AWm_post {x y : Code} (hx : AWm P x (fun e fr h => e = .normal ∧ AWd P y Q fr h) fr h) : AWm P (.seq x y) Q fr h := by
 intro E w a r v d
 refine wpIn_seq (wpIn_mono (hx E w a r v d) ?_)
 rintro e a' w' ⟨D, E1, w1, E2, fr', h', n, k1, k2, r', v', d', c, rfl, q⟩
 refine wpIn_mono (q D E2 w' a' r' v' d') fun e a'' w'' p' => ?_
 obtain ⟨E3, fr3, h3, k3, r3, v3, d3, q3⟩ := p'
 exact ⟨D, E1, w1, E3, fr3, h3, n, k1, k2.trans k3, r3, v3, d3, (k3.lock D ((k2.lockEq D).2 (.inr rfl))).trans c, q3⟩
theorem AWm_block {id : Nat} {c : Code} (hc : AWm P c (fun e fr h => e = .normal ∧ Q .normal fr h) fr h) : AWm P (.block id c) Q fr h := by
 intro E w a r v d
 refine wpIn_block (wpIn_mono (hc E w a r v d) ?_)
 intro e a' w' p
 have e0 : e = .normal := by
  obtain ⟨D, E1, w1, E2, fr', h', n, k1, k2, r', v', d', c, e0, q⟩ := p
  exact e0
 subst e0
 exact p.mono fun _ _ q => q.2
theorem ACalls_of_AWm {f : FuncId} {fn : Func} {c : Code} {args : List AV} {Q : AV → Heap → Prop} (hf : P.funcs[f]? = some fn) (hb : fn.body = some c)
    (hc : AWm P c (Ret P fn.results.toList Q) (args ++ List.replicate (fn.ntmps - args.length) (.sc undef)) h) : ACalls P f args h Q := by
  intro E w vs r v
  refine callsIn_wide.1 (callsIn_of_wp_marks (n := 0) hf hb trivial ?_)
  have hl : args.length = vs.size := by simpa using VRL_length v
  have hv : VRL E w (args ++ List.replicate (fn.ntmps - args.length) (.sc undef)) (vs ++ Array.replicate (fn.ntmps - vs.size) undef).toList := by
    rw [Array.toList_append, ← hl]
    refine VRL_append v ?_
    have := VRL_sc (E := E) (w := w) (List.replicate (fn.ntmps - args.length) undef)
    simpa using this
  refine wpIn_mono (hc E w { tmps := vs ++ Array.replicate (fn.ntmps - vs.size) undef, defers := [] } r hv rfl) ?_
  intro e a' w' p
  obtain ⟨D, E1, w1, E2, fr', h', n, k1, k2, r', v', d', c, q⟩ := p
  have hD : E2.lock D := (k2.lockEq D).2 (.inr rfl)
  have h1 : ∀ g, E1.lock g → E2.lock g := fun g hg => (k2.lockEq g).2 (.inl hg)
  have r3 : Rel { E2 with lock := E1.lock } h' w' := r'.relock E1.lock (fun k g ha hg => (r'.dis k g ha).1 (h1 g hg)) (fun g hg => r'.lkb g (h1 g hg))
  have k3 : Keep E w { E2 with lock := E1.lock } w' := k1.trans (k2.unlock E1.lock fun g hg => .inl hg)
  obtain ⟨r4, k4⟩ := r3.turnK (ob' := .deferred none) c rfl rfl (fun k ha => (r'.dis k D ha).1 hD) (fun e => n ((k1.lockEq D).1 e))
  have k5 := k3.trans k4
  have v4 : VRL { E2 with lock := E1.lock } (w'.putObj D (.deferred none)) fr' a'.tmps.toList := VRL_keep k4 _ _ (VRL_relock v')
  have fin : ∀ x y h'', resA P h' fr' fn.results.toList = some x → Sub h'' h' → ALe h'' x y → Q y h'' →
      LeavesInM Fence.wide 0 P fn a'.tmps (fun e w' => ∃ v E' x h', e = Ending.returned v ∧ Keep E w E' w' ∧ Rel E' h' w' ∧ VR E' w' x v ∧ Q x h') a'.defers .returning w' := by
    intro x y h'' hx hs hl hq
    rw [d']
    obtain ⟨u, g1, g2⟩ := resA_sound r4 v4 hx
    obtain ⟨E'', k'', r''⟩ := r4.drop hs
    exact ⟨nofun, .inl ⟨D, _, rfl, run_takeDeferred c, u, g1, u, E'', y, h'', rfl, k5.trans k'', r'', hl _ _ _ r'' (VR_keep k'' _ _ g2), hq⟩⟩
  cases e with
  | normal => obtain ⟨x, y, h'', q1, q2, q3, q4⟩ := q; exact fin x y h'' q1 q2 q3 q4
  | ret => obtain ⟨x, y, h'', q1, q2, q3, q4⟩ := q; exact fin x y h'' q1 q2 q3 q4
  | exit id => exact q.elim
  | goto l => exact q.elim
  | panic ch => exact q.elim
  | outgrown => exact q.elim
theorem AWm_range {g : Operand} {ps : Array Tmp} {assign body : Code} {f : FuncId} {caps : List AV} {Kr : Heap → Prop} (hg : ev fr g = .fn (.func f) caps) (hb : bodied P f = true)
    (hit : ∀ (l D : Nat) (rec : Loop), rec.state = .ready → rec.pending = none → rec.params = ps → rec.assign = assign → rec.body = body → ∀ E w (vs : Array Value), Ird l D rec fr E w → Rel E h w → VRL E w (.fn (.yield l) [] :: caps) vs.toList →
      CallsIn Fence.wide 0 P f vs w (fun e w' => ∃ v E' h', e = .returned v ∧ Keep E w E' w' ∧ Rel E' h' w' ∧ Kr h'))
    (hq : ∀ h', Kr h' → Q .normal fr h') : AWm P (.rangeFunc g ps assign body) Q fr h := by
  intro E w a r v d
  have vg := VR_ev v g
  rw [hg] at vg
  simp only [VR] at vg
  obtain ⟨cs, eg, vc⟩ := vg
  refine wpIn_rangeFunc fun fn _ => ?_
  obtain ⟨rec, hrec⟩ : ∃ rec : Loop, rec = { state := .ready, pending := none, fn, tmps := a.tmps, params := ps, assign, body, defers := w.heap.size } := ⟨_, rfl⟩
  obtain ⟨W1, hW1⟩ : ∃ W1, (w.alloc (.deferred (some []))).alloc (.loop rec) = W1 := ⟨_, rfl⟩
  have hL1 : W1.heap[w.heap.size + 1]? = some (.loop rec) := by
    rw [← hW1]; have := World.alloc_heap_new (w.alloc (.deferred (some []))) (.loop rec); rwa [World.size_alloc] at this
  have hK1 : W1.heap[w.heap.size]? = some (.deferred (some [])) := by
    rw [← hW1]
    show ((w.heap.push _).push _)[w.heap.size]? = _
    simp [Array.getElem?_push]
  obtain ⟨ra, ka⟩ := r.more (.deferred (some []))
  obtain ⟨rb, kb⟩ := ra.more (.loop rec)
  rw [hW1] at rb kb
  have kab := ka.trans kb
  have hsz : W1.heap.size = w.heap.size + 2 := by rw [← hW1]; simp
  obtain ⟨L, hL⟩ : ∃ L : Nat → Prop, L = fun g => E.lock g ∨ g = w.heap.size ∨ g = w.heap.size + 1 := ⟨_, rfl⟩
  have hat : ∀ k g, E.at h k g → g < w.heap.size := fun k g ha => r.at_lt ha
  have r1 : Rel { E with lock := L } h W1 := rb.relock L
    (fun k g ha hg => by
      subst hL
      have h1 := hat k g ha
      rcases hg with hg | hg | hg
      · exact (r.dis k g ha).1 hg
      · omega
      · omega)
    (fun g hg => by
      subst hL
      rcases hg with hg | hg | hg
      · have := r.lkb g hg; omega
      · omega
      · omega)
  have v1 : VRL { E with lock := L } W1 fr a.tmps.toList := VRL_relock (VRL_keep kab _ _ v)
  refine ⟨w.heap.size + 1, [mkD w.heap.size], W1, { target := .fn (.func f) cs, args := #[.func (.yield (w.heap.size + 1)) #[] #[]] }, W1, f, #[.func (.yield (w.heap.size + 1)) #[] #[]] ++ cs, W1, ?_, ?_, fun f' _ => trivial, ?_, fun hh => (by cases hh), ?_⟩
  · rw [← hW1, hrec]; exact run_enterLoop_outer _ _ _ _ _
  · simp only [resolve, eg]
    simp [go_sem]
  · simp [invoke, run_callFunc hb]
  · have hI : Ird (w.heap.size + 1) w.heap.size rec fr { E with lock := L } W1 := ⟨by subst hL; exact .inr (.inr rfl), hL1, by subst hL; exact .inr (.inl rfl), hK1, by rw [hrec]; exact v1⟩
    refine (hit _ _ rec (by rw [hrec]) (by rw [hrec]) (by rw [hrec]) (by rw [hrec]) (by rw [hrec]) _ W1 _ hI r1 ?_).mono ?_
    · rw [Array.toList_append]
      refine VRL_append (xs := [.fn (.yield (w.heap.size + 1)) []]) ?_ (VRL_relock (VRL_keep kab _ _ vc))
      simp only [VRL, VR, List.toList_toArray]
      exact ⟨⟨#[], rfl, by simp [VRL]⟩, trivial⟩
    · rintro e W3 ⟨u, E3, h', rfl, k3, r3, kh⟩
      obtain ⟨i1, i2, i3, i4, i5⟩ := Ird.stb _ _ _ _ k3 hI
      refine ⟨none, _, by have := run_endLoop (P := P) i2 (by rw [hrec]; simp); rw [hrec] at this; exact this, ?_⟩
      have hlo : ∀ g, (E.lock g ∨ g = w.heap.size) → L g := fun g hg => by subst hL; exact hg.elim .inl fun e => .inr (.inl e)
      have hlo3 : ∀ g, (E.lock g ∨ g = w.heap.size) → E3.lock g := fun g hg => (k3.lockEq g).2 (hlo g hg)
      have r4 : Rel { E3 with lock := fun g => E.lock g ∨ g = w.heap.size } h' W3 := r3.relock _ (fun k g ha hg => (r3.dis k g ha).1 (hlo3 g hg)) (fun g hg => r3.lkb g (hlo3 g hg))
      have k4 : Keep { E with lock := fun g => E.lock g ∨ g = w.heap.size } W1 { E3 with lock := fun g => E.lock g ∨ g = w.heap.size } W3 := Keep.unlock (E := E) (L := L) _ hlo k3
      obtain ⟨r5, k5⟩ := r4.turnK (ob' := .loop { rec with state := .exhausted }) i2 rfl rfl (fun k ha => (r3.dis k _ ha).1 i1) (fun hh => by
        rcases hh with hh | hh
        · have := r.lkb _ hh; omega
        · omega)
      rw [hrec] at r5 k5
      refine ⟨w.heap.size, E, W1, _, fr, h', fun hh => by have := r.lkb _ hh; omega, kab, k4.trans k5, r5, ?_, by rw [d]; rfl, ?_, hq h' kh⟩
      · have i5' : VRL E3 W3 fr a.tmps.toList := by rw [hrec] at i5; exact i5
        exact VRL_keep k5 _ _ (VRL_relock i5')
      · rw [World.putObj_heap_other (by omega)]; exact i4
end
section
variable {P : Program} {Q : Exit → Fr → Heap → Prop} {h : Heap} {n : Nat}
theorem args_le {args : List AV} {ntm : Nat} (hn : ntm = n) (hle : Nat.ble args.length n = true) : LeF (fm n (argf 0 args).k) h (args ++ List.replicate (ntm - args.length) (.sc undef)) h := by
 have hle := Nat.le_of_ble_eq_true hle
 subst hn
 rw [argf_k]
 refine LeF.of (Sub.refl h) (ALeL_of_get ?_ ?_)
 ·rw [fm_length, List.length_append, List.length_replicate]; omega
 ·intro i x y hx hy
  rw [fm_get] at hy
  split at hy
  ·cases hy
   have e := look_argk (ntm - args.length) 0 args i
   rw [Nat.zero_add] at e
   rw [e]
   by_cases hi : i < args.length
   ·rw [List.getElem?_append_left hi] at hx
    simp only [List.getD, List.getElem?_append_left hi, hx, Option.getD_some]
    exact ALe.refl _ _
   ·simp only [List.getD, List.getElem?_append_right (Nat.le_of_not_lt hi), List.getElem?_replicate]
    split <;> exact ALe.any _ _
  ·cases hy
theorem ACm {f : FuncId} {fn : Func} {c : Code} {args : List AV} {Q : AV → Heap → Prop} (n : Nat) (rs : List ResultVar) (hf : P.funcs[f]? = some fn) (hb : fn.body = some c) (hn : fn.ntmps = n) (hr : fn.results.toList = rs) (hle : Nat.ble args.length n = true)
    (hc : AWm P c (Ret P rs Q) (fm n (argf 0 args).k) h) : ACalls P f args h Q := by
  refine ACalls_of_AWm hf hb ?_
  rw [hr]
  exact (args_le hn hle).awm hc
theorem ACit {I : Env → World → Prop} (hI : Stb I) {f : FuncId} {fn : Func} {c : Code} {args : List AV} {K : Heap → Prop} (n : Nat) (hf : P.funcs[f]? = some fn) (hb : fn.body = some c) (hn : fn.ntmps = n) (hr : fn.results.toList = []) (hle : Nat.ble args.length n = true)
    (hc : AWn I none P c (fun e fr h => (e = .normal ∨ e = .ret) ∧ ∃ h' g, K h' ∧ LeF g h' fr h) (fm n (argf 0 args).k) h) {E : Env} {w : World} {vs : Array Value} (i : I E w) (r : Rel E h w) (v : VRL E w args vs.toList) :
    CallsIn Fence.wide 0 P f vs w (fun e w' => ∃ v E' h', e = .returned v ∧ Keep E w E' w' ∧ Rel E' h' w' ∧ K h') := by
  refine callsIn_wide.2 (calls_of_wp hf hb ?_)
  have hl : args.length = vs.size := by simpa using VRL_length v
  have hv : VRL E w (args ++ List.replicate (fn.ntmps - args.length) (.sc undef)) (vs ++ Array.replicate (fn.ntmps - vs.size) undef).toList := by
    rw [Array.toList_append, ← hl]
    refine VRL_append v ?_
    have := VRL_sc (E := E) (w := w) (List.replicate (fn.ntmps - args.length) undef)
    simpa using this
  refine wp_mono (wpIn_wide.1 ((args_le hn hle).awn hI hc E w { tmps := vs ++ Array.replicate (fn.ntmps - vs.size) undef, defers := [] } i r hv rfl)) ?_
  rintro e a' w' ⟨E1, fr1, h1, k1, r1, v1, d', q, h', fr', kh, le⟩
  obtain ⟨E', k2, r', v'⟩ := le E1 w' _ r1 v1
  have k := k1.trans k2
  have hx : resA P h' fr' fn.results.toList = some (.tup []) := by rw [hr]; rfl
  obtain ⟨u, g1, -⟩ := resA_sound r' v' hx
  rcases q with rfl | rfl
  · exact ⟨d', u, g1, u, E', h', rfl, k, r', kh⟩
  · exact ⟨d', u, g1, u, E', h', rfl, k, r', kh⟩
theorem AWm_v {x y : Code} {f : FR} {L : HL} (hk : HOk h L) (hx : VC P h n x (fun f L => HOk h L → AWm P y Q (fm n f.k) (hp h L)) (fun _ _ _ => False) f L) : AWm P (.seq x y) Q (fm n f.k) (hp h L) := by
 refine AWm_pre ((hx.r hk).mono ?_)
 rintro e fr hh ⟨f', L', hk', le, q⟩
 cases e with
 | normal => exact ⟨rfl, le.awm (q hk')⟩
 | exit i => exact q.elim
 | goto l => exact q.elim
 | ret => exact q.elim
 | panic c => exact q.elim
 | outgrown => exact q.elim
theorem AWn_v {I : Env → World → Prop} (hI : Stb I) {x y : Code} {f : FR} {L : HL} {ke : Exit → FR → HL → Prop} (hk : HOk h L) (hx : VC P h n x (fun f L => HOk h L → AWn I none P y Q (fm n f.k) (hp h L)) ke f L)
    (he : ∀ e f L fr hh, e ≠ .normal → ke e f L → HOk h L → LeF (fm n f.k) (hp h L) fr hh → Q e fr hh) : AWn I none P (.seq x y) Q (fm n f.k) (hp h L) := by
  refine AWn_seq hI (AWn_of ((hx.r hk).mono ?_))
  rintro e fr hh ⟨f', L', hk', le, q⟩
  cases e with
  | normal => exact le.awn hI (q hk')
  | exit i => exact he _ _ _ _ _ (by simp) q hk' le
  | goto l => exact he _ _ _ _ _ (by simp) q hk' le
  | ret => exact he _ _ _ _ _ (by simp) q hk' le
  | panic c => exact he _ _ _ _ _ (by simp) q hk' le
  | outgrown => exact he _ _ _ _ _ (by simp) q hk' le
theorem o_sl3 {α : Type} {c : α → List AV} {xs ys : List α} {dst : Option Tmp} {a lo hi mx : Operand} {t : TypeId} {sz : Nat} {q1 q2 q3 : IntKind} {x y : Int} {kvs : KV} {ty : TypeId} {pos : String} {aft : Array Edge} (hm : slc xs x y = some ys) (hy : decide (0 < y) = true) (ht : elS P t = some sz) (h0 : Nat.blt 0 sz = true) (ha : evk n kvs a = .sl none sz (xs.map c))
    (hl : evk n kvs lo = .sc (.int q1 x)) (hh : evk n kvs hi = .sc (.int q2 y)) (hx : evk n kvs mx = .sc (.int q3 y)) : AOpV P ⟨dst, .slice t a (some lo) (some hi) (some mx), ty, pos, aft, none⟩ (.sl none sz (ys.map c)) (fm n kvs) h := by
  simp only [Nat.blt_eq] at h0
  simp only [decide_eq_true_eq] at hy
  unfold slc at hm
  split at hm
  · rename_i hc
    cases hm
    refine o_pv (c := (sz = sz ∧ 0 < sz) ∧ 0 ≤ x ∧ x ≤ y ∧ y ≤ y ∧ y ≤ (xs.map c).length) ?_ ⟨⟨rfl, h0⟩, hc.1, hc.2.1, Int.le_refl _, by rw [List.length_map]; exact hc.2.2⟩
    have e3 : sl3 (some (AV.sc (.int q1 x))) (.sc (.int q2 y)) (.sc (.int q3 y)) (some sz) (.sl none sz (xs.map c)) = some ((sz = sz ∧ 0 < sz) ∧ 0 ≤ x ∧ x ≤ y ∧ y ≤ y ∧ y ≤ (xs.map c).length, .sl none sz (((xs.take y.toNat).drop x.toNat).map c)) := by
      simp only [sl3, bdA, intA, Option.bind_some]
      rw [List.map_drop, List.map_take]
    obtain ⟨k, hk⟩ : ∃ k : Nat, y = Int.ofNat (k + 1) := ⟨y.toNat - 1, by show y = ((y.toNat - 1 + 1 : Nat) : Int); omega⟩
    show slM (some (ev (fm n kvs) lo)) (ev (fm n kvs) hi) (ev (fm n kvs) mx) (elS P t) (ev (fm n kvs) a) = _
    rw [ev_fm, ev_fm, ev_fm, ev_fm, ha, hl, hh, hx, ht]
    unfold slM
    rw [e3]
    subst hk
    rfl
  · cases hm
end
section
variable {P : Program} {Q : Exit → Fr → Heap → Prop} {h : Heap} {n : Nat} {I : Env → World → Prop} {ro : Option Nat}
theorem LeF.aon {ops : Array Oper} {l : List Oper} {K : Fr → Heap → Prop} {fr fr' : Fr} {h h' : Heap} (hI : Stb I) (le : LeF fr' h' fr h) (hc : AOn I ro P ops l K fr' h') : AOn I ro P ops l K fr h := by
 intro E w a i r v d Q hq hQ
 obtain ⟨E', k, r', v'⟩ := le E w _ r v
 exact hc E' w a (hI _ _ _ _ k i) r' v' d Q hq fun a' w' p => hQ _ _ (p.trans k)
theorem AOps_mono {ops : Array Oper} {l : List Oper} {K K' : Fr → Heap → Prop} {fr : Fr} {h : Heap} (hk : ∀ fr h, K fr h → K' fr h) (hc : AOps P ops l K fr h) : AOps P ops l K' fr h :=
 fun E w a r v d Q hQ => hc E w a r v d Q fun a' w' p => hQ _ _ (p.mono hk)
theorem AWn_pre {T : Tr TI} {w : Bool} (hT : TOk P T) (hI : Stb I) (k : Nat) {id : Nat} {l : List Oper} {f : FR} {L : HL} (hd : ((l.take k).all fun o => nd o.op) = true) (hk : HOk h L)
    (hv : vo false T w P h n l (fun f L => HOk h L → AOn I ro P l.toArray (l.drop k) (Q .normal) (fm n f.k) (hp h L)) (l.take k) f L) : AWn I ro P (.region id l.toArray false) Q (fm n f.k) (hp h L) := by
  refine AWn_list ?_
  have h1 := AOn_of (l := l.take k) (l2 := l.drop k) (ro := ro) (K := Q .normal) hI hd (AOps_mono (fun fr hh q => ?_) (vo_s hT _ f L hv hk))
  · rw [List.take_append_drop] at h1
    exact h1
  · obtain ⟨f', L', hk', le, q⟩ := q
    exact le.aon hI (q hk')
theorem AOn_end {T : Tr TI} {w : Bool} (hT : TOk P T) (hI : Stb I) {l0 l : List Oper} {K : Fr → Heap → Prop} {f : FR} {L : HL} (hq : ∀ fr' h' fr h, LeF fr' h' fr h → K fr' h' → K fr h) (hd : (l.all fun o => nd o.op) = true) (hk : HOk h L)
    (hv : vo false T w P h n l0 (fun f L => HOk h L → K (fm n f.k) (hp h L)) l f L) : AOn I ro P l0.toArray l K (fm n f.k) (hp h L) := by
  have h1 := AOn_of (l := l) (l2 := []) (ro := ro) (K := K) hI hd (AOps_mono (fun fr hh q => ?_) (vo_s hT _ f L hv hk))
  · rw [List.append_nil] at h1
    exact h1
  · obtain ⟨f', L', hk', le, q⟩ := q
    exact AOn_nil (hq _ _ _ _ le (q hk'))
theorem AOn_yieldF {l D p : Nat} {rec : Loop} {fr0 : Fr} {x : AV} {Kr : Heap → Prop} {y b : Operand} {dst : Option Tmp} {ts : Array TypeId} {ty : TypeId} {pos : String} {aft : Array Edge} {l2 : List Oper} {ops : Array Oper} {K : Fr → Heap → Prop} {f : FR}
    (hp : rec.params = #[p]) (hy : evk n f.k y = .fn (.yield l) []) (hx : evk n f.k b = x) (hr : Rnd P l D p rec fr0 x h Kr)
    (k : ∀ h', Kr h' → AOn (Ird l D rec fr0) none P ops l2 K (fm n (f.put dst (.sc (.bool true))).k) h') :
    AOn (Ird l D rec fr0) none P ops (⟨dst, .call { callee := .value y, args := #[b], argTypes := ts }, ty, pos, aft, none⟩ :: l2) K (fm n f.k) h := by
  refine AOn_yield hp (by rw [ev_fm]; exact hy) (by rw [ev_fm]; exact hx) hr fun h' kh => ?_
  rw [fput_fm, ← FR.put_k]
  exact k h' kh
theorem AOp_kfz {K : AV → Heap → Prop} {o : Oper} {h1 h2 : Heap} {t : Nat} {kvs : KV} (v : AV) (hs : Sub h2 h1) (hv : ALe h2 (lk n kvs t) v) (ho : AOp P o K (fm n (kp kvs t v)) h2) : AOp P o K (fm n kvs) h1 := by
 intro E w a r hva Nx Qx hn
 obtain ⟨E', k, r'⟩ := r.drop hs
 refine ho E' w a r' (fun y hy => ?_) Nx Qx fun x u w' E'' h' k' => hn x u w' E'' h' (k.trans k')
 have h1 := VR_keep k _ _ (hva y hy)
 rw [ev_fm] at h1 ⊢
 cases y with
 | tmp s =>
  simp only [evk] at h1 ⊢
  by_cases e : t = s
  ·subst e
   have h3 := hv E' w _ r' h1
   rw [lk_eq]
   split
   ·rw [kp_same]; exact h3
   ·simp only [VR]
  ·rw [lk_eq] at h1 ⊢
   rw [kp_ne _ _ e]; exact h1
 | const v => exact h1
 | global g => exact h1
 | func g => exact h1
theorem AWm_to {x y : Code} {f : FR} (g : FR) (hx : VC P h n x (fun f L => L = [] ∧ LX h n f [] g []) (fun _ _ _ => False) f []) (hy : AWm P y Q (fm n g.k) (hp h [])) : AWm P (.seq x y) Q (fm n f.k) (hp h []) := by
 refine AWm_pre ((hx.r trivial).mono ?_)
 rintro e fr hh ⟨f', L', hk', le, q⟩
 cases e with
 | normal =>
  obtain ⟨rfl, hl⟩ := q
  exact ⟨rfl, (le.trans (hl trivial).2).awm hy⟩
 | exit i => exact q.elim
 | goto l => exact q.elim
 | ret => exact q.elim
 | panic c => exact q.elim
 | outgrown => exact q.elim
theorem AWn_c {x : Code} {f : FR} {L : HL} (hq : ∀ fr' h' fr h, LeF fr' h' fr h → Q .normal fr' h' → Q .normal fr h) (hk : HOk h L) (hx : VC P h n x (fun f L => HOk h L → Q .normal (fm n f.k) (hp h L)) (fun _ _ _ => False) f L) : AWn I none P x Q (fm n f.k) (hp h L) := by
 refine AWn_of ((hx.r hk).mono ?_)
 rintro e fr hh ⟨f', L', hk', le, q⟩
 cases e with
 | normal => exact hq _ _ _ _ le (q hk')
 | exit i => exact q.elim
 | goto l => exact q.elim
 | ret => exact q.elim
 | panic c => exact q.elim
 | outgrown => exact q.elim
end
end Go.Vm
namespace Go.Proofs.Ytafflcbcpbgloaa
open Go.Vm
def M27 (fuel : Nat) (p0 : List TItem) : Option (List TItem) := app [] p0
set_option maxRecDepth 100000 in
theorem W27 {fuel : Nat} {p0 : List TItem} {o : List TItem} (h : Heap) (hm : M27 fuel p0 = some o) :
    ACalls Try.prog 27 [.sl none 37 (List.map c_Item p0)] h (fun r h' => ∃ t, (t = none → o = []) ∧ HOk h [(t, .tok 51 37 (o.length * 37))] ∧ r = ow t 37 (List.map c_Item o) ∧ h' = hp h [(t, .tok 51 37 (o.length * 37))]) := by
  refine ACalls_hp 8 [.tmp 2] Try.func27 rfl rfl rfl rfl ?_
  unfold M27 at hm
  refine Zf fun K1 H1 => ?_
  refine Za ?_
  refine s_v (o_as (.sc (.slice _ _ _)) rfl) ?_
  refine Zb ?_
  refine H1 _ _ ?_
  clear H1 K1
  refine Zf fun K1 H1 => ?_
  refine Zf fun K2 H2 => ?_
  refine Za ?_
  refine s_v (o_mv (.sl _ _ _) rfl) ?_
  refine s_op (AOp_eqnil rfl (by rw [el39]; rfl) (by rw [ev_fm]; exact rfl) (.inl ⟨_, _, _, rfl, fun b hb => ?_⟩))
  refine Zb ?_
  refine H2 _ _ ?_
  clear H2 K2
  refine AW_if' rfl (fun hc => ?_) (fun hc => ?_)
  · have h0 : p0 = [] := by
      cases p0 with
      | nil => rfl
      | cons x l => have := hb (by simp); rw [this] at hc; cases hc
    subst h0
    obtain ⟨rfl, -⟩ := app_spec hm
    refine Zf fun K1 H1 => ?_
    refine Za ?_
    refine s_v (o_as (.sc (.slice _ _ _)) rfl) ?_
    refine Zb ?_
    refine H1 _ _ ?_
    refine AW_ret ?_
    exact Ret.one (.inl rfl) (Sub.refl _) (ow_nil _ _) ⟨none, fun _ => rfl, HOk.none (HOk.nil _), rfl, rfl⟩
  · refine Zl ?_
    refine H1 _ _ ?_
    clear H1 K1
    refine Zf fun K1 H1 => ?_
    refine Za ?_
    refine s_op (a_lit0 (c := c_Item) (HOk.nil _) et39 fun hk => ?_)
    refine s_v (o_mv (.sl _ _ _) rfl) ?_
    refine s_op (a_app (c := c_Item) 0 hm et39 rfl rfl rfl (fun _ => rfl) hk rfl fun tg ot hk => ?_)
    refine s_v (o_as (ow _ _ _) rfl) ?_
    refine Zb ?_
    refine H1 _ _ ?_
    refine AW_ret ?_
    exact Ret.one (.inl rfl) (Sub.refl _) (ALe.refl _ _) ⟨tg, ot, hk, rfl, rfl⟩
theorem bd27 : bodied Try.prog 27 = true := by kernel_rfl
def M28_L0 {β : Type} (p0 : List TItem) (m : Int) (st : β → List TItem → Option β) (s : β) (i : Int) : Option (Lp (β × Int) β) :=
 if (decide (i < (p0.length : Int))) = true then ((slc p0 i (p0.length : Int)).bind fun tl => (slc p0 i (IntKind.wrap .i64 (i + min m (tl.length : Int)))).bind fun row => grd (decide (0 < IntKind.wrap .i64 (i + min m (tl.length : Int)))) ((st s row).bind fun s' => some (.go (s', IntKind.wrap .i64 (i + m))))) else some (.brk (s, i))
def M28 {β : Type} (fuel : Nat) (p0 : List TItem) (m : Int) (st : β → List TItem → Option β) (s0 : β) : Option β := after (loopM (fun s => M28_L0 p0 m st s.1 s.2) fuel (s0, 0)) fun s => some s.1
set_option maxHeartbeats 4000000 in
set_option maxRecDepth 100000 in
theorem W28 {β : Type} {Hs : β → Heap → Prop} {st : β → List TItem → Option β} {fuel : Nat} {p0 : List TItem} {m : Int} {s0 o : β} {k1 k2 : Key} {l D p : Nat} {rec : Loop} {fr0 : Fr} {h : Heap}
    (hp : rec.params = #[p])
    (h1 : ∀ s h, Hs s h → h k1 = some (.obj 39 [.sl none 37 (p0.map c_Item)])) (h2 : ∀ s h, Hs s h → h k2 = some (.obj 3 [.sc (.int .i64 m)]))
    (hr : ∀ s row s' h, st s row = some s' → Hs s h → Rnd Try.prog l D p rec fr0 (.sl none 37 (row.map c_Item)) h (Hs s'))
    (hm : M28 fuel p0 m st s0 = some o) (h0 : Hs s0 h) {E : Env} {w : World} {us : Array Value} (hi : Ird l D rec fr0 E w) (r : Rel E h w) (hv : VRL E w [.fn (.yield l) [], .ptr k1 0, .ptr k2 0] us.toList) :
    CallsIn Fence.wide 0 Try.prog 28 us w (fun e w' => ∃ v E' h', e = .returned v ∧ Keep E w E' w' ∧ Rel E' h' w' ∧ Hs o h') := by
  refine ACit Ird.stb 31 Try.func28 rfl rfl rfl rfl ?_ hi r hv
  unfold M28 at hm
  refine AWn_v Ird.stb (h := h) (L := []) trivial ?_ (ke := fun _ _ _ => False) (fun _ _ _ _ _ _ q => q.elim)
  refine v ?_
  intro _
  refine AWn_block ?_
  obtain ⟨SL, hSL⟩ : ∃ SL : Int → FR, SL = fun i => .c 0 (.fn (.yield l) []) (.c 1 (.ptr k1 0) (.c 2 (.ptr k2 0) (.c 4 (.sc (.int .i64 i)) .nil))) := ⟨_, rfl⟩
  refine AWn_loop Ird.stb (fun m' fr hh => ∃ s i, after (loopM (fun s => M28_L0 p0 m st s.1 s.2) m' (s, i)) (fun s => some s.1) = some o ∧ ∃ h1, Hs s h1 ∧ LeF (fm 31 (SL i).k) h1 fr hh) fuel ⟨s0, 0, hm, h, h0, ?_⟩ ?_
  · subst hSL
    exact (lx (h := h) (L := []) (.k4 (.nil)) trivial).2
  rintro m' fr hh ⟨s, i, hm, h', hs, le⟩
  refine le.awn Ird.stb ?_
  cases m' with
  | zero => cases hm
  | succ m' =>
    simp only [loopM] at hm
    cases hx : M28_L0 p0 m st s i with
    | none => rw [hx] at hm; cases hm
    | some x =>
    rw [hx] at hm
    unfold M28_L0 at hx
    subst hSL
    refine AWn_v Ird.stb (h := h') (L := []) trivial ?_ (ke := fun e _ L => e = .exit 0 ∧ x = .brk (s, i) ∧ L = []) ?_
    · refine vs ?_
      refine v ?_
      refine vn (fun _ => Zg _ ld39 rfl (h1 _ _ hs) rfl) ?_
      refine vln ln39 rfl ?_
      refine v ?_
      refine vi hx (fun hc hx => ?_) (fun hc hx => ?_)
      · refine v ?_
        intro _
        obtain ⟨tl, hx1, hx⟩ := Zc hx
        obtain ⟨row, hx2, hx⟩ := Zc hx
        obtain ⟨hx3, hx⟩ := grd_of hx
        obtain ⟨s', hx4, hx⟩ := Zc hx
        injection hx with hx
        subst hx
        refine AWn_seq Ird.stb (AWn_block ?_)
        refine AWn_v Ird.stb (h := h') (L := []) trivial ?_ (ke := fun _ _ _ => False) (fun _ _ _ _ _ _ q => q.elim)
        · refine v ?_
          refine vq (by kernel_rfl) ?_
          refine vn (fun _ => Zg _ ld3 rfl (h2 _ _ hs) rfl) ?_
          refine vn (fun _ => Zg _ ld39 rfl (h1 _ _ hs) rfl) ?_
          refine vn (fun _ => o_slc hx1 el39 rfl rfl rfl rfl) ?_
          refine vln ln39 rfl ?_
          refine vn (fun _ => o_min rfl rfl) ?_
          intro _
          refine AWn_seq Ird.stb ?_
          refine AWn_pre tbk Ird.stb 10 (h := h') (L := []) (w := false) rfl trivial ?_
          refine vn (fun _ => Zg _ ld39 rfl (h1 _ _ hs) rfl) ?_
          refine vn (fun _ => o_sl3 hx2 hx3 el39 rfl rfl rfl rfl rfl) ?_
          intro _
          refine AOn_yieldF hp rfl rfl (hr _ _ _ _ hx4 hs) fun g2 hs2 => ?_
          refine AOn_end tbk Ird.stb (h := g2) (L := []) (w := false) (fun _ _ _ _ le q => le.awn Ird.stb q) rfl trivial ?_
          intro _
          refine AWn_if (t := false) (by rw [ev_fm]; rfl) nofun fun _ => AWn_skip ?_
          refine AWn_c (h := g2) (L := []) ?_ trivial ?_
          · rintro fr' hh' fr hh le ⟨n', hn, s, i, hm, h1, hs, le'⟩
            exact ⟨n', hn, s, i, hm, h1, hs, le.trans le'⟩
          · refine v ?_
            refine vn (fun _ => Zg _ ld3 rfl (h2 _ _ hs2) rfl) ?_
            intro _
            exact ⟨m', Nat.lt_succ_self _, s', _, hm, g2, hs2, (lx (h := g2) (L := []) (.k4 (.nil)) trivial).2⟩
      · refine v ?_
        injection hx with hx
        exact ⟨rfl, hx.symm, rfl⟩
    · rintro e f L fr hh - ⟨rfl, rfl, rfl⟩ - le
      cases hm
      exact ⟨.inl rfl, h', _, hs, le⟩
set_option maxHeartbeats 4000000 in
set_option maxRecDepth 100000 in
theorem W26 {p0 : List TItem} {m : Int} (h : Heap) (hm : decide (m < 1) = false) :
    ACalls Try.prog 26 [.sl none 37 (List.map c_Item p0), .sc (.int .i64 m)] h (fun r h' => ∃ k1 k2, HOk h [(some k2, .obj 3 [.sc (.int .i64 m)]), (some k1, .obj 39 [.sl none 37 (List.map c_Item p0)])] ∧ r = .fn (.func 28) [.ptr k1 0, .ptr k2 0] ∧ h' = hp h [(some k2, .obj 3 [.sc (.int .i64 m)]), (some k1, .obj 39 [.sl none 37 (List.map c_Item p0)])]) := by
  refine ACv 9 [.tmp 4] Try.func26 rfl rfl rfl rfl ?_
  refine v ?_
  refine ve fun hk => a_box hk rfl rfl fun k1 hk3 => qk hk3 rfl ?_
  refine ve fun hk => a_box hk rfl rfl fun k2 hk3 => qk hk3 rfl ?_
  refine vs ?_
  refine vs ?_
  refine v ?_
  refine vl 0 _ ld3 rfl rfl rfl ?_
  refine v ?_
  refine vf hm ?_
  refine v ?_
  refine v ?_
  refine v ?_
  exact vr fun hk => Ret.of1 (.inl rfl) (rsT _ _ (.fn (.func 28) [.ptr k1 0, .ptr k2 0]) rfl) (Sub.refl _) (ALe.refl _ _) ⟨k1, k2, hk, rfl, rfl⟩
theorem bd26 : bodied Try.prog 26 = true := by kernel_rfl
theorem bd28 : bodied Try.prog 28 = true := by kernel_rfl
def m20 (p1 : Int) : Int := if (decide (p1 < 1) || decide (64 < p1)) = true then 64 else p1
theorem m20_pos (p1 : Int) : decide (m20 p1 < 1) = false := by
 unfold m20
 split
 ·rfl
 ·rename_i h
  simp only [Bool.or_eq_true, decide_eq_true_eq, not_or] at h
  simp only [decide_eq_false_iff_not]
  omega
def s20 (fuel : Nat) (s : List (List TItem)) (row : List TItem) : Option (List (List TItem)) := (M27 fuel row).bind fun r => app s [r]
def M20 (fuel : Nat) (p0 : List TItem) (p1 : Int) : Option (List (List TItem)) := M28 fuel p0 (m20 p1) (s20 fuel) []
section
variable (p0 : List TItem) (m : Int) (k1 k2 k5 : Key)
def L20 (tg : Option Key) (s : List (List TItem)) : HL :=
 [(tg, .tok 39 1 (s.length * 1)), (some k2, .obj 3 [.sc (.int .i64 m)]), (some k1, .obj 39 [.sl none 37 (List.map c_Item p0)]), (some k5, .obj 40 [ow tg 1 (List.map c_s_Item s)])]
def H20 (h : Heap) (s : List (List TItem)) (hh : Heap) : Prop := ∃ tg, (tg = none → s = []) ∧ HOk h (L20 p0 m k1 k2 k5 tg s) ∧ hh = hp h (L20 p0 m k1 k2 k5 tg s)
end
set_option maxHeartbeats 4000000 in
set_option maxRecDepth 100000 in
theorem W20 {fuel : Nat} {p0 : List TItem} {p1 : Int} {o : List (List TItem)} (h : Heap) (hm : M20 fuel p0 p1 = some o) :
    ACalls Try.prog 20 [.sl none 37 (List.map c_Item p0), .sc (.int .i64 p1)] h (fun r h' => r = .sl none 1 (List.map c_s_Item o) ∧ h' = h) := by
  unfold M20 at hm
  refine ACm 23 [.tmp 4] Try.func20 rfl rfl rfl rfl ?_
  refine AWm_v (h := h) (L := []) trivial ?_
  refine v ?_
  intro _
  obtain ⟨m, em⟩ : ∃ m, m = m20 p1 := ⟨_, rfl⟩
  have hpos := m20_pos p1
  rw [← em] at hm hpos
  refine AWm_to (h := h) (.c 0 (.sl none 37 (List.map c_Item p0)) (.c 1 (.sc (.int .i64 m)) .nil)) ?_ ?_
  · refine vs ?_
    cases c1 : decide (p1 < 1) with
    | true =>
      refine v ?_
      refine vt c1 ?_
      rw [c1]
      refine v ?_
      refine v ?_
      have e64 : m = 64 := by rw [em]; simp [m20, c1]
      subst e64
      exact ⟨rfl, lx (.k2 (.nil))⟩
    | false =>
      cases c2 : decide (64 < p1) with
      | true =>
        refine v ?_
        refine vf c1 ?_
        rw [c1]
        refine v ?_
        refine vt c2 ?_
        refine v ?_
        have e64 : m = 64 := by rw [em]; simp [m20, c1, c2]
        subst e64
        exact ⟨rfl, lx (.k2 (.nil))⟩
      | false =>
        refine v ?_
        refine vf c1 ?_
        rw [c1]
        refine v ?_
        refine vf c2 ?_
        refine v ?_
        have e64 : m = p1 := by rw [em]; simp [m20, c1, c2]
        subst e64
        exact ⟨rfl, lx (.k2 (.nil))⟩
  clear em
  refine AWm_v (h := h) (L := []) trivial ?_
  refine v ?_
  refine ve fun hk => a_alloc [.sc (.slice none 0 0)] hk zr40 rfl rfl fun k5 hk5 => qk hk5 rfl ?_
  intro hk5
  refine AWm_post ?_
  refine AWm_v (h := h) hk5 ?_
  refine v ?_
  refine ve fun hk => a_call (W26 _ hpos) rfl bd26 rfl ?_
  rintro x h' ⟨k1, k2, hk1, rfl, rfl⟩
  refine qk (HOk_app hk hk1) (hp_app h _ _) ?_
  intro hk
  have le0 := leo (n := 23) (f := .c 15 (.fn (.func 28) [.ptr k1 0, .ptr k2 0]) (.c 14 (.sc (.int .i64 m)) (.c 13 (.sl none 37 (List.map c_Item p0)) (.c 5 (.ptr k5 0) (.c 0 (.sl none 37 (List.map c_Item p0)) (.c 1 (.sc (.int .i64 m)) .nil)))))) (.tok 39 1 (([] : List (List TItem)).length * 1)) 3 [ow none 1 (List.map c_s_Item [])] rfl (.cons (ow_nil _ _) .nil) hk
  obtain ⟨hkL, le0⟩ := le0
  refine le0.awm ?_
  refine AWm_block (AWm_range (by rw [ev_fm]; rfl) bd28 (fun l D rec r1 r2 r3 r4 r5 E w us hi r hv => W28 (Hs := H20 p0 m k1 k2 k5 h) (st := s20 fuel) r3 ?_ ?_ ?_ hm ⟨none, fun _ => rfl, hkL, rfl⟩ hi r hv) ?_)
  · rintro s hh ⟨tg, ot, hk, rfl⟩
    exact Zd 2 hk rfl
  · rintro s hh ⟨tg, ot, hk, rfl⟩
    exact Zd 1 hk rfl
  · rintro s row s' hh hst ⟨tg, ot, hk, rfl⟩
    unfold s20 at hst
    obtain ⟨row', hr1, hst⟩ := Zc hst
    have e6 : ∀ (f : FR) (x : AV), (fm 23 f.k).set 16 x = fm 23 (f.put (some 16) x).k := fun f x => by
      show fput (fm 23 f.k) (some 16) x = _
      rw [fput_fm, FR.put_k]
    refine Rnd.of r1 r2 (fr1 := fm 23 (FR.put (FR.put (.c 15 (.fn (.func 28) [.ptr k1 0, .ptr k2 0]) (.c 14 (.sc (.int .i64 m)) (.c 13 (.sl none 37 (List.map c_Item p0)) (.c 5 (.ptr k5 0) (.c 0 (.sl none 37 (List.map c_Item p0)) (.c 1 (.sc (.int .i64 m)) .nil)))))) (some 16) (.sl none 37 (List.map c_Item row))) (some 6) (.sl none 37 (List.map c_Item row))).k) ?_ ?_
    · rw [r4, e6]
      refine AWn_reg rfl ?_
      rw [FR.put_k]
      refine s_v (o_as (.sl none 37 (List.map c_Item row)) rfl) ?_
      refine Zb ⟨rfl, ?_⟩
      rw [FR.put_k]
      exact LeF.rfl'
    · rw [r5]
      refine AWn_block (AWn_zreg [(5, some k5, .obj 40 [ow tg 1 (List.map c_s_Item s)])] rfl mixed ⟨fun _ => hp_at 3 hk rfl, trivial⟩ ?_)
      refine z_v 0 rfl (by kernel_rfl) rfl (fun S' h' hi hB => Zg (ow tg 1 (List.map c_s_Item s)) ld40 rfl (At.s (InvL.get 0 hi rfl (hB 5 (by kernel_rfl)))) rfl) ?_
      refine z_v 1 rfl (by kernel_rfl) rfl (fun S' h' hi hB => o_mv (.sl none 37 (List.map c_Item row)) rfl) ?_
      refine z_e 2 rfl (by kernel_rfl) (a_call (W27 _ hr1) rfl bd27 rfl ?_)
      rintro x h' ⟨t, ot', hk', rfl, rfl⟩
      refine ⟨⟨fun _ => ?_, trivial⟩, ?_⟩
      · rw [hp_app]
        exact hp_at 4 (HOk_app hk hk') rfl
      refine z_e 3 rfl (by kernel_rfl) (AOp_kfz (t := 19) (.sl none 37 (List.map c_Item row')) (hp_nil hk') (own_frz0 37 0 ot' hk' rfl) (a_v (o_lit (List.map c_s_Item [row']) et40 rfl rfl rfl rfl) ⟨⟨fun _ => hp_at 3 hk rfl, trivial⟩, ?_⟩))
      refine z_e 4 rfl (by kernel_rfl) (a_app (c := c_s_Item) 0 hst et40 rfl rfl rfl ot hk rfl fun tg' ot' hk' => ⟨⟨fun _ => hp_at 3 hk' rfl, trivial⟩, ?_⟩)
      refine z_e 5 rfl (by kernel_rfl) (a_store 3 ([ow tg' 1 (List.map c_s_Item s')]) hk' rfl rfl (cellsOf_ow rfl) (all_ow _ _ _) sz40 rfl rfl fun hk'' => ⟨⟨fun e => absurd e (by decide), trivial⟩, ?_⟩)
      exact z_nil (by kernel_rfl) ⟨rfl, _, _, ⟨tg', ot', hk'', rfl⟩, LeF.rfl'⟩
  · rintro hh ⟨tg, ot, hk, rfl⟩
    refine ⟨rfl, rfl, ?_⟩
    refine AWd_seq (AWd_list ?_)
    refine AOd_plain rfl rfl (a_v (Zg (ow tg 1 (List.map c_s_Item o)) ld40 rfl (Zd 3 hk rfl) rfl) ?_)
    rw [fput_fm]
    refine AOd_plain rfl rfl (a_v (o_as (ow tg 1 (List.map c_s_Item o)) rfl) ?_)
    rw [fput_fm]
    refine AOd_nil ?_
    refine AWd_ret ?_
    exact Ret.of1 (.inl rfl) (rsT _ _ (ow tg 1 (List.map c_s_Item o)) rfl) (hp_sub (List.nil_sublist _) hk).1 (own_frz0 1 0 ot hk rfl) ⟨rfl, rfl⟩
theorem bd20 : bodied Try.prog 20 = true := by kernel_rfl
open Go.Vm
def M22_L0 (fuel : Nat) (p0 : List TItem) (p1 : List TItem) (q159 : Int) : Option (Lp (Int) (Bool)) :=
 if (decide (q159 < (p0.length : Int))) = true then ((ix p0 q159).bind fun x185 => (ix p1 q159).bind fun x187 => after (if (x185.Kind != x187.Kind) = true then (some (.brk true)) else if (!decide (x185.Id = x187.Id)) = true then (some (.brk true)) else if (x185.Seq != x187.Seq) = true then (some (.brk true)) else if (x185.Of != x187.Of) = true then (some (.brk true)) else if (x185.Off != x187.Off) = true then (some (.brk true)) else some (.brk (x185.Len != x187.Len)) : Option (Lp (Bool) (Lp (Int) (Bool)))) fun j203 => if j203 = true then (some (.ret false)) else some (.go (IntKind.wrap .i64 (q159 + 1)))) else some (.brk q159)
def M22 (fuel : Nat) (p0 : List TItem) (p1 : List TItem) : Option (Bool) :=
 if ((p0.length : Int) != (p1.length : Int)) = true then (some false) else after (loopM (fun s => M22_L0 fuel p0 p1 s) fuel 0) fun r235 => some true
set_option maxHeartbeats 4000000 in
set_option maxRecDepth 100000 in
theorem W22 {fuel : Nat} {p0 : List TItem} {p1 : List TItem} {o : Bool} (h : Heap) (hm : M22 fuel p0 p1 = some o) :
    ACalls Try.prog 22 [.sl none 37 (List.map c_Item p0), .sl none 37 (List.map c_Item p1)] h (fun r h' => r = .sc (.bool o) ∧ h' = h) := by
  refine ACv 67 [.tmp 4] Try.func22 rfl rfl rfl rfl ?_
  unfold M22 at hm
  refine v ?_
  refine v ?_
  refine vln ln39 rfl ?_
  refine vln ln39 rfl ?_
  refine v ?_
  refine vi hm (fun hc4 hm => ?_) fun hc4 hm => ?_
  · refine v ?_
    refine v ?_
    injection hm with hm; subst hm
    exact vr1 rfl
  · refine v ?_
    refine v ?_
    refine vlpH hm (σ := Int) (τ := Unit) (fun g s => []) (fun g s => .c 0 (.sl none 37 (List.map c_Item p0)) (.c 1 (.sl none 37 (List.map c_Item p1)) (.c 5 (.sc (.int .i64 s)) .nil))) () (lx (.k3 (.nil))) ?_ ?_
    · rintro _ q159 x hm
      replace hm : M22_L0 fuel p0 p1 q159 = some x := hm
      unfold M22_L0 at hm
      refine v ?_
      refine vln ln39 rfl ?_
      refine v ?_
      refine vi hm (fun hc162 hm => ?_) fun hc162 hm => ?_
      · refine v ?_
        refine v ?_
        refine v ?_
        refine vz [] mixed (fun hk => trivial) fun hk => ?_
        refine z_v 0 rfl (by kernel_rfl) rfl (fun S' h' hi hB => o_mv (.sl _ _ _) rfl) ?_
        refine z_v 1 rfl (by kernel_rfl) rfl (fun S' h' hi hB => o_mv (.sc (.int _ _)) rfl) ?_
        obtain ⟨x185, hx186, hm⟩ := Zc hm
        refine z_v 2 rfl (by kernel_rfl) rfl (fun S' h' hi hB => o_ix hx186 el39 rfl rfl) ?_
        refine z_v 3 rfl (by kernel_rfl) rfl (fun S' h' hi hB => o_ld (.agg (c_Item x185)) ld51 rfl rfl) ?_
        refine z_v 4 rfl (by kernel_rfl) rfl (fun S' h' hi hB => o_mv (.sl _ _ _) rfl) ?_
        refine z_v 5 rfl (by kernel_rfl) rfl (fun S' h' hi hB => o_mv (.sc (.int _ _)) rfl) ?_
        obtain ⟨x187, hx188, hm⟩ := Zc hm
        refine z_v 6 rfl (by kernel_rfl) rfl (fun S' h' hi hB => o_ix hx188 el39 rfl rfl) ?_
        refine z_v 7 rfl (by kernel_rfl) rfl (fun S' h' hi hB => o_ld (.agg (c_Item x187)) ld51 rfl rfl) ?_
        refine z_e2 8 9 rfl rfl (by kernel_rfl) ?_ ?_
        · refine (a_alloc (([.sc (.int .i64 0)] : List AV) ++ c_id idZ ++ ([.sc (.int .i64 0), .sc (.int .i64 0), .sc (.int .i64 0), .sc (.int .i64 0)] : List AV)) hk zr51 rfl rfl fun k189 hk190 => ⟨trivial, ?_⟩)
          refine z_e 9 rfl (by kernel_rfl) (a_alloc (([.sc (.int .i64 0)] : List AV) ++ c_id idZ ++ ([.sc (.int .i64 0), .sc (.int .i64 0), .sc (.int .i64 0), .sc (.int .i64 0)] : List AV)) hk190 zr51 rfl rfl fun k192 hk193 => ⟨trivial, ?_⟩)
          refine z_e 10 rfl (by kernel_rfl) (a_store 1 (c_Item x185) hk193 rfl rfl rfl rfl sz51 rfl rfl fun hk195 => ⟨trivial, ?_⟩)
          refine z_e 11 rfl (by kernel_rfl) (a_store 0 (c_Item x187) hk195 rfl rfl rfl rfl sz51 rfl rfl fun hk196 => ⟨trivial, ?_⟩)
          refine z_nil (by kernel_rfl) (qk (f := .c 7 _ (.c 6 _ (.c 26 _ (.c 25 _ (.c 24 _ (.c 23 _ (.c 22 _ (.c 21 _ (.c 20 _ (.c 19 _ _)))))))))) hk196 rfl ?_)
          refine vs ?_
          refine vjnH hm (σ := Bool) (τ := Unit) (fun g s => [(some k192, .obj 51 (c_Item x187)), (some k189, .obj 51 (c_Item x185))]) (fun g s => .c 0 (.sl none 37 (List.map c_Item p0)) (.c 1 (.sl none 37 (List.map c_Item p1)) (.c 5 (.sc (.int .i64 q159)) (.c 66 (.sc (.bool s)) .nil)))) (fun x hm => ?_) ?_
          · refine v ?_
            refine vl 1 _ ld3 rfl rfl rfl ?_
            refine vl 0 _ ld3 rfl rfl rfl ?_
            refine vi hm (fun hb204 hm => ?_) fun hb204 hm => ?_
            · rw [hb204]
              exact vgo hm () trivial (lx (.k4 (.nil)))
            · rw [hb204]
              refine vl 1 (.agg (c_id x185.Id)) ld49 rfl rfl rfl ?_
              refine vl 0 (.agg (c_id x187.Id)) ld49 rfl rfl rfl ?_
              refine vn (fun _ => o_idn eg49 u49 u5 ld5 rfl rfl) ?_
              refine vi hm (fun hb205 hm => ?_) fun hb205 hm => ?_
              · rw [hb205]
                exact vgo hm () trivial (lx (.k4 (.nil)))
              · rw [hb205]
                refine vl 1 _ ld3 rfl rfl rfl ?_
                refine vl 0 _ ld3 rfl rfl rfl ?_
                refine vi hm (fun hb206 hm => ?_) fun hb206 hm => ?_
                · rw [hb206]
                  exact vgo hm () trivial (lx (.k4 (.nil)))
                · rw [hb206]
                  refine vl 1 _ ld3 rfl rfl rfl ?_
                  refine vl 0 _ ld3 rfl rfl rfl ?_
                  refine vi hm (fun hb207 hm => ?_) fun hb207 hm => ?_
                  · rw [hb207]
                    exact vgo hm () trivial (lx (.k4 (.nil)))
                  · rw [hb207]
                    refine vl 1 _ ld3 rfl rfl rfl ?_
                    refine vl 0 _ ld3 rfl rfl rfl ?_
                    refine vi hm (fun hb208 hm => ?_) fun hb208 hm => ?_
                    · rw [hb208]
                      exact vgo hm () trivial (lx (.k4 (.nil)))
                    · rw [hb208]
                      refine vl 1 _ ld3 rfl rfl rfl ?_
                      refine vl 0 _ ld3 rfl rfl rfl ?_
                      exact vgo hm () trivial (lx (.k4 (.nil)))
          · rintro _ j203 hm
            refine v ?_
            refine vi hm (fun hc210 hm => ?_) fun hc210 hm => ?_
            · refine v ?_
              refine v ?_
              refine vrt hm fun hm => ?_
              injection hm with hm; subst hm
              exact vr1 rfl
            · refine v ?_
              refine v ?_
              exact vgo hm () trivial (lxs [] rfl rfl (.k3 (.nil)))
        · refine (a_alloc (([.sc (.int .i64 0)] : List AV) ++ c_id idZ ++ ([.sc (.int .i64 0), .sc (.int .i64 0), .sc (.int .i64 0), .sc (.int .i64 0)] : List AV)) hk zr51 rfl rfl fun k212 hk213 => ⟨trivial, ?_⟩)
          refine z_e 8 rfl (by kernel_rfl) (a_alloc (([.sc (.int .i64 0)] : List AV) ++ c_id idZ ++ ([.sc (.int .i64 0), .sc (.int .i64 0), .sc (.int .i64 0), .sc (.int .i64 0)] : List AV)) hk213 zr51 rfl rfl fun k215 hk216 => ⟨trivial, ?_⟩)
          refine z_e 10 rfl (by kernel_rfl) (a_store 0 (c_Item x185) hk216 rfl rfl rfl rfl sz51 rfl rfl fun hk218 => ⟨trivial, ?_⟩)
          refine z_e 11 rfl (by kernel_rfl) (a_store 1 (c_Item x187) hk218 rfl rfl rfl rfl sz51 rfl rfl fun hk219 => ⟨trivial, ?_⟩)
          refine z_nil (by kernel_rfl) (qk (f := .c 6 _ (.c 7 _ (.c 26 _ (.c 25 _ (.c 24 _ (.c 23 _ (.c 22 _ (.c 21 _ (.c 20 _ (.c 19 _ _)))))))))) hk219 rfl ?_)
          refine vs ?_
          refine vjnH hm (σ := Bool) (τ := Unit) (fun g s => [(some k215, .obj 51 (c_Item x185)), (some k212, .obj 51 (c_Item x187))]) (fun g s => .c 0 (.sl none 37 (List.map c_Item p0)) (.c 1 (.sl none 37 (List.map c_Item p1)) (.c 5 (.sc (.int .i64 q159)) (.c 66 (.sc (.bool s)) .nil)))) (fun x hm => ?_) ?_
          · refine v ?_
            refine vl 0 _ ld3 rfl rfl rfl ?_
            refine vl 1 _ ld3 rfl rfl rfl ?_
            refine vi hm (fun hb227 hm => ?_) fun hb227 hm => ?_
            · rw [hb227]
              exact vgo hm () trivial (lx (.k4 (.nil)))
            · rw [hb227]
              refine vl 0 (.agg (c_id x185.Id)) ld49 rfl rfl rfl ?_
              refine vl 1 (.agg (c_id x187.Id)) ld49 rfl rfl rfl ?_
              refine vn (fun _ => o_idn eg49 u49 u5 ld5 rfl rfl) ?_
              refine vi hm (fun hb228 hm => ?_) fun hb228 hm => ?_
              · rw [hb228]
                exact vgo hm () trivial (lx (.k4 (.nil)))
              · rw [hb228]
                refine vl 0 _ ld3 rfl rfl rfl ?_
                refine vl 1 _ ld3 rfl rfl rfl ?_
                refine vi hm (fun hb229 hm => ?_) fun hb229 hm => ?_
                · rw [hb229]
                  exact vgo hm () trivial (lx (.k4 (.nil)))
                · rw [hb229]
                  refine vl 0 _ ld3 rfl rfl rfl ?_
                  refine vl 1 _ ld3 rfl rfl rfl ?_
                  refine vi hm (fun hb230 hm => ?_) fun hb230 hm => ?_
                  · rw [hb230]
                    exact vgo hm () trivial (lx (.k4 (.nil)))
                  · rw [hb230]
                    refine vl 0 _ ld3 rfl rfl rfl ?_
                    refine vl 1 _ ld3 rfl rfl rfl ?_
                    refine vi hm (fun hb231 hm => ?_) fun hb231 hm => ?_
                    · rw [hb231]
                      exact vgo hm () trivial (lx (.k4 (.nil)))
                    · rw [hb231]
                      refine vl 0 _ ld3 rfl rfl rfl ?_
                      refine vl 1 _ ld3 rfl rfl rfl ?_
                      exact vgo hm () trivial (lx (.k4 (.nil)))
          · rintro _ j226 hm
            refine v ?_
            refine vi hm (fun hc233 hm => ?_) fun hc233 hm => ?_
            · refine v ?_
              refine v ?_
              refine vrt hm fun hm => ?_
              injection hm with hm; subst hm
              exact vr1 rfl
            · refine v ?_
              refine v ?_
              exact vgo hm () trivial (lxs [] rfl rfl (.k3 (.nil)))
      · refine v ?_
        exact vbk hm () trivial (lx (.k3 (.nil)))
    · rintro _ r235 hm
      refine v ?_
      refine v ?_
      injection hm with hm; subst hm
      exact vr1 rfl
theorem bd22 : bodied Try.prog 22 = true := by kernel_rfl
def M21_L0 (fuel : Nat) (p0 : List TItem) (j9 : Int) (q75 : List (List TItem)) (q78 : Int) : Option (Lp ((List (List TItem)) × Int) ((List (List TItem)))) :=
 if (decide (q78 < (p0.length : Int))) = true then ((slc p0 q78 (min (IntKind.wrap .i64 (q78 + j9)) (p0.length : Int))).bind fun x84 => (app ([] : List TItem) x84).bind fun z86 => (app q75 ([z86] : List (List TItem))).bind fun z92 => some (.go (z92, IntKind.wrap .i64 (q78 + j9)))) else some (.brk (q75, q78))
def M21 (fuel : Nat) (p0 : List TItem) (p1 : Int) : Option ((List (List TItem))) :=
 after (if (decide (p1 < 1)) = true then (some (.brk true)) else some (.brk (decide (64 < p1))) : Option (Lp (Bool) ((List (List TItem))))) fun j5 => after (if j5 = true then (some (.brk 64)) else some (.brk p1) : Option (Lp (Int) ((List (List TItem))))) fun j9 => after (loopM (fun s => M21_L0 fuel p0 j9 s.1 s.2) fuel ([], 0)) fun ⟨r97, r98⟩ => some r97
set_option maxHeartbeats 4000000 in
set_option maxRecDepth 100000 in
theorem W21 {fuel : Nat} {p0 : List TItem} {p1 : Int} {o : (List (List TItem))} (h : Heap) (hm : M21 fuel p0 p1 = some o) :
    ACalls Try.prog 21 [.sl none 37 (List.map c_Item p0), .sc (.int .i64 p1)] h (fun r h' => r = .sl none 1 (List.map c_s_Item o) ∧ h' = h) := by
  refine ACv 36 [.tmp 4] Try.func21 rfl rfl rfl rfl ?_
  unfold M21 at hm
  refine v ?_
  refine vs ?_
  refine vs ?_
  refine vjnH hm (σ := Bool) (τ := Unit) (fun g s => []) (fun g s => .c 0 (.sl none 37 (List.map c_Item p0)) (.c 1 (.sc (.int .i64 p1)) (.c 13 (.sc (.bool s)) .nil))) (fun x hm => ?_) ?_
  · refine v ?_
    refine vi hm (fun hb6 hm => ?_) fun hb6 hm => ?_
    · rw [hb6]
      exact vgo hm () trivial (lx (.k3 (.nil)))
    · rw [hb6]
      exact vgo hm () trivial (lx (.k3 (.nil)))
  · rintro _ j5 hm
    refine vjnH hm (σ := Int) (τ := Unit) (fun g s => []) (fun g s => .c 0 (.sl none 37 (List.map c_Item p0)) (.c 1 (.sc (.int .i64 s)) .nil)) (fun x hm => ?_) ?_
    · refine v ?_
      refine vi hm (fun hc10 hm => ?_) fun hc10 hm => ?_
      · refine v ?_
        exact vgo hm () trivial (lx (.k2 (.nil)))
      · refine v ?_
        exact vgo hm () trivial (lx (.k2 (.nil)))
    · rintro _ j9 hm
      refine v ?_
      refine v ?_
      refine vle (lno (.tok 39 1 (([] : List (List TItem)).length * 1)) 5 (ow none 1 (List.map c_s_Item [])) (ow_nil _ _)) ?_
      refine vlp hm (σ := (List (List TItem)) × Int) (τ := Option Key) (fun g s => [(g, .tok 39 1 ((s.1 : List (List TItem)).length * 1))]) (fun g s => (g = none → s.1 = [])) (fun g s => .c 0 (.sl none 37 (List.map c_Item p0)) (.c 1 (.sc (.int .i64 j9)) (.c 5 (ow g 1 (List.map c_s_Item s.1)) (.c 6 (.sc (.int .i64 s.2)) .nil)))) none (fun _ => rfl) (lx (.k4 (.nil))) ?_ ?_
      · rintro tg76 ⟨q75, q78⟩ x ot77 hm
        replace hm : M21_L0 fuel p0 j9 q75 q78 = some x := hm
        unfold M21_L0 at hm
        refine v ?_
        refine vln ln39 rfl ?_
        refine v ?_
        refine vi hm (fun hc81 hm => ?_) fun hc81 hm => ?_
        · refine v ?_
          refine v ?_
          refine v ?_
          refine v ?_
          refine vln ln39 rfl ?_
          refine vn (fun _ => o_min rfl rfl) ?_
          obtain ⟨x84, hx85, hm⟩ := Zc hm
          refine vn (fun _ => o_slc hx85 el39 rfl rfl rfl rfl) ?_
          obtain ⟨z86, hz87, hm⟩ := Zc hm
          refine ve fun hk => a_app0 (c := c_Item) hz87 et39 rfl rfl hk nofun rfl fun tg88 ot89 hk90 => qk hk90 rfl ?_
          refine ve fun hk => AOp_sfz (t := 32) (.sl none 37 (List.map c_Item z86)) (hp_sub (List.eraseIdx_sublist _ 0) hk).1 (own_frzE _ 0 ot89 hk rfl (.refl _)) (a_v (o_lit (List.map c_s_Item ([z86] : List (List TItem))) et40 rfl rfl rfl rfl) (qk ((hp_sub (List.eraseIdx_sublist _ 0) hk).2) rfl ?_))
          obtain ⟨z92, hz93, hm⟩ := Zc hm
          refine ve fun hk => a_app (c := c_s_Item) 0 hz93 et40 rfl rfl rfl ot77 hk rfl fun tg94 ot95 hk96 => qk hk96 rfl ?_
          refine v ?_
          exact vgo hm tg94 ot95 (lx (.k4 (.nil)))
        · refine v ?_
          exact vbk hm tg76 ot77 (lx (.k4 (.nil)))
      · rintro tg99 ⟨r97, r98⟩ ot100 hm
        refine v ?_
        refine v ?_
        injection hm with hm; subst hm
        exact vr fun hk => Ret.of1 (.inl rfl) (rsT _ _ (ow _ _ _) rfl) (hp_sub (List.nil_sublist _) hk).1 ((own_frz0 _ 0 ot100 hk rfl)) ⟨rfl, rfl⟩
theorem bd21 : bodied Try.prog 21 = true := by kernel_rfl
def M23 (fuel : Nat) : Option (Bool) :=
 (M20 fuel ([({ Kind := 0, Id := idZ, Seq := 1, Of := 0, Off := 0, Len := 0 } : TItem), ({ Kind := 0, Id := idZ, Seq := 2, Of := 0, Off := 0, Len := 0 } : TItem), ({ Kind := 0, Id := idZ, Seq := 3, Of := 0, Off := 0, Len := 0 } : TItem)] : List TItem) 2).bind fun y3 => after (if ((y3.length : Int) == 2) = true then ((ix y3 0).bind fun x19 => if ((x19.length : Int) == 2) = true then ((ix y3 1).bind fun x22 => if ((x22.length : Int) == 1) = true then ((ix y3 1).bind fun x25 => (ix x25 0).bind fun x27 => some (.brk (x27.Seq == 3))) else some (.brk false)) else some (.brk false)) else some (.brk false) : Option (Lp (Bool) (Bool))) fun j17 => some j17
set_option maxHeartbeats 4000000 in
set_option maxRecDepth 100000 in
theorem W23 {fuel : Nat} {o : Bool} (h : Heap) (hm : M23 fuel = some o) :
    ACalls Try.prog 23 [] h (fun r h' => r = .sc (.bool o) ∧ h' = h) := by
  refine ACv 33 [.tmp 0] Try.func23 rfl rfl rfl rfl ?_
  unfold M23 at hm
  refine v ?_
  refine v ?_
  refine vn (fun _ => o_bld (c_Item ({ Kind := 0, Id := idZ, Seq := 1, Of := 0, Off := 0, Len := 0 } : TItem)) bt51 rfl) ?_
  refine vn (fun _ => o_bld (c_Item ({ Kind := 0, Id := idZ, Seq := 2, Of := 0, Off := 0, Len := 0 } : TItem)) bt51 rfl) ?_
  refine vn (fun _ => o_bld (c_Item ({ Kind := 0, Id := idZ, Seq := 3, Of := 0, Off := 0, Len := 0 } : TItem)) bt51 rfl) ?_
  refine vn (fun _ => o_lit (List.map c_Item ([({ Kind := 0, Id := idZ, Seq := 1, Of := 0, Off := 0, Len := 0 } : TItem), ({ Kind := 0, Id := idZ, Seq := 2, Of := 0, Off := 0, Len := 0 } : TItem), ({ Kind := 0, Id := idZ, Seq := 3, Of := 0, Off := 0, Len := 0 } : TItem)] : List TItem)) et39 rfl rfl rfl rfl) ?_
  refine vk W20 bd20 hm rfl rfl fun y3 hm => ?_
  refine vs ?_
  refine vjnH hm (σ := Bool) (τ := Unit) (fun g s => []) (fun g s => .c 0 (.sc (.bool s)) .nil) (fun x hm => ?_) ?_
  · refine v ?_
    refine vln ln40 rfl ?_
    refine vi hm (fun hb18 hm => ?_) fun hb18 hm => ?_
    · rw [hb18]
      refine vx hm el40 rfl rfl fun x19 hx20 hm => ?_
      refine vln ln39 rfl ?_
      refine vi hm (fun hb21 hm => ?_) fun hb21 hm => ?_
      · rw [hb21]
        refine vx hm el40 rfl rfl fun x22 hx23 hm => ?_
        refine vln ln39 rfl ?_
        refine vi hm (fun hb24 hm => ?_) fun hb24 hm => ?_
        · rw [hb24]
          refine vx hm el40 rfl rfl fun x25 hx26 hm => ?_
          refine vx hm el39 rfl rfl fun x27 hx28 hm => ?_
          exact vgo hm () trivial (lx (.cons (ALe.refl _ _) (.nil)))
        · rw [hb24]
          exact vgo hm () trivial (lx (.cons (ALe.refl _ _) (.nil)))
      · rw [hb21]
        exact vgo hm () trivial (lx (.cons (ALe.refl _ _) (.nil)))
    · rw [hb18]
      exact vgo hm () trivial (lx (.cons (ALe.refl _ _) (.nil)))
  · rintro _ j17 hm
    refine v ?_
    injection hm with hm; subst hm
    exact vr1 rfl
theorem bd23 : bodied Try.prog 23 = true := by kernel_rfl
def M10_L0 (fuel : Nat) (y15 : (List (List TItem))) (y18 : (List (List TItem))) (q104 : List TItem) (q107 : Int) : Option (Lp ((List TItem) × Int) (Bool)) :=
 if (decide (q107 < (y15.length : Int))) = true then ((ix y15 q107).bind fun x114 => (ix y18 q107).bind fun x116 => (M22 fuel x114 x116).bind fun y118 => if (!y118) = true then (some (.ret false)) else (ix y15 q107).bind fun x122 => (app q104 x122).bind fun z124 => some (.go (z124, IntKind.wrap .i64 (q107 + 1)))) else some (.brk (q104, q107))
def M10 (fuel : Nat) (p0 : List TItem) (p1 : Int) : Option (Bool) :=
 if (decide (300 < (p0.length : Int))) = true then (some true) else (app ([] : List TItem) p0).bind fun z8 => (M20 fuel z8 p1).bind fun y15 => (M21 fuel p0 p1).bind fun y18 => after ((M22 fuel z8 p0).bind fun y26 => if (!y26) = true then (some (.brk true)) else some (.brk ((y15.length : Int) != (y18.length : Int))) : Option (Lp (Bool) (Bool))) fun j25 => if j25 = true then (some false) else after (loopM (fun s => M10_L0 fuel y15 y18 s.1 s.2) fuel ([], 0)) fun ⟨r129, r130⟩ => after ((M22 fuel r129 p0).bind fun y140 => if y140 = true then ((M23 fuel).bind fun y143 => some (.brk y143)) else some (.brk false) : Option (Lp (Bool) (Bool))) fun j139 => some j139
set_option maxHeartbeats 4000000 in
set_option maxRecDepth 100000 in
theorem W10 {fuel : Nat} {p0 : List TItem} {p1 : Int} {o : Bool} (h : Heap) (hm : M10 fuel p0 p1 = some o) :
    ACalls Try.prog 10 [.sl none 37 (List.map c_Item p0), .sc (.int .i64 p1)] h (fun r h' => r = .sc (.bool o) ∧ h' = h) := by
  refine ACv 61 [.tmp 4] Try.func10 rfl rfl rfl rfl ?_
  unfold M10 at hm
  refine v ?_
  refine v ?_
  refine vln ln39 rfl ?_
  refine v ?_
  refine vi hm (fun hc4 hm => ?_) fun hc4 hm => ?_
  · refine v ?_
    refine v ?_
    injection hm with hm; subst hm
    exact vr1 rfl
  · refine v ?_
    refine v ?_
    refine v ?_
    obtain ⟨z8, hz9, hm⟩ := Zc hm
    refine ve fun hk => a_app0 (c := c_Item) hz9 et39 rfl rfl hk nofun rfl fun tg10 ot11 hk12 => qk hk12 rfl ?_
    refine vs ?_
    refine vle (g := .c 5 (.sl none 37 (List.map c_Item z8)) _) (fun hk => ⟨(hp_sub (.cons _ (.refl _)) hk).2, (LeF.fz (t := 5) (v := .sl none 37 (List.map c_Item z8)) (hp_sub (.cons _ (.refl _)) hk).1 (Fz.ale (hp_sub (.cons _ (.refl _)) hk).1 (own_frzE _ 0 ot11 hk rfl (.refl _))))⟩) ?_
    refine v ?_
    refine vk W20 bd20 hm rfl rfl fun y15 hm => ?_
    refine v ?_
    refine vk W21 bd21 hm rfl rfl fun y18 hm => ?_
    refine vs ?_
    refine vs ?_
    refine vjnH hm (σ := Bool) (τ := Unit) (fun g s => []) (fun g s => .c 0 (.sl none 37 (List.map c_Item p0)) (.c 6 (.sl none 1 (List.map c_s_Item y15)) (.c 7 (.sl none 1 (List.map c_s_Item y18)) (.c 32 (.sc (.bool s)) .nil)))) (fun x hm => ?_) ?_
    · refine v ?_
      refine vk W22 bd22 hm rfl rfl fun y26 hm => ?_
      refine vi hm (fun hb28 hm => ?_) fun hb28 hm => ?_
      · rw [hb28]
        exact vgo hm () trivial (lx (.k4 (.nil)))
      · rw [hb28]
        refine vln ln40 rfl ?_
        refine vln ln40 rfl ?_
        exact vgo hm () trivial (lx (.k4 (.nil)))
    · rintro _ j25 hm
      refine v ?_
      refine vi hm (fun hc30 hm => ?_) fun hc30 hm => ?_
      · refine v ?_
        refine v ?_
        injection hm with hm; subst hm
        exact vr1 rfl
      · refine v ?_
        refine v ?_
        refine v ?_
        refine vle (lno (.tok 51 37 (([] : List TItem).length * 37)) 8 (ow none 37 (List.map c_Item [])) (ow_nil _ _)) ?_
        refine vlp hm (σ := (List TItem) × Int) (τ := Option Key) (fun g s => [(g, .tok 51 37 ((s.1 : List TItem).length * 37))]) (fun g s => (g = none → s.1 = [])) (fun g s => .c 0 (.sl none 37 (List.map c_Item p0)) (.c 6 (.sl none 1 (List.map c_s_Item y15)) (.c 7 (.sl none 1 (List.map c_s_Item y18)) (.c 8 (ow g 37 (List.map c_Item s.1)) (.c 9 (.sc (.int .i64 s.2)) .nil))))) none (fun _ => rfl) (lx (.k5 (.nil))) ?_ ?_
        · rintro tg105 ⟨q104, q107⟩ x ot106 hm
          replace hm : M10_L0 fuel y15 y18 q104 q107 = some x := hm
          unfold M10_L0 at hm
          refine v ?_
          refine vln ln40 rfl ?_
          refine v ?_
          refine vi hm (fun hc110 hm => ?_) fun hc110 hm => ?_
          · refine v ?_
            refine v ?_
            refine v ?_
            refine vq (by kernel_rfl) ?_
            refine vx hm el40 rfl rfl fun x114 hx115 hm => ?_
            refine vx hm el40 rfl rfl fun x116 hx117 hm => ?_
            refine vk W22 bd22 hm rfl rfl fun y118 hm => ?_
            refine v ?_
            refine vi hm (fun hc120 hm => ?_) fun hc120 hm => ?_
            · refine v ?_
              refine v ?_
              refine vrt hm fun hm => ?_
              injection hm with hm; subst hm
              exact vr1 rfl
            · refine v ?_
              refine v ?_
              refine vx hm el40 rfl rfl fun x122 hx123 hm => ?_
              obtain ⟨z124, hz125, hm⟩ := Zc hm
              refine ve fun hk => a_app (c := c_Item) 0 hz125 et39 rfl rfl rfl ot106 hk rfl fun tg126 ot127 hk128 => qk hk128 rfl ?_
              refine v ?_
              exact vgo hm tg126 ot127 (lx (.k5 (.nil)))
          · refine v ?_
            exact vbk hm tg105 ot106 (lx (.k5 (.nil)))
        · rintro tg131 ⟨r129, r130⟩ ot132 hm
          refine vs ?_
          refine vle (g := .c 8 (.sl none 37 (List.map c_Item r129)) _) (fun hk => ⟨(hp_sub (.cons _ (.refl _)) hk).2, (LeF.fz (t := 8) (v := .sl none 37 (List.map c_Item r129)) (hp_sub (.cons _ (.refl _)) hk).1 (Fz.ale (hp_sub (.cons _ (.refl _)) hk).1 (own_frzE _ 0 ot132 hk rfl (.refl _))))⟩) ?_
          refine vjnH hm (σ := Bool) (τ := Unit) (fun g s => []) (fun g s => .c 4 (.sc (.bool s)) .nil) (fun x hm => ?_) ?_
          · refine v ?_
            refine vk W22 bd22 hm rfl rfl fun y140 hm => ?_
            refine vi hm (fun hb142 hm => ?_) fun hb142 hm => ?_
            · rw [hb142]
              refine vk W23 bd23 hm rfl rfl fun y143 hm => ?_
              exact vgo hm () trivial (lx (.cons (ALe.refl _ _) (.nil)))
            · rw [hb142]
              exact vgo hm () trivial (lx (.cons (ALe.refl _ _) (.nil)))
          · rintro _ j139 hm
            refine v ?_
            injection hm with hm; subst hm
            exact vr1 rfl
end Go.Proofs.Ytafflcbcpbgloaa
