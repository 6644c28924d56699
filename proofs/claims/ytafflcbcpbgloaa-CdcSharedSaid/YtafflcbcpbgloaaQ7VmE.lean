/-
  'pv': the value of an operation that leaves the heap as it is, and the condition under which it has one.
-/
import Derived.Test.YtafflcbcpbgloaaQ7VmD
namespace Go.Vm

def bitsV (op : BinOp) (k : IntKind) (a b : Int) : Int :=
  match op with
  | .and => k.wrap (BitVec.ofInt k.bits a &&& BitVec.ofInt k.bits b).toNat
  | .or => k.wrap (BitVec.ofInt k.bits a ||| BitVec.ofInt k.bits b).toNat
  | .xor => k.wrap (BitVec.ofInt k.bits a ^^^ BitVec.ofInt k.bits b).toNat
  | _ => k.wrap (BitVec.ofInt k.bits a &&& ~~~ BitVec.ofInt k.bits b).toNat

/-- Two integers of one kind. -/
def ib (op : BinOp) (k : IntKind) (a b : Int) : Option (Prop × Value) :=
  match op with
  | .add => some (True, .int k (k.wrap (a + b)))
  | .sub => some (True, .int k (k.wrap (a - b)))
  | .mul => some (True, .int k (k.wrap (a * b)))
  | .quo => some (b ≠ 0, .int k (k.wrap (a.tdiv b)))
  | .rem => some (b ≠ 0, .int k (a.tmod b))
  | .and => some (True, .int k (bitsV .and k a b))
  | .or => some (True, .int k (bitsV .or k a b))
  | .xor => some (True, .int k (bitsV .xor k a b))
  | .eql => some (True, .bool (a == b))
  | .neq => some (True, .bool (a != b))
  | .lss => some (True, .bool (decide (a < b)))
  | .leq => some (True, .bool (decide (a ≤ b)))
  | .gtr => some (True, .bool (decide (b < a)))
  | .geq => some (True, .bool (decide (b ≤ a)))
  | _ => none

/-- Shifts: the second one's kind may be another. -/
def sh (op : BinOp) (k : IntKind) (a b : Int) : Option (Prop × Value) :=
  match op with
  | .shl => some (0 ≤ b, .int k (k.wrap (a * 2 ^ (min b.toNat k.bits))))
  | .shr => some (0 ≤ b, .int k (a.fdiv (2 ^ (min b.toNat k.bits))))
  | _ => none

/-- Two strings. -/
def sb (op : BinOp) (x y : ByteArray) : Option (Prop × Value) :=
  match op with
  | .add => some (x.size + y.size ≤ 9223372036854775807, .string (x ++ y))
  | .eql => some (True, .bool (x.toList == y.toList))
  | .neq => some (True, .bool (!(x.toList == y.toList)))
  | .lss => some (True, .bool (Op.bytesLess x.toList y.toList))
  | .leq => some (True, .bool (Op.bytesLess x.toList y.toList || x.toList == y.toList))
  | .gtr => some (True, .bool (!(Op.bytesLess x.toList y.toList || x.toList == y.toList)))
  | .geq => some (True, .bool (!Op.bytesLess x.toList y.toList))
  | _ => none

def bv (op : BinOp) (x y : AV) : Option (Prop × Value) :=
  match x, y with
  | .sc (.int k a), .sc (.int k' b) =>
    match op with
    | .shl => sh .shl k a b
    | .shr => sh .shr k a b
    | op => if k = k' then ib op k a b else none
  | .sc (.string a), .sc (.string b) => sb op a b
  | _, _ => none

theorem bv_sound {P : Program} {op : BinOp} {t : TypeId} {ox oy : Operand} {x y : AV} {c : Prop} {r : Value} (hb : bv op x y = some (c, r)) (hc : c) {vx vy : Value} {E : Env} {w : World} (hx : VR E w x vx) (hy : VR E w y vy) :
    (do eqGuard op t ox oy vx vy; binOp op t vx vy : Sem Value).run P w = .ok r w := by
  unfold bv at hb
  split at hb
  · rename_i k a k' b
    simp only [VR] at hx hy
    subst hx hy
    split at hb
    · simp only [sh, Option.some.injEq, Prod.mk.injEq] at hb
      obtain ⟨rfl, rfl⟩ := hb
      simp [eqGuard, binOp, Op.shift, show ¬ b < 0 from by omega]
    · simp only [sh, Option.some.injEq, Prod.mk.injEq] at hb
      obtain ⟨rfl, rfl⟩ := hb
      simp [eqGuard, binOp, Op.shift, show ¬ b < 0 from by omega]
    · rename_i hshl hshr
      split at hb
      · rename_i hk
        subst hk
        cases op <;> simp only [ib, Option.some.injEq, Prod.mk.injEq, reduceCtorEq] at hb <;> (try exact absurd rfl hshl) <;> (try exact absurd rfl hshr) <;> obtain ⟨rfl, rfl⟩ := hb <;>
          simp_all [eqGuard, binOp, Op.intArith, Op.intDiv, Op.intBits, Op.intCmp, bitsV]
      · cases hb
  · rename_i a b
    simp only [VR] at hx hy
    subst hx hy
    cases op <;> simp only [sb, Option.some.injEq, Prod.mk.injEq, reduceCtorEq] at hb <;> obtain ⟨rfl, rfl⟩ := hb
    case add =>
      have h1 : ((a.size : Int) + b.size) ≤ 9223372036854775807 := by omega
      simp [eqGuard, binOp, Op.stringOp, IntKind.max, IntKind.bits, IntKind.signed, h1]
    all_goals simp [eqGuard, binOp, Op.stringOp]
  · cases hb

def pk (b : Bool) (x y : AV) : AV := match b with | true => x | false => y

/-- A slice type's element's size; an array type's length and element's size; a field's place and size; a type as a load sees it. -/
def elS (P : Program) (t : TypeId) : Option Nat := (tEl P t).bind (tSz P)
def arS (P : Program) (t : TypeId) : Option (Nat × Nat) := (tArr P t).bind fun x => (tSz P x.2).map fun s => (x.1, s)
def fdS (P : Program) (t : TypeId) (f : Nat) : Option (Nat × Nat) := (tFld P t f).bind fun x => (tSz P x.2).map fun s => (x.1, s)
def ldT (P : Program) (t : TypeId) : Option (Bool × Nat) := (tAgg P t).bind fun a => (tSz P t).map fun s => (a, s)

def ixA (n : Int) (es : Option Nat) (as : Option (Nat × Nat)) : AV → Option (Prop × AV)
  | .sl tag sz xs => es.bind fun s => some ((sz = s ∧ 0 ≤ n) ∧ n < xs.length, .rp tag (xs.getD n.toNat []))
  | .view k off len => es.bind fun s => some (0 ≤ n ∧ n < len, .ptr k (off + n.toNat * s))
  | .ptr k off => as.bind fun a => some (0 ≤ n ∧ n < a.1, .ptr k (off + n.toNat * a.2))
  | .rp tag cs => as.bind fun a => some (0 ≤ n ∧ n < a.1, .rp tag (cs.drop (n.toNat * a.2)))
  | _ => none

def intA : AV → Option Int
  | .sc (.int _ n) => some n
  | _ => none

/-- Bounds of a slice expression: an operand that is not there is the default. -/
def bdA (d : Int) : Option AV → Option Int
  | none => some d
  | some x => intA x

def slA (l : Option AV) (h : Option AV) (es : Option Nat) (as : Option (Nat × Nat)) : AV → Option (Prop × AV)
  | .sl tag sz xs => es.bind fun s => (bdA 0 l).bind fun l => (bdA xs.length h).bind fun h =>
      some ((sz = s ∧ 0 < s) ∧ 0 ≤ l ∧ l ≤ h ∧ h ≤ xs.length, .sl tag sz ((xs.take h.toNat).drop l.toNat))
  | .view k off len => es.bind fun s => (bdA 0 l).bind fun l => (bdA len h).bind fun h =>
      some (0 ≤ l ∧ l < h ∧ h ≤ len, .view k (off + l.toNat * s) (h.toNat - l.toNat))
  | .ptr k off => as.bind fun a => (bdA 0 l).bind fun l => (bdA a.1 h).bind fun h =>
      some (a.1 ≤ 1000000 ∧ 0 ≤ l ∧ l < h ∧ h ≤ a.1, .view k (off + l.toNat * a.2) (h.toNat - l.toNat))
  | .rp none cs => as.bind fun a => (bdA 0 l).bind fun l => (bdA a.1 h).bind fun h =>
      some ((a.2 = 1 ∧ a.1 ≤ 1000000 ∧ a.1 ≤ cs.length) ∧ 0 ≤ l ∧ l < h ∧ h ≤ a.1, .sl none 1 (((cs.take h.toNat).drop l.toNat).map fun x => [x]))
  | .sc (.slice none 0 0) => es.bind fun _ => (bdA 0 l).bind fun l => (bdA 0 h).bind fun h => some (l = 0 ∧ h = 0, .sc (.slice none 0 0))
  | .sc (.string s) => if es = none ∧ as = none then (bdA 0 l).bind fun l => (bdA s.size h).bind fun h => some (0 ≤ l ∧ l ≤ h ∧ h ≤ s.size, .sc (.string (s.extract l.toNat h.toNat))) else none
  | .e0 => es.bind fun _ => (bdA 0 l).bind fun l => (bdA 0 h).bind fun h => some (l = 0 ∧ h = 0, .e0)
  | _ => none

/-- Slice expressions with three bounds. -/
def sl3 (l : Option AV) (h m : AV) (es : Option Nat) : AV → Option (Prop × AV)
  | .sl none sz xs => es.bind fun s => (bdA 0 l).bind fun l => (intA h).bind fun h => (intA m).bind fun m =>
      some ((sz = s ∧ 0 < s) ∧ 0 ≤ l ∧ l ≤ h ∧ h ≤ m ∧ m ≤ xs.length, .sl none sz ((xs.take h.toNat).drop l.toNat))
  | .sc (.slice none 0 0) => es.bind fun _ => (bdA 0 l).bind fun l => (intA h).bind fun h => (intA m).bind fun m => some (l = 0 ∧ h = 0 ∧ m = 0, .e0)
  | .e0 => es.bind fun _ => (bdA 0 l).bind fun l => (intA h).bind fun h => (intA m).bind fun m => some (l = 0 ∧ h = 0 ∧ m = 0, .e0)
  | _ => none

/-- s[:0:0] -/
def sl00 (l : Option AV) (h m : AV) (es : Option Nat) : AV → Option (Prop × AV)
  | .sl _ _ _ | .view _ _ _ => es.bind fun _ => (bdA 0 l).bind fun l => (intA h).bind fun h => (intA m).bind fun m => some (l = 0 ∧ h = 0 ∧ m = 0, .e0)
  | _ => none

/-- Which of the two: at bounds 0, 0 the slice that has no room. -/
def slM (l : Option AV) (h m : AV) (es : Option Nat) (x : AV) : Option (Prop × AV) :=
  match intA m with
  | some (.ofNat 0) => match sl00 l h m es x with | some r => some r | none => sl3 l h m es x
  | _ => sl3 l h m es x

def fdA (o : Nat) : AV → Option AV
  | .ptr k off => some (.ptr k (off + o))
  | .rp tag cs => some (.rp tag (cs.drop o))
  | _ => none

def ldA (h : Heap) (ag : Bool) (n : Nat) : AV → Option AV
  | .rp _ cs => ldv ag n cs
  | .ptr k off => match h k with
    | some (.obj _ cs) => ldv ag n (cs.drop off)
    | _ => none
  | _ => none

def unA (op : UnOp) : AV → Option AV
  | .sc (.bool b) => match op with | .not => some (.sc (.bool (!b))) | _ => none
  | .sc (.int k n) => match op with | .neg => some (.sc (.int k (k.wrap (0 - n)))) | _ => none
  | _ => none

def cvA (k : Option IntKind) : AV → Option AV
  | .sc (.int _ n) => k.map fun k => .sc (.int k (k.wrap n))
  | _ => none

def pkA (x y : AV) : AV → Option AV
  | .sc (.bool b) => some (pk b x y)
  | _ => none

def nilA : AV → Option AV
  | .ptr k off => some (.ptr k off)
  | .rp tag cs => some (.rp tag cs)
  | _ => none

def exA (i : Nat) : AV → Option AV
  | .tup xs => xs[i]?
  | _ => none

/-- A type whose values have a length: true: a slice's; false: a string. -/
def lnT (P : Program) (t : TypeId) : Option Bool := match P.underlying t with | some (.slice _) => some true | some .string => some false | _ => none

def slT (P : Program) (t : TypeId) : Bool := (elS P t).isSome || (arS P t).isSome || lnT P t == some false

def lnA (sl : Bool) : AV → Option AV
  | .sl _ _ xs => if sl then some (.sc (.int .i64 xs.length)) else none
  | .view _ _ n => if sl then some (.sc (.int .i64 n)) else none
  | .sc (.string s) => if sl then none else some (.sc (.int .i64 s.size))
  | .sc (.slice _ n _) => if sl then some (.sc (.int .i64 n)) else none
  | .e0 => if sl then some (.sc (.int .i64 ((0 : Nat) : Int))) else none
  | _ => none

def tt (x : AV) : Prop × AV := (True, x)

def pvc (P : Program) (fr : Fr) (c : Call) : Option (Prop × AV) :=
  match c.callee, c.args.toList, c.argTypes.toList with
  | .builtin .len, [x], [t] => (lnT P t).bind fun b => (lnA b (ev fr x)).map tt
  | _, _, _ => none

/-- An operation's condition and value. -/
def pv (P : Program) (h : Heap) (fr : Fr) : Op → Option (Prop × AV)
  | .move x | .assign x => some (True, ev fr x)
  | .pick c x y => (pkA (ev fr x) (ev fr y) (ev fr c)).map tt
  | .binOp op _ x y _ => (bv op (ev fr x) (ev fr y)).map fun r => (r.1, .sc r.2)
  | .unOp op _ x => (unA op (ev fr x)).map tt
  | .convert src dst x => (tInt P src).bind fun _ => (cvA (tInt P dst) (ev fr x)).map tt
  | .indexAddr t x i => (intA (ev fr i)).bind fun n => ixA n (elS P t) (arS P t) (ev fr x)
  | .slice t x l h none => (slA (l.map (ev fr)) (h.map (ev fr)) (elS P t) (arS P t) (ev fr x)).bind fun r => if slT P t = true then some r else none
  | .slice t x l (some h) (some m) => slM (l.map (ev fr)) (ev fr h) (ev fr m) (elS P t) (ev fr x)
  | .fieldAddr t x f => (fdS P t f).bind fun o => if o.2 = 0 then none else (fdA o.1 (ev fr x)).map tt
  | .load t x => (ldT P t).bind fun a => (ldA h a.1 a.2 (ev fr x)).map tt
  | .nilCheck x => (nilA (ev fr x)).map tt
  | .makeFunc fn first caps => if first.size = 0 then some (True, .fn fn (caps.toList.map (ev fr))) else none
  | .extract x i => (exA i (ev fr x)).map tt
  | .call c => pvc P fr c
  | _ => none

end Go.Vm
