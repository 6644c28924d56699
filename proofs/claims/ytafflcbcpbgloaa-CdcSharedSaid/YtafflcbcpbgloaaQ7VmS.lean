/-
  Frames as lists of what is known of some slots; one operation, one loop, one join at a time, beside a model of the code.
-/
import Derived.Test.YtafflcbcpbgloaaQ7VmL
import Derived.Stop.BytesEq
import Derived.Test.YtafflcbcpbgloaaQ7VmN
import Derived.Test.YtafflcbcpbgloaaQ7VmO
namespace Go.Vm

/-- What is known of the slots. -/
abbrev KV := Nat → AV
def k0 : KV := fun _ => .any
def kp (f : KV) (d : Nat) (x : AV) : KV := fun t => bif Nat.beq d t then x else f t
def fm (n : Nat) (f : KV) : Fr := (List.range n).map f
def lk (n : Nat) (f : KV) (t : Nat) : AV := bif Nat.blt t n then f t else .any
def evk (n : Nat) (f : KV) : Operand → AV
  | .tmp t => lk n f t
  | .const v => cv v
  | .global _ => .any
  | .func f => .fn (.func f) []
def putk (f : KV) (d : Option Tmp) (x : AV) : KV := match d with | some d => kp f d x | none => f

theorem fm_get (n : Nat) (f : KV) (t : Nat) : (fm n f)[t]? = if t < n then some (f t) else none := by
  unfold fm
  rw [List.getElem?_map]
  by_cases h : t < n
  · rw [List.getElem?_range h]; simp [h]
  · rw [List.getElem?_eq_none (by simpa using h)]; simp [h]
theorem fm_length (n : Nat) (f : KV) : (fm n f).length = n := by simp [fm]
theorem lk_eq (n : Nat) (f : KV) (t : Nat) : lk n f t = if t < n then f t else .any := by
  unfold lk
  by_cases h : t < n
  · have : Nat.blt t n = true := by rw [Nat.blt_eq]; exact h
    simp [this, h]
  · have : Nat.blt t n = false := by
      cases e : Nat.blt t n with
      | false => rfl
      | true => rw [Nat.blt_eq] at e; exact absurd e h
    simp [this, h]
theorem ev_fm (n : Nat) (f : KV) (o : Operand) : ev (fm n f) o = evk n f o := by
  cases o with
  | tmp t =>
    simp only [ev, evk, List.getD, fm_get, lk_eq]
    split <;> rfl
  | const v => rfl
  | global g => rfl
  | func f => rfl
theorem kp_same (f : KV) (d : Nat) (x : AV) : kp f d x d = x := by simp [kp]
theorem kp_ne (f : KV) {d t : Nat} (x : AV) (h : d ≠ t) : kp f d x t = f t := by
  have : Nat.beq d t = false := by
    cases e : Nat.beq d t with
    | false => rfl
    | true => exact absurd (Nat.eq_of_beq_eq_true e) h
  simp [kp, this]
theorem fput_fm (n : Nat) (f : KV) (d : Option Tmp) (x : AV) : fput (fm n f) d x = fm n (putk f d x) := by
  cases d with
  | none => rfl
  | some d =>
    simp only [fput, putk]
    apply List.ext_getElem?
    intro t
    rw [List.getElem?_set, fm_length, fm_get, fm_get]
    by_cases h : d = t
    · subst h
      simp [kp_same]
    · simp [h, kp_ne]
theorem lk_sc {n : Nat} {f : KV} {t : Nat} {u : Value} (h : lk n f t = .sc u) : (fm n f)[t]? = some (.sc u) := by
  rw [lk_eq] at h
  rw [fm_get]
  split at h
  · rename_i q; rw [if_pos q, h]
  · cases h

/-- What is known may be said in fewer words. -/
def FT (h : Heap) (n : Nat) (f g : KV) : Prop := ∀ t, t < n → ALe h (f t) (g t)
theorem FT.nil {h : Heap} {n : Nat} {f : KV} : FT h n f k0 := fun _ _ => ALe.any _ _
theorem FT.cons {h : Heap} {n : Nat} {f g : KV} {d : Nat} {v : AV} (hv : ALe h (lk n f d) v) (hf : FT h n f g) : FT h n f (kp g d v) := by
  intro t ht
  by_cases e : d = t
  · subst e
    rw [lk_eq, if_pos ht] at hv
    rw [kp_same]; exact hv
  · rw [kp_ne _ _ e]; exact hf t ht

theorem ALeL_of_get {h : Heap} : ∀ {xs ys : List AV}, xs.length = ys.length → (∀ (i : Nat) (x y : AV), xs[i]? = some x → ys[i]? = some y → ALe h x y) → ALeL h xs ys
  | [], [], _, _ => .nil
  | x :: xs, y :: ys, hl, hg => .cons (hg 0 x y rfl rfl) (ALeL_of_get (by simpa using hl) fun i a b ha hb => hg (i + 1) a b (by simpa using ha) (by simpa using hb))
  | [], _ :: _, hl, _ => by simp at hl
  | _ :: _, [], hl, _ => by simp at hl

theorem ALeL_fm {h : Heap} {n : Nat} {f g : KV} (hf : FT h n f g) : ALeL h (fm n f) (fm n g) := by
  refine ALeL_of_get (by rw [fm_length, fm_length]) ?_
  intro i x y hx hy
  rw [fm_get] at hx hy
  by_cases hi : i < n
  · rw [if_pos hi] at hx hy
    cases hx; cases hy
    exact hf i hi
  · rw [if_neg hi] at hx; cases hx

/-- What is known says as much as the other. -/
def LeF (fr' : Fr) (h' : Heap) (fr : Fr) (h : Heap) : Prop :=
  ∀ E w vs, Rel E h w → VRL E w fr vs → ∃ E', Keep E w E' w ∧ Rel E' h' w ∧ VRL E' w fr' vs
theorem LeF.of {fr fr' : Fr} {h h' : Heap} (hs : Sub h' h) (hl : ALeL h' fr fr') : LeF fr' h' fr h := fun E w vs r v => by
  obtain ⟨E', k, r'⟩ := r.drop hs
  exact ⟨E', k, r', hl.spec r' (VRL_keep k _ _ v)⟩
theorem LeF.fm {n : Nat} {f g : KV} {h h' : Heap} (hs : Sub h' h) (hf : FT h' n f g) : LeF (fm n g) h' (fm n f) h := .of hs (ALeL_fm hf)
theorem LeF.trans {fr fr1 fr2 : Fr} {h h1 h2 : Heap} (a : LeF fr1 h1 fr h) (b : LeF fr2 h2 fr1 h1) : LeF fr2 h2 fr h := fun E w vs r v => by
  obtain ⟨E', k, r', v'⟩ := a E w vs r v
  obtain ⟨E'', k', r'', v''⟩ := b E' w vs r' v'
  exact ⟨E'', k.trans k', r'', v''⟩
theorem LeF.aw {P : Program} {c : Code} {Q : Exit → Fr → Heap → Prop} {fr fr' : Fr} {h h' : Heap} (le : LeF fr' h' fr h) (hc : AW P c Q fr' h') : AW P c Q fr h := by
  intro E w a r v d
  obtain ⟨E', k, r', v'⟩ := le E w _ r v
  exact wp_mono (hc E' w a r' v' d) fun _ _ _ p => p.trans k

section rules
variable {P : Program} {Q : Exit → Fr → Heap → Prop} {h : Heap} {n : Nat} {kvs : KV}

def argk : Nat → List AV → KV
  | _, [] => k0
  | i, x :: xs => kp (argk (i + 1) xs) i x
theorem look_argk (undefs : Nat) : ∀ (i : Nat) (xs : List AV) (t : Nat), argk i xs (i + t) = (xs ++ List.replicate undefs AV.any).getD t AV.any
  | i, [], t => by
    simp only [argk, k0, List.nil_append, List.getD, List.getElem?_replicate]
    split <;> rfl
  | i, x :: xs, 0 => by simp [argk, kp]
  | i, x :: xs, t + 1 => by
    simp only [argk]
    rw [kp_ne _ _ (by omega)]
    have := look_argk undefs (i + 1) xs t
    rw [show i + 1 + t = i + (t + 1) from by omega] at this
    rw [this]
    simp

theorem ACalls_fm {f : FuncId} {fn : Func} {c : Code} {args : List AV} {Q : AV → Heap → Prop} (n : Nat) (rs : List ResultVar) (hf : P.funcs[f]? = some fn) (hb : fn.body = some c) (hn : fn.ntmps = n) (hr : fn.results.toList = rs) (hle : Nat.ble args.length n = true)
    (hc : AW P c (Ret P rs Q) (fm n (argk 0 args)) h) : ACalls P f args h Q := by
  have hle := Nat.le_of_ble_eq_true hle
  refine ACalls_of_AW hf hb ?_
  rw [hn, hr]
  refine AW_le (Sub.refl h) (ALeL_of_get ?_ ?_) hc
  · rw [fm_length, List.length_append, List.length_replicate]; omega
  · intro i x y hx hy
    rw [fm_get] at hy
    split at hy
    · cases hy
      have e := look_argk (n - args.length) 0 args i
      rw [Nat.zero_add] at e
      rw [e]
      by_cases hi : i < args.length
      · rw [List.getElem?_append_left hi] at hx
        simp only [List.getD, List.getElem?_append_left hi, hx, Option.getD_some]
        exact ALe.refl _ _
      · simp only [List.getD, List.getElem?_append_right (Nat.le_of_not_lt hi), List.getElem?_replicate]
        split <;> exact ALe.any _ _
    · cases hy

theorem AW_reg {id : Nat} {l : List Oper} (hl : AOps P l.toArray l (Q .normal) (fm n kvs) h) : AW P (.region id l.toArray false) Q (fm n kvs) h := AW_region hl
theorem AW_if' {c : Operand} {x y : Code} {t : Bool} (hc : evk n kvs c = .sc (.bool t)) (ht : t = true → AW P x Q (fm n kvs) h) (hf : t = false → AW P y Q (fm n kvs) h) : AW P (.cond c x y) Q (fm n kvs) h :=
  AW_if (by rw [ev_fm]; exact hc) ht hf

/-! ### What a function hands back -/

theorem rsA_fm (P : Program) (h : Heap) {t : Nat} : rsA P h (fm n kvs) (.tmp t) = some (lk n kvs t) := by
  have := ev_fm n kvs (.tmp t)
  simp only [ev, evk] at this
  simp only [rsA, this]

theorem Ret.one {Q : AV → Heap → Prop} {t : Nat} {e : Exit} {y : AV} {h'' : Heap} (he : e = .ret ∨ e = .normal) (hs : Sub h'' h) (hl : ALe h'' (lk n kvs t) y) (hq : Q y h'') : Ret P [.tmp t] Q e (fm n kvs) h := by
  rcases he with rfl | rfl <;> exact ⟨_, y, h'', rsA_fm P h, hs, hl, hq⟩
theorem Ret.zero {Q : AV → Heap → Prop} {e : Exit} {h'' : Heap} (he : e = .ret ∨ e = .normal) (hs : Sub h'' h) (hq : Q (.tup []) h'') : Ret P [] Q e (fm n kvs) h := by
  rcases he with rfl | rfl <;> exact ⟨_, .tup [], h'', rfl, hs, ALe.refl _ _, hq⟩
theorem Ret.two {Q : AV → Heap → Prop} {t u : Nat} {e : Exit} {y z : AV} {h'' : Heap} (he : e = .ret ∨ e = .normal) (hs : Sub h'' h) (hl : ALe h'' (lk n kvs t) y) (hl' : ALe h'' (lk n kvs u) z) (hq : Q (.tup [y, z]) h'') : Ret P [.tmp t, .tmp u] Q e (fm n kvs) h := by
  have hx : resA P h (fm n kvs) [.tmp t, .tmp u] = some (.tup [lk n kvs t, lk n kvs u]) := by
    simp only [resA, rsL, rsA_fm, Option.bind_some, Option.map_some]
  rcases he with rfl | rfl <;> exact ⟨_, _, h'', hx, hs, ALe.tup (.cons hl (.cons hl' .nil)), hq⟩

/-! ### Models of loops and joins -/

inductive Lp (σ ρ : Type) where
  | go (s : σ)
  | brk (s : σ)
  | ret (r : ρ)

def loopM {σ ρ : Type} (step : σ → Option (Lp σ ρ)) : Nat → σ → Option (Lp σ ρ)
  | 0, _ => none
  | k + 1, s => match step s with
    | some (.go s') => loopM step k s'
    | x => x
def after {σ ρ : Type} (m : Option (Lp σ ρ)) (k : σ → Option ρ) : Option ρ := match m with
  | some (.brk s) => k s
  | some (.ret r) => some r
  | _ => none

theorem Blk_other {id i : Nat} {fr : Fr} (hi : i ≠ id) (hq : Q (.exit i) fr h) : Blk id Q (.exit i) fr h := by simp only [Blk, hi, if_false]; exact hq

/-! ### Small words for models -/

theorem ite_t {ρ : Type} {b : Bool} {x y : Option ρ} {o : ρ} (hm : (if b = true then x else y) = some o) (hb : b = true) : x = some o := by rw [if_pos hb] at hm; exact hm
theorem ite_f {ρ : Type} {b : Bool} {x y : Option ρ} {o : ρ} (hm : (if b = true then x else y) = some o) (hb : b = false) : y = some o := by rw [if_neg (by simp [hb])] at hm; exact hm
theorem bind_of {α ρ : Type} {x : Option α} {k : α → Option ρ} {o : ρ} (hm : x.bind k = some o) : ∃ a, x = some a ∧ k a = some o := by
  cases x with
  | none => cases hm
  | some a => exact ⟨a, rfl, hm⟩
/-- An element by its place. -/
def ix {α : Type} (l : List α) (i : Int) : Option α := if 0 ≤ i then l[i.toNat]? else none
theorem ix_spec {α : Type} {l : List α} {i : Int} {x : α} (h : ix l i = some x) : 0 ≤ i ∧ i < l.length ∧ l[i.toNat]? = some x := by
  unfold ix at h
  split at h
  · have := (List.getElem?_eq_some_iff.1 h).1
    exact ⟨by assumption, by omega, h⟩
  · cases h

end rules

/-! ### One operation -/

def AOpV (P : Program) (o : Oper) (x : AV) (fr : Fr) (h : Heap) : Prop := AOp P o (fun x' h' => x' = x ∧ h' = h) fr h

section ops
variable {P : Program} {ops : Array Oper} {K : Fr → Heap → Prop} {h : Heap} {n : Nat} {kvs : KV} {l : List Oper} {ty : TypeId} {pos : String} {aft : Array Edge}

theorem s_nil (hk : K (fm n kvs) h) : AOps P ops [] K (fm n kvs) h := AOps_nil hk
theorem q_nil {K : Fr → Prop} (hk : K (fm n kvs)) : AQuiet P ops h K [] (fm n kvs) := hk

theorem s_op {dst : Option Tmp} {op : Op} (ho : AOp P ⟨dst, op, ty, pos, aft, none⟩ (fun x h' => AOps P ops l K (fm n (putk kvs dst x)) h') (fm n kvs) h) : AOps P ops (⟨dst, op, ty, pos, aft, none⟩ :: l) K (fm n kvs) h :=
  AOps_plain rfl (ho.mono fun x h' q => by rw [fput_fm]; exact q)
theorem s_v {dst : Option Tmp} {op : Op} {x : AV} (ho : AOpV P ⟨dst, op, ty, pos, aft, none⟩ x (fm n kvs) h) (k : AOps P ops l K (fm n (putk kvs dst x)) h) : AOps P ops (⟨dst, op, ty, pos, aft, none⟩ :: l) K (fm n kvs) h :=
  s_op (ho.mono fun x' h' q => by rw [q.1, q.2]; exact k)
theorem q_v {K : Fr → Prop} {dst : Option Tmp} {op : Op} {x : AV} (ho : AOpV P ⟨dst, op, ty, pos, aft, none⟩ x (fm n kvs) h) (k : AQuiet P ops h K l (fm n (putk kvs dst x))) : AQuiet P ops h K (⟨dst, op, ty, pos, aft, none⟩ :: l) (fm n kvs) :=
  AQuiet_plain x rfl ho (by rw [fput_fm]; exact k)

theorem sg_y {dst : Option Tmp} {op : Op} {j : Nat} {want b : Bool} {dj : Nat} (hd : (ops[j]?).bind (·.dst) = some dj) (hu : lk n kvs dj = .sc (.bool b)) (hb : b = want)
    (k : AOps P ops (⟨dst, op, ty, pos, aft, none⟩ :: l) K (fm n kvs) h) : AOps P ops (⟨dst, op, ty, pos, aft, some (j, want)⟩ :: l) K (fm n kvs) h := by
  refine AOps_unguard (o := ⟨dst, op, ty, pos, aft, some (j, want)⟩) ?_ k
  intro E w a v
  simp [Region.wanted, yielded_of v hd (lk_sc hu), hb]
theorem sg_n {dst : Option Tmp} {op : Op} {j : Nat} {want b : Bool} {dj : Nat} (hd : (ops[j]?).bind (·.dst) = some dj) (hu : lk n kvs dj = .sc (.bool b)) (hb : b = !want)
    (k : AOps P ops l K (fm n (putk kvs dst (.sc undef))) h) : AOps P ops (⟨dst, op, ty, pos, aft, some (j, want)⟩ :: l) K (fm n kvs) h := by
  refine AOps_skip (o := ⟨dst, op, ty, pos, aft, some (j, want)⟩) ?_ (by rw [fput_fm]; exact k)
  intro E w a v
  simp [Region.wanted, yielded_of v hd (lk_sc hu), hb]
theorem sg_u {dst : Option Tmp} {op : Op} {j : Nat} {want : Bool} {dj : Nat} {vs : Array Value} (hd : (ops[j]?).bind (·.dst) = some dj) (hu : lk n kvs dj = .sc (.tuple vs))
    (k : AOps P ops l K (fm n (putk kvs dst (.sc undef))) h) : AOps P ops (⟨dst, op, ty, pos, aft, some (j, want)⟩ :: l) K (fm n kvs) h := by
  refine AOps_skip (o := ⟨dst, op, ty, pos, aft, some (j, want)⟩) ?_ (by rw [fput_fm]; exact k)
  intro E w a v
  simp [Region.wanted, yielded_of v hd (lk_sc hu)]
theorem o_pv {dst : Option Tmp} {op : Op} {c : Prop} {x : AV} (hp : pv P h (fm n kvs) op = some (c, x)) (hc : c) : AOpV P ⟨dst, op, ty, pos, aft, none⟩ x (fm n kvs) h :=
  AOp_pv hp hc ⟨rfl, rfl⟩
theorem o_mv {dst : Option Tmp} {a : Operand} (x : AV) (hx : evk n kvs a = x) :
    AOpV P ⟨dst, .move a, ty, pos, aft, none⟩ (x) (fm n kvs) h :=
  o_pv (by simp only [pv, ev_fm, hx]) trivial
theorem o_as {dst : Option Tmp} {a : Operand} (x : AV) (hx : evk n kvs a = x) :
    AOpV P ⟨dst, .assign a, ty, pos, aft, none⟩ (x) (fm n kvs) h :=
  o_pv (by simp only [pv, ev_fm, hx]) trivial
theorem o_pk {dst : Option Tmp} {c a b : Operand} {t : Bool} (x : AV) (hc : evk n kvs c = .sc (.bool t)) (hx : evk n kvs (if t = true then a else b) = x) :
    AOpV P ⟨dst, .pick c a b, ty, pos, aft, none⟩ (x) (fm n kvs) h := by
  refine o_pv (c := True) (x := x) ?_ trivial
  subst hx
  simp only [pv, ev_fm, hc, pkA]
  cases t <;> rfl
theorem o_pkt {dst : Option Tmp} {c a b : Operand} {t : Bool} (x : AV) (hc : evk n kvs c = .sc (.bool t)) (ht : t = true) (hx : evk n kvs a = x) :
    AOpV P ⟨dst, .pick c a b, ty, pos, aft, none⟩ (x) (fm n kvs) h :=
  o_pk x hc (by rw [if_pos ht]; exact hx)
theorem o_pkf {dst : Option Tmp} {c a b : Operand} {t : Bool} (x : AV) (hc : evk n kvs c = .sc (.bool t)) (ht : t = false) (hx : evk n kvs b = x) :
    AOpV P ⟨dst, .pick c a b, ty, pos, aft, none⟩ (x) (fm n kvs) h :=
  o_pk x hc (by rw [if_neg (by simp [ht])]; exact hx)

/-- Two integers of one kind. -/
theorem o_bi {dst : Option Tmp} {op : BinOp} {t u : TypeId} {a b : Operand} {q : IntKind} {x y : Int} {c : Prop} {v : Value} (ha : evk n kvs a = .sc (.int q x)) (hb : evk n kvs b = .sc (.int q y)) (hv : bv op (.sc (.int q x)) (.sc (.int q y)) = some (c, v)) (hc : c) :
    AOpV P ⟨dst, .binOp op t a b u, ty, pos, aft, none⟩ ((.sc v)) (fm n kvs) h :=
  o_pv (c := c) (x := .sc v) (by simp only [pv, ev_fm, ha, hb, hv, Option.map_some]) hc
/-- A shift. -/
theorem o_sh {dst : Option Tmp} {op : BinOp} {t u : TypeId} {a b : Operand} {q r : IntKind} {x y : Int} {c : Prop} {v : Value} (ha : evk n kvs a = .sc (.int q x)) (hb : evk n kvs b = .sc (.int r y)) (hv : bv op (.sc (.int q x)) (.sc (.int r y)) = some (c, v)) (hc : c) :
    AOpV P ⟨dst, .binOp op t a b u, ty, pos, aft, none⟩ ((.sc v)) (fm n kvs) h :=
  o_pv (c := c) (x := .sc v) (by simp only [pv, ev_fm, ha, hb, hv, Option.map_some]) hc
/-- Two strings. -/
theorem o_bs {dst : Option Tmp} {op : BinOp} {t u : TypeId} {a b : Operand} {x y : ByteArray} {c : Prop} {v : Value} (ha : evk n kvs a = .sc (.string x)) (hb : evk n kvs b = .sc (.string y)) (hv : sb op x y = some (c, v)) (hc : c) :
    AOpV P ⟨dst, .binOp op t a b u, ty, pos, aft, none⟩ ((.sc v)) (fm n kvs) h :=
  o_pv (c := c) (x := .sc v) (by simp only [pv, ev_fm, ha, hb, bv, hv, Option.map_some]) hc
theorem o_not {dst : Option Tmp} {t : TypeId} {a : Operand} {x : Bool} (ha : evk n kvs a = .sc (.bool x)) :
    AOpV P ⟨dst, .unOp .not t a, ty, pos, aft, none⟩ ((.sc (.bool (!x)))) (fm n kvs) h :=
  o_pv (c := True) (x := .sc (.bool (!x))) (by simp only [pv, ev_fm, ha, unA, Option.map_some, tt]) trivial
theorem o_cv {dst : Option Tmp} {t u : TypeId} {a : Operand} {q r p : IntKind} {x : Int} (ht : tInt P t = some p) (hu : tInt P u = some r) (ha : evk n kvs a = .sc (.int q x)) :
    AOpV P ⟨dst, .convert t u a, ty, pos, aft, none⟩ ((.sc (.int r (r.wrap x)))) (fm n kvs) h :=
  o_pv (c := True) (x := .sc (.int r (r.wrap x))) (by simp only [pv, ev_fm, ha, ht, hu, cvA, Option.map_some, Option.bind_some, tt]) trivial
theorem o_ex {dst : Option Tmp} {a : Operand} {i : Nat} {xs : List AV} (x : AV) (ha : evk n kvs a = .tup xs) (hx : xs[i]? = some x) :
    AOpV P ⟨dst, .extract a i, ty, pos, aft, none⟩ (x) (fm n kvs) h :=
  o_pv (c := True) (x := x) (by simp only [pv, ev_fm, ha, exA, hx, Option.map_some, tt]) trivial

/-- Lengths. -/
theorem o_len {dst : Option Tmp} {a : Operand} {t : TypeId} {tag : Option Key} {sz : Nat} {xs : List (List AV)} (ht : lnT P t = some true) (ha : evk n kvs a = .sl tag sz xs) :
    AOpV P ⟨dst, .call { callee := .builtin .len, args := #[a], argTypes := #[t] }, ty, pos, aft, none⟩ ((.sc (.int .i64 xs.length))) (fm n kvs) h :=
  o_pv (c := True) (x := .sc (.int .i64 xs.length)) (by simp only [pv, pvc, ev_fm, ha, ht, lnA, Option.map_some, Option.bind_some, tt, if_true]) trivial
theorem o_lenm {α : Type} {e : α → List AV} {xs : List α} {dst : Option Tmp} {a : Operand} {t : TypeId} {tag : Option Key} {sz : Nat} (ht : lnT P t = some true) (ha : evk n kvs a = .sl tag sz (xs.map e)) :
    AOpV P ⟨dst, .call { callee := .builtin .len, args := #[a], argTypes := #[t] }, ty, pos, aft, none⟩ ((.sc (.int .i64 xs.length))) (fm n kvs) h :=
  by
  have := o_len (P := P) (h := h) (n := n) (kvs := kvs) (dst := dst) (ty := ty) (pos := pos) (aft := aft) ht ha
  rwa [List.length_map] at this
/-- An element's address. -/
theorem o_ix {α : Type} {e : α → List AV} {xs : List α} {x : α} {dst : Option Tmp} {a b : Operand} {t : TypeId} {tag : Option Key} {sz : Nat} {q : IntKind} {i : Int} (hi : ix xs i = some x) (ht : elS P t = some sz) (ha : evk n kvs a = .sl tag sz (xs.map e)) (hb : evk n kvs b = .sc (.int q i)) :
    AOpV P ⟨dst, .indexAddr t a b, ty, pos, aft, none⟩ ((.rp tag (e x))) (fm n kvs) h := by
  obtain ⟨h0, h1, h2⟩ := ix_spec hi
  refine o_pv (c := (sz = sz ∧ 0 ≤ i) ∧ i < (xs.map e).length) (x := .rp tag (e x)) ?_ ⟨⟨rfl, h0⟩, by rw [List.length_map]; exact h1⟩
  have : (xs.map e).getD i.toNat [] = e x := by simp [List.getD, h2]
  simp only [pv, ev_fm, ha, hb, intA, ixA, ht, Option.bind_some, this]
/-- A load. -/
theorem o_ld {dst : Option Tmp} {a : Operand} {t : TypeId} {tag : Option Key} {cs : List AV} {ag : Bool} {m : Nat} (x : AV) (ht : ldT P t = some (ag, m)) (ha : evk n kvs a = .rp tag cs) (hx : ldv ag m cs = some x) :
    AOpV P ⟨dst, .load t a, ty, pos, aft, none⟩ (x) (fm n kvs) h :=
  o_pv (c := True) (x := x) (by simp only [pv, ev_fm, ha, ht, Option.bind_some, ldA, hx, Option.map_some, tt]) trivial
/-- A call. -/
theorem a_call {K : AV → Heap → Prop} {dst : Option Tmp} {f : FuncId} {g : Operand} {args : Array Operand} {ts : Array TypeId} {caps as : List AV} {Q : AV → Heap → Prop} (hc : ACalls P f as h Q) (hg : evk n kvs g = .fn (.func f) caps) (hb : bodied P f = true) (ha : args.toList.map (evk n kvs) ++ caps = as)
    (k : ∀ x h', Q x h' → K x h') : AOp P ⟨dst, .call { callee := .value g, args := args, argTypes := ts }, ty, pos, aft, none⟩ K (fm n kvs) h := by
  refine AOp_call rfl (by rw [ev_fm]; exact hg) hb ?_
  have e : args.toList.map (ev (fm n kvs)) = args.toList.map (evk n kvs) := List.map_congr_left fun o _ => ev_fm n kvs o
  rw [e, ha]
  exact hc.mono fun x h' q => k x h' q
theorem o_call {dst : Option Tmp} {f : FuncId} {g : Operand} {args : Array Operand} {ts : Array TypeId} {caps as : List AV} {x : AV} (hc : ACalls P f as h (fun x' h' => x' = x ∧ h' = h)) (hg : evk n kvs g = .fn (.func f) caps) (hb : bodied P f = true) (ha : args.toList.map (evk n kvs) ++ caps = as) :
    AOpV P ⟨dst, .call { callee := .value g, args := args, argTypes := ts }, ty, pos, aft, none⟩ x (fm n kvs) h := by
  refine AOp_call rfl (by rw [ev_fm]; exact hg) hb ?_
  have e : args.toList.map (ev (fm n kvs)) = args.toList.map (evk n kvs) := List.map_congr_left fun o _ => ev_fm n kvs o
  rw [e, ha]
  exact hc
end ops

end Go.Vm
