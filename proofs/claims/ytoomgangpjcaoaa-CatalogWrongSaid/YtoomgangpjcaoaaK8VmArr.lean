/-
  Arrays that are written: a slice of an object of its own, with what room it has.
-/
import Derived.Test.YtoomgangpjcaoaaK8VmP
namespace Go.Vm

structure AGh where
  t : Option Key
  n : Nat
  cap : Nat
  sp : List AV
def aw (t : Option Key) (n cap : Nat) : AV := match t with
  | none => .e0
  | some k => .vw k n cap
def apt (t : Option Key) (off : Nat) : AV := match t with
  | none => .any
  | some k => .ptr k off
def fl {α : Type} (c : α → List AV) (xs : List α) (sp : List AV) : List AV := (xs.map c).flatten ++ sp
structure AOk (g : AGh) (sz n : Nat) : Prop where
  eqn : g.n = n
  nil : g.t = none → n = 0
  le : n ≤ g.cap
  mx : g.cap ≤ maxLen
  len : n * sz + g.sp.length = g.cap * sz
def g0 : AGh := ⟨none, 0, 0, []⟩
theorem AOk.g0 (sz : Nat) : AOk g0 sz 0 := ⟨rfl, fun _ => rfl, Nat.le_refl _, Nat.zero_le _, by simp [Vm.g0]⟩

section flat
variable {α : Type} {c : α → List AV} {sz : Nat}
theorem flat_len (hc : ∀ y, (c y).length = sz) : ∀ (xs : List α), (xs.map c).flatten.length = xs.length * sz
  | [] => by simp
  | x :: xs => by simp only [List.map_cons, List.flatten_cons, List.length_append, hc, flat_len hc xs, List.length_cons, Nat.add_mul, Nat.one_mul]; omega
theorem fl_len (hc : ∀ y, (c y).length = sz) (xs : List α) (sp : List AV) : (fl c xs sp).length = xs.length * sz + sp.length := by
  unfold fl; rw [List.length_append, flat_len hc]
theorem fl_drop (hc : ∀ y, (c y).length = sz) (sp : List AV) : ∀ {xs : List α} {i : Nat} {x : α}, xs[i]? = some x → ∃ r, (fl c xs sp).drop (i * sz) = c x ++ r
  | [], _, _, h => by simp at h
  | y :: ys, 0, x, h => by
    simp only [List.getElem?_cons_zero, Option.some.injEq] at h
    subst h
    exact ⟨fl c ys sp, by simp [fl]⟩
  | y :: ys, i + 1, x, h => by
    obtain ⟨r, e⟩ := fl_drop hc sp (xs := ys) (i := i) (by simpa using h)
    refine ⟨r, ?_⟩
    rw [← e]
    have : fl c (y :: ys) sp = c y ++ fl c ys sp := by simp [fl]
    rw [this, Nat.add_mul, Nat.one_mul, Nat.add_comm, ← List.drop_drop, List.drop_left' (hc y)]
theorem fl_splice (hc : ∀ y, (c y).length = sz) (sp : List AV) {ys : List AV} {fo : Nat} (hf : fo + ys.length ≤ sz) {x' : α} : ∀ {xs : List α} {i : Nat} {x : α}, xs[i]? = some x → splice (c x) fo ys = c x' → splice (fl c xs sp) (i * sz + fo) ys = fl c (xs.set i x') sp
  | [], _, _, h, _ => by simp at h
  | y :: zs, 0, x, h, hs => by
    simp only [List.getElem?_cons_zero, Option.some.injEq] at h
    subst h
    have e1 : fl c (y :: zs) sp = c y ++ fl c zs sp := by simp [fl]
    have e2 : fl c ((y :: zs).set 0 x') sp = c x' ++ fl c zs sp := by simp [fl]
    rw [e1, e2, ← hs, Nat.zero_mul, Nat.zero_add]
    unfold splice
    rw [List.take_append_of_le_length (by rw [hc]; omega), List.drop_append_of_le_length (by rw [hc]; omega)]
    simp
  | y :: zs, i + 1, x, h, hs => by
    have ih := fl_splice hc sp hf (xs := zs) (i := i) (by simpa using h) hs
    have e1 : fl c (y :: zs) sp = c y ++ fl c zs sp := by simp [fl]
    have e2 : fl c ((y :: zs).set (i + 1) x') sp = c y ++ fl c (zs.set i x') sp := by simp [fl]
    rw [e1, e2, ← ih, show (i + 1) * sz + fo = (c y).length + (i * sz + fo) from by rw [hc, Nat.add_mul]; omega]
    unfold splice
    rw [List.take_length_add_append, show (c y).length + (i * sz + fo) + ys.length = (c y).length + (i * sz + fo + ys.length) from by omega, List.drop_length_add_append]
    simp
end flat

section ops
variable {P : Program} {ops : Array Oper} {K : Fr → Heap → Prop} {h h0 : Heap} {L : HL} {n : Nat} {kvs : KV} {l : List Oper} {ty : TypeId} {pos : String} {aft : Array Edge}

theorem AOp_lek {o : Oper} {K : AV → Heap → Prop} {kvs' : KV} (hl : ∀ y ∈ o.op.operands, ALe h (evk n kvs y) (evk n kvs' y)) (ho : AOp P o K (fm n kvs') h) : AOp P o K (fm n kvs) h :=
  AOp_le (fun y hy => by rw [ev_fm, ev_fm]; exact hl y hy) ho

theorem ALe_vw (h : Heap) (k : Key) (n cap : Nat) : ALe h (.vw k n cap) (.view k 0 n) := by
  intro E w v r hv
  simp only [VR] at hv ⊢
  obtain ⟨g, hg, rfl, h1, h2⟩ := hv
  exact ⟨g, cap, hg, rfl, h1, h2⟩

theorem AOp_put {o : Oper} {K : AV → Heap → Prop} {s : Nat} (v : AV) (hv : ALe h (lk n kvs s) v) (ho : AOp P o K (fm n (kp kvs s v)) h) : AOp P o K (fm n kvs) h := by
  refine AOp_lek (fun y _ => ?_) ho
  cases y with
  | tmp u =>
    simp only [evk, lk_eq] at hv ⊢
    by_cases e : s = u
    · subst e
      rw [kp_same]
      split
      · rename_i q; rw [if_pos q] at hv; exact hv
      · exact ALe.refl _ _
    · rw [kp_ne _ _ e]; exact ALe.refl _ _
  | const v => exact ALe.refl _ _
  | global g => exact ALe.refl _ _
  | func f => exact ALe.refl _ _
theorem lk_kp {s : Nat} {v x : AV} (hs : lk n kvs s = x) (hx : x ≠ .any) : lk n (kp kvs s v) s = v := by
  rw [lk_eq] at hs
  rw [lk_eq, kp_same]
  split
  · rfl
  · rename_i q; rw [if_neg q] at hs; exact absurd hs.symm hx
theorem evk_kp {s : Nat} {v x : AV} {b : Operand} {u : Value} (hs : lk n kvs s = x) (hx : ∀ u, x ≠ .sc u) (hb : evk n kvs b = .sc u) : evk n (kp kvs s v) b = .sc u := by
  cases b with
  | tmp t =>
    simp only [evk] at hb ⊢
    by_cases e : s = t
    · subst e; rw [hs] at hb; exact absurd hb (hx u)
    · rw [lk_eq] at hb ⊢; rw [kp_ne _ _ e]; exact hb
  | const v => exact hb
  | global g => exact hb
  | func f => exact hb

/-- The length. -/
theorem o_lenA {dst : Option Tmp} {s : Nat} {t : TypeId} {g : AGh} {m sz : Nat} (ht : lnT P t = some true) (ok : AOk g sz m) (ha : lk n kvs s = aw g.t g.n g.cap) :
    AOpV P ⟨dst, .call { callee := .builtin .len, args := #[.tmp s], argTypes := #[t] }, ty, pos, aft, none⟩ (.sc (.int .i64 m)) (fm n kvs) h := by
  rw [ok.eqn] at ha
  cases ht' : g.t with
  | none =>
    have hm := ok.nil ht'
    subst hm
    rw [ht'] at ha
    have ha : evk n kvs (.tmp s) = .e0 := ha
    refine o_pv (c := True) ?_ trivial
    simp only [pv, pvc, ev_fm, ha, ht, lnA, Option.map_some, Option.bind_some, tt, if_true]
  | some k =>
    rw [ht'] at ha
    refine AOp_put (s := s) (.view k 0 m) (by rw [ha]; exact ALe_vw _ _ _ _) (o_pv (c := True) ?_ trivial)
    have e : evk n (kp kvs s (.view k 0 m)) (.tmp s) = .view k 0 m := lk_kp ha (by simp [aw])
    simp only [pv, pvc, ev_fm, e, ht, lnA, Option.map_some, Option.bind_some, tt, if_true]

/-- An element's place. -/
theorem o_ixA {α : Type} {xs : List α} {x : α} {dst : Option Tmp} {s : Nat} {b : Operand} {t : TypeId} {g : AGh} {sz : Nat} {q : IntKind} {i : Int} (hi : ix xs i = some x) (ht : elS P t = some sz) (ok : AOk g sz xs.length) (ha : lk n kvs s = aw g.t g.n g.cap) (hb : evk n kvs b = .sc (.int q i)) :
    AOpV P ⟨dst, .indexAddr t (.tmp s) b, ty, pos, aft, none⟩ (apt g.t (i.toNat * sz)) (fm n kvs) h := by
  obtain ⟨h1, h2, h3⟩ := ix_spec hi
  rw [ok.eqn] at ha
  cases ht' : g.t with
  | none => have := ok.nil ht'; omega
  | some k =>
    rw [ht'] at ha
    refine AOp_put (s := s) (.view k 0 xs.length) (by rw [ha]; exact ALe_vw _ _ _ _) (o_pv (c := 0 ≤ i ∧ i < xs.length) ?_ ⟨h1, h2⟩)
    have e : evk n (kp kvs s (.view k 0 xs.length)) (.tmp s) = .view k 0 xs.length := lk_kp ha (by simp [aw])
    have e2 : evk n (kp kvs s (.view k 0 xs.length)) b = .sc (.int q i) := evk_kp ha (by simp [aw]) hb
    simp only [pv, ev_fm, e, e2, intA, Option.bind_some, ixA, ht, apt, Nat.zero_add]
theorem o_flA {dst : Option Tmp} {a : Operand} {t : TypeId} {f : Nat} {tg : Option Key} {off : Nat} {o s : Nat} (hne : tg ≠ none) (hf : fdS P t f = some (o, s)) (hs : Nat.beq s 0 = false) (ha : evk n kvs a = apt tg off) :
    AOpV P ⟨dst, .fieldAddr t a f, ty, pos, aft, none⟩ (apt tg (off + o)) (fm n kvs) h := by
  cases tg with
  | none => exact absurd rfl hne
  | some k => exact o_flp hf hs ha
theorem o_nilA {dst : Option Tmp} {a : Operand} {tg : Option Key} {off : Nat} (hne : tg ≠ none) (ha : evk n kvs a = apt tg off) : AOpV P ⟨dst, .nilCheck a, ty, pos, aft, none⟩ (apt tg off) (fm n kvs) h := by
  cases tg with
  | none => exact absurd rfl hne
  | some k => exact o_nil ha
theorem AOk.ne {α : Type} {g : AGh} {sz : Nat} {xs : List α} {i : Int} {x : α} (ok : AOk g sz xs.length) (hi : ix xs i = some x) : g.t ≠ none := fun e => by
  have := ok.nil e
  have := ix_spec hi
  omega
/-- What stands there. -/
theorem o_ldA {α : Type} {c : α → List AV} {xs : List α} {x : α} {dst : Option Tmp} {a : Operand} {t : TypeId} {g : AGh} {sz fo : Nat} {i : Int} {oty : TypeId} {ag : Bool} {m : Nat} (v : AV) (hi : ix xs i = some x) (hc : ∀ y, (c y).length = sz) (ok : AOk g sz xs.length) (ht : ldT P t = some (ag, m))
    (ha : evk n kvs a = apt g.t (i.toNat * sz + fo)) (hA : At h g.t (.obj oty (fl c xs g.sp))) (hx : ∀ r, ldv ag m ((c x ++ r).drop fo) = some v) :
    AOpV P ⟨dst, .load t a, ty, pos, aft, none⟩ v (fm n kvs) h := by
  obtain ⟨h1, h2, h3⟩ := ix_spec hi
  have hne := ok.ne hi
  cases ht' : g.t with
  | none => exact absurd ht' hne
  | some k =>
    rw [ht'] at ha hA
    obtain ⟨r, e⟩ := fl_drop hc g.sp h3
    refine o_ldp v ht ha hA.s ?_
    rw [← List.drop_drop, e]
    exact hx r
theorem ix_set {α : Type} {xs : List α} {i : Int} {x x' : α} (h : ix xs i = some x) : ix (xs.set i.toNat x') i = some x' := by
  obtain ⟨h1, h2, h3⟩ := ix_spec h
  unfold ix
  rw [if_pos h1, List.getElem?_set_self (List.getElem?_eq_some_iff.1 h3).1]
theorem ocell_aw (t : Option Key) (m c : Nat) : ocell (aw t m c) = true := by cases t <;> rfl
theorem cellsOf_aw {x : AV} {t : Option Key} {m c : Nat} (h : x = aw t m c) : cellsOf x = some [aw t m c] := by subst h; cases t <;> rfl
theorem AOp_storeL {K : AV → Heap → Prop} {o : Oper} {fr : Fr} {t : TypeId} {x y : Operand} (hop : o.op = .store t x y) {k : Key} {off : Nat} (hx : ev fr x = .ptr k off) {ty : TypeId} {cs xs0 xs : List AV} (hk : h k = some (.obj ty cs))
    (hy : cellsOf (ev fr y) = some xs0) (ho : xs0.all ocell = true) (hle : ALeL h xs0 xs) (hs : tSz P t = some xs.length) (hl : off + xs.length ≤ cs.length)
    (hK : K (.sc undef) (upd h k (some (.obj ty (splice cs off xs))))) : AOp P o K fr h := by
  intro E w a r hv Nx Qx hn
  have vx := hv x (by rw [hop]; simp [Op.operands])
  have vy := hv y (by rw [hop]; simp [Op.operands])
  rw [hx] at vx
  simp only [VR] at vx
  obtain ⟨g, hg, ex⟩ := vx
  obtain ⟨c0, c2⟩ := cellsOf_spec hy ho vy
  have c1 := hle.spec r c0
  obtain ⟨g', cur, f1, f2, f3, f4⟩ := r.obj k ty cs hk
  rw [hg] at f1; cases f1
  have hlen : cs.length = cur.size := by simpa using VRL_length f3
  have hlx : xs.length = (a.eval y).cells.toList.length := VRL_length c1
  have hlx' : xs.length = (a.eval y).cells.size := by simpa using hlx
  have hst := run_storeCells_at P g off ty (a.eval y).cells.toList 0 cur w f2 (by simp only [Array.length_toList]; omega) c2
  have hv' : VRL E w (splice cs off xs) (cur.toList.take (off + 0) ++ (a.eval y).cells.toList ++ cur.toList.drop (off + 0 + (a.eval y).cells.toList.length)) := by
    simp only [Nat.add_zero, splice]
    rw [← hlx]
    exact VRL_append (VRL_append (VRL_take _ f3) c1) (VRL_drop _ f3)
  have h1' : ∀ v ∈ cur.toList.take (off + 0) ++ (a.eval y).cells.toList ++ cur.toList.drop (off + 0 + (a.eval y).cells.toList.length), v.oneCell' = true := by
    intro v hv
    rcases List.mem_append.1 hv with hv | hv
    · rcases List.mem_append.1 hv with hv | hv
      · exact f4 v (List.mem_of_mem_take hv)
      · exact c2 v hv
    · exact f4 v (List.mem_of_mem_drop hv)
  obtain ⟨k1, k2⟩ := r.set_obj (cur := (cur.toList.take (off + 0) ++ (a.eval y).cells.toList ++ cur.toList.drop (off + 0 + (a.eval y).cells.toList.length)).toArray) hk hg
    (w' := w.setRow g (cur.toList.take (off + 0) ++ (a.eval y).cells.toList ++ cur.toList.drop (off + 0 + (a.eval y).cells.toList.length)).toArray)
    (setRow_heap w g cur _ ty _ f2) (fun g' hg' => setRow_other w g g' _ hg') (by simp) rfl rfl rfl hv' h1'
  unfold Oper.wp
  rw [show (execOp a.eval o).run P w = .ok .skip (w.setRow g (cur.toList.take (off + 0) ++ (a.eval y).cells.toList ++ cur.toList.drop (off + 0 + (a.eval y).cells.toList.length)).toArray) from by
    simp only [execOp, hop, Instr.storeAt, ex, Instr.sureAddr, storeVar, Sem.run_bind, Sem.run_pure, Result.andThen_ok, run_sizeOf' hs, hlx', ne_eq, not_true_eq_false, if_false, hst]]
  exact hn _ undef _ E _ k1 k2 (by simp only [VR]) hK
theorem a_storeL {K : AV → Heap → Prop} {dst : Option Tmp} {t oty : TypeId} {x y : Operand} {q : Key} {off : Nat} {cs xs0 xs : List AV} (i : Nat) (cs' : List AV) (hk : HOk h0 L) (ha : evk n kvs x = .ptr q off) (hi : L[i]? = some (some q, .obj oty cs))
    (hy : cellsOf (evk n kvs y) = some xs0) (ho : xs0.all ocell = true) (hle : ALeL (hp h0 L) xs0 xs) (hs : tSz P t = some xs.length) (hl : Nat.ble (off + xs.length) cs.length = true) (hcs : splice cs off xs = cs')
    (k : HOk h0 (L.set i (some q, .obj oty cs')) → K (.sc undef) (hp h0 (L.set i (some q, .obj oty cs')))) : AOp P ⟨dst, .store t x y, ty, pos, aft, none⟩ K (fm n kvs) (hp h0 L) := by
  subst hcs
  obtain ⟨h1, h2, _⟩ := hp_put (e' := .obj oty (splice cs off xs)) i hk hi (.inl rfl)
  refine (AOp_storeL rfl (by rw [ev_fm]; exact ha) (hp_get i hk hi) (by rw [ev_fm]; exact hy) ho hle hs (Nat.le_of_ble_eq_true hl) ?_)
  rw [h1]
  exact k h2
/-- A new word there. -/
theorem a_storeA {K : AV → Heap → Prop} {α : Type} {c : α → List AV} {xs : List α} {x : α} (x' : α) {dst : Option Tmp} {t oty : TypeId} {a y : Operand} {g : AGh} {sz fo : Nat} {i : Int} {ys : List AV} (p : Nat) (hk : HOk h0 L) (hi : ix xs i = some x) (hc : ∀ y, (c y).length = sz) (ok : AOk g sz xs.length)
    (ha : evk n kvs a = apt g.t (i.toNat * sz + fo)) (hL : L[p]? = some (g.t, .obj oty (fl c xs g.sp))) {ys0 : List AV} (hy : cellsOf (evk n kvs y) = some ys0) (ho : ys0.all ocell = true) (hle : ALeL (hp h0 L) ys0 ys) (hs : tSz P t = some ys.length) (hf : Nat.ble (fo + ys.length) sz = true) (hcs : splice (c x) fo ys = c x')
    (k : HOk h0 (L.set p (g.t, .obj oty (fl c (xs.set i.toNat x') g.sp))) → K (.sc undef) (hp h0 (L.set p (g.t, .obj oty (fl c (xs.set i.toNat x') g.sp))))) : AOp P ⟨dst, .store t a y, ty, pos, aft, none⟩ K (fm n kvs) (hp h0 L) := by
  obtain ⟨h1, h2, h3⟩ := ix_spec hi
  have hne := ok.ne hi
  have hf' := Nat.le_of_ble_eq_true hf
  cases ht' : g.t with
  | none => exact absurd ht' hne
  | some q =>
    rw [ht'] at ha hL k
    refine a_storeL p (fl c (xs.set i.toNat x') g.sp) hk ha hL hy ho hle hs ?_ (fl_splice hc g.sp hf' h3 hcs) k
    rw [Nat.ble_eq, fl_len hc]
    have h4 : i.toNat < xs.length := (List.getElem?_eq_some_iff.1 h3).1
    have : i.toNat * sz + sz ≤ xs.length * sz := by
      rw [← Nat.succ_mul]; exact Nat.mul_le_mul_right _ h4
    omega
/-- A store into an object that a pointer of this kind shows. -/
theorem AOk.set {g : AGh} {sz : Nat} {α : Type} {xs : List α} {i : Nat} {x : α} (ok : AOk g sz xs.length) : AOk g sz (xs.set i x).length := by rw [List.length_set]; exact ok

/-- Written no more. -/
theorem ALe_e0 (h : Heap) (sz : Nat) : ALe h .e0 (.sl none sz []) := by
  intro E w v r hv
  simp only [VR] at hv ⊢
  obtain ⟨a, rfl⟩ := hv
  exact ⟨a, 0, rfl, Nat.le_refl _, Nat.zero_le _, .inl trivial, by simp, fun _ q => by cases q⟩
theorem ALe_nilA (h : Heap) : ALe h (.sc (.slice none 0 0)) (aw g0.t g0.n g0.cap) := by
  intro E w v r hv
  simp only [VR] at hv
  subst hv
  simp only [g0, aw, VR]
  exact ⟨none, rfl⟩
end ops

/-! ### append -/
theorem mem_zeroCells {z : Array Value} {n : Nat} (hz : ∀ u ∈ z.toList, u.oneCell' = true) : ∀ v ∈ (Builtin.zeroCells z n).toList, v.oneCell' = true := by
  intro v hv
  simp only [Builtin.zeroCells, Array.mem_toList_iff, Array.mem_map, Array.mem_range] at hv
  obtain ⟨i, hi, rfl⟩ := hv
  have h0 : 0 < z.size := Nat.pos_of_ne_zero fun e => by rw [e, Nat.mul_zero] at hi; omega
  have hm : i % z.size < z.size := Nat.mod_lt _ h0
  rw [getElem!_pos z _ hm]
  exact hz _ (by simp)
section app
variable {P : Program} {E : Env} {h : Heap} {w : World}

theorem app_arr0 {t ty e : TypeId} {sz b : Nat} (ht : ElT P t e sz b) {zs : List Value} (hzr : zrT P e = some zs) (hzo : zs.all (·.oneCell') = true) (r : Rel E h w) {k : Key} (hk : ¬ E.used k) {ys : List (List AV)} {y : Value} (hy : Src E w sz ys y) (hne : ys ≠ [])
    (hb : ys.length * b ≤ 140737488355328) (hlen : ys.length ≤ 140737488355328) (a0 : Option Addr) :
    ∃ v' w' E' cap sp, (Builtin.append_ #[t, t] ty #[.slice a0 0 0, y]).run P w = .ok v' w' ∧ Keep E w E' w' ∧ Rel E' (upd h k (some (.obj e (ys.flatten ++ sp)))) w' ∧ VR E' w' (.vw k ys.length cap) v' ∧
      ys.length ≤ cap ∧ cap ≤ maxLen ∧ ys.length * sz + sp.length = cap * sz := by
  obtain ⟨i, z, hi, hz, rfl, rfl, hzs, hsp⟩ := ht.inf
  have hzc : ∀ u ∈ z.cells.toList, u.oneCell' = true := by
    have : zs = z.cells.toList := by
      unfold zrT at hzr
      rw [hi] at hzr
      simp only [Option.bind_some, hz, Option.map_some, Option.some.injEq] at hzr
      exact hzr.symm
    subst this
    exact fun u hu => List.all_eq_true.1 hzo u hu
  have hs : ∀ x ∈ ys, x.length = i.size := hy.1
  obtain ⟨g, o, cap, cv, rfl, c1, c2, c3, c4⟩ := hy.2.resolve_left fun e => hne e.1
  have hpos : 0 < ys.length := List.length_pos_iff.2 hne
  have hrun : (Builtin.append_ #[t, t] ty #[.slice a0 0 0, .slice (some ⟨g, o, none⟩) ys.length cap]).run P w =
      .ok (.slice (some ⟨w.heap.size, 0, none⟩) ys.length (grownCap w ys.length 0 e)) (w.drew.alloc (.cells (cv.toArray ++ Builtin.zeroCells z.cells (grownCap w ys.length 0 e - ys.length)) e)) := by
    cases a0 with
    | none => exact run_append_nil (P := P) w t ty e i z ht.ut hi hz ⟨g, o, none⟩ ys.length cap cv c3 (fun j u hj => by rw [Addr.add_lit]; exact c4 j u hj) hpos (by omega) (by omega)
    | some b0 =>
      have := run_append_grow (P := P) w t ty e i z ht.ut hi hz b0 0 0 [] (by simp) (by simp) ⟨g, o, none⟩ ys.length cap cv c3 (fun j u hj => by rw [Addr.add_lit]; exact c4 j u hj) (by omega) (by omega) (growslice_fits (by omega) (by rw [Nat.zero_add]; exact hb))
      simpa using this
  have hge := grownCap_ge w ys.length 0 e
  have hcm : grownCap w ys.length 0 e ≤ maxLen := grownCap_le_maxLen w ys.length 0 e (by simp only [maxLen]; omega)
  obtain ⟨rd, kd⟩ := r.drewn (w.drawn + 1)
  have hvl : VRL E w.drew (ys.flatten ++ List.replicate (Builtin.zeroCells z.cells (grownCap w ys.length 0 e - ys.length)).toList.length AV.any) (cv.toArray ++ Builtin.zeroCells z.cells (grownCap w ys.length 0 e - ys.length)).toList := by
    rw [Array.toList_append]
    exact VRL_append (VRL_keep kd _ _ c1) (VRL_any _ rfl)
  obtain ⟨E', e1, e2, e3⟩ := Rel.new_obj (w := w.drew) rd hk e hvl (by
    intro v hv
    rw [Array.toList_append] at hv
    rcases List.mem_append.1 hv with hv | hv
    · exact c2 v (by simpa using hv)
    · exact mem_zeroCells hzc v hv)
  refine ⟨_, _, E', grownCap w ys.length 0 e, _, hrun, kd.trans e2, e3, ?_, hge, hcm, ?_⟩
  · simp only [VR]
    exact ⟨_, e1, rfl, hge, hcm⟩
  · have hzl : ∀ m, (Builtin.zeroCells z.cells m).toList.length = m * i.size := fun m => by rw [Array.length_toList, size_zeroCells, hzs]
    rw [List.length_replicate, hzl, ← Nat.add_mul]
    congr 1; omega

theorem app_arr {t ty e : TypeId} {sz b : Nat} (ht : ElT P t e sz b) {zs : List Value} (hzr : zrT P e = some zs) (hzo : zs.all (·.oneCell') = true) (r : Rel E h w) (d : Nat) {k : Key} {xs ys : List (List AV)} {sp : List AV} {cap : Nat} (hk : h k = some (.obj e (xs.flatten ++ sp)))
    (hsx : xs.flatten.length = xs.length * sz) (hcl : xs.length * sz + sp.length = cap * sz) {v : Value} (hv : VR E w (.vw k xs.length cap) v) {y : Value} (hy : Src E w sz ys y) (hne : ys ≠ []) (hb : (xs.length + ys.length) * b ≤ 140737488355328) (hlen : xs.length + ys.length ≤ 140737488355328) :
    ∃ v' w' E' k2 cap' sp', (k2 = k ∨ (k2 ≠ k ∧ h k2 = none)) ∧ (Builtin.append_ #[t, t] ty #[v, y]).run P w = .ok v' w' ∧ Keep E w E' w' ∧ Rel E' (upd (upd h k none) k2 (some (.obj e ((xs ++ ys).flatten ++ sp')))) w' ∧ VR E' w' (.vw k2 (xs ++ ys).length cap') v' ∧
      (xs ++ ys).length ≤ cap' ∧ cap' ≤ maxLen ∧ (xs ++ ys).length * sz + sp'.length = cap' * sz := by
  obtain ⟨i, z, hi, hz, rfl, rfl, hzs, hsp⟩ := ht.inf
  have hzc : ∀ u ∈ z.cells.toList, u.oneCell' = true := by
    have : zs = z.cells.toList := by
      unfold zrT at hzr
      rw [hi] at hzr
      simp only [Option.bind_some, hz, Option.map_some, Option.some.injEq] at hzr
      exact hzr.symm
    subst this
    exact fun u hu => List.all_eq_true.1 hzo u hu
  have hsy : ∀ x ∈ ys, x.length = i.size := hy.1
  obtain ⟨g, o, capy, cy, rfl, c1, c2, c3, c4⟩ := hy.2.resolve_left fun e => hne e.1
  have hpos : 0 < ys.length := List.length_pos_iff.2 hne
  obtain ⟨gb, cur, g1, g2, g3, g4⟩ := r.obj _ _ _ hk
  simp only [VR] at hv
  obtain ⟨gb', q1, rfl, v1, v2⟩ := hv
  rw [g1] at q1; cases q1
  have hcl' : cur.toList.length = cap * i.size := by rw [← VRL_length g3, List.length_append, hsx, hcl]
  have hsz : cur.size = cap * i.size := by simpa using hcl'
  have htake : VRL E w xs.flatten (cur.toList.take (xs.length * i.size)) := by
    have := VRL_take (xs.length * i.size) g3
    rwa [List.take_left' hsx] at this
  have hdrop : ∀ m, VRL E w (sp.drop m) (cur.toList.drop (xs.length * i.size + m)) := by
    intro m
    have := VRL_drop (xs.length * i.size + m) g3
    rwa [← List.drop_drop, List.drop_left' hsx] at this
  have hl2 : (xs ++ ys).length * i.size = xs.length * i.size + ys.length * i.size := by rw [List.length_append, Nat.add_mul]
  have hle : xs.length * i.size ≤ cur.size := by rw [hsz]; exact Nat.mul_le_mul_right _ v1
  have htl : (cur.toList.take (xs.length * i.size)).length = xs.length * i.size := by
    rw [List.length_take]
    have : cur.toList.length = cur.size := by simp
    omega
  by_cases hroom : xs.length + ys.length ≤ cap
  · have hfit : xs.length * i.size + cy.length ≤ cur.size := by rw [c3, hsz, ← Nat.add_mul]; exact Nat.mul_le_mul_right _ hroom
    have hrun := run_append_room (P := P) w t ty e i ht.ut hi gb xs.length cap cur g2 ⟨g, o, none⟩ ys.length capy cy c3 (fun j u hj => by rw [Addr.add_lit]; exact c4 j u hj) c2 hroom hfit
    have hvl : VRL E w ((xs ++ ys).flatten ++ sp.drop cy.length) (cur.toList.take (xs.length * i.size) ++ cy ++ cur.toList.drop (xs.length * i.size + cy.length)).toArray.toList := by
      rw [List.flatten_append]
      exact VRL_append (VRL_append htake c1) (hdrop _)
    obtain ⟨k1, k2⟩ := r.set_obj hk g1 (w' := w.setRow gb (cur.toList.take (xs.length * i.size) ++ cy ++ cur.toList.drop (xs.length * i.size + cy.length)).toArray)
      (setRow_heap w gb cur _ e _ g2) (fun g' hg' => setRow_other w gb g' _ hg') (by simp) rfl rfl rfl hvl (by
        intro u hu
        rcases List.mem_append.1 hu with hu | hu
        · rcases List.mem_append.1 hu with hu | hu
          · exact g4 u (List.mem_of_mem_take hu)
          · exact c2 u hu
        · exact g4 u (List.mem_of_mem_drop hu))
    refine ⟨_, _, E, k, cap, sp.drop cy.length, .inl rfl, hrun, k1, ?_, ?_, ?_, v2, ?_⟩
    · have e1 : upd (upd h k none) k (some (.obj e ((xs ++ ys).flatten ++ sp.drop cy.length))) = upd h k (some (.obj e ((xs ++ ys).flatten ++ sp.drop cy.length))) := by
        funext x; unfold upd; split <;> rfl
      rw [e1]; exact k2
    · simp only [VR, List.length_append]
      exact ⟨gb, g1, rfl, hroom, v2⟩
    · rw [List.length_append]; exact hroom
    · rw [hl2, List.length_drop, c3]
      rw [c3] at hfit
      omega
  · have hold : ∀ j u, (cur.toList.take (xs.length * i.size))[j]? = some u → w.cell? ((⟨gb, 0, none⟩ : Addr).add j) = some u := by
      intro j u hj
      rw [Addr.add_lit, Nat.zero_add]
      simp only [World.cell?, g2]
      rw [List.getElem?_take] at hj
      split at hj
      · simpa using hj
      · cases hj
    have hrun := run_append_grow (P := P) w t ty e i z ht.ut hi hz ⟨gb, 0, none⟩ xs.length cap (cur.toList.take (xs.length * i.size)) htl hold ⟨g, o, none⟩ ys.length capy cy c3 (fun j u hj => by rw [Addr.add_lit]; exact c4 j u hj) (by omega) (by omega) (growslice_fits (by omega) hb)
    have hge := grownCap_ge w (xs.length + ys.length) cap e
    have hcm : grownCap w (xs.length + ys.length) cap e ≤ maxLen := grownCap_le_maxLen w (xs.length + ys.length) cap e (by simp only [maxLen]; omega)
    generalize hgc : grownCap w (xs.length + ys.length) cap e = gc at hge hcm hrun
    obtain ⟨rd, kd⟩ := r.drewn (w.drawn + 1)
    have rd' : Rel E h w.drew := rd
    obtain ⟨E1, kx, rx⟩ := rd'.drop (h' := upd h k none) (fun x en hx => by
      unfold upd at hx
      split at hx
      · cases hx
      · exact hx)
    obtain ⟨nn, hE1⟩ := rx.fresh d
    have hEu : ¬ E.used (d, nn) := fun q => hE1 (kx.used _ (kd.used _ q))
    have hne2 : (d, nn) ≠ k := fun q => hEu (by rw [q]; exact r.hus _ _ hk)
    have kk := kd.trans kx
    have hvl : VRL E1 w.drew ((xs ++ ys).flatten ++ List.replicate (Builtin.zeroCells z.cells (gc - (xs.length + ys.length))).toList.length AV.any) ((cur.toList.take (xs.length * i.size)).toArray ++ cy.toArray ++ Builtin.zeroCells z.cells (gc - (xs.length + ys.length))).toList := by
      rw [Array.toList_append, Array.toList_append, List.flatten_append]
      exact VRL_append (VRL_append (VRL_keep kk _ _ htake) (VRL_keep kk _ _ c1)) (VRL_any _ rfl)
    obtain ⟨E', e1, e2, e3⟩ := Rel.new_obj (w := w.drew) rx hE1 e hvl (by
      intro v hv
      rw [Array.toList_append, Array.toList_append] at hv
      rcases List.mem_append.1 hv with hv | hv
      · rcases List.mem_append.1 hv with hv | hv
        · exact g4 v (List.mem_of_mem_take (by simpa using hv))
        · exact c2 v (by simpa using hv)
      · exact mem_zeroCells hzc v hv)
    refine ⟨_, _, E', (d, nn), gc, _, .inr ⟨hne2, r.unused_none hEu⟩, hrun, kk.trans e2, e3, ?_, by rw [List.length_append]; exact hge, hcm, ?_⟩
    · simp only [VR, List.length_append]
      exact ⟨_, e1, rfl, hge, hcm⟩
    · have hzl : ∀ m, (Builtin.zeroCells z.cells m).toList.length = m * i.size := fun m => by rw [Array.length_toList, size_zeroCells, hzs]
      rw [hl2, List.length_replicate, hzl, ← Nat.add_mul, ← Nat.add_mul]
      congr 1; omega
end app

/-! ### append, at a list of what is there -/
theorem hp_setNone {h0 : Heap} {e' : Ent} : ∀ {L : HL} (i : Nat), HOk h0 L → i < L.length → hp h0 (L.set i (none, e')) = hp h0 (L.eraseIdx i) ∧ HOk h0 (L.set i (none, e'))
  | [], i, _, h => by simp at h
  | (t, e) :: r, 0, ok, _ => ⟨rfl, ok.1, nofun⟩
  | (t, e) :: r, i + 1, ok, h => by
    obtain ⟨h1, h2⟩ := hp_setNone (e' := e') (L := r) i ok.1 (by simpa using h)
    simp only [List.set_cons_succ, List.eraseIdx_cons_succ]
    refine ⟨?_, h2, ?_⟩
    · cases t <;> simp only [hp, h1]
    · intro k q
      rw [h1]
      exact sub_none (hp_sub (List.eraseIdx_sublist r i) ok.1).1 (ok.2 k q)

theorem hp_eraseK {h0 : Heap} {k : Key} {e : Ent} : ∀ {L : HL} (i : Nat), HOk h0 L → L[i]? = some (some k, e) → hp h0 (L.eraseIdx i) = upd (hp h0 L) k none
  | [], i, _, h => by simp at h
  | (t, e') :: r, 0, ok, h => by
    simp only [List.getElem?_cons_zero, Option.some.injEq, Prod.mk.injEq] at h
    obtain ⟨rfl, rfl⟩ := h
    have := ok.2 k rfl
    funext x
    simp only [List.eraseIdx_zero, List.tail_cons, hp]
    unfold upd
    by_cases hx : x = k
    · subst hx; simp [this]
    · simp [hx]
  | (t, e') :: r, i + 1, ok, h => by
    have h' : r[i]? = some (some k, e) := by simpa using h
    have ih := hp_eraseK (L := r) i ok.1 h'
    simp only [List.eraseIdx_cons_succ]
    cases t with
    | none => exact ih
    | some k' =>
      have hne : k' ≠ k := fun q => by
        have h1 := ok.2 k' rfl
        rw [q, hp_get i ok.1 h'] at h1
        cases h1
      simp only [hp]
      rw [ih]
      exact upd_comm _ _ _ (Ne.symm hne)

section ops2
variable {P : Program} {ops : Array Oper} {h h0 : Heap} {L : HL} {n : Nat} {kvs : KV} {l : List Oper} {ty : TypeId} {pos : String} {aft : Array Edge}

theorem a_appA {K : AV → Heap → Prop} {α : Type} {c : α → List AV} {xs ys zs : List α} {dst : Option Tmp} {s x : Operand} {t e : TypeId} {sz b : Nat} {zv : List Value} {g : AGh} (i : Nat) (hm : app xs ys = some zs) (ht : ElT P t e sz b) (hb : Nat.ble b 100000 = true)
    (hzr : zrT P e = some zv) (hzo : zv.all (·.oneCell') = true) (hc : ∀ y, (c y).length = sz)
    (ha : evk n kvs s = aw g.t g.n g.cap) (hi : L[i]? = some (g.t, .obj e (fl c xs g.sp))) (ok : AOk g sz xs.length) (hk : HOk h0 L) (hx : srcOf (hp h0 L) sz (evk n kvs x) = some (ys.map c))
    (k : ∀ g' : AGh, AOk g' sz zs.length → HOk h0 (L.set i (g'.t, .obj e (fl c zs g'.sp))) → K (aw g'.t g'.n g'.cap) (hp h0 (L.set i (g'.t, .obj e (fl c zs g'.sp))))) :
    AOp P ⟨dst, .call { callee := .builtin .append, args := #[s, x], argTypes := #[t, t] }, ty, pos, aft, none⟩ K (fm n kvs) (hp h0 L) := by
  obtain ⟨rfl, hsz⟩ := app_spec hm
  have hb' := Nat.le_of_ble_eq_true hb
  have hbound : (xs.length + ys.length) * (b + 1) ≤ 140737488355328 := by
    have : (xs.length + ys.length) * (b + 1) ≤ 1000000000 * 100001 := Nat.mul_le_mul hsz (by omega)
    omega
  rw [Nat.mul_add, Nat.mul_one] at hbound
  have hil : i < L.length := (List.getElem?_eq_some_iff.1 hi).1
  have hset : ∀ a, L[i]? = some a → L.set i a = L := by
    intro a ha
    apply List.ext_getElem?; intro j; rw [List.getElem?_set]; split
    · rename_i q; first | (subst q; exact ha.symm) | (subst q; rw [if_pos hil]; exact ha.symm)
    · rfl
  intro E w a r hv Nx Qx hn
  have vs := hv s (by simp [Op.operands, Call.operands])
  have vx := hv x (by simp [Op.operands, Call.operands])
  rw [ev_fm] at vs vx
  rw [ha, ok.eqn] at vs
  have src := srcOf_spec r hx vx
  have hop : (⟨dst, .call { callee := .builtin .append, args := #[s, x], argTypes := #[t, t] }, ty, pos, aft, none⟩ : Oper).op = .call { callee := .builtin .append, args := #[s, x], argTypes := #[t, t] } := rfl
  by_cases hy : ys = []
  · subst hy
    have hsv : ∃ q cap, a.eval s = .slice q xs.length cap ∧ xs.length ≤ cap ∧ (q = none → cap = 0) := by
      have hnil := ok.nil
      cases htg : g.t with
      | none =>
        rw [htg] at vs
        simp only [aw, VR] at vs
        obtain ⟨q, e⟩ := vs
        exact ⟨q, 0, by rw [e, hnil htg], by rw [hnil htg]; exact Nat.le_refl _, fun _ => rfl⟩
      | some kk =>
        rw [htg] at vs
        simp only [aw, VR] at vs
        obtain ⟨q, _, e, e2, _⟩ := vs
        exact ⟨_, _, e, e2, nofun⟩
    obtain ⟨q, cap, es, ec, hq⟩ := hsv
    have src0 : ∃ q c, a.eval x = .slice q 0 c := by
      rcases src.2 with ⟨_, q, c, e⟩ | ⟨g, oo, c, cv, e, _⟩
      · exact ⟨q, c, e⟩
      · exact ⟨_, c, e⟩
    obtain ⟨qx, cx, ex⟩ := src0
    have hv0 : (a.eval s = .slice none 0 0 ∧ xs.length = 0) ∨ ∃ a' cap, a.eval s = .slice (some a') xs.length cap ∧ xs.length ≤ cap := by
      cases q with
      | none => have h0 := hq rfl; subst h0; have h0 : xs.length = 0 := by omega
                exact .inl ⟨by rw [es, h0], h0⟩
      | some b => exact .inr ⟨b, cap, es, ec⟩
    have hr := run_append_none (P := P) (w := w) (ty := ty) ht hv0 ex
    unfold Oper.wp
    rw [exec_append hop hr]
    have hk1 := k g (by simpa using ok) (by rw [List.append_nil, hset _ hi]; exact hk)
    rw [List.append_nil, hset _ hi, ok.eqn] at hk1
    exact hn _ _ _ E _ (Keep.refl E w) r vs hk1
  · have hyc : ys.map c ≠ [] := by simpa using hy
    cases htg : g.t with
    | none =>
      have hx0 := ok.nil htg
      have hxs : xs = [] := List.length_eq_zero_iff.1 hx0
      subst hxs
      rw [htg] at vs hi
      simp only [aw, VR] at vs
      obtain ⟨a0, ea0⟩ := vs
      obtain ⟨m, hm'⟩ := r.fresh 0
      obtain ⟨v', w', E', cap, sp, e1, e2, e3, e4, e5, e6, e7⟩ := app_arr0 (ty := ty) ht hzr hzo r hm' src hyc (by rw [List.length_map]; simp only [List.length_nil, Nat.zero_add] at hbound; omega) (by rw [List.length_map]; simp only [List.length_nil, Nat.zero_add] at hbound; omega) a0
      unfold Oper.wp
      rw [exec_append hop (by rw [ea0]; exact e1)]
      rw [List.length_map] at e4 e5 e7
      have hnone := r.unused_none hm'
      obtain ⟨p1, p2, _⟩ := hp_put (k := (0, m)) (e' := .obj e (fl c ys sp)) i hk hi (.inr ⟨rfl, hnone⟩)
      have hk1 := k ⟨some (0, m), ys.length, cap, sp⟩ ⟨by simp, nofun, by simpa using e5, e6, by simpa using e7⟩ p2
      refine hn _ _ _ E' _ e2 e3 e4 ?_
      have : upd (hp h0 L) (0, m) (some (.obj e ((ys.map c).flatten ++ sp))) = hp h0 (L.set i (some (0, m), .obj e (fl c ys sp))) := p1
      rw [this]
      exact hk1
    | some kk =>
      rw [htg] at vs hi
      have hg := hp_get i hk hi
      have hcl : (xs.map c).length * sz + g.sp.length = g.cap * sz := by rw [List.length_map]; exact ok.len
      obtain ⟨v', w', E', k2, cap, sp, e0, e1, e2, e3, e4, e5, e6, e7⟩ := app_arr (ty := ty) ht hzr hzo r 0 (xs := xs.map c) (sp := g.sp) (cap := g.cap) hg (by rw [flat_len hc, List.length_map]) hcl (by rw [List.length_map]; exact vs) src hyc (by simp only [List.length_map]; omega) (by simp only [List.length_map]; omega)
      unfold Oper.wp
      rw [exec_append hop e1]
      rw [← List.map_append, List.length_map] at e4 e5 e7
      rw [← List.map_append] at e3
      obtain ⟨s1, s2⟩ := hp_setNone (e' := .obj e (fl c xs g.sp)) i hk hil
      have hsn : (L.set i (none, Ent.obj e (fl c xs g.sp)))[i]? = some (none, .obj e (fl c xs g.sp)) := by rw [List.getElem?_set_self hil]
      have hnk : hp h0 (L.set i (none, .obj e (fl c xs g.sp))) k2 = none := by
        rw [s1]
        rcases e0 with rfl | ⟨_, q⟩
        · exact hp_erase i hk hi
        · exact sub_none (hp_sub (List.eraseIdx_sublist L i) hk).1 q
      obtain ⟨p1, p2, _⟩ := hp_put (k := k2) (e' := .obj e (fl c (xs ++ ys) sp)) i s2 hsn (.inr ⟨rfl, hnk⟩)
      rw [List.set_set] at p1 p2
      have hq : upd (upd (hp h0 L) kk none) k2 (some (.obj e (fl c (xs ++ ys) sp))) = hp h0 (L.set i (some k2, .obj e (fl c (xs ++ ys) sp))) := by
        rw [← p1]
        congr 1
        rw [s1]
        exact (hp_eraseK i hk hi).symm
      have hk1 := k ⟨some k2, (xs ++ ys).length, cap, sp⟩ ⟨rfl, nofun, e5, e6, e7⟩ p2
      refine hn _ _ _ E' _ e2 e3 e4 ?_
      have : upd (upd (hp h0 L) kk none) k2 (some (.obj e (((xs ++ ys).map c).flatten ++ sp))) = hp h0 (L.set i (some k2, .obj e (fl c (xs ++ ys) sp))) := hq
      rw [this]
      exact hk1
/-- To a list that is nil yet. -/
theorem a_appA0 {K : AV → Heap → Prop} {α : Type} {c : α → List AV} {ys zs : List α} {dst : Option Tmp} {s : Nat} {x : Operand} {t e : TypeId} {sz b : Nat} {zv : List Value} (hm : app [] ys = some zs) (ht : ElT P t e sz b) (hb : Nat.ble b 100000 = true)
    (hzr : zrT P e = some zv) (hzo : zv.all (·.oneCell') = true) (hc : ∀ y, (c y).length = sz)
    (ha : lk n kvs s = .sc (.slice none 0 0)) (hk : HOk h0 L) (hx : srcOf (hp h0 L) sz (evk n (kp kvs s .e0) x) = some (ys.map c))
    (k : ∀ g' : AGh, AOk g' sz zs.length → HOk h0 ((g'.t, .obj e (fl c zs g'.sp)) :: L) → K (aw g'.t g'.n g'.cap) (hp h0 ((g'.t, .obj e (fl c zs g'.sp)) :: L))) :
    AOp P ⟨dst, .call { callee := .builtin .append, args := #[.tmp s, x], argTypes := #[t, t] }, ty, pos, aft, none⟩ K (fm n kvs) (hp h0 L) := by
  have hl := lk_kp (v := .e0) ha (by simp)
  refine AOp_put (s := s) .e0 (by rw [ha]; exact ALe_nilA _) (a_appA (L := (none, .obj e (fl c ([] : List α) [])) :: L) (g := g0) (c := c) (xs := []) 0 hm ht hb hzr hzo hc ?_ rfl (AOk.g0 sz) ⟨hk, nofun⟩ hx ?_)
  · exact hl
  · exact fun g' h1 h2 => k g' h1 h2
end ops2

/-! ### A function that only looks: what it is shown need not be frozen -/
def Epl (E : Env) (H : Heap) (w : World) : Env where
  imm g o := E.imm g o ∨ ((∃ k, E.at H k g) ∧ ∃ v, w.cell? ⟨g, o, none⟩ = some v)
  lock g := E.lock g ∨ ∃ k, E.at H k g
  used := E.used
  ob := E.ob
  tk _ := none
abbrev hz : Heap := fun _ => none

theorem Epl_rel {E : Env} {H : Heap} {w : World} (r : Rel E H w) : Rel (Epl E H w) hz w where
  obj := nofun
  tok := nofun
  tkh := nofun
  sep k k' g ha _ := by
    rcases ha with ⟨e, _, h, _⟩ | ⟨_, _, _, _, h, _⟩ <;> cases h
  dis k g ha := by
    rcases ha with ⟨e, _, h, _⟩ | ⟨_, _, _, _, h, _⟩ <;> cases h
  hus := nofun
  obu := r.obu
  fre := r.fre
  imb g o h := by
    rcases h with h | ⟨_, h⟩
    · exact r.imb g o h
    · exact h
  lkb g h := by
    rcases h with h | ⟨k, h⟩
    · exact r.lkb g h
    · exact r.at_lt h
  mp := nofun
theorem Epl_keep {E : Env} {H : Heap} {w : World} (r : Rel E H w) : KeepV E w (Epl E H w) w where
  imm g o h := ⟨.inl h, rfl⟩
  used _ h := h
  ob _ _ h := h
  tkc k t ht o ho := by
    refine ⟨.inl (.inr ?_), rfl⟩
    obtain ⟨ty, e⟩ := r.tkh k t ht
    obtain ⟨t', cur, e1, e2, e3, e4, e5, e6, e7⟩ := r.tok _ _ _ _ e
    rw [ht] at e1; cases e1
    refine ⟨⟨k, .inr ⟨ty, _, _, t, e, ht, rfl⟩⟩, ?_⟩
    have : o < cur.size := by omega
    exact ⟨cur[o], by simp [World.cell?, e4, this]⟩
  tkf := nofun
def Br (H : Heap) (x y : AV) : Prop := ∀ E w v, Rel E H w → VR E w x v → VR (Epl E H w) w y v
theorem Br.refl (H : Heap) (x : AV) : Br H x x := fun _ _ _ r h => VR_keepV (Epl_keep r) _ _ h
theorem Br.ale {H : Heap} {x y : AV} (h : ALe H x y) : Br H x y := fun E w v r hv => VR_keepV (Epl_keep r) _ _ (h E w v r hv)
theorem Br.ale0 {H : Heap} {x y : AV} (h : ALe hz x y) : Br H x y := fun _ w v r hv => h _ w v (Epl_rel r) (VR_keepV (Epl_keep r) _ _ hv)
theorem Br.ow {α : Type} {c : α → List AV} {xs : List α} {t : Option Key} {H : Heap} (sz : Nat) (ot : t = none → xs = []) : Br H (ow t sz (xs.map c)) (.sl none sz (xs.map c)) :=
  Br.ale0 (own_frz sz ot fun _ _ => rfl)
theorem Br.vw {α : Type} {c : α → List AV} {xs : List α} {H : Heap} {k : Key} {ty : TypeId} {sp : List AV} {sz cap : Nat} (hc : ∀ y, (c y).length = sz) (hk : H k = some (.obj ty (fl c xs sp))) : Br H (.vw k xs.length cap) (.sl none sz (xs.map c)) := by
  intro E w v r hv
  simp only [VR] at hv ⊢
  obtain ⟨g, hg, rfl, h1, h2⟩ := hv
  obtain ⟨g', cur, e1, e2, e3, e4⟩ := r.obj _ _ _ hk
  rw [hg] at e1; cases e1
  refine ⟨_, cap, by rw [List.length_map], by rw [List.length_map]; exact h1, h2, ?_, ?_, nofun⟩
  · refine .inr ⟨g, 0, rfl, VRG_flat.2 ?_⟩
    have htake : VRL E w (xs.map c).flatten (cur.toList.take ((xs.map c).flatten.length)) := by
      have := VRL_take ((xs.map c).flatten.length) e3
      rwa [fl, List.take_left' rfl] at this
    refine VRM_of_cells (VRL_keepV (Epl_keep r) _ _ htake) (fun u hu => e4 u (List.mem_of_mem_take hu)) ?_
    intro j u hj
    rw [List.getElem?_take] at hj
    split at hj
    · have hcell : w.cell? ⟨g, 0 + j, none⟩ = some u := by
        simp only [World.cell?, e2, Nat.zero_add]
        simpa using hj
      exact ⟨hcell, .inl (.inr ⟨⟨k, .inl ⟨_, rfl, hk, hg⟩⟩, u, hcell⟩)⟩
    · cases hj
  · intro x hx
    obtain ⟨y, _, rfl⟩ := List.mem_map.1 hx
    exact hc y
theorem Br.aw {α : Type} {c : α → List AV} {xs : List α} {h0 : Heap} {L : HL} {ty : TypeId} {g : AGh} {sz : Nat} (i : Nat) (hc : ∀ y, (c y).length = sz) (ok : AOk g sz xs.length) (hk : HOk h0 L) (hi : L[i]? = some (g.t, .obj ty (fl c xs g.sp))) : Br (hp h0 L) (aw g.t g.n g.cap) (.sl none sz (xs.map c)) := by
  rw [ok.eqn]
  cases ht : g.t with
  | none =>
    have h0 : xs = [] := List.length_eq_zero_iff.1 (ok.nil ht)
    subst h0
    exact Br.ale (ALe_e0 _ sz)
  | some k =>
    rw [ht] at hi
    exact Br.vw hc (hp_get i hk hi)
inductive BrL (H : Heap) : List AV → List AV → Prop where
  | nil : BrL H [] []
  | cons {x y : AV} {xs ys : List AV} : Br H x y → BrL H xs ys → BrL H (x :: xs) (y :: ys)
theorem BrL.spec {H : Heap} {xs ys : List AV} (hl : BrL H xs ys) {E : Env} {w : World} (r : Rel E H w) : ∀ {vs : List Value}, VRL E w xs vs → VRL (Epl E H w) w ys vs := by
  induction hl with
  | nil => intro vs v; cases vs with
    | nil => simp only [VRL]
    | cons _ _ => simp only [VRL] at v
  | cons h1 _ ih => intro vs v; cases vs with
    | nil => simp only [VRL] at v
    | cons u us =>
      simp only [VRL] at v ⊢
      exact ⟨h1 E w u r v.1, ih v.2⟩
theorem BrL.refl (H : Heap) : ∀ (xs : List AV), BrL H xs xs
  | [] => .nil
  | x :: xs => .cons (Br.refl H x) (BrL.refl H xs)
theorem BrL.app {H : Heap} {xs ys : List AV} : ∀ (k : Nat) {zs : List AV}, zs.length = k → BrL H xs ys → BrL H (zs ++ xs) (zs ++ ys)
  | 0, [], _, hl => hl
  | k + 1, z :: zs, hz, hl => .cons (Br.refl _ _) (BrL.app k (by simpa using hz) hl)
  | 0, _ :: _, hz, _ => by simp at hz
  | _ + 1, [], hz, _ => by simp at hz
theorem Br.agg {H : Heap} {xs ys : List AV} (hl : BrL H xs ys) : Br H (.agg xs) (.agg ys) := by
  intro E w v r hv
  simp only [VR] at hv ⊢
  obtain ⟨cs, rfl, h⟩ := hv
  exact ⟨cs, rfl, hl.spec r h⟩
end Go.Vm
namespace Go.Vm
/-! ### Written no more -/
def Efz (E : Env) (H H' : Heap) (w : World) : Env := { E with
  imm := fun g o => E.imm g o ∨ ((∃ k, E.at H k g ∧ H' k = none) ∧ ∃ v, w.cell? ⟨g, o, none⟩ = some v)
  tk := fun k => if (H' k).isSome then E.tk k else none }
theorem Efz_keep {E : Env} {H H' : Heap} {w : World} (r : Rel E H w) : Keep E w (Efz E H H' w) w := by
  refine ⟨fun g o h => ⟨.inl h, rfl⟩, fun _ => Iff.rfl, fun _ _ => rfl, fun _ h => h, fun _ _ h => h, ?_, ?_, rfl, rfl, rfl, Nat.le_refl _⟩
  · intro k t ht o ho
    refine ⟨?_, rfl⟩
    cases hk : H' k with
    | some e => exact .inr ⟨t, by simp [Efz, hk, ht], rfl, ho⟩
    | none =>
      obtain ⟨ty, e⟩ := r.tkh k t ht
      obtain ⟨t', cur, e1, e2, e3, e4, e5, e6, e7⟩ := r.tok _ _ _ _ e
      rw [ht] at e1; cases e1
      have : o < cur.size := by omega
      exact .inl (.inr ⟨⟨k, .inr ⟨ty, _, _, t, e, ht, rfl⟩, hk⟩, cur[o], by simp [World.cell?, e4, this]⟩)
  · intro k t' ht _
    simp only [Efz] at ht
    split at ht
    · exact ⟨t', ht, Nat.le_refl _, fun _ => rfl⟩
    · cases ht
theorem Efz_rel {E : Env} {H H' : Heap} {w : World} (r : Rel E H w) (hs : Sub H' H) : Rel (Efz E H H' w) H' w := by
  have key : Keep E w (Efz E H H' w) w := Efz_keep r
  have at' : ∀ k g, Env.at (Efz E H H' w) H' k g → E.at H k g ∧ (H' k).isSome = true := by
    intro k g ha
    rcases ha with ⟨ty, cs, h1, h2⟩ | ⟨ty, sz, m, t, h1, h2, h3⟩
    · exact ⟨.inl ⟨ty, cs, hs _ _ h1, h2⟩, by simp [h1]⟩
    · simp only [Efz, h1, Option.isSome_some, if_true] at h2
      exact ⟨.inr ⟨ty, sz, m, t, hs _ _ h1, h2, h3⟩, by simp [h1]⟩
  constructor
  · intro k ty cs hk
    obtain ⟨g, cur, e1, e2, e3, e4⟩ := r.obj k ty cs (hs _ _ hk)
    exact ⟨g, cur, e1, e2, VRL_keep key _ _ e3, e4⟩
  · intro k ty sz m hk
    obtain ⟨t, cur, e1, e2⟩ := r.tok k ty sz m (hs _ _ hk)
    exact ⟨t, cur, by simp [Efz, hk, e1], e2⟩
  · intro k t hk
    simp only [Efz] at hk
    split at hk
    · rename_i hsome
      obtain ⟨ty, e⟩ := r.tkh k t hk
      obtain ⟨e', he'⟩ := Option.isSome_iff_exists.1 hsome
      have := hs _ _ he'
      rw [e] at this
      cases this
      exact ⟨ty, he'⟩
    · cases hk
  · intro k k' g ha hb
    exact r.sep k k' g (at' _ _ ha).1 (at' _ _ hb).1
  · intro k g ha
    obtain ⟨h1, h2⟩ := r.dis k g (at' _ _ ha).1
    refine ⟨h1, fun o ho => ?_⟩
    rcases ho with ho | ⟨⟨k', e1, e2⟩, _⟩
    · exact h2 o ho
    · have : k = k' := r.sep k k' g (at' _ _ ha).1 e1
      subst this
      have := (at' _ _ ha).2
      rw [e2] at this
      cases this
  · exact fun k e hk => r.hus k e (hs _ _ hk)
  · exact r.obu
  · exact r.fre
  · intro g o ho
    rcases ho with ho | ⟨_, h⟩
    · exact r.imb g o ho
    · exact h
  · exact r.lkb
  · exact fun k es hk => r.mp k es (hs _ _ hk)
def Fz (H H' : Heap) (x y : AV) : Prop := ∀ E w v, Rel E H w → VR E w x v → VR (Efz E H H' w) w y v
theorem Fz.refl (H H' : Heap) (x : AV) : Fz H H' x x := fun _ _ _ r h => VR_keep (Efz_keep r) _ _ h
theorem Fz.ale {H H' : Heap} {x y : AV} (hs : Sub H' H) (h : ALe H' x y) : Fz H H' x y := fun _ w v r hv => h _ w v (Efz_rel r hs) (VR_keep (Efz_keep r) _ _ hv)
theorem Fz.vw {α : Type} {c : α → List AV} {xs : List α} {H H' : Heap} {k : Key} {ty : TypeId} {sp : List AV} {sz cap : Nat} (hc : ∀ y, (c y).length = sz) (hk : H k = some (.obj ty (fl c xs sp))) (hn : H' k = none) : Fz H H' (.vw k xs.length cap) (.sl none sz (xs.map c)) := by
  intro E w v r hv
  simp only [VR] at hv ⊢
  obtain ⟨g, hg, rfl, h1, h2⟩ := hv
  obtain ⟨g', cur, e1, e2, e3, e4⟩ := r.obj _ _ _ hk
  rw [hg] at e1; cases e1
  refine ⟨_, cap, by rw [List.length_map], by rw [List.length_map]; exact h1, h2, ?_, ?_, nofun⟩
  · refine .inr ⟨g, 0, rfl, VRG_flat.2 ?_⟩
    have htake : VRL E w (xs.map c).flatten (cur.toList.take ((xs.map c).flatten.length)) := by
      have := VRL_take ((xs.map c).flatten.length) e3
      rwa [fl, List.take_left' rfl] at this
    refine VRM_of_cells (VRL_keep (Efz_keep r) _ _ htake) (fun u hu => e4 u (List.mem_of_mem_take hu)) ?_
    intro j u hj
    rw [List.getElem?_take] at hj
    split at hj
    · have hcell : w.cell? ⟨g, 0 + j, none⟩ = some u := by
        simp only [World.cell?, e2, Nat.zero_add]
        simpa using hj
      exact ⟨hcell, .inl (.inr ⟨⟨k, .inl ⟨_, rfl, hk, hg⟩, hn⟩, u, hcell⟩)⟩
    · cases hj
  · intro x hx
    obtain ⟨y, _, rfl⟩ := List.mem_map.1 hx
    exact hc y
/-- An array (at i of what is there) that is written no more; what stays is part of the rest. -/
theorem Fz.aw {α : Type} {c : α → List AV} {xs : List α} {h0 : Heap} {L L' : HL} {ty : TypeId} {g : AGh} {sz : Nat} (i : Nat) (hc : ∀ y, (c y).length = sz) (ok : AOk g sz xs.length) (hk : HOk h0 L) (hi : L[i]? = some (g.t, .obj ty (fl c xs g.sp))) (hs : L'.Sublist (L.eraseIdx i)) :
    Fz (hp h0 L) (hp h0 L') (aw g.t g.n g.cap) (.sl none sz (xs.map c)) := by
  rw [ok.eqn]
  cases ht : g.t with
  | none =>
    have h0 : xs = [] := List.length_eq_zero_iff.1 (ok.nil ht)
    subst h0
    exact Fz.ale (hp_sub (hs.trans (List.eraseIdx_sublist L i)) hk).1 (ALe_e0 _ sz)
  | some k =>
    rw [ht] at hi
    exact Fz.vw hc (hp_get i hk hi) (sub_none (hp_sub hs (hp_sub (List.eraseIdx_sublist L i) hk).2).1 (hp_erase i hk hi))
inductive FzL (H H' : Heap) : List AV → List AV → Prop where
  | nil : FzL H H' [] []
  | cons {x y : AV} {xs ys : List AV} : Fz H H' x y → FzL H H' xs ys → FzL H H' (x :: xs) (y :: ys)
theorem FzL.spec {H H' : Heap} {xs ys : List AV} (hl : FzL H H' xs ys) {E : Env} {w : World} (r : Rel E H w) : ∀ {vs : List Value}, VRL E w xs vs → VRL (Efz E H H' w) w ys vs := by
  induction hl with
  | nil => intro vs v; cases vs with
    | nil => simp only [VRL]
    | cons _ _ => simp only [VRL] at v
  | cons h1 _ ih => intro vs v; cases vs with
    | nil => simp only [VRL] at v
    | cons u us =>
      simp only [VRL] at v ⊢
      exact ⟨h1 E w u r v.1, ih v.2⟩
theorem FzL.refl (H H' : Heap) : ∀ (xs : List AV), FzL H H' xs xs
  | [] => .nil
  | x :: xs => .cons (Fz.refl H H' x) (FzL.refl H H' xs)
theorem FzL.app {H H' : Heap} {xs ys : List AV} : ∀ (k : Nat) {zs : List AV}, zs.length = k → FzL H H' xs ys → FzL H H' (zs ++ xs) (zs ++ ys)
  | 0, [], _, hl => hl
  | k + 1, z :: zs, hz, hl => .cons (Fz.refl _ _ _) (FzL.app k (by simpa using hz) hl)
  | 0, _ :: _, hz, _ => by simp at hz
  | _ + 1, [], hz, _ => by simp at hz
theorem Fz.agg {H H' : Heap} {xs ys : List AV} (hl : FzL H H' xs ys) : Fz H H' (.agg xs) (.agg ys) := by
  intro E w v r hv
  simp only [VR] at hv ⊢
  obtain ⟨cs, rfl, h⟩ := hv
  exact ⟨cs, rfl, hl.spec r h⟩
theorem LeF.fz {n : Nat} {kvs : KV} {H H' : Heap} {t : Nat} {v : AV} (hs : Sub H' H) (hv : Fz H H' (lk n kvs t) v) : LeF (Vm.fm n (kp kvs t v)) H' (Vm.fm n kvs) H := by
  intro E w vs r vv
  refine ⟨_, Efz_keep r, Efz_rel r hs, ?_⟩
  have key : FzL H H' (Vm.fm n kvs) (Vm.fm n (kp kvs t v)) := by
    have : ∀ {xs ys : List AV}, xs.length = ys.length → (∀ (i : Nat) (x y : AV), xs[i]? = some x → ys[i]? = some y → Fz H H' x y) → FzL H H' xs ys := by
      intro xs
      induction xs with
      | nil => intro ys hl _; cases ys with
        | nil => exact .nil
        | cons _ _ => simp at hl
      | cons x xs ih => intro ys hl hg; cases ys with
        | nil => simp at hl
        | cons y ys => exact .cons (hg 0 x y rfl rfl) (ih (by simpa using hl) fun i a b ha hb => hg (i + 1) a b (by simpa using ha) (by simpa using hb))
    refine this (by rw [fm_length, fm_length]) ?_
    intro i x y hx hy
    rw [fm_get] at hx hy
    by_cases hi : i < n
    · rw [if_pos hi] at hx hy
      cases hx; cases hy
      by_cases e : t = i
      · subst e
        rw [kp_same]
        rw [lk_eq, if_pos hi] at hv
        exact hv
      · rw [kp_ne _ _ e]; exact Fz.refl _ _ _
    · rw [if_neg hi] at hx; cases hx
  exact key.spec r vv
end Go.Vm
namespace Go.Vm
section more
variable {P : Program} {h0 : Heap} {L : HL} {n : Nat} {kvs : KV}
/-- A field of an object that is written no more. -/
theorem LeF.fzO {f : KV} {k : Key} {ty : TypeId} {cs : List AV} (p j : Nat) (cs' : List AV) (hk : HOk h0 L) (hj : (L.eraseIdx p)[j]? = some (some k, .obj ty cs)) (hl : FzL (hp h0 L) (hp h0 (L.eraseIdx p)) cs cs') :
    HOk h0 ((L.eraseIdx p).set j (some k, .obj ty cs')) ∧ LeF (Vm.fm n f) (hp h0 ((L.eraseIdx p).set j (some k, .obj ty cs'))) (Vm.fm n f) (hp h0 L) := by
  obtain ⟨hs, hk1⟩ := hp_sub (List.eraseIdx_sublist L p) hk
  obtain ⟨h1, h2, _⟩ := hp_put (e' := .obj ty cs') j hk1 hj (.inl rfl)
  refine ⟨h2, fun E w vs r v => ?_⟩
  have hg1 := hp_get j hk1 hj
  obtain ⟨g, cur, e1, e2, e3, e4⟩ := r.obj k ty cs (hs _ _ hg1)
  have r1 := Efz_rel r hs
  have k1 : Keep E w (Efz E (hp h0 L) (hp h0 (L.eraseIdx p)) w) w := Efz_keep r
  obtain ⟨k2, r2⟩ := r1.set_obj hg1 (show (Efz E (hp h0 L) (hp h0 (L.eraseIdx p)) w).ob k = some g from e1) (w' := w) e2 (fun _ _ => rfl) (Nat.le_refl _) rfl rfl rfl (hl.spec r e3) e4
  rw [h1] at r2
  exact ⟨_, k1.trans k2, r2, VRL_keep (k1.trans k2) _ _ v⟩
end more
end Go.Vm
