import Derived.Test.YtafflcbcpbgloaaKEP1
import Derived.Lib.AppendStr
import Derived.Test.YtafflcbcpbgloaaProg
set_option linter.unusedSimpArgs false
set_option linter.unusedVariables false
namespace Go.Vm
structure AGh where
 t : Option Key
 n : Nat
 cap : Nat
 sp : List AV
def aw (t : Option Key) (n cap : Nat) : AV := match t with
 | none => .e0
 | some k => .vw k n cap
def apt (t : Option Key) (off : Nat) : AV := match t with
 | none => .any
 | some k => .ptr k off
def fl {α : Type} (c : α → List AV) (xs : List α) (sp : List AV) : List AV := (xs.map c).flatten ++ sp
structure AOk (g : AGh) (sz n : Nat) : Prop where
 eqn : g.n = n
 nil : g.t = none → n = 0
 le : n ≤ g.cap
 mx : g.cap ≤ maxLen
 len : n * sz + g.sp.length = g.cap * sz
def g0 : AGh := ⟨none, 0, 0, []⟩
theorem AOk.g0 (sz : Nat) : AOk g0 sz 0 := ⟨rfl, fun _ => rfl, Nat.le_refl _, Nat.zero_le _, by simp [Vm.g0]⟩
section flat
variable {α : Type} {c : α → List AV} {sz : Nat}
theorem flat_len (hc : ∀ y, (c y).length = sz) : ∀ (xs : List α), (xs.map c).flatten.length = xs.length * sz
 | [] => by simp
 | x :: xs => by simp only [List.map_cons, List.flatten_cons, List.length_append, hc, flat_len hc xs, List.length_cons, Nat.add_mul, Nat.one_mul]; omega
theorem fl_len (hc : ∀ y, (c y).length = sz) (xs : List α) (sp : List AV) : (fl c xs sp).length = xs.length * sz + sp.length := by
 unfold fl; rw [List.length_append, flat_len hc]
theorem fl_drop (hc : ∀ y, (c y).length = sz) (sp : List AV) : ∀ {xs : List α} {i : Nat} {x : α}, xs[i]? = some x → ∃ r, (fl c xs sp).drop (i * sz) = c x ++ r
 | [], _, _, h => by simp at h
 | y :: ys, 0, x, h => by
  simp only [List.getElem?_cons_zero, Option.some.injEq] at h
  subst h
  exact ⟨fl c ys sp, by simp [fl]⟩
 | y :: ys, i + 1, x, h => by
  obtain ⟨r, e⟩ := fl_drop hc sp (xs := ys) (i := i) (by simpa using h)
  refine ⟨r, ?_⟩
  rw [← e]
  have : fl c (y :: ys) sp = c y ++ fl c ys sp := by simp [fl]
  rw [this, Nat.add_mul, Nat.one_mul, Nat.add_comm, ← List.drop_drop, List.drop_left' (hc y)]
theorem fl_splice (hc : ∀ y, (c y).length = sz) (sp : List AV) {ys : List AV} {fo : Nat} (hf : fo + ys.length ≤ sz) {x' : α} : ∀ {xs : List α} {i : Nat} {x : α}, xs[i]? = some x → splice (c x) fo ys = c x' → splice (fl c xs sp) (i * sz + fo) ys = fl c (xs.set i x') sp
 | [], _, _, h, _ => by simp at h
 | y :: zs, 0, x, h, hs => by
  simp only [List.getElem?_cons_zero, Option.some.injEq] at h
  subst h
  have e1 : fl c (y :: zs) sp = c y ++ fl c zs sp := by simp [fl]
  have e2 : fl c ((y :: zs).set 0 x') sp = c x' ++ fl c zs sp := by simp [fl]
  rw [e1, e2, ← hs, Nat.zero_mul, Nat.zero_add]
  unfold splice
  rw [List.take_append_of_le_length (by rw [hc]; omega), List.drop_append_of_le_length (by rw [hc]; omega)]
  simp
 | y :: zs, i + 1, x, h, hs => by
  have ih := fl_splice hc sp hf (xs := zs) (i := i) (by simpa using h) hs
  have e1 : fl c (y :: zs) sp = c y ++ fl c zs sp := by simp [fl]
  have e2 : fl c ((y :: zs).set (i + 1) x') sp = c y ++ fl c (zs.set i x') sp := by simp [fl]
  rw [e1, e2, ← ih, show (i + 1) * sz + fo = (c y).length + (i * sz + fo) from by rw [hc, Nat.add_mul]; omega]
  unfold splice
  rw [List.take_length_add_append, show (c y).length + (i * sz + fo) + ys.length = (c y).length + (i * sz + fo + ys.length) from by omega, List.drop_length_add_append]
  simp
end flat
section ops
variable {P : Program} {ops : Array Oper} {K : Fr → Heap → Prop} {h h0 : Heap} {L : HL} {n : Nat} {kvs : KV} {l : List Oper} {ty : TypeId} {pos : String} {aft : Array Edge}
theorem AOp_lek {o : Oper} {K : AV → Heap → Prop} {kvs' : KV} (hl : ∀ y ∈ o.op.operands, ALe h (evk n kvs y) (evk n kvs' y)) (ho : AOp P o K (fm n kvs') h) : AOp P o K (fm n kvs) h :=
 AOp_le (fun y hy => by rw [ev_fm, ev_fm]; exact hl y hy) ho
theorem ALe_vw (h : Heap) (k : Key) (n cap : Nat) : ALe h (.vw k n cap) (.view k 0 n) := by
 intro E w v r hv
 simp only [VR] at hv ⊢
 obtain ⟨g, hg, rfl, h1, h2⟩ := hv
 exact ⟨g, cap, hg, rfl, h1, h2⟩
theorem AOp_put {o : Oper} {K : AV → Heap → Prop} {s : Nat} (v : AV) (hv : ALe h (lk n kvs s) v) (ho : AOp P o K (fm n (kp kvs s v)) h) : AOp P o K (fm n kvs) h := by
 refine AOp_lek (fun y _ => ?_) ho
 cases y with
 | tmp u =>
  simp only [evk, lk_eq] at hv ⊢
  by_cases e : s = u
  ·subst e
   rw [kp_same]
   split
   ·rename_i q; rw [if_pos q] at hv; exact hv
   ·exact ALe.refl _ _
  ·rw [kp_ne _ _ e]; exact ALe.refl _ _
 | const v => exact ALe.refl _ _
 | global g => exact ALe.refl _ _
 | func f => exact ALe.refl _ _
theorem lk_kp {s : Nat} {v x : AV} (hs : lk n kvs s = x) (hx : x ≠ .any) : lk n (kp kvs s v) s = v := by
 rw [lk_eq] at hs
 rw [lk_eq, kp_same]
 split
 ·rfl
 ·rename_i q; rw [if_neg q] at hs; exact absurd hs.symm hx
theorem evk_kp {s : Nat} {v x : AV} {b : Operand} {u : Value} (hs : lk n kvs s = x) (hx : ∀ u, x ≠ .sc u) (hb : evk n kvs b = .sc u) : evk n (kp kvs s v) b = .sc u := by
 cases b with
 | tmp t =>
  simp only [evk] at hb ⊢
  by_cases e : s = t
  ·subst e; rw [hs] at hb; exact absurd hb (hx u)
  ·rw [lk_eq] at hb ⊢; rw [kp_ne _ _ e]; exact hb
 | const v => exact hb
 | global g => exact hb
 | func f => exact hb
theorem o_lenA {dst : Option Tmp} {s : Nat} {t : TypeId} {g : AGh} {m sz : Nat} (ht : lnT P t = some true) (ok : AOk g sz m) (ha : lk n kvs s = aw g.t g.n g.cap) :
    AOpV P ⟨dst, .call { callee := .builtin .len, args := #[.tmp s], argTypes := #[t] }, ty, pos, aft, none⟩ (.sc (.int .i64 m)) (fm n kvs) h := by
  rw [ok.eqn] at ha
  cases ht' : g.t with
  | none =>
    have hm := ok.nil ht'
    subst hm
    rw [ht'] at ha
    have ha : evk n kvs (.tmp s) = .e0 := ha
    refine o_pv (c := True) ?_ trivial
    simp only [pv, pvc, ev_fm, ha, ht, lnA, Option.map_some, Option.bind_some, tt, if_true]
  | some k =>
    rw [ht'] at ha
    refine AOp_put (s := s) (.view k 0 m) (by rw [ha]; exact ALe_vw _ _ _ _) (o_pv (c := True) ?_ trivial)
    have e : evk n (kp kvs s (.view k 0 m)) (.tmp s) = .view k 0 m := lk_kp ha (by simp [aw])
    simp only [pv, pvc, ev_fm, e, ht, lnA, Option.map_some, Option.bind_some, tt, if_true]
theorem o_ixA {α : Type} {xs : List α} {x : α} {dst : Option Tmp} {s : Nat} {b : Operand} {t : TypeId} {g : AGh} {sz : Nat} {q : IntKind} {i : Int} (hi : ix xs i = some x) (ht : elS P t = some sz) (ok : AOk g sz xs.length) (ha : lk n kvs s = aw g.t g.n g.cap) (hb : evk n kvs b = .sc (.int q i)) :
    AOpV P ⟨dst, .indexAddr t (.tmp s) b, ty, pos, aft, none⟩ (apt g.t (i.toNat * sz)) (fm n kvs) h := by
  obtain ⟨h1, h2, h3⟩ := ix_spec hi
  rw [ok.eqn] at ha
  cases ht' : g.t with
  | none => have := ok.nil ht'; omega
  | some k =>
    rw [ht'] at ha
    refine AOp_put (s := s) (.view k 0 xs.length) (by rw [ha]; exact ALe_vw _ _ _ _) (o_pv (c := 0 ≤ i ∧ i < xs.length) ?_ ⟨h1, h2⟩)
    have e : evk n (kp kvs s (.view k 0 xs.length)) (.tmp s) = .view k 0 xs.length := lk_kp ha (by simp [aw])
    have e2 : evk n (kp kvs s (.view k 0 xs.length)) b = .sc (.int q i) := evk_kp ha (by simp [aw]) hb
    simp only [pv, ev_fm, e, e2, intA, Option.bind_some, ixA, ht, apt, Nat.zero_add]
theorem AOk.ne {α : Type} {g : AGh} {sz : Nat} {xs : List α} {i : Int} {x : α} (ok : AOk g sz xs.length) (hi : ix xs i = some x) : g.t ≠ none := fun e => by
 have := ok.nil e
 have := ix_spec hi
 omega
theorem o_ldA {α : Type} {c : α → List AV} {xs : List α} {x : α} {dst : Option Tmp} {a : Operand} {t : TypeId} {g : AGh} {sz fo : Nat} {i : Int} {oty : TypeId} {ag : Bool} {m : Nat} (v : AV) (hi : ix xs i = some x) (hc : ∀ y, (c y).length = sz) (ok : AOk g sz xs.length) (ht : ldT P t = some (ag, m))
    (ha : evk n kvs a = apt g.t (i.toNat * sz + fo)) (hA : At h g.t (.obj oty (fl c xs g.sp))) (hx : ∀ r, ldv ag m ((c x ++ r).drop fo) = some v) :
    AOpV P ⟨dst, .load t a, ty, pos, aft, none⟩ v (fm n kvs) h := by
  obtain ⟨h1, h2, h3⟩ := ix_spec hi
  have hne := ok.ne hi
  cases ht' : g.t with
  | none => exact absurd ht' hne
  | some k =>
    rw [ht'] at ha hA
    obtain ⟨r, e⟩ := fl_drop hc g.sp h3
    refine Zg v ht ha hA.s ?_
    rw [← List.drop_drop, e]
    exact hx r
theorem ocell_aw (t : Option Key) (m c : Nat) : ocell (aw t m c) = true := by cases t <;> rfl
theorem cellsOf_aw {x : AV} {t : Option Key} {m c : Nat} (h : x = aw t m c) : cellsOf x = some [aw t m c] := by subst h; cases t <;> rfl
theorem AOp_storeL {K : AV → Heap → Prop} {o : Oper} {fr : Fr} {t : TypeId} {x y : Operand} (hop : o.op = .store t x y) {k : Key} {off : Nat} (hx : ev fr x = .ptr k off) {ty : TypeId} {cs xs0 xs : List AV} (hk : h k = some (.obj ty cs))
    (hy : cellsOf (ev fr y) = some xs0) (ho : xs0.all ocell = true) (hle : ALeL h xs0 xs) (hs : tSz P t = some xs.length) (hl : off + xs.length ≤ cs.length)
    (hK : K (.sc undef) (upd h k (some (.obj ty (splice cs off xs))))) : AOp P o K fr h := by
  intro E w a r hv Nx Qx hn
  have vx := hv x (by rw [hop]; simp [Op.operands])
  have vy := hv y (by rw [hop]; simp [Op.operands])
  rw [hx] at vx
  simp only [VR] at vx
  obtain ⟨g, hg, ex⟩ := vx
  obtain ⟨c0, c2⟩ := cellsOf_spec hy ho vy
  have c1 := hle.spec r c0
  obtain ⟨g', cur, f1, f2, f3, f4⟩ := r.obj k ty cs hk
  rw [hg] at f1; cases f1
  have hlen : cs.length = cur.size := by simpa using VRL_length f3
  have hlx : xs.length = (a.eval y).cells.toList.length := VRL_length c1
  have hlx' : xs.length = (a.eval y).cells.size := by simpa using hlx
  have hst := run_storeCells_at P g off ty (a.eval y).cells.toList 0 cur w f2 (by simp only [Array.length_toList]; omega) c2
  have hv' : VRL E w (splice cs off xs) (cur.toList.take (off + 0) ++ (a.eval y).cells.toList ++ cur.toList.drop (off + 0 + (a.eval y).cells.toList.length)) := by
    simp only [Nat.add_zero, splice]
    rw [← hlx]
    exact VRL_append (VRL_append (VRL_take _ f3) c1) (VRL_drop _ f3)
  have h1' : ∀ v ∈ cur.toList.take (off + 0) ++ (a.eval y).cells.toList ++ cur.toList.drop (off + 0 + (a.eval y).cells.toList.length), v.oneCell' = true := by
    intro v hv
    rcases List.mem_append.1 hv with hv | hv
    · rcases List.mem_append.1 hv with hv | hv
      · exact f4 v (List.mem_of_mem_take hv)
      · exact c2 v hv
    · exact f4 v (List.mem_of_mem_drop hv)
  obtain ⟨k1, k2⟩ := r.set_obj (cur := (cur.toList.take (off + 0) ++ (a.eval y).cells.toList ++ cur.toList.drop (off + 0 + (a.eval y).cells.toList.length)).toArray) hk hg
    (w' := w.setRow g (cur.toList.take (off + 0) ++ (a.eval y).cells.toList ++ cur.toList.drop (off + 0 + (a.eval y).cells.toList.length)).toArray)
    (setRow_heap w g cur _ ty _ f2) (fun g' hg' => setRow_other w g g' _ hg') (by simp) rfl rfl rfl hv' h1'
  unfold Oper.wp
  rw [show (execOp a.eval o).run P w = .ok .skip (w.setRow g (cur.toList.take (off + 0) ++ (a.eval y).cells.toList ++ cur.toList.drop (off + 0 + (a.eval y).cells.toList.length)).toArray) from by
    simp only [execOp, hop, Instr.storeAt, ex, Instr.sureAddr, storeVar, Sem.run_bind, Sem.run_pure, Result.andThen_ok, run_sizeOf' hs, hlx', ne_eq, not_true_eq_false, if_false, hst]]
  exact hn _ undef _ E _ k1 k2 (by simp only [VR]) hK
theorem a_storeL {K : AV → Heap → Prop} {dst : Option Tmp} {t oty : TypeId} {x y : Operand} {q : Key} {off : Nat} {cs xs0 xs : List AV} (i : Nat) (cs' : List AV) (hk : HOk h0 L) (ha : evk n kvs x = .ptr q off) (hi : L[i]? = some (some q, .obj oty cs))
    (hy : cellsOf (evk n kvs y) = some xs0) (ho : xs0.all ocell = true) (hle : ALeL (hp h0 L) xs0 xs) (hs : tSz P t = some xs.length) (hl : Nat.ble (off + xs.length) cs.length = true) (hcs : splice cs off xs = cs')
    (k : HOk h0 (L.set i (some q, .obj oty cs')) → K (.sc undef) (hp h0 (L.set i (some q, .obj oty cs')))) : AOp P ⟨dst, .store t x y, ty, pos, aft, none⟩ K (fm n kvs) (hp h0 L) := by
  subst hcs
  obtain ⟨h1, h2, _⟩ := hp_put (e' := .obj oty (splice cs off xs)) i hk hi (.inl rfl)
  refine (AOp_storeL rfl (by rw [ev_fm]; exact ha) (Zd i hk hi) (by rw [ev_fm]; exact hy) ho hle hs (Nat.le_of_ble_eq_true hl) ?_)
  rw [h1]
  exact k h2
theorem a_storeA {K : AV → Heap → Prop} {α : Type} {c : α → List AV} {xs : List α} {x : α} (x' : α) {dst : Option Tmp} {t oty : TypeId} {a y : Operand} {g : AGh} {sz fo : Nat} {i : Int} {ys : List AV} (p : Nat) (hk : HOk h0 L) (hi : ix xs i = some x) (hc : ∀ y, (c y).length = sz) (ok : AOk g sz xs.length)
    (ha : evk n kvs a = apt g.t (i.toNat * sz + fo)) (hL : L[p]? = some (g.t, .obj oty (fl c xs g.sp))) {ys0 : List AV} (hy : cellsOf (evk n kvs y) = some ys0) (ho : ys0.all ocell = true) (hle : ALeL (hp h0 L) ys0 ys) (hs : tSz P t = some ys.length) (hf : Nat.ble (fo + ys.length) sz = true) (hcs : splice (c x) fo ys = c x')
    (k : HOk h0 (L.set p (g.t, .obj oty (fl c (xs.set i.toNat x') g.sp))) → K (.sc undef) (hp h0 (L.set p (g.t, .obj oty (fl c (xs.set i.toNat x') g.sp))))) : AOp P ⟨dst, .store t a y, ty, pos, aft, none⟩ K (fm n kvs) (hp h0 L) := by
  obtain ⟨h1, h2, h3⟩ := ix_spec hi
  have hne := ok.ne hi
  have hf' := Nat.le_of_ble_eq_true hf
  cases ht' : g.t with
  | none => exact absurd ht' hne
  | some q =>
    rw [ht'] at ha hL k
    refine a_storeL p (fl c (xs.set i.toNat x') g.sp) hk ha hL hy ho hle hs ?_ (fl_splice hc g.sp hf' h3 hcs) k
    rw [Nat.ble_eq, fl_len hc]
    have h4 : i.toNat < xs.length := (List.getElem?_eq_some_iff.1 h3).1
    have : i.toNat * sz + sz ≤ xs.length * sz := by
      rw [← Nat.succ_mul]; exact Nat.mul_le_mul_right _ h4
    omega
theorem AOk.set {g : AGh} {sz : Nat} {α : Type} {xs : List α} {i : Nat} {x : α} (ok : AOk g sz xs.length) : AOk g sz (xs.set i x).length := by rw [List.length_set]; exact ok
theorem ALe_e0 (h : Heap) (sz : Nat) : ALe h .e0 (.sl none sz []) := by
 intro E w v r hv
 simp only [VR] at hv ⊢
 obtain ⟨a, rfl⟩ := hv
 exact ⟨a, 0, rfl, Nat.le_refl _, Nat.zero_le _, .inl trivial, by simp, fun _ q => by cases q⟩
theorem ALe_nilA (h : Heap) : ALe h (.sc (.slice none 0 0)) (aw g0.t g0.n g0.cap) := by
 intro E w v r hv
 simp only [VR] at hv
 subst hv
 simp only [g0, aw, VR]
 exact ⟨none, rfl⟩
end ops
theorem mem_zeroCells {z : Array Value} {n : Nat} (hz : ∀ u ∈ z.toList, u.oneCell' = true) : ∀ v ∈ (Builtin.zeroCells z n).toList, v.oneCell' = true := by
 intro v hv
 simp only [Builtin.zeroCells, Array.mem_toList_iff, Array.mem_map, Array.mem_range] at hv
 obtain ⟨i, hi, rfl⟩ := hv
 have h0 : 0 < z.size := Nat.pos_of_ne_zero fun e => by rw [e, Nat.mul_zero] at hi; omega
 have hm : i % z.size < z.size := Nat.mod_lt _ h0
 rw [getElem!_pos z _ hm]
 exact hz _ (by simp)
section app
variable {P : Program} {E : Env} {h : Heap} {w : World}
theorem app_arr0 {t ty e : TypeId} {sz b : Nat} (ht : ElT P t e sz b) {zs : List Value} (hzr : zrT P e = some zs) (hzo : zs.all (·.oneCell') = true) (r : Rel E h w) {k : Key} (hk : ¬ E.used k) {ys : List (List AV)} {y : Value} (hy : Src E w sz ys y) (hne : ys ≠ [])
    (hb : ys.length * b ≤ 140737488355328) (hlen : ys.length ≤ 140737488355328) (a0 : Option Addr) :
    ∃ v' w' E' cap sp, (Builtin.append_ #[t, t] ty #[.slice a0 0 0, y]).run P w = .ok v' w' ∧ Keep E w E' w' ∧ Rel E' (upd h k (some (.obj e (ys.flatten ++ sp)))) w' ∧ VR E' w' (.vw k ys.length cap) v' ∧
      ys.length ≤ cap ∧ cap ≤ maxLen ∧ ys.length * sz + sp.length = cap * sz := by
  obtain ⟨i, z, hi, hz, rfl, rfl, hzs, hsp⟩ := ht.inf
  have hzc : ∀ u ∈ z.cells.toList, u.oneCell' = true := by
    have : zs = z.cells.toList := by
      unfold zrT at hzr
      rw [hi] at hzr
      simp only [Option.bind_some, hz, Option.map_some, Option.some.injEq] at hzr
      exact hzr.symm
    subst this
    exact fun u hu => List.all_eq_true.1 hzo u hu
  have hs : ∀ x ∈ ys, x.length = i.size := hy.1
  obtain ⟨g, o, cap, cv, rfl, c1, c2, c3, c4⟩ := hy.2.resolve_left fun e => hne e.1
  have hpos : 0 < ys.length := List.length_pos_iff.2 hne
  have hrun : (Builtin.append_ #[t, t] ty #[.slice a0 0 0, .slice (some ⟨g, o, none⟩) ys.length cap]).run P w =
      .ok (.slice (some ⟨w.heap.size, 0, none⟩) ys.length (grownCap w ys.length 0 e)) (w.drew.alloc (.cells (cv.toArray ++ Builtin.zeroCells z.cells (grownCap w ys.length 0 e - ys.length)) e)) := by
    cases a0 with
    | none => exact run_append_nil (P := P) w t ty e i z ht.ut hi hz ⟨g, o, none⟩ ys.length cap cv c3 (fun j u hj => by rw [Addr.add_lit]; exact c4 j u hj) hpos (by omega) (by omega)
    | some b0 =>
      have := run_append_grow (P := P) w t ty e i z ht.ut hi hz b0 0 0 [] (by simp) (by simp) ⟨g, o, none⟩ ys.length cap cv c3 (fun j u hj => by rw [Addr.add_lit]; exact c4 j u hj) (by omega) (by omega) (growslice_fits (by omega) (by rw [Nat.zero_add]; exact hb))
      simpa using this
  have hge := grownCap_ge w ys.length 0 e
  have hcm : grownCap w ys.length 0 e ≤ maxLen := grownCap_le_maxLen w ys.length 0 e (by simp only [maxLen]; omega)
  obtain ⟨rd, kd⟩ := r.drewn (w.drawn + 1)
  have hvl : VRL E w.drew (ys.flatten ++ List.replicate (Builtin.zeroCells z.cells (grownCap w ys.length 0 e - ys.length)).toList.length AV.any) (cv.toArray ++ Builtin.zeroCells z.cells (grownCap w ys.length 0 e - ys.length)).toList := by
    rw [Array.toList_append]
    exact VRL_append (VRL_keep kd _ _ c1) (VRL_any _ rfl)
  obtain ⟨E', e1, e2, e3⟩ := Rel.new_obj (w := w.drew) rd hk e hvl (by
    intro v hv
    rw [Array.toList_append] at hv
    rcases List.mem_append.1 hv with hv | hv
    · exact c2 v (by simpa using hv)
    · exact mem_zeroCells hzc v hv)
  refine ⟨_, _, E', grownCap w ys.length 0 e, _, hrun, kd.trans e2, e3, ?_, hge, hcm, ?_⟩
  · simp only [VR]
    exact ⟨_, e1, rfl, hge, hcm⟩
  · have hzl : ∀ m, (Builtin.zeroCells z.cells m).toList.length = m * i.size := fun m => by rw [Array.length_toList, size_zeroCells, hzs]
    rw [List.length_replicate, hzl, ← Nat.add_mul]
    congr 1; omega
theorem app_arr {t ty e : TypeId} {sz b : Nat} (ht : ElT P t e sz b) {zs : List Value} (hzr : zrT P e = some zs) (hzo : zs.all (·.oneCell') = true) (r : Rel E h w) (d : Nat) {k : Key} {xs ys : List (List AV)} {sp : List AV} {cap : Nat} (hk : h k = some (.obj e (xs.flatten ++ sp)))
    (hsx : xs.flatten.length = xs.length * sz) (hcl : xs.length * sz + sp.length = cap * sz) {v : Value} (hv : VR E w (.vw k xs.length cap) v) {y : Value} (hy : Src E w sz ys y) (hne : ys ≠ []) (hb : (xs.length + ys.length) * b ≤ 140737488355328) (hlen : xs.length + ys.length ≤ 140737488355328) :
    ∃ v' w' E' k2 cap' sp', (k2 = k ∨ (k2 ≠ k ∧ h k2 = none)) ∧ (Builtin.append_ #[t, t] ty #[v, y]).run P w = .ok v' w' ∧ Keep E w E' w' ∧ Rel E' (upd (upd h k none) k2 (some (.obj e ((xs ++ ys).flatten ++ sp')))) w' ∧ VR E' w' (.vw k2 (xs ++ ys).length cap') v' ∧
      (xs ++ ys).length ≤ cap' ∧ cap' ≤ maxLen ∧ (xs ++ ys).length * sz + sp'.length = cap' * sz := by
  obtain ⟨i, z, hi, hz, rfl, rfl, hzs, hsp⟩ := ht.inf
  have hzc : ∀ u ∈ z.cells.toList, u.oneCell' = true := by
    have : zs = z.cells.toList := by
      unfold zrT at hzr
      rw [hi] at hzr
      simp only [Option.bind_some, hz, Option.map_some, Option.some.injEq] at hzr
      exact hzr.symm
    subst this
    exact fun u hu => List.all_eq_true.1 hzo u hu
  have hsy : ∀ x ∈ ys, x.length = i.size := hy.1
  obtain ⟨g, o, capy, cy, rfl, c1, c2, c3, c4⟩ := hy.2.resolve_left fun e => hne e.1
  have hpos : 0 < ys.length := List.length_pos_iff.2 hne
  obtain ⟨gb, cur, g1, g2, g3, g4⟩ := r.obj _ _ _ hk
  simp only [VR] at hv
  obtain ⟨gb', q1, rfl, v1, v2⟩ := hv
  rw [g1] at q1; cases q1
  have hcl' : cur.toList.length = cap * i.size := by rw [← VRL_length g3, List.length_append, hsx, hcl]
  have hsz : cur.size = cap * i.size := by simpa using hcl'
  have htake : VRL E w xs.flatten (cur.toList.take (xs.length * i.size)) := by
    have := VRL_take (xs.length * i.size) g3
    rwa [List.take_left' hsx] at this
  have hdrop : ∀ m, VRL E w (sp.drop m) (cur.toList.drop (xs.length * i.size + m)) := by
    intro m
    have := VRL_drop (xs.length * i.size + m) g3
    rwa [← List.drop_drop, List.drop_left' hsx] at this
  have hl2 : (xs ++ ys).length * i.size = xs.length * i.size + ys.length * i.size := by rw [List.length_append, Nat.add_mul]
  have hle : xs.length * i.size ≤ cur.size := by rw [hsz]; exact Nat.mul_le_mul_right _ v1
  have htl : (cur.toList.take (xs.length * i.size)).length = xs.length * i.size := by
    rw [List.length_take]
    have : cur.toList.length = cur.size := by simp
    omega
  by_cases hroom : xs.length + ys.length ≤ cap
  · have hfit : xs.length * i.size + cy.length ≤ cur.size := by rw [c3, hsz, ← Nat.add_mul]; exact Nat.mul_le_mul_right _ hroom
    have hrun := run_append_room (P := P) w t ty e i ht.ut hi gb xs.length cap cur g2 ⟨g, o, none⟩ ys.length capy cy c3 (fun j u hj => by rw [Addr.add_lit]; exact c4 j u hj) c2 hroom hfit
    have hvl : VRL E w ((xs ++ ys).flatten ++ sp.drop cy.length) (cur.toList.take (xs.length * i.size) ++ cy ++ cur.toList.drop (xs.length * i.size + cy.length)).toArray.toList := by
      rw [List.flatten_append]
      exact VRL_append (VRL_append htake c1) (hdrop _)
    obtain ⟨k1, k2⟩ := r.set_obj hk g1 (w' := w.setRow gb (cur.toList.take (xs.length * i.size) ++ cy ++ cur.toList.drop (xs.length * i.size + cy.length)).toArray)
      (setRow_heap w gb cur _ e _ g2) (fun g' hg' => setRow_other w gb g' _ hg') (by simp) rfl rfl rfl hvl (by
        intro u hu
        rcases List.mem_append.1 hu with hu | hu
        · rcases List.mem_append.1 hu with hu | hu
          · exact g4 u (List.mem_of_mem_take hu)
          · exact c2 u hu
        · exact g4 u (List.mem_of_mem_drop hu))
    refine ⟨_, _, E, k, cap, sp.drop cy.length, .inl rfl, hrun, k1, ?_, ?_, ?_, v2, ?_⟩
    · have e1 : upd (upd h k none) k (some (.obj e ((xs ++ ys).flatten ++ sp.drop cy.length))) = upd h k (some (.obj e ((xs ++ ys).flatten ++ sp.drop cy.length))) := by
        funext x; unfold upd; split <;> rfl
      rw [e1]; exact k2
    · simp only [VR, List.length_append]
      exact ⟨gb, g1, rfl, hroom, v2⟩
    · rw [List.length_append]; exact hroom
    · rw [hl2, List.length_drop, c3]
      rw [c3] at hfit
      omega
  · have hold : ∀ j u, (cur.toList.take (xs.length * i.size))[j]? = some u → w.cell? ((⟨gb, 0, none⟩ : Addr).add j) = some u := by
      intro j u hj
      rw [Addr.add_lit, Nat.zero_add]
      simp only [World.cell?, g2]
      rw [List.getElem?_take] at hj
      split at hj
      · simpa using hj
      · cases hj
    have hrun := run_append_grow (P := P) w t ty e i z ht.ut hi hz ⟨gb, 0, none⟩ xs.length cap (cur.toList.take (xs.length * i.size)) htl hold ⟨g, o, none⟩ ys.length capy cy c3 (fun j u hj => by rw [Addr.add_lit]; exact c4 j u hj) (by omega) (by omega) (growslice_fits (by omega) hb)
    have hge := grownCap_ge w (xs.length + ys.length) cap e
    have hcm : grownCap w (xs.length + ys.length) cap e ≤ maxLen := grownCap_le_maxLen w (xs.length + ys.length) cap e (by simp only [maxLen]; omega)
    generalize hgc : grownCap w (xs.length + ys.length) cap e = gc at hge hcm hrun
    obtain ⟨rd, kd⟩ := r.drewn (w.drawn + 1)
    have rd' : Rel E h w.drew := rd
    obtain ⟨E1, kx, rx⟩ := rd'.drop (h' := upd h k none) (fun x en hx => by
      unfold upd at hx
      split at hx
      · cases hx
      · exact hx)
    obtain ⟨nn, hE1⟩ := rx.fresh d
    have hEu : ¬ E.used (d, nn) := fun q => hE1 (kx.used _ (kd.used _ q))
    have hne2 : (d, nn) ≠ k := fun q => hEu (by rw [q]; exact r.hus _ _ hk)
    have kk := kd.trans kx
    have hvl : VRL E1 w.drew ((xs ++ ys).flatten ++ List.replicate (Builtin.zeroCells z.cells (gc - (xs.length + ys.length))).toList.length AV.any) ((cur.toList.take (xs.length * i.size)).toArray ++ cy.toArray ++ Builtin.zeroCells z.cells (gc - (xs.length + ys.length))).toList := by
      rw [Array.toList_append, Array.toList_append, List.flatten_append]
      exact VRL_append (VRL_append (VRL_keep kk _ _ htake) (VRL_keep kk _ _ c1)) (VRL_any _ rfl)
    obtain ⟨E', e1, e2, e3⟩ := Rel.new_obj (w := w.drew) rx hE1 e hvl (by
      intro v hv
      rw [Array.toList_append, Array.toList_append] at hv
      rcases List.mem_append.1 hv with hv | hv
      · rcases List.mem_append.1 hv with hv | hv
        · exact g4 v (List.mem_of_mem_take (by simpa using hv))
        · exact c2 v (by simpa using hv)
      · exact mem_zeroCells hzc v hv)
    refine ⟨_, _, E', (d, nn), gc, _, .inr ⟨hne2, r.unused_none hEu⟩, hrun, kk.trans e2, e3, ?_, by rw [List.length_append]; exact hge, hcm, ?_⟩
    · simp only [VR, List.length_append]
      exact ⟨_, e1, rfl, hge, hcm⟩
    · have hzl : ∀ m, (Builtin.zeroCells z.cells m).toList.length = m * i.size := fun m => by rw [Array.length_toList, size_zeroCells, hzs]
      rw [hl2, List.length_replicate, hzl, ← Nat.add_mul, ← Nat.add_mul]
      congr 1; omega
end app
theorem hp_setNone {h0 : Heap} {e' : Ent} : ∀ {L : HL} (i : Nat), HOk h0 L → i < L.length → hp h0 (L.set i (none, e')) = hp h0 (L.eraseIdx i) ∧ HOk h0 (L.set i (none, e'))
 | [], i, _, h => by simp at h
 | (t, e) :: r, 0, ok, _ => ⟨rfl, ok.1, nofun⟩
 | (t, e) :: r, i + 1, ok, h => by
  obtain ⟨h1, h2⟩ := hp_setNone (e' := e') (L := r) i ok.1 (by simpa using h)
  simp only [List.set_cons_succ, List.eraseIdx_cons_succ]
  refine ⟨?_, h2, ?_⟩
  ·cases t <;> simp only [hp, h1]
  ·intro k q
   rw [h1]
   exact sub_none (hp_sub (List.eraseIdx_sublist r i) ok.1).1 (ok.2 k q)
theorem hp_eraseK {h0 : Heap} {k : Key} {e : Ent} : ∀ {L : HL} (i : Nat), HOk h0 L → L[i]? = some (some k, e) → hp h0 (L.eraseIdx i) = upd (hp h0 L) k none
 | [], i, _, h => by simp at h
 | (t, e') :: r, 0, ok, h => by
  simp only [List.getElem?_cons_zero, Option.some.injEq, Prod.mk.injEq] at h
  obtain ⟨rfl, rfl⟩ := h
  have := ok.2 k rfl
  funext x
  simp only [List.eraseIdx_zero, List.tail_cons, hp]
  unfold upd
  by_cases hx : x = k
  ·subst hx; simp [this]
  ·simp [hx]
 | (t, e') :: r, i + 1, ok, h => by
  have h' : r[i]? = some (some k, e) := by simpa using h
  have ih := hp_eraseK (L := r) i ok.1 h'
  simp only [List.eraseIdx_cons_succ]
  cases t with
  | none => exact ih
  | some k' =>
   have hne : k' ≠ k := fun q => by
    have h1 := ok.2 k' rfl
    rw [q, Zd i ok.1 h'] at h1
    cases h1
   simp only [hp]
   rw [ih]
   exact upd_comm _ _ _ (Ne.symm hne)
section ops2
variable {P : Program} {ops : Array Oper} {h h0 : Heap} {L : HL} {n : Nat} {kvs : KV} {l : List Oper} {ty : TypeId} {pos : String} {aft : Array Edge}
theorem a_appA {K : AV → Heap → Prop} {α : Type} {c : α → List AV} {xs ys zs : List α} {dst : Option Tmp} {s x : Operand} {t e : TypeId} {sz b : Nat} {zv : List Value} {g : AGh} (i : Nat) (hm : app xs ys = some zs) (ht : ElT P t e sz b) (hb : Nat.ble b 100000 = true)
    (hzr : zrT P e = some zv) (hzo : zv.all (·.oneCell') = true) (hc : ∀ y, (c y).length = sz)
    (ha : evk n kvs s = aw g.t g.n g.cap) (hi : L[i]? = some (g.t, .obj e (fl c xs g.sp))) (ok : AOk g sz xs.length) (hk : HOk h0 L) (hx : srcOf (hp h0 L) sz (evk n kvs x) = some (ys.map c))
    (k : ∀ g' : AGh, AOk g' sz zs.length → HOk h0 (L.set i (g'.t, .obj e (fl c zs g'.sp))) → K (aw g'.t g'.n g'.cap) (hp h0 (L.set i (g'.t, .obj e (fl c zs g'.sp))))) :
    AOp P ⟨dst, .call { callee := .builtin .append, args := #[s, x], argTypes := #[t, t] }, ty, pos, aft, none⟩ K (fm n kvs) (hp h0 L) := by
  obtain ⟨rfl, hsz⟩ := app_spec hm
  have hb' := Nat.le_of_ble_eq_true hb
  have hbound : (xs.length + ys.length) * (b + 1) ≤ 140737488355328 := by
    have : (xs.length + ys.length) * (b + 1) ≤ 1000000000 * 100001 := Nat.mul_le_mul hsz (by omega)
    omega
  rw [Nat.mul_add, Nat.mul_one] at hbound
  have hil : i < L.length := (List.getElem?_eq_some_iff.1 hi).1
  have hset : ∀ a, L[i]? = some a → L.set i a = L := by
    intro a ha
    apply List.ext_getElem?; intro j; rw [List.getElem?_set]; split
    · rename_i q; first | (subst q; exact ha.symm) | (subst q; rw [if_pos hil]; exact ha.symm)
    · rfl
  intro E w a r hv Nx Qx hn
  have vs := hv s (by simp [Op.operands, Call.operands])
  have vx := hv x (by simp [Op.operands, Call.operands])
  rw [ev_fm] at vs vx
  rw [ha, ok.eqn] at vs
  have src := srcOf_spec r hx vx
  have hop : (⟨dst, .call { callee := .builtin .append, args := #[s, x], argTypes := #[t, t] }, ty, pos, aft, none⟩ : Oper).op = .call { callee := .builtin .append, args := #[s, x], argTypes := #[t, t] } := rfl
  by_cases hy : ys = []
  · subst hy
    have hsv : ∃ q cap, a.eval s = .slice q xs.length cap ∧ xs.length ≤ cap ∧ (q = none → cap = 0) := by
      have hnil := ok.nil
      cases htg : g.t with
      | none =>
        rw [htg] at vs
        simp only [aw, VR] at vs
        obtain ⟨q, e⟩ := vs
        exact ⟨q, 0, by rw [e, hnil htg], by rw [hnil htg]; exact Nat.le_refl _, fun _ => rfl⟩
      | some kk =>
        rw [htg] at vs
        simp only [aw, VR] at vs
        obtain ⟨q, _, e, e2, _⟩ := vs
        exact ⟨_, _, e, e2, nofun⟩
    obtain ⟨q, cap, es, ec, hq⟩ := hsv
    have src0 : ∃ q c, a.eval x = .slice q 0 c := by
      rcases src.2 with ⟨_, q, c, e⟩ | ⟨g, oo, c, cv, e, _⟩
      · exact ⟨q, c, e⟩
      · exact ⟨_, c, e⟩
    obtain ⟨qx, cx, ex⟩ := src0
    have hv0 : (a.eval s = .slice none 0 0 ∧ xs.length = 0) ∨ ∃ a' cap, a.eval s = .slice (some a') xs.length cap ∧ xs.length ≤ cap := by
      cases q with
      | none => have h0 := hq rfl; subst h0; have h0 : xs.length = 0 := by omega
                exact .inl ⟨by rw [es, h0], h0⟩
      | some b => exact .inr ⟨b, cap, es, ec⟩
    have hr := run_append_none (P := P) (w := w) (ty := ty) ht hv0 ex
    unfold Oper.wp
    rw [exec_append hop hr]
    have hk1 := k g (by simpa using ok) (by rw [List.append_nil, hset _ hi]; exact hk)
    rw [List.append_nil, hset _ hi, ok.eqn] at hk1
    exact hn _ _ _ E _ (Keep.refl E w) r vs hk1
  · have hyc : ys.map c ≠ [] := by simpa using hy
    cases htg : g.t with
    | none =>
      have hx0 := ok.nil htg
      have hxs : xs = [] := List.length_eq_zero_iff.1 hx0
      subst hxs
      rw [htg] at vs hi
      simp only [aw, VR] at vs
      obtain ⟨a0, ea0⟩ := vs
      obtain ⟨m, hm'⟩ := r.fresh 0
      obtain ⟨v', w', E', cap, sp, e1, e2, e3, e4, e5, e6, e7⟩ := app_arr0 (ty := ty) ht hzr hzo r hm' src hyc (by rw [List.length_map]; simp only [List.length_nil, Nat.zero_add] at hbound; omega) (by rw [List.length_map]; simp only [List.length_nil, Nat.zero_add] at hbound; omega) a0
      unfold Oper.wp
      rw [exec_append hop (by rw [ea0]; exact e1)]
      rw [List.length_map] at e4 e5 e7
      have hnone := r.unused_none hm'
      obtain ⟨p1, p2, _⟩ := hp_put (k := (0, m)) (e' := .obj e (fl c ys sp)) i hk hi (.inr ⟨rfl, hnone⟩)
      have hk1 := k ⟨some (0, m), ys.length, cap, sp⟩ ⟨by simp, nofun, by simpa using e5, e6, by simpa using e7⟩ p2
      refine hn _ _ _ E' _ e2 e3 e4 ?_
      have : upd (hp h0 L) (0, m) (some (.obj e ((ys.map c).flatten ++ sp))) = hp h0 (L.set i (some (0, m), .obj e (fl c ys sp))) := p1
      rw [this]
      exact hk1
    | some kk =>
      rw [htg] at vs hi
      have hg := Zd i hk hi
      have hcl : (xs.map c).length * sz + g.sp.length = g.cap * sz := by rw [List.length_map]; exact ok.len
      obtain ⟨v', w', E', k2, cap, sp, e0, e1, e2, e3, e4, e5, e6, e7⟩ := app_arr (ty := ty) ht hzr hzo r 0 (xs := xs.map c) (sp := g.sp) (cap := g.cap) hg (by rw [flat_len hc, List.length_map]) hcl (by rw [List.length_map]; exact vs) src hyc (by simp only [List.length_map]; omega) (by simp only [List.length_map]; omega)
      unfold Oper.wp
      rw [exec_append hop e1]
      rw [← List.map_append, List.length_map] at e4 e5 e7
      rw [← List.map_append] at e3
      obtain ⟨s1, s2⟩ := hp_setNone (e' := .obj e (fl c xs g.sp)) i hk hil
      have hsn : (L.set i (none, Ent.obj e (fl c xs g.sp)))[i]? = some (none, .obj e (fl c xs g.sp)) := by rw [List.getElem?_set_self hil]
      have hnk : hp h0 (L.set i (none, .obj e (fl c xs g.sp))) k2 = none := by
        rw [s1]
        rcases e0 with rfl | ⟨_, q⟩
        · exact hp_erase i hk hi
        · exact sub_none (hp_sub (List.eraseIdx_sublist L i) hk).1 q
      obtain ⟨p1, p2, _⟩ := hp_put (k := k2) (e' := .obj e (fl c (xs ++ ys) sp)) i s2 hsn (.inr ⟨rfl, hnk⟩)
      rw [List.set_set] at p1 p2
      have hq : upd (upd (hp h0 L) kk none) k2 (some (.obj e (fl c (xs ++ ys) sp))) = hp h0 (L.set i (some k2, .obj e (fl c (xs ++ ys) sp))) := by
        rw [← p1]
        congr 1
        rw [s1]
        exact (hp_eraseK i hk hi).symm
      have hk1 := k ⟨some k2, (xs ++ ys).length, cap, sp⟩ ⟨rfl, nofun, e5, e6, e7⟩ p2
      refine hn _ _ _ E' _ e2 e3 e4 ?_
      have : upd (upd (hp h0 L) kk none) k2 (some (.obj e (((xs ++ ys).map c).flatten ++ sp))) = hp h0 (L.set i (some k2, .obj e (fl c (xs ++ ys) sp))) := hq
      rw [this]
      exact hk1
end ops2
def Epl (E : Env) (H : Heap) (w : World) : Env where
 imm g o := E.imm g o ∨ ((∃ k, E.at H k g) ∧ ∃ v, w.cell? ⟨g, o, none⟩ = some v)
 lock g := E.lock g ∨ ∃ k, E.at H k g
 used := E.used
 ob := E.ob
 tk _ := none
abbrev hz : Heap := fun _ => none
theorem Epl_rel {E : Env} {H : Heap} {w : World} (r : Rel E H w) : Rel (Epl E H w) hz w where
 obj := nofun
 tok := nofun
 tkh := nofun
 sep k k' g ha _ := by
  rcases ha with ⟨e, _, h, _⟩ | ⟨_, _, _, _, h, _⟩ <;> cases h
 dis k g ha := by
  rcases ha with ⟨e, _, h, _⟩ | ⟨_, _, _, _, h, _⟩ <;> cases h
 hus := nofun
 obu := r.obu
 fre := r.fre
 imb g o h := by
  rcases h with h | ⟨_, h⟩
  ·exact r.imb g o h
  ·exact h
 lkb g h := by
  rcases h with h | ⟨k, h⟩
  ·exact r.lkb g h
  ·exact r.at_lt h
 mp := nofun
theorem Epl_keep {E : Env} {H : Heap} {w : World} (r : Rel E H w) : KeepV E w (Epl E H w) w where
 imm g o h := ⟨.inl h, rfl⟩
 used _ h := h
 ob _ _ h := h
 tkc k t ht o ho := by
  refine ⟨.inl (.inr ?_), rfl⟩
  obtain ⟨ty, e⟩ := r.tkh k t ht
  obtain ⟨t', cur, e1, e2, e3, e4, e5, e6, e7⟩ := r.tok _ _ _ _ e
  rw [ht] at e1; cases e1
  refine ⟨⟨k, .inr ⟨ty, _, _, t, e, ht, rfl⟩⟩, ?_⟩
  have : o < cur.size := by omega
  exact ⟨cur[o], by simp [World.cell?, e4, this]⟩
 tkf := nofun
def Br (H : Heap) (x y : AV) : Prop := ∀ E w v, Rel E H w → VR E w x v → VR (Epl E H w) w y v
theorem Br.refl (H : Heap) (x : AV) : Br H x x := fun _ _ _ r h => VR_keepV (Epl_keep r) _ _ h
theorem Br.ale {H : Heap} {x y : AV} (h : ALe H x y) : Br H x y := fun E w v r hv => VR_keepV (Epl_keep r) _ _ (h E w v r hv)
theorem Br.ale0 {H : Heap} {x y : AV} (h : ALe hz x y) : Br H x y := fun _ w v r hv => h _ w v (Epl_rel r) (VR_keepV (Epl_keep r) _ _ hv)
theorem Br.ow {α : Type} {c : α → List AV} {xs : List α} {t : Option Key} {H : Heap} (sz : Nat) (ot : t = none → xs = []) : Br H (ow t sz (xs.map c)) (.sl none sz (xs.map c)) :=
 Br.ale0 (own_frz sz ot fun _ _ => rfl)
theorem Br.vw {α : Type} {c : α → List AV} {xs : List α} {H : Heap} {k : Key} {ty : TypeId} {sp : List AV} {sz cap : Nat} (hc : ∀ y, (c y).length = sz) (hk : H k = some (.obj ty (fl c xs sp))) : Br H (.vw k xs.length cap) (.sl none sz (xs.map c)) := by
 intro E w v r hv
 simp only [VR] at hv ⊢
 obtain ⟨g, hg, rfl, h1, h2⟩ := hv
 obtain ⟨g', cur, e1, e2, e3, e4⟩ := r.obj _ _ _ hk
 rw [hg] at e1; cases e1
 refine ⟨_, cap, by rw [List.length_map], by rw [List.length_map]; exact h1, h2, ?_, ?_, nofun⟩
 ·refine .inr ⟨g, 0, rfl, VRG_flat.2 ?_⟩
  have htake : VRL E w (xs.map c).flatten (cur.toList.take ((xs.map c).flatten.length)) := by
   have := VRL_take ((xs.map c).flatten.length) e3
   rwa [fl, List.take_left' rfl] at this
  refine VRM_of_cells (VRL_keepV (Epl_keep r) _ _ htake) (fun u hu => e4 u (List.mem_of_mem_take hu)) ?_
  intro j u hj
  rw [List.getElem?_take] at hj
  split at hj
  ·have hcell : w.cell? ⟨g, 0 + j, none⟩ = some u := by
    simp only [World.cell?, e2, Nat.zero_add]
    simpa using hj
   exact ⟨hcell, .inl (.inr ⟨⟨k, .inl ⟨_, rfl, hk, hg⟩⟩, u, hcell⟩)⟩
  ·cases hj
 ·intro x hx
  obtain ⟨y, _, rfl⟩ := List.mem_map.1 hx
  exact hc y
theorem Br.aw {α : Type} {c : α → List AV} {xs : List α} {h0 : Heap} {L : HL} {ty : TypeId} {g : AGh} {sz : Nat} (i : Nat) (hc : ∀ y, (c y).length = sz) (ok : AOk g sz xs.length) (hk : HOk h0 L) (hi : L[i]? = some (g.t, .obj ty (fl c xs g.sp))) : Br (hp h0 L) (aw g.t g.n g.cap) (.sl none sz (xs.map c)) := by
 rw [ok.eqn]
 cases ht : g.t with
 | none =>
  have h0 : xs = [] := List.length_eq_zero_iff.1 (ok.nil ht)
  subst h0
  exact Br.ale (ALe_e0 _ sz)
 | some k =>
  rw [ht] at hi
  exact Br.vw hc (Zd i hk hi)
inductive BrL (H : Heap) : List AV → List AV → Prop where
 | nil : BrL H [] []
 | cons {x y : AV} {xs ys : List AV} : Br H x y → BrL H xs ys → BrL H (x :: xs) (y :: ys)
theorem BrL.spec {H : Heap} {xs ys : List AV} (hl : BrL H xs ys) {E : Env} {w : World} (r : Rel E H w) : ∀ {vs : List Value}, VRL E w xs vs → VRL (Epl E H w) w ys vs := by
 induction hl with
 | nil => intro vs v; cases vs with
  | nil => simp only [VRL]
  | cons _ _ => simp only [VRL] at v
 | cons h1 _ ih => intro vs v; cases vs with
  | nil => simp only [VRL] at v
  | cons u us =>
   simp only [VRL] at v ⊢
   exact ⟨h1 E w u r v.1, ih v.2⟩
theorem BrL.refl (H : Heap) : ∀ (xs : List AV), BrL H xs xs
 | [] => .nil
 | x :: xs => .cons (Br.refl H x) (BrL.refl H xs)
theorem BrL.app {H : Heap} {xs ys : List AV} : ∀ (k : Nat) {zs : List AV}, zs.length = k → BrL H xs ys → BrL H (zs ++ xs) (zs ++ ys)
 | 0, [], _, hl => hl
 | k + 1, z :: zs, hz, hl => .cons (Br.refl _ _) (BrL.app k (by simpa using hz) hl)
 | 0, _ :: _, hz, _ => by simp at hz
 | _ + 1, [], hz, _ => by simp at hz
theorem Br.agg {H : Heap} {xs ys : List AV} (hl : BrL H xs ys) : Br H (.agg xs) (.agg ys) := by
 intro E w v r hv
 simp only [VR] at hv ⊢
 obtain ⟨cs, rfl, h⟩ := hv
 exact ⟨cs, rfl, hl.spec r h⟩
def flatA : AV → Bool
 | .sc _ => true
 | .tup xs => xs.all fun | .sc _ => true | _ => false
 | _ => false
theorem flatA_spec {x : AV} (hx : flatA x = true) {E E' : Env} {w w' : World} {v : Value} (hv : VR E w x v) : VR E' w' x v := by
 cases x with
 | sc u => simpa only [VR] using hv
 | tup xs =>
  simp only [VR] at hv ⊢
  obtain ⟨cs, rfl, h⟩ := hv
  refine ⟨cs, rfl, ?_⟩
  simp only [flatA] at hx
  generalize cs.toList = l at h
  induction xs generalizing l with
  | nil => cases l with
   | nil => simp only [VRL]
   | cons _ _ => simp only [VRL] at h
  | cons y ys ih => cases l with
   | nil => simp only [VRL] at h
   | cons u us =>
    simp only [VRL] at h ⊢
    simp only [List.all_cons, Bool.and_eq_true] at hx
    refine ⟨?_, ih hx.2 us h.2⟩
    cases y with
    | sc z => simpa only [VR] using h.1
    | _ => cases hx.1
 | _ => cases hx
theorem ACalls_pure {P : Program} {f : FuncId} {us bs : List AV} {x : AV} {H : Heap} (hb : BrL H us bs) (hx : flatA x = true) (hc : ACalls P f bs hz (fun r h' => r = x ∧ h' = hz)) : ACalls P f us H (fun r h' => r = x ∧ h' = H) := by
 intro E w vs r hv
 refine (hc (Epl E H w) w vs (Epl_rel r) (hb.spec r hv)).mono ?_
 rintro e w' ⟨v, E'', y, h', rfl, k, r'', vx, rfl, rfl⟩
 have hblk : ∀ kk g, E.at H kk g → w'.heap[g]? = w.heap[g]? := fun kk g ha => k.lock g (.inr ⟨kk, ha⟩)
 have hat : ∀ kk t, E.tk kk = some t → E.at H kk t.b := fun kk t ht => by
  obtain ⟨ty, e⟩ := r.tkh kk t ht
  exact .inr ⟨ty, _, _, t, e, ht, rfl⟩
 have kE : Keep E w E w' := ⟨fun g o h => ⟨h, (k.imm g o (.inl h)).2⟩, fun _ => Iff.rfl, fun g hg => k.lock g (.inl hg), fun _ h => h, fun _ _ h => h,
  fun kk t ht o ho => ⟨.inr ⟨t, ht, rfl, ho⟩, cell_of_block (hblk kk t.b (hat kk t ht)) o⟩, fun kk t' h _ => ⟨t', h, Nat.le_refl _, fun _ => rfl⟩, k.os, k.tape, k.output, k.size⟩
 refine ⟨v, E, y, H, rfl, kE, ?_, flatA_spec hx vx, rfl, rfl⟩
 constructor
 ·intro kk ty cs hk
  obtain ⟨g, cur, e1, e2, e3, e4⟩ := r.obj kk ty cs hk
  exact ⟨g, cur, e1, (hblk kk g (.inl ⟨_, rfl, hk, e1⟩)).trans e2, VRL_keep kE _ _ e3, e4⟩
 ·intro kk ty sz m hk
  obtain ⟨t, cur, e1, e2, e3, e4, e5⟩ := r.tok kk ty sz m hk
  exact ⟨t, cur, e1, e2, e3, (hblk kk t.b (hat kk t e1)).trans e4, e5⟩
 ·exact r.tkh
 ·exact r.sep
 ·exact r.dis
 ·exact r.hus
 ·exact r.obu
 ·exact r.fre
 ·intro g o ho
  obtain ⟨v, hv⟩ := r.imb g o ho
  exact ⟨v, (kE.imm g o ho).2.trans hv⟩
 ·intro g hg
  exact Nat.lt_of_lt_of_le (r.lkb g hg) k.size
 ·intro kk es hk
  obtain ⟨g, ents, clk, e1, e2, e3⟩ := r.mp kk es hk
  exact ⟨g, ents, clk, e1, (hblk kk g (.inl ⟨_, rfl, hk, e1⟩)).trans e2, e3⟩
def Efz (E : Env) (H H' : Heap) (w : World) : Env := { E with
 imm := fun g o => E.imm g o ∨ ((∃ k, E.at H k g ∧ H' k = none) ∧ ∃ v, w.cell? ⟨g, o, none⟩ = some v)
 tk := fun k => if (H' k).isSome then E.tk k else none }
theorem Efz_keep {E : Env} {H H' : Heap} {w : World} (r : Rel E H w) : Keep E w (Efz E H H' w) w := by
 refine ⟨fun g o h => ⟨.inl h, rfl⟩, fun _ => Iff.rfl, fun _ _ => rfl, fun _ h => h, fun _ _ h => h, ?_, ?_, rfl, rfl, rfl, Nat.le_refl _⟩
 ·intro k t ht o ho
  refine ⟨?_, rfl⟩
  cases hk : H' k with
  | some e => exact .inr ⟨t, by simp [Efz, hk, ht], rfl, ho⟩
  | none =>
   obtain ⟨ty, e⟩ := r.tkh k t ht
   obtain ⟨t', cur, e1, e2, e3, e4, e5, e6, e7⟩ := r.tok _ _ _ _ e
   rw [ht] at e1; cases e1
   have : o < cur.size := by omega
   exact .inl (.inr ⟨⟨k, .inr ⟨ty, _, _, t, e, ht, rfl⟩, hk⟩, cur[o], by simp [World.cell?, e4, this]⟩)
 ·intro k t' ht _
  simp only [Efz] at ht
  split at ht
  ·exact ⟨t', ht, Nat.le_refl _, fun _ => rfl⟩
  ·cases ht
theorem Efz_rel {E : Env} {H H' : Heap} {w : World} (r : Rel E H w) (hs : Sub H' H) : Rel (Efz E H H' w) H' w := by
 have key : Keep E w (Efz E H H' w) w := Efz_keep r
 have at' : ∀ k g, Env.at (Efz E H H' w) H' k g → E.at H k g ∧ (H' k).isSome = true := by
  intro k g ha
  rcases ha with ⟨ty, cs, h1, h2⟩ | ⟨ty, sz, m, t, h1, h2, h3⟩
  ·exact ⟨.inl ⟨ty, cs, hs _ _ h1, h2⟩, by simp [h1]⟩
  ·simp only [Efz, h1, Option.isSome_some, if_true] at h2
   exact ⟨.inr ⟨ty, sz, m, t, hs _ _ h1, h2, h3⟩, by simp [h1]⟩
 constructor
 ·intro k ty cs hk
  obtain ⟨g, cur, e1, e2, e3, e4⟩ := r.obj k ty cs (hs _ _ hk)
  exact ⟨g, cur, e1, e2, VRL_keep key _ _ e3, e4⟩
 ·intro k ty sz m hk
  obtain ⟨t, cur, e1, e2⟩ := r.tok k ty sz m (hs _ _ hk)
  exact ⟨t, cur, by simp [Efz, hk, e1], e2⟩
 ·intro k t hk
  simp only [Efz] at hk
  split at hk
  ·rename_i hsome
   obtain ⟨ty, e⟩ := r.tkh k t hk
   obtain ⟨e', he'⟩ := Option.isSome_iff_exists.1 hsome
   have := hs _ _ he'
   rw [e] at this
   cases this
   exact ⟨ty, he'⟩
  ·cases hk
 ·intro k k' g ha hb
  exact r.sep k k' g (at' _ _ ha).1 (at' _ _ hb).1
 ·intro k g ha
  obtain ⟨h1, h2⟩ := r.dis k g (at' _ _ ha).1
  refine ⟨h1, fun o ho => ?_⟩
  rcases ho with ho | ⟨⟨k', e1, e2⟩, _⟩
  ·exact h2 o ho
  ·have : k = k' := r.sep k k' g (at' _ _ ha).1 e1
   subst this
   have := (at' _ _ ha).2
   rw [e2] at this
   cases this
 ·exact fun k e hk => r.hus k e (hs _ _ hk)
 ·exact r.obu
 ·exact r.fre
 ·intro g o ho
  rcases ho with ho | ⟨_, h⟩
  ·exact r.imb g o ho
  ·exact h
 ·exact r.lkb
 ·exact fun k es hk => r.mp k es (hs _ _ hk)
def Fz (H H' : Heap) (x y : AV) : Prop := ∀ E w v, Rel E H w → VR E w x v → VR (Efz E H H' w) w y v
theorem Fz.refl (H H' : Heap) (x : AV) : Fz H H' x x := fun _ _ _ r h => VR_keep (Efz_keep r) _ _ h
theorem Fz.ale {H H' : Heap} {x y : AV} (hs : Sub H' H) (h : ALe H' x y) : Fz H H' x y := fun _ w v r hv => h _ w v (Efz_rel r hs) (VR_keep (Efz_keep r) _ _ hv)
theorem Fz.vw {α : Type} {c : α → List AV} {xs : List α} {H H' : Heap} {k : Key} {ty : TypeId} {sp : List AV} {sz cap : Nat} (hc : ∀ y, (c y).length = sz) (hk : H k = some (.obj ty (fl c xs sp))) (hn : H' k = none) : Fz H H' (.vw k xs.length cap) (.sl none sz (xs.map c)) := by
 intro E w v r hv
 simp only [VR] at hv ⊢
 obtain ⟨g, hg, rfl, h1, h2⟩ := hv
 obtain ⟨g', cur, e1, e2, e3, e4⟩ := r.obj _ _ _ hk
 rw [hg] at e1; cases e1
 refine ⟨_, cap, by rw [List.length_map], by rw [List.length_map]; exact h1, h2, ?_, ?_, nofun⟩
 ·refine .inr ⟨g, 0, rfl, VRG_flat.2 ?_⟩
  have htake : VRL E w (xs.map c).flatten (cur.toList.take ((xs.map c).flatten.length)) := by
   have := VRL_take ((xs.map c).flatten.length) e3
   rwa [fl, List.take_left' rfl] at this
  refine VRM_of_cells (VRL_keep (Efz_keep r) _ _ htake) (fun u hu => e4 u (List.mem_of_mem_take hu)) ?_
  intro j u hj
  rw [List.getElem?_take] at hj
  split at hj
  ·have hcell : w.cell? ⟨g, 0 + j, none⟩ = some u := by
    simp only [World.cell?, e2, Nat.zero_add]
    simpa using hj
   exact ⟨hcell, .inl (.inr ⟨⟨k, .inl ⟨_, rfl, hk, hg⟩, hn⟩, u, hcell⟩)⟩
  ·cases hj
 ·intro x hx
  obtain ⟨y, _, rfl⟩ := List.mem_map.1 hx
  exact hc y
theorem Fz.aw {α : Type} {c : α → List AV} {xs : List α} {h0 : Heap} {L L' : HL} {ty : TypeId} {g : AGh} {sz : Nat} (i : Nat) (hc : ∀ y, (c y).length = sz) (ok : AOk g sz xs.length) (hk : HOk h0 L) (hi : L[i]? = some (g.t, .obj ty (fl c xs g.sp))) (hs : L'.Sublist (L.eraseIdx i)) :
    Fz (hp h0 L) (hp h0 L') (aw g.t g.n g.cap) (.sl none sz (xs.map c)) := by
  rw [ok.eqn]
  cases ht : g.t with
  | none =>
    have h0 : xs = [] := List.length_eq_zero_iff.1 (ok.nil ht)
    subst h0
    exact Fz.ale (hp_sub (hs.trans (List.eraseIdx_sublist L i)) hk).1 (ALe_e0 _ sz)
  | some k =>
    rw [ht] at hi
    exact Fz.vw hc (Zd i hk hi) (sub_none (hp_sub hs (hp_sub (List.eraseIdx_sublist L i) hk).2).1 (hp_erase i hk hi))
inductive FzL (H H' : Heap) : List AV → List AV → Prop where
 | nil : FzL H H' [] []
 | cons {x y : AV} {xs ys : List AV} : Fz H H' x y → FzL H H' xs ys → FzL H H' (x :: xs) (y :: ys)
theorem FzL.spec {H H' : Heap} {xs ys : List AV} (hl : FzL H H' xs ys) {E : Env} {w : World} (r : Rel E H w) : ∀ {vs : List Value}, VRL E w xs vs → VRL (Efz E H H' w) w ys vs := by
 induction hl with
 | nil => intro vs v; cases vs with
  | nil => simp only [VRL]
  | cons _ _ => simp only [VRL] at v
 | cons h1 _ ih => intro vs v; cases vs with
  | nil => simp only [VRL] at v
  | cons u us =>
   simp only [VRL] at v ⊢
   exact ⟨h1 E w u r v.1, ih v.2⟩
theorem FzL.refl (H H' : Heap) : ∀ (xs : List AV), FzL H H' xs xs
 | [] => .nil
 | x :: xs => .cons (Fz.refl H H' x) (FzL.refl H H' xs)
theorem FzL.app {H H' : Heap} {xs ys : List AV} : ∀ (k : Nat) {zs : List AV}, zs.length = k → FzL H H' xs ys → FzL H H' (zs ++ xs) (zs ++ ys)
 | 0, [], _, hl => hl
 | k + 1, z :: zs, hz, hl => .cons (Fz.refl _ _ _) (FzL.app k (by simpa using hz) hl)
 | 0, _ :: _, hz, _ => by simp at hz
 | _ + 1, [], hz, _ => by simp at hz
theorem Fz.agg {H H' : Heap} {xs ys : List AV} (hl : FzL H H' xs ys) : Fz H H' (.agg xs) (.agg ys) := by
 intro E w v r hv
 simp only [VR] at hv ⊢
 obtain ⟨cs, rfl, h⟩ := hv
 exact ⟨cs, rfl, hl.spec r h⟩
theorem LeF.fz {n : Nat} {kvs : KV} {H H' : Heap} {t : Nat} {v : AV} (hs : Sub H' H) (hv : Fz H H' (lk n kvs t) v) : LeF (Vm.fm n (kp kvs t v)) H' (Vm.fm n kvs) H := by
 intro E w vs r vv
 refine ⟨_, Efz_keep r, Efz_rel r hs, ?_⟩
 have key : FzL H H' (Vm.fm n kvs) (Vm.fm n (kp kvs t v)) := by
  have : ∀ {xs ys : List AV}, xs.length = ys.length → (∀ (i : Nat) (x y : AV), xs[i]? = some x → ys[i]? = some y → Fz H H' x y) → FzL H H' xs ys := by
   intro xs
   induction xs with
   | nil => intro ys hl _; cases ys with
    | nil => exact .nil
    | cons _ _ => simp at hl
   | cons x xs ih => intro ys hl hg; cases ys with
    | nil => simp at hl
    | cons y ys => exact .cons (hg 0 x y rfl rfl) (ih (by simpa using hl) fun i a b ha hb => hg (i + 1) a b (by simpa using ha) (by simpa using hb))
  refine this (by rw [fm_length, fm_length]) ?_
  intro i x y hx hy
  rw [fm_get] at hx hy
  by_cases hi : i < n
  ·rw [if_pos hi] at hx hy
   cases hx; cases hy
   by_cases e : t = i
   ·subst e
    rw [kp_same]
    rw [lk_eq, if_pos hi] at hv
    exact hv
   ·rw [kp_ne _ _ e]; exact Fz.refl _ _ _
  ·rw [if_neg hi] at hx; cases hx
 exact key.spec r vv
section more
variable {P : Program} {h0 : Heap} {L : HL} {n : Nat} {kvs : KV}
end more
section ops
variable {P : Program} {ops : Array Oper} {h h0 : Heap} {L : HL} {n : Nat} {kvs : KV} {l : List Oper} {ty : TypeId} {pos : String} {aft : Array Edge}
def bstr (l : List Int) : Option ByteArray := if (l.all fun z => decide (0 ≤ z) && decide (z < 256)) = true then some ⟨(l.map fun z => z.toNat.toUInt8).toArray⟩ else none
theorem strOf_b : ∀ {l : List Int}, (l.all fun z => decide (0 ≤ z) && decide (z < 256)) = true → strOf (l.map fun z => [AV.sc (.int .u8 z)]) = some (l.map fun z => z.toNat.toUInt8)
 | [], _ => rfl
 | z :: l, h => by
  simp only [List.all_cons, Bool.and_eq_true, decide_eq_true_eq] at h
  have ih := strOf_b (l := l) (by simpa using h.2)
  simp only [List.map_cons, strOf, ih]
  simp [h.1.1, h.1.2]
theorem o_bstr {c : Int → List AV} {dst : Option Tmp} {src dt e : TypeId} {x : Operand} {tag : Option Key} {l : List Int} {s : ByteArray} (hm : bstr l = some s) (hc : ∀ z, c z = [.sc (.int .u8 z)]) (hs : P.underlying src = some (.slice e)) (he : P.underlying e = some (.int .u8)) (hd : P.underlying dt = some .string)
    (hx : evk n kvs x = .sl tag 1 (l.map c)) : AOpV P ⟨dst, .convert src dt x, ty, pos, aft, none⟩ (.sc (.string s)) (fm n kvs) h := by
  unfold bstr at hm
  split at hm
  · rename_i hh
    cases hm
    have hcf : c = fun z => [.sc (.int .u8 z)] := funext hc
    subst hcf
    exact AOp_str rfl hs he hd (by rw [ev_fm]; exact hx) (strOf_b hh) ⟨rfl, rfl⟩
  · cases hm
theorem a_cvown {K : AV → Heap → Prop} {α : Type} {c : α → List AV} {xs : List α} {dst : Option Tmp} {s : Operand} {t e el : TypeId} {sz : Nat} {tg : Option Key} (i : Nat) (hs : P.underlying t = some (.slice el)) (he : P.underlying el = some (.int .u8)) (hne : xs ≠ [])
    (ha : evk n kvs s = ow tg sz (xs.map c)) (hi : L[i]? = some (tg, .tok e sz (xs.length * sz))) (ot : tg = none → xs = []) (hk : HOk h0 L) (k : K (.sl none sz (xs.map c)) (hp h0 (L.eraseIdx i))) :
    AOp P ⟨dst, .convert t t s, ty, pos, aft, none⟩ K (fm n kvs) (hp h0 L) := by
  cases tg with
  | none => exact absurd (ot rfl) hne
  | some kk =>
    have hg := Zd i hk hi
    refine AOp_conv_own rfl hs he (k := kk) (by rw [ev_fm]; exact ha) (by rw [hg, List.length_map]) ?_
    rw [← hp_eraseK i hk hi]
    exact k
end ops
def pick {α : Type} (σ : List Nat) (L : List α) : List α := σ.filterMap fun i => L[i]?
theorem FT.k2 {h : Heap} {n : Nat} {f g : KV} {d0 d1 : Nat} (hf : FT h n f g) : FT h n f (kp (kp g d1 (lk n f d1)) d0 (lk n f d0)) := .cons (ALe.refl _ _) (.cons (ALe.refl _ _) hf)
theorem ALeL.k2 {h : Heap} {x0 x1 : AV} {xs ys : List AV} (hf : ALeL h xs ys) : ALeL h (x0 :: x1 :: xs) (x0 :: x1 :: ys) := .cons (ALe.refl _ _) (.cons (ALe.refl _ _) hf)
theorem FT.k3 {h : Heap} {n : Nat} {f g : KV} {d0 d1 d2 : Nat} (hf : FT h n f g) : FT h n f (kp (kp (kp g d2 (lk n f d2)) d1 (lk n f d1)) d0 (lk n f d0)) := .cons (ALe.refl _ _) (.cons (ALe.refl _ _) (.cons (ALe.refl _ _) hf))
theorem ALeL.k3 {h : Heap} {x0 x1 x2 : AV} {xs ys : List AV} (hf : ALeL h xs ys) : ALeL h (x0 :: x1 :: x2 :: xs) (x0 :: x1 :: x2 :: ys) := .cons (ALe.refl _ _) (.cons (ALe.refl _ _) (.cons (ALe.refl _ _) hf))
theorem FT.k4 {h : Heap} {n : Nat} {f g : KV} {d0 d1 d2 d3 : Nat} (hf : FT h n f g) : FT h n f (kp (kp (kp (kp g d3 (lk n f d3)) d2 (lk n f d2)) d1 (lk n f d1)) d0 (lk n f d0)) := .cons (ALe.refl _ _) (.cons (ALe.refl _ _) (.cons (ALe.refl _ _) (.cons (ALe.refl _ _) hf)))
theorem ALeL.k4 {h : Heap} {x0 x1 x2 x3 : AV} {xs ys : List AV} (hf : ALeL h xs ys) : ALeL h (x0 :: x1 :: x2 :: x3 :: xs) (x0 :: x1 :: x2 :: x3 :: ys) := .cons (ALe.refl _ _) (.cons (ALe.refl _ _) (.cons (ALe.refl _ _) (.cons (ALe.refl _ _) hf)))
theorem FT.k5 {h : Heap} {n : Nat} {f g : KV} {d0 d1 d2 d3 d4 : Nat} (hf : FT h n f g) : FT h n f (kp (kp (kp (kp (kp g d4 (lk n f d4)) d3 (lk n f d3)) d2 (lk n f d2)) d1 (lk n f d1)) d0 (lk n f d0)) := .cons (ALe.refl _ _) (.cons (ALe.refl _ _) (.cons (ALe.refl _ _) (.cons (ALe.refl _ _) (.cons (ALe.refl _ _) hf))))
theorem ALeL.k5 {h : Heap} {x0 x1 x2 x3 x4 : AV} {xs ys : List AV} (hf : ALeL h xs ys) : ALeL h (x0 :: x1 :: x2 :: x3 :: x4 :: xs) (x0 :: x1 :: x2 :: x3 :: x4 :: ys) := .cons (ALe.refl _ _) (.cons (ALe.refl _ _) (.cons (ALe.refl _ _) (.cons (ALe.refl _ _) (.cons (ALe.refl _ _) hf))))
theorem FT.k7 {h : Heap} {n : Nat} {f g : KV} {d0 d1 d2 d3 d4 d5 d6 : Nat} (hf : FT h n f g) : FT h n f (kp (kp (kp (kp (kp (kp (kp g d6 (lk n f d6)) d5 (lk n f d5)) d4 (lk n f d4)) d3 (lk n f d3)) d2 (lk n f d2)) d1 (lk n f d1)) d0 (lk n f d0)) := .cons (ALe.refl _ _) (.cons (ALe.refl _ _) (.cons (ALe.refl _ _) (.cons (ALe.refl _ _) (.cons (ALe.refl _ _) (.cons (ALe.refl _ _) (.cons (ALe.refl _ _) hf))))))
theorem ALeL.k7 {h : Heap} {x0 x1 x2 x3 x4 x5 x6 : AV} {xs ys : List AV} (hf : ALeL h xs ys) : ALeL h (x0 :: x1 :: x2 :: x3 :: x4 :: x5 :: x6 :: xs) (x0 :: x1 :: x2 :: x3 :: x4 :: x5 :: x6 :: ys) := .cons (ALe.refl _ _) (.cons (ALe.refl _ _) (.cons (ALe.refl _ _) (.cons (ALe.refl _ _) (.cons (ALe.refl _ _) (.cons (ALe.refl _ _) (.cons (ALe.refl _ _) hf))))))
section
variable {P : Program} {Q : Exit → Fr → Heap → Prop} {h h' : Heap} {n : Nat}
end
section
variable {P : Program} {ops : Array Oper} {K : Fr → Heap → Prop} {KQ : Fr → Prop} {h : Heap} {n : Nat} {kvs : KV} {l : List Oper} {ty : TypeId} {pos : String} {aft : Array Edge} {d : Option Tmp} {a b c : Operand} {q : IntKind} {x y : Int} {z t u : Bool} {T U : TypeId} {xs : List (List AV)} {sz : Nat} {w : Option Key}
end
theorem LeF.s {n : Nat} {f g : KV} {h : Heap} (hf : FT h n f g) : LeF (Vm.fm n g) h (Vm.fm n f) h := LeF.fm (Sub.refl _) hf
theorem AW_rq {P : Program} {Q : Exit → Fr → Heap → Prop} {fr : Fr} {h : Heap} {id : Nat} {l : List Oper} (hm : P.follows .mixedOrders = true) (h2 : lexS 0 (l.map (summ l.toArray)) = true)
    (hl : AQuiet P l.toArray h (fun fr' => Q .normal fr' h) l fr) : AW P (.region id l.toArray true) Q fr h := AW_region_q _ hm rfl h2 hl
section
variable {P : Program} {ops : Array Oper} {K : Fr → Heap → Prop} {fs : List (Nat × Option Key × Ent)} {h : Heap} {n : Nat} {kvs : KV} {ty : TypeId} {pos : String} {aft' : Array Edge}
end
inductive Tr (α : Type) where
 | nil
 | node (k : Nat) (v : α) (l r : Tr α)
def Tr.find {α : Type} : Tr α → Nat → Option α
 | .nil, _ => none
 | .node k v l r, q => bif Nat.beq q k then some v else bif Nat.blt q k then l.find q else r.find q
def Tr.all {α : Type} (p : Nat → α → Bool) : Tr α → Bool
 | .nil => true
 | .node k v l r => p k v && l.all p && r.all p
theorem Tr.find_all {α : Type} {p : Nat → α → Bool} {q : Nat} {i : α} : ∀ {t : Tr α}, t.all p = true → t.find q = some i → p q i = true
 | .nil, _, h => by cases h
 | .node k v l r, ha, h => by
  simp only [Tr.all, Bool.and_eq_true] at ha
  simp only [Tr.find] at h
  cases e : Nat.beq q k
  ·rw [e] at h
   cases e2 : Nat.blt q k
   ·rw [e2] at h; exact find_all ha.2 h
   ·rw [e2] at h; exact find_all ha.1.2 h
  ·rw [e] at h
   cases h
   have := Nat.eq_of_beq_eq_true e
   subst this
   exact ha.1.1
structure TI where
 ld : Option (Bool × Nat)
 ti : Option IntKind
 fs : List Nat
def tiOk (P : Program) (q : Nat) (i : TI) : Bool :=
 (match i.ld with | none => true | some x => ldT P q == some x) && (match i.ti with | none => true | some k => decide (tInt P q = some k)) &&
 (List.range i.fs.length).all fun f => match i.fs[f]?, fdS P q f with | some o, some (o', s) => o == o' && s != 0 | _, _ => false
def TOk (P : Program) (T : Tr TI) : Prop := T.all (tiOk P) = true
theorem TOk.nil (P : Program) : TOk P .nil := rfl
section
variable {P : Program} {T : Tr TI}
theorem TOk.ld (hT : TOk P T) {t : Nat} {i : TI} (hi : T.find t = some i) {x : Bool × Nat} (hx : i.ld = some x) : ldT P t = some x := by
 have := Tr.find_all hT hi
 simp only [tiOk, Bool.and_eq_true, hx] at this
 exact beq_iff_eq.1 this.1.1
theorem TOk.ti (hT : TOk P T) {t : Nat} {i : TI} (hi : T.find t = some i) {k : IntKind} (hx : i.ti = some k) : tInt P t = some k := by
 have := Tr.find_all hT hi
 simp only [tiOk, Bool.and_eq_true, hx] at this
 exact of_decide_eq_true this.1.2
theorem TOk.fs (hT : TOk P T) {t f o : Nat} {i : TI} (hi : T.find t = some i) (hx : i.fs[f]? = some o) : ∃ s, fdS P t f = some (o, s) ∧ s ≠ 0 := by
 have := Tr.find_all hT hi
 simp only [tiOk, Bool.and_eq_true, List.all_eq_true, List.mem_range] at this
 have h1 := this.2 f (List.getElem?_eq_some_iff.1 hx).1
 rw [hx] at h1
 cases hf : fdS P t f with
 | none => rw [hf] at h1; cases h1
 | some y =>
  rw [hf] at h1
  simp only [Bool.and_eq_true, beq_iff_eq, bne_iff_ne, ne_eq] at h1
  exact ⟨y.2, by rw [h1.1], h1.2⟩
end
def cnd (b : Bool) (X Y : Prop) : Prop := match b with | true => X | false => Y
def cni (b : Bool) (X Y : Prop) : Prop := match b with | true => X | false => Y
inductive FR where
 | nil
 | c (d : Nat) (x : AV) (r : FR)
def FR.k : FR → KV
 | .nil => k0
 | .c d x r => kp r.k d x
def FR.put (f : FR) (d : Option Tmp) (x : AV) : FR := match d with | some d => .c d x f | none => f
theorem FR.put_k (f : FR) (d : Option Tmp) (x : AV) : (f.put d x).k = putk f.k d x := by cases d <;> rfl
def FR.find (f : FR) (t : Nat) (K : AV → Prop) : Prop := match f with
 | .nil => K .any
 | .c d x r => cni (Nat.beq d t) (K x) (r.find t K)
theorem FR.find_eq (t : Nat) (K : AV → Prop) : ∀ f : FR, f.find t K = K (f.k t)
 | .nil => rfl
 | .c d x r => by
  simp only [FR.find, FR.k, kp]
  cases Nat.beq d t
  ·exact FR.find_eq t K r
  ·rfl
def lkc (n : Nat) (f : FR) (t : Nat) (K : AV → Prop) : Prop := cni (Nat.blt t n) (f.find t K) (K .any)
theorem lkc_eq (n : Nat) (f : FR) (t : Nat) (K : AV → Prop) : lkc n f t K = K (lk n f.k t) := by
 unfold lkc lk
 cases Nat.blt t n
 ·rfl
 ·exact FR.find_eq t K f
def evc (n : Nat) (f : FR) (a : Operand) (K : AV → Prop) : Prop := match a with
 | .tmp t => lkc n f t K
 | .const v => K (cv v)
 | .global _ => K .any
 | .func f => K (.fn (.func f) [])
theorem evc_eq (n : Nat) (f : FR) (a : Operand) (K : AV → Prop) : evc n f a K = K (evk n f.k a) := by
 cases a <;> first | rfl | exact lkc_eq n f _ K
def iop (op : BinOp) (k : IntKind) (a b : Int) : Option Value :=
 match op with
 | .add => some (.int k (k.wrap (a + b)))
 | .sub => some (.int k (k.wrap (a - b)))
 | .mul => some (.int k (k.wrap (a * b)))
 | .and => some (.int k (bitsV .and k a b))
 | .or => some (.int k (bitsV .or k a b))
 | .xor => some (.int k (bitsV .xor k a b))
 | .eql => some (.bool (a == b))
 | .neq => some (.bool (a != b))
 | .lss => some (.bool (decide (a < b)))
 | .leq => some (.bool (decide (a ≤ b)))
 | .gtr => some (.bool (decide (b < a)))
 | .geq => some (.bool (decide (b ≤ a)))
 | _ => none
def vint (op : BinOp) (q : IntKind) (x : Int) (r : IntKind) (y : Int) (K : AV → Prop) (E : Prop) : Prop :=
 match op with
 | .shl => cnd (decide (0 ≤ y)) (K (.sc (.int q (q.wrap (x * 2 ^ (min y.toNat q.bits)))))) False
 | .shr => cnd (decide (0 ≤ y)) (K (.sc (.int q (x.fdiv (2 ^ (min y.toNat q.bits)))))) False
 | .quo => cni (decide (q = r)) (cnd (y != 0) (K (.sc (.int q (q.wrap (x.tdiv y))))) False) E
 | .rem => cni (decide (q = r)) (cnd (y != 0) (K (.sc (.int q (x.tmod y)))) False) E
 | op => cni (decide (q = r)) (match iop op q x y with | some v => K (.sc v) | none => E) E
def vbo (op : BinOp) (K : AV → Prop) (E : Prop) : AV → AV → Prop
 | .sc (.int q x), .sc (.int r y) => vint op q x r y K E
 | _, _ => E
def vpk (X Y : Prop) : AV → Prop
 | .sc (.bool b) => cnd b X Y
 | _ => False
def vnt (K : AV → Prop) (E : Prop) : AV → Prop
 | .sc (.bool b) => K (.sc (.bool (!b)))
 | _ => E
def vng (K : AV → Prop) (E : Prop) : AV → Prop
 | .sc (.int q x) => K (.sc (.int q (q.wrap (0 - x))))
 | _ => E
def vcv (a b : Option TI) (K : AV → Prop) (E : Prop) : AV → Prop
 | .sc (.int _ x) => match a.bind TI.ti, b.bind TI.ti with
  | some _, some r => K (.sc (.int r (r.wrap x)))
  | _, _ => E
 | _ => E
def vex (i : Nat) (K : AV → Prop) : AV → Prop
 | .tup xs => match xs[i]? with | some x => K x | none => False
 | _ => False
def vfl (a : Bool) (o : Option Nat) (x : AV) (K : AV → Prop) (E : Prop) : Prop := match a, o with
 | true, _ => E
 | _, none => E
 | false, some o => match x with
  | .rp t cs => K (.rp t (cs.drop o))
  | .ptr q f => K (.ptr q (f + o))
  | _ => E
def vld (a : Bool) (o : Option (Bool × Nat)) (x : AV) (K : AV → Prop) (E : Prop) : Prop := match a, o with
 | false, some (false, _) => match x with
  | .rp _ cs => match cs.head? with | some y => K y | none => False
  | _ => E
 | _, _ => E
def vnl (a : Bool) (x : AV) (K : AV → Prop) (E : Prop) : Prop := match a with
 | true => E
 | false => match x with
  | .ptr q f => K (.ptr q f)
  | .rp t cs => K (.rp t cs)
  | _ => E
def fsO (T : Tr TI) (t f : Nat) : Option Nat := (T.find t).bind fun i => i.fs[f]?
def vv (T : Tr TI) (w : Bool) (n : Nat) (f : FR) (op : Op) (K : AV → Prop) (E : Prop) : Prop :=
 match op with
 | .move a => evc n f a K
 | .assign a => evc n f a K
 | .pick c a b => evc n f c (vpk (evc n f a K) (evc n f b K))
 | .binOp op _ a b _ => evc n f a fun x => evc n f b fun y => vbo op K E x y
 | .unOp .not _ a => evc n f a (vnt K E)
 | .unOp .neg _ a => evc n f a (vng K E)
 | .convert t u a => evc n f a (vcv (T.find t) (T.find u) K E)
 | .extract a i => evc n f a (vex i K)
 | .fieldAddr t a g => evc n f a fun x => vfl w (fsO T t g) x K E
 | .load t a => evc n f a fun x => vld w ((T.find t).bind TI.ld) x K E
 | .nilCheck a => evc n f a fun x => vnl w x K E
 | .makeFunc fn first caps => cni (Nat.beq first.size 0) (K (.fn fn (caps.toList.map (evk n f.k)))) E
 | _ => E
theorem cnd_of {b : Bool} {X Y : Prop} (h : cnd b X Y) : (b = true ∧ X) ∨ (b = false ∧ Y) := by
 cases b
 ·exact .inr ⟨rfl, h⟩
 ·exact .inl ⟨rfl, h⟩
theorem cni_of {b : Bool} {X Y : Prop} (h : cni b X Y) : (b = true ∧ X) ∨ (b = false ∧ Y) := by
 cases b
 ·exact .inr ⟨rfl, h⟩
 ·exact .inl ⟨rfl, h⟩
theorem iop_ib {op : BinOp} {k : IntKind} {a b : Int} {v : Value} (h : iop op k a b = some v) : ib op k a b = some (True, v) ∧ op ≠ .shl ∧ op ≠ .shr := by
 cases op <;> simp only [iop, Option.some.injEq, reduceCtorEq] at h <;> subst h <;> exact ⟨rfl, nofun, nofun⟩
theorem bv_iop {op : BinOp} {k : IntKind} {a b : Int} {v : Value} (h : iop op k a b = some v) : bv op (.sc (.int k a)) (.sc (.int k b)) = some (True, v) := by
 obtain ⟨h1, h2, h3⟩ := iop_ib h
 cases op <;> first | exact absurd rfl h2 | exact absurd rfl h3 | (simp only [bv, if_true]; exact h1)
section
variable {P : Program} {T : Tr TI} {h : Heap} {n : Nat} {f : FR} {K : AV → Prop} {E : Prop}
def PV (P : Program) (h : Heap) (n : Nat) (f : FR) (op : Op) (K : AV → Prop) : Prop := ∃ x, (∃ c, pv P h (fm n f.k) op = some (c, x) ∧ c) ∧ K x
theorem PV.mk {op : Op} {x : AV} (c : Prop) (hp : pv P h (fm n f.k) op = some (c, x)) (hc : c) (k : K x) : PV P h n f op K := ⟨x, ⟨c, hp, hc⟩, k⟩
theorem vint_sound {op : BinOp} {q r : IntKind} {x y : Int} (hv : vint op q x r y K E) : (∃ c v, bv op (.sc (.int q x)) (.sc (.int r y)) = some (c, v) ∧ c ∧ K (.sc v)) ∨ E := by
 unfold vint at hv
 split at hv
 ·rcases cnd_of hv with ⟨h1, h2⟩ | ⟨_, h2⟩
  ·exact .inl ⟨_, _, rfl, of_decide_eq_true h1, h2⟩
  ·exact h2.elim
 ·rcases cnd_of hv with ⟨h1, h2⟩ | ⟨_, h2⟩
  ·exact .inl ⟨_, _, rfl, of_decide_eq_true h1, h2⟩
  ·exact h2.elim
 ·rcases cni_of hv with ⟨h1, h2⟩ | ⟨_, h2⟩
  ·have := of_decide_eq_true h1; subst this
   rcases cnd_of h2 with ⟨h3, h4⟩ | ⟨_, h4⟩
   ·exact .inl ⟨y ≠ 0, _, by simp only [bv, if_true, ib], by simpa using h3, h4⟩
   ·exact h4.elim
  ·exact .inr h2
 ·rcases cni_of hv with ⟨h1, h2⟩ | ⟨_, h2⟩
  ·have := of_decide_eq_true h1; subst this
   rcases cnd_of h2 with ⟨h3, h4⟩ | ⟨_, h4⟩
   ·exact .inl ⟨y ≠ 0, _, by simp only [bv, if_true, ib], by simpa using h3, h4⟩
   ·exact h4.elim
  ·exact .inr h2
 ·rcases cni_of hv with ⟨h1, h2⟩ | ⟨_, h2⟩
  ·have := of_decide_eq_true h1; subst this
   split at h2
   ·rename_i v hv; exact .inl ⟨True, v, bv_iop hv, trivial, h2⟩
   ·exact .inr h2
  ·exact .inr h2
theorem vv_sound (hT : TOk P T) {w : Bool} {op : Op} (hv : vv T w n f op K E) : PV P h n f op K ∨ E := by
 unfold vv at hv
 split at hv
 ·rename_i a; rw [evc_eq] at hv; exact .inl (.mk True (by simp only [pv, ev_fm]) trivial hv)
 ·rename_i a; rw [evc_eq] at hv; exact .inl (.mk True (by simp only [pv, ev_fm]) trivial hv)
 ·rename_i c a b
  simp only [evc_eq] at hv
  unfold vpk at hv
  split at hv
  ·rename_i t hc
   rcases cnd_of hv with ⟨h1, h2⟩ | ⟨h1, h2⟩ <;> subst h1 <;> exact .inl (.mk True (by simp only [pv, ev_fm, hc, pkA, pk, Option.map_some, tt]) trivial h2)
  ·exact hv.elim
 ·rename_i op t a b u
  simp only [evc_eq] at hv
  unfold vbo at hv
  split at hv
  ·rename_i q x r y ha hb
   rcases vint_sound hv with ⟨c, v, h1, h2, h3⟩ | hE
   ·exact .inl (.mk c (by simp only [pv, ev_fm, ha, hb, h1, Option.map_some]) h2 h3)
   ·exact .inr hE
  ·exact .inr hv
 ·rename_i t a
  simp only [evc_eq] at hv
  unfold vnt at hv
  split at hv
  ·rename_i b ha; exact .inl (.mk True (by simp only [pv, ev_fm, ha, unA, Option.map_some, tt]) trivial hv)
  ·exact .inr hv
 ·rename_i t a
  simp only [evc_eq] at hv
  unfold vng at hv
  split at hv
  ·rename_i q x ha; exact .inl (.mk True (by simp only [pv, ev_fm, ha, unA, Option.map_some, tt]) trivial hv)
  ·exact .inr hv
 ·rename_i t u a
  simp only [evc_eq] at hv
  unfold vcv at hv
  split at hv
  ·rename_i q x ha
   split at hv
   ·rename_i k r h1 h2
    rw [Option.bind_eq_some_iff] at h1 h2
    obtain ⟨i1, a1, b1⟩ := h1
    obtain ⟨i2, a2, b2⟩ := h2
    have e1 := hT.ti a1 b1
    have e2 := hT.ti a2 b2
    exact .inl (.mk True (by simp only [pv, ev_fm, ha, e1, e2, cvA, Option.map_some, Option.bind_some, tt]) trivial hv)
   ·exact .inr hv
  ·exact .inr hv
 ·rename_i a i
  simp only [evc_eq] at hv
  unfold vex at hv
  split at hv
  ·rename_i xs ha
   split at hv
   ·rename_i x hx
    exact .inl (.mk True (by simp only [pv, ev_fm, ha, exA, hx, Option.map_some, tt]) trivial hv)
   ·exact hv.elim
  ·exact hv.elim
 ·rename_i t a g
  simp only [evc_eq] at hv
  unfold vfl fsO at hv
  split at hv
  ·exact .inr hv
  ·exact .inr hv
  ·rename_i o ho
   rw [Option.bind_eq_some_iff] at ho
   obtain ⟨i, a1, b1⟩ := ho
   obtain ⟨s, e1, e2⟩ := hT.fs a1 b1
   split at hv
   ·rename_i tg cs ha; exact .inl (.mk True (by simp only [pv, ev_fm, ha, e1, Option.bind_some, e2, if_false, fdA, Option.map_some, tt]) trivial hv)
   ·rename_i q off ha; exact .inl (.mk True (by simp only [pv, ev_fm, ha, e1, Option.bind_some, e2, if_false, fdA, Option.map_some, tt]) trivial hv)
   ·exact .inr hv
 ·rename_i t a
  simp only [evc_eq] at hv
  unfold vld at hv
  split at hv
  ·rename_i m ho
   rw [Option.bind_eq_some_iff] at ho
   obtain ⟨i, a1, b1⟩ := ho
   have e1 := hT.ld a1 b1
   split at hv
   ·rename_i tg cs ha
    split at hv
    ·rename_i y hy
     exact .inl (.mk True (by simp only [pv, ev_fm, ha, e1, Option.bind_some, ldA, ldv, hy, Option.map_some, tt]) trivial hv)
    ·exact hv.elim
   ·exact .inr hv
  ·exact .inr hv
 ·rename_i a
  simp only [evc_eq] at hv
  unfold vnl at hv
  split at hv
  ·exact .inr hv
  ·split at hv
   ·rename_i q off ha; exact .inl (.mk True (by simp only [pv, ev_fm, ha, nilA, Option.map_some, tt]) trivial hv)
   ·rename_i tg cs ha; exact .inl (.mk True (by simp only [pv, ev_fm, ha, nilA, Option.map_some, tt]) trivial hv)
   ·exact .inr hv
 ·rename_i fn first caps
  rcases cni_of hv with ⟨h1, h2⟩ | ⟨_, h2⟩
  ·have h1 := Nat.eq_of_beq_eq_true h1
   refine .inl (.mk True ?_ trivial h2)
   have e : caps.toList.map (ev (fm n f.k)) = caps.toList.map (evk n f.k) := List.map_congr_left fun o _ => ev_fm n f.k o
   simp only [pv, h1, if_true, e]
  ·exact .inr h2
 ·exact .inr hv
end
def QK (h : Heap) (n : Nat) (K : FR → HL → Prop) (fr : Fr) (hh : Heap) : Prop := ∃ f L, HOk h L ∧ LeF (fm n f.k) (hp h L) fr hh ∧ K f L
theorem LeF.rfl' {fr : Fr} {h : Heap} : LeF fr h fr h := LeF.eqh rfl
structure VN (q : Bool) (P : Program) (h : Heap) (n : Nat) (o : Oper) (K : FR → HL → Prop) (f : FR) (L : HL) : Prop where
 v : q = true → HOk h L → ∃ x, AOpV P o x (fm n f.k) (hp h L) ∧ K (f.put o.dst x) L
 e : q = false → HOk h L → AOp P o (fun x h' => QK h n K (fm n (f.put o.dst x).k) h') (fm n f.k) (hp h L)
def gd (_ : Nat) (w : Bool) (X Y : FR → Prop) (f : FR) (b : Bool) : Prop := match w with
 | true => cnd b (X f) (Y f)
 | false => cnd b (Y f) (X f)
def vgb (d : Nat) (w : Bool) (X Y : FR → Prop) (f : FR) : AV → Prop
 | .sc (.bool b) => gd d w X Y f b
 | .sc (.tuple _) => Y f
 | _ => False
def vgd (l0 : List Oper) (n : Nat) (g : Option (Nat × Bool)) (X Y : FR → Prop) (f : FR) : Prop := match g with
 | none => X f
 | some (j, w) => match (l0[j]?).bind (·.dst) with
  | some d => lkc n f d (vgb d w X Y f)
  | none => False
def vo (q : Bool) (T : Tr TI) (w : Bool) (P : Program) (h : Heap) (n : Nat) (l0 : List Oper) (K : FR → HL → Prop) : List Oper → FR → HL → Prop
  | [], f, L => K f L
  | ⟨d, op, ty, pos, aft, g⟩ :: l, f, L => vgd l0 n g
      (fun f => vv T w n f op (fun x => vo q T w P h n l0 K l (f.put d x) L) (VN q P h n ⟨d, op, ty, pos, aft, none⟩ (vo q T w P h n l0 K l) f L))
      (fun f => vo q T w P h n l0 K l (f.put d (.sc undef)) L) f
section
variable {P : Program} {T : Tr TI} {w : Bool} {h : Heap} {n : Nat} {l0 : List Oper} {K : FR → HL → Prop}
theorem vo_s (hT : TOk P T) : ∀ (l : List Oper) (f : FR) (L : HL), vo false T w P h n l0 K l f L → HOk h L → AOps P l0.toArray l (QK h n K) (fm n f.k) (hp h L)
 | [], f, L, hv, hk => AOps_nil ⟨f, L, hk, LeF.rfl', hv⟩
 | ⟨d, op, ty, pos, aft, g⟩ :: l, f, L, hv, hk => by
  have ih : ∀ (f : FR) (d : Option Tmp) (x : AV) (L : HL), vo false T w P h n l0 K l (f.put d x) L → HOk h L → AOps P l0.toArray l (QK h n K) (fm n (putk f.k d x)) (hp h L) := fun f d x L a b => by
   rw [← FR.put_k]; exact vo_s hT l _ _ a b
  have main : ∀ f, vv T w n f op (fun x => vo false T w P h n l0 K l (f.put d x) L) (VN false P h n ⟨d, op, ty, pos, aft, none⟩ (vo false T w P h n l0 K l) f L) → AOps P l0.toArray (⟨d, op, ty, pos, aft, none⟩ :: l) (QK h n K) (fm n f.k) (hp h L) := by
   intro f hv
   rcases vv_sound (h := hp h L) hT hv with ⟨x, ⟨c, hp, hc⟩, k⟩ | hE
   ·exact s_v (o_pv hp hc) (ih _ _ _ _ k hk)
   ·refine s_op ((hE.e rfl hk).mono ?_)
    intro x h' q
    rw [FR.put_k] at q
    obtain ⟨f', L', hk', le, k⟩ := q
    exact le.aops (vo_s hT l _ _ k hk')
  unfold vo vgd at hv
  split at hv
  ·exact main f hv
  ·rename_i j w'
   split at hv
   ·rename_i dj hd
    have hd' : (l0.toArray[j]?).bind (·.dst) = some dj := by simpa using hd
    rw [lkc_eq] at hv
    unfold vgb at hv
    split at hv
    ·rename_i b hu
     unfold gd at hv
     split at hv
     ·rcases cnd_of hv with ⟨h1, h2⟩ | ⟨h1, h2⟩
      ·exact sg_y hd' hu h1 (main f h2)
      ·exact Zo hd' hu h1 (ih _ _ _ _ h2 hk)
     ·rcases cnd_of hv with ⟨h1, h2⟩ | ⟨h1, h2⟩
      ·exact Zo hd' hu h1 (ih _ _ _ _ h2 hk)
      ·exact sg_y hd' hu h1 (main f h2)
    ·rename_i vs hu; exact sg_u hd' hu (ih _ _ _ _ hv hk)
    ·exact hv.elim
   ·exact hv.elim
theorem vo_q (hT : TOk P T) : ∀ (l : List Oper) (f : FR) (L : HL), vo true T w P h n l0 K l f L → HOk h L → AQuiet P l0.toArray (hp h L) (fun fr => ∃ f, fr = fm n f.k ∧ K f L) l (fm n f.k)
 | [], f, L, hv, hk => ⟨f, rfl, hv⟩
 | ⟨d, op, ty, pos, aft, g⟩ :: l, f, L, hv, hk => by
  have ih : ∀ (f : FR) (d : Option Tmp) (x : AV) (L : HL), vo true T w P h n l0 K l (f.put d x) L → HOk h L → AQuiet P l0.toArray (hp h L) (fun fr => ∃ f : FR, fr = fm n f.k ∧ K f L) l (fm n (putk f.k d x)) := fun f d x L a b => by
   rw [← FR.put_k]; exact vo_q hT l _ _ a b
  have main : ∀ f, vv T w n f op (fun x => vo true T w P h n l0 K l (f.put d x) L) (VN true P h n ⟨d, op, ty, pos, aft, none⟩ (vo true T w P h n l0 K l) f L) → AQuiet P l0.toArray (hp h L) (fun fr => ∃ f, fr = fm n f.k ∧ K f L) (⟨d, op, ty, pos, aft, none⟩ :: l) (fm n f.k) := by
   intro f hv
   rcases vv_sound (h := hp h L) hT hv with ⟨x, ⟨c, hp, hc⟩, k⟩ | hE
   ·exact q_v (o_pv hp hc) (ih _ _ _ _ k hk)
   ·obtain ⟨x, ho, k⟩ := hE.v rfl hk
    exact q_v ho (ih _ _ _ _ k hk)
  unfold vo vgd at hv
  split at hv
  ·exact main f hv
  ·rename_i j w'
   split at hv
   ·rename_i dj hd
    have hd' : (l0.toArray[j]?).bind (·.dst) = some dj := by simpa using hd
    rw [lkc_eq] at hv
    unfold vgb at hv
    split at hv
    ·rename_i b hu
     unfold gd at hv
     split at hv
     ·rcases cnd_of hv with ⟨h1, h2⟩ | ⟨h1, h2⟩
      ·exact Zk hd' hu h1 (main f h2)
      ·exact Ze hd' hu h1 (ih _ _ _ _ h2 hk)
     ·rcases cnd_of hv with ⟨h1, h2⟩ | ⟨h1, h2⟩
      ·exact Ze hd' hu h1 (ih _ _ _ _ h2 hk)
      ·exact Zk hd' hu h1 (main f h2)
    ·rename_i vs hu; exact qg_u hd' hu (ih _ _ _ _ hv hk)
    ·exact hv.elim
   ·exact hv.elim
end
def QQ (h : Heap) (n : Nat) (kn : FR → HL → Prop) (ke : Exit → FR → HL → Prop) (e : Exit) : Fr → Heap → Prop := QK h n (match e with | .normal => kn | e => ke e)
structure VC (P : Program) (h : Heap) (n : Nat) (c : Code) (kn : FR → HL → Prop) (ke : Exit → FR → HL → Prop) (f : FR) (L : HL) : Prop where
 r : HOk h L → AW P c (QQ h n kn ke) (fm n f.k) (hp h L)
structure VD (P : Program) (h : Heap) (n : Nat) (id : Nat) (ops : Array Oper) (kn : FR → HL → Prop) (f : FR) (L : HL) : Prop where
 r : HOk h L → AW P (.region id ops true) (fun e fr hh => e = .normal ∧ QK h n kn fr hh) (fm n f.k) (hp h L)
def vbx (id : Nat) (kn : FR → HL → Prop) (ke : Exit → FR → HL → Prop) : Exit → FR → HL → Prop
 | .exit i => bif Nat.beq i id then kn else ke (.exit i)
 | e => ke e
def vc (T : Tr TI) (w : Bool) (P : Program) (h : Heap) (n : Nat) : Code → (FR → HL → Prop) → (Exit → FR → HL → Prop) → FR → HL → Prop
 | .skip, kn, _, f, L => kn f L
 | .region id ops z, kn, _, f, L => match z with
  | false => vo false T w P h n ops.toList kn ops.toList f L
  | true => VD P h n id ops kn f L
 | .seq a b, kn, ke, f, L => vc T w P h n a (VC P h n b kn ke) ke f L
 | .cond c a b, kn, ke, f, L => evc n f c (vpk (VC P h n a kn ke f L) (VC P h n b kn ke f L))
 | .block id c, kn, ke, f, L => VC P h n c kn (vbx id kn ke) f L
 | .exit id, _, ke, f, L => ke (.exit id) f L
 | .label _, kn, _, f, L => kn f L
 | .ret, _, ke, f, L => ke .ret f L
 | .goto l, _, ke, f, L => ke (.goto l) f L
 | c, kn, ke, f, L => VC P h n c kn ke f L
section
variable {P : Program} {T : Tr TI} {w : Bool} {h : Heap} {n : Nat}
theorem QK.aw {c : Code} {Q : Exit → Fr → Heap → Prop} {K : FR → HL → Prop} {fr : Fr} {hh : Heap} (hq : QK h n K fr hh) (hc : ∀ f L, HOk h L → K f L → AW P c Q (fm n f.k) (hp h L)) : AW P c Q fr hh :=
 let ⟨f, L, hk, le, k⟩ := hq; le.aw (hc f L hk k)
theorem QK.of {K : FR → HL → Prop} {f : FR} {L : HL} (hk : HOk h L) (k : K f L) : QK h n K (fm n f.k) (hp h L) := ⟨f, L, hk, LeF.rfl', k⟩
theorem vcS (hT : TOk P T) : ∀ (c : Code) {kn : FR → HL → Prop} {ke : Exit → FR → HL → Prop} {f : FR} {L : HL}, vc T w P h n c kn ke f L → VC P h n c kn ke f L
  | .skip, _, _, _, _, hv => ⟨fun hk => Zl (QK.of hk hv)⟩
  | .region id ops false, kn, ke, f, L, hv => ⟨fun hk => by
      have h1 := vo_s hT ops.toList f L hv hk
      exact AW_region (l := ops.toList) h1⟩
  | .region id ops true, kn, ke, f, L, hv => ⟨fun hk => (VD.r hv hk).mono fun e fr hh q => by obtain ⟨rfl, q⟩ := q; exact q⟩
  | .seq a b, kn, ke, f, L, hv => ⟨fun hk => AW_seq (((vcS hT a hv).r hk).mono fun e fr hh q => by
      cases e with
      | normal => exact QK.aw q fun f L hk k => k.r hk
      | exit i => exact q
      | goto l => exact q
      | ret => exact q
      | panic c => exact q
      | outgrown => exact q)⟩
  | .cond c a b, kn, ke, f, L, hv => ⟨fun hk => by
      unfold vc at hv
      rw [evc_eq] at hv
      unfold vpk at hv
      split at hv
      · rename_i t hc
        rcases cnd_of hv with ⟨h1, h2⟩ | ⟨h1, h2⟩
        · exact AW_if' hc (fun _ => h2.r hk) (fun e => by rw [e] at h1; cases h1)
        · exact AW_if' hc (fun e => by rw [e] at h1; cases h1) (fun _ => h2.r hk)
      · exact hv.elim⟩
  | .block id c, kn, ke, f, L, hv => ⟨fun hk => AW_block ((VC.r hv hk).mono fun e fr hh q => by
      cases e with
      | normal => exact q
      | exit i =>
        simp only [QQ, vbx] at q
        by_cases hi : i = id
        · subst hi
          have : Nat.beq i i = true := Nat.beq_refl i
          rw [this] at q
          simp only [Blk, if_true]
          exact q
        · have : Nat.beq i id = false := by
            cases e : Nat.beq i id with
            | false => rfl
            | true => exact absurd (Nat.eq_of_beq_eq_true e) hi
          rw [this] at q
          simp only [Blk, hi, if_false]
          exact q
      | goto l => exact q
      | ret => exact q
      | panic c => exact q
      | outgrown => exact q)⟩
  | .exit id, _, _, _, _, hv => ⟨fun hk => AW_exit (QK.of hk hv)⟩
  | .label l, _, _, _, _, hv => ⟨fun hk => AW_label (QK.of hk hv)⟩
  | .ret, _, _, _, _, hv => ⟨fun hk => AW_ret (QK.of hk hv)⟩
  | .goto l, _, _, _, _, hv => ⟨fun hk => AW_goto (QK.of hk hv)⟩
  | .loop c, _, _, _, _, hv => hv
  | .rangeFunc a b c d, _, _, _, _, hv => hv
  | .scope c, _, _, _, _, hv => hv
  | .refuse s, _, _, _, _, hv => hv
theorem vs {a b : Code} {kn : FR → HL → Prop} {ke : Exit → FR → HL → Prop} {f : FR} {L : HL} (hv : VC P h n a (VC P h n b kn ke) ke f L) : VC P h n (.seq a b) kn ke f L :=
  ⟨fun hk => AW_seq ((hv.r hk).mono fun e fr hh q => by
      cases e with
      | normal => exact QK.aw q fun f L hk k => k.r hk
      | exit i => exact q
      | goto l => exact q
      | ret => exact q
      | panic c => exact q
      | outgrown => exact q)⟩
theorem vle {c : Code} {kn : FR → HL → Prop} {ke : Exit → FR → HL → Prop} {f g : FR} {L L' : HL} (le : HOk h L → HOk h L' ∧ LeF (fm n g.k) (hp h L') (fm n f.k) (hp h L)) (k : VC P h n c kn ke g L') : VC P h n c kn ke f L :=
 ⟨fun hk => let ⟨h1, h2⟩ := le hk; h2.aw (k.r h1)⟩
theorem AQuiet.mono {ops : Array Oper} {h : Heap} {K K' : Fr → Prop} (hk : ∀ fr, K fr → K' fr) : ∀ {l : List Oper} {fr : Fr}, AQuiet P ops h K l fr → AQuiet P ops h K' l fr
 | [], _, q => hk _ q
 | _ :: _, _, q => let ⟨x, hy, k⟩ := q; ⟨x, hy, AQuiet.mono hk k⟩
theorem vqT (hT : TOk P T) {id : Nat} {l : List Oper} {kn : FR → HL → Prop} {f : FR} {L : HL} (hm : P.follows .mixedOrders = true) (h2 : lexS 0 (l.map (summ l.toArray)) = true)
    (k : vo true T w P h n l kn l f L) : VD P h n id l.toArray kn f L :=
  ⟨fun hk => (AW_rq (Q := fun e fr hh => e = .normal ∧ QK h n kn fr hh) hm h2 ((vo_q hT l f L k hk).mono fun fr q => by
    obtain ⟨f', rfl, q⟩ := q; exact ⟨rfl, QK.of hk q⟩))⟩
end
section
variable {P : Program} {h : Heap} {n : Nat}
def LX (h : Heap) (n : Nat) (f : FR) (L : HL) (g : FR) (L' : HL) : Prop := HOk h L → HOk h L' ∧ LeF (fm n g.k) (hp h L') (fm n f.k) (hp h L)
theorem lx {f g : FR} {L : HL} (hf : FT (hp h L) n f.k g.k) : LX h n f L g L := fun hk => ⟨hk, LeF.s hf⟩
structure GN {τ σ ρ : Type} (h : Heap) (n : Nat) (J : τ → σ → Prop) (sl : τ → σ → FR) (Lg : τ → σ → HL) (w : σ → Lp σ ρ) (x : Lp σ ρ) (f : FR) (L : HL) : Prop where
 g : ∃ s g, x = w s ∧ J g s ∧ LX h n f L (sl g s) (Lg g s)
inductive GE {τ σ ρ : Type} (h : Heap) (n : Nat) (J : τ → σ → Prop) (sl : τ → σ → FR) (Lg : τ → σ → HL) (id : Option Nat) (ke : Exit → FR → HL → Prop) (o : ρ) (x : Lp σ ρ) (e : Exit) (f : FR) (L : HL) : Prop
 | b (i : Nat) (hi : id = some i) (he : e = .exit i) (q : GN h n J sl Lg .brk x f L)
 | r (y : ρ) (hx : x = .ret y) (h1 : e ≠ .normal) (h2 : ∀ i, id = some i → e ≠ .exit i) (k : y = o → ke e f L)
theorem vgo {τ σ ρ : Type} {J : τ → σ → Prop} {sl : τ → σ → FR} {Lg : τ → σ → HL} {w : σ → Lp σ ρ} {x : Lp σ ρ} {f : FR} {L : HL} {s : σ} (hm : some (w s) = some x) (g : τ) (j : J g s) (le : LX h n f L (sl g s) (Lg g s)) : GN h n J sl Lg w x f L :=
 ⟨s, g, (Option.some.inj hm).symm, j, le⟩
theorem vbk {τ σ ρ : Type} {J : τ → σ → Prop} {sl : τ → σ → FR} {Lg : τ → σ → HL} {i : Nat} {ke : Exit → FR → HL → Prop} {o : ρ} {x : Lp σ ρ} {f : FR} {L : HL} {s : σ} (hm : some (.brk s) = some x) (g : τ) (j : J g s) (le : LX h n f L (sl g s) (Lg g s)) : GE h n J sl Lg (some i) ke o x (.exit i) f L :=
 .b i rfl rfl (vgo hm g j le)
theorem vrt {τ σ ρ : Type} {J : τ → σ → Prop} {sl : τ → σ → FR} {Lg : τ → σ → HL} {id : Option Nat} {ke : Exit → FR → HL → Prop} {o y : ρ} {x : Lp σ ρ} {f : FR} {L : HL} (hm : some (.ret y) = some x) (k : some y = some o → ke .ret f L) : GE h n J sl Lg id ke o x .ret f L :=
 .r y (Option.some.inj hm).symm nofun (fun _ _ => nofun) fun e => k (by rw [e])
theorem LX.le {f g : FR} {L L' : HL} {fr : Fr} {hh : Heap} (le : LX h n f L g L') (hk : HOk h L) (l0 : LeF (fm n f.k) (hp h L) fr hh) : HOk h L' ∧ LeF (fm n g.k) (hp h L') fr hh :=
 let ⟨h1, h2⟩ := le hk; ⟨h1, l0.trans h2⟩
theorem vlp {τ σ ρ : Type} {id : Nat} {c : Code} {kn : FR → HL → Prop} {ke : Exit → FR → HL → Prop} {f : FR} {L : HL} {step : σ → Option (Lp σ ρ)} {fuel : Nat} {s0 : σ} {k : σ → Option ρ} {o : ρ} (hm : after (loopM step fuel s0) k = some o)
    (Lg : τ → σ → HL) (J : τ → σ → Prop) (sl : τ → σ → FR) (g0 : τ) (i0 : J g0 s0) (h0 : LX h n f L (sl g0 s0) (Lg g0 s0))
    (round : ∀ g s x, J g s → step s = some x → VC P h n c (GN h n J sl Lg .go x) (GE h n J sl Lg (some id) ke o x) (sl g s) (Lg g s))
    (next : ∀ g s, J g s → k s = some o → kn (sl g s) (Lg g s)) : VC P h n (.block id (.loop c)) kn ke f L := by
  refine ⟨fun hkL => AW_block ?_⟩
  obtain ⟨out, hout, hk⟩ : ∃ out, loopM step fuel s0 = some out ∧ ((∃ s, out = .brk s ∧ k s = some o) ∨ ∃ r, out = .ret r ∧ r = o) := by
    cases e : loopM step fuel s0 with
    | none => rw [e] at hm; cases hm
    | some out =>
      rw [e] at hm
      cases out with
      | go s => cases hm
      | brk s => exact ⟨_, rfl, .inl ⟨s, rfl, hm⟩⟩
      | ret r => exact ⟨_, rfl, .inr ⟨r, rfl, Option.some.inj hm⟩⟩
  obtain ⟨hk1, le1⟩ := h0 hkL
  refine AW_loop (fun m fr' h' => ∃ s, loopM step m s = some out ∧ ∃ g, J g s ∧ HOk h (Lg g s) ∧ LeF (fm n (sl g s).k) (hp h (Lg g s)) fr' h') fuel ⟨s0, hout, g0, i0, hk1, le1⟩ ?_
  rintro m fr' h' ⟨s, hs, g, hj, hk2, hle⟩
  cases m with
  | zero => cases hs
  | succ m =>
    simp only [loopM] at hs
    cases e : step s with
    | none => rw [e] at hs; cases hs
    | some x =>
      rw [e] at hs
      refine hle.aw (((round g s x hj e).r hk2).mono ?_)
      rintro ex fr'' h'' ⟨f1, L1, hk3, le3, q⟩
      cases ex with
      | normal =>
        obtain ⟨s', g', rfl, j', le4⟩ := q.g
        obtain ⟨hk5, le5⟩ := le4.le hk3 le3
        exact ⟨m, Nat.lt_succ_self m, s', hs, g', j', hk5, le5⟩
      | exit i =>
        cases q with
        | b i' hi he q =>
          cases hi; cases he
          obtain ⟨s', g', rfl, j', le4⟩ := q.g
          obtain ⟨hk5, le5⟩ := le4.le hk3 le3
          cases hs
          simp only [Seq, Blk, if_true]
          rcases hk with ⟨s2, e2, hk⟩ | ⟨r, e2, _⟩
          · cases e2; exact ⟨_, _, hk5, le5, next _ _ j' hk⟩
          · cases e2
        | r y hx h1 h2 k2 =>
          subst hx
          have : i ≠ id := fun e => h2 id rfl (by rw [e])
          cases hs
          simp only [Seq, Blk, this, if_false]
          rcases hk with ⟨s2, e2, _⟩ | ⟨r', e2, e3⟩
          · cases e2
          · cases e2; exact ⟨_, _, hk3, le3, k2 e3⟩
      | goto l =>
        cases q with
        | b i' hi he q => cases he
        | r y hx h1 h2 k2 =>
          subst hx; cases hs
          rcases hk with ⟨s2, e2, _⟩ | ⟨r', e2, e3⟩
          · cases e2
          · cases e2; exact ⟨_, _, hk3, le3, k2 e3⟩
      | ret =>
        cases q with
        | b i' hi he q => cases he
        | r y hx h1 h2 k2 =>
          subst hx; cases hs
          rcases hk with ⟨s2, e2, _⟩ | ⟨r', e2, e3⟩
          · cases e2
          · cases e2; exact ⟨_, _, hk3, le3, k2 e3⟩
      | panic c =>
        cases q with
        | b i' hi he q => cases he
        | r y hx h1 h2 k2 =>
          subst hx; cases hs
          rcases hk with ⟨s2, e2, _⟩ | ⟨r', e2, e3⟩
          · cases e2
          · cases e2; exact ⟨_, _, hk3, le3, k2 e3⟩
      | outgrown =>
        cases q with
        | b i' hi he q => cases he
        | r y hx h1 h2 k2 =>
          subst hx; cases hs
          rcases hk with ⟨s2, e2, _⟩ | ⟨r', e2, e3⟩
          · cases e2
          · cases e2; exact ⟨_, _, hk3, le3, k2 e3⟩
theorem vjn {τ σ ρ : Type} {c : Code} {kn : FR → HL → Prop} {ke : Exit → FR → HL → Prop} {f : FR} {L : HL} {m : Option (Lp σ ρ)} {k : σ → Option ρ} {o : ρ} (hm : after m k = some o)
    (Lg : τ → σ → HL) (J : τ → σ → Prop) (sl : τ → σ → FR)
    (hc : ∀ x, m = some x → VC P h n c (GN h n J sl Lg .brk x) (GE h n J sl Lg none ke o x) f L)
    (next : ∀ g s, J g s → k s = some o → kn (sl g s) (Lg g s)) : VC P h n c kn ke f L := by
  refine ⟨fun hkL => ?_⟩
  cases e : m with
  | none => rw [e] at hm; cases hm
  | some x =>
    rw [e] at hm
    refine ((hc x e).r hkL).mono ?_
    have fin : ∀ {ex : Exit} {f1 : FR} {L1 : HL}, GE h n J sl Lg none ke o x ex f1 L1 → ex ≠ .normal ∧ ke ex f1 L1 := by
      intro ex f1 L1 q
      cases q with
      | b i hi he q => cases hi
      | r y hx h1 h2 k2 => subst hx; exact ⟨h1, k2 (Option.some.inj hm)⟩
    rintro ex fr'' h'' ⟨f1, L1, hk3, le3, q⟩
    cases ex with
    | normal =>
      obtain ⟨s', g', rfl, j', le4⟩ := q.g
      obtain ⟨hk5, le5⟩ := le4.le hk3 le3
      exact ⟨_, _, hk5, le5, next _ _ j' hm⟩
    | exit i => exact ⟨_, _, hk3, le3, (fin q).2⟩
    | goto l => exact ⟨_, _, hk3, le3, (fin q).2⟩
    | ret => exact ⟨_, _, hk3, le3, (fin q).2⟩
    | panic c => exact ⟨_, _, hk3, le3, (fin q).2⟩
    | outgrown => exact ⟨_, _, hk3, le3, (fin q).2⟩
theorem vlpH {τ σ ρ : Type} {id : Nat} {c : Code} {kn : FR → HL → Prop} {ke : Exit → FR → HL → Prop} {f : FR} {L : HL} {step : σ → Option (Lp σ ρ)} {fuel : Nat} {s0 : σ} {k : σ → Option ρ} {o : ρ} (hm : after (loopM step fuel s0) k = some o)
    (Lg : τ → σ → HL) (sl : τ → σ → FR) (g0 : τ) (h0 : LX h n f L (sl g0 s0) (Lg g0 s0))
    (round : ∀ g s x, step s = some x → VC P h n c (GN h n (fun _ _ => True) sl Lg .go x) (GE h n (fun _ _ => True) sl Lg (some id) ke o x) (sl g s) (Lg g s))
    (next : ∀ g s, k s = some o → kn (sl g s) (Lg g s)) : VC P h n (.block id (.loop c)) kn ke f L :=
  vlp hm Lg (fun _ _ => True) sl g0 trivial h0 (fun g s x _ => round g s x) (fun g s _ => next g s)
theorem vjnH {τ σ ρ : Type} {c : Code} {kn : FR → HL → Prop} {ke : Exit → FR → HL → Prop} {f : FR} {L : HL} {m : Option (Lp σ ρ)} {k : σ → Option ρ} {o : ρ} (hm : after m k = some o)
    (Lg : τ → σ → HL) (sl : τ → σ → FR)
    (hc : ∀ x, m = some x → VC P h n c (GN h n (fun _ _ => True) sl Lg .brk x) (GE h n (fun _ _ => True) sl Lg none ke o x) f L)
    (next : ∀ g s, k s = some o → kn (sl g s) (Lg g s)) : VC P h n c kn ke f L :=
  vjn hm Lg (fun _ _ => True) sl hc (fun g s _ => next g s)
theorem lno {f : FR} {L : HL} (e : Ent) (t : Nat) (v : AV) (hv : ALe (hp h L) (lk n f.k t) v) (hk : HOk h L) : HOk h ((none, e) :: L) ∧ LeF (fm n (FR.c t v f).k) (hp h ((none, e) :: L)) (fm n f.k) (hp h L) := ⟨HOk.none hk, LeF.put (Sub.refl _) hv⟩
def argf : Nat → List AV → FR
 | _, [] => .nil
 | i, x :: xs => .c i x (argf (i + 1) xs)
theorem argf_k : ∀ (i : Nat) (xs : List AV), (argf i xs).k = argk i xs
 | _, [] => rfl
 | i, x :: xs => by simp only [argf, argk, FR.k, argf_k (i + 1) xs]
structure RV (P : Program) (rs : List ResultVar) (Q : AV → Heap → Prop) (h : Heap) (n : Nat) (e : Exit) (f : FR) (L : HL) : Prop where
 r : HOk h L → LqE (Ret P rs Q) e (fm n f.k) (hp h L)
theorem ACp {f : FuncId} {fn : Func} {c : Code} {args : List AV} {Q : AV → Heap → Prop} {L : HL} (hk : HOk h L) (n : Nat) (rs : List ResultVar) (hf : P.funcs[f]? = some fn) (hb : fn.body = some c) (hn : fn.ntmps = n) (hr : fn.results.toList = rs) (hle : Nat.ble args.length n = true)
    (hc : VC P h n c (RV P rs Q h n .normal) (RV P rs Q h n) (argf 0 args) L) : ACalls P f args (hp h L) Q := by
  have hc := hc.r hk
  rw [argf_k] at hc
  refine ACalls_fm n rs hf hb hn hr hle (AW_lq (hc.mono ?_))
  rintro e fr hh ⟨f', L', hk, le, q⟩
  have fin : RV P rs Q h n e f' L' → LqE (Ret P rs Q) e fr hh := fun q => let ⟨fr2, h2, le2, q2⟩ := q.r hk; ⟨fr2, h2, le.trans le2, q2⟩
  cases e with
  | normal => exact fin q
  | exit i => exact fin q
  | goto l => exact fin q
  | ret => exact fin q
  | panic c => exact fin q
  | outgrown => exact fin q
theorem ACv {f : FuncId} {fn : Func} {c : Code} {args : List AV} {Q : AV → Heap → Prop} (n : Nat) (rs : List ResultVar) (hf : P.funcs[f]? = some fn) (hb : fn.body = some c) (hn : fn.ntmps = n) (hr : fn.results.toList = rs) (hle : Nat.ble args.length n = true)
    (hc : VC P h n c (RV P rs Q h n .normal) (RV P rs Q h n) (argf 0 args) []) : ACalls P f args h Q := ACp (L := []) trivial n rs hf hb hn hr hle hc
theorem vr {rs : List ResultVar} {Q : AV → Heap → Prop} {e : Exit} {f : FR} {L : HL} (k : HOk h L → Ret P rs Q e (fm n f.k) (hp h L)) : RV P rs Q h n e f L := ⟨fun hk => LqE.mk LeF.rfl' (k hk)⟩
theorem hp_nil {L : HL} (hk : HOk h L) : Sub h (hp h L) := (hp_sub (List.nil_sublist _) hk).1
theorem vr1 {t : Nat} {y : AV} {f : FR} {L : HL} {e : Exit} (hx : lk n f.k t = y) (he : e = .ret ∨ e = .normal := by first | exact .inl rfl | exact .inr rfl) : RV P [.tmp t] (fun r h' => r = y ∧ h' = h) h n e f L :=
 vr fun hk => Ret.of1 he (rsT _ _ y hx) (hp_nil hk) (ALe.refl _ _) ⟨rfl, rfl⟩
theorem AG.mono {ops : Array Oper} {fs : List (Nat × Option Key × Ent)} {K K' : Fr → Heap → Prop} (hk : ∀ fr h, K fr h → K' fr h) : ∀ {m : Nat} {S : Array Bool} {fr : Fr} {h : Heap}, AG P ops fs K m S fr h → AG P ops fs K' m S fr h
  | 0, _, _, _, ⟨h1, h2⟩ => ⟨h1, hk _ _ h2⟩
  | m + 1, S, fr, h, ⟨h1, h2⟩ => ⟨fun e => hk _ _ (h1 e), fun i hi o ho => by
      rcases h2 i hi o ho with ⟨x, a, b⟩ | ⟨a, b⟩
      · exact .inl ⟨x, a, AG.mono hk b⟩
      · exact .inr ⟨a, b.mono fun x h' q => ⟨q.1, AG.mono hk q.2⟩⟩⟩
variable {q : Bool} {K : FR → HL → Prop} {f : FR} {L : HL} {dst : Option Tmp} {ty : TypeId} {pos : String} {aft : Array Edge} {ρ : Type} {r : ρ}
theorem qk {K : FR → HL → Prop} {f : FR} {L : HL} {hh : Heap} (hk : HOk h L) (e : hh = hp h L) (k : K f L) : QK h n K (fm n f.k) hh := by subst e; exact QK.of hk k
theorem vn {op : Op} {x : AV} (ho : HOk h L → AOpV P ⟨dst, op, ty, pos, aft, none⟩ x (fm n f.k) (hp h L)) (k : K (f.put dst x) L) : VN q P h n ⟨dst, op, ty, pos, aft, none⟩ K f L :=
 ⟨fun _ hk => ⟨x, ho hk, k⟩, fun _ hk => (ho hk).mono fun x' h' e => by obtain ⟨rfl, rfl⟩ := e; exact QK.of hk k⟩
theorem ve {o : Oper} (ho : HOk h L → AOp P o (fun x h' => QK h n K (fm n (f.put o.dst x).k) h') (fm n f.k) (hp h L)) : VN false P h n o K f L := ⟨nofun, fun _ => ho⟩
theorem a_v {K : AV → Heap → Prop} {o : Oper} {x : AV} {fr : Fr} {hh : Heap} (ho : AOpV P o x fr hh) (k : K x hh) : AOp P o K fr hh := ho.mono fun x' h' e => by obtain ⟨rfl, rfl⟩ := e; exact k
theorem AOp_sfz {K : AV → Heap → Prop} {o : Oper} {h1 h2 : Heap} {t : Nat} (v : AV) (hs : Sub h2 h1) (hv : ALe h2 (lk n f.k t) v) (ho : AOp P o K (fm n (kp f.k t v)) h2) : AOp P o K (fm n f.k) h1 := by
 intro E w a r hva Nx Qx hn
 obtain ⟨E', k, r'⟩ := r.drop hs
 refine ho E' w a r' (fun y hy => ?_) Nx Qx fun x u w' E'' h' k' => hn x u w' E'' h' (k.trans k')
 have h1 := VR_keep k _ _ (hva y hy)
 rw [ev_fm] at h1 ⊢
 cases y with
 | tmp s =>
  simp only [evk] at h1 ⊢
  by_cases e : t = s
  ·subst e
   have h3 := hv E' w _ r' h1
   rw [lk_eq]
   split
   ·rw [kp_same]; exact h3
   ·simp only [VR]
  ·rw [lk_eq] at h1 ⊢
   rw [kp_ne _ _ e]; exact h1
 | const v => exact h1
 | global g => exact h1
 | func g => exact h1
theorem vi {b : Bool} {X Y : Prop} {x y : Option ρ} (hm : (if b = true then x else y) = some r) (ht : b = true → x = some r → X) (hf : b = false → y = some r → Y) : cnd b X Y := by
 cases b
 ·exact hf rfl (by simpa using hm)
 ·exact ht rfl (by simpa using hm)
theorem vf {b : Bool} {X Y : Prop} (hb : b = false) (k : Y) : cnd b X Y := by subst hb; exact k
theorem vx {α : Type} {c : α → List AV} {xs : List α} {i : Int} {kk : α → Option ρ} {a b : Operand} {t : TypeId} {tag : Option Key} {sz : Nat} {m : IntKind} (hm : (ix xs i).bind kk = some r) (he : elS P t = some sz) (ha : evk n f.k a = .sl tag sz (xs.map c)) (hb : evk n f.k b = .sc (.int m i))
    (k : ∀ x, ix xs i = some x → kk x = some r → K (f.put dst (.rp tag (c x))) L) : VN q P h n ⟨dst, .indexAddr t a b, ty, pos, aft, none⟩ K f L :=
  let ⟨x, h1, h2⟩ := Zc hm; vn (fun _ => o_ix h1 he ha hb) (k x h1 h2)
theorem va {a : Operand} {t : TypeId} {tag : Option Key} {cs : List AV} {ag : Bool} {m : Nat} (x : AV) (ht : ldT P t = some (ag, m)) (ha : evk n f.k a = .rp tag cs) (hx : ldv ag m cs = some x) (k : K (f.put dst x) L) :
    VN q P h n ⟨dst, .load t a, ty, pos, aft, none⟩ K f L := vn (fun _ => o_ld x ht ha hx) k
theorem vln {α : Type} {e : α → List AV} {xs : List α} {a : Operand} {t : TypeId} {tag : Option Key} {sz : Nat} (ht : lnT P t = some true) (ha : evk n f.k a = .sl tag sz (xs.map e)) (k : K (f.put dst (.sc (.int .i64 xs.length))) L) :
    VN q P h n ⟨dst, .call { callee := .builtin .len, args := #[a], argTypes := #[t] }, ty, pos, aft, none⟩ K f L := vn (fun _ => o_lenm ht ha) k
theorem vk {α : Type} {m : Option α} {kk : α → Option ρ} {e : α → AV} {fid : FuncId} {g : Operand} {args : Array Operand} {ts : Array TypeId} {caps az : List AV} (hc : ∀ {y : α} (h : Heap), m = some y → ACalls P fid az h (fun r h' => r = e y ∧ h' = h)) (hb : bodied P fid = true) (hm : m.bind kk = some r)
    (hg : evk n f.k g = .fn (.func fid) caps) (ha : args.toList.map (evk n f.k) ++ caps = az) (k : ∀ y, kk y = some r → K (f.put dst (e y)) L) :
    VN q P h n ⟨dst, .call { callee := .value g, args := args, argTypes := ts }, ty, pos, aft, none⟩ K f L :=
  let ⟨_, h1, h2⟩ := Zc hm; vn (fun _ => o_call (hc _ h1) hg hb ha) (k _ h2)
theorem val {t : TypeId} {zs : List Value} (cs : List AV) (hz : zrT P t = some zs) (ho : zs.all (·.oneCell') = true) (hcs : zs.map AV.sc = cs) (k : ∀ q : Key, K (f.put dst (.ptr q 0)) ((some q, .obj t cs) :: L)) : VN false P h n ⟨dst, .alloc t, ty, pos, aft, none⟩ K f L :=
 ve fun hk => a_alloc cs hk hz ho hcs fun q hk' => qk hk' rfl (k q)
end
section ops
variable {P : Program} {h h0 : Heap} {L : HL} {n : Nat} {kvs : KV} {ty : TypeId} {pos : String} {aft : Array Edge}
theorem a_lit0A {K : AV → Heap → Prop} {α : Type} {c : α → List AV} {dst : Option Tmp} {t e : TypeId} {sz b : Nat} (hk : HOk h0 L) (ht : ElT P t e sz b)
    (k : HOk h0 ((none, .obj e (fl c ([] : List α) g0.sp)) :: L) → K (aw g0.t g0.n g0.cap) (hp h0 ((none, .obj e (fl c ([] : List α) g0.sp)) :: L))) :
    AOp P ⟨dst, .buildSlice t 0 #[], ty, pos, aft, none⟩ K (fm n kvs) (hp h0 L) :=
  AOp_lit0 rfl ht (k ⟨hk, nofun⟩)
end ops
end Go.Vm
namespace Go.Proofs.Ytafflcbcpbgloaa
open Go.Vm
abbrev c_u8 (x : Int) : List AV := [.sc (.int .u8 x)]
abbrev c_s_u8 (x : List Int) : List AV := [.sl none 1 (List.map c_u8 x)]
theorem u4 : Try.prog.underlying 4 = some .bool := by kernel_rfl
theorem ld5 : ldT Try.prog 5 = some (false, 1) := by kernel_rfl
theorem sz5 : tSz Try.prog 5 = some 1 := by kernel_rfl
theorem u5 : Try.prog.underlying 5 = some (.int .u8) := by kernel_rfl
theorem zr5 : zrT Try.prog 5 = some [.int .u8 0] := by kernel_rfl
theorem u9 : Try.prog.underlying 9 = some .string := by kernel_rfl
theorem ln22 : lnT Try.prog 22 = some true := by kernel_rfl
theorem el22 : elS Try.prog 22 = some 1 := by kernel_rfl
theorem et22 : ElT Try.prog 22 5 1 1 := ElT.of (by kernel_rfl) (by kernel_rfl) (by decide)
theorem u22 : Try.prog.underlying 22 = some (.slice 5) := by kernel_rfl
theorem ln24 : lnT Try.prog 24 = some true := by kernel_rfl
theorem el24 : elS Try.prog 24 = some 1 := by kernel_rfl
theorem et24 : ElT Try.prog 24 22 1 24 := ElT.of (by kernel_rfl) (by kernel_rfl) (by decide)
theorem mixed : Try.prog.follows .mixedOrders = true := by kernel_rfl
def tb : Tr TI := .node 35 ⟨some (false, 1), none, []⟩ (.node 21 ⟨some (false, 1), some .i32, []⟩ (.node 9 ⟨some (false, 1), none, []⟩ (.node 4 ⟨some (false, 1), none, []⟩ (.node 2 ⟨some (false, 1), some .i64, []⟩ (.node 1 ⟨some (false, 1), none, []⟩ .nil .nil) (.node 3 ⟨some (false, 1), some .i64, []⟩ .nil .nil)) (.node 7 ⟨some (true, 4), none, [0, 1, 2, 3]⟩ (.node 5 ⟨some (false, 1), some .u8, []⟩ .nil .nil) .nil)) (.node 16 ⟨some (false, 1), none, []⟩ (.node 13 ⟨some (true, 2), none, [0, 1]⟩ (.node 12 ⟨some (false, 1), some .u64, []⟩ .nil .nil) (.node 15 ⟨some (false, 1), none, []⟩ .nil .nil)) (.node 18 ⟨some (true, 1), none, [0]⟩ (.node 17 ⟨some (false, 1), none, []⟩ .nil .nil) .nil))) (.node 29 ⟨some (false, 1), none, []⟩ (.node 25 ⟨some (false, 1), some .i64, []⟩ (.node 23 ⟨some (false, 1), none, []⟩ (.node 22 ⟨some (false, 1), none, []⟩ .nil .nil) (.node 24 ⟨some (false, 1), none, []⟩ .nil .nil)) (.node 28 ⟨some (false, 1), none, []⟩ (.node 27 ⟨some (false, 1), none, []⟩ .nil .nil) .nil)) (.node 32 ⟨some (false, 1), none, []⟩ (.node 31 ⟨some (false, 1), none, []⟩ (.node 30 ⟨some (false, 1), none, []⟩ .nil .nil) .nil) (.node 34 ⟨some (false, 1), none, []⟩ (.node 33 ⟨some (false, 1), none, []⟩ .nil .nil) .nil)))) (.node 49 ⟨some (true, 32), none, []⟩ (.node 42 ⟨some (false, 1), none, []⟩ (.node 39 ⟨some (false, 1), none, []⟩ (.node 37 ⟨some (false, 1), some .u64, []⟩ (.node 36 ⟨some (false, 1), none, []⟩ .nil .nil) (.node 38 ⟨some (false, 1), none, []⟩ .nil .nil)) (.node 41 ⟨some (false, 1), none, []⟩ (.node 40 ⟨some (false, 1), none, []⟩ .nil .nil) .nil)) (.node 46 ⟨some (false, 1), none, []⟩ (.node 44 ⟨some (false, 1), some .u32, []⟩ (.node 43 ⟨some (false, 1), none, []⟩ .nil .nil) (.node 45 ⟨some (false, 1), none, []⟩ .nil .nil)) (.node 48 ⟨some (false, 1), none, []⟩ (.node 47 ⟨some (false, 1), none, []⟩ .nil .nil) .nil))) (.node 57 ⟨some (true, 0), none, []⟩ (.node 53 ⟨some (false, 1), none, []⟩ (.node 51 ⟨some (true, 37), none, [0, 1, 33, 34, 35, 36]⟩ (.node 50 ⟨some (true, 37), none, [0, 1, 33, 34, 35, 36]⟩ .nil .nil) (.node 52 ⟨some (false, 1), none, []⟩ .nil .nil)) (.node 55 ⟨some (true, 4), none, [0, 1, 2, 3]⟩ (.node 54 ⟨some (false, 1), none, []⟩ .nil .nil) .nil)) (.node 63 ⟨some (false, 1), none, []⟩ (.node 60 ⟨some (false, 1), none, []⟩ (.node 58 ⟨some (true, 0), none, []⟩ .nil .nil) .nil) (.node 67 ⟨some (true, 11), none, [0, 1, 2, 3, 4, 5, 6, 7, 8, 9, 10]⟩ (.node 64 ⟨some (false, 1), none, []⟩ .nil .nil) .nil))))
theorem tbk : TOk Try.prog tb := by unfold TOk; kernel_rfl
section
variable {h : Heap} {n : Nat} {c : Code} {kn : FR → HL → Prop} {ke : Exit → FR → HL → Prop} {f : FR} {L : HL} {id : Nat} {l : List Oper}
theorem v (k : vc tb false Try.prog h n c kn ke f L) : VC Try.prog h n c kn ke f L := vcS tbk c k
theorem v0 (k : vc tb true Try.prog h n c kn ke f L) : VC Try.prog h n c kn ke f L := vcS tbk c k
theorem vq (h2 : lexS 0 (l.map (summ l.toArray)) = true) (k : vo true tb false Try.prog h n l kn l f L) : VD Try.prog h n id l.toArray kn f L := vqT tbk mixed h2 k
end
open Go.Vm
theorem cz_u8 : ∀ y, (c_u8 y).length = 1 := fun _ => rfl
def M11 (fuel : Nat) (p0 : List Int) : Option ((List Int)) :=
 (app ([] : List Int) p0).bind fun z4 => some z4
set_option maxHeartbeats 4000000 in
set_option maxRecDepth 100000 in
theorem W11 {fuel : Nat} {p0 : List Int} {o : (List Int)} (h : Heap) (hm : M11 fuel p0 = some o) :
    ACalls Try.prog 11 [.sl none 1 (List.map c_u8 p0)] h (fun r h' => ∃ t, (t = none → o = []) ∧ HOk h [(t, .tok 5 1 (o.length * 1))] ∧ r = ow t 1 (List.map c_u8 o) ∧ h' = hp h [(t, .tok 5 1 (o.length * 1))]) := by
  refine ACv 7 [.tmp 2] Try.func11 rfl rfl rfl rfl ?_
  unfold M11 at hm
  refine v ?_
  refine v ?_
  refine v ?_
  obtain ⟨z4, hz5, hm⟩ := Zc hm
  refine ve fun hk => a_app0 (c := c_u8) hz5 et22 rfl rfl hk nofun rfl fun tg6 ot7 hk8 => qk hk8 rfl ?_
  refine v ?_
  injection hm with hm; subst hm
  exact vr fun hk => Ret.one (.inl rfl) (hp_sub (.cons_cons _ (List.nil_sublist _)) hk).1 (ALe.refl _ _) ⟨tg6, ot7, (hp_sub (.cons_cons _ (List.nil_sublist _)) hk).2, rfl, rfl⟩
theorem bd11 : bodied Try.prog 11 = true := by kernel_rfl
def M15_L0 (fuel : Nat) (p0 : List Int) (q43 : Int) (q44 : Int) : Option (Lp (Int × Int) (Int)) :=
 if (decide (q44 < (p0.length : Int))) = true then ((ix p0 q44).bind fun x50 => after (if (decide (64 ≤ (IntKind.wrap .i64 (q44 + 1)))) = true then (some (.brk true)) else if (decide (8 ≤ (IntKind.wrap .i64 (q44 + 1)))) = true then (some (.brk (((IntKind.wrap .u32 ((IntKind.wrap .u32 (q43 * 2 ^ (min (1 : Int).toNat (IntKind.bits .u32)))) + (IntKind.wrap .u32 ((IntKind.wrap .u32 ((IntKind.wrap .u32 x50) + 1)) * 2654435761)))).fdiv (2 ^ (min (28 : Int).toNat (IntKind.bits .u32)))) == 0))) else some (.brk false) : Option (Lp (Bool) (Lp (Int × Int) (Int)))) fun j57 => if j57 = true then (some (.ret (IntKind.wrap .i64 (q44 + 1)))) else some (.go (IntKind.wrap .u32 ((IntKind.wrap .u32 (q43 * 2 ^ (min (1 : Int).toNat (IntKind.bits .u32)))) + (IntKind.wrap .u32 ((IntKind.wrap .u32 ((IntKind.wrap .u32 x50) + 1)) * 2654435761))), IntKind.wrap .i64 (q44 + 1)))) else some (.brk (q43, q44))
def M15 (fuel : Nat) (p0 : List Int) : Option (Int) :=
 after (loopM (fun s => M15_L0 fuel p0 s.1 s.2) fuel (0, 0)) fun ⟨r63, r64⟩ => some (p0.length : Int)
set_option maxHeartbeats 4000000 in
set_option maxRecDepth 100000 in
theorem W15 {fuel : Nat} {p0 : List Int} {o : Int} (h : Heap) (hm : M15 fuel p0 = some o) :
    ACalls Try.prog 15 [.sl none 1 (List.map c_u8 p0)] h (fun r h' => r = .sc (.int .i64 o) ∧ h' = h) := by
  refine ACv 38 [.tmp 2] Try.func15 rfl rfl rfl rfl ?_
  unfold M15 at hm
  refine v ?_
  refine v ?_
  refine v ?_
  refine vln ln22 rfl ?_
  refine vlpH hm (σ := Int × Int) (τ := Unit) (fun g s => []) (fun g s => .c 0 (.sl none 1 (List.map c_u8 p0)) (.c 3 (.sc (.int .u32 s.1)) (.c 7 (.sl none 1 (List.map c_u8 p0)) (.c 8 (.sc (.int .i64 (p0.length : Int))) (.c 9 (.sc (.int .i64 s.2)) .nil))))) () (lx (.k5 (.nil))) ?_ ?_
  · rintro _ ⟨q43, q44⟩ x hm
    replace hm : M15_L0 fuel p0 q43 q44 = some x := hm
    unfold M15_L0 at hm
    refine v ?_
    refine v ?_
    refine vi hm (fun hc47 hm => ?_) fun hc47 hm => ?_
    · refine v ?_
      refine v ?_
      refine v ?_
      refine vx hm el22 rfl rfl fun x50 hx51 hm => ?_
      refine v ?_
      refine v ?_
      refine vs ?_
      refine vjnH hm (σ := Bool) (τ := Unit) (fun g s => []) (fun g s => .c 0 (.sl none 1 (List.map c_u8 p0)) (.c 3 (.sc (.int .u32 (IntKind.wrap .u32 ((IntKind.wrap .u32 (q43 * 2 ^ (min (1 : Int).toNat (IntKind.bits .u32)))) + (IntKind.wrap .u32 ((IntKind.wrap .u32 ((IntKind.wrap .u32 x50) + 1)) * 2654435761)))))) (.c 6 (.sc (.int .i64 (IntKind.wrap .i64 (q44 + 1)))) (.c 7 (.sl none 1 (List.map c_u8 p0)) (.c 8 (.sc (.int .i64 (p0.length : Int))) (.c 9 (.sc (.int .i64 q44)) (.c 33 (.sc (.bool s)) .nil))))))) (fun x hm => ?_) ?_
      · refine v ?_
        refine vi hm (fun hb58 hm => ?_) fun hb58 hm => ?_
        · rw [hb58]
          exact vgo hm () trivial (lx (.k7 (.nil)))
        · rw [hb58]
          refine vi hm (fun hb59 hm => ?_) fun hb59 hm => ?_
          · rw [hb59]
            exact vgo hm () trivial (lx (.k7 (.nil)))
          · rw [hb59]
            exact vgo hm () trivial (lx (.k7 (.nil)))
      · rintro _ j57 hm
        refine v ?_
        refine vi hm (fun hc61 hm => ?_) fun hc61 hm => ?_
        · refine v ?_
          refine v ?_
          refine vrt hm fun hm => ?_
          cases hm
          exact vr1 rfl
        · refine v ?_
          refine v ?_
          exact vgo hm () trivial (lx (.k5 (.nil)))
    · refine v ?_
      exact vbk hm () trivial (lx (.k5 (.nil)))
  · rintro _ ⟨r63, r64⟩ hm
    refine v ?_
    refine vln ln22 rfl ?_
    refine v ?_
    cases hm
    exact vr1 rfl
theorem bd15 : bodied Try.prog 15 = true := by kernel_rfl
def M16_L0 (fuel : Nat) (p0 : List Int) (q39 : Int) (q40 : Int) : Option (Lp (Int × Int) (Int)) :=
 if (decide (q40 < (p0.length : Int))) = true then ((ix p0 q40).bind fun x46 => after (if (decide (8 ≤ (IntKind.wrap .i64 (q40 + 1)))) = true then (if (((IntKind.wrap .u32 ((IntKind.wrap .u32 (q39 * 2)) + (IntKind.wrap .u32 ((IntKind.wrap .u32 ((IntKind.wrap .u32 x46) + 1)) * 2654435761)))).fdiv (2 ^ (min (28 : Int).toNat (IntKind.bits .u32)))) == 0) = true then (some (.brk true)) else some (.brk ((IntKind.wrap .i64 (q40 + 1)) == 64))) else some (.brk ((IntKind.wrap .i64 (q40 + 1)) == 64)) : Option (Lp (Bool) (Lp (Int × Int) (Int)))) fun j51 => if j51 = true then (some (.ret (IntKind.wrap .i64 (q40 + 1)))) else some (.go (IntKind.wrap .u32 ((IntKind.wrap .u32 (q39 * 2)) + (IntKind.wrap .u32 ((IntKind.wrap .u32 ((IntKind.wrap .u32 x46) + 1)) * 2654435761))), IntKind.wrap .i64 (q40 + 1)))) else some (.brk (q39, q40))
def M16 (fuel : Nat) (p0 : List Int) : Option (Int) :=
 after (loopM (fun s => M16_L0 fuel p0 s.1 s.2) fuel (0, 0)) fun ⟨r57, r58⟩ => some (p0.length : Int)
set_option maxHeartbeats 4000000 in
set_option maxRecDepth 100000 in
theorem W16 {fuel : Nat} {p0 : List Int} {o : Int} (h : Heap) (hm : M16 fuel p0 = some o) :
    ACalls Try.prog 16 [.sl none 1 (List.map c_u8 p0)] h (fun r h' => r = .sc (.int .i64 o) ∧ h' = h) := by
  refine ACv 38 [.tmp 2] Try.func16 rfl rfl rfl rfl ?_
  unfold M16 at hm
  refine v ?_
  refine v ?_
  refine v ?_
  refine vlpH hm (σ := Int × Int) (τ := Unit) (fun g s => []) (fun g s => .c 0 (.sl none 1 (List.map c_u8 p0)) (.c 3 (.sc (.int .u32 s.1)) (.c 4 (.sc (.int .i64 s.2)) .nil))) () (lx (.k3 (.nil))) ?_ ?_
  · rintro _ ⟨q39, q40⟩ x hm
    replace hm : M16_L0 fuel p0 q39 q40 = some x := hm
    unfold M16_L0 at hm
    refine v ?_
    refine vln ln22 rfl ?_
    refine v ?_
    refine vi hm (fun hc43 hm => ?_) fun hc43 hm => ?_
    · refine v ?_
      refine v ?_
      refine v ?_
      refine vx hm el22 rfl rfl fun x46 hx47 hm => ?_
      refine vs ?_
      refine vjnH hm (σ := Bool) (τ := Unit) (fun g s => []) (fun g s => .c 0 (.sl none 1 (List.map c_u8 p0)) (.c 3 (.sc (.int .u32 (IntKind.wrap .u32 ((IntKind.wrap .u32 (q39 * 2)) + (IntKind.wrap .u32 ((IntKind.wrap .u32 ((IntKind.wrap .u32 x46) + 1)) * 2654435761)))))) (.c 4 (.sc (.int .i64 q40)) (.c 33 (.sc (.bool s)) .nil)))) (fun x hm => ?_) ?_
      · refine v ?_
        refine vi hm (fun hb52 hm => ?_) fun hb52 hm => ?_
        · rw [hb52]
          refine vi hm (fun hb53 hm => ?_) fun hb53 hm => ?_
          · rw [hb53]
            exact vgo hm () trivial (lx (.k4 (.nil)))
          · rw [hb53]
            exact vgo hm () trivial (lx (.k4 (.nil)))
        · rw [hb52]
          exact vgo hm () trivial (lx (.k4 (.nil)))
      · rintro _ j51 hm
        refine v ?_
        refine vi hm (fun hc55 hm => ?_) fun hc55 hm => ?_
        · refine v ?_
          refine v ?_
          refine vrt hm fun hm => ?_
          cases hm
          exact vr1 rfl
        · refine v ?_
          refine v ?_
          exact vgo hm () trivial (lx (.k3 (.nil)))
    · refine v ?_
      exact vbk hm () trivial (lx (.k3 (.nil)))
  · rintro _ ⟨r57, r58⟩ hm
    refine v ?_
    refine vln ln22 rfl ?_
    refine v ?_
    cases hm
    exact vr1 rfl
theorem bd16 : bodied Try.prog 16 = true := by kernel_rfl
def M18_L0 (fuel : Nat) (p0 : List Int) (p1 : List Int) (q31 : Int) : Option (Lp (Int) (Bool)) :=
 if (decide (q31 < (p0.length : Int))) = true then ((ix p0 q31).bind fun x37 => (ix p1 q31).bind fun x39 => if (x37 != x39) = true then (some (.ret false)) else some (.go (IntKind.wrap .i64 (q31 + 1)))) else some (.brk q31)
def M18 (fuel : Nat) (p0 : List Int) (p1 : List Int) : Option (Bool) :=
 if ((p0.length : Int) != (p1.length : Int)) = true then (some false) else after (loopM (fun s => M18_L0 fuel p0 p1 s) fuel 0) fun r43 => some true
set_option maxHeartbeats 4000000 in
set_option maxRecDepth 100000 in
theorem W18 {fuel : Nat} {p0 : List Int} {p1 : List Int} {o : Bool} (h : Heap) (hm : M18 fuel p0 p1 = some o) :
    ACalls Try.prog 18 [.sl none 1 (List.map c_u8 p0), .sl none 1 (List.map c_u8 p1)] h (fun r h' => r = .sc (.bool o) ∧ h' = h) := by
  refine ACv 26 [.tmp 4] Try.func18 rfl rfl rfl rfl ?_
  unfold M18 at hm
  refine v ?_
  refine v ?_
  refine vln ln22 rfl ?_
  refine vln ln22 rfl ?_
  refine v ?_
  refine vi hm (fun hc4 hm => ?_) fun hc4 hm => ?_
  · refine v ?_
    refine v ?_
    injection hm with hm; subst hm
    exact vr1 rfl
  · refine v ?_
    refine v ?_
    refine vlpH hm (σ := Int) (τ := Unit) (fun g s => []) (fun g s => .c 0 (.sl none 1 (List.map c_u8 p0)) (.c 1 (.sl none 1 (List.map c_u8 p1)) (.c 5 (.sc (.int .i64 s)) .nil))) () (lx (.k3 (.nil))) ?_ ?_
    · rintro _ q31 x hm
      replace hm : M18_L0 fuel p0 p1 q31 = some x := hm
      unfold M18_L0 at hm
      refine v ?_
      refine vln ln22 rfl ?_
      refine v ?_
      refine vi hm (fun hc34 hm => ?_) fun hc34 hm => ?_
      · refine v ?_
        refine v ?_
        refine v ?_
        refine vq (by kernel_rfl) ?_
        refine vx hm el22 rfl rfl fun x37 hx38 hm => ?_
        refine vx hm el22 rfl rfl fun x39 hx40 hm => ?_
        refine v ?_
        refine vi hm (fun hc41 hm => ?_) fun hc41 hm => ?_
        · refine v ?_
          refine v ?_
          refine vrt hm fun hm => ?_
          injection hm with hm; subst hm
          exact vr1 rfl
        · refine v ?_
          refine v ?_
          exact vgo hm () trivial (lx (.k3 (.nil)))
      · refine v ?_
        exact vbk hm () trivial (lx (.k3 (.nil)))
    · rintro _ r43 hm
      refine v ?_
      refine v ?_
      injection hm with hm; subst hm
      exact vr1 rfl
theorem bd18 : bodied Try.prog 18 = true := by kernel_rfl
def M24 (fuel : Nat) (p0 : List Int) : Option (List Int) := app [] p0
set_option maxRecDepth 100000 in
theorem W24 {fuel : Nat} {p0 : List Int} {o : List Int} (h : Heap) (hm : M24 fuel p0 = some o) :
    ACalls Try.prog 24 [.sl none 1 (List.map c_u8 p0)] h (fun r h' => ∃ t, (t = none → o = []) ∧ HOk h [(t, .tok 5 1 (o.length * 1))] ∧ r = ow t 1 (List.map c_u8 o) ∧ h' = hp h [(t, .tok 5 1 (o.length * 1))]) := by
  refine ACalls_hp 8 [.tmp 2] Try.func24 rfl rfl rfl rfl ?_
  unfold M24 at hm
  refine Zf fun K1 H1 => ?_
  refine Za ?_
  refine s_v (o_as (.sc (.slice _ _ _)) rfl) ?_
  refine Zb ?_
  refine H1 _ _ ?_
  clear H1 K1
  refine Zf fun K1 H1 => ?_
  refine Zf fun K2 H2 => ?_
  refine Za ?_
  refine s_v (o_mv (.sl _ _ _) rfl) ?_
  refine s_op (AOp_eqnil rfl (by rw [el22]; rfl) (by rw [ev_fm]; exact rfl) (.inl ⟨_, _, _, rfl, fun b hb => ?_⟩))
  refine Zb ?_
  refine H2 _ _ ?_
  clear H2 K2
  refine AW_if' rfl (fun hc => ?_) (fun hc => ?_)
  · have h0 : p0 = [] := by
      cases p0 with
      | nil => rfl
      | cons x l => have := hb (by simp); rw [this] at hc; cases hc
    subst h0
    obtain ⟨rfl, -⟩ := app_spec hm
    refine Zf fun K1 H1 => ?_
    refine Za ?_
    refine s_v (o_as (.sc (.slice _ _ _)) rfl) ?_
    refine Zb ?_
    refine H1 _ _ ?_
    refine AW_ret ?_
    exact Ret.one (.inl rfl) (Sub.refl _) (ow_nil _ _) ⟨none, fun _ => rfl, HOk.none (HOk.nil _), rfl, rfl⟩
  · refine Zl ?_
    refine H1 _ _ ?_
    clear H1 K1
    refine Zf fun K1 H1 => ?_
    refine Za ?_
    refine s_op (a_lit0 (c := c_u8) (HOk.nil _) et22 fun hk => ?_)
    refine s_v (o_mv (.sl _ _ _) rfl) ?_
    refine s_op (a_app (c := c_u8) 0 hm et22 rfl rfl rfl (fun _ => rfl) hk rfl fun tg ot hk => ?_)
    refine s_v (o_as (ow _ _ _) rfl) ?_
    refine Zb ?_
    refine H1 _ _ ?_
    refine AW_ret ?_
    exact Ret.one (.inl rfl) (Sub.refl _) (ALe.refl _ _) ⟨tg, ot, hk, rfl, rfl⟩
theorem bd24 : bodied Try.prog 24 = true := by kernel_rfl
def M24a (fuel : Nat) (p0 : List Int) : Option (List Int) := app [] p0
set_option maxRecDepth 100000 in
theorem W24a {fuel : Nat} {p0 : List Int} {o : List Int} (h : Heap) (hm : M24a fuel p0 = some o) :
    ACalls Try.prog 24 [.sl none 1 (List.map c_u8 p0)] h (fun r h' => ∃ g : AGh, AOk g 1 o.length ∧ HOk h [(g.t, .obj 5 (fl c_u8 o g.sp))] ∧ r = aw g.t g.n g.cap ∧ h' = hp h [(g.t, .obj 5 (fl c_u8 o g.sp))]) := by
  refine ACalls_hp 8 [.tmp 2] Try.func24 rfl rfl rfl rfl ?_
  unfold M24a at hm
  refine Zf fun K1 H1 => ?_
  refine Za ?_
  refine s_v (o_as (.sc (.slice _ _ _)) rfl) ?_
  refine Zb ?_
  refine H1 _ _ ?_
  clear H1 K1
  refine Zf fun K1 H1 => ?_
  refine Zf fun K2 H2 => ?_
  refine Za ?_
  refine s_v (o_mv (.sl _ _ _) rfl) ?_
  refine s_op (AOp_eqnil rfl (by rw [el22]; rfl) (by rw [ev_fm]; exact rfl) (.inl ⟨_, _, _, rfl, fun b hb => ?_⟩))
  refine Zb ?_
  refine H2 _ _ ?_
  clear H2 K2
  refine AW_if' rfl (fun hc => ?_) (fun hc => ?_)
  · have h0 : p0 = [] := by
      cases p0 with
      | nil => rfl
      | cons x l => have := hb (by simp); rw [this] at hc; cases hc
    subst h0
    obtain ⟨rfl, -⟩ := app_spec hm
    refine Zf fun K1 H1 => ?_
    refine Za ?_
    refine s_v (o_as (.sc (.slice _ _ _)) rfl) ?_
    refine Zb ?_
    refine H1 _ _ ?_
    refine AW_ret ?_
    exact Ret.one (.inl rfl) (Sub.refl _) (ALe_nilA _) ⟨g0, AOk.g0 _, HOk.none (HOk.nil _), rfl, rfl⟩
  · refine Zl ?_
    refine H1 _ _ ?_
    clear H1 K1
    refine Zf fun K1 H1 => ?_
    refine Za ?_
    refine s_op (a_lit0A (c := c_u8) (HOk.nil _) et22 fun hk => ?_)
    refine s_v (o_mv (.sl _ _ _) rfl) ?_
    refine s_op (a_appA (c := c_u8) 0 hm et22 rfl zr5 rfl cz_u8 rfl rfl (AOk.g0 _) hk rfl fun g ok hk => ?_)
    refine s_v (o_as (aw _ _ _) rfl) ?_
    refine Zb ?_
    refine H1 _ _ ?_
    refine AW_ret ?_
    exact Ret.one (.inl rfl) (Sub.refl _) (ALe.refl _ _) ⟨g, ok, hk, rfl, rfl⟩
def M12_L0 (fuel : Nat) (q80 : List (List Int)) (q83 : List Int) : Option (Lp ((List (List Int)) × (List Int)) ((List (List Int)) × Int)) :=
 if (decide (0 < (q83.length : Int))) = true then ((M15 fuel q83).bind fun y88 => (slc q83 0 y88).bind fun x91 => (M24 fuel x91).bind fun y93 => (app q80 ([y93] : List (List Int))).bind fun z99 => (slc q83 y88 (q83).length).bind fun x104 => some (.go (z99, x104))) else some (.brk (q80, q83))
def M12 (fuel : Nat) (p0 : List Int) : Option ((List (List Int)) × Int) :=
 if (decide (32768 < (p0.length : Int))) = true then (some ([], 2)) else after (loopM (fun s => M12_L0 fuel s.1 s.2) fuel ([], p0)) fun ⟨r106, r107⟩ => some (r106, 0)
set_option maxHeartbeats 4000000 in
set_option maxRecDepth 100000 in
theorem W12 {fuel : Nat} {p0 : List Int} {o : (List (List Int)) × Int} (h : Heap) (hm : M12 fuel p0 = some o) :
    ACalls Try.prog 12 [.sl none 1 (List.map c_u8 p0)] h (fun r h' => r = .tup [.sl none 1 (List.map c_s_u8 o.1), .sc (.int .i64 o.2)] ∧ h' = h) := by
  refine ACv 25 [.tmp 2, .tmp 3] Try.func12 rfl rfl rfl rfl ?_
  unfold M12 at hm
  refine v ?_
  refine v ?_
  refine vln ln22 rfl ?_
  refine v ?_
  refine vi hm (fun hc4 hm => ?_) fun hc4 hm => ?_
  · refine v ?_
    refine v ?_
    cases hm
    exact vr fun hk => Ret.of2 (.inl rfl) (rsT _ _ (.sc (.slice _ _ _)) rfl) (rsT _ _ (.sc (.int _ _)) rfl) (Sub.refl _) (nil_lem _) (ALe.refl _ _) ⟨rfl, rfl⟩
  · refine v ?_
    refine v ?_
    refine vs ?_
    refine vle (lno (.tok 22 1 (([] : List (List Int)).length * 1)) 4 (ow none 1 (List.map c_s_u8 [])) (ow_nil _ _)) ?_
    refine vlp hm (σ := (List (List Int)) × (List Int)) (τ := Option Key) (fun g s => [(g, .tok 22 1 ((s.1 : List (List Int)).length * 1))]) (fun g s => (g = none → s.1 = [])) (fun g s => .c 0 (.sl none 1 (List.map c_u8 s.2)) (.c 4 (ow g 1 (List.map c_s_u8 s.1)) .nil)) none (fun _ => rfl) (lx (.k2 (.nil))) ?_ ?_
    · rintro tg81 ⟨q80, q83⟩ x ot82 hm
      replace hm : M12_L0 fuel q80 q83 = some x := hm
      unfold M12_L0 at hm
      refine v ?_
      refine vln ln22 rfl ?_
      refine v ?_
      refine vi hm (fun hc86 hm => ?_) fun hc86 hm => ?_
      · refine v ?_
        refine v ?_
        refine v ?_
        refine vk W15 bd15 hm rfl rfl fun y88 hm => ?_
        refine v ?_
        obtain ⟨x91, hx92, hm⟩ := Zc hm
        refine vn (fun _ => o_slc hx92 el22 rfl rfl rfl rfl) ?_
        obtain ⟨y93, hy94, hm⟩ := Zc hm
        refine ve fun hk => a_call (W24 _ hy94) rfl bd24 rfl ?_
        rintro x h' ⟨tg95, ot96, hk97, rfl, rfl⟩
        refine qk (HOk.co hk hk97) (hp_cat _ _ _) ?_
        refine ve fun hk => AOp_sfz (t := 18) (.sl none 1 (List.map c_u8 y93)) (hp_sub (List.eraseIdx_sublist _ 0) hk).1 (own_frzE _ 0 ot96 hk rfl (.refl _)) (a_v (o_lit (List.map c_s_u8 ([y93] : List (List Int))) et24 rfl rfl rfl rfl) (qk ((hp_sub (List.eraseIdx_sublist _ 0) hk).2) rfl ?_))
        obtain ⟨z99, hz100, hm⟩ := Zc hm
        refine ve fun hk => a_app (c := c_s_u8) 0 hz100 et24 rfl rfl rfl ot82 hk rfl fun tg101 ot102 hk103 => qk hk103 rfl ?_
        refine v ?_
        obtain ⟨x104, hx105, hm⟩ := Zc hm
        refine vn (fun _ => o_slc hx105 el22 rfl rfl rfl rfl) ?_
        exact vgo hm tg101 ot102 (lx (.k2 (.nil)))
      · refine v ?_
        exact vbk hm tg81 ot82 (lx (.k2 (.nil)))
    · rintro tg108 ⟨r106, r107⟩ ot109 hm
      refine v ?_
      refine v ?_
      cases hm
      exact vr fun hk => Ret.of2 (.inl rfl) (rsT _ _ (ow _ _ _) rfl) (rsT _ _ (.sc (.int _ _)) rfl) (hp_sub (List.nil_sublist _) hk).1 ((own_frz0 _ 0 ot109 hk rfl)) (ALe.refl _ _) ⟨rfl, rfl⟩
theorem bd12 : bodied Try.prog 12 = true := by kernel_rfl
def M13_L0 (fuel : Nat) (p0 : List (List Int)) (p1 : List (List Int)) (q35 : Int) : Option (Lp (Int) (Bool)) :=
 if (decide (q35 < (p0.length : Int))) = true then ((ix p0 q35).bind fun x41 => (ix p1 q35).bind fun x43 => (M18 fuel x41 x43).bind fun y45 => if (!y45) = true then (some (.ret false)) else some (.go (IntKind.wrap .i64 (q35 + 1)))) else some (.brk q35)
def M13 (fuel : Nat) (p0 : List (List Int)) (p1 : List (List Int)) : Option (Bool) :=
 if ((p0.length : Int) != (p1.length : Int)) = true then (some false) else after (loopM (fun s => M13_L0 fuel p0 p1 s) fuel 0) fun r49 => some true
set_option maxHeartbeats 4000000 in
set_option maxRecDepth 100000 in
theorem W13 {fuel : Nat} {p0 : List (List Int)} {p1 : List (List Int)} {o : Bool} (h : Heap) (hm : M13 fuel p0 p1 = some o) :
    ACalls Try.prog 13 [.sl none 1 (List.map c_s_u8 p0), .sl none 1 (List.map c_s_u8 p1)] h (fun r h' => r = .sc (.bool o) ∧ h' = h) := by
  refine ACv 27 [.tmp 4] Try.func13 rfl rfl rfl rfl ?_
  unfold M13 at hm
  refine v ?_
  refine v ?_
  refine vln ln24 rfl ?_
  refine vln ln24 rfl ?_
  refine v ?_
  refine vi hm (fun hc4 hm => ?_) fun hc4 hm => ?_
  · refine v ?_
    refine v ?_
    injection hm with hm; subst hm
    exact vr1 rfl
  · refine v ?_
    refine v ?_
    refine vlpH hm (σ := Int) (τ := Unit) (fun g s => []) (fun g s => .c 0 (.sl none 1 (List.map c_s_u8 p0)) (.c 1 (.sl none 1 (List.map c_s_u8 p1)) (.c 5 (.sc (.int .i64 s)) .nil))) () (lx (.k3 (.nil))) ?_ ?_
    · rintro _ q35 x hm
      replace hm : M13_L0 fuel p0 p1 q35 = some x := hm
      unfold M13_L0 at hm
      refine v ?_
      refine vln ln24 rfl ?_
      refine v ?_
      refine vi hm (fun hc38 hm => ?_) fun hc38 hm => ?_
      · refine v ?_
        refine v ?_
        refine v ?_
        refine vq (by kernel_rfl) ?_
        refine vx hm el24 rfl rfl fun x41 hx42 hm => ?_
        refine vx hm el24 rfl rfl fun x43 hx44 hm => ?_
        refine vk W18 bd18 hm rfl rfl fun y45 hm => ?_
        refine v ?_
        refine vi hm (fun hc47 hm => ?_) fun hc47 hm => ?_
        · refine v ?_
          refine v ?_
          refine vrt hm fun hm => ?_
          injection hm with hm; subst hm
          exact vr1 rfl
        · refine v ?_
          refine v ?_
          exact vgo hm () trivial (lx (.k3 (.nil)))
      · refine v ?_
        exact vbk hm () trivial (lx (.k3 (.nil)))
    · rintro _ r49 hm
      refine v ?_
      refine v ?_
      injection hm with hm; subst hm
      exact vr1 rfl
theorem bd13 : bodied Try.prog 13 = true := by kernel_rfl
def M14_L0 (fuel : Nat) (q76 : List (List Int)) (q79 : List Int) : Option (Lp ((List (List Int)) × (List Int)) ((List (List Int)))) :=
 if (decide (0 < (q79.length : Int))) = true then ((M16 fuel q79).bind fun y84 => (slc q79 0 y84).bind fun x87 => (M11 fuel x87).bind fun y89 => (app q76 ([y89] : List (List Int))).bind fun z95 => (slc q79 y84 (q79).length).bind fun x100 => some (.go (z95, x100))) else some (.brk (q76, q79))
def M14 (fuel : Nat) (p0 : List Int) : Option ((List (List Int))) :=
 after (loopM (fun s => M14_L0 fuel s.1 s.2) fuel ([], p0)) fun ⟨r102, r103⟩ => some r102
set_option maxHeartbeats 4000000 in
set_option maxRecDepth 100000 in
theorem W14 {fuel : Nat} {p0 : List Int} {o : (List (List Int))} (h : Heap) (hm : M14 fuel p0 = some o) :
    ACalls Try.prog 14 [.sl none 1 (List.map c_u8 p0)] h (fun r h' => r = .sl none 1 (List.map c_s_u8 o) ∧ h' = h) := by
  refine ACv 21 [.tmp 2] Try.func14 rfl rfl rfl rfl ?_
  unfold M14 at hm
  refine v ?_
  refine v ?_
  refine vs ?_
  refine vle (lno (.tok 22 1 (([] : List (List Int)).length * 1)) 3 (ow none 1 (List.map c_s_u8 [])) (ow_nil _ _)) ?_
  refine vlp hm (σ := (List (List Int)) × (List Int)) (τ := Option Key) (fun g s => [(g, .tok 22 1 ((s.1 : List (List Int)).length * 1))]) (fun g s => (g = none → s.1 = [])) (fun g s => .c 0 (.sl none 1 (List.map c_u8 s.2)) (.c 3 (ow g 1 (List.map c_s_u8 s.1)) .nil)) none (fun _ => rfl) (lx (.k2 (.nil))) ?_ ?_
  · rintro tg77 ⟨q76, q79⟩ x ot78 hm
    replace hm : M14_L0 fuel q76 q79 = some x := hm
    unfold M14_L0 at hm
    refine v ?_
    refine vln ln22 rfl ?_
    refine v ?_
    refine vi hm (fun hc82 hm => ?_) fun hc82 hm => ?_
    · refine v ?_
      refine v ?_
      refine v ?_
      refine vk W16 bd16 hm rfl rfl fun y84 hm => ?_
      refine v ?_
      obtain ⟨x87, hx88, hm⟩ := Zc hm
      refine vn (fun _ => o_slc hx88 el22 rfl rfl rfl rfl) ?_
      obtain ⟨y89, hy90, hm⟩ := Zc hm
      refine ve fun hk => a_call (W11 _ hy90) rfl bd11 rfl ?_
      rintro x h' ⟨tg91, ot92, hk93, rfl, rfl⟩
      refine qk (HOk.co hk hk93) (hp_cat _ _ _) ?_
      refine ve fun hk => AOp_sfz (t := 14) (.sl none 1 (List.map c_u8 y89)) (hp_sub (List.eraseIdx_sublist _ 0) hk).1 (own_frzE _ 0 ot92 hk rfl (.refl _)) (a_v (o_lit (List.map c_s_u8 ([y89] : List (List Int))) et24 rfl rfl rfl rfl) (qk ((hp_sub (List.eraseIdx_sublist _ 0) hk).2) rfl ?_))
      obtain ⟨z95, hz96, hm⟩ := Zc hm
      refine ve fun hk => a_app (c := c_s_u8) 0 hz96 et24 rfl rfl rfl ot78 hk rfl fun tg97 ot98 hk99 => qk hk99 rfl ?_
      refine v ?_
      obtain ⟨x100, hx101, hm⟩ := Zc hm
      refine vn (fun _ => o_slc hx101 el22 rfl rfl rfl rfl) ?_
      exact vgo hm tg97 ot98 (lx (.k2 (.nil)))
    · refine v ?_
      exact vbk hm tg77 ot78 (lx (.k2 (.nil)))
  · rintro tg104 ⟨r102, r103⟩ ot105 hm
    refine v ?_
    refine v ?_
    injection hm with hm; subst hm
    exact vr fun hk => Ret.of1 (.inl rfl) (rsT _ _ (ow _ _ _) rfl) (hp_sub (List.nil_sublist _) hk).1 ((own_frz0 _ 0 ot105 hk rfl)) ⟨rfl, rfl⟩
theorem bd14 : bodied Try.prog 14 = true := by kernel_rfl
def M19 (fuel : Nat) : Option (Bool) :=
 (M12 fuel ([97, 98, 99] : List Int)).bind fun y7 => after (if (y7.2 == 0) = true then (if ((y7.1.length : Int) == 1) = true then ((ix y7.1 0).bind fun x22 => (bstr x22).bind fun st24 => if (st24.toList == (ByteArray.mk #[97, 98, 99]).toList) = true then ((M15 fuel []).bind fun y27 => some (.brk (y27 == 0))) else some (.brk false)) else some (.brk false)) else some (.brk false) : Option (Lp (Bool) (Bool))) fun j19 => some j19
set_option maxHeartbeats 4000000 in
set_option maxRecDepth 100000 in
theorem W19 {fuel : Nat} {o : Bool} (h : Heap) (hm : M19 fuel = some o) :
    ACalls Try.prog 19 [] h (fun r h' => r = .sc (.bool o) ∧ h' = h) := by
  refine ACv 27 [.tmp 0] Try.func19 rfl rfl rfl rfl ?_
  unfold M19 at hm
  refine v ?_
  refine v ?_
  refine ve fun hk => a_litg (c := c_u8) ([97, 98, 99] : List Int) hk et22 rfl rfl rfl rfl fun tg3 ot4 hk5 => qk hk5 rfl ?_
  rcases tg3 with _ | kk3
  · exact absurd (ot4 rfl) nofun
  refine ve fun hk => a_cvown (c := c_u8) (xs := [97, 98, 99]) (tg := some kk3) 0 u22 u5 nofun rfl rfl ot4 hk ?_
  refine qk ((hp_sub (List.eraseIdx_sublist _ 0) hk).2) rfl ?_
  refine vk W12 bd12 hm rfl rfl fun y7 hm => ?_
  refine vs ?_
  refine vjnH hm (σ := Bool) (τ := Unit) (fun g s => []) (fun g s => .c 0 (.sc (.bool s)) .nil) (fun x hm => ?_) ?_
  · refine v ?_
    refine vi hm (fun hb20 hm => ?_) fun hb20 hm => ?_
    · rw [hb20]
      refine vln ln24 rfl ?_
      refine vi hm (fun hb21 hm => ?_) fun hb21 hm => ?_
      · rw [hb21]
        refine vx hm el24 rfl rfl fun x22 hx23 hm => ?_
        obtain ⟨st24, hs25, hm⟩ := Zc hm
        refine vn (fun _ => o_bstr (c := c_u8) hs25 (fun _ => rfl) u22 u5 u9 rfl) ?_
        refine vn (fun _ => o_bs rfl rfl rfl trivial) ?_
        refine vi hm (fun hb26 hm => ?_) fun hb26 hm => ?_
        · rw [hb26]
          obtain ⟨y27, hy28, hm⟩ := Zc hm
          refine vn (fun _ => o_call (ACalls_le (.cons (nil_lem _) (.nil)) (W15 _ hy28)) rfl bd15 rfl) ?_
          exact vgo hm () trivial (lx (.cons (ALe.refl _ _) (.nil)))
        · rw [hb26]
          exact vgo hm () trivial (lx (.cons (ALe.refl _ _) (.nil)))
      · rw [hb21]
        exact vgo hm () trivial (lx (.cons (ALe.refl _ _) (.nil)))
    · rw [hb20]
      exact vgo hm () trivial (lx (.cons (ALe.refl _ _) (.nil)))
  · rintro _ j19 hm
    refine v ?_
    injection hm with hm; subst hm
    exact vr1 rfl
theorem bd19 : bodied Try.prog 19 = true := by kernel_rfl
open Go.Vm
def M25_L0 (q0 : List Int) (q1 : Int) : Option (Lp (List Int × Int) (List Int)) :=
 if decide (q1 < (q0.length : Int)) = true then ((ix q0 q1).bind fun x => some (.go (q0.set q1.toNat (IntKind.wrap .u8 (x + 101)), IntKind.wrap .i64 (q1 + 1)))) else some (.brk (q0, q1))
def M25 (fuel : Nat) (p0 : List Int) : Option (List Int) := after (loopM (fun s => M25_L0 s.1 s.2) fuel (p0, 0)) fun ⟨r, _⟩ => some r
set_option maxHeartbeats 4000000 in
set_option maxRecDepth 100000 in
theorem W25 {fuel : Nat} {p0 o : List Int} (h : Heap) {g : AGh} (ok : AOk g 1 p0.length) (hk0 : HOk h [(g.t, .obj 5 (fl c_u8 p0 g.sp))]) (hm : M25 fuel p0 = some o) :
    ACalls Try.prog 25 [aw g.t g.n g.cap] (hp h [(g.t, .obj 5 (fl c_u8 p0 g.sp))]) (fun r h' => AOk g 1 o.length ∧ HOk h [(g.t, .obj 5 (fl c_u8 o g.sp))] ∧ h' = hp h [(g.t, .obj 5 (fl c_u8 o g.sp))]) := by
  refine ACp hk0 17 [] Try.func25 rfl rfl rfl rfl ?_
  unfold M25 at hm
  refine v0 ?_
  refine vlp hm (σ := List Int × Int) (τ := Unit) (fun _ s => [(g.t, .obj 5 (fl c_u8 s.1 g.sp))]) (fun _ s => AOk g 1 s.1.length) (fun _ s => .c 0 (aw g.t g.n g.cap) (.c 2 (.sc (.int .i64 s.2)) .nil)) () ok (lx (.k2 .nil)) ?_ ?_
  · rintro _ ⟨q0, q1⟩ x ok0 hm
    replace hm : M25_L0 q0 q1 = some x := hm
    unfold M25_L0 at hm
    refine v0 ?_
    refine vn (fun _ => o_lenA ln22 ok0 rfl) ?_
    refine v0 ?_
    refine vi hm (fun hc hm => ?_) fun hc hm => ?_
    · refine v0 ?_
      refine v0 ?_
      refine v0 ?_
      obtain ⟨x1, hx, hm⟩ := Zc hm
      refine vn (fun _ => o_ixA hx el22 ok0 rfl rfl) ?_
      refine vn (fun hk => o_ldA (fo := 0) (.sc (.int .u8 x1)) hx cz_u8 ok0 ld5 rfl (hp_at 0 hk rfl) (fun _ => rfl)) ?_
      refine vn (fun _ => o_ixA hx el22 ok0 rfl rfl) ?_
      refine ve fun hk => a_storeA (fo := 0) (IntKind.wrap .u8 (x1 + 101)) 0 hk hx cz_u8 ok0 rfl rfl rfl rfl (ALeL.refl _ _) sz5 rfl rfl fun hk3 => qk hk3 rfl ?_
      refine v0 ?_
      exact vgo hm () (AOk.set ok0) (lx (.k2 .nil))
    · refine v0 ?_
      exact vbk hm () ok0 (lx (.k2 .nil))
  · rintro _ ⟨r0, r1⟩ ok0 hm
    cases hm
    exact vr fun hk => Ret.zero (.inr rfl) (Sub.refl _) ⟨ok0, hk, rfl⟩
theorem bd25 : bodied Try.prog 25 = true := by kernel_rfl
open Go.Vm
abbrev RW := List Int × AGh
def cR (z : RW) : List AV := [aw z.2.t z.2.n z.2.cap]
def frR (z : RW) : Option Key × Ent := (z.2.t, .obj 5 (fl c_u8 z.1 z.2.sp))
def fR (zs : List RW) : HL := zs.map frR
def oR (zs : List RW) : Prop := ∀ z ∈ zs, AOk z.2 1 z.1.length
theorem oR.nil : oR [] := fun _ h => by cases h
theorem oR.snoc {zs : List RW} {y : List Int} {g : AGh} (h : oR zs) (ok : AOk g 1 y.length) : oR (zs ++ [(y, g)]) := fun z hz => by
 rcases List.mem_append.1 hz with hz | hz
 ·exact h z hz
 ·obtain rfl := List.mem_singleton.1 hz; exact ok
theorem each_aw {x : AV} {g : AGh} (h : x = aw g.t g.n g.cap) : cellsEach [x] = some [[aw g.t g.n g.cap]] := by
 simp only [cellsEach, cellsOf_aw h]
theorem all_aw (g : AGh) : [[aw g.t g.n g.cap]].all (fun q => q.all ocell && q.length == 1) = true := by
 simp [ocell_aw]
theorem lxp {h : Heap} {n : Nat} {f g : FR} {L L' : HL} (p : L.Perm L') (hf : FT (hp h L') n f.k g.k) : LX h n f L g L' := fun hk => by
 obtain ⟨e, k⟩ := hp_perm p hk
 rw [e]
 exact ⟨k, LeF.s hf⟩
theorem rw_snoc (zs : List RW) (z : RW) {t : Option Key × Ent} : (frR z :: t :: fR zs).Perm (t :: fR (zs ++ [z])) := by
 unfold fR
 rw [List.map_append]
 refine (List.Perm.swap _ _ _).trans (List.Perm.cons _ ?_)
 exact List.perm_append_comm (l₁ := [frR z])
set_option maxHeartbeats 4000000 in
set_option maxRecDepth 100000 in
theorem W12r {fuel : Nat} {p0 : List Int} {o : (List (List Int)) × Int} (h : Heap) (hm : M12 fuel p0 = some o) :
    ACalls Try.prog 12 [.sl none 1 (List.map c_u8 p0)] h (fun r h' => ∃ zs : List RW, zs.map Prod.fst = o.1 ∧ oR zs ∧ HOk h (fR zs) ∧ r = .tup [.sl none 1 (List.map cR zs), .sc (.int .i64 o.2)] ∧ h' = hp h (fR zs)) := by
  refine ACv 25 [.tmp 2, .tmp 3] Try.func12 rfl rfl rfl rfl ?_
  unfold M12 at hm
  refine v ?_
  refine v ?_
  refine vln ln22 rfl ?_
  refine v ?_
  refine vi hm (fun hc4 hm => ?_) fun hc4 hm => ?_
  · refine v ?_
    refine v ?_
    cases hm
    exact vr fun hk => Ret.of2 (.inl rfl) (rsT _ _ (.sc (.slice _ _ _)) rfl) (rsT _ _ (.sc (.int _ _)) rfl) (Sub.refl _) (nil_lem (c := cR) _) (ALe.refl _ _) ⟨[], rfl, oR.nil, trivial, rfl, rfl⟩
  · refine v ?_
    refine v ?_
    refine vs ?_
    refine vle (lno (.tok 22 1 (([] : List RW).length * 1)) 4 (ow none 1 (List.map cR [])) (ow_nil _ _)) ?_
    refine vlp hm (σ := (List (List Int)) × (List Int)) (τ := Option Key × List RW) (fun g s => (g.1, .tok 22 1 (g.2.length * 1)) :: fR g.2) (fun g s => (g.1 = none → g.2 = []) ∧ g.2.map Prod.fst = s.1 ∧ oR g.2) (fun g s => .c 0 (.sl none 1 (List.map c_u8 s.2)) (.c 4 (ow g.1 1 (List.map cR g.2)) .nil)) (none, []) ⟨fun _ => rfl, rfl, oR.nil⟩ (lx (.k2 (.nil))) ?_ ?_
    · rintro ⟨tg81, zs⟩ ⟨q80, q83⟩ x ⟨ot82, hz, ok⟩ hm
      replace hm : M12_L0 fuel q80 q83 = some x := hm
      replace hz : zs.map Prod.fst = q80 := hz
      replace ok : oR zs := ok
      unfold M12_L0 at hm
      refine v ?_
      refine vln ln22 rfl ?_
      refine v ?_
      refine vi hm (fun hc86 hm => ?_) fun hc86 hm => ?_
      · refine v ?_
        refine v ?_
        refine v ?_
        refine vk W15 bd15 hm rfl rfl fun y88 hm => ?_
        refine v ?_
        obtain ⟨x91, hx92, hm⟩ := Zc hm
        refine vn (fun _ => o_slc hx92 el22 rfl rfl rfl rfl) ?_
        obtain ⟨y93, hy94, hm⟩ := Zc hm
        refine ve fun hk => a_call (W24a (fuel := fuel) _ hy94) rfl bd24 rfl ?_
        rintro x h' ⟨g95, ok96, hk97, rfl, rfl⟩
        refine qk (HOk.co hk hk97) (hp_cat _ _ _) ?_
        refine vn (fun _ => o_lit [[aw g95.t g95.n g95.cap]] et24 rfl rfl (each_aw rfl) (all_aw _)) ?_
        obtain ⟨z99, hz100, hm⟩ := Zc hm
        have hza : app zs [((y93, g95) : RW)] = some (zs ++ [(y93, g95)]) := by
          have := (app_spec hz100).2
          rw [← hz, List.length_map] at this
          exact if_pos this
        refine ve fun hk => a_app (c := cR) (ys := [((y93, g95) : RW)]) 1 hza et24 rfl rfl rfl ot82 hk rfl fun tg101 ot102 hk103 => qk hk103 rfl ?_
        refine v ?_
        obtain ⟨x104, hx105, hm⟩ := Zc hm
        refine vn (fun _ => o_slc hx105 el22 rfl rfl rfl rfl) ?_
        refine vgo hm (tg101, zs ++ [(y93, g95)]) ⟨ot102, by rw [List.map_append, hz, (app_spec hz100).1]; rfl, ok.snoc ok96⟩ ?_
        exact lxp (rw_snoc zs (y93, g95)) (.k2 .nil)
      · refine v ?_
        exact vbk hm (tg81, zs) ⟨ot82, hz, ok⟩ (lx (.k2 (.nil)))
    · rintro ⟨tg108, zs⟩ ⟨r106, r107⟩ ⟨ot109, hz, ok⟩ hm
      refine v ?_
      refine v ?_
      cases hm
      exact vr fun hk => Ret.of2 (.inl rfl) (rsT _ _ (ow _ _ _) rfl) (rsT _ _ (.sc (.int _ _)) rfl) (hp_sub (List.sublist_cons_self _ _) hk).1 (own_frzE _ 0 ot109 hk rfl (.refl _)) (ALe.refl _ _) ⟨zs, hz, ok, hk.1, rfl, rfl⟩
end Go.Proofs.Ytafflcbcpbgloaa
namespace Go.Vm
abbrev OG := Option AGh
structure NGh where
 a : AGh
 gs : List OG
def gx (gs : List OG) (i : Nat) : OG := (gs[i]?).getD none
def zg {α : Type} (xs : List α) (gs : List OG) : List (α × OG) := xs.zip gs
def nl {α β : Type} (l : α → List β) (ys : List (α × OG)) : List (List β × OG) := ys.map fun y => (l y.1, y.2)
structure NOk {α β : Type} (l : α → List β) (sz szi : Nat) (g : NGh) (xs : List α) : Prop where
 a : AOk g.a sz xs.length
 len : g.gs.length = xs.length
 el : ∀ z ∈ nl l (zg xs g.gs), ∀ g', z.2 = some g' → AOk g' szi z.1.length
section
variable {α β : Type} {l : α → List β} {sz szi : Nat}
theorem zg_len {xs : List α} {gs : List OG} (h : gs.length = xs.length) : (zg xs gs).length = xs.length := by simp [zg, List.length_zip, h]
theorem NOk.z {g : NGh} {xs : List α} (ok : NOk l sz szi g xs) : AOk g.a sz (zg xs g.gs).length := by rw [zg_len ok.len]; exact ok.a
theorem zg_get {xs : List α} {gs : List OG} (h : gs.length = xs.length) {k : Nat} {x : α} (hx : xs[k]? = some x) : (zg xs gs)[k]? = some (x, gx gs k) := by
 obtain ⟨hk, rfl⟩ := List.getElem?_eq_some_iff.1 hx
 have hk' : k < gs.length := by omega
 simp [zg, gx, List.getElem?_zip_eq_some, hk, hk']
theorem zg_ix {xs : List α} {gs : List OG} (h : gs.length = xs.length) {i : Int} {x : α} (hx : ix xs i = some x) : ix (zg xs gs) i = some (x, gx gs i.toNat) := by
 obtain ⟨h1, h2, h3⟩ := ix_spec hx
 unfold ix
 rw [if_pos h1]
 exact zg_get h h3
theorem zg_set {xs : List α} {gs : List OG} (k : Nat) (x : α) (og : OG) : (zg xs gs).set k (x, og) = zg (xs.set k x) (gs.set k og) := by
 unfold zg
 induction xs generalizing gs k with
 | nil => simp
 | cons y ys ih => cases gs with
  | nil => simp
  | cons g gs => cases k with
   | zero => simp
   | succ k => simp [ih]
theorem gs_same {gs : List OG} (k : Nat) (h : k < gs.length) : gs.set k (gx gs k) = gs := by
 apply List.ext_getElem?
 intro i
 rw [List.getElem?_set]
 split
 ·rename_i e; subst e; simp [gx, h]
 ·rfl
theorem NOk.ix {g : NGh} {xs : List α} (ok : NOk l sz szi g xs) {i : Int} {x : α} (hx : ix xs i = some x) : Vm.ix (zg xs g.gs) i = some (x, gx g.gs i.toNat) := zg_ix ok.len hx
theorem NOk.set {g : NGh} {xs : List α} {i : Int} {x x' : α} (ok : NOk l sz szi g xs) (hx : Vm.ix xs i = some x) (e : l x' = l x) :
    NOk l sz szi g (xs.set i.toNat x') ∧ (zg xs g.gs).set i.toNat (x', gx g.gs i.toNat) = zg (xs.set i.toNat x') g.gs ∧ nl l (zg (xs.set i.toNat x') g.gs) = nl l (zg xs g.gs) := by
  obtain ⟨h1, h2, h3⟩ := ix_spec hx
  have hk : i.toNat < xs.length := (List.getElem?_eq_some_iff.1 h3).1
  have e1 : (zg xs g.gs).set i.toNat (x', gx g.gs i.toNat) = zg (xs.set i.toNat x') g.gs := by rw [zg_set, gs_same _ (by have := ok.len; omega)]
  have e2 : nl l (zg (xs.set i.toNat x') g.gs) = nl l (zg xs g.gs) := by
    rw [← e1]
    unfold nl
    rw [List.map_set]
    apply List.ext_getElem?
    intro j
    rw [List.getElem?_set]
    split
    · rename_i q; subst q
      have h5 := zg_get ok.len h3
      rw [List.getElem?_map, h5]
      simp [e, zg_len ok.len, hk]
    · rfl
  exact ⟨⟨by rw [List.length_set]; exact ok.a, by rw [List.length_set]; exact ok.len, by rw [e2]; exact ok.el⟩, e1, e2⟩
theorem NOk.setL {g : NGh} {xs : List α} {i : Int} {x x' : α} (ok : NOk l sz szi g xs) (hx : Vm.ix xs i = some x) (g' : AGh) (hg : AOk g' szi (l x').length) :
    NOk l sz szi ⟨g.a, g.gs.set i.toNat (some g')⟩ (xs.set i.toNat x') ∧ (zg xs g.gs).set i.toNat (x', some g') = zg (xs.set i.toNat x') (g.gs.set i.toNat (some g')) ∧
      nl l (zg (xs.set i.toNat x') (g.gs.set i.toNat (some g'))) = (nl l (zg xs g.gs)).set i.toNat (l x', some g') := by
  obtain ⟨h1, h2, h3⟩ := ix_spec hx
  have e1 : (zg xs g.gs).set i.toNat (x', some g') = zg (xs.set i.toNat x') (g.gs.set i.toNat (some g')) := zg_set _ _ _
  have e2 : nl l (zg (xs.set i.toNat x') (g.gs.set i.toNat (some g'))) = (nl l (zg xs g.gs)).set i.toNat (l x', some g') := by
    rw [← e1]; unfold nl; rw [List.map_set]
  refine ⟨⟨by rw [List.length_set]; exact ok.a, by simp [ok.len], ?_⟩, e1, e2⟩
  show ∀ z ∈ nl l (zg (xs.set i.toNat x') (g.gs.set i.toNat (some g'))), _
  rw [e2]
  intro z hz g2 hg2
  rcases List.mem_or_eq_of_mem_set hz with hz | rfl
  · exact ok.el z hz g2 hg2
  · cases hg2; exact hg
theorem NOk.nlat {g : NGh} {xs : List α} {i : Int} {x : α} (ok : NOk l sz szi g xs) (hx : Vm.ix xs i = some x) : (nl l (zg xs g.gs))[i.toNat]? = some (l x, gx g.gs i.toNat) := by
 obtain ⟨h1, h2, h3⟩ := ix_spec hx
 unfold nl
 rw [List.getElem?_map, zg_get ok.len h3]
 rfl
theorem NOk.plain {a : AGh} {xs : List α} (ok : AOk a sz xs.length) : NOk l sz szi ⟨a, List.replicate xs.length none⟩ xs := ⟨ok, by simp, fun z hz g' e => by
 unfold nl zg at hz
 obtain ⟨y, hy, rfl⟩ := List.mem_map.1 hz
 have := (List.of_mem_zip hy).2
 rw [List.mem_replicate] at this
 simp only at e
 rw [this.2] at e
 cases e⟩
variable {ty : TypeId} {ci : β → List AV} {h0 : Heap}
theorem perm_out {γ : Type} : ∀ {zs : List γ} {j : Nat} {z : γ}, zs[j]? = some z → zs.Perm (z :: zs.eraseIdx j)
 | [], _, _, h => by simp at h
 | y :: ys, 0, z, h => by
  simp only [List.getElem?_cons_zero, Option.some.injEq] at h
  subst h
  exact .refl _
 | y :: ys, j + 1, z, h => by
  have := perm_out (zs := ys) (j := j) (z := z) (by simpa using h)
  simp only [List.eraseIdx_cons_succ]
  exact (this.cons y).trans (.swap z y _)
theorem BrL.append {H : Heap} {xs ys : List AV} (h : BrL H xs ys) {us vs : List AV} (h2 : BrL H us vs) : BrL H (xs ++ us) (ys ++ vs) := by
 induction h with
 | nil => exact h2
 | cons a _ ih => exact .cons a ih
theorem BrL.flat {γ : Type} {H : Heap} {c c' : γ → List AV} : ∀ {ys : List γ}, (∀ y ∈ ys, BrL H (c y) (c' y)) → BrL H (ys.map c).flatten (ys.map c').flatten
 | [], _ => .nil
 | y :: ys, h => by
  simp only [List.map_cons, List.flatten_cons]
  exact (h y List.mem_cons_self).append (BrL.flat fun z hz => h z (List.mem_cons_of_mem _ hz))
theorem FzL.append {H H' : Heap} {xs ys : List AV} (h : FzL H H' xs ys) {us vs : List AV} (h2 : FzL H H' us vs) : FzL H H' (xs ++ us) (ys ++ vs) := by
 induction h with
 | nil => exact h2
 | cons a _ ih => exact .cons a ih
theorem FzL.flat {γ : Type} {H H' : Heap} {c c' : γ → List AV} : ∀ {ys : List γ}, (∀ y ∈ ys, FzL H H' (c y) (c' y)) → FzL H H' (ys.map c).flatten (ys.map c').flatten
 | [], _ => .nil
 | y :: ys, h => by
  simp only [List.map_cons, List.flatten_cons]
  exact (h y List.mem_cons_self).append (FzL.flat fun z hz => h z (List.mem_cons_of_mem _ hz))
end
section
variable {h0 : Heap} {L L' R : HL}
variable {β : Type} {ty : TypeId} {ci : β → List AV}
end
structure NOw {α β : Type} (l : α → List β) (sz szi : Nat) (g : NGh) (xs : List α) : Prop where
 k : NOk l sz szi g xs
 own : ∀ og ∈ g.gs, og ≠ none
section
variable {α β : Type} {l : α → List β} {sz szi : Nat} {g : NGh} {xs : List α} {i : Int} {x x' : α}
theorem NOw.gx (ok : NOw l sz szi g xs) (hx : Vm.ix xs i = some x) : ∃ gv, Vm.gx g.gs i.toNat = some gv ∧ AOk gv szi (l x).length ∧ (nl l (zg xs g.gs))[i.toNat]? = some (l x, some gv) := by
 have h1 := ok.k.nlat hx
 obtain ⟨_, _, h3⟩ := ix_spec hx
 have hk : i.toNat < xs.length := (List.getElem?_eq_some_iff.1 h3).1
 have hk' : i.toNat < g.gs.length := by have := ok.k.len; omega
 cases hg : Vm.gx g.gs i.toNat with
 | none =>
  have : g.gs[i.toNat] = none := by unfold Vm.gx at hg; rw [List.getElem?_eq_getElem hk'] at hg; exact hg
  exact absurd this (ok.own _ (List.getElem_mem hk'))
 | some gv =>
  rw [hg] at h1
  exact ⟨gv, rfl, ok.k.el _ (List.mem_of_getElem? h1) gv rfl, h1⟩
theorem NOw.set (ok : NOw l sz szi g xs) (hx : Vm.ix xs i = some x) (e : l x' = l x) : NOw l sz szi g (xs.set i.toNat x') := ⟨(ok.k.set hx e).1, ok.own⟩
theorem NOw.setL (ok : NOw l sz szi g xs) (hx : Vm.ix xs i = some x) (g' : AGh) (hg : AOk g' szi (l x').length) : NOw l sz szi ⟨g.a, g.gs.set i.toNat (some g')⟩ (xs.set i.toNat x') :=
 ⟨(ok.k.setL hx g' hg).1, fun og h => by rcases List.mem_or_eq_of_mem_set h with h | rfl; exact ok.own og h; exact nofun⟩
end
section
variable {α β : Type} {l : α → List β} {sz szi : Nat} {ty : TypeId} {ci : β → List AV} {h0 : Heap} {L L' : HL}
end
structure NPr {α β : Type} (l : α → List β) (sz szi : Nat) (g : NGh) (xs : List α) (m N : Nat) : Prop where
 k : NOk l sz szi g xs
 len : xs.length = N
 pre : ∀ j, j < m → j < xs.length → gx g.gs j ≠ none
 post : ∀ j, m ≤ j → gx g.gs j = none
section
variable {α β : Type} {l : α → List β} {sz szi : Nat} {g : NGh} {xs : List α} {q : Int} {x x' : α} {ty : TypeId} {ci : β → List AV} {h0 : Heap} {L L' : HL}
theorem gx_rep (n j : Nat) : gx (List.replicate n none) j = none := by
 unfold gx
 rw [List.getElem?_replicate]
 split <;> rfl
theorem NPr.zero {a : AGh} (ok : AOk a sz xs.length) : NPr l sz szi ⟨a, List.replicate xs.length none⟩ xs 0 xs.length := ⟨NOk.plain ok, rfl, fun j h => absurd h (Nat.not_lt_zero _), fun j _ => gx_rep _ _⟩
theorem gx_set {gs : List OG} {i j : Nat} {og : OG} : gx (gs.set i og) j = if i = j ∧ j < gs.length then og else gx gs j := by
 unfold gx
 rw [List.getElem?_set]
 by_cases e : i = j
 ·subst e
  by_cases h : i < gs.length
  ·simp [h]
  ·simp [h]
 ·simp [e]
theorem NPr.step {N : Nat} (ok : NPr l sz szi g xs q.toNat N) (hx : Vm.ix xs q = some x) (g' : AGh) (hg : AOk g' szi (l x').length) : NPr l sz szi ⟨g.a, g.gs.set q.toNat (some g')⟩ (xs.set q.toNat x') (IntKind.wrap .i64 (q + 1)).toNat N := by
 obtain ⟨h1, h2, h3⟩ := ix_spec hx
 have hm := ok.k.a.mx
 have hl := ok.k.a.le
 have hw : (IntKind.wrap .i64 (q + 1)).toNat = q.toNat + 1 := by
  rw [IntKind.wrap_i64]; simp only [maxLen] at hm; omega
 have hk : q.toNat < g.gs.length := by have := ok.k.len; omega
 rw [hw]
 refine ⟨(ok.k.setL hx g' hg).1, by rw [List.length_set]; exact ok.len, fun j hj hj2 => ?_, fun j hj => ?_⟩
 ·simp only [gx_set]
  rw [List.length_set] at hj2
  split
  ·exact nofun
  ·rename_i q1
   exact ok.pre j (by have := ok.k.len; by_cases e : q.toNat = j <;> omega) hj2
 ·simp only [gx_set]
  rw [if_neg (by omega)]
  exact ok.post j (by omega)
theorem NPr.set {N : Nat} (ok : NPr l sz szi g xs q.toNat N) (hx : Vm.ix xs q = some x) (e : l x' = l x) : NPr l sz szi g (xs.set q.toNat x') q.toNat N := ⟨(ok.k.set hx e).1, by rw [List.length_set]; exact ok.len, fun j hj hj2 => ok.pre j hj (by rwa [List.length_set] at hj2), ok.post⟩
theorem NPr.all {N : Nat} (ok : NPr l sz szi g xs q.toNat N) (hq : decide (q < (N : Int)) = false) : NOw l sz szi g xs := by
 have hq := of_decide_eq_false hq
 have hN := ok.len
 refine ⟨ok.k, fun og ho => ?_⟩
 obtain ⟨j, hj, rfl⟩ := List.getElem_of_mem ho
 have hl := ok.k.len
 have := ok.pre j (by omega) (by omega)
 unfold gx at this
 rwa [List.getElem?_eq_getElem hj] at this
end
theorem wr {n : Int} (h : -9223372036854775808 ≤ n) (h2 : n < 9223372036854775808) : IntKind.wrap .i64 n = n := by
 have e : IntKind.wrap .i64 n = (if decide (n % 18446744073709551616 ≥ 9223372036854775808) = true then n % 18446744073709551616 - 18446744073709551616 else n % 18446744073709551616) := rfl
 rw [e]
 simp only [decide_eq_true_eq]
 split <;> omega
theorem wr1 {i : Nat} (h : i < 1000000000) : IntKind.wrap .i64 ((i : Int) + 1) = ((i + 1 : Nat) : Int) := by rw [wr (by omega) (by omega)]; rfl
theorem ix_nat {α : Type} (l : List α) (i : Nat) : ix l (i : Int) = l[i]? := by simp [ix]
theorem ix_pos {α : Type} (l : List α) {i : Int} (h : 0 ≤ i) : ix l i = l[i.toNat]? := by simp [ix, h]
theorem app_some {α : Type} {xs ys : List α} (h : xs.length + ys.length ≤ 1000000000) : app xs ys = some (xs ++ ys) := by simp [app, h]
theorem after_brk {σ ρ : Type} (s : σ) (k : σ → Option ρ) : after (some (.brk s)) k = k s := rfl
end Go.Vm
