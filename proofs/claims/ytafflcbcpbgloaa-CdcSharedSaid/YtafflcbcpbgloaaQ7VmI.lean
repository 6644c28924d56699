/-
  append, literals, make; the evaluation of a list of operations; contracts out of bodies.
-/
import Derived.Test.YtafflcbcpbgloaaQ7VmH
namespace Go.Vm

/-- The elements that append takes. -/
def srcOf (h : Heap) (sz : Nat) : AV → Option (List (List AV))
  | .sl _ sz' ys => if sz' = sz then some ys else none
  | .sc (.slice none 0 _) => some []
  | .e0 => some []
  | .view k off n => match h k with
    | some (.obj _ cs) => if off + n * sz ≤ cs.length then some (grp sz n (cs.drop off)) else none
    | _ => none
  | _ => none

theorem srcOf_spec {E : Env} {h : Heap} {w : World} (r : Rel E h w) {sz : Nat} {x : AV} {ys : List (List AV)} (hx : srcOf h sz x = some ys) {v : Value} (hv : VR E w x v) : Src E w sz ys v := by
  cases x with
  | sl tag sz' zs =>
    simp only [srcOf] at hx
    split at hx
    · rename_i e; cases hx; subst e; exact Src.of_sl hv
    · cases hx
  | sc z =>
    unfold srcOf at hx
    split at hx <;> (try (simp only [reduceCtorEq] at hx; done))
    · rename_i e; cases e
    · rename_i n e; cases e; cases hx; exact Src.of_nil hv
    · rename_i e; cases e
    · rename_i e; cases e
  | e0 => cases hx; exact Src.of_e0 hv
  | view k off n =>
    simp only [srcOf] at hx
    split at hx
    · rename_i ty cs hk
      split at hx
      · rename_i hl; cases hx; exact Src.of_view r hv hk hl
      · cases hx
    · cases hx
  | _ => simp [srcOf] at hx

theorem upd_self (h : Heap) (k : Key) : upd h k (h k) = h := by
  funext x; unfold upd; split
  · rename_i e; rw [e]
  · rfl

section ops
variable {P : Program} {o : Oper} {K : AV → Heap → Prop} {fr : Fr} {h : Heap}

theorem exec_append {s x : Operand} {t : TypeId} (hop : o.op = .call { callee := .builtin .append, args := #[s, x], argTypes := #[t, t] }) {a : Act} {w w' : World} {v : Value}
    (hr : (Builtin.append_ #[t, t] o.type #[a.eval s, a.eval x]).run P w = .ok v w') : (execOp a.eval o).run P w = .ok (.value v) w' := by
  unfold execOp
  simp only [hop, resolve, invoke, builtin, Sem.run_bind, Sem.run_pure, Result.andThen_ok, List.map_toArray, List.map_cons, List.map_nil, hr]

theorem AOp_append_nil {s x : Operand} {t e : TypeId} {sz b : Nat} (hop : o.op = .call { callee := .builtin .append, args := #[s, x], argTypes := #[t, t] }) (d : Nat) (ht : ElT P t e sz b)
    {s0 : AV} (hs : ev fr s = s0) (hs0 : s0 = .sc (.slice none 0 0) ∨ s0 = .e0) {ys : List (List AV)} (hx : srcOf h sz (ev fr x) = some ys) (hb : ys.length * (b + 1) ≤ 140737488355328)
    (h0 : ys = [] → K s0 h) (h1 : ys ≠ [] → ∀ n, h (d, n) = none → K (.sl (some (d, n)) sz ys) (upd h (d, n) (some (.tok e sz (ys.length * sz))))) : AOp P o K fr h := by
  intro E w a r hv Nx Qx hn
  have vs := hv s (by rw [hop]; simp [Op.operands, Call.operands])
  have vx := hv x (by rw [hop]; simp [Op.operands, Call.operands])
  rw [hs] at vs
  have vs0 : ∃ a0, a.eval s = .slice a0 0 0 := by
    rcases hs0 with rfl | rfl
    · simp only [VR] at vs; exact ⟨_, vs⟩
    · simpa only [VR] using vs
  obtain ⟨a0, ea0⟩ := vs0
  have src := srcOf_spec r hx vx
  rw [Nat.mul_add, Nat.mul_one] at hb
  by_cases hy : ys = []
  · subst hy
    have hv0 : (Value.slice a0 0 0 = .slice none 0 0 ∧ 0 = 0) ∨ ∃ a cap, Value.slice a0 0 0 = .slice (some a) 0 cap ∧ 0 ≤ cap := by
      cases a0 with
      | none => exact .inl ⟨rfl, rfl⟩
      | some b => exact .inr ⟨b, 0, rfl, Nat.le_refl _⟩
    obtain ⟨_, (⟨_, q, c, e⟩ | ⟨g, oo, c, cv, e, _⟩)⟩ := src
    · have hr := run_append_none (P := P) (w := w) (ty := o.type) ht hv0 e
      unfold Oper.wp
      rw [exec_append hop (by rw [ea0]; exact hr), ← ea0]
      exact hn _ _ _ E h (Keep.refl E w) r vs (h0 rfl)
    · have hr := run_append_none (P := P) (w := w) (ty := o.type) ht hv0 e
      unfold Oper.wp
      rw [exec_append hop (by rw [ea0]; exact hr), ← ea0]
      exact hn _ _ _ E h (Keep.refl E w) r vs (h0 rfl)
  · obtain ⟨n, hn'⟩ := r.fresh d
    obtain ⟨v', w', E', e1, e2, e3, e4⟩ := append_nil (ty := o.type) ht r hn' src hy (by omega) (by omega) a0
    unfold Oper.wp
    rw [exec_append hop (by rw [ea0]; exact e1)]
    exact hn _ _ _ E' _ e2 e3 e4 (h1 hy n (r.unused_none hn'))

theorem AOp_append_tok {s x : Operand} {t e : TypeId} {sz b : Nat} (hop : o.op = .call { callee := .builtin .append, args := #[s, x], argTypes := #[t, t] }) (ht : ElT P t e sz b)
    {k : Key} {xs : List (List AV)} (hs : ev fr s = .sl (some k) sz xs) (hk : h k = some (.tok e sz (xs.length * sz))) {ys : List (List AV)} (hx : srcOf h sz (ev fr x) = some ys)
    (hb : (xs.length + ys.length) * (b + 1) ≤ 140737488355328)
    (h1 : K (.sl (some k) sz (xs ++ ys)) (upd h k (some (.tok e sz ((xs ++ ys).length * sz))))) : AOp P o K fr h := by
  intro E w a r hv Nx Qx hn
  have vs := hv s (by rw [hop]; simp [Op.operands, Call.operands])
  have vx := hv x (by rw [hop]; simp [Op.operands, Call.operands])
  rw [hs] at vs
  have src := srcOf_spec r hx vx
  rw [Nat.mul_add, Nat.mul_one] at hb
  by_cases hy : ys = []
  · subst hy
    have hsv : ∃ q cap, a.eval s = .slice q xs.length cap ∧ xs.length ≤ cap ∧ q ≠ none := by
      have vs' := vs
      simp only [VR] at vs'
      obtain ⟨q, cap, e1, e2, _, _, _, e5⟩ := vs'
      obtain ⟨tk, cur, t1, t2, t3, _⟩ := r.tok _ _ _ _ hk
      obtain ⟨_, e6⟩ := e5 k rfl
      obtain ⟨_, e7⟩ := e6 tk t1
      exact ⟨q, cap, e1, e2, by rw [(e7 t3.symm).1]; simp⟩
    obtain ⟨q, cap, es, ec, hq⟩ := hsv
    obtain ⟨q', rfl⟩ := Option.ne_none_iff_exists'.1 hq
    have src0 : ∃ q c, a.eval x = .slice q 0 c := by
      rcases src.2 with ⟨_, q, c, e⟩ | ⟨g, oo, c, cv, e, _⟩
      · exact ⟨q, c, e⟩
      · exact ⟨_, c, e⟩
    obtain ⟨qx, cx, ex⟩ := src0
    have hr := run_append_none (P := P) (w := w) (ty := o.type) ht (v := .slice (some q') xs.length cap) (n := xs.length) (.inr ⟨q', cap, rfl, ec⟩) ex
    unfold Oper.wp
    rw [exec_append hop (by rw [es]; exact hr)]
    refine hn _ _ _ E h (Keep.refl E w) r (by rw [← es]; simpa using vs) ?_
    have : upd h k (some (.tok e sz ((xs ++ []).length * sz))) = h := by rw [List.append_nil, ← hk, upd_self]
    rw [this] at h1
    simpa using h1
  · obtain ⟨v', w', E', e1, e2, e3, e4⟩ := append_tok (ty := o.type) ht r hk vs src hy (by omega) (by omega)
    unfold Oper.wp
    rw [exec_append hop e1]
    exact hn _ _ _ E' _ e2 e3 e4 h1

end ops

/-! ### literals of slices -/

theorem foldl_set (off : Nat) : ∀ (vs : List Value) (i : Nat) (cs : Array Value), off + i + vs.length ≤ cs.size →
    ((vs.zipIdx i).foldl (fun cs (c, j) => cs.setIfInBounds (off + j) c) cs).toList = cs.toList.take (off + i) ++ vs ++ cs.toList.drop (off + i + vs.length)
  | [], i, cs, _ => by simp
  | v :: vs, i, cs, h => by
    simp only [List.zipIdx_cons, List.foldl_cons]
    simp only [List.length_cons] at h
    rw [foldl_set off vs (i + 1) _ (by simp; omega)]
    have hlt : off + i < cs.toList.length := by simp; omega
    simp only [Array.toList_setIfInBounds, List.length_cons]
    rw [show off + (i + 1) = off + i + 1 from by omega, List.take_succ_eq_append_getElem (by simpa using hlt)]
    simp only [List.getElem_set_self, List.append_assoc, List.singleton_append]
    rw [List.take_set_of_le (Nat.le_refl _), List.drop_set_of_lt (by omega)]
    simp [Nat.add_assoc, Nat.add_comm 1]

theorem fill_seq (sz : Nat) : ∀ (vs : List Value) (i : Nat) (cs : Array Value), (∀ v ∈ vs, v.cells.size = sz) → (i + vs.length) * sz ≤ cs.size →
    ∃ cs', Instr.fill (fun i => some (i * sz, sz)) cs ((vs.zipIdx i).map fun p => (p.2, p.1)) = some cs' ∧ cs'.toList = cs.toList.take (i * sz) ++ (vs.map fun v => v.cells.toList).flatten ++ cs.toList.drop ((i + vs.length) * sz)
  | [], i, cs, _, _ => ⟨cs, rfl, by simp⟩
  | v :: vs, i, cs, h1, h2 => by
    have hv := h1 v (by simp)
    simp only [List.length_cons] at h2
    have hle : i * sz + sz + vs.length * sz ≤ cs.size := by
      have : (i + (vs.length + 1)) * sz = i * sz + sz + vs.length * sz := by simp only [Nat.add_mul, Nat.one_mul]; omega
      omega
    have hf := foldl_set (i * sz) v.cells.toList 0 cs (by simp [hv]; omega)
    have hsz : (v.cells.zipIdx.foldl (fun cs (c, j) => cs.setIfInBounds (i * sz + j) c) cs).toList = cs.toList.take (i * sz) ++ v.cells.toList ++ cs.toList.drop (i * sz + sz) := by
      have : v.cells.zipIdx.foldl (fun cs (c, j) => cs.setIfInBounds (i * sz + j) c) cs = (v.cells.toList.zipIdx 0).foldl (fun cs (c, j) => cs.setIfInBounds (i * sz + j) c) cs := by
        rw [← Array.foldl_toList, Array.toList_zipIdx]
      rw [this, hf]
      simp [hv]
    generalize hq : v.cells.zipIdx.foldl (fun cs (c, j) => cs.setIfInBounds (i * sz + j) c) cs = q at hsz
    have hqs : q.size = cs.size := by
      have := congrArg List.length hsz
      simp [hv] at this
      omega
    have e3 : (i + 1 + vs.length) * sz = i * sz + sz + vs.length * sz := by simp only [Nat.add_mul, Nat.one_mul]
    have e4 : (i + (vs.length + 1)) * sz = i * sz + sz + vs.length * sz := by simp only [Nat.add_mul, Nat.one_mul]; omega
    have e5 : (i + 1) * sz = i * sz + sz := by simp only [Nat.add_mul, Nat.one_mul]
    obtain ⟨cs', e1, e2⟩ := fill_seq sz vs (i + 1) q (fun u hu => h1 u (by simp [hu])) (by rw [hqs]; omega)
    refine ⟨cs', ?_, ?_⟩
    · simp only [List.zipIdx_cons, List.map_cons, Instr.fill, hv, ne_eq, not_true_eq_false, decide_false, Bool.false_or]
      rw [if_neg (by simp; omega)]
      simp only [hq]
      exact e1
    · rw [e2, hsz]
      simp only [List.map_cons, List.flatten_cons, List.length_cons]
      have l1 : (cs.toList.take (i * sz) ++ v.cells.toList).length = (i + 1) * sz := by
        simp [hv, Nat.add_mul]; omega
      rw [List.take_left' l1]
      have l2 : (cs.toList.take (i * sz) ++ v.cells.toList ++ cs.toList.drop (i * sz + sz)).drop ((i + 1 + vs.length) * sz) = cs.toList.drop ((i + (vs.length + 1)) * sz) := by
        rw [e3, e4, ← e5, ← l1, ← List.drop_drop, List.drop_left' rfl, List.drop_drop, l1, e5]
      rw [l2]
      simp only [List.append_assoc]

/-- The cells of several values. -/
def cellsEach : List AV → Option (List (List AV))
  | [] => some []
  | x :: xs => match cellsOf x, cellsEach xs with
    | some c, some cs => some (c :: cs)
    | _, _ => none

theorem zipIdx_of_range {α β : Type} (f : α → β) (l : List (Nat × α)) (h : l.map (·.1) = List.range l.length) : l.map (fun p => (p.1, f p.2)) = ((l.map fun p => f p.2).zipIdx 0).map fun p => (p.2, p.1) := by
  apply List.ext_getElem?
  intro j
  have hj := congrArg (fun q => q[j]?) h
  simp only [List.getElem?_map] at hj
  simp only [List.getElem?_map, List.getElem?_zipIdx]
  cases e : l[j]? with
  | none => simp
  | some p =>
    rw [e] at hj
    have hlt : j < l.length := (List.getElem?_eq_some_iff.1 e).1
    simp [hlt] at hj
    simp [hj]

section lit
variable {P : Program} {E : Env} {h : Heap} {w : World}

theorem cellsEach_spec {sz : Nat} : ∀ {xs : List AV} {gs : List (List AV)} {vs : List Value}, cellsEach xs = some gs → gs.all (fun g => g.all ocell && g.length == sz) = true → VRL E w xs vs →
    gs.length = vs.length ∧ (∀ g ∈ gs, g.length = sz) ∧ (∀ v ∈ vs, v.cells.size = sz) ∧ VRL E w gs.flatten (vs.map fun v => v.cells.toList).flatten ∧ ∀ u ∈ (vs.map fun v => v.cells.toList).flatten, u.oneCell' = true
  | [], gs, [], hx, _, _ => by cases hx; simp [VRL]
  | x :: xs, gs, v :: vs, hx, hg, hv => by
    simp only [cellsEach] at hx
    split at hx
    · rename_i c cs e1 e2
      cases hx
      simp only [List.all_cons, Bool.and_eq_true, beq_iff_eq] at hg
      simp only [VRL] at hv
      obtain ⟨a1, a2⟩ := cellsOf_spec e1 hg.1.1 hv.1
      obtain ⟨b1, b2, b3, b4, b5⟩ := cellsEach_spec e2 hg.2 hv.2
      have hl := VRL_length a1
      refine ⟨by simp [b1], ?_, ?_, ?_, ?_⟩
      · intro g hg'
        rcases List.mem_cons.1 hg' with rfl | hg'
        · exact hg.1.2
        · exact b2 g hg'
      · intro u hu
        rcases List.mem_cons.1 hu with rfl | hu
        · rw [← hg.1.2, hl]; simp
        · exact b3 u hu
      · simp only [List.flatten_cons, List.map_cons]
        exact VRL_append a1 b4
      · intro u hu
        simp only [List.map_cons, List.flatten_cons] at hu
        rcases List.mem_append.1 hu with hu | hu
        · exact a2 u hu
        · exact b5 u hu
    · cases hx
  | [], _, _ :: _, _, _, hv => by simp only [VRL] at hv
  | _ :: _, _, [], _, _, hv => by simp only [VRL] at hv

theorem exec_lit {o : Oper} {t e : TypeId} {sz b len : Nat} {parts : Array (Nat × Operand)} (hop : o.op = .buildSlice t len parts) (ht : ElT P t e sz b) (hi : parts.toList.map (·.1) = List.range len) (hl : len * sz ≤ 16777216) {a : Act} (hs : ∀ v ∈ parts.toList.map (fun p => a.eval p.2), v.cells.size = sz) :
    ∃ cur : Array Value, cur.toList = ((parts.toList.map fun p => a.eval p.2).map fun v => v.cells.toList).flatten ∧ (execOp a.eval o).run P w = .ok (.value (.slice (some ⟨w.heap.size, 0, none⟩) len len)) (w.alloc (.cells cur e)) := by
  obtain ⟨i, z, h1, h2, rfl, rfl, h5, h6⟩ := ht.inf
  have hlen : parts.toList.length = len := by have := congrArg List.length hi; simpa using this
  have hz := zipIdx_of_range a.eval parts.toList (by rw [hlen]; exact hi)
  have hlen' : (parts.toList.map fun p => a.eval p.2).length = len := by simpa using hlen
  generalize hvs : (parts.toList.map fun p => a.eval p.2) = vs at hz hs hlen'
  have hq : ∀ (q : Array Value), q.size = len * i.size → ∃ cs', Instr.fill (fun j => some (j * i.size, i.size)) q (parts.toList.map fun p => (p.1, a.eval p.2)) = some cs' ∧ cs'.toList = (vs.map fun v => v.cells.toList).flatten := by
    intro q hq
    obtain ⟨cs', e1, e2⟩ := fill_seq i.size vs 0 q hs (by rw [Nat.zero_add, hlen', hq]; exact Nat.le_refl _)
    rw [← hz] at e1
    refine ⟨cs', e1, ?_⟩
    rw [e2, Nat.zero_add, hlen']
    simp [← hq]
  have hn : ¬ (16777216 < len * i.size) := by omega
  by_cases h0 : len * i.size = 0
  · obtain ⟨cur, c1, c2⟩ := hq ((Array.range 0).map fun _ => default) (by simp [h0])
    refine ⟨cur, c2, ?_⟩
    simp [execOp, hop, Instr.buildSlice, run_underlying ht.ut, sizeOf, typeInfo, h1, h0]
    simp only [c1]
    simp [newRow]
  · obtain ⟨cur, c1, c2⟩ := hq ((Array.range (len * i.size)).map (z.cells[· % z.cells.size]!)) (by simp)
    refine ⟨cur, c2, ?_⟩
    simp [execOp, hop, Instr.buildSlice, run_underlying ht.ut, sizeOf, typeInfo, h1, h2, hn, h0, zeroValue]
    simp only [c1]
    simp [newRow]

theorem lit_ops {o : Oper} {fr : Fr} {t : TypeId} {len : Nat} {parts : Array (Nat × Operand)} (hop : o.op = .buildSlice t len parts) {a : Act} (hv : ∀ y ∈ o.op.operands, VR E w (ev fr y) (a.eval y)) :
    VRL E w (parts.toList.map fun p => ev fr p.2) (parts.toList.map fun p => a.eval p.2) := by
  have : ∀ p ∈ parts.toList, VR E w (ev fr p.2) (a.eval p.2) := by
    intro p hp
    refine hv p.2 ?_
    rw [hop]
    simp only [Op.operands, List.mem_toArray, List.mem_map]
    exact ⟨p, hp, rfl⟩
  generalize parts.toList = l at this
  induction l with
  | nil => simp [VRL]
  | cons p l ih =>
    simp only [List.map_cons, VRL]
    exact ⟨this p (by simp), ih fun q hq => this q (by simp [hq])⟩

variable {o : Oper} {K : AV → Heap → Prop} {fr : Fr}

/-- A slice literal that nobody writes or appends to. -/
theorem AOp_lit {t e : TypeId} {sz b len : Nat} {parts : Array (Nat × Operand)} (hop : o.op = .buildSlice t len parts) (ht : ElT P t e sz b) (hi : parts.toList.map (·.1) = List.range len) (hl : len * sz ≤ 16777216)
    {gs : List (List AV)} (hg : cellsEach (parts.toList.map fun p => ev fr p.2) = some gs) (ho : gs.all (fun g => g.all ocell && g.length == sz) = true) (hK : K (.sl none sz gs) h) : AOp P o K fr h := by
  intro E w a r hv Nx Qx hn
  have hvl := lit_ops hop hv
  obtain ⟨a1, a2, a3, a4, a5⟩ := cellsEach_spec hg ho hvl
  obtain ⟨cur, c1, c2⟩ := exec_lit (w := w) hop ht hi hl a3
  have hlen : parts.toList.length = len := by have := congrArg List.length hi; simpa using this
  have hgl : gs.length = len := by rw [a1]; simpa using hlen
  obtain ⟨E', e1, e2, e3⟩ := r.new_imm e (0, 0) cur
  unfold Oper.wp
  rw [c2]
  refine hn _ _ _ E' h e2 e3 ?_ hK
  have hcs : cur.size = len * sz := by
    have := VRL_length a4
    rw [flatten_length a2, hgl, ← c1] at this
    simpa using this.symm
  simp only [VR]
  refine ⟨_, _, by rw [hgl], by rw [hgl]; exact Nat.le_refl _, ?_, .inr ⟨w.heap.size, 0, rfl, VRG_flat.2 ?_⟩, a2, by simp⟩
  · have h6 : 0 < sz := by obtain ⟨_, _, _, _, _, _, _, h6⟩ := ht.inf; exact h6
    have : len ≤ len * sz := Nat.le_mul_of_pos_right _ h6
    simp only [maxLen]; omega
  · refine VRM_of_cells (VRL_keep e2 _ _ a4) a5 ?_
    intro j u hj
    rw [← c1] at hj
    have hjl : j < cur.size := by simpa using (List.getElem?_eq_some_iff.1 hj).1
    refine ⟨?_, .inl (e1 _ (by omega))⟩
    have hnew := heap_alloc_new w (.cells cur e)
    simp only [World.cell?, hnew, Nat.zero_add]
    simpa using hj

/-- A slice literal to which may be appended. -/
theorem AOp_litg {t e : TypeId} {sz b len : Nat} {parts : Array (Nat × Operand)} (hop : o.op = .buildSlice t len parts) (d : Nat) (ht : ElT P t e sz b) (hi : parts.toList.map (·.1) = List.range len) (hl : len * sz ≤ 16777216)
    {gs : List (List AV)} (hg : cellsEach (parts.toList.map fun p => ev fr p.2) = some gs) (ho : gs.all (fun g => g.all ocell && g.length == sz) = true)
    (hK : ∀ n, h (d, n) = none → K (.sl (some (d, n)) sz gs) (upd h (d, n) (some (.tok e sz (gs.length * sz))))) : AOp P o K fr h := by
  intro E w a r hv Nx Qx hn
  have hvl := lit_ops hop hv
  obtain ⟨a1, a2, a3, a4, a5⟩ := cellsEach_spec hg ho hvl
  obtain ⟨cur, c1, c2⟩ := exec_lit (w := w) hop ht hi hl a3
  have hlen : parts.toList.length = len := by have := congrArg List.length hi; simpa using this
  have hgl : gs.length = len := by rw [a1]; simpa using hlen
  have hcs : cur.size = len * sz := by
    have := VRL_length a4
    rw [flatten_length a2, hgl, ← c1] at this
    simpa using this.symm
  have h6 : 0 < sz := by obtain ⟨_, _, _, _, _, _, _, h6⟩ := ht.inf; exact h6
  have hml : len ≤ maxLen := by
    have : len ≤ len * sz := Nat.le_mul_of_pos_right _ h6
    simp only [maxLen]; omega
  obtain ⟨n, hn'⟩ := r.fresh d
  obtain ⟨E', e0, e1, e2, e3⟩ := r.new_tok hn' e sz (gs.length * sz) len hcs (by rw [hgl, hcs]; exact Nat.le_refl _) hml
  unfold Oper.wp
  rw [c2]
  refine hn _ _ _ E' _ e2 e3 ?_ (hK n (r.unused_none hn'))
  have := VR_sl_mk (xs := gs) (w := w.alloc (.cells cur e)) e0 e1 a2 (by rw [hgl]; exact Nat.le_refl _) hml (VRM_of_cells (VRL_keep e2 _ _ a4) a5 (by
    intro j u hj
    rw [← c1] at hj
    have hjl : j < cur.size := by simpa using (List.getElem?_eq_some_iff.1 hj).1
    refine ⟨?_, .inr ⟨_, _, rfl, e1, rfl, by show 0 + j < gs.length * sz; rw [hgl]; omega⟩⟩
    have hnew := heap_alloc_new w (.cells cur e)
    simp only [World.cell?, hnew, Nat.zero_add]
    simpa using hj))
  rw [hgl] at this
  exact this

end lit
end Go.Vm
