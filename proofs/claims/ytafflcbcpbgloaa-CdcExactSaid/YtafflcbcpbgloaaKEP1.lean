import Derived.Test.YtafflcbcpbgloaaKEP0
import Derived.Laws.BitsLemmas
import Derived.Laws.Cover3
import Derived.Laws.BytesString
import Derived.ChangeSame
import Derived.ChangeSlices
import Derived.WideKeyArgs
import Derived.OpenShut
import Derived.JoinedOf
import Derived.Handed
import Derived.Stop.BytesEq
import Derived.Laws.Tables
import Derived.Laws.Externs
import Derived.ChangeArms
import Derived.Deep.Slices
set_option linter.unusedSimpArgs false
set_option linter.unusedVariables false
namespace Go.Vm
def srcOf (h : Heap) (sz : Nat) : AV → Option (List (List AV))
 | .sl _ sz' ys => if sz' = sz then some ys else none
 | .sc (.slice none 0 _) => some []
 | .e0 => some []
 | .view k off n => match h k with
  | some (.obj _ cs) => if off + n * sz ≤ cs.length then some (grp sz n (cs.drop off)) else none
  | _ => none
 | _ => none
theorem srcOf_spec {E : Env} {h : Heap} {w : World} (r : Rel E h w) {sz : Nat} {x : AV} {ys : List (List AV)} (hx : srcOf h sz x = some ys) {v : Value} (hv : VR E w x v) : Src E w sz ys v := by
 cases x with
 | sl tag sz' zs =>
  simp only [srcOf] at hx
  split at hx
  ·rename_i e; cases hx; subst e; exact Src.of_sl hv
  ·cases hx
 | sc z =>
  unfold srcOf at hx
  split at hx <;> (try (simp only [reduceCtorEq] at hx; done))
  ·rename_i e; cases e
  ·rename_i n e; cases e; cases hx; exact Src.of_nil hv
  ·rename_i e; cases e
  ·rename_i e; cases e
 | e0 => cases hx; exact Src.of_e0 hv
 | view k off n =>
  simp only [srcOf] at hx
  split at hx
  ·rename_i ty cs hk
   split at hx
   ·rename_i hl; cases hx; exact Src.of_view r hv hk hl
   ·cases hx
  ·cases hx
 | _ => simp [srcOf] at hx
theorem upd_self (h : Heap) (k : Key) : upd h k (h k) = h := by
 funext x; unfold upd; split
 ·rename_i e; rw [e]
 ·rfl
section ops
variable {P : Program} {o : Oper} {K : AV → Heap → Prop} {fr : Fr} {h : Heap}
theorem exec_append {s x : Operand} {t : TypeId} (hop : o.op = .call { callee := .builtin .append, args := #[s, x], argTypes := #[t, t] }) {a : Act} {w w' : World} {v : Value}
    (hr : (Builtin.append_ #[t, t] o.type #[a.eval s, a.eval x]).run P w = .ok v w') : (execOp a.eval o).run P w = .ok (.value v) w' := by
  unfold execOp
  simp only [hop, resolve, invoke, builtin, Sem.run_bind, Sem.run_pure, Result.andThen_ok, List.map_toArray, List.map_cons, List.map_nil, hr]
theorem AOp_append_nil {s x : Operand} {t e : TypeId} {sz b : Nat} (hop : o.op = .call { callee := .builtin .append, args := #[s, x], argTypes := #[t, t] }) (d : Nat) (ht : ElT P t e sz b)
    {s0 : AV} (hs : ev fr s = s0) (hs0 : s0 = .sc (.slice none 0 0) ∨ s0 = .e0) {ys : List (List AV)} (hx : srcOf h sz (ev fr x) = some ys) (hb : ys.length * (b + 1) ≤ 140737488355328)
    (h0 : ys = [] → K s0 h) (h1 : ys ≠ [] → ∀ n, h (d, n) = none → K (.sl (some (d, n)) sz ys) (upd h (d, n) (some (.tok e sz (ys.length * sz))))) : AOp P o K fr h := by
  intro E w a r hv Nx Qx hn
  have vs := hv s (by rw [hop]; simp [Op.operands, Call.operands])
  have vx := hv x (by rw [hop]; simp [Op.operands, Call.operands])
  rw [hs] at vs
  have vs0 : ∃ a0, a.eval s = .slice a0 0 0 := by
    rcases hs0 with rfl | rfl
    · simp only [VR] at vs; exact ⟨_, vs⟩
    · simpa only [VR] using vs
  obtain ⟨a0, ea0⟩ := vs0
  have src := srcOf_spec r hx vx
  rw [Nat.mul_add, Nat.mul_one] at hb
  by_cases hy : ys = []
  · subst hy
    have hv0 : (Value.slice a0 0 0 = .slice none 0 0 ∧ 0 = 0) ∨ ∃ a cap, Value.slice a0 0 0 = .slice (some a) 0 cap ∧ 0 ≤ cap := by
      cases a0 with
      | none => exact .inl ⟨rfl, rfl⟩
      | some b => exact .inr ⟨b, 0, rfl, Nat.le_refl _⟩
    obtain ⟨_, (⟨_, q, c, e⟩ | ⟨g, oo, c, cv, e, _⟩)⟩ := src
    · have hr := run_append_none (P := P) (w := w) (ty := o.type) ht hv0 e
      unfold Oper.wp
      rw [exec_append hop (by rw [ea0]; exact hr), ← ea0]
      exact hn _ _ _ E h (Keep.refl E w) r vs (h0 rfl)
    · have hr := run_append_none (P := P) (w := w) (ty := o.type) ht hv0 e
      unfold Oper.wp
      rw [exec_append hop (by rw [ea0]; exact hr), ← ea0]
      exact hn _ _ _ E h (Keep.refl E w) r vs (h0 rfl)
  · obtain ⟨n, hn'⟩ := r.fresh d
    obtain ⟨v', w', E', e1, e2, e3, e4⟩ := append_nil (ty := o.type) ht r hn' src hy (by omega) (by omega) a0
    unfold Oper.wp
    rw [exec_append hop (by rw [ea0]; exact e1)]
    exact hn _ _ _ E' _ e2 e3 e4 (h1 hy n (r.unused_none hn'))
theorem AOp_append_tok {s x : Operand} {t e : TypeId} {sz b : Nat} (hop : o.op = .call { callee := .builtin .append, args := #[s, x], argTypes := #[t, t] }) (ht : ElT P t e sz b)
    {k : Key} {xs : List (List AV)} (hs : ev fr s = .sl (some k) sz xs) (hk : h k = some (.tok e sz (xs.length * sz))) {ys : List (List AV)} (hx : srcOf h sz (ev fr x) = some ys)
    (hb : (xs.length + ys.length) * (b + 1) ≤ 140737488355328)
    (h1 : K (.sl (some k) sz (xs ++ ys)) (upd h k (some (.tok e sz ((xs ++ ys).length * sz))))) : AOp P o K fr h := by
  intro E w a r hv Nx Qx hn
  have vs := hv s (by rw [hop]; simp [Op.operands, Call.operands])
  have vx := hv x (by rw [hop]; simp [Op.operands, Call.operands])
  rw [hs] at vs
  have src := srcOf_spec r hx vx
  rw [Nat.mul_add, Nat.mul_one] at hb
  by_cases hy : ys = []
  · subst hy
    have hsv : ∃ q cap, a.eval s = .slice q xs.length cap ∧ xs.length ≤ cap ∧ q ≠ none := by
      have vs' := vs
      simp only [VR] at vs'
      obtain ⟨q, cap, e1, e2, _, _, _, e5⟩ := vs'
      obtain ⟨tk, cur, t1, t2, t3, _⟩ := r.tok _ _ _ _ hk
      obtain ⟨_, e6⟩ := e5 k rfl
      obtain ⟨_, e7⟩ := e6 tk t1
      exact ⟨q, cap, e1, e2, by rw [(e7 t3.symm).1]; simp⟩
    obtain ⟨q, cap, es, ec, hq⟩ := hsv
    obtain ⟨q', rfl⟩ := Option.ne_none_iff_exists'.1 hq
    have src0 : ∃ q c, a.eval x = .slice q 0 c := by
      rcases src.2 with ⟨_, q, c, e⟩ | ⟨g, oo, c, cv, e, _⟩
      · exact ⟨q, c, e⟩
      · exact ⟨_, c, e⟩
    obtain ⟨qx, cx, ex⟩ := src0
    have hr := run_append_none (P := P) (w := w) (ty := o.type) ht (v := .slice (some q') xs.length cap) (n := xs.length) (.inr ⟨q', cap, rfl, ec⟩) ex
    unfold Oper.wp
    rw [exec_append hop (by rw [es]; exact hr)]
    refine hn _ _ _ E h (Keep.refl E w) r (by rw [← es]; simpa using vs) ?_
    have : upd h k (some (.tok e sz ((xs ++ []).length * sz))) = h := by rw [List.append_nil, ← hk, upd_self]
    rw [this] at h1
    simpa using h1
  · obtain ⟨v', w', E', e1, e2, e3, e4⟩ := append_tok (ty := o.type) ht r hk vs src hy (by omega) (by omega)
    unfold Oper.wp
    rw [exec_append hop e1]
    exact hn _ _ _ E' _ e2 e3 e4 h1
end ops
theorem foldl_set (off : Nat) : ∀ (vs : List Value) (i : Nat) (cs : Array Value), off + i + vs.length ≤ cs.size →
    ((vs.zipIdx i).foldl (fun cs (c, j) => cs.setIfInBounds (off + j) c) cs).toList = cs.toList.take (off + i) ++ vs ++ cs.toList.drop (off + i + vs.length)
  | [], i, cs, _ => by simp
  | v :: vs, i, cs, h => by
    simp only [List.zipIdx_cons, List.foldl_cons]
    simp only [List.length_cons] at h
    rw [foldl_set off vs (i + 1) _ (by simp; omega)]
    have hlt : off + i < cs.toList.length := by simp; omega
    simp only [Array.toList_setIfInBounds, List.length_cons]
    rw [show off + (i + 1) = off + i + 1 from by omega, List.take_succ_eq_append_getElem (by simpa using hlt)]
    simp only [List.getElem_set_self, List.append_assoc, List.singleton_append]
    rw [List.take_set_of_le (Nat.le_refl _), List.drop_set_of_lt (by omega)]
    simp [Nat.add_assoc, Nat.add_comm 1]
theorem fill_seq (sz : Nat) : ∀ (vs : List Value) (i : Nat) (cs : Array Value), (∀ v ∈ vs, v.cells.size = sz) → (i + vs.length) * sz ≤ cs.size →
    ∃ cs', Instr.fill (fun i => some (i * sz, sz)) cs ((vs.zipIdx i).map fun p => (p.2, p.1)) = some cs' ∧ cs'.toList = cs.toList.take (i * sz) ++ (vs.map fun v => v.cells.toList).flatten ++ cs.toList.drop ((i + vs.length) * sz)
  | [], i, cs, _, _ => ⟨cs, rfl, by simp⟩
  | v :: vs, i, cs, h1, h2 => by
    have hv := h1 v (by simp)
    simp only [List.length_cons] at h2
    have hle : i * sz + sz + vs.length * sz ≤ cs.size := by
      have : (i + (vs.length + 1)) * sz = i * sz + sz + vs.length * sz := by simp only [Nat.add_mul, Nat.one_mul]; omega
      omega
    have hf := foldl_set (i * sz) v.cells.toList 0 cs (by simp [hv]; omega)
    have hsz : (v.cells.zipIdx.foldl (fun cs (c, j) => cs.setIfInBounds (i * sz + j) c) cs).toList = cs.toList.take (i * sz) ++ v.cells.toList ++ cs.toList.drop (i * sz + sz) := by
      have : v.cells.zipIdx.foldl (fun cs (c, j) => cs.setIfInBounds (i * sz + j) c) cs = (v.cells.toList.zipIdx 0).foldl (fun cs (c, j) => cs.setIfInBounds (i * sz + j) c) cs := by
        rw [← Array.foldl_toList, Array.toList_zipIdx]
      rw [this, hf]
      simp [hv]
    generalize hq : v.cells.zipIdx.foldl (fun cs (c, j) => cs.setIfInBounds (i * sz + j) c) cs = q at hsz
    have hqs : q.size = cs.size := by
      have := congrArg List.length hsz
      simp [hv] at this
      omega
    have e3 : (i + 1 + vs.length) * sz = i * sz + sz + vs.length * sz := by simp only [Nat.add_mul, Nat.one_mul]
    have e4 : (i + (vs.length + 1)) * sz = i * sz + sz + vs.length * sz := by simp only [Nat.add_mul, Nat.one_mul]; omega
    have e5 : (i + 1) * sz = i * sz + sz := by simp only [Nat.add_mul, Nat.one_mul]
    obtain ⟨cs', e1, e2⟩ := fill_seq sz vs (i + 1) q (fun u hu => h1 u (by simp [hu])) (by rw [hqs]; omega)
    refine ⟨cs', ?_, ?_⟩
    · simp only [List.zipIdx_cons, List.map_cons, Instr.fill, hv, ne_eq, not_true_eq_false, decide_false, Bool.false_or]
      rw [if_neg (by simp; omega)]
      simp only [hq]
      exact e1
    · rw [e2, hsz]
      simp only [List.map_cons, List.flatten_cons, List.length_cons]
      have l1 : (cs.toList.take (i * sz) ++ v.cells.toList).length = (i + 1) * sz := by
        simp [hv, Nat.add_mul]; omega
      rw [List.take_left' l1]
      have l2 : (cs.toList.take (i * sz) ++ v.cells.toList ++ cs.toList.drop (i * sz + sz)).drop ((i + 1 + vs.length) * sz) = cs.toList.drop ((i + (vs.length + 1)) * sz) := by
        rw [e3, e4, ← e5, ← l1, ← List.drop_drop, List.drop_left' rfl, List.drop_drop, l1, e5]
      rw [l2]
      simp only [List.append_assoc]
def cellsEach : List AV → Option (List (List AV))
 | [] => some []
 | x :: xs => match cellsOf x, cellsEach xs with
  | some c, some cs => some (c :: cs)
  | _, _ => none
theorem zipIdx_of_range {α β : Type} (f : α → β) (l : List (Nat × α)) (h : l.map (·.1) = List.range l.length) : l.map (fun p => (p.1, f p.2)) = ((l.map fun p => f p.2).zipIdx 0).map fun p => (p.2, p.1) := by
 apply List.ext_getElem?
 intro j
 have hj := congrArg (fun q => q[j]?) h
 simp only [List.getElem?_map] at hj
 simp only [List.getElem?_map, List.getElem?_zipIdx]
 cases e : l[j]? with
 | none => simp
 | some p =>
  rw [e] at hj
  have hlt : j < l.length := (List.getElem?_eq_some_iff.1 e).1
  simp [hlt] at hj
  simp [hj]
section lit
variable {P : Program} {E : Env} {h : Heap} {w : World}
theorem cellsEach_spec {sz : Nat} : ∀ {xs : List AV} {gs : List (List AV)} {vs : List Value}, cellsEach xs = some gs → gs.all (fun g => g.all ocell && g.length == sz) = true → VRL E w xs vs →
    gs.length = vs.length ∧ (∀ g ∈ gs, g.length = sz) ∧ (∀ v ∈ vs, v.cells.size = sz) ∧ VRL E w gs.flatten (vs.map fun v => v.cells.toList).flatten ∧ ∀ u ∈ (vs.map fun v => v.cells.toList).flatten, u.oneCell' = true
  | [], gs, [], hx, _, _ => by cases hx; simp [VRL]
  | x :: xs, gs, v :: vs, hx, hg, hv => by
    simp only [cellsEach] at hx
    split at hx
    · rename_i c cs e1 e2
      cases hx
      simp only [List.all_cons, Bool.and_eq_true, beq_iff_eq] at hg
      simp only [VRL] at hv
      obtain ⟨a1, a2⟩ := cellsOf_spec e1 hg.1.1 hv.1
      obtain ⟨b1, b2, b3, b4, b5⟩ := cellsEach_spec e2 hg.2 hv.2
      have hl := VRL_length a1
      refine ⟨by simp [b1], ?_, ?_, ?_, ?_⟩
      · intro g hg'
        rcases List.mem_cons.1 hg' with rfl | hg'
        · exact hg.1.2
        · exact b2 g hg'
      · intro u hu
        rcases List.mem_cons.1 hu with rfl | hu
        · rw [← hg.1.2, hl]; simp
        · exact b3 u hu
      · simp only [List.flatten_cons, List.map_cons]
        exact VRL_append a1 b4
      · intro u hu
        simp only [List.map_cons, List.flatten_cons] at hu
        rcases List.mem_append.1 hu with hu | hu
        · exact a2 u hu
        · exact b5 u hu
    · cases hx
  | [], _, _ :: _, _, _, hv => by simp only [VRL] at hv
  | _ :: _, _, [], _, _, hv => by simp only [VRL] at hv
theorem exec_lit {o : Oper} {t e : TypeId} {sz b len : Nat} {parts : Array (Nat × Operand)} (hop : o.op = .buildSlice t len parts) (ht : ElT P t e sz b) (hi : parts.toList.map (·.1) = List.range len) (hl : len * sz ≤ 16777216) {a : Act} (hs : ∀ v ∈ parts.toList.map (fun p => a.eval p.2), v.cells.size = sz) :
    ∃ cur : Array Value, cur.toList = ((parts.toList.map fun p => a.eval p.2).map fun v => v.cells.toList).flatten ∧ (execOp a.eval o).run P w = .ok (.value (.slice (some ⟨w.heap.size, 0, none⟩) len len)) (w.alloc (.cells cur e)) := by
  obtain ⟨i, z, h1, h2, rfl, rfl, h5, h6⟩ := ht.inf
  have hlen : parts.toList.length = len := by have := congrArg List.length hi; simpa using this
  have hz := zipIdx_of_range a.eval parts.toList (by rw [hlen]; exact hi)
  have hlen' : (parts.toList.map fun p => a.eval p.2).length = len := by simpa using hlen
  generalize hvs : (parts.toList.map fun p => a.eval p.2) = vs at hz hs hlen'
  have hq : ∀ (q : Array Value), q.size = len * i.size → ∃ cs', Instr.fill (fun j => some (j * i.size, i.size)) q (parts.toList.map fun p => (p.1, a.eval p.2)) = some cs' ∧ cs'.toList = (vs.map fun v => v.cells.toList).flatten := by
    intro q hq
    obtain ⟨cs', e1, e2⟩ := fill_seq i.size vs 0 q hs (by rw [Nat.zero_add, hlen', hq]; exact Nat.le_refl _)
    rw [← hz] at e1
    refine ⟨cs', e1, ?_⟩
    rw [e2, Nat.zero_add, hlen']
    simp [← hq]
  have hn : ¬ (16777216 < len * i.size) := by omega
  by_cases h0 : len * i.size = 0
  · obtain ⟨cur, c1, c2⟩ := hq ((Array.range 0).map fun _ => default) (by simp [h0])
    refine ⟨cur, c2, ?_⟩
    simp [execOp, hop, Instr.buildSlice, run_underlying ht.ut, sizeOf, typeInfo, h1, h0]
    simp only [c1]
    simp [newRow]
  · obtain ⟨cur, c1, c2⟩ := hq ((Array.range (len * i.size)).map (z.cells[· % z.cells.size]!)) (by simp)
    refine ⟨cur, c2, ?_⟩
    simp [execOp, hop, Instr.buildSlice, run_underlying ht.ut, sizeOf, typeInfo, h1, h2, hn, h0, zeroValue]
    simp only [c1]
    simp [newRow]
theorem lit_ops {o : Oper} {fr : Fr} {t : TypeId} {len : Nat} {parts : Array (Nat × Operand)} (hop : o.op = .buildSlice t len parts) {a : Act} (hv : ∀ y ∈ o.op.operands, VR E w (ev fr y) (a.eval y)) :
    VRL E w (parts.toList.map fun p => ev fr p.2) (parts.toList.map fun p => a.eval p.2) := by
  have : ∀ p ∈ parts.toList, VR E w (ev fr p.2) (a.eval p.2) := by
    intro p hp
    refine hv p.2 ?_
    rw [hop]
    simp only [Op.operands, List.mem_toArray, List.mem_map]
    exact ⟨p, hp, rfl⟩
  generalize parts.toList = l at this
  induction l with
  | nil => simp [VRL]
  | cons p l ih =>
    simp only [List.map_cons, VRL]
    exact ⟨this p (by simp), ih fun q hq => this q (by simp [hq])⟩
variable {o : Oper} {K : AV → Heap → Prop} {fr : Fr}
theorem AOp_lit {t e : TypeId} {sz b len : Nat} {parts : Array (Nat × Operand)} (hop : o.op = .buildSlice t len parts) (ht : ElT P t e sz b) (hi : parts.toList.map (·.1) = List.range len) (hl : len * sz ≤ 16777216)
    {gs : List (List AV)} (hg : cellsEach (parts.toList.map fun p => ev fr p.2) = some gs) (ho : gs.all (fun g => g.all ocell && g.length == sz) = true) (hK : K (.sl none sz gs) h) : AOp P o K fr h := by
  intro E w a r hv Nx Qx hn
  have hvl := lit_ops hop hv
  obtain ⟨a1, a2, a3, a4, a5⟩ := cellsEach_spec hg ho hvl
  obtain ⟨cur, c1, c2⟩ := exec_lit (w := w) hop ht hi hl a3
  have hlen : parts.toList.length = len := by have := congrArg List.length hi; simpa using this
  have hgl : gs.length = len := by rw [a1]; simpa using hlen
  obtain ⟨E', e1, e2, e3⟩ := r.new_imm e (0, 0) cur
  unfold Oper.wp
  rw [c2]
  refine hn _ _ _ E' h e2 e3 ?_ hK
  have hcs : cur.size = len * sz := by
    have := VRL_length a4
    rw [flatten_length a2, hgl, ← c1] at this
    simpa using this.symm
  simp only [VR]
  refine ⟨_, _, by rw [hgl], by rw [hgl]; exact Nat.le_refl _, ?_, .inr ⟨w.heap.size, 0, rfl, VRG_flat.2 ?_⟩, a2, by simp⟩
  · have h6 : 0 < sz := by obtain ⟨_, _, _, _, _, _, _, h6⟩ := ht.inf; exact h6
    have : len ≤ len * sz := Nat.le_mul_of_pos_right _ h6
    simp only [maxLen]; omega
  · refine VRM_of_cells (VRL_keep e2 _ _ a4) a5 ?_
    intro j u hj
    rw [← c1] at hj
    have hjl : j < cur.size := by simpa using (List.getElem?_eq_some_iff.1 hj).1
    refine ⟨?_, .inl (e1 _ (by omega))⟩
    have hnew := heap_alloc_new w (.cells cur e)
    simp only [World.cell?, hnew, Nat.zero_add]
    simpa using hj
theorem AOp_litg {t e : TypeId} {sz b len : Nat} {parts : Array (Nat × Operand)} (hop : o.op = .buildSlice t len parts) (d : Nat) (ht : ElT P t e sz b) (hi : parts.toList.map (·.1) = List.range len) (hl : len * sz ≤ 16777216)
    {gs : List (List AV)} (hg : cellsEach (parts.toList.map fun p => ev fr p.2) = some gs) (ho : gs.all (fun g => g.all ocell && g.length == sz) = true)
    (hK : ∀ n, h (d, n) = none → K (.sl (some (d, n)) sz gs) (upd h (d, n) (some (.tok e sz (gs.length * sz))))) : AOp P o K fr h := by
  intro E w a r hv Nx Qx hn
  have hvl := lit_ops hop hv
  obtain ⟨a1, a2, a3, a4, a5⟩ := cellsEach_spec hg ho hvl
  obtain ⟨cur, c1, c2⟩ := exec_lit (w := w) hop ht hi hl a3
  have hlen : parts.toList.length = len := by have := congrArg List.length hi; simpa using this
  have hgl : gs.length = len := by rw [a1]; simpa using hlen
  have hcs : cur.size = len * sz := by
    have := VRL_length a4
    rw [flatten_length a2, hgl, ← c1] at this
    simpa using this.symm
  have h6 : 0 < sz := by obtain ⟨_, _, _, _, _, _, _, h6⟩ := ht.inf; exact h6
  have hml : len ≤ maxLen := by
    have : len ≤ len * sz := Nat.le_mul_of_pos_right _ h6
    simp only [maxLen]; omega
  obtain ⟨n, hn'⟩ := r.fresh d
  obtain ⟨E', e0, e1, e2, e3⟩ := r.new_tok hn' e sz (gs.length * sz) len hcs (by rw [hgl, hcs]; exact Nat.le_refl _) hml
  unfold Oper.wp
  rw [c2]
  refine hn _ _ _ E' _ e2 e3 ?_ (hK n (r.unused_none hn'))
  have := VR_sl_mk (xs := gs) (w := w.alloc (.cells cur e)) e0 e1 a2 (by rw [hgl]; exact Nat.le_refl _) hml (VRM_of_cells (VRL_keep e2 _ _ a4) a5 (by
    intro j u hj
    rw [← c1] at hj
    have hjl : j < cur.size := by simpa using (List.getElem?_eq_some_iff.1 hj).1
    refine ⟨?_, .inr ⟨_, _, rfl, e1, rfl, by show 0 + j < gs.length * sz; rw [hgl]; omega⟩⟩
    have hnew := heap_alloc_new w (.cells cur e)
    simp only [World.cell?, hnew, Nat.zero_add]
    simpa using hj))
  rw [hgl] at this
  exact this
end lit
def aops (P : Program) (ops : Array Oper) (K : Fr → Heap → Prop) : List Oper → Fr → Heap → Prop
  | [], fr, h => K fr h
  | o :: l, fr, h =>
    match o.guard with
    | none => match pv P h fr o.op with
      | some r => r.1 ∧ aops P ops K l (fput fr o.dst r.2) h
      | none => AOps P ops (o :: l) K fr h
    | some (j, want) => match (ops[j]?).bind (·.dst) with
      | some d => match fr[d]? with
        | some (.sc (.bool b)) => if b = want then match pv P h fr o.op with
            | some r => r.1 ∧ aops P ops K l (fput fr o.dst r.2) h
            | none => AOps P ops ({ o with guard := none } :: l) K fr h
          else aops P ops K l (fput fr o.dst (.sc undef)) h
        | some (.sc (.tuple _)) => aops P ops K l (fput fr o.dst (.sc undef)) h
        | _ => AOps P ops (o :: l) K fr h
      | none => AOps P ops (o :: l) K fr h
theorem AOp_pv {P : Program} {o : Oper} {K : AV → Heap → Prop} {fr : Fr} {h : Heap} {r : Prop × AV} (hp : pv P h fr o.op = some r) (hc : r.1) (hk : K r.2 h) : AOp P o K fr h :=
 AOp_value (x := r.2) (fun E w a rel hv => pv_sound (c := r.1) (x := r.2) hp hc E w a rel hv) hk
theorem AOps_unguard {P : Program} {ops : Array Oper} {o : Oper} {l : List Oper} {K : Fr → Heap → Prop} {fr : Fr} {h : Heap} (hw : ∀ E w (a : Act), VRL E w fr a.tmps.toList → Region.wanted o (yielded ops a.tmps) = true)
    (hu : AOps P ops ({ o with guard := none } :: l) K fr h) : AOps P ops (o :: l) K fr h := by
  intro E w a r v d Q hQ
  have := hu E w a r v d Q hQ
  unfold wpList at this ⊢
  rw [if_pos (hw E w a v)]
  rw [if_pos (show Region.wanted { o with guard := none } (yielded ops a.tmps) = true from rfl)] at this
  exact this
def ALe (h : Heap) (x y : AV) : Prop := ∀ E w v, Rel E h w → VR E w x v → VR E w y v
theorem ALe.refl (h : Heap) (x : AV) : ALe h x x := fun _ _ _ _ v => v
theorem ALe.trans {h : Heap} {x y z : AV} (a : ALe h x y) (b : ALe h y z) : ALe h x z := fun E w v r u => b E w v r (a E w v r u)
theorem ALe.any (h : Heap) (x : AV) : ALe h x .any := fun _ _ _ _ _ => by simp only [VR]
theorem ALe.nil (h : Heap) (sz n : Nat) (hn : n ≤ maxLen) : ALe h (.sc (.slice none 0 n)) (.sl none sz []) := fun _ _ v _ u => by
 simp only [VR] at u ⊢
 subst u
 exact ⟨none, n, rfl, Nat.zero_le _, hn, by simp, by simp, by simp⟩
theorem ALe.nil_e0 (h : Heap) : ALe h (.sc (.slice none 0 0)) .e0 := fun _ _ v _ u => by
 simp only [VR] at u ⊢
 exact ⟨none, u⟩
theorem ALe.e0 (h : Heap) (sz : Nat) : ALe h .e0 (.sl none sz []) := fun _ _ v _ u => by
 simp only [VR] at u ⊢
 obtain ⟨a, rfl⟩ := u
 exact ⟨a, 0, rfl, Nat.zero_le _, by simp [maxLen], by simp, by simp, by simp⟩
def notTok (h : Heap) (k : Key) : Prop := ∀ ty sz m, h k ≠ some (.tok ty sz m)
theorem Rel.tk_none {E : Env} {h : Heap} {w : World} (r : Rel E h w) {k : Key} (hk : notTok h k) : E.tk k = none := by
 cases e : E.tk k with
 | none => rfl
 | some t => obtain ⟨ty, e'⟩ := r.tkh k t e; exact absurd e' (hk _ _ _)
theorem VRM_untag {E : Env} {w : World} {k : Key} (hk : E.tk k = none) {g : Nat} : ∀ {o : Nat} {cs : List AV}, VRM E w (some k) g o cs → VRM E w none g o cs
 | _, [], _ => by simp [VRM]
 | o, x :: cs, hv => by
  simp only [VRM] at hv ⊢
  obtain ⟨h1, h2, h3⟩ := hv
  refine ⟨?_, h2, VRM_untag hk h3⟩
  rcases h1 with h1 | ⟨k', t, e1, e2, _⟩
  ·exact .inl h1
  ·cases e1; rw [hk] at e2; cases e2
theorem ALe.freeze {h : Heap} {k : Key} (hk : notTok h k) (sz : Nat) (xs : List (List AV)) : ALe h (.sl (some k) sz xs) (.sl none sz xs) := fun E w v r u => by
 have ht := r.tk_none hk
 simp only [VR] at u ⊢
 obtain ⟨a, cap, e, h1, h2, h3, h4, h5⟩ := u
 refine ⟨a, cap, e, h1, h2, ?_, h4, by simp⟩
 rcases h3 with h3 | ⟨g, o, e', h3⟩
 ·exact .inl h3
 ·exact .inr ⟨g, o, e', VRG_flat.2 (VRM_untag ht (VRG_flat.1 h3))⟩
inductive ALeL (h : Heap) : List AV → List AV → Prop where
 | nil : ALeL h [] []
 | cons {x y : AV} {xs ys : List AV} : ALe h x y → ALeL h xs ys → ALeL h (x :: xs) (y :: ys)
theorem ALeL.spec {h : Heap} {xs ys : List AV} (hl : ALeL h xs ys) : ∀ {E : Env} {w : World} {vs : List Value}, Rel E h w → VRL E w xs vs → VRL E w ys vs := by
 induction hl with
 | nil => intro E w vs r v; exact v
 | cons hx _ ih =>
  intro E w vs r v
  cases vs with
  | nil => simp only [VRL] at v
  | cons u us => simp only [VRL] at v ⊢; exact ⟨hx E w u r v.1, ih r v.2⟩
theorem ALeL.refl (h : Heap) : ∀ (xs : List AV), ALeL h xs xs
 | [] => .nil
 | x :: xs => .cons (ALe.refl h x) (ALeL.refl h xs)
theorem ALe.agg {h : Heap} {xs ys : List AV} (hl : ALeL h xs ys) : ALe h (.agg xs) (.agg ys) := fun E w v r u => by
 simp only [VR] at u ⊢
 obtain ⟨cs, e, hc⟩ := u
 exact ⟨cs, e, hl.spec r hc⟩
theorem ALe.tup {h : Heap} {xs ys : List AV} (hl : ALeL h xs ys) : ALe h (.tup xs) (.tup ys) := fun E w v r u => by
 simp only [VR] at u ⊢
 obtain ⟨cs, e, hc⟩ := u
 exact ⟨cs, e, hl.spec r hc⟩
theorem VRM_le {h : Heap} {E : Env} {w : World} (r : Rel E h w) {tag : Option Key} {g : Nat} {xs ys : List AV} (hl : ALeL h xs ys) : ∀ {o : Nat}, VRM E w tag g o xs → VRM E w tag g o ys := by
 induction hl with
 | nil => intro o v; exact v
 | cons hx _ ih =>
  intro o v
  simp only [VRM] at v ⊢
  obtain ⟨h1, ⟨cv, h2, h3, h4⟩, h5⟩ := v
  exact ⟨h1, ⟨cv, h2, h3, hx E w cv r h4⟩, ih h5⟩
inductive ALeG (h : Heap) : List (List AV) → List (List AV) → Prop where
 | nil : ALeG h [] []
 | cons {x y : List AV} {xs ys : List (List AV)} : ALeL h x y → ALeG h xs ys → ALeG h (x :: xs) (y :: ys)
theorem ALeL.length {h : Heap} {xs ys : List AV} (hl : ALeL h xs ys) : xs.length = ys.length := by
 induction hl with
 | nil => rfl
 | cons _ _ ih => simp [ih]
theorem ALeG.length {h : Heap} {xs ys : List (List AV)} (hl : ALeG h xs ys) : xs.length = ys.length := by
 induction hl with
 | nil => rfl
 | cons _ _ ih => simp [ih]
theorem ALeG.each {h : Heap} {xs ys : List (List AV)} (hl : ALeG h xs ys) {sz : Nat} (hs : ∀ x ∈ xs, x.length = sz) : ∀ y ∈ ys, y.length = sz := by
 induction hl with
 | nil => simp
 | cons hx _ ih =>
  intro y hy
  rcases List.mem_cons.1 hy with rfl | hy
  ·rw [← hx.length]; exact hs _ (by simp)
  ·exact ih (fun z hz => hs z (by simp [hz])) y hy
theorem VRG_le {h : Heap} {E : Env} {w : World} (r : Rel E h w) {tag : Option Key} {g : Nat} {xs ys : List (List AV)} (hl : ALeG h xs ys) : ∀ {o : Nat}, VRG E w tag g o xs → VRG E w tag g o ys := by
 induction hl with
 | nil => intro o v; exact v
 | cons hx _ ih =>
  intro o v
  simp only [VRG] at v ⊢
  rw [← hx.length]
  exact ⟨VRM_le r hx v.1, ih v.2⟩
theorem ALe.sl {h : Heap} {tag : Option Key} {sz : Nat} {xs ys : List (List AV)} (hl : ALeG h xs ys) : ALe h (.sl tag sz xs) (.sl tag sz ys) := fun E w v r u => by
 simp only [VR] at u ⊢
 obtain ⟨a, cap, e, h1, h2, h3, h4, h5⟩ := u
 rw [← hl.length]
 refine ⟨a, cap, e, h1, h2, ?_, hl.each h4, h5⟩
 rcases h3 with h3 | ⟨g, o, e', h3⟩
 ·subst h3; cases hl; exact .inl rfl
 ·exact .inr ⟨g, o, e', VRG_le r hl h3⟩
def Sub (h' h : Heap) : Prop := ∀ k e, h' k = some e → h k = some e
theorem Sub.refl (h : Heap) : Sub h h := fun _ _ e => e
theorem Sub.trans {a b c : Heap} (h : Sub a b) (k : Sub b c) : Sub a c := fun x e q => k x e (h x e q)
theorem Sub.upd {h' h : Heap} (hs : Sub h' h) {k : Key} (hk : h' k = none) (e : Option Ent) : Sub h' (upd h k e) := fun x e' hx => by
 have : x ≠ k := fun q => by subst q; rw [hk] at hx; cases hx
 rw [upd_ne _ _ this]
 exact hs x e' hx
theorem AW_le {P : Program} {c : Code} {Q : Exit → Fr → Heap → Prop} {fr fr' : Fr} {h h' : Heap} (hs : Sub h' h) (hl : ALeL h' fr fr') (hc : AW P c Q fr' h') : AW P c Q fr h := by
 intro E w a r v d
 obtain ⟨E', k, r'⟩ := r.drop hs
 exact wp_mono (hc E' w a r' (hl.spec r' (VRL_keep k _ _ v)) d) fun _ _ _ p => p.trans k
theorem ACalls_le {P : Program} {f : FuncId} {args args' : List AV} {Q : AV → Heap → Prop} {h : Heap} (hl : ALeL h args args') (hc : ACalls P f args' h Q) : ACalls P f args h Q :=
 fun E w vs r v => hc E w vs r (hl.spec r v)
def rdR (tmps : Array Value) : ResultVar → Sem Value
 | .tmp t => pure (tmps.getD t undef)
 | .cell a t => do loadVar t (← asAddr (tmps.getD a undef))
theorem results_rdR (fn : Func) (tmps : Array Value) : results fn tmps = (do let vs ← fn.results.mapM (rdR tmps); pure (if h : vs.size = 1 then vs[0] else .tuple vs)) := by
 unfold results
 congr 1
def rsA (P : Program) (h : Heap) (fr : Fr) : ResultVar → Option AV
 | .tmp t => some (fr.getD t .any)
 | .cell a t => (ldT P t).bind fun x => match fr.getD a .any with | .ptr k off => ldA h x.1 x.2 (.ptr k off) | _ => none
def rsL (P : Program) (h : Heap) (fr : Fr) : List ResultVar → Option (List AV)
 | [] => some []
 | r :: rs => (rsA P h fr r).bind fun x => (rsL P h fr rs).map fun xs => x :: xs
def resA (P : Program) (h : Heap) (fr : Fr) : List ResultVar → Option AV
 | [r] => rsA P h fr r
 | rs => (rsL P h fr rs).map .tup
section res
variable {P : Program} {E : Env} {h : Heap} {w : World}
theorem rsA_sound (r : Rel E h w) {fr : Fr} {tmps : Array Value} (v : VRL E w fr tmps.toList) {rv : ResultVar} {x : AV} (hx : rsA P h fr rv = some x) :
    ∃ u, (rdR tmps rv).run P w = .ok u w ∧ VR E w x u := by
  have hg : ∀ t, VR E w (fr.getD t .any) (tmps.getD t undef) := by
    intro t
    have := VRL_getD t undef v
    simpa [Array.getD_eq_getD_getElem?, List.getD] using this
  cases rv with
  | tmp t =>
    simp only [rsA, Option.some.injEq] at hx
    subst hx
    exact ⟨_, rfl, hg t⟩
  | cell a t =>
    simp only [rsA, Option.bind_eq_some_iff] at hx
    obtain ⟨⟨ag, n⟩, h1, h2⟩ := hx
    have ha := hg a
    split at h2
    · rename_i k off hk
      rw [hk] at ha
      obtain ⟨u, h3, h4⟩ := ldA_sound r h1 h2 ha
      simp only [VR] at ha
      obtain ⟨g, _, e⟩ := ha
      refine ⟨u, ?_, h4⟩
      rw [e] at h3
      have e' : tmps.getD a undef = .pointer (some ⟨g, off, none⟩) := e
      simp only [rdR, e']
      simpa [Instr.loadAt, Instr.sureAddr, asAddr] using h3
    · cases h2
theorem rsL_sound (r : Rel E h w) {fr : Fr} {tmps : Array Value} (v : VRL E w fr tmps.toList) : ∀ {rs : List ResultVar} {xs : List AV}, rsL P h fr rs = some xs →
    ∃ us, (rs.mapM (rdR tmps)).run P w = .ok us w ∧ VRL E w xs us
  | [], xs, hx => by cases hx; exact ⟨[], by simp, by simp [VRL]⟩
  | rv :: rs, xs, hx => by
    simp only [rsL, Option.bind_eq_some_iff, Option.map_eq_some_iff] at hx
    obtain ⟨x, h1, xs', h2, rfl⟩ := hx
    obtain ⟨u, h3, h4⟩ := rsA_sound (P := P) r v h1
    obtain ⟨us, h5, h6⟩ := rsL_sound r v h2
    refine ⟨u :: us, ?_, by simp only [VRL]; exact ⟨h4, h6⟩⟩
    simp only [List.mapM_cons, Sem.run_bind]
    rw [h3]
    simp only [Result.andThen_ok, h5]
    rfl
theorem resA_sound (r : Rel E h w) {fr : Fr} {tmps : Array Value} (v : VRL E w fr tmps.toList) {fn : Func} {x : AV} (hx : resA P h fr fn.results.toList = some x) : ∃ u, (results fn tmps).run P w = .ok u w ∧ VR E w x u := by
  obtain ⟨rs, hrs⟩ : ∃ rs, rs = fn.results.toList := ⟨_, rfl⟩
  have hre : fn.results = rs.toArray := by rw [hrs]
  have hrun : ∀ us, (rs.mapM (rdR tmps)).run P w = .ok us w →
      (results fn tmps).run P w = .ok (if h : us.toArray.size = 1 then us.toArray[0] else .tuple us.toArray) w := by
    intro us hus
    rw [results_rdR, hre, List.mapM_toArray]
    simp only [Sem.run_bind, Sem.run_map, hus, Result.andThen_ok, Sem.run_pure]
  rw [← hrs] at hx
  have gen : ∀ xs, rsL P h fr rs = some xs → ∃ us, (results fn tmps).run P w = .ok (if h : us.toArray.size = 1 then us.toArray[0] else .tuple us.toArray) w ∧ VRL E w xs us := by
    intro xs hxs
    obtain ⟨us, h1, h2⟩ := rsL_sound (P := P) r v hxs
    exact ⟨us, hrun us h1, h2⟩
  unfold resA at hx
  split at hx
  · rename_i rv
    obtain ⟨us, h1, h2⟩ := gen [x] (by simp [rsL, hx])
    cases us with
    | nil => simp only [VRL] at h2
    | cons u us =>
      simp only [VRL] at h2
      cases us with
      | nil => exact ⟨u, by simpa using h1, h2.1⟩
      | cons _ _ => simp only [VRL, and_false] at h2
  · rename_i hns
    simp only [Option.map_eq_some_iff] at hx
    obtain ⟨xs, h1, rfl⟩ := hx
    obtain ⟨us, h2, h3⟩ := gen xs h1
    have hl : us.length = rs.length := by
      have e1 := VRL_length h3
      have : ∀ (rs : List ResultVar) (xs : List AV), rsL P h fr rs = some xs → xs.length = rs.length := by
        intro rs
        induction rs with
        | nil => intro xs hx; cases hx; rfl
        | cons q rs ih =>
          intro xs hx
          simp only [rsL, Option.bind_eq_some_iff, Option.map_eq_some_iff] at hx
          obtain ⟨y, _, ys, hy, rfl⟩ := hx
          simp [ih ys hy]
      rw [← e1, this rs xs h1]
    have hne : ¬ us.toArray.size = 1 := by
      intro e
      have : rs.length = 1 := by rw [← hl]; simpa using e
      obtain ⟨q, hq⟩ := List.length_eq_one_iff.1 this
      exact hns q hq
    rw [dif_neg hne] at h2
    exact ⟨_, h2, by simp only [VR]; exact ⟨_, rfl, by simpa using h3⟩⟩
end res
def Ret (P : Program) (rs : List ResultVar) (Q : AV → Heap → Prop) : Exit → Fr → Heap → Prop
 | .normal, fr, h | .ret, fr, h => ∃ x y h'', resA P h fr rs = some x ∧ Sub h'' h ∧ ALe h'' x y ∧ Q y h''
 | _, _, _ => False
theorem ACalls_of_AW {P : Program} {f : FuncId} {fn : Func} {c : Code} {args : List AV} {h : Heap} {Q : AV → Heap → Prop} (hf : P.funcs[f]? = some fn) (hb : fn.body = some c)
    (hc : AW P c (Ret P fn.results.toList Q) (args ++ List.replicate (fn.ntmps - args.length) (.sc undef)) h) : ACalls P f args h Q := by
  intro E w vs r v
  refine calls_of_wp hf hb ?_
  have hl : args.length = vs.size := by simpa using VRL_length v
  have hv : VRL E w (args ++ List.replicate (fn.ntmps - args.length) (.sc undef)) (vs ++ Array.replicate (fn.ntmps - vs.size) undef).toList := by
    rw [Array.toList_append, ← hl]
    refine VRL_append v ?_
    have := VRL_sc (E := E) (w := w) (List.replicate (fn.ntmps - args.length) undef)
    simpa using this
  refine wp_mono (hc E w { tmps := vs ++ Array.replicate (fn.ntmps - vs.size) undef, defers := [] } r hv rfl) ?_
  intro e a' w' p
  obtain ⟨E', fr', h', k, r', v', d', q⟩ := p
  have fin : ∀ x y h'', resA P h' fr' fn.results.toList = some x → Sub h'' h' → ALe h'' x y → Q y h'' →
      a'.defers = [] ∧ ∃ u, (results fn a'.tmps).run P w' = .ok u w' ∧ (fun e w' => ∃ v E' x h', e = Ending.returned v ∧ Keep E w E' w' ∧ Rel E' h' w' ∧ VR E' w' x v ∧ Q x h') (Ending.returned u) w' := by
    intro x y h'' hx hs hl hq
    obtain ⟨u, h1, h2⟩ := resA_sound r' v' hx
    obtain ⟨E'', k'', r''⟩ := r'.drop hs
    exact ⟨d', u, h1, u, E'', y, h'', rfl, k.trans k'', r'', hl _ _ _ r'' (VR_keep k'' _ _ h2), hq⟩
  cases e with
  | normal => obtain ⟨x, y, h'', q1, q2, q3, q4⟩ := q; exact fin x y h'' q1 q2 q3 q4
  | ret => obtain ⟨x, y, h'', q1, q2, q3, q4⟩ := q; exact fin x y h'' q1 q2 q3 q4
  | exit id => exact q.elim
  | goto l => exact q.elim
  | panic ch => exact q.elim
  | outgrown => exact q.elim
theorem ElT.of {P : Program} {t e : TypeId} {sz b : Nat} (ht : P.underlying t = some (.slice e)) (hi : (P.info? e).map (fun i => (i.zero.map fun z => z.cells.size, i.size, i.bytes)) = some (some sz, sz, b)) (h0 : 0 < sz) : ElT P t e sz b := by
 refine ⟨ht, ?_⟩
 cases e1 : P.info? e with
 | none => rw [e1] at hi; simp at hi
 | some i =>
  cases e2 : i.zero with
  | none => rw [e1] at hi; simp [e2] at hi
  | some z =>
   rw [e1] at hi
   simp [e2] at hi
   exact ⟨i, z, rfl, e2, hi.2.1, hi.2.2, hi.1, h0⟩
def ac (P : Program) : Code → (Exit → Fr → Heap → Prop) → Fr → Heap → Prop
 | .skip, Q, fr, h => Q .normal fr h
 | .region id ops draw, Q, fr, h => match draw with
  | true => AW P (.region id ops true) Q fr h
  | false => aops P ops (Q .normal) ops.toList fr h
 | .seq a b, Q, fr, h => ac P a (Seq (ac P b Q) Q) fr h
 | .cond c x y, Q, fr, h => match ev fr c with
  | .sc (.bool b) => if b = true then ac P x Q fr h else ac P y Q fr h
  | _ => AW P (.cond c x y) Q fr h
 | .block id c, Q, fr, h => ac P c (Blk id Q) fr h
 | .exit id, Q, fr, h => Q (.exit id) fr h
 | .ret, Q, fr, h => Q .ret fr h
 | c, Q, fr, h => AW P c Q fr h
section steps
variable {P : Program} {Q : Exit → Fr → Heap → Prop} {fr : Fr} {h : Heap} {a b : Code}
theorem Zf (hk : ∀ K : Fr → Heap → Prop, (∀ fr h, AW P b Q fr h → K fr h) → AW P a (Seq K Q) fr h) : AW P (.seq a b) Q fr h := AW_seq (hk _ fun _ _ h => h)
end steps
def mf (n : Nat) (kvs : List (Nat × AV)) : Fr := kvs.foldl (fun fr p => fr.set p.1 p.2) (List.replicate n .any)
def fits (h : Heap) (fr : Fr) : List (Nat × AV) → Prop
 | [] => True
 | (i, v) :: r => (match fr[i]? with | some x => ALe h x v | none => False) ∧ fits h fr r
theorem ALe_self (h : Heap) (x : AV) : ALe h x x ↔ True := iff_true_intro (ALe.refl h x)
theorem ALe.int {h : Heap} {k : IntKind} {a b : Int} (e : a = b) : ALe h (.sc (.int k a)) (.sc (.int k b)) := e ▸ ALe.refl h _
attribute [go_sem] mf fits ALe_self List.foldl_cons List.foldl_nil
attribute [go_sem] undef ac pv pvc fput ev cv pkA pk bv ib sh sb unA cvA nilA exA intA ixA fdA ldA ldv bdA slA sl3 sl00 slM lnA tt Seq Blk Ret resA rsA rsL
attribute [go_sem] List.set_cons_succ List.set_cons_zero List.getD_cons_succ List.getD_cons_zero List.getElem?_cons_succ List.getElem?_cons_zero Option.bind_some Option.map_some Option.bind_none Option.map_none List.getElem?_toArray
 List.length_cons List.length_nil List.cons_append List.nil_append List.replicate true_and and_true forall_const if_true if_false false_and and_false false_implies implies_true true_implies Bool.not_true Bool.not_false not_true_eq_false not_false_eq_true decide_true decide_false decide_eq_true_eq decide_eq_false_iff_not List.head?_cons Int.natCast_zero List.map_nil List.drop_zero List.drop_succ_cons
section ops
variable {P : Program} {o : Oper} {K : AV → Heap → Prop} {fr : Fr} {h : Heap}
theorem AOp_eqnil {t u : TypeId} {x : Operand} (hop : o.op = .binOp .eql t x (.const (.slice none 0 0)) u) (ht : (elS P t).isSome = true) {y : AV} (hx : ev fr x = y)
    (hy : (∃ tag sz xs, y = .sl tag sz xs ∧ ∀ b : Bool, (xs ≠ [] → b = false) → K (.sc (.bool b)) h) ∨ (y = .sc (.slice none 0 0) ∧ K (.sc (.bool true)) h) ∨ (y = .e0 ∧ ∀ b : Bool, K (.sc (.bool b)) h)) : AOp P o K fr h := by
  intro E w a r hv Nx Qx hn
  have vx := hv x (by rw [hop]; simp [Op.operands])
  rw [hx] at vx
  obtain ⟨s, hs⟩ := Option.isSome_iff_exists.1 ht
  obtain ⟨e, hu, _⟩ := elS_spec hs
  have run : ∀ q n c, a.eval x = .slice q n c → (execOp a.eval o).run P w = .ok (.value (.bool q.isNone)) w := by
    intro q n c he
    have h2 : a.eval (.const (.slice none 0 0)) = .slice none 0 0 := rfl
    simp only [execOp, hop, he, h2]
    have h3 : (binOp .eql t (.slice q n c) (.slice none 0 0)).run P w = .ok (.bool q.isNone) w := by
      simp only [binOp]
      simp [run_equal_slice_nil w t e q n c hu]
    simp [eqGuard, h3]
  unfold Oper.wp
  rcases hy with ⟨tag, sz, xs, rfl, hk⟩ | ⟨rfl, hk⟩ | ⟨rfl, hk⟩
  · have vx' := vx
    simp only [VR] at vx
    obtain ⟨q, cap, e1, _, _, h3, _⟩ := vx
    rw [run q _ cap e1]
    refine hn _ _ w E h (Keep.refl E w) r (by simp only [VR]) (hk q.isNone ?_)
    intro hne
    obtain ⟨g, oo, rfl, _⟩ := h3.resolve_left hne
    rfl
  · simp only [VR] at vx
    rw [run none 0 0 vx]
    exact hn _ _ w E h (Keep.refl E w) r (by simp only [VR]; rfl) hk
  · simp only [VR] at vx
    obtain ⟨q, e1⟩ := vx
    rw [run q 0 0 e1]
    exact hn _ _ w E h (Keep.refl E w) r (by simp only [VR]) (hk q.isNone)
theorem AOp_lit0 {t e : TypeId} {sz b : Nat} (hop : o.op = .buildSlice t 0 #[]) (ht : ElT P t e sz b) (hK : K .e0 h) : AOp P o K fr h := by
 intro E w a r hv Nx Qx hn
 obtain ⟨cur, c1, c2⟩ := exec_lit (w := w) (a := a) hop ht (by simp) (by simp) (by simp)
 obtain ⟨E', e1, e2, e3⟩ := r.new_imm e (0, 0) cur
 unfold Oper.wp
 rw [c2]
 exact hn _ _ _ E' h e2 e3 (by simp only [VR]; exact ⟨_, rfl⟩) hK
def strOf : List (List AV) → Option (List UInt8)
 | [] => some []
 | [.sc (.int .u8 n)] :: r => (strOf r).map fun s => UInt8.ofNat n.toNat :: s
 | _ => none
theorem strOf_ints {E : Env} {w : World} : ∀ {xs : List (List AV)} {s : List UInt8}, strOf xs = some s → ∀ {cv : List Value}, VRL E w xs.flatten cv → ∃ ns : List Int, cv = ns.map (Value.int .u8) ∧ ns.map (fun n => UInt8.ofNat n.toNat) = s
 | [], s, hs, cv, hv => by
  cases hs
  cases cv with
  | nil => exact ⟨[], rfl, rfl⟩
  | cons _ _ => simp [VRL] at hv
 | x :: xs, s, hs, cv, hv => by
  unfold strOf at hs
  split at hs
  ·rename_i e; cases e
  ·rename_i n r e
   cases e
   simp only [Option.map_eq_some_iff] at hs
   obtain ⟨s', h1, rfl⟩ := hs
   simp only [List.flatten_cons, List.cons_append, List.nil_append] at hv
   cases cv with
   | nil => simp only [VRL] at hv
   | cons c cv =>
    simp only [VRL, VR] at hv
    obtain ⟨rfl, hv⟩ := hv
    obtain ⟨ns, h2, h3⟩ := strOf_ints h1 hv
    exact ⟨n :: ns, by rw [h2]; rfl, by rw [← h3]; rfl⟩
  ·cases hs
theorem foldl_push (ns : List Int) : ∀ (s : ByteArray), (ns.foldl (fun r n => r.push (UInt8.ofNat n.toNat)) s).data.toList = s.data.toList ++ ns.map fun n => UInt8.ofNat n.toNat := by
 induction ns with
 | nil => intro s; simp
 | cons n ns ih => intro s; rw [List.foldl_cons, ih]; simp
theorem byteArray_ext {a b : ByteArray} (h : a.data.toList = b.data.toList) : a = b := by
 cases a; cases b; congr 1; exact Array.ext' h
theorem AOp_str {src dst e : TypeId} {x : Operand} (hop : o.op = .convert src dst x) (hs : P.underlying src = some (.slice e)) (he : P.underlying e = some (.int .u8)) (hd : P.underlying dst = some .string)
    {tag : Option Key} {xs : List (List AV)} (hx : ev fr x = .sl tag 1 xs) {s : List UInt8} (hstr : strOf xs = some s) (hK : K (.sc (.string ⟨s.toArray⟩)) h) : AOp P o K fr h := by
  refine AOp_value (x := .sc (.string ⟨s.toArray⟩)) (fun E w a r hv => ?_) hK
  have vx := hv x (by rw [hop]; simp [Op.operands])
  rw [hx] at vx
  refine ⟨.string ⟨s.toArray⟩, ?_, by simp only [VR]⟩
  have hc : ∀ q n c, a.eval x = .slice q n c → ∀ v, (Conv.bytesToString (.slice q n c)).run P w = .ok v w → (execOp a.eval o).run P w = .ok (.value v) w := by
    intro q n c he' v hr
    simp only [execOp, hop, he', Sem.run_bind]
    rw [run_convert_bytes_string w src dst e q n c hs he hd, hr]
    simp
  by_cases hne : xs = []
  · subst hne
    cases hstr
    simp only [VR] at vx
    obtain ⟨q, cap, e1, _⟩ := vx
    refine hc _ _ _ e1 _ ?_
    cases q with
    | none => simp [Conv.bytesToString]; rfl
    | some b =>
      exact run_bytesToString (P := P) w b 0 cap [] (by simp [loadCells, loadCellsFrom])
  · obtain ⟨g, oo, cap, cv, e1, c1, c2, c3, c4⟩ := sl_cells vx hne
    obtain ⟨ns, h2, h3⟩ := strOf_ints hstr c1
    refine hc _ _ _ e1 _ ?_
    have hl := run_loadCells_list (P := P) w ⟨g, oo, none⟩ cv (fun j v hj => by rw [Addr.add_lit]; exact (c4 j v hj).1)
    rw [c3, Nat.mul_one, h2] at hl
    rw [run_bytesToString w ⟨g, oo, none⟩ xs.length cap ns (by simpa using hl)]
    congr 2
    apply byteArray_ext
    rw [foldl_push]
    simp [h3]
theorem AOp_conv_own {t e : TypeId} {x : Operand} (hop : o.op = .convert t t x) (hs : P.underlying t = some (.slice e)) (he : P.underlying e = some (.int .u8)) {k : Key} {sz : Nat} {xs : List (List AV)} (hx : ev fr x = .sl (some k) sz xs) {ty : TypeId} (hk : h k = some (.tok ty sz (xs.length * sz)))
    (hK : K (.sl none sz xs) (upd h k none)) : AOp P o K fr h := by
  intro E w a r hv Nx Qx hn
  have vx := hv x (by rw [hop]; simp [Op.operands])
  rw [hx] at vx
  obtain ⟨tk, cur, t1, t2, t3, t4, t5, t6, t7⟩ := r.tok _ _ _ _ hk
  have hblt := (Array.getElem?_eq_some_iff.1 t4).1
  have hat : E.at h k tk.b := .inr ⟨ty, _, _, tk, hk, t1, rfl⟩
  obtain ⟨d1, d2⟩ := r.dis k _ hat
  -- the key is let go first
  obtain ⟨E1, k1, r1⟩ := r.drop (h' := upd h k none) (fun x e hx => by
    by_cases q : x = k
    · subst q; rw [upd_same] at hx; cases hx
    · rw [upd_ne _ _ q] at hx; exact hx)
  have hval : a.eval x = .slice (some ⟨tk.b, 0, none⟩) xs.length tk.cap := by
    have vx' := vx
    simp only [VR] at vx'
    obtain ⟨q, cap, e1, _, _, _, _, e5⟩ := vx'
    obtain ⟨_, e6⟩ := e5 k rfl
    obtain ⟨_, e7⟩ := e6 tk t1
    obtain ⟨f1, f2, _⟩ := e7 t3.symm
    rw [e1, f1, f2]
  have vx1 : VR E1 w (.sl none sz xs) (a.eval x) := ALe.freeze (by intro _ _ _; rw [upd_same]; simp) sz xs E1 w _ r1 (VR_keep k1 _ _ vx)
  -- the block is marked
  have hsh : w.shape? tk.b = some (ty, cur.size) := by simp [World.shape?, t4]
  let w' := w.freeze ⟨tk.b, cur.size, none⟩ 1
  have hrun : (execOp a.eval o).run P w = .ok (.value (a.eval x)) w' := by
    simp only [execOp, hop, hval, Sem.run_bind]
    simp [convert, run_underlying hs, run_underlying he, markStringish, shape, freeze, Sem.run, hsh, w']
  have hoth : ∀ g, g ≠ tk.b → w'.heap[g]? = w.heap[g]? := by
    intro g hg
    simp [w', World.freeze, Array.getElem?_modify, Ne.symm hg]
  have hcell : ∀ g j, w'.cell? ⟨g, j, none⟩ = w.cell? ⟨g, j, none⟩ := by
    intro g j
    by_cases hg : g = tk.b
    · subst hg
      have : w'.heap[tk.b]? = some (.cells cur ty (cur.size, cur.size + 1)) := by
        simp [w', World.freeze, Array.getElem?_modify, t4]
      simp [World.cell?, this, t4]
    · exact cell_of_block (hoth g hg) j
  have hsz : w'.heap.size = w.heap.size := by simp [w', World.freeze]
  have nb : ∀ x g, E1.at (upd h k none) x g → g ≠ tk.b := by
    intro x g ha e
    subst e
    have hlock := (r1.dis x _ ha).2
    have hxk : x ≠ k := by
      intro q; subst q
      rcases ha with ⟨_, _, q, _⟩ | ⟨_, _, _, _, q, _⟩ <;> (rw [upd_same] at q; cases q)
    have : E.at h x tk.b := by
      rcases ha with ⟨a1, b1, q1, q2⟩ | ⟨a1, b1, c1, t', q1, q2, q3⟩
      · rw [upd_ne _ _ hxk] at q1
        have hob : ∃ g', E.ob x = some g' := by
          cases a1 with
          | obj ty1 cs1 => obtain ⟨g', cur', p1, _⟩ := r.obj x _ _ q1; exact ⟨g', p1⟩
          | mp es1 => obtain ⟨g', _, _, p1, _⟩ := r.mp x _ q1; exact ⟨g', p1⟩
          | tok _ _ _ => cases b1
        obtain ⟨g', p1⟩ := hob
        have := k1.ob _ _ p1
        rw [q2] at this; cases this
        exact .inl ⟨a1, b1, q1, p1⟩
      · rw [upd_ne _ _ hxk] at q1
        obtain ⟨t'', cur', p1, p2, p3, _⟩ := r.tok x a1 b1 c1 q1
        obtain ⟨t3', p4, p5, p6⟩ := k1.tkf x t' q2 (r.hus x _ q1)
        rw [p1] at p4; cases p4
        obtain ⟨ty'', q4⟩ := r1.tkh x t' q2
        rw [upd_ne _ _ hxk, q1] at q4; cases q4
        have : t'' = t' := p6 (by omega)
        subst this
        exact .inr ⟨a1, _, _, _, q1, p1, q3⟩
    exact hxk (r.sep x k _ this hat)
  have k2 : Keep E1 w E1 w' := by
    refine ⟨fun g o' ho => ⟨ho, hcell g o'⟩, fun _ => Iff.rfl, ?_, fun _ h => h, fun _ _ h => h, fun x t ht o' ho => ⟨.inr ⟨t, ht, rfl, ho⟩, hcell _ _⟩, fun _ t ht _ => ⟨t, ht, Nat.le_refl _, fun _ => rfl⟩, ?_, ?_, ?_, by rw [hsz]; exact Nat.le_refl _⟩
    · intro g hg
      exact hoth g fun e => d1 (e ▸ (k1.lockEq g).1 hg)
    · simp [w', World.freeze]
    · simp [w', World.freeze]
    · simp [w', World.freeze]
  have r2 : Rel E1 (upd h k none) w' := by
    refine ⟨?_, ?_, r1.tkh, r1.sep, r1.dis, r1.hus, r1.obu, r1.fre, ?_, ?_, ?_⟩
    · intro x ty' cs' hx'
      obtain ⟨g, cur', e1, e2, e3, e4⟩ := r1.obj x ty' cs' hx'
      exact ⟨g, cur', e1, by rw [hoth g (nb x g (.inl ⟨_, rfl, hx', e1⟩))]; exact e2, VRL_keep k2 _ _ e3, e4⟩
    · intro x ty' sz' m' hx'
      obtain ⟨t', cur', e1, e2, e3, e4, e5⟩ := r1.tok x ty' sz' m' hx'
      exact ⟨t', cur', e1, e2, e3, by rw [hoth _ (nb x _ (.inr ⟨_, _, _, _, hx', e1, rfl⟩))]; exact e4, e5⟩
    · intro g o' ho
      obtain ⟨v, hv'⟩ := r1.imb g o' ho
      exact ⟨v, (hcell g o').trans hv'⟩
    · intro g hg
      rw [hsz]; exact r1.lkb g hg
    · intro x es hx'
      obtain ⟨g, ents, clk, e1, e2, e3⟩ := r1.mp x es hx'
      exact ⟨g, ents, clk, e1, by rw [hoth g (nb x g (.inl ⟨_, rfl, hx', e1⟩))]; exact e2, e3⟩
  unfold Oper.wp
  rw [hrun]
  exact hn _ _ w' E1 _ (k1.trans k2) r2 (VR_keep k2 _ _ vx1) hK
end ops
open Go.ChangeShapes Go.WideShapes
def E0 (W : World) : Env := ⟨fun g o => (W.cell? ⟨g, o, none⟩).isSome = true, fun g => g < W.heap.size, fun _ => False, fun _ => none, fun _ => none⟩
def H0 : Heap := fun _ => none
theorem Rel.start (W : World) : Rel (E0 W) H0 W := by
 refine ⟨fun _ _ _ h => (by cases h), fun _ _ _ _ h => (by cases h), fun _ _ h => (by cases h), ?_, ?_, fun _ _ h => (by cases h), fun _ _ h => (by cases h), fun d => ⟨0, fun n _ h => h⟩, ?_, fun g h => h, fun _ _ h => (by cases h)⟩
 ·rintro k k' g (⟨_, _, h, _⟩ | ⟨_, _, _, _, h, _⟩) <;> cases h
 ·rintro k g (⟨_, _, h, _⟩ | ⟨_, _, _, _, h, _⟩) <;> cases h
 ·intro g o h
  exact Option.isSome_iff_exists.1 h
section
variable {H : Type} {enc : TypeId × Value → H} {P : Program} {W W' : World}
theorem trodAll_stays {E' : Env} (k : Keep (E0 W) W E' W') (hl : laidOutB P = true) : ∀ {ts : List TypeId} {vs : List Value} {ds : List (DataW H)} {ps : List MemPlace},
    (∀ t ∈ ts, P.readableRec t = true ∧ t < P.types.size) → (∀ p ∈ ps, p.block < W.heap.size) → DataW.TrodAll enc P W 0 (fun _ => true) true ts vs ds ps →
    DataW.TrodAll enc P W' 0 (fun b => decide (b < W.heap.size)) true ts vs ds ps
  | [], _, _, _, _, _, h => by
    obtain ⟨rfl, rfl, rfl⟩ := trodAll_nil h
    rfl
  | t :: ts, _, _, _, hr, hp, h => by
    obtain ⟨v, vs', d, ds', p, q, rfl, rfl, rfl, h1, h2⟩ := trodAll_cons h
    have hsame : ∀ x ∈ p, W.sameAt W' x := by
      intro x hx
      have hb := hp x (by simp [hx])
      have hk := k.lock x.block hb
      cases x with
      | cell b off => exact cell_of_block hk off
      | map b => exact hk
    exact ⟨p, q, WideElems.Trod_stays hl (hr t (by simp)).1 (hr t (by simp)).2 h1 hsame (fun x hx => by simpa using hp x (by simp [hx])),
      trodAll_stays k hl (fun t' h' => hr t' (by simp [h'])) (fun x hx => hp x (by simp [hx])) h2, rfl⟩
theorem post_of_keep {f : Func} {s : ChangeSpec} {apart fresh handsOn : Bool} {E' : Env} {args : Array Value} {ds gs : List (DataW H)} {before : List MemPlace} {t : TypeId} (hl : laidOutB P = true)
    (hr : ∀ t ∈ f.params.toList, P.readableRec t = true ∧ t < P.types.size) (hW : DataW.Whole enc P f.params.toList s.vars apart W args.toList ds gs before) (hv : s.vars = []) (k : Keep (E0 W) W E' W')
    (ht : f.resultTypes = #[t]) (hb : P.underlying t = some .bool)
    (hfn : ∀ ds : List (DataW H), ds.length = f.params.toList.length → s.fn H ds = { results := [.lit (.bool true)], args := ds }) :
    s.post enc P f apart fresh handsOn false W args (.bool true) W' := by
  have hlt := hW.lt
  have hW0 := hW
  obtain ⟨p, q, hA, hV, rfl, hfz, hnd⟩ := hW
  rw [hv] at hV
  obtain ⟨rfl, rfl⟩ := trodVars_none hV
  have hlen : ∀ {ts : List TypeId} {vs : List Value} {ds : List (DataW H)} {ps : List MemPlace}, DataW.TrodAll enc P W 0 (fun _ => true) true ts vs ds ps → ds.length = ts.length := by
    intro ts
    induction ts with
    | nil => intro vs ds ps h; obtain ⟨-, rfl, -⟩ := trodAll_nil h; rfl
    | cons t ts ih => intro vs ds ps h; obtain ⟨v, vs', d, ds', p, q, -, rfl, -, -, h2⟩ := trodAll_cons h; simp [ih h2]
  have e := hfn ds (hlen hA)
  refine ⟨ds, [], _, [], p, [], hW0, ?_, ?_, ?_, ?_, fun h => by cases h⟩
  · rw [List.append_nil, e, ht]
    exact ⟨[], [], ⟨1, by simp [DataW.trod, Value.cells, hb]⟩, rfl, rfl⟩
  · rw [List.append_nil, e]
    exact trodAll_stays k hl hr (fun x hx => hlt x (by simp [hx])) hA
  · rw [List.append_nil, e, hv]
    rfl
  · refine ⟨k.os, k.output, fun i hi => ?_⟩
    rw [k.lock i hi]
    cases hq : W.heap[i]? with
    | none => trivial
    | some o => cases o <;> simp
theorem VR_number {E : Env} {w : World} {t : TypeId} {k : IntKind} {v : Value} {d : DataW H} {ps : List MemPlace} {base : Nat} (ht : P.underlying t = some (.int k)) (hval : Value.okWide P W .any base t v)
    (h : DataW.Trod enc P W 0 (fun _ => true) true t v d ps) : ∃ n : Int, VR E w (.sc (.int k n)) v ∧ (Lit.int k n).wf = true := by
  obtain ⟨n, rfl, -, -, hw⟩ := open_int ht hval h
  exact ⟨n, by simp only [VR], hw⟩
theorem law_lift {C : Checked} {os : Os} {f : FuncId} {fn : Func} {s : ChangeSpec} {conds : List PathCond} {apart fresh handsOn : Bool} {t : TypeId} (own : ownKnob C.prog.godebug = none) (started : os.Started) (noInit : C.prog.inits.idxOf? f = none) (hfn : C.prog.funcs[f]? = some fn)
    (witness : ∃ (w : World) (tape : Tape) (i : Input), w.os = os ∧ (w.forCall tape i).Shaped C.prog ∧ i.vars = [] ∧ Input.okWide C.prog (w.forCall tape i) .any w.heap.size f i ∧
      s.pre6 enc C.prog fn conds apart (w.forCall tape i).memory i.args ∧ ({} : Assume).holds C.prog (lone (Frame.enter C.prog f i.args .normal) [] (w.forCall tape i)))
    (hl : laidOutB C.prog = true) (hr : ∀ t ∈ fn.params.toList, C.prog.readableRec t = true ∧ t < C.prog.types.size) (hv : s.vars = []) (ht : fn.resultTypes = #[t]) (hb : C.prog.underlying t = some .bool)
    (hs : ∀ ds : List (DataW H), ds.length = fn.params.toList.length → s.fn H ds = { results := [.lit (.bool true)], args := ds })
    (hrun : ∀ (W : World) (base : Nat) (args : Array Value) (ds : List (DataW H)) (ps : List MemPlace), (∀ (j : Nat) t v, fn.params[j]? = some t → args[j]? = some v → Value.okWide C.prog W .any base t v) →
      DataW.TrodAll enc C.prog W 0 (fun _ => true) true fn.params.toList args.toList ds ps → ∃ avs, VRL (E0 W) W avs args.toList ∧ ACalls C.prog f avs H0 (fun r _ => r = .sc (.bool true))) :
    ReturnsInHanded {} C os f .any (s.pre6 enc C.prog fn conds apart) (s.post enc C.prog fn apart fresh handsOn false) := by
  refine returnsInHanded_of_change own started noInit hfn witness ?_
  intro W base args ds gs before hval hW _ _
  have hW0 := hW
  obtain ⟨p, q, hA, _, _, _, _⟩ := hW
  obtain ⟨avs, h1, h2⟩ := hrun W base args ds p hval hA
  refine (h2 (E0 W) W args (Rel.start W) h1).mono ?_
  rintro e W' ⟨v, E', x, h', rfl, k, r', vx, rfl⟩
  simp only [VR] at vx
  subst vx
  exact ⟨_, rfl, post_of_keep hl hr hW0 hv k ht hb hs⟩
end
inductive Frz (k : Key) (cs : List AV) : AV → AV → Prop where
 | same (x : AV) : Frz k cs x x
 | view (off n sz : Nat) : 0 < sz → off + n * sz ≤ cs.length → Frz k cs (.view k off n) (.sl none sz (grp sz n (cs.drop off)))
inductive FrzL (k : Key) (cs : List AV) : List AV → List AV → Prop where
 | nil : FrzL k cs [] []
 | cons {x y : AV} {xs ys : List AV} : Frz k cs x y → FrzL k cs xs ys → FrzL k cs (x :: xs) (y :: ys)
theorem FrzL.refl (k : Key) (cs : List AV) : ∀ (xs : List AV), FrzL k cs xs xs
 | [] => .nil
 | x :: xs => .cons (.same x) (FrzL.refl k cs xs)
theorem FrzL.set (k : Key) (cs : List AV) {off n sz : Nat} (h0 : 0 < sz) (h1 : off + n * sz ≤ cs.length) : ∀ (i : Nat) (xs : List AV), xs[i]? = some (.view k off n) → FrzL k cs xs (xs.set i (.sl none sz (grp sz n (cs.drop off))))
 | _, [], h => by simp at h
 | 0, x :: xs, h => by
  simp only [List.getElem?_cons_zero, Option.some.injEq] at h
  subst h
  exact .cons (.view off n sz h0 h1) (FrzL.refl k cs xs)
 | i + 1, x :: xs, h => .cons (.same x) (FrzL.set k cs h0 h1 i xs (by simpa using h))
def own (t : Option Key) (sz : Nat) (xs : List (List AV)) : AV := match t with
 | none => .sc (.slice none 0 0)
 | some k => .sl (some k) sz xs
structure OwnOk (h : Heap) (t : Option Key) (xs : List (List AV)) : Prop where
 nil : t = none → xs = []
 new : ∀ k, t = some k → h k = none
theorem OwnOk.none (h : Heap) : OwnOk h none [] := ⟨fun _ => rfl, fun _ e => (by cases e)⟩
theorem ALeL.put {h : Heap} {x y : AV} : ∀ (i : Nat) (fr : List AV), fr[i]? = some x → ALe h x y → ALeL h fr (fr.set i y)
 | _, [], e, _ => by simp at e
 | 0, z :: fr, e, hl => by
  simp only [List.getElem?_cons_zero, Option.some.injEq] at e
  subst e
  exact .cons hl (ALeL.refl h fr)
 | i + 1, z :: fr, e, hl => .cons (ALe.refl h z) (ALeL.put i fr (by simpa using e) hl)
section ops
variable {P : Program} {o : Oper} {K : AV → Heap → Prop} {fr : Fr} {h : Heap}
end ops
abbrev KV := Nat → AV
def k0 : KV := fun _ => .any
def kp (f : KV) (d : Nat) (x : AV) : KV := fun t => bif Nat.beq d t then x else f t
def fm (n : Nat) (f : KV) : Fr := (List.range n).map f
def lk (n : Nat) (f : KV) (t : Nat) : AV := bif Nat.blt t n then f t else .any
def evk (n : Nat) (f : KV) : Operand → AV
 | .tmp t => lk n f t
 | .const v => cv v
 | .global _ => .any
 | .func f => .fn (.func f) []
def putk (f : KV) (d : Option Tmp) (x : AV) : KV := match d with | some d => kp f d x | none => f
theorem fm_get (n : Nat) (f : KV) (t : Nat) : (fm n f)[t]? = if t < n then some (f t) else none := by
 unfold fm
 rw [List.getElem?_map]
 by_cases h : t < n
 ·rw [List.getElem?_range h]; simp [h]
 ·rw [List.getElem?_eq_none (by simpa using h)]; simp [h]
theorem fm_length (n : Nat) (f : KV) : (fm n f).length = n := by simp [fm]
theorem lk_eq (n : Nat) (f : KV) (t : Nat) : lk n f t = if t < n then f t else .any := by
 unfold lk
 by_cases h : t < n
 ·have : Nat.blt t n = true := by rw [Nat.blt_eq]; exact h
  simp [this, h]
 ·have : Nat.blt t n = false := by
   cases e : Nat.blt t n with
   | false => rfl
   | true => rw [Nat.blt_eq] at e; exact absurd e h
  simp [this, h]
theorem ev_fm (n : Nat) (f : KV) (o : Operand) : ev (fm n f) o = evk n f o := by
 cases o with
 | tmp t =>
  simp only [ev, evk, List.getD, fm_get, lk_eq]
  split <;> rfl
 | const v => rfl
 | global g => rfl
 | func f => rfl
theorem kp_same (f : KV) (d : Nat) (x : AV) : kp f d x d = x := by simp [kp]
theorem kp_ne (f : KV) {d t : Nat} (x : AV) (h : d ≠ t) : kp f d x t = f t := by
 have : Nat.beq d t = false := by
  cases e : Nat.beq d t with
  | false => rfl
  | true => exact absurd (Nat.eq_of_beq_eq_true e) h
 simp [kp, this]
theorem fput_fm (n : Nat) (f : KV) (d : Option Tmp) (x : AV) : fput (fm n f) d x = fm n (putk f d x) := by
 cases d with
 | none => rfl
 | some d =>
  simp only [fput, putk]
  apply List.ext_getElem?
  intro t
  rw [List.getElem?_set, fm_length, fm_get, fm_get]
  by_cases h : d = t
  ·subst h
   simp [kp_same]
  ·simp [h, kp_ne]
theorem lk_sc {n : Nat} {f : KV} {t : Nat} {u : Value} (h : lk n f t = .sc u) : (fm n f)[t]? = some (.sc u) := by
 rw [lk_eq] at h
 rw [fm_get]
 split at h
 ·rename_i q; rw [if_pos q, h]
 ·cases h
def FT (h : Heap) (n : Nat) (f g : KV) : Prop := ∀ t, t < n → ALe h (f t) (g t)
theorem FT.nil {h : Heap} {n : Nat} {f : KV} : FT h n f k0 := fun _ _ => ALe.any _ _
theorem FT.cons {h : Heap} {n : Nat} {f g : KV} {d : Nat} {v : AV} (hv : ALe h (lk n f d) v) (hf : FT h n f g) : FT h n f (kp g d v) := by
 intro t ht
 by_cases e : d = t
 ·subst e
  rw [lk_eq, if_pos ht] at hv
  rw [kp_same]; exact hv
 ·rw [kp_ne _ _ e]; exact hf t ht
theorem ALeL_of_get {h : Heap} : ∀ {xs ys : List AV}, xs.length = ys.length → (∀ (i : Nat) (x y : AV), xs[i]? = some x → ys[i]? = some y → ALe h x y) → ALeL h xs ys
 | [], [], _, _ => .nil
 | x :: xs, y :: ys, hl, hg => .cons (hg 0 x y rfl rfl) (ALeL_of_get (by simpa using hl) fun i a b ha hb => hg (i + 1) a b (by simpa using ha) (by simpa using hb))
 | [], _ :: _, hl, _ => by simp at hl
 | _ :: _, [], hl, _ => by simp at hl
theorem ALeL_fm {h : Heap} {n : Nat} {f g : KV} (hf : FT h n f g) : ALeL h (fm n f) (fm n g) := by
 refine ALeL_of_get (by rw [fm_length, fm_length]) ?_
 intro i x y hx hy
 rw [fm_get] at hx hy
 by_cases hi : i < n
 ·rw [if_pos hi] at hx hy
  cases hx; cases hy
  exact hf i hi
 ·rw [if_neg hi] at hx; cases hx
def LeF (fr' : Fr) (h' : Heap) (fr : Fr) (h : Heap) : Prop :=
 ∀ E w vs, Rel E h w → VRL E w fr vs → ∃ E', Keep E w E' w ∧ Rel E' h' w ∧ VRL E' w fr' vs
theorem LeF.of {fr fr' : Fr} {h h' : Heap} (hs : Sub h' h) (hl : ALeL h' fr fr') : LeF fr' h' fr h := fun E w vs r v => by
 obtain ⟨E', k, r'⟩ := r.drop hs
 exact ⟨E', k, r', hl.spec r' (VRL_keep k _ _ v)⟩
theorem LeF.fm {n : Nat} {f g : KV} {h h' : Heap} (hs : Sub h' h) (hf : FT h' n f g) : LeF (fm n g) h' (fm n f) h := .of hs (ALeL_fm hf)
theorem LeF.trans {fr fr1 fr2 : Fr} {h h1 h2 : Heap} (a : LeF fr1 h1 fr h) (b : LeF fr2 h2 fr1 h1) : LeF fr2 h2 fr h := fun E w vs r v => by
 obtain ⟨E', k, r', v'⟩ := a E w vs r v
 obtain ⟨E'', k', r'', v''⟩ := b E' w vs r' v'
 exact ⟨E'', k.trans k', r'', v''⟩
theorem LeF.aw {P : Program} {c : Code} {Q : Exit → Fr → Heap → Prop} {fr fr' : Fr} {h h' : Heap} (le : LeF fr' h' fr h) (hc : AW P c Q fr' h') : AW P c Q fr h := by
 intro E w a r v d
 obtain ⟨E', k, r', v'⟩ := le E w _ r v
 exact wp_mono (hc E' w a r' v' d) fun _ _ _ p => p.trans k
section rules
variable {P : Program} {Q : Exit → Fr → Heap → Prop} {h : Heap} {n : Nat} {kvs : KV}
def argk : Nat → List AV → KV
 | _, [] => k0
 | i, x :: xs => kp (argk (i + 1) xs) i x
theorem look_argk (undefs : Nat) : ∀ (i : Nat) (xs : List AV) (t : Nat), argk i xs (i + t) = (xs ++ List.replicate undefs AV.any).getD t AV.any
 | i, [], t => by
  simp only [argk, k0, List.nil_append, List.getD, List.getElem?_replicate]
  split <;> rfl
 | i, x :: xs, 0 => by simp [argk, kp]
 | i, x :: xs, t + 1 => by
  simp only [argk]
  rw [kp_ne _ _ (by omega)]
  have := look_argk undefs (i + 1) xs t
  rw [show i + 1 + t = i + (t + 1) from by omega] at this
  rw [this]
  simp
theorem ACalls_fm {f : FuncId} {fn : Func} {c : Code} {args : List AV} {Q : AV → Heap → Prop} (n : Nat) (rs : List ResultVar) (hf : P.funcs[f]? = some fn) (hb : fn.body = some c) (hn : fn.ntmps = n) (hr : fn.results.toList = rs) (hle : Nat.ble args.length n = true)
    (hc : AW P c (Ret P rs Q) (fm n (argk 0 args)) h) : ACalls P f args h Q := by
  have hle := Nat.le_of_ble_eq_true hle
  refine ACalls_of_AW hf hb ?_
  rw [hn, hr]
  refine AW_le (Sub.refl h) (ALeL_of_get ?_ ?_) hc
  · rw [fm_length, List.length_append, List.length_replicate]; omega
  · intro i x y hx hy
    rw [fm_get] at hy
    split at hy
    · cases hy
      have e := look_argk (n - args.length) 0 args i
      rw [Nat.zero_add] at e
      rw [e]
      by_cases hi : i < args.length
      · rw [List.getElem?_append_left hi] at hx
        simp only [List.getD, List.getElem?_append_left hi, hx, Option.getD_some]
        exact ALe.refl _ _
      · simp only [List.getD, List.getElem?_append_right (Nat.le_of_not_lt hi), List.getElem?_replicate]
        split <;> exact ALe.any _ _
    · cases hy
theorem Za {id : Nat} {l : List Oper} (hl : AOps P l.toArray l (Q .normal) (fm n kvs) h) : AW P (.region id l.toArray false) Q (fm n kvs) h := AW_region hl
theorem AW_if' {c : Operand} {x y : Code} {t : Bool} (hc : evk n kvs c = .sc (.bool t)) (ht : t = true → AW P x Q (fm n kvs) h) (hf : t = false → AW P y Q (fm n kvs) h) : AW P (.cond c x y) Q (fm n kvs) h :=
 AW_if (by rw [ev_fm]; exact hc) ht hf
theorem rsA_fm (P : Program) (h : Heap) {t : Nat} : rsA P h (fm n kvs) (.tmp t) = some (lk n kvs t) := by
 have := ev_fm n kvs (.tmp t)
 simp only [ev, evk] at this
 simp only [rsA, this]
theorem Ret.one {Q : AV → Heap → Prop} {t : Nat} {e : Exit} {y : AV} {h'' : Heap} (he : e = .ret ∨ e = .normal) (hs : Sub h'' h) (hl : ALe h'' (lk n kvs t) y) (hq : Q y h'') : Ret P [.tmp t] Q e (fm n kvs) h := by
 rcases he with rfl | rfl <;> exact ⟨_, y, h'', rsA_fm P h, hs, hl, hq⟩
theorem Ret.zero {Q : AV → Heap → Prop} {e : Exit} {h'' : Heap} (he : e = .ret ∨ e = .normal) (hs : Sub h'' h) (hq : Q (.tup []) h'') : Ret P [] Q e (fm n kvs) h := by
 rcases he with rfl | rfl <;> exact ⟨_, .tup [], h'', rfl, hs, ALe.refl _ _, hq⟩
theorem Ret.two {Q : AV → Heap → Prop} {t u : Nat} {e : Exit} {y z : AV} {h'' : Heap} (he : e = .ret ∨ e = .normal) (hs : Sub h'' h) (hl : ALe h'' (lk n kvs t) y) (hl' : ALe h'' (lk n kvs u) z) (hq : Q (.tup [y, z]) h'') : Ret P [.tmp t, .tmp u] Q e (fm n kvs) h := by
 have hx : resA P h (fm n kvs) [.tmp t, .tmp u] = some (.tup [lk n kvs t, lk n kvs u]) := by
  simp only [resA, rsL, rsA_fm, Option.bind_some, Option.map_some]
 rcases he with rfl | rfl <;> exact ⟨_, _, h'', hx, hs, ALe.tup (.cons hl (.cons hl' .nil)), hq⟩
inductive Lp (σ ρ : Type) where
 | go (s : σ)
 | brk (s : σ)
 | ret (r : ρ)
def loopM {σ ρ : Type} (step : σ → Option (Lp σ ρ)) : Nat → σ → Option (Lp σ ρ)
 | 0, _ => none
 | k + 1, s => match step s with
  | some (.go s') => loopM step k s'
  | x => x
def after {σ ρ : Type} (m : Option (Lp σ ρ)) (k : σ → Option ρ) : Option ρ := match m with
 | some (.brk s) => k s
 | some (.ret r) => some r
 | _ => none
theorem Zc {α ρ : Type} {x : Option α} {k : α → Option ρ} {o : ρ} (hm : x.bind k = some o) : ∃ a, x = some a ∧ k a = some o := by
 cases x with
 | none => cases hm
 | some a => exact ⟨a, rfl, hm⟩
def ix {α : Type} (l : List α) (i : Int) : Option α := if 0 ≤ i then l[i.toNat]? else none
theorem ix_spec {α : Type} {l : List α} {i : Int} {x : α} (h : ix l i = some x) : 0 ≤ i ∧ i < l.length ∧ l[i.toNat]? = some x := by
 unfold ix at h
 split at h
 ·have := (List.getElem?_eq_some_iff.1 h).1
  exact ⟨by assumption, by omega, h⟩
 ·cases h
end rules
def AOpV (P : Program) (o : Oper) (x : AV) (fr : Fr) (h : Heap) : Prop := AOp P o (fun x' h' => x' = x ∧ h' = h) fr h
section ops
variable {P : Program} {ops : Array Oper} {K : Fr → Heap → Prop} {h : Heap} {n : Nat} {kvs : KV} {l : List Oper} {ty : TypeId} {pos : String} {aft : Array Edge}
theorem Zb (hk : K (fm n kvs) h) : AOps P ops [] K (fm n kvs) h := AOps_nil hk
theorem s_op {dst : Option Tmp} {op : Op} (ho : AOp P ⟨dst, op, ty, pos, aft, none⟩ (fun x h' => AOps P ops l K (fm n (putk kvs dst x)) h') (fm n kvs) h) : AOps P ops (⟨dst, op, ty, pos, aft, none⟩ :: l) K (fm n kvs) h :=
 AOps_plain rfl (ho.mono fun x h' q => by rw [fput_fm]; exact q)
theorem s_v {dst : Option Tmp} {op : Op} {x : AV} (ho : AOpV P ⟨dst, op, ty, pos, aft, none⟩ x (fm n kvs) h) (k : AOps P ops l K (fm n (putk kvs dst x)) h) : AOps P ops (⟨dst, op, ty, pos, aft, none⟩ :: l) K (fm n kvs) h :=
 s_op (ho.mono fun x' h' q => by rw [q.1, q.2]; exact k)
theorem q_v {K : Fr → Prop} {dst : Option Tmp} {op : Op} {x : AV} (ho : AOpV P ⟨dst, op, ty, pos, aft, none⟩ x (fm n kvs) h) (k : AQuiet P ops h K l (fm n (putk kvs dst x))) : AQuiet P ops h K (⟨dst, op, ty, pos, aft, none⟩ :: l) (fm n kvs) :=
 AQuiet_plain x rfl ho (by rw [fput_fm]; exact k)
theorem sg_y {dst : Option Tmp} {op : Op} {j : Nat} {want b : Bool} {dj : Nat} (hd : (ops[j]?).bind (·.dst) = some dj) (hu : lk n kvs dj = .sc (.bool b)) (hb : b = want)
    (k : AOps P ops (⟨dst, op, ty, pos, aft, none⟩ :: l) K (fm n kvs) h) : AOps P ops (⟨dst, op, ty, pos, aft, some (j, want)⟩ :: l) K (fm n kvs) h := by
  refine AOps_unguard (o := ⟨dst, op, ty, pos, aft, some (j, want)⟩) ?_ k
  intro E w a v
  simp [Region.wanted, yielded_of v hd (lk_sc hu), hb]
theorem Zo {dst : Option Tmp} {op : Op} {j : Nat} {want b : Bool} {dj : Nat} (hd : (ops[j]?).bind (·.dst) = some dj) (hu : lk n kvs dj = .sc (.bool b)) (hb : b = !want)
    (k : AOps P ops l K (fm n (putk kvs dst (.sc undef))) h) : AOps P ops (⟨dst, op, ty, pos, aft, some (j, want)⟩ :: l) K (fm n kvs) h := by
  refine AOps_skip (o := ⟨dst, op, ty, pos, aft, some (j, want)⟩) ?_ (by rw [fput_fm]; exact k)
  intro E w a v
  simp [Region.wanted, yielded_of v hd (lk_sc hu), hb]
theorem sg_u {dst : Option Tmp} {op : Op} {j : Nat} {want : Bool} {dj : Nat} {vs : Array Value} (hd : (ops[j]?).bind (·.dst) = some dj) (hu : lk n kvs dj = .sc (.tuple vs))
    (k : AOps P ops l K (fm n (putk kvs dst (.sc undef))) h) : AOps P ops (⟨dst, op, ty, pos, aft, some (j, want)⟩ :: l) K (fm n kvs) h := by
  refine AOps_skip (o := ⟨dst, op, ty, pos, aft, some (j, want)⟩) ?_ (by rw [fput_fm]; exact k)
  intro E w a v
  simp [Region.wanted, yielded_of v hd (lk_sc hu)]
theorem Zk {K : Fr → Prop} {dst : Option Tmp} {op : Op} {j : Nat} {want b : Bool} {dj : Nat} (hd : (ops[j]?).bind (·.dst) = some dj) (hu : lk n kvs dj = .sc (.bool b)) (hb : b = want)
    (k : AQuiet P ops h K (⟨dst, op, ty, pos, aft, none⟩ :: l) (fm n kvs)) : AQuiet P ops h K (⟨dst, op, ty, pos, aft, some (j, want)⟩ :: l) (fm n kvs) := by
  subst hb
  obtain ⟨x, hy, hn⟩ := k
  rcases hy with ⟨_, h2⟩ | ⟨h1, _⟩
  · exact AQuiet_guard_yes (o := ⟨dst, op, ty, pos, aft, some (j, b)⟩) x rfl hd (lk_sc hu) (fun E w a r v => h2 E w a r v) hn
  · rcases h1 with ⟨_, h1⟩ | ⟨_, _, _, h1, _⟩
    · cases h1
    · cases h1
theorem Ze {K : Fr → Prop} {dst : Option Tmp} {op : Op} {j : Nat} {want b : Bool} {dj : Nat} (hd : (ops[j]?).bind (·.dst) = some dj) (hu : lk n kvs dj = .sc (.bool b)) (hb : b = !want)
    (k : AQuiet P ops h K l (fm n (putk kvs dst (.sc undef)))) : AQuiet P ops h K (⟨dst, op, ty, pos, aft, some (j, want)⟩ :: l) (fm n kvs) := by
  subst hb
  exact AQuiet_guard_no (o := ⟨dst, op, ty, pos, aft, some (j, want)⟩) rfl hd (.inl (lk_sc hu)) (by rw [fput_fm]; exact k)
theorem qg_u {K : Fr → Prop} {dst : Option Tmp} {op : Op} {j : Nat} {want : Bool} {dj : Nat} {vs : Array Value} (hd : (ops[j]?).bind (·.dst) = some dj) (hu : lk n kvs dj = .sc (.tuple vs))
    (k : AQuiet P ops h K l (fm n (putk kvs dst (.sc undef)))) : AQuiet P ops h K (⟨dst, op, ty, pos, aft, some (j, want)⟩ :: l) (fm n kvs) :=
  AQuiet_guard_no (o := ⟨dst, op, ty, pos, aft, some (j, want)⟩) rfl hd (.inr ⟨_, lk_sc hu⟩) (by rw [fput_fm]; exact k)
theorem o_pv {dst : Option Tmp} {op : Op} {c : Prop} {x : AV} (hp : pv P h (fm n kvs) op = some (c, x)) (hc : c) : AOpV P ⟨dst, op, ty, pos, aft, none⟩ x (fm n kvs) h :=
 AOp_pv hp hc ⟨rfl, rfl⟩
theorem o_mv {dst : Option Tmp} {a : Operand} (x : AV) (hx : evk n kvs a = x) :
    AOpV P ⟨dst, .move a, ty, pos, aft, none⟩ (x) (fm n kvs) h :=
  o_pv (by simp only [pv, ev_fm, hx]) trivial
theorem o_as {dst : Option Tmp} {a : Operand} (x : AV) (hx : evk n kvs a = x) :
    AOpV P ⟨dst, .assign a, ty, pos, aft, none⟩ (x) (fm n kvs) h :=
  o_pv (by simp only [pv, ev_fm, hx]) trivial
theorem o_bs {dst : Option Tmp} {op : BinOp} {t u : TypeId} {a b : Operand} {x y : ByteArray} {c : Prop} {v : Value} (ha : evk n kvs a = .sc (.string x)) (hb : evk n kvs b = .sc (.string y)) (hv : sb op x y = some (c, v)) (hc : c) :
    AOpV P ⟨dst, .binOp op t a b u, ty, pos, aft, none⟩ ((.sc v)) (fm n kvs) h :=
  o_pv (c := c) (x := .sc v) (by simp only [pv, ev_fm, ha, hb, bv, hv, Option.map_some]) hc
theorem o_len {dst : Option Tmp} {a : Operand} {t : TypeId} {tag : Option Key} {sz : Nat} {xs : List (List AV)} (ht : lnT P t = some true) (ha : evk n kvs a = .sl tag sz xs) :
    AOpV P ⟨dst, .call { callee := .builtin .len, args := #[a], argTypes := #[t] }, ty, pos, aft, none⟩ ((.sc (.int .i64 xs.length))) (fm n kvs) h :=
  o_pv (c := True) (x := .sc (.int .i64 xs.length)) (by simp only [pv, pvc, ev_fm, ha, ht, lnA, Option.map_some, Option.bind_some, tt, if_true]) trivial
theorem o_lenm {α : Type} {e : α → List AV} {xs : List α} {dst : Option Tmp} {a : Operand} {t : TypeId} {tag : Option Key} {sz : Nat} (ht : lnT P t = some true) (ha : evk n kvs a = .sl tag sz (xs.map e)) :
    AOpV P ⟨dst, .call { callee := .builtin .len, args := #[a], argTypes := #[t] }, ty, pos, aft, none⟩ ((.sc (.int .i64 xs.length))) (fm n kvs) h :=
  by
  have := o_len (P := P) (h := h) (n := n) (kvs := kvs) (dst := dst) (ty := ty) (pos := pos) (aft := aft) ht ha
  rwa [List.length_map] at this
theorem o_ix {α : Type} {e : α → List AV} {xs : List α} {x : α} {dst : Option Tmp} {a b : Operand} {t : TypeId} {tag : Option Key} {sz : Nat} {q : IntKind} {i : Int} (hi : ix xs i = some x) (ht : elS P t = some sz) (ha : evk n kvs a = .sl tag sz (xs.map e)) (hb : evk n kvs b = .sc (.int q i)) :
    AOpV P ⟨dst, .indexAddr t a b, ty, pos, aft, none⟩ ((.rp tag (e x))) (fm n kvs) h := by
  obtain ⟨h0, h1, h2⟩ := ix_spec hi
  refine o_pv (c := (sz = sz ∧ 0 ≤ i) ∧ i < (xs.map e).length) (x := .rp tag (e x)) ?_ ⟨⟨rfl, h0⟩, by rw [List.length_map]; exact h1⟩
  have : (xs.map e).getD i.toNat [] = e x := by simp [List.getD, h2]
  simp only [pv, ev_fm, ha, hb, intA, ixA, ht, Option.bind_some, this]
theorem o_ld {dst : Option Tmp} {a : Operand} {t : TypeId} {tag : Option Key} {cs : List AV} {ag : Bool} {m : Nat} (x : AV) (ht : ldT P t = some (ag, m)) (ha : evk n kvs a = .rp tag cs) (hx : ldv ag m cs = some x) :
    AOpV P ⟨dst, .load t a, ty, pos, aft, none⟩ (x) (fm n kvs) h :=
  o_pv (c := True) (x := x) (by simp only [pv, ev_fm, ha, ht, Option.bind_some, ldA, hx, Option.map_some, tt]) trivial
theorem Zg {dst : Option Tmp} {a : Operand} {t : TypeId} {q : Key} {off : Nat} {oty : TypeId} {cs : List AV} {ag : Bool} {m : Nat} (x : AV) (ht : ldT P t = some (ag, m)) (ha : evk n kvs a = .ptr q off) (hk : h q = some (.obj oty cs)) (hx : ldv ag m (cs.drop off) = some x) :
    AOpV P ⟨dst, .load t a, ty, pos, aft, none⟩ (x) (fm n kvs) h :=
  o_pv (c := True) (x := x) (by simp only [pv, ev_fm, ha, ht, Option.bind_some, ldA, hk, hx, Option.map_some, tt]) trivial
theorem a_call {K : AV → Heap → Prop} {dst : Option Tmp} {f : FuncId} {g : Operand} {args : Array Operand} {ts : Array TypeId} {caps az : List AV} {Q : AV → Heap → Prop} (hc : ACalls P f az h Q) (hg : evk n kvs g = .fn (.func f) caps) (hb : bodied P f = true) (ha : args.toList.map (evk n kvs) ++ caps = az)
    (k : ∀ x h', Q x h' → K x h') : AOp P ⟨dst, .call { callee := .value g, args := args, argTypes := ts }, ty, pos, aft, none⟩ K (fm n kvs) h := by
  refine AOp_call rfl (by rw [ev_fm]; exact hg) hb ?_
  have e : args.toList.map (ev (fm n kvs)) = args.toList.map (evk n kvs) := List.map_congr_left fun o _ => ev_fm n kvs o
  rw [e, ha]
  exact hc.mono fun x h' q => k x h' q
theorem o_call {dst : Option Tmp} {f : FuncId} {g : Operand} {args : Array Operand} {ts : Array TypeId} {caps az : List AV} {x : AV} (hc : ACalls P f az h (fun x' h' => x' = x ∧ h' = h)) (hg : evk n kvs g = .fn (.func f) caps) (hb : bodied P f = true) (ha : args.toList.map (evk n kvs) ++ caps = az) :
    AOpV P ⟨dst, .call { callee := .value g, args := args, argTypes := ts }, ty, pos, aft, none⟩ x (fm n kvs) h := by
  refine AOp_call rfl (by rw [ev_fm]; exact hg) hb ?_
  have e : args.toList.map (ev (fm n kvs)) = args.toList.map (evk n kvs) := List.map_congr_left fun o _ => ev_fm n kvs o
  rw [e, ha]
  exact hc
end ops
abbrev HL := List (Option Key × Ent)
def hp (h0 : Heap) : HL → Heap
 | [] => h0
 | (none, _) :: r => hp h0 r
 | (some k, e) :: r => upd (hp h0 r) k (some e)
def HOk (h0 : Heap) : HL → Prop
 | [] => True
 | (t, _) :: r => HOk h0 r ∧ ∀ k, t = some k → hp h0 r k = none
theorem Zd {h0 : Heap} {k : Key} {e : Ent} : ∀ {L : HL} (i : Nat), HOk h0 L → L[i]? = some (some k, e) → hp h0 L k = some e
 | [], i, _, h => by simp at h
 | (t, e') :: r, 0, _, h => by
  simp only [List.getElem?_cons_zero, Option.some.injEq, Prod.mk.injEq] at h
  obtain ⟨rfl, rfl⟩ := h
  simp only [hp, upd_same]
 | (t, e') :: r, i + 1, ok, h => by
  have ih := Zd (L := r) i ok.1 (by simpa using h)
  cases t with
  | none => exact ih
  | some k' =>
   have : k ≠ k' := fun q => by
    have := ok.2 k' rfl
    rw [← q, ih] at this
    cases this
   simp only [hp]
   rw [upd_ne _ _ this]
   exact ih
theorem hp_sub {h0 : Heap} : ∀ {L' L : HL}, L'.Sublist L → HOk h0 L → Sub (hp h0 L') (hp h0 L) ∧ HOk h0 L' := by
 intro L' L hs
 induction hs with
 | slnil => intro _; exact ⟨Sub.refl _, trivial⟩
 | @cons l1 l2 a hs ih =>
  intro ok
  obtain ⟨i1, i2⟩ := ih ok.1
  obtain ⟨t, e⟩ := a
  refine ⟨?_, i2⟩
  cases t with
  | none => exact i1
  | some k =>
   intro x e' hx
   have h1 := i1 x e' hx
   have : x ≠ k := fun q => by
    have := ok.2 k rfl
    rw [← q, h1] at this
    cases this
   simp only [hp]
   rw [upd_ne _ _ this]
   exact h1
 | @cons_cons l1 l2 a hs ih =>
  intro ok
  obtain ⟨i1, i2⟩ := ih ok.1
  obtain ⟨t, e⟩ := a
  cases t with
  | none => exact ⟨i1, i2, fun _ q => by cases q⟩
  | some k =>
   refine ⟨?_, i2, ?_⟩
   ·intro x e' hx
    simp only [hp] at hx ⊢
    by_cases q : x = k
    ·subst q
     rw [upd_same] at hx ⊢
     exact hx
    ·rw [upd_ne _ _ q] at hx ⊢
     exact i1 x e' hx
   ·intro k' hk'
    cases hk'
    cases h : hp h0 l1 k with
    | none => rfl
    | some e' =>
     have := i1 k e' h
     rw [ok.2 k rfl] at this
     cases this
theorem hp_put {h0 : Heap} {k : Key} {t : Option Key} {e e' : Ent} : ∀ {L : HL} (i : Nat), HOk h0 L → L[i]? = some (t, e) → (t = some k ∨ (t = none ∧ hp h0 L k = none)) →
    upd (hp h0 L) k (some e') = hp h0 (L.set i (some k, e')) ∧ HOk h0 (L.set i (some k, e')) ∧ ∀ x, x ≠ k → hp h0 (L.set i (some k, e')) x = hp h0 L x
  | [], i, _, h, _ => by simp at h
  | (t', e0) :: r, 0, ok, h, ht => by
    simp only [List.getElem?_cons_zero, Option.some.injEq, Prod.mk.injEq] at h
    obtain ⟨rfl, rfl⟩ := h
    simp only [List.set_cons_zero]
    rcases ht with rfl | ⟨rfl, ht⟩
    · refine ⟨?_, ⟨ok.1, fun k' q => by cases q; exact ok.2 _ rfl⟩, fun x hx => ?_⟩
      · simp only [hp]; funext q; unfold upd; split <;> rfl
      · simp only [hp]; rw [upd_ne _ _ hx, upd_ne _ _ hx]
    · refine ⟨rfl, ⟨ok.1, fun k' q => by cases q; exact ht⟩, fun x hx => ?_⟩
      simp only [hp]; rw [upd_ne _ _ hx]
  | (t', e0) :: r, i + 1, ok, h, ht => by
    have h' : r[i]? = some (t, e) := by simpa using h
    cases t' with
    | none =>
      obtain ⟨h1, h2, h3⟩ := hp_put (e' := e') i ok.1 h' ht
      exact ⟨h1, ⟨h2, fun _ q => by cases q⟩, h3⟩
    | some k' =>
      have hne : k ≠ k' := by
        rcases ht with rfl | ⟨rfl, ht⟩
        · intro q
          have h1 := ok.2 k' rfl
          rw [← q, Zd i ok.1 h'] at h1
          cases h1
        · intro q
          subst q
          simp only [hp, upd_same] at ht
          cases ht
      have ht' : t = some k ∨ (t = none ∧ hp h0 r k = none) := by
        rcases ht with ht | ⟨ht, h1⟩
        · exact .inl ht
        · refine .inr ⟨ht, ?_⟩
          simp only [hp] at h1
          rwa [upd_ne _ _ hne] at h1
      obtain ⟨h1, h2, h3⟩ := hp_put (e' := e') i ok.1 h' ht'
      simp only [List.set_cons_succ, hp]
      refine ⟨?_, ⟨h2, fun k2 q => ?_⟩, fun x hx => ?_⟩
      · rw [← h1]
        funext q; simp only [upd]
        by_cases q1 : q = k
        · subst q1; simp [hne]
        · simp [q1]
      · cases q
        rw [h3 k' hne.symm]
        exact ok.2 k' rfl
      · simp only [upd]
        split
        · rfl
        · exact h3 x hx
section rules
variable {P : Program} {Q : Exit → Fr → Heap → Prop} {h : Heap} {n : Nat}
end rules
def ow (t : Option Key) (sz : Nat) (xs : List (List AV)) : AV := match t with
 | none => .e0
 | some k => .sl (some k) sz xs
def app {α : Type} (xs ys : List α) : Option (List α) := if xs.length + ys.length ≤ 1000000000 then some (xs ++ ys) else none
theorem app_spec {α : Type} {xs ys zs : List α} (h : app xs ys = some zs) : zs = xs ++ ys ∧ xs.length + ys.length ≤ 1000000000 := by
 unfold app at h
 split at h
 ·exact ⟨(Option.some.inj h).symm, by assumption⟩
 ·cases h
def slc {α : Type} (l : List α) (lo hi : Int) : Option (List α) := if 0 ≤ lo ∧ lo ≤ hi ∧ hi ≤ l.length then some ((l.take hi.toNat).drop lo.toNat) else none
theorem HOk.nil (h0 : Heap) : HOk h0 [] := trivial
theorem HOk.none {h0 : Heap} {L : HL} {e : Ent} (hk : HOk h0 L) : HOk h0 ((none, e) :: L) := ⟨hk, nofun⟩
theorem hp_erase {h0 : Heap} {k : Key} {e : Ent} : ∀ {L : HL} (i : Nat), HOk h0 L → L[i]? = some (some k, e) → hp h0 (L.eraseIdx i) k = Option.none
 | [], i, _, h => by simp at h
 | (t, e') :: r, 0, ok, h => by
  simp only [List.getElem?_cons_zero, Option.some.injEq, Prod.mk.injEq] at h
  obtain ⟨rfl, rfl⟩ := h
  exact ok.2 _ rfl
 | (t, e') :: r, i + 1, ok, h => by
  have h' : r[i]? = some (some k, e) := by simpa using h
  have ih := hp_erase (L := r) i ok.1 h'
  simp only [List.eraseIdx_cons_succ]
  cases t with
  | none => exact ih
  | some k' =>
   have : k ≠ k' := fun q => by
    have h2 := ok.2 k' rfl
    rw [← q, Zd i ok.1 h'] at h2
    cases h2
   simp only [hp]
   rw [upd_ne _ _ this]
   exact ih
theorem sub_none {h h' : Heap} (hs : Sub h' h) {k : Key} (hk : h k = Option.none) : h' k = Option.none := by
 cases e : h' k with
 | none => rfl
 | some x => have := hs k x e; rw [hk] at this; cases this
theorem hp_base_none {h0 : Heap} {k : Key} {e : Ent} {L : HL} (i : Nat) (hk : HOk h0 L) (hi : L[i]? = some (some k, e)) : h0 k = Option.none := by
 have h1 := hp_erase i hk hi
 have h2 := (hp_sub (List.eraseIdx_sublist L i) hk).2
 have h3 := (hp_sub (h0 := h0) (L' := []) (List.nil_sublist (L.eraseIdx i)) h2).1
 exact sub_none h3 h1
theorem ow_nil {α : Type} {c : α → List AV} (h : Heap) (sz : Nat) : ALe h (.sc (.slice Option.none 0 0)) (ow Option.none sz (List.map c [])) := ALe.nil_e0 h
theorem own_frz {α : Type} {c : α → List AV} {xs : List α} {t : Option Key} {h : Heap} (sz : Nat) (ot : t = Option.none → xs = []) (hn : ∀ k, t = some k → h k = Option.none) : ALe h (ow t sz (xs.map c)) (.sl Option.none sz (xs.map c)) := by
 cases t with
 | none => rw [ot rfl]; exact ALe.e0 h sz
 | some k => exact ALe.freeze (fun _ _ _ => by rw [hn k rfl]; simp) sz _
theorem own_frz0 {α : Type} {c : α → List AV} {xs : List α} {t : Option Key} {h0 : Heap} {L : HL} {e : Ent} (sz : Nat) (i : Nat) (ot : t = Option.none → xs = []) (hk : HOk h0 L) (hi : L[i]? = some (t, e)) : ALe h0 (ow t sz (xs.map c)) (.sl Option.none sz (xs.map c)) :=
 own_frz sz ot fun k q => hp_base_none i hk (by rw [hi, q])
theorem own_frzE {α : Type} {c : α → List AV} {xs : List α} {t : Option Key} {h0 : Heap} {L L' : HL} {e : Ent} (sz : Nat) (i : Nat) (ot : t = Option.none → xs = []) (hk : HOk h0 L) (hi : L[i]? = some (t, e)) (hs : L'.Sublist (L.eraseIdx i)) : ALe (hp h0 L') (ow t sz (xs.map c)) (.sl Option.none sz (xs.map c)) :=
 own_frz sz ot fun k q => sub_none (hp_sub hs (hp_sub (List.eraseIdx_sublist L i) hk).2).1 (hp_erase i hk (by rw [hi, q]))
theorem nil_le {h : Heap} (sz : Nat) : ALe h (.sc (.slice Option.none 0 0)) (.sl Option.none sz []) := ALe.nil h sz 0 (by simp [maxLen])
theorem nil_lem {α : Type} {c : α → List AV} {h : Heap} (sz : Nat) : ALe h (.sc (.slice Option.none 0 0)) (.sl Option.none sz (List.map c [])) := nil_le sz
theorem ACalls_hp {P : Program} {h : Heap} {f : FuncId} {fn : Func} {c : Code} {args : List AV} {Q : AV → Heap → Prop} (n : Nat) (rs : List ResultVar) (hf : P.funcs[f]? = some fn) (hb : fn.body = some c) (hn : fn.ntmps = n) (hr : fn.results.toList = rs) (hle : Nat.ble args.length n = true)
    (hc : AW P c (Ret P rs Q) (fm n (argk 0 args)) (hp h [])) : ACalls P f args h Q := ACalls_fm n rs hf hb hn hr hle hc
theorem hp_cat (h0 : Heap) (L : HL) (x : Option Key × Ent) : hp (hp h0 L) [x] = hp h0 (x :: L) := by
 obtain ⟨t, e⟩ := x
 cases t <;> rfl
theorem LeF.put {n : Nat} {kvs : KV} {h h' : Heap} {t : Nat} {v : AV} (hs : Sub h' h) (hv : ALe h' (lk n kvs t) v) : LeF (Vm.fm n (kp kvs t v)) h' (Vm.fm n kvs) h :=
 LeF.fm hs (.cons hv fun _ _ => ALe.refl _ _)
theorem ALeL.app {h : Heap} {xs ys : List AV} : ∀ (k : Nat) {zs : List AV}, zs.length = k → ALeL h xs ys → ALeL h (zs ++ xs) (zs ++ ys)
 | 0, [], _, hl => hl
 | k + 1, z :: zs, hz, hl => .cons (ALe.refl _ _) (ALeL.app k (by simpa using hz) hl)
 | 0, _ :: _, hz, _ => by simp at hz
 | _ + 1, [], hz, _ => by simp at hz
theorem LeF.obj {h0 : Heap} {L : HL} {n : Nat} {f : KV} {k : Key} {ty : TypeId} {cs : List AV} (i : Nat) (cs' : List AV) (hk : HOk h0 L) (hi : L[i]? = some (some k, .obj ty cs)) (hl : ALeL (hp h0 L) cs cs') :
    HOk h0 (L.set i (some k, .obj ty cs')) ∧ LeF (Vm.fm n f) (hp h0 (L.set i (some k, .obj ty cs'))) (Vm.fm n f) (hp h0 L) := by
  obtain ⟨h1, h2, _⟩ := hp_put (e' := .obj ty cs') i hk hi (.inl rfl)
  refine ⟨h2, fun E w vs r v => ?_⟩
  obtain ⟨g, cur, e1, e2, e3, e4⟩ := r.obj k ty cs (Zd i hk hi)
  obtain ⟨k1, r1⟩ := r.set_obj (Zd i hk hi) e1 (w' := w) e2 (fun _ _ => rfl) (Nat.le_refl _) rfl rfl rfl (hl.spec r e3) e4
  rw [h1] at r1
  exact ⟨E, k1, r1, v⟩
section ops
variable {P : Program} {ops : Array Oper} {K : Fr → Heap → Prop} {h h0 : Heap} {L : HL} {n : Nat} {kvs : KV} {l : List Oper} {ty : TypeId} {pos : String} {aft : Array Edge}
theorem a_app {K : AV → Heap → Prop} {α : Type} {c : α → List AV} {xs ys zs : List α} {dst : Option Tmp} {s x : Operand} {t e : TypeId} {sz b : Nat} {tg : Option Key} (i : Nat) (hm : app xs ys = some zs) (ht : ElT P t e sz b) (hb : Nat.ble b 100000 = true)
    (ha : evk n kvs s = ow tg sz (xs.map c)) (hi : L[i]? = some (tg, .tok e sz (xs.length * sz))) (ot : tg = none → xs = []) (hk : HOk h0 L) (hx : srcOf (hp h0 L) sz (evk n kvs x) = some (ys.map c))
    (k : ∀ tg', (tg' = none → zs = []) → HOk h0 (L.set i (tg', .tok e sz (zs.length * sz))) → K (ow tg' sz (zs.map c)) (hp h0 (L.set i (tg', .tok e sz (zs.length * sz))))) :
    AOp P ⟨dst, .call { callee := .builtin .append, args := #[s, x], argTypes := #[t, t] }, ty, pos, aft, none⟩ K (fm n kvs) (hp h0 L) := by
  obtain ⟨rfl, hsz⟩ := app_spec hm
  have hb' := Nat.le_of_ble_eq_true hb
  have hbound : (xs.length + ys.length) * (b + 1) ≤ 140737488355328 := by
    have : (xs.length + ys.length) * (b + 1) ≤ 1000000000 * 100001 := Nat.mul_le_mul hsz (by omega)
    omega
  cases tg with
  | none =>
    have hx0 := ot rfl
    subst hx0
    refine (AOp_append_nil rfl 0 ht (by rw [ev_fm]; exact ha) (.inr rfl) (by rw [ev_fm]; exact hx) (by rw [List.length_map]; simpa using hbound) (fun e0 => ?_) (fun e0 q hq => ?_))
    · have : ys = [] := by simpa using e0
      subst this
      have := k none (fun _ => rfl) (by
        have e1 : L.set i (none, Ent.tok e sz (([] : List α).length * sz)) = L := by
          apply List.ext_getElem?; intro j; rw [List.getElem?_set]; split
          · rename_i q; subst q; split
            · exact hi.symm
            · rename_i q; rw [List.getElem?_eq_none (Nat.le_of_not_lt q)]
          · rfl
        rw [List.nil_append, e1]; exact hk)
      have e1 : L.set i (none, Ent.tok e sz (([] ++ [] : List α).length * sz)) = L := by
        apply List.ext_getElem?; intro j; rw [List.getElem?_set]; split
        · rename_i q; subst q; split
          · exact hi.symm
          · rename_i q; rw [List.getElem?_eq_none (Nat.le_of_not_lt q)]
        · rfl
      rw [e1] at this
      exact this
    · obtain ⟨h1, h2, _⟩ := hp_put (e' := .tok e sz ((ys.map c).length * sz)) i hk hi (.inr ⟨rfl, hq⟩)
      rw [h1]
      rw [List.length_map] at h1 h2 ⊢
      exact k (some (0, q)) (fun q => by cases q) h2
  | some kk =>
    have hg := Zd i hk hi
    refine (AOp_append_tok rfl ht (k := kk) (by rw [ev_fm]; exact ha) (by rw [hg, List.length_map]) (by rw [ev_fm]; exact hx) (by rw [List.length_map, List.length_map]; exact hbound) ?_)
    obtain ⟨h1, h2, _⟩ := hp_put (e' := .tok e sz ((xs.map c ++ ys.map c).length * sz)) i hk hi (.inl rfl)
    rw [h1]
    rw [← List.map_append, List.length_map] at h1 h2 ⊢
    exact k (some kk) (fun q => by cases q) h2
theorem AOp_le {o : Oper} {K : AV → Heap → Prop} {fr fr' : Fr} (hl : ∀ y ∈ o.op.operands, ALe h (ev fr y) (ev fr' y)) (ho : AOp P o K fr' h) : AOp P o K fr h :=
 fun E w a r v => ho E w a r fun y hy => hl y hy E w _ r (v y hy)
theorem a_app0 {K : AV → Heap → Prop} {α : Type} {c : α → List AV} {ys zs : List α} {dst : Option Tmp} {s : Nat} {x : Operand} {t e : TypeId} {sz b : Nat} (hm : app [] ys = some zs) (ht : ElT P t e sz b) (hb : Nat.ble b 100000 = true)
    (ha : evk n kvs (.tmp s) = .sc (.slice none 0 0)) (hk : HOk h0 L) (hne : x ≠ .tmp s) (hx : srcOf (hp h0 L) sz (evk n kvs x) = some (ys.map c))
    (k : ∀ tg', (tg' = none → zs = []) → HOk h0 ((tg', .tok e sz (zs.length * sz)) :: L) → K (ow tg' sz (zs.map c)) (hp h0 ((tg', .tok e sz (zs.length * sz)) :: L))) :
    AOp P ⟨dst, .call { callee := .builtin .append, args := #[.tmp s, x], argTypes := #[t, t] }, ty, pos, aft, none⟩ K (fm n kvs) (hp h0 L) := by
  have hlt : s < n := by
    simp only [evk, lk_eq] at ha
    split at ha
    · assumption
    · cases ha
  refine AOp_le (fr' := fm n (kp kvs s (ow none sz (([] : List α).map c)))) ?_ (a_app (c := c) (L := (none, .tok e sz (([] : List α).length * sz)) :: L) (xs := []) 0 hm ht hb ?_ rfl (fun _ => rfl) ⟨hk, nofun⟩ ?_ ?_)
  · intro y hy
    rw [ev_fm, ev_fm]
    have hy : y = .tmp s ∨ y = x := by simpa [Op.operands, Call.operands] using hy
    rcases hy with rfl | rfl
    · rw [ha]
      simp only [evk, lk_eq, if_pos hlt, kp_same]
      exact ow_nil _ sz
    · cases y with
      | tmp u =>
        have hus : s ≠ u := fun q => hne (by rw [q])
        simp only [evk, lk_eq, kp_ne _ _ hus]
        exact ALe.refl _ _
      | const v => exact ALe.refl _ _
      | global g => exact ALe.refl _ _
      | func f => exact ALe.refl _ _
  · simp only [evk, lk_eq, if_pos hlt, kp_same]
  · have e1 : evk n (kp kvs s (ow none sz (([] : List α).map c))) x = evk n kvs x := by
      cases x with
      | tmp u =>
        have hus : s ≠ u := fun q => hne (by rw [q])
        simp only [evk, lk_eq, kp_ne _ _ hus]
      | const v => rfl
      | global g => rfl
      | func f => rfl
    rw [e1]
    exact hx
  · intro tg' h1 h2
    exact k tg' h1 h2
theorem a_litg {K : AV → Heap → Prop} {α : Type} {c : α → List AV} {dst : Option Tmp} {t e : TypeId} {sz b len : Nat} {parts : Array (Nat × Operand)} (xs : List α) (hk : HOk h0 L) (ht : ElT P t e sz b) (hi : parts.toList.map (·.1) = List.range len) (hl : Nat.ble (len * sz) 16777216 = true)
    (hg : cellsEach (parts.toList.map fun p => evk n kvs p.2) = some (xs.map c)) (ho : (xs.map c).all (fun g => g.all ocell && g.length == sz) = true)
    (k : ∀ tg, (tg = none → xs = []) → HOk h0 ((tg, .tok e sz (xs.length * sz)) :: L) → K (ow tg sz (xs.map c)) (hp h0 ((tg, .tok e sz (xs.length * sz)) :: L))) :
    AOp P ⟨dst, .buildSlice t len parts, ty, pos, aft, none⟩ K (fm n kvs) (hp h0 L) := by
  have e1 : (parts.toList.map fun p => ev (fm n kvs) p.2) = parts.toList.map fun p => evk n kvs p.2 := List.map_congr_left fun p _ => ev_fm n kvs p.2
  refine AOp_litg rfl 0 ht hi (Nat.le_of_ble_eq_true hl) (by rw [e1]; exact hg) ho fun q hq => ?_
  rw [List.length_map]
  exact k (some (0, q)) (fun e => by cases e) ⟨hk, fun k' e => by cases e; exact hq⟩
theorem a_lit0 {K : AV → Heap → Prop} {α : Type} {c : α → List AV} {dst : Option Tmp} {t e : TypeId} {sz b : Nat} (hk : HOk h0 L) (ht : ElT P t e sz b)
    (k : HOk h0 ((none, .tok e sz (([] : List α).length * sz)) :: L) → K (ow none sz (([] : List α).map c)) (hp h0 ((none, .tok e sz (([] : List α).length * sz)) :: L))) :
    AOp P ⟨dst, .buildSlice t 0 #[], ty, pos, aft, none⟩ K (fm n kvs) (hp h0 L) :=
  AOp_lit0 rfl ht (k ⟨hk, nofun⟩)
theorem o_lit {dst : Option Tmp} {t e : TypeId} {sz b len : Nat} {parts : Array (Nat × Operand)} (gs : List (List AV)) (ht : ElT P t e sz b) (hi : parts.toList.map (·.1) = List.range len) (hl : Nat.ble (len * sz) 16777216 = true)
    (hg : cellsEach (parts.toList.map fun p => evk n kvs p.2) = some gs) (ho : gs.all (fun g => g.all ocell && g.length == sz) = true) : AOpV P ⟨dst, .buildSlice t len parts, ty, pos, aft, none⟩ (.sl none sz gs) (fm n kvs) h := by
  have e : (parts.toList.map fun p => ev (fm n kvs) p.2) = parts.toList.map fun p => evk n kvs p.2 := List.map_congr_left fun p _ => ev_fm n kvs p.2
  exact AOp_lit rfl ht hi (Nat.le_of_ble_eq_true hl) (by rw [e]; exact hg) ho ⟨rfl, rfl⟩
theorem a_alloc {K : AV → Heap → Prop} {dst : Option Tmp} {t : TypeId} {zs : List Value} (cs : List AV) (hk : HOk h0 L) (hz : zrT P t = some zs) (ho : zs.all (·.oneCell') = true) (hcs : zs.map AV.sc = cs)
    (k : ∀ q : Key, HOk h0 ((some q, .obj t cs) :: L) → K (.ptr q 0) (hp h0 ((some q, .obj t cs) :: L))) : AOp P ⟨dst, .alloc t, ty, pos, aft, none⟩ K (fm n kvs) (hp h0 L) := by
  subst hcs
  exact (AOp_alloc rfl 0 hz ho fun q hq => k (0, q) ⟨hk, fun k' e => by cases e; exact hq⟩)
theorem slA_typed {α : Type} {c : α → List AV} {xs ys : List α} {tag : Option Key} {sz : Nat} {lo hi : Option AV} {x y : Int} {es : Option Nat} {as : Option (Nat × Nat)} (hm : slc xs x y = some ys) (he : es = some sz) (h0 : 0 < sz) (hl : bdA 0 lo = some x) (hh : bdA xs.length hi = some y) :
    ∃ p : Prop, p ∧ slA lo hi es as (.sl tag sz (xs.map c)) = some (p, .sl tag sz (ys.map c)) := by
  unfold slc at hm
  split at hm
  · rename_i hc
    cases hm
    refine ⟨(sz = sz ∧ 0 < sz) ∧ 0 ≤ x ∧ x ≤ y ∧ y ≤ (xs.map c).length, ⟨⟨rfl, h0⟩, hc.1, hc.2.1, by rw [List.length_map]; exact hc.2.2⟩, ?_⟩
    simp only [slA, he, Option.bind_some, hl, List.length_map, hh]
    rw [List.map_drop, List.map_take]
  · cases hm
def evo (n : Nat) (kvs : KV) (o : Option Operand) : Option AV := o.map (evk n kvs)
theorem o_slc {α : Type} {c : α → List AV} {xs ys : List α} {dst : Option Tmp} {a : Operand} {lo hi : Option Operand} {t : TypeId} {tag : Option Key} {sz : Nat} {x y : Int} (hm : slc xs x y = some ys) (ht : elS P t = some sz) (h0 : Nat.blt 0 sz = true) (ha : evk n kvs a = .sl tag sz (xs.map c))
    (hl : bdA 0 (evo n kvs lo) = some x) (hh : bdA xs.length (evo n kvs hi) = some y) : AOpV P ⟨dst, .slice t a lo hi none, ty, pos, aft, none⟩ (.sl tag sz (ys.map c)) (fm n kvs) h := by
  have e : ∀ o : Option Operand, o.map (ev (fm n kvs)) = evo n kvs o := fun o => by cases o <;> simp [evo, ev_fm]
  rw [Nat.blt_eq] at h0
  obtain ⟨p, hp, hs⟩ := slA_typed (c := c) (tag := tag) (es := elS P t) (as := arS P t) hm ht h0 hl hh
  refine o_pv (c := p) ?_ hp
  have hT : slT P t = true := by simp [slT, ht]
  simp only [pv, ev_fm, ha, e, hs, Option.bind_some, hT, if_true]
end ops
def aft (ops : Array Oper) (i j : Nat) : Bool := match ops[j]? with
 | some oj => oj.after.any fun e => Region.binds .any e && e.on == i
 | none => true
def At (h : Heap) (k : Option Key) (e : Ent) : Prop := ∀ q, k = some q → h q = some e
theorem At.s {h : Heap} {k : Key} {e : Ent} (a : At h (some k) e) : h k = some e := a k rfl
theorem At.of {h : Heap} {k : Key} {e : Ent} (a : h k = some e) : At h (some k) e := fun _ hq => by cases hq; exact a
theorem hp_at {h0 : Heap} {L : HL} {t : Option Key} {e : Ent} (i : Nat) (hk : HOk h0 L) (hi : L[i]? = some (t, e)) : At (hp h0 L) t e := fun q hq => Zd i hk (by rw [hi, hq])
def InvL : List (Nat × Option Key × Ent) → Array Bool → Heap → Prop
 | [], _, _ => True
 | (b, k, e) :: r, S, h => (S.getD b false = false → At h k e) ∧ InvL r S h
theorem getD_set_false {S : Array Bool} {b j : Nat} (h : (S.setIfInBounds j true).getD b false = false) : S.getD b false = false := by
 cases e : S.getD b false with
 | false => rfl
 | true => rw [getD_set_true e] at h; cases h
theorem InvL.mono {j : Nat} {S : Array Bool} {h : Heap} : ∀ {fs : List (Nat × Option Key × Ent)}, InvL fs S h → InvL fs (S.setIfInBounds j true) h
 | [], _ => trivial
 | (_, _, _) :: _, hi => ⟨fun e => hi.1 (getD_set_false e), hi.2.mono⟩
theorem InvL.get {S : Array Bool} {h : Heap} {b : Nat} {k : Option Key} {e : Ent} : ∀ {fs : List (Nat × Option Key × Ent)} (p : Nat), InvL fs S h → fs[p]? = some (b, k, e) → S.getD b false = false → At h k e
 | [], p, _, hp, _ => by simp at hp
 | (b', k', e') :: r, 0, hi, hp, hs => by
  simp only [List.getElem?_cons_zero, Option.some.injEq, Prod.mk.injEq] at hp
  obtain ⟨rfl, rfl, rfl⟩ := hp
  exact hi.1 hs
 | (b', k', e') :: r, p + 1, hi, hp, hs => InvL.get p hi.2 (by simpa using hp) hs
section game
variable {P : Program} {ops : Array Oper} {K : Fr → Heap → Prop} {fs : List (Nat × Option Key × Ent)}
def AG (P : Program) (ops : Array Oper) (fs : List (Nat × Option Key × Ent)) (K : Fr → Heap → Prop) : Nat → Array Bool → Fr → Heap → Prop
  | 0, S, fr, h => Region.ready .any ops S = [] ∧ K fr h
  | f + 1, S, fr, h => (Region.ready .any ops S = [] → K fr h) ∧ ∀ i ∈ Region.ready .any ops S, ∀ o, ops[i]? = some o →
      (∃ x, AYields P ops h fr o x ∧ AG P ops fs K f (S.setIfInBounds i true) (fput fr o.dst x) h) ∨
      (o.guard = none ∧ AOp P o (fun x h' => InvL fs (S.setIfInBounds i true) h' ∧ AG P ops fs K f (S.setIfInBounds i true) (fput fr o.dst x) h') fr h)
variable {h : Heap} {n : Nat} {kvs : KV} {ty : TypeId} {pos : String} {aft' : Array Edge}
end game
abbrev Sum := Option Nat × List Nat × List Nat
def summ (ops : Array Oper) (o : Oper) : Sum := (o.dst, o.looksAt ops, (o.after.toList.filter fun e => Region.binds .any e).map (·.on))
def apS (a b : Sum) : Bool :=
 (match a.1 with | some x => !(b.2.1.any (Nat.beq x)) && (match b.1 with | some y => !(Nat.beq x y) | none => true) | none => true) &&
 (match b.1 with | some y => !(a.2.1.any (Nat.beq y)) | none => true)
def lexS : Nat → List Sum → Bool
 | _, [] => true
 | k, a :: r => a.2.2.all (fun x => Nat.blt x k) && r.all (fun b => b.2.2.any (Nat.beq k) || apS a b) && lexS (k + 1) r
theorem any_beq {x : Nat} {l : List Nat} : l.any (Nat.beq x) = true ↔ x ∈ l := by
 rw [List.any_eq_true]
 constructor
 ·rintro ⟨y, hy, e⟩
  rw [Nat.eq_of_beq_eq_true e]; exact hy
 ·intro h
  exact ⟨x, h, Nat.beq_refl x⟩
theorem apS_apart {ops : Array Oper} {x y : Oper} (h : apS (summ ops x) (summ ops y) = true) : x.apart ops y = true := by
 simp only [apS, summ, Bool.and_eq_true] at h
 simp only [Oper.apart, Bool.and_eq_true]
 obtain ⟨h1, h2⟩ := h
 refine ⟨?_, ?_⟩
 ·cases hx : x.dst with
  | none => rfl
  | some d =>
   rw [hx] at h1
   simp only [Bool.and_eq_true, Bool.not_eq_true'] at h1 ⊢
   refine ⟨?_, ?_⟩
   ·cases e : (y.looksAt ops).contains d with
    | false => rfl
    | true =>
     have : d ∈ y.looksAt ops := by simpa using e
     rw [any_beq.2 this] at h1
     cases h1.1
   ·cases hy : y.dst with
    | none => rfl
    | some d' =>
     rw [hy] at h1
     have h3 := h1.2
     simp only [bne_iff_ne, ne_eq, Option.some.injEq]
     intro e
     subst e
     simp at h3
 ·cases hy : y.dst with
  | none => rfl
  | some d =>
   rw [hy] at h2
   simp only [Bool.not_eq_true'] at h2 ⊢
   cases e : (x.looksAt ops).contains d with
   | false => rfl
   | true =>
    have : d ∈ x.looksAt ops := by simpa using e
    rw [any_beq.2 this] at h2
    cases h2
def upto (n k : Nat) (S : Array Bool) : Prop := S.size = n ∧ ∀ j, j < n → S[j]? = some (decide (j < k))
theorem upto.getD {n k j : Nat} {S : Array Bool} (h : upto n k S) (hj : j < n) (b : Bool) : S.getD j b = decide (j < k) := by
 have := h.2 j hj
 rw [Array.getD_eq_getD_getElem?, this]; rfl
theorem lexS_from {ops : Array Oper} : ∀ (l : List Oper) (k : Nat) (S : Array Bool), (∀ j, l[j]? = ops[k + j]?) → k + l.length = ops.size → upto ops.size k S → lexS k (l.map (summ ops)) = true → Region.lexFrom .any ops l.length k S = true
 | [], k, S, _, hsz, hu, _ => by
  simp only [List.length_nil, Region.lexFrom, List.isEmpty_iff]
  cases e : Region.ready .any ops S with
  | nil => rfl
  | cons j r =>
   have hj : j ∈ Region.ready .any ops S := by rw [e]; simp
   obtain ⟨h1, o, ho, _⟩ := mem_ready.1 hj
   have hlt : j < ops.size := (Array.getElem?_eq_some_iff.1 ho).1
   rw [hu.getD hlt] at h1
   simp only [List.length_nil, Nat.add_zero] at hsz
   simp at h1
   omega
 | o :: l, k, S, hl, hsz, hu, hs => by
  have h0 : ops[k]? = some o := by simpa using (hl 0).symm
  have hk : k < ops.size := (Array.getElem?_eq_some_iff.1 h0).1
  simp only [List.map_cons, lexS, Bool.and_eq_true] at hs
  obtain ⟨⟨hs1, hs2⟩, hs3⟩ := hs
  simp only [List.length_cons, Region.lexFrom, Bool.and_eq_true]
  refine ⟨⟨?_, ?_⟩, ?_⟩
  ·have : k ∈ Region.ready .any ops S := by
    refine mem_ready.2 ⟨by rw [hu.getD hk]; simp, o, h0, fun e he hb => ?_⟩
    have hon : e.on < k := by
     have := List.all_eq_true.1 hs1 e.on (by
      simp only [summ, List.mem_map, List.mem_filter]
      exact ⟨e, ⟨by simpa using he, hb⟩, rfl⟩)
     rwa [Nat.blt_eq] at this
    rw [hu.getD (by omega)]
    simpa using hon
   simpa using this
  ·simp only [Region.free, h0, List.all_eq_true, List.mem_range]
   intro j hj
   simp only [Bool.or_eq_true, beq_iff_eq]
   by_cases e1 : j = k
   ·exact .inl (.inl e1)
   ·by_cases e2 : j < k
    ·exact .inl (.inr (by rw [hu.getD hj]; simpa using e2))
    ·right
     obtain ⟨q, rfl⟩ : ∃ q, j = k + (q + 1) := ⟨j - k - 1, by omega⟩
     have hlq := hl (q + 1)
     simp only [List.getElem?_cons_succ] at hlq
     have hlt : q < l.length := by simp only [List.length_cons] at hsz; omega
     rw [← hlq, List.getElem?_eq_getElem hlt]
     have := List.all_eq_true.1 hs2 (summ ops l[q]) (List.mem_map.2 ⟨l[q], List.getElem_mem hlt, rfl⟩)
     simp only [Bool.or_eq_true] at this ⊢
     rcases this with h1 | h1
     ·left
      have h1 := any_beq.1 h1
      simp only [summ, List.mem_map, List.mem_filter] at h1
      obtain ⟨e, ⟨he, hb⟩, hon⟩ := h1
      rw [Array.any_eq_true']
      exact ⟨e, by simpa using he, by simp [hb, hon]⟩
     ·exact .inr (apS_apart h1)
  ·refine lexS_from l (k + 1) _ (fun j => by have := hl (j + 1); simpa [Nat.add_assoc, Nat.add_comm 1 j] using this) (by simp only [List.length_cons] at hsz; omega) ?_ hs3
   refine ⟨by simpa using hu.1, fun j hj => ?_⟩
   rw [Array.getElem?_setIfInBounds]
   by_cases e : k = j
   ·subst e; simp [hu.1, hj]
   ·rw [if_neg e, hu.2 j hj]
    congr 1
    by_cases q : j < k
    ·simp [q, show j < k + 1 from by omega]
    ·simp [q, show ¬ j < k + 1 from by omega]
theorem AW_region_q {P : Program} {Q : Exit → Fr → Heap → Prop} {fr : Fr} {h : Heap} {id : Nat} {l : List Oper} (sm : List Sum) (hm : P.follows .mixedOrders = true) (h1 : l.map (summ l.toArray) = sm) (h2 : lexS 0 sm = true)
    (hl : AQuiet P l.toArray h (fun fr' => Q .normal fr' h) l fr) : AW P (.region id l.toArray true) Q fr h := by
  intro E w a r v d
  refine wp_region_any hm ?_
  have hlex : Region.lexFrom .any l.toArray l.length 0 (Array.replicate l.toArray.size false) = true := by
    refine lexS_from l 0 _ (by simp) (by simp) ⟨by simp, fun j hj => ?_⟩ (by rw [h1]; exact h2)
    simp only [List.size_toArray] at hj
    simp [hj]
  have hA := AAny_lex (md := .any) l 0 (Array.replicate l.toArray.size false) fr (by simp) hlex hl
  obtain ⟨r', k⟩ := r.drewn (w.drawn + 1)
  have := AAny_sound l.length (Array.replicate l.toArray.size false) fr E { w with drawn := w.drawn + 1 } a hA r' (VRL_keep k _ _ v) d (fun e a' w' => Post E w (Q e) a' w') (fun a' w' p => (p.trans k).mono fun fr' h' q => by rw [q.2]; exact q.1)
  simpa using this
abbrev Id32 := {l : List Int // l.length = 32}
def c_id (x : Id32) : List AV := (List.range 32).map fun i => .sc (.int .u8 (x.1.getD i 0))
theorem c_id_map (x : Id32) : c_id x = x.1.map fun z => AV.sc (.int .u8 z) := by
 apply List.ext_getElem
 ·simp [c_id, x.2]
 ·intro i h1 h2
  simp only [c_id, List.getElem_map, List.getElem_range]
  have : i < x.1.length := by simpa using h2
  simp [List.getD, List.getElem?_eq_getElem this]
section
variable {P : Program} (w : World)
end
theorem VRL_ints {E : Env} {w : World} : ∀ {xs : List Int} {vs : List Value}, VRL E w (xs.map fun z => AV.sc (.int .u8 z)) vs → vs = xs.map (Value.int .u8)
 | [], [], _ => rfl
 | x :: xs, v :: vs, h => by
  simp only [List.map_cons, VRL, VR] at h
  rw [h.1, VRL_ints h.2]; rfl
 | [], _ :: _, h => by simp [VRL] at h
 | _ :: _, [], h => by simp [VRL] at h
section ops
variable {P : Program} {ops : Array Oper} {h h0 : Heap} {L : HL} {n : Nat} {kvs : KV} {l : List Oper} {ty : TypeId} {pos : String} {aft : Array Edge}
theorem Ret.of1 {r : ResultVar} {Q : AV → Heap → Prop} {e : Exit} {h'' : Heap} {x y : AV} (he : e = .ret ∨ e = .normal) (hx : rsA P h (fm n kvs) r = some x) (hs : Sub h'' h) (hl : ALe h'' x y) (hq : Q y h'') : Ret P [r] Q e (fm n kvs) h := by
 rcases he with rfl | rfl <;> exact ⟨x, y, h'', hx, hs, hl, hq⟩
theorem Ret.of2 {r1 r2 : ResultVar} {Q : AV → Heap → Prop} {e : Exit} {h'' : Heap} {x1 x2 y1 y2 : AV} (he : e = .ret ∨ e = .normal) (hx1 : rsA P h (fm n kvs) r1 = some x1) (hx2 : rsA P h (fm n kvs) r2 = some x2) (hs : Sub h'' h) (hl1 : ALe h'' x1 y1) (hl2 : ALe h'' x2 y2) (hq : Q (.tup [y1, y2]) h'') : Ret P [r1, r2] Q e (fm n kvs) h := by
 have hx : resA P h (fm n kvs) [r1, r2] = some (.tup [x1, x2]) := by simp only [resA, rsL, hx1, hx2, Option.bind_some, Option.map_some]
 rcases he with rfl | rfl <;> exact ⟨_, _, h'', hx, hs, ALe.tup (.cons hl1 (.cons hl2 .nil)), hq⟩
theorem rsT (P : Program) (h : Heap) {t : Nat} (x : AV) (hx : lk n kvs t = x) : rsA P h (fm n kvs) (.tmp t) = some x := by rw [rsA_fm, hx]
end ops
open Go.ChangeShapes Go.WideShapes Go.Deep
section
variable {H : Type} {enc : TypeId × Value → H} {P : Program} {W : World}
def Rd {α : Type} (enc : TypeId × Value → H) (P : Program) (W : World) (t : TypeId) (c : α → List AV) (g : α → Prop) : Prop :=
 ∀ {fuel : Nat} {cs : List Value} {x : DataW H × List MemPlace}, DataW.trod enc P W 0 (fun _ => true) true fuel t cs = some x → ∃ a, g a ∧ VRL (E0 W) W (c a) cs ∧ (∀ v ∈ cs, v.oneCell' = true)
def gI (n : Int) : Prop := -9223372036854775808 ≤ n ∧ n < 9223372036854775808
def gB (n : Int) : Prop := 0 ≤ n ∧ n < 256
def gL {α : Type} (g : α → Prop) (l : List α) : Prop := ∀ x ∈ l, g x
theorem Rd_u8 {t : TypeId} (ht : P.underlying t = some (.int .u8)) : Rd enc P W t (fun n : Int => [AV.sc (.int .u8 n)]) gB := by
 intro fuel cs x h
 obtain ⟨n, rfl, -, hw⟩ := DataW.trod_int ht h
 refine ⟨n, ?_, by simp only [VRL, VR]; trivial, by simp [Value.oneCell']⟩
 simp only [Lit.wf, Bool.and_eq_true, decide_eq_true_eq] at hw
 rw [show IntKind.u8.min = 0 from by decide, show IntKind.u8.max = 255 from by decide] at hw
 unfold gB; omega
def Win (W : World) (o : Nat) (xs : List AV) (cs : List Value) : Prop := VRL (E0 W) W xs (cs.drop o) ∧ ∀ v ∈ cs.drop o, v.oneCell' = true
theorem Win.nil {o : Nat} {cs : List Value} (h : cs.length = o) : Win W o [] cs := by
 subst h
 simp [Win, VRL]
theorem Win.cons {o n m : Nat} {xs ys : List AV} {cs : List Value} (h : VRL (E0 W) W xs ((cs.drop o).take n)) (h1 : ∀ v ∈ (cs.drop o).take n, v.oneCell' = true) (k : Win W m ys cs) (hm : m = o + n) : Win W o (xs ++ ys) cs := by
 subst hm
 have e : cs.drop o = (cs.drop o).take n ++ cs.drop (o + n) := by rw [← List.drop_drop, List.take_append_drop]
 constructor
 ·rw [e]; exact VRL_append h k.1
 ·intro v hv
  rw [e] at hv
  rcases List.mem_append.1 hv with q | q
  ·exact h1 v q
  ·exact k.2 v q
theorem Rd.id {t e : TypeId} (ht : P.underlying t = some (.array 32 e)) (he : P.underlying e = some (.int .u8)) (hc : P.cellsOf e = 1) (hn : P.cellsOf t = 32) : Rd enc P W t c_id (fun x => gL gB x.1) := by
 intro fuel cs x h
 obtain ⟨xs, m, -, -, hl, hx, hf⟩ := DataW.trod_array ht h
 rw [hn] at hl
 have hk : ∀ i, i < 32 → ∃ z : Int, cs[i]? = some (.int .u8 z) ∧ gB z := by
  intro i hi
  have q := hf i hi
  rw [List.getElem?_eq_getElem (by omega), hc, Nat.mul_one] at q
  obtain ⟨n, e1, -, hw⟩ := DataW.trod_int he q
  refine ⟨n, ?_, ?_⟩
  ·have := congrArg (fun l : List Value => l[0]?) e1
   simpa using this
  ·simp only [Lit.wf, Bool.and_eq_true, decide_eq_true_eq] at hw
   rw [show IntKind.u8.min = 0 from by decide, show IntKind.u8.max = 255 from by decide] at hw
   unfold gB; omega
 obtain ⟨V, hV⟩ := choose_lt hk
 refine ⟨⟨(List.range 32).map V, by simp⟩, ?_, ?_, ?_⟩
 ·intro z hz
  obtain ⟨i, hi, rfl⟩ := List.mem_map.1 hz
  exact (hV i (List.mem_range.1 hi)).2
 ·have : cs = (List.range 32).map fun i => Value.int .u8 (V i) := by
   apply List.ext_getElem?
   intro i
   by_cases hi : i < 32
   ·rw [(hV i hi).1]; simp [hi]
   ·rw [List.getElem?_eq_none (by omega), List.getElem?_eq_none (by simp; omega)]
  rw [this, c_id_map, List.map_map]
  have := VRL_sc (E := E0 W) (w := W) ((List.range 32).map fun i => Value.int .u8 (V i))
  rwa [List.map_map] at this
 ·intro v hv
  obtain ⟨i, hi, rfl⟩ := List.getElem_of_mem hv
  have := (hV i (by omega)).1
  rw [List.getElem?_eq_getElem hi] at this
  rw [Option.some.inj this]
  rfl
theorem spot_of_cell {a : Addr} {v : Value} (h : W.cell? a = some v) : a.spot = none := by
 unfold World.cell? at h
 split at h
 ·split at h
  ·cases h
  ·rename_i q; simpa using q
 ·cases h
theorem VRG_of_rows {g o sz : Nat} {α : Type} {c : α → List AV} : ∀ (l : List α) (rows : Nat → List Value) (k : Nat), (∀ x ∈ l, (c x).length = sz) →
    (∀ i x, l[i]? = some x → VRL (E0 W) W (c x) (rows (k + i)) ∧ (∀ v ∈ rows (k + i), v.oneCell' = true) ∧ ∀ j, j < sz → W.cell? ⟨g, o + (k + i) * sz + j, none⟩ = (rows (k + i))[j]? ∧ (rows (k + i)).length = sz) →
    VRG (E0 W) W none g (o + k * sz) (l.map c)
  | [], _, _, _, _ => by simp only [List.map_nil, VRG]
  | x :: l, rows, k, hs, h => by
    simp only [List.map_cons, VRG]
    obtain ⟨h1, h2, h3⟩ := h 0 x rfl
    have hsz := hs x (by simp)
    refine ⟨VRM_of_cells h1 (by simpa using h2) ?_, ?_⟩
    · intro j v hj
      have hl : (rows (k + 0)).length = sz := by
        by_cases h0 : 0 < sz
        · exact (h3 0 h0).2
        · have := VRL_length h1
          omega
      have hj' : j < sz := by rw [← hl]; exact (List.getElem?_eq_some_iff.1 hj).1
      have q := (h3 j hj').1
      rw [hj, Nat.add_zero] at q
      exact ⟨q, .inl (by show (W.cell? _).isSome = true; rw [q]; rfl)⟩
    · rw [hsz, show o + k * sz + sz = o + (k + 1) * sz from by rw [Nat.add_mul]; omega]
      refine VRG_of_rows l rows (k + 1) (fun y hy => hs y (by simp [hy])) fun i y hi => ?_
      have := h (i + 1) y (by simpa using hi)
      rwa [show k + (i + 1) = k + 1 + i from by omega] at this
theorem Rd.slice {α : Type} {t e : TypeId} {c : α → List AV} {g : α → Prop} {sz : Nat} (r : Rd enc P W e c g) (ht : P.underlying t = some (.slice e)) (hc : P.cellsOf e = sz) (hs : ∀ x, (c x).length = sz) (h0 : 0 < sz) :
    Rd enc P W t (fun l : List α => [AV.sl none sz (l.map c)]) (gL g) := by
  intro fuel cs x h
  rcases open_slice ht h with ⟨rfl, -⟩ | ⟨a, len, cap, m, n, D, Pl, rfl, -, hl, hm, hmm, -, hx⟩
  · exact ⟨[], by intro x hx; simp at hx, by simp only [VRL, VR]; exact ⟨⟨none, 0, rfl, by simp, by simp, by simp, by simp, by simp⟩, trivial⟩, by simp [Value.oneCell']⟩
  · simp only [if_true] at hmm
    rw [hmm] at hx
    have key : ∀ i, i < len → ∃ q : α × List Value, g q.1 ∧ VRL (E0 W) W (c q.1) q.2 ∧ (∀ v ∈ q.2, v.oneCell' = true) ∧ W.cells? 0 (a.add (i * sz)) sz = some q.2 := by
      intro i hi
      obtain ⟨cs', h1, h2⟩ := hx i (by omega)
      obtain ⟨y, gy, v1, v2⟩ := r h2
      exact ⟨(y, cs'), gy, v1, v2, by rwa [hc] at h1⟩
    have : Nonempty (α × List Value) ∨ len = 0 := by
      by_cases hz : 0 < len
      · obtain ⟨q, -⟩ := key 0 hz
        exact .inl ⟨q⟩
      · exact .inr (by omega)
    rcases this with hin | hz
    · have : Inhabited (α × List Value) := Classical.inhabited_of_nonempty hin
      obtain ⟨Q, hQ⟩ := choose_lt key
      refine ⟨(List.range len).map fun i => (Q i).1, ?_, ?_, by simp [Value.oneCell']⟩
      · intro y hy
        obtain ⟨i, hi, rfl⟩ := List.mem_map.1 hy
        exact (hQ i (List.mem_range.1 hi)).1
      · simp only [VRL, VR]
        refine ⟨⟨some a, cap, by simp, by simpa using hl, hm, ?_, ?_, by simp⟩, trivial⟩
        · by_cases hz : len = 0
          · left; subst hz; simp
          · right
            have h00 := (World.cells?_some (hQ 0 (by omega)).2.2.2).2.2 0 h0
            have hlen := (World.cells?_some (hQ 0 (by omega)).2.2.2).2.1
            rw [List.getElem?_eq_getElem (by omega)] at h00
            have hsp := spot_of_cell h00
            obtain ⟨b, o, sp⟩ := a
            obtain rfl : sp = none := by simpa [Addr.add] using hsp
            refine ⟨b, o, rfl, ?_⟩
            have := VRG_of_rows (W := W) (g := b) (o := o) (sz := sz) (c := c) ((List.range len).map fun i => (Q i).1) (fun i => (Q i).2) 0 (fun y _ => hs y) ?_
            · simpa using this
            · intro i y hi
              rw [List.getElem?_map, Option.map_eq_some_iff] at hi
              obtain ⟨i', hi', rfl⟩ := hi
              obtain ⟨hlt, e1⟩ := List.getElem?_eq_some_iff.1 hi'
              simp only [List.length_range] at hlt
              simp only [List.getElem_range] at e1
              subst e1
              rw [Nat.zero_add]
              obtain ⟨-, q1, q2, q3⟩ := hQ i hlt
              refine ⟨q1, q2, fun j hj => ⟨?_, (World.cells?_some q3).2.1⟩⟩
              have := (World.cells?_some q3).2.2 j hj
              rw [← this, Addr.add_lit, Addr.add_lit]
        · intro y hy
          simp only [List.map_map, List.mem_map] at hy
          obtain ⟨i, -, rfl⟩ := hy
          exact hs _
    · subst hz
      refine ⟨[], by intro x hx; simp at hx, by simp only [VRL, VR]; exact ⟨⟨some a, cap, rfl, by simp, hm, by simp, by simp, by simp⟩, trivial⟩, by simp [Value.oneCell']⟩
theorem Rd.agg {α : Type} {t : TypeId} {c : α → List AV} {g : α → Prop} {fs : Array Field} (r : Rd enc P W t c g) (ht : P.underlying t = some (.struct fs)) {v : Value} {d : DataW H} {ps : List MemPlace} {base : Nat} (hval : Value.okWide P W .any base t v)
    (h : DataW.Trod enc P W 0 (fun _ => true) true t v d ps) : ∃ a, g a ∧ VR (E0 W) W (.agg (c a)) v := by
  unfold Value.okWide at hval
  rw [ht] at hval
  obtain ⟨cs, rfl, -, -⟩ := hval
  obtain ⟨fuel, hf⟩ := h
  obtain ⟨a, ga, v1, -⟩ := r hf
  exact ⟨a, ga, by simp only [VR]; exact ⟨cs, rfl, v1⟩⟩
theorem Rd.one {α : Type} {t e : TypeId} {c : α → AV} {g : α → Prop} (r : Rd enc P W t (fun a => [c a]) g) (ht : P.underlying t = some (.slice e)) {v : Value} {d : DataW H} {ps : List MemPlace} {base : Nat} (hval : Value.okWide P W .any base t v)
    (h : DataW.Trod enc P W 0 (fun _ => true) true t v d ps) : ∃ a, g a ∧ VR (E0 W) W (c a) v := by
  obtain ⟨a0, len0, cap0, rfl⟩ := okWide_slice ht hval
  obtain ⟨fuel, hf⟩ := h
  obtain ⟨a, ga, v1, -⟩ := r hf
  refine ⟨a, ga, ?_⟩
  simp only [Value.cells, VRL] at v1
  exact v1.1
theorem Rd.int {E : Env} {w : World} {t : TypeId} {v : Value} {d : DataW H} {ps : List MemPlace} {base : Nat} (ht : P.underlying t = some (.int .i64)) (hval : Value.okWide P W .any base t v)
    (h : DataW.Trod enc P W 0 (fun _ => true) true t v d ps) : ∃ n : Int, gI n ∧ VR E w (.sc (.int .i64 n)) v := by
  obtain ⟨n, h1, hw⟩ := VR_number (E := E) (w := w) ht hval h
  refine ⟨n, ?_, h1⟩
  simp only [Lit.wf, Bool.and_eq_true, decide_eq_true_eq] at hw
  rw [show IntKind.i64.min = -9223372036854775808 from by decide, show IntKind.i64.max = 9223372036854775807 from by decide] at hw
  unfold gI; omega
end
section
variable {P : Program} {E : Env} {h : Heap} {w : World}
end
def kI (x : Int) : Value := .int .i64 x
structure KeyT (P : Program) (t : TypeId) {α : Type} [BEq α] (k : α → Value) : Prop where
 law : ∀ x y : α, (x == y) = true → x = y
 d : ∃ kd, P.underlying t = some kd ∧ (∀ x y, Instr.sameNow kd (k x) (k y) = some (x == y)) ∧ (∀ x b w, (Instr.checkKey b 10000 t (k x)).run P w = .ok () w)
 bits : ∀ x, Instr.sameBits 10000 (k x) (k x) = true
theorem sameBits_int (n : Nat) (x : Int) : Instr.sameBits n (.int .i64 x) (.int .i64 x) = true := by cases n <;> simp [Instr.sameBits]
theorem checkKey_int {P : Program} {t : TypeId} (ht : P.underlying t = some (.int .i64)) (n : Nat) (x : Int) (b : Bool) (w : World) : (Instr.checkKey b (n + 1) t (.int .i64 x)).run P w = .ok () w := by
 simp [Instr.checkKey, run_underlying ht]
theorem KeyT.int {P : Program} {t : TypeId} (ht : P.underlying t = some (.int .i64)) : KeyT P t kI :=
 ⟨fun x y h => by simpa using h, ⟨_, ht, fun x y => by simp only [Instr.sameNow, kI, if_true], fun x b w => checkKey_int ht 9999 x b w⟩, fun x => sameBits_int 10000 x⟩
section ops
variable {P : Program} {h h0 : Heap} {L : HL} {n : Nat} {kvs : KV} {ty : TypeId} {pos : String} {aft : Array Edge}
end ops
def bA (xs : List Int) : ByteArray := xs.foldl (fun acc z => acc.push z.toNat.toUInt8) .empty
theorem run_loadBytes {P : Program} {w : World} {g : Nat} : ∀ (xs : List Int) (o : Nat) (acc : ByteArray), (∀ (j : Nat) (z : Int), xs[j]? = some z → w.cell? ⟨g, o + j, none⟩ = some (.int .u8 z)) →
    (Extern.Bytes.loadBytes ⟨g, o, none⟩ xs.length acc).run P w = .ok (xs.foldl (fun acc z => acc.push z.toNat.toUInt8) acc) w
  | [], _, _, _ => rfl
  | z :: xs, o, acc, hc => by
    have h0 := hc 0 z rfl
    simp only [Nat.add_zero] at h0
    have ih := run_loadBytes (P := P) xs (o + 1) (acc.push z.toNat.toUInt8) (fun j y hj => by
      have := hc (j + 1) y (by simpa using hj)
      rwa [show o + (j + 1) = o + 1 + j from by omega] at this)
    have hl : (load ⟨g, o, none⟩).run P w = .ok (.int .u8 z) w := by simp [load, Sem.run, h0]
    simp only [List.length_cons, Extern.Bytes.loadBytes, Sem.run_bind, hl, Result.andThen_ok, List.foldl_cons]
    rw [Addr.add_lit]
    exact ih
def Byt (P : Program) (h : Heap) (a : AV) (xs : List Int) : Prop := ∀ E w v, Rel E h w → VR E w a v → (Extern.Bytes.bytesOf v).run P w = .ok (bA xs) w
theorem flat1 (xs : List Int) : (xs.map fun z => [AV.sc (.int .u8 z)]).flatten = xs.map fun z => AV.sc (.int .u8 z) := by
 induction xs with
 | nil => rfl
 | cons x xs ih => simp [ih]
theorem Byt.sl {P : Program} (h : Heap) (tag : Option Key) (xs : List Int) : Byt P h (.sl tag 1 (xs.map fun z => [AV.sc (.int .u8 z)])) xs := by
 intro E w v r hv
 cases xs with
 | nil =>
  simp only [VR, List.map_nil] at hv
  obtain ⟨a, cap, rfl, _⟩ := hv
  cases a with
  | none => rfl
  | some a => rfl
 | cons x xs =>
  obtain ⟨g, o, cap, cv, rfl, c1, c2, c3, c4⟩ := sl_cells hv (by simp)
  rw [flat1] at c1
  have hcv := VRL_ints c1
  subst hcv
  have := run_loadBytes (P := P) (w := w) (g := g) (x :: xs) o .empty (fun j z hj => (c4 j (.int .u8 z) (by rw [List.getElem?_map, hj]; rfl)).1)
  simpa [Extern.Bytes.bytesOf, bA] using this
theorem Byt.view {P : Program} {h : Heap} {q : Key} {off : Nat} {ty : TypeId} {cs : List AV} {y : Id32} (hq : h q = some (.obj ty cs)) (hc : (cs.drop off).take 32 = c_id y) : Byt P h (.view q off 32) y.1 := by
 intro E w v r hv
 simp only [VR] at hv
 obtain ⟨g, cap, hg, rfl, _⟩ := hv
 obtain ⟨g', cur, e1, e2, e3, e4⟩ := r.obj q ty cs hq
 rw [hg] at e1; cases e1
 have hl := VRL_take 32 (VRL_drop off e3)
 rw [hc, c_id_map] at hl
 have hcv := VRL_ints hl
 have := run_loadBytes (P := P) (w := w) (g := g) y.1 off .empty (fun j z hj => by
  have h1 : ((cur.toList.drop off).take 32)[j]? = some (.int .u8 z) := by rw [hcv, List.getElem?_map, hj]; rfl
  have hj32 : j < 32 := by
   have := (List.getElem?_eq_some_iff.1 h1).1
   rw [List.length_take] at this; omega
  rw [List.getElem?_take_of_lt hj32, List.getElem?_drop] at h1
  simp only [World.cell?, e2]
  simpa using h1)
 rw [y.2] at this
 simpa [Extern.Bytes.bytesOf, bA] using this
section ops
variable {P : Program} {h : Heap} {n : Nat} {kvs : KV} {ty : TypeId} {pos : String} {aft : Array Edge}
end ops
theorem upd_comm (h : Heap) {k k' : Key} (e e' : Option Ent) (hn : k ≠ k') : upd (upd h k e) k' e' = upd (upd h k' e') k e := by
 funext x
 unfold upd
 by_cases h1 : x = k
 ·by_cases h2 : x = k'
  ·exact absurd (h1.symm.trans h2) hn
  ·simp [h1, hn]
 ·simp [h1]
theorem hp_swap {h0 : Heap} {a b : Option Key × Ent} {L : HL} (hk : HOk h0 (a :: b :: L)) : hp h0 (a :: b :: L) = hp h0 (b :: a :: L) ∧ HOk h0 (b :: a :: L) := by
 obtain ⟨ta, ea⟩ := a
 obtain ⟨tb, eb⟩ := b
 obtain ⟨⟨h1, h2⟩, h3⟩ := hk
 cases ta with
 | none => cases tb with
  | none => exact ⟨rfl, ⟨⟨h1, nofun⟩, nofun⟩⟩
  | some kb => exact ⟨rfl, ⟨⟨h1, nofun⟩, h2⟩⟩
 | some ka =>
  have q := h3 ka rfl
  cases tb with
  | none => exact ⟨rfl, ⟨⟨h1, h3⟩, nofun⟩⟩
  | some kb =>
   have hne : ka ≠ kb := fun e => by
    subst e
    simp only [hp, upd_same] at q
    cases q
   have q2 : hp h0 L ka = none := by
    simp only [hp] at q
    rwa [upd_ne _ _ hne] at q
   refine ⟨?_, ⟨h1, fun k e => by cases e; exact q2⟩, fun k e => ?_⟩
   ·simp only [hp]
    exact upd_comm _ _ _ (Ne.symm hne)
   ·cases e
    simp only [hp]
    rw [upd_ne _ _ (Ne.symm hne)]
    exact h2 _ rfl
theorem HOk.cons_eq {h0 : Heap} {a : Option Key × Ent} {L L' : HL} (e : hp h0 L = hp h0 L') (hk : HOk h0 L') (h2 : HOk h0 (a :: L)) : hp h0 (a :: L) = hp h0 (a :: L') ∧ HOk h0 (a :: L') := by
 obtain ⟨t, en⟩ := a
 refine ⟨?_, hk, ?_⟩
 ·cases t <;> simp only [hp, e]
 ·intro k q; rw [← e]; exact h2.2 k q
theorem hp_perm {h0 : Heap} {L L' : HL} (p : L.Perm L') : HOk h0 L → hp h0 L = hp h0 L' ∧ HOk h0 L' := by
 induction p with
 | nil => intro hk; exact ⟨rfl, hk⟩
 | cons x p ih =>
  intro hk
  obtain ⟨e, h2⟩ := ih hk.1
  exact HOk.cons_eq e h2 hk
 | swap x y l => intro hk; exact hp_swap hk
 | trans p q ih1 ih2 =>
  intro hk
  obtain ⟨e1, k1⟩ := ih1 hk
  obtain ⟨e2, k2⟩ := ih2 k1
  exact ⟨e1.trans e2, k2⟩
theorem hp_app (h0 : Heap) : ∀ (A R : HL), hp (hp h0 R) A = hp h0 (A ++ R)
 | [], R => rfl
 | (none, e) :: A, R => hp_app h0 A R
 | (some k, e) :: A, R => by
  show upd (hp (hp h0 R) A) k (some e) = upd (hp h0 (A ++ R)) k (some e)
  rw [hp_app h0 A R]
theorem HOk_app {h0 : Heap} : ∀ {A R : HL}, HOk h0 R → HOk (hp h0 R) A → HOk h0 (A ++ R)
 | [], _, hr, _ => hr
 | (t, e) :: A, R, hr, ha => ⟨HOk_app hr ha.1, fun k q => by show hp h0 (A ++ R) k = none; rw [← hp_app]; exact ha.2 k q⟩
theorem HOk_spl {h0 : Heap} : ∀ (A R : HL), HOk h0 (A ++ R) → HOk h0 R ∧ HOk (hp h0 R) A
 | [], _, h => ⟨h, trivial⟩
 | (t, e) :: A, R, h => by
  obtain ⟨h1, h2⟩ := h
  obtain ⟨h3, h4⟩ := HOk_spl A R h1
  exact ⟨h3, h4, fun k q => by rw [hp_app]; exact h2 k q⟩
theorem HOk.co {h0 : Heap} {L : HL} {x : Option Key × Ent} (a : HOk h0 L) (b : HOk (hp h0 L) [x]) : HOk h0 (x :: L) := ⟨a, b.2⟩
theorem AOp_eqh {P : Program} {o : Oper} {K : AV → Heap → Prop} {fr : Fr} {h h' : Heap} (e : h = h') (ho : AOp P o K fr h') : AOp P o K fr h := by subst e; exact ho
theorem LeF.aops {P : Program} {ops : Array Oper} {l : List Oper} {K : Fr → Heap → Prop} {fr fr' : Fr} {h h' : Heap} (le : LeF fr' h' fr h) (k : AOps P ops l K fr' h') : AOps P ops l K fr h := by
 intro E w a r vv d Q hQ
 obtain ⟨E', k', r', v'⟩ := le E w _ r vv
 exact k E' w a r' v' d Q fun a' w' p => hQ _ _ (p.trans k')
def LqE (Q : Exit → Fr → Heap → Prop) : Exit → Fr → Heap → Prop := fun e fr h => ∃ fr' h', LeF fr' h' fr h ∧ Q e fr' h'
theorem LqE.mk {Q : Exit → Fr → Heap → Prop} {e : Exit} {fr fr' : Fr} {h h' : Heap} (le : LeF fr' h' fr h) (q : Q e fr' h') : LqE Q e fr h := ⟨_, _, le, q⟩
theorem AW_lq {P : Program} {c : Code} {Q : Exit → Fr → Heap → Prop} {fr : Fr} {h : Heap} (hc : AW P c (LqE Q) fr h) : AW P c Q fr h :=
 fun E w a r v d => wp_mono (hc E w a r v d) fun _ _ w' ⟨_, _, _, k, r', v', d', fr2, h2, le, q⟩ => let ⟨E'', k2, r2, v2⟩ := le _ w' _ r' v'; ⟨E'', fr2, h2, k.trans k2, r2, v2, d', q⟩
theorem LeF.eqh {fr : Fr} {h h' : Heap} (e : h = h') : LeF fr h' fr h := by subst e; exact LeF.of (Sub.refl h) (ALeL.refl _ _)
end Go.Vm
