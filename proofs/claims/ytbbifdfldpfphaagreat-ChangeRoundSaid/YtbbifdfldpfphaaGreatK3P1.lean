import Derived.Test.YtbbifdfldpfphaaGreatK3P0
import Derived.Laws.BitsLemmas
import Derived.Laws.Cover3
import Derived.Laws.BytesString
import Derived.ChangeSame
import Derived.ChangeSlices
import Derived.WideKeyArgs
import Derived.OpenShut
import Derived.JoinedOf
import Derived.Handed
import Derived.Stop.BytesEq
import Derived.Laws.Tables
import Derived.Laws.Externs
import Derived.ChangeArms
import Derived.Deep.Slices
set_option linter.unusedSimpArgs false
set_option linter.unusedVariables false
set_option maxHeartbeats 4000000
set_option maxRecDepth 100000
namespace Go.Vm
def kC (h : aH) (sz : Nat) : AV → Option (List (List AV))
 | .sl _ sz' ys => if sz' = sz then some ys else none
 | .sc (.slice none 0 _) => some []
 | .e0 => some []
 | .view k off n => match h k with
  | some (.obj _ cs) => if off + n * sz ≤ cs.length then some (BO sz n (cs.drop off)) else none
  | _ => none
 | _ => none
theorem oD {E : fT} {h : aH} {w : World} (r : fD E h w) {sz : Nat} {x : AV} {ys : List (List AV)} (hx : kC h sz x = some ys) {v : Value} (hv : VR E w x v) : zP E w sz ys v := by
 cases x with
 | sl tag sz' zs =>
  simp only [kC] at hx
  split at hx
  ·rename_i e; cases hx; subst e; exact zP.of_sl hv
  ·cases hx
 | sc z =>
  unfold kC at hx
  split at hx <;> (try (simp only [reduceCtorEq] at hx; done))
  ·rename_i e; cases e
  ·rename_i n e; cases e; cases hx; exact zP.of_nil hv
  ·rename_i e; cases e
  ·rename_i e; cases e
 | e0 => cases hx; exact zP.of_e0 hv
 | view k off n =>
  simp only [kC] at hx
  split at hx
  ·rename_i ty cs hk
   split at hx
   ·rename_i hl; cases hx; exact zP.of_view r hv hk hl
   ·cases hx
  ·cases hx
 | _ => simp [kC] at hx
theorem FG (h : aH) (k : bZ) : upd h k (h k) = h := by
 funext x; unfold upd; split
 ·rename_i e; rw [e]
 ·rfl
section ops
variable {P : Program} {o : Oper} {K : AV → aH → Prop} {fr : Fr} {h : aH}
theorem f0 {s x : Operand} {t : TypeId} (hop : o.op = .call { callee := .builtin .append, args := #[s, x], argTypes := #[t, t] }) {a : Act} {w w' : World} {v : Value}
    (hr : (Builtin.append_ #[t, t] o.type #[a.eval s, a.eval x]).run P w = .ok v w') : (execOp a.eval o).run P w = .ok (.value v) w' := by
  unfold execOp
  simp only [hop, resolve, invoke, builtin, Sem.run_bind, Sem.run_pure, Result.andThen_ok, List.map_toArray, List.map_cons, List.map_nil, hr]
theorem sN {s x : Operand} {t e : TypeId} {sz b : Nat} (hop : o.op = .call { callee := .builtin .append, args := #[s, x], argTypes := #[t, t] }) (d : Nat) (ht : jD P t e sz b)
    {s0 : AV} (hs : ev fr s = s0) (hs0 : s0 = .sc (.slice none 0 0) ∨ s0 = .e0) {ys : List (List AV)} (hx : kC h sz (ev fr x) = some ys) (hb : ys.length * (b + 1) ≤ 140737488355328)
    (h0 : ys = [] → K s0 h) (h1 : ys ≠ [] → ∀ n, h (d, n) = none → K (.sl (some (d, n)) sz ys) (upd h (d, n) (some (.tok e sz (ys.length * sz))))) : iB P o K fr h := by
  intro E w a r hv Nx Qx hn
  have vs := hv s (by rw [hop]; simp [Op.operands, Call.operands])
  have vx := hv x (by rw [hop]; simp [Op.operands, Call.operands])
  rw [hs] at vs
  have vs0 : ∃ a0, a.eval s = .slice a0 0 0 := by
    rcases hs0 with rfl | rfl
    · simp only [VR] at vs; exact ⟨_, vs⟩
    · simpa only [VR] using vs
  obtain ⟨a0, ea0⟩ := vs0
  have src := oD r hx vx
  rw [Nat.mul_add, Nat.mul_one] at hb
  by_cases hy : ys = []
  · subst hy
    have hv0 : (Value.slice a0 0 0 = .slice none 0 0 ∧ 0 = 0) ∨ ∃ a cap, Value.slice a0 0 0 = .slice (some a) 0 cap ∧ 0 ≤ cap := by
      cases a0 with
      | none => exact .inl ⟨rfl, rfl⟩
      | some b => exact .inr ⟨b, 0, rfl, Nat.le_refl _⟩
    obtain ⟨_, (⟨_, q, c, e⟩ | ⟨g, oo, c, cv, e, _⟩)⟩ := src
    · have hr := iG (P := P) (w := w) (ty := o.type) ht hv0 e
      unfold Oper.wp
      rw [f0 hop (by rw [ea0]; exact hr), ← ea0]
      exact hn _ _ _ E h (eB.refl E w) r vs (h0 rfl)
    · have hr := iG (P := P) (w := w) (ty := o.type) ht hv0 e
      unfold Oper.wp
      rw [f0 hop (by rw [ea0]; exact hr), ← ea0]
      exact hn _ _ _ E h (eB.refl E w) r vs (h0 rfl)
  · obtain ⟨n, hn'⟩ := r.fresh d
    obtain ⟨v', w', E', e1, e2, e3, e4⟩ := append_nil (ty := o.type) ht r hn' src hy (by omega) (by omega) a0
    unfold Oper.wp
    rw [f0 hop (by rw [ea0]; exact e1)]
    exact hn _ _ _ E' _ e2 e3 e4 (h1 hy n (r.unused_none hn'))
theorem sO {s x : Operand} {t e : TypeId} {sz b : Nat} (hop : o.op = .call { callee := .builtin .append, args := #[s, x], argTypes := #[t, t] }) (ht : jD P t e sz b)
    {k : bZ} {xs : List (List AV)} (hs : ev fr s = .sl (some k) sz xs) (hk : h k = some (.tok e sz (xs.length * sz))) {ys : List (List AV)} (hx : kC h sz (ev fr x) = some ys)
    (hb : (xs.length + ys.length) * (b + 1) ≤ 140737488355328)
    (h1 : K (.sl (some k) sz (xs ++ ys)) (upd h k (some (.tok e sz ((xs ++ ys).length * sz))))) : iB P o K fr h := by
  intro E w a r hv Nx Qx hn
  have vs := hv s (by rw [hop]; simp [Op.operands, Call.operands])
  have vx := hv x (by rw [hop]; simp [Op.operands, Call.operands])
  rw [hs] at vs
  have src := oD r hx vx
  rw [Nat.mul_add, Nat.mul_one] at hb
  by_cases hy : ys = []
  · subst hy
    have hsv : ∃ q cap, a.eval s = .slice q xs.length cap ∧ xs.length ≤ cap ∧ q ≠ none := by
      have vs' := vs
      simp only [VR] at vs'
      obtain ⟨q, cap, e1, e2, _, _, _, e5⟩ := vs'
      obtain ⟨tk, cur, t1, t2, t3, _⟩ := r.tok _ _ _ _ hk
      obtain ⟨_, e6⟩ := e5 k rfl
      obtain ⟨_, e7⟩ := e6 tk t1
      exact ⟨q, cap, e1, e2, by rw [(e7 t3.symm).1]; simp⟩
    obtain ⟨q, cap, es, ec, hq⟩ := hsv
    obtain ⟨q', rfl⟩ := Option.ne_none_iff_exists'.1 hq
    have src0 : ∃ q c, a.eval x = .slice q 0 c := by
      rcases src.2 with ⟨_, q, c, e⟩ | ⟨g, oo, c, cv, e, _⟩
      · exact ⟨q, c, e⟩
      · exact ⟨_, c, e⟩
    obtain ⟨qx, cx, ex⟩ := src0
    have hr := iG (P := P) (w := w) (ty := o.type) ht (v := .slice (some q') xs.length cap) (n := xs.length) (.inr ⟨q', cap, rfl, ec⟩) ex
    unfold Oper.wp
    rw [f0 hop (by rw [es]; exact hr)]
    refine hn _ _ _ E h (eB.refl E w) r (by rw [← es]; simpa using vs) ?_
    have : upd h k (some (.tok e sz ((xs ++ []).length * sz))) = h := by rw [List.append_nil, ← hk, FG]
    rw [this] at h1
    simpa using h1
  · obtain ⟨v', w', E', e1, e2, e3, e4⟩ := BP (ty := o.type) ht r hk vs src hy (by omega) (by omega)
    unfold Oper.wp
    rw [f0 hop e1]
    exact hn _ _ _ E' _ e2 e3 e4 h1
end ops
theorem p9 (off : Nat) : ∀ (vs : List Value) (i : Nat) (cs : Array Value), off + i + vs.length ≤ cs.size →
    ((vs.zipIdx i).foldl (fun cs (c, j) => cs.setIfInBounds (off + j) c) cs).toList = cs.toList.take (off + i) ++ vs ++ cs.toList.drop (off + i + vs.length)
  | [], i, cs, _ => by simp
  | v :: vs, i, cs, h => by
    simp only [List.zipIdx_cons, List.foldl_cons]
    simp only [List.length_cons] at h
    rw [p9 off vs (i + 1) _ (by simp; omega)]
    have hlt : off + i < cs.toList.length := by simp; omega
    simp only [Array.toList_setIfInBounds, List.length_cons]
    rw [show off + (i + 1) = off + i + 1 from by omega, List.take_succ_eq_append_getElem (by simpa using hlt)]
    simp only [List.getElem_set_self, List.append_assoc, List.singleton_append]
    rw [List.take_set_of_le (Nat.le_refl _), List.drop_set_of_lt (by omega)]
    simp [Nat.add_assoc, Nat.add_comm 1]
theorem zS (sz : Nat) : ∀ (vs : List Value) (i : Nat) (cs : Array Value), (∀ v ∈ vs, v.cells.size = sz) → (i + vs.length) * sz ≤ cs.size →
    ∃ cs', Instr.fill (fun i => some (i * sz, sz)) cs ((vs.zipIdx i).map fun p => (p.2, p.1)) = some cs' ∧ cs'.toList = cs.toList.take (i * sz) ++ (vs.map fun v => v.cells.toList).flatten ++ cs.toList.drop ((i + vs.length) * sz)
  | [], i, cs, _, _ => ⟨cs, rfl, by simp⟩
  | v :: vs, i, cs, h1, h2 => by
    have hv := h1 v (by simp)
    simp only [List.length_cons] at h2
    have hle : i * sz + sz + vs.length * sz ≤ cs.size := by
      have : (i + (vs.length + 1)) * sz = i * sz + sz + vs.length * sz := by simp only [Nat.add_mul, Nat.one_mul]; omega
      omega
    have hf := p9 (i * sz) v.cells.toList 0 cs (by simp [hv]; omega)
    have hsz : (v.cells.zipIdx.foldl (fun cs (c, j) => cs.setIfInBounds (i * sz + j) c) cs).toList = cs.toList.take (i * sz) ++ v.cells.toList ++ cs.toList.drop (i * sz + sz) := by
      have : v.cells.zipIdx.foldl (fun cs (c, j) => cs.setIfInBounds (i * sz + j) c) cs = (v.cells.toList.zipIdx 0).foldl (fun cs (c, j) => cs.setIfInBounds (i * sz + j) c) cs := by
        rw [← Array.foldl_toList, Array.toList_zipIdx]
      rw [this, hf]
      simp [hv]
    generalize hq : v.cells.zipIdx.foldl (fun cs (c, j) => cs.setIfInBounds (i * sz + j) c) cs = q at hsz
    have hqs : q.size = cs.size := by
      have := congrArg List.length hsz
      simp [hv] at this
      omega
    have e3 : (i + 1 + vs.length) * sz = i * sz + sz + vs.length * sz := by simp only [Nat.add_mul, Nat.one_mul]
    have e4 : (i + (vs.length + 1)) * sz = i * sz + sz + vs.length * sz := by simp only [Nat.add_mul, Nat.one_mul]; omega
    have e5 : (i + 1) * sz = i * sz + sz := by simp only [Nat.add_mul, Nat.one_mul]
    obtain ⟨cs', e1, e2⟩ := zS sz vs (i + 1) q (fun u hu => h1 u (by simp [hu])) (by rw [hqs]; omega)
    refine ⟨cs', ?_, ?_⟩
    · simp only [List.zipIdx_cons, List.map_cons, Instr.fill, hv, ne_eq, not_true_eq_false, decide_false, Bool.false_or]
      rw [if_neg (by simp; omega)]
      simp only [hq]
      exact e1
    · rw [e2, hsz]
      simp only [List.map_cons, List.flatten_cons, List.length_cons]
      have l1 : (cs.toList.take (i * sz) ++ v.cells.toList).length = (i + 1) * sz := by
        simp [hv, Nat.add_mul]; omega
      rw [List.take_left' l1]
      have l2 : (cs.toList.take (i * sz) ++ v.cells.toList ++ cs.toList.drop (i * sz + sz)).drop ((i + 1 + vs.length) * sz) = cs.toList.drop ((i + (vs.length + 1)) * sz) := by
        rw [e3, e4, ← e5, ← l1, ← List.drop_drop, List.drop_left' rfl, List.drop_drop, l1, e5]
      rw [l2]
      simp only [List.append_assoc]
def iZ : List AV → Option (List (List AV))
 | [] => some []
 | x :: xs => match cellsOf x, iZ xs with
  | some c, some cs => some (c :: cs)
  | _, _ => none
theorem rH {α β : Type} (f : α → β) (l : List (Nat × α)) (h : l.map (·.1) = List.range l.length) : l.map (fun p => (p.1, f p.2)) = ((l.map fun p => f p.2).zipIdx 0).map fun p => (p.2, p.1) := by
 apply List.ext_getElem?
 intro j
 have hj := congrArg (fun q => q[j]?) h
 simp only [List.getElem?_map] at hj
 simp only [List.getElem?_map, List.getElem?_zipIdx]
 cases e : l[j]? with
 | none => simp
 | some p =>
  rw [e] at hj
  have hlt : j < l.length := (List.getElem?_eq_some_iff.1 e).1
  simp [hlt] at hj
  simp [hj]
section lit
variable {P : Program} {E : fT} {h : aH} {w : World}
theorem kD {sz : Nat} : ∀ {xs : List AV} {gs : List (List AV)} {vs : List Value}, iZ xs = some gs → gs.all (fun g => g.all fS && g.length == sz) = true → cL E w xs vs →
    gs.length = vs.length ∧ (∀ g ∈ gs, g.length = sz) ∧ (∀ v ∈ vs, v.cells.size = sz) ∧ cL E w gs.flatten (vs.map fun v => v.cells.toList).flatten ∧ ∀ u ∈ (vs.map fun v => v.cells.toList).flatten, u.oneCell' = true
  | [], gs, [], hx, _, _ => by cases hx; simp [cL]
  | x :: xs, gs, v :: vs, hx, hg, hv => by
    simp only [iZ] at hx
    split at hx
    · rename_i c cs e1 e2
      cases hx
      simp only [List.all_cons, Bool.and_eq_true, beq_iff_eq] at hg
      simp only [cL] at hv
      obtain ⟨a1, a2⟩ := iR e1 hg.1.1 hv.1
      obtain ⟨b1, b2, b3, b4, b5⟩ := kD e2 hg.2 hv.2
      have hl := cT a1
      refine ⟨by simp [b1], ?_, ?_, ?_, ?_⟩
      · intro g hg'
        rcases List.mem_cons.1 hg' with rfl | hg'
        · exact hg.1.2
        · exact b2 g hg'
      · intro u hu
        rcases List.mem_cons.1 hu with rfl | hu
        · rw [← hg.1.2, hl]; simp
        · exact b3 u hu
      · simp only [List.flatten_cons, List.map_cons]
        exact cU a1 b4
      · intro u hu
        simp only [List.map_cons, List.flatten_cons] at hu
        rcases List.mem_append.1 hu with hu | hu
        · exact a2 u hu
        · exact b5 u hu
    · cases hx
  | [], _, _ :: _, _, _, hv => by simp only [cL] at hv
  | _ :: _, _, [], _, _, hv => by simp only [cL] at hv
theorem sP {o : Oper} {t e : TypeId} {sz b len : Nat} {parts : Array (Nat × Operand)} (hop : o.op = .buildSlice t len parts) (ht : jD P t e sz b) (hi : parts.toList.map (·.1) = List.range len) (hl : len * sz ≤ 16777216) {a : Act} (hs : ∀ v ∈ parts.toList.map (fun p => a.eval p.2), v.cells.size = sz) :
    ∃ cur : Array Value, cur.toList = ((parts.toList.map fun p => a.eval p.2).map fun v => v.cells.toList).flatten ∧ (execOp a.eval o).run P w = .ok (.value (.slice (some ⟨w.heap.size, 0, none⟩) len len)) (w.alloc (.cells cur e)) := by
  obtain ⟨i, z, h1, h2, rfl, rfl, h5, h6⟩ := ht.inf
  have hlen : parts.toList.length = len := by have := congrArg List.length hi; simpa using this
  have hz := rH a.eval parts.toList (by rw [hlen]; exact hi)
  have hlen' : (parts.toList.map fun p => a.eval p.2).length = len := by simpa using hlen
  generalize hvs : (parts.toList.map fun p => a.eval p.2) = vs at hz hs hlen'
  have hq : ∀ (q : Array Value), q.size = len * i.size → ∃ cs', Instr.fill (fun j => some (j * i.size, i.size)) q (parts.toList.map fun p => (p.1, a.eval p.2)) = some cs' ∧ cs'.toList = (vs.map fun v => v.cells.toList).flatten := by
    intro q hq
    obtain ⟨cs', e1, e2⟩ := zS i.size vs 0 q hs (by rw [Nat.zero_add, hlen', hq]; exact Nat.le_refl _)
    rw [← hz] at e1
    refine ⟨cs', e1, ?_⟩
    rw [e2, Nat.zero_add, hlen']
    simp [← hq]
  have hn : ¬ (16777216 < len * i.size) := by omega
  by_cases h0 : len * i.size = 0
  · obtain ⟨cur, c1, c2⟩ := hq ((Array.range 0).map fun _ => default) (by simp [h0])
    refine ⟨cur, c2, ?_⟩
    simp [execOp, hop, Instr.buildSlice, run_underlying ht.ut, sizeOf, typeInfo, h1, h0]
    simp only [c1]
    simp [newRow]
  · obtain ⟨cur, c1, c2⟩ := hq ((Array.range (len * i.size)).map (z.cells[· % z.cells.size]!)) (by simp)
    refine ⟨cur, c2, ?_⟩
    simp [execOp, hop, Instr.buildSlice, run_underlying ht.ut, sizeOf, typeInfo, h1, h2, hn, h0, zeroValue]
    simp only [c1]
    simp [newRow]
theorem C9 {o : Oper} {fr : Fr} {t : TypeId} {len : Nat} {parts : Array (Nat × Operand)} (hop : o.op = .buildSlice t len parts) {a : Act} (hv : ∀ y ∈ o.op.operands, VR E w (ev fr y) (a.eval y)) :
    cL E w (parts.toList.map fun p => ev fr p.2) (parts.toList.map fun p => a.eval p.2) := by
  have : ∀ p ∈ parts.toList, VR E w (ev fr p.2) (a.eval p.2) := by
    intro p hp
    refine hv p.2 ?_
    rw [hop]
    simp only [Op.operands, List.mem_toArray, List.mem_map]
    exact ⟨p, hp, rfl⟩
  generalize parts.toList = l at this
  induction l with
  | nil => simp [cL]
  | cons p l ih =>
    simp only [List.map_cons, cL]
    exact ⟨this p (by simp), ih fun q hq => this q (by simp [hq])⟩
variable {o : Oper} {K : AV → aH → Prop} {fr : Fr}
theorem IL {t e : TypeId} {sz b len : Nat} {parts : Array (Nat × Operand)} (hop : o.op = .buildSlice t len parts) (ht : jD P t e sz b) (hi : parts.toList.map (·.1) = List.range len) (hl : len * sz ≤ 16777216)
    {gs : List (List AV)} (hg : iZ (parts.toList.map fun p => ev fr p.2) = some gs) (ho : gs.all (fun g => g.all fS && g.length == sz) = true) (hK : K (.sl none sz gs) h) : iB P o K fr h := by
  intro E w a r hv Nx Qx hn
  have hvl := C9 hop hv
  obtain ⟨a1, a2, a3, a4, a5⟩ := kD hg ho hvl
  obtain ⟨cur, c1, c2⟩ := sP (w := w) hop ht hi hl a3
  have hlen : parts.toList.length = len := by have := congrArg List.length hi; simpa using this
  have hgl : gs.length = len := by rw [a1]; simpa using hlen
  obtain ⟨E', e1, e2, e3⟩ := r.new_imm e (0, 0) cur
  unfold Oper.wp
  rw [c2]
  refine hn _ _ _ E' h e2 e3 ?_ hK
  have hcs : cur.size = len * sz := by
    have := cT a4
    rw [hD a2, hgl, ← c1] at this
    simpa using this.symm
  simp only [VR]
  refine ⟨_, _, by rw [hgl], by rw [hgl]; exact Nat.le_refl _, ?_, .inr ⟨w.heap.size, 0, rfl, iQ.2 ?_⟩, a2, by simp⟩
  · have h6 : 0 < sz := by obtain ⟨_, _, _, _, _, _, _, h6⟩ := ht.inf; exact h6
    have : len ≤ len * sz := Nat.le_mul_of_pos_right _ h6
    simp only [maxLen]; omega
  · refine eD (cB e2 _ _ a4) a5 ?_
    intro j u hj
    rw [← c1] at hj
    have hjl : j < cur.size := by simpa using (List.getElem?_eq_some_iff.1 hj).1
    refine ⟨?_, .inl (e1 _ (by omega))⟩
    have hnew := heap_alloc_new w (.cells cur e)
    simp only [World.cell?, hnew, Nat.zero_add]
    simpa using hj
theorem FH {t e : TypeId} {sz b len : Nat} {parts : Array (Nat × Operand)} (hop : o.op = .buildSlice t len parts) (d : Nat) (ht : jD P t e sz b) (hi : parts.toList.map (·.1) = List.range len) (hl : len * sz ≤ 16777216)
    {gs : List (List AV)} (hg : iZ (parts.toList.map fun p => ev fr p.2) = some gs) (ho : gs.all (fun g => g.all fS && g.length == sz) = true)
    (hK : ∀ n, h (d, n) = none → K (.sl (some (d, n)) sz gs) (upd h (d, n) (some (.tok e sz (gs.length * sz))))) : iB P o K fr h := by
  intro E w a r hv Nx Qx hn
  have hvl := C9 hop hv
  obtain ⟨a1, a2, a3, a4, a5⟩ := kD hg ho hvl
  obtain ⟨cur, c1, c2⟩ := sP (w := w) hop ht hi hl a3
  have hlen : parts.toList.length = len := by have := congrArg List.length hi; simpa using this
  have hgl : gs.length = len := by rw [a1]; simpa using hlen
  have hcs : cur.size = len * sz := by
    have := cT a4
    rw [hD a2, hgl, ← c1] at this
    simpa using this.symm
  have h6 : 0 < sz := by obtain ⟨_, _, _, _, _, _, _, h6⟩ := ht.inf; exact h6
  have hml : len ≤ maxLen := by
    have : len ≤ len * sz := Nat.le_mul_of_pos_right _ h6
    simp only [maxLen]; omega
  obtain ⟨n, hn'⟩ := r.fresh d
  obtain ⟨E', e0, e1, e2, e3⟩ := r.new_tok hn' e sz (gs.length * sz) len hcs (by rw [hgl, hcs]; exact Nat.le_refl _) hml
  unfold Oper.wp
  rw [c2]
  refine hn _ _ _ E' _ e2 e3 ?_ (hK n (r.unused_none hn'))
  have := kB (xs := gs) (w := w.alloc (.cells cur e)) e0 e1 a2 (by rw [hgl]; exact Nat.le_refl _) hml (eD (cB e2 _ _ a4) a5 (by
    intro j u hj
    rw [← c1] at hj
    have hjl : j < cur.size := by simpa using (List.getElem?_eq_some_iff.1 hj).1
    refine ⟨?_, .inr ⟨_, _, rfl, e1, rfl, by show 0 + j < gs.length * sz; rw [hgl]; omega⟩⟩
    have hnew := heap_alloc_new w (.cells cur e)
    simp only [World.cell?, hnew, Nat.zero_add]
    simpa using hj))
  rw [hgl] at this
  exact this
end lit
def aops (P : Program) (ops : Array Oper) (K : Fr → aH → Prop) : List Oper → Fr → aH → Prop
  | [], fr, h => K fr h
  | o :: l, fr, h =>
    match o.guard with
    | none => match pv P h fr o.op with
      | some r => r.1 ∧ aops P ops K l (gM fr o.dst r.2) h
      | none => gZ P ops (o :: l) K fr h
    | some (j, want) => match (ops[j]?).bind (·.dst) with
      | some d => match fr[d]? with
        | some (.sc (.bool b)) => if b = want then match pv P h fr o.op with
            | some r => r.1 ∧ aops P ops K l (gM fr o.dst r.2) h
            | none => gZ P ops ({ o with guard := none } :: l) K fr h
          else aops P ops K l (gM fr o.dst (.sc undef)) h
        | some (.sc (.tuple _)) => aops P ops K l (gM fr o.dst (.sc undef)) h
        | _ => gZ P ops (o :: l) K fr h
      | none => gZ P ops (o :: l) K fr h
theorem LA {P : Program} {o : Oper} {K : AV → aH → Prop} {fr : Fr} {h : aH} {r : Prop × AV} (hp : pv P h fr o.op = some r) (hc : r.1) (hk : K r.2 h) : iB P o K fr h :=
 eR (x := r.2) (fun E w a zT hv => FF (c := r.1) (x := r.2) hp hc E w a zT hv) hk
theorem wQ {P : Program} {ops : Array Oper} {o : Oper} {l : List Oper} {K : Fr → aH → Prop} {fr : Fr} {h : aH} (hw : ∀ E w (a : Act), cL E w fr a.tmps.toList → Region.wanted o (yielded ops a.tmps) = true)
    (hu : gZ P ops ({ o with guard := none } :: l) K fr h) : gZ P ops (o :: l) K fr h := by
  intro E w a r v d Q hQ
  have := hu E w a r v d Q hQ
  unfold wpList at this ⊢
  rw [if_pos (hw E w a v)]
  rw [if_pos (show Region.wanted { o with guard := none } (yielded ops a.tmps) = true from rfl)] at this
  exact this
def aX (h : aH) (x y : AV) : Prop := ∀ E w v, fD E h w → VR E w x v → VR E w y v
theorem aX.refl (h : aH) (x : AV) : aX h x x := fun _ _ _ _ v => v
theorem aX.trans {h : aH} {x y z : AV} (a : aX h x y) (b : aX h y z) : aX h x z := fun E w v r u => b E w v r (a E w v r u)
theorem aX.any (h : aH) (x : AV) : aX h x .any := fun _ _ _ _ _ => by simp only [VR]
theorem aX.nil (h : aH) (sz n : Nat) (hn : n ≤ maxLen) : aX h (.sc (.slice none 0 n)) (.sl none sz []) := fun _ _ v _ u => by
 simp only [VR] at u ⊢
 subst u
 exact ⟨none, n, rfl, Nat.zero_le _, hn, by simp, by simp, by simp⟩
theorem aX.nil_e0 (h : aH) : aX h (.sc (.slice none 0 0)) .e0 := fun _ _ v _ u => by
 simp only [VR] at u ⊢
 exact ⟨none, u⟩
theorem aX.e0 (h : aH) (sz : Nat) : aX h .e0 (.sl none sz []) := fun _ _ v _ u => by
 simp only [VR] at u ⊢
 obtain ⟨a, rfl⟩ := u
 exact ⟨a, 0, rfl, Nat.zero_le _, by simp [maxLen], by simp, by simp, by simp⟩
def FI (h : aH) (k : bZ) : Prop := ∀ ty sz m, h k ≠ some (.tok ty sz m)
theorem fD.tk_none {E : fT} {h : aH} {w : World} (r : fD E h w) {k : bZ} (hk : FI h k) : E.tk k = none := by
 cases e : E.tk k with
 | none => rfl
 | some t => obtain ⟨ty, e'⟩ := r.tkh k t e; exact absurd e' (hk _ _ _)
theorem vO {E : fT} {w : World} {k : bZ} (hk : E.tk k = none) {g : Nat} : ∀ {o : Nat} {cs : List AV}, nW E w (some k) g o cs → nW E w none g o cs
 | _, [], _ => by simp [nW]
 | o, x :: cs, hv => by
  simp only [nW] at hv ⊢
  obtain ⟨h1, h2, h3⟩ := hv
  refine ⟨?_, h2, vO hk h3⟩
  rcases h1 with h1 | ⟨k', t, e1, e2, _⟩
  ·exact .inl h1
  ·cases e1; rw [hk] at e2; cases e2
theorem aX.freeze {h : aH} {k : bZ} (hk : FI h k) (sz : Nat) (xs : List (List AV)) : aX h (.sl (some k) sz xs) (.sl none sz xs) := fun E w v r u => by
 have ht := r.tk_none hk
 simp only [VR] at u ⊢
 obtain ⟨a, cap, e, h1, h2, h3, h4, h5⟩ := u
 refine ⟨a, cap, e, h1, h2, ?_, h4, by simp⟩
 rcases h3 with h3 | ⟨g, o, e', h3⟩
 ·exact .inl h3
 ·exact .inr ⟨g, o, e', iQ.2 (vO ht (iQ.1 h3))⟩
inductive cO (h : aH) : List AV → List AV → Prop where
 | nil : cO h [] []
 | cons {x y : AV} {xs ys : List AV} : aX h x y → cO h xs ys → cO h (x :: xs) (y :: ys)
theorem cO.spec {h : aH} {xs ys : List AV} (hl : cO h xs ys) : ∀ {E : fT} {w : World} {vs : List Value}, fD E h w → cL E w xs vs → cL E w ys vs := by
 induction hl with
 | nil => intro E w vs r v; exact v
 | cons hx _ ih =>
  intro E w vs r v
  cases vs with
  | nil => simp only [cL] at v
  | cons u us => simp only [cL] at v ⊢; exact ⟨hx E w u r v.1, ih r v.2⟩
theorem cO.refl (h : aH) : ∀ (xs : List AV), cO h xs xs
 | [] => .nil
 | x :: xs => .cons (aX.refl h x) (cO.refl h xs)
theorem aX.agg {h : aH} {xs ys : List AV} (hl : cO h xs ys) : aX h (.agg xs) (.agg ys) := fun E w v r u => by
 simp only [VR] at u ⊢
 obtain ⟨cs, e, hc⟩ := u
 exact ⟨cs, e, hl.spec r hc⟩
theorem aX.tup {h : aH} {xs ys : List AV} (hl : cO h xs ys) : aX h (.tup xs) (.tup ys) := fun E w v r u => by
 simp only [VR] at u ⊢
 obtain ⟨cs, e, hc⟩ := u
 exact ⟨cs, e, hl.spec r hc⟩
theorem LB {h : aH} {E : fT} {w : World} (r : fD E h w) {tag : Option bZ} {g : Nat} {xs ys : List AV} (hl : cO h xs ys) : ∀ {o : Nat}, nW E w tag g o xs → nW E w tag g o ys := by
 induction hl with
 | nil => intro o v; exact v
 | cons hx _ ih =>
  intro o v
  simp only [nW] at v ⊢
  obtain ⟨h1, ⟨cv, h2, h3, h4⟩, h5⟩ := v
  exact ⟨h1, ⟨cv, h2, h3, hx E w cv r h4⟩, ih h5⟩
inductive wR (h : aH) : List (List AV) → List (List AV) → Prop where
 | nil : wR h [] []
 | cons {x y : List AV} {xs ys : List (List AV)} : cO h x y → wR h xs ys → wR h (x :: xs) (y :: ys)
theorem cO.length {h : aH} {xs ys : List AV} (hl : cO h xs ys) : xs.length = ys.length := by
 induction hl with
 | nil => rfl
 | cons _ _ ih => simp [ih]
theorem wR.length {h : aH} {xs ys : List (List AV)} (hl : wR h xs ys) : xs.length = ys.length := by
 induction hl with
 | nil => rfl
 | cons _ _ ih => simp [ih]
theorem wR.each {h : aH} {xs ys : List (List AV)} (hl : wR h xs ys) {sz : Nat} (hs : ∀ x ∈ xs, x.length = sz) : ∀ y ∈ ys, y.length = sz := by
 induction hl with
 | nil => simp
 | cons hx _ ih =>
  intro y hy
  rcases List.mem_cons.1 hy with rfl | hy
  ·rw [← hx.length]; exact hs _ (by simp)
  ·exact ih (fun z hz => hs z (by simp [hz])) y hy
theorem LC {h : aH} {E : fT} {w : World} (r : fD E h w) {tag : Option bZ} {g : Nat} {xs ys : List (List AV)} (hl : wR h xs ys) : ∀ {o : Nat}, rD E w tag g o xs → rD E w tag g o ys := by
 induction hl with
 | nil => intro o v; exact v
 | cons hx _ ih =>
  intro o v
  simp only [rD] at v ⊢
  rw [← hx.length]
  exact ⟨LB r hx v.1, ih v.2⟩
theorem aX.sl {h : aH} {tag : Option bZ} {sz : Nat} {xs ys : List (List AV)} (hl : wR h xs ys) : aX h (.sl tag sz xs) (.sl tag sz ys) := fun E w v r u => by
 simp only [VR] at u ⊢
 obtain ⟨a, cap, e, h1, h2, h3, h4, h5⟩ := u
 rw [← hl.length]
 refine ⟨a, cap, e, h1, h2, ?_, hl.each h4, h5⟩
 rcases h3 with h3 | ⟨g, o, e', h3⟩
 ·subst h3; cases hl; exact .inl rfl
 ·exact .inr ⟨g, o, e', LC r hl h3⟩
def gX (h' h : aH) : Prop := ∀ k e, h' k = some e → h k = some e
theorem gX.refl (h : aH) : gX h h := fun _ _ e => e
theorem gX.trans {a b c : aH} (h : gX a b) (k : gX b c) : gX a c := fun x e q => k x e (h x e q)
theorem gX.upd {h' h : aH} (hs : gX h' h) {k : bZ} (hk : h' k = none) (e : Option iH) : gX h' (upd h k e) := fun x e' hx => by
 have : x ≠ k := fun q => by subst q; rw [hk] at hx; cases hx
 rw [cC _ _ this]
 exact hs x e' hx
theorem OQ {P : Program} {c : Code} {Q : Exit → Fr → aH → Prop} {fr fr' : Fr} {h h' : aH} (hs : gX h' h) (hl : cO h' fr fr') (hc : AW P c Q fr' h') : AW P c Q fr h := by
 intro E w a r v d
 obtain ⟨E', k, r'⟩ := r.drop hs
 exact wp_mono (hc E' w a r' (hl.spec r' (cB k _ _ v)) d) fun _ _ _ p => p.trans k
theorem lI {P : Program} {f : FuncId} {args args' : List AV} {Q : AV → aH → Prop} {h : aH} (hl : cO h args args') (hc : aP P f args' h Q) : aP P f args h Q :=
 fun E w vs r v => hc E w vs r (hl.spec r v)
def OR (tmps : Array Value) : ResultVar → Sem Value
 | .tmp t => pure (tmps.getD t undef)
 | .cell a t => do loadVar t (← asAddr (tmps.getD a undef))
theorem zU (fn : Func) (tmps : Array Value) : results fn tmps = (do let vs ← fn.results.mapM (OR tmps); pure (if h : vs.size = 1 then vs[0] else .tuple vs)) := by
 unfold results
 congr 1
def zV (P : Program) (h : aH) (fr : Fr) : ResultVar → Option AV
 | .tmp t => some (fr.getD t .any)
 | .cell a t => (kQ P t).bind fun x => match fr.getD a .any with | .ptr k off => FD h x.1 x.2 (.ptr k off) | _ => none
def E4 (P : Program) (h : aH) (fr : Fr) : List ResultVar → Option (List AV)
 | [] => some []
 | r :: rs => (zV P h fr r).bind fun x => (E4 P h fr rs).map fun xs => x :: xs
def sQ (P : Program) (h : aH) (fr : Fr) : List ResultVar → Option AV
 | [r] => zV P h fr r
 | rs => (E4 P h fr rs).map .tup
section res
variable {P : Program} {E : fT} {h : aH} {w : World}
theorem D8 (r : fD E h w) {fr : Fr} {tmps : Array Value} (v : cL E w fr tmps.toList) {rv : ResultVar} {x : AV} (hx : zV P h fr rv = some x) :
    ∃ u, (OR tmps rv).run P w = .ok u w ∧ VR E w x u := by
  have hg : ∀ t, VR E w (fr.getD t .any) (tmps.getD t undef) := by
    intro t
    have := oQ t undef v
    simpa [Array.getD_eq_getD_getElem?, List.getD] using this
  cases rv with
  | tmp t =>
    simp only [zV, Option.some.injEq] at hx
    subst hx
    exact ⟨_, rfl, hg t⟩
  | cell a t =>
    simp only [zV, Option.bind_eq_some_iff] at hx
    obtain ⟨⟨ag, n⟩, h1, h2⟩ := hx
    have ha := hg a
    split at h2
    · rename_i k off hk
      rw [hk] at ha
      obtain ⟨u, h3, h4⟩ := vM r h1 h2 ha
      simp only [VR] at ha
      obtain ⟨g, _, e⟩ := ha
      refine ⟨u, ?_, h4⟩
      rw [e] at h3
      have e' : tmps.getD a undef = .pointer (some ⟨g, off, none⟩) := e
      simp only [OR, e']
      simpa [Instr.loadAt, Instr.sureAddr, asAddr] using h3
    · cases h2
theorem vP (r : fD E h w) {fr : Fr} {tmps : Array Value} (v : cL E w fr tmps.toList) : ∀ {rs : List ResultVar} {xs : List AV}, E4 P h fr rs = some xs →
    ∃ us, (rs.mapM (OR tmps)).run P w = .ok us w ∧ cL E w xs us
  | [], xs, hx => by cases hx; exact ⟨[], by simp, by simp [cL]⟩
  | rv :: rs, xs, hx => by
    simp only [E4, Option.bind_eq_some_iff, Option.map_eq_some_iff] at hx
    obtain ⟨x, h1, xs', h2, rfl⟩ := hx
    obtain ⟨u, h3, h4⟩ := D8 (P := P) r v h1
    obtain ⟨us, h5, h6⟩ := vP r v h2
    refine ⟨u :: us, ?_, by simp only [cL]; exact ⟨h4, h6⟩⟩
    simp only [List.mapM_cons, Sem.run_bind]
    rw [h3]
    simp only [Result.andThen_ok, h5]
    rfl
theorem BQ (r : fD E h w) {fr : Fr} {tmps : Array Value} (v : cL E w fr tmps.toList) {fn : Func} {x : AV} (hx : sQ P h fr fn.results.toList = some x) : ∃ u, (results fn tmps).run P w = .ok u w ∧ VR E w x u := by
  obtain ⟨rs, hrs⟩ : ∃ rs, rs = fn.results.toList := ⟨_, rfl⟩
  have hre : fn.results = rs.toArray := by rw [hrs]
  have hrun : ∀ us, (rs.mapM (OR tmps)).run P w = .ok us w →
      (results fn tmps).run P w = .ok (if h : us.toArray.size = 1 then us.toArray[0] else .tuple us.toArray) w := by
    intro us hus
    rw [zU, hre, List.mapM_toArray]
    simp only [Sem.run_bind, Sem.run_map, hus, Result.andThen_ok, Sem.run_pure]
  rw [← hrs] at hx
  have gen : ∀ xs, E4 P h fr rs = some xs → ∃ us, (results fn tmps).run P w = .ok (if h : us.toArray.size = 1 then us.toArray[0] else .tuple us.toArray) w ∧ cL E w xs us := by
    intro xs hxs
    obtain ⟨us, h1, h2⟩ := vP (P := P) r v hxs
    exact ⟨us, hrun us h1, h2⟩
  unfold sQ at hx
  split at hx
  · rename_i rv
    obtain ⟨us, h1, h2⟩ := gen [x] (by simp [E4, hx])
    cases us with
    | nil => simp only [cL] at h2
    | cons u us =>
      simp only [cL] at h2
      cases us with
      | nil => exact ⟨u, by simpa using h1, h2.1⟩
      | cons _ _ => simp only [cL, and_false] at h2
  · rename_i hns
    simp only [Option.map_eq_some_iff] at hx
    obtain ⟨xs, h1, rfl⟩ := hx
    obtain ⟨us, h2, h3⟩ := gen xs h1
    have hl : us.length = rs.length := by
      have e1 := cT h3
      have : ∀ (rs : List ResultVar) (xs : List AV), E4 P h fr rs = some xs → xs.length = rs.length := by
        intro rs
        induction rs with
        | nil => intro xs hx; cases hx; rfl
        | cons q rs ih =>
          intro xs hx
          simp only [E4, Option.bind_eq_some_iff, Option.map_eq_some_iff] at hx
          obtain ⟨y, _, ys, hy, rfl⟩ := hx
          simp [ih ys hy]
      rw [← e1, this rs xs h1]
    have hne : ¬ us.toArray.size = 1 := by
      intro e
      have : rs.length = 1 := by rw [← hl]; simpa using e
      obtain ⟨q, hq⟩ := List.length_eq_one_iff.1 this
      exact hns q hq
    rw [dif_neg hne] at h2
    exact ⟨_, h2, by simp only [VR]; exact ⟨_, rfl, by simpa using h3⟩⟩
end res
def dY (P : Program) (rs : List ResultVar) (Q : AV → aH → Prop) : Exit → Fr → aH → Prop
 | .normal, fr, h | .ret, fr, h => ∃ x y h'', sQ P h fr rs = some x ∧ gX h'' h ∧ aX h'' x y ∧ Q y h''
 | _, _, _ => False
theorem wS {P : Program} {f : FuncId} {fn : Func} {c : Code} {args : List AV} {h : aH} {Q : AV → aH → Prop} (hf : P.funcs[f]? = some fn) (hb : fn.body = some c)
    (hc : AW P c (dY P fn.results.toList Q) (args ++ List.replicate (fn.ntmps - args.length) (.sc undef)) h) : aP P f args h Q := by
  intro E w vs r v
  refine calls_of_wp hf hb ?_
  have hl : args.length = vs.size := by simpa using cT v
  have hv : cL E w (args ++ List.replicate (fn.ntmps - args.length) (.sc undef)) (vs ++ Array.replicate (fn.ntmps - vs.size) undef).toList := by
    rw [Array.toList_append, ← hl]
    refine cU v ?_
    have := n7 (E := E) (w := w) (List.replicate (fn.ntmps - args.length) undef)
    simpa using this
  refine wp_mono (hc E w { tmps := vs ++ Array.replicate (fn.ntmps - vs.size) undef, defers := [] } r hv rfl) ?_
  intro e a' w' p
  obtain ⟨E', fr', h', k, r', v', d', q⟩ := p
  have fin : ∀ x y h'', sQ P h' fr' fn.results.toList = some x → gX h'' h' → aX h'' x y → Q y h'' →
      a'.defers = [] ∧ ∃ u, (results fn a'.tmps).run P w' = .ok u w' ∧ (fun e w' => ∃ v E' x h', e = Ending.returned v ∧ eB E w E' w' ∧ fD E' h' w' ∧ VR E' w' x v ∧ Q x h') (Ending.returned u) w' := by
    intro x y h'' hx hs hl hq
    obtain ⟨u, h1, h2⟩ := BQ r' v' hx
    obtain ⟨E'', k'', r''⟩ := r'.drop hs
    exact ⟨d', u, h1, u, E'', y, h'', rfl, k.trans k'', r'', hl _ _ _ r'' (jL k'' _ _ h2), hq⟩
  cases e with
  | normal => obtain ⟨x, y, h'', q1, q2, q3, q4⟩ := q; exact fin x y h'' q1 q2 q3 q4
  | ret => obtain ⟨x, y, h'', q1, q2, q3, q4⟩ := q; exact fin x y h'' q1 q2 q3 q4
  | exit id => exact q.elim
  | goto l => exact q.elim
  | panic ch => exact q.elim
  | outgrown => exact q.elim
theorem jD.of {P : Program} {t e : TypeId} {sz b : Nat} (ht : P.underlying t = some (.slice e)) (hi : (P.info? e).map (fun i => (i.zero.map fun z => z.cells.size, i.size, i.bytes)) = some (some sz, sz, b)) (h0 : 0 < sz) : jD P t e sz b := by
 refine ⟨ht, ?_⟩
 cases e1 : P.info? e with
 | none => rw [e1] at hi; simp at hi
 | some i =>
  cases e2 : i.zero with
  | none => rw [e1] at hi; simp [e2] at hi
  | some z =>
   rw [e1] at hi
   simp [e2] at hi
   exact ⟨i, z, rfl, e2, hi.2.1, hi.2.2, hi.1, h0⟩
def ac (P : Program) : Code → (Exit → Fr → aH → Prop) → Fr → aH → Prop
 | .skip, Q, fr, h => Q .normal fr h
 | .region id ops draw, Q, fr, h => match draw with
  | true => AW P (.region id ops true) Q fr h
  | false => aops P ops (Q .normal) ops.toList fr h
 | .seq a b, Q, fr, h => ac P a (Seq (ac P b Q) Q) fr h
 | .cond c x y, Q, fr, h => match ev fr c with
  | .sc (.bool b) => if b = true then ac P x Q fr h else ac P y Q fr h
  | _ => AW P (.cond c x y) Q fr h
 | .block id c, Q, fr, h => ac P c (E8 id Q) fr h
 | .exit id, Q, fr, h => Q (.exit id) fr h
 | .ret, Q, fr, h => Q .ret fr h
 | c, Q, fr, h => AW P c Q fr h
theorem zW (n : Int) : IntKind.wrap .u8 n = n % 256 := by simp [IntKind.wrap, IntKind.bits, IntKind.signed]
section steps
variable {P : Program} {Q : Exit → Fr → aH → Prop} {fr : Fr} {h : aH} {a b : Code}
theorem fU (hk : ∀ K : Fr → aH → Prop, (∀ fr h, AW P b Q fr h → K fr h) → AW P a (Seq K Q) fr h) : AW P (.seq a b) Q fr h := BI (hk _ fun _ _ h => h)
end steps
def mf (n : Nat) (kvs : List (Nat × AV)) : Fr := kvs.foldl (fun fr p => fr.set p.1 p.2) (List.replicate n .any)
def LD (h : aH) (fr : Fr) : List (Nat × AV) → Prop
 | [] => True
 | (i, v) :: r => (match fr[i]? with | some x => aX h x v | none => False) ∧ LD h fr r
theorem FJ (h : aH) (x : AV) : aX h x x ↔ True := iff_true_intro (aX.refl h x)
theorem aX.of_eq {h : aH} {x y : AV} (e : x = y) : aX h x y := e ▸ aX.refl h x
theorem aX.int {h : aH} {k : IntKind} {a b : Int} (e : a = b) : aX h (.sc (.int k a)) (.sc (.int k b)) := e ▸ aX.refl h _
attribute [go_sem] mf LD FJ List.foldl_cons List.foldl_nil
attribute [go_sem] undef ac pv J3 gM ev cv ST pk bv ib sh sb N9 OP D1 uN jC E3 H9 FD BM mJ wN II IJ SS J2 tt Seq E8 dY sQ zV E4
attribute [go_sem] List.set_cons_succ List.set_cons_zero List.getD_cons_succ List.getD_cons_zero List.getElem?_cons_succ List.getElem?_cons_zero Option.bind_some Option.map_some Option.bind_none Option.map_none List.getElem?_toArray
 List.length_cons List.length_nil List.cons_append List.nil_append List.replicate true_and and_true forall_const if_true if_false false_and and_false false_implies implies_true true_implies Bool.not_true Bool.not_false not_true_eq_false not_false_eq_true decide_true decide_false decide_eq_true_eq decide_eq_false_iff_not List.head?_cons Int.natCast_zero List.map_nil List.drop_zero List.drop_succ_cons
section ops
variable {P : Program} {o : Oper} {K : AV → aH → Prop} {fr : Fr} {h : aH}
theorem iM {t u : TypeId} {x : Operand} (hop : o.op = .binOp .eql t x (.const (.slice none 0 0)) u) (ht : (lS P t).isSome = true) {y : AV} (hx : ev fr x = y)
    (hy : (∃ tag sz xs, y = .sl tag sz xs ∧ ∀ b : Bool, (xs ≠ [] → b = false) → K (.sc (.bool b)) h) ∨ (y = .sc (.slice none 0 0) ∧ K (.sc (.bool true)) h) ∨ (y = .e0 ∧ ∀ b : Bool, K (.sc (.bool b)) h)) : iB P o K fr h := by
  intro E w a r hv Nx Qx hn
  have vx := hv x (by rw [hop]; simp [Op.operands])
  rw [hx] at vx
  obtain ⟨s, hs⟩ := Option.isSome_iff_exists.1 ht
  obtain ⟨e, hu, _⟩ := fO hs
  have run : ∀ q n c, a.eval x = .slice q n c → (execOp a.eval o).run P w = .ok (.value (.bool q.isNone)) w := by
    intro q n c he
    have h2 : a.eval (.const (.slice none 0 0)) = .slice none 0 0 := rfl
    simp only [execOp, hop, he, h2]
    have h3 : (binOp .eql t (.slice q n c) (.slice none 0 0)).run P w = .ok (.bool q.isNone) w := by
      simp only [binOp]
      simp [run_equal_slice_nil w t e q n c hu]
    simp [eqGuard, h3]
  unfold Oper.wp
  rcases hy with ⟨tag, sz, xs, rfl, hk⟩ | ⟨rfl, hk⟩ | ⟨rfl, hk⟩
  · have vx' := vx
    simp only [VR] at vx
    obtain ⟨q, cap, e1, _, _, h3, _⟩ := vx
    rw [run q _ cap e1]
    refine hn _ _ w E h (eB.refl E w) r (by simp only [VR]) (hk q.isNone ?_)
    intro hne
    obtain ⟨g, oo, rfl, _⟩ := h3.resolve_left hne
    rfl
  · simp only [VR] at vx
    rw [run none 0 0 vx]
    exact hn _ _ w E h (eB.refl E w) r (by simp only [VR]; rfl) hk
  · simp only [VR] at vx
    obtain ⟨q, e1⟩ := vx
    rw [run q 0 0 e1]
    exact hn _ _ w E h (eB.refl E w) r (by simp only [VR]) (hk q.isNone)
theorem zX {t e : TypeId} {sz b : Nat} (hop : o.op = .buildSlice t 0 #[]) (ht : jD P t e sz b) (hK : K .e0 h) : iB P o K fr h := by
 intro E w a r hv Nx Qx hn
 obtain ⟨cur, c1, c2⟩ := sP (w := w) (a := a) hop ht (by simp) (by simp) (by simp)
 obtain ⟨E', e1, e2, e3⟩ := r.new_imm e (0, 0) cur
 unfold Oper.wp
 rw [c2]
 exact hn _ _ _ E' h e2 e3 (by simp only [VR]; exact ⟨_, rfl⟩) hK
def vQ : List (List AV) → Option (List UInt8)
 | [] => some []
 | [.sc (.int .u8 n)] :: r => (vQ r).map fun s => UInt8.ofNat n.toNat :: s
 | _ => none
theorem sR {E : fT} {w : World} : ∀ {xs : List (List AV)} {s : List UInt8}, vQ xs = some s → ∀ {cv : List Value}, cL E w xs.flatten cv → ∃ ns : List Int, cv = ns.map (Value.int .u8) ∧ ns.map (fun n => UInt8.ofNat n.toNat) = s
 | [], s, hs, cv, hv => by
  cases hs
  cases cv with
  | nil => exact ⟨[], rfl, rfl⟩
  | cons _ _ => simp [cL] at hv
 | x :: xs, s, hs, cv, hv => by
  unfold vQ at hs
  split at hs
  ·rename_i e; cases e
  ·rename_i n r e
   cases e
   simp only [Option.map_eq_some_iff] at hs
   obtain ⟨s', h1, rfl⟩ := hs
   simp only [List.flatten_cons, List.cons_append, List.nil_append] at hv
   cases cv with
   | nil => simp only [cL] at hv
   | cons c cv =>
    simp only [cL, VR] at hv
    obtain ⟨rfl, hv⟩ := hv
    obtain ⟨ns, h2, h3⟩ := sR h1 hv
    exact ⟨n :: ns, by rw [h2]; rfl, by rw [← h3]; rfl⟩
  ·cases hs
theorem BR (ns : List Int) : ∀ (s : ByteArray), (ns.foldl (fun r n => r.push (UInt8.ofNat n.toNat)) s).data.toList = s.data.toList ++ ns.map fun n => UInt8.ofNat n.toNat := by
 induction ns with
 | nil => intro s; simp
 | cons n ns ih => intro s; rw [List.foldl_cons, ih]; simp
theorem uQ {a b : ByteArray} (h : a.data.toList = b.data.toList) : a = b := by
 cases a; cases b; congr 1; exact Array.ext' h
theorem IM {src dst e : TypeId} {x : Operand} (hop : o.op = .convert src dst x) (hs : P.underlying src = some (.slice e)) (he : P.underlying e = some (.int .u8)) (hd : P.underlying dst = some .string)
    {tag : Option bZ} {xs : List (List AV)} (hx : ev fr x = .sl tag 1 xs) {s : List UInt8} (hstr : vQ xs = some s) (hK : K (.sc (.string ⟨s.toArray⟩)) h) : iB P o K fr h := by
  refine eR (x := .sc (.string ⟨s.toArray⟩)) (fun E w a r hv => ?_) hK
  have vx := hv x (by rw [hop]; simp [Op.operands])
  rw [hx] at vx
  refine ⟨.string ⟨s.toArray⟩, ?_, by simp only [VR]⟩
  have hc : ∀ q n c, a.eval x = .slice q n c → ∀ v, (Conv.bytesToString (.slice q n c)).run P w = .ok v w → (execOp a.eval o).run P w = .ok (.value v) w := by
    intro q n c he' v hr
    simp only [execOp, hop, he', Sem.run_bind]
    rw [run_convert_bytes_string w src dst e q n c hs he hd, hr]
    simp
  by_cases hne : xs = []
  · subst hne
    cases hstr
    simp only [VR] at vx
    obtain ⟨q, cap, e1, _⟩ := vx
    refine hc _ _ _ e1 _ ?_
    cases q with
    | none => simp [Conv.bytesToString]; rfl
    | some b =>
      exact run_bytesToString (P := P) w b 0 cap [] (by simp [loadCells, loadCellsFrom])
  · obtain ⟨g, oo, cap, cv, e1, c1, c2, c3, c4⟩ := kA vx hne
    obtain ⟨ns, h2, h3⟩ := sR hstr c1
    refine hc _ _ _ e1 _ ?_
    have hl := run_loadCells_list (P := P) w ⟨g, oo, none⟩ cv (fun j v hj => by rw [Addr.add_lit]; exact (c4 j v hj).1)
    rw [c3, Nat.mul_one, h2] at hl
    rw [run_bytesToString w ⟨g, oo, none⟩ xs.length cap ns (by simpa using hl)]
    congr 2
    apply uQ
    rw [BR]
    simp [h3]
end ops
open Go.ChangeShapes Go.WideShapes
def E0 (W : World) : fT := ⟨fun g o => (W.cell? ⟨g, o, none⟩).isSome = true, fun g => g < W.heap.size, fun _ => False, fun _ => none, fun _ => none⟩
def H0 : aH := fun _ => none
theorem fD.start (W : World) : fD (E0 W) H0 W := by
 refine ⟨fun _ _ _ h => (by cases h), fun _ _ _ _ h => (by cases h), fun _ _ h => (by cases h), ?_, ?_, fun _ _ h => (by cases h), fun _ _ h => (by cases h), fun d => ⟨0, fun n _ h => h⟩, ?_, fun g h => h, fun _ _ h => (by cases h)⟩
 ·rintro k k' g (⟨_, _, h, _⟩ | ⟨_, _, _, _, h, _⟩) <;> cases h
 ·rintro k g (⟨_, _, h, _⟩ | ⟨_, _, _, _, h, _⟩) <;> cases h
 ·intro g o h
  exact Option.isSome_iff_exists.1 h
section
variable {H : Type} {enc : TypeId × Value → H} {P : Program} {W W' : World}
theorem nX {E' : fT} (k : eB (E0 W) W E' W') (hl : laidOutB P = true) : ∀ {ts : List TypeId} {vs : List Value} {ds : List (DataW H)} {ps : List MemPlace},
    (∀ t ∈ ts, P.readableRec t = true ∧ t < P.types.size) → (∀ p ∈ ps, p.block < W.heap.size) → DataW.TrodAll enc P W 0 (fun _ => true) true ts vs ds ps →
    DataW.TrodAll enc P W' 0 (fun b => decide (b < W.heap.size)) true ts vs ds ps
  | [], _, _, _, _, _, h => by
    obtain ⟨rfl, rfl, rfl⟩ := trodAll_nil h
    rfl
  | t :: ts, _, _, _, hr, hp, h => by
    obtain ⟨v, vs', d, ds', p, q, rfl, rfl, rfl, h1, h2⟩ := trodAll_cons h
    have hsame : ∀ x ∈ p, W.sameAt W' x := by
      intro x hx
      have hb := hp x (by simp [hx])
      have hk := k.lock x.block hb
      cases x with
      | cell b off => exact dU hk off
      | map b => exact hk
    exact ⟨p, q, WideElems.Trod_stays hl (hr t (by simp)).1 (hr t (by simp)).2 h1 hsame (fun x hx => by simpa using hp x (by simp [hx])),
      nX k hl (fun t' h' => hr t' (by simp [h'])) (fun x hx => hp x (by simp [hx])) h2, rfl⟩
theorem wT {f : Func} {s : ChangeSpec} {apart fresh handsOn : Bool} {E' : fT} {args : Array Value} {ds gs : List (DataW H)} {before : List MemPlace} {t : TypeId} (hl : laidOutB P = true)
    (hr : ∀ t ∈ f.params.toList, P.readableRec t = true ∧ t < P.types.size) (hW : DataW.Whole enc P f.params.toList s.vars apart W args.toList ds gs before) (hv : s.vars = []) (k : eB (E0 W) W E' W')
    (ht : f.resultTypes = #[t]) (hb : P.underlying t = some .bool)
    (hfn : ∀ ds : List (DataW H), ds.length = f.params.toList.length → s.fn H ds = { results := [.lit (.bool true)], args := ds }) :
    s.post enc P f apart fresh handsOn false W args (.bool true) W' := by
  have hlt := hW.lt
  have hW0 := hW
  obtain ⟨p, q, hA, hV, rfl, hfz, hnd⟩ := hW
  rw [hv] at hV
  obtain ⟨rfl, rfl⟩ := trodVars_none hV
  have hlen : ∀ {ts : List TypeId} {vs : List Value} {ds : List (DataW H)} {ps : List MemPlace}, DataW.TrodAll enc P W 0 (fun _ => true) true ts vs ds ps → ds.length = ts.length := by
    intro ts
    induction ts with
    | nil => intro vs ds ps h; obtain ⟨-, rfl, -⟩ := trodAll_nil h; rfl
    | cons t ts ih => intro vs ds ps h; obtain ⟨v, vs', d, ds', p, q, -, rfl, -, -, h2⟩ := trodAll_cons h; simp [ih h2]
  have e := hfn ds (hlen hA)
  refine ⟨ds, [], _, [], p, [], hW0, ?_, ?_, ?_, ?_, fun h => by cases h⟩
  · rw [List.append_nil, e, ht]
    exact ⟨[], [], ⟨1, by simp [DataW.trod, Value.cells, hb]⟩, rfl, rfl⟩
  · rw [List.append_nil, e]
    exact nX k hl hr (fun x hx => hlt x (by simp [hx])) hA
  · rw [List.append_nil, e, hv]
    rfl
  · refine ⟨k.os, k.output, fun i hi => ?_⟩
    rw [k.lock i hi]
    cases hq : W.heap[i]? with
    | none => trivial
    | some o => cases o <;> simp
theorem D9 {E : fT} {w : World} {t : TypeId} {k : IntKind} {v : Value} {d : DataW H} {ps : List MemPlace} {base : Nat} (ht : P.underlying t = some (.int k)) (hval : Value.okWide P W .any base t v)
    (h : DataW.Trod enc P W 0 (fun _ => true) true t v d ps) : ∃ n : Int, VR E w (.sc (.int k n)) v ∧ (Lit.int k n).wf = true := by
  obtain ⟨n, rfl, -, -, hw⟩ := open_int ht hval h
  exact ⟨n, by simp only [VR], hw⟩
theorem FK {C : Checked} {os : Os} {f : FuncId} {fn : Func} {s : ChangeSpec} {conds : List PathCond} {apart fresh handsOn : Bool} {t : TypeId} (own : ownKnob C.prog.godebug = none) (started : os.Started) (noInit : C.prog.inits.idxOf? f = none) (hfn : C.prog.funcs[f]? = some fn)
    (witness : ∃ (w : World) (tape : Tape) (i : Input), w.os = os ∧ (w.forCall tape i).Shaped C.prog ∧ i.vars = [] ∧ Input.okWide C.prog (w.forCall tape i) .any w.heap.size f i ∧
      s.pre6 enc C.prog fn conds apart (w.forCall tape i).memory i.args ∧ ({} : Assume).holds C.prog (lone (Frame.enter C.prog f i.args .normal) [] (w.forCall tape i)))
    (hl : laidOutB C.prog = true) (hr : ∀ t ∈ fn.params.toList, C.prog.readableRec t = true ∧ t < C.prog.types.size) (hv : s.vars = []) (ht : fn.resultTypes = #[t]) (hb : C.prog.underlying t = some .bool)
    (hs : ∀ ds : List (DataW H), ds.length = fn.params.toList.length → s.fn H ds = { results := [.lit (.bool true)], args := ds })
    (hrun : ∀ (W : World) (base : Nat) (args : Array Value) (ds : List (DataW H)) (ps : List MemPlace), (∀ (j : Nat) t v, fn.params[j]? = some t → args[j]? = some v → Value.okWide C.prog W .any base t v) →
      DataW.TrodAll enc C.prog W 0 (fun _ => true) true fn.params.toList args.toList ds ps → ∃ avs, cL (E0 W) W avs args.toList ∧ aP C.prog f avs H0 (fun r _ => r = .sc (.bool true))) :
    ReturnsInHanded {} C os f .any (s.pre6 enc C.prog fn conds apart) (s.post enc C.prog fn apart fresh handsOn false) := by
  refine returnsInHanded_of_change own started noInit hfn witness ?_
  intro W base args ds gs before hval hW _ _
  have hW0 := hW
  obtain ⟨p, q, hA, _, _, _, _⟩ := hW
  obtain ⟨avs, h1, h2⟩ := hrun W base args ds p hval hA
  refine (h2 (E0 W) W args (fD.start W) h1).mono ?_
  rintro e W' ⟨v, E', x, h', rfl, k, r', vx, rfl⟩
  simp only [VR] at vx
  subst vx
  exact ⟨_, rfl, wT hl hr hW0 hv k ht hb hs⟩
end
section ops
variable {P : Program} {o : Oper} {K : AV → aH → Prop} {fr : Fr} {h : aH}
def LE (op : BinOp) (a b : Bool) : Option Bool := match op with | .eql => some (a == b) | .neq => some (a != b) | _ => none
theorem IN {op : BinOp} {t u : TypeId} {x y : Operand} (hop : o.op = .binOp op t x y u) (ht : P.underlying t = some .bool) {a b r : Bool} (hx : ev fr x = .sc (.bool a)) (hy : ev fr y = .sc (.bool b)) (hr : LE op a b = some r)
    (hK : K (.sc (.bool r)) h) : iB P o K fr h := by
  refine eR (x := .sc (.bool r)) (fun E w ac _ hv => ?_) hK
  have vx := hv x (by rw [hop]; simp [Op.operands])
  have vy := hv y (by rw [hop]; simp [Op.operands])
  rw [hx] at vx; rw [hy] at vy
  simp only [VR] at vx vy
  refine ⟨.bool r, ?_, by simp only [VR]⟩
  have he : ∀ d, (Op.equalIn (d + 1) t (.bool a) (.bool b)).run P w = .ok (a == b) w := fun d => run_equalIn_bool' w d t a b ht
  simp only [execOp, hop, vx, vy]
  cases op <;> simp only [LE, Option.some.injEq, reduceCtorEq] at hr
  · subst hr
    simp [eqGuard, binOp, Op.equal, Op.maxDepth, he 9999]
  · subst hr
    simp [eqGuard, binOp, Op.equal, Op.maxDepth, he 9999]
    cases a <;> cases b <;> rfl
end ops
inductive TA (k : bZ) (cs : List AV) : AV → AV → Prop where
 | same (x : AV) : TA k cs x x
 | view (off n sz : Nat) : 0 < sz → off + n * sz ≤ cs.length → TA k cs (.view k off n) (.sl none sz (BO sz n (cs.drop off)))
inductive uR (k : bZ) (cs : List AV) : List AV → List AV → Prop where
 | nil : uR k cs [] []
 | cons {x y : AV} {xs ys : List AV} : TA k cs x y → uR k cs xs ys → uR k cs (x :: xs) (y :: ys)
theorem uR.refl (k : bZ) (cs : List AV) : ∀ (xs : List AV), uR k cs xs xs
 | [] => .nil
 | x :: xs => .cons (.same x) (uR.refl k cs xs)
theorem uR.set (k : bZ) (cs : List AV) {off n sz : Nat} (h0 : 0 < sz) (h1 : off + n * sz ≤ cs.length) : ∀ (i : Nat) (xs : List AV), xs[i]? = some (.view k off n) → uR k cs xs (xs.set i (.sl none sz (BO sz n (cs.drop off))))
 | _, [], h => by simp at h
 | 0, x :: xs, h => by
  simp only [List.getElem?_cons_zero, Option.some.injEq] at h
  subst h
  exact .cons (.view off n sz h0 h1) (uR.refl k cs xs)
 | i + 1, x :: xs, h => .cons (.same x) (uR.set k cs h0 h1 i xs (by simpa using h))
def own (t : Option bZ) (sz : Nat) (xs : List (List AV)) : AV := match t with
 | none => .sc (.slice none 0 0)
 | some k => .sl (some k) sz xs
structure J4 (h : aH) (t : Option bZ) (xs : List (List AV)) : Prop where
 nil : t = none → xs = []
 new : ∀ k, t = some k → h k = none
theorem J4.none (h : aH) : J4 h none [] := ⟨fun _ => rfl, fun _ e => (by cases e)⟩
theorem cO.put {h : aH} {x y : AV} : ∀ (i : Nat) (fr : List AV), fr[i]? = some x → aX h x y → cO h fr (fr.set i y)
 | _, [], e, _ => by simp at e
 | 0, z :: fr, e, hl => by
  simp only [List.getElem?_cons_zero, Option.some.injEq] at e
  subst e
  exact .cons hl (cO.refl h fr)
 | i + 1, z :: fr, e, hl => .cons (aX.refl h z) (cO.put i fr (by simpa using e) hl)
section ops
variable {P : Program} {o : Oper} {K : AV → aH → Prop} {fr : Fr} {h : aH}
end ops
abbrev KV := Nat → AV
def k0 : KV := fun _ => .any
def kp (f : KV) (d : Nat) (x : AV) : KV := fun t => bif Nat.beq d t then x else f t
def fm (n : Nat) (f : KV) : Fr := (List.range n).map f
def lk (n : Nat) (f : KV) (t : Nat) : AV := bif Nat.blt t n then f t else .any
def dN (n : Nat) (f : KV) : Operand → AV
 | .tmp t => lk n f t
 | .const v => cv v
 | .global _ => .any
 | .func f => .fn (.func f) []
def mT (f : KV) (d : Option Tmp) (x : AV) : KV := match d with | some d => kp f d x | none => f
theorem mU (n : Nat) (f : KV) (t : Nat) : (fm n f)[t]? = if t < n then some (f t) else none := by
 unfold fm
 rw [List.getElem?_map]
 by_cases h : t < n
 ·rw [List.getElem?_range h]; simp [h]
 ·rw [List.getElem?_eq_none (by simpa using h)]; simp [h]
theorem jU (n : Nat) (f : KV) : (fm n f).length = n := by simp [fm]
theorem jK (n : Nat) (f : KV) (t : Nat) : lk n f t = if t < n then f t else .any := by
 unfold lk
 by_cases h : t < n
 ·have : Nat.blt t n = true := by rw [Nat.blt_eq]; exact h
  simp [this, h]
 ·have : Nat.blt t n = false := by
   cases e : Nat.blt t n with
   | false => rfl
   | true => rw [Nat.blt_eq] at e; exact absurd e h
  simp [this, h]
theorem bG (n : Nat) (f : KV) (o : Operand) : ev (fm n f) o = dN n f o := by
 cases o with
 | tmp t =>
  simp only [ev, dN, List.getD, mU, jK]
  split <;> rfl
 | const v => rfl
 | global g => rfl
 | func f => rfl
theorem jN (f : KV) (d : Nat) (x : AV) : kp f d x d = x := by simp [kp]
theorem nY (f : KV) {d t : Nat} (x : AV) (h : d ≠ t) : kp f d x t = f t := by
 have : Nat.beq d t = false := by
  cases e : Nat.beq d t with
  | false => rfl
  | true => exact absurd (Nat.eq_of_beq_eq_true e) h
 simp [kp, this]
theorem kW (n : Nat) (f : KV) (d : Option Tmp) (x : AV) : gM (fm n f) d x = fm n (mT f d x) := by
 cases d with
 | none => rfl
 | some d =>
  simp only [gM, mT]
  apply List.ext_getElem?
  intro t
  rw [List.getElem?_set, jU, mU, mU]
  by_cases h : d = t
  ·subst h
   simp [jN]
  ·simp [h, nY]
theorem vR {n : Nat} {f : KV} {t : Nat} {u : Value} (h : lk n f t = .sc u) : (fm n f)[t]? = some (.sc u) := by
 rw [jK] at h
 rw [mU]
 split at h
 ·rename_i q; rw [if_pos q, h]
 ·cases h
def FT (h : aH) (n : Nat) (f g : KV) : Prop := ∀ t, t < n → aX h (f t) (g t)
theorem FT.nil {h : aH} {n : Nat} {f : KV} : FT h n f k0 := fun _ _ => aX.any _ _
theorem FT.cons {h : aH} {n : Nat} {f g : KV} {d : Nat} {v : AV} (hv : aX h (lk n f d) v) (hf : FT h n f g) : FT h n f (kp g d v) := by
 intro t ht
 by_cases e : d = t
 ·subst e
  rw [jK, if_pos ht] at hv
  rw [jN]; exact hv
 ·rw [nY _ _ e]; exact hf t ht
theorem mV {h : aH} : ∀ {xs ys : List AV}, xs.length = ys.length → (∀ (i : Nat) (x y : AV), xs[i]? = some x → ys[i]? = some y → aX h x y) → cO h xs ys
 | [], [], _, _ => .nil
 | x :: xs, y :: ys, hl, hg => .cons (hg 0 x y rfl rfl) (mV (by simpa using hl) fun i a b ha hb => hg (i + 1) a b (by simpa using ha) (by simpa using hb))
 | [], _ :: _, hl, _ => by simp at hl
 | _ :: _, [], hl, _ => by simp at hl
theorem IP {h : aH} {n : Nat} {f g : KV} (hf : FT h n f g) : cO h (fm n f) (fm n g) := by
 refine mV (by rw [jU, jU]) ?_
 intro i x y hx hy
 rw [mU] at hx hy
 by_cases hi : i < n
 ·rw [if_pos hi] at hx hy
  cases hx; cases hy
  exact hf i hi
 ·rw [if_neg hi] at hx; cases hx
def gY (fr' : Fr) (h' : aH) (fr : Fr) (h : aH) : Prop :=
 ∀ E w vs, fD E h w → cL E w fr vs → ∃ E', eB E w E' w ∧ fD E' h' w ∧ cL E' w fr' vs
theorem gY.of {fr fr' : Fr} {h h' : aH} (hs : gX h' h) (hl : cO h' fr fr') : gY fr' h' fr h := fun E w vs r v => by
 obtain ⟨E', k, r'⟩ := r.drop hs
 exact ⟨E', k, r', hl.spec r' (cB k _ _ v)⟩
theorem gY.fm {n : Nat} {f g : KV} {h h' : aH} (hs : gX h' h) (hf : FT h' n f g) : gY (fm n g) h' (fm n f) h := .of hs (IP hf)
theorem gY.trans {fr fr1 fr2 : Fr} {h h1 h2 : aH} (a : gY fr1 h1 fr h) (b : gY fr2 h2 fr1 h1) : gY fr2 h2 fr h := fun E w vs r v => by
 obtain ⟨E', k, r', v'⟩ := a E w vs r v
 obtain ⟨E'', k', r'', v''⟩ := b E' w vs r' v'
 exact ⟨E'', k.trans k', r'', v''⟩
theorem gY.aw {P : Program} {c : Code} {Q : Exit → Fr → aH → Prop} {fr fr' : Fr} {h h' : aH} (le : gY fr' h' fr h) (hc : AW P c Q fr' h') : AW P c Q fr h := by
 intro E w a r v d
 obtain ⟨E', k, r', v'⟩ := le E w _ r v
 exact wp_mono (hc E' w a r' v' d) fun _ _ _ p => p.trans k
section rules
variable {P : Program} {Q : Exit → Fr → aH → Prop} {h : aH} {n : Nat} {kvs : KV}
def wU : Nat → List AV → KV
 | _, [] => k0
 | i, x :: xs => kp (wU (i + 1) xs) i x
theorem qA (undefs : Nat) : ∀ (i : Nat) (xs : List AV) (t : Nat), wU i xs (i + t) = (xs ++ List.replicate undefs AV.any).getD t AV.any
 | i, [], t => by
  simp only [wU, k0, List.nil_append, List.getD, List.getElem?_replicate]
  split <;> rfl
 | i, x :: xs, 0 => by simp [wU, kp]
 | i, x :: xs, t + 1 => by
  simp only [wU]
  rw [nY _ _ (by omega)]
  have := qA undefs (i + 1) xs t
  rw [show i + 1 + t = i + (t + 1) from by omega] at this
  rw [this]
  simp
theorem vS {f : FuncId} {fn : Func} {c : Code} {args : List AV} {Q : AV → aH → Prop} (n : Nat) (rs : List ResultVar) (hf : P.funcs[f]? = some fn) (hb : fn.body = some c) (hn : fn.ntmps = n) (hr : fn.results.toList = rs) (hle : Nat.ble args.length n = true)
    (hc : AW P c (dY P rs Q) (fm n (wU 0 args)) h) : aP P f args h Q := by
  have hle := Nat.le_of_ble_eq_true hle
  refine wS hf hb ?_
  rw [hn, hr]
  refine OQ (gX.refl h) (mV ?_ ?_) hc
  · rw [jU, List.length_append, List.length_replicate]; omega
  · intro i x y hx hy
    rw [mU] at hy
    split at hy
    · cases hy
      have e := qA (n - args.length) 0 args i
      rw [Nat.zero_add] at e
      rw [e]
      by_cases hi : i < args.length
      · rw [List.getElem?_append_left hi] at hx
        simp only [List.getD, List.getElem?_append_left hi, hx, Option.getD_some]
        exact aX.refl _ _
      · simp only [List.getD, List.getElem?_append_right (Nat.le_of_not_lt hi), List.getElem?_replicate]
        split <;> exact aX.any _ _
    · cases hy
theorem dW {id : Nat} {l : List Oper} (hl : gZ P l.toArray l (Q .normal) (fm n kvs) h) : AW P (.region id l.toArray false) Q (fm n kvs) h := vJ hl
theorem lA {c : Operand} {x y : Code} {t : Bool} (hc : dN n kvs c = .sc (.bool t)) (ht : t = true → AW P x Q (fm n kvs) h) (hf : t = false → AW P y Q (fm n kvs) h) : AW P (.cond c x y) Q (fm n kvs) h :=
 OO (by rw [bG]; exact hc) ht hf
theorem BS (P : Program) (h : aH) {t : Nat} : zV P h (fm n kvs) (.tmp t) = some (lk n kvs t) := by
 have := bG n kvs (.tmp t)
 simp only [ev, dN] at this
 simp only [zV, this]
theorem dY.one {Q : AV → aH → Prop} {t : Nat} {e : Exit} {y : AV} {h'' : aH} (he : e = .ret ∨ e = .normal) (hs : gX h'' h) (hl : aX h'' (lk n kvs t) y) (hq : Q y h'') : dY P [.tmp t] Q e (fm n kvs) h := by
 rcases he with rfl | rfl <;> exact ⟨_, y, h'', BS P h, hs, hl, hq⟩
theorem dY.zero {Q : AV → aH → Prop} {e : Exit} {h'' : aH} (he : e = .ret ∨ e = .normal) (hs : gX h'' h) (hq : Q (.tup []) h'') : dY P [] Q e (fm n kvs) h := by
 rcases he with rfl | rfl <;> exact ⟨_, .tup [], h'', rfl, hs, aX.refl _ _, hq⟩
theorem dY.two {Q : AV → aH → Prop} {t u : Nat} {e : Exit} {y z : AV} {h'' : aH} (he : e = .ret ∨ e = .normal) (hs : gX h'' h) (hl : aX h'' (lk n kvs t) y) (hl' : aX h'' (lk n kvs u) z) (hq : Q (.tup [y, z]) h'') : dY P [.tmp t, .tmp u] Q e (fm n kvs) h := by
 have hx : sQ P h (fm n kvs) [.tmp t, .tmp u] = some (.tup [lk n kvs t, lk n kvs u]) := by
  simp only [sQ, E4, BS, Option.bind_some, Option.map_some]
 rcases he with rfl | rfl <;> exact ⟨_, _, h'', hx, hs, aX.tup (.cons hl (.cons hl' .nil)), hq⟩
inductive Lp (σ ρ : Type) where
 | go (s : σ)
 | brk (s : σ)
 | ret (r : ρ)
def aY {σ ρ : Type} (step : σ → Option (Lp σ ρ)) : Nat → σ → Option (Lp σ ρ)
 | 0, _ => none
 | k + 1, s => match step s with
  | some (.go s') => aY step k s'
  | x => x
def after {σ ρ : Type} (m : Option (Lp σ ρ)) (k : σ → Option ρ) : Option ρ := match m with
 | some (.brk s) => k s
 | some (.ret r) => some r
 | _ => none
theorem aC {α ρ : Type} {x : Option α} {k : α → Option ρ} {o : ρ} (hm : x.bind k = some o) : ∃ a, x = some a ∧ k a = some o := by
 cases x with
 | none => cases hm
 | some a => exact ⟨a, rfl, hm⟩
def ix {α : Type} (l : List α) (i : Int) : Option α := if 0 ≤ i then l[i.toNat]? else none
theorem fF {α : Type} {l : List α} {i : Int} {x : α} (h : ix l i = some x) : 0 ≤ i ∧ i < l.length ∧ l[i.toNat]? = some x := by
 unfold ix at h
 split at h
 ·have := (List.getElem?_eq_some_iff.1 h).1
  exact ⟨by assumption, by omega, h⟩
 ·cases h
end rules
def eI (P : Program) (o : Oper) (x : AV) (fr : Fr) (h : aH) : Prop := iB P o (fun x' h' => x' = x ∧ h' = h) fr h
section ops
variable {P : Program} {ops : Array Oper} {K : Fr → aH → Prop} {h : aH} {n : Nat} {kvs : KV} {l : List Oper} {ty : TypeId} {pos : String} {dP : Array Edge}
theorem e9 (hk : K (fm n kvs) h) : gZ P ops [] K (fm n kvs) h := zK hk
theorem jE {dst : Option Tmp} {op : Op} (ho : iB P ⟨dst, op, ty, pos, dP, none⟩ (fun x h' => gZ P ops l K (fm n (mT kvs dst x)) h') (fm n kvs) h) : gZ P ops (⟨dst, op, ty, pos, dP, none⟩ :: l) K (fm n kvs) h :=
 BJ rfl (ho.mono fun x h' q => by rw [kW]; exact q)
theorem oN {dst : Option Tmp} {op : Op} {x : AV} (ho : eI P ⟨dst, op, ty, pos, dP, none⟩ x (fm n kvs) h) (k : gZ P ops l K (fm n (mT kvs dst x)) h) : gZ P ops (⟨dst, op, ty, pos, dP, none⟩ :: l) K (fm n kvs) h :=
 jE (ho.mono fun x' h' q => by rw [q.1, q.2]; exact k)
theorem W8 {K : Fr → Prop} {dst : Option Tmp} {op : Op} {x : AV} (ho : eI P ⟨dst, op, ty, pos, dP, none⟩ x (fm n kvs) h) (k : fA P ops h K l (fm n (mT kvs dst x))) : fA P ops h K (⟨dst, op, ty, pos, dP, none⟩ :: l) (fm n kvs) :=
 wM x rfl ho (by rw [kW]; exact k)
theorem OS {dst : Option Tmp} {op : Op} {j : Nat} {want b : Bool} {dj : Nat} (hd : (ops[j]?).bind (·.dst) = some dj) (hu : lk n kvs dj = .sc (.bool b)) (hb : b = want)
    (k : gZ P ops (⟨dst, op, ty, pos, dP, none⟩ :: l) K (fm n kvs) h) : gZ P ops (⟨dst, op, ty, pos, dP, some (j, want)⟩ :: l) K (fm n kvs) h := by
  refine wQ (o := ⟨dst, op, ty, pos, dP, some (j, want)⟩) ?_ k
  intro E w a v
  simp [Region.wanted, jZ v hd (vR hu), hb]
theorem OT {dst : Option Tmp} {op : Op} {j : Nat} {want b : Bool} {dj : Nat} (hd : (ops[j]?).bind (·.dst) = some dj) (hu : lk n kvs dj = .sc (.bool b)) (hb : b = !want)
    (k : gZ P ops l K (fm n (mT kvs dst (.sc undef))) h) : gZ P ops (⟨dst, op, ty, pos, dP, some (j, want)⟩ :: l) K (fm n kvs) h := by
  refine vI (o := ⟨dst, op, ty, pos, dP, some (j, want)⟩) ?_ (by rw [kW]; exact k)
  intro E w a v
  simp [Region.wanted, jZ v hd (vR hu), hb]
theorem TB {dst : Option Tmp} {op : Op} {j : Nat} {want : Bool} {dj : Nat} {vs : Array Value} (hd : (ops[j]?).bind (·.dst) = some dj) (hu : lk n kvs dj = .sc (.tuple vs))
    (k : gZ P ops l K (fm n (mT kvs dst (.sc undef))) h) : gZ P ops (⟨dst, op, ty, pos, dP, some (j, want)⟩ :: l) K (fm n kvs) h := by
  refine vI (o := ⟨dst, op, ty, pos, dP, some (j, want)⟩) ?_ (by rw [kW]; exact k)
  intro E w a v
  simp [Region.wanted, jZ v hd (vR hu)]
theorem OU {K : Fr → Prop} {dst : Option Tmp} {op : Op} {j : Nat} {want b : Bool} {dj : Nat} (hd : (ops[j]?).bind (·.dst) = some dj) (hu : lk n kvs dj = .sc (.bool b)) (hb : b = want)
    (k : fA P ops h K (⟨dst, op, ty, pos, dP, none⟩ :: l) (fm n kvs)) : fA P ops h K (⟨dst, op, ty, pos, dP, some (j, want)⟩ :: l) (fm n kvs) := by
  subst hb
  obtain ⟨x, hy, hn⟩ := k
  rcases hy with ⟨_, h2⟩ | ⟨h1, _⟩
  · exact p5 (o := ⟨dst, op, ty, pos, dP, some (j, b)⟩) x rfl hd (vR hu) (fun E w a r v => h2 E w a r v) hn
  · rcases h1 with ⟨_, h1⟩ | ⟨_, _, _, h1, _⟩
    · cases h1
    · cases h1
theorem OV {K : Fr → Prop} {dst : Option Tmp} {op : Op} {j : Nat} {want b : Bool} {dj : Nat} (hd : (ops[j]?).bind (·.dst) = some dj) (hu : lk n kvs dj = .sc (.bool b)) (hb : b = !want)
    (k : fA P ops h K l (fm n (mT kvs dst (.sc undef)))) : fA P ops h K (⟨dst, op, ty, pos, dP, some (j, want)⟩ :: l) (fm n kvs) := by
  subst hb
  exact mI (o := ⟨dst, op, ty, pos, dP, some (j, want)⟩) rfl hd (.inl (vR hu)) (by rw [kW]; exact k)
theorem TC {K : Fr → Prop} {dst : Option Tmp} {op : Op} {j : Nat} {want : Bool} {dj : Nat} {vs : Array Value} (hd : (ops[j]?).bind (·.dst) = some dj) (hu : lk n kvs dj = .sc (.tuple vs))
    (k : fA P ops h K l (fm n (mT kvs dst (.sc undef)))) : fA P ops h K (⟨dst, op, ty, pos, dP, some (j, want)⟩ :: l) (fm n kvs) :=
  mI (o := ⟨dst, op, ty, pos, dP, some (j, want)⟩) rfl hd (.inr ⟨_, vR hu⟩) (by rw [kW]; exact k)
theorem iJ {dst : Option Tmp} {op : Op} {c : Prop} {x : AV} (hp : pv P h (fm n kvs) op = some (c, x)) (hc : c) : eI P ⟨dst, op, ty, pos, dP, none⟩ x (fm n kvs) h :=
 LA hp hc ⟨rfl, rfl⟩
theorem bN {dst : Option Tmp} {a : Operand} (x : AV) (hx : dN n kvs a = x) :
    eI P ⟨dst, .move a, ty, pos, dP, none⟩ (x) (fm n kvs) h :=
  iJ (by simp only [pv, bG, hx]) trivial
theorem gU {dst : Option Tmp} {a : Operand} (x : AV) (hx : dN n kvs a = x) :
    eI P ⟨dst, .assign a, ty, pos, dP, none⟩ (x) (fm n kvs) h :=
  iJ (by simp only [pv, bG, hx]) trivial
theorem lJ {dst : Option Tmp} {op : BinOp} {t u : TypeId} {a b : Operand} {q : IntKind} {x y : Int} {c : Prop} {v : Value} (ha : dN n kvs a = .sc (.int q x)) (hb : dN n kvs b = .sc (.int q y)) (hv : bv op (.sc (.int q x)) (.sc (.int q y)) = some (c, v)) (hc : c) :
    eI P ⟨dst, .binOp op t a b u, ty, pos, dP, none⟩ ((.sc v)) (fm n kvs) h :=
  iJ (c := c) (x := .sc v) (by simp only [pv, bG, ha, hb, hv, Option.map_some]) hc
theorem LG {dst : Option Tmp} {op : BinOp} {t u : TypeId} {a b : Operand} {q r : IntKind} {x y : Int} {c : Prop} {v : Value} (ha : dN n kvs a = .sc (.int q x)) (hb : dN n kvs b = .sc (.int r y)) (hv : bv op (.sc (.int q x)) (.sc (.int r y)) = some (c, v)) (hc : c) :
    eI P ⟨dst, .binOp op t a b u, ty, pos, dP, none⟩ ((.sc v)) (fm n kvs) h :=
  iJ (c := c) (x := .sc v) (by simp only [pv, bG, ha, hb, hv, Option.map_some]) hc
theorem wV {dst : Option Tmp} {op : BinOp} {t u : TypeId} {a b : Operand} {x y : ByteArray} {c : Prop} {v : Value} (ha : dN n kvs a = .sc (.string x)) (hb : dN n kvs b = .sc (.string y)) (hv : sb op x y = some (c, v)) (hc : c) :
    eI P ⟨dst, .binOp op t a b u, ty, pos, dP, none⟩ ((.sc v)) (fm n kvs) h :=
  iJ (c := c) (x := .sc v) (by simp only [pv, bG, ha, hb, bv, hv, Option.map_some]) hc
theorem LH {dst : Option Tmp} {op : BinOp} {t u : TypeId} {a b : Operand} {x y r : Bool} (ht : P.underlying t = some .bool) (ha : dN n kvs a = .sc (.bool x)) (hb : dN n kvs b = .sc (.bool y)) (hr : LE op x y = some r) :
    eI P ⟨dst, .binOp op t a b u, ty, pos, dP, none⟩ ((.sc (.bool r))) (fm n kvs) h :=
  IN rfl ht (by rw [bG]; exact ha) (by rw [bG]; exact hb) hr ⟨rfl, rfl⟩
theorem OW {dst : Option Tmp} {t : TypeId} {a : Operand} {x : Bool} (ha : dN n kvs a = .sc (.bool x)) :
    eI P ⟨dst, .unOp .not t a, ty, pos, dP, none⟩ ((.sc (.bool (!x)))) (fm n kvs) h :=
  iJ (c := True) (x := .sc (.bool (!x))) (by simp only [pv, bG, ha, N9, Option.map_some, tt]) trivial
theorem EA {dst : Option Tmp} {t u : TypeId} {a : Operand} {q r p : IntKind} {x : Int} (ht : rE P t = some p) (hu : rE P u = some r) (ha : dN n kvs a = .sc (.int q x)) :
    eI P ⟨dst, .convert t u a, ty, pos, dP, none⟩ ((.sc (.int r (r.wrap x)))) (fm n kvs) h :=
  iJ (c := True) (x := .sc (.int r (r.wrap x))) (by simp only [pv, bG, ha, ht, hu, OP, Option.map_some, Option.bind_some, tt]) trivial
theorem OX {dst : Option Tmp} {a : Operand} {i : Nat} {xs : List AV} (x : AV) (ha : dN n kvs a = .tup xs) (hx : xs[i]? = some x) :
    eI P ⟨dst, .extract a i, ty, pos, dP, none⟩ (x) (fm n kvs) h :=
  iJ (c := True) (x := x) (by simp only [pv, bG, ha, uN, hx, Option.map_some, tt]) trivial
theorem OY {dst : Option Tmp} {a : Operand} {t : TypeId} {tag : Option bZ} {sz : Nat} {xs : List (List AV)} (ht : rG P t = some true) (ha : dN n kvs a = .sl tag sz xs) :
    eI P ⟨dst, .call { callee := .builtin .len, args := #[a], argTypes := #[t] }, ty, pos, dP, none⟩ ((.sc (.int .i64 xs.length))) (fm n kvs) h :=
  iJ (c := True) (x := .sc (.int .i64 xs.length)) (by simp only [pv, J3, bG, ha, ht, J2, Option.map_some, Option.bind_some, tt, if_true]) trivial
theorem qB {α : Type} {e : α → List AV} {xs : List α} {dst : Option Tmp} {a : Operand} {t : TypeId} {tag : Option bZ} {sz : Nat} (ht : rG P t = some true) (ha : dN n kvs a = .sl tag sz (xs.map e)) :
    eI P ⟨dst, .call { callee := .builtin .len, args := #[a], argTypes := #[t] }, ty, pos, dP, none⟩ ((.sc (.int .i64 xs.length))) (fm n kvs) h :=
  by
  have := OY (P := P) (h := h) (n := n) (kvs := kvs) (dst := dst) (ty := ty) (pos := pos) (dP := dP) ht ha
  rwa [List.length_map] at this
theorem lW {dst : Option Tmp} {a : Operand} {t : TypeId} {s : ByteArray} (ht : rG P t = some false) (ha : dN n kvs a = .sc (.string s)) :
    eI P ⟨dst, .call { callee := .builtin .len, args := #[a], argTypes := #[t] }, ty, pos, dP, none⟩ ((.sc (.int .i64 s.size))) (fm n kvs) h :=
  iJ (c := True) (x := .sc (.int .i64 s.size)) (by simp [pv, J3, bG, ha, ht, J2, tt]) trivial
theorem mL {α : Type} {e : α → List AV} {xs : List α} {x : α} {dst : Option Tmp} {a b : Operand} {t : TypeId} {tag : Option bZ} {sz : Nat} {q : IntKind} {i : Int} (hi : ix xs i = some x) (ht : lS P t = some sz) (ha : dN n kvs a = .sl tag sz (xs.map e)) (hb : dN n kvs b = .sc (.int q i)) :
    eI P ⟨dst, .indexAddr t a b, ty, pos, dP, none⟩ ((.rp tag (e x))) (fm n kvs) h := by
  obtain ⟨h0, h1, h2⟩ := fF hi
  refine iJ (c := (sz = sz ∧ 0 ≤ i) ∧ i < (xs.map e).length) (x := .rp tag (e x)) ?_ ⟨⟨rfl, h0⟩, by rw [List.length_map]; exact h1⟩
  have : (xs.map e).getD i.toNat [] = e x := by simp [List.getD, h2]
  simp only [pv, bG, ha, hb, jC, E3, ht, Option.bind_some, this]
theorem mM {dst : Option Tmp} {a : Operand} {t : TypeId} {f : Nat} {tag : Option bZ} {cs : List AV} {o s : Nat} (hf : jT P t f = some (o, s)) (hs : Nat.beq s 0 = false) (ha : dN n kvs a = .rp tag cs) :
    eI P ⟨dst, .fieldAddr t a f, ty, pos, dP, none⟩ ((.rp tag (cs.drop o))) (fm n kvs) h := by
  have h0 : ¬ s = 0 := fun e => by subst e; cases hs
  exact iJ (c := True) (x := .rp tag (cs.drop o)) (by simp only [pv, bG, ha, hf, Option.bind_some, h0, if_false, H9, Option.map_some, tt]) trivial
theorem aJ {dst : Option Tmp} {a : Operand} {t : TypeId} {f : Nat} {q : bZ} {off : Nat} {o s : Nat} (hf : jT P t f = some (o, s)) (hs : Nat.beq s 0 = false) (ha : dN n kvs a = .ptr q off) :
    eI P ⟨dst, .fieldAddr t a f, ty, pos, dP, none⟩ ((.ptr q (off + o))) (fm n kvs) h := by
  have h0 : ¬ s = 0 := fun e => by subst e; cases hs
  exact iJ (c := True) (x := .ptr q (off + o)) (by simp only [pv, bG, ha, hf, Option.bind_some, h0, if_false, H9, Option.map_some, tt]) trivial
theorem mW {dst : Option Tmp} {a : Operand} {t : TypeId} {tag : Option bZ} {cs : List AV} {ag : Bool} {m : Nat} (x : AV) (ht : kQ P t = some (ag, m)) (ha : dN n kvs a = .rp tag cs) (hx : BM ag m cs = some x) :
    eI P ⟨dst, .load t a, ty, pos, dP, none⟩ (x) (fm n kvs) h :=
  iJ (c := True) (x := x) (by simp only [pv, bG, ha, ht, Option.bind_some, FD, hx, Option.map_some, tt]) trivial
theorem bH {dst : Option Tmp} {a : Operand} {t : TypeId} {q : bZ} {off : Nat} {oty : TypeId} {cs : List AV} {ag : Bool} {m : Nat} (x : AV) (ht : kQ P t = some (ag, m)) (ha : dN n kvs a = .ptr q off) (hk : h q = some (.obj oty cs)) (hx : BM ag m (cs.drop off) = some x) :
    eI P ⟨dst, .load t a, ty, pos, dP, none⟩ (x) (fm n kvs) h :=
  iJ (c := True) (x := x) (by simp only [pv, bG, ha, ht, Option.bind_some, FD, hk, hx, Option.map_some, tt]) trivial
theorem cV {K : AV → aH → Prop} {dst : Option Tmp} {f : FuncId} {g : Operand} {args : Array Operand} {ts : Array TypeId} {caps az : List AV} {Q : AV → aH → Prop} (hc : aP P f az h Q) (hg : dN n kvs g = .fn (.func f) caps) (hb : aU P f = true) (ha : args.toList.map (dN n kvs) ++ caps = az)
    (k : ∀ x h', Q x h' → K x h') : iB P ⟨dst, .call { callee := .value g, args := args, argTypes := ts }, ty, pos, dP, none⟩ K (fm n kvs) h := by
  refine zO rfl (by rw [bG]; exact hg) hb ?_
  have e : args.toList.map (ev (fm n kvs)) = args.toList.map (dN n kvs) := List.map_congr_left fun o _ => bG n kvs o
  rw [e, ha]
  exact hc.mono fun x h' q => k x h' q
theorem cE {dst : Option Tmp} {f : FuncId} {g : Operand} {args : Array Operand} {ts : Array TypeId} {caps az : List AV} {x : AV} (hc : aP P f az h (fun x' h' => x' = x ∧ h' = h)) (hg : dN n kvs g = .fn (.func f) caps) (hb : aU P f = true) (ha : args.toList.map (dN n kvs) ++ caps = az) :
    eI P ⟨dst, .call { callee := .value g, args := args, argTypes := ts }, ty, pos, dP, none⟩ x (fm n kvs) h := by
  refine zO rfl (by rw [bG]; exact hg) hb ?_
  have e : args.toList.map (ev (fm n kvs)) = args.toList.map (dN n kvs) := List.map_congr_left fun o _ => bG n kvs o
  rw [e, ha]
  exact hc
end ops
abbrev HL := List (Option bZ × iH)
def hp (h0 : aH) : HL → aH
 | [] => h0
 | (none, _) :: r => hp h0 r
 | (some k, e) :: r => upd (hp h0 r) k (some e)
def bS (h0 : aH) : HL → Prop
 | [] => True
 | (t, _) :: r => bS h0 r ∧ ∀ k, t = some k → hp h0 r k = none
theorem bB {h0 : aH} {k : bZ} {e : iH} : ∀ {L : HL} (i : Nat), bS h0 L → L[i]? = some (some k, e) → hp h0 L k = some e
 | [], i, _, h => by simp at h
 | (t, e') :: r, 0, _, h => by
  simp only [List.getElem?_cons_zero, Option.some.injEq, Prod.mk.injEq] at h
  obtain ⟨rfl, rfl⟩ := h
  simp only [hp, dB]
 | (t, e') :: r, i + 1, ok, h => by
  have ih := bB (L := r) i ok.1 (by simpa using h)
  cases t with
  | none => exact ih
  | some k' =>
   have : k ≠ k' := fun q => by
    have := ok.2 k' rfl
    rw [← q, ih] at this
    cases this
   simp only [hp]
   rw [cC _ _ this]
   exact ih
theorem oY {h0 : aH} {k : bZ} {e : iH} : ∀ {L : HL}, bS h0 L → h0 k = some e → hp h0 L k = some e
 | [], _, h => h
 | (t, e') :: r, ok, h => by
  have ih := oY (L := r) ok.1 h
  cases t with
  | none => exact ih
  | some k' =>
   have : k ≠ k' := fun q => by
    have := ok.2 k' rfl
    rw [← q, ih] at this
    cases this
   simp only [hp]
   rw [cC _ _ this]
   exact ih
theorem aV {h0 : aH} : ∀ {L' L : HL}, L'.Sublist L → bS h0 L → gX (hp h0 L') (hp h0 L) ∧ bS h0 L' := by
 intro L' L hs
 induction hs with
 | slnil => intro _; exact ⟨gX.refl _, trivial⟩
 | @cons l1 l2 a hs ih =>
  intro ok
  obtain ⟨i1, i2⟩ := ih ok.1
  obtain ⟨t, e⟩ := a
  refine ⟨?_, i2⟩
  cases t with
  | none => exact i1
  | some k =>
   intro x e' hx
   have h1 := i1 x e' hx
   have : x ≠ k := fun q => by
    have := ok.2 k rfl
    rw [← q, h1] at this
    cases this
   simp only [hp]
   rw [cC _ _ this]
   exact h1
 | @cons_cons l1 l2 a hs ih =>
  intro ok
  obtain ⟨i1, i2⟩ := ih ok.1
  obtain ⟨t, e⟩ := a
  cases t with
  | none => exact ⟨i1, i2, fun _ q => by cases q⟩
  | some k =>
   refine ⟨?_, i2, ?_⟩
   ·intro x e' hx
    simp only [hp] at hx ⊢
    by_cases q : x = k
    ·subst q
     rw [dB] at hx ⊢
     exact hx
    ·rw [cC _ _ q] at hx ⊢
     exact i1 x e' hx
   ·intro k' hk'
    cases hk'
    cases h : hp h0 l1 k with
    | none => rfl
    | some e' =>
     have := i1 k e' h
     rw [ok.2 k rfl] at this
     cases this
theorem iC {h0 : aH} {k : bZ} {t : Option bZ} {e e' : iH} : ∀ {L : HL} (i : Nat), bS h0 L → L[i]? = some (t, e) → (t = some k ∨ (t = none ∧ hp h0 L k = none)) →
    upd (hp h0 L) k (some e') = hp h0 (L.set i (some k, e')) ∧ bS h0 (L.set i (some k, e')) ∧ ∀ x, x ≠ k → hp h0 (L.set i (some k, e')) x = hp h0 L x
  | [], i, _, h, _ => by simp at h
  | (t', e0) :: r, 0, ok, h, ht => by
    simp only [List.getElem?_cons_zero, Option.some.injEq, Prod.mk.injEq] at h
    obtain ⟨rfl, rfl⟩ := h
    simp only [List.set_cons_zero]
    rcases ht with rfl | ⟨rfl, ht⟩
    · refine ⟨?_, ⟨ok.1, fun k' q => by cases q; exact ok.2 _ rfl⟩, fun x hx => ?_⟩
      · simp only [hp]; funext q; unfold upd; split <;> rfl
      · simp only [hp]; rw [cC _ _ hx, cC _ _ hx]
    · refine ⟨rfl, ⟨ok.1, fun k' q => by cases q; exact ht⟩, fun x hx => ?_⟩
      simp only [hp]; rw [cC _ _ hx]
  | (t', e0) :: r, i + 1, ok, h, ht => by
    have h' : r[i]? = some (t, e) := by simpa using h
    cases t' with
    | none =>
      obtain ⟨h1, h2, h3⟩ := iC (e' := e') i ok.1 h' ht
      exact ⟨h1, ⟨h2, fun _ q => by cases q⟩, h3⟩
    | some k' =>
      have hne : k ≠ k' := by
        rcases ht with rfl | ⟨rfl, ht⟩
        · intro q
          have h1 := ok.2 k' rfl
          rw [← q, bB i ok.1 h'] at h1
          cases h1
        · intro q
          subst q
          simp only [hp, dB] at ht
          cases ht
      have ht' : t = some k ∨ (t = none ∧ hp h0 r k = none) := by
        rcases ht with ht | ⟨ht, h1⟩
        · exact .inl ht
        · refine .inr ⟨ht, ?_⟩
          simp only [hp] at h1
          rwa [cC _ _ hne] at h1
      obtain ⟨h1, h2, h3⟩ := iC (e' := e') i ok.1 h' ht'
      simp only [List.set_cons_succ, hp]
      refine ⟨?_, ⟨h2, fun k2 q => ?_⟩, fun x hx => ?_⟩
      · rw [← h1]
        funext q; simp only [upd]
        by_cases q1 : q = k
        · subst q1; simp [hne]
        · simp [q1]
      · cases q
        rw [h3 k' hne.symm]
        exact ok.2 k' rfl
      · simp only [upd]
        split
        · rfl
        · exact h3 x hx
section rules
variable {P : Program} {Q : Exit → Fr → aH → Prop} {h : aH} {n : Nat}
end rules
def ow (t : Option bZ) (sz : Nat) (xs : List (List AV)) : AV := match t with
 | none => .e0
 | some k => .sl (some k) sz xs
def app {α : Type} (xs ys : List α) : Option (List α) := if xs.length + ys.length ≤ 1000000000 then some (xs ++ ys) else none
theorem hH {α : Type} {xs ys zs : List α} (h : app xs ys = some zs) : zs = xs ++ ys ∧ xs.length + ys.length ≤ 1000000000 := by
 unfold app at h
 split at h
 ·exact ⟨(Option.some.inj h).symm, by assumption⟩
 ·cases h
def slc {α : Type} (l : List α) (lo hi : Int) : Option (List α) := if 0 ≤ lo ∧ lo ≤ hi ∧ hi ≤ l.length then some ((l.take hi.toNat).drop lo.toNat) else none
def IQ (s : ByteArray) (i : Int) : Option Int := if 0 ≤ i then (s[i.toNat]?).map fun b => (b.toNat : Int) else none
theorem bS.nil (h0 : aH) : bS h0 [] := trivial
theorem bS.none {h0 : aH} {L : HL} {e : iH} (hk : bS h0 L) : bS h0 ((none, e) :: L) := ⟨hk, nofun⟩
theorem mX {h0 : aH} {k : bZ} {e : iH} : ∀ {L : HL} (i : Nat), bS h0 L → L[i]? = some (some k, e) → hp h0 (L.eraseIdx i) k = Option.none
 | [], i, _, h => by simp at h
 | (t, e') :: r, 0, ok, h => by
  simp only [List.getElem?_cons_zero, Option.some.injEq, Prod.mk.injEq] at h
  obtain ⟨rfl, rfl⟩ := h
  exact ok.2 _ rfl
 | (t, e') :: r, i + 1, ok, h => by
  have h' : r[i]? = some (some k, e) := by simpa using h
  have ih := mX (L := r) i ok.1 h'
  simp only [List.eraseIdx_cons_succ]
  cases t with
  | none => exact ih
  | some k' =>
   have : k ≠ k' := fun q => by
    have h2 := ok.2 k' rfl
    rw [← q, bB i ok.1 h'] at h2
    cases h2
   simp only [hp]
   rw [cC _ _ this]
   exact ih
theorem lK {h h' : aH} (hs : gX h' h) {k : bZ} (hk : h k = Option.none) : h' k = Option.none := by
 cases e : h' k with
 | none => rfl
 | some x => have := hs k x e; rw [hk] at this; cases this
theorem wW {h0 : aH} {k : bZ} {e : iH} {L : HL} (i : Nat) (hk : bS h0 L) (hi : L[i]? = some (some k, e)) : h0 k = Option.none := by
 have h1 := mX i hk hi
 have h2 := (aV (List.eraseIdx_sublist L i) hk).2
 have h3 := (aV (h0 := h0) (L' := []) (List.nil_sublist (L.eraseIdx i)) h2).1
 exact lK h3 h1
theorem hM {α : Type} {c : α → List AV} (h : aH) (sz : Nat) : aX h (.sc (.slice Option.none 0 0)) (ow Option.none sz (List.map c [])) := aX.nil_e0 h
theorem wX {α : Type} {c : α → List AV} {xs : List α} {t : Option bZ} {h : aH} (sz : Nat) (ot : t = Option.none → xs = []) (hn : ∀ k, t = some k → h k = Option.none) : aX h (ow t sz (xs.map c)) (.sl Option.none sz (xs.map c)) := by
 cases t with
 | none => rw [ot rfl]; exact aX.e0 h sz
 | some k => exact aX.freeze (fun _ _ _ => by rw [hn k rfl]; simp) sz _
theorem eG {α : Type} {c : α → List AV} {xs : List α} {t : Option bZ} {h0 : aH} {L : HL} {e : iH} (sz : Nat) (i : Nat) (ot : t = Option.none → xs = []) (hk : bS h0 L) (hi : L[i]? = some (t, e)) : aX h0 (ow t sz (xs.map c)) (.sl Option.none sz (xs.map c)) :=
 wX sz ot fun k q => wW i hk (by rw [hi, q])
theorem kF {α : Type} {c : α → List AV} {xs : List α} {t : Option bZ} {h0 : aH} {L L' : HL} {e : iH} (sz : Nat) (i : Nat) (ot : t = Option.none → xs = []) (hk : bS h0 L) (hi : L[i]? = some (t, e)) (hs : L'.Sublist (L.eraseIdx i)) : aX (hp h0 L') (ow t sz (xs.map c)) (.sl Option.none sz (xs.map c)) :=
 wX sz ot fun k q => lK (aV hs (aV (List.eraseIdx_sublist L i) hk).2).1 (mX i hk (by rw [hi, q]))
theorem LI {h : aH} (sz : Nat) : aX h (.sc (.slice Option.none 0 0)) (.sl Option.none sz []) := aX.nil h sz 0 (by simp [maxLen])
theorem aS {α : Type} {c : α → List AV} {h : aH} (sz : Nat) : aX h (.sc (.slice Option.none 0 0)) (.sl Option.none sz (List.map c [])) := LI sz
theorem iA {P : Program} {h : aH} {f : FuncId} {fn : Func} {c : Code} {args : List AV} {Q : AV → aH → Prop} (n : Nat) (rs : List ResultVar) (hf : P.funcs[f]? = some fn) (hb : fn.body = some c) (hn : fn.ntmps = n) (hr : fn.results.toList = rs) (hle : Nat.ble args.length n = true)
    (hc : AW P c (dY P rs Q) (fm n (wU 0 args)) (hp h [])) : aP P f args h Q := vS n rs hf hb hn hr hle hc
theorem gO (h0 : aH) (L : HL) (x : Option bZ × iH) : hp (hp h0 L) [x] = hp h0 (x :: L) := by
 obtain ⟨t, e⟩ := x
 cases t <;> rfl
def grd {ρ : Type} (b : Bool) (k : Option ρ) : Option ρ := if b = true then k else Option.none
theorem lX {ρ : Type} {b : Bool} {k : Option ρ} {o : ρ} (h : grd b k = some o) : b = true ∧ k = some o := by
 unfold grd at h
 split at h
 ·exact ⟨by assumption, h⟩
 ·cases h
theorem OZ {x : Int} (h : (x != 0) = true) : x ≠ 0 := by simpa using h
theorem gY.put {n : Nat} {kvs : KV} {h h' : aH} {t : Nat} {v : AV} (hs : gX h' h) (hv : aX h' (lk n kvs t) v) : gY (Vm.fm n (kp kvs t v)) h' (Vm.fm n kvs) h :=
 gY.fm hs (.cons hv fun _ _ => aX.refl _ _)
theorem cO.app {h : aH} {xs ys : List AV} : ∀ (k : Nat) {zs : List AV}, zs.length = k → cO h xs ys → cO h (zs ++ xs) (zs ++ ys)
 | 0, [], _, hl => hl
 | k + 1, z :: zs, hz, hl => .cons (aX.refl _ _) (cO.app k (by simpa using hz) hl)
 | 0, _ :: _, hz, _ => by simp at hz
 | _ + 1, [], hz, _ => by simp at hz
theorem gY.obj {h0 : aH} {L : HL} {n : Nat} {f : KV} {k : bZ} {ty : TypeId} {cs : List AV} (i : Nat) (cs' : List AV) (hk : bS h0 L) (hi : L[i]? = some (some k, .obj ty cs)) (hl : cO (hp h0 L) cs cs') :
    bS h0 (L.set i (some k, .obj ty cs')) ∧ gY (Vm.fm n f) (hp h0 (L.set i (some k, .obj ty cs'))) (Vm.fm n f) (hp h0 L) := by
  obtain ⟨h1, h2, _⟩ := iC (e' := .obj ty cs') i hk hi (.inl rfl)
  refine ⟨h2, fun E w vs r v => ?_⟩
  obtain ⟨g, cur, e1, e2, e3, e4⟩ := r.obj k ty cs (bB i hk hi)
  obtain ⟨k1, r1⟩ := r.set_obj (bB i hk hi) e1 (w' := w) e2 (fun _ _ => rfl) (Nat.le_refl _) rfl rfl rfl (hl.spec r e3) e4
  rw [h1] at r1
  exact ⟨E, k1, r1, v⟩
theorem hO {x : AV} {t : Option bZ} {sz : Nat} {xs : List (List AV)} (h : x = ow t sz xs) : cellsOf x = some [ow t sz xs] := by subst h; cases t <;> rfl
theorem gG (t : Option bZ) (sz : Nat) (xs : List (List AV)) : fS (ow t sz xs) = true := by cases t <;> rfl
theorem cK {x : AV} {xs : List AV} (h : fS x = true) (hs : xs.all fS = true) : (x :: xs).all fS = true := by rw [List.all_cons, h, hs]; rfl
theorem mY (t : Option bZ) (sz : Nat) (xs : List (List AV)) : [ow t sz xs].all fS = true := by cases t <;> rfl
section ops
variable {P : Program} {ops : Array Oper} {K : Fr → aH → Prop} {h h0 : aH} {L : HL} {n : Nat} {kvs : KV} {l : List Oper} {ty : TypeId} {pos : String} {dP : Array Edge}
theorem eS {K : AV → aH → Prop} {α : Type} {c : α → List AV} {xs ys zs : List α} {dst : Option Tmp} {s x : Operand} {t e : TypeId} {sz b : Nat} {tg : Option bZ} (i : Nat) (hm : app xs ys = some zs) (ht : jD P t e sz b) (hb : Nat.ble b 100000 = true)
    (ha : dN n kvs s = ow tg sz (xs.map c)) (hi : L[i]? = some (tg, .tok e sz (xs.length * sz))) (ot : tg = none → xs = []) (hk : bS h0 L) (hx : kC (hp h0 L) sz (dN n kvs x) = some (ys.map c))
    (k : ∀ tg', (tg' = none → zs = []) → bS h0 (L.set i (tg', .tok e sz (zs.length * sz))) → K (ow tg' sz (zs.map c)) (hp h0 (L.set i (tg', .tok e sz (zs.length * sz))))) :
    iB P ⟨dst, .call { callee := .builtin .append, args := #[s, x], argTypes := #[t, t] }, ty, pos, dP, none⟩ K (fm n kvs) (hp h0 L) := by
  obtain ⟨rfl, hsz⟩ := hH hm
  have hb' := Nat.le_of_ble_eq_true hb
  have hbound : (xs.length + ys.length) * (b + 1) ≤ 140737488355328 := by
    have : (xs.length + ys.length) * (b + 1) ≤ 1000000000 * 100001 := Nat.mul_le_mul hsz (by omega)
    omega
  cases tg with
  | none =>
    have hx0 := ot rfl
    subst hx0
    refine (sN rfl 0 ht (by rw [bG]; exact ha) (.inr rfl) (by rw [bG]; exact hx) (by rw [List.length_map]; simpa using hbound) (fun e0 => ?_) (fun e0 q hq => ?_))
    · have : ys = [] := by simpa using e0
      subst this
      have := k none (fun _ => rfl) (by
        have e1 : L.set i (none, iH.tok e sz (([] : List α).length * sz)) = L := by
          apply List.ext_getElem?; intro j; rw [List.getElem?_set]; split
          · rename_i q; subst q; split
            · exact hi.symm
            · rename_i q; rw [List.getElem?_eq_none (Nat.le_of_not_lt q)]
          · rfl
        rw [List.nil_append, e1]; exact hk)
      have e1 : L.set i (none, iH.tok e sz (([] ++ [] : List α).length * sz)) = L := by
        apply List.ext_getElem?; intro j; rw [List.getElem?_set]; split
        · rename_i q; subst q; split
          · exact hi.symm
          · rename_i q; rw [List.getElem?_eq_none (Nat.le_of_not_lt q)]
        · rfl
      rw [e1] at this
      exact this
    · obtain ⟨h1, h2, _⟩ := iC (e' := .tok e sz ((ys.map c).length * sz)) i hk hi (.inr ⟨rfl, hq⟩)
      rw [h1]
      rw [List.length_map] at h1 h2 ⊢
      exact k (some (0, q)) (fun q => by cases q) h2
  | some kk =>
    have hg := bB i hk hi
    refine (sO rfl ht (k := kk) (by rw [bG]; exact ha) (by rw [hg, List.length_map]) (by rw [bG]; exact hx) (by rw [List.length_map, List.length_map]; exact hbound) ?_)
    obtain ⟨h1, h2, _⟩ := iC (e' := .tok e sz ((xs.map c ++ ys.map c).length * sz)) i hk hi (.inl rfl)
    rw [h1]
    rw [← List.map_append, List.length_map] at h1 h2 ⊢
    exact k (some kk) (fun q => by cases q) h2
theorem FL {o : Oper} {K : AV → aH → Prop} {fr fr' : Fr} (hl : ∀ y ∈ o.op.operands, aX h (ev fr y) (ev fr' y)) (ho : iB P o K fr' h) : iB P o K fr h :=
 fun E w a r v => ho E w a r fun y hy => hl y hy E w _ r (v y hy)
theorem lY {K : AV → aH → Prop} {α : Type} {c : α → List AV} {ys zs : List α} {dst : Option Tmp} {s : Nat} {x : Operand} {t e : TypeId} {sz b : Nat} (hm : app [] ys = some zs) (ht : jD P t e sz b) (hb : Nat.ble b 100000 = true)
    (ha : dN n kvs (.tmp s) = .sc (.slice none 0 0)) (hk : bS h0 L) (hne : x ≠ .tmp s) (hx : kC (hp h0 L) sz (dN n kvs x) = some (ys.map c))
    (k : ∀ tg', (tg' = none → zs = []) → bS h0 ((tg', .tok e sz (zs.length * sz)) :: L) → K (ow tg' sz (zs.map c)) (hp h0 ((tg', .tok e sz (zs.length * sz)) :: L))) :
    iB P ⟨dst, .call { callee := .builtin .append, args := #[.tmp s, x], argTypes := #[t, t] }, ty, pos, dP, none⟩ K (fm n kvs) (hp h0 L) := by
  have hlt : s < n := by
    simp only [dN, jK] at ha
    split at ha
    · assumption
    · cases ha
  refine FL (fr' := fm n (kp kvs s (ow none sz (([] : List α).map c)))) ?_ (eS (c := c) (L := (none, .tok e sz (([] : List α).length * sz)) :: L) (xs := []) 0 hm ht hb ?_ rfl (fun _ => rfl) ⟨hk, nofun⟩ ?_ ?_)
  · intro y hy
    rw [bG, bG]
    have hy : y = .tmp s ∨ y = x := by simpa [Op.operands, Call.operands] using hy
    rcases hy with rfl | rfl
    · rw [ha]
      simp only [dN, jK, if_pos hlt, jN]
      exact hM _ sz
    · cases y with
      | tmp u =>
        have hus : s ≠ u := fun q => hne (by rw [q])
        simp only [dN, jK, nY _ _ hus]
        exact aX.refl _ _
      | const v => exact aX.refl _ _
      | global g => exact aX.refl _ _
      | func f => exact aX.refl _ _
  · simp only [dN, jK, if_pos hlt, jN]
  · have e1 : dN n (kp kvs s (ow none sz (([] : List α).map c))) x = dN n kvs x := by
      cases x with
      | tmp u =>
        have hus : s ≠ u := fun q => hne (by rw [q])
        simp only [dN, jK, nY _ _ hus]
      | const v => rfl
      | global g => rfl
      | func f => rfl
    rw [e1]
    exact hx
  · intro tg' h1 h2
    exact k tg' h1 h2
theorem BT {K : AV → aH → Prop} {α : Type} {c : α → List AV} {dst : Option Tmp} {t e : TypeId} {sz b len : Nat} {parts : Array (Nat × Operand)} (xs : List α) (hk : bS h0 L) (ht : jD P t e sz b) (hi : parts.toList.map (·.1) = List.range len) (hl : Nat.ble (len * sz) 16777216 = true)
    (hg : iZ (parts.toList.map fun p => dN n kvs p.2) = some (xs.map c)) (ho : (xs.map c).all (fun g => g.all fS && g.length == sz) = true)
    (k : ∀ tg, (tg = none → xs = []) → bS h0 ((tg, .tok e sz (xs.length * sz)) :: L) → K (ow tg sz (xs.map c)) (hp h0 ((tg, .tok e sz (xs.length * sz)) :: L))) :
    iB P ⟨dst, .buildSlice t len parts, ty, pos, dP, none⟩ K (fm n kvs) (hp h0 L) := by
  have e1 : (parts.toList.map fun p => ev (fm n kvs) p.2) = parts.toList.map fun p => dN n kvs p.2 := List.map_congr_left fun p _ => bG n kvs p.2
  refine FH rfl 0 ht hi (Nat.le_of_ble_eq_true hl) (by rw [e1]; exact hg) ho fun q hq => ?_
  rw [List.length_map]
  exact k (some (0, q)) (fun e => by cases e) ⟨hk, fun k' e => by cases e; exact hq⟩
theorem FM {K : AV → aH → Prop} {α : Type} {c : α → List AV} {dst : Option Tmp} {t e : TypeId} {sz b : Nat} (hk : bS h0 L) (ht : jD P t e sz b)
    (k : bS h0 ((none, .tok e sz (([] : List α).length * sz)) :: L) → K (ow none sz (([] : List α).map c)) (hp h0 ((none, .tok e sz (([] : List α).length * sz)) :: L))) :
    iB P ⟨dst, .buildSlice t 0 #[], ty, pos, dP, none⟩ K (fm n kvs) (hp h0 L) :=
  zX rfl ht (k ⟨hk, nofun⟩)
theorem lL {α : Type} {c : α → List AV} {xs : List α} {tg : Option bZ} {sz : Nat} (ot : tg = Option.none → xs = []) : kC h sz (ow tg sz (xs.map c)) = some (xs.map c) := by
 cases tg with
 | none => rw [ot rfl]; rfl
 | some k => simp [ow, kC]
theorem bU {dst : Option Tmp} {a : Operand} {q : bZ} {off : Nat} (ha : dN n kvs a = .ptr q off) : eI P ⟨dst, .nilCheck a, ty, pos, dP, none⟩ (.ptr q off) (fm n kvs) h :=
 iJ (c := True) (by simp only [pv, bG, ha, D1, Option.map_some, tt]) trivial
theorem eH {dst : Option Tmp} {t e : TypeId} {sz b len : Nat} {parts : Array (Nat × Operand)} (gs : List (List AV)) (ht : jD P t e sz b) (hi : parts.toList.map (·.1) = List.range len) (hl : Nat.ble (len * sz) 16777216 = true)
    (hg : iZ (parts.toList.map fun p => dN n kvs p.2) = some gs) (ho : gs.all (fun g => g.all fS && g.length == sz) = true) : eI P ⟨dst, .buildSlice t len parts, ty, pos, dP, none⟩ (.sl none sz gs) (fm n kvs) h := by
  have e : (parts.toList.map fun p => ev (fm n kvs) p.2) = parts.toList.map fun p => dN n kvs p.2 := List.map_congr_left fun p _ => bG n kvs p.2
  exact IL rfl ht hi (Nat.le_of_ble_eq_true hl) (by rw [e]; exact hg) ho ⟨rfl, rfl⟩
theorem cQ {K : AV → aH → Prop} {dst : Option Tmp} {t : TypeId} {x : Operand} {cs : List AV} (hk : bS h0 L) (hc : cellsOf (dN n kvs x) = some cs) (ho : cs.all fS = true)
    (k : ∀ q : bZ, bS h0 ((some q, .obj t cs) :: L) → K (.ptr q 0) (hp h0 ((some q, .obj t cs) :: L))) : iB P ⟨dst, .box t x, ty, pos, dP, none⟩ K (fm n kvs) (hp h0 L) :=
  (IK rfl 0 (by rw [bG]; exact hc) ho fun q hq => k (0, q) ⟨hk, fun k' e => by cases e; exact hq⟩)
theorem bE {K : AV → aH → Prop} {dst : Option Tmp} {t : TypeId} {zs : List Value} (cs : List AV) (hk : bS h0 L) (hz : p8 P t = some zs) (ho : zs.all (·.oneCell') = true) (hcs : zs.map AV.sc = cs)
    (k : ∀ q : bZ, bS h0 ((some q, .obj t cs) :: L) → K (.ptr q 0) (hp h0 ((some q, .obj t cs) :: L))) : iB P ⟨dst, .alloc t, ty, pos, dP, none⟩ K (fm n kvs) (hp h0 L) := by
  subst hcs
  exact (D6 rfl 0 hz ho fun q hq => k (0, q) ⟨hk, fun k' e => by cases e; exact hq⟩)
theorem aL {K : AV → aH → Prop} {dst : Option Tmp} {t oty : TypeId} {x y : Operand} {q : bZ} {off : Nat} {cs xs : List AV} (i : Nat) (cs' : List AV) (hk : bS h0 L) (ha : dN n kvs x = .ptr q off) (hi : L[i]? = some (some q, .obj oty cs))
    (hy : cellsOf (dN n kvs y) = some xs) (ho : xs.all fS = true) (hs : kT P t = some xs.length) (hl : Nat.ble (off + xs.length) cs.length = true) (hcs : eT cs off xs = cs')
    (k : bS h0 (L.set i (some q, .obj oty cs')) → K (.sc undef) (hp h0 (L.set i (some q, .obj oty cs')))) : iB P ⟨dst, .store t x y, ty, pos, dP, none⟩ K (fm n kvs) (hp h0 L) := by
  subst hcs
  obtain ⟨h1, h2, _⟩ := iC (e' := .obj oty (eT cs off xs)) i hk hi (.inl rfl)
  refine (D7 rfl (by rw [bG]; exact ha) (bB i hk hi) (by rw [bG]; exact hy) ho hs (Nat.le_of_ble_eq_true hl) ?_)
  rw [h1]
  exact k h2
theorem qC {α : Type} {c : α → List AV} {xs : List α} {dst : Option Tmp} {a : Operand} {t : TypeId} {tg : Option bZ} {sz : Nat} (ht : rG P t = some true) (ot : tg = none → xs = []) (ha : dN n kvs a = ow tg sz (xs.map c)) :
    eI P ⟨dst, .call { callee := .builtin .len, args := #[a], argTypes := #[t] }, ty, pos, dP, none⟩ (.sc (.int .i64 xs.length)) (fm n kvs) h := by
  cases tg with
  | none =>
    have := ot rfl
    subst this
    refine iJ (c := True) ?_ trivial
    have ha : dN n kvs a = .e0 := ha
    simp only [pv, J3, bG, ha, ht, J2, Option.map_some, Option.bind_some, tt, if_true]
    rfl
  | some k => exact qB (tag := some k) ht ha
theorem J5 {α : Type} {c : α → List AV} {xs : List α} {x : α} {dst : Option Tmp} {a b : Operand} {t : TypeId} {tg : Option bZ} {sz : Nat} {q : IntKind} {i : Int} (hi : ix xs i = some x) (ht : lS P t = some sz) (ot : tg = none → xs = []) (ha : dN n kvs a = ow tg sz (xs.map c)) (hb : dN n kvs b = .sc (.int q i)) :
    eI P ⟨dst, .indexAddr t a b, ty, pos, dP, none⟩ (.rp tg (c x)) (fm n kvs) h := by
  cases tg with
  | none =>
    have := ot rfl
    subst this
    have := (fF hi).2.1
    simp at this
    have := (fF hi).1
    omega
  | some k => exact mL hi ht ha hb
theorem EB {α : Type} {c : α → List AV} {xs ys : List α} {tag : Option bZ} {sz : Nat} {lo hi : Option AV} {x y : Int} {es : Option Nat} {as : Option (Nat × Nat)} (hm : slc xs x y = some ys) (he : es = some sz) (h0 : 0 < sz) (hl : mJ 0 lo = some x) (hh : mJ xs.length hi = some y) :
    ∃ p : Prop, p ∧ wN lo hi es as (.sl tag sz (xs.map c)) = some (p, .sl tag sz (ys.map c)) := by
  unfold slc at hm
  split at hm
  · rename_i hc
    cases hm
    refine ⟨(sz = sz ∧ 0 < sz) ∧ 0 ≤ x ∧ x ≤ y ∧ y ≤ (xs.map c).length, ⟨⟨rfl, h0⟩, hc.1, hc.2.1, by rw [List.length_map]; exact hc.2.2⟩, ?_⟩
    simp only [wN, he, Option.bind_some, hl, List.length_map, hh]
    rw [List.map_drop, List.map_take]
  · cases hm
def IR (n : Nat) (kvs : KV) (o : Option Operand) : Option AV := o.map (dN n kvs)
theorem mZ {α : Type} {c : α → List AV} {xs ys : List α} {dst : Option Tmp} {a : Operand} {lo hi : Option Operand} {t : TypeId} {tag : Option bZ} {sz : Nat} {x y : Int} (hm : slc xs x y = some ys) (ht : lS P t = some sz) (h0 : Nat.blt 0 sz = true) (ha : dN n kvs a = .sl tag sz (xs.map c))
    (hl : mJ 0 (IR n kvs lo) = some x) (hh : mJ xs.length (IR n kvs hi) = some y) : eI P ⟨dst, .slice t a lo hi none, ty, pos, dP, none⟩ (.sl tag sz (ys.map c)) (fm n kvs) h := by
  have e : ∀ o : Option Operand, o.map (ev (fm n kvs)) = IR n kvs o := fun o => by cases o <;> simp [IR, bG]
  rw [Nat.blt_eq] at h0
  obtain ⟨p, hp, hs⟩ := EB (c := c) (tag := tag) (es := lS P t) (as := C7 P t) hm ht h0 hl hh
  refine iJ (c := p) ?_ hp
  have hT : zM P t = true := by simp [zM, ht]
  simp only [pv, bG, ha, e, hs, Option.bind_some, hT, if_true]
theorem DA {dst : Option Tmp} {t : TypeId} {a b : Operand} {q : IntKind} {s : ByteArray} {i x : Int} (hx : IQ s i = some x) (ht : P.underlying t = some .string) (ha : dN n kvs a = .sc (.string s)) (hb : dN n kvs b = .sc (.int q i)) :
    eI P ⟨dst, .index t a b, ty, pos, dP, none⟩ (.sc (.int .u8 x)) (fm n kvs) h := by
  refine eR (x := .sc (.int .u8 x)) (fun E w ac _ hv => ?_) ⟨rfl, rfl⟩
  have va := hv a (by simp [Op.operands])
  have vb := hv b (by simp [Op.operands])
  rw [bG, ha] at va; rw [bG, hb] at vb
  simp only [VR] at va vb
  refine ⟨.int .u8 x, ?_, by simp only [VR]⟩
  unfold IQ at hx
  split at hx
  · rename_i h0
    simp only [Option.map_eq_some_iff] at hx
    obtain ⟨u, hu, rfl⟩ := hx
    simp [execOp, va, vb, Instr.index, asIntOf, run_underlying ht, h0, hu]
  · cases hx
end ops
def dP (ops : Array Oper) (i j : Nat) : Bool := match ops[j]? with
 | some oj => oj.after.any fun e => Region.binds .any e && e.on == i
 | none => true
def At (h : aH) (k : Option bZ) (e : iH) : Prop := ∀ q, k = some q → h q = some e
theorem At.s {h : aH} {k : bZ} {e : iH} (a : At h (some k) e) : h k = some e := a k rfl
theorem At.of {h : aH} {k : bZ} {e : iH} (a : h k = some e) : At h (some k) e := fun _ hq => by cases hq; exact a
theorem aO {h0 : aH} {L : HL} {t : Option bZ} {e : iH} (i : Nat) (hk : bS h0 L) (hi : L[i]? = some (t, e)) : At (hp h0 L) t e := fun q hq => bB i hk (by rw [hi, hq])
def bR : List (Nat × Option bZ × iH) → Array Bool → aH → Prop
 | [], _, _ => True
 | (b, k, e) :: r, S, h => (S.getD b false = false → At h k e) ∧ bR r S h
theorem sS {S : Array Bool} {b j : Nat} (h : (S.setIfInBounds j true).getD b false = false) : S.getD b false = false := by
 cases e : S.getD b false with
 | false => rfl
 | true => rw [getD_set_true e] at h; cases h
theorem bR.mono {j : Nat} {S : Array Bool} {h : aH} : ∀ {fs : List (Nat × Option bZ × iH)}, bR fs S h → bR fs (S.setIfInBounds j true) h
 | [], _ => trivial
 | (_, _, _) :: _, hi => ⟨fun e => hi.1 (sS e), hi.2.mono⟩
theorem bR.unset {i : Nat} {S : Array Bool} {h : aH} : ∀ {fs : List (Nat × Option bZ × iH)}, (fs.all fun q => q.1 != i) = true → bR fs (S.setIfInBounds i true) h → bR fs S h
 | [], _, _ => trivial
 | (b, _, _) :: r, hn, hi => by
  simp only [List.all_cons, Bool.and_eq_true, bne_iff_ne, ne_eq] at hn
  refine ⟨fun e => hi.1 ?_, hi.2.unset hn.2⟩
  rw [getD_set_ne false (Ne.symm hn.1)]
  exact e
theorem bR.get {S : Array Bool} {h : aH} {b : Nat} {k : Option bZ} {e : iH} : ∀ {fs : List (Nat × Option bZ × iH)} (p : Nat), bR fs S h → fs[p]? = some (b, k, e) → S.getD b false = false → At h k e
 | [], p, _, hp, _ => by simp at hp
 | (b', k', e') :: r, 0, hi, hp, hs => by
  simp only [List.getElem?_cons_zero, Option.some.injEq, Prod.mk.injEq] at hp
  obtain ⟨rfl, rfl, rfl⟩ := hp
  exact hi.1 hs
 | (b', k', e') :: r, p + 1, hi, hp, hs => bR.get p hi.2 (by simpa using hp) hs
section game
variable {P : Program} {ops : Array Oper} {K : Fr → aH → Prop} {fs : List (Nat × Option bZ × iH)}
def AG (P : Program) (ops : Array Oper) (fs : List (Nat × Option bZ × iH)) (K : Fr → aH → Prop) : Nat → Array Bool → Fr → aH → Prop
  | 0, S, fr, h => Region.ready .any ops S = [] ∧ K fr h
  | f + 1, S, fr, h => (Region.ready .any ops S = [] → K fr h) ∧ ∀ i ∈ Region.ready .any ops S, ∀ o, ops[i]? = some o →
      (∃ x, iP P ops h fr o x ∧ AG P ops fs K f (S.setIfInBounds i true) (gM fr o.dst x) h) ∨
      (o.guard = none ∧ iB P o (fun x h' => bR fs (S.setIfInBounds i true) h' ∧ AG P ops fs K f (S.setIfInBounds i true) (gM fr o.dst x) h') fr h)
theorem oZ : ∀ (fuel : Nat) (S : Array Bool) (fr : Fr) (h : aH), AG P ops fs K fuel S fr h → ∀ (E : fT) (w : World) (a : Act), fD E h w → cL E w fr a.tmps.toList → a.defers = [] →
    ∀ Q, (∀ a' w', pZ E w K a' w' → Q .normal a' w') → wpAny P .any ops Q fuel S a w
  | 0, S, fr, h, H, E, w, a, r, v, d, Q, hQ => ⟨H.1, hQ _ _ ⟨E, fr, h, eB.refl E w, r, v, d, H.2⟩⟩
  | fuel + 1, S, fr, h, H, E, w, a, r, v, d, Q, hQ => by
    refine ⟨fun e => hQ _ _ ⟨E, fr, h, eB.refl E w, r, v, d, H.1 e⟩, fun i hi => ?_⟩
    obtain ⟨_, o, ho, _⟩ := mem_ready.1 hi
    unfold wpOp
    simp only [ho]
    rcases H.2 i hi o ho with ⟨x, hy, hn⟩ | ⟨hg, hop⟩
    · rcases hy with ⟨h1, h2⟩ | ⟨h1, rfl⟩
      · rw [h1.wanted v, if_pos rfl]
        refine .inl (h2 E w a r (fun y _ => zJ v y) _ Q ?_)
        rintro x' u w' E' h' k r' vx ⟨ex, eh⟩
        rw [ex] at vx
        rw [eh] at r'
        refine oZ fuel _ _ _ hn E' w' _ r' (lU _ (cB k _ _ v) vx) (by rw [iI]; exact d) Q ?_
        intro a' w'' p
        exact hQ _ _ (p.trans k)
      · rw [h1.wanted v]
        simp only [Bool.false_eq_true, if_false]
        exact oZ fuel _ _ _ hn E w _ r (lU _ v (by simp [VR])) (by rw [iI]; exact d) Q hQ
    · have hw : Region.wanted o (yielded ops a.tmps) = true := by simp [Region.wanted, hg]
      rw [hw, if_pos rfl]
      refine .inl (hop E w a r (fun y _ => zJ v y) _ Q ?_)
      rintro x' u w' E' h' k r' vx ⟨_, hn⟩
      refine oZ fuel _ _ _ hn E' w' _ r' (lU _ (cB k _ _ v) vx) (by rw [iI]; exact d) Q ?_
      intro a' w'' p
      exact hQ _ _ (p.trans k)
theorem wY {i j : Nat} {S : Array Bool} (hj : j ∈ Region.ready .any ops S) (hi : S.getD i false = false) : dP ops i j = false := by
 obtain ⟨_, oj, hoj, hall⟩ := mem_ready.1 hj
 unfold dP
 rw [hoj]
 cases e : oj.after.any fun e => Region.binds .any e && e.on == i with
 | false => exact e
 | true =>
  obtain ⟨x, hx, hb⟩ := Array.any_eq_true'.1 e
  simp only [Bool.and_eq_true, beq_iff_eq] at hb
  have := hall x hx hb.1
  rw [hb.2, hi] at this
  cases this
theorem FN {i : Nat} {oi : Oper} {x : AV} (hi : ops[i]? = some oi) (hn : (fs.all fun q => q.1 != i) = true) : ∀ (fuel : Nat) (S : Array Bool) (fr : Fr) (h : aH), S.size = ops.size →
    (∀ j oj, ops[j]? = some oj → j ≠ i → S.getD j true = false → (∀ e ∈ oj.after, Region.binds .any e = true → e.on ≠ i) → oi.apart ops oj = true) →
    (∀ j, dP ops i j = true → S.getD j false = false) →
    i ∈ Region.ready .any ops S → bR fs S h → (∀ S' h', bR fs S' h' → (∀ j, dP ops i j = true → S'.getD j false = false) → iP P ops h' fr oi x) →
    AG P ops fs K fuel (S.setIfInBounds i true) (gM fr oi.dst x) h → AG P ops fs K (fuel + 1) S fr h := by
  intro fuel
  induction fuel with
  | zero =>
    intro S fr h hsz _ hb hr hI hV H
    refine ⟨fun e => (by rw [e] at hr; cases hr), fun j hj oj hoj => ?_⟩
    by_cases hji : j = i
    · subst hji
      rw [hi] at hoj; cases hoj
      exact .inl ⟨x, hV S h hI hb, H⟩
    · have := ready_mono hj hji
      rw [H.1] at this
      cases this
  | succ fuel ih =>
    intro S fr h hsz hfree hb hr hI hV H
    refine ⟨fun e => (by rw [e] at hr; cases hr), fun j hj oj hoj => ?_⟩
    by_cases hji : j = i
    · subst hji
      rw [hi] at hoj; cases hoj
      exact .inl ⟨x, hV S h hI hb, H⟩
    · have hilt : i < S.size := by rw [hsz]; exact (Array.getElem?_eq_some_iff.1 hi).1
      have hiun : S.getD i false = false := by
        have := (mem_ready.1 hr).1
        simp only [Array.getD_eq_getD_getElem?, Array.getElem?_eq_getElem hilt, Option.getD_some] at this ⊢
        exact this
      obtain ⟨hjun, oj', hoj', hall⟩ := mem_ready.1 hj
      rw [hoj] at hoj'; cases hoj'
      have hnot : ∀ e ∈ oj.after, Region.binds .any e = true → e.on ≠ i := fun e he hbn heq => by
        have h1 := hall e he hbn
        rw [heq, hiun] at h1
        cases h1
      obtain ⟨a1, a2, a3⟩ := Oper.apart_spec (hfree j oj hoj hji hjun hnot)
      have hfree' : ∀ k ok, ops[k]? = some ok → k ≠ i → (S.setIfInBounds j true).getD k true = false →
          (∀ e ∈ ok.after, Region.binds .any e = true → e.on ≠ i) → oi.apart ops ok = true := fun k ok hk hki hun hno => by
        refine hfree k ok hk hki ?_ hno
        by_cases hjk : j = k
        · subst hjk; exact hjun
        · rw [getD_set_ne true hjk] at hun; exact hun
      have haj := wY hj hiun
      have hb' : ∀ k, dP ops i k = true → (S.setIfInBounds j true).getD k false = false := fun k hk => by
        have : j ≠ k := fun e => by subst e; rw [haj] at hk; cases hk
        rw [getD_set_ne false this]
        exact hb k hk
      have hsz' : (S.setIfInBounds j true).size = ops.size := by simpa using hsz
      rcases H.2 j (ready_mono hj hji) oj hoj with ⟨y, hy2, hn2⟩ | ⟨hg, hop⟩
      · refine .inl ⟨y, hy2.unput a1, ?_⟩
        refine ih (S.setIfInBounds j true) (gM fr oj.dst y) h hsz' hfree' hb' (ready_mono hr (Ne.symm hji)) hI.mono (fun S' h' u v => (hV S' h' u v).put a3) ?_
        rw [Array.setIfInBounds_comm _ _ hji, ← p4 fr _ _ a2]
        exact hn2
      · refine .inr ⟨hg, ?_⟩
        have hop' := hop.congr (fr' := fr) fun y hy => (BK a1 y hy).symm
        refine hop'.mono ?_
        rintro y h' ⟨q1, q2⟩
        rw [Array.setIfInBounds_comm _ _ (Ne.symm hji)] at q1
        have q3 : bR fs (S.setIfInBounds j true) h' := q1.unset hn
        refine ⟨q3, ?_⟩
        refine ih (S.setIfInBounds j true) (gM fr oj.dst y) h' hsz' hfree' hb' (ready_mono hr (Ne.symm hji)) q3 (fun S' h' u v => (hV S' h' u v).put a3) ?_
        rw [Array.setIfInBounds_comm _ _ hji, ← p4 fr _ _ a2]
        exact q2
def zq (ops : Array Oper) (S : Array Bool) (i : Nat) : Bool :=
 (Region.ready .any ops S).contains i && Region.free .any ops S i && S.size == ops.size && (List.range ops.size).all fun j => !(dP ops i j) || !(S.getD j false)
theorem IS {i : Nat} {oi : Oper} {S : Array Bool} (hi : ops[i]? = some oi) (hz : zq ops S i = true) : i ∈ Region.ready .any ops S ∧ S.size = ops.size ∧
    (∀ j oj, ops[j]? = some oj → j ≠ i → S.getD j true = false → (∀ e ∈ oj.after, Region.binds .any e = true → e.on ≠ i) → oi.apart ops oj = true) ∧ (∀ j, dP ops i j = true → S.getD j false = false) := by
  simp only [zq, Bool.and_eq_true, beq_iff_eq, List.all_eq_true, List.mem_range, Bool.or_eq_true, Bool.not_eq_true'] at hz
  obtain ⟨⟨⟨h1, h2⟩, h3⟩, h4⟩ := hz
  refine ⟨by simpa using h1, h3, Region.free_spec hi h2, fun j hj => ?_⟩
  by_cases hlt : j < ops.size
  · rcases h4 j hlt with h5 | h5
    · rw [hj] at h5; cases h5
    · exact h5
  · simp only [Array.getD_eq_getD_getElem?, Array.getElem?_eq_none (by omega : S.size ≤ j), Option.getD_none]
def FO (P : Program) (ops : Array Oper) (fs : List (Nat × Option bZ × iH)) (K : Fr → aH → Prop) (fuel : Nat) (S : Array Bool) (fr : Fr) (h : aH) : Prop := bR fs S h → AG P ops fs K fuel S fr h
variable {h : aH} {n : Nat} {kvs : KV} {ty : TypeId} {pos : String} {aft' : Array Edge}
theorem YG {f : Nat} {S : Array Bool} (i : Nat) {dst : Option Tmp} {op : Op} {x : AV} (hi : ops[i]? = some ⟨dst, op, ty, pos, aft', none⟩) (hz : zq ops S i = true) (hn : (fs.all fun q => q.1 != i) = true)
    (ho : ∀ S' h', bR fs S' h' → (∀ j, dP ops i j = true → S'.getD j false = false) → eI P ⟨dst, op, ty, pos, aft', none⟩ x (fm n kvs) h')
    (k : FO P ops fs K f (S.setIfInBounds i true) (fm n (mT kvs dst x)) h) : FO P ops fs K (f + 1) S (fm n kvs) h := by
  intro hI
  obtain ⟨z1, z2, z3, z4⟩ := IS hi hz
  refine FN hi hn f S (fm n kvs) h z2 z3 z4 z1 hI (fun S' h' a b => .inl ⟨.inl ⟨rfl, rfl⟩, ho S' h' a b⟩) ?_
  rw [kW]
  exact k hI.mono
theorem eX {f : Nat} {S : Array Bool} (i : Nat) {dst : Option Tmp} {op : Op} (hi : ops[i]? = some ⟨dst, op, ty, pos, aft', none⟩) (hz : Region.ready .any ops S = [i])
    (ho : iB P ⟨dst, op, ty, pos, aft', none⟩ (fun x h' => bR fs (S.setIfInBounds i true) h' ∧ FO P ops fs K f (S.setIfInBounds i true) (fm n (mT kvs dst x)) h') (fm n kvs) h) : FO P ops fs K (f + 1) S (fm n kvs) h := by
  intro _
  refine ⟨fun e => (by rw [hz] at e; cases e), fun j hj oj hoj => ?_⟩
  rw [hz] at hj
  cases List.mem_singleton.1 hj
  rw [hi] at hoj; cases hoj
  exact .inr ⟨rfl, ho.mono fun x h' q => ⟨q.1, by rw [kW]; exact q.2 q.1⟩⟩
theorem dL {f : Nat} {S : Array Bool} (hz : Region.ready .any ops S = []) (hk : K (fm n kvs) h) : FO P ops fs K f S (fm n kvs) h := by
 intro _
 cases f with
 | zero => exact ⟨hz, hk⟩
 | succ f => exact ⟨fun _ => hk, fun i hi => by rw [hz] at hi; cases hi⟩
theorem IT {Q : Exit → Fr → aH → Prop} {fr : Fr} {id : Nat} {l : List Oper} (fs : List (Nat × Option bZ × iH)) (hm : P.follows .mixedOrders = true) (hI : bR fs (Array.replicate l.length false) h)
    (hl : FO P l.toArray fs (Q .normal) l.length (Array.replicate l.length false) fr h) : AW P (.region id l.toArray true) Q fr h := by
  intro E w a r v d
  refine wp_region_any hm ?_
  obtain ⟨r', k⟩ := r.drewn (w.drawn + 1)
  have := oZ l.length (Array.replicate l.length false) fr h (hl hI) E { w with drawn := w.drawn + 1 } a r' (cB k _ _ v) d (fun e a' w' => pZ E w (Q e) a' w') (fun a' w' p => p.trans k)
  simpa using this
end game
abbrev SU := Option Nat × List Nat × List Nat
def rI (ops : Array Oper) (o : Oper) : SU := (o.dst, o.looksAt ops, (o.after.toList.filter fun e => Region.binds .any e).map (·.on))
def TD (a b : SU) : Bool :=
 (match a.1 with | some x => !(b.2.1.any (Nat.beq x)) && (match b.1 with | some y => !(Nat.beq x y) | none => true) | none => true) &&
 (match b.1 with | some y => !(a.2.1.any (Nat.beq y)) | none => true)
def zY : Nat → List SU → Bool
 | _, [] => true
 | k, a :: r => a.2.2.all (fun x => Nat.blt x k) && r.all (fun b => b.2.2.any (Nat.beq k) || TD a b) && zY (k + 1) r
theorem wZ {x : Nat} {l : List Nat} : l.any (Nat.beq x) = true ↔ x ∈ l := by
 rw [List.any_eq_true]
 constructor
 ·rintro ⟨y, hy, e⟩
  rw [Nat.eq_of_beq_eq_true e]; exact hy
 ·intro h
  exact ⟨x, h, Nat.beq_refl x⟩
theorem EC {ops : Array Oper} {x y : Oper} (h : TD (rI ops x) (rI ops y) = true) : x.apart ops y = true := by
 simp only [TD, rI, Bool.and_eq_true] at h
 simp only [Oper.apart, Bool.and_eq_true]
 obtain ⟨h1, h2⟩ := h
 refine ⟨?_, ?_⟩
 ·cases hx : x.dst with
  | none => rfl
  | some d =>
   rw [hx] at h1
   simp only [Bool.and_eq_true, Bool.not_eq_true'] at h1 ⊢
   refine ⟨?_, ?_⟩
   ·cases e : (y.looksAt ops).contains d with
    | false => rfl
    | true =>
     have : d ∈ y.looksAt ops := by simpa using e
     rw [wZ.2 this] at h1
     cases h1.1
   ·cases hy : y.dst with
    | none => rfl
    | some d' =>
     rw [hy] at h1
     have h3 := h1.2
     simp only [bne_iff_ne, ne_eq, Option.some.injEq]
     intro e
     subst e
     simp at h3
 ·cases hy : y.dst with
  | none => rfl
  | some d =>
   rw [hy] at h2
   simp only [Bool.not_eq_true'] at h2 ⊢
   cases e : (x.looksAt ops).contains d with
   | false => rfl
   | true =>
    have : d ∈ x.looksAt ops := by simpa using e
    rw [wZ.2 this] at h2
    cases h2
def LJ (n k : Nat) (S : Array Bool) : Prop := S.size = n ∧ ∀ j, j < n → S[j]? = some (decide (j < k))
theorem LJ.getD {n k j : Nat} {S : Array Bool} (h : LJ n k S) (hj : j < n) (b : Bool) : S.getD j b = decide (j < k) := by
 have := h.2 j hj
 rw [Array.getD_eq_getD_getElem?, this]; rfl
theorem vT {ops : Array Oper} : ∀ (l : List Oper) (k : Nat) (S : Array Bool), (∀ j, l[j]? = ops[k + j]?) → k + l.length = ops.size → LJ ops.size k S → zY k (l.map (rI ops)) = true → Region.lexFrom .any ops l.length k S = true
 | [], k, S, _, hsz, hu, _ => by
  simp only [List.length_nil, Region.lexFrom, List.isEmpty_iff]
  cases e : Region.ready .any ops S with
  | nil => rfl
  | cons j r =>
   have hj : j ∈ Region.ready .any ops S := by rw [e]; simp
   obtain ⟨h1, o, ho, _⟩ := mem_ready.1 hj
   have hlt : j < ops.size := (Array.getElem?_eq_some_iff.1 ho).1
   rw [hu.getD hlt] at h1
   simp only [List.length_nil, Nat.add_zero] at hsz
   simp at h1
   omega
 | o :: l, k, S, hl, hsz, hu, hs => by
  have h0 : ops[k]? = some o := by simpa using (hl 0).symm
  have hk : k < ops.size := (Array.getElem?_eq_some_iff.1 h0).1
  simp only [List.map_cons, zY, Bool.and_eq_true] at hs
  obtain ⟨⟨hs1, hs2⟩, hs3⟩ := hs
  simp only [List.length_cons, Region.lexFrom, Bool.and_eq_true]
  refine ⟨⟨?_, ?_⟩, ?_⟩
  ·have : k ∈ Region.ready .any ops S := by
    refine mem_ready.2 ⟨by rw [hu.getD hk]; simp, o, h0, fun e he hb => ?_⟩
    have hon : e.on < k := by
     have := List.all_eq_true.1 hs1 e.on (by
      simp only [rI, List.mem_map, List.mem_filter]
      exact ⟨e, ⟨by simpa using he, hb⟩, rfl⟩)
     rwa [Nat.blt_eq] at this
    rw [hu.getD (by omega)]
    simpa using hon
   simpa using this
  ·simp only [Region.free, h0, List.all_eq_true, List.mem_range]
   intro j hj
   simp only [Bool.or_eq_true, beq_iff_eq]
   by_cases e1 : j = k
   ·exact .inl (.inl e1)
   ·by_cases e2 : j < k
    ·exact .inl (.inr (by rw [hu.getD hj]; simpa using e2))
    ·right
     obtain ⟨q, rfl⟩ : ∃ q, j = k + (q + 1) := ⟨j - k - 1, by omega⟩
     have hlq := hl (q + 1)
     simp only [List.getElem?_cons_succ] at hlq
     have hlt : q < l.length := by simp only [List.length_cons] at hsz; omega
     rw [← hlq, List.getElem?_eq_getElem hlt]
     have := List.all_eq_true.1 hs2 (rI ops l[q]) (List.mem_map.2 ⟨l[q], List.getElem_mem hlt, rfl⟩)
     simp only [Bool.or_eq_true] at this ⊢
     rcases this with h1 | h1
     ·left
      have h1 := wZ.1 h1
      simp only [rI, List.mem_map, List.mem_filter] at h1
      obtain ⟨e, ⟨he, hb⟩, hon⟩ := h1
      rw [Array.any_eq_true']
      exact ⟨e, by simpa using he, by simp [hb, hon]⟩
     ·exact .inr (EC h1)
  ·refine vT l (k + 1) _ (fun j => by have := hl (j + 1); simpa [Nat.add_assoc, Nat.add_comm 1 j] using this) (by simp only [List.length_cons] at hsz; omega) ?_ hs3
   refine ⟨by simpa using hu.1, fun j hj => ?_⟩
   rw [Array.getElem?_setIfInBounds]
   by_cases e : k = j
   ·subst e; simp [hu.1, hj]
   ·rw [if_neg e, hu.2 j hj]
    congr 1
    by_cases q : j < k
    ·simp [q, show j < k + 1 from by omega]
    ·simp [q, show ¬ j < k + 1 from by omega]
theorem zZ {P : Program} {Q : Exit → Fr → aH → Prop} {fr : Fr} {h : aH} {id : Nat} {l : List Oper} (sm : List SU) (hm : P.follows .mixedOrders = true) (h1 : l.map (rI l.toArray) = sm) (h2 : zY 0 sm = true)
    (hl : fA P l.toArray h (fun fr' => Q .normal fr' h) l fr) : AW P (.region id l.toArray true) Q fr h := by
  intro E w a r v d
  refine wp_region_any hm ?_
  have hlex : Region.lexFrom .any l.toArray l.length 0 (Array.replicate l.toArray.size false) = true := by
    refine vT l 0 _ (by simp) (by simp) ⟨by simp, fun j hj => ?_⟩ (by rw [h1]; exact h2)
    simp only [List.size_toArray] at hj
    simp [hj]
  have hA := zL (md := .any) l 0 (Array.replicate l.toArray.size false) fr (by simp) hlex hl
  obtain ⟨r', k⟩ := r.drewn (w.drawn + 1)
  have := n8 l.length (Array.replicate l.toArray.size false) fr E { w with drawn := w.drawn + 1 } a hA r' (cB k _ _ v) d (fun e a' w' => pZ E w (Q e) a' w') (fun a' w' p => (p.trans k).mono fun fr' h' q => by rw [q.2]; exact q.1)
  simpa using this
abbrev bP := {l : List Int // l.length = 32}
def bF (x : bP) : List AV := (List.range 32).map fun i => .sc (.int .u8 (x.1.getD i 0))
def iY : bP := ⟨List.replicate 32 0, rfl⟩
theorem m0 (x : bP) : bF x = x.1.map fun z => AV.sc (.int .u8 z) := by
 apply List.ext_getElem
 ·simp [bF, x.2]
 ·intro i h1 h2
  simp only [bF, List.getElem_map, List.getElem_range]
  have : i < x.1.length := by simpa using h2
  simp [List.getD, List.getElem?_eq_getElem this]
theorem z7 : ∀ (xs ys : List Int), xs.length = ys.length → ((List.range xs.length).all fun i => xs.getD i 0 == ys.getD i 0) = decide (xs = ys)
 | [], [], _ => rfl
 | x :: xs, y :: ys, h => by
  have ih := z7 xs ys (by simpa using h)
  rw [List.length_cons, List.range_succ_eq_map, List.all_cons, List.all_map]
  simp only [List.getD_cons_zero, Function.comp_def, List.getD_cons_succ, ih]
  by_cases h1 : x = y <;> by_cases h2 : xs = ys <;> simp [h1, h2]
 | [], _ :: _, h => by simp at h
 | _ :: _, [], h => by simp at h
section
variable {P : Program} (w : World)
theorem qD (d : Nat) (t e : TypeId) (n : Nat) (ht : P.underlying t = some (.array n e)) (he : P.underlying e = some (.int .u8)) (hsz : ∀ w, (sizeOf e).run P w = .ok 1 w)
    (xs ys : List Int) (hx : xs.length = n) (hy : ys.length = n) :
    (Op.equalIn (d + 2) t (.agg (xs.map (Value.int .u8)).toArray) (.agg (ys.map (Value.int .u8)).toArray)).run P w = .ok (decide (xs = ys)) w := by
  rw [← z7 xs ys (hx.trans hy.symm), hx, List.range_eq_range', Op.equalIn]
  simp only [Sem.run_bind, run_underlying ht, Result.andThen_ok, hsz, Std.Legacy.Range.forIn_eq_forIn_range', Std.Legacy.Range.size, Nat.sub_zero, Nat.add_sub_cancel, Nat.div_one]
  have hl : ∀ i ∈ List.range' 0 n 1, i < n := fun i hi => by simpa using (List.mem_range'_1.1 hi).2
  generalize List.range' 0 n 1 = l at hl ⊢
  induction l with
  | nil => simp
  | cons i l ih =>
    have hi : i < n := hl i (by simp)
    have px : (part e (xs.map (Value.int .u8)).toArray (i * 1)).run P w = .ok (.int .u8 (xs.getD i 0)) w := by
      simp [part, isAgg, run_underlying he, List.getD, List.getElem?_eq_getElem (show i < xs.length by omega)]
    have py : (part e (ys.map (Value.int .u8)).toArray (i * 1)).run P w = .ok (.int .u8 (ys.getD i 0)) w := by
      simp [part, isAgg, run_underlying he, List.getD, List.getElem?_eq_getElem (show i < ys.length by omega)]
    have pe : (Op.equalIn (d + 1) e (.int .u8 (xs.getD i 0)) (.int .u8 (ys.getD i 0))).run P w = .ok (xs.getD i 0 == ys.getD i 0) w := run_equalIn_int w d e .u8 .u8 _ _ he
    simp only [List.forIn_cons, Sem.run_bind, px, py, pe, Result.andThen_ok, List.all_cons]
    cases hb : (xs.getD i 0 == ys.getD i 0)
    · simp
    · simp only [Bool.not_true, Bool.false_eq_true, if_false, Sem.run_pure, Result.andThen_ok, Bool.true_and]
      exact ih fun j hj => hl j (by simp [hj])
end
theorem o0 {E : fT} {w : World} : ∀ {xs : List Int} {vs : List Value}, cL E w (xs.map fun z => AV.sc (.int .u8 z)) vs → vs = xs.map (Value.int .u8)
 | [], [], _ => rfl
 | x :: xs, v :: vs, h => by
  simp only [List.map_cons, cL, VR] at h
  rw [h.1, o0 h.2]; rfl
 | [], _ :: _, h => by simp [cL] at h
 | _ :: _, [], h => by simp [cL] at h
section ops
variable {P : Program} {ops : Array Oper} {h h0 : aH} {L : HL} {n : Nat} {kvs : KV} {l : List Oper} {ty : TypeId} {pos : String} {dP : Array Edge}
theorem FP {E : fT} {w : World} {x : bP} {v : Value} (h : VR E w (.agg (bF x)) v) : v = .agg (x.1.map (Value.int .u8)).toArray := by
 simp only [VR] at h
 obtain ⟨cs, rfl, hc⟩ := h
 rw [m0] at hc
 have := o0 hc
 rw [← this]
theorem rJ {P : Program} {op : BinOp} {t : TypeId} {x y : Operand} {a b : Array Value} (hg : P.eqGuardType P.depth t = false) (w : World) : (eqGuard op t x y (.agg a) (.agg b)).run P w = .ok () w := by
 unfold eqGuard
 cases op <;> simp [program, Sem.run, hg]
theorem vU {dst : Option Tmp} {t u e : TypeId} {a b : Operand} {x y : bP} (hg : P.eqGuardType P.depth t = false) (ht : P.underlying t = some (.array 32 e)) (he : P.underlying e = some (.int .u8)) (hl : kQ P e = some (false, 1)) (ha : dN n kvs a = .agg (bF x)) (hb : dN n kvs b = .agg (bF y)) :
    eI P ⟨dst, .binOp .eql t a b u, ty, pos, dP, none⟩ (.sc (.bool (decide (x = y)))) (fm n kvs) h := by
  refine eR (x := .sc (.bool (decide (x = y)))) (fun E w ac _ hv => ?_) ⟨rfl, rfl⟩
  have va := hv a (by simp [Op.operands])
  have vb := hv b (by simp [Op.operands])
  rw [bG, ha] at va; rw [bG, hb] at vb
  have ea := FP va
  have eb := FP vb
  refine ⟨.bool (decide (x = y)), ?_, by simp only [VR]⟩
  have hs := (zN hl).2
  have hq := qD w 9998 t e 32 ht he (fun w => cP hs w) x.1 y.1 x.2 y.2
  have hd : decide (x = y) = decide (x.1 = y.1) := by
    by_cases q : x = y
    · subst q; simp
    · have : ¬ x.1 = y.1 := fun e => q (Subtype.ext e)
      simp [q, this]
  simp only [execOp, ea, eb]
  simp only [Sem.run_bind, rJ hg, Result.andThen_ok, binOp, Op.equal, Op.maxDepth, hq, Sem.run_pure, hd]
theorem jO {dst : Option Tmp} {a b : Operand} {t : TypeId} {q : bZ} {off : Nat} {k : IntKind} {i x : Int} {y : bP} (hi : ix y.1 i = some x) (ht : C7 P t = some (32, 1)) (ha : dN n kvs a = .ptr q off) (hb : dN n kvs b = .sc (.int k i)) :
    eI P ⟨dst, .indexAddr t a b, ty, pos, dP, none⟩ (.ptr q (off + i.toNat)) (fm n kvs) h := by
  obtain ⟨h0, h1, h2⟩ := fF hi
  rw [y.2] at h1
  refine iJ (c := 0 ≤ i ∧ i < 32) ?_ ⟨h0, by omega⟩
  simp only [pv, bG, ha, hb, jC, E3, ht, Option.bind_some, Nat.mul_one]
  rfl
theorem kX {dst : Option Tmp} {a : Operand} {t : TypeId} {q : bZ} (off : Nat) {i x : Int} {y : bP} {oty : TypeId} {cs : List AV} (hi : ix y.1 i = some x) (ht : kQ P t = some (false, 1)) (ha : dN n kvs a = .ptr q (off + i.toNat)) (hk : h q = some (.obj oty cs)) (hc : (cs.drop off).take 32 = bF y) :
    eI P ⟨dst, .load t a, ty, pos, dP, none⟩ (.sc (.int .u8 x)) (fm n kvs) h := by
  refine bH _ ht ha hk ?_
  obtain ⟨h0, h1, h2⟩ := fF hi
  rw [y.2] at h1
  have e : (cs.drop off)[i.toNat]? = some (.sc (.int .u8 x)) := by
    have : ((cs.drop off).take 32)[i.toNat]? = (bF y)[i.toNat]? := by rw [hc]
    rw [List.getElem?_take_of_lt (by omega), m0, List.getElem?_map, h2] at this
    exact this
  simp only [BM]
  rw [← List.drop_drop, List.head?_drop, e]
theorem n3 {a t : Nat} {q : bZ} {off : Nat} {oty : TypeId} {cs : List AV} {ag : Bool} {m : Nat} (x : AV) (ht : kQ P t = some (ag, m)) (ha : lk n kvs a = .ptr q off) (hk : h q = some (.obj oty cs)) (hx : BM ag m (cs.drop off) = some x) : zV P h (fm n kvs) (.cell a t) = some x := by
 have := bG n kvs (.tmp a)
 simp only [ev, dN] at this
 simp only [zV, ht, Option.bind_some, this, ha, FD, hk, hx]
theorem dY.of1 {r : ResultVar} {Q : AV → aH → Prop} {e : Exit} {h'' : aH} {x y : AV} (he : e = .ret ∨ e = .normal) (hx : zV P h (fm n kvs) r = some x) (hs : gX h'' h) (hl : aX h'' x y) (hq : Q y h'') : dY P [r] Q e (fm n kvs) h := by
 rcases he with rfl | rfl <;> exact ⟨x, y, h'', hx, hs, hl, hq⟩
theorem dY.of2 {r1 r2 : ResultVar} {Q : AV → aH → Prop} {e : Exit} {h'' : aH} {x1 x2 y1 y2 : AV} (he : e = .ret ∨ e = .normal) (hx1 : zV P h (fm n kvs) r1 = some x1) (hx2 : zV P h (fm n kvs) r2 = some x2) (hs : gX h'' h) (hl1 : aX h'' x1 y1) (hl2 : aX h'' x2 y2) (hq : Q (.tup [y1, y2]) h'') : dY P [r1, r2] Q e (fm n kvs) h := by
 have hx : sQ P h (fm n kvs) [r1, r2] = some (.tup [x1, x2]) := by simp only [sQ, E4, hx1, hx2, Option.bind_some, Option.map_some]
 rcases he with rfl | rfl <;> exact ⟨_, _, h'', hx, hs, aX.tup (.cons hl1 (.cons hl2 .nil)), hq⟩
theorem dY.of3 {r1 r2 r3 : ResultVar} {Q : AV → aH → Prop} {e : Exit} {h'' : aH} {x1 x2 x3 y1 y2 y3 : AV} (he : e = .ret ∨ e = .normal) (hx1 : zV P h (fm n kvs) r1 = some x1) (hx2 : zV P h (fm n kvs) r2 = some x2) (hx3 : zV P h (fm n kvs) r3 = some x3) (hs : gX h'' h) (hl1 : aX h'' x1 y1) (hl2 : aX h'' x2 y2) (hl3 : aX h'' x3 y3) (hq : Q (.tup [y1, y2, y3]) h'') : dY P [r1, r2, r3] Q e (fm n kvs) h := by
 have hx : sQ P h (fm n kvs) [r1, r2, r3] = some (.tup [x1, x2, x3]) := by simp only [sQ, E4, hx1, hx2, hx3, Option.bind_some, Option.map_some]
 rcases he with rfl | rfl <;> exact ⟨_, _, h'', hx, hs, aX.tup (.cons hl1 (.cons hl2 (.cons hl3 .nil))), hq⟩
theorem fL (P : Program) (h : aH) {t : Nat} (x : AV) (hx : lk n kvs t = x) : zV P h (fm n kvs) (.tmp t) = some x := by rw [BS, hx]
def qE (P : Program) (t : TypeId) : Option (List Value × List (Nat × Nat)) := match P.info? t, P.underlying t with
 | some it, some (.struct fields) => match it.zero, fields.toList.mapM (fun f => (P.info? f.type).map fun i => (f.offset, i.size)) with
  | some z, some pl => some (z.cells.toList, pl)
  | _, _ => none
 | _, _ => none
def w5 (pl : List (Nat × Nat)) : List AV → List (Nat × AV) → Option (List AV)
 | cs, [] => some cs
 | cs, (i, x) :: r => match pl[i]?, cellsOf x with
  | some (off, sz), some xs => if (xs.length == sz && Nat.ble (off + sz) cs.length && xs.all fS) = true then w5 pl (eT cs off xs) r else none
  | _, _ => none
inductive PL (E : fT) (w : World) : List (Nat × AV) → List (Nat × Value) → Prop where
 | nil : PL E w [] []
 | cons {i : Nat} {x : AV} {v : Value} {ps : List (Nat × AV)} {vs : List (Nat × Value)} : VR E w x v → PL E w ps vs → PL E w ((i, x) :: ps) ((i, v) :: vs)
theorem oF {E : fT} {w : World} {pl : List (Nat × Nat)} : ∀ {ps : List (Nat × AV)} {cs cs' : List AV} {cur : Array Value} {vs : List (Nat × Value)}, w5 pl cs ps = some cs' → cL E w cs cur.toList →
    PL E w ps vs → ∃ cur', Instr.fill (pl.toArray[·]?) cur vs = some cur' ∧ cL E w cs' cur'.toList
  | [], cs, cs', cur, vs, hb, hv, hf => by
    cases hf
    simp only [w5, Option.some.injEq] at hb
    subst hb
    exact ⟨cur, rfl, hv⟩
  | (i, x) :: r, cs, cs', cur, vs, hb, hv, hf => by
    cases hf with
    | cons hx h2 =>
      rename_i v qs
      simp only [w5] at hb
      split at hb
      · rename_i off sz xs e1 e2
        split at hb
        · rename_i hc
          simp only [Bool.and_eq_true, beq_iff_eq] at hc
          obtain ⟨⟨c1, c2⟩, c3⟩ := hc
          have c2 := Nat.le_of_ble_eq_true c2
          obtain ⟨d1, d2⟩ := iR e2 c3 hx
          have hl := cT d1
          have hl2 := cT hv
          simp only [Array.length_toList] at hl hl2
          have hfold := p9 off v.cells.toList 0 cur (by simp; omega)
          have hnew : cL E w (eT cs off xs) (v.cells.zipIdx.foldl (fun cs (c, j) => cs.setIfInBounds (off + j) c) cur).toList := by
            have e3 : (v.cells.zipIdx.foldl (fun cs (c, j) => cs.setIfInBounds (off + j) c) cur) = ((v.cells.toList.zipIdx 0).foldl (fun cs (c, j) => cs.setIfInBounds (off + j) c) cur) := by
              rw [← Array.foldl_toList]; simp
            rw [e3, hfold]
            simp only [Nat.add_zero, eT]
            rw [hl]
            exact cU (cU (fN _ hv) d1) (hC _ hv)
          obtain ⟨cur', f1, f2⟩ := oF hb hnew h2
          refine ⟨cur', ?_, f2⟩
          have e4 : pl.toArray[i]? = some (off, sz) := by simpa using e1
          simp only [Instr.fill, e4]
          rw [if_neg (by simp; omega)]
          exact f1
        · cases hb
      · cases hb
theorem eV {dst : Option Tmp} {t : TypeId} {parts : Array (Nat × Operand)} {zs : List Value} {pl : List (Nat × Nat)} (cs : List AV) (hb : qE P t = some (zs, pl)) (hc : w5 pl (zs.map .sc) (parts.toList.map fun p => (p.1, dN n kvs p.2)) = some cs) :
    eI P ⟨dst, .build t parts, ty, pos, dP, none⟩ (.agg cs) (fm n kvs) h := by
  refine eR (x := .agg cs) (fun E w ac _ hv => ?_) ⟨rfl, rfl⟩
  have hps : ∀ (l : List (Nat × Operand)), (∀ p ∈ l, VR E w (ev (fm n kvs) p.2) (ac.eval p.2)) → PL E w (l.map fun p => (p.1, dN n kvs p.2)) (l.map fun p => (p.1, ac.eval p.2)) := by
    intro l
    induction l with
    | nil => intro _; exact .nil
    | cons p l ih =>
      intro hl
      refine .cons ?_ (ih fun q hq => hl q (by simp [hq]))
      have := hl p (by simp)
      rwa [bG] at this
  have hall : ∀ p ∈ parts.toList, VR E w (ev (fm n kvs) p.2) (ac.eval p.2) := by
    intro p hp
    refine hv p.2 ?_
    simp only [Op.operands, Array.mem_def, List.mem_map]
    exact ⟨p, hp, rfl⟩
  have hz := n7 (E := E) (w := w) zs
  obtain ⟨cur', f1, f2⟩ := oF (cur := zs.toArray) hc hz (hps _ hall)
  refine ⟨.agg cur', ?_, by simp only [VR]; exact ⟨_, rfl, f2⟩⟩
  have hbuilt : P.built t (parts.map fun (i, x) => (i, ac.eval x)).toList = some cur' := by
    unfold qE at hb
    unfold Program.built
    cases hit : P.info? t with
    | none => simp [hit] at hb
    | some it =>
      cases hu : P.underlying t with
      | none => simp [hit, hu] at hb
      | some d =>
        cases d <;> try (simp [hit, hu] at hb; done)
        case struct fields =>
          cases hzr : it.zero with
          | none => simp [hit, hu, hzr] at hb
          | some z =>
            cases hp : fields.toList.mapM (fun f => (P.info? f.type).map fun i => (f.offset, i.size)) with
            | none => simp [hit, hu, hzr, hp] at hb
            | some places =>
              simp only [hit, hu, hzr, hp, Option.some.injEq, Prod.mk.injEq] at hb
              obtain ⟨rfl, rfl⟩ := hb
              have f1' : Instr.fill (places.toArray[·]?) z.cells (parts.map fun (i, x) => (i, ac.eval x)).toList = some cur' := by
                have : (parts.map fun (i, x) => (i, ac.eval x)).toList = parts.toList.map fun p => (p.1, ac.eval p.2) := by simp
                rw [this]
                simpa using f1
              simp only [hzr, hp]
              exact f1'
  simp only [execOp, Sem.run_bind, run_build w t _ cur' hbuilt, Result.andThen_ok, Sem.run_pure]
end ops
open Go.ChangeShapes Go.WideShapes Go.Deep
section
variable {H : Type} {enc : TypeId × Value → H} {P : Program} {W : World}
def Rd {α : Type} (enc : TypeId × Value → H) (P : Program) (W : World) (t : TypeId) (c : α → List AV) (g : α → Prop) : Prop :=
 ∀ {fuel : Nat} {cs : List Value} {x : DataW H × List MemPlace}, DataW.trod enc P W 0 (fun _ => true) true fuel t cs = some x → ∃ a, g a ∧ cL (E0 W) W (c a) cs ∧ (∀ v ∈ cs, v.oneCell' = true)
def gI (n : Int) : Prop := -9223372036854775808 ≤ n ∧ n < 9223372036854775808
def gB (n : Int) : Prop := 0 ≤ n ∧ n < 256
def gL {α : Type} (g : α → Prop) (l : List α) : Prop := ∀ x ∈ l, g x
def gT {α : Type} (_ : α) : Prop := True
theorem LK {t : TypeId} (ht : P.underlying t = some (.int .i64)) : Rd enc P W t (fun n : Int => [AV.sc (.int .i64 n)]) gI := by
 intro fuel cs x h
 obtain ⟨n, rfl, -, hw⟩ := DataW.trod_int ht h
 refine ⟨n, ?_, by simp only [cL, VR]; trivial, by simp [Value.oneCell']⟩
 simp only [Lit.wf, Bool.and_eq_true, decide_eq_true_eq] at hw
 rw [show IntKind.i64.min = -9223372036854775808 from by decide, show IntKind.i64.max = 9223372036854775807 from by decide] at hw
 unfold gI; omega
theorem PA {t : TypeId} (ht : P.underlying t = some (.int .u8)) : Rd enc P W t (fun n : Int => [AV.sc (.int .u8 n)]) gB := by
 intro fuel cs x h
 obtain ⟨n, rfl, -, hw⟩ := DataW.trod_int ht h
 refine ⟨n, ?_, by simp only [cL, VR]; trivial, by simp [Value.oneCell']⟩
 simp only [Lit.wf, Bool.and_eq_true, decide_eq_true_eq] at hw
 rw [show IntKind.u8.min = 0 from by decide, show IntKind.u8.max = 255 from by decide] at hw
 unfold gB; omega
theorem IU {t : TypeId} (ht : P.underlying t = some .bool) : Rd enc P W t (fun b : Bool => [AV.sc (.bool b)]) gT := by
 intro fuel cs x h
 cases fuel with
 | zero => simp [DataW.trod] at h
 | succ n =>
  unfold DataW.trod at h
  rw [ht] at h
  split at h
  all_goals first | (injection ‹some TypeDesc.bool = _›; done) | skip
  all_goals try (simp_all; done)
  rename_i b _
  exact ⟨b, trivial, by simp only [cL, VR]; trivial, by simp [Value.oneCell']⟩
theorem LL {t : TypeId} (ht : P.underlying t = some .string) : Rd enc P W t (fun b : ByteArray => [AV.sc (.string b)]) gT := by
 intro fuel cs x h
 cases fuel with
 | zero => simp [DataW.trod] at h
 | succ n =>
  unfold DataW.trod at h
  rw [ht] at h
  split at h <;> simp_all
  rename_i b
  exact ⟨b, trivial, by simp only [cL, VR]; trivial, by simp [Value.oneCell']⟩
def BU (W : World) (o : Nat) (xs : List AV) (cs : List Value) : Prop := cL (E0 W) W xs (cs.drop o) ∧ ∀ v ∈ cs.drop o, v.oneCell' = true
theorem BU.nil {o : Nat} {cs : List Value} (h : cs.length = o) : BU W o [] cs := by
 subst h
 simp [BU, cL]
theorem BU.cons {o n m : Nat} {xs ys : List AV} {cs : List Value} (h : cL (E0 W) W xs ((cs.drop o).take n)) (h1 : ∀ v ∈ (cs.drop o).take n, v.oneCell' = true) (k : BU W m ys cs) (hm : m = o + n) : BU W o (xs ++ ys) cs := by
 subst hm
 have e : cs.drop o = (cs.drop o).take n ++ cs.drop (o + n) := by rw [← List.drop_drop, List.take_append_drop]
 constructor
 ·rw [e]; exact cU h k.1
 ·intro v hv
  rw [e] at hv
  rcases List.mem_append.1 hv with q | q
  ·exact h1 v q
  ·exact k.2 v q
theorem Rd.fld {α : Type} {t : TypeId} {c : α → List AV} {g : α → Prop} (r : Rd enc P W t c g) {o n : Nat} {cs : List Value} {xs : List (DataW H × List MemPlace)} {fs : Array Field} {m : Nat}
    (hf : ∀ (i : Nat) (f : Field), fs[i]? = some f → DataW.trod enc P W 0 (fun _ => true) true m f.type ((cs.drop f.offset).take (P.cellsOf f.type)) = xs[i]?) (hx : xs.length = fs.size) (i : Nat) {f : Field} (hi : fs[i]? = some f)
    (h1 : f.type = t) (h2 : f.offset = o) (h3 : P.cellsOf t = n) : ∃ a, g a ∧ cL (E0 W) W (c a) ((cs.drop o).take n) ∧ ∀ v ∈ (cs.drop o).take n, v.oneCell' = true := by
  subst h1 h2 h3
  have q := hf i f hi
  have hi' : i < xs.length := by rw [hx]; exact (Array.getElem?_eq_some_iff.1 hi).1
  rw [List.getElem?_eq_getElem hi'] at q
  exact r q
theorem Rd.id {t e : TypeId} (ht : P.underlying t = some (.array 32 e)) (he : P.underlying e = some (.int .u8)) (hc : P.cellsOf e = 1) (hn : P.cellsOf t = 32) : Rd enc P W t bF (fun x => gL gB x.1) := by
 intro fuel cs x h
 obtain ⟨xs, m, -, -, hl, hx, hf⟩ := DataW.trod_array ht h
 rw [hn] at hl
 have hk : ∀ i, i < 32 → ∃ z : Int, cs[i]? = some (.int .u8 z) ∧ gB z := by
  intro i hi
  have q := hf i hi
  rw [List.getElem?_eq_getElem (by omega), hc, Nat.mul_one] at q
  obtain ⟨n, e1, -, hw⟩ := DataW.trod_int he q
  refine ⟨n, ?_, ?_⟩
  ·have := congrArg (fun l : List Value => l[0]?) e1
   simpa using this
  ·simp only [Lit.wf, Bool.and_eq_true, decide_eq_true_eq] at hw
   rw [show IntKind.u8.min = 0 from by decide, show IntKind.u8.max = 255 from by decide] at hw
   unfold gB; omega
 obtain ⟨V, hV⟩ := choose_lt hk
 refine ⟨⟨(List.range 32).map V, by simp⟩, ?_, ?_, ?_⟩
 ·intro z hz
  obtain ⟨i, hi, rfl⟩ := List.mem_map.1 hz
  exact (hV i (List.mem_range.1 hi)).2
 ·have : cs = (List.range 32).map fun i => Value.int .u8 (V i) := by
   apply List.ext_getElem?
   intro i
   by_cases hi : i < 32
   ·rw [(hV i hi).1]; simp [hi]
   ·rw [List.getElem?_eq_none (by omega), List.getElem?_eq_none (by simp; omega)]
  rw [this, m0, List.map_map]
  have := n7 (E := E0 W) (w := W) ((List.range 32).map fun i => Value.int .u8 (V i))
  rwa [List.map_map] at this
 ·intro v hv
  obtain ⟨i, hi, rfl⟩ := List.getElem_of_mem hv
  have := (hV i (by omega)).1
  rw [List.getElem?_eq_getElem hi] at this
  rw [Option.some.inj this]
  rfl
theorem w6 {a : Addr} {v : Value} (h : W.cell? a = some v) : a.spot = none := by
 unfold World.cell? at h
 split at h
 ·split at h
  ·cases h
  ·rename_i q; simpa using q
 ·cases h
theorem qZ {g o sz : Nat} {α : Type} {c : α → List AV} : ∀ (l : List α) (rows : Nat → List Value) (k : Nat), (∀ x ∈ l, (c x).length = sz) →
    (∀ i x, l[i]? = some x → cL (E0 W) W (c x) (rows (k + i)) ∧ (∀ v ∈ rows (k + i), v.oneCell' = true) ∧ ∀ j, j < sz → W.cell? ⟨g, o + (k + i) * sz + j, none⟩ = (rows (k + i))[j]? ∧ (rows (k + i)).length = sz) →
    rD (E0 W) W none g (o + k * sz) (l.map c)
  | [], _, _, _, _ => by simp only [List.map_nil, rD]
  | x :: l, rows, k, hs, h => by
    simp only [List.map_cons, rD]
    obtain ⟨h1, h2, h3⟩ := h 0 x rfl
    have hsz := hs x (by simp)
    refine ⟨eD h1 (by simpa using h2) ?_, ?_⟩
    · intro j v hj
      have hl : (rows (k + 0)).length = sz := by
        by_cases h0 : 0 < sz
        · exact (h3 0 h0).2
        · have := cT h1
          omega
      have hj' : j < sz := by rw [← hl]; exact (List.getElem?_eq_some_iff.1 hj).1
      have q := (h3 j hj').1
      rw [hj, Nat.add_zero] at q
      exact ⟨q, .inl (by show (W.cell? _).isSome = true; rw [q]; rfl)⟩
    · rw [hsz, show o + k * sz + sz = o + (k + 1) * sz from by rw [Nat.add_mul]; omega]
      refine qZ l rows (k + 1) (fun y hy => hs y (by simp [hy])) fun i y hi => ?_
      have := h (i + 1) y (by simpa using hi)
      rwa [show k + (i + 1) = k + 1 + i from by omega] at this
theorem Rd.slice {α : Type} {t e : TypeId} {c : α → List AV} {g : α → Prop} {sz : Nat} (r : Rd enc P W e c g) (ht : P.underlying t = some (.slice e)) (hc : P.cellsOf e = sz) (hs : ∀ x, (c x).length = sz) (h0 : 0 < sz) :
    Rd enc P W t (fun l : List α => [AV.sl none sz (l.map c)]) (gL g) := by
  intro fuel cs x h
  rcases open_slice ht h with ⟨rfl, -⟩ | ⟨a, len, cap, m, n, D, Pl, rfl, -, hl, hm, hmm, -, hx⟩
  · exact ⟨[], by intro x hx; simp at hx, by simp only [cL, VR]; exact ⟨⟨none, 0, rfl, by simp, by simp, by simp, by simp, by simp⟩, trivial⟩, by simp [Value.oneCell']⟩
  · simp only [if_true] at hmm
    rw [hmm] at hx
    have key : ∀ i, i < len → ∃ q : α × List Value, g q.1 ∧ cL (E0 W) W (c q.1) q.2 ∧ (∀ v ∈ q.2, v.oneCell' = true) ∧ W.cells? 0 (a.add (i * sz)) sz = some q.2 := by
      intro i hi
      obtain ⟨cs', h1, h2⟩ := hx i (by omega)
      obtain ⟨y, gy, v1, v2⟩ := r h2
      exact ⟨(y, cs'), gy, v1, v2, by rwa [hc] at h1⟩
    have : Nonempty (α × List Value) ∨ len = 0 := by
      by_cases hz : 0 < len
      · obtain ⟨q, -⟩ := key 0 hz
        exact .inl ⟨q⟩
      · exact .inr (by omega)
    rcases this with hin | hz
    · have : Inhabited (α × List Value) := Classical.inhabited_of_nonempty hin
      obtain ⟨Q, hQ⟩ := choose_lt key
      refine ⟨(List.range len).map fun i => (Q i).1, ?_, ?_, by simp [Value.oneCell']⟩
      · intro y hy
        obtain ⟨i, hi, rfl⟩ := List.mem_map.1 hy
        exact (hQ i (List.mem_range.1 hi)).1
      · simp only [cL, VR]
        refine ⟨⟨some a, cap, by simp, by simpa using hl, hm, ?_, ?_, by simp⟩, trivial⟩
        · by_cases hz : len = 0
          · left; subst hz; simp
          · right
            have h00 := (World.cells?_some (hQ 0 (by omega)).2.2.2).2.2 0 h0
            have hlen := (World.cells?_some (hQ 0 (by omega)).2.2.2).2.1
            rw [List.getElem?_eq_getElem (by omega)] at h00
            have hsp := w6 h00
            obtain ⟨b, o, sp⟩ := a
            obtain rfl : sp = none := by simpa [Addr.add] using hsp
            refine ⟨b, o, rfl, ?_⟩
            have := qZ (W := W) (g := b) (o := o) (sz := sz) (c := c) ((List.range len).map fun i => (Q i).1) (fun i => (Q i).2) 0 (fun y _ => hs y) ?_
            · simpa using this
            · intro i y hi
              rw [List.getElem?_map, Option.map_eq_some_iff] at hi
              obtain ⟨i', hi', rfl⟩ := hi
              obtain ⟨hlt, e1⟩ := List.getElem?_eq_some_iff.1 hi'
              simp only [List.length_range] at hlt
              simp only [List.getElem_range] at e1
              subst e1
              rw [Nat.zero_add]
              obtain ⟨-, q1, q2, q3⟩ := hQ i hlt
              refine ⟨q1, q2, fun j hj => ⟨?_, (World.cells?_some q3).2.1⟩⟩
              have := (World.cells?_some q3).2.2 j hj
              rw [← this, Addr.add_lit, Addr.add_lit]
        · intro y hy
          simp only [List.map_map, List.mem_map] at hy
          obtain ⟨i, -, rfl⟩ := hy
          exact hs _
    · subst hz
      refine ⟨[], by intro x hx; simp at hx, by simp only [cL, VR]; exact ⟨⟨some a, cap, rfl, by simp, hm, by simp, by simp, by simp⟩, trivial⟩, by simp [Value.oneCell']⟩
def IV (P : Program) (t : TypeId) : Option Nat := match P.underlying t with | some (.struct fs) => some fs.size | _ => none
def TE (enc : TypeId × Value → H) (P : Program) (W : World) (t : TypeId) (cs : List Value) : Prop :=
 ∀ {α : Type} {ft : TypeId} {c : α → List AV} {g : α → Prop} (i o n : Nat), rF P t i = some (o, ft) → P.cellsOf ft = n → Rd enc P W ft c g → ∃ a, g a ∧ cL (E0 W) W (c a) ((cs.drop o).take n) ∧ ∀ v ∈ (cs.drop o).take n, v.oneCell' = true
theorem Rd.flds {t : TypeId} {k z : Nat} (hn : IV P t = some k) (hz : P.cellsOf t = z) {fuel : Nat} {cs : List Value} {x : DataW H × List MemPlace} (h : DataW.trod enc P W 0 (fun _ => true) true fuel t cs = some x) :
    cs.length = z ∧ TE enc P W t cs := by
  unfold IV at hn
  split at hn
  · rename_i fs ht
    obtain ⟨xs, m, -, -, hl, hx, hf⟩ := DataW.trod_struct ht h
    refine ⟨hl.trans hz, ?_⟩
    intro α ft c g i o n h1 h2 r
    unfold rF at h1
    rw [ht] at h1
    simp only [Option.map_eq_some_iff, Prod.mk.injEq] at h1
    obtain ⟨f, hi, h3, h4⟩ := h1
    exact r.fld hf hx i hi h4 h3 h2
  · cases hn
theorem Rd.agg {α : Type} {t : TypeId} {c : α → List AV} {g : α → Prop} {fs : Array Field} (r : Rd enc P W t c g) (ht : P.underlying t = some (.struct fs)) {v : Value} {d : DataW H} {ps : List MemPlace} {base : Nat} (hval : Value.okWide P W .any base t v)
    (h : DataW.Trod enc P W 0 (fun _ => true) true t v d ps) : ∃ a, g a ∧ VR (E0 W) W (.agg (c a)) v := by
  unfold Value.okWide at hval
  rw [ht] at hval
  obtain ⟨cs, rfl, -, -⟩ := hval
  obtain ⟨fuel, hf⟩ := h
  obtain ⟨a, ga, v1, -⟩ := r hf
  exact ⟨a, ga, by simp only [VR]; exact ⟨cs, rfl, v1⟩⟩
theorem Rd.one {α : Type} {t e : TypeId} {c : α → AV} {g : α → Prop} (r : Rd enc P W t (fun a => [c a]) g) (ht : P.underlying t = some (.slice e)) {v : Value} {d : DataW H} {ps : List MemPlace} {base : Nat} (hval : Value.okWide P W .any base t v)
    (h : DataW.Trod enc P W 0 (fun _ => true) true t v d ps) : ∃ a, g a ∧ VR (E0 W) W (c a) v := by
  obtain ⟨a0, FQ, cap0, rfl⟩ := okWide_slice ht hval
  obtain ⟨fuel, hf⟩ := h
  obtain ⟨a, ga, v1, -⟩ := r hf
  refine ⟨a, ga, ?_⟩
  simp only [Value.cells, cL] at v1
  exact v1.1
theorem Rd.int {E : fT} {w : World} {t : TypeId} {v : Value} {d : DataW H} {ps : List MemPlace} {base : Nat} (ht : P.underlying t = some (.int .i64)) (hval : Value.okWide P W .any base t v)
    (h : DataW.Trod enc P W 0 (fun _ => true) true t v d ps) : ∃ n : Int, gI n ∧ VR E w (.sc (.int .i64 n)) v := by
  obtain ⟨n, h1, hw⟩ := D9 (E := E) (w := w) ht hval h
  refine ⟨n, ?_, h1⟩
  simp only [Lit.wf, Bool.and_eq_true, decide_eq_true_eq] at hw
  rw [show IntKind.i64.min = -9223372036854775808 from by decide, show IntKind.i64.max = 9223372036854775807 from by decide] at hw
  unfold gI; omega
end
end Go.Vm
