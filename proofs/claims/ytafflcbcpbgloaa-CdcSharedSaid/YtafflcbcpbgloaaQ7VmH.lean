/-
  The operations that make or write memory, over abstract frames and heaps.
-/
import Derived.Test.YtafflcbcpbgloaaQ7VmG
import Derived.Laws.MakeOwn
import Derived.Laws.OwnMore
namespace Go.Vm

section
variable {E : Env} {h : Heap} {w : World}

theorem VRM_of_cells {tag : Option Key} {b : Nat} : ∀ {o : Nat} {cs : List AV} {vs : List Value}, VRL E w cs vs → (∀ v ∈ vs, v.oneCell' = true) →
    (∀ j v, vs[j]? = some v → w.cell? ⟨b, o + j, none⟩ = some v ∧ E.prot tag b (o + j)) → VRM E w tag b o cs
  | o, [], [], _, _, _ => by simp [VRM]
  | o, x :: cs, v :: vs, hv, h1, hc => by
    simp only [VRL] at hv
    simp only [VRM]
    obtain ⟨c1, c2⟩ := hc 0 v (by simp)
    refine ⟨by simpa using c2, ⟨v, by simpa using c1, h1 v (by simp), hv.1⟩, ?_⟩
    refine VRM_of_cells hv.2 (fun u hu => h1 u (by simp [hu])) ?_
    intro j u hj
    have := hc (j + 1) u (by simpa using hj)
    rwa [show o + 1 + j = o + (j + 1) from by omega]
  | o, [], _ :: _, hv, _, _ => by simp only [VRL] at hv
  | o, _ :: _, [], hv, _, _ => by simp only [VRL] at hv

/-- A slice's cells, as the built-in append reads them. -/
theorem sl_cells {tag : Option Key} {sz : Nat} {xs : List (List AV)} {v : Value} (hv : VR E w (.sl tag sz xs) v) (hne : xs ≠ []) :
    ∃ g o cap cv, v = .slice (some ⟨g, o, none⟩) xs.length cap ∧ VRL E w xs.flatten cv ∧ (∀ v ∈ cv, v.oneCell' = true) ∧ cv.length = xs.length * sz ∧
      (∀ j u, cv[j]? = some u → w.cell? ⟨g, o + j, none⟩ = some u ∧ E.prot tag g (o + j)) := by
  simp only [VR] at hv
  obtain ⟨a, cap, rfl, _, _, h3, h4, _⟩ := hv
  obtain ⟨g, o, rfl, h5⟩ := h3.resolve_left hne
  obtain ⟨cv, e1, e2, e3⟩ := VRM_cells (VRG_flat.1 h5)
  exact ⟨g, o, cap, cv, rfl, e1, e2, by rw [← VRL_length e1, flatten_length h4], e3⟩

/-- The cells of a value that is stored, appended or boxed. -/
def cellsOf : AV → Option (List AV)
  | .agg xs => some xs
  | .tup _ => none
  | .any => none
  | x => some [x]

def ocell : AV → Bool
  | .any | .agg _ | .tup _ => false
  | .sc v => v.oneCell'
  | _ => true

theorem ocell_spec {x : AV} {v : Value} (hx : ocell x = true) (hv : VR E w x v) : v.oneCell' = true := by
  cases x with
  | any => simp [ocell] at hx
  | agg xs => simp [ocell] at hx
  | tup xs => simp [ocell] at hx
  | sc u => simp only [VR] at hv; subst hv; exact hx
  | sl tag sz xs => simp only [VR] at hv; obtain ⟨a, cap, rfl, _⟩ := hv; rfl
  | rp tag xs => simp only [VR] at hv; obtain ⟨a, cap, rfl, _⟩ := hv; rfl
  | ptr k off => simp only [VR] at hv; obtain ⟨g, _, rfl⟩ := hv; rfl
  | view k off n => simp only [VR] at hv; obtain ⟨g, cap, _, rfl, _⟩ := hv; rfl
  | fn f caps => simp only [VR] at hv; obtain ⟨cs, rfl, _⟩ := hv; rfl
  | ifc t y => simp only [VR] at hv; obtain ⟨y, rfl, _⟩ := hv; rfl
  | e0 => simp only [VR] at hv; obtain ⟨a, rfl⟩ := hv; rfl
  | mpv k => simp only [VR] at hv; obtain ⟨g, _, rfl⟩ := hv; rfl
  | vw k n cap => simp only [VR] at hv; obtain ⟨g, _, rfl, _⟩ := hv; rfl

theorem VRL_ocell : ∀ {xs : List AV} {vs : List Value}, xs.all ocell = true → VRL E w xs vs → ∀ v ∈ vs, v.oneCell' = true
  | [], [], _, _ => by simp
  | x :: xs, v :: vs, hx, hv => by
    simp only [List.all_cons, Bool.and_eq_true] at hx
    simp only [VRL] at hv
    intro u hu
    rcases List.mem_cons.1 hu with rfl | hu
    · exact ocell_spec hx.1 hv.1
    · exact VRL_ocell hx.2 hv.2 u hu
  | [], _ :: _, _, hv => by simp only [VRL] at hv
  | _ :: _, [], _, hv => by simp only [VRL] at hv

theorem cellsOf_spec {x : AV} {cs : List AV} (hx : cellsOf x = some cs) (ho : cs.all ocell = true) {v : Value} (hv : VR E w x v) : VRL E w cs v.cells.toList ∧ ∀ u ∈ v.cells.toList, u.oneCell' = true := by
  have one : ∀ {y : AV}, ocell y = true → VR E w y v → VRL E w [y] v.cells.toList ∧ ∀ u ∈ v.cells.toList, u.oneCell' = true := by
    intro y hy hv
    have h1 := ocell_spec hy hv
    have : v.cells = #[v] := by cases v <;> first | rfl | (simp [Value.oneCell'] at h1)
    rw [this]
    refine ⟨by simp only [VRL]; exact ⟨hv, trivial⟩, ?_⟩
    intro u hu
    simp at hu; subst hu; exact h1
  cases x with
  | agg xs =>
    simp only [cellsOf, Option.some.injEq] at hx; subst hx
    simp only [VR] at hv
    obtain ⟨c, rfl, hc⟩ := hv
    exact ⟨hc, VRL_ocell ho hc⟩
  | any => simp [cellsOf] at hx
  | tup xs => simp [cellsOf] at hx
  | _ => simp only [cellsOf, Option.some.injEq] at hx; subst hx; exact one (by simpa using ho) hv
end

section ops
variable {P : Program} {o : Oper} {K : AV → Heap → Prop} {fr : Fr} {h : Heap}

/-- A call of a function of the program. -/
def ACalls (P : Program) (f : FuncId) (args : List AV) (h : Heap) (Q : AV → Heap → Prop) : Prop :=
  ∀ E w (vs : Array Value), Rel E h w → VRL E w args vs.toList → Calls P f vs w (fun e w' => ∃ v E' x h', e = .returned v ∧ Keep E w E' w' ∧ Rel E' h' w' ∧ VR E' w' x v ∧ Q x h')

theorem ACalls.mono {f : FuncId} {args : List AV} {Q Q' : AV → Heap → Prop} (hc : ACalls P f args h Q) (hq : ∀ x h', Q x h' → Q' x h') : ACalls P f args h Q' :=
  fun E w vs r hv => (hc E w vs r hv).mono fun _ _ ⟨v, E', x, h', e, k, r', vx, q⟩ => ⟨v, E', x, h', e, k, r', vx, hq _ _ q⟩

/-- The callee has a body. -/
def bodied (P : Program) (f : FuncId) : Bool := match P.funcs[f]? with | some fn => fn.body.isSome && fn.name != "runtime.NumGoroutine" | none => false

theorem run_callFunc {f : FuncId} (hb : bodied P f = true) (args : Array Value) (w : World) : (callFunc f args).run P w = .ok (.enter f args) w := by
  unfold bodied at hb
  split at hb
  · rename_i fn hf
    simp only [Bool.and_eq_true, bne_iff_ne, ne_eq] at hb
    have hn : fn.body.isNone = false := by cases hfb : fn.body <;> simp_all
    simp [callFunc, program, Sem.run, hf, hb.2]
    intro hnone
    simp [hnone] at hn
  · cases hb

theorem AOp_call {f : FuncId} {g : Operand} {args : Array Operand} {ts : Array TypeId} {caps : List AV} (hop : o.op = .call { callee := .value g, args := args, argTypes := ts }) (hg : ev fr g = .fn (.func f) caps) (hb : bodied P f = true)
    (hc : ACalls P f (args.toList.map (ev fr) ++ caps) h K) : AOp P o K fr h := by
  intro E w a r hv Nx Qx hn
  have hops : ∀ y ∈ ({ callee := .value g, args := args, argTypes := ts } : Call).operands, VR E w (ev fr y) (a.eval y) := by
    intro y hy; exact hv y (by rw [hop]; exact hy)
  have vg := hops g (by simp [Call.operands])
  rw [hg] at vg
  simp only [VR] at vg
  obtain ⟨cs, eg, vc⟩ := vg
  have va : VRL E w (args.toList.map (ev fr)) (args.toList.map a.eval) := VRL_map_ev args.toList fun y hy => hops y (by simp [Call.operands]; right; simpa using hy)
  unfold Oper.wp
  rw [show (execOp a.eval o).run P w = .ok (.enter f (args.map a.eval ++ cs)) w from by
    simp [execOp, hop, resolve, Deferred.ofValue, eg, invoke, run_callFunc hb]]
  show Calls P f (args.map a.eval ++ cs) w _
  refine (hc E w _ r (by simpa using VRL_append va vc)).mono ?_
  rintro e w' ⟨v, E', x, h', rfl, k, r', vx, q⟩
  exact hn x v w' E' h' k r' vx q

end ops

section app
variable {P : Program} {E : Env} {h : Heap} {w : World}

/-- What append needs of a slice type. -/
structure ElT (P : Program) (t e : TypeId) (sz by' : Nat) : Prop where
  ut : P.underlying t = some (.slice e)
  inf : ∃ i z, P.info? e = some i ∧ i.zero = some z ∧ i.size = sz ∧ i.bytes = by' ∧ z.cells.size = sz ∧ 0 < sz

theorem run_append_none {t ty e : TypeId} {sz b : Nat} (ht : ElT P t e sz b) {v y : Value} {n : Nat} (hv : (v = .slice none 0 0 ∧ n = 0) ∨ ∃ a cap, v = .slice (some a) n cap ∧ n ≤ cap) {a c} (hy : y = .slice a 0 c) :
    (Builtin.append_ #[t, t] ty #[v, y]).run P w = .ok v w := by
  obtain ⟨i, z, hi, hz, _⟩ := ht.inf
  subst hy
  rcases hv with ⟨rfl, rfl⟩ | ⟨a', cap, rfl, hc⟩
  · cases a <;> simp [Builtin.append_, run_underlying ht.ut, sizeOf, typeInfo, hi, Builtin.lenOf, Builtin.firstCells, loadCells, loadCellsFrom]
  · cases a <;> simp [Builtin.append_, run_underlying ht.ut, sizeOf, typeInfo, hi, Builtin.lenOf, Builtin.firstCells, loadCells, loadCellsFrom, hc, storeCells]

/-- A slice made of cells that are there. -/
theorem VR_sl_mk {k : Key} {sz : Nat} {xs : List (List AV)} {b cap : Nat} (hu : E.used k) (ht : E.tk k = some ⟨sz, xs.length * sz, cap, b⟩) (hs : ∀ x ∈ xs, x.length = sz) (hc : xs.length ≤ cap) (hm : cap ≤ maxLen)
    (hv : VRM E w (some k) b 0 xs.flatten) : VR E w (.sl (some k) sz xs) (.slice (some ⟨b, 0, none⟩) xs.length cap) := by
  simp only [VR]
  refine ⟨_, _, rfl, hc, hm, .inr ⟨b, 0, rfl, VRG_flat.2 hv⟩, hs, ?_⟩
  intro k' hk'
  cases hk'
  refine ⟨hu, fun t e => ?_⟩
  rw [ht] at e; cases e
  exact ⟨Nat.le_refl _, fun _ => ⟨rfl, rfl, rfl⟩⟩

/-- What append takes its elements from. -/
def Src (E : Env) (w : World) (sz : Nat) (ys : List (List AV)) (y : Value) : Prop :=
  (∀ x ∈ ys, x.length = sz) ∧ ((ys = [] ∧ ∃ a c, y = .slice a 0 c) ∨
  ∃ g o cap cv, y = .slice (some ⟨g, o, none⟩) ys.length cap ∧ VRL E w ys.flatten cv ∧ (∀ v ∈ cv, v.oneCell' = true) ∧ cv.length = ys.length * sz ∧
      (∀ j u, cv[j]? = some u → w.cell? ⟨g, o + j, none⟩ = some u))

theorem Src.of_sl {tag : Option Key} {sz : Nat} {ys : List (List AV)} {y : Value} (hy : VR E w (.sl tag sz ys) y) : Src E w sz ys y := by
  refine ⟨by simp only [VR] at hy; obtain ⟨a, cap, _, _, _, _, h4, _⟩ := hy; exact h4, ?_⟩
  by_cases hne : ys = []
  · subst hne
    simp only [VR] at hy
    obtain ⟨a, cap, rfl, _⟩ := hy
    exact .inl ⟨rfl, a, cap, rfl⟩
  · obtain ⟨g, o, cap, cv, e, c1, c2, c3, c4⟩ := sl_cells hy hne
    exact .inr ⟨g, o, cap, cv, e, c1, c2, c3, fun j u hj => (c4 j u hj).1⟩

theorem Src.of_e0 {sz : Nat} {y : Value} (hy : VR E w .e0 y) : Src E w sz [] y := by
  simp only [VR] at hy
  obtain ⟨a, e⟩ := hy
  exact ⟨by simp, .inl ⟨rfl, a, 0, e⟩⟩
theorem Src.of_nil {sz n : Nat} {y : Value} (hy : VR E w (.sc (.slice none 0 n)) y) : Src E w sz [] y := by
  simp only [VR] at hy
  exact ⟨by simp, .inl ⟨rfl, none, n, hy⟩⟩

/-- Cells in groups. -/
def grp (sz : Nat) : Nat → List AV → List (List AV)
  | 0, _ => []
  | n + 1, cs => cs.take sz :: grp sz n (cs.drop sz)
theorem grp_flat {sz : Nat} : ∀ {n : Nat} {cs : List AV}, n * sz ≤ cs.length → (grp sz n cs).flatten = cs.take (n * sz)
  | 0, cs, _ => by simp [grp]
  | n + 1, cs, h => by
    rw [Nat.add_mul, Nat.one_mul] at h
    rw [grp, List.flatten_cons, grp_flat (by rw [List.length_drop]; omega), Nat.add_mul, Nat.one_mul, Nat.add_comm (n * sz) sz, List.take_add]
theorem grp_length {sz : Nat} : ∀ {n : Nat} {cs : List AV}, (grp sz n cs).length = n
  | 0, _ => rfl
  | n + 1, cs => by simp [grp, grp_length]
theorem grp_each {sz : Nat} : ∀ {n : Nat} {cs : List AV}, n * sz ≤ cs.length → ∀ x ∈ grp sz n cs, x.length = sz
  | 0, _, _ => by simp [grp]
  | n + 1, cs, h => by
    rw [Nat.add_mul, Nat.one_mul] at h
    intro x hx
    rcases List.mem_cons.1 hx with rfl | hx
    · rw [List.length_take]; omega
    · exact grp_each (by rw [List.length_drop]; omega) x hx

theorem Src.of_view (r : Rel E h w) {k : Key} {off n sz : Nat} {y : Value} (hy : VR E w (.view k off n) y) {ty : TypeId} {cs : List AV} (hk : h k = some (.obj ty cs)) (hl : off + n * sz ≤ cs.length) : Src E w sz (grp sz n (cs.drop off)) y := by
  simp only [VR] at hy
  obtain ⟨g, cap, hg, rfl, _⟩ := hy
  obtain ⟨g', cur, e1, e2, e3, e4⟩ := r.obj k ty cs hk
  rw [hg] at e1; cases e1
  have hl' : n * sz ≤ (cs.drop off).length := by rw [List.length_drop]; omega
  refine ⟨grp_each hl', .inr ⟨g, off, cap, (cur.toList.drop off).take (n * sz), by rw [grp_length], by rw [grp_flat hl']; exact VRL_take _ (VRL_drop _ e3), ?_, ?_, ?_⟩⟩
  · intro v hv
    exact e4 v (List.mem_of_mem_drop (List.mem_of_mem_take hv))
  · rw [grp_length, List.length_take, List.length_drop]
    have := VRL_length e3
    omega
  · intro j u hj
    rw [List.getElem?_take] at hj
    split at hj
    · rw [List.getElem?_drop] at hj
      simp only [World.cell?, e2]
      simpa using hj
    · cases hj

/-- append to nil. -/
theorem append_nil {t ty e : TypeId} {sz b : Nat} (ht : ElT P t e sz b) (r : Rel E h w) {k : Key} (hk : ¬ E.used k) {ys : List (List AV)} {y : Value} (hy : Src E w sz ys y) (hne : ys ≠ [])
    (hb : ys.length * b ≤ 140737488355328) (hlen : ys.length ≤ 140737488355328) (a0 : Option Addr) :
    ∃ v' w' E', (Builtin.append_ #[t, t] ty #[.slice a0 0 0, y]).run P w = .ok v' w' ∧ Keep E w E' w' ∧ Rel E' (upd h k (some (.tok e sz (ys.length * sz)))) w' ∧ VR E' w' (.sl (some k) sz ys) v' := by
  obtain ⟨i, z, hi, hz, rfl, rfl, hzs, hsp⟩ := ht.inf
  have hs : ∀ x ∈ ys, x.length = i.size := hy.1
  obtain ⟨g, o, cap, cv, rfl, c1, c2, c3, c4⟩ := hy.2.resolve_left fun e => hne e.1
  have hpos : 0 < ys.length := List.length_pos_iff.2 hne
  have hrun : (Builtin.append_ #[t, t] ty #[.slice a0 0 0, .slice (some ⟨g, o, none⟩) ys.length cap]).run P w =
      .ok (.slice (some ⟨w.heap.size, 0, none⟩) ys.length (grownCap w ys.length 0 e)) (w.drew.alloc (.cells (cv.toArray ++ Builtin.zeroCells z.cells (grownCap w ys.length 0 e - ys.length)) e)) := by
    cases a0 with
    | none => exact run_append_nil (P := P) w t ty e i z ht.ut hi hz ⟨g, o, none⟩ ys.length cap cv c3 (fun j u hj => by rw [Addr.add_lit]; exact c4 j u hj) hpos (by omega) (by omega)
    | some b0 =>
      have := run_append_grow (P := P) w t ty e i z ht.ut hi hz b0 0 0 [] (by simp) (by simp) ⟨g, o, none⟩ ys.length cap cv c3 (fun j u hj => by rw [Addr.add_lit]; exact c4 j u hj) (by omega) (by omega) (growslice_fits (by omega) (by rw [Nat.zero_add]; exact hb))
      simpa using this
  have hge := grownCap_ge w ys.length 0 e
  have hcm : grownCap w ys.length 0 e ≤ maxLen := grownCap_le_maxLen w ys.length 0 e (by simp only [maxLen]; omega)
  have hsize : (cv.toArray ++ Builtin.zeroCells z.cells (grownCap w ys.length 0 e - ys.length)).size = grownCap w ys.length 0 e * i.size := by
    simp only [Array.size_append, List.size_toArray, size_zeroCells, hzs, c3, ← Nat.add_mul]
    congr 1; omega
  obtain ⟨rd, kd⟩ := r.drewn (w.drawn + 1)
  obtain ⟨E', e0, e1, e2, e3⟩ := Rel.new_tok (w := w.drew) rd hk e i.size (ys.length * i.size) (grownCap w ys.length 0 e) hsize (by simp [c3]) hcm
  refine ⟨_, _, E', hrun, kd.trans e2, e3, ?_⟩
  refine VR_sl_mk e0 (by simpa using e1) hs hge hcm ?_
  have hnew := heap_alloc_new w.drew (.cells (cv.toArray ++ Builtin.zeroCells z.cells (grownCap w ys.length 0 e - ys.length)) e)
  refine VRM_of_cells (VRL_keep (kd.trans e2) _ _ c1) c2 ?_
  intro j u hj
  have hjl : j < cv.length := (List.getElem?_eq_some_iff.1 hj).1
  refine ⟨?_, .inr ⟨k, _, rfl, e1, rfl, by show 0 + j < ys.length * i.size; omega⟩⟩
  have hnew' : (w.drew.alloc (.cells (cv.toArray ++ Builtin.zeroCells z.cells (grownCap w ys.length 0 e - ys.length)) e)).heap[w.heap.size]? = _ := hnew
  simp only [World.cell?, hnew', Nat.zero_add]
  simp [Array.getElem?_append, hjl]
  exact (List.getElem?_eq_some_iff.1 hj).2

/-- append to a growable array, at its end. -/
theorem append_tok {t ty e : TypeId} {sz b : Nat} (ht : ElT P t e sz b) (r : Rel E h w) {k : Key} {xs ys : List (List AV)} (hk : h k = some (.tok e sz (xs.length * sz))) {v : Value} (hv : VR E w (.sl (some k) sz xs) v)
    {y : Value} (hy : Src E w sz ys y) (hne : ys ≠ []) (hb : (xs.length + ys.length) * b ≤ 140737488355328) (hlen : xs.length + ys.length ≤ 140737488355328) :
    ∃ v' w' E', (Builtin.append_ #[t, t] ty #[v, y]).run P w = .ok v' w' ∧ Keep E w E' w' ∧ Rel E' (upd h k (some (.tok e sz ((xs ++ ys).length * sz)))) w' ∧ VR E' w' (.sl (some k) sz (xs ++ ys)) v' := by
  obtain ⟨i, z, hi, hz, rfl, rfl, hzs, hsp⟩ := ht.inf
  have hsy : ∀ x ∈ ys, x.length = i.size := hy.1
  obtain ⟨g, o, cap', cy, rfl, c1, c2, c3, c4⟩ := hy.2.resolve_left fun e => hne e.1
  have hpos : 0 < ys.length := List.length_pos_iff.2 hne
  obtain ⟨tk, cur, t1, t2, t3, t4, t5, t6, t7⟩ := r.tok _ _ _ _ hk
  have hv0 := hv
  simp only [VR] at hv
  obtain ⟨a, cap, rfl, v1, v2, v3, hsx, v5⟩ := hv
  obtain ⟨hu, v6⟩ := v5 k rfl
  obtain ⟨_, v7⟩ := v6 tk t1
  obtain ⟨rfl, rfl, _⟩ := v7 t3.symm
  -- the cells that are there
  have hxc : ∃ cx : List Value, VRL E w xs.flatten cx ∧ (∀ u ∈ cx, u.oneCell' = true) ∧ cx.length = xs.length * i.size ∧ cur.toList.take (xs.length * i.size) = cx := by
    by_cases hx0 : xs = []
    · subst hx0; exact ⟨[], by simp [VRL], by simp, by simp, by simp⟩
    · obtain ⟨g', o', cap'', cx, ee, d1, d2, d3, d4⟩ := sl_cells hv0 hx0
      cases ee
      refine ⟨cx, d1, d2, d3, ?_⟩
      apply List.ext_getElem?
      intro j
      rw [List.getElem?_take]
      split
      · rename_i hj
        have hjx : j < cx.length := by omega
        have h1 := (d4 j cx[j] (by simp [hjx])).1
        simp only [World.cell?, t4, Nat.zero_add] at h1
        rw [List.getElem?_eq_getElem hjx]
        simpa using h1
      · rename_i hj
        rw [List.getElem?_eq_none (by omega)]
  obtain ⟨cx, d1, d2, d3, d4⟩ := hxc
  have hall : ∀ x ∈ xs ++ ys, x.length = i.size := by
    intro x hx
    rcases List.mem_append.1 hx with hx | hx
    · exact hsx x hx
    · exact hsy x hx
  have hl2 : (xs ++ ys).length * i.size = xs.length * i.size + ys.length * i.size := by rw [List.length_append, Nat.add_mul]
  have hvl : VRL E w (xs ++ ys).flatten (cx ++ cy) := by rw [List.flatten_append]; exact VRL_append d1 c1
  have h1l : ∀ u ∈ cx ++ cy, u.oneCell' = true := by
    intro u hu
    rcases List.mem_append.1 hu with hu | hu
    · exact d2 u hu
    · exact c2 u hu
  have hmlt : tk.m < (xs ++ ys).length * i.size := by
    rw [hl2, t3]
    have : 0 < ys.length * i.size := Nat.mul_pos hpos hsp
    omega
  by_cases hroom : xs.length + ys.length ≤ tk.cap
  · have hfit : xs.length * i.size + cy.length ≤ cur.size := by rw [c3, t5, ← Nat.add_mul]; exact Nat.mul_le_mul_right _ hroom
    have hrun := run_append_room (P := P) w t ty e i ht.ut hi tk.b xs.length tk.cap cur t4 ⟨g, o, none⟩ ys.length cap' cy c3 (fun j u hj => by rw [Addr.add_lit]; exact c4 j u hj) c2 hroom hfit
    have hnsz : (cur.toList.take (xs.length * i.size) ++ cy ++ cur.toList.drop (xs.length * i.size + cy.length)).toArray.size = tk.cap * i.size := by
      simp only [List.size_toArray, List.length_append, List.length_take, List.length_drop, Array.length_toList]
      omega
    have hcell : ∀ j u, (cx ++ cy)[j]? = some u → (w.setRow tk.b (cur.toList.take (xs.length * i.size) ++ cy ++ cur.toList.drop (xs.length * i.size + cy.length)).toArray).cell? ⟨tk.b, j, none⟩ = some u := by
      intro j u hj
      rw [cell_setRow_same w tk.b j cur _ e (0, 0) t4, d4]
      have hjl : j < (cx ++ cy).length := (List.getElem?_eq_some_iff.1 hj).1
      simp only [List.getElem?_toArray]
      rw [List.getElem?_append_left hjl]
      exact hj
    obtain ⟨E', e0, e1, e2, e3⟩ := r.grow (m := (xs ++ ys).length * i.size) (cap := tk.cap) (b := tk.b) (ty := e) (w' := w.setRow tk.b (cur.toList.take (xs.length * i.size) ++ cy ++ cur.toList.drop (xs.length * i.size + cy.length)).toArray) t1 (by rw [t2, t3]; exact hk)
      (setRow_heap w tk.b cur _ e _ t4) (fun g' _ hg' => setRow_other w tk.b g' _ hg') (.inl ⟨rfl, rfl⟩) (fun j hj => by
        rw [cell_setRow_same w tk.b j cur _ e (0, 0) t4]
        have hjl : j < cx.length := by omega
        have hjc : j < cur.size := by omega
        have e1 : cur[j]? = cx[j]? := by
          rw [← d4, List.getElem?_take, if_pos (by omega)]; simp
        simp only [List.getElem?_toArray, d4]
        rw [List.append_assoc, List.getElem?_append_left hjl, ← e1]
        simp [World.cell?, t4]) hmlt (by rw [t2]; exact hnsz) (by rw [hnsz, ← t5]; rw [hl2]; rw [c3] at hfit; omega) t7 (by simp) rfl rfl rfl
    rw [t2] at e1 e3
    refine ⟨_, _, E', hrun, e2, e3, ?_⟩
    have := VR_sl_mk (w := w.setRow tk.b (cur.toList.take (xs.length * i.size) ++ cy ++ cur.toList.drop (xs.length * i.size + cy.length)).toArray) e0 e1 hall (by rw [List.length_append]; exact hroom) t7
      (VRM_of_cells (VRL_keep e2 _ _ hvl) h1l (fun j u hj => ⟨by rw [Nat.zero_add]; exact hcell j u hj, .inr ⟨k, _, rfl, e1, rfl, by
        have hjl : j < (cx ++ cy).length := (List.getElem?_eq_some_iff.1 hj).1
        rw [List.length_append, d3, c3] at hjl
        show 0 + j < (xs ++ ys).length * i.size
        omega⟩⟩))
    rw [List.length_append] at this
    exact this
  · have hold : ∀ j u, cx[j]? = some u → w.cell? ((⟨tk.b, 0, none⟩ : Addr).add j) = some u := by
      intro j u hj
      rw [Addr.add_lit, Nat.zero_add]
      have hjl : j < cx.length := (List.getElem?_eq_some_iff.1 hj).1
      simp only [World.cell?, t4]
      rw [← d4, List.getElem?_take] at hj
      split at hj
      · simpa using hj
      · cases hj
    have hrun := run_append_grow (P := P) w t ty e i z ht.ut hi hz ⟨tk.b, 0, none⟩ xs.length tk.cap cx d3 hold ⟨g, o, none⟩ ys.length cap' cy c3 (fun j u hj => by rw [Addr.add_lit]; exact c4 j u hj) (by omega) (by omega) (growslice_fits (by omega) hb)
    have hge := grownCap_ge w (xs.length + ys.length) tk.cap e
    have hcm : grownCap w (xs.length + ys.length) tk.cap e ≤ maxLen := grownCap_le_maxLen w (xs.length + ys.length) tk.cap e (by simp only [maxLen]; omega)
    generalize hgc : grownCap w (xs.length + ys.length) tk.cap e = gc at hge hcm hrun
    generalize hcells : cx.toArray ++ cy.toArray ++ Builtin.zeroCells z.cells (gc - (xs.length + ys.length)) = cells at hrun
    have hsize : cells.size = gc * i.size := by
      rw [← hcells]
      simp only [Array.size_append, List.size_toArray, size_zeroCells, hzs, c3, d3, ← Nat.add_mul]
      congr 1; omega
    have hnew := heap_alloc_new w.drew (.cells cells e)
    have hcell : ∀ j u, (cx ++ cy)[j]? = some u → (w.drew.alloc (.cells cells e)).cell? ⟨w.heap.size, j, none⟩ = some u := by
      intro j u hj
      have hjl : j < (cx ++ cy).length := (List.getElem?_eq_some_iff.1 hj).1
      have hnew' : (w.drew.alloc (.cells cells e)).heap[w.heap.size]? = _ := hnew
      simp only [World.cell?, hnew']
      rw [← hcells]
      simp only [Option.isSome_none, Bool.false_eq_true, if_false]
      rw [Array.getElem?_append_left (by simpa using hjl)]
      simpa using hj
    have hblt : tk.b < w.heap.size := (Array.getElem?_eq_some_iff.1 t4).1
    obtain ⟨rd, kd⟩ := r.drewn (w.drawn + 1)
    have rd' : Rel E h w.drew := rd
    obtain ⟨E', e0, e1, e2, e3⟩ := rd'.grow (m := (xs ++ ys).length * i.size) (cap := gc) (b := w.heap.size) (ty := e) (w' := w.drew.alloc (.cells cells e)) (cur := cells) t1 (by rw [t2, t3]; exact hk)
      hnew (fun g' hg' _ => heap_alloc_old w.drew _ g' hg') (.inr ⟨Nat.le_refl _, heap_alloc_old w.drew _ _ hblt⟩) (fun j _ => cell_of_block (w := w.drew) (heap_alloc_old w.drew _ _ hblt) j) hmlt (by rw [t2]; exact hsize)
      (by rw [hsize]; rw [List.length_append]; exact Nat.mul_le_mul_right _ hge) hcm (by simp) rfl rfl rfl
    rw [t2] at e1 e3
    refine ⟨_, _, E', hrun, kd.trans e2, e3, ?_⟩
    have := VR_sl_mk (w := w.drew.alloc (.cells cells e)) e0 e1 hall (by rw [List.length_append]; exact hge) hcm
      (VRM_of_cells (VRL_keep (kd.trans e2) _ _ hvl) h1l (fun j u hj => ⟨by rw [Nat.zero_add]; exact hcell j u hj, .inr ⟨k, _, rfl, e1, rfl, by
        have hjl : j < (cx ++ cy).length := (List.getElem?_eq_some_iff.1 hj).1
        rw [List.length_append, d3, c3] at hjl
        show 0 + j < (xs ++ ys).length * i.size
        omega⟩⟩))
    rw [List.length_append] at this
    exact this

end app
end Go.Vm
