/-
  More operations: a slice held against nil, literals without elements, bytes to strings, make.
-/
import Derived.Test.YtafflcbcpbgloaaQ7VmK
import Derived.Laws.Cover3
import Derived.Laws.BytesString
namespace Go.Vm

section ops
variable {P : Program} {o : Oper} {K : AV → Heap → Prop} {fr : Fr} {h : Heap}

/-- A slice held against nil. -/
theorem AOp_eqnil {t u : TypeId} {x : Operand} (hop : o.op = .binOp .eql t x (.const (.slice none 0 0)) u) (ht : (elS P t).isSome = true) {y : AV} (hx : ev fr x = y)
    (hy : (∃ tag sz xs, y = .sl tag sz xs ∧ ∀ b : Bool, (xs ≠ [] → b = false) → K (.sc (.bool b)) h) ∨ (y = .sc (.slice none 0 0) ∧ K (.sc (.bool true)) h) ∨ (y = .e0 ∧ ∀ b : Bool, K (.sc (.bool b)) h)) : AOp P o K fr h := by
  intro E w a r hv Nx Qx hn
  have vx := hv x (by rw [hop]; simp [Op.operands])
  rw [hx] at vx
  obtain ⟨s, hs⟩ := Option.isSome_iff_exists.1 ht
  obtain ⟨e, hu, _⟩ := elS_spec hs
  have run : ∀ q n c, a.eval x = .slice q n c → (execOp a.eval o).run P w = .ok (.value (.bool q.isNone)) w := by
    intro q n c he
    have h2 : a.eval (.const (.slice none 0 0)) = .slice none 0 0 := rfl
    simp only [execOp, hop, he, h2]
    have h3 : (binOp .eql t (.slice q n c) (.slice none 0 0)).run P w = .ok (.bool q.isNone) w := by
      simp only [binOp]
      simp [run_equal_slice_nil w t e q n c hu]
    simp [eqGuard, h3]
  unfold Oper.wp
  rcases hy with ⟨tag, sz, xs, rfl, hk⟩ | ⟨rfl, hk⟩ | ⟨rfl, hk⟩
  · have vx' := vx
    simp only [VR] at vx
    obtain ⟨q, cap, e1, _, _, h3, _⟩ := vx
    rw [run q _ cap e1]
    refine hn _ _ w E h (Keep.refl E w) r (by simp only [VR]) (hk q.isNone ?_)
    intro hne
    obtain ⟨g, oo, rfl, _⟩ := h3.resolve_left hne
    rfl
  · simp only [VR] at vx
    rw [run none 0 0 vx]
    exact hn _ _ w E h (Keep.refl E w) r (by simp only [VR]; rfl) hk
  · simp only [VR] at vx
    obtain ⟨q, e1⟩ := vx
    rw [run q 0 0 e1]
    exact hn _ _ w E h (Keep.refl E w) r (by simp only [VR]) (hk q.isNone)

/-- A slice literal without elements. -/
theorem AOp_lit0 {t e : TypeId} {sz b : Nat} (hop : o.op = .buildSlice t 0 #[]) (ht : ElT P t e sz b) (hK : K .e0 h) : AOp P o K fr h := by
  intro E w a r hv Nx Qx hn
  obtain ⟨cur, c1, c2⟩ := exec_lit (w := w) (a := a) hop ht (by simp) (by simp) (by simp)
  obtain ⟨E', e1, e2, e3⟩ := r.new_imm e (0, 0) cur
  unfold Oper.wp
  rw [c2]
  exact hn _ _ _ E' h e2 e3 (by simp only [VR]; exact ⟨_, rfl⟩) hK

/-- What the bytes of a list of cells are. -/
def strOf : List (List AV) → Option (List UInt8)
  | [] => some []
  | [.sc (.int .u8 n)] :: r => (strOf r).map fun s => UInt8.ofNat n.toNat :: s
  | _ => none

theorem strOf_ints {E : Env} {w : World} : ∀ {xs : List (List AV)} {s : List UInt8}, strOf xs = some s → ∀ {cv : List Value}, VRL E w xs.flatten cv → ∃ ns : List Int, cv = ns.map (Value.int .u8) ∧ ns.map (fun n => UInt8.ofNat n.toNat) = s
  | [], s, hs, cv, hv => by
    cases hs
    cases cv with
    | nil => exact ⟨[], rfl, rfl⟩
    | cons _ _ => simp [VRL] at hv
  | x :: xs, s, hs, cv, hv => by
    unfold strOf at hs
    split at hs
    · rename_i e; cases e
    · rename_i n r e
      cases e
      simp only [Option.map_eq_some_iff] at hs
      obtain ⟨s', h1, rfl⟩ := hs
      simp only [List.flatten_cons, List.cons_append, List.nil_append] at hv
      cases cv with
      | nil => simp only [VRL] at hv
      | cons c cv =>
        simp only [VRL, VR] at hv
        obtain ⟨rfl, hv⟩ := hv
        obtain ⟨ns, h2, h3⟩ := strOf_ints h1 hv
        exact ⟨n :: ns, by rw [h2]; rfl, by rw [← h3]; rfl⟩
    · cases hs

theorem foldl_push (ns : List Int) : ∀ (s : ByteArray), (ns.foldl (fun r n => r.push (UInt8.ofNat n.toNat)) s).data.toList = s.data.toList ++ ns.map fun n => UInt8.ofNat n.toNat := by
  induction ns with
  | nil => intro s; simp
  | cons n ns ih => intro s; rw [List.foldl_cons, ih]; simp

theorem byteArray_ext {a b : ByteArray} (h : a.data.toList = b.data.toList) : a = b := by
  cases a; cases b; congr 1; exact Array.ext' h

/-- Bytes to a string. -/
theorem AOp_str {src dst e : TypeId} {x : Operand} (hop : o.op = .convert src dst x) (hs : P.underlying src = some (.slice e)) (he : P.underlying e = some (.int .u8)) (hd : P.underlying dst = some .string)
    {tag : Option Key} {xs : List (List AV)} (hx : ev fr x = .sl tag 1 xs) {s : List UInt8} (hstr : strOf xs = some s) (hK : K (.sc (.string ⟨s.toArray⟩)) h) : AOp P o K fr h := by
  refine AOp_value (x := .sc (.string ⟨s.toArray⟩)) (fun E w a r hv => ?_) hK
  have vx := hv x (by rw [hop]; simp [Op.operands])
  rw [hx] at vx
  refine ⟨.string ⟨s.toArray⟩, ?_, by simp only [VR]⟩
  have hc : ∀ q n c, a.eval x = .slice q n c → ∀ v, (Conv.bytesToString (.slice q n c)).run P w = .ok v w → (execOp a.eval o).run P w = .ok (.value v) w := by
    intro q n c he' v hr
    simp only [execOp, hop, he', Sem.run_bind]
    rw [run_convert_bytes_string w src dst e q n c hs he hd, hr]
    simp
  by_cases hne : xs = []
  · subst hne
    cases hstr
    simp only [VR] at vx
    obtain ⟨q, cap, e1, _⟩ := vx
    refine hc _ _ _ e1 _ ?_
    cases q with
    | none => simp [Conv.bytesToString]; rfl
    | some b =>
      exact run_bytesToString (P := P) w b 0 cap [] (by simp [loadCells, loadCellsFrom])
  · obtain ⟨g, oo, cap, cv, e1, c1, c2, c3, c4⟩ := sl_cells vx hne
    obtain ⟨ns, h2, h3⟩ := strOf_ints hstr c1
    refine hc _ _ _ e1 _ ?_
    have hl := run_loadCells_list (P := P) w ⟨g, oo, none⟩ cv (fun j v hj => by rw [Addr.add_lit]; exact (c4 j v hj).1)
    rw [c3, Nat.mul_one, h2] at hl
    rw [run_bytesToString w ⟨g, oo, none⟩ xs.length cap ns (by simpa using hl)]
    congr 2
    apply byteArray_ext
    rw [foldl_push]
    simp [h3]

/-- A growable array that is handed on as bytes: it does not grow any more. -/
theorem AOp_conv_own {t e : TypeId} {x : Operand} (hop : o.op = .convert t t x) (hs : P.underlying t = some (.slice e)) (he : P.underlying e = some (.int .u8)) {k : Key} {sz : Nat} {xs : List (List AV)} (hx : ev fr x = .sl (some k) sz xs) {ty : TypeId} (hk : h k = some (.tok ty sz (xs.length * sz)))
    (hK : K (.sl none sz xs) (upd h k none)) : AOp P o K fr h := by
  intro E w a r hv Nx Qx hn
  have vx := hv x (by rw [hop]; simp [Op.operands])
  rw [hx] at vx
  obtain ⟨tk, cur, t1, t2, t3, t4, t5, t6, t7⟩ := r.tok _ _ _ _ hk
  have hblt := (Array.getElem?_eq_some_iff.1 t4).1
  have hat : E.at h k tk.b := .inr ⟨ty, _, _, tk, hk, t1, rfl⟩
  obtain ⟨d1, d2⟩ := r.dis k _ hat
  -- the key is let go first
  obtain ⟨E1, k1, r1⟩ := r.drop (h' := upd h k none) (fun x e hx => by
    by_cases q : x = k
    · subst q; rw [upd_same] at hx; cases hx
    · rw [upd_ne _ _ q] at hx; exact hx)
  have hval : a.eval x = .slice (some ⟨tk.b, 0, none⟩) xs.length tk.cap := by
    have vx' := vx
    simp only [VR] at vx'
    obtain ⟨q, cap, e1, _, _, _, _, e5⟩ := vx'
    obtain ⟨_, e6⟩ := e5 k rfl
    obtain ⟨_, e7⟩ := e6 tk t1
    obtain ⟨f1, f2, _⟩ := e7 t3.symm
    rw [e1, f1, f2]
  have vx1 : VR E1 w (.sl none sz xs) (a.eval x) := ALe.freeze (by intro _ _ _; rw [upd_same]; simp) sz xs E1 w _ r1 (VR_keep k1 _ _ vx)
  -- the block is marked
  have hsh : w.shape? tk.b = some (ty, cur.size) := by simp [World.shape?, t4]
  let w' := w.freeze ⟨tk.b, cur.size, none⟩ 1
  have hrun : (execOp a.eval o).run P w = .ok (.value (a.eval x)) w' := by
    simp only [execOp, hop, hval, Sem.run_bind]
    simp [convert, run_underlying hs, run_underlying he, markStringish, shape, freeze, Sem.run, hsh, w']
  have hoth : ∀ g, g ≠ tk.b → w'.heap[g]? = w.heap[g]? := by
    intro g hg
    simp [w', World.freeze, Array.getElem?_modify, Ne.symm hg]
  have hcell : ∀ g j, w'.cell? ⟨g, j, none⟩ = w.cell? ⟨g, j, none⟩ := by
    intro g j
    by_cases hg : g = tk.b
    · subst hg
      have : w'.heap[tk.b]? = some (.cells cur ty (cur.size, cur.size + 1)) := by
        simp [w', World.freeze, Array.getElem?_modify, t4]
      simp [World.cell?, this, t4]
    · exact cell_of_block (hoth g hg) j
  have hsz : w'.heap.size = w.heap.size := by simp [w', World.freeze]
  have nb : ∀ x g, E1.at (upd h k none) x g → g ≠ tk.b := by
    intro x g ha e
    subst e
    have hlock := (r1.dis x _ ha).2
    have hxk : x ≠ k := by
      intro q; subst q
      rcases ha with ⟨_, _, q, _⟩ | ⟨_, _, _, _, q, _⟩ <;> (rw [upd_same] at q; cases q)
    have : E.at h x tk.b := by
      rcases ha with ⟨a1, b1, q1, q2⟩ | ⟨a1, b1, c1, t', q1, q2, q3⟩
      · rw [upd_ne _ _ hxk] at q1
        have hob : ∃ g', E.ob x = some g' := by
          cases a1 with
          | obj ty1 cs1 => obtain ⟨g', cur', p1, _⟩ := r.obj x _ _ q1; exact ⟨g', p1⟩
          | mp es1 => obtain ⟨g', _, _, p1, _⟩ := r.mp x _ q1; exact ⟨g', p1⟩
          | tok _ _ _ => cases b1
        obtain ⟨g', p1⟩ := hob
        have := k1.ob _ _ p1
        rw [q2] at this; cases this
        exact .inl ⟨a1, b1, q1, p1⟩
      · rw [upd_ne _ _ hxk] at q1
        obtain ⟨t'', cur', p1, p2, p3, _⟩ := r.tok x a1 b1 c1 q1
        obtain ⟨t3', p4, p5, p6⟩ := k1.tkf x t' q2 (r.hus x _ q1)
        rw [p1] at p4; cases p4
        obtain ⟨ty'', q4⟩ := r1.tkh x t' q2
        rw [upd_ne _ _ hxk, q1] at q4; cases q4
        have : t'' = t' := p6 (by omega)
        subst this
        exact .inr ⟨a1, _, _, _, q1, p1, q3⟩
    exact hxk (r.sep x k _ this hat)
  have k2 : Keep E1 w E1 w' := by
    refine ⟨fun g o' ho => ⟨ho, hcell g o'⟩, fun _ => Iff.rfl, ?_, fun _ h => h, fun _ _ h => h, fun x t ht o' ho => ⟨.inr ⟨t, ht, rfl, ho⟩, hcell _ _⟩, fun _ t ht _ => ⟨t, ht, Nat.le_refl _, fun _ => rfl⟩, ?_, ?_, ?_, by rw [hsz]; exact Nat.le_refl _⟩
    · intro g hg
      exact hoth g fun e => d1 (e ▸ (k1.lockEq g).1 hg)
    · simp [w', World.freeze]
    · simp [w', World.freeze]
    · simp [w', World.freeze]
  have r2 : Rel E1 (upd h k none) w' := by
    refine ⟨?_, ?_, r1.tkh, r1.sep, r1.dis, r1.hus, r1.obu, r1.fre, ?_, ?_, ?_⟩
    · intro x ty' cs' hx'
      obtain ⟨g, cur', e1, e2, e3, e4⟩ := r1.obj x ty' cs' hx'
      exact ⟨g, cur', e1, by rw [hoth g (nb x g (.inl ⟨_, rfl, hx', e1⟩))]; exact e2, VRL_keep k2 _ _ e3, e4⟩
    · intro x ty' sz' m' hx'
      obtain ⟨t', cur', e1, e2, e3, e4, e5⟩ := r1.tok x ty' sz' m' hx'
      exact ⟨t', cur', e1, e2, e3, by rw [hoth _ (nb x _ (.inr ⟨_, _, _, _, hx', e1, rfl⟩))]; exact e4, e5⟩
    · intro g o' ho
      obtain ⟨v, hv'⟩ := r1.imb g o' ho
      exact ⟨v, (hcell g o').trans hv'⟩
    · intro g hg
      rw [hsz]; exact r1.lkb g hg
    · intro x es hx'
      obtain ⟨g, ents, clk, e1, e2, e3⟩ := r1.mp x es hx'
      exact ⟨g, ents, clk, e1, by rw [hoth g (nb x g (.inl ⟨_, rfl, hx', e1⟩))]; exact e2, e3⟩
  unfold Oper.wp
  rw [hrun]
  exact hn _ _ w' E1 _ (k1.trans k2) r2 (VR_keep k2 _ _ vx1) hK

end ops
end Go.Vm
