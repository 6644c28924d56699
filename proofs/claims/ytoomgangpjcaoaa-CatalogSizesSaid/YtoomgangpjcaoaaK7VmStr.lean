/-
  A string's bytes behind a growing list; strings out of bytes.
-/
import Derived.Test.YtoomgangpjcaoaaK7VmArr
import Derived.Lib.AppendStr
namespace Go.Vm
open Go.Lib
/-- A string's bytes, as numbers. -/
def strB (s : ByteArray) : List Int := s.data.toList.map fun b => (b.toNat : Int)
def strA (s : ByteArray) : List (List AV) := (strB s).map fun z => [.sc (.int .u8 z)]
theorem strB_length (s : ByteArray) : (strB s).length = s.size := by simp [strB]
theorem strCells_arr (s : ByteArray) : (strCells s).toArray = s.data.map (fun b => Value.int .u8 b.toNat) := by
  apply Array.ext'
  simp [strCells]
section app
variable {P : Program} {E : Env} {h : Heap} {w : World}
theorem VRL_str : ∀ (l : List UInt8), VRL E w ((l.map fun b => (b.toNat : Int)).map fun z => [AV.sc (.int .u8 z)]).flatten (l.map fun b => Value.int .u8 b.toNat)
  | [] => by simp [VRL]
  | b :: l => by
    simp only [List.map_cons, List.flatten_cons, List.singleton_append, VRL, VR]
    exact ⟨trivial, VRL_str l⟩
theorem strA_spec {sz : Nat} (h1 : sz = 1) (st : ByteArray) : ∃ cv : List Value, strCells st = cv ∧ st.size = (strA st).length ∧ (∀ x ∈ strA st, x.length = sz) ∧ VRL E w (strA st).flatten cv ∧ (∀ u ∈ cv, u.oneCell' = true) ∧ cv.length = (strA st).length * sz := by
  subst h1
  refine ⟨_, rfl, by rw [strA, List.length_map, strB_length], ?_, VRL_str _, strCells_oneCell st, by rw [strCells_length, strA, List.length_map, strB_length, Nat.mul_one]⟩
  intro x hx
  obtain ⟨z, _, rfl⟩ := List.mem_map.1 hx
  rfl

/-- append to nil. -/
theorem append_nil_s {u t ty e : TypeId} {sz b : Nat} (huS : P.underlying u = some .string) (ht : ElT P t e sz b) (h1z : sz = 1) (r : Rel E h w) {k : Key} (hk : ¬ E.used k) {ys : List (List AV)} (st : ByteArray) (hys : strA st = ys) (hne : ys ≠ [])
    (hb : ys.length * b ≤ 140737488355328) (hlen : ys.length ≤ 140737488355328) (a0 : Option Addr) :
    ∃ v' w' E', (Builtin.append_ #[t, u] ty #[.slice a0 0 0, .string st]).run P w = .ok v' w' ∧ Keep E w E' w' ∧ Rel E' (upd h k (some (.tok e sz (ys.length * sz)))) w' ∧ VR E' w' (.sl (some k) sz ys) v' := by
  obtain ⟨i, z, hi, hz, rfl, rfl, hzs, hsp⟩ := ht.inf
  obtain ⟨cv, ecv, hlc, hs, c1, c2, c3⟩ : ∃ cv : List Value, strCells st = cv ∧ st.size = ys.length ∧ (∀ x ∈ ys, x.length = i.size) ∧ VRL E w ys.flatten cv ∧ (∀ u ∈ cv, u.oneCell' = true) ∧ cv.length = ys.length * i.size := by
    subst hys; exact strA_spec (E := E) (w := w) h1z st
  have hpos : 0 < ys.length := List.length_pos_iff.2 hne
  have hrun : (Builtin.append_ #[t, u] ty #[.slice a0 0 0, .string st]).run P w =
      .ok (.slice (some ⟨w.heap.size, 0, none⟩) ys.length (grownCap w ys.length 0 e)) (w.drew.alloc (.cells (cv.toArray ++ Builtin.zeroCells z.cells (grownCap w ys.length 0 e - ys.length)) e)) := by
    cases a0 with
    | none =>
      have := run_append_nil_string (P := P) w t u ty e i z ht.ut huS hi hz st (by omega) (by omega) (by rw [hlc]; omega)
      rw [hlc, ← strCells_arr, ecv] at this
      exact this
    | some b0 =>
      have := run_append_grow_string (P := P) w t u ty e i z ht.ut huS hi hz b0 0 0 [] (by simp) (by simp) st (by omega) (by omega) (growslice_fits (by omega) (by rw [Nat.zero_add, hlc]; exact hb))
      rw [hlc, ecv] at this
      simpa using this
  have hge := grownCap_ge w ys.length 0 e
  have hcm : grownCap w ys.length 0 e ≤ maxLen := grownCap_le_maxLen w ys.length 0 e (by simp only [maxLen]; omega)
  have hsize : (cv.toArray ++ Builtin.zeroCells z.cells (grownCap w ys.length 0 e - ys.length)).size = grownCap w ys.length 0 e * i.size := by
    simp only [Array.size_append, List.size_toArray, size_zeroCells, hzs, c3, ← Nat.add_mul]
    congr 1; omega
  obtain ⟨rd, kd⟩ := r.drewn (w.drawn + 1)
  obtain ⟨E', e0, e1, e2, e3⟩ := Rel.new_tok (w := w.drew) rd hk e i.size (ys.length * i.size) (grownCap w ys.length 0 e) hsize (by simp [c3]) hcm
  refine ⟨_, _, E', hrun, kd.trans e2, e3, ?_⟩
  refine VR_sl_mk e0 (by simpa using e1) hs hge hcm ?_
  have hnew := heap_alloc_new w.drew (.cells (cv.toArray ++ Builtin.zeroCells z.cells (grownCap w ys.length 0 e - ys.length)) e)
  refine VRM_of_cells (VRL_keep (kd.trans e2) _ _ c1) c2 ?_
  intro j u hj
  have hjl : j < cv.length := (List.getElem?_eq_some_iff.1 hj).1
  refine ⟨?_, .inr ⟨k, _, rfl, e1, rfl, by show 0 + j < ys.length * i.size; omega⟩⟩
  have hnew' : (w.drew.alloc (.cells (cv.toArray ++ Builtin.zeroCells z.cells (grownCap w ys.length 0 e - ys.length)) e)).heap[w.heap.size]? = _ := hnew
  simp only [World.cell?, hnew', Nat.zero_add]
  simp [Array.getElem?_append, hjl]
  exact (List.getElem?_eq_some_iff.1 hj).2

/-- append to a growable array, at its end. -/
theorem append_tok_s {u t ty e : TypeId} {sz b : Nat} (huS : P.underlying u = some .string) (ht : ElT P t e sz b) (h1z : sz = 1) (r : Rel E h w) {k : Key} {xs : List (List AV)} (hk : h k = some (.tok e sz (xs.length * sz))) {v : Value} (hv : VR E w (.sl (some k) sz xs) v)
    {ys : List (List AV)} (st : ByteArray) (hys : strA st = ys) (hne : ys ≠ []) (hb : (xs.length + ys.length) * b ≤ 140737488355328) (hlen : xs.length + ys.length ≤ 140737488355328) :
    ∃ v' w' E', (Builtin.append_ #[t, u] ty #[v, .string st]).run P w = .ok v' w' ∧ Keep E w E' w' ∧ Rel E' (upd h k (some (.tok e sz ((xs ++ ys).length * sz)))) w' ∧ VR E' w' (.sl (some k) sz (xs ++ ys)) v' := by
  obtain ⟨i, z, hi, hz, rfl, rfl, hzs, hsp⟩ := ht.inf
  obtain ⟨cy, ecv, hlc, hsy, c1, c2, c3⟩ : ∃ cv : List Value, strCells st = cv ∧ st.size = ys.length ∧ (∀ x ∈ ys, x.length = i.size) ∧ VRL E w ys.flatten cv ∧ (∀ u ∈ cv, u.oneCell' = true) ∧ cv.length = ys.length * i.size := by
    subst hys; exact strA_spec (E := E) (w := w) h1z st
  have hpos : 0 < ys.length := List.length_pos_iff.2 hne
  obtain ⟨tk, cur, t1, t2, t3, t4, t5, t6, t7⟩ := r.tok _ _ _ _ hk
  have hv0 := hv
  simp only [VR] at hv
  obtain ⟨a, cap, rfl, v1, v2, v3, hsx, v5⟩ := hv
  obtain ⟨hu, v6⟩ := v5 k rfl
  obtain ⟨_, v7⟩ := v6 tk t1
  obtain ⟨rfl, rfl, _⟩ := v7 t3.symm
  -- the cells that are there
  have hxc : ∃ cx : List Value, VRL E w xs.flatten cx ∧ (∀ u ∈ cx, u.oneCell' = true) ∧ cx.length = xs.length * i.size ∧ cur.toList.take (xs.length * i.size) = cx := by
    by_cases hx0 : xs = []
    · subst hx0; exact ⟨[], by simp [VRL], by simp, by simp, by simp⟩
    · obtain ⟨g', o', cap'', cx, ee, d1, d2, d3, d4⟩ := sl_cells hv0 hx0
      cases ee
      refine ⟨cx, d1, d2, d3, ?_⟩
      apply List.ext_getElem?
      intro j
      rw [List.getElem?_take]
      split
      · rename_i hj
        have hjx : j < cx.length := by omega
        have h1 := (d4 j cx[j] (by simp [hjx])).1
        simp only [World.cell?, t4, Nat.zero_add] at h1
        rw [List.getElem?_eq_getElem hjx]
        simpa using h1
      · rename_i hj
        rw [List.getElem?_eq_none (by omega)]
  obtain ⟨cx, d1, d2, d3, d4⟩ := hxc
  have hall : ∀ x ∈ xs ++ ys, x.length = i.size := by
    intro x hx
    rcases List.mem_append.1 hx with hx | hx
    · exact hsx x hx
    · exact hsy x hx
  have hl2 : (xs ++ ys).length * i.size = xs.length * i.size + ys.length * i.size := by rw [List.length_append, Nat.add_mul]
  have hvl : VRL E w (xs ++ ys).flatten (cx ++ cy) := by rw [List.flatten_append]; exact VRL_append d1 c1
  have h1l : ∀ u ∈ cx ++ cy, u.oneCell' = true := by
    intro u hu
    rcases List.mem_append.1 hu with hu | hu
    · exact d2 u hu
    · exact c2 u hu
  have hmlt : tk.m < (xs ++ ys).length * i.size := by
    rw [hl2, t3]
    have : 0 < ys.length * i.size := Nat.mul_pos hpos hsp
    omega
  by_cases hroom : xs.length + ys.length ≤ tk.cap
  · have hfit : xs.length * i.size + cy.length ≤ cur.size := by rw [c3, t5, ← Nat.add_mul]; exact Nat.mul_le_mul_right _ hroom
    have hrun : (Builtin.append_ #[t, u] ty #[.slice (some ⟨tk.b, 0, none⟩) xs.length tk.cap, .string st]).run P w = .ok (.slice (some ⟨tk.b, 0, none⟩) (xs.length + ys.length) tk.cap) (w.setRow tk.b (cur.toList.take (xs.length * i.size) ++ cy ++ cur.toList.drop (xs.length * i.size + cy.length)).toArray) := by
      have hcy : cy.length = ys.length := by rw [c3, h1z, Nat.mul_one]
      have hx1 : xs.length * i.size = xs.length := by rw [h1z, Nat.mul_one]
      rw [hx1] at hfit
      have := run_append_room_string (P := P) w t u ty e i ht.ut huS hi h1z tk.b xs.length tk.cap cur t4 st (by omega) (by omega)
      rw [ecv, hlc] at this
      rw [hx1, hcy]
      exact this
    have hnsz : (cur.toList.take (xs.length * i.size) ++ cy ++ cur.toList.drop (xs.length * i.size + cy.length)).toArray.size = tk.cap * i.size := by
      simp only [List.size_toArray, List.length_append, List.length_take, List.length_drop, Array.length_toList]
      omega
    have hcell : ∀ j u, (cx ++ cy)[j]? = some u → (w.setRow tk.b (cur.toList.take (xs.length * i.size) ++ cy ++ cur.toList.drop (xs.length * i.size + cy.length)).toArray).cell? ⟨tk.b, j, none⟩ = some u := by
      intro j u hj
      rw [cell_setRow_same w tk.b j cur _ e (0, 0) t4, d4]
      have hjl : j < (cx ++ cy).length := (List.getElem?_eq_some_iff.1 hj).1
      simp only [List.getElem?_toArray]
      rw [List.getElem?_append_left hjl]
      exact hj
    obtain ⟨E', e0, e1, e2, e3⟩ := r.grow (m := (xs ++ ys).length * i.size) (cap := tk.cap) (b := tk.b) (ty := e) (w' := w.setRow tk.b (cur.toList.take (xs.length * i.size) ++ cy ++ cur.toList.drop (xs.length * i.size + cy.length)).toArray) t1 (by rw [t2, t3]; exact hk)
      (setRow_heap w tk.b cur _ e _ t4) (fun g' _ hg' => setRow_other w tk.b g' _ hg') (.inl ⟨rfl, rfl⟩) (fun j hj => by
        rw [cell_setRow_same w tk.b j cur _ e (0, 0) t4]
        have hjl : j < cx.length := by omega
        have hjc : j < cur.size := by omega
        have e1 : cur[j]? = cx[j]? := by
          rw [← d4, List.getElem?_take, if_pos (by omega)]; simp
        simp only [List.getElem?_toArray, d4]
        rw [List.append_assoc, List.getElem?_append_left hjl, ← e1]
        simp [World.cell?, t4]) hmlt (by rw [t2]; exact hnsz) (by rw [hnsz, ← t5]; rw [hl2]; rw [c3] at hfit; omega) t7 (by simp) rfl rfl rfl
    rw [t2] at e1 e3
    refine ⟨_, _, E', hrun, e2, e3, ?_⟩
    have := VR_sl_mk (w := w.setRow tk.b (cur.toList.take (xs.length * i.size) ++ cy ++ cur.toList.drop (xs.length * i.size + cy.length)).toArray) e0 e1 hall (by rw [List.length_append]; exact hroom) t7
      (VRM_of_cells (VRL_keep e2 _ _ hvl) h1l (fun j u hj => ⟨by rw [Nat.zero_add]; exact hcell j u hj, .inr ⟨k, _, rfl, e1, rfl, by
        have hjl : j < (cx ++ cy).length := (List.getElem?_eq_some_iff.1 hj).1
        rw [List.length_append, d3, c3] at hjl
        show 0 + j < (xs ++ ys).length * i.size
        omega⟩⟩))
    rw [List.length_append] at this
    exact this
  · have hold : ∀ j u, cx[j]? = some u → w.cell? ((⟨tk.b, 0, none⟩ : Addr).add j) = some u := by
      intro j u hj
      rw [Addr.add_lit, Nat.zero_add]
      have hjl : j < cx.length := (List.getElem?_eq_some_iff.1 hj).1
      simp only [World.cell?, t4]
      rw [← d4, List.getElem?_take] at hj
      split at hj
      · simpa using hj
      · cases hj
    have hrun := run_append_grow_string (P := P) w t u ty e i z ht.ut huS hi hz ⟨tk.b, 0, none⟩ xs.length tk.cap cx d3 hold st (by omega) (by omega) (growslice_fits (by omega) (by rw [hlc]; exact hb))
    rw [hlc, ecv] at hrun
    have hge := grownCap_ge w (xs.length + ys.length) tk.cap e
    have hcm : grownCap w (xs.length + ys.length) tk.cap e ≤ maxLen := grownCap_le_maxLen w (xs.length + ys.length) tk.cap e (by simp only [maxLen]; omega)
    generalize hgc : grownCap w (xs.length + ys.length) tk.cap e = gc at hge hcm hrun
    generalize hcells : cx.toArray ++ cy.toArray ++ Builtin.zeroCells z.cells (gc - (xs.length + ys.length)) = cells at hrun
    have hsize : cells.size = gc * i.size := by
      rw [← hcells]
      simp only [Array.size_append, List.size_toArray, size_zeroCells, hzs, c3, d3, ← Nat.add_mul]
      congr 1; omega
    have hnew := heap_alloc_new w.drew (.cells cells e)
    have hcell : ∀ j u, (cx ++ cy)[j]? = some u → (w.drew.alloc (.cells cells e)).cell? ⟨w.heap.size, j, none⟩ = some u := by
      intro j u hj
      have hjl : j < (cx ++ cy).length := (List.getElem?_eq_some_iff.1 hj).1
      have hnew' : (w.drew.alloc (.cells cells e)).heap[w.heap.size]? = _ := hnew
      simp only [World.cell?, hnew']
      rw [← hcells]
      simp only [Option.isSome_none, Bool.false_eq_true, if_false]
      rw [Array.getElem?_append_left (by simpa using hjl)]
      simpa using hj
    have hblt : tk.b < w.heap.size := (Array.getElem?_eq_some_iff.1 t4).1
    obtain ⟨rd, kd⟩ := r.drewn (w.drawn + 1)
    have rd' : Rel E h w.drew := rd
    obtain ⟨E', e0, e1, e2, e3⟩ := rd'.grow (m := (xs ++ ys).length * i.size) (cap := gc) (b := w.heap.size) (ty := e) (w' := w.drew.alloc (.cells cells e)) (cur := cells) t1 (by rw [t2, t3]; exact hk)
      hnew (fun g' hg' _ => heap_alloc_old w.drew _ g' hg') (.inr ⟨Nat.le_refl _, heap_alloc_old w.drew _ _ hblt⟩) (fun j _ => cell_of_block (w := w.drew) (heap_alloc_old w.drew _ _ hblt) j) hmlt (by rw [t2]; exact hsize)
      (by rw [hsize]; rw [List.length_append]; exact Nat.mul_le_mul_right _ hge) hcm (by simp) rfl rfl rfl
    rw [t2] at e1 e3
    refine ⟨_, _, E', hrun, kd.trans e2, e3, ?_⟩
    have := VR_sl_mk (w := w.drew.alloc (.cells cells e)) e0 e1 hall (by rw [List.length_append]; exact hge) hcm
      (VRM_of_cells (VRL_keep (kd.trans e2) _ _ hvl) h1l (fun j u hj => ⟨by rw [Nat.zero_add]; exact hcell j u hj, .inr ⟨k, _, rfl, e1, rfl, by
        have hjl : j < (cx ++ cy).length := (List.getElem?_eq_some_iff.1 hj).1
        rw [List.length_append, d3, c3] at hjl
        show 0 + j < (xs ++ ys).length * i.size
        omega⟩⟩))
    rw [List.length_append] at this
    exact this

end app

section ops
variable {P : Program} {ops : Array Oper} {h h0 : Heap} {L : HL} {n : Nat} {kvs : KV} {l : List Oper} {ty : TypeId} {pos : String} {aft : Array Edge}
theorem exec_append_s {o : Oper} {s x : Operand} {t u : TypeId} (hop : o.op = .call { callee := .builtin .append, args := #[s, x], argTypes := #[t, u] }) {a : Act} {w w' : World} {v : Value}
    (hr : (Builtin.append_ #[t, u] o.type #[a.eval s, a.eval x]).run P w = .ok v w') : (execOp a.eval o).run P w = .ok (.value v) w' := by
  unfold execOp
  simp only [hop, resolve, invoke, builtin, Sem.run_bind, Sem.run_pure, Result.andThen_ok, List.map_toArray, List.map_cons, List.map_nil, hr]
theorem run_append_none_s {t u ty e : TypeId} {sz b : Nat} (hu : P.underlying u = some .string) (ht : ElT P t e sz b) {w : World} {v : Value} {n : Nat} {st : ByteArray} (h0 : st.size = 0) (hv : (v = .slice none 0 0 ∧ n = 0) ∨ ∃ a cap, v = .slice (some a) n cap ∧ n ≤ cap) :
    (Builtin.append_ #[t, u] ty #[v, .string st]).run P w = .ok v w := by
  obtain ⟨i, z, hi, hz, _⟩ := ht.inf
  have hd : st.data.size = 0 := h0
  have hx : (Array.map (fun b : UInt8 => Value.int IntKind.u8 (b.toNat : Int)) st.data) = #[] := by apply Array.eq_empty_of_size_eq_zero; simpa using hd
  rcases hv with ⟨rfl, rfl⟩ | ⟨a', cap, rfl, hc⟩
  · simp [Builtin.append_, run_underlying ht.ut, run_underlying hu, sizeOf, typeInfo, hi, Builtin.lenOf, Builtin.firstCells, h0, hx]
  · simp [Builtin.append_, run_underlying ht.ut, run_underlying hu, sizeOf, typeInfo, hi, Builtin.lenOf, Builtin.firstCells, h0, hx, hc, storeCells]
theorem a_appS {K : AV → Heap → Prop} {c : Int → List AV} {xs zs : List Int} {st : ByteArray} {dst : Option Tmp} {s x : Operand} {t u e : TypeId} {b : Nat} {tg : Option Key} (i : Nat) (hm : app xs (strB st) = some zs) (hu : P.underlying u = some .string) (ht : ElT P t e 1 b) (hb : Nat.ble b 100000 = true) (hc : ∀ z, c z = [.sc (.int .u8 z)])
    (ha : evk n kvs s = ow tg 1 (xs.map c)) (hi : L[i]? = some (tg, .tok e 1 (xs.length * 1))) (ot : tg = none → xs = []) (hk : HOk h0 L) (hx : evk n kvs x = .sc (.string st))
    (k : ∀ tg', (tg' = none → zs = []) → HOk h0 (L.set i (tg', .tok e 1 (zs.length * 1))) → K (ow tg' 1 (zs.map c)) (hp h0 (L.set i (tg', .tok e 1 (zs.length * 1))))) :
    AOp P ⟨dst, .call { callee := .builtin .append, args := #[s, x], argTypes := #[t, u] }, ty, pos, aft, none⟩ K (fm n kvs) (hp h0 L) := by
  obtain ⟨rfl, hsz⟩ := app_spec hm
  have hb' := Nat.le_of_ble_eq_true hb
  have hbound : (xs.length + (strB st).length) * (b + 1) ≤ 140737488355328 := by
    have : (xs.length + (strB st).length) * (b + 1) ≤ 1000000000 * 100001 := Nat.mul_le_mul hsz (by omega)
    omega
  rw [Nat.mul_add, Nat.mul_one] at hbound
  have hcf : c = fun z => [.sc (.int .u8 z)] := funext hc
  have hys : strA st = (strB st).map c := by rw [hcf]; rfl
  have hset : ∀ a, L[i]? = some a → L.set i a = L := by
    intro a ha
    have hil : i < L.length := (List.getElem?_eq_some_iff.1 ha).1
    apply List.ext_getElem?; intro j; rw [List.getElem?_set]; split
    · rename_i q; first | (subst q; exact ha.symm) | (subst q; rw [if_pos hil]; exact ha.symm)
    · rfl
  intro E w a r hv Nx Qx hn
  have vs := hv s (by simp [Op.operands, Call.operands])
  have vx := hv x (by simp [Op.operands, Call.operands])
  rw [ev_fm] at vs vx
  rw [ha] at vs
  rw [hx] at vx
  have vx : a.eval x = .string st := by simpa only [VR] using vx
  have hop : (⟨dst, .call { callee := .builtin .append, args := #[s, x], argTypes := #[t, u] }, ty, pos, aft, none⟩ : Oper).op = .call { callee := .builtin .append, args := #[s, x], argTypes := #[t, u] } := rfl
  by_cases hy : strB st = []
  · have h0 : st.size = 0 := by rw [← strB_length, hy]; rfl
    have hk1 := k tg (by rw [hy, List.append_nil]; exact ot) (by rw [hy, List.append_nil, hset _ hi]; exact hk)
    rw [hy, List.append_nil, hset _ hi] at hk1
    cases tg with
    | none =>
      have hx0 := ot rfl
      subst hx0
      simp only [ow, VR] at vs
      obtain ⟨a0, ea0⟩ := vs
      have hv0 : (a.eval s = .slice none 0 0 ∧ 0 = 0) ∨ ∃ a' cap, a.eval s = .slice (some a') 0 cap ∧ 0 ≤ cap := by
        cases a0 with
        | none => exact .inl ⟨ea0, rfl⟩
        | some b => exact .inr ⟨b, 0, ea0, Nat.le_refl _⟩
      have hr := run_append_none_s (P := P) (w := w) (ty := ty) hu ht h0 hv0
      unfold Oper.wp
      rw [exec_append_s hop (by rw [vx]; exact hr)]
      exact hn _ _ _ E _ (Keep.refl E w) r (by simp only [ow, VR]; exact ⟨a0, ea0⟩) hk1
    | some kk =>
      have hg := hp_get i hk hi
      have hsv : ∃ q cap, a.eval s = .slice (some q) xs.length cap ∧ xs.length ≤ cap := by
        have vs' := vs
        simp only [ow, VR] at vs'
        obtain ⟨q, cap, e1, e2, _, _, _, e5⟩ := vs'
        rw [List.length_map] at e1 e2
        obtain ⟨tk, cur, t1, t2, t3, _⟩ := r.tok _ _ _ _ hg
        obtain ⟨_, e6⟩ := e5 kk rfl
        obtain ⟨_, e7⟩ := e6 tk t1
        have := (e7 (by rw [List.length_map]; exact t3.symm)).1
        exact ⟨⟨tk.b, 0, none⟩, cap, by rw [e1, this], e2⟩
      obtain ⟨q, cap, es, ec⟩ := hsv
      have hr := run_append_none_s (P := P) (w := w) (ty := ty) hu ht h0 (v := a.eval s) (n := xs.length) (.inr ⟨q, cap, es, ec⟩)
      unfold Oper.wp
      rw [exec_append_s hop (by rw [vx]; exact hr)]
      exact hn _ _ _ E _ (Keep.refl E w) r vs hk1
  · have hyc : (strB st).map c ≠ [] := by simpa using hy
    cases tg with
    | none =>
      have hx0 := ot rfl
      subst hx0
      simp only [ow, VR] at vs
      obtain ⟨a0, ea0⟩ := vs
      obtain ⟨m, hm'⟩ := r.fresh 0
      simp only [List.length_nil, Nat.zero_add] at hbound
      obtain ⟨v', w', E', e1, e2, e3, e4⟩ := append_nil_s (ty := ty) hu ht rfl r hm' st hys hyc (by rw [List.length_map]; omega) (by rw [List.length_map]; omega) a0
      unfold Oper.wp
      rw [exec_append_s hop (by rw [ea0, vx]; exact e1)]
      obtain ⟨h1, h2, _⟩ := hp_put (k := (0, m)) (e' := .tok e 1 (((strB st).map c).length * 1)) i hk hi (.inr ⟨rfl, r.unused_none hm'⟩)
      refine hn _ _ _ E' _ e2 e3 e4 ?_
      rw [h1]
      rw [List.length_map] at h1 h2 ⊢
      exact k (some (0, m)) (fun q => by cases q) h2
    | some kk =>
      have hg := hp_get i hk hi
      obtain ⟨v', w', E', e1, e2, e3, e4⟩ := append_tok_s (ty := ty) hu ht rfl r (xs := xs.map c) (by rw [hg, List.length_map]) vs st hys hyc (by simp only [List.length_map]; omega) (by simp only [List.length_map]; omega)
      unfold Oper.wp
      rw [exec_append_s hop (by rw [vx]; exact e1)]
      obtain ⟨h1, h2, _⟩ := hp_put (e' := .tok e 1 ((xs.map c ++ (strB st).map c).length * 1)) i hk hi (.inl rfl)
      refine hn _ _ _ E' _ e2 e3 (by show VR E' w' (.sl (some kk) 1 ((xs ++ strB st).map c)) v'; rw [List.map_append]; exact e4) ?_
      rw [h1]
      rw [← List.map_append, List.length_map] at h1 h2 ⊢
      exact k (some kk) (fun q => by cases q) h2
end ops
end Go.Vm
