/-
  The operations that leave the heap as it is, over abstract frames.
-/
import Derived.Test.YtafflcbcpbgloaaQ7VmC
import Derived.Laws.Cells
import Derived.Laws.Slices
import Derived.Laws.Entries
namespace Go.Vm

def tInt (P : Program) (t : TypeId) : Option IntKind := match P.underlying t with | some (.int k) => some k | _ => none
def tEl (P : Program) (t : TypeId) : Option TypeId := match P.underlying t with | some (.slice e) => some e | _ => none
def tArr (P : Program) (t : TypeId) : Option (Nat × TypeId) := match P.underlying t with | some (.array n e) => some (n, e) | _ => none
def tFld (P : Program) (t : TypeId) (i : Nat) : Option (Nat × TypeId) := match P.underlying t with | some (.struct fs) => (fs[i]?).map fun f => (f.offset, f.type) | _ => none
def tAgg (P : Program) (t : TypeId) : Option Bool := match P.underlying t with | some (.struct _) | some (.array _ _) => some true | some _ => some false | none => none
def tSz (P : Program) (t : TypeId) : Option Nat := (P.info? t).map (·.size)

section
variable {P : Program} {E : Env} {w : World}

theorem run_sizeOf' {t : TypeId} {n : Nat} (h : tSz P t = some n) (w : World) : (sizeOf t).run P w = .ok n w := by
  unfold tSz at h
  cases hi : P.info? t with
  | none => rw [hi] at h; simp at h
  | some i => rw [hi] at h; simp at h; simp [sizeOf, typeInfo, hi, h]
theorem run_isAgg' {t : TypeId} {b : Bool} (h : tAgg P t = some b) (w : World) : (isAgg t).run P w = .ok b w := by
  unfold tAgg at h
  cases hu : P.underlying t with
  | none => rw [hu] at h; simp at h
  | some d => rw [hu] at h; cases d <;> simp at h <;> subst h <;> simp [isAgg, run_underlying hu]
theorem tEl_spec {t e : TypeId} (h : tEl P t = some e) : P.underlying t = some (.slice e) := by
  unfold tEl at h; split at h
  · rename_i e' he; cases h; exact he
  · cases h
theorem tArr_spec {t e : TypeId} {n : Nat} (h : tArr P t = some (n, e)) : P.underlying t = some (.array n e) := by
  unfold tArr at h; split at h
  · rename_i e' he; cases h; exact he
  · cases h
theorem tInt_spec {t : TypeId} {k : IntKind} (h : tInt P t = some k) : P.underlying t = some (.int k) := by
  unfold tInt at h; split at h
  · rename_i e' he; cases h; exact he
  · cases h
theorem tFld_spec {t u : TypeId} {i n : Nat} (h : tFld P t i = some (n, u)) : ∃ fs f, P.underlying t = some (.struct fs) ∧ fs[i]? = some f ∧ f.offset = n ∧ f.type = u := by
  unfold tFld at h; split at h
  · rename_i fs he
    cases hf : fs[i]? with
    | none => rw [hf] at h; simp at h
    | some f => rw [hf] at h; simp at h; exact ⟨fs, f, he, hf, h.1, h.2⟩
  · cases h

theorem VRM_cells {tag : Option Key} {g : Nat} : ∀ {o : Nat} {cs : List AV}, VRM E w tag g o cs →
    ∃ cv : List Value, VRL E w cs cv ∧ (∀ v ∈ cv, v.oneCell' = true) ∧ ∀ j v, cv[j]? = some v → w.cell? ⟨g, o + j, none⟩ = some v ∧ E.prot tag g (o + j)
  | o, [], _ => ⟨[], by simp [VRL], by simp, by simp⟩
  | o, x :: cs, h => by
    simp only [VRM] at h
    obtain ⟨h1, ⟨cv, h2, h3, h4⟩, h5⟩ := h
    obtain ⟨l, e1, e2, e3⟩ := VRM_cells h5
    refine ⟨cv :: l, by simp only [VRL]; exact ⟨h4, e1⟩, by simpa using ⟨h3, e2⟩, ?_⟩
    intro j v hj
    cases j with
    | zero => simp at hj; subst hj; exact ⟨h2, h1⟩
    | succ j =>
      have := e3 j v (by simpa using hj)
      rwa [show o + (j + 1) = o + 1 + j from by omega]
theorem VRL_take : ∀ {xs : List AV} {vs : List Value} (n : Nat), VRL E w xs vs → VRL E w (xs.take n) (vs.take n)
  | [], [], _, _ => by simp [VRL]
  | _ :: _, _ :: _, 0, _ => by simp [VRL]
  | x :: xs, v :: vs, n + 1, h => by simp only [VRL] at h; simp only [List.take_succ_cons, VRL]; exact ⟨h.1, VRL_take n h.2⟩
  | [], _ :: _, _, h => by simp only [VRL] at h
  | _ :: _, [], _, h => by simp only [VRL] at h
theorem VRL_drop : ∀ {xs : List AV} {vs : List Value} (n : Nat), VRL E w xs vs → VRL E w (xs.drop n) (vs.drop n)
  | [], [], _, _ => by simp [VRL]
  | _ :: _, _ :: _, 0, h => by simpa using h
  | x :: xs, v :: vs, n + 1, h => by simp only [VRL] at h; simpa using VRL_drop n h.2
  | [], _ :: _, _, h => by simp only [VRL] at h
  | _ :: _, [], _, h => by simp only [VRL] at h
theorem VRM_drop {tag : Option Key} {g : Nat} : ∀ {o : Nat} {cs : List AV} (n : Nat), VRM E w tag g o cs → VRM E w tag g (o + n) (cs.drop n)
  | o, [], n, _ => by simp [VRM]
  | o, x :: cs, 0, h => by simpa using h
  | o, x :: cs, n + 1, h => by
    simp only [VRM] at h
    have := VRM_drop n h.2.2
    rw [show o + (n + 1) = o + 1 + n from by omega]
    simpa using this
theorem VRM_append {tag : Option Key} {g : Nat} : ∀ {o : Nat} {cs ds : List AV}, VRM E w tag g o (cs ++ ds) ↔ VRM E w tag g o cs ∧ VRM E w tag g (o + cs.length) ds
  | o, [], ds => by simp [VRM]
  | o, x :: cs, ds => by
    simp only [List.cons_append, VRM, VRM_append (cs := cs), List.length_cons]
    rw [show o + 1 + cs.length = o + (cs.length + 1) from by omega]
    simp only [and_assoc]
theorem VRG_flat {tag : Option Key} {g : Nat} : ∀ {o : Nat} {xs : List (List AV)}, VRG E w tag g o xs ↔ VRM E w tag g o xs.flatten
  | o, [] => by simp [VRG, VRM]
  | o, x :: xs => by simp only [VRG, List.flatten_cons, VRM_append, VRG_flat (xs := xs)]
theorem VRG_get {tag : Option Key} {g sz : Nat} : ∀ {o : Nat} {xs : List (List AV)}, (∀ x ∈ xs, x.length = sz) → VRG E w tag g o xs → ∀ i, i < xs.length → VRM E w tag g (o + i * sz) (xs.getD i [])
  | o, [], _, _, i, hi => by simp at hi
  | o, x :: xs, hs, h, 0, _ => by simp only [VRG] at h; simpa using h.1
  | o, x :: xs, hs, h, i + 1, hi => by
    simp only [VRG] at h
    have h2 := VRG_get (fun y hy => hs y (by simp [hy])) h.2 i (by simpa using hi)
    rw [hs x (by simp)] at h2
    rw [show o + (i + 1) * sz = o + sz + i * sz from by rw [Nat.add_mul]; omega]
    simpa using h2

end

/-- One operation that hands back a value and leaves the world as it is. -/
theorem AOp_value {P : Program} {o : Oper} {K : AV → Heap → Prop} {fr : Fr} {h : Heap} {x : AV}
    (hr : ∀ E w (a : Act), Rel E h w → (∀ y ∈ o.op.operands, VR E w (ev fr y) (a.eval y)) → ∃ v, (execOp a.eval o).run P w = .ok (.value v) w ∧ VR E w x v) (hk : K x h) : AOp P o K fr h := by
  intro E w a r v Nx Qx hn
  obtain ⟨u, h1, h2⟩ := hr E w a r v
  unfold Oper.wp
  rw [h1]
  exact hn x u w E h (Keep.refl E w) r h2 hk

/-- A load's value, out of the cells that stand there. -/
def ldv (ag : Bool) (n : Nat) (cs : List AV) : Option AV :=
  match ag with
  | true => if n ≤ cs.length then some (.agg (cs.take n)) else none
  | false => cs.head?

theorem run_loadVar_cells {P : Program} {E : Env} {w : World} {t : TypeId} {ag : Bool} {n : Nat} (ha : tAgg P t = some ag) (hs : tSz P t = some n) {g o : Nat} {cs : List AV} {cv : List Value} (hv : VRL E w cs cv)
    (hc : ∀ j v, cv[j]? = some v → w.cell? ⟨g, o + j, none⟩ = some v) {x : AV} (hx : ldv ag n cs = some x) :
    ∃ v, (loadVar t ⟨g, o, none⟩).run P w = .ok v w ∧ VR E w x v := by
  have hl := VRL_length hv
  cases ag with
  | true =>
    simp only [ldv] at hx
    split at hx
    · rename_i hn
      cases hx
      have hrun := run_loadCells_list (P := P) (w := w) ⟨g, o, none⟩ (cv.take n) (fun j v hj => by
        rw [List.getElem?_take] at hj
        split at hj
        · have := hc j v hj
          unfold Addr.add
          split
          · rename_i h0; subst h0; simpa using this
          · exact this
        · cases hj)
      have hlen : (cv.take n).length = n := by rw [List.length_take]; omega
      rw [hlen] at hrun
      refine ⟨.agg (cv.take n).toArray, ?_, ?_⟩
      · simp [loadVar, run_isAgg' ha, run_sizeOf' hs, hrun]
      · simp only [VR]; exact ⟨_, rfl, by simpa using VRL_take n hv⟩
    · cases hx
  | false =>
    simp only [ldv] at hx
    cases cs with
    | nil => simp at hx
    | cons y cs =>
      simp at hx; subst hx
      cases cv with
      | nil => simp [VRL] at hv
      | cons v cv =>
        simp only [VRL] at hv
        have h0 := hc 0 v (by simp)
        refine ⟨v, ?_, hv.1⟩
        simp only [Nat.add_zero] at h0
        simp [loadVar, run_isAgg' ha, load, Sem.run, h0]

end Go.Vm
