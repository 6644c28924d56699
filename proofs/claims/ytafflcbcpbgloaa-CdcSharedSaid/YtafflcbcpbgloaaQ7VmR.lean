/-
  From a law's contract over abstract values to its row: arguments are read, and read the same behind the call.
-/
import Derived.Test.YtafflcbcpbgloaaQ7VmL
import Derived.ChangeSame
import Derived.ChangeSlices
import Derived.WideKeyArgs
import Derived.OpenShut
import Derived.JoinedOf
import Derived.Handed
namespace Go.Vm
open Go.ChangeShapes Go.WideShapes

/-- What stands before a call: all cells stay, all blocks stay. -/
def E0 (W : World) : Env := ⟨fun g o => (W.cell? ⟨g, o, none⟩).isSome = true, fun g => g < W.heap.size, fun _ => False, fun _ => none, fun _ => none⟩
def H0 : Heap := fun _ => none

theorem Rel.start (W : World) : Rel (E0 W) H0 W := by
  refine ⟨fun _ _ _ h => (by cases h), fun _ _ _ _ h => (by cases h), fun _ _ h => (by cases h), ?_, ?_, fun _ _ h => (by cases h), fun _ _ h => (by cases h), fun d => ⟨0, fun n _ h => h⟩, ?_, fun g h => h, fun _ _ h => (by cases h)⟩
  · rintro k k' g (⟨_, _, h, _⟩ | ⟨_, _, _, _, h, _⟩) <;> cases h
  · rintro k g (⟨_, _, h, _⟩ | ⟨_, _, _, _, h, _⟩) <;> cases h
  · intro g o h
    exact Option.isSome_iff_exists.1 h

section
variable {H : Type} {enc : TypeId × Value → H} {P : Program} {W W' : World}

theorem trodAll_stays {E' : Env} (k : Keep (E0 W) W E' W') (hl : laidOutB P = true) : ∀ {ts : List TypeId} {vs : List Value} {ds : List (DataW H)} {ps : List MemPlace},
    (∀ t ∈ ts, P.readableRec t = true ∧ t < P.types.size) → (∀ p ∈ ps, p.block < W.heap.size) → DataW.TrodAll enc P W 0 (fun _ => true) true ts vs ds ps →
    DataW.TrodAll enc P W' 0 (fun b => decide (b < W.heap.size)) true ts vs ds ps
  | [], _, _, _, _, _, h => by
    obtain ⟨rfl, rfl, rfl⟩ := trodAll_nil h
    rfl
  | t :: ts, _, _, _, hr, hp, h => by
    obtain ⟨v, vs', d, ds', p, q, rfl, rfl, rfl, h1, h2⟩ := trodAll_cons h
    have hsame : ∀ x ∈ p, W.sameAt W' x := by
      intro x hx
      have hb := hp x (by simp [hx])
      have hk := k.lock x.block hb
      cases x with
      | cell b off => exact cell_of_block hk off
      | map b => exact hk
    exact ⟨p, q, WideElems.Trod_stays hl (hr t (by simp)).1 (hr t (by simp)).2 h1 hsame (fun x hx => by simpa using hp x (by simp [hx])),
      trodAll_stays k hl (fun t' h' => hr t' (by simp [h'])) (fun x hx => hp x (by simp [hx])) h2, rfl⟩

theorem post_of_keep {f : Func} {s : ChangeSpec} {apart fresh handsOn : Bool} {E' : Env} {args : Array Value} {ds gs : List (DataW H)} {before : List MemPlace} {t : TypeId} (hl : laidOutB P = true)
    (hr : ∀ t ∈ f.params.toList, P.readableRec t = true ∧ t < P.types.size) (hW : DataW.Whole enc P f.params.toList s.vars apart W args.toList ds gs before) (hv : s.vars = []) (k : Keep (E0 W) W E' W')
    (ht : f.resultTypes = #[t]) (hb : P.underlying t = some .bool)
    (hfn : ∀ ds : List (DataW H), ds.length = f.params.toList.length → s.fn H ds = { results := [.lit (.bool true)], args := ds }) :
    s.post enc P f apart fresh handsOn false W args (.bool true) W' := by
  have hlt := hW.lt
  have hW0 := hW
  obtain ⟨p, q, hA, hV, rfl, hfz, hnd⟩ := hW
  rw [hv] at hV
  obtain ⟨rfl, rfl⟩ := trodVars_none hV
  have hlen : ∀ {ts : List TypeId} {vs : List Value} {ds : List (DataW H)} {ps : List MemPlace}, DataW.TrodAll enc P W 0 (fun _ => true) true ts vs ds ps → ds.length = ts.length := by
    intro ts
    induction ts with
    | nil => intro vs ds ps h; obtain ⟨-, rfl, -⟩ := trodAll_nil h; rfl
    | cons t ts ih => intro vs ds ps h; obtain ⟨v, vs', d, ds', p, q, -, rfl, -, -, h2⟩ := trodAll_cons h; simp [ih h2]
  have e := hfn ds (hlen hA)
  refine ⟨ds, [], _, [], p, [], hW0, ?_, ?_, ?_, ?_, fun h => by cases h⟩
  · rw [List.append_nil, e, ht]
    exact ⟨[], [], ⟨1, by simp [DataW.trod, Value.cells, hb]⟩, rfl, rfl⟩
  · rw [List.append_nil, e]
    exact trodAll_stays k hl hr (fun x hx => hlt x (by simp [hx])) hA
  · rw [List.append_nil, e, hv]
    rfl
  · refine ⟨k.os, k.output, fun i hi => ?_⟩
    rw [k.lock i hi]
    cases hq : W.heap[i]? with
    | none => trivial
    | some o => cases o <;> simp

/-- A number that is handed in. -/
theorem VR_number {E : Env} {w : World} {t : TypeId} {k : IntKind} {v : Value} {d : DataW H} {ps : List MemPlace} {base : Nat} (ht : P.underlying t = some (.int k)) (hval : Value.okWide P W .any base t v)
    (h : DataW.Trod enc P W 0 (fun _ => true) true t v d ps) : ∃ n : Int, VR E w (.sc (.int k n)) v ∧ (Lit.int k n).wf = true := by
  obtain ⟨n, rfl, -, -, hw⟩ := open_int ht hval h
  exact ⟨n, by simp only [VR], hw⟩

/-- A law's row out of its contract. -/
theorem law_lift {C : Checked} {os : Os} {f : FuncId} {fn : Func} {s : ChangeSpec} {conds : List PathCond} {apart fresh handsOn : Bool} {t : TypeId} (own : ownKnob C.prog.godebug = none) (started : os.Started) (noInit : C.prog.inits.idxOf? f = none) (hfn : C.prog.funcs[f]? = some fn)
    (witness : ∃ (w : World) (tape : Tape) (i : Input), w.os = os ∧ (w.forCall tape i).Shaped C.prog ∧ i.vars = [] ∧ Input.okWide C.prog (w.forCall tape i) .any w.heap.size f i ∧
      s.pre6 enc C.prog fn conds apart (w.forCall tape i).memory i.args ∧ ({} : Assume).holds C.prog (lone (Frame.enter C.prog f i.args .normal) [] (w.forCall tape i)))
    (hl : laidOutB C.prog = true) (hr : ∀ t ∈ fn.params.toList, C.prog.readableRec t = true ∧ t < C.prog.types.size) (hv : s.vars = []) (ht : fn.resultTypes = #[t]) (hb : C.prog.underlying t = some .bool)
    (hs : ∀ ds : List (DataW H), ds.length = fn.params.toList.length → s.fn H ds = { results := [.lit (.bool true)], args := ds })
    (hrun : ∀ (W : World) (base : Nat) (args : Array Value) (ds : List (DataW H)) (ps : List MemPlace), (∀ (j : Nat) t v, fn.params[j]? = some t → args[j]? = some v → Value.okWide C.prog W .any base t v) →
      DataW.TrodAll enc C.prog W 0 (fun _ => true) true fn.params.toList args.toList ds ps → ∃ avs, VRL (E0 W) W avs args.toList ∧ ACalls C.prog f avs H0 (fun r _ => r = .sc (.bool true))) :
    ReturnsInHanded {} C os f .any (s.pre6 enc C.prog fn conds apart) (s.post enc C.prog fn apart fresh handsOn false) := by
  refine returnsInHanded_of_change own started noInit hfn witness ?_
  intro W base args ds gs before hval hW _ _
  have hW0 := hW
  obtain ⟨p, q, hA, _, _, _, _⟩ := hW
  obtain ⟨avs, h1, h2⟩ := hrun W base args ds p hval hA
  refine (h2 (E0 W) W args (Rel.start W) h1).mono ?_
  rintro e W' ⟨v, E', x, h', rfl, k, r', vx, rfl⟩
  simp only [VR] at vx
  subst vx
  exact ⟨_, rfl, post_of_keep hl hr hW0 hv k ht hb hs⟩
end
end Go.Vm
