/-
  Bytes held against each other by the runtime's Compare.
-/
import Derived.Test.YtoomgangpjcaoaaK7VmX
namespace Go.Vm

def bA (xs : List Int) : ByteArray := xs.foldl (fun acc z => acc.push z.toNat.toUInt8) .empty
def cmpI (xs ys : List Int) : Int := Extern.BytealgCompare.cmp (bA xs) (bA ys)

theorem run_loadBytes {P : Program} {w : World} {g : Nat} : ∀ (xs : List Int) (o : Nat) (acc : ByteArray), (∀ (j : Nat) (z : Int), xs[j]? = some z → w.cell? ⟨g, o + j, none⟩ = some (.int .u8 z)) →
    (Extern.Bytes.loadBytes ⟨g, o, none⟩ xs.length acc).run P w = .ok (xs.foldl (fun acc z => acc.push z.toNat.toUInt8) acc) w
  | [], _, _, _ => rfl
  | z :: xs, o, acc, hc => by
    have h0 := hc 0 z rfl
    simp only [Nat.add_zero] at h0
    have ih := run_loadBytes (P := P) xs (o + 1) (acc.push z.toNat.toUInt8) (fun j y hj => by
      have := hc (j + 1) y (by simpa using hj)
      rwa [show o + (j + 1) = o + 1 + j from by omega] at this)
    have hl : (load ⟨g, o, none⟩).run P w = .ok (.int .u8 z) w := by simp [load, Sem.run, h0]
    simp only [List.length_cons, Extern.Bytes.loadBytes, Sem.run_bind, hl, Result.andThen_ok, List.foldl_cons]
    rw [Addr.add_lit]
    exact ih

def Byt (P : Program) (h : Heap) (a : AV) (xs : List Int) : Prop := ∀ E w v, Rel E h w → VR E w a v → (Extern.Bytes.bytesOf v).run P w = .ok (bA xs) w

theorem flat1 (xs : List Int) : (xs.map fun z => [AV.sc (.int .u8 z)]).flatten = xs.map fun z => AV.sc (.int .u8 z) := by
  induction xs with
  | nil => rfl
  | cons x xs ih => simp [ih]

theorem Byt.sl {P : Program} (h : Heap) (tag : Option Key) (xs : List Int) : Byt P h (.sl tag 1 (xs.map fun z => [AV.sc (.int .u8 z)])) xs := by
  intro E w v r hv
  cases xs with
  | nil =>
    simp only [VR, List.map_nil] at hv
    obtain ⟨a, cap, rfl, _⟩ := hv
    cases a with
    | none => rfl
    | some a => rfl
  | cons x xs =>
    obtain ⟨g, o, cap, cv, rfl, c1, c2, c3, c4⟩ := sl_cells hv (by simp)
    rw [flat1] at c1
    have hcv := VRL_ints c1
    subst hcv
    have := run_loadBytes (P := P) (w := w) (g := g) (x :: xs) o .empty (fun j z hj => (c4 j (.int .u8 z) (by rw [List.getElem?_map, hj]; rfl)).1)
    simpa [Extern.Bytes.bytesOf, bA] using this
theorem Byt.view {P : Program} {h : Heap} {q : Key} {off : Nat} {ty : TypeId} {cs : List AV} {y : Id32} (hq : h q = some (.obj ty cs)) (hc : (cs.drop off).take 32 = c_id y) : Byt P h (.view q off 32) y.1 := by
  intro E w v r hv
  simp only [VR] at hv
  obtain ⟨g, cap, hg, rfl, _⟩ := hv
  obtain ⟨g', cur, e1, e2, e3, e4⟩ := r.obj q ty cs hq
  rw [hg] at e1; cases e1
  have hl := VRL_take 32 (VRL_drop off e3)
  rw [hc, c_id_map] at hl
  have hcv := VRL_ints hl
  have := run_loadBytes (P := P) (w := w) (g := g) y.1 off .empty (fun j z hj => by
    have h1 : ((cur.toList.drop off).take 32)[j]? = some (.int .u8 z) := by rw [hcv, List.getElem?_map, hj]; rfl
    have hj32 : j < 32 := by
      have := (List.getElem?_eq_some_iff.1 h1).1
      rw [List.length_take] at this; omega
    rw [List.getElem?_take_of_lt hj32, List.getElem?_drop] at h1
    simp only [World.cell?, e2]
    simpa using h1)
  rw [y.2] at this
  simpa [Extern.Bytes.bytesOf, bA] using this

/-- The runtime's Compare: a function without a body. -/
structure CmpF (P : Program) (f : FuncId) : Prop where
  ex : ∃ fn, P.funcs[f]? = some fn ∧ (fn.name == "runtime.NumGoroutine") = false ∧ fn.body.isNone = true ∧ Extern.findNext fn = none ∧ Extern.find fn = some Extern.BytealgCompare.compare

section ops
variable {P : Program} {h : Heap} {n : Nat} {kvs : KV} {ty : TypeId} {pos : String} {aft : Array Edge}

theorem o_cmp {dst : Option Tmp} {f : FuncId} {x y : Operand} {ts : Array TypeId} {a b : AV} {xs ys : List Int} (hf : CmpF P f) (ha : evk n kvs x = a) (hb : evk n kvs y = b) (h1 : Byt P h a xs) (h2 : Byt P h b ys) :
    AOpV P ⟨dst, .call { callee := .value (.func f), args := #[x, y], argTypes := ts }, ty, pos, aft, none⟩ (.sc (.int .i64 (cmpI xs ys))) (fm n kvs) h := by
  refine AOp_value (x := .sc (.int .i64 (cmpI xs ys))) (fun E w ac r hv => ?_) ⟨rfl, rfl⟩
  have va := hv x (by simp [Op.operands, Call.operands])
  have vb := hv y (by simp [Op.operands, Call.operands])
  rw [ev_fm, ha] at va; rw [ev_fm, hb] at vb
  obtain ⟨fn, f1, f2, f3, f4, f5⟩ := hf.ex
  refine ⟨.int .i64 (cmpI xs ys), ?_, by simp only [VR]⟩
  have hext := run_callFunc_extern f1 f2 f3 f4 f5 #[ac.eval x, ac.eval y] w
  have r1 := h1 E w _ r va
  have r2 := h2 E w _ r vb
  have hcmp : (Extern.BytealgCompare.compare #[ac.eval x, ac.eval y]).run P w = .ok (.int .i64 (cmpI xs ys)) w := by
    change Sem.run P (do
      let p ← Extern.Bytes.bytesOf (ac.eval x)
      let q ← Extern.Bytes.bytesOf (ac.eval y)
      pure (goInt (Extern.BytealgCompare.cmp p q))) w = _
    simp only [Sem.run_bind, r1, r2, Result.andThen_ok, Sem.run_pure]
    rfl
  rw [hcmp] at hext
  simp only [execOp, resolve, List.map_toArray, List.map_cons, List.map_nil]
  have : (ac.eval (.func f)) = .func (.func f) #[] #[] := rfl
  simp only [this, Deferred.ofValue, Sem.run_bind, Sem.run_pure, Result.andThen_ok, invoke]
  simpa using hext
/-- A whole array in an object, as a slice. -/
theorem o_slv {dst : Option Tmp} {t : TypeId} {a : Operand} {q : Key} {off : Nat} (ht : arS P t = some (32, 1)) (ha : evk n kvs a = .ptr q off) : AOpV P ⟨dst, .slice t a none none none, ty, pos, aft, none⟩ (.view q off 32) (fm n kvs) h := by
  have hT : slT P t = true := by simp [slT, ht]
  refine o_pv (c := ((32 : Nat) ≤ 1000000 ∧ (0 : Int) ≤ 0 ∧ (0 : Int) < 32 ∧ (32 : Int) ≤ (32 : Nat))) ?_ ⟨by decide, by decide, by decide, by decide⟩
  simp only [pv, ev_fm, ha, Option.map_none, slA, ht, Option.bind_some, bdA, hT, if_true]
  rfl
theorem srcOf_id {q : Key} {off : Nat} {oty : TypeId} {cs : List AV} {y : Id32} (hq : h q = some (.obj oty cs)) (hc : (cs.drop off).take 32 = c_id y) (hl : Nat.ble (off + 32 * 1) cs.length = true) : srcOf h 1 (.view q off 32) = some (y.1.map fun z => [AV.sc (.int .u8 z)]) := by
  have hl' := Nat.le_of_ble_eq_true hl
  simp only [srcOf, hq, if_pos hl', Option.some.injEq]
  have gen : ∀ (m : Nat) (l : List AV), m ≤ l.length → grp 1 m l = (l.take m).map fun x => [x] := by
    intro m
    induction m with
    | zero => intro l _; simp [grp]
    | succ m ih =>
      intro l hm
      cases l with
      | nil => simp at hm
      | cons x l => simp only [grp, List.take_succ_cons, List.take_zero, List.map_cons, List.drop_succ_cons, List.drop_zero]; rw [ih l (by simpa using hm)]
  rw [gen 32 _ (by rw [List.length_drop]; omega), hc, c_id_map, List.map_map]
  rfl
end ops
theorem Seq_exit {Q : Exit → Fr → Heap → Prop} {h : Heap} {K : Fr → Heap → Prop} {i : Nat} {fr : Fr} (hq : Q (.exit i) fr h) : Seq K Q (.exit i) fr h := hq

end Go.Vm
