/-
  Ids of 32 bytes; results in cells; struct values; comparing bytes.
-/
import Derived.Test.YtoomgangpjcaoaaK7VmQ
import Derived.Laws.Externs
namespace Go.Vm

abbrev Id32 := {l : List Int // l.length = 32}
def c_id (x : Id32) : List AV := (List.range 32).map fun i => .sc (.int .u8 (x.1.getD i 0))
def idZ : Id32 := ⟨List.replicate 32 0, rfl⟩

theorem c_id_map (x : Id32) : c_id x = x.1.map fun z => AV.sc (.int .u8 z) := by
  apply List.ext_getElem
  · simp [c_id, x.2]
  · intro i h1 h2
    simp only [c_id, List.getElem_map, List.getElem_range]
    have : i < x.1.length := by simpa using h2
    simp [List.getD, List.getElem?_eq_getElem this]

theorem all_getD : ∀ (xs ys : List Int), xs.length = ys.length → ((List.range xs.length).all fun i => xs.getD i 0 == ys.getD i 0) = decide (xs = ys)
  | [], [], _ => rfl
  | x :: xs, y :: ys, h => by
    have ih := all_getD xs ys (by simpa using h)
    rw [List.length_cons, List.range_succ_eq_map, List.all_cons, List.all_map]
    simp only [List.getD_cons_zero, Function.comp_def, List.getD_cons_succ, ih]
    by_cases h1 : x = y <;> by_cases h2 : xs = ys <;> simp [h1, h2]
  | [], _ :: _, h => by simp at h
  | _ :: _, [], h => by simp at h

section
variable {P : Program} (w : World)
theorem run_equalIn_ints (d : Nat) (t e : TypeId) (n : Nat) (ht : P.underlying t = some (.array n e)) (he : P.underlying e = some (.int .u8)) (hsz : ∀ w, (sizeOf e).run P w = .ok 1 w)
    (xs ys : List Int) (hx : xs.length = n) (hy : ys.length = n) :
    (Op.equalIn (d + 2) t (.agg (xs.map (Value.int .u8)).toArray) (.agg (ys.map (Value.int .u8)).toArray)).run P w = .ok (decide (xs = ys)) w := by
  rw [← all_getD xs ys (hx.trans hy.symm), hx, List.range_eq_range', Op.equalIn]
  simp only [Sem.run_bind, run_underlying ht, Result.andThen_ok, hsz, Std.Legacy.Range.forIn_eq_forIn_range', Std.Legacy.Range.size, Nat.sub_zero, Nat.add_sub_cancel, Nat.div_one]
  have hl : ∀ i ∈ List.range' 0 n 1, i < n := fun i hi => by simpa using (List.mem_range'_1.1 hi).2
  generalize List.range' 0 n 1 = l at hl ⊢
  induction l with
  | nil => simp
  | cons i l ih =>
    have hi : i < n := hl i (by simp)
    have px : (part e (xs.map (Value.int .u8)).toArray (i * 1)).run P w = .ok (.int .u8 (xs.getD i 0)) w := by
      simp [part, isAgg, run_underlying he, List.getD, List.getElem?_eq_getElem (show i < xs.length by omega)]
    have py : (part e (ys.map (Value.int .u8)).toArray (i * 1)).run P w = .ok (.int .u8 (ys.getD i 0)) w := by
      simp [part, isAgg, run_underlying he, List.getD, List.getElem?_eq_getElem (show i < ys.length by omega)]
    have pe : (Op.equalIn (d + 1) e (.int .u8 (xs.getD i 0)) (.int .u8 (ys.getD i 0))).run P w = .ok (xs.getD i 0 == ys.getD i 0) w := run_equalIn_int w d e .u8 .u8 _ _ he
    simp only [List.forIn_cons, Sem.run_bind, px, py, pe, Result.andThen_ok, List.all_cons]
    cases hb : (xs.getD i 0 == ys.getD i 0)
    · simp
    · simp only [Bool.not_true, Bool.false_eq_true, if_false, Sem.run_pure, Result.andThen_ok, Bool.true_and]
      exact ih fun j hj => hl j (by simp [hj])
end

theorem VRL_ints {E : Env} {w : World} : ∀ {xs : List Int} {vs : List Value}, VRL E w (xs.map fun z => AV.sc (.int .u8 z)) vs → vs = xs.map (Value.int .u8)
  | [], [], _ => rfl
  | x :: xs, v :: vs, h => by
    simp only [List.map_cons, VRL, VR] at h
    rw [h.1, VRL_ints h.2]; rfl
  | [], _ :: _, h => by simp [VRL] at h
  | _ :: _, [], h => by simp [VRL] at h

section ops
variable {P : Program} {ops : Array Oper} {h h0 : Heap} {L : HL} {n : Nat} {kvs : KV} {l : List Oper} {ty : TypeId} {pos : String} {aft : Array Edge}

theorem id_agg {E : Env} {w : World} {x : Id32} {v : Value} (h : VR E w (.agg (c_id x)) v) : v = .agg (x.1.map (Value.int .u8)).toArray := by
  simp only [VR] at h
  obtain ⟨cs, rfl, hc⟩ := h
  rw [c_id_map] at hc
  have := VRL_ints hc
  rw [← this]

theorem run_eqGuard_agg {P : Program} {op : BinOp} {t : TypeId} {x y : Operand} {a b : Array Value} (hg : P.eqGuardType P.depth t = false) (w : World) : (eqGuard op t x y (.agg a) (.agg b)).run P w = .ok () w := by
  unfold eqGuard
  cases op <;> simp [program, Sem.run, hg]

theorem o_ide {dst : Option Tmp} {t u e : TypeId} {a b : Operand} {x y : Id32} (hg : P.eqGuardType P.depth t = false) (ht : P.underlying t = some (.array 32 e)) (he : P.underlying e = some (.int .u8)) (hl : ldT P e = some (false, 1)) (ha : evk n kvs a = .agg (c_id x)) (hb : evk n kvs b = .agg (c_id y)) :
    AOpV P ⟨dst, .binOp .eql t a b u, ty, pos, aft, none⟩ (.sc (.bool (decide (x = y)))) (fm n kvs) h := by
  refine AOp_value (x := .sc (.bool (decide (x = y)))) (fun E w ac _ hv => ?_) ⟨rfl, rfl⟩
  have va := hv a (by simp [Op.operands])
  have vb := hv b (by simp [Op.operands])
  rw [ev_fm, ha] at va; rw [ev_fm, hb] at vb
  have ea := id_agg va
  have eb := id_agg vb
  refine ⟨.bool (decide (x = y)), ?_, by simp only [VR]⟩
  have hs := (ldT_spec hl).2
  have hq := run_equalIn_ints w 9998 t e 32 ht he (fun w => run_sizeOf' hs w) x.1 y.1 x.2 y.2
  have hd : decide (x = y) = decide (x.1 = y.1) := by
    by_cases q : x = y
    · subst q; simp
    · have : ¬ x.1 = y.1 := fun e => q (Subtype.ext e)
      simp [q, this]
  simp only [execOp, ea, eb]
  simp only [Sem.run_bind, run_eqGuard_agg hg, Result.andThen_ok, binOp, Op.equal, Op.maxDepth, hq, Sem.run_pure, hd]
/-- An element of an Id that lies in an object, or in memory that stays. -/
theorem o_ixidp {dst : Option Tmp} {a b : Operand} {t : TypeId} {q : Key} {off : Nat} {k : IntKind} {i x : Int} {y : Id32} (hi : ix y.1 i = some x) (ht : arS P t = some (32, 1)) (ha : evk n kvs a = .ptr q off) (hb : evk n kvs b = .sc (.int k i)) :
    AOpV P ⟨dst, .indexAddr t a b, ty, pos, aft, none⟩ (.ptr q (off + i.toNat)) (fm n kvs) h := by
  obtain ⟨h0, h1, h2⟩ := ix_spec hi
  rw [y.2] at h1
  refine o_pv (c := 0 ≤ i ∧ i < 32) ?_ ⟨h0, by omega⟩
  simp only [pv, ev_fm, ha, hb, intA, ixA, ht, Option.bind_some, Nat.mul_one]
  rfl
theorem o_ldidp {dst : Option Tmp} {a : Operand} {t : TypeId} {q : Key} (off : Nat) {i x : Int} {y : Id32} {oty : TypeId} {cs : List AV} (hi : ix y.1 i = some x) (ht : ldT P t = some (false, 1)) (ha : evk n kvs a = .ptr q (off + i.toNat)) (hk : h q = some (.obj oty cs)) (hc : (cs.drop off).take 32 = c_id y) :
    AOpV P ⟨dst, .load t a, ty, pos, aft, none⟩ (.sc (.int .u8 x)) (fm n kvs) h := by
  refine o_ldp _ ht ha hk ?_
  obtain ⟨h0, h1, h2⟩ := ix_spec hi
  rw [y.2] at h1
  have e : (cs.drop off)[i.toNat]? = some (.sc (.int .u8 x)) := by
    have : ((cs.drop off).take 32)[i.toNat]? = (c_id y)[i.toNat]? := by rw [hc]
    rw [List.getElem?_take_of_lt (by omega), c_id_map, List.getElem?_map, h2] at this
    exact this
  simp only [ldv]
  rw [← List.drop_drop, List.head?_drop, e]
/-! ### Results in cells -/

theorem rsC {a t : Nat} {q : Key} {off : Nat} {oty : TypeId} {cs : List AV} {ag : Bool} {m : Nat} (x : AV) (ht : ldT P t = some (ag, m)) (ha : lk n kvs a = .ptr q off) (hk : h q = some (.obj oty cs)) (hx : ldv ag m (cs.drop off) = some x) : rsA P h (fm n kvs) (.cell a t) = some x := by
  have := ev_fm n kvs (.tmp a)
  simp only [ev, evk] at this
  simp only [rsA, ht, Option.bind_some, this, ha, ldA, hk, hx]
theorem Ret.of1 {r : ResultVar} {Q : AV → Heap → Prop} {e : Exit} {h'' : Heap} {x y : AV} (he : e = .ret ∨ e = .normal) (hx : rsA P h (fm n kvs) r = some x) (hs : Sub h'' h) (hl : ALe h'' x y) (hq : Q y h'') : Ret P [r] Q e (fm n kvs) h := by
  rcases he with rfl | rfl <;> exact ⟨x, y, h'', hx, hs, hl, hq⟩
theorem Ret.of2 {r1 r2 : ResultVar} {Q : AV → Heap → Prop} {e : Exit} {h'' : Heap} {x1 x2 y1 y2 : AV} (he : e = .ret ∨ e = .normal) (hx1 : rsA P h (fm n kvs) r1 = some x1) (hx2 : rsA P h (fm n kvs) r2 = some x2) (hs : Sub h'' h) (hl1 : ALe h'' x1 y1) (hl2 : ALe h'' x2 y2) (hq : Q (.tup [y1, y2]) h'') : Ret P [r1, r2] Q e (fm n kvs) h := by
  have hx : resA P h (fm n kvs) [r1, r2] = some (.tup [x1, x2]) := by simp only [resA, rsL, hx1, hx2, Option.bind_some, Option.map_some]
  rcases he with rfl | rfl <;> exact ⟨_, _, h'', hx, hs, ALe.tup (.cons hl1 (.cons hl2 .nil)), hq⟩
theorem Ret.of3 {r1 r2 r3 : ResultVar} {Q : AV → Heap → Prop} {e : Exit} {h'' : Heap} {x1 x2 x3 y1 y2 y3 : AV} (he : e = .ret ∨ e = .normal) (hx1 : rsA P h (fm n kvs) r1 = some x1) (hx2 : rsA P h (fm n kvs) r2 = some x2) (hx3 : rsA P h (fm n kvs) r3 = some x3) (hs : Sub h'' h) (hl1 : ALe h'' x1 y1) (hl2 : ALe h'' x2 y2) (hl3 : ALe h'' x3 y3) (hq : Q (.tup [y1, y2, y3]) h'') : Ret P [r1, r2, r3] Q e (fm n kvs) h := by
  have hx : resA P h (fm n kvs) [r1, r2, r3] = some (.tup [x1, x2, x3]) := by simp only [resA, rsL, hx1, hx2, hx3, Option.bind_some, Option.map_some]
  rcases he with rfl | rfl <;> exact ⟨_, _, h'', hx, hs, ALe.tup (.cons hl1 (.cons hl2 (.cons hl3 .nil))), hq⟩
theorem rsT (P : Program) (h : Heap) {t : Nat} (x : AV) (hx : lk n kvs t = x) : rsA P h (fm n kvs) (.tmp t) = some x := by rw [rsA_fm, hx]

/-! ### Struct values -/

def bldT (P : Program) (t : TypeId) : Option (List Value × List (Nat × Nat)) := match P.info? t, P.underlying t with
  | some it, some (.struct fields) => match it.zero, fields.toList.mapM (fun f => (P.info? f.type).map fun i => (f.offset, i.size)) with
    | some z, some pl => some (z.cells.toList, pl)
    | _, _ => none
  | _, _ => none
def bldA (pl : List (Nat × Nat)) : List AV → List (Nat × AV) → Option (List AV)
  | cs, [] => some cs
  | cs, (i, x) :: r => match pl[i]?, cellsOf x with
    | some (off, sz), some xs => if (xs.length == sz && Nat.ble (off + sz) cs.length && xs.all ocell) = true then bldA pl (splice cs off xs) r else none
    | _, _ => none

inductive PL (E : Env) (w : World) : List (Nat × AV) → List (Nat × Value) → Prop where
  | nil : PL E w [] []
  | cons {i : Nat} {x : AV} {v : Value} {ps : List (Nat × AV)} {vs : List (Nat × Value)} : VR E w x v → PL E w ps vs → PL E w ((i, x) :: ps) ((i, v) :: vs)

theorem bldA_sound {E : Env} {w : World} {pl : List (Nat × Nat)} : ∀ {ps : List (Nat × AV)} {cs cs' : List AV} {cur : Array Value} {vs : List (Nat × Value)}, bldA pl cs ps = some cs' → VRL E w cs cur.toList →
    PL E w ps vs → ∃ cur', Instr.fill (pl.toArray[·]?) cur vs = some cur' ∧ VRL E w cs' cur'.toList
  | [], cs, cs', cur, vs, hb, hv, hf => by
    cases hf
    simp only [bldA, Option.some.injEq] at hb
    subst hb
    exact ⟨cur, rfl, hv⟩
  | (i, x) :: r, cs, cs', cur, vs, hb, hv, hf => by
    cases hf with
    | cons hx h2 =>
      rename_i v qs
      simp only [bldA] at hb
      split at hb
      · rename_i off sz xs e1 e2
        split at hb
        · rename_i hc
          simp only [Bool.and_eq_true, beq_iff_eq] at hc
          obtain ⟨⟨c1, c2⟩, c3⟩ := hc
          have c2 := Nat.le_of_ble_eq_true c2
          obtain ⟨d1, d2⟩ := cellsOf_spec e2 c3 hx
          have hl := VRL_length d1
          have hl2 := VRL_length hv
          simp only [Array.length_toList] at hl hl2
          have hfold := foldl_set off v.cells.toList 0 cur (by simp; omega)
          have hnew : VRL E w (splice cs off xs) (v.cells.zipIdx.foldl (fun cs (c, j) => cs.setIfInBounds (off + j) c) cur).toList := by
            have e3 : (v.cells.zipIdx.foldl (fun cs (c, j) => cs.setIfInBounds (off + j) c) cur) = ((v.cells.toList.zipIdx 0).foldl (fun cs (c, j) => cs.setIfInBounds (off + j) c) cur) := by
              rw [← Array.foldl_toList]; simp
            rw [e3, hfold]
            simp only [Nat.add_zero, splice]
            rw [hl]
            exact VRL_append (VRL_append (VRL_take _ hv) d1) (VRL_drop _ hv)
          obtain ⟨cur', f1, f2⟩ := bldA_sound hb hnew h2
          refine ⟨cur', ?_, f2⟩
          have e4 : pl.toArray[i]? = some (off, sz) := by simpa using e1
          simp only [Instr.fill, e4]
          rw [if_neg (by simp; omega)]
          exact f1
        · cases hb
      · cases hb

theorem o_bld {dst : Option Tmp} {t : TypeId} {parts : Array (Nat × Operand)} {zs : List Value} {pl : List (Nat × Nat)} (cs : List AV) (hb : bldT P t = some (zs, pl)) (hc : bldA pl (zs.map .sc) (parts.toList.map fun p => (p.1, evk n kvs p.2)) = some cs) :
    AOpV P ⟨dst, .build t parts, ty, pos, aft, none⟩ (.agg cs) (fm n kvs) h := by
  refine AOp_value (x := .agg cs) (fun E w ac _ hv => ?_) ⟨rfl, rfl⟩
  have hps : ∀ (l : List (Nat × Operand)), (∀ p ∈ l, VR E w (ev (fm n kvs) p.2) (ac.eval p.2)) → PL E w (l.map fun p => (p.1, evk n kvs p.2)) (l.map fun p => (p.1, ac.eval p.2)) := by
    intro l
    induction l with
    | nil => intro _; exact .nil
    | cons p l ih =>
      intro hl
      refine .cons ?_ (ih fun q hq => hl q (by simp [hq]))
      have := hl p (by simp)
      rwa [ev_fm] at this
  have hall : ∀ p ∈ parts.toList, VR E w (ev (fm n kvs) p.2) (ac.eval p.2) := by
    intro p hp
    refine hv p.2 ?_
    simp only [Op.operands, Array.mem_def, List.mem_map]
    exact ⟨p, hp, rfl⟩
  have hz := VRL_sc (E := E) (w := w) zs
  obtain ⟨cur', f1, f2⟩ := bldA_sound (cur := zs.toArray) hc hz (hps _ hall)
  refine ⟨.agg cur', ?_, by simp only [VR]; exact ⟨_, rfl, f2⟩⟩
  have hbuilt : P.built t (parts.map fun (i, x) => (i, ac.eval x)).toList = some cur' := by
    unfold bldT at hb
    unfold Program.built
    cases hit : P.info? t with
    | none => simp [hit] at hb
    | some it =>
      cases hu : P.underlying t with
      | none => simp [hit, hu] at hb
      | some d =>
        cases d <;> try (simp [hit, hu] at hb; done)
        case struct fields =>
          cases hzr : it.zero with
          | none => simp [hit, hu, hzr] at hb
          | some z =>
            cases hp : fields.toList.mapM (fun f => (P.info? f.type).map fun i => (f.offset, i.size)) with
            | none => simp [hit, hu, hzr, hp] at hb
            | some places =>
              simp only [hit, hu, hzr, hp, Option.some.injEq, Prod.mk.injEq] at hb
              obtain ⟨rfl, rfl⟩ := hb
              have f1' : Instr.fill (places.toArray[·]?) z.cells (parts.map fun (i, x) => (i, ac.eval x)).toList = some cur' := by
                have : (parts.map fun (i, x) => (i, ac.eval x)).toList = parts.toList.map fun p => (p.1, ac.eval p.2) := by simp
                rw [this]
                simpa using f1
              simp only [hzr, hp]
              exact f1'
  simp only [execOp, Sem.run_bind, run_build w t _ cur' hbuilt, Result.andThen_ok, Sem.run_pure]
end ops
end Go.Vm
