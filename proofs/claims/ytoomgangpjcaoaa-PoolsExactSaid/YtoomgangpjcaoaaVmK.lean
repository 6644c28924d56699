/-
  The rewrite rules by which operations are evaluated.
-/
import Derived.Test.YtoomgangpjcaoaaVmJ
import Derived.Laws.BitsLemmas
namespace Go.Vm

theorem ElT.of {P : Program} {t e : TypeId} {sz b : Nat} (ht : P.underlying t = some (.slice e)) (hi : (P.info? e).map (fun i => (i.zero.map fun z => z.cells.size, i.size, i.bytes)) = some (some sz, sz, b)) (h0 : 0 < sz) : ElT P t e sz b := by
  refine ⟨ht, ?_⟩
  cases e1 : P.info? e with
  | none => rw [e1] at hi; simp at hi
  | some i =>
    cases e2 : i.zero with
    | none => rw [e1] at hi; simp [e2] at hi
    | some z =>
      rw [e1] at hi
      simp [e2] at hi
      exact ⟨i, z, rfl, e2, hi.2.1, hi.2.2, hi.1, h0⟩

/-- Code, as far as it can be evaluated: loops, regions that draw their order, and what 'aops' does not know are left. -/
def ac (P : Program) : Code → (Exit → Fr → Heap → Prop) → Fr → Heap → Prop
  | .skip, Q, fr, h => Q .normal fr h
  | .region id ops draw, Q, fr, h => match draw with
    | true => AW P (.region id ops true) Q fr h
    | false => aops P ops (Q .normal) ops.toList fr h
  | .seq a b, Q, fr, h => ac P a (Seq (ac P b Q) Q) fr h
  | .cond c x y, Q, fr, h => match ev fr c with
    | .sc (.bool b) => if b = true then ac P x Q fr h else ac P y Q fr h
    | _ => AW P (.cond c x y) Q fr h
  | .block id c, Q, fr, h => ac P c (Blk id Q) fr h
  | .exit id, Q, fr, h => Q (.exit id) fr h
  | .ret, Q, fr, h => Q .ret fr h
  | c, Q, fr, h => AW P c Q fr h

theorem ac_sound {P : Program} : ∀ (c : Code) (Q : Exit → Fr → Heap → Prop) (fr : Fr) (h : Heap), ac P c Q fr h → AW P c Q fr h
  | .skip, Q, fr, h, q => AW_skip q
  | .region id ops draw, Q, fr, h, q => by
    cases draw with
    | true => exact q
    | false =>
      have : (Code.region id ops false) = Code.region id ops.toList.toArray false := by simp
      rw [this]
      simp only [ac] at q
      exact AW_region_aops (by simpa using q)
  | .seq a b, Q, fr, h, q => AW_seq ((ac_sound a _ fr h q).mono fun e fr' h' p => by
      cases e with
      | normal => exact ac_sound b Q fr' h' p
      | exit id => exact p
      | goto l => exact p
      | ret => exact p
      | panic ch => exact p
      | outgrown => exact p)
  | .cond c x y, Q, fr, h, q => by
    simp only [ac] at q
    split at q
    · rename_i b hb
      exact AW_if hb (fun e => ac_sound x Q fr h (by rw [if_pos e] at q; exact q)) (fun e => ac_sound y Q fr h (by rw [if_neg (by simp [e])] at q; exact q))
    · exact q
  | .block id c, Q, fr, h, q => AW_block (ac_sound c _ fr h q)
  | .exit id, Q, fr, h, q => AW_exit q
  | .ret, Q, fr, h, q => AW_ret q
  | .loop c, Q, fr, h, q => q
  | .rangeFunc f ps a b, Q, fr, h, q => q
  | .scope b, Q, fr, h, q => q
  | .label l, Q, fr, h, q => q
  | .goto l, Q, fr, h, q => q
  | .refuse y, Q, fr, h, q => q

theorem ACalls_ac {P : Program} {f : FuncId} {fn : Func} {c : Code} {args : List AV} {h : Heap} {Q : AV → Heap → Prop} (hf : P.funcs[f]? = some fn) (hb : fn.body = some c)
    (hc : ac P c (Ret P fn.results.toList Q) (args ++ List.replicate (fn.ntmps - args.length) (.sc undef)) h) : ACalls P f args h Q :=
  ACalls_of_AW hf hb (ac_sound _ _ _ _ hc)

theorem wrap_i64_id {n : Int} (h1 : -9223372036854775808 ≤ n) (h2 : n ≤ 9223372036854775807) : IntKind.wrap .i64 n = n := by
  rw [IntKind.wrap_i64]; omega
theorem wrap_u8_mod (n : Int) : IntKind.wrap .u8 n = n % 256 := by simp [IntKind.wrap, IntKind.bits, IntKind.signed]
theorem wrap_u32_mod (n : Int) : IntKind.wrap .u32 n = n % 4294967296 := by simp [IntKind.wrap, IntKind.bits, IntKind.signed]
theorem wrap_u64_mod (n : Int) : IntKind.wrap .u64 n = n % 18446744073709551616 := by simp [IntKind.wrap, IntKind.bits, IntKind.signed]

/-! ### One statement behind the other -/

section steps
variable {P : Program} {Q : Exit → Fr → Heap → Prop} {fr : Fr} {h : Heap} {a b : Code}
theorem AW_k (hk : ∀ K : Fr → Heap → Prop, (∀ fr h, AW P b Q fr h → K fr h) → AW P a (Seq K Q) fr h) : AW P (.seq a b) Q fr h := AW_seq (hk _ fun _ _ h => h)
theorem AW_r {id : Nat} {l : List Oper} (hl : aops P l.toArray (Q .normal) l fr h) : AW P (.region id l.toArray false) Q fr h := AW_region_aops hl
theorem AW_b {id : Nat} (hk : ∀ K : Fr → Heap → Prop, (∀ fr h, Q .normal fr h → K fr h) → AW P a (fun e => match e with | .normal => K | .exit i => if i = id then K else Q (.exit i) | e => Q e) fr h) : AW P (.block id a) Q fr h := by
  refine AW_block ((hk (Q .normal) fun _ _ h => h).mono ?_)
  intro e fr h q
  cases e with
  | exit i =>
    simp only [Blk]
    simp only at q
    split
    · rename_i e; rw [if_pos e] at q; exact q
    · rename_i e; rw [if_neg e] at q; exact q
  | normal => exact q
  | goto l => exact q
  | ret => exact q
  | panic ch => exact q
  | outgrown => exact q
end steps

/-! ### Loops: what some slots hold, as a function of a state of one's own -/

def mf (n : Nat) (kvs : List (Nat × AV)) : Fr := kvs.foldl (fun fr p => fr.set p.1 p.2) (List.replicate n .any)

def fits (h : Heap) (fr : Fr) : List (Nat × AV) → Prop
  | [] => True
  | (i, v) :: r => (match fr[i]? with | some x => ALe h x v | none => False) ∧ fits h fr r

theorem ALe_self (h : Heap) (x : AV) : ALe h x x ↔ True := iff_true_intro (ALe.refl h x)
theorem ALe.of_eq {h : Heap} {x y : AV} (e : x = y) : ALe h x y := e ▸ ALe.refl h x
theorem ALe.int {h : Heap} {k : IntKind} {a b : Int} (e : a = b) : ALe h (.sc (.int k a)) (.sc (.int k b)) := e ▸ ALe.refl h _

theorem ALeL_set {h : Heap} : ∀ {xs ys : List AV} (i : Nat) {x y : AV}, ALeL h xs ys → xs[i]? = some x → ALe h x y → ALeL h xs (ys.set i y)
  | _, _, _, _, _, .nil, hx, _ => by simp at hx
  | _, _, 0, _, _, .cons _ hl, hx, hle => by simp at hx; subst hx; exact .cons hle hl
  | _, _, i + 1, _, _, .cons h0 hl, hx, hle => by simp at hx; exact .cons h0 (ALeL_set i hl hx hle)

theorem ALeL_any {h : Heap} : ∀ (xs : List AV), ALeL h xs (List.replicate xs.length .any)
  | [] => .nil
  | x :: xs => .cons (ALe.any h x) (ALeL_any xs)

theorem ALeL_mf {h : Heap} {fr : Fr} (kvs : List (Nat × AV)) (hf : fits h fr kvs) : ALeL h fr (mf fr.length kvs) := by
  unfold mf
  have : ∀ (kvs : List (Nat × AV)) (ys : List AV), ALeL h fr ys → fits h fr kvs → ALeL h fr (kvs.foldl (fun fr p => fr.set p.1 p.2) ys) := by
    intro kvs
    induction kvs with
    | nil => intro ys hl _; exact hl
    | cons p r ih =>
      intro ys hl hf
      obtain ⟨i, v⟩ := p
      simp only [fits] at hf
      obtain ⟨h1, h2⟩ := hf
      simp only [List.foldl_cons]
      cases e : fr[i]? with
      | none => rw [e] at h1; exact h1.elim
      | some x => rw [e] at h1; exact ih _ (ALeL_set i hl e h1) h2
  exact this kvs _ (ALeL_any fr) hf

theorem AW_loop_s {P : Program} {c : Code} {Q : Exit → Fr → Heap → Prop} {fr : Fr} {h : Heap} {σ : Type} (n : Nat) (slots : σ → List (Nat × AV)) (H : σ → Heap) (μ : σ → Nat) (inv : σ → Prop) (s0 : σ)
    (hn : fr.length = n) (h0 : inv s0) (hf : fits (H s0) fr (slots s0)) (hs : Sub (H s0) h)
    (round : ∀ s, inv s → AW P c (Seq (fun fr' h' => fr'.length = n ∧ ∃ s', inv s' ∧ μ s' < μ s ∧ Sub (H s') h' ∧ fits (H s') fr' (slots s')) Q) (mf n (slots s)) (H s)) : AW P (.loop c) Q fr h := by
  refine AW_loop (fun m fr' h' => fr'.length = n ∧ ∃ s', inv s' ∧ μ s' = m ∧ Sub (H s') h' ∧ fits (H s') fr' (slots s')) (μ s0) ⟨hn, s0, h0, rfl, hs, hf⟩ ?_
  rintro m fr' h' ⟨hn', s, hi, rfl, hs', hf'⟩
  have hl := ALeL_mf (slots s) hf'
  rw [hn'] at hl
  refine AW_le hs' hl ((round s hi).mono ?_)
  intro e fr'' h'' q
  cases e with
  | normal => obtain ⟨q0, s', q1, q2, q3, q4⟩ := q; exact ⟨μ s', q2, q0, s', q1, rfl, q3, q4⟩
  | exit id => exact q
  | goto l => exact q
  | ret => exact q
  | panic ch => exact q
  | outgrown => exact q

/-- One operation at a time. -/
theorem aops_cons {P : Program} {ops : Array Oper} {K : Fr → Heap → Prop} {o : Oper} {l : List Oper} {fr : Fr} {h : Heap}
    (hk : match o.guard with
    | none => match pv P h fr o.op with
      | some r => r.1 ∧ aops P ops K l (fput fr o.dst r.2) h
      | none => AOps P ops (o :: l) K fr h
    | some (j, want) => match (ops[j]?).bind (·.dst) with
      | some d => match fr[d]? with
        | some (.sc (.bool b)) => if b = want then match pv P h fr o.op with
            | some r => r.1 ∧ aops P ops K l (fput fr o.dst r.2) h
            | none => AOps P ops ({ o with guard := none } :: l) K fr h
          else aops P ops K l (fput fr o.dst (.sc undef)) h
        | some (.sc (.tuple _)) => aops P ops K l (fput fr o.dst (.sc undef)) h
        | _ => AOps P ops (o :: l) K fr h
      | none => AOps P ops (o :: l) K fr h) : aops P ops K (o :: l) fr h := by
  rw [aops.eq_def]; exact hk
theorem aops_nil {P : Program} {ops : Array Oper} {K : Fr → Heap → Prop} {fr : Fr} {h : Heap} (hk : K fr h) : aops P ops K [] fr h := by
  rw [aops.eq_def]; exact hk
theorem aqs_cons {P : Program} {ops : Array Oper} {h : Heap} {K : Fr → Prop} {o : Oper} {l : List Oper} {fr : Fr}
    (hk : match o.guard with
    | none => match pv P h fr o.op with
      | some r => r.1 ∧ aqs P ops h K l (fput fr o.dst r.2)
      | none => AQuiet P ops h K (o :: l) fr
    | some (j, want) => match (ops[j]?).bind (·.dst) with
      | some d => match fr[d]? with
        | some (.sc (.bool b)) => if b = want then match pv P h fr o.op with
            | some r => r.1 ∧ aqs P ops h K l (fput fr o.dst r.2)
            | none => AQuiet P ops h K ({ o with guard := none } :: l) fr
          else aqs P ops h K l (fput fr o.dst (.sc undef))
        | some (.sc (.tuple _)) => aqs P ops h K l (fput fr o.dst (.sc undef))
        | _ => AQuiet P ops h K (o :: l) fr
      | none => AQuiet P ops h K (o :: l) fr) : aqs P ops h K (o :: l) fr := by
  rw [aqs.eq_def]; exact hk
theorem aqs_nil {P : Program} {ops : Array Oper} {h : Heap} {K : Fr → Prop} {fr : Fr} (hk : K fr) : aqs P ops h K [] fr := by
  rw [aqs.eq_def]; exact hk

attribute [go_sem] mf fits ALe_self List.foldl_cons List.foldl_nil
attribute [go_sem] undef ac pv pvc fput ev cv pkA pk bv ib sh sb unA cvA nilA exA intA ixA fdA ldA ldv bdA slA sl3 sl00 slM lnA tt Seq Blk Ret resA rsA rsL
attribute [go_sem] List.set_cons_succ List.set_cons_zero List.getD_cons_succ List.getD_cons_zero List.getElem?_cons_succ List.getElem?_cons_zero Option.bind_some Option.map_some Option.bind_none Option.map_none List.getElem?_toArray
  List.length_cons List.length_nil List.cons_append List.nil_append List.replicate true_and and_true forall_const if_true if_false false_and and_false false_implies implies_true true_implies Bool.not_true Bool.not_false not_true_eq_false not_false_eq_true decide_true decide_false decide_eq_true_eq decide_eq_false_iff_not List.head?_cons Int.natCast_zero List.map_nil List.drop_zero List.drop_succ_cons

end Go.Vm
