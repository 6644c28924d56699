/-
  The rewrite rules by which operations are evaluated.
-/
import Derived.Test.YtafflcbcpbgloaaQ7VmJ
import Derived.Laws.BitsLemmas
namespace Go.Vm

theorem ElT.of {P : Program} {t e : TypeId} {sz b : Nat} (ht : P.underlying t = some (.slice e)) (hi : (P.info? e).map (fun i => (i.zero.map fun z => z.cells.size, i.size, i.bytes)) = some (some sz, sz, b)) (h0 : 0 < sz) : ElT P t e sz b := by
  refine ⟨ht, ?_⟩
  cases e1 : P.info? e with
  | none => rw [e1] at hi; simp at hi
  | some i =>
    cases e2 : i.zero with
    | none => rw [e1] at hi; simp [e2] at hi
    | some z =>
      rw [e1] at hi
      simp [e2] at hi
      exact ⟨i, z, rfl, e2, hi.2.1, hi.2.2, hi.1, h0⟩

/-- Code, as far as it can be evaluated: loops, regions that draw their order, and what 'aops' does not know are left. -/
def ac (P : Program) : Code → (Exit → Fr → Heap → Prop) → Fr → Heap → Prop
  | .skip, Q, fr, h => Q .normal fr h
  | .region id ops draw, Q, fr, h => match draw with
    | true => AW P (.region id ops true) Q fr h
    | false => aops P ops (Q .normal) ops.toList fr h
  | .seq a b, Q, fr, h => ac P a (Seq (ac P b Q) Q) fr h
  | .cond c x y, Q, fr, h => match ev fr c with
    | .sc (.bool b) => if b = true then ac P x Q fr h else ac P y Q fr h
    | _ => AW P (.cond c x y) Q fr h
  | .block id c, Q, fr, h => ac P c (Blk id Q) fr h
  | .exit id, Q, fr, h => Q (.exit id) fr h
  | .ret, Q, fr, h => Q .ret fr h
  | c, Q, fr, h => AW P c Q fr h

/-! ### One statement behind the other -/

section steps
variable {P : Program} {Q : Exit → Fr → Heap → Prop} {fr : Fr} {h : Heap} {a b : Code}
theorem AW_k (hk : ∀ K : Fr → Heap → Prop, (∀ fr h, AW P b Q fr h → K fr h) → AW P a (Seq K Q) fr h) : AW P (.seq a b) Q fr h := AW_seq (hk _ fun _ _ h => h)
end steps

/-! ### Loops: what some slots hold, as a function of a state of one's own -/

def mf (n : Nat) (kvs : List (Nat × AV)) : Fr := kvs.foldl (fun fr p => fr.set p.1 p.2) (List.replicate n .any)

def fits (h : Heap) (fr : Fr) : List (Nat × AV) → Prop
  | [] => True
  | (i, v) :: r => (match fr[i]? with | some x => ALe h x v | none => False) ∧ fits h fr r

theorem ALe_self (h : Heap) (x : AV) : ALe h x x ↔ True := iff_true_intro (ALe.refl h x)
theorem ALe.int {h : Heap} {k : IntKind} {a b : Int} (e : a = b) : ALe h (.sc (.int k a)) (.sc (.int k b)) := e ▸ ALe.refl h _

attribute [go_sem] mf fits ALe_self List.foldl_cons List.foldl_nil
attribute [go_sem] undef ac pv pvc fput ev cv pkA pk bv ib sh sb unA cvA nilA exA intA ixA fdA ldA ldv bdA slA sl3 sl00 slM lnA tt Seq Blk Ret resA rsA rsL
attribute [go_sem] List.set_cons_succ List.set_cons_zero List.getD_cons_succ List.getD_cons_zero List.getElem?_cons_succ List.getElem?_cons_zero Option.bind_some Option.map_some Option.bind_none Option.map_none List.getElem?_toArray
  List.length_cons List.length_nil List.cons_append List.nil_append List.replicate true_and and_true forall_const if_true if_false false_and and_false false_implies implies_true true_implies Bool.not_true Bool.not_false not_true_eq_false not_false_eq_true decide_true decide_false decide_eq_true_eq decide_eq_false_iff_not List.head?_cons Int.natCast_zero List.map_nil List.drop_zero List.drop_succ_cons

end Go.Vm
