import Derived.Test.YtoomgangpjcaoaaK9P6
import Derived.Test.YtoomgangpjcaoaaK9P2
import Derived.Test.YtoomgangpjcaoaaK9P4
import Derived.Test.YtoomgangpjcaoaaK9P5
import Derived.Test.YtoomgangpjcaoaaK9P3
set_option linter.unusedSimpArgs false
set_option linter.unusedVariables false
namespace Go.Vm
def nC : Obj → Bool
 | .cells _ _ _ => false
 | _ => true
theorem nC_cell {w : World} {g o : Nat} {ob : Obj} (hl : w.heap[g]? = some ob) (ho : nC ob = true) : w.cell? ⟨g, o, none⟩ = none := by
 cases ob <;> simp_all [World.cell?, nC]
theorem cellP {w : World} {l g o : Nat} {ob ob' : Obj} (hl : w.heap[l]? = some ob) (ho : nC ob = true) (ho' : nC ob' = true) : (w.putObj l ob').cell? ⟨g, o, none⟩ = w.cell? ⟨g, o, none⟩ := by
 by_cases e : g = l
 ·subst e
  have h1 := World.putObj_heap_same (w := w) (o := ob') (Array.getElem?_eq_some_iff.1 hl).1
  rw [nC_cell h1 ho', nC_cell hl ho]
 ·exact cell_of_block (World.putObj_heap_other e) o
theorem Rel.relock {E : Env} {h : Heap} {w : World} (r : Rel E h w) (L : Nat → Prop) (hL : ∀ k g, E.at h k g → ¬ L g) (hb : ∀ g, L g → g < w.heap.size) : Rel { E with lock := L } h w := by
 have hat : ∀ k g, Env.at { E with lock := L } h k g → E.at h k g := fun k g ha => ha
 constructor
 ·intro k ty cs hk
  obtain ⟨g, cur, e1, e2, e3, e4⟩ := r.obj k ty cs hk
  refine ⟨g, cur, e1, e2, ?_, e4⟩
  exact VRL_keepV (E := E) (E' := { E with lock := L }) ⟨fun _ _ h => ⟨h, rfl⟩, fun _ h => h, fun _ _ h => h, fun _ t ht o ho => ⟨.inr ⟨t, ht, rfl, ho⟩, rfl⟩, fun _ t ht _ => ⟨t, ht, Nat.le_refl _, fun _ => rfl⟩⟩ _ _ e3
 ·exact r.tok
 ·exact r.tkh
 ·exact fun k k' g ha hb => r.sep k k' g ha hb
 ·exact fun k g ha => ⟨hL k g ha, (r.dis k g ha).2⟩
 ·exact r.hus
 ·exact r.obu
 ·exact r.fre
 ·exact r.imb
 ·exact hb
 ·exact r.mp
theorem VRL_relock {E : Env} {w : World} {L : Nat → Prop} {xs : List AV} {vs : List Value} (h : VRL E w xs vs) : VRL { E with lock := L } w xs vs :=
 VRL_keepV (E := E) (E' := { E with lock := L }) ⟨fun _ _ h => ⟨h, rfl⟩, fun _ h => h, fun _ _ h => h, fun _ t ht o ho => ⟨.inr ⟨t, ht, rfl, ho⟩, rfl⟩, fun _ t ht _ => ⟨t, ht, Nat.le_refl _, fun _ => rfl⟩⟩ _ _ h
theorem Rel.turn {E : Env} {h : Heap} {w : World} (r : Rel E h w) {l : Nat} {ob ob' : Obj} (hl : w.heap[l]? = some ob) (ho : nC ob = true) (ho' : nC ob' = true) (hlk : ∀ k, ¬ E.at h k l) : Rel E h (w.putObj l ob') ∧ KeepV E w E (w.putObj l ob') := by
 have hv : KeepV E w E (w.putObj l ob') := ⟨fun g o hi => ⟨hi, cellP hl ho ho'⟩, fun _ h => h, fun _ _ h => h, fun _ t ht o ho2 => ⟨.inr ⟨t, ht, rfl, ho2⟩, cellP hl ho ho'⟩, fun _ t ht _ => ⟨t, ht, Nat.le_refl _, fun _ => rfl⟩⟩
 refine ⟨?_, hv⟩
 have ne : ∀ k g, E.at h k g → g ≠ l := fun k g ha e => hlk k (e ▸ ha)
 constructor
 ·intro k ty cs hk
  obtain ⟨g, cur, e1, e2, e3, e4⟩ := r.obj k ty cs hk
  exact ⟨g, cur, e1, by rw [World.putObj_heap_other (ne k g (.inl ⟨_, rfl, hk, e1⟩))]; exact e2, VRL_keepV hv _ _ e3, e4⟩
 ·intro k ty sz m hk
  obtain ⟨t, cur, e1, e2, e3, e4, e5⟩ := r.tok k ty sz m hk
  exact ⟨t, cur, e1, e2, e3, by rw [World.putObj_heap_other (ne k t.b (.inr ⟨_, _, _, t, hk, e1, rfl⟩))]; exact e4, e5⟩
 ·exact r.tkh
 ·exact r.sep
 ·exact r.dis
 ·exact r.hus
 ·exact r.obu
 ·exact r.fre
 ·intro g o hg
  obtain ⟨v, e⟩ := r.imb g o hg
  exact ⟨v, (cellP hl ho ho').trans e⟩
 ·intro g hg
  rw [World.putObj_size]
  exact r.lkb g hg
 ·intro k es hk
  obtain ⟨g, ents, clk, e1, e2, e3⟩ := r.mp k es hk
  exact ⟨g, ents, clk, e1, by rw [World.putObj_heap_other (ne k g (.inl ⟨_, rfl, hk, e1⟩))]; exact e2, e3⟩
theorem Rel.more {E : Env} {h : Heap} {w : World} (r : Rel E h w) (ob : Obj) : Rel E h (w.alloc ob) ∧ Keep E w E (w.alloc ob) := by
 have hb : ∀ g, g < w.heap.size → (w.alloc ob).heap[g]? = w.heap[g]? := fun g hg => by
  show (w.heap.push ob)[g]? = w.heap[g]?
  rw [Array.getElem?_push_lt hg, Array.getElem?_eq_getElem hg]
 have hc : ∀ g o v, w.cell? ⟨g, o, none⟩ = some v → (w.alloc ob).cell? ⟨g, o, none⟩ = w.cell? ⟨g, o, none⟩ := fun g o v e => cell_of_block (hb g (block_of_cell e)) o
 have htk : ∀ k t, E.tk k = some t → t.b < w.heap.size := fun k t ht => by
  obtain ⟨ty, e⟩ := r.tkh k t ht
  exact r.at_lt (.inr ⟨_, _, _, t, e, ht, rfl⟩)
 have hk : Keep E w E (w.alloc ob) := by
  refine ⟨fun g o hi => ⟨hi, ?_⟩, fun _ => Iff.rfl, fun g hg => hb g (r.lkb g hg), fun _ h => h, fun _ _ h => h, fun k t ht o ho => ⟨.inr ⟨t, ht, rfl, ho⟩, cell_of_block (hb _ (htk k t ht)) o⟩, fun _ t ht _ => ⟨t, ht, Nat.le_refl _, fun _ => rfl⟩, rfl, rfl, rfl, ?_⟩
  ·obtain ⟨v, e⟩ := r.imb g o hi
   exact hc g o v e
  ·show w.heap.size ≤ (w.heap.push ob).size
   simp
 refine ⟨?_, hk⟩
 constructor
 ·intro k ty cs hk'
  obtain ⟨g, cur, e1, e2, e3, e4⟩ := r.obj k ty cs hk'
  exact ⟨g, cur, e1, by rw [hb g (Array.getElem?_eq_some_iff.1 e2).1]; exact e2, VRL_keep hk _ _ e3, e4⟩
 ·intro k ty sz m hk'
  obtain ⟨t, cur, e1, e2, e3, e4, e5⟩ := r.tok k ty sz m hk'
  exact ⟨t, cur, e1, e2, e3, by rw [hb t.b (Array.getElem?_eq_some_iff.1 e4).1]; exact e4, e5⟩
 ·exact r.tkh
 ·exact r.sep
 ·exact r.dis
 ·exact r.hus
 ·exact r.obu
 ·exact r.fre
 ·intro g o hg
  obtain ⟨v, e⟩ := r.imb g o hg
  exact ⟨v, (hc g o v e).trans e⟩
 ·intro g hg
  have := r.lkb g hg
  show g < (w.heap.push ob).size
  simp; omega
 ·intro k es hk'
  obtain ⟨g, ents, clk, e1, e2, e3⟩ := r.mp k es hk'
  exact ⟨g, ents, clk, e1, by rw [hb g (Array.getElem?_eq_some_iff.1 e2).1]; exact e2, e3⟩
def Ird (l D : Nat) (rec : Loop) (fr0 : Fr) (E : Env) (w : World) : Prop :=
 E.lock l ∧ w.heap[l]? = some (.loop rec) ∧ E.lock D ∧ w.heap[D]? = some (.deferred (some [])) ∧ VRL E w fr0 rec.tmps.toList
theorem Ird.stb {l D : Nat} {rec : Loop} {fr0 : Fr} : Stb (Ird l D rec fr0) := fun E w E' w' k ⟨a, b, c, d, e⟩ =>
 ⟨(k.lockEq l).2 a, (k.lock l a).trans b, (k.lockEq D).2 c, (k.lock D c).trans d, VRL_keep k _ _ e⟩
theorem round_abs {P : Program} {l D p : Nat} {rec : Loop} {fr0 fr1 : Fr} {h : Heap} {K : Heap → Prop} {x : AV} (hst : rec.state = .ready) (hpn : rec.pending = none)
    (ha : AWn (fun _ _ => True) (some l) P rec.assign (fun e fr hh => e = .normal ∧ LeF fr1 h fr hh) (fr0.set p x) h)
    (hb : AWn (fun _ _ => True) (some l) P rec.body (fun e fr hh => e = .normal ∧ ∃ h' g, K h' ∧ LeF g h' fr hh) fr1 h)
    {E : Env} {w : World} {v : Value} (hi : Ird l D rec fr0 E w) (r : Rel E h w) (hv : VR E w x v) :
    RoundIn Fence.wide 0 P l rec.fn (rec.tmps.setIfInBounds p v) rec.assign rec.body w (fun e w' => e = .returned (.bool true) ∧ ∃ E' h', Keep E w E' w' ∧ Rel E' h' w' ∧ K h') := by
  obtain ⟨il, ih, iD, iDh, iv⟩ := hi
  have hnat : ∀ {E : Env} {h : Heap} {w : World}, Rel E h w → E.lock l → ∀ k, ¬ E.at h k l := fun r hl k ha => (r.dis k l ha).1 hl
  refine roundIn_of_wpIn trivial ?_
  have hv0 : VRL E w (fr0.set p x) (rec.tmps.setIfInBounds p v).toList := by
    rw [Array.toList_setIfInBounds]
    exact VRL_set p iv hv
  refine wpIn_mono (ha E w { tmps := rec.tmps.setIfInBounds p v, defers := [] } trivial r hv0 rfl) ?_
  rintro e a1 w1 ⟨E1, fr', hh, k1, r1, v1, d1, rfl, le1⟩
  obtain ⟨E2, k2, r2, v2⟩ := le1 E1 w1 _ r1 v1
  have k12 := k1.trans k2
  have il2 : E2.lock l := (k12.lockEq l).2 il
  have hl1 : w1.heap[l]? = some (.loop rec) := (k1.lock l il).trans ih
  refine ⟨_, run_beginRound hl1 hst, ?_⟩
  obtain ⟨r3, kv3⟩ := r2.turn (ob' := .loop { rec with state := .busy }) hl1 rfl rfl (hnat r2 il2)
  have hl3 : (w1.putObj l (.loop { rec with state := .busy })).heap[l]? = some (.loop { rec with state := .busy }) := World.putObj_heap_same (Array.getElem?_eq_some_iff.1 hl1).1
  refine wpIn_mono (hb E2 _ a1 trivial r3 (VRL_keepV kv3 _ _ v2) d1) ?_
  rintro e a4 w4 ⟨E4, fr4, h4, k4, r4, v4, d4, rfl, h', g4, kh, le4⟩
  obtain ⟨E5, k5, r5, -⟩ := le4 E4 w4 _ r4 v4
  have k45 := k4.trans k5
  have hl4 : w4.heap[l]? = some (.loop { rec with state := .busy }) := (k4.lock l il2).trans hl3
  have il5 : E5.lock l := (k45.lockEq l).2 il2
  obtain ⟨r6, kv6⟩ := r5.turn (ob' := .loop rec) hl4 rfl rfl (hnat r5 il5)
  have hend := run_endRound (P := P) none hl4
  have hrec : ({ ({ rec with state := .busy } : Loop) with state := if (none : Option Code).isNone then .ready else .done, pending := none } : Loop) = rec := by
    cases rec; simp_all
  rw [hrec] at hend
  refine ⟨_, _, hend, rfl, E5, h', ?_, r6, kh⟩
  have hl6 : (w4.putObj l (.loop rec)).heap[l]? = some (.loop rec) := World.putObj_heap_same (Array.getElem?_eq_some_iff.1 hl4).1
  have oth : ∀ g, g ≠ l → (w4.putObj l (.loop rec)).heap[g]? = w4.heap[g]? := fun g hg => World.putObj_heap_other hg
  have oth3 : ∀ g, g ≠ l → (w1.putObj l (.loop { rec with state := .busy })).heap[g]? = w1.heap[g]? := fun g hg => World.putObj_heap_other hg
  -- what is kept, from the round's begin to its end
  have c1 := kv3
  refine ⟨fun g o hg => ?_, fun g => ?_, fun g hg => ?_, fun k hk => k45.used k (k12.used k hk), fun k g hk => k45.ob k g (k12.ob k g hk), fun k t ht o ho => ?_, fun k t' ht' hu => ?_, ?_, ?_, ?_, ?_⟩
  · obtain ⟨q1, q2⟩ := k12.imm g o hg
    obtain ⟨q3, q4⟩ := kv3.imm g o q1
    obtain ⟨q5, q6⟩ := k45.imm g o q3
    obtain ⟨q7, q8⟩ := kv6.imm g o q5
    exact ⟨q7, q8.trans (q6.trans (q4.trans q2))⟩
  · exact (k45.lockEq g).trans (k12.lockEq g)
  · by_cases e : g = l
    · subst e; exact hl6.trans ih.symm
    · rw [oth g e, k45.lock g ((k12.lockEq g).2 hg), oth3 g e, k12.lock g hg]
  · obtain ⟨q1, q2⟩ := k12.tkc k t ht o ho
    rcases q1 with q1 | ⟨t2, q1, qb, qm⟩
    · obtain ⟨q3, q4⟩ := kv3.imm _ _ q1
      obtain ⟨q5, q6⟩ := k45.imm _ _ q3
      obtain ⟨q7, q8⟩ := kv6.imm _ _ q5
      exact ⟨.inl q7, q8.trans (q6.trans (q4.trans q2))⟩
    · obtain ⟨q3, q4⟩ := kv3.tkc k t2 q1 o qm
      obtain ⟨q5, q6⟩ := k45.tkc k t2 q1 o qm
      rw [qb] at q4 q5 q6
      have q8 : (w4.putObj l (.loop rec)).cell? ⟨t.b, o, none⟩ = w4.cell? ⟨t.b, o, none⟩ := cellP hl4 rfl rfl
      refine ⟨?_, q8.trans (q6.trans (q4.trans q2))⟩
      rcases q5 with q5 | ⟨t3, q5, qb3, qm3⟩
      · exact .inl q5
      · exact .inr ⟨t3, q5, qb3, qm3⟩
  · obtain ⟨t5, q1, q2, q3⟩ := k45.tkf k t' ht' (k12.used k hu)
    obtain ⟨t1, q4, q5, q6⟩ := k12.tkf k t5 q1 hu
    refine ⟨t1, q4, Nat.le_trans q5 q2, fun e => ?_⟩
    have e1 : t1.m = t5.m := by omega
    have e2 : t5.m = t'.m := by omega
    rw [q6 e1, q3 e2]
  · exact (show (w4.putObj l (.loop rec)).os = w4.os from rfl).trans (k45.os.trans ((show (w1.putObj l (.loop { rec with state := .busy })).os = w1.os from rfl).trans k12.os))
  · exact (show (w4.putObj l (.loop rec)).tape = w4.tape from rfl).trans (k45.tape.trans ((show (w1.putObj l (.loop { rec with state := .busy })).tape = w1.tape from rfl).trans k12.tape))
  · exact (show (w4.putObj l (.loop rec)).output = w4.output from rfl).trans (k45.output.trans ((show (w1.putObj l (.loop { rec with state := .busy })).output = w1.output from rfl).trans k12.output))
  · have s1 := k12.size
    have s2 := k45.size
    rw [World.putObj_size] at s2 ⊢
    omega
def Rnd (P : Program) (l D p : Nat) (rec : Loop) (fr0 : Fr) (x : AV) (h : Heap) (K : Heap → Prop) : Prop :=
 ∀ E w v, Ird l D rec fr0 E w → Rel E h w → VR E w x v →
  RoundIn Fence.wide 0 P l rec.fn (rec.tmps.setIfInBounds p v) rec.assign rec.body w (fun e w' => e = .returned (.bool true) ∧ ∃ E' h', Keep E w E' w' ∧ Rel E' h' w' ∧ K h')
theorem Rnd.of {P : Program} {l D p : Nat} {rec : Loop} {fr0 fr1 : Fr} {h : Heap} {K : Heap → Prop} {x : AV} (hst : rec.state = .ready) (hpn : rec.pending = none)
    (ha : AWn (fun _ _ => True) (some l) P rec.assign (fun e fr hh => e = .normal ∧ LeF fr1 h fr hh) (fr0.set p x) h)
    (hb : AWn (fun _ _ => True) (some l) P rec.body (fun e fr hh => e = .normal ∧ ∃ h' g, K h' ∧ LeF g h' fr hh) fr1 h) : Rnd P l D p rec fr0 x h K :=
  fun _ _ _ hi r hv => round_abs hst hpn ha hb hi r hv
def AOn (I : Env → World → Prop) (ro : Option Nat) (P : Program) (ops : Array Oper) (l : List Oper) (K : Fr → Heap → Prop) (fr : Fr) (h : Heap) : Prop :=
 ∀ E w a, I E w → Rel E h w → VRL E w fr a.tmps.toList → a.defers = [] → ∀ Q : Exit → Act → World → Prop, ¬ LetsOut Q → (∀ a' w', Post E w K a' w' → Q .normal a' w') → wpListIn (Fc ro) 0 P ops Q l a w
theorem wp_ex {P : Program} {o : Oper} {a : Act} {w : World} {K : Act → World → Prop} {Q Q' : Exit → Act → World → Prop} (hp : ∀ ch a w, Q (.panic ch) a w → Q' (.panic ch) a w) (ho : LetsOut Q → LetsOut Q')
    (hh : o.wp P a w K Q) : o.wp P a w K Q' := by
  unfold Oper.wp at *
  generalize (execOp a.eval o).run P w = r at *
  cases r with
  | ok n w' =>
    cases n <;> simp only [Oper.upon] at hh ⊢ <;>
      first
        | exact hh
        | exact Calls.mono hh (fun e w'' he => by cases e <;> first | exact he | exact hp _ _ _ he | exact ho he)
        | exact Rows.mono hh (fun _ _ he => he)
  | halt x w' => cases x <;> simp only [Oper.upon] at hh ⊢ <;> first | exact hh | exact hp _ _ _ hh
section
variable {P : Program} {ro : Option Nat} {I : Env → World → Prop} {Q : Exit → Fr → Heap → Prop} {fr : Fr} {h : Heap} {ops : Array Oper} {K : Fr → Heap → Prop}
theorem list_pre {Q Q1 : Exit → Act → World → Prop} {l2 : List Oper} (hq : ¬ LetsOut Q) (hp : ∀ ch a w, Q1 (.panic ch) a w → Q (.panic ch) a w) (ho : LetsOut Q1 → LetsOut Q) (hn : ∀ a w, Q1 .normal a w → wpListIn (Fc ro) 0 P ops Q l2 a w) :
    ∀ {l : List Oper} {a : Act} {w : World}, (l.all fun o => nd o.op) = true → wpList P ops Q1 l a w → wpListIn (Fc ro) 0 P ops Q (l ++ l2) a w
  | [], _, _, _, h => hn _ _ h
  | o :: l, a, w, hd, h => by
    simp only [List.all_cons, Bool.and_eq_true] at hd
    refine wpListIn_step fun K hK => ?_
    unfold wpList at h
    split at h
    · rename_i hw
      rw [if_pos hw]
      rcases h with h | ⟨_, h⟩
      · exact op_in hd.1 (wp_ex hp ho (Oper.wp_mono (fun a' w' h' => hK _ _ (list_pre hq hp ho hn hd.2 h')) h))
      · exact absurd (ho h) hq
    · rename_i hw
      rw [if_neg hw]
      exact ⟨fun f _ => Fc_fn ro f, hK _ _ (list_pre hq hp ho hn hd.2 h)⟩
theorem AOn_of {l l2 : List Oper} (hI : Stb I) (hd : (l.all fun o => nd o.op) = true) (hl : AOps P ops l (fun fr hh => AOn I ro P ops l2 K fr hh) fr h) : AOn I ro P ops (l ++ l2) K fr h := by
 intro E w a i r v d Q hq hQ
 refine list_pre (Q1 := fun e a' w' => match e with | .normal => wpListIn (Fc ro) 0 P ops Q l2 a' w' | e => Q e a' w') hq (fun _ _ _ p => p) (fun p => p) (fun _ _ p => p) hd (hl E w a r v d _ ?_)
 rintro a' w' ⟨E', fr', h', k, r', v', d', q⟩
 exact q E' w' a' (hI _ _ _ _ k i) r' v' d' Q hq fun a'' w'' p => hQ _ _ (p.trans k)
theorem AOn_nil (hk : K fr h) : AOn I ro P ops [] K fr h := fun E w a _ r v d _ _ hQ => hQ a w ⟨E, fr, h, Keep.refl E w, r, v, d, hk⟩
theorem AWn_list {id : Nat} {l : List Oper} (hl : AOn I ro P l.toArray l (Q .normal) fr h) : AWn I ro P (.region id l.toArray false) Q fr h := by
 intro E w a i r v d
 refine wpIn_mono (wpIn_region_lit (id := id) (Q := fun e a' w' => e = .normal ∧ Post E w (Q .normal) a' w') (hl E w a i r v d _ ?_ fun _ _ p => ⟨rfl, p⟩)) ?_
 ·rintro ⟨_, _, e, _⟩
  cases e
 ·rintro e a' w' ⟨rfl, p⟩
  exact p
theorem AWn_now {c : Code} {e : Exit} (hc : ∀ (R : Exit → Act → World → Prop) a w, R e a w → c.wpIn (Fc ro) 0 P R a w) (hq : Q e fr h) : AWn I ro P c Q fr h :=
 fun E w a _ r v d => hc _ a w ⟨E, fr, h, Keep.refl E w, r, v, d, hq⟩
theorem AWn_skip (hq : Q .normal fr h) : AWn I ro P .skip Q fr h := AWn_now (fun _ _ _ p => wpIn_skip p) hq
theorem AWn_loop {c : Code} (hI : Stb I) (J : Nat → Fr → Heap → Prop) (n : Nat) (h0 : J n fr h)
    (round : ∀ n fr h, J n fr h → AWn I none P c (Seq (fun fr' h' => ∃ n', n' < n ∧ J n' fr' h') Q) fr h) : AWn I none P (.loop c) Q fr h := by
  intro E w a i r v d
  refine wpIn_wide.2 (wp_loop_ghost (fun n a' w' => Post E w (J n) a' w') n ⟨E, fr, h, Keep.refl E w, r, v, d, h0⟩ ?_)
  intro n a' w' p
  obtain ⟨E', fr', h', k, r', v', d', q⟩ := p
  refine wp_mono (wpIn_wide.1 (round n fr' h' q E' w' a' (hI _ _ _ _ k i) r' v' d')) ?_
  intro e a'' w'' p'
  cases e with
  | normal =>
    obtain ⟨E'', fr'', h'', k', r'', v'', d'', n', hn, q'⟩ := p'
    exact ⟨n', hn, E'', fr'', h'', k.trans k', r'', v'', d'', q'⟩
  | exit id => exact p'.trans k
  | goto l => exact p'.trans k
  | ret => exact p'.trans k
  | panic ch => exact p'.trans k
  | outgrown => exact p'.trans k
theorem AOn_yield {l D p : Nat} {rec : Loop} {fr0 : Fr} {x : AV} {Kr : Heap → Prop} {y b : Operand} {dst : Option Tmp} {ts : Array TypeId} {ty : TypeId} {pos : String} {aft : Array Edge} {l2 : List Oper}
    (hp : rec.params = #[p]) (hy : ev fr y = .fn (.yield l) []) (hx : ev fr b = x) (hr : Rnd P l D p rec fr0 x h Kr)
    (k : ∀ h', Kr h' → AOn (Ird l D rec fr0) none P ops l2 K (fput fr dst (.sc (.bool true))) h') :
    AOn (Ird l D rec fr0) none P ops (⟨dst, .call { callee := .value y, args := #[b], argTypes := ts }, ty, pos, aft, none⟩ :: l2) K fr h := by
  intro E w a i r v d Q hq hQ
  refine wpListIn_plain rfl fun K' hK' => ⟨fun f _ => Fc_fn none f, ?_⟩
  have e1 : a.eval y = .func (.yield l) #[] #[] := by
    have h1 := VR_ev v y
    rw [hy] at h1
    simp only [VR] at h1
    obtain ⟨vs, e, h2⟩ := h1
    have : vs = #[] := by
      have := VRL_length h2
      exact Array.eq_empty_of_size_eq_zero (by simpa using this.symm)
    rw [e, this]
  have e2 : VR E w x (a.eval b) := hx ▸ VR_ev v b
  have hrun : ((⟨dst, .call { callee := .value y, args := #[b], argTypes := ts }, ty, pos, aft, none⟩ : Oper).semAt (Fc none).round a.eval).run P w = .ok (.round l rec.fn (rec.tmps.setIfInBounds p (a.eval b)) rec.assign rec.body) w := by
    have hy := run_yield (P := P) (args := #[a.eval b]) i.2.1 (by rw [hp]; rfl)
    rw [hp] at hy
    have hz : Array.foldl (fun (tmps : Array Value) (x : Tmp × Value) => match x with | (t, a) => tmps.setIfInBounds t a) rec.tmps (#[p].zip #[a.eval b]) = rec.tmps.setIfInBounds p (a.eval b) := by simp
    rw [hz] at hy
    simp only [Oper.semAt, Fc]
    simp [execOp, resolve, Deferred.ofValue, e1, invoke, Fence.wide, hy]
  rw [hrun, Oper.uponIn_round]
  refine ⟨fun hh => (by cases hh), (hr E w _ i r e2).mono ?_⟩
  rintro e w' ⟨rfl, E', h', k1, r1, kh⟩
  refine hK' _ _ (k h' kh E' w' _ (Ird.stb _ _ _ _ k1 i) r1 (VRL_put _ (VRL_keep k1 _ _ v) (by simp [VR])) (by rw [put_defers]; exact d) Q hq fun a'' w'' p' => hQ _ _ (p'.trans k1))
end
theorem Keep.unlock {E E' : Env} {w w' : World} {L : Nat → Prop} (L0 : Nat → Prop) (hs : ∀ g, L0 g → L g) (k : Keep { E with lock := L } w E' w') : Keep { E with lock := L0 } w { E' with lock := L0 } w' :=
 ⟨k.imm, fun _ => Iff.rfl, fun g hg => k.lock g (hs g hg), k.used, k.ob, k.tkc, k.tkf, k.os, k.tape, k.output, k.size⟩
theorem Rel.turnK {E : Env} {h : Heap} {w : World} (r : Rel E h w) {l : Nat} {ob ob' : Obj} (hl : w.heap[l]? = some ob) (ho : nC ob = true) (ho' : nC ob' = true) (hlk : ∀ k, ¬ E.at h k l) (hn : ¬ E.lock l) :
    Rel E h (w.putObj l ob') ∧ Keep E w E (w.putObj l ob') := by
  obtain ⟨r1, kv⟩ := r.turn hl ho ho' hlk
  refine ⟨r1, fun g o hi => kv.imm g o hi, fun _ => Iff.rfl, fun g hg => World.putObj_heap_other fun e => hn (e ▸ hg), kv.used, kv.ob, fun k t ht o ho2 => kv.tkc k t ht o ho2, kv.tkf, rfl, rfl, rfl, ?_⟩
  rw [World.putObj_size]
  exact Nat.le_refl _
def mkD (D : Nat) : Deferred := { target := .collected D, args := #[] }
def PostM (E : Env) (w : World) (K : Fr → Heap → Prop) (a' : Act) (w' : World) : Prop :=
 ∃ D E1 w1 E' fr' h', ¬ E.lock D ∧ Keep E w E1 w1 ∧ Keep { E1 with lock := fun g => E1.lock g ∨ g = D } w1 E' w' ∧ Rel E' h' w' ∧ VRL E' w' fr' a'.tmps.toList ∧ a'.defers = [mkD D] ∧ w'.heap[D]? = some (.deferred (some [])) ∧ K fr' h'
def PostD (D : Nat) (E : Env) (w : World) (K : Fr → Heap → Prop) (a' : Act) (w' : World) : Prop :=
 ∃ E' fr' h', Keep E w E' w' ∧ Rel E' h' w' ∧ VRL E' w' fr' a'.tmps.toList ∧ a'.defers = [mkD D] ∧ K fr' h'
def AWm (P : Program) (c : Code) (Q : Exit → Fr → Heap → Prop) (fr : Fr) (h : Heap) : Prop :=
 ∀ E w a, Rel E h w → VRL E w fr a.tmps.toList → a.defers = [] → c.wpIn Fence.wide 0 P (fun e a' w' => PostM E w (Q e) a' w') a w
def AWd (P : Program) (c : Code) (Q : Exit → Fr → Heap → Prop) (fr : Fr) (h : Heap) : Prop :=
 ∀ D E w a, Rel E h w → VRL E w fr a.tmps.toList → a.defers = [mkD D] → c.wpIn Fence.wide 0 P (fun e a' w' => PostD D E w (Q e) a' w') a w
def AOd (P : Program) (ops : Array Oper) (l : List Oper) (K : Fr → Heap → Prop) (fr : Fr) (h : Heap) : Prop :=
 ∀ D E w a, Rel E h w → VRL E w fr a.tmps.toList → a.defers = [mkD D] → ∀ Q, (∀ a' w', PostD D E w K a' w' → Q .normal a' w') → wpListIn Fence.wide 0 P ops Q l a w
theorem PostD.trans {D : Nat} {E E' : Env} {w w' : World} {K : Fr → Heap → Prop} {a'' : Act} {w'' : World} (k : Keep E w E' w') (h : PostD D E' w' K a'' w'') : PostD D E w K a'' w'' :=
 let ⟨E'', fr', h', h1, h2, h3, h4, h5⟩ := h; ⟨E'', fr', h', k.trans h1, h2, h3, h4, h5⟩
theorem PostM.trans {E E' : Env} {w w' : World} {K : Fr → Heap → Prop} {a'' : Act} {w'' : World} (k : Keep E w E' w') (h : PostM E' w' K a'' w'') : PostM E w K a'' w'' := by
 obtain ⟨D, E1, w1, E2, fr', h', n, k1, k2, r, v, d, c, q⟩ := h
 exact ⟨D, E1, w1, E2, fr', h', fun e => n ((k.lockEq D).2 e), k.trans k1, k2, r, v, d, c, q⟩
theorem PostM.mono {E : Env} {w : World} {K K' : Fr → Heap → Prop} {a' : Act} {w' : World} (hk : ∀ fr h, K fr h → K' fr h) (h : PostM E w K a' w') : PostM E w K' a' w' :=
 let ⟨D, E1, w1, E2, fr', h', n, k1, k2, r, v, d, c, q⟩ := h; ⟨D, E1, w1, E2, fr', h', n, k1, k2, r, v, d, c, hk _ _ q⟩
section
variable {P : Program} {Q : Exit → Fr → Heap → Prop} {fr : Fr} {h : Heap} {ops : Array Oper} {K : Fr → Heap → Prop}
theorem AOd_nil (hk : K fr h) : AOd P ops [] K fr h := fun D E w a r v d _ hQ => hQ a w ⟨E, fr, h, Keep.refl E w, r, v, d, hk⟩
theorem AOd_plain {o : Oper} {l : List Oper} (hg : o.guard = none) (hd : nd o.op = true) (ho : AOp P o (fun x h' => AOd P ops l K (fput fr o.dst x) h') fr h) : AOd P ops (o :: l) K fr h := by
 intro D E w a r v d Q hQ
 refine wpListIn_plain hg fun K' hK' => op_in (ro := none) hd (ho E w a r (fun y _ => VR_ev v y) K' Q ?_)
 intro x u w' E' h' k r' vx kx
 refine hK' _ _ (kx D E' w' _ r' (VRL_put _ (VRL_keep k _ _ v) vx) (by rw [put_defers]; exact d) Q ?_)
 intro a' w'' p
 exact hQ _ _ (p.trans k)
theorem AWd_list {id : Nat} {l : List Oper} (hl : AOd P l.toArray l (Q .normal) fr h) : AWd P (.region id l.toArray false) Q fr h :=
 fun D E w a r v d => wpIn_region_lit (hl D E w a r v d _ fun _ _ p => p)
theorem AWd_ret (hq : Q .ret fr h) : AWd P .ret Q fr h := fun D E w a r v d => wpIn_ret ⟨E, fr, h, Keep.refl E w, r, v, d, hq⟩
theorem AWd_seq {x y : Code} (hx : AWd P x (Seq (AWd P y Q) Q) fr h) : AWd P (.seq x y) Q fr h := by
 intro D E w a r v d
 refine wpIn_seq (wpIn_mono (hx D E w a r v d) ?_)
 intro e a' w' p
 cases e with
 | normal =>
  obtain ⟨E', fr', h', k, r', v', d', q⟩ := p
  exact wpIn_mono (q D E' w' a' r' v' d') fun _ _ _ p' => p'.trans k
 | exit id => exact p
 | goto l => exact p
 | ret => exact p
 | panic ch => exact p
 | outgrown => exact p
theorem LeF.awm {c : Code} {fr' : Fr} {h' : Heap} (le : LeF fr' h' fr h) (hc : AWm P c Q fr' h') : AWm P c Q fr h := by
 intro E w a r v d
 obtain ⟨E', k, r', v'⟩ := le E w _ r v
 exact wpIn_mono (hc E' w a r' v' d) fun _ _ _ p => p.trans k
theorem AWm_pre {x y : Code} (hx : AW P x (fun e fr h => e = .normal ∧ AWm P y Q fr h) fr h) : AWm P (.seq x y) Q fr h := by
 intro E w a r v d
 refine wpIn_seq (wpIn_mono (wpIn_wide.2 (hx E w a r v d)) ?_)
 rintro e a' w' ⟨E', fr', h', k, r', v', d', rfl, q⟩
 exact wpIn_mono (q E' w' a' r' v' d') fun _ _ _ p' => p'.trans k
theorem AWm_post {x y : Code} (hx : AWm P x (fun e fr h => e = .normal ∧ AWd P y Q fr h) fr h) : AWm P (.seq x y) Q fr h := by
 intro E w a r v d
 refine wpIn_seq (wpIn_mono (hx E w a r v d) ?_)
 rintro e a' w' ⟨D, E1, w1, E2, fr', h', n, k1, k2, r', v', d', c, rfl, q⟩
 refine wpIn_mono (q D E2 w' a' r' v' d') fun e a'' w'' p' => ?_
 obtain ⟨E3, fr3, h3, k3, r3, v3, d3, q3⟩ := p'
 exact ⟨D, E1, w1, E3, fr3, h3, n, k1, k2.trans k3, r3, v3, d3, (k3.lock D ((k2.lockEq D).2 (.inr rfl))).trans c, q3⟩
theorem AWm_block {id : Nat} {c : Code} (hc : AWm P c (fun e fr h => e = .normal ∧ Q .normal fr h) fr h) : AWm P (.block id c) Q fr h := by
 intro E w a r v d
 refine wpIn_block (wpIn_mono (hc E w a r v d) ?_)
 intro e a' w' p
 have e0 : e = .normal := by
  obtain ⟨D, E1, w1, E2, fr', h', n, k1, k2, r', v', d', c, e0, q⟩ := p
  exact e0
 subst e0
 exact p.mono fun _ _ q => q.2
theorem ACalls_of_AWm {f : FuncId} {fn : Func} {c : Code} {args : List AV} {Q : AV → Heap → Prop} (hf : P.funcs[f]? = some fn) (hb : fn.body = some c)
    (hc : AWm P c (Ret P fn.results.toList Q) (args ++ List.replicate (fn.ntmps - args.length) (.sc undef)) h) : ACalls P f args h Q := by
  intro E w vs r v
  refine callsIn_wide.1 (callsIn_of_wp_marks (n := 0) hf hb trivial ?_)
  have hl : args.length = vs.size := by simpa using VRL_length v
  have hv : VRL E w (args ++ List.replicate (fn.ntmps - args.length) (.sc undef)) (vs ++ Array.replicate (fn.ntmps - vs.size) undef).toList := by
    rw [Array.toList_append, ← hl]
    refine VRL_append v ?_
    have := VRL_sc (E := E) (w := w) (List.replicate (fn.ntmps - args.length) undef)
    simpa using this
  refine wpIn_mono (hc E w { tmps := vs ++ Array.replicate (fn.ntmps - vs.size) undef, defers := [] } r hv rfl) ?_
  intro e a' w' p
  obtain ⟨D, E1, w1, E2, fr', h', n, k1, k2, r', v', d', c, q⟩ := p
  have hD : E2.lock D := (k2.lockEq D).2 (.inr rfl)
  have h1 : ∀ g, E1.lock g → E2.lock g := fun g hg => (k2.lockEq g).2 (.inl hg)
  have r3 : Rel { E2 with lock := E1.lock } h' w' := r'.relock E1.lock (fun k g ha hg => (r'.dis k g ha).1 (h1 g hg)) (fun g hg => r'.lkb g (h1 g hg))
  have k3 : Keep E w { E2 with lock := E1.lock } w' := k1.trans (k2.unlock E1.lock fun g hg => .inl hg)
  obtain ⟨r4, k4⟩ := r3.turnK (ob' := .deferred none) c rfl rfl (fun k ha => (r'.dis k D ha).1 hD) (fun e => n ((k1.lockEq D).1 e))
  have k5 := k3.trans k4
  have v4 : VRL { E2 with lock := E1.lock } (w'.putObj D (.deferred none)) fr' a'.tmps.toList := VRL_keep k4 _ _ (VRL_relock v')
  have fin : ∀ x y h'', resA P h' fr' fn.results.toList = some x → Sub h'' h' → ALe h'' x y → Q y h'' →
      LeavesInM Fence.wide 0 P fn a'.tmps (fun e w' => ∃ v E' x h', e = Ending.returned v ∧ Keep E w E' w' ∧ Rel E' h' w' ∧ VR E' w' x v ∧ Q x h') a'.defers .returning w' := by
    intro x y h'' hx hs hl hq
    rw [d']
    obtain ⟨u, g1, g2⟩ := resA_sound r4 v4 hx
    obtain ⟨E'', k'', r''⟩ := r4.drop hs
    exact ⟨nofun, .inl ⟨D, _, rfl, run_takeDeferred c, u, g1, u, E'', y, h'', rfl, k5.trans k'', r'', hl _ _ _ r'' (VR_keep k'' _ _ g2), hq⟩⟩
  cases e with
  | normal => obtain ⟨x, y, h'', q1, q2, q3, q4⟩ := q; exact fin x y h'' q1 q2 q3 q4
  | ret => obtain ⟨x, y, h'', q1, q2, q3, q4⟩ := q; exact fin x y h'' q1 q2 q3 q4
  | exit id => exact q.elim
  | goto l => exact q.elim
  | panic ch => exact q.elim
  | outgrown => exact q.elim
theorem AWm_range {g : Operand} {ps : Array Tmp} {assign body : Code} {f : FuncId} {caps : List AV} {Kr : Heap → Prop} (hg : ev fr g = .fn (.func f) caps) (hb : bodied P f = true)
    (hit : ∀ (l D : Nat) (rec : Loop), rec.state = .ready → rec.pending = none → rec.params = ps → rec.assign = assign → rec.body = body → ∀ E w (vs : Array Value), Ird l D rec fr E w → Rel E h w → VRL E w (.fn (.yield l) [] :: caps) vs.toList →
      CallsIn Fence.wide 0 P f vs w (fun e w' => ∃ v E' h', e = .returned v ∧ Keep E w E' w' ∧ Rel E' h' w' ∧ Kr h'))
    (hq : ∀ h', Kr h' → Q .normal fr h') : AWm P (.rangeFunc g ps assign body) Q fr h := by
  intro E w a r v d
  have vg := VR_ev v g
  rw [hg] at vg
  simp only [VR] at vg
  obtain ⟨cs, eg, vc⟩ := vg
  refine wpIn_rangeFunc fun fn _ => ?_
  obtain ⟨rec, hrec⟩ : ∃ rec : Loop, rec = { state := .ready, pending := none, fn, tmps := a.tmps, params := ps, assign, body, defers := w.heap.size } := ⟨_, rfl⟩
  obtain ⟨W1, hW1⟩ : ∃ W1, (w.alloc (.deferred (some []))).alloc (.loop rec) = W1 := ⟨_, rfl⟩
  have hL1 : W1.heap[w.heap.size + 1]? = some (.loop rec) := by
    rw [← hW1]; have := World.alloc_heap_new (w.alloc (.deferred (some []))) (.loop rec); rwa [World.size_alloc] at this
  have hK1 : W1.heap[w.heap.size]? = some (.deferred (some [])) := by
    rw [← hW1]
    show ((w.heap.push _).push _)[w.heap.size]? = _
    simp [Array.getElem?_push]
  obtain ⟨ra, ka⟩ := r.more (.deferred (some []))
  obtain ⟨rb, kb⟩ := ra.more (.loop rec)
  rw [hW1] at rb kb
  have kab := ka.trans kb
  have hsz : W1.heap.size = w.heap.size + 2 := by rw [← hW1]; simp
  obtain ⟨L, hL⟩ : ∃ L : Nat → Prop, L = fun g => E.lock g ∨ g = w.heap.size ∨ g = w.heap.size + 1 := ⟨_, rfl⟩
  have hat : ∀ k g, E.at h k g → g < w.heap.size := fun k g ha => r.at_lt ha
  have r1 : Rel { E with lock := L } h W1 := rb.relock L
    (fun k g ha hg => by
      subst hL
      have h1 := hat k g ha
      rcases hg with hg | hg | hg
      · exact (r.dis k g ha).1 hg
      · omega
      · omega)
    (fun g hg => by
      subst hL
      rcases hg with hg | hg | hg
      · have := r.lkb g hg; omega
      · omega
      · omega)
  have v1 : VRL { E with lock := L } W1 fr a.tmps.toList := VRL_relock (VRL_keep kab _ _ v)
  refine ⟨w.heap.size + 1, [mkD w.heap.size], W1, { target := .fn (.func f) cs, args := #[.func (.yield (w.heap.size + 1)) #[] #[]] }, W1, f, #[.func (.yield (w.heap.size + 1)) #[] #[]] ++ cs, W1, ?_, ?_, fun f' _ => trivial, ?_, fun hh => (by cases hh), ?_⟩
  · rw [← hW1, hrec]; exact run_enterLoop_outer _ _ _ _ _
  · simp only [resolve, eg]
    simp [go_sem]
  · simp [invoke, run_callFunc hb]
  · have hI : Ird (w.heap.size + 1) w.heap.size rec fr { E with lock := L } W1 := ⟨by subst hL; exact .inr (.inr rfl), hL1, by subst hL; exact .inr (.inl rfl), hK1, by rw [hrec]; exact v1⟩
    refine (hit _ _ rec (by rw [hrec]) (by rw [hrec]) (by rw [hrec]) (by rw [hrec]) (by rw [hrec]) _ W1 _ hI r1 ?_).mono ?_
    · rw [Array.toList_append]
      refine VRL_append (xs := [.fn (.yield (w.heap.size + 1)) []]) ?_ (VRL_relock (VRL_keep kab _ _ vc))
      simp only [VRL, VR, List.toList_toArray]
      exact ⟨⟨#[], rfl, by simp [VRL]⟩, trivial⟩
    · rintro e W3 ⟨u, E3, h', rfl, k3, r3, kh⟩
      obtain ⟨i1, i2, i3, i4, i5⟩ := Ird.stb _ _ _ _ k3 hI
      refine ⟨none, _, by have := run_endLoop (P := P) i2 (by rw [hrec]; simp); rw [hrec] at this; exact this, ?_⟩
      have hlo : ∀ g, (E.lock g ∨ g = w.heap.size) → L g := fun g hg => by subst hL; exact hg.elim .inl fun e => .inr (.inl e)
      have hlo3 : ∀ g, (E.lock g ∨ g = w.heap.size) → E3.lock g := fun g hg => (k3.lockEq g).2 (hlo g hg)
      have r4 : Rel { E3 with lock := fun g => E.lock g ∨ g = w.heap.size } h' W3 := r3.relock _ (fun k g ha hg => (r3.dis k g ha).1 (hlo3 g hg)) (fun g hg => r3.lkb g (hlo3 g hg))
      have k4 : Keep { E with lock := fun g => E.lock g ∨ g = w.heap.size } W1 { E3 with lock := fun g => E.lock g ∨ g = w.heap.size } W3 := Keep.unlock (E := E) (L := L) _ hlo k3
      obtain ⟨r5, k5⟩ := r4.turnK (ob' := .loop { rec with state := .exhausted }) i2 rfl rfl (fun k ha => (r3.dis k _ ha).1 i1) (fun hh => by
        rcases hh with hh | hh
        · have := r.lkb _ hh; omega
        · omega)
      rw [hrec] at r5 k5
      refine ⟨w.heap.size, E, W1, _, fr, h', fun hh => by have := r.lkb _ hh; omega, kab, k4.trans k5, r5, ?_, by rw [d]; rfl, ?_, hq h' kh⟩
      · have i5' : VRL E3 W3 fr a.tmps.toList := by rw [hrec] at i5; exact i5
        exact VRL_keep k5 _ _ (VRL_relock i5')
      · rw [World.putObj_heap_other (by omega)]; exact i4
end
section
variable {P : Program} {Q : Exit → Fr → Heap → Prop} {h : Heap} {n : Nat}
theorem args_le {args : List AV} {ntm : Nat} (hn : ntm = n) (hle : Nat.ble args.length n = true) : LeF (fm n (argf 0 args).k) h (args ++ List.replicate (ntm - args.length) (.sc undef)) h := by
 have hle := Nat.le_of_ble_eq_true hle
 subst hn
 rw [argf_k]
 refine LeF.of (Sub.refl h) (ALeL_of_get ?_ ?_)
 ·rw [fm_length, List.length_append, List.length_replicate]; omega
 ·intro i x y hx hy
  rw [fm_get] at hy
  split at hy
  ·cases hy
   have e := look_argk (ntm - args.length) 0 args i
   rw [Nat.zero_add] at e
   rw [e]
   by_cases hi : i < args.length
   ·rw [List.getElem?_append_left hi] at hx
    simp only [List.getD, List.getElem?_append_left hi, hx, Option.getD_some]
    exact ALe.refl _ _
   ·simp only [List.getD, List.getElem?_append_right (Nat.le_of_not_lt hi), List.getElem?_replicate]
    split <;> exact ALe.any _ _
  ·cases hy
theorem ACm {f : FuncId} {fn : Func} {c : Code} {args : List AV} {Q : AV → Heap → Prop} (n : Nat) (rs : List ResultVar) (hf : P.funcs[f]? = some fn) (hb : fn.body = some c) (hn : fn.ntmps = n) (hr : fn.results.toList = rs) (hle : Nat.ble args.length n = true)
    (hc : AWm P c (Ret P rs Q) (fm n (argf 0 args).k) h) : ACalls P f args h Q := by
  refine ACalls_of_AWm hf hb ?_
  rw [hr]
  exact (args_le hn hle).awm hc
theorem ACit {I : Env → World → Prop} (hI : Stb I) {f : FuncId} {fn : Func} {c : Code} {args : List AV} {K : Heap → Prop} (n : Nat) (hf : P.funcs[f]? = some fn) (hb : fn.body = some c) (hn : fn.ntmps = n) (hr : fn.results.toList = []) (hle : Nat.ble args.length n = true)
    (hc : AWn I none P c (fun e fr h => (e = .normal ∨ e = .ret) ∧ ∃ h' g, K h' ∧ LeF g h' fr h) (fm n (argf 0 args).k) h) {E : Env} {w : World} {vs : Array Value} (i : I E w) (r : Rel E h w) (v : VRL E w args vs.toList) :
    CallsIn Fence.wide 0 P f vs w (fun e w' => ∃ v E' h', e = .returned v ∧ Keep E w E' w' ∧ Rel E' h' w' ∧ K h') := by
  refine callsIn_wide.2 (calls_of_wp hf hb ?_)
  have hl : args.length = vs.size := by simpa using VRL_length v
  have hv : VRL E w (args ++ List.replicate (fn.ntmps - args.length) (.sc undef)) (vs ++ Array.replicate (fn.ntmps - vs.size) undef).toList := by
    rw [Array.toList_append, ← hl]
    refine VRL_append v ?_
    have := VRL_sc (E := E) (w := w) (List.replicate (fn.ntmps - args.length) undef)
    simpa using this
  refine wp_mono (wpIn_wide.1 ((args_le hn hle).awn hI hc E w { tmps := vs ++ Array.replicate (fn.ntmps - vs.size) undef, defers := [] } i r hv rfl)) ?_
  rintro e a' w' ⟨E1, fr1, h1, k1, r1, v1, d', q, h', fr', kh, le⟩
  obtain ⟨E', k2, r', v'⟩ := le E1 w' _ r1 v1
  have k := k1.trans k2
  have hx : resA P h' fr' fn.results.toList = some (.tup []) := by rw [hr]; rfl
  obtain ⟨u, g1, -⟩ := resA_sound r' v' hx
  rcases q with rfl | rfl
  · exact ⟨d', u, g1, u, E', h', rfl, k, r', kh⟩
  · exact ⟨d', u, g1, u, E', h', rfl, k, r', kh⟩
theorem AWm_v {x y : Code} {f : FR} {L : HL} (hk : HOk h L) (hx : VC P h n x (fun f L => HOk h L → AWm P y Q (fm n f.k) (hp h L)) (fun _ _ _ => False) f L) : AWm P (.seq x y) Q (fm n f.k) (hp h L) := by
 refine AWm_pre ((hx.r hk).mono ?_)
 rintro e fr hh ⟨f', L', hk', le, q⟩
 cases e with
 | normal => exact ⟨rfl, le.awm (q hk')⟩
 | exit i => exact q.elim
 | goto l => exact q.elim
 | ret => exact q.elim
 | panic c => exact q.elim
 | outgrown => exact q.elim
theorem AWn_v {I : Env → World → Prop} (hI : Stb I) {x y : Code} {f : FR} {L : HL} {ke : Exit → FR → HL → Prop} (hk : HOk h L) (hx : VC P h n x (fun f L => HOk h L → AWn I none P y Q (fm n f.k) (hp h L)) ke f L)
    (he : ∀ e f L fr hh, e ≠ .normal → ke e f L → HOk h L → LeF (fm n f.k) (hp h L) fr hh → Q e fr hh) : AWn I none P (.seq x y) Q (fm n f.k) (hp h L) := by
  refine AWn_seq hI (AWn_of ((hx.r hk).mono ?_))
  rintro e fr hh ⟨f', L', hk', le, q⟩
  cases e with
  | normal => exact le.awn hI (q hk')
  | exit i => exact he _ _ _ _ _ (by simp) q hk' le
  | goto l => exact he _ _ _ _ _ (by simp) q hk' le
  | ret => exact he _ _ _ _ _ (by simp) q hk' le
  | panic c => exact he _ _ _ _ _ (by simp) q hk' le
  | outgrown => exact he _ _ _ _ _ (by simp) q hk' le
theorem o_sl3 {α : Type} {c : α → List AV} {xs ys : List α} {dst : Option Tmp} {a lo hi mx : Operand} {t : TypeId} {sz : Nat} {q1 q2 q3 : IntKind} {x y : Int} {kvs : KV} {ty : TypeId} {pos : String} {aft : Array Edge} (hm : slc xs x y = some ys) (hy : decide (0 < y) = true) (ht : elS P t = some sz) (h0 : Nat.blt 0 sz = true) (ha : evk n kvs a = .sl none sz (xs.map c))
    (hl : evk n kvs lo = .sc (.int q1 x)) (hh : evk n kvs hi = .sc (.int q2 y)) (hx : evk n kvs mx = .sc (.int q3 y)) : AOpV P ⟨dst, .slice t a (some lo) (some hi) (some mx), ty, pos, aft, none⟩ (.sl none sz (ys.map c)) (fm n kvs) h := by
  simp only [Nat.blt_eq] at h0
  simp only [decide_eq_true_eq] at hy
  unfold slc at hm
  split at hm
  · rename_i hc
    cases hm
    refine o_pv (c := (sz = sz ∧ 0 < sz) ∧ 0 ≤ x ∧ x ≤ y ∧ y ≤ y ∧ y ≤ (xs.map c).length) ?_ ⟨⟨rfl, h0⟩, hc.1, hc.2.1, Int.le_refl _, by rw [List.length_map]; exact hc.2.2⟩
    have e3 : sl3 (some (AV.sc (.int q1 x))) (.sc (.int q2 y)) (.sc (.int q3 y)) (some sz) (.sl none sz (xs.map c)) = some ((sz = sz ∧ 0 < sz) ∧ 0 ≤ x ∧ x ≤ y ∧ y ≤ y ∧ y ≤ (xs.map c).length, .sl none sz (((xs.take y.toNat).drop x.toNat).map c)) := by
      simp only [sl3, bdA, intA, Option.bind_some]
      rw [List.map_drop, List.map_take]
    obtain ⟨k, hk⟩ : ∃ k : Nat, y = Int.ofNat (k + 1) := ⟨y.toNat - 1, by show y = ((y.toNat - 1 + 1 : Nat) : Int); omega⟩
    show slM (some (ev (fm n kvs) lo)) (ev (fm n kvs) hi) (ev (fm n kvs) mx) (elS P t) (ev (fm n kvs) a) = _
    rw [ev_fm, ev_fm, ev_fm, ev_fm, ha, hl, hh, hx, ht]
    unfold slM
    rw [e3]
    subst hk
    rfl
  · cases hm
end
section
variable {P : Program} {Q : Exit → Fr → Heap → Prop} {h : Heap} {n : Nat} {I : Env → World → Prop} {ro : Option Nat}
theorem LeF.aon {ops : Array Oper} {l : List Oper} {K : Fr → Heap → Prop} {fr fr' : Fr} {h h' : Heap} (hI : Stb I) (le : LeF fr' h' fr h) (hc : AOn I ro P ops l K fr' h') : AOn I ro P ops l K fr h := by
 intro E w a i r v d Q hq hQ
 obtain ⟨E', k, r', v'⟩ := le E w _ r v
 exact hc E' w a (hI _ _ _ _ k i) r' v' d Q hq fun a' w' p => hQ _ _ (p.trans k)
theorem AOps_mono {ops : Array Oper} {l : List Oper} {K K' : Fr → Heap → Prop} {fr : Fr} {h : Heap} (hk : ∀ fr h, K fr h → K' fr h) (hc : AOps P ops l K fr h) : AOps P ops l K' fr h :=
 fun E w a r v d Q hQ => hc E w a r v d Q fun a' w' p => hQ _ _ (p.mono hk)
theorem AWn_pre {T : Tr TI} {w : Bool} (hT : TOk P T) (hI : Stb I) (k : Nat) {id : Nat} {l : List Oper} {f : FR} {L : HL} (hd : ((l.take k).all fun o => nd o.op) = true) (hk : HOk h L)
    (hv : vo false T w P h n l (fun f L => HOk h L → AOn I ro P l.toArray (l.drop k) (Q .normal) (fm n f.k) (hp h L)) (l.take k) f L) : AWn I ro P (.region id l.toArray false) Q (fm n f.k) (hp h L) := by
  refine AWn_list ?_
  have h1 := AOn_of (l := l.take k) (l2 := l.drop k) (ro := ro) (K := Q .normal) hI hd (AOps_mono (fun fr hh q => ?_) (vo_s hT _ f L hv hk))
  · rw [List.take_append_drop] at h1
    exact h1
  · obtain ⟨f', L', hk', le, q⟩ := q
    exact le.aon hI (q hk')
theorem AOn_end {T : Tr TI} {w : Bool} (hT : TOk P T) (hI : Stb I) {l0 l : List Oper} {K : Fr → Heap → Prop} {f : FR} {L : HL} (hq : ∀ fr' h' fr h, LeF fr' h' fr h → K fr' h' → K fr h) (hd : (l.all fun o => nd o.op) = true) (hk : HOk h L)
    (hv : vo false T w P h n l0 (fun f L => HOk h L → K (fm n f.k) (hp h L)) l f L) : AOn I ro P l0.toArray l K (fm n f.k) (hp h L) := by
  have h1 := AOn_of (l := l) (l2 := []) (ro := ro) (K := K) hI hd (AOps_mono (fun fr hh q => ?_) (vo_s hT _ f L hv hk))
  · rw [List.append_nil] at h1
    exact h1
  · obtain ⟨f', L', hk', le, q⟩ := q
    exact AOn_nil (hq _ _ _ _ le (q hk'))
theorem AOn_yieldF {l D p : Nat} {rec : Loop} {fr0 : Fr} {x : AV} {Kr : Heap → Prop} {y b : Operand} {dst : Option Tmp} {ts : Array TypeId} {ty : TypeId} {pos : String} {aft : Array Edge} {l2 : List Oper} {ops : Array Oper} {K : Fr → Heap → Prop} {f : FR}
    (hp : rec.params = #[p]) (hy : evk n f.k y = .fn (.yield l) []) (hx : evk n f.k b = x) (hr : Rnd P l D p rec fr0 x h Kr)
    (k : ∀ h', Kr h' → AOn (Ird l D rec fr0) none P ops l2 K (fm n (f.put dst (.sc (.bool true))).k) h') :
    AOn (Ird l D rec fr0) none P ops (⟨dst, .call { callee := .value y, args := #[b], argTypes := ts }, ty, pos, aft, none⟩ :: l2) K (fm n f.k) h := by
  refine AOn_yield hp (by rw [ev_fm]; exact hy) (by rw [ev_fm]; exact hx) hr fun h' kh => ?_
  rw [fput_fm, ← FR.put_k]
  exact k h' kh
theorem AOp_kfz {K : AV → Heap → Prop} {o : Oper} {h1 h2 : Heap} {t : Nat} {kvs : KV} (v : AV) (hs : Sub h2 h1) (hv : ALe h2 (lk n kvs t) v) (ho : AOp P o K (fm n (kp kvs t v)) h2) : AOp P o K (fm n kvs) h1 := by
 intro E w a r hva Nx Qx hn
 obtain ⟨E', k, r'⟩ := r.drop hs
 refine ho E' w a r' (fun y hy => ?_) Nx Qx fun x u w' E'' h' k' => hn x u w' E'' h' (k.trans k')
 have h1 := VR_keep k _ _ (hva y hy)
 rw [ev_fm] at h1 ⊢
 cases y with
 | tmp s =>
  simp only [evk] at h1 ⊢
  by_cases e : t = s
  ·subst e
   have h3 := hv E' w _ r' h1
   rw [lk_eq]
   split
   ·rw [kp_same]; exact h3
   ·simp only [VR]
  ·rw [lk_eq] at h1 ⊢
   rw [kp_ne _ _ e]; exact h1
 | const v => exact h1
 | global g => exact h1
 | func g => exact h1
theorem AWm_to {x y : Code} {f : FR} (g : FR) (hx : VC P h n x (fun f L => L = [] ∧ LX h n f [] g []) (fun _ _ _ => False) f []) (hy : AWm P y Q (fm n g.k) (hp h [])) : AWm P (.seq x y) Q (fm n f.k) (hp h []) := by
 refine AWm_pre ((hx.r trivial).mono ?_)
 rintro e fr hh ⟨f', L', hk', le, q⟩
 cases e with
 | normal =>
  obtain ⟨rfl, hl⟩ := q
  exact ⟨rfl, (le.trans (hl trivial).2).awm hy⟩
 | exit i => exact q.elim
 | goto l => exact q.elim
 | ret => exact q.elim
 | panic c => exact q.elim
 | outgrown => exact q.elim
theorem AWn_c {x : Code} {f : FR} {L : HL} (hq : ∀ fr' h' fr h, LeF fr' h' fr h → Q .normal fr' h' → Q .normal fr h) (hk : HOk h L) (hx : VC P h n x (fun f L => HOk h L → Q .normal (fm n f.k) (hp h L)) (fun _ _ _ => False) f L) : AWn I none P x Q (fm n f.k) (hp h L) := by
 refine AWn_of ((hx.r hk).mono ?_)
 rintro e fr hh ⟨f', L', hk', le, q⟩
 cases e with
 | normal => exact hq _ _ _ _ le (q hk')
 | exit i => exact q.elim
 | goto l => exact q.elim
 | ret => exact q.elim
 | panic c => exact q.elim
 | outgrown => exact q.elim
end
end Go.Vm
namespace Go.Proofs.Ytoomgangpjcaoaa
open Go.Vm
def M144_L0 {β : Type} (p0 : List TItem) (m : Int) (st : β → List TItem → Option β) (s : β) (i : Int) : Option (Lp (β × Int) β) :=
 if (decide (i < (p0.length : Int))) = true then ((slc p0 i (p0.length : Int)).bind fun tl => (slc p0 i (IntKind.wrap .i64 (i + min m (tl.length : Int)))).bind fun row => grd (decide (0 < IntKind.wrap .i64 (i + min m (tl.length : Int)))) ((st s row).bind fun s' => some (.go (s', IntKind.wrap .i64 (i + m))))) else some (.brk (s, i))
def M144 {β : Type} (fuel : Nat) (p0 : List TItem) (m : Int) (st : β → List TItem → Option β) (s0 : β) : Option β := after (loopM (fun s => M144_L0 p0 m st s.1 s.2) fuel (s0, 0)) fun s => some s.1
set_option maxHeartbeats 4000000 in
set_option maxRecDepth 100000 in
theorem W144 {β : Type} {Hs : β → Heap → Prop} {st : β → List TItem → Option β} {fuel : Nat} {p0 : List TItem} {m : Int} {s0 o : β} {k1 k2 : Key} {l D p : Nat} {rec : Loop} {fr0 : Fr} {h : Heap}
 (hp : rec.params = #[p])
 (h1 : ∀ s h, Hs s h → h k1 = some (.obj 70 [.sl none 37 (p0.map c_Item)])) (h2 : ∀ s h, Hs s h → h k2 = some (.obj 3 [.sc (.int .i64 m)]))
 (hr : ∀ s row s' h, st s row = some s' → Hs s h → Rnd Try.prog l D p rec fr0 (.sl none 37 (row.map c_Item)) h (Hs s'))
 (hm : M144 fuel p0 m st s0 = some o) (h0 : Hs s0 h) {E : Env} {w : World} {us : Array Value} (hi : Ird l D rec fr0 E w) (r : Rel E h w) (hv : VRL E w [.fn (.yield l) [], .ptr k1 0, .ptr k2 0] us.toList) :
 CallsIn Fence.wide 0 Try.prog 144 us w (fun e w' => ∃ v E' h', e = .returned v ∧ Keep E w E' w' ∧ Rel E' h' w' ∧ Hs o h') := by
 refine ACit Ird.stb 31 Try.func144 rfl rfl rfl rfl ?_ hi r hv
 unfold M144 at hm
 refine AWn_v Ird.stb (h := h) (L := []) trivial ?_ (ke := fun _ _ _ => False) (fun _ _ _ _ _ _ q => q.elim)
 refine v ?_
 intro _
 refine AWn_block ?_
 obtain ⟨SL, hSL⟩ : ∃ SL : Int → FR, SL = fun i => .c 0 (.fn (.yield l) []) (.c 1 (.ptr k1 0) (.c 2 (.ptr k2 0) (.c 4 (.sc (.int .i64 i)) .nil))) := ⟨_, rfl⟩
 refine AWn_loop Ird.stb (fun m' fr hh => ∃ s i, after (loopM (fun s => M144_L0 p0 m st s.1 s.2) m' (s, i)) (fun s => some s.1) = some o ∧ ∃ h1, Hs s h1 ∧ LeF (fm 31 (SL i).k) h1 fr hh) fuel ⟨s0, 0, hm, h, h0, ?_⟩ ?_
 subst hSL
 exact (lx (h := h) (L := []) (.k4 .nil) trivial).2
 rintro m' fr hh ⟨s, i, hm, h', hs, le⟩
 refine le.awn Ird.stb ?_
 cases m' with
 | zero => cases hm
 | succ m' =>
 simp only [loopM] at hm
 cases hx : M144_L0 p0 m st s i with
 | none => rw [hx] at hm; cases hm
 | some x =>
 rw [hx] at hm
 unfold M144_L0 at hx
 subst hSL
 refine AWn_v Ird.stb (h := h') (L := []) trivial ?_ (ke := fun e _ L => e = .exit 0 ∧ x = .brk (s, i) ∧ L = []) ?_
 refine vs (v (vn (fun _ => Zg _ ld70 rfl (h1 _ _ hs) rfl) (vln ln70 rfl (v ?_))))
 refine vi hx (fun hc hx => ?_) (fun hc hx => ?_)
 refine v ?_
 intro _
 obtain ⟨tl, hx1, hx⟩ := Zc hx
 obtain ⟨row, hx2, hx⟩ := Zc hx
 obtain ⟨hx3, hx⟩ := grd_of hx
 obtain ⟨s', hx4, hx⟩ := Zc hx
 injection hx with hx
 subst hx
 refine AWn_seq Ird.stb (AWn_block ?_)
 refine AWn_v Ird.stb (h := h') (L := []) trivial ?_ (ke := fun _ _ _ => False) (fun _ _ _ _ _ _ q => q.elim)
 refine v (vq (by kernel_rfl) (vn (fun _ => Zg _ ld3 rfl (h2 _ _ hs) rfl) (vn (fun _ => Zg _ ld70 rfl (h1 _ _ hs) rfl) (vn (fun _ => o_slc hx1 el70 rfl rfl rfl rfl) (vln ln70 rfl (vn (fun _ => o_min rfl rfl) ?_))))))
 intro _
 refine AWn_seq Ird.stb ?_
 refine AWn_pre tbk Ird.stb 10 (h := h') (L := []) (w := false) rfl trivial ?_
 refine vn (fun _ => Zg _ ld70 rfl (h1 _ _ hs) rfl) (vn (fun _ => o_sl3 hx2 hx3 el70 rfl rfl rfl rfl rfl) ?_)
 intro _
 refine AOn_yieldF hp rfl rfl (hr _ _ _ _ hx4 hs) fun g2 hs2 => ?_
 refine AOn_end tbk Ird.stb (h := g2) (L := []) (w := false) (fun _ _ _ _ le q => le.awn Ird.stb q) rfl trivial ?_
 intro _
 refine AWn_if (t := false) (by rw [ev_fm]; rfl) nofun fun _ => AWn_skip ?_
 refine AWn_c (h := g2) (L := []) ?_ trivial ?_
 rintro fr' hh' fr hh le ⟨n', hn, s, i, hm, h1, hs, le'⟩
 exact ⟨n', hn, s, i, hm, h1, hs, le.trans le'⟩
 refine v (vn (fun _ => Zg _ ld3 rfl (h2 _ _ hs2) rfl) ?_)
 intro _
 exact ⟨m', Nat.lt_succ_self _, s', _, hm, g2, hs2, (lx (h := g2) (L := []) (.k4 .nil) trivial).2⟩
 refine v ?_
 injection hx with hx
 exact ⟨rfl, hx.symm, rfl⟩
 rintro e f L fr hh - ⟨rfl, rfl, rfl⟩ - le
 cases hm
 exact ⟨.inl rfl, h', _, hs, le⟩
set_option maxHeartbeats 4000000 in
set_option maxRecDepth 100000 in
theorem W120 {p0 : List TItem} {m : Int} (h : Heap) (hm : decide (m < 1) = false) :
 ACalls Try.prog 120 [.sl none 37 (List.map c_Item p0), .sc (.int .i64 m)] h (fun r h' => ∃ k1 k2, HOk h [(some k2, .obj 3 [.sc (.int .i64 m)]), (some k1, .obj 70 [.sl none 37 (List.map c_Item p0)])] ∧ r = .fn (.func 144) [.ptr k1 0, .ptr k2 0] ∧ h' = hp h [(some k2, .obj 3 [.sc (.int .i64 m)]), (some k1, .obj 70 [.sl none 37 (List.map c_Item p0)])]) := by
 refine ACv 9 [.tmp 4] Try.func120 rfl rfl rfl rfl ?_
 refine v ?_
 refine ve fun hk => a_box hk rfl rfl fun k1 hk3 => qk hk3 rfl ?_
 refine ve fun hk => a_box hk rfl rfl fun k2 hk3 => qk hk3 rfl ?_
 refine vs (vs (v (vl 0 _ ld3 rfl rfl rfl (v (vf hm (v (v (v ?_))))))))
 exact vr fun hk => Ret.of1 (.inl rfl) (rsT _ _ (.fn (.func 144) [.ptr k1 0, .ptr k2 0]) rfl) (Sub.refl _) (ALe.refl _ _) ⟨k1, k2, hk, rfl, rfl⟩
theorem bd120 : bodied Try.prog 120 = true := by kernel_rfl
theorem bd144 : bodied Try.prog 144 = true := by kernel_rfl
def m86 (p1 : Int) : Int := if (decide (p1 < 1) || decide (64 < p1)) = true then 64 else p1
theorem m86_pos (p1 : Int) : decide (m86 p1 < 1) = false := by
 unfold m86
 split
 rfl
 rename_i h
 simp only [Bool.or_eq_true, decide_eq_true_eq, not_or] at h
 simp only [decide_eq_false_iff_not]
 omega
def s86 (fuel : Nat) (s : List (List TItem)) (row : List TItem) : Option (List (List TItem)) := (M121 fuel row).bind fun r => app s [r]
def M86 (fuel : Nat) (p0 : List TItem) (p1 : Int) : Option (List (List TItem)) := M144 fuel p0 (m86 p1) (s86 fuel) []
section
variable (p0 : List TItem) (m : Int) (k1 k2 k5 : Key)
def L86 (tg : Option Key) (s : List (List TItem)) : HL :=
 [(tg, .tok 70 1 (s.length * 1)), (some k2, .obj 3 [.sc (.int .i64 m)]), (some k1, .obj 70 [.sl none 37 (List.map c_Item p0)]), (some k5, .obj 125 [ow tg 1 (List.map c_s_Item s)])]
def H86 (h : Heap) (s : List (List TItem)) (hh : Heap) : Prop := ∃ tg, (tg = none → s = []) ∧ HOk h (L86 p0 m k1 k2 k5 tg s) ∧ hh = hp h (L86 p0 m k1 k2 k5 tg s)
end
set_option maxHeartbeats 4000000 in
set_option maxRecDepth 100000 in
theorem W86 {fuel : Nat} {p0 : List TItem} {p1 : Int} {o : List (List TItem)} (h : Heap) (hm : M86 fuel p0 p1 = some o) :
 ACalls Try.prog 86 [.sl none 37 (List.map c_Item p0), .sc (.int .i64 p1)] h (fun r h' => r = .sl none 1 (List.map c_s_Item o) ∧ h' = h) := by
 unfold M86 at hm
 refine ACm 23 [.tmp 4] Try.func86 rfl rfl rfl rfl ?_
 refine AWm_v (h := h) (L := []) trivial ?_
 refine v ?_
 intro _
 obtain ⟨m, em⟩ : ∃ m, m = m86 p1 := ⟨_, rfl⟩
 have hpos := m86_pos p1
 rw [← em] at hm hpos
 refine AWm_to (h := h) (.c 0 (.sl none 37 (List.map c_Item p0)) (.c 1 (.sc (.int .i64 m)) .nil)) ?_ ?_
 refine vs ?_
 rcases Bool.eq_false_or_eq_true (decide (p1 < 1)) with c1 | c1
 refine v (vt c1 ?_)
 rw [c1]
 refine v (v ?_)
 have e64 : m = 64 := by rw [em]; simp [m86, c1]
 subst e64
 exact ⟨rfl, lx (.k2 .nil)⟩
 rcases Bool.eq_false_or_eq_true (decide (64 < p1)) with c2 | c2
 refine v (vf c1 ?_)
 rw [c1]
 refine v (vt c2 (v ?_))
 have e64 : m = 64 := by rw [em]; simp [m86, c1, c2]
 subst e64
 exact ⟨rfl, lx (.k2 .nil)⟩
 refine v (vf c1 ?_)
 rw [c1]
 refine v (vf c2 (v ?_))
 have e64 : m = p1 := by rw [em]; simp [m86, c1, c2]
 subst e64
 exact ⟨rfl, lx (.k2 .nil)⟩
 refine AWm_v (h := h) (L := []) trivial ?_
 refine v ?_
 refine ve fun hk => a_alloc [.sc (.slice none 0 0)] hk zr125 rfl rfl fun k5 hk5 => qk hk5 rfl ?_
 intro hk5
 refine AWm_post ?_
 refine AWm_v (h := h) hk5 ?_
 refine v ?_
 refine ve fun hk => a_call (W120 _ hpos) rfl bd120 rfl ?_
 rintro x h' ⟨k1, k2, hk1, rfl, rfl⟩
 refine qk (HOk_app hk hk1) (hp_app h _ _) ?_
 intro hk
 have le0 := leo (n := 23) (f := .c 15 (.fn (.func 144) [.ptr k1 0, .ptr k2 0]) (.c 14 (.sc (.int .i64 m)) (.c 13 (.sl none 37 (List.map c_Item p0)) (.c 5 (.ptr k5 0) (.c 0 (.sl none 37 (List.map c_Item p0)) (.c 1 (.sc (.int .i64 m)) .nil)))))) (.tok 70 1 (([] : List (List TItem)).length * 1)) 3 [ow none 1 (List.map c_s_Item [])] rfl (.cons (ow_nil _ _) .nil) hk
 obtain ⟨hkL, le0⟩ := le0
 refine le0.awm ?_
 refine AWm_block (AWm_range (by rw [ev_fm]; rfl) bd144 (fun l D rec r1 r2 r3 r4 r5 E w us hi r hv => W144 (Hs := H86 p0 m k1 k2 k5 h) (st := s86 fuel) r3 ?_ ?_ ?_ hm ⟨none, fun _ => rfl, hkL, rfl⟩ hi r hv) ?_)
 rintro s hh ⟨tg, ot, hk, rfl⟩
 exact Zd 2 hk rfl
 rintro s hh ⟨tg, ot, hk, rfl⟩
 exact Zd 1 hk rfl
 rintro s row s' hh hst ⟨tg, ot, hk, rfl⟩
 unfold s86 at hst
 obtain ⟨row', hr1, hst⟩ := Zc hst
 have e6 : ∀ (f : FR) (x : AV), (fm 23 f.k).set 16 x = fm 23 (f.put (some 16) x).k := fun f x => by
   show fput (fm 23 f.k) (some 16) x = _
   rw [fput_fm, FR.put_k]
 refine Rnd.of r1 r2 (fr1 := fm 23 (FR.put (FR.put (.c 15 (.fn (.func 144) [.ptr k1 0, .ptr k2 0]) (.c 14 (.sc (.int .i64 m)) (.c 13 (.sl none 37 (List.map c_Item p0)) (.c 5 (.ptr k5 0) (.c 0 (.sl none 37 (List.map c_Item p0)) (.c 1 (.sc (.int .i64 m)) .nil)))))) (some 16) (.sl none 37 (List.map c_Item row))) (some 6) (.sl none 37 (List.map c_Item row))).k) ?_ ?_
 rw [r4, e6]
 refine AWn_reg rfl ?_
 rw [FR.put_k]
 refine s_v (o_as (.sl none 37 (List.map c_Item row)) rfl) ?_
 refine Zb ⟨rfl, ?_⟩
 rw [FR.put_k]
 exact LeF.rfl'
 rw [r5]
 refine AWn_block (AWn_zreg [(5, some k5, .obj 125 [ow tg 1 (List.map c_s_Item s)])] rfl mixed ⟨fun _ => hp_at 3 hk rfl, trivial⟩ ?_)
 refine z_w 0 rfl (fun S' h' hi hB => Zg (ow tg 1 (List.map c_s_Item s)) ld125 rfl (At.s (InvL.get 0 hi rfl (hB 5 (by kernel_rfl)))) rfl) ?_
 refine z_w 1 rfl (fun S' h' hi hB => o_mv (.sl none 37 (List.map c_Item row)) rfl) ?_
 refine z_e 2 rfl (by kernel_rfl) (a_call (W121 _ hr1) rfl bd121 rfl ?_)
 rintro x h' ⟨t, ot', hk', rfl, rfl⟩
 refine ⟨⟨fun _ => ?_, trivial⟩, ?_⟩
 rw [hp_app]
 exact hp_at 4 (HOk_app hk hk') rfl
 refine z_e 3 rfl (by kernel_rfl) (AOp_kfz (t := 19) (.sl none 37 (List.map c_Item row')) (hp_nil hk') (own_frz0 37 0 ot' hk' rfl) (a_v (o_lit (List.map c_s_Item [row']) et125 rfl rfl rfl rfl) ⟨⟨fun _ => hp_at 3 hk rfl, trivial⟩, ?_⟩))
 refine z_e 4 rfl (by kernel_rfl) (a_app (c := c_s_Item) 0 hst et125 rfl rfl rfl ot hk rfl fun tg' ot' hk' => ⟨⟨fun _ => hp_at 3 hk' rfl, trivial⟩, ?_⟩)
 refine z_e 5 rfl (by kernel_rfl) (a_store 3 ([ow tg' 1 (List.map c_s_Item s')]) hk' rfl rfl (cellsOf_ow rfl) (all_ow _ _ _) sz125 rfl rfl fun hk'' => ⟨⟨fun e => absurd e (by decide), trivial⟩, ?_⟩)
 exact z_nil (by kernel_rfl) ⟨rfl, _, _, ⟨tg', ot', hk'', rfl⟩, LeF.rfl'⟩
 rintro hh ⟨tg, ot, hk, rfl⟩
 refine ⟨rfl, rfl, ?_⟩
 refine AWd_seq (AWd_list ?_)
 refine AOd_plain rfl rfl (a_v (Zg (ow tg 1 (List.map c_s_Item o)) ld125 rfl (Zd 3 hk rfl) rfl) ?_)
 rw [fput_fm]
 refine AOd_plain rfl rfl (a_v (o_as (ow tg 1 (List.map c_s_Item o)) rfl) ?_)
 rw [fput_fm]
 refine AOd_nil ?_
 refine AWd_ret ?_
 exact Ret.of1 (.inl rfl) (rsT _ _ (ow tg 1 (List.map c_s_Item o)) rfl) (hp_sub (List.nil_sublist _) hk).1 (own_frz0 1 0 ot hk rfl) ⟨rfl, rfl⟩
theorem bd86 : bodied Try.prog 86 = true := by kernel_rfl
def M39 (fuel : Nat) : Option (Bool) :=
 (M86 fuel ([({ Kind := 0, Id := idZ, Seq := 1, Of := 0, Off := 0, Len := 0 } : TItem), ({ Kind := 0, Id := idZ, Seq := 2, Of := 0, Off := 0, Len := 0 } : TItem), ({ Kind := 0, Id := idZ, Seq := 3, Of := 0, Off := 0, Len := 0 } : TItem)] : List TItem) 2).bind fun y3 => after (if ((y3.length : Int) == 2) = true then ((ix y3 0).bind fun x0 => if ((x0.length : Int) == 2) = true then ((ix y3 1).bind fun x1 => if ((x1.length : Int) == 1) = true then ((ix y3 1).bind fun x2 => (ix x2 0).bind fun x3 => some (.brk (x3.Seq == 3))) else some (.brk false)) else some (.brk false)) else some (.brk false) : Option (Lp (Bool) (Bool))) fun j0 => some j0
set_option maxHeartbeats 4000000 in
set_option maxRecDepth 100000 in
theorem W39 {fuel : Nat} {o : Bool} (h : Heap) (hm : M39 fuel = some o) :
 ACalls Try.prog 39 [] h (fun r h' => r = .sc (.bool o) ∧ h' = h) := by
 refine ACv 33 [.tmp 0] Try.func39 rfl rfl rfl rfl ?_
 unfold M39 at hm
 refine v (v (vn (fun _ => o_bld (c_Item ({ Kind := 0, Id := idZ, Seq := 1, Of := 0, Off := 0, Len := 0 } : TItem)) bt99 rfl) (vn (fun _ => o_bld (c_Item ({ Kind := 0, Id := idZ, Seq := 2, Of := 0, Off := 0, Len := 0 } : TItem)) bt99 rfl) (vn (fun _ => o_bld (c_Item ({ Kind := 0, Id := idZ, Seq := 3, Of := 0, Off := 0, Len := 0 } : TItem)) bt99 rfl) (vn (fun _ => o_lit (List.map c_Item ([({ Kind := 0, Id := idZ, Seq := 1, Of := 0, Off := 0, Len := 0 } : TItem), ({ Kind := 0, Id := idZ, Seq := 2, Of := 0, Off := 0, Len := 0 } : TItem), ({ Kind := 0, Id := idZ, Seq := 3, Of := 0, Off := 0, Len := 0 } : TItem)] : List TItem)) et70 rfl rfl rfl rfl) ?_)))))
 refine vk W86 bd86 hm rfl rfl fun _ hm => ?_
 refine vs ?_
 refine vjnH hm (σ := Bool) (τ := Unit) (fun g s => []) (fun g s => .c 0 (.sc (.bool s)) .nil) (fun x hm => ?_) ?_
 refine v (vln ln125 rfl ?_)
 refine vi hm (fun hb0 hm => ?_) fun hb0 hm => ?_
 rw [hb0]
 refine vx hm el125 rfl rfl fun _ _ hm => ?_
 refine vln ln70 rfl ?_
 refine vi hm (fun hb1 hm => ?_) fun hb1 hm => ?_
 rw [hb1]
 refine vx hm el125 rfl rfl fun _ _ hm => ?_
 refine vln ln70 rfl ?_
 refine vi hm (fun hb2 hm => ?_) fun hb2 hm => ?_
 rw [hb2]
 refine vx hm el125 rfl rfl fun _ _ hm => ?_
 refine vx hm el70 rfl rfl fun _ _ hm => ?_
 exact vgo hm () trivial (lx (.cons (ALe.refl _ _) .nil))
 rw [hb2]
 exact vgo hm () trivial (lx (.cons (ALe.refl _ _) .nil))
 rw [hb1]
 exact vgo hm () trivial (lx (.cons (ALe.refl _ _) .nil))
 rw [hb0]
 exact vgo hm () trivial (lx (.cons (ALe.refl _ _) .nil))
 rintro _ j0 hm
 refine v ?_
 injection hm with hm; subst hm
 exact vr1 rfl
theorem bd39 : bodied Try.prog 39 = true := by kernel_rfl
open Go.Vm
def M36 (fuel : Nat) (p0 : TCatalog) (p1 : Int) : Option ((List TItem)) :=
 after (if (decide (p1 < 0)) = true then (some (.brk true)) else if (decide (1 < p1)) = true then (some (.brk true)) else (M33 fuel p0).bind fun y0 => some (.brk (y0 != 0)) : Option (Lp (Bool) ((List TItem)))) fun j0 => if j0 = true then (some []) else (M78 fuel p0 (fun x0 x1 => M79 fuel x0 x1 p0 p1)).bind fun y1 => some y1
set_option maxHeartbeats 4000000 in
set_option maxRecDepth 100000 in
theorem W36 {fuel : Nat} {p0 : TCatalog} {p1 : Int} {o : (List TItem)} (h : Heap) (hm : M36 fuel p0 p1 = some o) :
 ACalls Try.prog 36 [.agg (c_Catalog p0), .sc (.int .i64 p1)] h (fun r h' => r = .sl none 37 (List.map c_Item o) ∧ h' = h) := by
 refine ACv 19 [.tmp 4] Try.func36 rfl rfl rfl rfl ?_
 unfold M36 at hm
 refine v ?_
 refine ve fun hk => a_box hk rfl rfl fun k2 hk3 => qk hk3 rfl ?_
 refine ve fun hk => a_box hk rfl rfl fun k5 hk6 => qk hk6 rfl ?_
 refine vs (vs ?_)
 refine vjnH hm (σ := Bool) (τ := Unit) (fun g s => [(some k5, .obj 3 (c_i64 p1)), (some k2, .obj 27 (c_Catalog p0))]) (fun g s => .c 2 (.ptr k2 0) (.c 3 (.ptr k5 0) (.c 15 (.sc (.bool s)) .nil))) (fun x hm => ?_) ?_
 refine v (vl 0 _ ld3 rfl rfl rfl ?_)
 refine vi hm (fun hb0 hm => ?_) fun hb0 hm => ?_
 rw [hb0]
 exact vgo hm () trivial (lx (.k3 .nil))
 rw [hb0]
 refine vl 0 _ ld3 rfl rfl rfl ?_
 refine vi hm (fun hb1 hm => ?_) fun hb1 hm => ?_
 rw [hb1]
 exact vgo hm () trivial (lx (.k3 .nil))
 rw [hb1]
 refine vl 1 (.agg (c_Catalog p0)) ld27 rfl rfl rfl ?_
 refine vk W33 bd33 hm rfl rfl fun _ hm => ?_
 exact vgo hm () trivial (lx (.k3 .nil))
 rintro _ j0 hm
 refine v ?_
 refine vi hm (fun hc0 hm => ?_) fun hc0 hm => ?_
 refine v (v ?_)
 cases hm
 exact vr fun hk => Ret.of1 (.inl rfl) (rsT _ _ (.sc (.slice _ _ _)) rfl) (hp_sub (List.nil_sublist _) hk).1 (nil_lem _) ⟨rfl, rfl⟩
 refine v (v (vl 1 (.agg (c_Catalog p0)) ld27 rfl rfl rfl ?_))
 obtain ⟨_, hy0, hm⟩ := Zc hm
 refine vn (fun hk => o_call (W78 _ bd79 (fun _ _ o h0 hs ho => W79 _ (hs _ _ (Zd 1 hk rfl)) (hs _ _ (Zd 0 hk rfl)) ho) hy0) rfl bd78 rfl) (v ?_)
 injection hm with hm; subst hm
 exact vr1 rfl
theorem bd36 : bodied Try.prog 36 = true := by kernel_rfl
def M45_L0 (fuel : Nat) (p0 : List TItem) (p1 : Id32) (q0 : Int) : Option (Lp (Int) (Bool)) :=
 if (decide (q0 < (p0.length : Int))) = true then (after ((ix p0 q0).bind fun x0 => if (x0.Kind == 1) = true then ((ix p0 q0).bind fun x1 => some (.brk (decide (x1.Id = p1)))) else some (.brk false) : Option (Lp (Bool) (Lp (Int) (Bool)))) fun j0 => if j0 = true then (some (.ret true)) else some (.go (IntKind.wrap .i64 (q0 + 1)))) else some (.brk q0)
def M45 (fuel : Nat) (p0 : List TItem) (p1 : Id32) : Option (Bool) :=
 after (loopM (fun s => M45_L0 fuel p0 p1 s) fuel 0) fun r0 => some false
set_option maxHeartbeats 4000000 in
set_option maxRecDepth 100000 in
theorem W45 {fuel : Nat} {p0 : List TItem} {p1 : Id32} {o : Bool} (h : Heap) (hm : M45 fuel p0 p1 = some o) :
 ACalls Try.prog 45 [.sl none 37 (List.map c_Item p0), .agg (c_id p1)] h (fun r h' => r = .sc (.bool o) ∧ h' = h) := by
 refine ACv 27 [.tmp 4] Try.func45 rfl rfl rfl rfl ?_
 unfold M45 at hm
 refine v ?_
 refine ve fun hk => a_box hk rfl rfl fun k2 hk3 => qk hk3 rfl ?_
 refine v ?_
 refine vlpH hm (σ := Int) (τ := Unit) (fun g s => [(some k2, .obj 61 (c_id p1))]) (fun g s => .c 0 (.sl none 37 (List.map c_Item p0)) (.c 3 (.ptr k2 0) (.c 5 (.sc (.int .i64 s)) .nil))) () (lx (.k3 .nil)) ?_ ?_
 rintro _ q0 x hm
 replace hm : M45_L0 fuel p0 p1 q0 = some x := hm
 unfold M45_L0 at hm
 refine v (vln ln70 rfl (v ?_))
 refine vi hm (fun hc0 hm => ?_) fun hc0 hm => ?_
 refine v (v (vs ?_))
 refine vjnH hm (σ := Bool) (τ := Unit) (fun g s => [(some k2, .obj 61 (c_id p1))]) (fun g s => .c 0 (.sl none 37 (List.map c_Item p0)) (.c 3 (.ptr k2 0) (.c 5 (.sc (.int .i64 q0)) (.c 26 (.sc (.bool s)) .nil)))) (fun x hm => ?_) ?_
 refine v (vq (by kernel_rfl) ?_)
 refine vx hm el70 rfl rfl fun _ _ hm => ?_
 refine vi hm (fun hb0 hm => ?_) fun hb0 hm => ?_
 rw [hb0]
 refine vx hm el70 rfl rfl fun x0 _ hm => ?_
 refine va (.agg (c_id x0.Id)) ld61 rfl rfl (vl 0 (.agg (c_id p1)) ld61 rfl rfl rfl (vn (fun _ => o_ide eg61 u61 u5 ld5 rfl rfl) ?_))
 exact vgo hm () trivial (lx (.k4 .nil))
 rw [hb0]
 exact vgo hm () trivial (lx (.k4 .nil))
 rintro _ j0 hm
 refine v ?_
 refine vi hm (fun hc1 hm => ?_) fun hc1 hm => ?_
 refine v (v ?_)
 refine vrt hm fun hm => ?_
 injection hm with hm; subst hm
 exact vr1 rfl
 refine v (v ?_)
 exact vgo hm () trivial (lx (.k3 .nil))
 refine v ?_
 exact vbk hm () trivial (lx (.k3 .nil))
 rintro _ r0 hm
 refine v (v ?_)
 injection hm with hm; subst hm
 exact vr1 rfl
theorem bd45 : bodied Try.prog 45 = true := by kernel_rfl
open Go.Vm
def laB (c : TCatalog) (p : Int) (l : List TLoc) : Bool := !l.any (inP c p) && (p == 0 || l.any (inP c 0))
theorem m79 {F : Nat} {c : TCatalog} {p : Int} {l : List TLoc} {b : Bool} (hF : 1000 ≤ F) (h : Sm c) (hl : l.length ≤ 300) : M79 F l b c p = some (b && laB c p l) := by
 have hvo := h.vo
 unfold M79 laB
 simp only [m46 hF (by omega : c.Vols.length < 1000) hl, Option.bind_some]
 cases b <;> cases l.any (inP c p) <;> cases p == 0 <;> rfl
def lacks (c : TCatalog) (p : Int) : List TItem := allL c fun l b => b && laB c p l
theorem m36 {F : Nat} {c : TCatalog} {p : Int} (hF : 1000 ≤ F) (h : Sm c) : M36 F c p = some (if good c = true ∧ 0 ≤ p ∧ p ≤ 1 then lacks c p else []) := by
 unfold M36
 by_cases h1 : p < 0
 ·have : ¬ (good c = true ∧ 0 ≤ p ∧ p ≤ 1) := by omega
  simp [h1, this, after]
 ·by_cases h2 : 1 < p
  ·have : ¬ (good c = true ∧ 0 ≤ p ∧ p ≤ 1) := by omega
   simp [h1, h2, this, after]
  ·rw [m33 hF h]
   have h3 : p ≤ 1 := by omega
   have h0 : 0 ≤ p := by omega
   cases hg : good c
   ·simp [h1, h2, hg, after]
   ·simp only [h1, h2, decide_false, Bool.false_eq_true, if_false, if_true, Option.bind_some, bne_self_eq_false, after_brk, h0, h3, and_self, true_and]
    rw [m78g (fun l b => b && laB c p l) hF h (fun l b hl => m79 hF h hl)]
    rfl
theorem allL_len {c : TCatalog} {g : List TLoc → Bool → Bool} (h : Sm c) : (allL c g).length ≤ 720 := by
 have hsn := h.sn
 have hch := h.ch
 have hex := h.ex
 unfold allL
 simp only [List.length_append, List.length_map]
 have h1 := List.length_filter_le (fun x : TChunk => g x.Locs (usedB c x.Id)) c.Chunks
 have h2 := List.length_filter_le (fun x : TSnap => g x.Locs true) c.Snaps
 have h3 := List.length_filter_le (fun x : TExp => g x.Locs true) c.Exps
 omega
theorem m39 : M39 1000 = some true := by decide +kernel
open Go.Vm
theorem m54a : @M54a = @M54 := rfl
theorem m14d {F : Nat} {c : TCatalog} (hF : 1000 ≤ F) (h : Sm c) : M14d F c = some c := by
 rw [← m14 (F := F) hF h]
 rfl
theorem wru {n : Nat} (h : n < 1000000000) : IntKind.wrap .u64 (n : Int) = n := by
 have e : IntKind.wrap .u64 (n : Int) = (n : Int) % 18446744073709551616 := rfl
 rw [e]; omega
theorem wru0 (p : Int) : 0 ≤ IntKind.wrap .u64 p := by
 have e : IntKind.wrap .u64 p = p % 18446744073709551616 := rfl
 rw [e]; omega
theorem idxW (p : Int) {n : Nat} (h0 : 0 < n) (hn : n < 1000000000) : ∃ j : Nat, j < n ∧ IntKind.wrap .i64 ((IntKind.wrap .u64 p).tmod (n : Int)) = (j : Int) := by
 have h1 := wru0 p
 generalize IntKind.wrap .u64 p = a at h1
 rw [Int.tmod_eq_emod_of_nonneg h1]
 have h2 : 0 ≤ a % (n : Int) := Int.emod_nonneg _ (by omega)
 have h3 : a % (n : Int) < n := Int.emod_lt_of_pos _ (by omega)
 refine ⟨(a % (n : Int)).toNat, by omega, ?_⟩
 rw [wr (by omega) (by omega)]
 omega
theorem mem_set {α : Type} {l : List α} {j : Nat} {x y : α} (h : y ∈ l.set j x) : y ∈ l ∨ y = x := by
 have := List.mem_or_eq_of_mem_set h
 exact this
open Go.Vm
structure Rng (c : TCatalog) : Prop where
 seq : 0 ≤ c.Seq ∧ c.Seq ≤ 1073741824
 sn : c.Snaps.length ≤ 8
 ch : c.Chunks.length ≤ 200
 ex : c.Exps.length ≤ 200
 vo : c.Vols.length ≤ 8
 s : ∀ s ∈ c.Snaps, 0 ≤ s.Seq ∧ s.Seq < c.Seq ∧ manB s.Man = true ∧ locsB c s.Locs = true
 k : ∀ x ∈ c.Chunks, x.Data.length ≤ 64 ∧ locsB c x.Locs = true
 e : ∀ x ∈ c.Exps, 0 ≤ x.Seq ∧ x.Seq < c.Seq ∧ 0 ≤ x.Of ∧ x.Of < c.Seq ∧ locsB c x.Locs = true
 v : ∀ x ∈ c.Vols, 0 ≤ x.Pool ∧ x.Pool ≤ 1 ∧ 0 ≤ x.Epoch ∧ x.Epoch ≤ 1048576 ∧ 1 ≤ x.State ∧ x.State ≤ 3 ∧ 0 ≤ x.Files ∧ x.Files ≤ 65535
theorem rng {c : TCatalog} (hg : good c = true) : Rng c := by
 obtain ⟨q1, q2, q3⟩ := good_locs hg
 have hg0 := hg
 unfold good at hg0
 simp only [Bool.and_eq_true, inR, decide_eq_true_eq] at hg0
 obtain ⟨⟨⟨⟨g1, g2, g3⟩, g4, g5⟩, g6, g7⟩, g8, g9⟩ := hg0
 refine ⟨g1, g7, g5, g9, by omega, fun s hs => ?_, fun x hx => ⟨?_, q1 x hx⟩, fun x hx => ?_, fun x hx => ?_⟩
 ·obtain ⟨i, hi, rfl⟩ := List.getElem_of_mem hs
  have := (snB_at hg (List.getElem?_eq_getElem hi)).1
  unfold snB at this
  rw [List.getElem?_eq_getElem hi] at this
  simp only [Bool.and_eq_true, inR, decide_eq_true_eq] at this
  obtain ⟨⟨⟨⟨h1, h2⟩, h3⟩, h4⟩, h5⟩ := this
  exact ⟨h1.1, by omega, h4, h5⟩
 ·obtain ⟨i, hi, rfl⟩ := List.getElem_of_mem hx
  have := chB_at hg (List.getElem?_eq_getElem hi)
  unfold chB at this
  rw [List.getElem?_eq_getElem hi] at this
  simp only [Bool.and_eq_true] at this
  have := this.2
  split at this
  ·simp only [inR, Bool.and_eq_true, decide_eq_true_eq] at this; omega
  ·simp only [Bool.and_eq_true, Bool.not_eq_true', decide_eq_false_iff_not] at this; omega
 ·obtain ⟨i, hi, rfl⟩ := List.getElem_of_mem hx
  unfold exsB at g8
  simp only [Bool.not_eq_true', List.any_eq_false, List.mem_range] at g8
  have := g8 i hi
  have this : exA c i = true ∧ exC c i = true := by simpa using this
  have := this.1
  unfold exA at this
  rw [List.getElem?_eq_getElem hi] at this
  simp only [Bool.and_eq_true, inR, decide_eq_true_eq] at this
  obtain ⟨⟨⟨⟨h1, h2⟩, h3⟩, h4⟩, h5⟩ := this
  exact ⟨h1.1, by omega, h3.1, by omega, h5⟩
 ·have hb := List.all_eq_true.1 g2 x hx
  unfold volB inR at hb
  simp only [Bool.and_eq_true, Bool.or_eq_true, decide_eq_true_eq, beq_iff_eq] at hb
  omega
theorem i1 : ((1 : Nat) : Int) = 1 := rfl
theorem i2 : ((2 : Nat) : Int) = 2 := rfl
theorem i4 : ((4 : Nat) : Int) = 4 := rfl
open Go.Vm
def M136_L0 (fuel : Nat) (p0 : TCatalog) (p1 : Int) (q0 : List TSnap) (q1 : Int) : Option (Lp ((List TSnap) × Int) (Bool × (List TSnap) × (List TChunk))) :=
 if (decide (q1 < (p0.Snaps.length : Int))) = true then ((ix p0.Snaps q1).bind fun x0 => after (if (x0.Seq != p1) = true then ((ix p0.Snaps q1).bind fun x1 => (app q0 ([x1] : List TSnap)).bind fun z0 => some (.brk z0)) else some (.brk q0) : Option (Lp ((List TSnap)) (Lp ((List TSnap) × Int) (Bool × (List TSnap) × (List TChunk))))) fun j0 => some (.go (j0, IntKind.wrap .i64 (q1 + 1)))) else some (.brk (q0, q1))
def M136_L2 (fuel : Nat) (p0 : TCatalog) (r0 : List TSnap) (q0 : List TChunk) (q1 : Int) : Option (Lp ((List TChunk) × Int) (Bool × (List TSnap) × (List TChunk))) :=
 if (decide (q1 < (p0.Chunks.length : Int))) = true then (after ((ix p0.Chunks q1).bind fun x0 => (M65 fuel ({ Seq := p0.Seq, Snaps := r0, Chunks := p0.Chunks, Exps := p0.Exps, Vols := p0.Vols } : TCatalog) x0.Id).bind fun y0 => after (if (!y0) = true then (if ((({ { x0 with Staged := false } with Data := ([] : List Int) }.Locs).length : Int) == 0) = true then (some (.ret (.brk q0))) else some (.brk { { x0 with Staged := false } with Data := ([] : List Int) })) else some (.brk x0) : Option (Lp (TChunk) (Lp ((List TChunk)) (Lp ((List TChunk) × Int) (Bool × (List TSnap) × (List TChunk)))))) fun j0 => (app q0 ([j0] : List TChunk)).bind fun z0 => some (.brk z0) : Option (Lp ((List TChunk)) (Lp ((List TChunk) × Int) (Bool × (List TSnap) × (List TChunk))))) fun j1 => some (.go (j1, IntKind.wrap .i64 (q1 + 1)))) else some (.brk (q0, q1))
def M136 (fuel : Nat) (p0 : TCatalog) (p1 : Int) : Option (Bool × (List TSnap) × (List TChunk)) :=
 after (loopM (fun s => M136_L0 fuel p0 p1 s.1 s.2) fuel ([], 0)) fun ⟨r0, r1⟩ => if ((r0.length : Int) == (p0.Snaps.length : Int)) = true then (some (false, p0.Snaps, p0.Chunks)) else after (loopM (fun s => M136_L2 fuel p0 r0 s.1 s.2) fuel ([], 0)) fun ⟨r2, r3⟩ => some (true, r0, r2)
set_option maxHeartbeats 4000000 in
set_option maxRecDepth 100000 in
theorem W136 {fuel : Nat} {p0 : TCatalog} {p1 : Int} {o : Bool × (List TSnap) × (List TChunk)} (h : Heap) {p0K : Key} {g_Snaps : AGh} (ok_Snaps : AOk g_Snaps 4 p0.Snaps.length) {g_Chunks : AGh} (ok_Chunks : AOk g_Chunks 35 p0.Chunks.length) {g_Exps : AGh} (ok_Exps : AOk g_Exps 3 p0.Exps.length) {g_Vols : AGh} (ok_Vols : AOk g_Vols 4 p0.Vols.length) (hk0 : HOk h [(some p0K, .obj 27 ([.sc (.int .i64 p0.Seq), aw g_Snaps.t g_Snaps.n g_Snaps.cap, aw g_Chunks.t g_Chunks.n g_Chunks.cap, aw g_Exps.t g_Exps.n g_Exps.cap, aw g_Vols.t g_Vols.n g_Vols.cap])), (g_Snaps.t, .obj 60 (fl c_Snap (p0.Snaps : List TSnap) g_Snaps.sp)), (g_Chunks.t, .obj 63 (fl c_Chunk (p0.Chunks : List TChunk) g_Chunks.sp)), (g_Exps.t, .obj 65 (fl c_Exp (p0.Exps : List TExp) g_Exps.sp)), (g_Vols.t, .obj 40 (fl c_Vol (p0.Vols : List TVol) g_Vols.sp))]) (hm : M136 fuel p0 p1 = some o) :
 ACalls Try.prog 136 [.ptr p0K 0, .sc (.int .i64 p1)] (hp h [(some p0K, .obj 27 ([.sc (.int .i64 p0.Seq), aw g_Snaps.t g_Snaps.n g_Snaps.cap, aw g_Chunks.t g_Chunks.n g_Chunks.cap, aw g_Exps.t g_Exps.n g_Exps.cap, aw g_Vols.t g_Vols.n g_Vols.cap])), (g_Snaps.t, .obj 60 (fl c_Snap (p0.Snaps : List TSnap) g_Snaps.sp)), (g_Chunks.t, .obj 63 (fl c_Chunk (p0.Chunks : List TChunk) g_Chunks.sp)), (g_Exps.t, .obj 65 (fl c_Exp (p0.Exps : List TExp) g_Exps.sp)), (g_Vols.t, .obj 40 (fl c_Vol (p0.Vols : List TVol) g_Vols.sp))]) (fun r h' => ∃ g_Snaps' : AGh, AOk g_Snaps' 4 (o.2.1 : List TSnap).length ∧ ∃ g_Chunks' : AGh, AOk g_Chunks' 35 (o.2.2 : List TChunk).length ∧ HOk h [(some p0K, .obj 27 ([.sc (.int .i64 p0.Seq), aw g_Snaps'.t g_Snaps'.n g_Snaps'.cap, aw g_Chunks'.t g_Chunks'.n g_Chunks'.cap, aw g_Exps.t g_Exps.n g_Exps.cap, aw g_Vols.t g_Vols.n g_Vols.cap])), (g_Snaps'.t, .obj 60 (fl c_Snap (o.2.1 : List TSnap) g_Snaps'.sp)), (g_Chunks'.t, .obj 63 (fl c_Chunk (o.2.2 : List TChunk) g_Chunks'.sp)), (g_Exps.t, .obj 65 (fl c_Exp (p0.Exps : List TExp) g_Exps.sp)), (g_Vols.t, .obj 40 (fl c_Vol (p0.Vols : List TVol) g_Vols.sp))] ∧ r = .sc (.bool o.1) ∧ h' = hp h [(some p0K, .obj 27 ([.sc (.int .i64 p0.Seq), aw g_Snaps'.t g_Snaps'.n g_Snaps'.cap, aw g_Chunks'.t g_Chunks'.n g_Chunks'.cap, aw g_Exps.t g_Exps.n g_Exps.cap, aw g_Vols.t g_Vols.n g_Vols.cap])), (g_Snaps'.t, .obj 60 (fl c_Snap (o.2.1 : List TSnap) g_Snaps'.sp)), (g_Chunks'.t, .obj 63 (fl c_Chunk (o.2.2 : List TChunk) g_Chunks'.sp)), (g_Exps.t, .obj 65 (fl c_Exp (p0.Exps : List TExp) g_Exps.sp)), (g_Vols.t, .obj 40 (fl c_Vol (p0.Vols : List TVol) g_Vols.sp))]) := by
 refine ACp hk0 88 [.tmp 4] Try.func136 rfl rfl rfl rfl ?_
 unfold M136 at hm
 refine vs (v0 (vs (v0 (vs (vs (v0 (vle (lno (.obj 60 (fl c_Snap ([] : List TSnap) g0.sp)) 5 (aw g0.t g0.n g0.cap) (ALe_nilA _)) ?_)))))))
 refine vlp hm (σ := (List TSnap) × Int) (τ := AGh) (fun g s => [(g.t, .obj 60 (fl c_Snap (s.1 : List TSnap) g.sp)), (some p0K, .obj 27 ([.sc (.int .i64 p0.Seq), aw g_Snaps.t g_Snaps.n g_Snaps.cap, aw g_Chunks.t g_Chunks.n g_Chunks.cap, aw g_Exps.t g_Exps.n g_Exps.cap, aw g_Vols.t g_Vols.n g_Vols.cap])), (g_Snaps.t, .obj 60 (fl c_Snap (p0.Snaps : List TSnap) g_Snaps.sp)), (g_Chunks.t, .obj 63 (fl c_Chunk (p0.Chunks : List TChunk) g_Chunks.sp)), (g_Exps.t, .obj 65 (fl c_Exp (p0.Exps : List TExp) g_Exps.sp)), (g_Vols.t, .obj 40 (fl c_Vol (p0.Vols : List TVol) g_Vols.sp))]) (fun g s => AOk g 4 (s.1 : List TSnap).length) (fun g s => .c 0 (.ptr p0K 0) (.c 1 (.sc (.int .i64 p1)) (.c 5 (aw g.t g.n g.cap) (.c 6 (.sc (.int .i64 s.2)) .nil)))) g0 (AOk.g0 4) (lx (.k4 .nil)) ?_ ?_
 rintro ag0 ⟨q0, q1⟩ x ok0 hm
 replace hm : M136_L0 fuel p0 p1 q0 q1 = some x := hm
 unfold M136_L0 at hm
 refine vs (vs (v0 (vn (fun _ => o_nil rfl) (vn (fun _ => Zh fd27_1 rfl rfl) (vl 1 (aw g_Snaps.t g_Snaps.n g_Snaps.cap) ld22 rfl rfl rfl (vn (fun _ => o_lenA ln22 ok_Snaps rfl) (v0 ?_)))))))
 refine vi hm (fun hc0 hm => ?_) fun hc0 hm => ?_
 refine v0 (vs (v0 (vs (v0 (vn (fun _ => o_nil rfl) (vn (fun _ => Zh fd27_1 rfl rfl) (vl 1 (aw g_Snaps.t g_Snaps.n g_Snaps.cap) ld22 rfl rfl rfl ?_)))))))
 obtain ⟨x0, hx0, hm⟩ := Zc hm
 refine vn (fun _ => o_ixA hx0 el22 ok_Snaps rfl rfl) (vn (fun _ => o_flA (AOk.ne ok_Snaps hx0) fd60_0 rfl rfl) (vn (fun hk => o_ldA (fo := 0) (.sc (.int .i64 x0.Seq)) hx0 cz_Snap ok_Snaps ld3 rfl (hp_at 2 hk rfl) (fun _ => rfl)) ?_))
 refine vjn hm (σ := (List TSnap)) (τ := AGh) (fun g s => [(g.t, .obj 60 (fl c_Snap (s : List TSnap) g.sp)), (some p0K, .obj 27 ([.sc (.int .i64 p0.Seq), aw g_Snaps.t g_Snaps.n g_Snaps.cap, aw g_Chunks.t g_Chunks.n g_Chunks.cap, aw g_Exps.t g_Exps.n g_Exps.cap, aw g_Vols.t g_Vols.n g_Vols.cap])), (g_Snaps.t, .obj 60 (fl c_Snap (p0.Snaps : List TSnap) g_Snaps.sp)), (g_Chunks.t, .obj 63 (fl c_Chunk (p0.Chunks : List TChunk) g_Chunks.sp)), (g_Exps.t, .obj 65 (fl c_Exp (p0.Exps : List TExp) g_Exps.sp)), (g_Vols.t, .obj 40 (fl c_Vol (p0.Vols : List TVol) g_Vols.sp))]) (fun g s => AOk g 4 (s : List TSnap).length) (fun g s => .c 0 (.ptr p0K 0) (.c 1 (.sc (.int .i64 p1)) (.c 5 (aw g.t g.n g.cap) (.c 6 (.sc (.int .i64 q1)) .nil)))) (fun x hm => ?_) ?_
 refine v0 ?_
 refine vi hm (fun hc1 hm => ?_) fun hc1 hm => ?_
 refine v0 (vn (fun _ => o_nil rfl) (vn (fun _ => Zh fd27_1 rfl rfl) (vl 1 (aw g_Snaps.t g_Snaps.n g_Snaps.cap) ld22 rfl rfl rfl ?_)))
 obtain ⟨x1, hx1, hm⟩ := Zc hm
 refine vn (fun _ => o_ixA hx1 el22 ok_Snaps rfl rfl) (vn (fun hk => o_ldA (fo := 0) (.agg (c_Snap x1)) hx1 cz_Snap ok_Snaps ld60 rfl (hp_at 2 hk rfl) (fun _ => rfl)) (vn (fun _ => o_lit (List.map c_Snap ([x1] : List TSnap)) et22 rfl rfl rfl rfl) ?_))
 obtain ⟨z0, hz0, hm⟩ := Zc hm
 refine ve fun hk => a_appA (c := c_Snap) 0 hz0 et22 rfl zr60 rfl cz_Snap rfl rfl ok0 hk rfl fun ag1 ok1 hk1 => qk hk1 rfl ?_
 exact vgo hm ag1 ok1 (lx (.k4 .nil))
 refine v0 ?_
 exact vgo hm ag0 ok0 (lx (.k4 .nil))
 rintro ag2 j0 ok2 hm
 refine v0 ?_
 exact vgo hm ag2 ok2 (lx (.k4 .nil))
 refine v0 ?_
 exact vbk hm ag0 ok0 (lx (.k4 .nil))
 rintro ag3 ⟨r0, r1⟩ ot0 hm
 refine vs (vs (v0 (vn (fun _ => o_lenA ln22 ot0 rfl) (vn (fun _ => o_nil rfl) (vn (fun _ => Zh fd27_1 rfl rfl) (vl 1 (aw g_Snaps.t g_Snaps.n g_Snaps.cap) ld22 rfl rfl rfl (vn (fun _ => o_lenA ln22 ok_Snaps rfl) (v0 ?_))))))))
 refine vi hm (fun hc2 hm => ?_) fun hc2 hm => ?_
 refine vs (v0 (v0 ?_))
 cases hm
 exact vr fun hk => Ret.of1 (.inl rfl) (rsT _ _ (.sc (.bool _)) rfl) (hp_pick hk [1, 2, 3, 4, 5] rfl).2 (ALe.refl _ _) ⟨g_Snaps, ok_Snaps, g_Chunks, ok_Chunks, (hp_pick hk [1, 2, 3, 4, 5] rfl).1, rfl, rfl⟩
 refine v0 (vs (v0 (vn (fun _ => o_nil rfl) (vn (fun _ => Zh fd27_1 rfl rfl) ?_))))
 refine ve fun hk => a_store 1 ([.sc (.int .i64 p0.Seq), aw ag3.t ag3.n ag3.cap, aw g_Chunks.t g_Chunks.n g_Chunks.cap, aw g_Exps.t g_Exps.n g_Exps.cap, aw g_Vols.t g_Vols.n g_Vols.cap]) hk rfl rfl (cellsOf_aw rfl) (all_c (ocell_aw _ _ _) rfl) sz22 rfl rfl fun hk2 => qk hk2 rfl ?_
 refine vs (v0 (vs (vs (v0 (vle (lno (.obj 63 (fl c_Chunk ([] : List TChunk) g0.sp)) 7 (aw g0.t g0.n g0.cap) (ALe_nilA _)) ?_)))))
 refine vlp hm (σ := (List TChunk) × Int) (τ := AGh) (fun g s => [(g.t, .obj 63 (fl c_Chunk (s.1 : List TChunk) g.sp)), (ag3.t, .obj 60 (fl c_Snap (r0 : List TSnap) ag3.sp)), (some p0K, .obj 27 ([.sc (.int .i64 p0.Seq), aw ag3.t ag3.n ag3.cap, aw g_Chunks.t g_Chunks.n g_Chunks.cap, aw g_Exps.t g_Exps.n g_Exps.cap, aw g_Vols.t g_Vols.n g_Vols.cap])), (g_Snaps.t, .obj 60 (fl c_Snap (p0.Snaps : List TSnap) g_Snaps.sp)), (g_Chunks.t, .obj 63 (fl c_Chunk (p0.Chunks : List TChunk) g_Chunks.sp)), (g_Exps.t, .obj 65 (fl c_Exp (p0.Exps : List TExp) g_Exps.sp)), (g_Vols.t, .obj 40 (fl c_Vol (p0.Vols : List TVol) g_Vols.sp))]) (fun g s => AOk g 35 (s.1 : List TChunk).length) (fun g s => .c 0 (.ptr p0K 0) (.c 7 (aw g.t g.n g.cap) (.c 8 (.sc (.int .i64 s.2)) .nil))) g0 (AOk.g0 35) (lx (.k3 .nil)) ?_ ?_
 rintro ag4 ⟨q2, q3⟩ x ok3 hm
 replace hm : M136_L2 fuel p0 r0 q2 q3 = some x := hm
 unfold M136_L2 at hm
 refine vs (vs (v0 (vn (fun _ => o_nil rfl) (vn (fun _ => Zh fd27_2 rfl rfl) (vl 2 (aw g_Chunks.t g_Chunks.n g_Chunks.cap) ld23 rfl rfl rfl (vn (fun _ => o_lenA ln23 ok_Chunks rfl) (v0 ?_)))))))
 refine vi hm (fun hc3 hm => ?_) fun hc3 hm => ?_
 refine v0 (vs ?_)
 refine vjn hm (σ := (List TChunk)) (τ := AGh) (fun g s => [(g.t, .obj 63 (fl c_Chunk (s : List TChunk) g.sp)), (ag3.t, .obj 60 (fl c_Snap (r0 : List TSnap) ag3.sp)), (some p0K, .obj 27 ([.sc (.int .i64 p0.Seq), aw ag3.t ag3.n ag3.cap, aw g_Chunks.t g_Chunks.n g_Chunks.cap, aw g_Exps.t g_Exps.n g_Exps.cap, aw g_Vols.t g_Vols.n g_Vols.cap])), (g_Snaps.t, .obj 60 (fl c_Snap (p0.Snaps : List TSnap) g_Snaps.sp)), (g_Chunks.t, .obj 63 (fl c_Chunk (p0.Chunks : List TChunk) g_Chunks.sp)), (g_Exps.t, .obj 65 (fl c_Exp (p0.Exps : List TExp) g_Exps.sp)), (g_Vols.t, .obj 40 (fl c_Vol (p0.Vols : List TVol) g_Vols.sp))]) (fun g s => AOk g 35 (s : List TChunk).length) (fun g s => .c 0 (.ptr p0K 0) (.c 7 (aw g.t g.n g.cap) (.c 8 (.sc (.int .i64 q3)) .nil))) (fun x hm => ?_) ?_
 refine v0 (vs (v0 (vn (fun _ => o_nil rfl) (vn (fun _ => Zh fd27_2 rfl rfl) (vl 2 (aw g_Chunks.t g_Chunks.n g_Chunks.cap) ld23 rfl rfl rfl ?_)))))
 obtain ⟨x2, hx2, hm⟩ := Zc hm
 refine vn (fun _ => o_ixA hx2 el23 ok_Chunks rfl rfl) (vn (fun hk => o_ldA (fo := 0) (.agg (c_Chunk x2)) hx2 cz_Chunk ok_Chunks ld63 rfl (hp_at 4 hk rfl) (fun _ => rfl)) ?_)
 refine ve fun hk => a_alloc (c_id idZ ++ ([.sc (.bool false), .sc (.slice none 0 0), .sc (.slice none 0 0)] : List AV)) hk zr63 rfl rfl fun k465 hk3 => qk hk3 rfl ?_
 refine ve fun hk => a_store 0 (c_Chunk x2) hk rfl rfl rfl rfl sz63 rfl rfl fun hk4 => qk hk4 rfl ?_
 refine vs (vs (v0 (vq0 (by kernel_rfl) (vn (fun _ => o_nil rfl) (vl 3 (.agg ([.sc (.int .i64 p0.Seq), aw ag3.t ag3.n ag3.cap, aw g_Chunks.t g_Chunks.n g_Chunks.cap, aw g_Exps.t g_Exps.n g_Exps.cap, aw g_Vols.t g_Vols.n g_Vols.cap])) ld27 rfl rfl rfl (vn (fun _ => Zh fd63_0 rfl rfl) (vl 0 (.agg (c_id x2.Id)) ld61 rfl rfl rfl ?_)))))))
 obtain ⟨_, hy0, hm⟩ := Zc hm
 refine vn (fun hk => o_call (ACalls_pure (.cons (Br.agg (.cons (Br.refl _ _) (.cons (Br.aw 2 cz_Snap ot0 hk rfl) (.cons (Br.aw 5 cz_Chunk ok_Chunks hk rfl) (.cons (Br.aw 6 cz_Exp ok_Exps hk rfl) (.cons (Br.aw 7 cz_Vol ok_Vols hk rfl) .nil)))))) (.cons (Br.refl _ _) .nil)) rfl (W65 _ hy0)) rfl bd65 rfl) ?_
 refine vjnH hm (σ := TChunk) (τ := Unit) (fun g s => [(some k465, .obj 63 (c_Chunk s)), (ag4.t, .obj 63 (fl c_Chunk (q2 : List TChunk) ag4.sp)), (ag3.t, .obj 60 (fl c_Snap (r0 : List TSnap) ag3.sp)), (some p0K, .obj 27 ([.sc (.int .i64 p0.Seq), aw ag3.t ag3.n ag3.cap, aw g_Chunks.t g_Chunks.n g_Chunks.cap, aw g_Exps.t g_Exps.n g_Exps.cap, aw g_Vols.t g_Vols.n g_Vols.cap])), (g_Snaps.t, .obj 60 (fl c_Snap (p0.Snaps : List TSnap) g_Snaps.sp)), (g_Chunks.t, .obj 63 (fl c_Chunk (p0.Chunks : List TChunk) g_Chunks.sp)), (g_Exps.t, .obj 65 (fl c_Exp (p0.Exps : List TExp) g_Exps.sp)), (g_Vols.t, .obj 40 (fl c_Vol (p0.Vols : List TVol) g_Vols.sp))]) (fun g s => .c 0 (.ptr p0K 0) (.c 7 (aw ag4.t ag4.n ag4.cap) (.c 8 (.sc (.int .i64 q3)) (.c 9 (.ptr k465 0) .nil)))) (fun x hm => ?_) ?_
 refine v0 ?_
 refine vi hm (fun hc4 hm => ?_) fun hc4 hm => ?_
 refine vs (v0 (vn (fun _ => Zh fd63_1 rfl rfl) ?_))
 refine ve fun hk => a_store 0 (c_Chunk { x2 with Staged := false }) hk rfl rfl rfl rfl sz4 rfl rfl fun hk5 => qk hk5 rfl ?_
 refine vn (fun _ => Zh fd63_2 rfl rfl) ?_
 refine ve fun hk => a_storeL 0 (c_Chunk { { x2 with Staged := false } with Data := ([] : List Int) }) hk rfl rfl rfl rfl (.cons (nil_lem _) .nil) sz52 rfl rfl fun hk6 => qk hk6 rfl ?_
 refine vs (v0 (vn (fun _ => Zh fd63_3 rfl rfl) (vl 0 _ ld58 rfl rfl rfl (vln ln58 rfl (v0 ?_)))))
 refine vi hm (fun hc5 hm => ?_) fun hc5 hm => ?_
 refine v0 ?_
 refine vxt hm rfl fun hm => ?_
 exact vgo hm ag4 ok3 (lxs [1, 2, 3, 4, 5, 6, 7] rfl rfl (.k3 .nil))
 refine v0 ?_
 exact vgo hm () trivial (lx (.k4 .nil))
 refine v0 ?_
 exact vgo hm () trivial (lx (.k4 .nil))
 rintro _ j1 hm
 refine v0 (vl 0 (.agg (c_Chunk j1)) ld63 rfl rfl rfl (vn (fun _ => o_lit (List.map c_Chunk ([j1] : List TChunk)) et23 rfl rfl rfl rfl) ?_))
 obtain ⟨z1, hz1, hm⟩ := Zc hm
 refine ve fun hk => a_appA (c := c_Chunk) 1 hz1 et23 rfl zr63 rfl cz_Chunk rfl rfl ok3 hk rfl fun ag5 ok4 hk7 => qk hk7 rfl ?_
 exact vgo hm ag5 ok4 (lxs [1, 2, 3, 4, 5, 6, 7] rfl rfl (.k3 .nil))
 rintro ag6 j2 ok5 hm
 refine v0 ?_
 exact vgo hm ag6 ok5 (lx (.k3 .nil))
 refine v0 ?_
 exact vbk hm ag4 ok3 (lx (.k3 .nil))
 rintro ag7 ⟨r2, r3⟩ ot1 hm
 refine vs (v0 (vn (fun _ => o_nil rfl) (vn (fun _ => Zh fd27_2 rfl rfl) ?_)))
 refine ve fun hk => a_store 2 ([.sc (.int .i64 p0.Seq), aw ag3.t ag3.n ag3.cap, aw ag7.t ag7.n ag7.cap, aw g_Exps.t g_Exps.n g_Exps.cap, aw g_Vols.t g_Vols.n g_Vols.cap]) hk rfl rfl (cellsOf_aw rfl) (all_c (ocell_aw _ _ _) rfl) sz23 rfl rfl fun hk8 => qk hk8 rfl ?_
 refine vs (v0 (v0 ?_))
 cases hm
 exact vr fun hk => Ret.of1 (.inl rfl) (rsT _ _ (.sc (.bool _)) rfl) (hp_pick hk [2, 1, 0, 5, 6] rfl).2 (ALe.refl _ _) ⟨ag3, ot0, ag7, ot1, (hp_pick hk [2, 1, 0, 5, 6] rfl).1, rfl, rfl⟩
theorem bd136 : bodied Try.prog 136 = true := by kernel_rfl
def M138_L3 (fuel : Nat) (p0 : TCatalog) (p1 : TItem) (p2 : TLoc) (q0 : Int) : Option (Lp (Int) (Lp (Int × (List TChunk) × (List TExp)) (Bool × Int × (List TSnap) × (List TChunk) × (List TExp)))) :=
 if (decide (q0 < (p0.Snaps.length : Int))) = true then ((ix p0.Snaps q0).bind fun x0 => if (x0.Seq == p1.Seq) = true then ((ix p0.Snaps q0).bind fun x1 => (M146 fuel x1.Locs p2).bind fun y0 => (ix p0.Snaps q0).bind fun x2 => some (.ret (.ret (true, p0.Seq, p0.Snaps.set q0.toNat ({ x2 with Locs := y0 }), p0.Chunks, p0.Exps)))) else some (.go (IntKind.wrap .i64 (q0 + 1)))) else some (.brk q0)
def M138_L1 (fuel : Nat) (p0 : TCatalog) (p1 : TItem) (q0 : Int) : Option (Lp (Int) (Lp (Int × (List TChunk) × (List TExp)) (Bool × Int × (List TSnap) × (List TChunk) × (List TExp)))) :=
 after (if (decide (q0 < (p0.Exps.length : Int))) = true then ((ix p0.Exps q0).bind fun x0 => some (.brk (decide (x0.Seq < p1.Seq)))) else some (.brk false) : Option (Lp (Bool) (Lp (Int) (Lp (Int × (List TChunk) × (List TExp)) (Bool × Int × (List TSnap) × (List TChunk) × (List TExp)))))) fun j0 => if j0 = true then (some (.go (IntKind.wrap .i64 (q0 + 1)))) else some (.brk q0)
def M138 (fuel : Nat) (p0 : TCatalog) (p1 : TItem) (p2 : TLoc) : Option (Bool × Int × (List TSnap) × (List TChunk) × (List TExp)) :=
 after (if (p1.Kind == 1) = true then ((M64 fuel ({ Seq := p0.Seq, Snaps := p0.Snaps, Chunks := p0.Chunks, Exps := p0.Exps, Vols := p0.Vols } : TCatalog) p1.Id).bind fun y0 => if (decide (y0 < 0)) = true then (some (.ret (false, p0.Seq, p0.Snaps, p0.Chunks, p0.Exps))) else (ix p0.Chunks y0).bind fun x0 => (M146 fuel x0.Locs p2).bind fun y1 => (ix p0.Chunks y0).bind fun x1 => some (.brk (p0.Seq, p0.Chunks.set y0.toNat ({ x1 with Locs := y1 }), p0.Exps))) else if (p1.Kind == 2) = true then (after (loopM (fun s => M138_L3 fuel p0 p1 p2 s) fuel 0) fun r0 => some (.ret (false, p0.Seq, p0.Snaps, p0.Chunks, p0.Exps))) else after (loopM (fun s => M138_L1 fuel p0 p1 s) fuel 0) fun r1 => after (if (decide (r1 < (p0.Exps.length : Int))) = true then ((ix p0.Exps r1).bind fun x2 => some (.brk (x2.Seq == p1.Seq))) else some (.brk false) : Option (Lp (Bool) (Lp (Int × (List TChunk) × (List TExp)) (Bool × Int × (List TSnap) × (List TChunk) × (List TExp))))) fun j0 => if j0 = true then ((ix p0.Exps r1).bind fun x3 => (M146 fuel x3.Locs p2).bind fun y2 => (ix p0.Exps r1).bind fun x4 => some (.ret (true, p0.Seq, p0.Snaps, p0.Chunks, p0.Exps.set r1.toNat ({ x4 with Locs := y2 })))) else (slc p0.Exps 0 r1).bind fun x5 => (app ([] : List TExp) x5).bind fun z0 => (app z0 ([({ Seq := p1.Seq, Of := p1.Of, Locs := ([p2] : List TLoc) } : TExp)] : List TExp)).bind fun z1 => (slc p0.Exps r1 (p0.Exps).length).bind fun x6 => (app z1 x6).bind fun z2 => after (if (decide (p0.Seq ≤ p1.Seq)) = true then (some (.brk (decide (p1.Seq < 4611686018427387904)))) else some (.brk false) : Option (Lp (Bool) (Lp (Int × (List TChunk) × (List TExp)) (Bool × Int × (List TSnap) × (List TChunk) × (List TExp))))) fun j1 => after (if j1 = true then (some (.brk (IntKind.wrap .i64 (p1.Seq + 1)))) else some (.brk p0.Seq) : Option (Lp (Int) (Lp (Int × (List TChunk) × (List TExp)) (Bool × Int × (List TSnap) × (List TChunk) × (List TExp))))) fun j2 => some (.brk (j2, p0.Chunks, z2)) : Option (Lp (Int × (List TChunk) × (List TExp)) (Bool × Int × (List TSnap) × (List TChunk) × (List TExp)))) fun ⟨j3, j4, j5⟩ => some (true, j3, p0.Snaps, j4, j5)
set_option maxHeartbeats 4000000 in
set_option maxRecDepth 100000 in
theorem W138 {fuel : Nat} {p0 : TCatalog} {p1 : TItem} {p2 : TLoc} {o : Bool × Int × (List TSnap) × (List TChunk) × (List TExp)} (h : Heap) {p0K : Key} {g_Snaps : AGh} (ok_Snaps : AOk g_Snaps 4 p0.Snaps.length) {g_Chunks : AGh} (ok_Chunks : AOk g_Chunks 35 p0.Chunks.length) {g_Exps : AGh} (ok_Exps : AOk g_Exps 3 p0.Exps.length) {g_Vols : AGh} (ok_Vols : AOk g_Vols 4 p0.Vols.length) (hk0 : HOk h [(some p0K, .obj 27 ([.sc (.int .i64 p0.Seq), aw g_Snaps.t g_Snaps.n g_Snaps.cap, aw g_Chunks.t g_Chunks.n g_Chunks.cap, aw g_Exps.t g_Exps.n g_Exps.cap, aw g_Vols.t g_Vols.n g_Vols.cap])), (g_Snaps.t, .obj 60 (fl c_Snap (p0.Snaps : List TSnap) g_Snaps.sp)), (g_Chunks.t, .obj 63 (fl c_Chunk (p0.Chunks : List TChunk) g_Chunks.sp)), (g_Exps.t, .obj 65 (fl c_Exp (p0.Exps : List TExp) g_Exps.sp)), (g_Vols.t, .obj 40 (fl c_Vol (p0.Vols : List TVol) g_Vols.sp))]) (hm : M138 fuel p0 p1 p2 = some o) :
 ACalls Try.prog 138 [.ptr p0K 0, .agg (c_Item p1), .agg (c_Loc p2)] (hp h [(some p0K, .obj 27 ([.sc (.int .i64 p0.Seq), aw g_Snaps.t g_Snaps.n g_Snaps.cap, aw g_Chunks.t g_Chunks.n g_Chunks.cap, aw g_Exps.t g_Exps.n g_Exps.cap, aw g_Vols.t g_Vols.n g_Vols.cap])), (g_Snaps.t, .obj 60 (fl c_Snap (p0.Snaps : List TSnap) g_Snaps.sp)), (g_Chunks.t, .obj 63 (fl c_Chunk (p0.Chunks : List TChunk) g_Chunks.sp)), (g_Exps.t, .obj 65 (fl c_Exp (p0.Exps : List TExp) g_Exps.sp)), (g_Vols.t, .obj 40 (fl c_Vol (p0.Vols : List TVol) g_Vols.sp))]) (fun r h' => ∃ g_Snaps' : AGh, AOk g_Snaps' 4 (o.2.2.1 : List TSnap).length ∧ ∃ g_Chunks' : AGh, AOk g_Chunks' 35 (o.2.2.2.1 : List TChunk).length ∧ ∃ g_Exps' : AGh, AOk g_Exps' 3 (o.2.2.2.2 : List TExp).length ∧ HOk h [(some p0K, .obj 27 ([.sc (.int .i64 o.2.1), aw g_Snaps'.t g_Snaps'.n g_Snaps'.cap, aw g_Chunks'.t g_Chunks'.n g_Chunks'.cap, aw g_Exps'.t g_Exps'.n g_Exps'.cap, aw g_Vols.t g_Vols.n g_Vols.cap])), (g_Snaps'.t, .obj 60 (fl c_Snap (o.2.2.1 : List TSnap) g_Snaps'.sp)), (g_Chunks'.t, .obj 63 (fl c_Chunk (o.2.2.2.1 : List TChunk) g_Chunks'.sp)), (g_Exps'.t, .obj 65 (fl c_Exp (o.2.2.2.2 : List TExp) g_Exps'.sp)), (g_Vols.t, .obj 40 (fl c_Vol (p0.Vols : List TVol) g_Vols.sp))] ∧ r = .sc (.bool o.1) ∧ h' = hp h [(some p0K, .obj 27 ([.sc (.int .i64 o.2.1), aw g_Snaps'.t g_Snaps'.n g_Snaps'.cap, aw g_Chunks'.t g_Chunks'.n g_Chunks'.cap, aw g_Exps'.t g_Exps'.n g_Exps'.cap, aw g_Vols.t g_Vols.n g_Vols.cap])), (g_Snaps'.t, .obj 60 (fl c_Snap (o.2.2.1 : List TSnap) g_Snaps'.sp)), (g_Chunks'.t, .obj 63 (fl c_Chunk (o.2.2.2.1 : List TChunk) g_Chunks'.sp)), (g_Exps'.t, .obj 65 (fl c_Exp (o.2.2.2.2 : List TExp) g_Exps'.sp)), (g_Vols.t, .obj 40 (fl c_Vol (p0.Vols : List TVol) g_Vols.sp))]) := by
 refine ACp hk0 184 [.tmp 6] Try.func138 rfl rfl rfl rfl ?_
 unfold M138 at hm
 refine vs (v0 ?_)
 refine ve fun hk => a_box hk rfl rfl fun k2 hk3 => qk hk3 rfl ?_
 refine ve fun hk => a_box hk rfl rfl fun k5 hk6 => qk hk6 rfl ?_
 refine vs (vs (v0 (vn (fun _ => Zh fd99_0 rfl rfl) (vl 1 _ ld3 rfl rfl rfl (v0 (vs (v0 ?_)))))))
 refine vjn hm (σ := Int × (List TChunk) × (List TExp)) (τ := AGh × AGh) (fun g s => [(some k5, .obj 77 (c_Loc p2)), (some k2, .obj 99 (c_Item p1)), (some p0K, .obj 27 ([.sc (.int .i64 s.1), aw g_Snaps.t g_Snaps.n g_Snaps.cap, aw g.1.t g.1.n g.1.cap, aw g.2.t g.2.n g.2.cap, aw g_Vols.t g_Vols.n g_Vols.cap])), (g_Snaps.t, .obj 60 (fl c_Snap (p0.Snaps : List TSnap) g_Snaps.sp)), (g.1.t, .obj 63 (fl c_Chunk (s.2.1 : List TChunk) g.1.sp)), (g.2.t, .obj 65 (fl c_Exp (s.2.2 : List TExp) g.2.sp)), (g_Vols.t, .obj 40 (fl c_Vol (p0.Vols : List TVol) g_Vols.sp))]) (fun g s => AOk g.1 35 (s.2.1 : List TChunk).length ∧ AOk g.2 3 (s.2.2 : List TExp).length) (fun g s => .nil) (fun x hm => ?_) ?_
 refine v0 ?_
 refine vi hm (fun hc0 hm => ?_) fun hc0 hm => ?_
 refine vs (v0 (vq0 (by kernel_rfl) (vn (fun _ => o_nil rfl) (vl 2 (.agg ([.sc (.int .i64 p0.Seq), aw g_Snaps.t g_Snaps.n g_Snaps.cap, aw g_Chunks.t g_Chunks.n g_Chunks.cap, aw g_Exps.t g_Exps.n g_Exps.cap, aw g_Vols.t g_Vols.n g_Vols.cap])) ld27 rfl rfl rfl (vn (fun _ => Zh fd99_1 rfl rfl) (vl 1 (.agg (c_id p1.Id)) ld61 rfl rfl rfl ?_))))))
 obtain ⟨_, hy0, hm⟩ := Zc hm
 refine vn (fun hk => o_call (ACalls_pure (.cons (Br.agg (.cons (Br.refl _ _) (.cons (Br.aw 3 cz_Snap ok_Snaps hk rfl) (.cons (Br.aw 4 cz_Chunk ok_Chunks hk rfl) (.cons (Br.aw 5 cz_Exp ok_Exps hk rfl) (.cons (Br.aw 6 cz_Vol ok_Vols hk rfl) .nil)))))) (.cons (Br.refl _ _) .nil)) rfl (W64 _ hy0)) rfl bd64 rfl) (vs (vs (v0 (v0 ?_))))
 refine vi hm (fun hc1 hm => ?_) fun hc1 hm => ?_
 refine vs (v0 (v0 ?_))
 refine vrt hm fun hm => ?_
 cases hm
 exact vr fun hk => Ret.of1 (.inl rfl) (rsT _ _ (.sc (.bool _)) rfl) (hp_pick hk [2, 3, 4, 5, 6] rfl).2 (ALe.refl _ _) ⟨g_Snaps, ok_Snaps, g_Chunks, ok_Chunks, g_Exps, ok_Exps, (hp_pick hk [2, 3, 4, 5, 6] rfl).1, rfl, rfl⟩
 refine v0 (v0 ?_)
 refine vz [(1000000, some p0K, .obj 27 ([.sc (.int .i64 p0.Seq), aw g_Snaps.t g_Snaps.n g_Snaps.cap, aw g_Chunks.t g_Chunks.n g_Chunks.cap, aw g_Exps.t g_Exps.n g_Exps.cap, aw g_Vols.t g_Vols.n g_Vols.cap])), (17, g_Chunks.t, .obj 63 (fl c_Chunk (p0.Chunks : List TChunk) g_Chunks.sp)), (1000000, some k5, .obj 77 (c_Loc p2))] mixed (fun hk => ⟨fun _ => hp_at 2 hk rfl, fun _ => hp_at 4 hk rfl, fun _ => hp_at 0 hk rfl, trivial⟩) fun hk => ?_
 refine z_w 0 rfl (fun S' h' hi hB => o_mv (.ptr _ _) rfl) ?_
 refine z_w 1 rfl (fun S' h' hi hB => o_nil rfl) ?_
 refine z_w 2 rfl (fun S' h' hi hB => Zh fd27_2 rfl rfl) ?_
 refine z_w 3 rfl (fun S' h' hi hB => Zg (aw g_Chunks.t g_Chunks.n g_Chunks.cap) ld23 rfl (At.s (InvL.get 0 hi rfl (hB 1000000 (by kernel_rfl)))) rfl) ?_
 refine z_w 4 rfl (fun S' h' hi hB => o_mv (.sc (.int _ _)) rfl) ?_
 refine z_w 5 rfl (fun S' h' hi hB => o_mv (.ptr _ _) rfl) ?_
 refine z_w 6 rfl (fun S' h' hi hB => o_nil rfl) ?_
 refine z_w 7 rfl (fun S' h' hi hB => Zh fd27_2 rfl rfl) ?_
 refine z_w 8 rfl (fun S' h' hi hB => Zg (aw g_Chunks.t g_Chunks.n g_Chunks.cap) ld23 rfl (At.s (InvL.get 0 hi rfl (hB 1000000 (by kernel_rfl)))) rfl) ?_
 refine z_w 9 rfl (fun S' h' hi hB => o_mv (.sc (.int _ _)) rfl) ?_
 obtain ⟨x0, hx0, hm⟩ := Zc hm
 refine z_w 10 rfl (fun S' h' hi hB => o_ixA hx0 el23 ok_Chunks rfl rfl) ?_
 refine z_w 11 rfl (fun S' h' hi hB => o_flA (AOk.ne ok_Chunks hx0) fd63_3 rfl rfl) ?_
 refine z_w 12 rfl (fun S' h' hi hB => o_ldA (fo := 34) (.sl none 4 (List.map c_Loc x0.Locs)) hx0 cz_Chunk ok_Chunks ld58 rfl (InvL.get 1 hi rfl (hB 17 (by kernel_rfl))) (fun _ => rfl)) ?_
 refine z_w 13 rfl (fun S' h' hi hB => Zg (.agg (c_Loc p2)) ld77 rfl (At.s (InvL.get 2 hi rfl (hB 1000000 (by kernel_rfl)))) rfl) ?_
 obtain ⟨y0, hy1, hm⟩ := Zc hm
 refine z_w 14 rfl (fun S' h' hi hB => o_call (W146 _ hy1) rfl bd146 rfl) ?_
 obtain ⟨x1, hx1, hm⟩ := Zc hm
 refine z_w 15 rfl (fun S' h' hi hB => o_ixA hx1 el23 ok_Chunks rfl rfl) ?_
 refine z_w 16 rfl (fun S' h' hi hB => o_flA (AOk.ne ok_Chunks hx1) fd63_3 rfl rfl) ?_
 refine z_e 17 rfl (by kernel_rfl) (a_storeA (fo := 34) ({ x1 with Locs := y0 } : TChunk) 4 hk hx1 cz_Chunk ok_Chunks rfl rfl rfl rfl (ALeL.refl _ _) sz58 rfl rfl fun hk1 => ⟨⟨fun _ => hp_at 2 hk1 rfl, fun e => absurd e (by decide), fun _ => hp_at 0 hk1 rfl, trivial⟩, ?_⟩)
 refine z_nil (by kernel_rfl) (qk (f := .c 144 _ (.c 143 _ (.c 142 _ (.c 141 _ (.c 140 _ (.c 139 _ (.c 138 _ (.c 137 _ (.c 136 _ (.c 135 _ (.c 134 _ (.c 133 _ (.c 132 _ (.c 131 _ (.c 130 _ (.c 129 _ (.c 128 _ _))))))))))))))))) hk1 rfl ?_)
 exact vgo hm (g_Chunks, g_Exps) ⟨(AOk.set ok_Chunks), ok_Exps⟩ (lx .nil)
 refine vs (v0 (v0 ?_))
 refine vi hm (fun hc2 hm => ?_) fun hc2 hm => ?_
 refine vs (vs (v0 ?_))
 refine vlpH hm (σ := Int) (τ := Unit) (fun g s => [(some k5, .obj 77 (c_Loc p2)), (some k2, .obj 99 (c_Item p1)), (some p0K, .obj 27 ([.sc (.int .i64 p0.Seq), aw g_Snaps.t g_Snaps.n g_Snaps.cap, aw g_Chunks.t g_Chunks.n g_Chunks.cap, aw g_Exps.t g_Exps.n g_Exps.cap, aw g_Vols.t g_Vols.n g_Vols.cap])), (g_Snaps.t, .obj 60 (fl c_Snap (p0.Snaps : List TSnap) g_Snaps.sp)), (g_Chunks.t, .obj 63 (fl c_Chunk (p0.Chunks : List TChunk) g_Chunks.sp)), (g_Exps.t, .obj 65 (fl c_Exp (p0.Exps : List TExp) g_Exps.sp)), (g_Vols.t, .obj 40 (fl c_Vol (p0.Vols : List TVol) g_Vols.sp))]) (fun g s => .c 0 (.ptr p0K 0) (.c 4 (.ptr k2 0) (.c 5 (.ptr k5 0) (.c 8 (.sc (.int .i64 s)) .nil)))) () (lx (.k4 .nil)) ?_ ?_
 rintro _ q0 x hm
 replace hm : M138_L3 fuel p0 p1 p2 q0 = some x := hm
 unfold M138_L3 at hm
 refine vs (vs (v0 (vn (fun _ => o_nil rfl) (vn (fun _ => Zh fd27_1 rfl rfl) (vl 2 (aw g_Snaps.t g_Snaps.n g_Snaps.cap) ld22 rfl rfl rfl (vn (fun _ => o_lenA ln22 ok_Snaps rfl) (v0 ?_)))))))
 refine vi hm (fun hc3 hm => ?_) fun hc3 hm => ?_
 refine v0 (vs (v0 (vs (v0 (vq0 (by kernel_rfl) (vn (fun _ => o_nil rfl) (vn (fun _ => Zh fd27_1 rfl rfl) (vl 2 (aw g_Snaps.t g_Snaps.n g_Snaps.cap) ld22 rfl rfl rfl ?_))))))))
 obtain ⟨x2, hx2, hm⟩ := Zc hm
 refine vn (fun _ => o_ixA hx2 el22 ok_Snaps rfl rfl) (vn (fun _ => o_flA (AOk.ne ok_Snaps hx2) fd60_0 rfl rfl) (vn (fun hk => o_ldA (fo := 0) (.sc (.int .i64 x2.Seq)) hx2 cz_Snap ok_Snaps ld3 rfl (hp_at 3 hk rfl) (fun _ => rfl)) (vn (fun _ => Zh fd99_2 rfl rfl) (vl 1 _ ld3 rfl rfl rfl (v0 ?_)))))
 refine vi hm (fun hc4 hm => ?_) fun hc4 hm => ?_
 refine vs (v0 ?_)
 refine vz [(1000000, some p0K, .obj 27 ([.sc (.int .i64 p0.Seq), aw g_Snaps.t g_Snaps.n g_Snaps.cap, aw g_Chunks.t g_Chunks.n g_Chunks.cap, aw g_Exps.t g_Exps.n g_Exps.cap, aw g_Vols.t g_Vols.n g_Vols.cap])), (17, g_Snaps.t, .obj 60 (fl c_Snap (p0.Snaps : List TSnap) g_Snaps.sp)), (1000000, some k5, .obj 77 (c_Loc p2))] mixed (fun hk => ⟨fun _ => hp_at 2 hk rfl, fun _ => hp_at 3 hk rfl, fun _ => hp_at 0 hk rfl, trivial⟩) fun hk => ?_
 refine z_w 0 rfl (fun S' h' hi hB => o_mv (.ptr _ _) rfl) ?_
 refine z_w 1 rfl (fun S' h' hi hB => o_nil rfl) ?_
 refine z_w 2 rfl (fun S' h' hi hB => Zh fd27_1 rfl rfl) ?_
 refine z_w 3 rfl (fun S' h' hi hB => Zg (aw g_Snaps.t g_Snaps.n g_Snaps.cap) ld22 rfl (At.s (InvL.get 0 hi rfl (hB 1000000 (by kernel_rfl)))) rfl) ?_
 refine z_w 4 rfl (fun S' h' hi hB => o_mv (.sc (.int _ _)) rfl) ?_
 refine z_w 5 rfl (fun S' h' hi hB => o_mv (.ptr _ _) rfl) ?_
 refine z_w 6 rfl (fun S' h' hi hB => o_nil rfl) ?_
 refine z_w 7 rfl (fun S' h' hi hB => Zh fd27_1 rfl rfl) ?_
 refine z_w 8 rfl (fun S' h' hi hB => Zg (aw g_Snaps.t g_Snaps.n g_Snaps.cap) ld22 rfl (At.s (InvL.get 0 hi rfl (hB 1000000 (by kernel_rfl)))) rfl) ?_
 refine z_w 9 rfl (fun S' h' hi hB => o_mv (.sc (.int _ _)) rfl) ?_
 obtain ⟨x3, hx3, hm⟩ := Zc hm
 refine z_w 10 rfl (fun S' h' hi hB => o_ixA hx3 el22 ok_Snaps rfl rfl) ?_
 refine z_w 11 rfl (fun S' h' hi hB => o_flA (AOk.ne ok_Snaps hx3) fd60_2 rfl rfl) ?_
 refine z_w 12 rfl (fun S' h' hi hB => o_ldA (fo := 3) (.sl none 4 (List.map c_Loc x3.Locs)) hx3 cz_Snap ok_Snaps ld58 rfl (InvL.get 1 hi rfl (hB 17 (by kernel_rfl))) (fun _ => rfl)) ?_
 refine z_w 13 rfl (fun S' h' hi hB => Zg (.agg (c_Loc p2)) ld77 rfl (At.s (InvL.get 2 hi rfl (hB 1000000 (by kernel_rfl)))) rfl) ?_
 obtain ⟨y1, hy2, hm⟩ := Zc hm
 refine z_w 14 rfl (fun S' h' hi hB => o_call (W146 _ hy2) rfl bd146 rfl) ?_
 obtain ⟨x4, hx4, hm⟩ := Zc hm
 refine z_w 15 rfl (fun S' h' hi hB => o_ixA hx4 el22 ok_Snaps rfl rfl) ?_
 refine z_w 16 rfl (fun S' h' hi hB => o_flA (AOk.ne ok_Snaps hx4) fd60_2 rfl rfl) ?_
 refine z_e 17 rfl (by kernel_rfl) (a_storeA (fo := 3) ({ x4 with Locs := y1 } : TSnap) 3 hk hx4 cz_Snap ok_Snaps rfl rfl rfl rfl (ALeL.refl _ _) sz58 rfl rfl fun hk2 => ⟨⟨fun _ => hp_at 2 hk2 rfl, fun e => absurd e (by decide), fun _ => hp_at 0 hk2 rfl, trivial⟩, ?_⟩)
 refine z_nil (by kernel_rfl) (qk (f := .c 183 _ (.c 182 _ (.c 181 _ (.c 180 _ (.c 179 _ (.c 178 _ (.c 177 _ (.c 176 _ (.c 175 _ (.c 174 _ (.c 173 _ (.c 172 _ (.c 171 _ (.c 170 _ (.c 169 _ (.c 168 _ (.c 167 _ _))))))))))))))))) hk2 rfl ?_)
 refine vs (v0 (v0 ?_))
 refine vrt hm fun hm => ?_
 refine vrt hm fun hm => ?_
 cases hm
 exact vr fun hk => Ret.of1 (.inl rfl) (rsT _ _ (.sc (.bool _)) rfl) (hp_pick hk [2, 3, 4, 5, 6] rfl).2 (ALe.refl _ _) ⟨g_Snaps, (AOk.set ok_Snaps), g_Chunks, ok_Chunks, g_Exps, ok_Exps, (hp_pick hk [2, 3, 4, 5, 6] rfl).1, rfl, rfl⟩
 refine v0 (v0 ?_)
 exact vgo hm () trivial (lx (.k4 .nil))
 refine v0 ?_
 exact vbk hm () trivial (lx (.k4 .nil))
 rintro _ r0 hm
 refine vs (v0 (v0 ?_))
 refine vrt hm fun hm => ?_
 cases hm
 exact vr fun hk => Ret.of1 (.inl rfl) (rsT _ _ (.sc (.bool _)) rfl) (hp_pick hk [2, 3, 4, 5, 6] rfl).2 (ALe.refl _ _) ⟨g_Snaps, ok_Snaps, g_Chunks, ok_Chunks, g_Exps, ok_Exps, (hp_pick hk [2, 3, 4, 5, 6] rfl).1, rfl, rfl⟩
 refine vs (v0 (vs ?_))
 refine vlpH hm (σ := Int) (τ := Unit) (fun g s => [(some k5, .obj 77 (c_Loc p2)), (some k2, .obj 99 (c_Item p1)), (some p0K, .obj 27 ([.sc (.int .i64 p0.Seq), aw g_Snaps.t g_Snaps.n g_Snaps.cap, aw g_Chunks.t g_Chunks.n g_Chunks.cap, aw g_Exps.t g_Exps.n g_Exps.cap, aw g_Vols.t g_Vols.n g_Vols.cap])), (g_Snaps.t, .obj 60 (fl c_Snap (p0.Snaps : List TSnap) g_Snaps.sp)), (g_Chunks.t, .obj 63 (fl c_Chunk (p0.Chunks : List TChunk) g_Chunks.sp)), (g_Exps.t, .obj 65 (fl c_Exp (p0.Exps : List TExp) g_Exps.sp)), (g_Vols.t, .obj 40 (fl c_Vol (p0.Vols : List TVol) g_Vols.sp))]) (fun g s => .c 0 (.ptr p0K 0) (.c 4 (.ptr k2 0) (.c 5 (.ptr k5 0) (.c 9 (.sc (.int .i64 s)) .nil)))) () (lx (.k4 .nil)) ?_ ?_
 rintro _ q1 x hm
 replace hm : M138_L1 fuel p0 p1 q1 = some x := hm
 unfold M138_L1 at hm
 refine vs (vs ?_)
 refine vjnH hm (σ := Bool) (τ := Unit) (fun g s => [(some k5, .obj 77 (c_Loc p2)), (some k2, .obj 99 (c_Item p1)), (some p0K, .obj 27 ([.sc (.int .i64 p0.Seq), aw g_Snaps.t g_Snaps.n g_Snaps.cap, aw g_Chunks.t g_Chunks.n g_Chunks.cap, aw g_Exps.t g_Exps.n g_Exps.cap, aw g_Vols.t g_Vols.n g_Vols.cap])), (g_Snaps.t, .obj 60 (fl c_Snap (p0.Snaps : List TSnap) g_Snaps.sp)), (g_Chunks.t, .obj 63 (fl c_Chunk (p0.Chunks : List TChunk) g_Chunks.sp)), (g_Exps.t, .obj 65 (fl c_Exp (p0.Exps : List TExp) g_Exps.sp)), (g_Vols.t, .obj 40 (fl c_Vol (p0.Vols : List TVol) g_Vols.sp))]) (fun g s => .c 0 (.ptr p0K 0) (.c 4 (.ptr k2 0) (.c 5 (.ptr k5 0) (.c 9 (.sc (.int .i64 q1)) (.c 32 (.sc (.bool s)) .nil))))) (fun x hm => ?_) ?_
 refine v0 (vq0 (by kernel_rfl) (vn (fun _ => o_nil rfl) (vn (fun _ => Zh fd27_3 rfl rfl) (vl 2 (aw g_Exps.t g_Exps.n g_Exps.cap) ld24 rfl rfl rfl (vn (fun _ => o_lenA ln24 ok_Exps rfl) ?_)))))
 refine vi hm (fun hb0 hm => ?_) fun hb0 hm => ?_
 rw [hb0]
 refine vn (fun _ => o_nil rfl) (vn (fun _ => Zh fd27_3 rfl rfl) (vl 2 (aw g_Exps.t g_Exps.n g_Exps.cap) ld24 rfl rfl rfl ?_))
 obtain ⟨x5, hx5, hm⟩ := Zc hm
 refine vn (fun _ => o_ixA hx5 el24 ok_Exps rfl rfl) (vn (fun _ => o_flA (AOk.ne ok_Exps hx5) fd65_0 rfl rfl) (vn (fun hk => o_ldA (fo := 0) (.sc (.int .i64 x5.Seq)) hx5 cz_Exp ok_Exps ld3 rfl (hp_at 5 hk rfl) (fun _ => rfl)) (vn (fun _ => Zh fd99_2 rfl rfl) (vl 1 _ ld3 rfl rfl rfl ?_))))
 exact vgo hm () trivial (lx (.k5 .nil))
 rw [hb0]
 exact vgo hm () trivial (lx (.k5 .nil))
 rintro _ j0 hm
 refine v0 ?_
 refine vi hm (fun hc5 hm => ?_) fun hc5 hm => ?_
 refine v0 (v0 (v0 ?_))
 exact vgo hm () trivial (lx (.k4 .nil))
 refine v0 ?_
 exact vbk hm () trivial (lx (.k4 .nil))
 rintro _ r1 hm
 refine vs (vs ?_)
 refine vjnH hm (σ := Bool) (τ := Unit) (fun g s => [(some k5, .obj 77 (c_Loc p2)), (some k2, .obj 99 (c_Item p1)), (some p0K, .obj 27 ([.sc (.int .i64 p0.Seq), aw g_Snaps.t g_Snaps.n g_Snaps.cap, aw g_Chunks.t g_Chunks.n g_Chunks.cap, aw g_Exps.t g_Exps.n g_Exps.cap, aw g_Vols.t g_Vols.n g_Vols.cap])), (g_Snaps.t, .obj 60 (fl c_Snap (p0.Snaps : List TSnap) g_Snaps.sp)), (g_Chunks.t, .obj 63 (fl c_Chunk (p0.Chunks : List TChunk) g_Chunks.sp)), (g_Exps.t, .obj 65 (fl c_Exp (p0.Exps : List TExp) g_Exps.sp)), (g_Vols.t, .obj 40 (fl c_Vol (p0.Vols : List TVol) g_Vols.sp))]) (fun g s => .c 0 (.ptr p0K 0) (.c 4 (.ptr k2 0) (.c 5 (.ptr k5 0) (.c 9 (.sc (.int .i64 r1)) (.c 54 (.sc (.bool s)) .nil))))) (fun x hm => ?_) ?_
 refine v0 (vq0 (by kernel_rfl) (vn (fun _ => o_nil rfl) (vn (fun _ => Zh fd27_3 rfl rfl) (vl 2 (aw g_Exps.t g_Exps.n g_Exps.cap) ld24 rfl rfl rfl (vn (fun _ => o_lenA ln24 ok_Exps rfl) ?_)))))
 refine vi hm (fun hb1 hm => ?_) fun hb1 hm => ?_
 rw [hb1]
 refine vn (fun _ => o_nil rfl) (vn (fun _ => Zh fd27_3 rfl rfl) (vl 2 (aw g_Exps.t g_Exps.n g_Exps.cap) ld24 rfl rfl rfl ?_))
 obtain ⟨x6, hx6, hm⟩ := Zc hm
 refine vn (fun _ => o_ixA hx6 el24 ok_Exps rfl rfl) (vn (fun _ => o_flA (AOk.ne ok_Exps hx6) fd65_0 rfl rfl) (vn (fun hk => o_ldA (fo := 0) (.sc (.int .i64 x6.Seq)) hx6 cz_Exp ok_Exps ld3 rfl (hp_at 5 hk rfl) (fun _ => rfl)) (vn (fun _ => Zh fd99_2 rfl rfl) (vl 1 _ ld3 rfl rfl rfl ?_))))
 exact vgo hm () trivial (lx (.k5 .nil))
 rw [hb1]
 exact vgo hm () trivial (lx (.k5 .nil))
 rintro _ j1 hm
 refine v0 ?_
 refine vi hm (fun hc6 hm => ?_) fun hc6 hm => ?_
 refine vs (v0 ?_)
 refine vz [(1000000, some p0K, .obj 27 ([.sc (.int .i64 p0.Seq), aw g_Snaps.t g_Snaps.n g_Snaps.cap, aw g_Chunks.t g_Chunks.n g_Chunks.cap, aw g_Exps.t g_Exps.n g_Exps.cap, aw g_Vols.t g_Vols.n g_Vols.cap])), (17, g_Exps.t, .obj 65 (fl c_Exp (p0.Exps : List TExp) g_Exps.sp)), (1000000, some k5, .obj 77 (c_Loc p2))] mixed (fun hk => ⟨fun _ => hp_at 2 hk rfl, fun _ => hp_at 5 hk rfl, fun _ => hp_at 0 hk rfl, trivial⟩) fun hk => ?_
 refine z_w 0 rfl (fun S' h' hi hB => o_mv (.ptr _ _) rfl) ?_
 refine z_w 1 rfl (fun S' h' hi hB => o_nil rfl) ?_
 refine z_w 2 rfl (fun S' h' hi hB => Zh fd27_3 rfl rfl) ?_
 refine z_w 3 rfl (fun S' h' hi hB => Zg (aw g_Exps.t g_Exps.n g_Exps.cap) ld24 rfl (At.s (InvL.get 0 hi rfl (hB 1000000 (by kernel_rfl)))) rfl) ?_
 refine z_w 4 rfl (fun S' h' hi hB => o_mv (.sc (.int _ _)) rfl) ?_
 refine z_w 5 rfl (fun S' h' hi hB => o_mv (.ptr _ _) rfl) ?_
 refine z_w 6 rfl (fun S' h' hi hB => o_nil rfl) ?_
 refine z_w 7 rfl (fun S' h' hi hB => Zh fd27_3 rfl rfl) ?_
 refine z_w 8 rfl (fun S' h' hi hB => Zg (aw g_Exps.t g_Exps.n g_Exps.cap) ld24 rfl (At.s (InvL.get 0 hi rfl (hB 1000000 (by kernel_rfl)))) rfl) ?_
 refine z_w 9 rfl (fun S' h' hi hB => o_mv (.sc (.int _ _)) rfl) ?_
 obtain ⟨x7, hx7, hm⟩ := Zc hm
 refine z_w 10 rfl (fun S' h' hi hB => o_ixA hx7 el24 ok_Exps rfl rfl) ?_
 refine z_w 11 rfl (fun S' h' hi hB => o_flA (AOk.ne ok_Exps hx7) fd65_2 rfl rfl) ?_
 refine z_w 12 rfl (fun S' h' hi hB => o_ldA (fo := 2) (.sl none 4 (List.map c_Loc x7.Locs)) hx7 cz_Exp ok_Exps ld58 rfl (InvL.get 1 hi rfl (hB 17 (by kernel_rfl))) (fun _ => rfl)) ?_
 refine z_w 13 rfl (fun S' h' hi hB => Zg (.agg (c_Loc p2)) ld77 rfl (At.s (InvL.get 2 hi rfl (hB 1000000 (by kernel_rfl)))) rfl) ?_
 obtain ⟨y2, hy3, hm⟩ := Zc hm
 refine z_w 14 rfl (fun S' h' hi hB => o_call (W146 _ hy3) rfl bd146 rfl) ?_
 obtain ⟨x8, hx8, hm⟩ := Zc hm
 refine z_w 15 rfl (fun S' h' hi hB => o_ixA hx8 el24 ok_Exps rfl rfl) ?_
 refine z_w 16 rfl (fun S' h' hi hB => o_flA (AOk.ne ok_Exps hx8) fd65_2 rfl rfl) ?_
 refine z_e 17 rfl (by kernel_rfl) (a_storeA (fo := 2) ({ x8 with Locs := y2 } : TExp) 5 hk hx8 cz_Exp ok_Exps rfl rfl rfl rfl (ALeL.refl _ _) sz58 rfl rfl fun hk4 => ⟨⟨fun _ => hp_at 2 hk4 rfl, fun e => absurd e (by decide), fun _ => hp_at 0 hk4 rfl, trivial⟩, ?_⟩)
 refine z_nil (by kernel_rfl) (qk (f := .c 71 _ (.c 70 _ (.c 69 _ (.c 68 _ (.c 67 _ (.c 66 _ (.c 65 _ (.c 64 _ (.c 63 _ (.c 62 _ (.c 61 _ (.c 60 _ (.c 59 _ (.c 58 _ (.c 57 _ (.c 56 _ (.c 55 _ _))))))))))))))))) hk4 rfl ?_)
 refine vs (v0 (v0 ?_))
 refine vrt hm fun hm => ?_
 cases hm
 exact vr fun hk => Ret.of1 (.inl rfl) (rsT _ _ (.sc (.bool _)) rfl) (hp_pick hk [2, 3, 4, 5, 6] rfl).2 (ALe.refl _ _) ⟨g_Snaps, ok_Snaps, g_Chunks, ok_Chunks, g_Exps, (AOk.set ok_Exps), (hp_pick hk [2, 3, 4, 5, 6] rfl).1, rfl, rfl⟩
 refine v0 (vs (v0 (vs (vle (fun hk => LeF.fzO (n := 184) (f := _) 5 2 ([.sc (.int .i64 p0.Seq), aw g_Snaps.t g_Snaps.n g_Snaps.cap, aw g_Chunks.t g_Chunks.n g_Chunks.cap, .sl none 3 (List.map c_Exp p0.Exps), aw g_Vols.t g_Vols.n g_Vols.cap]) hk rfl (.cons (Fz.refl _ _ _) (.cons (Fz.refl _ _ _) (.cons (Fz.refl _ _ _) (.cons (Fz.aw 5 cz_Exp ok_Exps hk rfl (.refl _)) (.cons (Fz.refl _ _ _) .nil)))))) (v0 ?_)))))
 refine vz [(1000000, some p0K, .obj 27 ([.sc (.int .i64 p0.Seq), aw g_Snaps.t g_Snaps.n g_Snaps.cap, aw g_Chunks.t g_Chunks.n g_Chunks.cap, .sl none 3 (List.map c_Exp p0.Exps), aw g_Vols.t g_Vols.n g_Vols.cap])), (1000000, some k2, .obj 99 (c_Item p1)), (1000000, some k5, .obj 77 (c_Loc p2))] mixed (fun hk => ⟨fun _ => hp_at 2 hk rfl, fun _ => hp_at 1 hk rfl, fun _ => hp_at 0 hk rfl, trivial⟩) fun hk => ?_
 refine z_w 0 rfl (fun S' h' hi hB => o_mv (.sc (.slice _ _ _)) rfl) ?_
 refine z_w 1 rfl (fun S' h' hi hB => o_mv (.ptr _ _) rfl) ?_
 refine z_w 2 rfl (fun S' h' hi hB => o_nil rfl) ?_
 refine z_w 3 rfl (fun S' h' hi hB => Zh fd27_3 rfl rfl) ?_
 refine z_w 4 rfl (fun S' h' hi hB => Zg (.sl none 3 (List.map c_Exp p0.Exps)) ld24 rfl (At.s (InvL.get 0 hi rfl (hB 1000000 (by kernel_rfl)))) rfl) ?_
 refine z_w 5 rfl (fun S' h' hi hB => o_mv (.sc (.int _ _)) rfl) ?_
 obtain ⟨_, hx9, hm⟩ := Zc hm
 refine z_w 6 rfl (fun S' h' hi hB => o_slc hx9 el24 rfl rfl rfl rfl) ?_
 refine z_w 8 rfl (fun S' h' hi hB => Zh fd99_2 rfl rfl) ?_
 refine z_w 9 rfl (fun S' h' hi hB => Zg (.sc (.int .i64 p1.Seq)) ld3 rfl (At.s (InvL.get 1 hi rfl (hB 1000000 (by kernel_rfl)))) rfl) ?_
 refine z_w 10 rfl (fun S' h' hi hB => Zh fd99_3 rfl rfl) ?_
 refine z_w 11 rfl (fun S' h' hi hB => Zg (.sc (.int .i64 p1.Of)) ld3 rfl (At.s (InvL.get 1 hi rfl (hB 1000000 (by kernel_rfl)))) rfl) ?_
 refine z_w 12 rfl (fun S' h' hi hB => Zg (.agg (c_Loc p2)) ld77 rfl (At.s (InvL.get 2 hi rfl (hB 1000000 (by kernel_rfl)))) rfl) ?_
 refine z_w 13 rfl (fun S' h' hi hB => o_lit (List.map c_Loc ([p2] : List TLoc)) et58 rfl rfl rfl rfl) ?_
 refine z_w 14 rfl (fun S' h' hi hB => o_bld (c_Exp ({ Seq := p1.Seq, Of := p1.Of, Locs := ([p2] : List TLoc) } : TExp)) bt65 rfl) ?_
 refine z_w 15 rfl (fun S' h' hi hB => o_lit (List.map c_Exp ([({ Seq := p1.Seq, Of := p1.Of, Locs := ([p2] : List TLoc) } : TExp)] : List TExp)) et24 rfl rfl rfl rfl) ?_
 obtain ⟨z0, hz0, hm⟩ := Zc hm
 refine z_e 7 rfl (by kernel_rfl) (a_appA0 (c := c_Exp) hz0 et24 rfl zr65 rfl cz_Exp rfl hk rfl fun ag0 ok0 hk5 => ⟨⟨fun _ => hp_at 3 hk5 rfl, fun _ => hp_at 2 hk5 rfl, fun _ => hp_at 1 hk5 rfl, trivial⟩, ?_⟩)
 obtain ⟨z1, hz1, hm⟩ := Zc hm
 refine z_e 16 rfl (by kernel_rfl) (a_appA (c := c_Exp) 0 hz1 et24 rfl zr65 rfl cz_Exp rfl rfl ok0 hk5 rfl fun ag1 ok1 hk7 => ⟨⟨fun _ => hp_at 3 hk7 rfl, fun _ => hp_at 2 hk7 rfl, fun _ => hp_at 1 hk7 rfl, trivial⟩, ?_⟩)
 refine z_w 17 rfl (fun S' h' hi hB => o_as (aw _ _ _) rfl) ?_
 refine z_nil (by kernel_rfl) (qk (f := .c 10 _ (.c 88 _ (.c 79 _ (.c 87 _ (.c 86 _ (.c 85 _ (.c 84 _ (.c 83 _ (.c 82 _ (.c 81 _ (.c 80 _ (.c 78 _ (.c 77 _ (.c 76 _ (.c 75 _ (.c 74 _ (.c 73 _ (.c 72 _ _)))))))))))))))))) hk7 rfl ?_)
 refine vs (v0 (vn (fun _ => o_nil rfl) (vn (fun _ => Zh fd27_3 rfl rfl) (vl 3 _ ld24 rfl rfl rfl ?_))))
 obtain ⟨_, hx10, hm⟩ := Zc hm
 refine vn (fun _ => o_slc hx10 el24 rfl rfl rfl rfl) ?_
 obtain ⟨z2, hz2, hm⟩ := Zc hm
 refine ve fun hk => a_appA (c := c_Exp) 0 hz2 et24 rfl zr65 rfl cz_Exp rfl rfl ok1 hk rfl fun ag2 ok2 hk8 => qk hk8 rfl ?_
 refine vn (fun _ => o_nil rfl) (vn (fun _ => Zh fd27_3 rfl rfl) ?_)
 refine ve fun hk => a_store 3 ([.sc (.int .i64 p0.Seq), aw g_Snaps.t g_Snaps.n g_Snaps.cap, aw g_Chunks.t g_Chunks.n g_Chunks.cap, aw ag2.t ag2.n ag2.cap, aw g_Vols.t g_Vols.n g_Vols.cap]) hk rfl rfl (cellsOf_aw rfl) (all_c (ocell_aw _ _ _) rfl) sz24 rfl rfl fun hk9 => qk hk9 rfl ?_
 refine vs ?_
 refine vjnH hm (σ := Bool) (τ := Unit) (fun g s => [(ag2.t, .obj 65 (fl c_Exp (z2 : List TExp) ag2.sp)), (some k5, .obj 77 (c_Loc p2)), (some k2, .obj 99 (c_Item p1)), (some p0K, .obj 27 ([.sc (.int .i64 p0.Seq), aw g_Snaps.t g_Snaps.n g_Snaps.cap, aw g_Chunks.t g_Chunks.n g_Chunks.cap, aw ag2.t ag2.n ag2.cap, aw g_Vols.t g_Vols.n g_Vols.cap])), (g_Snaps.t, .obj 60 (fl c_Snap (p0.Snaps : List TSnap) g_Snaps.sp)), (g_Chunks.t, .obj 63 (fl c_Chunk (p0.Chunks : List TChunk) g_Chunks.sp)), (g_Vols.t, .obj 40 (fl c_Vol (p0.Vols : List TVol) g_Vols.sp))]) (fun g s => .c 0 (.ptr p0K 0) (.c 4 (.ptr k2 0) (.c 111 (.sc (.bool s)) .nil))) (fun x hm => ?_) ?_
 refine v0 (vq0 (by kernel_rfl) (vn (fun _ => Zh fd99_2 rfl rfl) (vl 2 _ ld3 rfl rfl rfl (vn (fun _ => o_nil rfl) (vn (fun _ => Zh fd27_0 rfl rfl) (vl 3 _ ld3 rfl rfl rfl ?_))))))
 refine vi hm (fun hb2 hm => ?_) fun hb2 hm => ?_
 rw [hb2]
 refine vn (fun _ => Zh fd99_2 rfl rfl) (vl 2 _ ld3 rfl rfl rfl ?_)
 exact vgo hm () trivial (lx (.k3 .nil))
 rw [hb2]
 exact vgo hm () trivial (lx (.k3 .nil))
 rintro _ j2 hm
 refine vjnH hm (σ := Int) (τ := Unit) (fun g s => [(ag2.t, .obj 65 (fl c_Exp (z2 : List TExp) ag2.sp)), (some k5, .obj 77 (c_Loc p2)), (some k2, .obj 99 (c_Item p1)), (some p0K, .obj 27 ([.sc (.int .i64 s), aw g_Snaps.t g_Snaps.n g_Snaps.cap, aw g_Chunks.t g_Chunks.n g_Chunks.cap, aw ag2.t ag2.n ag2.cap, aw g_Vols.t g_Vols.n g_Vols.cap])), (g_Snaps.t, .obj 60 (fl c_Snap (p0.Snaps : List TSnap) g_Snaps.sp)), (g_Chunks.t, .obj 63 (fl c_Chunk (p0.Chunks : List TChunk) g_Chunks.sp)), (g_Vols.t, .obj 40 (fl c_Vol (p0.Vols : List TVol) g_Vols.sp))]) (fun g s => .nil) (fun x hm => ?_) ?_
 refine v0 ?_
 refine vi hm (fun hc7 hm => ?_) fun hc7 hm => ?_
 refine v0 (vn (fun _ => Zh fd99_2 rfl rfl) (vl 2 _ ld3 rfl rfl rfl (vn (fun _ => o_nil rfl) (vn (fun _ => Zh fd27_0 rfl rfl) ?_))))
 refine ve fun hk => a_store 3 ([.sc (.int .i64 (IntKind.wrap .i64 (p1.Seq + 1))), aw g_Snaps.t g_Snaps.n g_Snaps.cap, aw g_Chunks.t g_Chunks.n g_Chunks.cap, aw ag2.t ag2.n ag2.cap, aw g_Vols.t g_Vols.n g_Vols.cap]) hk rfl rfl rfl rfl sz3 rfl rfl fun hk10 => qk hk10 rfl ?_
 exact vgo hm () trivial (lx .nil)
 refine v0 ?_
 exact vgo hm () trivial (lx .nil)
 rintro _ j3 hm
 exact vgo hm (g_Chunks, ag2) ⟨ok_Chunks, ok2⟩ (lxs [1, 2, 3, 4, 5, 0, 6] rfl rfl .nil)
 rintro ⟨ag3, ag4⟩ ⟨j4, j5, j6⟩ ⟨ok3, ok4⟩ hm
 refine vs (v0 (v0 ?_))
 cases hm
 exact vr fun hk => Ret.of1 (.inl rfl) (rsT _ _ (.sc (.bool _)) rfl) (hp_pick hk [2, 3, 4, 5, 6] rfl).2 (ALe.refl _ _) ⟨g_Snaps, ok_Snaps, ag3, ok3, ag4, ok4, (hp_pick hk [2, 3, 4, 5, 6] rfl).1, rfl, rfl⟩
theorem bd138 : bodied Try.prog 138 = true := by kernel_rfl
end Go.Proofs.Ytoomgangpjcaoaa
