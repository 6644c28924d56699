import Derived.Test.YtoomgangpjcaoaaGreatK1P7
import Derived.Test.YtoomgangpjcaoaaGreatK1P2
import Derived.Test.YtoomgangpjcaoaaGreatK1P4
import Derived.Test.YtoomgangpjcaoaaGreatK1P5
import Derived.Test.YtoomgangpjcaoaaGreatK1P3
set_option linter.unusedSimpArgs false
set_option linter.unusedVariables false
namespace Go.Vm
def nC : Obj → Bool
 | .cells _ _ _ => false
 | _ => true
theorem nC_cell {w : World} {g o : Nat} {ob : Obj} (hl : w.heap[g]? = some ob) (ho : nC ob = true) : w.cell? ⟨g, o, none⟩ = none := by
 cases ob <;> simp_all [World.cell?, nC]
theorem cellP {w : World} {l g o : Nat} {ob ob' : Obj} (hl : w.heap[l]? = some ob) (ho : nC ob = true) (ho' : nC ob' = true) : (w.putObj l ob').cell? ⟨g, o, none⟩ = w.cell? ⟨g, o, none⟩ := by
 by_cases e : g = l
 ·subst e
  have h1 := World.putObj_heap_same (w := w) (o := ob') (Array.getElem?_eq_some_iff.1 hl).1
  rw [nC_cell h1 ho', nC_cell hl ho]
 ·exact cell_of_block (World.putObj_heap_other e) o
theorem Rel.relock {E : Env} {h : Heap} {w : World} (r : Rel E h w) (L : Nat → Prop) (hL : ∀ k g, E.at h k g → ¬ L g) (hb : ∀ g, L g → g < w.heap.size) : Rel { E with lock := L } h w := by
 have hat : ∀ k g, Env.at { E with lock := L } h k g → E.at h k g := fun k g ha => ha
 constructor
 ·intro k ty cs hk
  obtain ⟨g, cur, e1, e2, e3, e4⟩ := r.obj k ty cs hk
  refine ⟨g, cur, e1, e2, ?_, e4⟩
  exact VRL_keepV (E := E) (E' := { E with lock := L }) ⟨fun _ _ h => ⟨h, rfl⟩, fun _ h => h, fun _ _ h => h, fun _ t ht o ho => ⟨.inr ⟨t, ht, rfl, ho⟩, rfl⟩, fun _ t ht _ => ⟨t, ht, Nat.le_refl _, fun _ => rfl⟩⟩ _ _ e3
 ·exact r.tok
 ·exact r.tkh
 ·exact fun k k' g ha hb => r.sep k k' g ha hb
 ·exact fun k g ha => ⟨hL k g ha, (r.dis k g ha).2⟩
 ·exact r.hus
 ·exact r.obu
 ·exact r.fre
 ·exact r.imb
 ·exact hb
 ·exact r.mp
theorem VRL_relock {E : Env} {w : World} {L : Nat → Prop} {xs : List AV} {vs : List Value} (h : VRL E w xs vs) : VRL { E with lock := L } w xs vs :=
 VRL_keepV (E := E) (E' := { E with lock := L }) ⟨fun _ _ h => ⟨h, rfl⟩, fun _ h => h, fun _ _ h => h, fun _ t ht o ho => ⟨.inr ⟨t, ht, rfl, ho⟩, rfl⟩, fun _ t ht _ => ⟨t, ht, Nat.le_refl _, fun _ => rfl⟩⟩ _ _ h
theorem Rel.turn {E : Env} {h : Heap} {w : World} (r : Rel E h w) {l : Nat} {ob ob' : Obj} (hl : w.heap[l]? = some ob) (ho : nC ob = true) (ho' : nC ob' = true) (hlk : ∀ k, ¬ E.at h k l) : Rel E h (w.putObj l ob') ∧ KeepV E w E (w.putObj l ob') := by
 have hv : KeepV E w E (w.putObj l ob') := ⟨fun g o hi => ⟨hi, cellP hl ho ho'⟩, fun _ h => h, fun _ _ h => h, fun _ t ht o ho2 => ⟨.inr ⟨t, ht, rfl, ho2⟩, cellP hl ho ho'⟩, fun _ t ht _ => ⟨t, ht, Nat.le_refl _, fun _ => rfl⟩⟩
 refine ⟨?_, hv⟩
 have ne : ∀ k g, E.at h k g → g ≠ l := fun k g ha e => hlk k (e ▸ ha)
 constructor
 ·intro k ty cs hk
  obtain ⟨g, cur, e1, e2, e3, e4⟩ := r.obj k ty cs hk
  exact ⟨g, cur, e1, by rw [World.putObj_heap_other (ne k g (.inl ⟨_, rfl, hk, e1⟩))]; exact e2, VRL_keepV hv _ _ e3, e4⟩
 ·intro k ty sz m hk
  obtain ⟨t, cur, e1, e2, e3, e4, e5⟩ := r.tok k ty sz m hk
  exact ⟨t, cur, e1, e2, e3, by rw [World.putObj_heap_other (ne k t.b (.inr ⟨_, _, _, t, hk, e1, rfl⟩))]; exact e4, e5⟩
 ·exact r.tkh
 ·exact r.sep
 ·exact r.dis
 ·exact r.hus
 ·exact r.obu
 ·exact r.fre
 ·intro g o hg
  obtain ⟨v, e⟩ := r.imb g o hg
  exact ⟨v, (cellP hl ho ho').trans e⟩
 ·intro g hg
  rw [World.putObj_size]
  exact r.lkb g hg
 ·intro k es hk
  obtain ⟨g, ents, clk, e1, e2, e3⟩ := r.mp k es hk
  exact ⟨g, ents, clk, e1, by rw [World.putObj_heap_other (ne k g (.inl ⟨_, rfl, hk, e1⟩))]; exact e2, e3⟩
theorem Rel.more {E : Env} {h : Heap} {w : World} (r : Rel E h w) (ob : Obj) : Rel E h (w.alloc ob) ∧ Keep E w E (w.alloc ob) := by
 have hb : ∀ g, g < w.heap.size → (w.alloc ob).heap[g]? = w.heap[g]? := fun g hg => by
  show (w.heap.push ob)[g]? = w.heap[g]?
  rw [Array.getElem?_push_lt hg, Array.getElem?_eq_getElem hg]
 have hc : ∀ g o v, w.cell? ⟨g, o, none⟩ = some v → (w.alloc ob).cell? ⟨g, o, none⟩ = w.cell? ⟨g, o, none⟩ := fun g o v e => cell_of_block (hb g (block_of_cell e)) o
 have htk : ∀ k t, E.tk k = some t → t.b < w.heap.size := fun k t ht => by
  obtain ⟨ty, e⟩ := r.tkh k t ht
  exact r.at_lt (.inr ⟨_, _, _, t, e, ht, rfl⟩)
 have hk : Keep E w E (w.alloc ob) := by
  refine ⟨fun g o hi => ⟨hi, ?_⟩, fun _ => Iff.rfl, fun g hg => hb g (r.lkb g hg), fun _ h => h, fun _ _ h => h, fun k t ht o ho => ⟨.inr ⟨t, ht, rfl, ho⟩, cell_of_block (hb _ (htk k t ht)) o⟩, fun _ t ht _ => ⟨t, ht, Nat.le_refl _, fun _ => rfl⟩, rfl, rfl, rfl, ?_⟩
  ·obtain ⟨v, e⟩ := r.imb g o hi
   exact hc g o v e
  ·show w.heap.size ≤ (w.heap.push ob).size
   simp
 refine ⟨?_, hk⟩
 constructor
 ·intro k ty cs hk'
  obtain ⟨g, cur, e1, e2, e3, e4⟩ := r.obj k ty cs hk'
  exact ⟨g, cur, e1, by rw [hb g (Array.getElem?_eq_some_iff.1 e2).1]; exact e2, VRL_keep hk _ _ e3, e4⟩
 ·intro k ty sz m hk'
  obtain ⟨t, cur, e1, e2, e3, e4, e5⟩ := r.tok k ty sz m hk'
  exact ⟨t, cur, e1, e2, e3, by rw [hb t.b (Array.getElem?_eq_some_iff.1 e4).1]; exact e4, e5⟩
 ·exact r.tkh
 ·exact r.sep
 ·exact r.dis
 ·exact r.hus
 ·exact r.obu
 ·exact r.fre
 ·intro g o hg
  obtain ⟨v, e⟩ := r.imb g o hg
  exact ⟨v, (hc g o v e).trans e⟩
 ·intro g hg
  have := r.lkb g hg
  show g < (w.heap.push ob).size
  simp; omega
 ·intro k es hk'
  obtain ⟨g, ents, clk, e1, e2, e3⟩ := r.mp k es hk'
  exact ⟨g, ents, clk, e1, by rw [hb g (Array.getElem?_eq_some_iff.1 e2).1]; exact e2, e3⟩
def Ird (l D : Nat) (rec : Loop) (fr0 : Fr) (E : Env) (w : World) : Prop :=
 E.lock l ∧ w.heap[l]? = some (.loop rec) ∧ E.lock D ∧ w.heap[D]? = some (.deferred (some [])) ∧ VRL E w fr0 rec.tmps.toList
theorem Ird.stb {l D : Nat} {rec : Loop} {fr0 : Fr} : Stb (Ird l D rec fr0) := fun E w E' w' k ⟨a, b, c, d, e⟩ =>
 ⟨(k.lockEq l).2 a, (k.lock l a).trans b, (k.lockEq D).2 c, (k.lock D c).trans d, VRL_keep k _ _ e⟩
theorem round_abs {P : Program} {l D p : Nat} {rec : Loop} {fr0 fr1 : Fr} {h : Heap} {K : Heap → Prop} {x : AV} (hst : rec.state = .ready) (hpn : rec.pending = none)
    (ha : AWn (fun _ _ => True) (some l) P rec.assign (fun e fr hh => e = .normal ∧ LeF fr1 h fr hh) (fr0.set p x) h)
    (hb : AWn (fun _ _ => True) (some l) P rec.body (fun e fr hh => e = .normal ∧ ∃ h' g, K h' ∧ LeF g h' fr hh) fr1 h)
    {E : Env} {w : World} {v : Value} (hi : Ird l D rec fr0 E w) (r : Rel E h w) (hv : VR E w x v) :
    RoundIn Fence.wide 0 P l rec.fn (rec.tmps.setIfInBounds p v) rec.assign rec.body w (fun e w' => e = .returned (.bool true) ∧ ∃ E' h', Keep E w E' w' ∧ Rel E' h' w' ∧ K h') := by
  obtain ⟨il, ih, iD, iDh, iv⟩ := hi
  have hnat : ∀ {E : Env} {h : Heap} {w : World}, Rel E h w → E.lock l → ∀ k, ¬ E.at h k l := fun r hl k ha => (r.dis k l ha).1 hl
  refine roundIn_of_wpIn trivial ?_
  have hv0 : VRL E w (fr0.set p x) (rec.tmps.setIfInBounds p v).toList := by
    rw [Array.toList_setIfInBounds]
    exact VRL_set p iv hv
  refine wpIn_mono (ha E w { tmps := rec.tmps.setIfInBounds p v, defers := [] } trivial r hv0 rfl) ?_
  rintro e a1 w1 ⟨E1, fr', hh, k1, r1, v1, d1, rfl, le1⟩
  obtain ⟨E2, k2, r2, v2⟩ := le1 E1 w1 _ r1 v1
  have k12 := k1.trans k2
  have il2 : E2.lock l := (k12.lockEq l).2 il
  have hl1 : w1.heap[l]? = some (.loop rec) := (k1.lock l il).trans ih
  refine ⟨_, run_beginRound hl1 hst, ?_⟩
  obtain ⟨r3, kv3⟩ := r2.turn (ob' := .loop { rec with state := .busy }) hl1 rfl rfl (hnat r2 il2)
  have hl3 : (w1.putObj l (.loop { rec with state := .busy })).heap[l]? = some (.loop { rec with state := .busy }) := World.putObj_heap_same (Array.getElem?_eq_some_iff.1 hl1).1
  refine wpIn_mono (hb E2 _ a1 trivial r3 (VRL_keepV kv3 _ _ v2) d1) ?_
  rintro e a4 w4 ⟨E4, fr4, h4, k4, r4, v4, d4, rfl, h', g4, kh, le4⟩
  obtain ⟨E5, k5, r5, -⟩ := le4 E4 w4 _ r4 v4
  have k45 := k4.trans k5
  have hl4 : w4.heap[l]? = some (.loop { rec with state := .busy }) := (k4.lock l il2).trans hl3
  have il5 : E5.lock l := (k45.lockEq l).2 il2
  obtain ⟨r6, kv6⟩ := r5.turn (ob' := .loop rec) hl4 rfl rfl (hnat r5 il5)
  have hend := run_endRound (P := P) none hl4
  have hrec : ({ ({ rec with state := .busy } : Loop) with state := if (none : Option Code).isNone then .ready else .done, pending := none } : Loop) = rec := by
    cases rec; simp_all
  rw [hrec] at hend
  refine ⟨_, _, hend, rfl, E5, h', ?_, r6, kh⟩
  have hl6 : (w4.putObj l (.loop rec)).heap[l]? = some (.loop rec) := World.putObj_heap_same (Array.getElem?_eq_some_iff.1 hl4).1
  have oth : ∀ g, g ≠ l → (w4.putObj l (.loop rec)).heap[g]? = w4.heap[g]? := fun g hg => World.putObj_heap_other hg
  have oth3 : ∀ g, g ≠ l → (w1.putObj l (.loop { rec with state := .busy })).heap[g]? = w1.heap[g]? := fun g hg => World.putObj_heap_other hg
  -- what is kept, from the round's begin to its end
  have c1 := kv3
  refine ⟨fun g o hg => ?_, fun g => ?_, fun g hg => ?_, fun k hk => k45.used k (k12.used k hk), fun k g hk => k45.ob k g (k12.ob k g hk), fun k t ht o ho => ?_, fun k t' ht' hu => ?_, ?_, ?_, ?_, ?_⟩
  · obtain ⟨q1, q2⟩ := k12.imm g o hg
    obtain ⟨q3, q4⟩ := kv3.imm g o q1
    obtain ⟨q5, q6⟩ := k45.imm g o q3
    obtain ⟨q7, q8⟩ := kv6.imm g o q5
    exact ⟨q7, q8.trans (q6.trans (q4.trans q2))⟩
  · exact (k45.lockEq g).trans (k12.lockEq g)
  · by_cases e : g = l
    · subst e; exact hl6.trans ih.symm
    · rw [oth g e, k45.lock g ((k12.lockEq g).2 hg), oth3 g e, k12.lock g hg]
  · obtain ⟨q1, q2⟩ := k12.tkc k t ht o ho
    rcases q1 with q1 | ⟨t2, q1, qb, qm⟩
    · obtain ⟨q3, q4⟩ := kv3.imm _ _ q1
      obtain ⟨q5, q6⟩ := k45.imm _ _ q3
      obtain ⟨q7, q8⟩ := kv6.imm _ _ q5
      exact ⟨.inl q7, q8.trans (q6.trans (q4.trans q2))⟩
    · obtain ⟨q3, q4⟩ := kv3.tkc k t2 q1 o qm
      obtain ⟨q5, q6⟩ := k45.tkc k t2 q1 o qm
      rw [qb] at q4 q5 q6
      have q8 : (w4.putObj l (.loop rec)).cell? ⟨t.b, o, none⟩ = w4.cell? ⟨t.b, o, none⟩ := cellP hl4 rfl rfl
      refine ⟨?_, q8.trans (q6.trans (q4.trans q2))⟩
      rcases q5 with q5 | ⟨t3, q5, qb3, qm3⟩
      · exact .inl q5
      · exact .inr ⟨t3, q5, qb3, qm3⟩
  · obtain ⟨t5, q1, q2, q3⟩ := k45.tkf k t' ht' (k12.used k hu)
    obtain ⟨t1, q4, q5, q6⟩ := k12.tkf k t5 q1 hu
    refine ⟨t1, q4, Nat.le_trans q5 q2, fun e => ?_⟩
    have e1 : t1.m = t5.m := by omega
    have e2 : t5.m = t'.m := by omega
    rw [q6 e1, q3 e2]
  · exact (show (w4.putObj l (.loop rec)).os = w4.os from rfl).trans (k45.os.trans ((show (w1.putObj l (.loop { rec with state := .busy })).os = w1.os from rfl).trans k12.os))
  · exact (show (w4.putObj l (.loop rec)).tape = w4.tape from rfl).trans (k45.tape.trans ((show (w1.putObj l (.loop { rec with state := .busy })).tape = w1.tape from rfl).trans k12.tape))
  · exact (show (w4.putObj l (.loop rec)).output = w4.output from rfl).trans (k45.output.trans ((show (w1.putObj l (.loop { rec with state := .busy })).output = w1.output from rfl).trans k12.output))
  · have s1 := k12.size
    have s2 := k45.size
    rw [World.putObj_size] at s2 ⊢
    omega
def Rnd (P : Program) (l D p : Nat) (rec : Loop) (fr0 : Fr) (x : AV) (h : Heap) (K : Heap → Prop) : Prop :=
 ∀ E w v, Ird l D rec fr0 E w → Rel E h w → VR E w x v →
  RoundIn Fence.wide 0 P l rec.fn (rec.tmps.setIfInBounds p v) rec.assign rec.body w (fun e w' => e = .returned (.bool true) ∧ ∃ E' h', Keep E w E' w' ∧ Rel E' h' w' ∧ K h')
theorem Rnd.of {P : Program} {l D p : Nat} {rec : Loop} {fr0 fr1 : Fr} {h : Heap} {K : Heap → Prop} {x : AV} (hst : rec.state = .ready) (hpn : rec.pending = none)
    (ha : AWn (fun _ _ => True) (some l) P rec.assign (fun e fr hh => e = .normal ∧ LeF fr1 h fr hh) (fr0.set p x) h)
    (hb : AWn (fun _ _ => True) (some l) P rec.body (fun e fr hh => e = .normal ∧ ∃ h' g, K h' ∧ LeF g h' fr hh) fr1 h) : Rnd P l D p rec fr0 x h K :=
  fun _ _ _ hi r hv => round_abs hst hpn ha hb hi r hv
def AOn (I : Env → World → Prop) (ro : Option Nat) (P : Program) (ops : Array Oper) (l : List Oper) (K : Fr → Heap → Prop) (fr : Fr) (h : Heap) : Prop :=
 ∀ E w a, I E w → Rel E h w → VRL E w fr a.tmps.toList → a.defers = [] → ∀ Q : Exit → Act → World → Prop, ¬ LetsOut Q → (∀ a' w', Post E w K a' w' → Q .normal a' w') → wpListIn (Fc ro) 0 P ops Q l a w
theorem wp_ex {P : Program} {o : Oper} {a : Act} {w : World} {K : Act → World → Prop} {Q Q' : Exit → Act → World → Prop} (hp : ∀ ch a w, Q (.panic ch) a w → Q' (.panic ch) a w) (ho : LetsOut Q → LetsOut Q')
    (hh : o.wp P a w K Q) : o.wp P a w K Q' := by
  unfold Oper.wp at *
  generalize (execOp a.eval o).run P w = r at *
  cases r with
  | ok n w' =>
    cases n <;> simp only [Oper.upon] at hh ⊢ <;>
      first
        | exact hh
        | exact Calls.mono hh (fun e w'' he => by cases e <;> first | exact he | exact hp _ _ _ he | exact ho he)
        | exact Rows.mono hh (fun _ _ he => he)
  | halt x w' => cases x <;> simp only [Oper.upon] at hh ⊢ <;> first | exact hh | exact hp _ _ _ hh
section
variable {P : Program} {ro : Option Nat} {I : Env → World → Prop} {Q : Exit → Fr → Heap → Prop} {fr : Fr} {h : Heap} {ops : Array Oper} {K : Fr → Heap → Prop}
theorem list_pre {Q Q1 : Exit → Act → World → Prop} {l2 : List Oper} (hq : ¬ LetsOut Q) (hp : ∀ ch a w, Q1 (.panic ch) a w → Q (.panic ch) a w) (ho : LetsOut Q1 → LetsOut Q) (hn : ∀ a w, Q1 .normal a w → wpListIn (Fc ro) 0 P ops Q l2 a w) :
    ∀ {l : List Oper} {a : Act} {w : World}, (l.all fun o => nd o.op) = true → wpList P ops Q1 l a w → wpListIn (Fc ro) 0 P ops Q (l ++ l2) a w
  | [], _, _, _, h => hn _ _ h
  | o :: l, a, w, hd, h => by
    simp only [List.all_cons, Bool.and_eq_true] at hd
    refine wpListIn_step fun K hK => ?_
    unfold wpList at h
    split at h
    · rename_i hw
      rw [if_pos hw]
      rcases h with h | ⟨_, h⟩
      · exact op_in hd.1 (wp_ex hp ho (Oper.wp_mono (fun a' w' h' => hK _ _ (list_pre hq hp ho hn hd.2 h')) h))
      · exact absurd (ho h) hq
    · rename_i hw
      rw [if_neg hw]
      exact ⟨fun f _ => Fc_fn ro f, hK _ _ (list_pre hq hp ho hn hd.2 h)⟩
theorem AOn_of {l l2 : List Oper} (hI : Stb I) (hd : (l.all fun o => nd o.op) = true) (hl : AOps P ops l (fun fr hh => AOn I ro P ops l2 K fr hh) fr h) : AOn I ro P ops (l ++ l2) K fr h := by
 intro E w a i r v d Q hq hQ
 refine list_pre (Q1 := fun e a' w' => match e with | .normal => wpListIn (Fc ro) 0 P ops Q l2 a' w' | e => Q e a' w') hq (fun _ _ _ p => p) (fun p => p) (fun _ _ p => p) hd (hl E w a r v d _ ?_)
 rintro a' w' ⟨E', fr', h', k, r', v', d', q⟩
 exact q E' w' a' (hI _ _ _ _ k i) r' v' d' Q hq fun a'' w'' p => hQ _ _ (p.trans k)
theorem AOn_nil (hk : K fr h) : AOn I ro P ops [] K fr h := fun E w a _ r v d _ _ hQ => hQ a w ⟨E, fr, h, Keep.refl E w, r, v, d, hk⟩
theorem AWn_list {id : Nat} {l : List Oper} (hl : AOn I ro P l.toArray l (Q .normal) fr h) : AWn I ro P (.region id l.toArray false) Q fr h := by
 intro E w a i r v d
 refine wpIn_mono (wpIn_region_lit (id := id) (Q := fun e a' w' => e = .normal ∧ Post E w (Q .normal) a' w') (hl E w a i r v d _ ?_ fun _ _ p => ⟨rfl, p⟩)) ?_
 ·rintro ⟨_, _, e, _⟩
  cases e
 ·rintro e a' w' ⟨rfl, p⟩
  exact p
theorem AWn_now {c : Code} {e : Exit} (hc : ∀ (R : Exit → Act → World → Prop) a w, R e a w → c.wpIn (Fc ro) 0 P R a w) (hq : Q e fr h) : AWn I ro P c Q fr h :=
 fun E w a _ r v d => hc _ a w ⟨E, fr, h, Keep.refl E w, r, v, d, hq⟩
theorem AWn_skip (hq : Q .normal fr h) : AWn I ro P .skip Q fr h := AWn_now (fun _ _ _ p => wpIn_skip p) hq
theorem AWn_loop {c : Code} (hI : Stb I) (J : Nat → Fr → Heap → Prop) (n : Nat) (h0 : J n fr h)
    (round : ∀ n fr h, J n fr h → AWn I none P c (Seq (fun fr' h' => ∃ n', n' < n ∧ J n' fr' h') Q) fr h) : AWn I none P (.loop c) Q fr h := by
  intro E w a i r v d
  refine wpIn_wide.2 (wp_loop_ghost (fun n a' w' => Post E w (J n) a' w') n ⟨E, fr, h, Keep.refl E w, r, v, d, h0⟩ ?_)
  intro n a' w' p
  obtain ⟨E', fr', h', k, r', v', d', q⟩ := p
  refine wp_mono (wpIn_wide.1 (round n fr' h' q E' w' a' (hI _ _ _ _ k i) r' v' d')) ?_
  intro e a'' w'' p'
  cases e with
  | normal =>
    obtain ⟨E'', fr'', h'', k', r'', v'', d'', n', hn, q'⟩ := p'
    exact ⟨n', hn, E'', fr'', h'', k.trans k', r'', v'', d'', q'⟩
  | exit id => exact p'.trans k
  | goto l => exact p'.trans k
  | ret => exact p'.trans k
  | panic ch => exact p'.trans k
  | outgrown => exact p'.trans k
theorem AOn_yield {l D p : Nat} {rec : Loop} {fr0 : Fr} {x : AV} {Kr : Heap → Prop} {y b : Operand} {dst : Option Tmp} {ts : Array TypeId} {ty : TypeId} {pos : String} {aft : Array Edge} {l2 : List Oper}
    (hp : rec.params = #[p]) (hy : ev fr y = .fn (.yield l) []) (hx : ev fr b = x) (hr : Rnd P l D p rec fr0 x h Kr)
    (k : ∀ h', Kr h' → AOn (Ird l D rec fr0) none P ops l2 K (fput fr dst (.sc (.bool true))) h') :
    AOn (Ird l D rec fr0) none P ops (⟨dst, .call { callee := .value y, args := #[b], argTypes := ts }, ty, pos, aft, none⟩ :: l2) K fr h := by
  intro E w a i r v d Q hq hQ
  refine wpListIn_plain rfl fun K' hK' => ⟨fun f _ => Fc_fn none f, ?_⟩
  have e1 : a.eval y = .func (.yield l) #[] #[] := by
    have h1 := VR_ev v y
    rw [hy] at h1
    simp only [VR] at h1
    obtain ⟨vs, e, h2⟩ := h1
    have : vs = #[] := by
      have := VRL_length h2
      exact Array.eq_empty_of_size_eq_zero (by simpa using this.symm)
    rw [e, this]
  have e2 : VR E w x (a.eval b) := hx ▸ VR_ev v b
  have hrun : ((⟨dst, .call { callee := .value y, args := #[b], argTypes := ts }, ty, pos, aft, none⟩ : Oper).semAt (Fc none).round a.eval).run P w = .ok (.round l rec.fn (rec.tmps.setIfInBounds p (a.eval b)) rec.assign rec.body) w := by
    have hy := run_yield (P := P) (args := #[a.eval b]) i.2.1 (by rw [hp]; rfl)
    rw [hp] at hy
    have hz : Array.foldl (fun (tmps : Array Value) (x : Tmp × Value) => match x with | (t, a) => tmps.setIfInBounds t a) rec.tmps (#[p].zip #[a.eval b]) = rec.tmps.setIfInBounds p (a.eval b) := by simp
    rw [hz] at hy
    simp only [Oper.semAt, Fc]
    simp [execOp, resolve, Deferred.ofValue, e1, invoke, Fence.wide, hy]
  rw [hrun, Oper.uponIn_round]
  refine ⟨fun hh => (by cases hh), (hr E w _ i r e2).mono ?_⟩
  rintro e w' ⟨rfl, E', h', k1, r1, kh⟩
  refine hK' _ _ (k h' kh E' w' _ (Ird.stb _ _ _ _ k1 i) r1 (VRL_put _ (VRL_keep k1 _ _ v) (by simp [VR])) (by rw [put_defers]; exact d) Q hq fun a'' w'' p' => hQ _ _ (p'.trans k1))
end
theorem Keep.unlock {E E' : Env} {w w' : World} {L : Nat → Prop} (L0 : Nat → Prop) (hs : ∀ g, L0 g → L g) (k : Keep { E with lock := L } w E' w') : Keep { E with lock := L0 } w { E' with lock := L0 } w' :=
 ⟨k.imm, fun _ => Iff.rfl, fun g hg => k.lock g (hs g hg), k.used, k.ob, k.tkc, k.tkf, k.os, k.tape, k.output, k.size⟩
theorem Rel.turnK {E : Env} {h : Heap} {w : World} (r : Rel E h w) {l : Nat} {ob ob' : Obj} (hl : w.heap[l]? = some ob) (ho : nC ob = true) (ho' : nC ob' = true) (hlk : ∀ k, ¬ E.at h k l) (hn : ¬ E.lock l) :
    Rel E h (w.putObj l ob') ∧ Keep E w E (w.putObj l ob') := by
  obtain ⟨r1, kv⟩ := r.turn hl ho ho' hlk
  refine ⟨r1, fun g o hi => kv.imm g o hi, fun _ => Iff.rfl, fun g hg => World.putObj_heap_other fun e => hn (e ▸ hg), kv.used, kv.ob, fun k t ht o ho2 => kv.tkc k t ht o ho2, kv.tkf, rfl, rfl, rfl, ?_⟩
  rw [World.putObj_size]
  exact Nat.le_refl _
def mkD (D : Nat) : Deferred := { target := .collected D, args := #[] }
def PostM (E : Env) (w : World) (K : Fr → Heap → Prop) (a' : Act) (w' : World) : Prop :=
 ∃ D E1 w1 E' fr' h', ¬ E.lock D ∧ Keep E w E1 w1 ∧ Keep { E1 with lock := fun g => E1.lock g ∨ g = D } w1 E' w' ∧ Rel E' h' w' ∧ VRL E' w' fr' a'.tmps.toList ∧ a'.defers = [mkD D] ∧ w'.heap[D]? = some (.deferred (some [])) ∧ K fr' h'
def PostD (D : Nat) (E : Env) (w : World) (K : Fr → Heap → Prop) (a' : Act) (w' : World) : Prop :=
 ∃ E' fr' h', Keep E w E' w' ∧ Rel E' h' w' ∧ VRL E' w' fr' a'.tmps.toList ∧ a'.defers = [mkD D] ∧ K fr' h'
def AWm (P : Program) (c : Code) (Q : Exit → Fr → Heap → Prop) (fr : Fr) (h : Heap) : Prop :=
 ∀ E w a, Rel E h w → VRL E w fr a.tmps.toList → a.defers = [] → c.wpIn Fence.wide 0 P (fun e a' w' => PostM E w (Q e) a' w') a w
def AWd (P : Program) (c : Code) (Q : Exit → Fr → Heap → Prop) (fr : Fr) (h : Heap) : Prop :=
 ∀ D E w a, Rel E h w → VRL E w fr a.tmps.toList → a.defers = [mkD D] → c.wpIn Fence.wide 0 P (fun e a' w' => PostD D E w (Q e) a' w') a w
def AOd (P : Program) (ops : Array Oper) (l : List Oper) (K : Fr → Heap → Prop) (fr : Fr) (h : Heap) : Prop :=
 ∀ D E w a, Rel E h w → VRL E w fr a.tmps.toList → a.defers = [mkD D] → ∀ Q, (∀ a' w', PostD D E w K a' w' → Q .normal a' w') → wpListIn Fence.wide 0 P ops Q l a w
theorem PostD.trans {D : Nat} {E E' : Env} {w w' : World} {K : Fr → Heap → Prop} {a'' : Act} {w'' : World} (k : Keep E w E' w') (h : PostD D E' w' K a'' w'') : PostD D E w K a'' w'' :=
 let ⟨E'', fr', h', h1, h2, h3, h4, h5⟩ := h; ⟨E'', fr', h', k.trans h1, h2, h3, h4, h5⟩
theorem PostM.trans {E E' : Env} {w w' : World} {K : Fr → Heap → Prop} {a'' : Act} {w'' : World} (k : Keep E w E' w') (h : PostM E' w' K a'' w'') : PostM E w K a'' w'' := by
 obtain ⟨D, E1, w1, E2, fr', h', n, k1, k2, r, v, d, c, q⟩ := h
 exact ⟨D, E1, w1, E2, fr', h', fun e => n ((k.lockEq D).2 e), k.trans k1, k2, r, v, d, c, q⟩
theorem PostM.mono {E : Env} {w : World} {K K' : Fr → Heap → Prop} {a' : Act} {w' : World} (hk : ∀ fr h, K fr h → K' fr h) (h : PostM E w K a' w') : PostM E w K' a' w' :=
 let ⟨D, E1, w1, E2, fr', h', n, k1, k2, r, v, d, c, q⟩ := h; ⟨D, E1, w1, E2, fr', h', n, k1, k2, r, v, d, c, hk _ _ q⟩
section
variable {P : Program} {Q : Exit → Fr → Heap → Prop} {fr : Fr} {h : Heap} {ops : Array Oper} {K : Fr → Heap → Prop}
theorem AOd_nil (hk : K fr h) : AOd P ops [] K fr h := fun D E w a r v d _ hQ => hQ a w ⟨E, fr, h, Keep.refl E w, r, v, d, hk⟩
theorem AOd_plain {o : Oper} {l : List Oper} (hg : o.guard = none) (hd : nd o.op = true) (ho : AOp P o (fun x h' => AOd P ops l K (fput fr o.dst x) h') fr h) : AOd P ops (o :: l) K fr h := by
 intro D E w a r v d Q hQ
 refine wpListIn_plain hg fun K' hK' => op_in (ro := none) hd (ho E w a r (fun y _ => VR_ev v y) K' Q ?_)
 intro x u w' E' h' k r' vx kx
 refine hK' _ _ (kx D E' w' _ r' (VRL_put _ (VRL_keep k _ _ v) vx) (by rw [put_defers]; exact d) Q ?_)
 intro a' w'' p
 exact hQ _ _ (p.trans k)
theorem AWd_list {id : Nat} {l : List Oper} (hl : AOd P l.toArray l (Q .normal) fr h) : AWd P (.region id l.toArray false) Q fr h :=
 fun D E w a r v d => wpIn_region_lit (hl D E w a r v d _ fun _ _ p => p)
theorem AWd_ret (hq : Q .ret fr h) : AWd P .ret Q fr h := fun D E w a r v d => wpIn_ret ⟨E, fr, h, Keep.refl E w, r, v, d, hq⟩
theorem AWd_seq {x y : Code} (hx : AWd P x (Seq (AWd P y Q) Q) fr h) : AWd P (.seq x y) Q fr h := by
 intro D E w a r v d
 refine wpIn_seq (wpIn_mono (hx D E w a r v d) ?_)
 intro e a' w' p
 cases e with
 | normal =>
  obtain ⟨E', fr', h', k, r', v', d', q⟩ := p
  exact wpIn_mono (q D E' w' a' r' v' d') fun _ _ _ p' => p'.trans k
 | exit id => exact p
 | goto l => exact p
 | ret => exact p
 | panic ch => exact p
 | outgrown => exact p
theorem LeF.awm {c : Code} {fr' : Fr} {h' : Heap} (le : LeF fr' h' fr h) (hc : AWm P c Q fr' h') : AWm P c Q fr h := by
 intro E w a r v d
 obtain ⟨E', k, r', v'⟩ := le E w _ r v
 exact wpIn_mono (hc E' w a r' v' d) fun _ _ _ p => p.trans k
theorem AWm_pre {x y : Code} (hx : AW P x (fun e fr h => e = .normal ∧ AWm P y Q fr h) fr h) : AWm P (.seq x y) Q fr h := by
 intro E w a r v d
 refine wpIn_seq (wpIn_mono (wpIn_wide.2 (hx E w a r v d)) ?_)
 rintro e a' w' ⟨E', fr', h', k, r', v', d', rfl, q⟩
 exact wpIn_mono (q E' w' a' r' v' d') fun _ _ _ p' => p'.trans k
theorem AWm_post {x y : Code} (hx : AWm P x (fun e fr h => e = .normal ∧ AWd P y Q fr h) fr h) : AWm P (.seq x y) Q fr h := by
 intro E w a r v d
 refine wpIn_seq (wpIn_mono (hx E w a r v d) ?_)
 rintro e a' w' ⟨D, E1, w1, E2, fr', h', n, k1, k2, r', v', d', c, rfl, q⟩
 refine wpIn_mono (q D E2 w' a' r' v' d') fun e a'' w'' p' => ?_
 obtain ⟨E3, fr3, h3, k3, r3, v3, d3, q3⟩ := p'
 exact ⟨D, E1, w1, E3, fr3, h3, n, k1, k2.trans k3, r3, v3, d3, (k3.lock D ((k2.lockEq D).2 (.inr rfl))).trans c, q3⟩
theorem AWm_block {id : Nat} {c : Code} (hc : AWm P c (fun e fr h => e = .normal ∧ Q .normal fr h) fr h) : AWm P (.block id c) Q fr h := by
 intro E w a r v d
 refine wpIn_block (wpIn_mono (hc E w a r v d) ?_)
 intro e a' w' p
 have e0 : e = .normal := by
  obtain ⟨D, E1, w1, E2, fr', h', n, k1, k2, r', v', d', c, e0, q⟩ := p
  exact e0
 subst e0
 exact p.mono fun _ _ q => q.2
theorem ACalls_of_AWm {f : FuncId} {fn : Func} {c : Code} {args : List AV} {Q : AV → Heap → Prop} (hf : P.funcs[f]? = some fn) (hb : fn.body = some c)
    (hc : AWm P c (Ret P fn.results.toList Q) (args ++ List.replicate (fn.ntmps - args.length) (.sc undef)) h) : ACalls P f args h Q := by
  intro E w vs r v
  refine callsIn_wide.1 (callsIn_of_wp_marks (n := 0) hf hb trivial ?_)
  have hl : args.length = vs.size := by simpa using VRL_length v
  have hv : VRL E w (args ++ List.replicate (fn.ntmps - args.length) (.sc undef)) (vs ++ Array.replicate (fn.ntmps - vs.size) undef).toList := by
    rw [Array.toList_append, ← hl]
    refine VRL_append v ?_
    have := VRL_sc (E := E) (w := w) (List.replicate (fn.ntmps - args.length) undef)
    simpa using this
  refine wpIn_mono (hc E w { tmps := vs ++ Array.replicate (fn.ntmps - vs.size) undef, defers := [] } r hv rfl) ?_
  intro e a' w' p
  obtain ⟨D, E1, w1, E2, fr', h', n, k1, k2, r', v', d', c, q⟩ := p
  have hD : E2.lock D := (k2.lockEq D).2 (.inr rfl)
  have h1 : ∀ g, E1.lock g → E2.lock g := fun g hg => (k2.lockEq g).2 (.inl hg)
  have r3 : Rel { E2 with lock := E1.lock } h' w' := r'.relock E1.lock (fun k g ha hg => (r'.dis k g ha).1 (h1 g hg)) (fun g hg => r'.lkb g (h1 g hg))
  have k3 : Keep E w { E2 with lock := E1.lock } w' := k1.trans (k2.unlock E1.lock fun g hg => .inl hg)
  obtain ⟨r4, k4⟩ := r3.turnK (ob' := .deferred none) c rfl rfl (fun k ha => (r'.dis k D ha).1 hD) (fun e => n ((k1.lockEq D).1 e))
  have k5 := k3.trans k4
  have v4 : VRL { E2 with lock := E1.lock } (w'.putObj D (.deferred none)) fr' a'.tmps.toList := VRL_keep k4 _ _ (VRL_relock v')
  have fin : ∀ x y h'', resA P h' fr' fn.results.toList = some x → Sub h'' h' → ALe h'' x y → Q y h'' →
      LeavesInM Fence.wide 0 P fn a'.tmps (fun e w' => ∃ v E' x h', e = Ending.returned v ∧ Keep E w E' w' ∧ Rel E' h' w' ∧ VR E' w' x v ∧ Q x h') a'.defers .returning w' := by
    intro x y h'' hx hs hl hq
    rw [d']
    obtain ⟨u, g1, g2⟩ := resA_sound r4 v4 hx
    obtain ⟨E'', k'', r''⟩ := r4.drop hs
    exact ⟨nofun, .inl ⟨D, _, rfl, run_takeDeferred c, u, g1, u, E'', y, h'', rfl, k5.trans k'', r'', hl _ _ _ r'' (VR_keep k'' _ _ g2), hq⟩⟩
  cases e with
  | normal => obtain ⟨x, y, h'', q1, q2, q3, q4⟩ := q; exact fin x y h'' q1 q2 q3 q4
  | ret => obtain ⟨x, y, h'', q1, q2, q3, q4⟩ := q; exact fin x y h'' q1 q2 q3 q4
  | exit id => exact q.elim
  | goto l => exact q.elim
  | panic ch => exact q.elim
  | outgrown => exact q.elim
theorem AWm_range {g : Operand} {ps : Array Tmp} {assign body : Code} {f : FuncId} {caps : List AV} {Kr : Heap → Prop} (hg : ev fr g = .fn (.func f) caps) (hb : bodied P f = true)
    (hit : ∀ (l D : Nat) (rec : Loop), rec.state = .ready → rec.pending = none → rec.params = ps → rec.assign = assign → rec.body = body → ∀ E w (vs : Array Value), Ird l D rec fr E w → Rel E h w → VRL E w (.fn (.yield l) [] :: caps) vs.toList →
      CallsIn Fence.wide 0 P f vs w (fun e w' => ∃ v E' h', e = .returned v ∧ Keep E w E' w' ∧ Rel E' h' w' ∧ Kr h'))
    (hq : ∀ h', Kr h' → Q .normal fr h') : AWm P (.rangeFunc g ps assign body) Q fr h := by
  intro E w a r v d
  have vg := VR_ev v g
  rw [hg] at vg
  simp only [VR] at vg
  obtain ⟨cs, eg, vc⟩ := vg
  refine wpIn_rangeFunc fun fn _ => ?_
  obtain ⟨rec, hrec⟩ : ∃ rec : Loop, rec = { state := .ready, pending := none, fn, tmps := a.tmps, params := ps, assign, body, defers := w.heap.size } := ⟨_, rfl⟩
  obtain ⟨W1, hW1⟩ : ∃ W1, (w.alloc (.deferred (some []))).alloc (.loop rec) = W1 := ⟨_, rfl⟩
  have hL1 : W1.heap[w.heap.size + 1]? = some (.loop rec) := by
    rw [← hW1]; have := World.alloc_heap_new (w.alloc (.deferred (some []))) (.loop rec); rwa [World.size_alloc] at this
  have hK1 : W1.heap[w.heap.size]? = some (.deferred (some [])) := by
    rw [← hW1]
    show ((w.heap.push _).push _)[w.heap.size]? = _
    simp [Array.getElem?_push]
  obtain ⟨ra, ka⟩ := r.more (.deferred (some []))
  obtain ⟨rb, kb⟩ := ra.more (.loop rec)
  rw [hW1] at rb kb
  have kab := ka.trans kb
  have hsz : W1.heap.size = w.heap.size + 2 := by rw [← hW1]; simp
  obtain ⟨L, hL⟩ : ∃ L : Nat → Prop, L = fun g => E.lock g ∨ g = w.heap.size ∨ g = w.heap.size + 1 := ⟨_, rfl⟩
  have hat : ∀ k g, E.at h k g → g < w.heap.size := fun k g ha => r.at_lt ha
  have r1 : Rel { E with lock := L } h W1 := rb.relock L
    (fun k g ha hg => by
      subst hL
      have h1 := hat k g ha
      rcases hg with hg | hg | hg
      · exact (r.dis k g ha).1 hg
      · omega
      · omega)
    (fun g hg => by
      subst hL
      rcases hg with hg | hg | hg
      · have := r.lkb g hg; omega
      · omega
      · omega)
  have v1 : VRL { E with lock := L } W1 fr a.tmps.toList := VRL_relock (VRL_keep kab _ _ v)
  refine ⟨w.heap.size + 1, [mkD w.heap.size], W1, { target := .fn (.func f) cs, args := #[.func (.yield (w.heap.size + 1)) #[] #[]] }, W1, f, #[.func (.yield (w.heap.size + 1)) #[] #[]] ++ cs, W1, ?_, ?_, fun f' _ => trivial, ?_, fun hh => (by cases hh), ?_⟩
  · rw [← hW1, hrec]; exact run_enterLoop_outer _ _ _ _ _
  · simp only [resolve, eg]
    simp [go_sem]
  · simp [invoke, run_callFunc hb]
  · have hI : Ird (w.heap.size + 1) w.heap.size rec fr { E with lock := L } W1 := ⟨by subst hL; exact .inr (.inr rfl), hL1, by subst hL; exact .inr (.inl rfl), hK1, by rw [hrec]; exact v1⟩
    refine (hit _ _ rec (by rw [hrec]) (by rw [hrec]) (by rw [hrec]) (by rw [hrec]) (by rw [hrec]) _ W1 _ hI r1 ?_).mono ?_
    · rw [Array.toList_append]
      refine VRL_append (xs := [.fn (.yield (w.heap.size + 1)) []]) ?_ (VRL_relock (VRL_keep kab _ _ vc))
      simp only [VRL, VR, List.toList_toArray]
      exact ⟨⟨#[], rfl, by simp [VRL]⟩, trivial⟩
    · rintro e W3 ⟨u, E3, h', rfl, k3, r3, kh⟩
      obtain ⟨i1, i2, i3, i4, i5⟩ := Ird.stb _ _ _ _ k3 hI
      refine ⟨none, _, by have := run_endLoop (P := P) i2 (by rw [hrec]; simp); rw [hrec] at this; exact this, ?_⟩
      have hlo : ∀ g, (E.lock g ∨ g = w.heap.size) → L g := fun g hg => by subst hL; exact hg.elim .inl fun e => .inr (.inl e)
      have hlo3 : ∀ g, (E.lock g ∨ g = w.heap.size) → E3.lock g := fun g hg => (k3.lockEq g).2 (hlo g hg)
      have r4 : Rel { E3 with lock := fun g => E.lock g ∨ g = w.heap.size } h' W3 := r3.relock _ (fun k g ha hg => (r3.dis k g ha).1 (hlo3 g hg)) (fun g hg => r3.lkb g (hlo3 g hg))
      have k4 : Keep { E with lock := fun g => E.lock g ∨ g = w.heap.size } W1 { E3 with lock := fun g => E.lock g ∨ g = w.heap.size } W3 := Keep.unlock (E := E) (L := L) _ hlo k3
      obtain ⟨r5, k5⟩ := r4.turnK (ob' := .loop { rec with state := .exhausted }) i2 rfl rfl (fun k ha => (r3.dis k _ ha).1 i1) (fun hh => by
        rcases hh with hh | hh
        · have := r.lkb _ hh; omega
        · omega)
      rw [hrec] at r5 k5
      refine ⟨w.heap.size, E, W1, _, fr, h', fun hh => by have := r.lkb _ hh; omega, kab, k4.trans k5, r5, ?_, by rw [d]; rfl, ?_, hq h' kh⟩
      · have i5' : VRL E3 W3 fr a.tmps.toList := by rw [hrec] at i5; exact i5
        exact VRL_keep k5 _ _ (VRL_relock i5')
      · rw [World.putObj_heap_other (by omega)]; exact i4
end
section
variable {P : Program} {Q : Exit → Fr → Heap → Prop} {h : Heap} {n : Nat}
theorem args_le {args : List AV} {ntm : Nat} (hn : ntm = n) (hle : Nat.ble args.length n = true) : LeF (fm n (argf 0 args).k) h (args ++ List.replicate (ntm - args.length) (.sc undef)) h := by
 have hle := Nat.le_of_ble_eq_true hle
 subst hn
 rw [argf_k]
 refine LeF.of (Sub.refl h) (ALeL_of_get ?_ ?_)
 ·rw [fm_length, List.length_append, List.length_replicate]; omega
 ·intro i x y hx hy
  rw [fm_get] at hy
  split at hy
  ·cases hy
   have e := look_argk (ntm - args.length) 0 args i
   rw [Nat.zero_add] at e
   rw [e]
   by_cases hi : i < args.length
   ·rw [List.getElem?_append_left hi] at hx
    simp only [List.getD, List.getElem?_append_left hi, hx, Option.getD_some]
    exact ALe.refl _ _
   ·simp only [List.getD, List.getElem?_append_right (Nat.le_of_not_lt hi), List.getElem?_replicate]
    split <;> exact ALe.any _ _
  ·cases hy
theorem ACm {f : FuncId} {fn : Func} {c : Code} {args : List AV} {Q : AV → Heap → Prop} (n : Nat) (rs : List ResultVar) (hf : P.funcs[f]? = some fn) (hb : fn.body = some c) (hn : fn.ntmps = n) (hr : fn.results.toList = rs) (hle : Nat.ble args.length n = true)
    (hc : AWm P c (Ret P rs Q) (fm n (argf 0 args).k) h) : ACalls P f args h Q := by
  refine ACalls_of_AWm hf hb ?_
  rw [hr]
  exact (args_le hn hle).awm hc
theorem ACit {I : Env → World → Prop} (hI : Stb I) {f : FuncId} {fn : Func} {c : Code} {args : List AV} {K : Heap → Prop} (n : Nat) (hf : P.funcs[f]? = some fn) (hb : fn.body = some c) (hn : fn.ntmps = n) (hr : fn.results.toList = []) (hle : Nat.ble args.length n = true)
    (hc : AWn I none P c (fun e fr h => (e = .normal ∨ e = .ret) ∧ ∃ h' g, K h' ∧ LeF g h' fr h) (fm n (argf 0 args).k) h) {E : Env} {w : World} {vs : Array Value} (i : I E w) (r : Rel E h w) (v : VRL E w args vs.toList) :
    CallsIn Fence.wide 0 P f vs w (fun e w' => ∃ v E' h', e = .returned v ∧ Keep E w E' w' ∧ Rel E' h' w' ∧ K h') := by
  refine callsIn_wide.2 (calls_of_wp hf hb ?_)
  have hl : args.length = vs.size := by simpa using VRL_length v
  have hv : VRL E w (args ++ List.replicate (fn.ntmps - args.length) (.sc undef)) (vs ++ Array.replicate (fn.ntmps - vs.size) undef).toList := by
    rw [Array.toList_append, ← hl]
    refine VRL_append v ?_
    have := VRL_sc (E := E) (w := w) (List.replicate (fn.ntmps - args.length) undef)
    simpa using this
  refine wp_mono (wpIn_wide.1 ((args_le hn hle).awn hI hc E w { tmps := vs ++ Array.replicate (fn.ntmps - vs.size) undef, defers := [] } i r hv rfl)) ?_
  rintro e a' w' ⟨E1, fr1, h1, k1, r1, v1, d', q, h', fr', kh, le⟩
  obtain ⟨E', k2, r', v'⟩ := le E1 w' _ r1 v1
  have k := k1.trans k2
  have hx : resA P h' fr' fn.results.toList = some (.tup []) := by rw [hr]; rfl
  obtain ⟨u, g1, -⟩ := resA_sound r' v' hx
  rcases q with rfl | rfl
  · exact ⟨d', u, g1, u, E', h', rfl, k, r', kh⟩
  · exact ⟨d', u, g1, u, E', h', rfl, k, r', kh⟩
theorem AWm_v {x y : Code} {f : FR} {L : HL} (hk : HOk h L) (hx : VC P h n x (fun f L => HOk h L → AWm P y Q (fm n f.k) (hp h L)) (fun _ _ _ => False) f L) : AWm P (.seq x y) Q (fm n f.k) (hp h L) := by
 refine AWm_pre ((hx.r hk).mono ?_)
 rintro e fr hh ⟨f', L', hk', le, q⟩
 cases e with
 | normal => exact ⟨rfl, le.awm (q hk')⟩
 | exit i => exact q.elim
 | goto l => exact q.elim
 | ret => exact q.elim
 | panic c => exact q.elim
 | outgrown => exact q.elim
theorem AWn_v {I : Env → World → Prop} (hI : Stb I) {x y : Code} {f : FR} {L : HL} {ke : Exit → FR → HL → Prop} (hk : HOk h L) (hx : VC P h n x (fun f L => HOk h L → AWn I none P y Q (fm n f.k) (hp h L)) ke f L)
    (he : ∀ e f L fr hh, e ≠ .normal → ke e f L → HOk h L → LeF (fm n f.k) (hp h L) fr hh → Q e fr hh) : AWn I none P (.seq x y) Q (fm n f.k) (hp h L) := by
  refine AWn_seq hI (AWn_of ((hx.r hk).mono ?_))
  rintro e fr hh ⟨f', L', hk', le, q⟩
  cases e with
  | normal => exact le.awn hI (q hk')
  | exit i => exact he _ _ _ _ _ (by simp) q hk' le
  | goto l => exact he _ _ _ _ _ (by simp) q hk' le
  | ret => exact he _ _ _ _ _ (by simp) q hk' le
  | panic c => exact he _ _ _ _ _ (by simp) q hk' le
  | outgrown => exact he _ _ _ _ _ (by simp) q hk' le
theorem o_sl3 {α : Type} {c : α → List AV} {xs ys : List α} {dst : Option Tmp} {a lo hi mx : Operand} {t : TypeId} {sz : Nat} {q1 q2 q3 : IntKind} {x y : Int} {kvs : KV} {ty : TypeId} {pos : String} {aft : Array Edge} (hm : slc xs x y = some ys) (hy : decide (0 < y) = true) (ht : elS P t = some sz) (h0 : Nat.blt 0 sz = true) (ha : evk n kvs a = .sl none sz (xs.map c))
    (hl : evk n kvs lo = .sc (.int q1 x)) (hh : evk n kvs hi = .sc (.int q2 y)) (hx : evk n kvs mx = .sc (.int q3 y)) : AOpV P ⟨dst, .slice t a (some lo) (some hi) (some mx), ty, pos, aft, none⟩ (.sl none sz (ys.map c)) (fm n kvs) h := by
  simp only [Nat.blt_eq] at h0
  simp only [decide_eq_true_eq] at hy
  unfold slc at hm
  split at hm
  · rename_i hc
    cases hm
    refine o_pv (c := (sz = sz ∧ 0 < sz) ∧ 0 ≤ x ∧ x ≤ y ∧ y ≤ y ∧ y ≤ (xs.map c).length) ?_ ⟨⟨rfl, h0⟩, hc.1, hc.2.1, Int.le_refl _, by rw [List.length_map]; exact hc.2.2⟩
    have e3 : sl3 (some (AV.sc (.int q1 x))) (.sc (.int q2 y)) (.sc (.int q3 y)) (some sz) (.sl none sz (xs.map c)) = some ((sz = sz ∧ 0 < sz) ∧ 0 ≤ x ∧ x ≤ y ∧ y ≤ y ∧ y ≤ (xs.map c).length, .sl none sz (((xs.take y.toNat).drop x.toNat).map c)) := by
      simp only [sl3, bdA, intA, Option.bind_some]
      rw [List.map_drop, List.map_take]
    obtain ⟨k, hk⟩ : ∃ k : Nat, y = Int.ofNat (k + 1) := ⟨y.toNat - 1, by show y = ((y.toNat - 1 + 1 : Nat) : Int); omega⟩
    show slM (some (ev (fm n kvs) lo)) (ev (fm n kvs) hi) (ev (fm n kvs) mx) (elS P t) (ev (fm n kvs) a) = _
    rw [ev_fm, ev_fm, ev_fm, ev_fm, ha, hl, hh, hx, ht]
    unfold slM
    rw [e3]
    subst hk
    rfl
  · cases hm
end
section
variable {P : Program} {Q : Exit → Fr → Heap → Prop} {h : Heap} {n : Nat} {I : Env → World → Prop} {ro : Option Nat}
theorem LeF.aon {ops : Array Oper} {l : List Oper} {K : Fr → Heap → Prop} {fr fr' : Fr} {h h' : Heap} (hI : Stb I) (le : LeF fr' h' fr h) (hc : AOn I ro P ops l K fr' h') : AOn I ro P ops l K fr h := by
 intro E w a i r v d Q hq hQ
 obtain ⟨E', k, r', v'⟩ := le E w _ r v
 exact hc E' w a (hI _ _ _ _ k i) r' v' d Q hq fun a' w' p => hQ _ _ (p.trans k)
theorem AOps_mono {ops : Array Oper} {l : List Oper} {K K' : Fr → Heap → Prop} {fr : Fr} {h : Heap} (hk : ∀ fr h, K fr h → K' fr h) (hc : AOps P ops l K fr h) : AOps P ops l K' fr h :=
 fun E w a r v d Q hQ => hc E w a r v d Q fun a' w' p => hQ _ _ (p.mono hk)
theorem AWn_pre {T : Tr TI} {w : Bool} (hT : TOk P T) (hI : Stb I) (k : Nat) {id : Nat} {l : List Oper} {f : FR} {L : HL} (hd : ((l.take k).all fun o => nd o.op) = true) (hk : HOk h L)
    (hv : vo false T w P h n l (fun f L => HOk h L → AOn I ro P l.toArray (l.drop k) (Q .normal) (fm n f.k) (hp h L)) (l.take k) f L) : AWn I ro P (.region id l.toArray false) Q (fm n f.k) (hp h L) := by
  refine AWn_list ?_
  have h1 := AOn_of (l := l.take k) (l2 := l.drop k) (ro := ro) (K := Q .normal) hI hd (AOps_mono (fun fr hh q => ?_) (vo_s hT _ f L hv hk))
  · rw [List.take_append_drop] at h1
    exact h1
  · obtain ⟨f', L', hk', le, q⟩ := q
    exact le.aon hI (q hk')
theorem AOn_end {T : Tr TI} {w : Bool} (hT : TOk P T) (hI : Stb I) {l0 l : List Oper} {K : Fr → Heap → Prop} {f : FR} {L : HL} (hq : ∀ fr' h' fr h, LeF fr' h' fr h → K fr' h' → K fr h) (hd : (l.all fun o => nd o.op) = true) (hk : HOk h L)
    (hv : vo false T w P h n l0 (fun f L => HOk h L → K (fm n f.k) (hp h L)) l f L) : AOn I ro P l0.toArray l K (fm n f.k) (hp h L) := by
  have h1 := AOn_of (l := l) (l2 := []) (ro := ro) (K := K) hI hd (AOps_mono (fun fr hh q => ?_) (vo_s hT _ f L hv hk))
  · rw [List.append_nil] at h1
    exact h1
  · obtain ⟨f', L', hk', le, q⟩ := q
    exact AOn_nil (hq _ _ _ _ le (q hk'))
theorem AOn_yieldF {l D p : Nat} {rec : Loop} {fr0 : Fr} {x : AV} {Kr : Heap → Prop} {y b : Operand} {dst : Option Tmp} {ts : Array TypeId} {ty : TypeId} {pos : String} {aft : Array Edge} {l2 : List Oper} {ops : Array Oper} {K : Fr → Heap → Prop} {f : FR}
    (hp : rec.params = #[p]) (hy : evk n f.k y = .fn (.yield l) []) (hx : evk n f.k b = x) (hr : Rnd P l D p rec fr0 x h Kr)
    (k : ∀ h', Kr h' → AOn (Ird l D rec fr0) none P ops l2 K (fm n (f.put dst (.sc (.bool true))).k) h') :
    AOn (Ird l D rec fr0) none P ops (⟨dst, .call { callee := .value y, args := #[b], argTypes := ts }, ty, pos, aft, none⟩ :: l2) K (fm n f.k) h := by
  refine AOn_yield hp (by rw [ev_fm]; exact hy) (by rw [ev_fm]; exact hx) hr fun h' kh => ?_
  rw [fput_fm, ← FR.put_k]
  exact k h' kh
theorem AOp_kfz {K : AV → Heap → Prop} {o : Oper} {h1 h2 : Heap} {t : Nat} {kvs : KV} (v : AV) (hs : Sub h2 h1) (hv : ALe h2 (lk n kvs t) v) (ho : AOp P o K (fm n (kp kvs t v)) h2) : AOp P o K (fm n kvs) h1 := by
 intro E w a r hva Nx Qx hn
 obtain ⟨E', k, r'⟩ := r.drop hs
 refine ho E' w a r' (fun y hy => ?_) Nx Qx fun x u w' E'' h' k' => hn x u w' E'' h' (k.trans k')
 have h1 := VR_keep k _ _ (hva y hy)
 rw [ev_fm] at h1 ⊢
 cases y with
 | tmp s =>
  simp only [evk] at h1 ⊢
  by_cases e : t = s
  ·subst e
   have h3 := hv E' w _ r' h1
   rw [lk_eq]
   split
   ·rw [kp_same]; exact h3
   ·simp only [VR]
  ·rw [lk_eq] at h1 ⊢
   rw [kp_ne _ _ e]; exact h1
 | const v => exact h1
 | global g => exact h1
 | func g => exact h1
theorem AWm_to {x y : Code} {f : FR} (g : FR) (hx : VC P h n x (fun f L => L = [] ∧ LX h n f [] g []) (fun _ _ _ => False) f []) (hy : AWm P y Q (fm n g.k) (hp h [])) : AWm P (.seq x y) Q (fm n f.k) (hp h []) := by
 refine AWm_pre ((hx.r trivial).mono ?_)
 rintro e fr hh ⟨f', L', hk', le, q⟩
 cases e with
 | normal =>
  obtain ⟨rfl, hl⟩ := q
  exact ⟨rfl, (le.trans (hl trivial).2).awm hy⟩
 | exit i => exact q.elim
 | goto l => exact q.elim
 | ret => exact q.elim
 | panic c => exact q.elim
 | outgrown => exact q.elim
theorem AWn_c {x : Code} {f : FR} {L : HL} (hq : ∀ fr' h' fr h, LeF fr' h' fr h → Q .normal fr' h' → Q .normal fr h) (hk : HOk h L) (hx : VC P h n x (fun f L => HOk h L → Q .normal (fm n f.k) (hp h L)) (fun _ _ _ => False) f L) : AWn I none P x Q (fm n f.k) (hp h L) := by
 refine AWn_of ((hx.r hk).mono ?_)
 rintro e fr hh ⟨f', L', hk', le, q⟩
 cases e with
 | normal => exact hq _ _ _ _ le (q hk')
 | exit i => exact q.elim
 | goto l => exact q.elim
 | ret => exact q.elim
 | panic c => exact q.elim
 | outgrown => exact q.elim
end
end Go.Vm
namespace Go.Proofs.YtoomgangpjcaoaaGreat
open Go.Vm
def M113_L0 {β : Type} (p0 : List TItem) (m : Int) (st : β → List TItem → Option β) (s : β) (i : Int) : Option (Lp (β × Int) β) :=
 if (decide (i < (p0.length : Int))) = true then ((slc p0 i (p0.length : Int)).bind fun tl => (slc p0 i (IntKind.wrap .i64 (i + min m (tl.length : Int)))).bind fun row => grd (decide (0 < IntKind.wrap .i64 (i + min m (tl.length : Int)))) ((st s row).bind fun s' => some (.go (s', IntKind.wrap .i64 (i + m))))) else some (.brk (s, i))
def M113 {β : Type} (fuel : Nat) (p0 : List TItem) (m : Int) (st : β → List TItem → Option β) (s0 : β) : Option β := after (loopM (fun s => M113_L0 p0 m st s.1 s.2) fuel (s0, 0)) fun s => some s.1
set_option maxHeartbeats 4000000 in
set_option maxRecDepth 100000 in
theorem W113 {β : Type} {Hs : β → Heap → Prop} {st : β → List TItem → Option β} {fuel : Nat} {p0 : List TItem} {m : Int} {s0 o : β} {k1 k2 : Key} {l D p : Nat} {rec : Loop} {fr0 : Fr} {h : Heap}
 (hp : rec.params = #[p])
 (h1 : ∀ s h, Hs s h → h k1 = some (.obj 33 [.sl none 37 (p0.map c_Item)])) (h2 : ∀ s h, Hs s h → h k2 = some (.obj 3 [.sc (.int .i64 m)]))
 (hr : ∀ s row s' h, st s row = some s' → Hs s h → Rnd Tryz.prog l D p rec fr0 (.sl none 37 (row.map c_Item)) h (Hs s'))
 (hm : M113 fuel p0 m st s0 = some o) (h0 : Hs s0 h) {E : Env} {w : World} {us : Array Value} (hi : Ird l D rec fr0 E w) (r : Rel E h w) (hv : VRL E w [.fn (.yield l) [], .ptr k1 0, .ptr k2 0] us.toList) :
 CallsIn Fence.wide 0 Tryz.prog 113 us w (fun e w' => ∃ v E' h', e = .returned v ∧ Keep E w E' w' ∧ Rel E' h' w' ∧ Hs o h') := by
 refine ACit Ird.stb 31 Tryz.func113 rfl rfl rfl rfl ?_ hi r hv
 unfold M113 at hm
 refine AWn_v Ird.stb (h := h) (L := []) trivial ?_ (ke := fun _ _ _ => False) (fun _ _ _ _ _ _ q => q.elim)
 refine v ?_
 intro _
 refine AWn_block ?_
 obtain ⟨SL, hSL⟩ : ∃ SL : Int → FR, SL = fun i => .c 0 (.fn (.yield l) []) (.c 1 (.ptr k1 0) (.c 2 (.ptr k2 0) (.c 4 (.sc (.int .i64 i)) .nil))) := ⟨_, rfl⟩
 refine AWn_loop Ird.stb (fun m' fr hh => ∃ s i, after (loopM (fun s => M113_L0 p0 m st s.1 s.2) m' (s, i)) (fun s => some s.1) = some o ∧ ∃ h1, Hs s h1 ∧ LeF (fm 31 (SL i).k) h1 fr hh) fuel ⟨s0, 0, hm, h, h0, ?_⟩ ?_
 subst hSL
 exact (lx (h := h) (L := []) (.k4 .nil) trivial).2
 rintro m' fr hh ⟨s, i, hm, h', hs, le⟩
 refine le.awn Ird.stb ?_
 cases m' with
 | zero => cases hm
 | succ m' =>
 simp only [loopM] at hm
 cases hx : M113_L0 p0 m st s i with
 | none => rw [hx] at hm; cases hm
 | some x =>
 rw [hx] at hm
 unfold M113_L0 at hx
 subst hSL
 refine AWn_v Ird.stb (h := h') (L := []) trivial ?_ (ke := fun e _ L => e = .exit 0 ∧ x = .brk (s, i) ∧ L = []) ?_
 refine vs (v (vn (fun _ => Zg _ ld33 rfl (h1 _ _ hs) rfl) (vln ln33 rfl (v ?_))))
 refine vi hx (fun hc hx => ?_) (fun hc hx => ?_)
 refine v ?_
 intro _
 obtain ⟨tl, hx1, hx⟩ := Zc hx
 obtain ⟨row, hx2, hx⟩ := Zc hx
 obtain ⟨hx3, hx⟩ := grd_of hx
 obtain ⟨s', hx4, hx⟩ := Zc hx
 injection hx with hx
 subst hx
 refine AWn_seq Ird.stb (AWn_block ?_)
 refine AWn_v Ird.stb (h := h') (L := []) trivial ?_ (ke := fun _ _ _ => False) (fun _ _ _ _ _ _ q => q.elim)
 refine v (vq (by kernel_rfl) (vn (fun _ => Zg _ ld3 rfl (h2 _ _ hs) rfl) (vn (fun _ => Zg _ ld33 rfl (h1 _ _ hs) rfl) (vn (fun _ => o_slc hx1 el33 rfl rfl rfl rfl) (vln ln33 rfl (vn (fun _ => o_min rfl rfl) ?_))))))
 intro _
 refine AWn_seq Ird.stb ?_
 refine AWn_pre tbk Ird.stb 10 (h := h') (L := []) (w := false) rfl trivial ?_
 refine vn (fun _ => Zg _ ld33 rfl (h1 _ _ hs) rfl) (vn (fun _ => o_sl3 hx2 hx3 el33 rfl rfl rfl rfl rfl) ?_)
 intro _
 refine AOn_yieldF hp rfl rfl (hr _ _ _ _ hx4 hs) fun g2 hs2 => ?_
 refine AOn_end tbk Ird.stb (h := g2) (L := []) (w := false) (fun _ _ _ _ le q => le.awn Ird.stb q) rfl trivial ?_
 intro _
 refine AWn_if (t := false) (by rw [ev_fm]; rfl) nofun fun _ => AWn_skip ?_
 refine AWn_c (h := g2) (L := []) ?_ trivial ?_
 rintro fr' hh' fr hh le ⟨n', hn, s, i, hm, h1, hs, le'⟩
 exact ⟨n', hn, s, i, hm, h1, hs, le.trans le'⟩
 refine v (vn (fun _ => Zg _ ld3 rfl (h2 _ _ hs2) rfl) ?_)
 intro _
 exact ⟨m', Nat.lt_succ_self _, s', _, hm, g2, hs2, (lx (h := g2) (L := []) (.k4 .nil) trivial).2⟩
 refine v ?_
 injection hx with hx
 exact ⟨rfl, hx.symm, rfl⟩
 rintro e f L fr hh - ⟨rfl, rfl, rfl⟩ - le
 cases hm
 exact ⟨.inl rfl, h', _, hs, le⟩
set_option maxHeartbeats 4000000 in
set_option maxRecDepth 100000 in
theorem W70 {p0 : List TItem} {m : Int} (h : Heap) (hm : decide (m < 1) = false) :
 ACalls Tryz.prog 70 [.sl none 37 (List.map c_Item p0), .sc (.int .i64 m)] h (fun r h' => ∃ k1 k2, HOk h [(some k2, .obj 3 [.sc (.int .i64 m)]), (some k1, .obj 33 [.sl none 37 (List.map c_Item p0)])] ∧ r = .fn (.func 113) [.ptr k1 0, .ptr k2 0] ∧ h' = hp h [(some k2, .obj 3 [.sc (.int .i64 m)]), (some k1, .obj 33 [.sl none 37 (List.map c_Item p0)])]) := by
 refine ACv 9 [.tmp 4] Tryz.func70 rfl rfl rfl rfl ?_
 refine v ?_
 refine ve fun hk => a_box hk rfl rfl fun k1 hk3 => qk hk3 rfl ?_
 refine ve fun hk => a_box hk rfl rfl fun k2 hk3 => qk hk3 rfl ?_
 refine vs (vs (v (vl 0 _ ld3 rfl rfl rfl (v (vf hm (v (v (v ?_))))))))
 exact vr fun hk => Ret.of1 (.inl rfl) (rsT _ _ (.fn (.func 113) [.ptr k1 0, .ptr k2 0]) rfl) (Sub.refl _) (ALe.refl _ _) ⟨k1, k2, hk, rfl, rfl⟩
theorem bd70 : bodied Tryz.prog 70 = true := by kernel_rfl
theorem bd113 : bodied Tryz.prog 113 = true := by kernel_rfl
def m28 (p1 : Int) : Int := if (decide (p1 < 1) || decide (64 < p1)) = true then 64 else p1
theorem m28_pos (p1 : Int) : decide (m28 p1 < 1) = false := by
 unfold m28
 split
 rfl
 rename_i h
 simp only [Bool.or_eq_true, decide_eq_true_eq, not_or] at h
 simp only [decide_eq_false_iff_not]
 omega
def s28 (fuel : Nat) (s : List (List TItem)) (row : List TItem) : Option (List (List TItem)) := (M71 fuel row).bind fun r => app s [r]
def M28 (fuel : Nat) (p0 : List TItem) (p1 : Int) : Option (List (List TItem)) := M113 fuel p0 (m28 p1) (s28 fuel) []
section
variable (p0 : List TItem) (m : Int) (k1 k2 k5 : Key)
def L28 (tg : Option Key) (s : List (List TItem)) : HL :=
 [(tg, .tok 33 1 (s.length * 1)), (some k2, .obj 3 [.sc (.int .i64 m)]), (some k1, .obj 33 [.sl none 37 (List.map c_Item p0)]), (some k5, .obj 50 [ow tg 1 (List.map c_s_Item s)])]
def H28 (h : Heap) (s : List (List TItem)) (hh : Heap) : Prop := ∃ tg, (tg = none → s = []) ∧ HOk h (L28 p0 m k1 k2 k5 tg s) ∧ hh = hp h (L28 p0 m k1 k2 k5 tg s)
end
set_option maxHeartbeats 4000000 in
set_option maxRecDepth 100000 in
theorem W28 {fuel : Nat} {p0 : List TItem} {p1 : Int} {o : List (List TItem)} (h : Heap) (hm : M28 fuel p0 p1 = some o) :
 ACalls Tryz.prog 28 [.sl none 37 (List.map c_Item p0), .sc (.int .i64 p1)] h (fun r h' => r = .sl none 1 (List.map c_s_Item o) ∧ h' = h) := by
 unfold M28 at hm
 refine ACm 23 [.tmp 4] Tryz.func28 rfl rfl rfl rfl ?_
 refine AWm_v (h := h) (L := []) trivial ?_
 refine v ?_
 intro _
 obtain ⟨m, em⟩ : ∃ m, m = m28 p1 := ⟨_, rfl⟩
 have hpos := m28_pos p1
 rw [← em] at hm hpos
 refine AWm_to (h := h) (.c 0 (.sl none 37 (List.map c_Item p0)) (.c 1 (.sc (.int .i64 m)) .nil)) ?_ ?_
 refine vs ?_
 rcases Bool.eq_false_or_eq_true (decide (p1 < 1)) with c1 | c1
 refine v (vt c1 ?_)
 rw [c1]
 refine v (v ?_)
 have e64 : m = 64 := by rw [em]; simp [m28, c1]
 subst e64
 exact ⟨rfl, lx (.k2 .nil)⟩
 rcases Bool.eq_false_or_eq_true (decide (64 < p1)) with c2 | c2
 refine v (vf c1 ?_)
 rw [c1]
 refine v (vt c2 (v ?_))
 have e64 : m = 64 := by rw [em]; simp [m28, c1, c2]
 subst e64
 exact ⟨rfl, lx (.k2 .nil)⟩
 refine v (vf c1 ?_)
 rw [c1]
 refine v (vf c2 (v ?_))
 have e64 : m = p1 := by rw [em]; simp [m28, c1, c2]
 subst e64
 exact ⟨rfl, lx (.k2 .nil)⟩
 refine AWm_v (h := h) (L := []) trivial ?_
 refine v ?_
 refine ve fun hk => a_alloc [.sc (.slice none 0 0)] hk zr50 rfl rfl fun k5 hk5 => qk hk5 rfl ?_
 intro hk5
 refine AWm_post ?_
 refine AWm_v (h := h) hk5 ?_
 refine v ?_
 refine ve fun hk => a_call (W70 _ hpos) rfl bd70 rfl ?_
 rintro x h' ⟨k1, k2, hk1, rfl, rfl⟩
 refine qk (HOk_app hk hk1) (hp_app h _ _) ?_
 intro hk
 have le0 := leo (n := 23) (f := .c 15 (.fn (.func 113) [.ptr k1 0, .ptr k2 0]) (.c 14 (.sc (.int .i64 m)) (.c 13 (.sl none 37 (List.map c_Item p0)) (.c 5 (.ptr k5 0) (.c 0 (.sl none 37 (List.map c_Item p0)) (.c 1 (.sc (.int .i64 m)) .nil)))))) (.tok 33 1 (([] : List (List TItem)).length * 1)) 3 [ow none 1 (List.map c_s_Item [])] rfl (.cons (ow_nil _ _) .nil) hk
 obtain ⟨hkL, le0⟩ := le0
 refine le0.awm ?_
 refine AWm_block (AWm_range (by rw [ev_fm]; rfl) bd113 (fun l D rec r1 r2 r3 r4 r5 E w us hi r hv => W113 (Hs := H28 p0 m k1 k2 k5 h) (st := s28 fuel) r3 ?_ ?_ ?_ hm ⟨none, fun _ => rfl, hkL, rfl⟩ hi r hv) ?_)
 rintro s hh ⟨tg, ot, hk, rfl⟩
 exact Zd 2 hk rfl
 rintro s hh ⟨tg, ot, hk, rfl⟩
 exact Zd 1 hk rfl
 rintro s row s' hh hst ⟨tg, ot, hk, rfl⟩
 unfold s28 at hst
 obtain ⟨row', hr1, hst⟩ := Zc hst
 have e6 : ∀ (f : FR) (x : AV), (fm 23 f.k).set 16 x = fm 23 (f.put (some 16) x).k := fun f x => by
   show fput (fm 23 f.k) (some 16) x = _
   rw [fput_fm, FR.put_k]
 refine Rnd.of r1 r2 (fr1 := fm 23 (FR.put (FR.put (.c 15 (.fn (.func 113) [.ptr k1 0, .ptr k2 0]) (.c 14 (.sc (.int .i64 m)) (.c 13 (.sl none 37 (List.map c_Item p0)) (.c 5 (.ptr k5 0) (.c 0 (.sl none 37 (List.map c_Item p0)) (.c 1 (.sc (.int .i64 m)) .nil)))))) (some 16) (.sl none 37 (List.map c_Item row))) (some 6) (.sl none 37 (List.map c_Item row))).k) ?_ ?_
 rw [r4, e6]
 refine AWn_reg rfl ?_
 rw [FR.put_k]
 refine s_v (o_as (.sl none 37 (List.map c_Item row)) rfl) ?_
 refine Zb ⟨rfl, ?_⟩
 rw [FR.put_k]
 exact LeF.rfl'
 rw [r5]
 refine AWn_block (AWn_zreg [(5, some k5, .obj 50 [ow tg 1 (List.map c_s_Item s)])] rfl mixed ⟨fun _ => hp_at 3 hk rfl, trivial⟩ ?_)
 refine z_w 0 rfl (fun S' h' hi hB => Zg (ow tg 1 (List.map c_s_Item s)) ld50 rfl (At.s (InvL.get 0 hi rfl (hB 5 (by kernel_rfl)))) rfl) ?_
 refine z_w 1 rfl (fun S' h' hi hB => o_mv (.sl none 37 (List.map c_Item row)) rfl) ?_
 refine z_e 2 rfl (by kernel_rfl) (a_call (W71 _ hr1) rfl bd71 rfl ?_)
 rintro x h' ⟨t, ot', hk', rfl, rfl⟩
 refine ⟨⟨fun _ => ?_, trivial⟩, ?_⟩
 rw [hp_app]
 exact hp_at 4 (HOk_app hk hk') rfl
 refine z_e 3 rfl (by kernel_rfl) (AOp_kfz (t := 19) (.sl none 37 (List.map c_Item row')) (hp_nil hk') (own_frz0 37 0 ot' hk' rfl) (a_v (o_lit (List.map c_s_Item [row']) et50 rfl rfl rfl rfl) ⟨⟨fun _ => hp_at 3 hk rfl, trivial⟩, ?_⟩))
 refine z_e 4 rfl (by kernel_rfl) (a_app (c := c_s_Item) 0 hst et50 rfl rfl rfl ot hk rfl fun tg' ot' hk' => ⟨⟨fun _ => hp_at 3 hk' rfl, trivial⟩, ?_⟩)
 refine z_e 5 rfl (by kernel_rfl) (a_store 3 ([ow tg' 1 (List.map c_s_Item s')]) hk' rfl rfl (cellsOf_ow rfl) (all_ow _ _ _) sz50 rfl rfl fun hk'' => ⟨⟨fun e => absurd e (by decide), trivial⟩, ?_⟩)
 exact z_nil (by kernel_rfl) ⟨rfl, _, _, ⟨tg', ot', hk'', rfl⟩, LeF.rfl'⟩
 rintro hh ⟨tg, ot, hk, rfl⟩
 refine ⟨rfl, rfl, ?_⟩
 refine AWd_seq (AWd_list ?_)
 refine AOd_plain rfl rfl (a_v (Zg (ow tg 1 (List.map c_s_Item o)) ld50 rfl (Zd 3 hk rfl) rfl) ?_)
 rw [fput_fm]
 refine AOd_plain rfl rfl (a_v (o_as (ow tg 1 (List.map c_s_Item o)) rfl) ?_)
 rw [fput_fm]
 refine AOd_nil ?_
 refine AWd_ret ?_
 exact Ret.of1 (.inl rfl) (rsT _ _ (ow tg 1 (List.map c_s_Item o)) rfl) (hp_sub (List.nil_sublist _) hk).1 (own_frz0 1 0 ot hk rfl) ⟨rfl, rfl⟩
theorem bd28 : bodied Tryz.prog 28 = true := by kernel_rfl
def M27 (fuel : Nat) : Option (Bool) :=
 (M28 fuel ([({ Kind := 0, Id := idZ, Seq := 1, Of := 0, Off := 0, Len := 0 } : TItem), ({ Kind := 0, Id := idZ, Seq := 2, Of := 0, Off := 0, Len := 0 } : TItem), ({ Kind := 0, Id := idZ, Seq := 3, Of := 0, Off := 0, Len := 0 } : TItem)] : List TItem) 2).bind fun y3 => after (if ((y3.length : Int) == 2) = true then ((ix y3 0).bind fun x0 => if ((x0.length : Int) == 2) = true then ((ix y3 1).bind fun x1 => if ((x1.length : Int) == 1) = true then ((ix y3 1).bind fun x2 => (ix x2 0).bind fun x3 => some (.brk (x3.Seq == 3))) else some (.brk false)) else some (.brk false)) else some (.brk false) : Option (Lp (Bool) (Bool))) fun j0 => some j0
set_option maxHeartbeats 4000000 in
set_option maxRecDepth 100000 in
theorem W27 {fuel : Nat} {o : Bool} (h : Heap) (hm : M27 fuel = some o) :
 ACalls Tryz.prog 27 [] h (fun r h' => r = .sc (.bool o) ∧ h' = h) := by
 refine ACv 33 [.tmp 0] Tryz.func27 rfl rfl rfl rfl ?_
 unfold M27 at hm
 refine v (v (vn (fun _ => o_bld (c_Item ({ Kind := 0, Id := idZ, Seq := 1, Of := 0, Off := 0, Len := 0 } : TItem)) bt38 rfl) (vn (fun _ => o_bld (c_Item ({ Kind := 0, Id := idZ, Seq := 2, Of := 0, Off := 0, Len := 0 } : TItem)) bt38 rfl) (vn (fun _ => o_bld (c_Item ({ Kind := 0, Id := idZ, Seq := 3, Of := 0, Off := 0, Len := 0 } : TItem)) bt38 rfl) (vn (fun _ => o_lit (List.map c_Item ([({ Kind := 0, Id := idZ, Seq := 1, Of := 0, Off := 0, Len := 0 } : TItem), ({ Kind := 0, Id := idZ, Seq := 2, Of := 0, Off := 0, Len := 0 } : TItem), ({ Kind := 0, Id := idZ, Seq := 3, Of := 0, Off := 0, Len := 0 } : TItem)] : List TItem)) et33 rfl rfl rfl rfl) ?_)))))
 refine vk W28 bd28 hm rfl rfl fun _ hm => ?_
 refine vs ?_
 refine vjnH hm (σ := Bool) (τ := Unit) (fun g s => []) (fun g s => .c 0 (.sc (.bool s)) .nil) (fun x hm => ?_) ?_
 refine v (vln ln50 rfl ?_)
 refine vi hm (fun hb0 hm => ?_) fun hb0 hm => ?_
 rw [hb0]
 refine vx hm el50 rfl rfl fun _ _ hm => ?_
 refine vln ln33 rfl ?_
 refine vi hm (fun hb1 hm => ?_) fun hb1 hm => ?_
 rw [hb1]
 refine vx hm el50 rfl rfl fun _ _ hm => ?_
 refine vln ln33 rfl ?_
 refine vi hm (fun hb2 hm => ?_) fun hb2 hm => ?_
 rw [hb2]
 refine vx hm el50 rfl rfl fun _ _ hm => ?_
 refine vx hm el33 rfl rfl fun _ _ hm => ?_
 exact vgo hm () trivial (lx (.cons (ALe.refl _ _) .nil))
 rw [hb2]
 exact vgo hm () trivial (lx (.cons (ALe.refl _ _) .nil))
 rw [hb1]
 exact vgo hm () trivial (lx (.cons (ALe.refl _ _) .nil))
 rw [hb0]
 exact vgo hm () trivial (lx (.cons (ALe.refl _ _) .nil))
 rintro _ j0 hm
 refine v ?_
 injection hm with hm; subst hm
 exact vr1 rfl
theorem bd27 : bodied Tryz.prog 27 = true := by kernel_rfl
open Go.Vm
def M17 (fuel : Nat) (p0 : TCatalog) (p1 : Int) : Option ((List TItem)) :=
 after (if (decide (p1 < 0)) = true then (some (.brk true)) else if (decide (1 < p1)) = true then (some (.brk true)) else (M31 fuel p0).bind fun y0 => some (.brk (y0 != 0)) : Option (Lp (Bool) ((List TItem)))) fun j0 => if j0 = true then (some []) else (M50 fuel p0 (fun x0 x1 => M51 fuel x0 x1 p0 p1)).bind fun y1 => some y1
set_option maxHeartbeats 4000000 in
set_option maxRecDepth 100000 in
theorem W17 {fuel : Nat} {p0 : TCatalog} {p1 : Int} {o : (List TItem)} (h : Heap) (hm : M17 fuel p0 p1 = some o) :
 ACalls Tryz.prog 17 [.agg (c_Catalog p0), .sc (.int .i64 p1)] h (fun r h' => r = .sl none 37 (List.map c_Item o) ∧ h' = h) := by
 refine ACv 19 [.tmp 4] Tryz.func17 rfl rfl rfl rfl ?_
 unfold M17 at hm
 refine v ?_
 refine ve fun hk => a_box hk rfl rfl fun k2 hk3 => qk hk3 rfl ?_
 refine ve fun hk => a_box hk rfl rfl fun k5 hk6 => qk hk6 rfl ?_
 refine vs (vs ?_)
 refine vjnH hm (σ := Bool) (τ := Unit) (fun g s => [(some k5, .obj 3 (c_i64 p1)), (some k2, .obj 30 (c_Catalog p0))]) (fun g s => .c 2 (.ptr k2 0) (.c 3 (.ptr k5 0) (.c 15 (.sc (.bool s)) .nil))) (fun x hm => ?_) ?_
 refine v (vl 0 _ ld3 rfl rfl rfl ?_)
 refine vi hm (fun hb0 hm => ?_) fun hb0 hm => ?_
 rw [hb0]
 exact vgo hm () trivial (lx (.k3 .nil))
 rw [hb0]
 refine vl 0 _ ld3 rfl rfl rfl ?_
 refine vi hm (fun hb1 hm => ?_) fun hb1 hm => ?_
 rw [hb1]
 exact vgo hm () trivial (lx (.k3 .nil))
 rw [hb1]
 refine vl 1 (.agg (c_Catalog p0)) ld30 rfl rfl rfl ?_
 refine vk W31 bd31 hm rfl rfl fun _ hm => ?_
 exact vgo hm () trivial (lx (.k3 .nil))
 rintro _ j0 hm
 refine v ?_
 refine vi hm (fun hc0 hm => ?_) fun hc0 hm => ?_
 refine v (v ?_)
 cases hm
 exact vr fun hk => Ret.of1 (.inl rfl) (rsT _ _ (.sc (.slice _ _ _)) rfl) (hp_sub (List.nil_sublist _) hk).1 (nil_lem _) ⟨rfl, rfl⟩
 refine v (v (vl 1 (.agg (c_Catalog p0)) ld30 rfl rfl rfl ?_))
 obtain ⟨_, hy0, hm⟩ := Zc hm
 refine vn (fun hk => o_call (W50 _ bd51 (fun _ _ o h0 hs ho => W51 _ (hs _ _ (Zd 1 hk rfl)) (hs _ _ (Zd 0 hk rfl)) ho) hy0) rfl bd50 rfl) (v ?_)
 injection hm with hm; subst hm
 exact vr1 rfl
theorem bd17 : bodied Tryz.prog 17 = true := by kernel_rfl
def M107_L0 (fuel : Nat) (p0 : TCatalog) (p1 : List TLoc) (p2 : Int) (q0 : Int) : Option (Lp (Int) (Bool)) :=
 if (decide (q0 < (p1.length : Int))) = true then (after ((ix p1 q0).bind fun x0 => if (decide (0 ≤ x0.Vol)) = true then ((ix p1 q0).bind fun x1 => if (decide (x1.Vol < (p0.Vols.length : Int))) = true then ((ix p1 q0).bind fun x2 => (ix p0.Vols x2.Vol).bind fun x3 => some (.brk (x3.Pool == p2))) else some (.brk false)) else some (.brk false) : Option (Lp (Bool) (Lp (Int) (Bool)))) fun j0 => if j0 = true then (some (.ret true)) else some (.go (IntKind.wrap .i64 (q0 + 1)))) else some (.brk q0)
def M107 (fuel : Nat) (p0 : TCatalog) (p1 : List TLoc) (p2 : Int) : Option (Bool) :=
 after (loopM (fun s => M107_L0 fuel p0 p1 p2 s) fuel 0) fun r0 => some false
set_option maxHeartbeats 4000000 in
set_option maxRecDepth 100000 in
theorem W107 {fuel : Nat} {p0 : TCatalog} {p1 : List TLoc} {p2 : Int} {o : Bool} (h : Heap) (hm : M107 fuel p0 p1 p2 = some o) :
 ACalls Tryz.prog 107 [.agg (c_Catalog p0), .sl none 4 (List.map c_Loc p1), .sc (.int .i64 p2)] h (fun r h' => r = .sc (.bool o) ∧ h' = h) := by
 refine ACv 45 [.tmp 6] Tryz.func107 rfl rfl rfl rfl ?_
 unfold M107 at hm
 refine v ?_
 refine ve fun hk => a_box hk rfl rfl fun k2 hk3 => qk hk3 rfl ?_
 refine v ?_
 refine vlpH hm (σ := Int) (τ := Unit) (fun g s => [(some k2, .obj 30 (c_Catalog p0))]) (fun g s => .c 1 (.sl none 4 (List.map c_Loc p1)) (.c 2 (.sc (.int .i64 p2)) (.c 3 (.ptr k2 0) (.c 7 (.sc (.int .i64 s)) .nil)))) () (lx (.k4 .nil)) ?_ ?_
 rintro _ q0 x hm
 replace hm : M107_L0 fuel p0 p1 p2 q0 = some x := hm
 unfold M107_L0 at hm
 refine v (vln ln42 rfl (v ?_))
 refine vi hm (fun hc0 hm => ?_) fun hc0 hm => ?_
 refine v (v (vs ?_))
 refine vjnH hm (σ := Bool) (τ := Unit) (fun g s => [(some k2, .obj 30 (c_Catalog p0))]) (fun g s => .c 1 (.sl none 4 (List.map c_Loc p1)) (.c 2 (.sc (.int .i64 p2)) (.c 3 (.ptr k2 0) (.c 7 (.sc (.int .i64 q0)) (.c 44 (.sc (.bool s)) .nil))))) (fun x hm => ?_) ?_
 refine v (vq (by kernel_rfl) ?_)
 refine vx hm el42 rfl rfl fun _ _ hm => ?_
 refine vi hm (fun hb0 hm => ?_) fun hb0 hm => ?_
 rw [hb0]
 refine vx hm el42 rfl rfl fun _ _ hm => ?_
 refine vl 0 _ ld28 rfl rfl rfl (vln ln28 rfl ?_)
 refine vi hm (fun hb1 hm => ?_) fun hb1 hm => ?_
 rw [hb1]
 refine vl 0 _ ld28 rfl rfl rfl ?_
 refine vx hm el42 rfl rfl fun _ _ hm => ?_
 refine vx hm el28 rfl rfl fun _ _ hm => ?_
 exact vgo hm () trivial (lx (.k5 .nil))
 rw [hb1]
 exact vgo hm () trivial (lx (.k5 .nil))
 rw [hb0]
 exact vgo hm () trivial (lx (.k5 .nil))
 rintro _ j0 hm
 refine v ?_
 refine vi hm (fun hc1 hm => ?_) fun hc1 hm => ?_
 refine v (v ?_)
 refine vrt hm fun hm => ?_
 injection hm with hm; subst hm
 exact vr1 rfl
 refine v (v ?_)
 exact vgo hm () trivial (lx (.k4 .nil))
 refine v ?_
 exact vbk hm () trivial (lx (.k4 .nil))
 rintro _ r0 hm
 refine v (v ?_)
 injection hm with hm; subst hm
 exact vr1 rfl
theorem bd107 : bodied Tryz.prog 107 = true := by kernel_rfl
def M52 (fuel : Nat) (p0 : TCatalog) (p1 : List TLoc) (p2 : Int) : Option (Bool) :=
 after ((M107 fuel p0 p1 p2).bind fun y0 => if (!y0) = true then (if (p2 == 0) = true then (some (.brk true)) else (M107 fuel p0 p1 0).bind fun y1 => some (.brk y1)) else some (.brk false) : Option (Lp (Bool) (Bool))) fun j0 => some j0
set_option maxHeartbeats 4000000 in
set_option maxRecDepth 100000 in
theorem W52 {fuel : Nat} {p0 : TCatalog} {p1 : List TLoc} {p2 : Int} {o : Bool} (h : Heap) (hm : M52 fuel p0 p1 p2 = some o) :
 ACalls Tryz.prog 52 [.agg (c_Catalog p0), .sl none 4 (List.map c_Loc p1), .sc (.int .i64 p2)] h (fun r h' => r = .sc (.bool o) ∧ h' = h) := by
 refine ACv 21 [.tmp 6] Tryz.func52 rfl rfl rfl rfl ?_
 unfold M52 at hm
 refine v ?_
 refine ve fun hk => a_box hk rfl rfl fun k2 hk3 => qk hk3 rfl ?_
 refine vs ?_
 refine vjnH hm (σ := Bool) (τ := Unit) (fun g s => [(some k2, .obj 30 (c_Catalog p0))]) (fun g s => .c 6 (.sc (.bool s)) .nil) (fun x hm => ?_) ?_
 refine v (vl 0 (.agg (c_Catalog p0)) ld30 rfl rfl rfl ?_)
 refine vk W107 bd107 hm rfl rfl fun _ hm => ?_
 refine vi hm (fun hb0 hm => ?_) fun hb0 hm => ?_
 rw [hb0]
 refine vi hm (fun hb1 hm => ?_) fun hb1 hm => ?_
 rw [hb1]
 exact vgo hm () trivial (lx (.cons (ALe.refl _ _) .nil))
 rw [hb1]
 refine vl 0 (.agg (c_Catalog p0)) ld30 rfl rfl rfl ?_
 refine vk W107 bd107 hm rfl rfl fun _ hm => ?_
 exact vgo hm () trivial (lx (.cons (ALe.refl _ _) .nil))
 rw [hb0]
 exact vgo hm () trivial (lx (.cons (ALe.refl _ _) .nil))
 rintro _ j0 hm
 refine v ?_
 injection hm with hm; subst hm
 exact vr1 rfl
theorem bd52 : bodied Tryz.prog 52 = true := by kernel_rfl
def M19_L0 (fuel : Nat) (p0 : TCatalog) (p1 : Int) (q0 : List TItem) (q1 : Int) : Option (Lp ((List TItem) × Int) ((List TItem))) :=
 if (decide (q1 < (p0.Chunks.length : Int))) = true then (after ((ix p0.Chunks q1).bind fun x0 => (M38 fuel p0 x0.Id).bind fun y0 => if y0 = true then ((ix p0.Chunks q1).bind fun x1 => (M52 fuel p0 x1.Locs p1).bind fun y1 => some (.brk y1)) else some (.brk false) : Option (Lp (Bool) (Lp ((List TItem) × Int) ((List TItem))))) fun j0 => after (if j0 = true then ((ix p0.Chunks q1).bind fun x2 => (app q0 ([({ Kind := 1, Id := x2.Id, Seq := 0, Of := 0, Off := 0, Len := 0 } : TItem)] : List TItem)).bind fun z0 => some (.brk z0)) else some (.brk q0) : Option (Lp ((List TItem)) (Lp ((List TItem) × Int) ((List TItem))))) fun j1 => some (.go (j1, IntKind.wrap .i64 (q1 + 1)))) else some (.brk (q0, q1))
def M19_L2 (fuel : Nat) (p0 : TCatalog) (p1 : Int) (q0 : List TItem) (q1 : Int) : Option (Lp ((List TItem) × Int) ((List TItem))) :=
 if (decide (q1 < (p0.Snaps.length : Int))) = true then ((ix p0.Snaps q1).bind fun x0 => (M52 fuel p0 x0.Locs p1).bind fun y0 => after (if y0 = true then ((ix p0.Snaps q1).bind fun x1 => (app q0 ([({ Kind := 2, Id := idZ, Seq := x1.Seq, Of := 0, Off := 0, Len := 0 } : TItem)] : List TItem)).bind fun z0 => some (.brk z0)) else some (.brk q0) : Option (Lp ((List TItem)) (Lp ((List TItem) × Int) ((List TItem))))) fun j0 => some (.go (j0, IntKind.wrap .i64 (q1 + 1)))) else some (.brk (q0, q1))
def M19_L4 (fuel : Nat) (p0 : TCatalog) (p1 : Int) (q0 : List TItem) (q1 : Int) : Option (Lp ((List TItem) × Int) ((List TItem))) :=
 if (decide (q1 < (p0.Exps.length : Int))) = true then ((ix p0.Exps q1).bind fun x0 => (M52 fuel p0 x0.Locs p1).bind fun y0 => after (if y0 = true then ((ix p0.Exps q1).bind fun x1 => (ix p0.Exps q1).bind fun x2 => (app q0 ([({ Kind := 3, Id := idZ, Seq := x1.Seq, Of := x2.Of, Off := 0, Len := 0 } : TItem)] : List TItem)).bind fun z0 => some (.brk z0)) else some (.brk q0) : Option (Lp ((List TItem)) (Lp ((List TItem) × Int) ((List TItem))))) fun j0 => some (.go (j0, IntKind.wrap .i64 (q1 + 1)))) else some (.brk (q0, q1))
def M19 (fuel : Nat) (p0 : TCatalog) (p1 : Int) : Option ((List TItem)) :=
 after (if (p1 != 0) = true then (some (.brk (p1 != 1))) else some (.brk false) : Option (Lp (Bool) ((List TItem)))) fun j9 => if j9 = true then (some []) else after (loopM (fun s => M19_L0 fuel p0 p1 s.1 s.2) fuel ([], 0)) fun ⟨r0, r1⟩ => after (loopM (fun s => M19_L2 fuel p0 p1 s.1 s.2) fuel (r0, 0)) fun ⟨r2, r3⟩ => after (loopM (fun s => M19_L4 fuel p0 p1 s.1 s.2) fuel (r2, 0)) fun ⟨r4, r5⟩ => some r4
set_option maxHeartbeats 4000000 in
set_option maxRecDepth 100000 in
theorem W19 {fuel : Nat} {p0 : TCatalog} {p1 : Int} {o : (List TItem)} (h : Heap) (hm : M19 fuel p0 p1 = some o) :
 ACalls Tryz.prog 19 [.agg (c_Catalog p0), .sc (.int .i64 p1)] h (fun r h' => r = .sl none 37 (List.map c_Item o) ∧ h' = h) := by
 refine ACv 110 [.tmp 4] Tryz.func19 rfl rfl rfl rfl ?_
 unfold M19 at hm
 refine v ?_
 refine ve fun hk => a_box hk rfl rfl fun k2 hk3 => qk hk3 rfl ?_
 refine v (vs (vs ?_))
 refine vjnH hm (σ := Bool) (τ := Unit) (fun g s => [(some k2, .obj 30 (c_Catalog p0))]) (fun g s => .c 1 (.sc (.int .i64 p1)) (.c 2 (.ptr k2 0) (.c 5 (.sc (.slice none 0 0)) (.c 14 (.sc (.bool s)) .nil)))) (fun x hm => ?_) ?_
 refine v ?_
 refine vi hm (fun hb0 hm => ?_) fun hb0 hm => ?_
 rw [hb0]
 exact vgo hm () trivial (lx (.k4 .nil))
 rw [hb0]
 exact vgo hm () trivial (lx (.k4 .nil))
 rintro _ j9 hm
 refine v ?_
 refine vi hm (fun hc0 hm => ?_) fun hc0 hm => ?_
 refine v (v ?_)
 cases hm
 exact vr fun hk => Ret.of1 (.inl rfl) (rsT _ _ (.sc (.slice _ _ _)) rfl) (hp_sub (List.nil_sublist _) hk).1 (nil_lem _) ⟨rfl, rfl⟩
 refine v (v (vle (lno (.tok 38 37 (([] : List TItem).length * 37)) 5 (ow none 37 (List.map c_Item [])) (ow_nil _ _)) ?_))
 refine vlp hm (σ := (List TItem) × Int) (τ := Option Key) (fun g s => [(g, .tok 38 37 ((s.1 : List TItem).length * 37)), (some k2, .obj 30 (c_Catalog p0))]) (fun g s => (g = none → s.1 = [])) (fun g s => .c 1 (.sc (.int .i64 p1)) (.c 2 (.ptr k2 0) (.c 5 (ow g 37 (List.map c_Item s.1)) (.c 6 (.sc (.int .i64 s.2)) .nil)))) none (fun _ => rfl) (lx (.k4 .nil)) ?_ ?_
 rintro tg0 ⟨q0, q1⟩ x ot0 hm
 replace hm : M19_L0 fuel p0 p1 q0 q1 = some x := hm
 unfold M19_L0 at hm
 refine v (vl 1 _ ld26 rfl rfl rfl (vln ln26 rfl (v ?_)))
 refine vi hm (fun hc1 hm => ?_) fun hc1 hm => ?_
 refine v (v (vs ?_))
 refine vjnH hm (σ := Bool) (τ := Unit) (fun g s => [(tg0, .tok 38 37 ((q0 : List TItem).length * 37)), (some k2, .obj 30 (c_Catalog p0))]) (fun g s => .c 1 (.sc (.int .i64 p1)) (.c 2 (.ptr k2 0) (.c 5 (ow tg0 37 (List.map c_Item q0)) (.c 6 (.sc (.int .i64 q1)) (.c 40 (.sc (.bool s)) .nil))))) (fun x hm => ?_) ?_
 refine v (vq (by kernel_rfl) (vl 1 (.agg (c_Catalog p0)) ld30 rfl rfl rfl (vl 1 _ ld26 rfl rfl rfl ?_)))
 refine vx hm el26 rfl rfl fun x0 _ hm => ?_
 refine va (.agg (c_id x0.Id)) ld36 rfl rfl ?_
 refine vk W38 bd38 hm rfl rfl fun _ hm => ?_
 refine vi hm (fun hb1 hm => ?_) fun hb1 hm => ?_
 rw [hb1]
 refine vl 1 (.agg (c_Catalog p0)) ld30 rfl rfl rfl (vl 1 _ ld26 rfl rfl rfl ?_)
 refine vx hm el26 rfl rfl fun _ _ hm => ?_
 refine vk W52 bd52 hm rfl rfl fun _ hm => ?_
 exact vgo hm () trivial (lx (.k5 .nil))
 rw [hb1]
 exact vgo hm () trivial (lx (.k5 .nil))
 rintro _ j0 hm
 refine vjn hm (σ := (List TItem)) (τ := Option Key) (fun g s => [(g, .tok 38 37 ((s : List TItem).length * 37)), (some k2, .obj 30 (c_Catalog p0))]) (fun g s => (g = none → s = [])) (fun g s => .c 1 (.sc (.int .i64 p1)) (.c 2 (.ptr k2 0) (.c 5 (ow g 37 (List.map c_Item s)) (.c 6 (.sc (.int .i64 q1)) .nil)))) (fun x hm => ?_) ?_
 refine v ?_
 refine vi hm (fun hc2 hm => ?_) fun hc2 hm => ?_
 refine v (vl 1 _ ld26 rfl rfl rfl ?_)
 refine vx hm el26 rfl rfl fun x1 _ hm => ?_
 refine va (.agg (c_id x1.Id)) ld36 rfl rfl (vn (fun _ => o_bld (c_Item ({ Kind := 1, Id := x1.Id, Seq := 0, Of := 0, Off := 0, Len := 0 } : TItem)) bt38 rfl) (vn (fun _ => o_lit (List.map c_Item ([({ Kind := 1, Id := x1.Id, Seq := 0, Of := 0, Off := 0, Len := 0 } : TItem)] : List TItem)) et33 rfl rfl rfl rfl) ?_))
 obtain ⟨z0, hz0, hm⟩ := Zc hm
 refine ve fun hk => a_app (c := c_Item) 0 hz0 et33 rfl rfl rfl ot0 hk rfl fun tg1 ot1 hk0 => qk hk0 rfl ?_
 exact vgo hm tg1 ot1 (lx (.k4 .nil))
 refine v ?_
 exact vgo hm tg0 ot0 (lx (.k4 .nil))
 rintro tg2 j1 ot2 hm
 refine v ?_
 exact vgo hm tg2 ot2 (lx (.k4 .nil))
 refine v ?_
 exact vbk hm tg0 ot0 (lx (.k4 .nil))
 rintro tg3 ⟨r0, r1⟩ ot3 hm
 refine v ?_
 refine vlp hm (σ := (List TItem) × Int) (τ := Option Key) (fun g s => [(g, .tok 38 37 ((s.1 : List TItem).length * 37)), (some k2, .obj 30 (c_Catalog p0))]) (fun g s => (g = none → s.1 = [])) (fun g s => .c 1 (.sc (.int .i64 p1)) (.c 2 (.ptr k2 0) (.c 5 (ow g 37 (List.map c_Item s.1)) (.c 7 (.sc (.int .i64 s.2)) .nil)))) tg3 ot3 (lx (.k4 .nil)) ?_ ?_
 rintro tg4 ⟨q2, q3⟩ x ot4 hm
 replace hm : M19_L2 fuel p0 p1 q2 q3 = some x := hm
 unfold M19_L2 at hm
 refine v (vl 1 _ ld25 rfl rfl rfl (vln ln25 rfl (v ?_)))
 refine vi hm (fun hc3 hm => ?_) fun hc3 hm => ?_
 refine v (v (v (vq (by kernel_rfl) (vl 1 (.agg (c_Catalog p0)) ld30 rfl rfl rfl (vl 1 _ ld25 rfl rfl rfl ?_)))))
 refine vx hm el25 rfl rfl fun _ _ hm => ?_
 refine vk W52 bd52 hm rfl rfl fun _ hm => ?_
 refine vjn hm (σ := (List TItem)) (τ := Option Key) (fun g s => [(g, .tok 38 37 ((s : List TItem).length * 37)), (some k2, .obj 30 (c_Catalog p0))]) (fun g s => (g = none → s = [])) (fun g s => .c 1 (.sc (.int .i64 p1)) (.c 2 (.ptr k2 0) (.c 5 (ow g 37 (List.map c_Item s)) (.c 7 (.sc (.int .i64 q3)) .nil)))) (fun x hm => ?_) ?_
 refine v ?_
 refine vi hm (fun hc4 hm => ?_) fun hc4 hm => ?_
 refine v (vl 1 _ ld25 rfl rfl rfl ?_)
 refine vx hm el25 rfl rfl fun x2 _ hm => ?_
 refine vn (fun _ => o_bld (c_Item ({ Kind := 2, Id := idZ, Seq := x2.Seq, Of := 0, Off := 0, Len := 0 } : TItem)) bt38 rfl) (vn (fun _ => o_lit (List.map c_Item ([({ Kind := 2, Id := idZ, Seq := x2.Seq, Of := 0, Off := 0, Len := 0 } : TItem)] : List TItem)) et33 rfl rfl rfl rfl) ?_)
 obtain ⟨z1, hz1, hm⟩ := Zc hm
 refine ve fun hk => a_app (c := c_Item) 0 hz1 et33 rfl rfl rfl ot4 hk rfl fun tg5 ot5 hk1 => qk hk1 rfl ?_
 exact vgo hm tg5 ot5 (lx (.k4 .nil))
 refine v ?_
 exact vgo hm tg4 ot4 (lx (.k4 .nil))
 rintro tg6 j2 ot6 hm
 refine v ?_
 exact vgo hm tg6 ot6 (lx (.k4 .nil))
 refine v ?_
 exact vbk hm tg4 ot4 (lx (.k4 .nil))
 rintro tg7 ⟨r2, r3⟩ ot7 hm
 refine v ?_
 refine vlp hm (σ := (List TItem) × Int) (τ := Option Key) (fun g s => [(g, .tok 38 37 ((s.1 : List TItem).length * 37)), (some k2, .obj 30 (c_Catalog p0))]) (fun g s => (g = none → s.1 = [])) (fun g s => .c 1 (.sc (.int .i64 p1)) (.c 2 (.ptr k2 0) (.c 5 (ow g 37 (List.map c_Item s.1)) (.c 8 (.sc (.int .i64 s.2)) .nil)))) tg7 ot7 (lx (.k4 .nil)) ?_ ?_
 rintro tg8 ⟨q4, q5⟩ x ot8 hm
 replace hm : M19_L4 fuel p0 p1 q4 q5 = some x := hm
 unfold M19_L4 at hm
 refine v (vl 1 _ ld27 rfl rfl rfl (vln ln27 rfl (v ?_)))
 refine vi hm (fun hc5 hm => ?_) fun hc5 hm => ?_
 refine v (v (v (vq (by kernel_rfl) (vl 1 (.agg (c_Catalog p0)) ld30 rfl rfl rfl (vl 1 _ ld27 rfl rfl rfl ?_)))))
 refine vx hm el27 rfl rfl fun _ _ hm => ?_
 refine vk W52 bd52 hm rfl rfl fun _ hm => ?_
 refine vjn hm (σ := (List TItem)) (τ := Option Key) (fun g s => [(g, .tok 38 37 ((s : List TItem).length * 37)), (some k2, .obj 30 (c_Catalog p0))]) (fun g s => (g = none → s = [])) (fun g s => .c 1 (.sc (.int .i64 p1)) (.c 2 (.ptr k2 0) (.c 5 (ow g 37 (List.map c_Item s)) (.c 8 (.sc (.int .i64 q5)) .nil)))) (fun x hm => ?_) ?_
 refine v ?_
 refine vi hm (fun hc6 hm => ?_) fun hc6 hm => ?_
 refine v ?_
 refine vz [(1000000, some k2, .obj 30 (c_Catalog p0))] mixed (fun hk => ⟨fun _ => hp_at 1 hk rfl, trivial⟩) fun hk => ?_
 refine z_w 0 rfl (fun S' h' hi hB => o_mv (ow _ _ _) rfl) ?_
 refine z_w 1 rfl (fun S' h' hi hB => Zh fd30_3 rfl rfl) ?_
 refine z_w 2 rfl (fun S' h' hi hB => Zg (.sl none 3 (List.map c_Exp p0.Exps)) ld27 rfl (At.s (InvL.get 0 hi rfl (hB 1000000 (by kernel_rfl)))) rfl) ?_
 refine z_w 3 rfl (fun S' h' hi hB => o_mv (.sc (.int _ _)) rfl) ?_
 obtain ⟨x3, hx0, hm⟩ := Zc hm
 refine z_w 4 rfl (fun S' h' hi hB => o_ix hx0 el27 rfl rfl) ?_
 refine z_w 5 rfl (fun S' h' hi hB => o_fl fd99_0 rfl rfl) ?_
 refine z_w 6 rfl (fun S' h' hi hB => o_ld (.sc (.int .i64 x3.Seq)) ld3 rfl rfl) ?_
 refine z_w 7 rfl (fun S' h' hi hB => Zh fd30_3 rfl rfl) ?_
 refine z_w 8 rfl (fun S' h' hi hB => Zg (.sl none 3 (List.map c_Exp p0.Exps)) ld27 rfl (At.s (InvL.get 0 hi rfl (hB 1000000 (by kernel_rfl)))) rfl) ?_
 refine z_w 9 rfl (fun S' h' hi hB => o_mv (.sc (.int _ _)) rfl) ?_
 obtain ⟨x4, hx1, hm⟩ := Zc hm
 refine z_w 10 rfl (fun S' h' hi hB => o_ix hx1 el27 rfl rfl) ?_
 refine z_w 11 rfl (fun S' h' hi hB => o_fl fd99_1 rfl rfl) ?_
 refine z_w 12 rfl (fun S' h' hi hB => o_ld (.sc (.int .i64 x4.Of)) ld3 rfl rfl) ?_
 refine z_w 13 rfl (fun S' h' hi hB => o_bld (c_Item ({ Kind := 3, Id := idZ, Seq := x3.Seq, Of := x4.Of, Off := 0, Len := 0 } : TItem)) bt38 rfl) ?_
 refine z_w 14 rfl (fun S' h' hi hB => o_lit (List.map c_Item ([({ Kind := 3, Id := idZ, Seq := x3.Seq, Of := x4.Of, Off := 0, Len := 0 } : TItem)] : List TItem)) et33 rfl rfl rfl rfl) ?_
 obtain ⟨z2, hz2, hm⟩ := Zc hm
 refine z_e 15 rfl (by kernel_rfl) (a_app (c := c_Item) 0 hz2 et33 rfl rfl rfl ot8 hk rfl fun tg9 ot9 hk2 => ⟨⟨fun _ => hp_at 1 hk2 rfl, trivial⟩, ?_⟩)
 refine z_w 16 rfl (fun S' h' hi hB => o_as (ow _ _ _) rfl) ?_
 refine z_nil (by kernel_rfl) (qk (f := .c 5 _ (.c 108 _ (.c 107 _ (.c 106 _ (.c 105 _ (.c 104 _ (.c 103 _ (.c 102 _ (.c 101 _ (.c 100 _ (.c 99 _ (.c 98 _ (.c 97 _ (.c 96 _ (.c 95 _ (.c 94 _ (.c 93 _ _))))))))))))))))) hk2 rfl ?_)
 exact vgo hm tg9 ot9 (lx (.k4 .nil))
 refine v ?_
 exact vgo hm tg8 ot8 (lx (.k4 .nil))
 rintro tg10 j3 ot10 hm
 refine v ?_
 exact vgo hm tg10 ot10 (lx (.k4 .nil))
 refine v ?_
 exact vbk hm tg8 ot8 (lx (.k4 .nil))
 rintro tg11 ⟨r4, r5⟩ ot11 hm
 refine v (v ?_)
 injection hm with hm; subst hm
 exact vr fun hk => Ret.of1 (.inl rfl) (rsT _ _ (ow _ _ _) rfl) (hp_sub (List.nil_sublist _) hk).1 ((own_frz0 _ 0 ot11 hk rfl)) ⟨rfl, rfl⟩
theorem bd19 : bodied Tryz.prog 19 = true := by kernel_rfl
def M26 (fuel : Nat) (p0 : TCatalog) (p1 : Int) : Option ((List TItem)) :=
 (M69 fuel p0 p1 true).bind fun y6 => some y6
set_option maxHeartbeats 4000000 in
set_option maxRecDepth 100000 in
theorem W26 {fuel : Nat} {p0 : TCatalog} {p1 : Int} {o : (List TItem)} (h : Heap) (hm : M26 fuel p0 p1 = some o) :
 ACalls Tryz.prog 26 [.agg (c_Catalog p0), .sc (.int .i64 p1)] h (fun r h' => r = .sl none 37 (List.map c_Item o) ∧ h' = h) := by
 refine ACv 8 [.tmp 4] Tryz.func26 rfl rfl rfl rfl ?_
 unfold M26 at hm
 refine v ?_
 refine ve fun hk => a_box hk rfl rfl fun k2 hk3 => qk hk3 rfl ?_
 refine v (vl 0 (.agg (c_Catalog p0)) ld30 rfl rfl rfl ?_)
 refine vk W69 bd69 hm rfl rfl fun _ hm => ?_
 refine v ?_
 injection hm with hm; subst hm
 exact vr1 rfl
theorem bd26 : bodied Tryz.prog 26 = true := by kernel_rfl
open Go.Vm
def M3_L2 (fuel : Nat) (y0 : TCatalog) (q0 : Int) (y1 : (List TItem)) (q1 : Int) : Option (Lp (Int) (Lp (Int) (Bool))) :=
 if (decide (q1 < (y1.length : Int))) = true then (after ((ix y1 q1).bind fun x0 => if (x0.Kind != 1) = true then (some (.brk ())) else (ix y1 q1).bind fun x1 => (M20 fuel y0 x1.Id).bind fun y2 => after (if (decide (y2 < 0)) = true then (some (.brk true)) else if (decide ((y0.Chunks.length : Int) ≤ y2)) = true then (some (.brk true)) else (ix y0.Chunks y2).bind fun x2 => (M21 fuel y0 x2.Locs q0).bind fun y3 => if y3 = true then (some (.brk true)) else (ix y1 q1).bind fun x3 => (M22 fuel y0 x3.Id).bind fun y4 => some (.brk (!y4)) : Option (Lp (Bool) (Lp (Unit) (Lp (Int) (Lp (Int) (Bool)))))) fun j0 => if j0 = true then (some (.ret (.ret (.ret false)))) else some (.brk ()) : Option (Lp (Unit) (Lp (Int) (Lp (Int) (Bool))))) fun _ => some (.go (IntKind.wrap .i64 (q1 + 1)))) else some (.brk q1)
def M3_L0 (fuel : Nat) (y0 : TCatalog) (q0 : Int) : Option (Lp (Int) (Bool)) :=
 if (decide (q0 ≤ 2)) = true then ((M17 fuel y0 q0).bind fun y1 => (M19 fuel y0 q0).bind fun y2 => (M18 fuel y1 y2).bind fun y3 => if (!y3) = true then (some (.ret false)) else after (loopM (fun s => M3_L2 fuel y0 q0 y1 s) fuel 0) fun r0 => some (.go (IntKind.wrap .i64 (q0 + 1)))) else some (.brk q0)
def M3_L4 (fuel : Nat) (y0 : TCatalog) (q0 : Int) : Option (Lp (Int) (Bool)) :=
 if (decide (q0 ≤ (y0.Vols.length : Int))) = true then ((M23 fuel y0 q0).bind fun y1 => (M24 fuel y0 q0).bind fun y2 => after ((M25 fuel y0 q0).bind fun y3 => (M18 fuel y1 y3).bind fun y4 => if (!y4) = true then (some (.brk true)) else (M26 fuel y0 q0).bind fun y5 => (M18 fuel y2 y5).bind fun y6 => if (!y6) = true then (some (.brk true)) else some (.brk (decide ((y1.length : Int) < (y2.length : Int)))) : Option (Lp (Bool) (Lp (Int) (Bool)))) fun j0 => if j0 = true then (some (.ret false)) else some (.go (IntKind.wrap .i64 (q0 + 1)))) else some (.brk q0)
def M3 (fuel : Nat) (p0 : List Int) (p1 : List TAct) : Option (Bool) :=
 after (if (decide (30 < (p0.length : Int))) = true then (some (.brk true)) else (M14 fuel p1).bind fun y9 => some (.brk y9) : Option (Lp (Bool) (Bool))) fun j7 => if j7 = true then (some true) else (M16 fuel p0).bind fun y0 => (M15 fuel y0 p1).bind fun y1 => after (loopM (fun s => M3_L0 fuel y1 s) fuel (-1)) fun r0 => after (loopM (fun s => M3_L4 fuel y1 s) fuel (-1)) fun r1 => (M27 fuel).bind fun y2 => some y2
set_option maxHeartbeats 4000000 in
set_option maxRecDepth 100000 in
theorem W3 {fuel : Nat} {p0 : List Int} {p1 : List TAct} {o : Bool} (h : Heap) (hm : M3 fuel p0 p1 = some o) :
 ACalls Tryz.prog 3 [.sl none 1 (List.map c_i64 p0), .sl none 5 (List.map c_Act p1)] h (fun r h' => r = .sc (.bool o) ∧ h' = h) := by
 refine ACv 121 [.tmp 4] Tryz.func3 rfl rfl rfl rfl ?_
 unfold M3 at hm
 refine v (vs (vs ?_))
 refine vjnH hm (σ := Bool) (τ := Unit) (fun g s => []) (fun g s => .c 0 (.sl none 1 (List.map c_i64 p0)) (.c 1 (.sl none 5 (List.map c_Act p1)) (.c 19 (.sc (.bool s)) .nil))) (fun x hm => ?_) ?_
 refine v (vln ln22 rfl ?_)
 refine vi hm (fun hb8 hm => ?_) fun hb8 hm => ?_
 rw [hb8]
 exact vgo hm () trivial (lx (.k3 .nil))
 rw [hb8]
 refine vk W14 bd14 hm rfl rfl fun _ hm => ?_
 exact vgo hm () trivial (lx (.k3 .nil))
 rintro _ j7 hm
 refine v ?_
 refine vi hm (fun hc0 hm => ?_) fun hc0 hm => ?_
 refine v (v ?_)
 injection hm with hm; subst hm
 exact vr1 rfl
 refine v (v ?_)
 refine vk W16 bd16 hm rfl rfl fun _ hm => ?_
 refine vk W15 bd15 hm rfl rfl fun y0 hm => ?_
 refine ve fun hk => a_alloc ([.sc (.int .i64 0), .sc (.slice none 0 0), .sc (.slice none 0 0), .sc (.slice none 0 0), .sc (.slice none 0 0)]) hk zr30 rfl rfl fun k19 hk0 => qk hk0 rfl ?_
 refine ve fun hk => a_store 0 (c_Catalog y0) hk rfl rfl rfl rfl sz30 rfl rfl fun hk1 => qk hk1 rfl ?_
 refine v ?_
 refine vlpH hm (σ := Int) (τ := Unit) (fun g s => [(some k19, .obj 30 (c_Catalog y0))]) (fun g s => .c 5 (.ptr k19 0) (.c 6 (.sc (.int .i64 s)) .nil)) () (lx (.k2 .nil)) ?_ ?_
 rintro _ q0 x hm
 replace hm : M3_L0 fuel y0 q0 = some x := hm
 unfold M3_L0 at hm
 refine v (v ?_)
 refine vi hm (fun hc1 hm => ?_) fun hc1 hm => ?_
 refine v (v (v (vl 0 (.agg (c_Catalog y0)) ld30 rfl rfl rfl ?_)))
 refine vk W17 bd17 hm rfl rfl fun y1 hm => ?_
 refine v (vl 0 (.agg (c_Catalog y0)) ld30 rfl rfl rfl ?_)
 refine vk W19 bd19 hm rfl rfl fun _ hm => ?_
 refine vk W18 bd18 hm rfl rfl fun _ hm => ?_
 refine v ?_
 refine vi hm (fun hc2 hm => ?_) fun hc2 hm => ?_
 refine v (v ?_)
 refine vrt hm fun hm => ?_
 injection hm with hm; subst hm
 exact vr1 rfl
 refine v (v ?_)
 refine vlpH hm (σ := Int) (τ := Unit) (fun g s => [(some k19, .obj 30 (c_Catalog y0))]) (fun g s => .c 5 (.ptr k19 0) (.c 6 (.sc (.int .i64 q0)) (.c 7 (.sl none 37 (List.map c_Item y1)) (.c 8 (.sc (.int .i64 s)) .nil)))) () (lx (.k4 .nil)) ?_ ?_
 rintro _ q1 x hm
 replace hm : M3_L2 fuel y0 q0 y1 q1 = some x := hm
 unfold M3_L2 at hm
 refine v (vln ln33 rfl (v ?_))
 refine vi hm (fun hc3 hm => ?_) fun hc3 hm => ?_
 refine v (vs ?_)
 refine vjnH hm (σ := Unit) (τ := Unit) (fun g s => [(some k19, .obj 30 (c_Catalog y0))]) (fun g s => .c 5 (.ptr k19 0) (.c 6 (.sc (.int .i64 q0)) (.c 7 (.sl none 37 (List.map c_Item y1)) (.c 8 (.sc (.int .i64 q1)) .nil)))) (fun x hm => ?_) ?_
 refine v (v ?_)
 refine vx hm el33 rfl rfl fun _ _ hm => ?_
 refine v ?_
 refine vi hm (fun hc4 hm => ?_) fun hc4 hm => ?_
 refine v ?_
 exact vgo hm () trivial (lx (.k4 .nil))
 refine v (v (vq (by kernel_rfl) (vl 0 (.agg (c_Catalog y0)) ld30 rfl rfl rfl ?_)))
 refine vx hm el33 rfl rfl fun x0 _ hm => ?_
 refine va (.agg (c_id x0.Id)) ld36 rfl rfl ?_
 refine vk W20 bd20 hm rfl rfl fun _ hm => ?_
 refine vs ?_
 refine vjnH hm (σ := Bool) (τ := Unit) (fun g s => [(some k19, .obj 30 (c_Catalog y0))]) (fun g s => .c 5 (.ptr k19 0) (.c 6 (.sc (.int .i64 q0)) (.c 7 (.sl none 37 (List.map c_Item y1)) (.c 8 (.sc (.int .i64 q1)) (.c 85 (.sc (.bool s)) .nil))))) (fun x hm => ?_) ?_
 refine v (vq (by kernel_rfl) ?_)
 refine vi hm (fun hb0 hm => ?_) fun hb0 hm => ?_
 rw [hb0]
 exact vgo hm () trivial (lx (.k5 .nil))
 rw [hb0]
 refine vl 0 _ ld26 rfl rfl rfl (vln ln26 rfl ?_)
 refine vi hm (fun hb1 hm => ?_) fun hb1 hm => ?_
 rw [hb1]
 exact vgo hm () trivial (lx (.k5 .nil))
 rw [hb1]
 refine vl 0 (.agg (c_Catalog y0)) ld30 rfl rfl rfl (vl 0 _ ld26 rfl rfl rfl ?_)
 refine vx hm el26 rfl rfl fun _ _ hm => ?_
 refine vk W21 bd21 hm rfl rfl fun _ hm => ?_
 refine vi hm (fun hb2 hm => ?_) fun hb2 hm => ?_
 rw [hb2]
 exact vgo hm () trivial (lx (.k5 .nil))
 rw [hb2]
 refine vl 0 (.agg (c_Catalog y0)) ld30 rfl rfl rfl ?_
 refine vx hm el33 rfl rfl fun x1 _ hm => ?_
 refine va (.agg (c_id x1.Id)) ld36 rfl rfl ?_
 refine vk W22 bd22 hm rfl rfl fun _ hm => ?_
 exact vgo hm () trivial (lx (.k5 .nil))
 rintro _ j0 hm
 refine v ?_
 refine vi hm (fun hc5 hm => ?_) fun hc5 hm => ?_
 refine v (v ?_)
 refine vrt hm fun hm => ?_
 refine vrt hm fun hm => ?_
 refine vrt hm fun hm => ?_
 injection hm with hm; subst hm
 exact vr1 rfl
 refine v ?_
 exact vgo hm () trivial (lx (.k4 .nil))
 rintro _ _ hm
 refine v ?_
 exact vgo hm () trivial (lx (.k4 .nil))
 refine v ?_
 exact vbk hm () trivial (lx (.k4 .nil))
 rintro _ r0 hm
 refine v ?_
 exact vgo hm () trivial (lx (.k2 .nil))
 refine v ?_
 exact vbk hm () trivial (lx (.k2 .nil))
 rintro _ r1 hm
 refine v ?_
 refine vlpH hm (σ := Int) (τ := Unit) (fun g s => [(some k19, .obj 30 (c_Catalog y0))]) (fun g s => .c 5 (.ptr k19 0) (.c 10 (.sc (.int .i64 s)) .nil)) () (lx (.k2 .nil)) ?_ ?_
 rintro _ q2 x hm
 replace hm : M3_L4 fuel y0 q2 = some x := hm
 unfold M3_L4 at hm
 refine v (vl 0 _ ld28 rfl rfl rfl (vln ln28 rfl (v ?_)))
 refine vi hm (fun hc6 hm => ?_) fun hc6 hm => ?_
 refine v (v (v (vq (by kernel_rfl) (vl 0 (.agg (c_Catalog y0)) ld30 rfl rfl rfl ?_))))
 refine vk W23 bd23 hm rfl rfl fun _ hm => ?_
 refine vl 0 (.agg (c_Catalog y0)) ld30 rfl rfl rfl ?_
 refine vk W24 bd24 hm rfl rfl fun _ hm => ?_
 refine vs ?_
 refine vjnH hm (σ := Bool) (τ := Unit) (fun g s => [(some k19, .obj 30 (c_Catalog y0))]) (fun g s => .c 5 (.ptr k19 0) (.c 10 (.sc (.int .i64 q2)) (.c 119 (.sc (.bool s)) .nil))) (fun x hm => ?_) ?_
 refine v (vl 0 (.agg (c_Catalog y0)) ld30 rfl rfl rfl ?_)
 refine vk W25 bd25 hm rfl rfl fun _ hm => ?_
 refine vk W18 bd18 hm rfl rfl fun _ hm => ?_
 refine vi hm (fun hb3 hm => ?_) fun hb3 hm => ?_
 rw [hb3]
 exact vgo hm () trivial (lx (.k3 .nil))
 rw [hb3]
 refine vl 0 (.agg (c_Catalog y0)) ld30 rfl rfl rfl ?_
 refine vk W26 bd26 hm rfl rfl fun _ hm => ?_
 refine vk W18 bd18 hm rfl rfl fun _ hm => ?_
 refine vi hm (fun hb4 hm => ?_) fun hb4 hm => ?_
 rw [hb4]
 exact vgo hm () trivial (lx (.k3 .nil))
 rw [hb4]
 refine vln ln33 rfl (vln ln33 rfl ?_)
 exact vgo hm () trivial (lx (.k3 .nil))
 rintro _ j1 hm
 refine v ?_
 refine vi hm (fun hc7 hm => ?_) fun hc7 hm => ?_
 refine v (v ?_)
 refine vrt hm fun hm => ?_
 injection hm with hm; subst hm
 exact vr1 rfl
 refine v (v ?_)
 exact vgo hm () trivial (lx (.k2 .nil))
 refine v ?_
 exact vbk hm () trivial (lx (.k2 .nil))
 rintro _ r2 hm
 refine v ?_
 refine vk W27 bd27 hm rfl rfl fun _ hm => ?_
 refine v ?_
 injection hm with hm; subst hm
 exact vr1 rfl
open Go.Vm
def laB (c : TCatalog) (p : Int) (l : List TLoc) : Bool := !l.any (inP c p) && (p == 0 || l.any (inP c 0))
theorem m79 {F : Nat} {c : TCatalog} {p : Int} {l : List TLoc} {b : Bool} (hF : 1000 ≤ F) (h : Sm c) (hl : l.length ≤ 300) : M51 F l b c p = some (b && laB c p l) := by
 have hvo := h.vo
 unfold M51 laB
 simp only [m46 hF (by omega : c.Vols.length < 1000) hl, Option.bind_some]
 cases b <;> cases l.any (inP c p) <;> cases p == 0 <;> rfl
theorem m122 {F : Nat} {c : TCatalog} {p : Int} {l : List TLoc} (hF : 1000 ≤ F) (h : Sm c) (hl : l.length ≤ 300) : M107 F c l p = some (l.any (inP c p)) := by
 unfold M107
 rw [any_loop (l := l) (F := F) (inP c p) true (by omega) (fun i x hx hm hi => by
  unfold M107_L0
  rw [wr1 (by omega)]
  simp only [ix_nat, hx, Option.bind_some, Int.ofNat_lt, hi, decide_true, if_true]
  unfold inP inR
  by_cases h1 : 0 ≤ x.Vol
  ·by_cases h2 : x.Vol < (c.Vols.length : Int)
   ·have h3 : x.Vol ≤ (c.Vols.length : Int) - 1 := by omega
    have hi : x.Vol.toNat < c.Vols.length := by omega
    simp only [h1, h2, h3, decide_true, if_true, ix_pos _ h1, List.getElem?_eq_getElem hi, Option.bind_some, after_brk, Option.any_some, Bool.true_and]
    cases c.Vols[x.Vol.toNat].Pool == p <;> rfl
   ·have h3 : ¬ x.Vol ≤ (c.Vols.length : Int) - 1 := by omega
    simp [h1, h2, h3, after]
  ·simp [h1, after]) (by unfold M107_L0; simp)]
 cases l.any (inP c p) <;> rfl
theorem m87 {F : Nat} {c : TCatalog} {p : Int} {l : List TLoc} (hF : 1000 ≤ F) (h : Sm c) (hl : l.length ≤ 300) : M52 F c l p = some (laB c p l) := by
 unfold M52 laB
 simp only [m122 hF h hl, Option.bind_some]
 cases l.any (inP c p) <;> cases p == 0 <;> rfl
def lacks (c : TCatalog) (p : Int) : List TItem := allL c fun l b => b && laB c p l
theorem m36 {F : Nat} {c : TCatalog} {p : Int} (hF : 1000 ≤ F) (h : Sm c) : M17 F c p = some (if good c = true ∧ 0 ≤ p ∧ p ≤ 1 then lacks c p else []) := by
 unfold M17
 by_cases h1 : p < 0
 ·have : ¬ (good c = true ∧ 0 ≤ p ∧ p ≤ 1) := by omega
  simp [h1, this, after]
 ·by_cases h2 : 1 < p
  ·have : ¬ (good c = true ∧ 0 ≤ p ∧ p ≤ 1) := by omega
   simp [h1, h2, this, after]
  ·rw [m33 hF h]
   have h3 : p ≤ 1 := by omega
   have h0 : 0 ≤ p := by omega
   cases hg : good c
   ·simp [h1, h2, hg, after]
   ·simp only [h1, h2, decide_false, Bool.false_eq_true, if_false, if_true, Option.bind_some, bne_self_eq_false, after_brk, h0, h3, and_self, true_and]
    rw [m78g (fun l b => b && laB c p l) hF h (fun l b hl => m79 hF h hl)]
    rfl
theorem m41 {F : Nat} {c : TCatalog} {p : Int} (hF : 1000 ≤ F) (h : Sm c) : M19 F c p = some (if 0 ≤ p ∧ p ≤ 1 then lacks c p else []) := by
 have hsn := h.sn
 have hch := h.ch
 have hex := h.ex
 unfold M19
 by_cases hp : 0 ≤ p ∧ p ≤ 1
 ·have e : (if (p != 0) = true then (some (.brk (p != 1))) else some (.brk false) : Option (Lp Bool (List TItem))) = some (.brk false) := by
   have : p = 0 ∨ p = 1 := by omega
   rcases this with rfl | rfl <;> rfl
  rw [e, if_pos hp]
  simp only [after_brk, Bool.false_eq_true, if_false]
  rw [filt_loop (l := c.Chunks) [] (fun x => usedB c x.Id && laB c p x.Locs) it1 (by omega) (fun i x hx hm hi acc ha => by
   unfold M19_L0
   rw [wr1 (by omega)]
   simp only [ix_nat, hx, Option.bind_some, Int.ofNat_lt, hi, decide_true, if_true, m65 hF h, m87 hF h (h.cl x hm).1]
   simp only [List.length_nil] at ha
   rw [app_some (by simp; omega)]
   cases usedB c x.Id <;> cases laB c p x.Locs <;> rfl) (fun acc => by unfold M19_L0; simp)]
  simp only [after_brk, List.nil_append]
  have l1 : ((c.Chunks.filter fun x => usedB c x.Id && laB c p x.Locs).map it1).length ≤ 400 := by rw [List.length_map]; exact Nat.le_trans (List.length_filter_le _ _) hch
  rw [filt_loop (l := c.Snaps) _ (fun x => true && laB c p x.Locs) it2 (by omega) (fun i x hx hm hi acc ha => by
   unfold M19_L2
   rw [wr1 (by omega)]
   simp only [ix_nat, hx, Option.bind_some, Int.ofNat_lt, hi, decide_true, if_true, m87 hF h (h.sl x hm)]
   rw [app_some (by simp; omega)]
   cases laB c p x.Locs <;> rfl) (fun acc => by unfold M19_L2; simp)]
  simp only [after_brk]
  have l2 : ((c.Snaps.filter fun x => true && laB c p x.Locs).map it2).length ≤ 12 := by rw [List.length_map]; exact Nat.le_trans (List.length_filter_le _ _) hsn
  rw [filt_loop (l := c.Exps) _ (fun x => true && laB c p x.Locs) it3 (by omega) (fun i x hx hm hi acc ha => by
   unfold M19_L4
   rw [wr1 (by omega)]
   simp only [ix_nat, hx, Option.bind_some, Int.ofNat_lt, hi, decide_true, if_true, m87 hF h (h.el x hm)]
   rw [List.length_append] at ha
   rw [app_some (by simp; omega)]
   cases laB c p x.Locs <;> rfl) (fun acc => by unfold M19_L4; simp)]
  rfl
 ·have e : (if (p != 0) = true then (some (.brk (p != 1))) else some (.brk false) : Option (Lp Bool (List TItem))) = some (.brk true) := by
   have h0 : (p != 0) = true := by simp; omega
   have h1 : (p != 1) = true := by simp; omega
   simp [h0, h1]
  rw [e, if_neg hp]
  rfl
theorem m40 {F : Nat} {l : List TItem} (hF : 1000 ≤ F) (hl : l.length ≤ 900) : M18 F l l = some true := by
 unfold M18
 rw [if_neg (by simp), any_loop (l := l) (F := F) (fun _ => false) false (by omega) (fun i x hx _ hi => by
  unfold M18_L0
  rw [wr1 (by omega)]
  simp [ix_nat, hx, hi, after]) (by unfold M18_L0; simp)]
 simp [after]
theorem allL_len {c : TCatalog} {g : List TLoc → Bool → Bool} (h : Sm c) : (allL c g).length ≤ 720 := by
 have hsn := h.sn
 have hch := h.ch
 have hex := h.ex
 unfold allL
 simp only [List.length_append, List.length_map]
 have h1 := List.length_filter_le (fun x : TChunk => g x.Locs (usedB c x.Id)) c.Chunks
 have h2 := List.length_filter_le (fun x : TSnap => g x.Locs true) c.Snaps
 have h3 := List.length_filter_le (fun x : TExp => g x.Locs true) c.Exps
 omega
def othV (c : TCatalog) (v p : Int) (l : List TLoc) : Bool := (l.filter fun x => !(x.Vol == v)).any (inP c p)
theorem m123' {F : Nat} {c : TCatalog} {l : List TLoc} {v : Int} (hF : 1000 ≤ F) (hl : l.length ≤ 300) (hin : ∀ x ∈ l, 0 ≤ x.Vol ∧ x.Vol.toNat < c.Vols.length) (hv : 0 ≤ v ∧ v.toNat < c.Vols.length) :
    M112 F c l v = some (onV v l, othV c v ((c.Vols[v.toNat]?).elim 0 (·.Pool)) l) := by
  have e2 : c.Vols[v.toNat]? = some c.Vols[v.toNat] := List.getElem?_eq_getElem hv.2
  generalize c.Vols[v.toNat] = w2 at e2
  rw [e2]
  unfold M112
  obtain ⟨s, ⟨h1, h2, h4⟩, h3⟩ := loop_inv (body := fun s : Bool × Bool × Int => M112_L0 F c l v s.1 s.2.1 s.2.2) (I := fun i s => s.2.2 = (i : Int) ∧ s.1 = ((l.take i).any fun y => y.Vol == v) ∧ s.2.1 = othV c v w2.Pool (l.take i)) (n := l.length) (fun i s hi hI => by
    obtain ⟨a, b, q⟩ := s
    obtain ⟨rfl, rfl, rfl⟩ := hI
    have hx : l[i]? = some l[i] := List.getElem?_eq_getElem hi
    have hm := List.getElem_mem hi
    have htk := List.take_succ_eq_append_getElem hi
    generalize l[i] = x at hx hm htk
    obtain ⟨i1, i2⟩ := hin x hm
    have e1 : c.Vols[x.Vol.toNat]? = some c.Vols[x.Vol.toNat] := List.getElem?_eq_getElem i2
    generalize c.Vols[x.Vol.toNat] = w1 at e1
    have hinp : inP c w2.Pool x = (w1.Pool == w2.Pool) := by
      unfold inP inR
      rw [e1]
      have : x.Vol ≤ (c.Vols.length : Int) - 1 := by omega
      simp [i1, this]
    refine ⟨((l.take (i + 1)).any fun y => y.Vol == v, othV c v w2.Pool (l.take (i + 1)), ((i + 1 : Nat) : Int)), ?_, rfl, rfl, rfl⟩
    unfold M112_L0 othV
    rw [wr1 (by omega)]
    simp only [ix_nat, hx, ix_pos _ i1, ix_pos _ hv.1, e1, e2, Option.bind_some, Int.ofNat_lt, hi, decide_true, if_true, htk, List.any_append, List.filter_append]
    cases hq : x.Vol == v
    · cases hw : w1.Pool == w2.Pool <;> simp [after, hq, hw, hinp, List.filter]
    · simp [after, hq, List.filter]) (fun s hs => by
    obtain ⟨a, b, q⟩ := s
    obtain ⟨rfl, -⟩ := hs
    unfold M112_L0
    simp) F 0 (false, false, 0) (by omega) (by omega) ⟨rfl, rfl, rfl⟩
  rw [h3]
  simp only [after_brk]
  rw [h2, h4, List.take_length]
  rfl
theorem m43 {F : Nat} {c : TCatalog} {v : Int} (hF : 1000 ≤ F) (h : Sm c) (hg : good c = true) : M26 F c v = some (if 0 ≤ v ∧ v < c.Vols.length then allL c (movB c v ((c.Vols[v.toNat]?).elim 0 (·.Pool))) else []) := by
 have hsn := h.sn
 have hch := h.ch
 have hex := h.ex
 obtain ⟨g1, g2, g3⟩ := good_locs hg
 unfold M26 M69
 by_cases hv' : 0 ≤ v ∧ v < (c.Vols.length : Int)
 ·have hv : 0 ≤ v ∧ v.toNat < c.Vols.length := by omega
  have v1 : decide (v < 0) = false := by simp; omega
  have v2 : decide ((c.Vols.length : Int) ≤ v) = false := by simp; omega
  rw [if_pos hv']
  generalize hpl : (c.Vols[v.toNat]?).elim 0 (·.Pool) = pl
  have key : ∀ l : List TLoc, l.length ≤ 300 → (∀ x ∈ l, 0 ≤ x.Vol ∧ x.Vol.toNat < c.Vols.length) → M112 F c l v = some (onV v l, othV c v pl l) := fun l h1 h2 => by rw [← hpl]; exact m123' hF h1 h2 hv
  simp only [v1, v2, Bool.false_eq_true, if_false, after_brk]
  rw [filt_loop (l := c.Chunks) [] (fun x => movB c v pl x.Locs (usedB c x.Id)) it1 (by omega) (fun i x hx hm hi acc ha => by
   have hb := key x.Locs (h.cl x hm).1 (locs_in (g1 x hm))
   unfold M69_L0
   rw [wr1 (by omega)]
   simp only [ix_nat, hx, Option.bind_some, Int.ofNat_lt, hi, decide_true, if_true, hb, m65 hF h]
   simp only [List.length_nil] at ha
   rw [app_some (by simp; omega)]
   unfold movB
   have ho : ((x.Locs.filter fun x => !(x.Vol == v)).any (inP c pl)) = othV c v pl x.Locs := rfl
   rw [ho]
   cases onV v x.Locs <;> cases othV c v pl x.Locs <;> cases usedB c x.Id <;> rfl) (fun acc => by unfold M69_L0; simp)]
  simp only [after_brk, List.nil_append]
  have l1 : ((c.Chunks.filter fun x => movB c v pl x.Locs (usedB c x.Id)).map it1).length ≤ 400 := by rw [List.length_map]; exact Nat.le_trans (List.length_filter_le _ _) hch
  rw [filt_loop (l := c.Snaps) _ (fun x => movB c v pl x.Locs true) it2 (by omega) (fun i x hx hm hi acc ha => by
   have hb := key x.Locs (h.sl x hm) (locs_in (g2 x hm))
   unfold M69_L2
   rw [wr1 (by omega)]
   simp only [ix_nat, hx, Option.bind_some, Int.ofNat_lt, hi, decide_true, if_true, hb]
   rw [app_some (by simp; omega)]
   unfold movB
   have ho : ((x.Locs.filter fun x => !(x.Vol == v)).any (inP c pl)) = othV c v pl x.Locs := rfl
   rw [ho]
   cases onV v x.Locs <;> cases othV c v pl x.Locs <;> rfl) (fun acc => by unfold M69_L2; simp)]
  simp only [after_brk]
  have l2 : ((c.Snaps.filter fun x => movB c v pl x.Locs true).map it2).length ≤ 12 := by rw [List.length_map]; exact Nat.le_trans (List.length_filter_le _ _) hsn
  rw [filt_loop (l := c.Exps) _ (fun x => movB c v pl x.Locs true) it3 (by omega) (fun i x hx hm hi acc ha => by
   have hb := key x.Locs (h.el x hm) (locs_in (g3 x hm))
   unfold M69_L4
   rw [wr1 (by omega)]
   simp only [ix_nat, hx, Option.bind_some, Int.ofNat_lt, hi, decide_true, if_true, hb]
   rw [List.length_append] at ha
   rw [app_some (by simp; omega)]
   unfold movB
   have ho : ((x.Locs.filter fun x => !(x.Vol == v)).any (inP c pl)) = othV c v pl x.Locs := rfl
   rw [ho]
   cases onV v x.Locs <;> cases othV c v pl x.Locs <;> rfl) (fun acc => by unfold M69_L4; simp)]
  rfl
 ·rw [if_neg hv']
  have : (decide (v < 0) || decide ((c.Vols.length : Int) ≤ v)) = true := by simp; omega
  cases q1 : decide (v < 0)
  ·rw [q1] at this
   simp only [Bool.false_or] at this
   simp only [Bool.false_eq_true, if_false, this, after_brk, if_true]
   rfl
  ·simp only [if_true, after_brk]
   rfl
theorem m39 : M27 1000 = some true := by decide +kernel
open Go.Vm
theorem m54a : @M152a = @M152 := rfl
theorem m14d {F : Nat} {c : TCatalog} (hF : 1000 ≤ F) (h : Sm c) : M90d F c = some c := by
 rw [← m14 (F := F) hF h]
 rfl
theorem wru {n : Nat} (h : n < 1000000000) : IntKind.wrap .u64 (n : Int) = n := by
 have e : IntKind.wrap .u64 (n : Int) = (n : Int) % 18446744073709551616 := rfl
 rw [e]; omega
theorem wru0 (p : Int) : 0 ≤ IntKind.wrap .u64 p := by
 have e : IntKind.wrap .u64 p = p % 18446744073709551616 := rfl
 rw [e]; omega
theorem idxW (p : Int) {n : Nat} (h0 : 0 < n) (hn : n < 1000000000) : ∃ j : Nat, j < n ∧ IntKind.wrap .i64 ((IntKind.wrap .u64 p).tmod (n : Int)) = (j : Int) := by
 have h1 := wru0 p
 generalize IntKind.wrap .u64 p = a at h1
 rw [Int.tmod_eq_emod_of_nonneg h1]
 have h2 : 0 ≤ a % (n : Int) := Int.emod_nonneg _ (by omega)
 have h3 : a % (n : Int) < n := Int.emod_lt_of_pos _ (by omega)
 refine ⟨(a % (n : Int)).toNat, by omega, ?_⟩
 rw [wr (by omega) (by omega)]
 omega
theorem mem_set {α : Type} {l : List α} {j : Nat} {x y : α} (h : y ∈ l.set j x) : y ∈ l ∨ y = x := by
 have := List.mem_or_eq_of_mem_set h
 exact this
open Go.Vm
structure Rng (c : TCatalog) : Prop where
 seq : 0 ≤ c.Seq ∧ c.Seq ≤ 1073741824
 sn : c.Snaps.length ≤ 8
 ch : c.Chunks.length ≤ 200
 ex : c.Exps.length ≤ 200
 vo : c.Vols.length ≤ 8
 s : ∀ s ∈ c.Snaps, 0 ≤ s.Seq ∧ s.Seq < c.Seq ∧ manB s.Man = true ∧ locsB c s.Locs = true
 k : ∀ x ∈ c.Chunks, x.Data.length ≤ 64 ∧ locsB c x.Locs = true
 e : ∀ x ∈ c.Exps, 0 ≤ x.Seq ∧ x.Seq < c.Seq ∧ 0 ≤ x.Of ∧ x.Of < c.Seq ∧ locsB c x.Locs = true
 v : ∀ x ∈ c.Vols, 0 ≤ x.Pool ∧ x.Pool ≤ 1 ∧ 0 ≤ x.Epoch ∧ x.Epoch ≤ 1048576 ∧ 1 ≤ x.State ∧ x.State ≤ 3 ∧ 0 ≤ x.Files ∧ x.Files ≤ 65535
theorem rng {c : TCatalog} (hg : good c = true) : Rng c := by
 obtain ⟨q1, q2, q3⟩ := good_locs hg
 have hg0 := hg
 unfold good at hg0
 simp only [Bool.and_eq_true, inR, decide_eq_true_eq] at hg0
 obtain ⟨⟨⟨⟨g1, g2, g3⟩, g4, g5⟩, g6, g7⟩, g8, g9⟩ := hg0
 refine ⟨g1, g7, g5, g9, by omega, fun s hs => ?_, fun x hx => ⟨?_, q1 x hx⟩, fun x hx => ?_, fun x hx => ?_⟩
 ·obtain ⟨i, hi, rfl⟩ := List.getElem_of_mem hs
  have := (snB_at hg (List.getElem?_eq_getElem hi)).1
  unfold snB at this
  rw [List.getElem?_eq_getElem hi] at this
  simp only [Bool.and_eq_true, inR, decide_eq_true_eq] at this
  obtain ⟨⟨⟨⟨h1, h2⟩, h3⟩, h4⟩, h5⟩ := this
  exact ⟨h1.1, by omega, h4, h5⟩
 ·obtain ⟨i, hi, rfl⟩ := List.getElem_of_mem hx
  have := chB_at hg (List.getElem?_eq_getElem hi)
  unfold chB at this
  rw [List.getElem?_eq_getElem hi] at this
  simp only [Bool.and_eq_true] at this
  have := this.2
  split at this
  ·simp only [inR, Bool.and_eq_true, decide_eq_true_eq] at this; omega
  ·simp only [Bool.and_eq_true, Bool.not_eq_true', decide_eq_false_iff_not] at this; omega
 ·obtain ⟨i, hi, rfl⟩ := List.getElem_of_mem hx
  unfold exsB at g8
  simp only [Bool.not_eq_true', List.any_eq_false, List.mem_range] at g8
  have := g8 i hi
  have this : exA c i = true ∧ exC c i = true := by simpa using this
  have := this.1
  unfold exA at this
  rw [List.getElem?_eq_getElem hi] at this
  simp only [Bool.and_eq_true, inR, decide_eq_true_eq] at this
  obtain ⟨⟨⟨⟨h1, h2⟩, h3⟩, h4⟩, h5⟩ := this
  exact ⟨h1.1, by omega, h3.1, by omega, h5⟩
 ·have hb := List.all_eq_true.1 g2 x hx
  unfold volB inR at hb
  simp only [Bool.and_eq_true, Bool.or_eq_true, decide_eq_true_eq, beq_iff_eq] at hb
  omega
theorem i1 : ((1 : Nat) : Int) = 1 := rfl
theorem i2 : ((2 : Nat) : Int) = 2 := rfl
theorem i4 : ((4 : Nat) : Int) = 4 := rfl
end Go.Proofs.YtoomgangpjcaoaaGreat
namespace Go.Vm
def T {α : Type} (m : Option α) (Q : α → Prop) : Prop := ∃ a, m = some a ∧ Q a
def L3 {σ ρ : Type} (G B : σ → Prop) (R : ρ → Prop) : Lp σ ρ → Prop
 | .go s => G s
 | .brk s => B s
 | .ret r => R r
section
variable {α β σ ρ : Type} {Q : β → Prop}
theorem T.some {a : β} (h : Q a) : T (some a) Q := ⟨a, rfl, h⟩
theorem T.mono {P : β → Prop} {m : Option β} (h : T m P) (k : ∀ a, P a → Q a) : T m Q := by obtain ⟨a, e, p⟩ := h; exact ⟨a, e, k a p⟩
theorem T.of {m : Option β} {a : β} (h : m = .some a) (hq : Q a) : T m Q := ⟨a, h, hq⟩
theorem T.bind {m : Option α} {k : α → Option β} (P : α → Prop) (h : T m P) (hk : ∀ a, P a → T (k a) Q) : T (m.bind k) Q := by
 obtain ⟨a, e, p⟩ := h
 rw [e]; exact hk a p
theorem T.bindEq {m : Option α} {k : α → Option β} {a : α} (h : m = .some a) (hk : T (k a) Q) : T (m.bind k) Q := by rw [h]; exact hk
theorem T.ite {c : Prop} [Decidable c] {a b : Option β} (h1 : c → T a Q) (h2 : ¬c → T b Q) : T (if c then a else b) Q := by
 by_cases h : c
 ·rw [if_pos h]; exact h1 h
 ·rw [if_neg h]; exact h2 h
theorem T.grd {b : Bool} {k : Option β} (hb : b = true) (h : T k Q) : T (grd b k) Q := by unfold Go.Vm.grd; rw [if_pos hb]; exact h
theorem T.ix {l : List α} {i : Int} {k : α → Option β} (h0 : 0 ≤ i) (h1 : i < l.length) (hk : ∀ x, l[i.toNat]? = Option.some x → x ∈ l → T (k x) Q) : T ((ix l i).bind k) Q := by
 have hx : l[i.toNat]? = Option.some l[i.toNat] := List.getElem?_eq_getElem (by omega)
 rw [ix_pos l h0, hx]
 exact hk _ hx (List.getElem_mem _)
theorem T.app {xs ys : List α} {k : List α → Option β} (h : xs.length + ys.length ≤ 1000000000) (hk : T (k (xs ++ ys)) Q) : T ((app xs ys).bind k) Q := by rw [app_some h]; exact hk
theorem T.slc {l : List α} {a b : Int} {k : List α → Option β} (h : 0 ≤ a ∧ a ≤ b ∧ b ≤ l.length) (hk : T (k ((l.take b.toNat).drop a.toNat)) Q) : T ((slc l a b).bind k) Q := by unfold Go.Vm.slc; rw [if_pos h]; exact hk
variable {R : ρ → Prop} {G B : σ → Prop}
theorem T.go {s : σ} (h : G s) : T (.some (Lp.go s)) (L3 G B R) := ⟨_, rfl, h⟩
theorem T.brk {s : σ} (h : B s) : T (.some (Lp.brk s)) (L3 G B R) := ⟨_, rfl, h⟩
theorem T.ret {r : ρ} (h : R r) : T (.some (Lp.ret r)) (L3 G B R) := ⟨_, rfl, h⟩
theorem T.after {m : Option (Lp σ ρ)} {k : σ → Option ρ} (h : T m (L3 (fun _ => False) (fun s => T (k s) R) R)) : T (after m k) R := by
 obtain ⟨a, e, p⟩ := h
 rw [e]
 cases a with
 | go s => exact p.elim
 | brk s => exact p
 | ret r => exact ⟨_, rfl, p⟩
theorem T.loopAt {step : σ → Option (Lp σ ρ)} (I : σ → Prop) (μ : σ → Nat) (hs : ∀ s, I s → T (step s) (L3 (fun s' => I s' ∧ μ s' < μ s) B R)) : ∀ (F : Nat) (s : σ), I s → μ s < F → T (loopM step F s) (L3 (fun _ => False) B R)
 | 0, _, _, h => by omega
 | F + 1, s, hi, hm => by
  obtain ⟨a, e, p⟩ := hs s hi
  unfold loopM
  rw [e]
  cases a with
  | go s' => exact T.loopAt I μ hs F s' p.1 (by have := p.2; omega)
  | brk s' => exact ⟨_, rfl, p⟩
  | ret r => exact ⟨_, rfl, p⟩
theorem T.loop {step : σ → Option (Lp σ ρ)} {F : Nat} {s0 : σ} {k : σ → Option ρ} (I : σ → Prop) (μ : σ → Nat) (B : σ → Prop) (hm : μ s0 < F) (h0 : I s0) (hs : ∀ s, I s → T (step s) (L3 (fun s' => I s' ∧ μ s' < μ s) B R)) (hk : ∀ s, B s → T (k s) R) :
    T (Go.Vm.after (loopM step F s0) k) R := T.after ((T.loopAt I μ hs F s0 h0 hm).mono fun a => by
      cases a with
      | go s => exact fun h => h.elim
      | brk s => exact hk s
      | ret r => exact id)
end
theorem ArL {n : Nat} (x : Ar n) : x.1.length = n := x.2
theorem wrU8 (n : Int) : 0 ≤ IntKind.wrap .u8 n ∧ IntKind.wrap .u8 n < 256 := by rw [wrap_u8_mod]; omega
theorem wrI (n : Int) : -9223372036854775808 ≤ IntKind.wrap .i64 n ∧ IntKind.wrap .i64 n < 9223372036854775808 := by
 have e : IntKind.wrap .i64 n = (if decide (n % 18446744073709551616 ≥ 9223372036854775808) = true then n % 18446744073709551616 - 18446744073709551616 else n % 18446744073709551616) := rfl
 rw [e]
 simp only [decide_eq_true_eq]
 split <;> omega
end Go.Vm
namespace Go.Proofs.YtoomgangpjcaoaaGreat
open Go.Vm
theorem t134 {F : Nat} {a b : Int} (hb : 0 ≤ b) : T (M146 F a b) fun _ => True := by
 unfold M146
 refine .grd (by simpa using hb) (.grd (by simpa using wru0 _) (.some trivial))
theorem t133 {F : Nat} {l : List Int} (hF : 1000 ≤ F) (hl : l.length ≤ 300) : T (M145 F l) fun r => r.length % 64 = 0 ∧ r.length ≤ l.length + 80 := by
 unfold M145
 refine .app (by simp; omega) (.app (by simp; omega) ?_)
 refine .loop (fun q => l.length + 1 ≤ q.length ∧ q.length ≤ (l.length + 72) / 64 * 64 - 8 + 0 ∧ l.length + 9 ≤ (l.length + 72) / 64 * 64) (fun q => (l.length + 72) / 64 * 64 - 8 - q.length) (fun q => (q.length + 8) % 64 = 0 ∧ q.length ≤ l.length + 64) (by simp; omega) (by simp; omega) (fun q hq => ?_) (fun q hq => ?_)
 ·unfold M145_L0
  rw [wr (by omega) (by omega), Int.tmod_eq_emod_of_nonneg (by omega)]
  refine .ite (fun hc => ?_) fun hc => ?_
  ·have : ((q.length : Int) + 8) % 64 ≠ 0 := by simpa using hc
   refine .app (by simp; omega) (.go ?_)
   simp only [List.length_append, List.length_singleton]
   omega
  ·have : ((q.length : Int) + 8) % 64 = 0 := by simpa using hc
   exact .brk (by omega)
 ·refine .loop (fun s => -1 ≤ s.2 ∧ s.2 ≤ 7 ∧ (s.1.length : Int) + s.2 = q.length + 7) (fun s => (s.2 + 1).toNat) (fun s => s.1.length = q.length + 8) (by simp; omega) (by simp) (fun s hs => ?_) (fun s hs => .some (by omega))
  obtain ⟨a, i⟩ := s
  unfold M145_L2
  simp only at hs ⊢
  refine .ite (fun hc => ?_) fun hc => ?_
  ·have hc := of_decide_eq_true hc
   rw [wr (n := i - 1) (by omega) (by omega)]
   refine .grd (by simpa using wru0 _) (.app (by simp; omega) (.go ?_))
   simp only [List.length_append, List.length_singleton]
   omega
  ·exact .brk (by simp only [decide_eq_true_eq] at hc; show a.length = _; omega)
theorem t108 {F : Nat} {d : List Int} (hF : 1000 ≤ F) (hl : d.length ≤ 300) : T (M87 F d) gId := by
 unfold M87
 refine .bind (fun _ => True) ⟨_, rfl, trivial⟩ fun y6 _ => ?_
 refine .bind _ (t133 hF hl) fun y hy => ?_
 refine .loop (fun s => 0 ≤ s.2 ∧ s.2 % 64 = 0 ∧ s.2 ≤ y.length) (fun s => (y.length - s.2).toNat) (fun _ => True) (by simp; omega) (by simp) (fun s hs => ?_) (fun s _ => ?_)
 ·obtain ⟨h, i⟩ := s
  unfold M87_L0
  simp only at hs ⊢
  refine .ite (fun hc => ?_) fun hc => .brk trivial
  have hc := of_decide_eq_true hc
  refine .loop (fun s => 0 ≤ s.2 ∧ s.2 ≤ 64) (fun s => (64 - s.2).toNat) (fun _ => True) (by simp; omega) (by simp) (fun s hs2 => ?_) (fun s _ => ?_)
  ·obtain ⟨w, j⟩ := s
   unfold M87_L2
   simp only at hs2 ⊢
   refine .ite (fun hc2 => ?_) fun hc2 => .brk trivial
   have hc2 := of_decide_eq_true hc2
   have fin : IntKind.wrap .i64 (j + 1) = j + 1 := wr (by omega) (by omega)
   refine .after (.ite (fun hc3 => ?_) fun hc3 => ?_)
   ·have hc3 := of_decide_eq_true hc3
    refine .loop (fun s => 0 ≤ s.2 ∧ s.2 ≤ 4) (fun s => (4 - s.2).toNat) (fun _ => True) (by simp; omega) (by simp) (fun s hs4 => ?_) (fun s _ => .brk (.go (by rw [fin]; simp only; omega)))
    obtain ⟨w, k⟩ := s
    unfold M87_L4
    simp only at hs4 ⊢
    refine .ite (fun hc4 => ?_) fun hc4 => .brk trivial
    have hc4 := of_decide_eq_true hc4
    rw [wr (n := 4 * j) (by omega) (by omega), wr (n := i + 4 * j) (by omega) (by omega), wr (n := i + 4 * j + k) (by omega) (by omega), wr (n := k + 1) (by omega) (by omega)]
    refine .ix (by omega) (by rw [ArL]; omega) fun _ _ _ => .ix (by omega) (by omega) fun _ _ _ => .ix (by omega) (by rw [ArL]; omega) fun _ _ _ => .go ?_
    simp only
    omega
   ·have hc3 : ¬ j < 16 := by simpa using hc3
    rw [wr (n := j - 15) (by omega) (by omega), wr (n := j - 2) (by omega) (by omega), wr (n := j - 16) (by omega) (by omega), wr (n := j - 7) (by omega) (by omega)]
    refine .ix (by omega) (by rw [ArL]; omega) fun _ _ _ => .ix (by omega) (by rw [ArL]; omega) fun _ _ _ => .ix (by omega) (by rw [ArL]; omega) fun _ _ _ => .ix (by omega) (by rw [ArL]; omega) fun _ _ _ => ?_
    refine .bind _ (t134 (by omega)) fun _ _ => .bind _ (t134 (by omega)) fun _ _ => .bind _ (t134 (by omega)) fun _ _ => .bind _ (t134 (by omega)) fun _ _ => ?_
    refine .ix (by omega) (by rw [ArL]; omega) fun _ _ _ => .brk (.go ?_)
    rw [fin]; simp only; omega
  ·refine .loop (fun s => 0 ≤ s.2 ∧ s.2 ≤ 64) (fun s => (64 - s.2).toNat) (fun _ => True) (by simp; omega) (by simp) (fun s hs2 => ?_) (fun s _ => ?_)
   ·obtain ⟨w, j⟩ := s
    unfold M87_L6
    simp only at hs2 ⊢
    refine .ite (fun hc2 => ?_) fun hc2 => .brk trivial
    have hc2 := of_decide_eq_true hc2
    have fin : IntKind.wrap .i64 (j + 1) = j + 1 := wr (by omega) (by omega)
    rw [fin]
    repeat' (first | exact trivial | refine T.bind _ (t134 (by omega)) fun _ _ => ?_ | refine T.ix (by omega) (by rw [ArL]; omega) fun _ _ _ => ?_)
    refine .go ?_
    simp only; omega
   ·refine .loop (fun s => 0 ≤ s.2 ∧ s.2 ≤ 8) (fun s => (8 - s.2).toNat) (fun _ => True) (by simp; omega) (by simp) (fun s hs2 => ?_) (fun s _ => ?_)
    ·obtain ⟨w, j⟩ := s
     unfold M87_L8
     simp only at hs2 ⊢
     refine .ite (fun hc2 => ?_) fun hc2 => .brk trivial
     have hc2 := of_decide_eq_true hc2
     rw [wr (n := j + 1) (by omega) (by omega)]
     refine .ix (by omega) (by rw [ArL]; omega) fun _ _ _ => .ix (by omega) (by rw [ArL]; omega) fun _ _ _ => .ix (by omega) (by rw [ArL]; omega) fun _ _ _ => .go ?_
     simp only; omega
    ·rw [wr (n := i + 64) (by omega) (by omega)]
     refine .go ?_
     simp only; omega
 ·refine .loop (fun s => 0 ≤ s.2 ∧ s.2 ≤ 32 ∧ gId s.1) (fun s => (32 - s.2).toNat) (fun s => gId s.1) (by simp; omega) ⟨by simp, by simp, ?_⟩ (fun s hs2 => ?_) (fun s hs => .some hs)
  ·intro x hx
   have : x = 0 := List.eq_of_mem_replicate hx
   subst this
   exact ⟨by omega, by omega⟩
  ·obtain ⟨w, j⟩ := s
   unfold M87_L10
   simp only at hs2 ⊢
   refine .ite (fun hc2 => ?_) fun hc2 => .brk hs2.2.2
   have hc2 := of_decide_eq_true hc2
   rw [wr (n := j + 1) (by omega) (by omega), Int.tdiv_eq_ediv_of_nonneg (by omega), wr (n := j / 4) (by omega) (by omega)]
   refine .ix (by omega) (by rw [ArL]; omega) fun _ _ _ => .grd (by simpa using wru0 _) (.ix (by omega) (by rw [ArL]; omega) fun _ _ _ => .go ⟨⟨?_, ?_, ?_⟩, ?_⟩)
   ·simp only; omega
   ·simp only; omega
   ·intro x hx
    rcases List.mem_or_eq_of_mem_set hx with h | rfl
    ·exact hs2.2.2 x h
    ·exact wrU8 _
   ·simp only; omega
end Go.Proofs.YtoomgangpjcaoaaGreat
namespace Go.Vm
section
variable {α β ρ : Type} {Q : β → Prop}
theorem T.ins {l : List α} {r : Int} {y : α} {k : List α → Option β} (h : 0 ≤ r ∧ r ≤ l.length) (hl : l.length ≤ 1000000) (hk : ∀ z : List α, z.length = l.length + 1 → (∀ x ∈ z, x ∈ l ∨ x = y) → T (k z) Q) :
    T ((Go.Vm.slc l 0 r).bind fun x => (Go.Vm.app ([] : List α) x).bind fun z => (Go.Vm.app z ([y] : List α)).bind fun z2 => (Go.Vm.slc l r l.length).bind fun x2 => (Go.Vm.app z2 x2).bind k) Q := by
  refine .slc (by omega) (.app (by simp; omega) (.app (by simp; omega) (.slc (by omega) (.app (by simp; omega) (hk _ (by simp; omega) fun x hx => ?_)))))
  simp only [List.mem_append, List.mem_singleton] at hx
  rcases hx with ((h | h) | h) | h
  · simp at h
  · exact .inl (List.mem_of_mem_take (List.mem_of_mem_drop h))
  · exact .inr h
  · exact .inl (List.mem_of_mem_take (List.mem_of_mem_drop h))
theorem T.scan {Q : ρ → Prop} {l : List α} {F : Nat} {body : Int → Option (Lp Int ρ)} {g : α → Option (Lp Bool (Lp Int ρ))} {k : Int → Option ρ} (hF : l.length < F) (hl : l.length < 1000000)
    (hb : ∀ i, body i = Go.Vm.after (if decide (i < (l.length : Int)) = true then (Go.Vm.ix l i).bind g else Option.some (.brk false)) fun j => if j = true then Option.some (.go (IntKind.wrap .i64 (i + 1))) else Option.some (.brk i))
    (hg : ∀ x ∈ l, T (g x) (L3 (fun _ => False) (fun _ => True) (fun _ => False))) (hk : ∀ r : Int, 0 ≤ r ∧ r ≤ l.length → T (k r) Q) : T (Go.Vm.after (loopM body F 0) k) Q := by
  refine .loop (fun i => 0 ≤ i ∧ i ≤ l.length) (fun i => (l.length - i).toNat) (fun i => 0 ≤ i ∧ i ≤ l.length) (by omega) (by omega) (fun i hi => ?_) (fun i hi => hk i hi)
  rw [hb]
  refine .after (.ite (fun hc => ?_) fun hc => .brk ?_)
  · have hc := of_decide_eq_true hc
    refine .ix (by omega) (by omega) fun x _ hx => (hg x hx).mono fun a ha => ?_
    cases a with
    | go s => exact ha
    | ret s => exact ha.elim
    | brk s =>
      refine T.ite (fun _ => .go ?_) fun _ => .brk hi
      rw [wr (by omega) (by omega)]
      omega
  · exact T.ite (fun h => by cases h) fun _ => .brk hi
end
end Go.Vm
namespace Go.Proofs.YtoomgangpjcaoaaGreat
open Go.Vm
def fOk (f : TFile) : Prop := f.Path.size ≤ 100 ∧ gL gB f.Data
def fSm (f : TFile) : Prop := fOk f ∧ f.Data.length ≤ 200
theorem t129 {F : Nat} {l : List TFile} (hF : 1000 ≤ F) : T (M139 F l) fun b => b = false → l.length ≤ 6 ∧ ∀ x ∈ l, x.Data.length ≤ 200 := by
 unfold M139
 refine .ite (fun hc => .some fun h => by cases h) fun hc => ?_
 have hc : l.length ≤ 6 := by simp at hc; omega
 rw [any_loop (l := l) (fun x => decide (200 < (x.Data.length : Int))) true (by omega) (fun i x hx _ hi => by
  unfold M139_L0
  rw [wr1 (by omega)]
  simp only [ix_nat, hx, Option.bind_some, Int.ofNat_lt, hi, decide_true, if_true]
  split <;> rfl) (by unfold M139_L0; simp)]
 cases h : l.any fun x => decide (200 < (x.Data.length : Int))
 ·refine .some fun _ => ⟨hc, fun x hx => ?_⟩
  have := List.any_eq_false.1 h x hx
  simp at this
  omega
 ·exact .some fun h => by cases h
theorem t106 {F : Nat} {l : List TFile} (hF : 1000 ≤ F) (ho : ∀ f ∈ l, fOk f) : T (M85 F l) fun r => r.2 = 0 → r.1.length ≤ 6 ∧ ∀ f ∈ r.1, fSm f := by
  unfold M85
  refine .bind _ (t129 hF) fun b hb => .ite (fun _ => .some fun h => by simp at h) fun hc => ?_
  obtain ⟨hn, hd⟩ := hb (by simpa using hc)
  refine .loop (fun i => 0 ≤ i ∧ i ≤ l.length) (fun i => (l.length - i).toNat) (fun _ => True) (by omega) (by omega) (fun i hi => ?_) (fun i _ => ?_)
  · unfold M85_L0
    refine .ite (fun hc => ?_) fun hc => .brk trivial
    have hc := of_decide_eq_true hc
    refine .ix (by omega) (by omega) fun x _ hx => .bindEq (m104 hF (ho x hx).1) (.ite (fun _ => .ret fun h => by simp at h) fun _ => .go ?_)
    rw [wr (by omega) (by omega)]
    omega
  · refine .loop (fun s => 0 ≤ s.2 ∧ s.2 ≤ l.length ∧ (s.1.length : Int) = s.2 ∧ ∀ f ∈ s.1, fSm f) (fun s => (l.length - s.2).toNat) (fun s => s.1.length ≤ 6 ∧ ∀ f ∈ s.1, fSm f) (by simp; omega) (by simp) (fun s hs => ?_) (fun s hs => .some fun _ => hs)
    obtain ⟨q, i⟩ := s
    simp only at hs
    unfold M85_L2
    refine .ite (fun hc => ?_) fun hc => .brk ⟨by simp only; omega, hs.2.2.2⟩
    have hc := of_decide_eq_true hc
    simp only at hc
    refine .loop (fun j => 0 ≤ j ∧ j ≤ q.length) (fun j => (q.length - j).toNat) (fun j => 0 ≤ j ∧ j ≤ q.length) (by omega) (by omega) (fun j hj => ?_) (fun j hj => ?_)
    · unfold M85_L4
      have fin : j < q.length → 0 ≤ IntKind.wrap .i64 (j + 1) ∧ IntKind.wrap .i64 (j + 1) ≤ q.length ∧ (q.length - IntKind.wrap .i64 (j + 1)).toNat < (q.length - j).toNat := fun h => by
        rw [wr (by omega) (by omega)]; omega
      refine .after (.ite (fun hc2 => ?_) fun hc2 => .brk (T.ite (fun h => by cases h) fun _ => .brk hj))
      have hc2 := of_decide_eq_true hc2
      have := fin hc2
      refine .ix (by omega) (by omega) fun x _ hx => .ix (by omega) (by omega) fun y _ hy => .brk (T.ite (fun _ => .go (by omega)) fun _ => .brk hj)
    · have rest : T (if (false : Bool) = true then some (.ret ([], 9)) else (slc q 0 j).bind fun x494 => (ix l i).bind fun x496 => (ix l i).bind fun x498 => (app ([] : List TFile) x494).bind fun z500 => (M141 F x498.Data).bind fun y506 => (app z500 ([({ Path := x496.Path, Data := y506 } : TFile)] : List TFile)).bind fun z508 => (slc q j (q.length : Int)).bind fun x513 => (app z508 x513).bind fun z515 => some (.go (z515, IntKind.wrap .i64 (i + 1))))
          (L3 (fun s' : List TFile × Int => (0 ≤ s'.2 ∧ s'.2 ≤ l.length ∧ (s'.1.length : Int) = s'.2 ∧ ∀ f ∈ s'.1, fSm f) ∧ (l.length - s'.2).toNat < (l.length - i).toNat) (fun s => s.1.length ≤ 6 ∧ ∀ f ∈ s.1, fSm f) (fun r : List TFile × Int => r.2 = 0 → r.1.length ≤ 6 ∧ ∀ f ∈ r.1, fSm f)) := by
        refine T.ite (fun h => by cases h) fun _ => ?_
        rw [wr (n := i + 1) (by omega) (by omega)]
        refine .slc (by omega) (.ix (by omega) (by omega) fun x _ hx => .ix (by omega) (by omega) fun y _ hy => .app (by simp; omega) (.bindEq (m100 (by have := hd y hy; omega)) (.app (by simp; omega) (.slc (by omega) (.app (by simp; omega) (.go ?_))))))
        refine ⟨⟨by simp only; omega, by simp only; omega, by simp; omega, fun f hf => ?_⟩, by simp only; omega⟩
        simp only [List.mem_append, List.mem_singleton] at hf
        rcases hf with ((h | h) | h) | h
        · simp at h
        · exact hs.2.2.2 f (List.mem_of_mem_take (List.mem_of_mem_drop h))
        · subst h
          exact ⟨⟨(ho x hx).1, (ho y hy).2⟩, hd y hy⟩
        · exact hs.2.2.2 f (List.mem_of_mem_take (List.mem_of_mem_drop h))
      refine .after (.ite (fun hc2 => ?_) fun hc2 => .brk rest)
      have hc2 := of_decide_eq_true hc2
      refine .ix (by omega) (by omega) fun x _ hx => .ix (by omega) (by omega) fun y _ hy => .brk ?_
      cases x.Path.toList == y.Path.toList
      · exact rest
      · exact .ret fun h => by simp at h
theorem t145 {F : Nat} {l : List Int} (hF : 1000 ≤ F) (h0 : 0 < l.length) (hl : l.length ≤ 300) : T (M184 F l) fun k => 0 < k ∧ k ≤ l.length ∧ (8 ≤ k ∨ k = l.length) := by
 unfold M184
 refine .loop (fun s => 0 ≤ s.2 ∧ s.2 ≤ l.length) (fun s => (l.length - s.2).toNat) (fun _ => True) (by simp; omega) (by simp) (fun s hs => ?_) (fun s _ => .some (by omega))
 obtain ⟨h, i⟩ := s
 simp only at hs
 unfold M184_L0
 refine .ite (fun hc => ?_) fun hc => .brk trivial
 have hc := of_decide_eq_true hc
 simp only at hc
 rw [wr (n := i + 1) (by omega) (by omega)]
 have k2 : (8 ≤ i + 1) ∨ ¬ (8 ≤ i + 1) := by omega
 have e64 : (i + 1 == 64) = decide (i + 1 = 64) := rfl
 refine .ix (by omega) (by omega) fun x _ hx => .after (.ite (fun hc2 => ?_) fun hc2 => ?_)
 ·have hc2 := of_decide_eq_true hc2
  refine .ite (fun _ => .brk (T.ite (fun _ => .ret (by omega)) fun h => absurd rfl h)) fun _ => .brk (T.ite (fun _ => .ret (by omega)) fun _ => .go (by simp only; omega))
 ·refine .brk (T.ite (fun h => .ret ?_) fun _ => .go (by simp only; omega))
  have : i + 1 = 64 := by simpa using h
  omega
theorem t131 {F : Nat} {l : List Int} (hF : 1000 ≤ F) (hl : l.length ≤ 200) (gl : gL gB l) : T (M143 F l) fun r => r.length ≤ 25 ∧ ∀ x ∈ r, x.length ≤ 300 ∧ gL gB x := by
 unfold M143
 refine .loop (fun s => s.2.length ≤ l.length ∧ gL gB s.2 ∧ (8 * s.1.length + s.2.length ≤ l.length ∨ (s.2.length = 0 ∧ 8 * s.1.length ≤ l.length + 7)) ∧ ∀ x ∈ s.1, x.length ≤ 300 ∧ gL gB x) (fun s => s.2.length) (fun s => s.1.length ≤ 25 ∧ ∀ x ∈ s.1, x.length ≤ 300 ∧ gL gB x) (by simp; omega) (by simp [gl]) (fun s hs => ?_) (fun s hs => .some hs)
 obtain ⟨q, d⟩ := s
 simp only at hs
 obtain ⟨s1, s2, s3, s4⟩ := hs
 unfold M143_L0
 refine .ite (fun hc => ?_) fun hc => .brk ⟨by simp only; omega, s4⟩
 have hc := of_decide_eq_true hc
 simp only at hc
 refine .bind _ (t145 hF (by simp only; omega) (by simp only; omega)) fun k hk => .slc (by omega) (.bindEq (m100 (by simp; omega)) (.app (by simp; omega) (.slc (by simp only at hk ⊢; omega) (.go ?_))))
 simp only at hk ⊢
 refine ⟨⟨by simp; omega, fun x hx => s2 x (List.mem_of_mem_take (List.mem_of_mem_drop hx)), by simp; omega, fun x hx => ?_⟩, by simp; omega⟩
 rcases List.mem_append.1 hx with h | h
 ·exact s4 x h
 ·rw [List.mem_singleton] at h
  subst h
  exact ⟨by simp; omega, fun y hy => s2 y (List.mem_of_mem_take (List.mem_of_mem_drop hy))⟩
theorem t130 {F : Nat} {l : List TFile} (hF : 1000 ≤ F) (ho : ∀ f ∈ l, fOk f) : T (M142 F l) fun _ => True := by
 unfold M142
 refine .bind _ (t129 hF) fun b hb => .ite (fun _ => .some trivial) fun hc => ?_
 obtain ⟨hn, hd⟩ := hb (by simpa using hc)
 refine .loop (fun i => 0 ≤ i ∧ i ≤ l.length) (fun i => (l.length - i).toNat) (fun _ => True) (by omega) (by omega) (fun i hi => ?_) (fun i _ => .some trivial)
 unfold M142_L0
 refine .ite (fun hc => ?_) fun hc => .brk trivial
 have hc := of_decide_eq_true hc
 rw [wr (n := i + 1) (by omega) (by omega)]
 have fin : ∀ b : Bool, T (if b = true then (some (.ret 1) : Option (Lp Int Int)) else some (.go (i + 1))) (L3 (fun s' => (0 ≤ s' ∧ s' ≤ l.length) ∧ (l.length - s').toNat < (l.length - i).toNat) (fun _ => True) (fun _ => True)) := fun b => T.ite (fun _ => .ret trivial) fun _ => .go (by omega)
 refine .after (.ix (by omega) (by omega) fun x _ hx => .bindEq (m104 hF (ho x hx).1) (.ite (fun _ => .brk (fin _)) fun _ => .ite (fun h => ?_) fun _ => .brk (fin _)))
 have h := of_decide_eq_true h
 rw [wr (by omega) (by omega)]
 exact .ix (by omega) (by omega) fun _ _ _ => .ix (by omega) (by omega) fun _ _ _ => .brk (fin _)
theorem t105 {F : Nat} {l : List Id32} {d : Id32} (hF : 1000 ≤ F) (hl : l.length < 900) (gl : ∀ x ∈ l, gId x) (hd : gId d) :
    T (M106 F l d) fun r => 0 ≤ r.2.1 ∧ r.2.1 ≤ l.length ∧ r.1.length = l.length + (if r.2.2 = true then 1 else 0) ∧ ∀ x ∈ r.1, gId x := by
  unfold M106
  refine T.scan (by omega) (by omega) (fun _ => rfl) (fun x hx => .bindEq (m128 hF (gl x hx) hd) (.brk trivial)) fun r hr => ?_
  have rest : T ((slc l 0 r).bind fun x84 => (app ([] : List Id32) x84).bind fun z86 => (app z86 ([d] : List Id32)).bind fun z92 => (slc l r (l).length).bind fun x98 => (app z92 x98).bind fun z100 => some (z100, r, true))
      fun r => 0 ≤ r.2.1 ∧ r.2.1 ≤ l.length ∧ r.1.length = l.length + (if r.2.2 = true then 1 else 0) ∧ ∀ x ∈ r.1, gId x := by
    refine .ins hr (by omega) fun z h1 h2 => .some ⟨hr.1, hr.2, h1, fun x hx => ?_⟩
    rcases h2 x hx with h | rfl
    · exact gl x h
    · exact hd
  refine .after (.ite (fun hc => ?_) fun _ => .brk (T.ite (fun h => by cases h) fun _ => rest))
  have hc := of_decide_eq_true hc
  refine .ix (by omega) (by omega) fun x _ hx => .brk ?_
  refine T.ite (fun _ => .some ?_) fun _ => rest
  exact ⟨hr.1, hr.2, rfl, gl⟩
open Go.Vm
def manOk (m : TManifest) : Prop := m.Name.size ≤ 100 ∧ m.Parts.length ≤ 10 ∧ (∀ p ∈ m.Parts, p.Path.size ≤ 100 ∧ p.Ids.length ≤ 40) ∧ g_Manifest m
def pieces (l : List (List Int)) (n : Nat) : Prop := l.length ≤ n ∧ ∀ x ∈ l, x.length ≤ 300 ∧ gL gB x
structure Chg (c : TChange) : Prop where
 seq : gI c.Snap.Seq
 man : manOk c.Snap.Man
 locs : c.Snap.Locs = []
 cn : c.Chunks.length ≤ 160
 ch : ∀ x ∈ c.Chunks, gId x.Id ∧ x.Data.length ≤ 300 ∧ gL gB x.Data ∧ x.Locs = []
 sq : gI c.Seq
 vol : gI c.Vol
 it : c.Items.length ≤ 64
 iti : ∀ x ∈ c.Items, gI x.Seq ∧ gI x.Of ∧ gI x.Off ∧ gI x.Len
theorem man0 : manOk { Name := ByteArray.empty, Parts := [] } := ⟨by decide, by simp, by simp, trivial, fun _ h => by simp at h⟩
theorem t107 {F : Nat} {nm : ByteArray} {fs : List TFile} (hF : 1000 ≤ F) (hn : nm.size ≤ 100) (h6 : fs.length ≤ 6) (ho : ∀ f ∈ fs, fSm f) : T (M86 F nm fs) fun r => manOk r.1 ∧ pieces r.2.1 150 := by
 unfold M86
 refine .bindEq (m104 hF hn) (.ite (fun _ => .some ⟨man0, by simp, by simp⟩) fun _ => .bind _ (t130 hF fun f hf => (ho f hf).1) fun y _ => .ite (fun _ => .some ⟨man0, by simp, by simp⟩) fun _ => ?_)
 refine .loop (fun s => 0 ≤ s.2.2.2 ∧ s.2.2.2 ≤ fs.length ∧ (s.1.length : Int) = s.2.2.2 ∧ (∀ p ∈ s.1, (p.Path.size ≤ 100 ∧ p.Ids.length ≤ 40) ∧ g_Part p) ∧ (s.2.1.length : Int) ≤ 25 * s.2.2.2 ∧ (∀ x ∈ s.2.1, x.length ≤ 300 ∧ gL gB x) ∧ s.2.2.1.length = s.2.1.length ∧ ∀ x ∈ s.2.2.1, gId x)
  (fun s => (fs.length - s.2.2.2).toNat) (fun s => (s.1.length ≤ 6 ∧ ∀ p ∈ s.1, (p.Path.size ≤ 100 ∧ p.Ids.length ≤ 40) ∧ g_Part p) ∧ pieces s.2.1 150) (by simp; omega) (by simp) (fun s hs => ?_) (fun s hs => ?_)
 ·obtain ⟨ps, ds, ids, i⟩ := s
  simp only at hs
  obtain ⟨s1, s2, s3, s4, s5, s6, s7, s8⟩ := hs
  unfold M86_L0
  refine .ite (fun hc => ?_) fun hc => .brk ⟨⟨by simp only; omega, s4⟩, by simp only; omega, s6⟩
  have hc := of_decide_eq_true hc
  simp only at hc
  rw [wr (n := i + 1) (by omega) (by omega)]
  refine .ix (by omega) (by omega) fun x e hx => .ix (by omega) (by omega) fun x2 e2 hx2 => .ix (by omega) (by omega) fun x3 e3 hx3 => .bind _ (t131 hF (ho x3 hx3).2 (ho x3 hx3).1.2) fun y hy => ?_
  obtain ⟨y1, y2⟩ := hy
  refine .loop (fun s => 0 ≤ s.2.2.2 ∧ s.2.2.2 ≤ y.length ∧ (s.1.length : Int) = s.2.2.2 ∧ (∀ d ∈ s.1, gId d) ∧ (s.2.1.length : Int) ≤ 25 * i + s.2.2.2 ∧ (∀ x ∈ s.2.1, x.length ≤ 300 ∧ gL gB x) ∧ s.2.2.1.length = s.2.1.length ∧ ∀ x ∈ s.2.2.1, gId x)
   (fun s => (y.length - s.2.2.2).toNat) (fun s => (s.1.length ≤ 25 ∧ (∀ d ∈ s.1, gId d)) ∧ (s.2.1.length : Int) ≤ 25 * i + 25 ∧ (∀ x ∈ s.2.1, x.length ≤ 300 ∧ gL gB x) ∧ s.2.2.1.length = s.2.1.length ∧ ∀ x ∈ s.2.2.1, gId x) (by simp; omega) ⟨by simp, by simp, by simp, by simp, by simp only; omega, s6, s7, s8⟩ (fun s hs => ?_) (fun s hs => ?_)
  ·obtain ⟨q, ds, ids, j⟩ := s
   simp only at hs
   obtain ⟨r1, r2, r3, r4, r5, r6, r7, r8⟩ := hs
   unfold M86_L2
   refine .ite (fun hc2 => ?_) fun hc2 => .brk ⟨⟨by simp only; omega, r4⟩, by simp only; omega, r6, r7, r8⟩
   have hc2 := of_decide_eq_true hc2
   simp only at hc2
   rw [wr (n := j + 1) (by omega) (by omega)]
   refine .ix (by omega) (by omega) fun z _ hz => .bind _ (t108 hF (y2 z hz).1) fun d hd => .app (by simp; omega) (.bind _ (t105 hF (by simp only; omega) r8 hd) fun r hr => ?_)
   obtain ⟨q1, q2, q3, q4⟩ := hr
   simp only at q2 q3
   have hq : ∀ a ∈ q ++ [d], gId a := fun a ha => by
    rcases List.mem_append.1 ha with h | h
    ·exact r4 a h
    ·rw [List.mem_singleton] at h; exact h ▸ hd
   refine .after (.ite (fun hi => ?_) fun hi => .brk (.go ?_))
   ·rw [if_pos hi] at q3
    refine .slc (by simp only; omega) (.ix (by omega) (by omega) fun z2 _ hz2 => .app (by simp; omega) (.app (by simp; omega) (.slc (by simp only; omega) (.app (by simp; omega) (.brk (.go ?_))))))
    refine ⟨⟨by simp only; omega, by simp only; omega, by simp; omega, hq, by simp; omega, fun a ha => ?_, by simp; omega, q4⟩, by simp only; omega⟩
    simp only [List.mem_append, List.mem_singleton] at ha
    rcases ha with ((h | h) | h) | h
    ·simp at h
    ·exact r6 a (List.mem_of_mem_take (List.mem_of_mem_drop h))
    ·exact h ▸ y2 z2 hz2
    ·exact r6 a (List.mem_of_mem_take (List.mem_of_mem_drop h))
   ·rw [if_neg hi] at q3
    exact ⟨⟨by simp only; omega, by simp only; omega, by simp; omega, hq, by simp only; omega, r6, by simp only; omega, q4⟩, by simp only; omega⟩
  ·obtain ⟨q, ds2, ids2, j⟩ := s
   simp only at hs
   obtain ⟨⟨a1, a2⟩, a3, a4, a5, a6⟩ := hs
   refine .app (by simp; omega) (.go ?_)
   refine ⟨⟨by simp only; omega, by simp only; omega, by simp; omega, fun p hp => ?_, by simp only; omega, a4, a5, a6⟩, by simp only; omega⟩
   rcases List.mem_append.1 hp with h | h
   ·exact s4 p h
   ·rw [List.mem_singleton] at h
    subst h
    have := (ho x2 hx2).2
    exact ⟨⟨(ho x hx).1.1, by simp only; omega⟩, trivial, by simp only [gI]; omega, a2⟩
 ·obtain ⟨ps, ds, ids, i⟩ := s
  exact .some ⟨⟨hn, by have := hs.1.1; simp only at this ⊢; omega, fun p hp => (hs.1.2 p hp).1, trivial, fun p hp => (hs.1.2 p hp).2⟩, hs.2⟩
theorem bstr1 (n : Int) : ∃ b, bstr [IntKind.wrap .u8 n] = some b ∧ b.size = 1 := by
 have h := wrU8 n
 refine ⟨_, by unfold bstr; rw [if_pos (by simp; omega)], ?_⟩
 rfl
structure Ok (c : TCatalog) : Prop where
 sm : Sm c
 rg : Rng c
theorem gI_wr (n : Int) : gI (IntKind.wrap .i64 n) := wrI n
theorem chg0 {k s : Int} {v : Int} (hs : gI s) (hv : gI v) {l : List TItem} (h6 : l.length ≤ 64) (hl : ∀ x ∈ l, gI x.Seq ∧ gI x.Of ∧ gI x.Off ∧ gI x.Len) :
    Chg { Kind := k, Snap := { Seq := 0, Man := { Name := ByteArray.empty, Parts := [] }, Locs := [] }, Chunks := [], Seq := s, Vol := v, Items := l } :=
  ⟨by simp [gI], man0, rfl, by simp, by simp, hs, hv, h6, hl⟩
theorem t66 {F : Nat} {c : TCatalog} {a : TAct} (hF : 1000 ≤ F) (hc : Ok c) (ho : ∀ f ∈ a.Tree, fOk f) : T (M35 F c a) fun r => Chg r.1 := by
  have g0 : gI 0 := by simp [gI]
  have c1 := hc.rg.ch
  have c2 := hc.rg.sn
  have c3 := hc.rg.ex
  have c4 := hc.rg.vo
  have gq := hc.sm.g.1
  unfold M35
  obtain ⟨b, hb, hb1⟩ := bstr1 (IntKind.wrap .u64 (97 + ((IntKind.wrap .u64 a.N).tmod 5)))
  rw [hb]
  have e1 : (ByteArray.mk #[110]).size = 1 := rfl
  have e2 : ((ByteArray.mk #[110]) ++ b).size = 2 := by rw [ByteArray.size_append, e1, hb1]
  have gv : ∀ j : Int, gI j → ∀ (k : Int → Option (TChange × Bool)), (∀ j, gI j → T (k j) fun r => Chg r.1) → T (k j) fun r => Chg r.1 := fun j h k hk => hk j h
  refine .bindEq rfl (.grd (by rw [e1, hb1]; rfl) ?_)
  refine .after (T.mono (P := L3 (fun _ => False) gI (fun _ => False)) (.ite (fun h => ?_) fun _ => .brk g0) fun j hj => ?_)
  · have h := of_decide_eq_true h
    refine .grd ?_ (.brk (gI_wr _))
    rw [wru (by omega)]
    simp
    intro h2
    rw [h2] at h
    simp at h
  cases j with
  | go s => exact hj
  | ret s => exact hj.elim
  | brk v =>
  replace hj : gI v := hj
  refine T.after (T.mono (P := L3 (fun _ => False) (fun _ => True) (fun _ => False)) (.ite (fun _ => .brk trivial) fun _ => .brk trivial) fun j hj2 => ?_)
  cases j with
  | go s => exact hj2
  | ret s => exact hj2.elim
  | brk v2 =>
  refine T.ite (fun _ => ?_) fun _ => ?_
  · refine .bind _ (t106 hF ho) fun y hy => .ite (fun _ => .some (chg0 g0 g0 (by simp) (by simp))) fun h0 => ?_
    obtain ⟨y1, y2⟩ := hy (by simpa using h0)
    refine .bind _ (t107 hF (by omega) y1 y2) fun m hm => ?_
    obtain ⟨m1, m2, m3⟩ := hm
    refine .loop (fun s => 0 ≤ s.2 ∧ s.2 ≤ m.2.1.length ∧ (s.1.length : Int) ≤ s.2 ∧ ∀ x ∈ s.1, gId x.Id ∧ x.Data.length ≤ 300 ∧ gL gB x.Data ∧ x.Locs = []) (fun s => (m.2.1.length - s.2).toNat) (fun s => s.1.length ≤ 160 ∧ ∀ x ∈ s.1, gId x.Id ∧ x.Data.length ≤ 300 ∧ gL gB x.Data ∧ x.Locs = []) (by simp; omega) (by simp) (fun s hs => ?_) (fun s hs => ?_)
    · obtain ⟨q, i⟩ := s
      simp only at hs
      unfold M35_L1
      refine .ite (fun h => ?_) fun _ => .brk ⟨by simp only; omega, hs.2.2.2⟩
      have h := of_decide_eq_true h
      simp only at h
      rw [wr (n := i + 1) (by omega) (by omega)]
      obtain ⟨n, hn, _⟩ := m64 (F := F) (c := c) (d := idZ) hF (by omega)
      refine .ix (by omega) (by omega) fun x _ hx => .bind _ (t108 hF (m3 x hx).1) fun d hd => ?_
      obtain ⟨n, hn, _⟩ := m64 (F := F) (c := c) (d := d) hF (by omega)
      refine .bindEq hn (.after (.ite (fun _ => .ix (by omega) (by omega) fun x2 _ hx2 => .app (by simp; omega) (.brk (.go ?_))) fun _ => .brk (.go ⟨⟨by simp only; omega, by simp only; omega, by simp only; omega, hs.2.2.2⟩, by simp only; omega⟩)))
      refine ⟨⟨by simp only; omega, by simp only; omega, by simp; omega, fun y hy => ?_⟩, by simp only; omega⟩
      rcases List.mem_append.1 hy with h | h
      · exact hs.2.2.2 y h
      · rw [List.mem_singleton] at h
        subst h
        exact ⟨hd, (m3 x2 hx2).1, (m3 x2 hx2).2, rfl⟩
    · obtain ⟨q, i⟩ := s
      exact .some ⟨gq, m1, rfl, hs.1, hs.2, g0, g0, by simp, by simp⟩
  · refine T.after (T.mono (P := L3 (fun _ => False) (fun _ => True) (fun _ => False)) (.ite (fun _ => .brk trivial) fun _ => .brk trivial) fun j hj2 => ?_)
    cases j with
    | go s => exact hj2
    | ret s => exact hj2.elim
    | brk v3 =>
    refine T.ite (fun _ => ?_) fun _ => ?_
    · refine .ite (fun _ => .some (chg0 g0 g0 (by simp) (by simp))) fun h0 => ?_
      have h0 : 0 < c.Snaps.length := by
        have : ¬ ((c.Snaps.length : Int) = 0) := by simpa using h0
        omega
      obtain ⟨k, hk, ek⟩ := idxW a.N h0 (by omega)
      rw [wru (by omega), ek]
      refine .grd (by simp; intro h; rw [h] at h0; simp at h0) (.ix (by omega) (by omega) fun x _ hx => ?_)
      have gx := hc.sm.g.2.1 x hx
      refine .ite (fun _ => .some (chg0 gx.1 g0 (by simp) (by simp))) fun _ => .some (chg0 g0 hj (by simp) fun y hy => ?_)
      rw [List.mem_singleton] at hy
      subst hy
      exact ⟨gq, gx.1, by simp [gI], by simp [gI]⟩
    · refine T.after (T.mono (P := L3 (fun _ => False) (fun _ => True) (fun _ => False)) (.ite (fun _ => .brk trivial) fun _ => .brk trivial) fun j hj2 => ?_)
      cases j with
      | go s => exact hj2
      | ret s => exact hj2.elim
      | brk v4 =>
      refine T.ite (fun _ => ?_) fun _ => .ite (fun _ => .some (chg0 g0 hj (by simp) (by simp))) fun _ => .some (chg0 g0 hj (by simp) (by simp))
      have w1 : IntKind.wrap .i64 ((c.Chunks.length : Int) + (c.Snaps.length : Int)) = (c.Chunks.length : Int) + (c.Snaps.length : Int) := wr (by omega) (by omega)
      have w2 : IntKind.wrap .i64 ((c.Chunks.length : Int) + (c.Snaps.length : Int) + (c.Exps.length : Int)) = (c.Chunks.length : Int) + (c.Snaps.length : Int) + (c.Exps.length : Int) := wr (by omega) (by omega)
      refine .loop (fun s => 0 ≤ s.2.2 ∧ s.2.2 ≤ 420 ∧ s.1.length ≤ 64 ∧ (∀ x ∈ s.1, gI x.Seq ∧ gI x.Of ∧ gI x.Off ∧ gI x.Len) ∧ gI s.2.1) (fun s => (420 - s.2.2).toNat) (fun s => s.1.length ≤ 64 ∧ ∀ x ∈ s.1, gI x.Seq ∧ gI x.Of ∧ gI x.Off ∧ gI x.Len) (by simp; omega) (by simp [gI]) (fun s hs => ?_) (fun s hs => ?_)
      · obtain ⟨q, o, i⟩ := s
        simp only at hs
        obtain ⟨s1, s2, s3, s4, s5⟩ := hs
        unfold M35_L3
        simp only [w1, w2]
        refine .after (.ite (fun h => .brk (T.ite (fun h2 => ?_) fun _ => .brk ⟨s3, s4⟩)) fun _ => .brk (T.ite (fun h => by cases h) fun _ => .brk ⟨s3, s4⟩))
        have h := of_decide_eq_true h
        have h2 := of_decide_eq_true h2
        rw [wr (n := i + 1) (by omega) (by omega)]
        have put : ∀ y : TItem, (gI y.Seq ∧ gI y.Of ∧ gI y.Off ∧ gI y.Len) → T ((app q ([y] : List TItem)).bind fun z1648 => some (.brk (z1648, IntKind.wrap .i64 (o + 20))) : Option (Lp (List TItem × Int) (Lp (List TItem × Int × Int) (TChange × Bool))))
            (L3 (fun _ => False) (fun s => s.1.length ≤ 64 ∧ (∀ x ∈ s.1, gI x.Seq ∧ gI x.Of ∧ gI x.Off ∧ gI x.Len) ∧ gI s.2) (fun _ => False)) := fun y hy => by
          refine .app (by simp; omega) (.brk ⟨by simp; omega, fun x hx => ?_, gI_wr _⟩)
          rcases List.mem_append.1 hx with h | h
          · exact s4 x h
          · rw [List.mem_singleton] at h
            exact h ▸ hy
        have g20 : gI 20 := by simp [gI]
        refine .after (T.mono (P := L3 (fun _ => False) (fun s => s.1.length ≤ 64 ∧ (∀ x ∈ s.1, gI x.Seq ∧ gI x.Of ∧ gI x.Off ∧ gI x.Len) ∧ gI s.2) (fun _ => False)) (.after ?_) fun j hj3 => ?_)
        · have mid : T (after (if (decide (i < (c.Chunks.length : Int))) = true then ((ix c.Chunks i).bind fun x1596 => some (.brk { { ({ Kind := 0, Id := idZ, Seq := 0, Of := 0, Off := o, Len := 20 } : TItem) with Kind := 1 } with Id := x1596.Id })) else after (if (decide (i < (c.Chunks.length : Int) + (c.Snaps.length : Int))) = true then ((ix c.Snaps (IntKind.wrap .i64 (i - (c.Chunks.length : Int)))).bind fun x1629 => some (.brk { { ({ Kind := 0, Id := idZ, Seq := 0, Of := 0, Off := o, Len := 20 } : TItem) with Kind := 2 } with Seq := x1629.Seq })) else (ix c.Exps (IntKind.wrap .i64 ((IntKind.wrap .i64 (i - (c.Chunks.length : Int))) - (c.Snaps.length : Int)))).bind fun x1634 => some (.brk { { { ({ Kind := 0, Id := idZ, Seq := 0, Of := 0, Off := o, Len := 20 } : TItem) with Kind := 3 } with Seq := x1634.Seq } with Of := x1634.Of }) : Option (Lp (TItem) (Lp (TItem) (Lp ((List TItem) × Int) (Lp ((List TItem) × Int × Int) (TChange × Bool)))))) fun j1623 => some (.brk j1623) : Option (Lp (TItem) (Lp ((List TItem) × Int) (Lp ((List TItem) × Int × Int) (TChange × Bool))))) fun j1590 => (app q ([j1590] : List TItem)).bind fun z1648 => some (.brk (z1648, IntKind.wrap .i64 (o + 20))) : Option (Lp ((List TItem) × Int) (Lp ((List TItem) × Int × Int) (TChange × Bool))))
              (L3 (fun _ => False) (fun s => s.1.length ≤ 64 ∧ (∀ x ∈ s.1, gI x.Seq ∧ gI x.Of ∧ gI x.Off ∧ gI x.Len) ∧ gI s.2) (fun _ => False)) := by
            refine .after (.ite (fun h3 => ?_) fun h3 => .after (.ite (fun h4 => ?_) fun h4 => ?_))
            · have h3 := of_decide_eq_true h3
              exact .ix (by omega) (by omega) fun x _ _ => .brk (put _ ⟨g0, g0, s5, g20⟩)
            · have h4 := of_decide_eq_true h4
              have h3 : ¬ (i < (c.Chunks.length : Int)) := by simpa using h3
              rw [wr (n := i - (c.Chunks.length : Int)) (by omega) (by omega)]
              exact .ix (by omega) (by omega) fun x _ hx => .brk (.brk (put _ ⟨(hc.sm.g.2.1 x hx).1, g0, s5, g20⟩))
            · have h4 : ¬ (i < (c.Chunks.length : Int) + (c.Snaps.length : Int)) := by simpa using h4
              rw [wr (n := i - (c.Chunks.length : Int)) (by omega) (by omega), wr (n := i - (c.Chunks.length : Int) - (c.Snaps.length : Int)) (by omega) (by omega)]
              exact .ix (by omega) (by omega) fun x _ hx => .brk (.brk (put _ ⟨(hc.sm.g.2.2.2.1 x hx).1, (hc.sm.g.2.2.2.1 x hx).2.1, s5, g20⟩))
          refine .ite (fun h3 => ?_) fun _ => .brk (T.ite (fun h => by cases h) fun _ => mid)
          have h3 := of_decide_eq_true h3
          exact .ix (by omega) (by omega) fun x _ _ => .brk (T.ite (fun _ => .brk ⟨s3, s4, s5⟩) fun _ => mid)
        · cases j with
          | go s => exact hj3
          | ret s => exact hj3.elim
          | brk s =>
            obtain ⟨q2, o2⟩ := s
            exact .go ⟨⟨by simp only; omega, by simp only; omega, hj3.1, hj3.2.1, hj3.2.2⟩, by simp only; omega⟩
      · obtain ⟨q, o, i⟩ := s
        exact .some (chg0 g0 hj hs.1 hs.2)
end Go.Proofs.YtoomgangpjcaoaaGreat
