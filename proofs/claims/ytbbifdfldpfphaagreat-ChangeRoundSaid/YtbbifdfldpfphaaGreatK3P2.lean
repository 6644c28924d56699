import Derived.Test.YtbbifdfldpfphaaGreatK3P1
import Derived.Lib.AppendStr
set_option linter.unusedSimpArgs false
set_option linter.unusedVariables false
set_option maxHeartbeats 4000000
set_option maxRecDepth 100000
namespace Go.Vm
section
variable {P : Program} {E : fT} {h : aH} {w : World}
theorem fD.new_mp (r : fD E h w) {k : bZ} (hk : ¬ E.used k) (ents : Array MapEntry) (clk : Nat) :
    ∃ E', E'.ob k = some w.heap.size ∧ eB E w E' (w.alloc (.map ents clk)) ∧ fD E' (upd h k (some (.mp (ents.toList.map fun e => (e.key, e.val))))) (w.alloc (.map ents clk)) := by
  let E' : fT := { E with ob := fun x => if x = k then some w.heap.size else E.ob x, used := fun x => x = k ∨ E.used x }
  have hkeep : eB E w E' (w.alloc (.map ents clk)) := by
    refine r.keep_ext (fun g hg => heap_alloc_old w _ g hg) (by simp) rfl rfl rfl (fun _ _ h => h) rfl (fun _ h => .inr h) ?_ (fun _ _ => rfl)
    intro x g hx
    have : x ≠ k := fun e => hk (by subst e; exact r.obu _ _ hx)
    simpa [E', this] using hx
  have hnew := heap_alloc_new w (.map ents clk)
  have at' : ∀ x g, E'.at (upd h k (some (.mp (ents.toList.map fun e => (e.key, e.val))))) x g → (x = k ∧ g = w.heap.size) ∨ (x ≠ k ∧ E.at h x g) := by
    intro x g ha
    by_cases hx : x = k
    · subst hx
      refine .inl ⟨rfl, ?_⟩
      rcases ha with ⟨_, _, _, h2⟩ | ⟨_, _, _, _, h2, _⟩
      · simp only [E', if_true, Option.some.injEq] at h2; exact h2.symm
      · simp [upd] at h2
    · refine .inr ⟨hx, ?_⟩
      rcases ha with ⟨a, b, h2, h3⟩ | ⟨a, b, c, t, h2, h3⟩
      · rw [cC _ _ hx] at h2
        simp only [E', hx, if_false] at h3
        exact .inl ⟨a, b, h2, h3⟩
      · rw [cC _ _ hx] at h2
        exact .inr ⟨a, b, c, t, h2, h3⟩
  refine ⟨E', by simp [E'], hkeep, ?_⟩
  constructor
  · intro x ty' cs' hx
    by_cases e : x = k
    · subst e; rw [dB] at hx; cases hx
    · rw [cC _ _ e] at hx
      obtain ⟨g, cur', e1, e2, e3, e4⟩ := r.obj x ty' cs' hx
      exact ⟨g, cur', hkeep.ob _ _ e1, by rw [heap_alloc_old w _ g (Array.getElem?_eq_some_iff.1 e2).1]; exact e2, cB hkeep _ _ e3, e4⟩
  · intro x ty' sz m hx
    by_cases e : x = k
    · subst e; rw [dB] at hx; cases hx
    · rw [cC _ _ e] at hx
      obtain ⟨t, cur', e1, e2, e3, e4, e5⟩ := r.tok x ty' sz m hx
      exact ⟨t, cur', e1, e2, e3, by rw [heap_alloc_old w _ _ (Array.getElem?_eq_some_iff.1 e4).1]; exact e4, e5⟩
  · intro x t hx
    obtain ⟨ty', e⟩ := r.tkh x t hx
    have : x ≠ k := fun e' => hk (by subst e'; exact r.tk_used hx)
    exact ⟨ty', by rw [cC _ _ this]; exact e⟩
  · intro x y g hx hy
    rcases at' x g hx with ⟨rfl, hg⟩ | ⟨_, hx'⟩ <;> rcases at' y g hy with ⟨rfl, hg'⟩ | ⟨_, hy'⟩
    · rfl
    · have := r.at_lt hy'; omega
    · have := r.at_lt hx'; omega
    · exact r.sep x y g hx' hy'
  · intro x g hx
    rcases at' x g hx with ⟨rfl, rfl⟩ | ⟨_, hx'⟩
    · refine ⟨fun hl => ?_, fun o ho => ?_⟩
      · have := r.lkb _ hl; omega
      · obtain ⟨v, hv⟩ := r.imb _ _ ho
        have := gH hv; omega
    · exact r.dis x g hx'
  · intro x e hx
    by_cases e' : x = k
    · exact .inl e'
    · rw [cC _ _ e'] at hx; exact .inr (r.hus x e hx)
  · intro x g hx
    by_cases e' : x = k
    · exact .inl e'
    · simp only [E', e', if_false] at hx; exact .inr (r.obu x g hx)
  · exact wO r k
  · intro g o ho
    obtain ⟨v, hv⟩ := r.imb g o ho
    exact ⟨v, (hkeep.imm g o ho).2.trans hv⟩
  · intro g hg
    have := r.lkb g hg
    simp; omega
  · intro x es hx
    by_cases e' : x = k
    · subst e'
      rw [dB] at hx
      cases hx
      exact ⟨_, ents, clk, by simp [E'], hnew, rfl⟩
    · rw [cC _ _ e'] at hx
      obtain ⟨g, ents', clk', e1, e2, e3⟩ := r.mp x es hx
      exact ⟨g, ents', clk', hkeep.ob _ _ e1, by rw [heap_alloc_old w _ g (Array.getElem?_eq_some_iff.1 e2).1]; exact e2, e3⟩
theorem fD.set_mp (r : fD E h w) {k : bZ} {g : Nat} {es0 : List (Value × Value)} (hk : h k = some (.mp es0)) (hg : E.ob k = some g) (ents : Array MapEntry) (clk : Nat) {w' : World}
    (hw : w'.heap[g]? = some (.map ents clk)) (hoth : ∀ g', g' ≠ g → w'.heap[g']? = w.heap[g']?) (hsz : w.heap.size ≤ w'.heap.size) (hos : w'.os = w.os) (htp : w'.tape = w.tape) (hout : w'.output = w.output) :
    eB E w E w' ∧ fD E (upd h k (some (.mp (ents.toList.map fun e => (e.key, e.val))))) w' := by
  have hat : E.at h k g := .inl ⟨_, rfl, hk, hg⟩
  obtain ⟨d1, d2⟩ := r.dis k g hat
  have hkeep : eB E w E w' := by
    refine ⟨fun g' o ho => ⟨ho, ?_⟩, fun _ => Iff.rfl, fun g' hl => hoth g' fun e => d1 (e ▸ hl), fun _ h => h, fun _ _ h => h, ?_, fun _ t ht _ => ⟨t, ht, Nat.le_refl _, fun _ => rfl⟩, hos, htp, hout, hsz⟩
    · exact dU (hoth g' fun e => d2 o (e ▸ ho)) o
    · intro x t ht o ho
      refine ⟨.inr ⟨t, ht, rfl, ho⟩, dU (hoth _ fun e => ?_) o⟩
      obtain ⟨ty', e'⟩ := r.tkh x t ht
      have : x = k := r.sep x k g (.inr ⟨ty', _, _, t, e', ht, e⟩) hat
      subst this
      rw [hk] at e'; cases e'
  have at' : ∀ x g', E.at (upd h k (some (.mp (ents.toList.map fun e => (e.key, e.val))))) x g' → E.at h x g' := by
    intro x g' ha
    by_cases hx : x = k
    · subst hx
      rcases ha with ⟨a, b, h2, h3⟩ | ⟨_, _, _, _, h2, _⟩
      · exact .inl ⟨_, rfl, hk, h3⟩
      · rw [dB] at h2; cases h2
    · rcases ha with ⟨a, b, h2, h3⟩ | ⟨a, b, c, t, h2, h3⟩
      · rw [cC _ _ hx] at h2; exact .inl ⟨a, b, h2, h3⟩
      · rw [cC _ _ hx] at h2; exact .inr ⟨a, b, c, t, h2, h3⟩
  have ne : ∀ x e' g', x ≠ k → h x = some e' → e'.isOb = true → E.ob x = some g' → g' ≠ g := fun x e' g' hx he hb ho q => hx (r.sep x k g (.inl ⟨e', hb, he, q ▸ ho⟩) hat)
  refine ⟨hkeep, ?_⟩
  constructor
  · intro x ty' cs' hx
    by_cases e : x = k
    · subst e; rw [dB] at hx; cases hx
    · rw [cC _ _ e] at hx
      obtain ⟨g', cur', e1, e2, e3, e4⟩ := r.obj x ty' cs' hx
      exact ⟨g', cur', e1, by rw [hoth g' (ne x _ g' e hx rfl e1)]; exact e2, cB hkeep _ _ e3, e4⟩
  · intro x ty' sz m hx
    by_cases e : x = k
    · subst e; rw [dB] at hx; cases hx
    · rw [cC _ _ e] at hx
      obtain ⟨t, cur', e1, e2, e3, e4, e5⟩ := r.tok x ty' sz m hx
      refine ⟨t, cur', e1, e2, e3, ?_, e5⟩
      rw [hoth _ (fun e' => e (r.sep x k g (.inr ⟨ty', sz, m, t, hx, e1, e'⟩) hat))]
      exact e4
  · intro x t hx
    obtain ⟨ty', e⟩ := r.tkh x t hx
    have : x ≠ k := fun e' => by subst e'; rw [hk] at e; cases e
    exact ⟨ty', by rw [cC _ _ this]; exact e⟩
  · exact fun x y g' hx hy => r.sep x y g' (at' _ _ hx) (at' _ _ hy)
  · exact fun x g' hx => r.dis x g' (at' _ _ hx)
  · intro x e hx
    by_cases e' : x = k
    · subst e'; exact r.hus _ _ hk
    · rw [cC _ _ e'] at hx; exact r.hus x e hx
  · exact r.obu
  · exact r.fre
  · intro g' o ho
    obtain ⟨v, hv⟩ := r.imb g' o ho
    exact ⟨v, (hkeep.imm g' o ho).2.trans hv⟩
  · intro g' hg'
    have := r.lkb g' hg'
    omega
  · intro x es hx
    by_cases e : x = k
    · subst e
      rw [dB] at hx
      cases hx
      exact ⟨g, ents, clk, hg, hw, rfl⟩
    · rw [cC _ _ e] at hx
      obtain ⟨g', ents', clk', e1, e2, e3⟩ := r.mp x es hx
      exact ⟨g', ents', clk', e1, by rw [hoth g' (ne x _ g' e hx rfl e1)]; exact e2, e3⟩
end
def kS (x : ByteArray) : Value := .string x
def kI (x : Int) : Value := .int .i64 x
def oG {α : Type} (k : α → Value) (l : List α) : List (Value × Value) := l.map fun x => (k x, .bool true)
def oH {α : Type} [BEq α] (l : List α) (x : α) : List α := if l.any (fun y => x == y) = true then l else l ++ [x]
theorem i6 (a b : ByteArray) : (a == b) = true ↔ a = b := by
 constructor
 ·intro h
  have h' : (a.data == b.data) = true := h
  have : a.data = b.data := by simpa using h'
  cases a; cases b; simp_all
 ·rintro rfl
  show (a.data == a.data) = true
  simp
structure w7 (P : Program) (t : TypeId) {α : Type} [BEq α] (k : α → Value) : Prop where
 law : ∀ x y : α, (x == y) = true → x = y
 d : ∃ kd, P.underlying t = some kd ∧ (∀ x y, Instr.sameNow kd (k x) (k y) = some (x == y)) ∧ (∀ x b w, (Instr.checkKey b 10000 t (k x)).run P w = .ok () w)
 bits : ∀ x, Instr.sameBits 10000 (k x) (k x) = true
theorem w8 (n : Nat) (x : ByteArray) : Instr.sameBits n (.string x) (.string x) = true := by
 have : (x == x) = true := (i6 x x).2 rfl
 cases n <;> simp [Instr.sameBits, this]
theorem w9 (n : Nat) (x : Int) : Instr.sameBits n (.int .i64 x) (.int .i64 x) = true := by cases n <;> simp [Instr.sameBits]
theorem xA {P : Program} {t : TypeId} (ht : P.underlying t = some .string) (n : Nat) (x : ByteArray) (b : Bool) (w : World) : (Instr.checkKey b (n + 1) t (.string x)).run P w = .ok () w := by
 simp [Instr.checkKey, run_underlying ht]
theorem lZ {P : Program} {t : TypeId} (ht : P.underlying t = some (.int .i64)) (n : Nat) (x : Int) (b : Bool) (w : World) : (Instr.checkKey b (n + 1) t (.int .i64 x)).run P w = .ok () w := by
 simp [Instr.checkKey, run_underlying ht]
theorem w7.str {P : Program} {t : TypeId} (ht : P.underlying t = some .string) : w7 P t kS :=
 ⟨fun x y h => (i6 x y).1 h, ⟨_, ht, fun _ _ => rfl, fun x b w => xA ht 9999 x b w⟩, fun x => w8 10000 x⟩
theorem w7.int {P : Program} {t : TypeId} (ht : P.underlying t = some (.int .i64)) : w7 P t kI :=
 ⟨fun x y h => by simpa using h, ⟨_, ht, fun x y => by simp only [Instr.sameNow, kI, if_true], fun x b w => lZ ht 9999 x b w⟩, fun x => w9 10000 x⟩
theorem m4 {α : Type} [BEq α] {k : α → Value} {kd : TypeDesc} (law : ∀ x y : α, (x == y) = true → x = y) (hs : ∀ x y, Instr.sameNow kd (k x) (k y) = some (x == y)) (x : α) : ∀ (l : List α) (ents : List MapEntry) (i : Nat), ents.map (fun e => (e.key, e.val)) = oG k l →
    (l.any (fun y => x == y) = true → ∃ j e, Instr.findNow kd (k x) ents i = some (some (i + j, .bool true)) ∧ ents[j]? = some e ∧ e.key = k x ∧ e.val = .bool true) ∧
    (l.any (fun y => x == y) = false → Instr.findNow kd (k x) ents i = some none)
  | [], [], i, _ => ⟨fun h => by simp at h, fun _ => rfl⟩
  | [], _ :: _, _, h => by simp [oG] at h
  | _ :: _, [], _, h => by simp [oG] at h
  | y :: l, e :: ents, i, h => by
    simp only [List.map_cons, oG, List.cons.injEq, Prod.mk.injEq] at h
    obtain ⟨⟨h1, h2⟩, h3⟩ := h
    obtain ⟨ih1, ih2⟩ := m4 law hs x l ents (i + 1) h3
    have hn : Instr.findNow kd (k x) (e :: ents) i = (if (x == y) = true then some (some (i, e.val)) else Instr.findNow kd (k x) ents (i + 1)) := by
      simp only [Instr.findNow, h1, hs]
      cases (x == y) <;> rfl
    constructor
    · intro ha
      rw [hn]
      by_cases q : (x == y) = true
      · rw [if_pos q]
        have : x = y := law x y q
        exact ⟨0, e, by rw [h2]; simp, by simp, by rw [h1, this], h2⟩
      · rw [if_neg q]
        simp only [List.any_cons, q, Bool.false_or] at ha
        obtain ⟨j, e', a1, a2, a3⟩ := ih1 ha
        exact ⟨j + 1, e', by rw [a1]; congr 2; simp; omega, by simpa using a2, a3⟩
    · intro ha
      simp only [List.any_cons, Bool.or_eq_false_iff] at ha
      rw [hn, if_neg (by rw [ha.1]; simp)]
      exact ih2 ha.2
section ops
variable {P : Program} {h h0 : aH} {L : HL} {n : Nat} {kvs : KV} {ty : TypeId} {pos : String} {dP : Array Edge}
theorem DB {K : AV → aH → Prop} {dst : Option Tmp} {t : TypeId} (hk : bS h0 L)
    (k : ∀ q : bZ, bS h0 ((some q, .mp []) :: L) → K (.mpv q) (hp h0 ((some q, .mp []) :: L))) : iB P ⟨dst, .makeMap t none, ty, pos, dP, none⟩ K (fm n kvs) (hp h0 L) := by
  intro E w a r hv Nx Qx hn
  obtain ⟨m, hm⟩ := r.fresh 0
  obtain ⟨E', e1, e2, e3⟩ := r.new_mp hm #[] 0
  have hrun : (execOp a.eval ⟨dst, .makeMap t none, ty, pos, dP, none⟩).run P w = .ok (.value (.map (some w.heap.size))) (w.alloc (.map #[] 0)) := by
    simp [execOp, Instr.makeMap, newObj, Sem.run]
  unfold Oper.wp
  rw [hrun]
  refine hn (.mpv (0, m)) _ _ E' _ e2 e3 (by simp only [VR]; exact ⟨_, e1, rfl⟩) ?_
  exact k (0, m) ⟨hk, fun k' e => by cases e; exact r.unused_none hm⟩
theorem Fq {α : Type} [BEq α] {kf : α → Value} {l : List α} {x : α} {dst : Option Tmp} {t kt et : TypeId} {m y : Operand} {q : bZ} (ht : P.underlying t = some (.map kt et)) (hz : (P.info? et).bind (·.zero) = some (.bool false)) (hkt : w7 P kt kf)
    (hm : dN n kvs m = .mpv q) (hy : dN n kvs y = .sc (kf x)) (hq : h q = some (.mp (oG kf l))) : eI P ⟨dst, .lookup t m y false, ty, pos, dP, none⟩ (.sc (.bool (l.any fun z => x == z))) (fm n kvs) h := by
  refine eR (x := .sc (.bool (l.any fun z => x == z))) (fun E w ac r hv => ?_) ⟨rfl, rfl⟩
  have vm := hv m (by simp [Op.operands])
  have vy := hv y (by simp [Op.operands])
  rw [bG, hm] at vm; rw [bG, hy] at vy
  simp only [VR] at vm vy
  obtain ⟨g, hg, em⟩ := vm
  obtain ⟨g', ents, clk, e1, e2, e3⟩ := r.mp q _ hq
  rw [hg] at e1; cases e1
  obtain ⟨kd, hkd, hs, hck⟩ := hkt.d
  obtain ⟨f1, f2⟩ := m4 hkt.law hs x l ents.toList 0 e3
  refine ⟨.bool (l.any fun z => x == z), ?_, by simp only [VR]⟩
  have hz1 : (zeroValue et).run P w = .ok (.bool false) w := by
    cases hi : P.info? et with
    | none => rw [hi] at hz; simp at hz
    | some i =>
      rw [hi] at hz
      simp at hz
      simp [zeroValue, typeInfo, hi, hz]
  have hgo : (getObj g).run P w = .ok (.map ents clk) w := by simp [getObj, Sem.run, e2]
  simp only [execOp, em, vy, Instr.lookup, Sem.run_bind, run_underlying ht, Result.andThen_ok, hgo, Sem.run_pure, hck, Instr.findKey, run_underlying hkd]
  cases ha : (l.any fun z => x == z) with
  | true =>
    obtain ⟨j, e, a1, a2, a3, a4⟩ := f1 ha
    simp [a1]
  | false =>
    have := f2 ha
    simp [this, hz1]
theorem LM {K : AV → aH → Prop} {α : Type} [BEq α] {kf : α → Value} {l : List α} {x : α} {dst : Option Tmp} {t kt et : TypeId} {m y v : Operand} {q : bZ} (i : Nat) (hk : bS h0 L) (ht : P.underlying t = some (.map kt et)) (hkt : w7 P kt kf)
    (hm : dN n kvs m = .mpv q) (hy : dN n kvs y = .sc (kf x)) (hv : dN n kvs v = .sc (.bool true)) (hi : L[i]? = some (some q, .mp (oG kf l)))
    (k : bS h0 (L.set i (some q, .mp (oG kf (oH l x)))) → K (.sc undef) (hp h0 (L.set i (some q, .mp (oG kf (oH l x)))))) :
    iB P ⟨dst, .mapUpdate t m y v, ty, pos, dP, none⟩ K (fm n kvs) (hp h0 L) := by
  intro E w a r hva Nx Qx hn
  have vm := hva m (by simp [Op.operands])
  have vy := hva y (by simp [Op.operands])
  have vv := hva v (by simp [Op.operands])
  rw [bG, hm] at vm; rw [bG, hy] at vy; rw [bG, hv] at vv
  simp only [VR] at vm vy vv
  obtain ⟨g, hg, em⟩ := vm
  have hq := bB i hk hi
  obtain ⟨g', ents, clk, e1, e2, e3⟩ := r.mp q _ hq
  rw [hg] at e1; cases e1
  obtain ⟨kd, hkd, hs, hck⟩ := hkt.d
  obtain ⟨f1, f2⟩ := m4 hkt.law hs x l ents.toList 0 e3
  have hgo : (getObj g).run P w = .ok (.map ents clk) w := by simp [getObj, Sem.run, e2]
  have hglt := (Array.getElem?_eq_some_iff.1 e2).1
  obtain ⟨h1, h2, _⟩ := iC (e' := .mp (oG kf (oH l x))) i hk hi (.inl rfl)
  have fin : ∀ (ents' : Array MapEntry) (clk' : Nat), ents'.toList.map (fun e => (e.key, e.val)) = oG kf (oH l x) →
      (execOp a.eval ⟨dst, .mapUpdate t m y v, ty, pos, dP, none⟩).run P w = .ok .skip { w with heap := w.heap.setIfInBounds g (.map ents' clk') } → (⟨dst, .mapUpdate t m y v, ty, pos, dP, none⟩ : Oper).wp P a w Nx Qx := by
    intro ents' clk' hes hrun
    obtain ⟨k1, r1⟩ := r.set_mp hq hg ents' clk' (w' := { w with heap := w.heap.setIfInBounds g (.map ents' clk') }) (by simp [hglt]) (fun g' hg' => by simp [Ne.symm hg']) (by simp) rfl rfl rfl
    unfold Oper.wp
    rw [hrun]
    rw [hes, h1] at r1
    exact hn (.sc undef) undef _ E _ k1 r1 (by simp only [VR]) (k h2)
  cases ha : (l.any fun z => x == z) with
  | true =>
    obtain ⟨j, e, a1, a2, a3, a4⟩ := f1 ha
    have hje : ents[j]? = some e := by simpa using a2
    refine fin (ents.modify j fun e => { e with key := kf x, val := .bool true }) clk ?_ ?_
    · have : oH l x = l := by simp only [oH]; rw [if_pos ha]
      rw [this, ← e3]
      apply List.ext_getElem?
      intro z
      simp only [List.getElem?_map, Array.getElem?_toList, Array.getElem?_modify]
      by_cases hz : j = z
      · subst hz
        rw [if_pos rfl, hje]
        simp [a3, a4]
      · rw [if_neg hz]
    · have hst : (Instr.keyThatStays e.key (kf x)).run P w = .ok (kf x) w := by
        rw [a3]; simp [Instr.keyThatStays, hkt.bits]
      have hjd : ((ents[0 + j]?).map (·.key)).getD (kf x) = e.key := by simp [hje]
      have hfind : (Instr.findKey kt (kf x) ents.toList).run P w = .ok (some (0 + j, .bool true)) w := by
        simp only [Instr.findKey, Sem.run_bind, run_underlying hkd, Result.andThen_ok, a1, Sem.run_pure]
      simp only [execOp, em, vy, vv, Instr.mapUpdate, Sem.run_bind, run_underlying ht, Result.andThen_ok, hgo, hck, hfind]
      rw [hjd]
      simp only [hst, Result.andThen_ok, Nat.zero_add]
      simp [setObj, Sem.run, e2]
  | false =>
    have hf := f2 ha
    refine fin (ents.push { key := kf x, val := .bool true, born := clk }) (clk + 1) ?_ ?_
    · have : oH l x = l ++ [x] := by simp only [oH]; rw [if_neg (by simp [ha])]
      rw [this]
      simp only [Array.toList_push, List.map_append, e3, oG, List.map_cons, List.map_nil]
    · have hfind : (Instr.findKey kt (kf x) ents.toList).run P w = .ok none w := by
        simp only [Instr.findKey, Sem.run_bind, run_underlying hkd, Result.andThen_ok, hf, Sem.run_pure]
      simp only [execOp, em, vy, vv, Instr.mapUpdate, Sem.run_bind, run_underlying ht, Result.andThen_ok, hgo, hck, hfind]
      simp [setObj, Sem.run, e2]
end ops
def bA (xs : List Int) : ByteArray := xs.foldl (fun acc z => acc.push z.toNat.toUInt8) .empty
def BV (xs ys : List Int) : Int := Extern.BytealgCompare.cmp (bA xs) (bA ys)
theorem lB {P : Program} {w : World} {g : Nat} : ∀ (xs : List Int) (o : Nat) (acc : ByteArray), (∀ (j : Nat) (z : Int), xs[j]? = some z → w.cell? ⟨g, o + j, none⟩ = some (.int .u8 z)) →
    (Extern.Bytes.loadBytes ⟨g, o, none⟩ xs.length acc).run P w = .ok (xs.foldl (fun acc z => acc.push z.toNat.toUInt8) acc) w
  | [], _, _, _ => rfl
  | z :: xs, o, acc, hc => by
    have h0 := hc 0 z rfl
    simp only [Nat.add_zero] at h0
    have ih := lB (P := P) xs (o + 1) (acc.push z.toNat.toUInt8) (fun j y hj => by
      have := hc (j + 1) y (by simpa using hj)
      rwa [show o + (j + 1) = o + 1 + j from by omega] at this)
    have hl : (load ⟨g, o, none⟩).run P w = .ok (.int .u8 z) w := by simp [load, Sem.run, h0]
    simp only [List.length_cons, Extern.Bytes.loadBytes, Sem.run_bind, hl, Result.andThen_ok, List.foldl_cons]
    rw [Addr.add_lit]
    exact ih
def IA (P : Program) (h : aH) (a : AV) (xs : List Int) : Prop := ∀ E w v, fD E h w → VR E w a v → (Extern.Bytes.bytesOf v).run P w = .ok (bA xs) w
theorem PB (xs : List Int) : (xs.map fun z => [AV.sc (.int .u8 z)]).flatten = xs.map fun z => AV.sc (.int .u8 z) := by
 induction xs with
 | nil => rfl
 | cons x xs ih => simp [ih]
theorem IA.sl {P : Program} (h : aH) (tag : Option bZ) (xs : List Int) : IA P h (.sl tag 1 (xs.map fun z => [AV.sc (.int .u8 z)])) xs := by
 intro E w v r hv
 cases xs with
 | nil =>
  simp only [VR, List.map_nil] at hv
  obtain ⟨a, cap, rfl, _⟩ := hv
  cases a with
  | none => rfl
  | some a => rfl
 | cons x xs =>
  obtain ⟨g, o, cap, cv, rfl, c1, c2, c3, c4⟩ := kA hv (by simp)
  rw [PB] at c1
  have hcv := o0 c1
  subst hcv
  have := lB (P := P) (w := w) (g := g) (x :: xs) o .empty (fun j z hj => (c4 j (.int .u8 z) (by rw [List.getElem?_map, hj]; rfl)).1)
  simpa [Extern.Bytes.bytesOf, bA] using this
theorem IA.view {P : Program} {h : aH} {q : bZ} {off : Nat} {ty : TypeId} {cs : List AV} {y : bP} (hq : h q = some (.obj ty cs)) (hc : (cs.drop off).take 32 = bF y) : IA P h (.view q off 32) y.1 := by
 intro E w v r hv
 simp only [VR] at hv
 obtain ⟨g, cap, hg, rfl, _⟩ := hv
 obtain ⟨g', cur, e1, e2, e3, e4⟩ := r.obj q ty cs hq
 rw [hg] at e1; cases e1
 have hl := fN 32 (hC off e3)
 rw [hc, m0] at hl
 have hcv := o0 hl
 have := lB (P := P) (w := w) (g := g) y.1 off .empty (fun j z hj => by
  have h1 : ((cur.toList.drop off).take 32)[j]? = some (.int .u8 z) := by rw [hcv, List.getElem?_map, hj]; rfl
  have hj32 : j < 32 := by
   have := (List.getElem?_eq_some_iff.1 h1).1
   rw [List.length_take] at this; omega
  rw [List.getElem?_take_of_lt hj32, List.getElem?_drop] at h1
  simp only [World.cell?, e2]
  simpa using h1)
 rw [y.2] at this
 simpa [Extern.Bytes.bytesOf, bA] using this
structure PC (P : Program) (f : FuncId) : Prop where
 ex : ∃ fn, P.funcs[f]? = some fn ∧ (fn.name == "runtime.NumGoroutine") = false ∧ fn.body.isNone = true ∧ Extern.findNext fn = none ∧ Extern.find fn = some Extern.BytealgCompare.compare
section ops
variable {P : Program} {h : aH} {n : Nat} {kvs : KV} {ty : TypeId} {pos : String} {dP : Array Edge}
theorem PD {dst : Option Tmp} {f : FuncId} {x y : Operand} {ts : Array TypeId} {a b : AV} {xs ys : List Int} (hf : PC P f) (ha : dN n kvs x = a) (hb : dN n kvs y = b) (h1 : IA P h a xs) (h2 : IA P h b ys) :
    eI P ⟨dst, .call { callee := .value (.func f), args := #[x, y], argTypes := ts }, ty, pos, dP, none⟩ (.sc (.int .i64 (BV xs ys))) (fm n kvs) h := by
  refine eR (x := .sc (.int .i64 (BV xs ys))) (fun E w ac r hv => ?_) ⟨rfl, rfl⟩
  have va := hv x (by simp [Op.operands, Call.operands])
  have vb := hv y (by simp [Op.operands, Call.operands])
  rw [bG, ha] at va; rw [bG, hb] at vb
  obtain ⟨fn, f1, f2, f3, f4, f5⟩ := hf.ex
  refine ⟨.int .i64 (BV xs ys), ?_, by simp only [VR]⟩
  have hext := run_callFunc_extern f1 f2 f3 f4 f5 #[ac.eval x, ac.eval y] w
  have r1 := h1 E w _ r va
  have r2 := h2 E w _ r vb
  have hcmp : (Extern.BytealgCompare.compare #[ac.eval x, ac.eval y]).run P w = .ok (.int .i64 (BV xs ys)) w := by
    change Sem.run P (do
      let p ← Extern.Bytes.bytesOf (ac.eval x)
      let q ← Extern.Bytes.bytesOf (ac.eval y)
      pure (goInt (Extern.BytealgCompare.cmp p q))) w = _
    simp only [Sem.run_bind, r1, r2, Result.andThen_ok, Sem.run_pure]
    rfl
  rw [hcmp] at hext
  simp only [execOp, resolve, List.map_toArray, List.map_cons, List.map_nil]
  have : (ac.eval (.func f)) = .func (.func f) #[] #[] := rfl
  simp only [this, Deferred.ofValue, Sem.run_bind, Sem.run_pure, Result.andThen_ok, invoke]
  simpa using hext
theorem z8 {dst : Option Tmp} {t : TypeId} {a : Operand} {q : bZ} {off : Nat} (ht : C7 P t = some (32, 1)) (ha : dN n kvs a = .ptr q off) : eI P ⟨dst, .slice t a none none none, ty, pos, dP, none⟩ (.view q off 32) (fm n kvs) h := by
 have hT : zM P t = true := by simp [zM, ht]
 refine iJ (c := ((32 : Nat) ≤ 1000000 ∧ (0 : Int) ≤ 0 ∧ (0 : Int) < 32 ∧ (32 : Int) ≤ (32 : Nat))) ?_ ⟨by decide, by decide, by decide, by decide⟩
 simp only [pv, bG, ha, Option.map_none, wN, ht, Option.bind_some, mJ, hT, if_true]
 rfl
theorem sU {q : bZ} {off : Nat} {oty : TypeId} {cs : List AV} {y : bP} (hq : h q = some (.obj oty cs)) (hc : (cs.drop off).take 32 = bF y) (hl : Nat.ble (off + 32 * 1) cs.length = true) : kC h 1 (.view q off 32) = some (y.1.map fun z => [AV.sc (.int .u8 z)]) := by
 have hl' := Nat.le_of_ble_eq_true hl
 simp only [kC, hq, if_pos hl', Option.some.injEq]
 have gen : ∀ (m : Nat) (l : List AV), m ≤ l.length → BO 1 m l = (l.take m).map fun x => [x] := by
  intro m
  induction m with
  | zero => intro l _; simp [BO]
  | succ m ih =>
   intro l hm
   cases l with
   | nil => simp at hm
   | cons x l => simp only [BO, List.take_succ_cons, List.take_zero, List.map_cons, List.drop_succ_cons, List.drop_zero]; rw [ih l (by simpa using hm)]
 rw [gen 32 _ (by rw [List.length_drop]; omega), hc, m0, List.map_map]
 rfl
end ops
theorem z9 (h : aH) {k k' : bZ} (e e' : Option iH) (hn : k ≠ k') : upd (upd h k e) k' e' = upd (upd h k' e') k e := by
 funext x
 unfold upd
 by_cases h1 : x = k
 ·by_cases h2 : x = k'
  ·exact absurd (h1.symm.trans h2) hn
  ·simp [h1, hn]
 ·simp [h1]
theorem IW {h0 : aH} {a b : Option bZ × iH} {L : HL} (hk : bS h0 (a :: b :: L)) : hp h0 (a :: b :: L) = hp h0 (b :: a :: L) ∧ bS h0 (b :: a :: L) := by
 obtain ⟨ta, ea⟩ := a
 obtain ⟨tb, eb⟩ := b
 obtain ⟨⟨h1, h2⟩, h3⟩ := hk
 cases ta with
 | none => cases tb with
  | none => exact ⟨rfl, ⟨⟨h1, nofun⟩, nofun⟩⟩
  | some kb => exact ⟨rfl, ⟨⟨h1, nofun⟩, h2⟩⟩
 | some ka =>
  have q := h3 ka rfl
  cases tb with
  | none => exact ⟨rfl, ⟨⟨h1, h3⟩, nofun⟩⟩
  | some kb =>
   have hne : ka ≠ kb := fun e => by
    subst e
    simp only [hp, dB] at q
    cases q
   have q2 : hp h0 L ka = none := by
    simp only [hp] at q
    rwa [cC _ _ hne] at q
   refine ⟨?_, ⟨h1, fun k e => by cases e; exact q2⟩, fun k e => ?_⟩
   ·simp only [hp]
    exact z9 _ _ _ (Ne.symm hne)
   ·cases e
    simp only [hp]
    rw [cC _ _ (Ne.symm hne)]
    exact h2 _ rfl
theorem bS.cons_eq {h0 : aH} {a : Option bZ × iH} {L L' : HL} (e : hp h0 L = hp h0 L') (hk : bS h0 L') (h2 : bS h0 (a :: L)) : hp h0 (a :: L) = hp h0 (a :: L') ∧ bS h0 (a :: L') := by
 obtain ⟨t, en⟩ := a
 refine ⟨?_, hk, ?_⟩
 ·cases t <;> simp only [hp, e]
 ·intro k q; rw [← e]; exact h2.2 k q
theorem gP {h0 : aH} {L L' : HL} (p : L.Perm L') : bS h0 L → hp h0 L = hp h0 L' ∧ bS h0 L' := by
 induction p with
 | nil => intro hk; exact ⟨rfl, hk⟩
 | cons x p ih =>
  intro hk
  obtain ⟨e, h2⟩ := ih hk.1
  exact bS.cons_eq e h2 hk
 | swap x y l => intro hk; exact IW hk
 | trans p q ih1 ih2 =>
  intro hk
  obtain ⟨e1, k1⟩ := ih1 hk
  obtain ⟨e2, k2⟩ := ih2 k1
  exact ⟨e1.trans e2, k2⟩
theorem dM (h0 : aH) : ∀ (A R : HL), hp (hp h0 R) A = hp h0 (A ++ R)
 | [], R => rfl
 | (none, e) :: A, R => dM h0 A R
 | (some k, e) :: A, R => by
  show upd (hp (hp h0 R) A) k (some e) = upd (hp h0 (A ++ R)) k (some e)
  rw [dM h0 A R]
theorem eU {h0 : aH} : ∀ {A R : HL}, bS h0 R → bS (hp h0 R) A → bS h0 (A ++ R)
 | [], _, hr, _ => hr
 | (t, e) :: A, R, hr, ha => ⟨eU hr ha.1, fun k q => by show hp h0 (A ++ R) k = none; rw [← dM]; exact ha.2 k q⟩
theorem dG {h0 : aH} : ∀ (A R : HL), bS h0 (A ++ R) → bS h0 R ∧ bS (hp h0 R) A
 | [], _, h => ⟨h, trivial⟩
 | (t, e) :: A, R, h => by
  obtain ⟨h1, h2⟩ := h
  obtain ⟨h3, h4⟩ := dG A R h1
  exact ⟨h3, h4, fun k q => by rw [dM]; exact h2 k q⟩
theorem bS.co {h0 : aH} {L : HL} {x : Option bZ × iH} (a : bS h0 L) (b : bS (hp h0 L) [x]) : bS h0 (x :: L) := ⟨a, b.2⟩
theorem dX {P : Program} {o : Oper} {K : AV → aH → Prop} {fr : Fr} {h h' : aH} (e : h = h') (ho : iB P o K fr h') : iB P o K fr h := by subst e; exact ho
theorem gY.aops {P : Program} {ops : Array Oper} {l : List Oper} {K : Fr → aH → Prop} {fr fr' : Fr} {h h' : aH} (le : gY fr' h' fr h) (k : gZ P ops l K fr' h') : gZ P ops l K fr h := by
 intro E w a r vv d Q hQ
 obtain ⟨E', k', r', v'⟩ := le E w _ r vv
 exact k E' w a r' v' d Q fun a' w' p => hQ _ _ (p.trans k')
def IB (Q : Exit → Fr → aH → Prop) : Exit → Fr → aH → Prop := fun e fr h => ∃ fr' h', gY fr' h' fr h ∧ Q e fr' h'
theorem IB.mk {Q : Exit → Fr → aH → Prop} {e : Exit} {fr fr' : Fr} {h h' : aH} (le : gY fr' h' fr h) (q : Q e fr' h') : IB Q e fr h := ⟨_, _, le, q⟩
theorem PE {P : Program} {c : Code} {Q : Exit → Fr → aH → Prop} {fr : Fr} {h : aH} (hc : AW P c (IB Q) fr h) : AW P c Q fr h :=
 fun E w a r v d => wp_mono (hc E w a r v d) fun _ _ w' ⟨_, _, _, k, r', v', d', fr2, h2, le, q⟩ => let ⟨E'', k2, r2, v2⟩ := le _ w' _ r' v'; ⟨E'', fr2, h2, k.trans k2, r2, v2, d', q⟩
theorem gY.eqh {fr : Fr} {h h' : aH} (e : h = h') : gY fr h' fr h := by subst e; exact gY.of (gX.refl h) (cO.refl _ _)
structure dD where
 t : Option bZ
 n : Nat
 cap : Nat
 sp : List AV
def aw (t : Option bZ) (n cap : Nat) : AV := match t with
 | none => .e0
 | some k => .vw k n cap
def vV (t : Option bZ) (off : Nat) : AV := match t with
 | none => .any
 | some k => .ptr k off
def fl {α : Type} (c : α → List AV) (xs : List α) (sp : List AV) : List AV := (xs.map c).flatten ++ sp
structure bJ (g : dD) (sz n : Nat) : Prop where
 eqn : g.n = n
 nil : g.t = none → n = 0
 le : n ≤ g.cap
 mx : g.cap ≤ maxLen
 len : n * sz + g.sp.length = g.cap * sz
def g0 : dD := ⟨none, 0, 0, []⟩
theorem bJ.g0 (sz : Nat) : bJ g0 sz 0 := ⟨rfl, fun _ => rfl, Nat.le_refl _, Nat.zero_le _, by simp [Vm.g0]⟩
section flat
variable {α : Type} {c : α → List AV} {sz : Nat}
theorem kG (hc : ∀ y, (c y).length = sz) : ∀ (xs : List α), (xs.map c).flatten.length = xs.length * sz
 | [] => by simp
 | x :: xs => by simp only [List.map_cons, List.flatten_cons, List.length_append, hc, kG hc xs, List.length_cons, Nat.add_mul, Nat.one_mul]; omega
theorem FU (hc : ∀ y, (c y).length = sz) (xs : List α) (sp : List AV) : (fl c xs sp).length = xs.length * sz + sp.length := by
 unfold fl; rw [List.length_append, kG hc]
theorem DC (hc : ∀ y, (c y).length = sz) (sp : List AV) : ∀ {xs : List α} {i : Nat} {x : α}, xs[i]? = some x → ∃ r, (fl c xs sp).drop (i * sz) = c x ++ r
 | [], _, _, h => by simp at h
 | y :: ys, 0, x, h => by
  simp only [List.getElem?_cons_zero, Option.some.injEq] at h
  subst h
  exact ⟨fl c ys sp, by simp [fl]⟩
 | y :: ys, i + 1, x, h => by
  obtain ⟨r, e⟩ := DC hc sp (xs := ys) (i := i) (by simpa using h)
  refine ⟨r, ?_⟩
  rw [← e]
  have : fl c (y :: ys) sp = c y ++ fl c ys sp := by simp [fl]
  rw [this, Nat.add_mul, Nat.one_mul, Nat.add_comm, ← List.drop_drop, List.drop_left' (hc y)]
theorem vW (hc : ∀ y, (c y).length = sz) (sp : List AV) {ys : List AV} {fo : Nat} (hf : fo + ys.length ≤ sz) {x' : α} : ∀ {xs : List α} {i : Nat} {x : α}, xs[i]? = some x → eT (c x) fo ys = c x' → eT (fl c xs sp) (i * sz + fo) ys = fl c (xs.set i x') sp
 | [], _, _, h, _ => by simp at h
 | y :: zs, 0, x, h, hs => by
  simp only [List.getElem?_cons_zero, Option.some.injEq] at h
  subst h
  have e1 : fl c (y :: zs) sp = c y ++ fl c zs sp := by simp [fl]
  have e2 : fl c ((y :: zs).set 0 x') sp = c x' ++ fl c zs sp := by simp [fl]
  rw [e1, e2, ← hs, Nat.zero_mul, Nat.zero_add]
  unfold eT
  rw [List.take_append_of_le_length (by rw [hc]; omega), List.drop_append_of_le_length (by rw [hc]; omega)]
  simp
 | y :: zs, i + 1, x, h, hs => by
  have ih := vW hc sp hf (xs := zs) (i := i) (by simpa using h) hs
  have e1 : fl c (y :: zs) sp = c y ++ fl c zs sp := by simp [fl]
  have e2 : fl c ((y :: zs).set (i + 1) x') sp = c y ++ fl c (zs.set i x') sp := by simp [fl]
  rw [e1, e2, ← ih, show (i + 1) * sz + fo = (c y).length + (i * sz + fo) from by rw [hc, Nat.add_mul]; omega]
  unfold eT
  rw [List.take_length_add_append, show (c y).length + (i * sz + fo) + ys.length = (c y).length + (i * sz + fo + ys.length) from by omega, List.drop_length_add_append]
  simp
end flat
section ops
variable {P : Program} {ops : Array Oper} {K : Fr → aH → Prop} {h h0 : aH} {L : HL} {n : Nat} {kvs : KV} {l : List Oper} {ty : TypeId} {pos : String} {dP : Array Edge}
theorem IX {o : Oper} {K : AV → aH → Prop} {kvs' : KV} (hl : ∀ y ∈ o.op.operands, aX h (dN n kvs y) (dN n kvs' y)) (ho : iB P o K (fm n kvs') h) : iB P o K (fm n kvs) h :=
 FL (fun y hy => by rw [bG, bG]; exact hl y hy) ho
theorem xB (h : aH) (k : bZ) (n cap : Nat) : aX h (.vw k n cap) (.view k 0 n) := by
 intro E w v r hv
 simp only [VR] at hv ⊢
 obtain ⟨g, hg, rfl, h1, h2⟩ := hv
 exact ⟨g, cap, hg, rfl, h1, h2⟩
theorem o1 {o : Oper} {K : AV → aH → Prop} {s : Nat} (v : AV) (hv : aX h (lk n kvs s) v) (ho : iB P o K (fm n (kp kvs s v)) h) : iB P o K (fm n kvs) h := by
 refine IX (fun y _ => ?_) ho
 cases y with
 | tmp u =>
  simp only [dN, jK] at hv ⊢
  by_cases e : s = u
  ·subst e
   rw [jN]
   split
   ·rename_i q; rw [if_pos q] at hv; exact hv
   ·exact aX.refl _ _
  ·rw [nY _ _ e]; exact aX.refl _ _
 | const v => exact aX.refl _ _
 | global g => exact aX.refl _ _
 | func f => exact aX.refl _ _
theorem AA {s : Nat} {v x : AV} (hs : lk n kvs s = x) (hx : x ≠ .any) : lk n (kp kvs s v) s = v := by
 rw [jK] at hs
 rw [jK, jN]
 split
 ·rfl
 ·rename_i q; rw [if_neg q] at hs; exact absurd hs.symm hx
theorem BW {s : Nat} {v x : AV} {b : Operand} {u : Value} (hs : lk n kvs s = x) (hx : ∀ u, x ≠ .sc u) (hb : dN n kvs b = .sc u) : dN n (kp kvs s v) b = .sc u := by
 cases b with
 | tmp t =>
  simp only [dN] at hb ⊢
  by_cases e : s = t
  ·subst e; rw [hs] at hb; exact absurd hb (hx u)
  ·rw [jK] at hb ⊢; rw [nY _ _ e]; exact hb
 | const v => exact hb
 | global g => exact hb
 | func f => exact hb
theorem eY {dst : Option Tmp} {s : Nat} {t : TypeId} {g : dD} {m sz : Nat} (ht : rG P t = some true) (ok : bJ g sz m) (ha : lk n kvs s = aw g.t g.n g.cap) :
    eI P ⟨dst, .call { callee := .builtin .len, args := #[.tmp s], argTypes := #[t] }, ty, pos, dP, none⟩ (.sc (.int .i64 m)) (fm n kvs) h := by
  rw [ok.eqn] at ha
  cases ht' : g.t with
  | none =>
    have hm := ok.nil ht'
    subst hm
    rw [ht'] at ha
    have ha : dN n kvs (.tmp s) = .e0 := ha
    refine iJ (c := True) ?_ trivial
    simp only [pv, J3, bG, ha, ht, J2, Option.map_some, Option.bind_some, tt, if_true]
  | some k =>
    rw [ht'] at ha
    refine o1 (s := s) (.view k 0 m) (by rw [ha]; exact xB _ _ _ _) (iJ (c := True) ?_ trivial)
    have e : dN n (kp kvs s (.view k 0 m)) (.tmp s) = .view k 0 m := AA ha (by simp [aw])
    simp only [pv, J3, bG, e, ht, J2, Option.map_some, Option.bind_some, tt, if_true]
theorem dE {α : Type} {xs : List α} {x : α} {dst : Option Tmp} {s : Nat} {b : Operand} {t : TypeId} {g : dD} {sz : Nat} {q : IntKind} {i : Int} (hi : ix xs i = some x) (ht : lS P t = some sz) (ok : bJ g sz xs.length) (ha : lk n kvs s = aw g.t g.n g.cap) (hb : dN n kvs b = .sc (.int q i)) :
    eI P ⟨dst, .indexAddr t (.tmp s) b, ty, pos, dP, none⟩ (vV g.t (i.toNat * sz)) (fm n kvs) h := by
  obtain ⟨h1, h2, h3⟩ := fF hi
  rw [ok.eqn] at ha
  cases ht' : g.t with
  | none => have := ok.nil ht'; omega
  | some k =>
    rw [ht'] at ha
    refine o1 (s := s) (.view k 0 xs.length) (by rw [ha]; exact xB _ _ _ _) (iJ (c := 0 ≤ i ∧ i < xs.length) ?_ ⟨h1, h2⟩)
    have e : dN n (kp kvs s (.view k 0 xs.length)) (.tmp s) = .view k 0 xs.length := AA ha (by simp [aw])
    have e2 : dN n (kp kvs s (.view k 0 xs.length)) b = .sc (.int q i) := BW ha (by simp [aw]) hb
    simp only [pv, bG, e, e2, jC, Option.bind_some, E3, ht, vV, Nat.zero_add]
theorem dJ {dst : Option Tmp} {a : Operand} {t : TypeId} {f : Nat} {tg : Option bZ} {off : Nat} {o s : Nat} (hne : tg ≠ none) (hf : jT P t f = some (o, s)) (hs : Nat.beq s 0 = false) (ha : dN n kvs a = vV tg off) :
    eI P ⟨dst, .fieldAddr t a f, ty, pos, dP, none⟩ (vV tg (off + o)) (fm n kvs) h := by
  cases tg with
  | none => exact absurd rfl hne
  | some k => exact aJ hf hs ha
theorem i7 {dst : Option Tmp} {a : Operand} {tg : Option bZ} {off : Nat} (hne : tg ≠ none) (ha : dN n kvs a = vV tg off) : eI P ⟨dst, .nilCheck a, ty, pos, dP, none⟩ (vV tg off) (fm n kvs) h := by
 cases tg with
 | none => exact absurd rfl hne
 | some k => exact bU ha
theorem bJ.ne {α : Type} {g : dD} {sz : Nat} {xs : List α} {i : Int} {x : α} (ok : bJ g sz xs.length) (hi : ix xs i = some x) : g.t ≠ none := fun e => by
 have := ok.nil e
 have := fF hi
 omega
theorem eZ {α : Type} {c : α → List AV} {xs : List α} {x : α} {dst : Option Tmp} {a : Operand} {t : TypeId} {g : dD} {sz fo : Nat} {i : Int} {oty : TypeId} {ag : Bool} {m : Nat} (v : AV) (hi : ix xs i = some x) (hc : ∀ y, (c y).length = sz) (ok : bJ g sz xs.length) (ht : kQ P t = some (ag, m))
    (ha : dN n kvs a = vV g.t (i.toNat * sz + fo)) (hA : At h g.t (.obj oty (fl c xs g.sp))) (hx : ∀ r, BM ag m ((c x ++ r).drop fo) = some v) :
    eI P ⟨dst, .load t a, ty, pos, dP, none⟩ v (fm n kvs) h := by
  obtain ⟨h1, h2, h3⟩ := fF hi
  have hne := ok.ne hi
  cases ht' : g.t with
  | none => exact absurd ht' hne
  | some k =>
    rw [ht'] at ha hA
    obtain ⟨r, e⟩ := DC hc g.sp h3
    refine bH v ht ha hA.s ?_
    rw [← List.drop_drop, e]
    exact hx r
theorem eN {α : Type} {xs : List α} {i : Int} {x x' : α} (h : ix xs i = some x) : ix (xs.set i.toNat x') i = some x' := by
 obtain ⟨h1, h2, h3⟩ := fF h
 unfold ix
 rw [if_pos h1, List.getElem?_set_self (List.getElem?_eq_some_iff.1 h3).1]
theorem bX (t : Option bZ) (m c : Nat) : fS (aw t m c) = true := by cases t <;> rfl
theorem cI {x : AV} {t : Option bZ} {m c : Nat} (h : x = aw t m c) : cellsOf x = some [aw t m c] := by subst h; cases t <;> rfl
theorem BX {K : AV → aH → Prop} {o : Oper} {fr : Fr} {t : TypeId} {x y : Operand} (hop : o.op = .store t x y) {k : bZ} {off : Nat} (hx : ev fr x = .ptr k off) {ty : TypeId} {cs xs0 xs : List AV} (hk : h k = some (.obj ty cs))
    (hy : cellsOf (ev fr y) = some xs0) (ho : xs0.all fS = true) (hle : cO h xs0 xs) (hs : kT P t = some xs.length) (hl : off + xs.length ≤ cs.length)
    (hK : K (.sc undef) (upd h k (some (.obj ty (eT cs off xs))))) : iB P o K fr h := by
  intro E w a r hv Nx Qx hn
  have vx := hv x (by rw [hop]; simp [Op.operands])
  have vy := hv y (by rw [hop]; simp [Op.operands])
  rw [hx] at vx
  simp only [VR] at vx
  obtain ⟨g, hg, ex⟩ := vx
  obtain ⟨c0, c2⟩ := iR hy ho vy
  have c1 := hle.spec r c0
  obtain ⟨g', cur, f1, f2, f3, f4⟩ := r.obj k ty cs hk
  rw [hg] at f1; cases f1
  have hlen : cs.length = cur.size := by simpa using cT f3
  have hlx : xs.length = (a.eval y).cells.toList.length := cT c1
  have hlx' : xs.length = (a.eval y).cells.size := by simpa using hlx
  have hst := run_storeCells_at P g off ty (a.eval y).cells.toList 0 cur w f2 (by simp only [Array.length_toList]; omega) c2
  have hv' : cL E w (eT cs off xs) (cur.toList.take (off + 0) ++ (a.eval y).cells.toList ++ cur.toList.drop (off + 0 + (a.eval y).cells.toList.length)) := by
    simp only [Nat.add_zero, eT]
    rw [← hlx]
    exact cU (cU (fN _ f3) c1) (hC _ f3)
  have h1' : ∀ v ∈ cur.toList.take (off + 0) ++ (a.eval y).cells.toList ++ cur.toList.drop (off + 0 + (a.eval y).cells.toList.length), v.oneCell' = true := by
    intro v hv
    rcases List.mem_append.1 hv with hv | hv
    · rcases List.mem_append.1 hv with hv | hv
      · exact f4 v (List.mem_of_mem_take hv)
      · exact c2 v hv
    · exact f4 v (List.mem_of_mem_drop hv)
  obtain ⟨k1, k2⟩ := r.set_obj (cur := (cur.toList.take (off + 0) ++ (a.eval y).cells.toList ++ cur.toList.drop (off + 0 + (a.eval y).cells.toList.length)).toArray) hk hg
    (w' := w.setRow g (cur.toList.take (off + 0) ++ (a.eval y).cells.toList ++ cur.toList.drop (off + 0 + (a.eval y).cells.toList.length)).toArray)
    (setRow_heap w g cur _ ty _ f2) (fun g' hg' => setRow_other w g g' _ hg') (by simp) rfl rfl rfl hv' h1'
  unfold Oper.wp
  rw [show (execOp a.eval o).run P w = .ok .skip (w.setRow g (cur.toList.take (off + 0) ++ (a.eval y).cells.toList ++ cur.toList.drop (off + 0 + (a.eval y).cells.toList.length)).toArray) from by
    simp only [execOp, hop, Instr.storeAt, ex, Instr.sureAddr, storeVar, Sem.run_bind, Sem.run_pure, Result.andThen_ok, cP hs, hlx', ne_eq, not_true_eq_false, if_false, hst]]
  exact hn _ undef _ E _ k1 k2 (by simp only [VR]) hK
theorem AB {K : AV → aH → Prop} {dst : Option Tmp} {t oty : TypeId} {x y : Operand} {q : bZ} {off : Nat} {cs xs0 xs : List AV} (i : Nat) (cs' : List AV) (hk : bS h0 L) (ha : dN n kvs x = .ptr q off) (hi : L[i]? = some (some q, .obj oty cs))
    (hy : cellsOf (dN n kvs y) = some xs0) (ho : xs0.all fS = true) (hle : cO (hp h0 L) xs0 xs) (hs : kT P t = some xs.length) (hl : Nat.ble (off + xs.length) cs.length = true) (hcs : eT cs off xs = cs')
    (k : bS h0 (L.set i (some q, .obj oty cs')) → K (.sc undef) (hp h0 (L.set i (some q, .obj oty cs')))) : iB P ⟨dst, .store t x y, ty, pos, dP, none⟩ K (fm n kvs) (hp h0 L) := by
  subst hcs
  obtain ⟨h1, h2, _⟩ := iC (e' := .obj oty (eT cs off xs)) i hk hi (.inl rfl)
  refine (BX rfl (by rw [bG]; exact ha) (bB i hk hi) (by rw [bG]; exact hy) ho hle hs (Nat.le_of_ble_eq_true hl) ?_)
  rw [h1]
  exact k h2
theorem cR {K : AV → aH → Prop} {α : Type} {c : α → List AV} {xs : List α} {x : α} (x' : α) {dst : Option Tmp} {t oty : TypeId} {a y : Operand} {g : dD} {sz fo : Nat} {i : Int} {ys : List AV} (p : Nat) (hk : bS h0 L) (hi : ix xs i = some x) (hc : ∀ y, (c y).length = sz) (ok : bJ g sz xs.length)
    (ha : dN n kvs a = vV g.t (i.toNat * sz + fo)) (hL : L[p]? = some (g.t, .obj oty (fl c xs g.sp))) {ys0 : List AV} (hy : cellsOf (dN n kvs y) = some ys0) (ho : ys0.all fS = true) (hle : cO (hp h0 L) ys0 ys) (hs : kT P t = some ys.length) (hf : Nat.ble (fo + ys.length) sz = true) (hcs : eT (c x) fo ys = c x')
    (k : bS h0 (L.set p (g.t, .obj oty (fl c (xs.set i.toNat x') g.sp))) → K (.sc undef) (hp h0 (L.set p (g.t, .obj oty (fl c (xs.set i.toNat x') g.sp))))) : iB P ⟨dst, .store t a y, ty, pos, dP, none⟩ K (fm n kvs) (hp h0 L) := by
  obtain ⟨h1, h2, h3⟩ := fF hi
  have hne := ok.ne hi
  have hf' := Nat.le_of_ble_eq_true hf
  cases ht' : g.t with
  | none => exact absurd ht' hne
  | some q =>
    rw [ht'] at ha hL k
    refine AB p (fl c (xs.set i.toNat x') g.sp) hk ha hL hy ho hle hs ?_ (vW hc g.sp hf' h3 hcs) k
    rw [Nat.ble_eq, FU hc]
    have h4 : i.toNat < xs.length := (List.getElem?_eq_some_iff.1 h3).1
    have : i.toNat * sz + sz ≤ xs.length * sz := by
      rw [← Nat.succ_mul]; exact Nat.mul_le_mul_right _ h4
    omega
theorem bJ.set {g : dD} {sz : Nat} {α : Type} {xs : List α} {i : Nat} {x : α} (ok : bJ g sz xs.length) : bJ g sz (xs.set i x).length := by rw [List.length_set]; exact ok
theorem xC (h : aH) (sz : Nat) : aX h .e0 (.sl none sz []) := by
 intro E w v r hv
 simp only [VR] at hv ⊢
 obtain ⟨a, rfl⟩ := hv
 exact ⟨a, 0, rfl, Nat.le_refl _, Nat.zero_le _, .inl trivial, by simp, fun _ q => by cases q⟩
theorem fP (h : aH) : aX h (.sc (.slice none 0 0)) (aw g0.t g0.n g0.cap) := by
 intro E w v r hv
 simp only [VR] at hv
 subst hv
 simp only [g0, aw, VR]
 exact ⟨none, rfl⟩
end ops
theorem iE {z : Array Value} {n : Nat} (hz : ∀ u ∈ z.toList, u.oneCell' = true) : ∀ v ∈ (Builtin.zeroCells z n).toList, v.oneCell' = true := by
 intro v hv
 simp only [Builtin.zeroCells, Array.mem_toList_iff, Array.mem_map, Array.mem_range] at hv
 obtain ⟨i, hi, rfl⟩ := hv
 have h0 : 0 < z.size := Nat.pos_of_ne_zero fun e => by rw [e, Nat.mul_zero] at hi; omega
 have hm : i % z.size < z.size := Nat.mod_lt _ h0
 rw [getElem!_pos z _ hm]
 exact hz _ (by simp)
section app
variable {P : Program} {E : fT} {h : aH} {w : World}
theorem FV {t ty e : TypeId} {sz b : Nat} (ht : jD P t e sz b) {zs : List Value} (hzr : p8 P e = some zs) (hzo : zs.all (·.oneCell') = true) (r : fD E h w) {k : bZ} (hk : ¬ E.used k) {ys : List (List AV)} {y : Value} (hy : zP E w sz ys y) (hne : ys ≠ [])
    (hb : ys.length * b ≤ 140737488355328) (hlen : ys.length ≤ 140737488355328) (a0 : Option Addr) :
    ∃ v' w' E' cap sp, (Builtin.append_ #[t, t] ty #[.slice a0 0 0, y]).run P w = .ok v' w' ∧ eB E w E' w' ∧ fD E' (upd h k (some (.obj e (ys.flatten ++ sp)))) w' ∧ VR E' w' (.vw k ys.length cap) v' ∧
      ys.length ≤ cap ∧ cap ≤ maxLen ∧ ys.length * sz + sp.length = cap * sz := by
  obtain ⟨i, z, hi, hz, rfl, rfl, hzs, hsp⟩ := ht.inf
  have hzc : ∀ u ∈ z.cells.toList, u.oneCell' = true := by
    have : zs = z.cells.toList := by
      unfold p8 at hzr
      rw [hi] at hzr
      simp only [Option.bind_some, hz, Option.map_some, Option.some.injEq] at hzr
      exact hzr.symm
    subst this
    exact fun u hu => List.all_eq_true.1 hzo u hu
  have hs : ∀ x ∈ ys, x.length = i.size := hy.1
  obtain ⟨g, o, cap, cv, rfl, c1, c2, c3, c4⟩ := hy.2.resolve_left fun e => hne e.1
  have hpos : 0 < ys.length := List.length_pos_iff.2 hne
  have hrun : (Builtin.append_ #[t, t] ty #[.slice a0 0 0, .slice (some ⟨g, o, none⟩) ys.length cap]).run P w =
      .ok (.slice (some ⟨w.heap.size, 0, none⟩) ys.length (grownCap w ys.length 0 e)) (w.drew.alloc (.cells (cv.toArray ++ Builtin.zeroCells z.cells (grownCap w ys.length 0 e - ys.length)) e)) := by
    cases a0 with
    | none => exact run_append_nil (P := P) w t ty e i z ht.ut hi hz ⟨g, o, none⟩ ys.length cap cv c3 (fun j u hj => by rw [Addr.add_lit]; exact c4 j u hj) hpos (by omega) (by omega)
    | some b0 =>
      have := run_append_grow (P := P) w t ty e i z ht.ut hi hz b0 0 0 [] (by simp) (by simp) ⟨g, o, none⟩ ys.length cap cv c3 (fun j u hj => by rw [Addr.add_lit]; exact c4 j u hj) (by omega) (by omega) (growslice_fits (by omega) (by rw [Nat.zero_add]; exact hb))
      simpa using this
  have hge := grownCap_ge w ys.length 0 e
  have hcm : grownCap w ys.length 0 e ≤ maxLen := grownCap_le_maxLen w ys.length 0 e (by simp only [maxLen]; omega)
  obtain ⟨rd, kd⟩ := r.drewn (w.drawn + 1)
  have hvl : cL E w.drew (ys.flatten ++ List.replicate (Builtin.zeroCells z.cells (grownCap w ys.length 0 e - ys.length)).toList.length AV.any) (cv.toArray ++ Builtin.zeroCells z.cells (grownCap w ys.length 0 e - ys.length)).toList := by
    rw [Array.toList_append]
    exact cU (cB kd _ _ c1) (oR _ rfl)
  obtain ⟨E', e1, e2, e3⟩ := fD.new_obj (w := w.drew) rd hk e hvl (by
    intro v hv
    rw [Array.toList_append] at hv
    rcases List.mem_append.1 hv with hv | hv
    · exact c2 v (by simpa using hv)
    · exact iE hzc v hv)
  refine ⟨_, _, E', grownCap w ys.length 0 e, _, hrun, kd.trans e2, e3, ?_, hge, hcm, ?_⟩
  · simp only [VR]
    exact ⟨_, e1, rfl, hge, hcm⟩
  · have hzl : ∀ m, (Builtin.zeroCells z.cells m).toList.length = m * i.size := fun m => by rw [Array.length_toList, size_zeroCells, hzs]
    rw [List.length_replicate, hzl, ← Nat.add_mul]
    congr 1; omega
theorem IY {t ty e : TypeId} {sz b : Nat} (ht : jD P t e sz b) {zs : List Value} (hzr : p8 P e = some zs) (hzo : zs.all (·.oneCell') = true) (r : fD E h w) (d : Nat) {k : bZ} {xs ys : List (List AV)} {sp : List AV} {cap : Nat} (hk : h k = some (.obj e (xs.flatten ++ sp)))
    (hsx : xs.flatten.length = xs.length * sz) (hcl : xs.length * sz + sp.length = cap * sz) {v : Value} (hv : VR E w (.vw k xs.length cap) v) {y : Value} (hy : zP E w sz ys y) (hne : ys ≠ []) (hb : (xs.length + ys.length) * b ≤ 140737488355328) (hlen : xs.length + ys.length ≤ 140737488355328) :
    ∃ v' w' E' k2 cap' sp', (k2 = k ∨ (k2 ≠ k ∧ h k2 = none)) ∧ (Builtin.append_ #[t, t] ty #[v, y]).run P w = .ok v' w' ∧ eB E w E' w' ∧ fD E' (upd (upd h k none) k2 (some (.obj e ((xs ++ ys).flatten ++ sp')))) w' ∧ VR E' w' (.vw k2 (xs ++ ys).length cap') v' ∧
      (xs ++ ys).length ≤ cap' ∧ cap' ≤ maxLen ∧ (xs ++ ys).length * sz + sp'.length = cap' * sz := by
  obtain ⟨i, z, hi, hz, rfl, rfl, hzs, hsp⟩ := ht.inf
  have hzc : ∀ u ∈ z.cells.toList, u.oneCell' = true := by
    have : zs = z.cells.toList := by
      unfold p8 at hzr
      rw [hi] at hzr
      simp only [Option.bind_some, hz, Option.map_some, Option.some.injEq] at hzr
      exact hzr.symm
    subst this
    exact fun u hu => List.all_eq_true.1 hzo u hu
  have hsy : ∀ x ∈ ys, x.length = i.size := hy.1
  obtain ⟨g, o, capy, cy, rfl, c1, c2, c3, c4⟩ := hy.2.resolve_left fun e => hne e.1
  have hpos : 0 < ys.length := List.length_pos_iff.2 hne
  obtain ⟨gb, cur, g1, g2, g3, g4⟩ := r.obj _ _ _ hk
  simp only [VR] at hv
  obtain ⟨gb', q1, rfl, v1, v2⟩ := hv
  rw [g1] at q1; cases q1
  have hcl' : cur.toList.length = cap * i.size := by rw [← cT g3, List.length_append, hsx, hcl]
  have hsz : cur.size = cap * i.size := by simpa using hcl'
  have htake : cL E w xs.flatten (cur.toList.take (xs.length * i.size)) := by
    have := fN (xs.length * i.size) g3
    rwa [List.take_left' hsx] at this
  have hdrop : ∀ m, cL E w (sp.drop m) (cur.toList.drop (xs.length * i.size + m)) := by
    intro m
    have := hC (xs.length * i.size + m) g3
    rwa [← List.drop_drop, List.drop_left' hsx] at this
  have hl2 : (xs ++ ys).length * i.size = xs.length * i.size + ys.length * i.size := by rw [List.length_append, Nat.add_mul]
  have hle : xs.length * i.size ≤ cur.size := by rw [hsz]; exact Nat.mul_le_mul_right _ v1
  have htl : (cur.toList.take (xs.length * i.size)).length = xs.length * i.size := by
    rw [List.length_take]
    have : cur.toList.length = cur.size := by simp
    omega
  by_cases hroom : xs.length + ys.length ≤ cap
  · have hfit : xs.length * i.size + cy.length ≤ cur.size := by rw [c3, hsz, ← Nat.add_mul]; exact Nat.mul_le_mul_right _ hroom
    have hrun := run_append_room (P := P) w t ty e i ht.ut hi gb xs.length cap cur g2 ⟨g, o, none⟩ ys.length capy cy c3 (fun j u hj => by rw [Addr.add_lit]; exact c4 j u hj) c2 hroom hfit
    have hvl : cL E w ((xs ++ ys).flatten ++ sp.drop cy.length) (cur.toList.take (xs.length * i.size) ++ cy ++ cur.toList.drop (xs.length * i.size + cy.length)).toArray.toList := by
      rw [List.flatten_append]
      exact cU (cU htake c1) (hdrop _)
    obtain ⟨k1, k2⟩ := r.set_obj hk g1 (w' := w.setRow gb (cur.toList.take (xs.length * i.size) ++ cy ++ cur.toList.drop (xs.length * i.size + cy.length)).toArray)
      (setRow_heap w gb cur _ e _ g2) (fun g' hg' => setRow_other w gb g' _ hg') (by simp) rfl rfl rfl hvl (by
        intro u hu
        rcases List.mem_append.1 hu with hu | hu
        · rcases List.mem_append.1 hu with hu | hu
          · exact g4 u (List.mem_of_mem_take hu)
          · exact c2 u hu
        · exact g4 u (List.mem_of_mem_drop hu))
    refine ⟨_, _, E, k, cap, sp.drop cy.length, .inl rfl, hrun, k1, ?_, ?_, ?_, v2, ?_⟩
    · have e1 : upd (upd h k none) k (some (.obj e ((xs ++ ys).flatten ++ sp.drop cy.length))) = upd h k (some (.obj e ((xs ++ ys).flatten ++ sp.drop cy.length))) := by
        funext x; unfold upd; split <;> rfl
      rw [e1]; exact k2
    · simp only [VR, List.length_append]
      exact ⟨gb, g1, rfl, hroom, v2⟩
    · rw [List.length_append]; exact hroom
    · rw [hl2, List.length_drop, c3]
      rw [c3] at hfit
      omega
  · have hold : ∀ j u, (cur.toList.take (xs.length * i.size))[j]? = some u → w.cell? ((⟨gb, 0, none⟩ : Addr).add j) = some u := by
      intro j u hj
      rw [Addr.add_lit, Nat.zero_add]
      simp only [World.cell?, g2]
      rw [List.getElem?_take] at hj
      split at hj
      · simpa using hj
      · cases hj
    have hrun := run_append_grow (P := P) w t ty e i z ht.ut hi hz ⟨gb, 0, none⟩ xs.length cap (cur.toList.take (xs.length * i.size)) htl hold ⟨g, o, none⟩ ys.length capy cy c3 (fun j u hj => by rw [Addr.add_lit]; exact c4 j u hj) (by omega) (by omega) (growslice_fits (by omega) hb)
    have hge := grownCap_ge w (xs.length + ys.length) cap e
    have hcm : grownCap w (xs.length + ys.length) cap e ≤ maxLen := grownCap_le_maxLen w (xs.length + ys.length) cap e (by simp only [maxLen]; omega)
    generalize hgc : grownCap w (xs.length + ys.length) cap e = gc at hge hcm hrun
    obtain ⟨rd, kd⟩ := r.drewn (w.drawn + 1)
    have rd' : fD E h w.drew := rd
    obtain ⟨E1, kx, rx⟩ := rd'.drop (h' := upd h k none) (fun x en hx => by
      unfold upd at hx
      split at hx
      · cases hx
      · exact hx)
    obtain ⟨nn, hE1⟩ := rx.fresh d
    have hEu : ¬ E.used (d, nn) := fun q => hE1 (kx.used _ (kd.used _ q))
    have hne2 : (d, nn) ≠ k := fun q => hEu (by rw [q]; exact r.hus _ _ hk)
    have kk := kd.trans kx
    have hvl : cL E1 w.drew ((xs ++ ys).flatten ++ List.replicate (Builtin.zeroCells z.cells (gc - (xs.length + ys.length))).toList.length AV.any) ((cur.toList.take (xs.length * i.size)).toArray ++ cy.toArray ++ Builtin.zeroCells z.cells (gc - (xs.length + ys.length))).toList := by
      rw [Array.toList_append, Array.toList_append, List.flatten_append]
      exact cU (cU (cB kk _ _ htake) (cB kk _ _ c1)) (oR _ rfl)
    obtain ⟨E', e1, e2, e3⟩ := fD.new_obj (w := w.drew) rx hE1 e hvl (by
      intro v hv
      rw [Array.toList_append, Array.toList_append] at hv
      rcases List.mem_append.1 hv with hv | hv
      · rcases List.mem_append.1 hv with hv | hv
        · exact g4 v (List.mem_of_mem_take (by simpa using hv))
        · exact c2 v (by simpa using hv)
      · exact iE hzc v hv)
    refine ⟨_, _, E', (d, nn), gc, _, .inr ⟨hne2, r.unused_none hEu⟩, hrun, kk.trans e2, e3, ?_, by rw [List.length_append]; exact hge, hcm, ?_⟩
    · simp only [VR, List.length_append]
      exact ⟨_, e1, rfl, hge, hcm⟩
    · have hzl : ∀ m, (Builtin.zeroCells z.cells m).toList.length = m * i.size := fun m => by rw [Array.length_toList, size_zeroCells, hzs]
      rw [hl2, List.length_replicate, hzl, ← Nat.add_mul, ← Nat.add_mul]
      congr 1; omega
end app
theorem sV {h0 : aH} {e' : iH} : ∀ {L : HL} (i : Nat), bS h0 L → i < L.length → hp h0 (L.set i (none, e')) = hp h0 (L.eraseIdx i) ∧ bS h0 (L.set i (none, e'))
 | [], i, _, h => by simp at h
 | (t, e) :: r, 0, ok, _ => ⟨rfl, ok.1, nofun⟩
 | (t, e) :: r, i + 1, ok, h => by
  obtain ⟨h1, h2⟩ := sV (e' := e') (L := r) i ok.1 (by simpa using h)
  simp only [List.set_cons_succ, List.eraseIdx_cons_succ]
  refine ⟨?_, h2, ?_⟩
  ·cases t <;> simp only [hp, h1]
  ·intro k q
   rw [h1]
   exact lK (aV (List.eraseIdx_sublist r i) ok.1).1 (ok.2 k q)
theorem vX {h0 : aH} {k : bZ} {e : iH} : ∀ {L : HL} (i : Nat), bS h0 L → L[i]? = some (some k, e) → hp h0 (L.eraseIdx i) = upd (hp h0 L) k none
 | [], i, _, h => by simp at h
 | (t, e') :: r, 0, ok, h => by
  simp only [List.getElem?_cons_zero, Option.some.injEq, Prod.mk.injEq] at h
  obtain ⟨rfl, rfl⟩ := h
  have := ok.2 k rfl
  funext x
  simp only [List.eraseIdx_zero, List.tail_cons, hp]
  unfold upd
  by_cases hx : x = k
  ·subst hx; simp [this]
  ·simp [hx]
 | (t, e') :: r, i + 1, ok, h => by
  have h' : r[i]? = some (some k, e) := by simpa using h
  have ih := vX (L := r) i ok.1 h'
  simp only [List.eraseIdx_cons_succ]
  cases t with
  | none => exact ih
  | some k' =>
   have hne : k' ≠ k := fun q => by
    have h1 := ok.2 k' rfl
    rw [q, bB i ok.1 h'] at h1
    cases h1
   simp only [hp]
   rw [ih]
   exact z9 _ _ _ (Ne.symm hne)
section ops2
variable {P : Program} {ops : Array Oper} {h h0 : aH} {L : HL} {n : Nat} {kvs : KV} {l : List Oper} {ty : TypeId} {pos : String} {dP : Array Edge}
theorem fR {K : AV → aH → Prop} {α : Type} {c : α → List AV} {xs ys zs : List α} {dst : Option Tmp} {s x : Operand} {t e : TypeId} {sz b : Nat} {zv : List Value} {g : dD} (i : Nat) (hm : app xs ys = some zs) (ht : jD P t e sz b) (hb : Nat.ble b 100000 = true)
    (hzr : p8 P e = some zv) (hzo : zv.all (·.oneCell') = true) (hc : ∀ y, (c y).length = sz)
    (ha : dN n kvs s = aw g.t g.n g.cap) (hi : L[i]? = some (g.t, .obj e (fl c xs g.sp))) (ok : bJ g sz xs.length) (hk : bS h0 L) (hx : kC (hp h0 L) sz (dN n kvs x) = some (ys.map c))
    (k : ∀ g' : dD, bJ g' sz zs.length → bS h0 (L.set i (g'.t, .obj e (fl c zs g'.sp))) → K (aw g'.t g'.n g'.cap) (hp h0 (L.set i (g'.t, .obj e (fl c zs g'.sp))))) :
    iB P ⟨dst, .call { callee := .builtin .append, args := #[s, x], argTypes := #[t, t] }, ty, pos, dP, none⟩ K (fm n kvs) (hp h0 L) := by
  obtain ⟨rfl, hsz⟩ := hH hm
  have hb' := Nat.le_of_ble_eq_true hb
  have hbound : (xs.length + ys.length) * (b + 1) ≤ 140737488355328 := by
    have : (xs.length + ys.length) * (b + 1) ≤ 1000000000 * 100001 := Nat.mul_le_mul hsz (by omega)
    omega
  rw [Nat.mul_add, Nat.mul_one] at hbound
  have hil : i < L.length := (List.getElem?_eq_some_iff.1 hi).1
  have hset : ∀ a, L[i]? = some a → L.set i a = L := by
    intro a ha
    apply List.ext_getElem?; intro j; rw [List.getElem?_set]; split
    · rename_i q; first | (subst q; exact ha.symm) | (subst q; rw [if_pos hil]; exact ha.symm)
    · rfl
  intro E w a r hv Nx Qx hn
  have vs := hv s (by simp [Op.operands, Call.operands])
  have vx := hv x (by simp [Op.operands, Call.operands])
  rw [bG] at vs vx
  rw [ha, ok.eqn] at vs
  have src := oD r hx vx
  have hop : (⟨dst, .call { callee := .builtin .append, args := #[s, x], argTypes := #[t, t] }, ty, pos, dP, none⟩ : Oper).op = .call { callee := .builtin .append, args := #[s, x], argTypes := #[t, t] } := rfl
  by_cases hy : ys = []
  · subst hy
    have hsv : ∃ q cap, a.eval s = .slice q xs.length cap ∧ xs.length ≤ cap ∧ (q = none → cap = 0) := by
      have hnil := ok.nil
      cases htg : g.t with
      | none =>
        rw [htg] at vs
        simp only [aw, VR] at vs
        obtain ⟨q, e⟩ := vs
        exact ⟨q, 0, by rw [e, hnil htg], by rw [hnil htg]; exact Nat.le_refl _, fun _ => rfl⟩
      | some kk =>
        rw [htg] at vs
        simp only [aw, VR] at vs
        obtain ⟨q, _, e, e2, _⟩ := vs
        exact ⟨_, _, e, e2, nofun⟩
    obtain ⟨q, cap, es, ec, hq⟩ := hsv
    have src0 : ∃ q c, a.eval x = .slice q 0 c := by
      rcases src.2 with ⟨_, q, c, e⟩ | ⟨g, oo, c, cv, e, _⟩
      · exact ⟨q, c, e⟩
      · exact ⟨_, c, e⟩
    obtain ⟨qx, cx, ex⟩ := src0
    have hv0 : (a.eval s = .slice none 0 0 ∧ xs.length = 0) ∨ ∃ a' cap, a.eval s = .slice (some a') xs.length cap ∧ xs.length ≤ cap := by
      cases q with
      | none => have h0 := hq rfl; subst h0; have h0 : xs.length = 0 := by omega
                exact .inl ⟨by rw [es, h0], h0⟩
      | some b => exact .inr ⟨b, cap, es, ec⟩
    have hr := iG (P := P) (w := w) (ty := ty) ht hv0 ex
    unfold Oper.wp
    rw [f0 hop hr]
    have hk1 := k g (by simpa using ok) (by rw [List.append_nil, hset _ hi]; exact hk)
    rw [List.append_nil, hset _ hi, ok.eqn] at hk1
    exact hn _ _ _ E _ (eB.refl E w) r vs hk1
  · have hyc : ys.map c ≠ [] := by simpa using hy
    cases htg : g.t with
    | none =>
      have hx0 := ok.nil htg
      have hxs : xs = [] := List.length_eq_zero_iff.1 hx0
      subst hxs
      rw [htg] at vs hi
      simp only [aw, VR] at vs
      obtain ⟨a0, ea0⟩ := vs
      obtain ⟨m, hm'⟩ := r.fresh 0
      obtain ⟨v', w', E', cap, sp, e1, e2, e3, e4, e5, e6, e7⟩ := FV (ty := ty) ht hzr hzo r hm' src hyc (by rw [List.length_map]; simp only [List.length_nil, Nat.zero_add] at hbound; omega) (by rw [List.length_map]; simp only [List.length_nil, Nat.zero_add] at hbound; omega) a0
      unfold Oper.wp
      rw [f0 hop (by rw [ea0]; exact e1)]
      rw [List.length_map] at e4 e5 e7
      have hnone := r.unused_none hm'
      obtain ⟨p1, p2, _⟩ := iC (k := (0, m)) (e' := .obj e (fl c ys sp)) i hk hi (.inr ⟨rfl, hnone⟩)
      have hk1 := k ⟨some (0, m), ys.length, cap, sp⟩ ⟨by simp, nofun, by simpa using e5, e6, by simpa using e7⟩ p2
      refine hn _ _ _ E' _ e2 e3 e4 ?_
      have : upd (hp h0 L) (0, m) (some (.obj e ((ys.map c).flatten ++ sp))) = hp h0 (L.set i (some (0, m), .obj e (fl c ys sp))) := p1
      rw [this]
      exact hk1
    | some kk =>
      rw [htg] at vs hi
      have hg := bB i hk hi
      have hcl : (xs.map c).length * sz + g.sp.length = g.cap * sz := by rw [List.length_map]; exact ok.len
      obtain ⟨v', w', E', k2, cap, sp, e0, e1, e2, e3, e4, e5, e6, e7⟩ := IY (ty := ty) ht hzr hzo r 0 (xs := xs.map c) (sp := g.sp) (cap := g.cap) hg (by rw [kG hc, List.length_map]) hcl (by rw [List.length_map]; exact vs) src hyc (by simp only [List.length_map]; omega) (by simp only [List.length_map]; omega)
      unfold Oper.wp
      rw [f0 hop e1]
      rw [← List.map_append, List.length_map] at e4 e5 e7
      rw [← List.map_append] at e3
      obtain ⟨s1, s2⟩ := sV (e' := .obj e (fl c xs g.sp)) i hk hil
      have hsn : (L.set i (none, iH.obj e (fl c xs g.sp)))[i]? = some (none, .obj e (fl c xs g.sp)) := by rw [List.getElem?_set_self hil]
      have hnk : hp h0 (L.set i (none, .obj e (fl c xs g.sp))) k2 = none := by
        rw [s1]
        rcases e0 with rfl | ⟨_, q⟩
        · exact mX i hk hi
        · exact lK (aV (List.eraseIdx_sublist L i) hk).1 q
      obtain ⟨p1, p2, _⟩ := iC (k := k2) (e' := .obj e (fl c (xs ++ ys) sp)) i s2 hsn (.inr ⟨rfl, hnk⟩)
      rw [List.set_set] at p1 p2
      have hq : upd (upd (hp h0 L) kk none) k2 (some (.obj e (fl c (xs ++ ys) sp))) = hp h0 (L.set i (some k2, .obj e (fl c (xs ++ ys) sp))) := by
        rw [← p1]
        congr 1
        rw [s1]
        exact (vX i hk hi).symm
      have hk1 := k ⟨some k2, (xs ++ ys).length, cap, sp⟩ ⟨rfl, nofun, e5, e6, e7⟩ p2
      refine hn _ _ _ E' _ e2 e3 e4 ?_
      have : upd (upd (hp h0 L) kk none) k2 (some (.obj e (((xs ++ ys).map c).flatten ++ sp))) = hp h0 (L.set i (some k2, .obj e (fl c (xs ++ ys) sp))) := hq
      rw [this]
      exact hk1
theorem xD {K : AV → aH → Prop} {α : Type} {c : α → List AV} {ys zs : List α} {dst : Option Tmp} {s : Nat} {x : Operand} {t e : TypeId} {sz b : Nat} {zv : List Value} (hm : app [] ys = some zs) (ht : jD P t e sz b) (hb : Nat.ble b 100000 = true)
    (hzr : p8 P e = some zv) (hzo : zv.all (·.oneCell') = true) (hc : ∀ y, (c y).length = sz)
    (ha : lk n kvs s = .sc (.slice none 0 0)) (hk : bS h0 L) (hx : kC (hp h0 L) sz (dN n (kp kvs s .e0) x) = some (ys.map c))
    (k : ∀ g' : dD, bJ g' sz zs.length → bS h0 ((g'.t, .obj e (fl c zs g'.sp)) :: L) → K (aw g'.t g'.n g'.cap) (hp h0 ((g'.t, .obj e (fl c zs g'.sp)) :: L))) :
    iB P ⟨dst, .call { callee := .builtin .append, args := #[.tmp s, x], argTypes := #[t, t] }, ty, pos, dP, none⟩ K (fm n kvs) (hp h0 L) := by
  have hl := AA (v := .e0) ha (by simp)
  refine o1 (s := s) .e0 (by rw [ha]; exact fP _) (fR (L := (none, .obj e (fl c ([] : List α) [])) :: L) (g := g0) (c := c) (xs := []) 0 hm ht hb hzr hzo hc ?_ rfl (bJ.g0 sz) ⟨hk, nofun⟩ hx ?_)
  · exact hl
  · exact fun g' h1 h2 => k g' h1 h2
end ops2
def PF (E : fT) (H : aH) (w : World) : fT where
 imm g o := E.imm g o ∨ ((∃ k, E.at H k g) ∧ ∃ v, w.cell? ⟨g, o, none⟩ = some v)
 lock g := E.lock g ∨ ∃ k, E.at H k g
 used := E.used
 ob := E.ob
 tk _ := none
abbrev hz : aH := fun _ => none
theorem DD {E : fT} {H : aH} {w : World} (r : fD E H w) : fD (PF E H w) hz w where
 obj := nofun
 tok := nofun
 tkh := nofun
 sep k k' g ha _ := by
  rcases ha with ⟨e, _, h, _⟩ | ⟨_, _, _, _, h, _⟩ <;> cases h
 dis k g ha := by
  rcases ha with ⟨e, _, h, _⟩ | ⟨_, _, _, _, h, _⟩ <;> cases h
 hus := nofun
 obu := r.obu
 fre := r.fre
 imb g o h := by
  rcases h with h | ⟨_, h⟩
  ·exact r.imb g o h
  ·exact h
 lkb g h := by
  rcases h with h | ⟨k, h⟩
  ·exact r.lkb g h
  ·exact r.at_lt h
 mp := nofun
theorem o3 {E : fT} {H : aH} {w : World} (r : fD E H w) : sH E w (PF E H w) w where
 imm g o h := ⟨.inl h, rfl⟩
 used _ h := h
 ob _ _ h := h
 tkc k t ht o ho := by
  refine ⟨.inl (.inr ?_), rfl⟩
  obtain ⟨ty, e⟩ := r.tkh k t ht
  obtain ⟨t', cur, e1, e2, e3, e4, e5, e6, e7⟩ := r.tok _ _ _ _ e
  rw [ht] at e1; cases e1
  refine ⟨⟨k, .inr ⟨ty, _, _, t, e, ht, rfl⟩⟩, ?_⟩
  have : o < cur.size := by omega
  exact ⟨cur[o], by simp [World.cell?, e4, this]⟩
 tkf := nofun
def Br (H : aH) (x y : AV) : Prop := ∀ E w v, fD E H w → VR E w x v → VR (PF E H w) w y v
theorem Br.refl (H : aH) (x : AV) : Br H x x := fun _ _ _ r h => jY (o3 r) _ _ h
theorem Br.ale {H : aH} {x y : AV} (h : aX H x y) : Br H x y := fun E w v r hv => jY (o3 r) _ _ (h E w v r hv)
theorem Br.ale0 {H : aH} {x y : AV} (h : aX hz x y) : Br H x y := fun _ w v r hv => h _ w v (DD r) (jY (o3 r) _ _ hv)
theorem Br.ow {α : Type} {c : α → List AV} {xs : List α} {t : Option bZ} {H : aH} (sz : Nat) (ot : t = none → xs = []) : Br H (ow t sz (xs.map c)) (.sl none sz (xs.map c)) :=
 Br.ale0 (wX sz ot fun _ _ => rfl)
theorem Br.vw {α : Type} {c : α → List AV} {xs : List α} {H : aH} {k : bZ} {ty : TypeId} {sp : List AV} {sz cap : Nat} (hc : ∀ y, (c y).length = sz) (hk : H k = some (.obj ty (fl c xs sp))) : Br H (.vw k xs.length cap) (.sl none sz (xs.map c)) := by
 intro E w v r hv
 simp only [VR] at hv ⊢
 obtain ⟨g, hg, rfl, h1, h2⟩ := hv
 obtain ⟨g', cur, e1, e2, e3, e4⟩ := r.obj _ _ _ hk
 rw [hg] at e1; cases e1
 refine ⟨_, cap, by rw [List.length_map], by rw [List.length_map]; exact h1, h2, ?_, ?_, nofun⟩
 ·refine .inr ⟨g, 0, rfl, iQ.2 ?_⟩
  have htake : cL E w (xs.map c).flatten (cur.toList.take ((xs.map c).flatten.length)) := by
   have := fN ((xs.map c).flatten.length) e3
   rwa [fl, List.take_left' rfl] at this
  refine eD (jS (o3 r) _ _ htake) (fun u hu => e4 u (List.mem_of_mem_take hu)) ?_
  intro j u hj
  rw [List.getElem?_take] at hj
  split at hj
  ·have hcell : w.cell? ⟨g, 0 + j, none⟩ = some u := by
    simp only [World.cell?, e2, Nat.zero_add]
    simpa using hj
   exact ⟨hcell, .inl (.inr ⟨⟨k, .inl ⟨_, rfl, hk, hg⟩⟩, u, hcell⟩)⟩
  ·cases hj
 ·intro x hx
  obtain ⟨y, _, rfl⟩ := List.mem_map.1 hx
  exact hc y
theorem Br.aw {α : Type} {c : α → List AV} {xs : List α} {h0 : aH} {L : HL} {ty : TypeId} {g : dD} {sz : Nat} (i : Nat) (hc : ∀ y, (c y).length = sz) (ok : bJ g sz xs.length) (hk : bS h0 L) (hi : L[i]? = some (g.t, .obj ty (fl c xs g.sp))) : Br (hp h0 L) (aw g.t g.n g.cap) (.sl none sz (xs.map c)) := by
 rw [ok.eqn]
 cases ht : g.t with
 | none =>
  have h0 : xs = [] := List.length_eq_zero_iff.1 (ok.nil ht)
  subst h0
  exact Br.ale (xC _ sz)
 | some k =>
  rw [ht] at hi
  exact Br.vw hc (bB i hk hi)
inductive uO (H : aH) : List AV → List AV → Prop where
 | nil : uO H [] []
 | cons {x y : AV} {xs ys : List AV} : Br H x y → uO H xs ys → uO H (x :: xs) (y :: ys)
theorem uO.spec {H : aH} {xs ys : List AV} (hl : uO H xs ys) {E : fT} {w : World} (r : fD E H w) : ∀ {vs : List Value}, cL E w xs vs → cL (PF E H w) w ys vs := by
 induction hl with
 | nil => intro vs v; cases vs with
  | nil => simp only [cL]
  | cons _ _ => simp only [cL] at v
 | cons h1 _ ih => intro vs v; cases vs with
  | nil => simp only [cL] at v
  | cons u us =>
   simp only [cL] at v ⊢
   exact ⟨h1 E w u r v.1, ih v.2⟩
theorem uO.refl (H : aH) : ∀ (xs : List AV), uO H xs xs
 | [] => .nil
 | x :: xs => .cons (Br.refl H x) (uO.refl H xs)
theorem uO.app {H : aH} {xs ys : List AV} : ∀ (k : Nat) {zs : List AV}, zs.length = k → uO H xs ys → uO H (zs ++ xs) (zs ++ ys)
 | 0, [], _, hl => hl
 | k + 1, z :: zs, hz, hl => .cons (Br.refl _ _) (uO.app k (by simpa using hz) hl)
 | 0, _ :: _, hz, _ => by simp at hz
 | _ + 1, [], hz, _ => by simp at hz
theorem Br.agg {H : aH} {xs ys : List AV} (hl : uO H xs ys) : Br H (.agg xs) (.agg ys) := by
 intro E w v r hv
 simp only [VR] at hv ⊢
 obtain ⟨cs, rfl, h⟩ := hv
 exact ⟨cs, rfl, hl.spec r h⟩
def FW : AV → Bool
 | .sc _ => true
 | .tup xs => xs.all fun | .sc _ => true | _ => false
 | _ => false
theorem BY {x : AV} (hx : FW x = true) {E E' : fT} {w w' : World} {v : Value} (hv : VR E w x v) : VR E' w' x v := by
 cases x with
 | sc u => simpa only [VR] using hv
 | tup xs =>
  simp only [VR] at hv ⊢
  obtain ⟨cs, rfl, h⟩ := hv
  refine ⟨cs, rfl, ?_⟩
  simp only [FW] at hx
  generalize cs.toList = l at h
  induction xs generalizing l with
  | nil => cases l with
   | nil => simp only [cL]
   | cons _ _ => simp only [cL] at h
  | cons y ys ih => cases l with
   | nil => simp only [cL] at h
   | cons u us =>
    simp only [cL] at h ⊢
    simp only [List.all_cons, Bool.and_eq_true] at hx
    refine ⟨?_, ih hx.2 us h.2⟩
    cases y with
    | sc z => simpa only [VR] using h.1
    | _ => cases hx.1
 | _ => cases hx
theorem f8 {P : Program} {f : FuncId} {us bs : List AV} {x : AV} {H : aH} (hb : uO H us bs) (hx : FW x = true) (hc : aP P f bs hz (fun r h' => r = x ∧ h' = hz)) : aP P f us H (fun r h' => r = x ∧ h' = H) := by
 intro E w vs r hv
 refine (hc (PF E H w) w vs (DD r) (hb.spec r hv)).mono ?_
 rintro e w' ⟨v, E'', y, h', rfl, k, r'', vx, rfl, rfl⟩
 have hblk : ∀ kk g, E.at H kk g → w'.heap[g]? = w.heap[g]? := fun kk g ha => k.lock g (.inr ⟨kk, ha⟩)
 have hat : ∀ kk t, E.tk kk = some t → E.at H kk t.b := fun kk t ht => by
  obtain ⟨ty, e⟩ := r.tkh kk t ht
  exact .inr ⟨ty, _, _, t, e, ht, rfl⟩
 have kE : eB E w E w' := ⟨fun g o h => ⟨h, (k.imm g o (.inl h)).2⟩, fun _ => Iff.rfl, fun g hg => k.lock g (.inl hg), fun _ h => h, fun _ _ h => h,
  fun kk t ht o ho => ⟨.inr ⟨t, ht, rfl, ho⟩, dU (hblk kk t.b (hat kk t ht)) o⟩, fun kk t' h _ => ⟨t', h, Nat.le_refl _, fun _ => rfl⟩, k.os, k.tape, k.output, k.size⟩
 refine ⟨v, E, y, H, rfl, kE, ?_, BY hx vx, rfl, rfl⟩
 constructor
 ·intro kk ty cs hk
  obtain ⟨g, cur, e1, e2, e3, e4⟩ := r.obj kk ty cs hk
  exact ⟨g, cur, e1, (hblk kk g (.inl ⟨_, rfl, hk, e1⟩)).trans e2, cB kE _ _ e3, e4⟩
 ·intro kk ty sz m hk
  obtain ⟨t, cur, e1, e2, e3, e4, e5⟩ := r.tok kk ty sz m hk
  exact ⟨t, cur, e1, e2, e3, (hblk kk t.b (hat kk t e1)).trans e4, e5⟩
 ·exact r.tkh
 ·exact r.sep
 ·exact r.dis
 ·exact r.hus
 ·exact r.obu
 ·exact r.fre
 ·intro g o ho
  obtain ⟨v, hv⟩ := r.imb g o ho
  exact ⟨v, (kE.imm g o ho).2.trans hv⟩
 ·intro g hg
  exact Nat.lt_of_lt_of_le (r.lkb g hg) k.size
 ·intro kk es hk
  obtain ⟨g, ents, clk, e1, e2, e3⟩ := r.mp kk es hk
  exact ⟨g, ents, clk, e1, (hblk kk g (.inl ⟨_, rfl, hk, e1⟩)).trans e2, e3⟩
def BE (E : fT) (H H' : aH) (w : World) : fT := { E with
 imm := fun g o => E.imm g o ∨ ((∃ k, E.at H k g ∧ H' k = none) ∧ ∃ v, w.cell? ⟨g, o, none⟩ = some v)
 tk := fun k => if (H' k).isSome then E.tk k else none }
theorem fX {E : fT} {H H' : aH} {w : World} (r : fD E H w) : eB E w (BE E H H' w) w := by
 refine ⟨fun g o h => ⟨.inl h, rfl⟩, fun _ => Iff.rfl, fun _ _ => rfl, fun _ h => h, fun _ _ h => h, ?_, ?_, rfl, rfl, rfl, Nat.le_refl _⟩
 ·intro k t ht o ho
  refine ⟨?_, rfl⟩
  cases hk : H' k with
  | some e => exact .inr ⟨t, by simp [BE, hk, ht], rfl, ho⟩
  | none =>
   obtain ⟨ty, e⟩ := r.tkh k t ht
   obtain ⟨t', cur, e1, e2, e3, e4, e5, e6, e7⟩ := r.tok _ _ _ _ e
   rw [ht] at e1; cases e1
   have : o < cur.size := by omega
   exact .inl (.inr ⟨⟨k, .inr ⟨ty, _, _, t, e, ht, rfl⟩, hk⟩, cur[o], by simp [World.cell?, e4, this]⟩)
 ·intro k t' ht _
  simp only [BE] at ht
  split at ht
  ·exact ⟨t', ht, Nat.le_refl _, fun _ => rfl⟩
  ·cases ht
theorem o4 {E : fT} {H H' : aH} {w : World} (r : fD E H w) (hs : gX H' H) : fD (BE E H H' w) H' w := by
 have key : eB E w (BE E H H' w) w := fX r
 have at' : ∀ k g, fT.at (BE E H H' w) H' k g → E.at H k g ∧ (H' k).isSome = true := by
  intro k g ha
  rcases ha with ⟨ty, cs, h1, h2⟩ | ⟨ty, sz, m, t, h1, h2, h3⟩
  ·exact ⟨.inl ⟨ty, cs, hs _ _ h1, h2⟩, by simp [h1]⟩
  ·simp only [BE, h1, Option.isSome_some, if_true] at h2
   exact ⟨.inr ⟨ty, sz, m, t, hs _ _ h1, h2, h3⟩, by simp [h1]⟩
 constructor
 ·intro k ty cs hk
  obtain ⟨g, cur, e1, e2, e3, e4⟩ := r.obj k ty cs (hs _ _ hk)
  exact ⟨g, cur, e1, e2, cB key _ _ e3, e4⟩
 ·intro k ty sz m hk
  obtain ⟨t, cur, e1, e2⟩ := r.tok k ty sz m (hs _ _ hk)
  exact ⟨t, cur, by simp [BE, hk, e1], e2⟩
 ·intro k t hk
  simp only [BE] at hk
  split at hk
  ·rename_i hsome
   obtain ⟨ty, e⟩ := r.tkh k t hk
   obtain ⟨e', he'⟩ := Option.isSome_iff_exists.1 hsome
   have := hs _ _ he'
   rw [e] at this
   cases this
   exact ⟨ty, he'⟩
  ·cases hk
 ·intro k k' g ha hb
  exact r.sep k k' g (at' _ _ ha).1 (at' _ _ hb).1
 ·intro k g ha
  obtain ⟨h1, h2⟩ := r.dis k g (at' _ _ ha).1
  refine ⟨h1, fun o ho => ?_⟩
  rcases ho with ho | ⟨⟨k', e1, e2⟩, _⟩
  ·exact h2 o ho
  ·have : k = k' := r.sep k k' g (at' _ _ ha).1 e1
   subst this
   have := (at' _ _ ha).2
   rw [e2] at this
   cases this
 ·exact fun k e hk => r.hus k e (hs _ _ hk)
 ·exact r.obu
 ·exact r.fre
 ·intro g o ho
  rcases ho with ho | ⟨_, h⟩
  ·exact r.imb g o ho
  ·exact h
 ·exact r.lkb
 ·exact fun k es hk => r.mp k es (hs _ _ hk)
def Fz (H H' : aH) (x y : AV) : Prop := ∀ E w v, fD E H w → VR E w x v → VR (BE E H H' w) w y v
theorem Fz.refl (H H' : aH) (x : AV) : Fz H H' x x := fun _ _ _ r h => jL (fX r) _ _ h
theorem Fz.ale {H H' : aH} {x y : AV} (hs : gX H' H) (h : aX H' x y) : Fz H H' x y := fun _ w v r hv => h _ w v (o4 r hs) (jL (fX r) _ _ hv)
theorem Fz.vw {α : Type} {c : α → List AV} {xs : List α} {H H' : aH} {k : bZ} {ty : TypeId} {sp : List AV} {sz cap : Nat} (hc : ∀ y, (c y).length = sz) (hk : H k = some (.obj ty (fl c xs sp))) (hn : H' k = none) : Fz H H' (.vw k xs.length cap) (.sl none sz (xs.map c)) := by
 intro E w v r hv
 simp only [VR] at hv ⊢
 obtain ⟨g, hg, rfl, h1, h2⟩ := hv
 obtain ⟨g', cur, e1, e2, e3, e4⟩ := r.obj _ _ _ hk
 rw [hg] at e1; cases e1
 refine ⟨_, cap, by rw [List.length_map], by rw [List.length_map]; exact h1, h2, ?_, ?_, nofun⟩
 ·refine .inr ⟨g, 0, rfl, iQ.2 ?_⟩
  have htake : cL E w (xs.map c).flatten (cur.toList.take ((xs.map c).flatten.length)) := by
   have := fN ((xs.map c).flatten.length) e3
   rwa [fl, List.take_left' rfl] at this
  refine eD (cB (fX r) _ _ htake) (fun u hu => e4 u (List.mem_of_mem_take hu)) ?_
  intro j u hj
  rw [List.getElem?_take] at hj
  split at hj
  ·have hcell : w.cell? ⟨g, 0 + j, none⟩ = some u := by
    simp only [World.cell?, e2, Nat.zero_add]
    simpa using hj
   exact ⟨hcell, .inl (.inr ⟨⟨k, .inl ⟨_, rfl, hk, hg⟩, hn⟩, u, hcell⟩)⟩
  ·cases hj
 ·intro x hx
  obtain ⟨y, _, rfl⟩ := List.mem_map.1 hx
  exact hc y
theorem Fz.aw {α : Type} {c : α → List AV} {xs : List α} {h0 : aH} {L L' : HL} {ty : TypeId} {g : dD} {sz : Nat} (i : Nat) (hc : ∀ y, (c y).length = sz) (ok : bJ g sz xs.length) (hk : bS h0 L) (hi : L[i]? = some (g.t, .obj ty (fl c xs g.sp))) (hs : L'.Sublist (L.eraseIdx i)) :
    Fz (hp h0 L) (hp h0 L') (aw g.t g.n g.cap) (.sl none sz (xs.map c)) := by
  rw [ok.eqn]
  cases ht : g.t with
  | none =>
    have h0 : xs = [] := List.length_eq_zero_iff.1 (ok.nil ht)
    subst h0
    exact Fz.ale (aV (hs.trans (List.eraseIdx_sublist L i)) hk).1 (xC _ sz)
  | some k =>
    rw [ht] at hi
    exact Fz.vw hc (bB i hk hi) (lK (aV hs (aV (List.eraseIdx_sublist L i) hk).2).1 (mX i hk hi))
inductive nV (H H' : aH) : List AV → List AV → Prop where
 | nil : nV H H' [] []
 | cons {x y : AV} {xs ys : List AV} : Fz H H' x y → nV H H' xs ys → nV H H' (x :: xs) (y :: ys)
theorem nV.spec {H H' : aH} {xs ys : List AV} (hl : nV H H' xs ys) {E : fT} {w : World} (r : fD E H w) : ∀ {vs : List Value}, cL E w xs vs → cL (BE E H H' w) w ys vs := by
 induction hl with
 | nil => intro vs v; cases vs with
  | nil => simp only [cL]
  | cons _ _ => simp only [cL] at v
 | cons h1 _ ih => intro vs v; cases vs with
  | nil => simp only [cL] at v
  | cons u us =>
   simp only [cL] at v ⊢
   exact ⟨h1 E w u r v.1, ih v.2⟩
theorem nV.refl (H H' : aH) : ∀ (xs : List AV), nV H H' xs xs
 | [] => .nil
 | x :: xs => .cons (Fz.refl H H' x) (nV.refl H H' xs)
theorem nV.app {H H' : aH} {xs ys : List AV} : ∀ (k : Nat) {zs : List AV}, zs.length = k → nV H H' xs ys → nV H H' (zs ++ xs) (zs ++ ys)
 | 0, [], _, hl => hl
 | k + 1, z :: zs, hz, hl => .cons (Fz.refl _ _ _) (nV.app k (by simpa using hz) hl)
 | 0, _ :: _, hz, _ => by simp at hz
 | _ + 1, [], hz, _ => by simp at hz
theorem Fz.agg {H H' : aH} {xs ys : List AV} (hl : nV H H' xs ys) : Fz H H' (.agg xs) (.agg ys) := by
 intro E w v r hv
 simp only [VR] at hv ⊢
 obtain ⟨cs, rfl, h⟩ := hv
 exact ⟨cs, rfl, hl.spec r h⟩
theorem gY.fz {n : Nat} {kvs : KV} {H H' : aH} {t : Nat} {v : AV} (hs : gX H' H) (hv : Fz H H' (lk n kvs t) v) : gY (Vm.fm n (kp kvs t v)) H' (Vm.fm n kvs) H := by
 intro E w vs r vv
 refine ⟨_, fX r, o4 r hs, ?_⟩
 have key : nV H H' (Vm.fm n kvs) (Vm.fm n (kp kvs t v)) := by
  have : ∀ {xs ys : List AV}, xs.length = ys.length → (∀ (i : Nat) (x y : AV), xs[i]? = some x → ys[i]? = some y → Fz H H' x y) → nV H H' xs ys := by
   intro xs
   induction xs with
   | nil => intro ys hl _; cases ys with
    | nil => exact .nil
    | cons _ _ => simp at hl
   | cons x xs ih => intro ys hl hg; cases ys with
    | nil => simp at hl
    | cons y ys => exact .cons (hg 0 x y rfl rfl) (ih (by simpa using hl) fun i a b ha hb => hg (i + 1) a b (by simpa using ha) (by simpa using hb))
  refine this (by rw [jU, jU]) ?_
  intro i x y hx hy
  rw [mU] at hx hy
  by_cases hi : i < n
  ·rw [if_pos hi] at hx hy
   cases hx; cases hy
   by_cases e : t = i
   ·subst e
    rw [jN]
    rw [jK, if_pos hi] at hv
    exact hv
   ·rw [nY _ _ e]; exact Fz.refl _ _ _
  ·rw [if_neg hi] at hx; cases hx
 exact key.spec r vv
section more
variable {P : Program} {h0 : aH} {L : HL} {n : Nat} {kvs : KV}
theorem sW {o : Oper} {K : AV → aH → Prop} {H H' : aH} {s : Nat} (v : AV) (hs : gX H' H) (hv : Fz H H' (lk n kvs s) v) (ho : iB P o K (fm n (kp kvs s v)) H') : iB P o K (fm n kvs) H := by
 intro E w a r hvv Nx Qx hn
 refine ho (BE E H H' w) w a (o4 r hs) (fun y hy => ?_) Nx Qx (fun x v' w' E' h' k r' vx kx => hn x v' w' E' h' ((fX r).trans k) r' vx kx)
 have h1 := hvv y hy
 rw [bG] at h1 ⊢
 cases y with
 | tmp u =>
  simp only [dN, jK] at h1 hv ⊢
  by_cases e : s = u
  ·subst e
   rw [jN]
   split
   ·rename_i q; rw [if_pos q] at h1 hv; exact hv E w _ r h1
   ·exact jL (fX r) _ _ (by rename_i q; rw [if_neg q] at h1; exact h1)
  ·rw [nY _ _ e]; exact jL (fX r) _ _ h1
 | const v => exact jL (fX r) _ _ h1
 | global g => exact jL (fX r) _ _ h1
 | func f => exact jL (fX r) _ _ h1
theorem gY.fzO {f : KV} {k : bZ} {ty : TypeId} {cs : List AV} (p j : Nat) (cs' : List AV) (hk : bS h0 L) (hj : (L.eraseIdx p)[j]? = some (some k, .obj ty cs)) (hl : nV (hp h0 L) (hp h0 (L.eraseIdx p)) cs cs') :
    bS h0 ((L.eraseIdx p).set j (some k, .obj ty cs')) ∧ gY (Vm.fm n f) (hp h0 ((L.eraseIdx p).set j (some k, .obj ty cs'))) (Vm.fm n f) (hp h0 L) := by
  obtain ⟨hs, hk1⟩ := aV (List.eraseIdx_sublist L p) hk
  obtain ⟨h1, h2, _⟩ := iC (e' := .obj ty cs') j hk1 hj (.inl rfl)
  refine ⟨h2, fun E w vs r v => ?_⟩
  have hg1 := bB j hk1 hj
  obtain ⟨g, cur, e1, e2, e3, e4⟩ := r.obj k ty cs (hs _ _ hg1)
  have r1 := o4 r hs
  have k1 : eB E w (BE E (hp h0 L) (hp h0 (L.eraseIdx p)) w) w := fX r
  obtain ⟨k2, r2⟩ := r1.set_obj hg1 (show (BE E (hp h0 L) (hp h0 (L.eraseIdx p)) w).ob k = some g from e1) (w' := w) e2 (fun _ _ => rfl) (Nat.le_refl _) rfl rfl rfl (hl.spec r e3) e4
  rw [h1] at r2
  exact ⟨_, k1.trans k2, r2, cB (k1.trans k2) _ _ v⟩
theorem mN {ops : Array Oper} {fs : List (Nat × Option bZ × iH)} {K : Fr → aH → Prop} {f : Nat} {S : Array Bool} {fr : Fr} {h1 h2 : aH} (e : h1 = h2) (k : bR fs S h2 ∧ FO P ops fs K f S fr h2) : bR fs S h1 ∧ FO P ops fs K f S fr h1 := by subst e; exact k
end more
abbrev aZ (g : dD) : AV := aw g.t g.n g.cap
open Go.Lib
def o5 (s : ByteArray) : List Int := s.data.toList.map fun b => (b.toNat : Int)
def xE (s : ByteArray) : List (List AV) := (o5 s).map fun z => [.sc (.int .u8 z)]
theorem m5 (s : ByteArray) : (o5 s).length = s.size := by simp [o5]
theorem xF (s : ByteArray) : (strCells s).toArray = s.data.map (fun b => Value.int .u8 b.toNat) := by
 apply Array.ext'
 simp [strCells]
section app
variable {P : Program} {E : fT} {h : aH} {w : World}
theorem DE : ∀ (l : List UInt8), cL E w ((l.map fun b => (b.toNat : Int)).map fun z => [AV.sc (.int .u8 z)]).flatten (l.map fun b => Value.int .u8 b.toNat)
 | [] => by simp [cL]
 | b :: l => by
  simp only [List.map_cons, List.flatten_cons, List.singleton_append, cL, VR]
  exact ⟨trivial, DE l⟩
theorem vY {sz : Nat} (h1 : sz = 1) (st : ByteArray) : ∃ cv : List Value, strCells st = cv ∧ st.size = (xE st).length ∧ (∀ x ∈ xE st, x.length = sz) ∧ cL E w (xE st).flatten cv ∧ (∀ u ∈ cv, u.oneCell' = true) ∧ cv.length = (xE st).length * sz := by
 subst h1
 refine ⟨_, rfl, by rw [xE, List.length_map, m5], ?_, DE _, strCells_oneCell st, by rw [strCells_length, xE, List.length_map, m5, Nat.mul_one]⟩
 intro x hx
 obtain ⟨z, _, rfl⟩ := List.mem_map.1 hx
 rfl
theorem xG {u t ty e : TypeId} {sz b : Nat} (huS : P.underlying u = some .string) (ht : jD P t e sz b) (h1z : sz = 1) (r : fD E h w) {k : bZ} (hk : ¬ E.used k) {ys : List (List AV)} (st : ByteArray) (hys : xE st = ys) (hne : ys ≠ [])
    (hb : ys.length * b ≤ 140737488355328) (hlen : ys.length ≤ 140737488355328) (a0 : Option Addr) :
    ∃ v' w' E', (Builtin.append_ #[t, u] ty #[.slice a0 0 0, .string st]).run P w = .ok v' w' ∧ eB E w E' w' ∧ fD E' (upd h k (some (.tok e sz (ys.length * sz)))) w' ∧ VR E' w' (.sl (some k) sz ys) v' := by
  obtain ⟨i, z, hi, hz, rfl, rfl, hzs, hsp⟩ := ht.inf
  obtain ⟨cv, ecv, hlc, hs, c1, c2, c3⟩ : ∃ cv : List Value, strCells st = cv ∧ st.size = ys.length ∧ (∀ x ∈ ys, x.length = i.size) ∧ cL E w ys.flatten cv ∧ (∀ u ∈ cv, u.oneCell' = true) ∧ cv.length = ys.length * i.size := by
    subst hys; exact vY (E := E) (w := w) h1z st
  have hpos : 0 < ys.length := List.length_pos_iff.2 hne
  have hrun : (Builtin.append_ #[t, u] ty #[.slice a0 0 0, .string st]).run P w =
      .ok (.slice (some ⟨w.heap.size, 0, none⟩) ys.length (grownCap w ys.length 0 e)) (w.drew.alloc (.cells (cv.toArray ++ Builtin.zeroCells z.cells (grownCap w ys.length 0 e - ys.length)) e)) := by
    cases a0 with
    | none =>
      have := run_append_nil_string (P := P) w t u ty e i z ht.ut huS hi hz st (by omega) (by omega) (by rw [hlc]; omega)
      rw [hlc, ← xF, ecv] at this
      exact this
    | some b0 =>
      have := run_append_grow_string (P := P) w t u ty e i z ht.ut huS hi hz b0 0 0 [] (by simp) (by simp) st (by omega) (by omega) (growslice_fits (by omega) (by rw [Nat.zero_add, hlc]; exact hb))
      rw [hlc, ecv] at this
      simpa using this
  have hge := grownCap_ge w ys.length 0 e
  have hcm : grownCap w ys.length 0 e ≤ maxLen := grownCap_le_maxLen w ys.length 0 e (by simp only [maxLen]; omega)
  have hsize : (cv.toArray ++ Builtin.zeroCells z.cells (grownCap w ys.length 0 e - ys.length)).size = grownCap w ys.length 0 e * i.size := by
    simp only [Array.size_append, List.size_toArray, size_zeroCells, hzs, c3, ← Nat.add_mul]
    congr 1; omega
  obtain ⟨rd, kd⟩ := r.drewn (w.drawn + 1)
  obtain ⟨E', e0, e1, e2, e3⟩ := fD.new_tok (w := w.drew) rd hk e i.size (ys.length * i.size) (grownCap w ys.length 0 e) hsize (by simp [c3]) hcm
  refine ⟨_, _, E', hrun, kd.trans e2, e3, ?_⟩
  refine kB e0 (by simpa using e1) hs hge hcm ?_
  have hnew := heap_alloc_new w.drew (.cells (cv.toArray ++ Builtin.zeroCells z.cells (grownCap w ys.length 0 e - ys.length)) e)
  refine eD (cB (kd.trans e2) _ _ c1) c2 ?_
  intro j u hj
  have hjl : j < cv.length := (List.getElem?_eq_some_iff.1 hj).1
  refine ⟨?_, .inr ⟨k, _, rfl, e1, rfl, by show 0 + j < ys.length * i.size; omega⟩⟩
  have hnew' : (w.drew.alloc (.cells (cv.toArray ++ Builtin.zeroCells z.cells (grownCap w ys.length 0 e - ys.length)) e)).heap[w.heap.size]? = _ := hnew
  simp only [World.cell?, hnew', Nat.zero_add]
  simp [Array.getElem?_append, hjl]
  exact (List.getElem?_eq_some_iff.1 hj).2
theorem xH {u t ty e : TypeId} {sz b : Nat} (huS : P.underlying u = some .string) (ht : jD P t e sz b) (h1z : sz = 1) (r : fD E h w) {k : bZ} {xs : List (List AV)} (hk : h k = some (.tok e sz (xs.length * sz))) {v : Value} (hv : VR E w (.sl (some k) sz xs) v)
    {ys : List (List AV)} (st : ByteArray) (hys : xE st = ys) (hne : ys ≠ []) (hb : (xs.length + ys.length) * b ≤ 140737488355328) (hlen : xs.length + ys.length ≤ 140737488355328) :
    ∃ v' w' E', (Builtin.append_ #[t, u] ty #[v, .string st]).run P w = .ok v' w' ∧ eB E w E' w' ∧ fD E' (upd h k (some (.tok e sz ((xs ++ ys).length * sz)))) w' ∧ VR E' w' (.sl (some k) sz (xs ++ ys)) v' := by
  obtain ⟨i, z, hi, hz, rfl, rfl, hzs, hsp⟩ := ht.inf
  obtain ⟨cy, ecv, hlc, hsy, c1, c2, c3⟩ : ∃ cv : List Value, strCells st = cv ∧ st.size = ys.length ∧ (∀ x ∈ ys, x.length = i.size) ∧ cL E w ys.flatten cv ∧ (∀ u ∈ cv, u.oneCell' = true) ∧ cv.length = ys.length * i.size := by
    subst hys; exact vY (E := E) (w := w) h1z st
  have hpos : 0 < ys.length := List.length_pos_iff.2 hne
  obtain ⟨tk, cur, t1, t2, t3, t4, t5, t6, t7⟩ := r.tok _ _ _ _ hk
  have hv0 := hv
  simp only [VR] at hv
  obtain ⟨a, cap, rfl, v1, v2, v3, hsx, v5⟩ := hv
  obtain ⟨hu, v6⟩ := v5 k rfl
  obtain ⟨_, v7⟩ := v6 tk t1
  obtain ⟨rfl, rfl, _⟩ := v7 t3.symm
  -- the cells that are there
  have hxc : ∃ cx : List Value, cL E w xs.flatten cx ∧ (∀ u ∈ cx, u.oneCell' = true) ∧ cx.length = xs.length * i.size ∧ cur.toList.take (xs.length * i.size) = cx := by
    by_cases hx0 : xs = []
    · subst hx0; exact ⟨[], by simp [cL], by simp, by simp, by simp⟩
    · obtain ⟨g', o', cap'', cx, ee, d1, d2, d3, d4⟩ := kA hv0 hx0
      cases ee
      refine ⟨cx, d1, d2, d3, ?_⟩
      apply List.ext_getElem?
      intro j
      rw [List.getElem?_take]
      split
      · rename_i hj
        have hjx : j < cx.length := by omega
        have h1 := (d4 j cx[j] (by simp [hjx])).1
        simp only [World.cell?, t4, Nat.zero_add] at h1
        rw [List.getElem?_eq_getElem hjx]
        simpa using h1
      · rename_i hj
        rw [List.getElem?_eq_none (by omega)]
  obtain ⟨cx, d1, d2, d3, d4⟩ := hxc
  have hall : ∀ x ∈ xs ++ ys, x.length = i.size := by
    intro x hx
    rcases List.mem_append.1 hx with hx | hx
    · exact hsx x hx
    · exact hsy x hx
  have hl2 : (xs ++ ys).length * i.size = xs.length * i.size + ys.length * i.size := by rw [List.length_append, Nat.add_mul]
  have hvl : cL E w (xs ++ ys).flatten (cx ++ cy) := by rw [List.flatten_append]; exact cU d1 c1
  have h1l : ∀ u ∈ cx ++ cy, u.oneCell' = true := by
    intro u hu
    rcases List.mem_append.1 hu with hu | hu
    · exact d2 u hu
    · exact c2 u hu
  have hmlt : tk.m < (xs ++ ys).length * i.size := by
    rw [hl2, t3]
    have : 0 < ys.length * i.size := Nat.mul_pos hpos hsp
    omega
  by_cases hroom : xs.length + ys.length ≤ tk.cap
  · have hfit : xs.length * i.size + cy.length ≤ cur.size := by rw [c3, t5, ← Nat.add_mul]; exact Nat.mul_le_mul_right _ hroom
    have hrun : (Builtin.append_ #[t, u] ty #[.slice (some ⟨tk.b, 0, none⟩) xs.length tk.cap, .string st]).run P w = .ok (.slice (some ⟨tk.b, 0, none⟩) (xs.length + ys.length) tk.cap) (w.setRow tk.b (cur.toList.take (xs.length * i.size) ++ cy ++ cur.toList.drop (xs.length * i.size + cy.length)).toArray) := by
      have hcy : cy.length = ys.length := by rw [c3, h1z, Nat.mul_one]
      have hx1 : xs.length * i.size = xs.length := by rw [h1z, Nat.mul_one]
      rw [hx1] at hfit
      have := run_append_room_string (P := P) w t u ty e i ht.ut huS hi h1z tk.b xs.length tk.cap cur t4 st (by omega) (by omega)
      rw [ecv, hlc] at this
      rw [hx1, hcy]
      exact this
    have hnsz : (cur.toList.take (xs.length * i.size) ++ cy ++ cur.toList.drop (xs.length * i.size + cy.length)).toArray.size = tk.cap * i.size := by
      simp only [List.size_toArray, List.length_append, List.length_take, List.length_drop, Array.length_toList]
      omega
    have hcell : ∀ j u, (cx ++ cy)[j]? = some u → (w.setRow tk.b (cur.toList.take (xs.length * i.size) ++ cy ++ cur.toList.drop (xs.length * i.size + cy.length)).toArray).cell? ⟨tk.b, j, none⟩ = some u := by
      intro j u hj
      rw [cell_setRow_same w tk.b j cur _ e (0, 0) t4, d4]
      have hjl : j < (cx ++ cy).length := (List.getElem?_eq_some_iff.1 hj).1
      simp only [List.getElem?_toArray]
      rw [List.getElem?_append_left hjl]
      exact hj
    obtain ⟨E', e0, e1, e2, e3⟩ := r.grow (m := (xs ++ ys).length * i.size) (cap := tk.cap) (b := tk.b) (ty := e) (w' := w.setRow tk.b (cur.toList.take (xs.length * i.size) ++ cy ++ cur.toList.drop (xs.length * i.size + cy.length)).toArray) t1 (by rw [t2, t3]; exact hk)
      (setRow_heap w tk.b cur _ e _ t4) (fun g' _ hg' => setRow_other w tk.b g' _ hg') (.inl ⟨rfl, rfl⟩) (fun j hj => by
        rw [cell_setRow_same w tk.b j cur _ e (0, 0) t4]
        have hjl : j < cx.length := by omega
        have hjc : j < cur.size := by omega
        have e1 : cur[j]? = cx[j]? := by
          rw [← d4, List.getElem?_take, if_pos (by omega)]; simp
        simp only [List.getElem?_toArray, d4]
        rw [List.append_assoc, List.getElem?_append_left hjl, ← e1]
        simp [World.cell?, t4]) hmlt (by rw [t2]; exact hnsz) (by rw [hnsz, ← t5]; rw [hl2]; rw [c3] at hfit; omega) t7 (by simp) rfl rfl rfl
    rw [t2] at e1 e3
    refine ⟨_, _, E', hrun, e2, e3, ?_⟩
    have := kB (w := w.setRow tk.b (cur.toList.take (xs.length * i.size) ++ cy ++ cur.toList.drop (xs.length * i.size + cy.length)).toArray) e0 e1 hall (by rw [List.length_append]; exact hroom) t7
      (eD (cB e2 _ _ hvl) h1l (fun j u hj => ⟨by rw [Nat.zero_add]; exact hcell j u hj, .inr ⟨k, _, rfl, e1, rfl, by
        have hjl : j < (cx ++ cy).length := (List.getElem?_eq_some_iff.1 hj).1
        rw [List.length_append, d3, c3] at hjl
        show 0 + j < (xs ++ ys).length * i.size
        omega⟩⟩))
    rw [List.length_append] at this
    exact this
  · have hold : ∀ j u, cx[j]? = some u → w.cell? ((⟨tk.b, 0, none⟩ : Addr).add j) = some u := by
      intro j u hj
      rw [Addr.add_lit, Nat.zero_add]
      have hjl : j < cx.length := (List.getElem?_eq_some_iff.1 hj).1
      simp only [World.cell?, t4]
      rw [← d4, List.getElem?_take] at hj
      split at hj
      · simpa using hj
      · cases hj
    have hrun := run_append_grow_string (P := P) w t u ty e i z ht.ut huS hi hz ⟨tk.b, 0, none⟩ xs.length tk.cap cx d3 hold st (by omega) (by omega) (growslice_fits (by omega) (by rw [hlc]; exact hb))
    rw [hlc, ecv] at hrun
    have hge := grownCap_ge w (xs.length + ys.length) tk.cap e
    have hcm : grownCap w (xs.length + ys.length) tk.cap e ≤ maxLen := grownCap_le_maxLen w (xs.length + ys.length) tk.cap e (by simp only [maxLen]; omega)
    generalize hgc : grownCap w (xs.length + ys.length) tk.cap e = gc at hge hcm hrun
    generalize hcells : cx.toArray ++ cy.toArray ++ Builtin.zeroCells z.cells (gc - (xs.length + ys.length)) = cells at hrun
    have hsize : cells.size = gc * i.size := by
      rw [← hcells]
      simp only [Array.size_append, List.size_toArray, size_zeroCells, hzs, c3, d3, ← Nat.add_mul]
      congr 1; omega
    have hnew := heap_alloc_new w.drew (.cells cells e)
    have hcell : ∀ j u, (cx ++ cy)[j]? = some u → (w.drew.alloc (.cells cells e)).cell? ⟨w.heap.size, j, none⟩ = some u := by
      intro j u hj
      have hjl : j < (cx ++ cy).length := (List.getElem?_eq_some_iff.1 hj).1
      have hnew' : (w.drew.alloc (.cells cells e)).heap[w.heap.size]? = _ := hnew
      simp only [World.cell?, hnew']
      rw [← hcells]
      simp only [Option.isSome_none, Bool.false_eq_true, if_false]
      rw [Array.getElem?_append_left (by simpa using hjl)]
      simpa using hj
    have hblt : tk.b < w.heap.size := (Array.getElem?_eq_some_iff.1 t4).1
    obtain ⟨rd, kd⟩ := r.drewn (w.drawn + 1)
    have rd' : fD E h w.drew := rd
    obtain ⟨E', e0, e1, e2, e3⟩ := rd'.grow (m := (xs ++ ys).length * i.size) (cap := gc) (b := w.heap.size) (ty := e) (w' := w.drew.alloc (.cells cells e)) (cur := cells) t1 (by rw [t2, t3]; exact hk)
      hnew (fun g' hg' _ => heap_alloc_old w.drew _ g' hg') (.inr ⟨Nat.le_refl _, heap_alloc_old w.drew _ _ hblt⟩) (fun j _ => dU (w := w.drew) (heap_alloc_old w.drew _ _ hblt) j) hmlt (by rw [t2]; exact hsize)
      (by rw [hsize]; rw [List.length_append]; exact Nat.mul_le_mul_right _ hge) hcm (by simp) rfl rfl rfl
    rw [t2] at e1 e3
    refine ⟨_, _, E', hrun, kd.trans e2, e3, ?_⟩
    have := kB (w := w.drew.alloc (.cells cells e)) e0 e1 hall (by rw [List.length_append]; exact hge) hcm
      (eD (cB (kd.trans e2) _ _ hvl) h1l (fun j u hj => ⟨by rw [Nat.zero_add]; exact hcell j u hj, .inr ⟨k, _, rfl, e1, rfl, by
        have hjl : j < (cx ++ cy).length := (List.getElem?_eq_some_iff.1 hj).1
        rw [List.length_append, d3, c3] at hjl
        show 0 + j < (xs ++ ys).length * i.size
        omega⟩⟩))
    rw [List.length_append] at this
    exact this
end app
section ops
variable {P : Program} {ops : Array Oper} {h h0 : aH} {L : HL} {n : Nat} {kvs : KV} {l : List Oper} {ty : TypeId} {pos : String} {dP : Array Edge}
theorem jB {o : Oper} {s x : Operand} {t u : TypeId} (hop : o.op = .call { callee := .builtin .append, args := #[s, x], argTypes := #[t, u] }) {a : Act} {w w' : World} {v : Value}
    (hr : (Builtin.append_ #[t, u] o.type #[a.eval s, a.eval x]).run P w = .ok v w') : (execOp a.eval o).run P w = .ok (.value v) w' := by
  unfold execOp
  simp only [hop, resolve, invoke, builtin, Sem.run_bind, Sem.run_pure, Result.andThen_ok, List.map_toArray, List.map_cons, List.map_nil, hr]
theorem kY {t u ty e : TypeId} {sz b : Nat} (hu : P.underlying u = some .string) (ht : jD P t e sz b) {w : World} {v : Value} {n : Nat} {st : ByteArray} (h0 : st.size = 0) (hv : (v = .slice none 0 0 ∧ n = 0) ∨ ∃ a cap, v = .slice (some a) n cap ∧ n ≤ cap) :
    (Builtin.append_ #[t, u] ty #[v, .string st]).run P w = .ok v w := by
  obtain ⟨i, z, hi, hz, _⟩ := ht.inf
  have hd : st.data.size = 0 := h0
  have hx : (Array.map (fun b : UInt8 => Value.int IntKind.u8 (b.toNat : Int)) st.data) = #[] := by apply Array.eq_empty_of_size_eq_zero; simpa using hd
  rcases hv with ⟨rfl, rfl⟩ | ⟨a', cap, rfl, hc⟩
  · simp [Builtin.append_, run_underlying ht.ut, run_underlying hu, sizeOf, typeInfo, hi, Builtin.lenOf, Builtin.firstCells, h0, hx]
  · simp [Builtin.append_, run_underlying ht.ut, run_underlying hu, sizeOf, typeInfo, hi, Builtin.lenOf, Builtin.firstCells, h0, hx, hc, storeCells]
theorem FX {K : AV → aH → Prop} {c : Int → List AV} {xs zs : List Int} {st : ByteArray} {dst : Option Tmp} {s x : Operand} {t u e : TypeId} {b : Nat} {tg : Option bZ} (i : Nat) (hm : app xs (o5 st) = some zs) (hu : P.underlying u = some .string) (ht : jD P t e 1 b) (hb : Nat.ble b 100000 = true) (hc : ∀ z, c z = [.sc (.int .u8 z)])
    (ha : dN n kvs s = ow tg 1 (xs.map c)) (hi : L[i]? = some (tg, .tok e 1 (xs.length * 1))) (ot : tg = none → xs = []) (hk : bS h0 L) (hx : dN n kvs x = .sc (.string st))
    (k : ∀ tg', (tg' = none → zs = []) → bS h0 (L.set i (tg', .tok e 1 (zs.length * 1))) → K (ow tg' 1 (zs.map c)) (hp h0 (L.set i (tg', .tok e 1 (zs.length * 1))))) :
    iB P ⟨dst, .call { callee := .builtin .append, args := #[s, x], argTypes := #[t, u] }, ty, pos, dP, none⟩ K (fm n kvs) (hp h0 L) := by
  obtain ⟨rfl, hsz⟩ := hH hm
  have hb' := Nat.le_of_ble_eq_true hb
  have hbound : (xs.length + (o5 st).length) * (b + 1) ≤ 140737488355328 := by
    have : (xs.length + (o5 st).length) * (b + 1) ≤ 1000000000 * 100001 := Nat.mul_le_mul hsz (by omega)
    omega
  rw [Nat.mul_add, Nat.mul_one] at hbound
  have hcf : c = fun z => [.sc (.int .u8 z)] := funext hc
  have hys : xE st = (o5 st).map c := by rw [hcf]; rfl
  have hset : ∀ a, L[i]? = some a → L.set i a = L := by
    intro a ha
    have hil : i < L.length := (List.getElem?_eq_some_iff.1 ha).1
    apply List.ext_getElem?; intro j; rw [List.getElem?_set]; split
    · rename_i q; first | (subst q; exact ha.symm) | (subst q; rw [if_pos hil]; exact ha.symm)
    · rfl
  intro E w a r hv Nx Qx hn
  have vs := hv s (by simp [Op.operands, Call.operands])
  have vx := hv x (by simp [Op.operands, Call.operands])
  rw [bG] at vs vx
  rw [ha] at vs
  rw [hx] at vx
  have vx : a.eval x = .string st := by simpa only [VR] using vx
  have hop : (⟨dst, .call { callee := .builtin .append, args := #[s, x], argTypes := #[t, u] }, ty, pos, dP, none⟩ : Oper).op = .call { callee := .builtin .append, args := #[s, x], argTypes := #[t, u] } := rfl
  by_cases hy : o5 st = []
  · have h0 : st.size = 0 := by rw [← m5, hy]; rfl
    have hk1 := k tg (by rw [hy, List.append_nil]; exact ot) (by rw [hy, List.append_nil, hset _ hi]; exact hk)
    rw [hy, List.append_nil, hset _ hi] at hk1
    cases tg with
    | none =>
      have hx0 := ot rfl
      subst hx0
      simp only [ow, VR] at vs
      obtain ⟨a0, ea0⟩ := vs
      have hv0 : (a.eval s = .slice none 0 0 ∧ 0 = 0) ∨ ∃ a' cap, a.eval s = .slice (some a') 0 cap ∧ 0 ≤ cap := by
        cases a0 with
        | none => exact .inl ⟨ea0, rfl⟩
        | some b => exact .inr ⟨b, 0, ea0, Nat.le_refl _⟩
      have hr := kY (P := P) (w := w) (ty := ty) hu ht h0 hv0
      unfold Oper.wp
      rw [jB hop (by rw [vx]; exact hr)]
      exact hn _ _ _ E _ (eB.refl E w) r (by simp only [ow, VR]; exact ⟨a0, ea0⟩) hk1
    | some kk =>
      have hg := bB i hk hi
      have hsv : ∃ q cap, a.eval s = .slice (some q) xs.length cap ∧ xs.length ≤ cap := by
        have vs' := vs
        simp only [ow, VR] at vs'
        obtain ⟨q, cap, e1, e2, _, _, _, e5⟩ := vs'
        rw [List.length_map] at e1 e2
        obtain ⟨tk, cur, t1, t2, t3, _⟩ := r.tok _ _ _ _ hg
        obtain ⟨_, e6⟩ := e5 kk rfl
        obtain ⟨_, e7⟩ := e6 tk t1
        have := (e7 (by rw [List.length_map]; exact t3.symm)).1
        exact ⟨⟨tk.b, 0, none⟩, cap, by rw [e1, this], e2⟩
      obtain ⟨q, cap, es, ec⟩ := hsv
      have hr := kY (P := P) (w := w) (ty := ty) hu ht h0 (v := a.eval s) (n := xs.length) (.inr ⟨q, cap, es, ec⟩)
      unfold Oper.wp
      rw [jB hop (by rw [vx]; exact hr)]
      exact hn _ _ _ E _ (eB.refl E w) r vs hk1
  · have hyc : (o5 st).map c ≠ [] := by simpa using hy
    cases tg with
    | none =>
      have hx0 := ot rfl
      subst hx0
      simp only [ow, VR] at vs
      obtain ⟨a0, ea0⟩ := vs
      obtain ⟨m, hm'⟩ := r.fresh 0
      simp only [List.length_nil, Nat.zero_add] at hbound
      obtain ⟨v', w', E', e1, e2, e3, e4⟩ := xG (ty := ty) hu ht rfl r hm' st hys hyc (by rw [List.length_map]; omega) (by rw [List.length_map]; omega) a0
      unfold Oper.wp
      rw [jB hop (by rw [ea0, vx]; exact e1)]
      obtain ⟨h1, h2, _⟩ := iC (k := (0, m)) (e' := .tok e 1 (((o5 st).map c).length * 1)) i hk hi (.inr ⟨rfl, r.unused_none hm'⟩)
      refine hn _ _ _ E' _ e2 e3 e4 ?_
      rw [h1]
      rw [List.length_map] at h1 h2 ⊢
      exact k (some (0, m)) (fun q => by cases q) h2
    | some kk =>
      have hg := bB i hk hi
      obtain ⟨v', w', E', e1, e2, e3, e4⟩ := xH (ty := ty) hu ht rfl r (xs := xs.map c) (by rw [hg, List.length_map]) vs st hys hyc (by simp only [List.length_map]; omega) (by simp only [List.length_map]; omega)
      unfold Oper.wp
      rw [jB hop (by rw [vx]; exact e1)]
      obtain ⟨h1, h2, _⟩ := iC (e' := .tok e 1 ((xs.map c ++ (o5 st).map c).length * 1)) i hk hi (.inl rfl)
      refine hn _ _ _ E' _ e2 e3 (by show VR E' w' (.sl (some kk) 1 ((xs ++ o5 st).map c)) v'; rw [List.map_append]; exact e4) ?_
      rw [h1]
      rw [← List.map_append, List.length_map] at h1 h2 ⊢
      exact k (some kk) (fun q => by cases q) h2
end ops
abbrev Ar (n : Nat) := {l : List Int // l.length = n}
def cA (q : IntKind) (n : Nat) (x : Ar n) : List AV := (List.range n).map fun i => .sc (.int q (x.1.getD i 0))
def OA (n : Nat) : Ar n := ⟨List.replicate n 0, by simp⟩
def J6 {n : Nat} (x : Ar n) (i : Nat) (v : Int) : Ar n := ⟨x.1.set i v, by rw [List.length_set]; exact x.2⟩
theorem qF {q : IntKind} {n : Nat} (x : Ar n) : cA q n x = x.1.map fun z => AV.sc (.int q z) := by
 obtain ⟨l, rfl⟩ := x
 unfold cA
 apply List.ext_getElem?
 intro i
 simp only [List.getElem?_map]
 by_cases h : i < l.length
 ·rw [List.getElem?_range h, List.getElem?_eq_getElem h]
  simp [List.getD, List.getElem?_eq_getElem h]
 ·rw [List.getElem?_eq_none (by simpa using h), List.getElem?_eq_none (by simpa using h)]
  rfl
theorem sX (l : List AV) (i : Nat) (v : AV) (h : i < l.length) : eT l i [v] = l.set i v := by
 unfold eT
 rw [List.set_eq_take_append_cons_drop, if_pos h]
 simp
section ops
variable {P : Program} {ops : Array Oper} {h h0 : aH} {L : HL} {n : Nat} {kvs : KV} {l : List Oper} {ty : TypeId} {pos : String} {dP : Array Edge}
theorem dO {m : Nat} {dst : Option Tmp} {a b : Operand} {t : TypeId} {q : bZ} {off : Nat} {k : IntKind} {i x : Int} {y : Ar m} (hi : ix y.1 i = some x) (ht : C7 P t = some (m, 1)) (ha : dN n kvs a = .ptr q off) (hb : dN n kvs b = .sc (.int k i)) :
    eI P ⟨dst, .indexAddr t a b, ty, pos, dP, none⟩ (.ptr q (off + i.toNat)) (fm n kvs) h := by
  obtain ⟨h0, h1, h2⟩ := fF hi
  rw [y.2] at h1
  refine iJ (c := 0 ≤ i ∧ i < m) ?_ ⟨h0, by omega⟩
  simp only [pv, bG, ha, hb, jC, E3, ht, Option.bind_some, Nat.mul_one]
theorem dZ {m : Nat} {kq : IntKind} {dst : Option Tmp} {a : Operand} {t : TypeId} {q : bZ} (off : Nat) {i x : Int} {y : Ar m} {oty : TypeId} {cs : List AV} (hi : ix y.1 i = some x) (ht : kQ P t = some (false, 1)) (ha : dN n kvs a = .ptr q (off + i.toNat)) (hk : h q = some (.obj oty cs)) (hc : (cs.drop off).take m = cA kq m y) :
    eI P ⟨dst, .load t a, ty, pos, dP, none⟩ (.sc (.int kq x)) (fm n kvs) h := by
  refine bH _ ht ha hk ?_
  obtain ⟨h0, h1, h2⟩ := fF hi
  rw [y.2] at h1
  have e : (cs.drop off)[i.toNat]? = some (.sc (.int kq x)) := by
    have : ((cs.drop off).take m)[i.toNat]? = (cA kq m y)[i.toNat]? := by rw [hc]
    rw [List.getElem?_take_of_lt (by omega), qF, List.getElem?_map, h2] at this
    exact this
  simp only [BM]
  rw [← List.drop_drop, List.head?_drop, e]
theorem eA {kq : IntKind} {m : Nat} (y : Ar m) : ((cA kq m y).drop 0).take m = cA kq m y := by
 rw [List.drop_zero, List.take_of_length_le]
 simp [cA]
theorem rO {K : AV → aH → Prop} {m : Nat} {kq : IntKind} {dst : Option Tmp} {t oty : TypeId} {a b : Operand} {q : bZ} {i x v : Int} {y : Ar m} (p : Nat) (hk : bS h0 L) (hi : ix y.1 i = some x) (ha : dN n kvs a = .ptr q (0 + i.toNat)) (hL : L[p]? = some (some q, .obj oty (cA kq m y)))
    (hy : dN n kvs b = .sc (.int kq v)) (hs : kT P t = some 1)
    (k : bS h0 (L.set p (some q, .obj oty (cA kq m (J6 y i.toNat v)))) → K (.sc undef) (hp h0 (L.set p (some q, .obj oty (cA kq m (J6 y i.toNat v)))))) : iB P ⟨dst, .store t a b, ty, pos, dP, none⟩ K (fm n kvs) (hp h0 L) := by
  obtain ⟨h1, h2, h3⟩ := fF hi
  have hl : i.toNat < y.1.length := (List.getElem?_eq_some_iff.1 h3).1
  rw [Nat.zero_add] at ha
  refine aL (xs := [.sc (.int kq v)]) p (cA kq m (J6 y i.toNat v)) hk ha hL (by rw [hy]; rfl) rfl hs ?_ ?_ k
  · rw [Nat.ble_eq, qF, List.length_map]; simp only [List.length_singleton]; omega
  · rw [sX _ _ _ (by rw [qF, List.length_map]; exact hl), qF, qF, J6, List.map_set]
theorem PG {dst : Option Tmp} {t : TypeId} {a : Operand} {q : IntKind} {x : Int} (hq : q.signed = false) (ha : dN n kvs a = .sc (.int q x)) :
    eI P ⟨dst, .unOp .xor t a, ty, pos, dP, none⟩ (.sc (.int q (bW .xor q q.max x))) (fm n kvs) h := by
  refine eR (x := .sc (.int q (bW .xor q q.max x))) (fun E w ac _ hv => ?_) ⟨rfl, rfl⟩
  have va := hv a (by simp [Op.operands])
  rw [bG, ha] at va
  simp only [VR] at va
  refine ⟨.int q (bW .xor q q.max x), ?_, by simp only [VR]⟩
  simp [execOp, va, Op.unary, hq, Op.intBits, bW]
def FY (l : List Int) : Option ByteArray := if (l.all fun z => decide (0 ≤ z) && decide (z < 256)) = true then some ⟨(l.map fun z => z.toNat.toUInt8).toArray⟩ else none
theorem DF : ∀ {l : List Int}, (l.all fun z => decide (0 ≤ z) && decide (z < 256)) = true → vQ (l.map fun z => [AV.sc (.int .u8 z)]) = some (l.map fun z => z.toNat.toUInt8)
 | [], _ => rfl
 | z :: l, h => by
  simp only [List.all_cons, Bool.and_eq_true, decide_eq_true_eq] at h
  have ih := DF (l := l) (by simpa using h.2)
  simp only [List.map_cons, vQ, ih]
  simp [h.1.1, h.1.2]
theorem LN {c : Int → List AV} {dst : Option Tmp} {src dt e : TypeId} {x : Operand} {tag : Option bZ} {l : List Int} {s : ByteArray} (hm : FY l = some s) (hc : ∀ z, c z = [.sc (.int .u8 z)]) (hs : P.underlying src = some (.slice e)) (he : P.underlying e = some (.int .u8)) (hd : P.underlying dt = some .string)
    (hx : dN n kvs x = .sl tag 1 (l.map c)) : eI P ⟨dst, .convert src dt x, ty, pos, dP, none⟩ (.sc (.string s)) (fm n kvs) h := by
  unfold FY at hm
  split at hm
  · rename_i hh
    cases hm
    have hcf : c = fun z => [.sc (.int .u8 z)] := funext hc
    subst hcf
    exact IM rfl hs he hd (by rw [bG]; exact hx) (DF hh) ⟨rfl, rfl⟩
  · cases hm
theorem o6 {α : Type} {xs ys : List α} {tg : Option bZ} {x y : Int} (hm : slc xs x y = some ys) (ot : tg = none → xs = []) : tg = none → ys = [] := by
 intro h
 have := ot h
 subst this
 unfold slc at hm
 split at hm
 ·cases hm; simp
 ·cases hm
theorem xI {α : Type} {c : α → List AV} {xs ys : List α} {dst : Option Tmp} {a : Operand} {lo hi : Option Operand} {t : TypeId} {tg : Option bZ} {sz : Nat} {x y : Int} (hm : slc xs x y = some ys) (ht : lS P t = some sz) (h0 : Nat.blt 0 sz = true) (ot : tg = none → xs = []) (ha : dN n kvs a = ow tg sz (xs.map c))
    (hl : mJ 0 (IR n kvs lo) = some x) (hh : mJ xs.length (IR n kvs hi) = some y) : eI P ⟨dst, .slice t a lo hi none, ty, pos, dP, none⟩ (ow tg sz (ys.map c)) (fm n kvs) h := by
  cases tg with
  | some k => exact mZ hm ht h0 ha hl hh
  | none =>
    have hx := ot rfl
    subst hx
    have hy := o6 hm ot rfl
    subst hy
    have hxy : x = 0 ∧ y = 0 := by
      unfold slc at hm
      split at hm
      · rename_i hc
        simp only [List.length_nil] at hc
        omega
      · cases hm
    obtain ⟨rfl, rfl⟩ := hxy
    have ha : dN n kvs a = .e0 := ha
    have e : ∀ o : Option Operand, o.map (ev (fm n kvs)) = IR n kvs o := fun o => by cases o <;> simp [IR, bG]
    refine iJ (c := (0 : Int) = 0 ∧ (0 : Int) = 0) ?_ ⟨rfl, rfl⟩
    have hT : zM P t = true := by simp [zM, ht]
    have hh' : mJ 0 (IR n kvs hi) = some 0 := hh
    simp only [pv, bG, ha, e, wN, ht, Option.bind_some, hl, hh', hT, if_true]
    rfl
theorem iD {o : Oper} {x y : AV} (hx : eI P o x (fm n kvs) h) (le : aX h x y) : eI P o y (fm n kvs) h := by
 intro E w a r hv Nx Qx hn
 refine hx E w a r hv Nx Qx fun x' v w' E' h' k r' vx kx => ?_
 obtain ⟨rfl, rfl⟩ := kx
 exact hn y v w' E' h' k r' (le E' w' v r' vx) ⟨rfl, rfl⟩
def sY (P : Program) (t : TypeId) : Option (List Value × List (Nat × Nat)) := match P.info? t, P.underlying t with
 | some it, some (.array n e) => match it.zero, P.info? e with
  | some z, some ie => some (z.cells.toList, (List.range n).map fun i => (i * ie.size, ie.size))
  | _, _ => none
 | _, _ => none
theorem vZ {f g : Nat → Option (Nat × Nat)} (hfg : ∀ i p, f i = some p → g i = some p) : ∀ {vs : List (Nat × Value)} {cur c : Array Value}, Instr.fill f cur vs = some c → Instr.fill g cur vs = some c
 | [], cur, c, h => h
 | (i, v) :: r, cur, c, h => by
  unfold Instr.fill at h ⊢
  cases e : f i with
  | none => rw [e] at h; cases h
  | some p =>
   rw [hfg i p e]
   rw [e] at h
   obtain ⟨off, sz⟩ := p
   simp only at h ⊢
   split at h
   ·cases h
   ·rename_i q
    rw [if_neg q]
    exact vZ hfg h
theorem BZ {dst : Option Tmp} {t : TypeId} {parts : Array (Nat × Operand)} {zs : List Value} {pl : List (Nat × Nat)} (cs : List AV) (hb : sY P t = some (zs, pl)) (hc : w5 pl (zs.map .sc) (parts.toList.map fun p => (p.1, dN n kvs p.2)) = some cs) :
    eI P ⟨dst, .build t parts, ty, pos, dP, none⟩ (.agg cs) (fm n kvs) h := by
  refine eR (x := .agg cs) (fun E w ac _ hv => ?_) ⟨rfl, rfl⟩
  have hps : ∀ (l : List (Nat × Operand)), (∀ p ∈ l, VR E w (ev (fm n kvs) p.2) (ac.eval p.2)) → PL E w (l.map fun p => (p.1, dN n kvs p.2)) (l.map fun p => (p.1, ac.eval p.2)) := by
    intro l
    induction l with
    | nil => intro _; exact .nil
    | cons p l ih =>
      intro hl
      refine .cons ?_ (ih fun q hq => hl q (by simp [hq]))
      have := hl p (by simp)
      rwa [bG] at this
  have hall : ∀ p ∈ parts.toList, VR E w (ev (fm n kvs) p.2) (ac.eval p.2) := by
    intro p hp
    refine hv p.2 ?_
    simp only [Op.operands, Array.mem_def, List.mem_map]
    exact ⟨p, hp, rfl⟩
  have hz := n7 (E := E) (w := w) zs
  obtain ⟨cur', f1, f2⟩ := oF (cur := zs.toArray) hc hz (hps _ hall)
  refine ⟨.agg cur', ?_, by simp only [VR]; exact ⟨_, rfl, f2⟩⟩
  have hbuilt : P.built t (parts.map fun (i, x) => (i, ac.eval x)).toList = some cur' := by
    unfold sY at hb
    unfold Program.built
    cases hit : P.info? t with
    | none => simp [hit] at hb
    | some it =>
      cases hu : P.underlying t with
      | none => simp [hit, hu] at hb
      | some d =>
        cases d <;> try (simp [hit, hu] at hb; done)
        case array m e =>
          cases hzr : it.zero with
          | none => simp [hit, hu, hzr] at hb
          | some z =>
            cases hp : P.info? e with
            | none => simp [hit, hu, hzr, hp] at hb
            | some ie =>
              simp only [hit, hu, hzr, hp, Option.some.injEq, Prod.mk.injEq] at hb
              obtain ⟨rfl, rfl⟩ := hb
              simp only [hzr, hp]
              have : (parts.map fun (i, x) => (i, ac.eval x)).toList = parts.toList.map fun p => (p.1, ac.eval p.2) := by simp
              rw [this]
              refine vZ (fun i p hi => ?_) (by simpa using f1)
              simp only [List.getElem?_toArray, List.getElem?_map, Option.map_eq_some_iff] at hi
              obtain ⟨j, hj, rfl⟩ := hi
              have := List.getElem?_eq_some_iff.1 hj
              obtain ⟨_, rfl⟩ := this
              simp
  simp only [execOp, Sem.run_bind, run_build w t _ cur' hbuilt, Result.andThen_ok, Sem.run_pure]
theorem AC (q : IntKind) : ∀ (xs : List Int) (k : Nat) (pl : List (Nat × Nat)) (cs : List AV), (∀ i, i < k + xs.length → pl[i]? = some (i, 1)) → k + xs.length ≤ cs.length →
    w5 pl cs ((xs.zipIdx k).map fun p => (p.2, AV.sc (.int q p.1))) = some (cs.take k ++ xs.map (fun z => AV.sc (.int q z)) ++ cs.drop (k + xs.length))
  | [], k, pl, cs, _, _ => by simp [w5]
  | x :: xs, k, pl, cs, h1, h2 => by
    simp only [List.length_cons] at h1 h2
    have hlt : k < cs.length := by omega
    simp only [List.zipIdx_cons, List.map_cons, w5, h1 k (by omega), cellsOf]
    have hb : Nat.ble (k + 1) cs.length = true := by rw [Nat.ble_eq]; omega
    simp only [List.length_singleton, beq_self_eq_true, hb, Bool.and_true, Bool.true_and, List.all_cons, List.all_nil, fS, Value.oneCell', if_true]
    rw [sX _ _ _ hlt, AC q xs (k + 1) pl _ (fun i hi => h1 i (by omega)) (by rw [List.length_set]; omega)]
    congr 1
    rw [List.take_set, List.drop_set_of_lt (by omega)]
    have e1 : (cs.take (k + 1)).set k (AV.sc (.int q x)) = cs.take k ++ [AV.sc (.int q x)] := by
      rw [List.take_succ_eq_append_getElem hlt, List.set_append_right _ _ (by rw [List.length_take]; omega)]
      rw [List.length_take, Nat.min_eq_left (by omega), Nat.sub_self]
      rfl
    rw [e1, show k + 1 + xs.length = k + (xs.length + 1) from by omega]
    simp
theorem xJ {m : Nat} {q : IntKind} {dst : Option Tmp} {t : TypeId} {parts : Array (Nat × Operand)} {zs : List Value} {pl : List (Nat × Nat)} (xs : List Int) (hx : xs.length = m) (hb : sY P t = some (zs, pl)) (hpl : pl = (List.range m).map fun i => (i, 1)) (hz : zs.length = m)
    (hv : (parts.toList.map fun p => (p.1, dN n kvs p.2)) = (xs.zipIdx 0).map fun p => (p.2, AV.sc (.int q p.1))) : eI P ⟨dst, .build t parts, ty, pos, dP, none⟩ (.agg (cA q m ⟨xs, hx⟩)) (fm n kvs) h := by
  refine BZ _ hb ?_
  rw [hv, AC q xs 0 pl (zs.map .sc) (fun i hi => ?_) (by rw [List.length_map]; omega)]
  · rw [qF, List.take_zero, List.nil_append, List.drop_of_length_le (by rw [List.length_map]; omega), List.append_nil]
  · subst hpl
    rw [Nat.zero_add] at hi
    rw [List.getElem?_map, List.getElem?_range (by omega)]
    rfl
end ops
def pick {α : Type} (σ : List Nat) (L : List α) : List α := σ.filterMap fun i => L[i]?
def rA (σ : List Nat) (n : Nat) : List Nat := (List.range n).filter fun i => !σ.contains i
theorem B0 {α : Type} (L : List α) : pick (List.range L.length) L = L := by
 induction L with
 | nil => rfl
 | cons x L ih =>
  unfold pick at ih ⊢
  rw [List.length_cons, List.range_succ_eq_map, List.filterMap_cons]
  simp only [List.getElem?_cons_zero, List.filterMap_map]
  exact congrArg (x :: ·) ih
theorem jV {α : Type} {L : List α} {σ : List Nat} (h : σ.isPerm (List.range L.length) = true) : L.Perm (pick σ L) := by
 have := ((List.isPerm_iff.1 h).filterMap fun i => L[i]?).symm
 rwa [show (List.range L.length).filterMap (fun i => L[i]?) = L from B0 L] at this
theorem bK {h0 : aH} {L L' : HL} (hk : bS h0 L) (σ : List Nat) (hL : pick σ L = L') (ho : σ.isPerm (List.range L.length) = true) : hp h0 L = hp h0 L' ∧ bS h0 L' :=
 gP (hL ▸ jV ho) hk
theorem bO {h0 : aH} {L : HL} (hk : bS h0 L) (σ : List Nat) (ho : (σ ++ rA σ L.length).isPerm (List.range L.length) = true) : bS h0 (pick σ L) ∧ gX (hp h0 (pick σ L)) (hp h0 L) := by
 obtain ⟨e, k⟩ := gP (jV ho) hk
 have e2 : pick (σ ++ rA σ L.length) L = pick σ L ++ pick (rA σ L.length) L := List.filterMap_append
 rw [e2] at e k
 have := aV (L' := pick σ L) (List.sublist_append_left _ _) k
 exact ⟨this.2, by rw [e]; exact this.1⟩
theorem FT.k2 {h : aH} {n : Nat} {f g : KV} {d0 d1 : Nat} (hf : FT h n f g) : FT h n f (kp (kp g d1 (lk n f d1)) d0 (lk n f d0)) := .cons (aX.refl _ _) (.cons (aX.refl _ _) hf)
theorem cO.k2 {h : aH} {x0 x1 : AV} {xs ys : List AV} (hf : cO h xs ys) : cO h (x0 :: x1 :: xs) (x0 :: x1 :: ys) := .cons (aX.refl _ _) (.cons (aX.refl _ _) hf)
theorem FT.k3 {h : aH} {n : Nat} {f g : KV} {d0 d1 d2 : Nat} (hf : FT h n f g) : FT h n f (kp (kp (kp g d2 (lk n f d2)) d1 (lk n f d1)) d0 (lk n f d0)) := .cons (aX.refl _ _) (.cons (aX.refl _ _) (.cons (aX.refl _ _) hf))
theorem cO.k3 {h : aH} {x0 x1 x2 : AV} {xs ys : List AV} (hf : cO h xs ys) : cO h (x0 :: x1 :: x2 :: xs) (x0 :: x1 :: x2 :: ys) := .cons (aX.refl _ _) (.cons (aX.refl _ _) (.cons (aX.refl _ _) hf))
theorem FT.k4 {h : aH} {n : Nat} {f g : KV} {d0 d1 d2 d3 : Nat} (hf : FT h n f g) : FT h n f (kp (kp (kp (kp g d3 (lk n f d3)) d2 (lk n f d2)) d1 (lk n f d1)) d0 (lk n f d0)) := .cons (aX.refl _ _) (.cons (aX.refl _ _) (.cons (aX.refl _ _) (.cons (aX.refl _ _) hf)))
theorem cO.k4 {h : aH} {x0 x1 x2 x3 : AV} {xs ys : List AV} (hf : cO h xs ys) : cO h (x0 :: x1 :: x2 :: x3 :: xs) (x0 :: x1 :: x2 :: x3 :: ys) := .cons (aX.refl _ _) (.cons (aX.refl _ _) (.cons (aX.refl _ _) (.cons (aX.refl _ _) hf)))
theorem FT.k5 {h : aH} {n : Nat} {f g : KV} {d0 d1 d2 d3 d4 : Nat} (hf : FT h n f g) : FT h n f (kp (kp (kp (kp (kp g d4 (lk n f d4)) d3 (lk n f d3)) d2 (lk n f d2)) d1 (lk n f d1)) d0 (lk n f d0)) := .cons (aX.refl _ _) (.cons (aX.refl _ _) (.cons (aX.refl _ _) (.cons (aX.refl _ _) (.cons (aX.refl _ _) hf))))
theorem cO.k5 {h : aH} {x0 x1 x2 x3 x4 : AV} {xs ys : List AV} (hf : cO h xs ys) : cO h (x0 :: x1 :: x2 :: x3 :: x4 :: xs) (x0 :: x1 :: x2 :: x3 :: x4 :: ys) := .cons (aX.refl _ _) (.cons (aX.refl _ _) (.cons (aX.refl _ _) (.cons (aX.refl _ _) (.cons (aX.refl _ _) hf))))
theorem FT.k6 {h : aH} {n : Nat} {f g : KV} {d0 d1 d2 d3 d4 d5 : Nat} (hf : FT h n f g) : FT h n f (kp (kp (kp (kp (kp (kp g d5 (lk n f d5)) d4 (lk n f d4)) d3 (lk n f d3)) d2 (lk n f d2)) d1 (lk n f d1)) d0 (lk n f d0)) := .cons (aX.refl _ _) (.cons (aX.refl _ _) (.cons (aX.refl _ _) (.cons (aX.refl _ _) (.cons (aX.refl _ _) (.cons (aX.refl _ _) hf)))))
theorem cO.k6 {h : aH} {x0 x1 x2 x3 x4 x5 : AV} {xs ys : List AV} (hf : cO h xs ys) : cO h (x0 :: x1 :: x2 :: x3 :: x4 :: x5 :: xs) (x0 :: x1 :: x2 :: x3 :: x4 :: x5 :: ys) := .cons (aX.refl _ _) (.cons (aX.refl _ _) (.cons (aX.refl _ _) (.cons (aX.refl _ _) (.cons (aX.refl _ _) (.cons (aX.refl _ _) hf)))))
theorem FT.k7 {h : aH} {n : Nat} {f g : KV} {d0 d1 d2 d3 d4 d5 d6 : Nat} (hf : FT h n f g) : FT h n f (kp (kp (kp (kp (kp (kp (kp g d6 (lk n f d6)) d5 (lk n f d5)) d4 (lk n f d4)) d3 (lk n f d3)) d2 (lk n f d2)) d1 (lk n f d1)) d0 (lk n f d0)) := .cons (aX.refl _ _) (.cons (aX.refl _ _) (.cons (aX.refl _ _) (.cons (aX.refl _ _) (.cons (aX.refl _ _) (.cons (aX.refl _ _) (.cons (aX.refl _ _) hf))))))
theorem cO.k7 {h : aH} {x0 x1 x2 x3 x4 x5 x6 : AV} {xs ys : List AV} (hf : cO h xs ys) : cO h (x0 :: x1 :: x2 :: x3 :: x4 :: x5 :: x6 :: xs) (x0 :: x1 :: x2 :: x3 :: x4 :: x5 :: x6 :: ys) := .cons (aX.refl _ _) (.cons (aX.refl _ _) (.cons (aX.refl _ _) (.cons (aX.refl _ _) (.cons (aX.refl _ _) (.cons (aX.refl _ _) (.cons (aX.refl _ _) hf))))))
theorem FT.k8 {h : aH} {n : Nat} {f g : KV} {d0 d1 d2 d3 d4 d5 d6 d7 : Nat} (hf : FT h n f g) : FT h n f (kp (kp (kp (kp (kp (kp (kp (kp g d7 (lk n f d7)) d6 (lk n f d6)) d5 (lk n f d5)) d4 (lk n f d4)) d3 (lk n f d3)) d2 (lk n f d2)) d1 (lk n f d1)) d0 (lk n f d0)) := .cons (aX.refl _ _) (.cons (aX.refl _ _) (.cons (aX.refl _ _) (.cons (aX.refl _ _) (.cons (aX.refl _ _) (.cons (aX.refl _ _) (.cons (aX.refl _ _) (.cons (aX.refl _ _) hf)))))))
theorem cO.k8 {h : aH} {x0 x1 x2 x3 x4 x5 x6 x7 : AV} {xs ys : List AV} (hf : cO h xs ys) : cO h (x0 :: x1 :: x2 :: x3 :: x4 :: x5 :: x6 :: x7 :: xs) (x0 :: x1 :: x2 :: x3 :: x4 :: x5 :: x6 :: x7 :: ys) := .cons (aX.refl _ _) (.cons (aX.refl _ _) (.cons (aX.refl _ _) (.cons (aX.refl _ _) (.cons (aX.refl _ _) (.cons (aX.refl _ _) (.cons (aX.refl _ _) (.cons (aX.refl _ _) hf)))))))
theorem FT.k9 {h : aH} {n : Nat} {f g : KV} {d0 d1 d2 d3 d4 d5 d6 d7 d8 : Nat} (hf : FT h n f g) : FT h n f (kp (kp (kp (kp (kp (kp (kp (kp (kp g d8 (lk n f d8)) d7 (lk n f d7)) d6 (lk n f d6)) d5 (lk n f d5)) d4 (lk n f d4)) d3 (lk n f d3)) d2 (lk n f d2)) d1 (lk n f d1)) d0 (lk n f d0)) := .cons (aX.refl _ _) (.cons (aX.refl _ _) (.cons (aX.refl _ _) (.cons (aX.refl _ _) (.cons (aX.refl _ _) (.cons (aX.refl _ _) (.cons (aX.refl _ _) (.cons (aX.refl _ _) (.cons (aX.refl _ _) hf))))))))
theorem cO.k9 {h : aH} {x0 x1 x2 x3 x4 x5 x6 x7 x8 : AV} {xs ys : List AV} (hf : cO h xs ys) : cO h (x0 :: x1 :: x2 :: x3 :: x4 :: x5 :: x6 :: x7 :: x8 :: xs) (x0 :: x1 :: x2 :: x3 :: x4 :: x5 :: x6 :: x7 :: x8 :: ys) := .cons (aX.refl _ _) (.cons (aX.refl _ _) (.cons (aX.refl _ _) (.cons (aX.refl _ _) (.cons (aX.refl _ _) (.cons (aX.refl _ _) (.cons (aX.refl _ _) (.cons (aX.refl _ _) (.cons (aX.refl _ _) hf))))))))
theorem FT.k10 {h : aH} {n : Nat} {f g : KV} {d0 d1 d2 d3 d4 d5 d6 d7 d8 d9 : Nat} (hf : FT h n f g) : FT h n f (kp (kp (kp (kp (kp (kp (kp (kp (kp (kp g d9 (lk n f d9)) d8 (lk n f d8)) d7 (lk n f d7)) d6 (lk n f d6)) d5 (lk n f d5)) d4 (lk n f d4)) d3 (lk n f d3)) d2 (lk n f d2)) d1 (lk n f d1)) d0 (lk n f d0)) := .cons (aX.refl _ _) (.cons (aX.refl _ _) (.cons (aX.refl _ _) (.cons (aX.refl _ _) (.cons (aX.refl _ _) (.cons (aX.refl _ _) (.cons (aX.refl _ _) (.cons (aX.refl _ _) (.cons (aX.refl _ _) (.cons (aX.refl _ _) hf)))))))))
theorem cO.k10 {h : aH} {x0 x1 x2 x3 x4 x5 x6 x7 x8 x9 : AV} {xs ys : List AV} (hf : cO h xs ys) : cO h (x0 :: x1 :: x2 :: x3 :: x4 :: x5 :: x6 :: x7 :: x8 :: x9 :: xs) (x0 :: x1 :: x2 :: x3 :: x4 :: x5 :: x6 :: x7 :: x8 :: x9 :: ys) := .cons (aX.refl _ _) (.cons (aX.refl _ _) (.cons (aX.refl _ _) (.cons (aX.refl _ _) (.cons (aX.refl _ _) (.cons (aX.refl _ _) (.cons (aX.refl _ _) (.cons (aX.refl _ _) (.cons (aX.refl _ _) (.cons (aX.refl _ _) hf)))))))))
theorem FT.k11 {h : aH} {n : Nat} {f g : KV} {d0 d1 d2 d3 d4 d5 d6 d7 d8 d9 d10 : Nat} (hf : FT h n f g) : FT h n f (kp (kp (kp (kp (kp (kp (kp (kp (kp (kp (kp g d10 (lk n f d10)) d9 (lk n f d9)) d8 (lk n f d8)) d7 (lk n f d7)) d6 (lk n f d6)) d5 (lk n f d5)) d4 (lk n f d4)) d3 (lk n f d3)) d2 (lk n f d2)) d1 (lk n f d1)) d0 (lk n f d0)) := .cons (aX.refl _ _) (.cons (aX.refl _ _) (.cons (aX.refl _ _) (.cons (aX.refl _ _) (.cons (aX.refl _ _) (.cons (aX.refl _ _) (.cons (aX.refl _ _) (.cons (aX.refl _ _) (.cons (aX.refl _ _) (.cons (aX.refl _ _) (.cons (aX.refl _ _) hf))))))))))
theorem cO.k11 {h : aH} {x0 x1 x2 x3 x4 x5 x6 x7 x8 x9 x10 : AV} {xs ys : List AV} (hf : cO h xs ys) : cO h (x0 :: x1 :: x2 :: x3 :: x4 :: x5 :: x6 :: x7 :: x8 :: x9 :: x10 :: xs) (x0 :: x1 :: x2 :: x3 :: x4 :: x5 :: x6 :: x7 :: x8 :: x9 :: x10 :: ys) := .cons (aX.refl _ _) (.cons (aX.refl _ _) (.cons (aX.refl _ _) (.cons (aX.refl _ _) (.cons (aX.refl _ _) (.cons (aX.refl _ _) (.cons (aX.refl _ _) (.cons (aX.refl _ _) (.cons (aX.refl _ _) (.cons (aX.refl _ _) (.cons (aX.refl _ _) hf))))))))))
section
variable {P : Program} {Q : Exit → Fr → aH → Prop} {h h' : aH} {n : Nat}
end
section
variable {P : Program} {ops : Array Oper} {K : Fr → aH → Prop} {KQ : Fr → Prop} {h : aH} {n : Nat} {kvs : KV} {l : List Oper} {ty : TypeId} {pos : String} {dP : Array Edge} {d : Option Tmp} {a b c : Operand} {q : IntKind} {x y : Int} {z t u : Bool} {T U : TypeId} {xs : List (List AV)} {sz : Nat} {w : Option bZ}
theorem vC (e : dN n kvs a = .sc (.int q x)) (k : gZ P ops l K (fm n (mT kvs d (.sc (.int q x)))) h) : gZ P ops (⟨d, .assign a, ty, pos, dP, none⟩ :: l) K (fm n kvs) h := oN (gU (.sc (.int q x)) e) k
theorem vE (e : dN n kvs a = .sl w sz xs) (k : gZ P ops l K (fm n (mT kvs d (.sl w sz xs))) h) : gZ P ops (⟨d, .move a, ty, pos, dP, none⟩ :: l) K (fm n kvs) h := oN (bN (.sl w sz xs) e) k
end
theorem gY.s {n : Nat} {f g : KV} {h : aH} (hf : FT h n f g) : gY (Vm.fm n g) h (Vm.fm n f) h := gY.fm (gX.refl _) hf
theorem PH {P : Program} {Q : Exit → Fr → aH → Prop} {fr : Fr} {h : aH} {id : Nat} {l : List Oper} (hm : P.follows .mixedOrders = true) (h2 : zY 0 (l.map (rI l.toArray)) = true)
    (hl : fA P l.toArray h (fun fr' => Q .normal fr' h) l fr) : AW P (.region id l.toArray true) Q fr h := zZ _ hm rfl h2 hl
section
variable {P : Program} {ops : Array Oper} {K : Fr → aH → Prop} {fs : List (Nat × Option bZ × iH)} {h : aH} {n : Nat} {kvs : KV} {ty : TypeId} {pos : String} {aft' : Array Edge}
theorem aM {f : Nat} {S : Array Bool} (i : Nat) {dst : Option Tmp} {op : Op} {x : AV} (hi : ops[i]? = some ⟨dst, op, ty, pos, aft', none⟩)
    (ho : ∀ S' h', bR fs S' h' → (∀ j, dP ops i j = true → S'.getD j false = false) → eI P ⟨dst, op, ty, pos, aft', none⟩ x (fm n kvs) h')
    (k : FO P ops fs K f (S.setIfInBounds i true) (fm n (mT kvs dst x)) h) (hz : zq ops S i = true := by kernel_rfl) (hn : (fs.all fun q => q.1 != i) = true := by rfl) : FO P ops fs K (f + 1) S (fm n kvs) h := YG i hi hz hn ho k
end
inductive Tr (α : Type) where
 | nil
 | node (k : Nat) (v : α) (l r : Tr α)
def Tr.find {α : Type} : Tr α → Nat → Option α
 | .nil, _ => none
 | .node k v l r, q => bif Nat.beq q k then some v else bif Nat.blt q k then l.find q else r.find q
def Tr.all {α : Type} (p : Nat → α → Bool) : Tr α → Bool
 | .nil => true
 | .node k v l r => p k v && l.all p && r.all p
theorem Tr.find_all {α : Type} {p : Nat → α → Bool} {q : Nat} {i : α} : ∀ {t : Tr α}, t.all p = true → t.find q = some i → p q i = true
 | .nil, _, h => by cases h
 | .node k v l r, ha, h => by
  simp only [Tr.all, Bool.and_eq_true] at ha
  simp only [Tr.find] at h
  cases e : Nat.beq q k
  ·rw [e] at h
   cases e2 : Nat.blt q k
   ·rw [e2] at h; exact find_all ha.2 h
   ·rw [e2] at h; exact find_all ha.1.2 h
  ·rw [e] at h
   cases h
   have := Nat.eq_of_beq_eq_true e
   subst this
   exact ha.1.1
structure TI where
 ld : Option (Bool × Nat)
 ti : Option IntKind
 fs : List Nat
def IZ (P : Program) (q : Nat) (i : TI) : Bool :=
 (match i.ld with | none => true | some x => kQ P q == some x) && (match i.ti with | none => true | some k => decide (rE P q = some k)) &&
 (List.range i.fs.length).all fun f => match i.fs[f]?, jT P q f with | some o, some (o', s) => o == o' && s != 0 | _, _ => false
def B1 (P : Program) (T : Tr TI) : Prop := T.all (IZ P) = true
theorem B1.nil (P : Program) : B1 P .nil := rfl
section
variable {P : Program} {T : Tr TI}
theorem B1.ld (hT : B1 P T) {t : Nat} {i : TI} (hi : T.find t = some i) {x : Bool × Nat} (hx : i.ld = some x) : kQ P t = some x := by
 have := Tr.find_all hT hi
 simp only [IZ, Bool.and_eq_true, hx] at this
 exact beq_iff_eq.1 this.1.1
theorem B1.ti (hT : B1 P T) {t : Nat} {i : TI} (hi : T.find t = some i) {k : IntKind} (hx : i.ti = some k) : rE P t = some k := by
 have := Tr.find_all hT hi
 simp only [IZ, Bool.and_eq_true, hx] at this
 exact of_decide_eq_true this.1.2
theorem B1.fs (hT : B1 P T) {t f o : Nat} {i : TI} (hi : T.find t = some i) (hx : i.fs[f]? = some o) : ∃ s, jT P t f = some (o, s) ∧ s ≠ 0 := by
 have := Tr.find_all hT hi
 simp only [IZ, Bool.and_eq_true, List.all_eq_true, List.mem_range] at this
 have h1 := this.2 f (List.getElem?_eq_some_iff.1 hx).1
 rw [hx] at h1
 cases hf : jT P t f with
 | none => rw [hf] at h1; cases h1
 | some y =>
  rw [hf] at h1
  simp only [Bool.and_eq_true, beq_iff_eq, bne_iff_ne, ne_eq] at h1
  exact ⟨y.2, by rw [h1.1], h1.2⟩
end
def E5 (b : Bool) (X Y : Prop) : Prop := match b with | true => X | false => Y
def LO (b : Bool) (X Y : Prop) : Prop := match b with | true => X | false => Y
inductive FR where
 | nil
 | c (d : Nat) (x : AV) (r : FR)
def FR.k : FR → KV
 | .nil => k0
 | .c d x r => kp r.k d x
def FR.put (f : FR) (d : Option Tmp) (x : AV) : FR := match d with | some d => .c d x f | none => f
theorem FR.put_k (f : FR) (d : Option Tmp) (x : AV) : (f.put d x).k = mT f.k d x := by cases d <;> rfl
def FR.find (f : FR) (t : Nat) (K : AV → Prop) : Prop := match f with
 | .nil => K .any
 | .c d x r => LO (Nat.beq d t) (K x) (r.find t K)
theorem FR.find_eq (t : Nat) (K : AV → Prop) : ∀ f : FR, f.find t K = K (f.k t)
 | .nil => rfl
 | .c d x r => by
  simp only [FR.find, FR.k, kp]
  cases Nat.beq d t
  ·exact FR.find_eq t K r
  ·rfl
def SV (n : Nat) (f : FR) (t : Nat) (K : AV → Prop) : Prop := LO (Nat.blt t n) (f.find t K) (K .any)
theorem B2 (n : Nat) (f : FR) (t : Nat) (K : AV → Prop) : SV n f t K = K (lk n f.k t) := by
 unfold SV lk
 cases Nat.blt t n
 ·rfl
 ·exact FR.find_eq t K f
def BF (n : Nat) (f : FR) (a : Operand) (K : AV → Prop) : Prop := match a with
 | .tmp t => SV n f t K
 | .const v => K (cv v)
 | .global _ => K .any
 | .func f => K (.fn (.func f) [])
theorem jI (n : Nat) (f : FR) (a : Operand) (K : AV → Prop) : BF n f a K = K (dN n f.k a) := by
 cases a <;> first | rfl | exact B2 n f _ K
def SW (op : BinOp) (k : IntKind) (a b : Int) : Option Value :=
 match op with
 | .add => some (.int k (k.wrap (a + b)))
 | .sub => some (.int k (k.wrap (a - b)))
 | .mul => some (.int k (k.wrap (a * b)))
 | .and => some (.int k (bW .and k a b))
 | .or => some (.int k (bW .or k a b))
 | .xor => some (.int k (bW .xor k a b))
 | .eql => some (.bool (a == b))
 | .neq => some (.bool (a != b))
 | .lss => some (.bool (decide (a < b)))
 | .leq => some (.bool (decide (a ≤ b)))
 | .gtr => some (.bool (decide (b < a)))
 | .geq => some (.bool (decide (b ≤ a)))
 | _ => none
def LP (op : BinOp) (q : IntKind) (x : Int) (r : IntKind) (y : Int) (K : AV → Prop) (E : Prop) : Prop :=
 match op with
 | .shl => E5 (decide (0 ≤ y)) (K (.sc (.int q (q.wrap (x * 2 ^ (min y.toNat q.bits)))))) False
 | .shr => E5 (decide (0 ≤ y)) (K (.sc (.int q (x.fdiv (2 ^ (min y.toNat q.bits)))))) False
 | .quo => LO (decide (q = r)) (E5 (y != 0) (K (.sc (.int q (q.wrap (x.tdiv y))))) False) E
 | .rem => LO (decide (q = r)) (E5 (y != 0) (K (.sc (.int q (x.tmod y)))) False) E
 | op => LO (decide (q = r)) (match SW op q x y with | some v => K (.sc v) | none => E) E
def XA (op : BinOp) (K : AV → Prop) (E : Prop) : AV → AV → Prop
 | .sc (.int q x), .sc (.int r y) => LP op q x r y K E
 | _, _ => E
def SX (X Y : Prop) : AV → Prop
 | .sc (.bool b) => E5 b X Y
 | _ => False
def XB (K : AV → Prop) (E : Prop) : AV → Prop
 | .sc (.bool b) => K (.sc (.bool (!b)))
 | _ => E
def XC (K : AV → Prop) (E : Prop) : AV → Prop
 | .sc (.int q x) => K (.sc (.int q (q.wrap (0 - x))))
 | _ => E
def XD (a b : Option TI) (K : AV → Prop) (E : Prop) : AV → Prop
 | .sc (.int _ x) => match a.bind TI.ti, b.bind TI.ti with
  | some _, some r => K (.sc (.int r (r.wrap x)))
  | _, _ => E
 | _ => E
def XE (i : Nat) (K : AV → Prop) : AV → Prop
 | .tup xs => match xs[i]? with | some x => K x | none => False
 | _ => False
def XF (a : Bool) (o : Option Nat) (x : AV) (K : AV → Prop) (E : Prop) : Prop := match a, o with
 | true, _ => E
 | _, none => E
 | false, some o => match x with
  | .rp t cs => K (.rp t (cs.drop o))
  | .ptr q f => K (.ptr q (f + o))
  | _ => E
def XG (a : Bool) (o : Option (Bool × Nat)) (x : AV) (K : AV → Prop) (E : Prop) : Prop := match a, o with
 | false, some (false, _) => match x with
  | .rp _ cs => match cs.head? with | some y => K y | none => False
  | _ => E
 | _, _ => E
def XH (a : Bool) (x : AV) (K : AV → Prop) (E : Prop) : Prop := match a with
 | true => E
 | false => match x with
  | .ptr q f => K (.ptr q f)
  | .rp t cs => K (.rp t cs)
  | _ => E
def XI (T : Tr TI) (t f : Nat) : Option Nat := (T.find t).bind fun i => i.fs[f]?
def vv (T : Tr TI) (w : Bool) (n : Nat) (f : FR) (op : Op) (K : AV → Prop) (E : Prop) : Prop :=
 match op with
 | .move a => BF n f a K
 | .assign a => BF n f a K
 | .pick c a b => BF n f c (SX (BF n f a K) (BF n f b K))
 | .binOp op _ a b _ => BF n f a fun x => BF n f b fun y => XA op K E x y
 | .unOp .not _ a => BF n f a (XB K E)
 | .unOp .neg _ a => BF n f a (XC K E)
 | .convert t u a => BF n f a (XD (T.find t) (T.find u) K E)
 | .extract a i => BF n f a (XE i K)
 | .fieldAddr t a g => BF n f a fun x => XF w (XI T t g) x K E
 | .load t a => BF n f a fun x => XG w ((T.find t).bind TI.ld) x K E
 | .nilCheck a => BF n f a fun x => XH w x K E
 | .makeFunc fn first caps => LO (Nat.beq first.size 0) (K (.fn fn (caps.toList.map (dN n f.k)))) E
 | _ => E
theorem lC {b : Bool} {X Y : Prop} (h : E5 b X Y) : (b = true ∧ X) ∨ (b = false ∧ Y) := by
 cases b
 ·exact .inr ⟨rfl, h⟩
 ·exact .inl ⟨rfl, h⟩
theorem xK {b : Bool} {X Y : Prop} (h : LO b X Y) : (b = true ∧ X) ∨ (b = false ∧ Y) := by
 cases b
 ·exact .inr ⟨rfl, h⟩
 ·exact .inl ⟨rfl, h⟩
theorem LQ {op : BinOp} {k : IntKind} {a b : Int} {v : Value} (h : SW op k a b = some v) : ib op k a b = some (True, v) ∧ op ≠ .shl ∧ op ≠ .shr := by
 cases op <;> simp only [SW, Option.some.injEq, reduceCtorEq] at h <;> subst h <;> exact ⟨rfl, nofun, nofun⟩
theorem LR {op : BinOp} {k : IntKind} {a b : Int} {v : Value} (h : SW op k a b = some v) : bv op (.sc (.int k a)) (.sc (.int k b)) = some (True, v) := by
 obtain ⟨h1, h2, h3⟩ := LQ h
 cases op <;> first | exact absurd rfl h2 | exact absurd rfl h3 | (simp only [bv, if_true]; exact h1)
section
variable {P : Program} {T : Tr TI} {h : aH} {n : Nat} {f : FR} {K : AV → Prop} {E : Prop}
def PV (P : Program) (h : aH) (n : Nat) (f : FR) (op : Op) (K : AV → Prop) : Prop := ∃ x, (∃ c, pv P h (fm n f.k) op = some (c, x) ∧ c) ∧ K x
theorem PV.mk {op : Op} {x : AV} (c : Prop) (hp : pv P h (fm n f.k) op = some (c, x)) (hc : c) (k : K x) : PV P h n f op K := ⟨x, ⟨c, hp, hc⟩, k⟩
theorem B3 {op : BinOp} {q r : IntKind} {x y : Int} (hv : LP op q x r y K E) : (∃ c v, bv op (.sc (.int q x)) (.sc (.int r y)) = some (c, v) ∧ c ∧ K (.sc v)) ∨ E := by
 unfold LP at hv
 split at hv
 ·rcases lC hv with ⟨h1, h2⟩ | ⟨_, h2⟩
  ·exact .inl ⟨_, _, rfl, of_decide_eq_true h1, h2⟩
  ·exact h2.elim
 ·rcases lC hv with ⟨h1, h2⟩ | ⟨_, h2⟩
  ·exact .inl ⟨_, _, rfl, of_decide_eq_true h1, h2⟩
  ·exact h2.elim
 ·rcases xK hv with ⟨h1, h2⟩ | ⟨_, h2⟩
  ·have := of_decide_eq_true h1; subst this
   rcases lC h2 with ⟨h3, h4⟩ | ⟨_, h4⟩
   ·exact .inl ⟨y ≠ 0, _, by simp only [bv, if_true, ib], by simpa using h3, h4⟩
   ·exact h4.elim
  ·exact .inr h2
 ·rcases xK hv with ⟨h1, h2⟩ | ⟨_, h2⟩
  ·have := of_decide_eq_true h1; subst this
   rcases lC h2 with ⟨h3, h4⟩ | ⟨_, h4⟩
   ·exact .inl ⟨y ≠ 0, _, by simp only [bv, if_true, ib], by simpa using h3, h4⟩
   ·exact h4.elim
  ·exact .inr h2
 ·rcases xK hv with ⟨h1, h2⟩ | ⟨_, h2⟩
  ·have := of_decide_eq_true h1; subst this
   split at h2
   ·rename_i v hv; exact .inl ⟨True, v, LR hv, trivial, h2⟩
   ·exact .inr h2
  ·exact .inr h2
theorem AD (hT : B1 P T) {w : Bool} {op : Op} (hv : vv T w n f op K E) : PV P h n f op K ∨ E := by
 unfold vv at hv
 split at hv
 ·rename_i a; rw [jI] at hv; exact .inl (.mk True (by simp only [pv, bG]) trivial hv)
 ·rename_i a; rw [jI] at hv; exact .inl (.mk True (by simp only [pv, bG]) trivial hv)
 ·rename_i c a b
  simp only [jI] at hv
  unfold SX at hv
  split at hv
  ·rename_i t hc
   rcases lC hv with ⟨h1, h2⟩ | ⟨h1, h2⟩ <;> subst h1 <;> exact .inl (.mk True (by simp only [pv, bG, hc, ST, pk, Option.map_some, tt]) trivial h2)
  ·exact hv.elim
 ·rename_i op t a b u
  simp only [jI] at hv
  unfold XA at hv
  split at hv
  ·rename_i q x r y ha hb
   rcases B3 hv with ⟨c, v, h1, h2, h3⟩ | hE
   ·exact .inl (.mk c (by simp only [pv, bG, ha, hb, h1, Option.map_some]) h2 h3)
   ·exact .inr hE
  ·exact .inr hv
 ·rename_i t a
  simp only [jI] at hv
  unfold XB at hv
  split at hv
  ·rename_i b ha; exact .inl (.mk True (by simp only [pv, bG, ha, N9, Option.map_some, tt]) trivial hv)
  ·exact .inr hv
 ·rename_i t a
  simp only [jI] at hv
  unfold XC at hv
  split at hv
  ·rename_i q x ha; exact .inl (.mk True (by simp only [pv, bG, ha, N9, Option.map_some, tt]) trivial hv)
  ·exact .inr hv
 ·rename_i t u a
  simp only [jI] at hv
  unfold XD at hv
  split at hv
  ·rename_i q x ha
   split at hv
   ·rename_i k r h1 h2
    rw [Option.bind_eq_some_iff] at h1 h2
    obtain ⟨i1, a1, b1⟩ := h1
    obtain ⟨i2, a2, b2⟩ := h2
    have e1 := hT.ti a1 b1
    have e2 := hT.ti a2 b2
    exact .inl (.mk True (by simp only [pv, bG, ha, e1, e2, OP, Option.map_some, Option.bind_some, tt]) trivial hv)
   ·exact .inr hv
  ·exact .inr hv
 ·rename_i a i
  simp only [jI] at hv
  unfold XE at hv
  split at hv
  ·rename_i xs ha
   split at hv
   ·rename_i x hx
    exact .inl (.mk True (by simp only [pv, bG, ha, uN, hx, Option.map_some, tt]) trivial hv)
   ·exact hv.elim
  ·exact hv.elim
 ·rename_i t a g
  simp only [jI] at hv
  unfold XF XI at hv
  split at hv
  ·exact .inr hv
  ·exact .inr hv
  ·rename_i o ho
   rw [Option.bind_eq_some_iff] at ho
   obtain ⟨i, a1, b1⟩ := ho
   obtain ⟨s, e1, e2⟩ := hT.fs a1 b1
   split at hv
   ·rename_i tg cs ha; exact .inl (.mk True (by simp only [pv, bG, ha, e1, Option.bind_some, e2, if_false, H9, Option.map_some, tt]) trivial hv)
   ·rename_i q off ha; exact .inl (.mk True (by simp only [pv, bG, ha, e1, Option.bind_some, e2, if_false, H9, Option.map_some, tt]) trivial hv)
   ·exact .inr hv
 ·rename_i t a
  simp only [jI] at hv
  unfold XG at hv
  split at hv
  ·rename_i m ho
   rw [Option.bind_eq_some_iff] at ho
   obtain ⟨i, a1, b1⟩ := ho
   have e1 := hT.ld a1 b1
   split at hv
   ·rename_i tg cs ha
    split at hv
    ·rename_i y hy
     exact .inl (.mk True (by simp only [pv, bG, ha, e1, Option.bind_some, FD, BM, hy, Option.map_some, tt]) trivial hv)
    ·exact hv.elim
   ·exact .inr hv
  ·exact .inr hv
 ·rename_i a
  simp only [jI] at hv
  unfold XH at hv
  split at hv
  ·exact .inr hv
  ·split at hv
   ·rename_i q off ha; exact .inl (.mk True (by simp only [pv, bG, ha, D1, Option.map_some, tt]) trivial hv)
   ·rename_i tg cs ha; exact .inl (.mk True (by simp only [pv, bG, ha, D1, Option.map_some, tt]) trivial hv)
   ·exact .inr hv
 ·rename_i fn first caps
  rcases xK hv with ⟨h1, h2⟩ | ⟨_, h2⟩
  ·have h1 := Nat.eq_of_beq_eq_true h1
   refine .inl (.mk True ?_ trivial h2)
   have e : caps.toList.map (ev (fm n f.k)) = caps.toList.map (dN n f.k) := List.map_congr_left fun o _ => bG n f.k o
   simp only [pv, h1, if_true, e]
  ·exact .inr h2
 ·exact .inr hv
end
def QK (h : aH) (n : Nat) (K : FR → HL → Prop) (fr : Fr) (hh : aH) : Prop := ∃ f L, bS h L ∧ gY (fm n f.k) (hp h L) fr hh ∧ K f L
theorem gY.rfl' {fr : Fr} {h : aH} : gY fr h fr h := gY.eqh rfl
structure VN (q : Bool) (P : Program) (h : aH) (n : Nat) (o : Oper) (K : FR → HL → Prop) (f : FR) (L : HL) : Prop where
 v : q = true → bS h L → ∃ x, eI P o x (fm n f.k) (hp h L) ∧ K (f.put o.dst x) L
 e : q = false → bS h L → iB P o (fun x h' => QK h n K (fm n (f.put o.dst x).k) h') (fm n f.k) (hp h L)
def gd (_ : Nat) (w : Bool) (X Y : FR → Prop) (f : FR) (b : Bool) : Prop := match w with
 | true => E5 b (X f) (Y f)
 | false => E5 b (Y f) (X f)
def TF (d : Nat) (w : Bool) (X Y : FR → Prop) (f : FR) : AV → Prop
 | .sc (.bool b) => gd d w X Y f b
 | .sc (.tuple _) => Y f
 | _ => False
def TG (l0 : List Oper) (n : Nat) (g : Option (Nat × Bool)) (X Y : FR → Prop) (f : FR) : Prop := match g with
 | none => X f
 | some (j, w) => match (l0[j]?).bind (·.dst) with
  | some d => SV n f d (TF d w X Y f)
  | none => False
def vo (q : Bool) (T : Tr TI) (w : Bool) (P : Program) (h : aH) (n : Nat) (l0 : List Oper) (K : FR → HL → Prop) : List Oper → FR → HL → Prop
  | [], f, L => K f L
  | ⟨d, op, ty, pos, dP, g⟩ :: l, f, L => TG l0 n g
      (fun f => vv T w n f op (fun x => vo q T w P h n l0 K l (f.put d x) L) (VN q P h n ⟨d, op, ty, pos, dP, none⟩ (vo q T w P h n l0 K l) f L))
      (fun f => vo q T w P h n l0 K l (f.put d (.sc undef)) L) f
section
variable {P : Program} {T : Tr TI} {w : Bool} {h : aH} {n : Nat} {l0 : List Oper} {K : FR → HL → Prop}
theorem LS (hT : B1 P T) : ∀ (l : List Oper) (f : FR) (L : HL), vo false T w P h n l0 K l f L → bS h L → gZ P l0.toArray l (QK h n K) (fm n f.k) (hp h L)
 | [], f, L, hv, hk => zK ⟨f, L, hk, gY.rfl', hv⟩
 | ⟨d, op, ty, pos, dP, g⟩ :: l, f, L, hv, hk => by
  have ih : ∀ (f : FR) (d : Option Tmp) (x : AV) (L : HL), vo false T w P h n l0 K l (f.put d x) L → bS h L → gZ P l0.toArray l (QK h n K) (fm n (mT f.k d x)) (hp h L) := fun f d x L a b => by
   rw [← FR.put_k]; exact LS hT l _ _ a b
  have main : ∀ f, vv T w n f op (fun x => vo false T w P h n l0 K l (f.put d x) L) (VN false P h n ⟨d, op, ty, pos, dP, none⟩ (vo false T w P h n l0 K l) f L) → gZ P l0.toArray (⟨d, op, ty, pos, dP, none⟩ :: l) (QK h n K) (fm n f.k) (hp h L) := by
   intro f hv
   rcases AD (h := hp h L) hT hv with ⟨x, ⟨c, hp, hc⟩, k⟩ | hE
   ·exact oN (iJ hp hc) (ih _ _ _ _ k hk)
   ·refine jE ((hE.e rfl hk).mono ?_)
    intro x h' q
    rw [FR.put_k] at q
    obtain ⟨f', L', hk', le, k⟩ := q
    exact le.aops (LS hT l _ _ k hk')
  unfold vo TG at hv
  split at hv
  ·exact main f hv
  ·rename_i j w'
   split at hv
   ·rename_i dj hd
    have hd' : (l0.toArray[j]?).bind (·.dst) = some dj := by simpa using hd
    rw [B2] at hv
    unfold TF at hv
    split at hv
    ·rename_i b hu
     unfold gd at hv
     split at hv
     ·rcases lC hv with ⟨h1, h2⟩ | ⟨h1, h2⟩
      ·exact OS hd' hu h1 (main f h2)
      ·exact OT hd' hu h1 (ih _ _ _ _ h2 hk)
     ·rcases lC hv with ⟨h1, h2⟩ | ⟨h1, h2⟩
      ·exact OT hd' hu h1 (ih _ _ _ _ h2 hk)
      ·exact OS hd' hu h1 (main f h2)
    ·rename_i vs hu; exact TB hd' hu (ih _ _ _ _ hv hk)
    ·exact hv.elim
   ·exact hv.elim
theorem PI (hT : B1 P T) : ∀ (l : List Oper) (f : FR) (L : HL), vo true T w P h n l0 K l f L → bS h L → fA P l0.toArray (hp h L) (fun fr => ∃ f, fr = fm n f.k ∧ K f L) l (fm n f.k)
 | [], f, L, hv, hk => ⟨f, rfl, hv⟩
 | ⟨d, op, ty, pos, dP, g⟩ :: l, f, L, hv, hk => by
  have ih : ∀ (f : FR) (d : Option Tmp) (x : AV) (L : HL), vo true T w P h n l0 K l (f.put d x) L → bS h L → fA P l0.toArray (hp h L) (fun fr => ∃ f : FR, fr = fm n f.k ∧ K f L) l (fm n (mT f.k d x)) := fun f d x L a b => by
   rw [← FR.put_k]; exact PI hT l _ _ a b
  have main : ∀ f, vv T w n f op (fun x => vo true T w P h n l0 K l (f.put d x) L) (VN true P h n ⟨d, op, ty, pos, dP, none⟩ (vo true T w P h n l0 K l) f L) → fA P l0.toArray (hp h L) (fun fr => ∃ f, fr = fm n f.k ∧ K f L) (⟨d, op, ty, pos, dP, none⟩ :: l) (fm n f.k) := by
   intro f hv
   rcases AD (h := hp h L) hT hv with ⟨x, ⟨c, hp, hc⟩, k⟩ | hE
   ·exact W8 (iJ hp hc) (ih _ _ _ _ k hk)
   ·obtain ⟨x, ho, k⟩ := hE.v rfl hk
    exact W8 ho (ih _ _ _ _ k hk)
  unfold vo TG at hv
  split at hv
  ·exact main f hv
  ·rename_i j w'
   split at hv
   ·rename_i dj hd
    have hd' : (l0.toArray[j]?).bind (·.dst) = some dj := by simpa using hd
    rw [B2] at hv
    unfold TF at hv
    split at hv
    ·rename_i b hu
     unfold gd at hv
     split at hv
     ·rcases lC hv with ⟨h1, h2⟩ | ⟨h1, h2⟩
      ·exact OU hd' hu h1 (main f h2)
      ·exact OV hd' hu h1 (ih _ _ _ _ h2 hk)
     ·rcases lC hv with ⟨h1, h2⟩ | ⟨h1, h2⟩
      ·exact OV hd' hu h1 (ih _ _ _ _ h2 hk)
      ·exact OU hd' hu h1 (main f h2)
    ·rename_i vs hu; exact TC hd' hu (ih _ _ _ _ hv hk)
    ·exact hv.elim
   ·exact hv.elim
end
def QQ (h : aH) (n : Nat) (kn : FR → HL → Prop) (ke : Exit → FR → HL → Prop) (e : Exit) : Fr → aH → Prop := QK h n (match e with | .normal => kn | e => ke e)
structure VC (P : Program) (h : aH) (n : Nat) (c : Code) (kn : FR → HL → Prop) (ke : Exit → FR → HL → Prop) (f : FR) (L : HL) : Prop where
 r : bS h L → AW P c (QQ h n kn ke) (fm n f.k) (hp h L)
structure VD (P : Program) (h : aH) (n : Nat) (id : Nat) (ops : Array Oper) (kn : FR → HL → Prop) (f : FR) (L : HL) : Prop where
 r : bS h L → AW P (.region id ops true) (fun e fr hh => e = .normal ∧ QK h n kn fr hh) (fm n f.k) (hp h L)
def XJ (id : Nat) (kn : FR → HL → Prop) (ke : Exit → FR → HL → Prop) : Exit → FR → HL → Prop
 | .exit i => bif Nat.beq i id then kn else ke (.exit i)
 | e => ke e
def vc (T : Tr TI) (w : Bool) (P : Program) (h : aH) (n : Nat) : Code → (FR → HL → Prop) → (Exit → FR → HL → Prop) → FR → HL → Prop
 | .skip, kn, _, f, L => kn f L
 | .region id ops z, kn, _, f, L => match z with
  | false => vo false T w P h n ops.toList kn ops.toList f L
  | true => VD P h n id ops kn f L
 | .seq a b, kn, ke, f, L => vc T w P h n a (VC P h n b kn ke) ke f L
 | .cond c a b, kn, ke, f, L => BF n f c (SX (VC P h n a kn ke f L) (VC P h n b kn ke f L))
 | .block id c, kn, ke, f, L => VC P h n c kn (XJ id kn ke) f L
 | .exit id, _, ke, f, L => ke (.exit id) f L
 | .label _, kn, _, f, L => kn f L
 | .ret, _, ke, f, L => ke .ret f L
 | .goto l, _, ke, f, L => ke (.goto l) f L
 | c, kn, ke, f, L => VC P h n c kn ke f L
section
variable {P : Program} {T : Tr TI} {w : Bool} {h : aH} {n : Nat}
theorem QK.aw {c : Code} {Q : Exit → Fr → aH → Prop} {K : FR → HL → Prop} {fr : Fr} {hh : aH} (hq : QK h n K fr hh) (hc : ∀ f L, bS h L → K f L → AW P c Q (fm n f.k) (hp h L)) : AW P c Q fr hh :=
 let ⟨f, L, hk, le, k⟩ := hq; le.aw (hc f L hk k)
theorem QK.of {K : FR → HL → Prop} {f : FR} {L : HL} (hk : bS h L) (k : K f L) : QK h n K (fm n f.k) (hp h L) := ⟨f, L, hk, gY.rfl', k⟩
theorem TH (hT : B1 P T) : ∀ (c : Code) {kn : FR → HL → Prop} {ke : Exit → FR → HL → Prop} {f : FR} {L : HL}, vc T w P h n c kn ke f L → VC P h n c kn ke f L
  | .skip, _, _, _, _, hv => ⟨fun hk => jM (QK.of hk hv)⟩
  | .region id ops false, kn, ke, f, L, hv => ⟨fun hk => by
      have h1 := LS hT ops.toList f L hv hk
      exact vJ (l := ops.toList) h1⟩
  | .region id ops true, kn, ke, f, L, hv => ⟨fun hk => (VD.r hv hk).mono fun e fr hh q => by obtain ⟨rfl, q⟩ := q; exact q⟩
  | .seq a b, kn, ke, f, L, hv => ⟨fun hk => BI (((TH hT a hv).r hk).mono fun e fr hh q => by
      cases e with
      | normal => exact QK.aw q fun f L hk k => k.r hk
      | exit i => exact q
      | goto l => exact q
      | ret => exact q
      | panic c => exact q
      | outgrown => exact q)⟩
  | .cond c a b, kn, ke, f, L, hv => ⟨fun hk => by
      unfold vc at hv
      rw [jI] at hv
      unfold SX at hv
      split at hv
      · rename_i t hc
        rcases lC hv with ⟨h1, h2⟩ | ⟨h1, h2⟩
        · exact lA hc (fun _ => h2.r hk) (fun e => by rw [e] at h1; cases h1)
        · exact lA hc (fun e => by rw [e] at h1; cases h1) (fun _ => h2.r hk)
      · exact hv.elim⟩
  | .block id c, kn, ke, f, L, hv => ⟨fun hk => sJ ((VC.r hv hk).mono fun e fr hh q => by
      cases e with
      | normal => exact q
      | exit i =>
        simp only [QQ, XJ] at q
        by_cases hi : i = id
        · subst hi
          have : Nat.beq i i = true := Nat.beq_refl i
          rw [this] at q
          simp only [E8, if_true]
          exact q
        · have : Nat.beq i id = false := by
            cases e : Nat.beq i id with
            | false => rfl
            | true => exact absurd (Nat.eq_of_beq_eq_true e) hi
          rw [this] at q
          simp only [E8, hi, if_false]
          exact q
      | goto l => exact q
      | ret => exact q
      | panic c => exact q
      | outgrown => exact q)⟩
  | .exit id, _, _, _, _, hv => ⟨fun hk => IF (QK.of hk hv)⟩
  | .label l, _, _, _, _, hv => ⟨fun hk => E7 (QK.of hk hv)⟩
  | .ret, _, _, _, _, hv => ⟨fun hk => gN (QK.of hk hv)⟩
  | .goto l, _, _, _, _, hv => ⟨fun hk => IG (QK.of hk hv)⟩
  | .loop c, _, _, _, _, hv => hv
  | .rangeFunc a b c d, _, _, _, _, hv => hv
  | .scope c, _, _, _, _, hv => hv
  | .refuse s, _, _, _, _, hv => hv
theorem vs {a b : Code} {kn : FR → HL → Prop} {ke : Exit → FR → HL → Prop} {f : FR} {L : HL} (hv : VC P h n a (VC P h n b kn ke) ke f L) : VC P h n (.seq a b) kn ke f L :=
  ⟨fun hk => BI ((hv.r hk).mono fun e fr hh q => by
      cases e with
      | normal => exact QK.aw q fun f L hk k => k.r hk
      | exit i => exact q
      | goto l => exact q
      | ret => exact q
      | panic c => exact q
      | outgrown => exact q)⟩
theorem oO {c : Code} {kn : FR → HL → Prop} {ke : Exit → FR → HL → Prop} {f g : FR} {L L' : HL} (le : bS h L → bS h L' ∧ gY (fm n g.k) (hp h L') (fm n f.k) (hp h L)) (k : VC P h n c kn ke g L') : VC P h n c kn ke f L :=
 ⟨fun hk => let ⟨h1, h2⟩ := le hk; h2.aw (k.r h1)⟩
theorem fA.mono {ops : Array Oper} {h : aH} {K K' : Fr → Prop} (hk : ∀ fr, K fr → K' fr) : ∀ {l : List Oper} {fr : Fr}, fA P ops h K l fr → fA P ops h K' l fr
 | [], _, q => hk _ q
 | _ :: _, _, q => let ⟨x, hy, k⟩ := q; ⟨x, hy, fA.mono hk k⟩
theorem XK (hT : B1 P T) {id : Nat} {l : List Oper} {kn : FR → HL → Prop} {f : FR} {L : HL} (hm : P.follows .mixedOrders = true) (h2 : zY 0 (l.map (rI l.toArray)) = true)
    (k : vo true T w P h n l kn l f L) : VD P h n id l.toArray kn f L :=
  ⟨fun hk => (PH (Q := fun e fr hh => e = .normal ∧ QK h n kn fr hh) hm h2 ((PI hT l f L k hk).mono fun fr q => by
    obtain ⟨f', rfl, q⟩ := q; exact ⟨rfl, QK.of hk q⟩))⟩
end
end Go.Vm
