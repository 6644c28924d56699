import Derived.Test.YtoomgangpjcaoaaGreatK1P1
import Derived.Lib.AppendStr
set_option linter.unusedSimpArgs false
set_option linter.unusedVariables false
namespace Go.Vm
section
variable {P : Program} {E : Env} {h : Heap} {w : World}
theorem Rel.new_mp (r : Rel E h w) {k : Key} (hk : ¬ E.used k) (ents : Array MapEntry) (clk : Nat) :
    ∃ E', E'.ob k = some w.heap.size ∧ Keep E w E' (w.alloc (.map ents clk)) ∧ Rel E' (upd h k (some (.mp (ents.toList.map fun e => (e.key, e.val))))) (w.alloc (.map ents clk)) := by
  let E' : Env := { E with ob := fun x => if x = k then some w.heap.size else E.ob x, used := fun x => x = k ∨ E.used x }
  have hkeep : Keep E w E' (w.alloc (.map ents clk)) := by
    refine r.keep_ext (fun g hg => heap_alloc_old w _ g hg) (by simp) rfl rfl rfl (fun _ _ h => h) rfl (fun _ h => .inr h) ?_ (fun _ _ => rfl)
    intro x g hx
    have : x ≠ k := fun e => hk (by subst e; exact r.obu _ _ hx)
    simpa [E', this] using hx
  have hnew := heap_alloc_new w (.map ents clk)
  have at' : ∀ x g, E'.at (upd h k (some (.mp (ents.toList.map fun e => (e.key, e.val))))) x g → (x = k ∧ g = w.heap.size) ∨ (x ≠ k ∧ E.at h x g) := by
    intro x g ha
    by_cases hx : x = k
    · subst hx
      refine .inl ⟨rfl, ?_⟩
      rcases ha with ⟨_, _, _, h2⟩ | ⟨_, _, _, _, h2, _⟩
      · simp only [E', if_true, Option.some.injEq] at h2; exact h2.symm
      · simp [upd] at h2
    · refine .inr ⟨hx, ?_⟩
      rcases ha with ⟨a, b, h2, h3⟩ | ⟨a, b, c, t, h2, h3⟩
      · rw [upd_ne _ _ hx] at h2
        simp only [E', hx, if_false] at h3
        exact .inl ⟨a, b, h2, h3⟩
      · rw [upd_ne _ _ hx] at h2
        exact .inr ⟨a, b, c, t, h2, h3⟩
  refine ⟨E', by simp [E'], hkeep, ?_⟩
  constructor
  · intro x ty' cs' hx
    by_cases e : x = k
    · subst e; rw [upd_same] at hx; cases hx
    · rw [upd_ne _ _ e] at hx
      obtain ⟨g, cur', e1, e2, e3, e4⟩ := r.obj x ty' cs' hx
      exact ⟨g, cur', hkeep.ob _ _ e1, by rw [heap_alloc_old w _ g (Array.getElem?_eq_some_iff.1 e2).1]; exact e2, VRL_keep hkeep _ _ e3, e4⟩
  · intro x ty' sz m hx
    by_cases e : x = k
    · subst e; rw [upd_same] at hx; cases hx
    · rw [upd_ne _ _ e] at hx
      obtain ⟨t, cur', e1, e2, e3, e4, e5⟩ := r.tok x ty' sz m hx
      exact ⟨t, cur', e1, e2, e3, by rw [heap_alloc_old w _ _ (Array.getElem?_eq_some_iff.1 e4).1]; exact e4, e5⟩
  · intro x t hx
    obtain ⟨ty', e⟩ := r.tkh x t hx
    have : x ≠ k := fun e' => hk (by subst e'; exact r.tk_used hx)
    exact ⟨ty', by rw [upd_ne _ _ this]; exact e⟩
  · intro x y g hx hy
    rcases at' x g hx with ⟨rfl, hg⟩ | ⟨_, hx'⟩ <;> rcases at' y g hy with ⟨rfl, hg'⟩ | ⟨_, hy'⟩
    · rfl
    · have := r.at_lt hy'; omega
    · have := r.at_lt hx'; omega
    · exact r.sep x y g hx' hy'
  · intro x g hx
    rcases at' x g hx with ⟨rfl, rfl⟩ | ⟨_, hx'⟩
    · refine ⟨fun hl => ?_, fun o ho => ?_⟩
      · have := r.lkb _ hl; omega
      · obtain ⟨v, hv⟩ := r.imb _ _ ho
        have := block_of_cell hv; omega
    · exact r.dis x g hx'
  · intro x e hx
    by_cases e' : x = k
    · exact .inl e'
    · rw [upd_ne _ _ e'] at hx; exact .inr (r.hus x e hx)
  · intro x g hx
    by_cases e' : x = k
    · exact .inl e'
    · simp only [E', e', if_false] at hx; exact .inr (r.obu x g hx)
  · exact fre_add r k
  · intro g o ho
    obtain ⟨v, hv⟩ := r.imb g o ho
    exact ⟨v, (hkeep.imm g o ho).2.trans hv⟩
  · intro g hg
    have := r.lkb g hg
    simp; omega
  · intro x es hx
    by_cases e' : x = k
    · subst e'
      rw [upd_same] at hx
      cases hx
      exact ⟨_, ents, clk, by simp [E'], hnew, rfl⟩
    · rw [upd_ne _ _ e'] at hx
      obtain ⟨g, ents', clk', e1, e2, e3⟩ := r.mp x es hx
      exact ⟨g, ents', clk', hkeep.ob _ _ e1, by rw [heap_alloc_old w _ g (Array.getElem?_eq_some_iff.1 e2).1]; exact e2, e3⟩
theorem Rel.set_mp (r : Rel E h w) {k : Key} {g : Nat} {es0 : List (Value × Value)} (hk : h k = some (.mp es0)) (hg : E.ob k = some g) (ents : Array MapEntry) (clk : Nat) {w' : World}
    (hw : w'.heap[g]? = some (.map ents clk)) (hoth : ∀ g', g' ≠ g → w'.heap[g']? = w.heap[g']?) (hsz : w.heap.size ≤ w'.heap.size) (hos : w'.os = w.os) (htp : w'.tape = w.tape) (hout : w'.output = w.output) :
    Keep E w E w' ∧ Rel E (upd h k (some (.mp (ents.toList.map fun e => (e.key, e.val))))) w' := by
  have hat : E.at h k g := .inl ⟨_, rfl, hk, hg⟩
  obtain ⟨d1, d2⟩ := r.dis k g hat
  have hkeep : Keep E w E w' := by
    refine ⟨fun g' o ho => ⟨ho, ?_⟩, fun _ => Iff.rfl, fun g' hl => hoth g' fun e => d1 (e ▸ hl), fun _ h => h, fun _ _ h => h, ?_, fun _ t ht _ => ⟨t, ht, Nat.le_refl _, fun _ => rfl⟩, hos, htp, hout, hsz⟩
    · exact cell_of_block (hoth g' fun e => d2 o (e ▸ ho)) o
    · intro x t ht o ho
      refine ⟨.inr ⟨t, ht, rfl, ho⟩, cell_of_block (hoth _ fun e => ?_) o⟩
      obtain ⟨ty', e'⟩ := r.tkh x t ht
      have : x = k := r.sep x k g (.inr ⟨ty', _, _, t, e', ht, e⟩) hat
      subst this
      rw [hk] at e'; cases e'
  have at' : ∀ x g', E.at (upd h k (some (.mp (ents.toList.map fun e => (e.key, e.val))))) x g' → E.at h x g' := by
    intro x g' ha
    by_cases hx : x = k
    · subst hx
      rcases ha with ⟨a, b, h2, h3⟩ | ⟨_, _, _, _, h2, _⟩
      · exact .inl ⟨_, rfl, hk, h3⟩
      · rw [upd_same] at h2; cases h2
    · rcases ha with ⟨a, b, h2, h3⟩ | ⟨a, b, c, t, h2, h3⟩
      · rw [upd_ne _ _ hx] at h2; exact .inl ⟨a, b, h2, h3⟩
      · rw [upd_ne _ _ hx] at h2; exact .inr ⟨a, b, c, t, h2, h3⟩
  have ne : ∀ x e' g', x ≠ k → h x = some e' → e'.isOb = true → E.ob x = some g' → g' ≠ g := fun x e' g' hx he hb ho q => hx (r.sep x k g (.inl ⟨e', hb, he, q ▸ ho⟩) hat)
  refine ⟨hkeep, ?_⟩
  constructor
  · intro x ty' cs' hx
    by_cases e : x = k
    · subst e; rw [upd_same] at hx; cases hx
    · rw [upd_ne _ _ e] at hx
      obtain ⟨g', cur', e1, e2, e3, e4⟩ := r.obj x ty' cs' hx
      exact ⟨g', cur', e1, by rw [hoth g' (ne x _ g' e hx rfl e1)]; exact e2, VRL_keep hkeep _ _ e3, e4⟩
  · intro x ty' sz m hx
    by_cases e : x = k
    · subst e; rw [upd_same] at hx; cases hx
    · rw [upd_ne _ _ e] at hx
      obtain ⟨t, cur', e1, e2, e3, e4, e5⟩ := r.tok x ty' sz m hx
      refine ⟨t, cur', e1, e2, e3, ?_, e5⟩
      rw [hoth _ (fun e' => e (r.sep x k g (.inr ⟨ty', sz, m, t, hx, e1, e'⟩) hat))]
      exact e4
  · intro x t hx
    obtain ⟨ty', e⟩ := r.tkh x t hx
    have : x ≠ k := fun e' => by subst e'; rw [hk] at e; cases e
    exact ⟨ty', by rw [upd_ne _ _ this]; exact e⟩
  · exact fun x y g' hx hy => r.sep x y g' (at' _ _ hx) (at' _ _ hy)
  · exact fun x g' hx => r.dis x g' (at' _ _ hx)
  · intro x e hx
    by_cases e' : x = k
    · subst e'; exact r.hus _ _ hk
    · rw [upd_ne _ _ e'] at hx; exact r.hus x e hx
  · exact r.obu
  · exact r.fre
  · intro g' o ho
    obtain ⟨v, hv⟩ := r.imb g' o ho
    exact ⟨v, (hkeep.imm g' o ho).2.trans hv⟩
  · intro g' hg'
    have := r.lkb g' hg'
    omega
  · intro x es hx
    by_cases e : x = k
    · subst e
      rw [upd_same] at hx
      cases hx
      exact ⟨g, ents, clk, hg, hw, rfl⟩
    · rw [upd_ne _ _ e] at hx
      obtain ⟨g', ents', clk', e1, e2, e3⟩ := r.mp x es hx
      exact ⟨g', ents', clk', e1, by rw [hoth g' (ne x _ g' e hx rfl e1)]; exact e2, e3⟩
end
def kS (x : ByteArray) : Value := .string x
def kI (x : Int) : Value := .int .i64 x
def mset {α : Type} (k : α → Value) (l : List α) : List (Value × Value) := l.map fun x => (k x, .bool true)
def madd {α : Type} [BEq α] (l : List α) (x : α) : List α := if l.any (fun y => x == y) = true then l else l ++ [x]
theorem bytes_beq (a b : ByteArray) : (a == b) = true ↔ a = b := by
 constructor
 ·intro h
  have h' : (a.data == b.data) = true := h
  have : a.data = b.data := by simpa using h'
  cases a; cases b; simp_all
 ·rintro rfl
  show (a.data == a.data) = true
  simp
structure KeyT (P : Program) (t : TypeId) {α : Type} [BEq α] (k : α → Value) : Prop where
 law : ∀ x y : α, (x == y) = true → x = y
 d : ∃ kd, P.underlying t = some kd ∧ (∀ x y, Instr.sameNow kd (k x) (k y) = some (x == y)) ∧ (∀ x b w, (Instr.checkKey b 10000 t (k x)).run P w = .ok () w)
 bits : ∀ x, Instr.sameBits 10000 (k x) (k x) = true
theorem sameBits_str (n : Nat) (x : ByteArray) : Instr.sameBits n (.string x) (.string x) = true := by
 have : (x == x) = true := (bytes_beq x x).2 rfl
 cases n <;> simp [Instr.sameBits, this]
theorem sameBits_int (n : Nat) (x : Int) : Instr.sameBits n (.int .i64 x) (.int .i64 x) = true := by cases n <;> simp [Instr.sameBits]
theorem checkKey_str {P : Program} {t : TypeId} (ht : P.underlying t = some .string) (n : Nat) (x : ByteArray) (b : Bool) (w : World) : (Instr.checkKey b (n + 1) t (.string x)).run P w = .ok () w := by
 simp [Instr.checkKey, run_underlying ht]
theorem checkKey_int {P : Program} {t : TypeId} (ht : P.underlying t = some (.int .i64)) (n : Nat) (x : Int) (b : Bool) (w : World) : (Instr.checkKey b (n + 1) t (.int .i64 x)).run P w = .ok () w := by
 simp [Instr.checkKey, run_underlying ht]
theorem KeyT.str {P : Program} {t : TypeId} (ht : P.underlying t = some .string) : KeyT P t kS :=
 ⟨fun x y h => (bytes_beq x y).1 h, ⟨_, ht, fun _ _ => rfl, fun x b w => checkKey_str ht 9999 x b w⟩, fun x => sameBits_str 10000 x⟩
theorem KeyT.int {P : Program} {t : TypeId} (ht : P.underlying t = some (.int .i64)) : KeyT P t kI :=
 ⟨fun x y h => by simpa using h, ⟨_, ht, fun x y => by simp only [Instr.sameNow, kI, if_true], fun x b w => checkKey_int ht 9999 x b w⟩, fun x => sameBits_int 10000 x⟩
theorem findNow_set {α : Type} [BEq α] {k : α → Value} {kd : TypeDesc} (law : ∀ x y : α, (x == y) = true → x = y) (hs : ∀ x y, Instr.sameNow kd (k x) (k y) = some (x == y)) (x : α) : ∀ (l : List α) (ents : List MapEntry) (i : Nat), ents.map (fun e => (e.key, e.val)) = mset k l →
    (l.any (fun y => x == y) = true → ∃ j e, Instr.findNow kd (k x) ents i = some (some (i + j, .bool true)) ∧ ents[j]? = some e ∧ e.key = k x ∧ e.val = .bool true) ∧
    (l.any (fun y => x == y) = false → Instr.findNow kd (k x) ents i = some none)
  | [], [], i, _ => ⟨fun h => by simp at h, fun _ => rfl⟩
  | [], _ :: _, _, h => by simp [mset] at h
  | _ :: _, [], _, h => by simp [mset] at h
  | y :: l, e :: ents, i, h => by
    simp only [List.map_cons, mset, List.cons.injEq, Prod.mk.injEq] at h
    obtain ⟨⟨h1, h2⟩, h3⟩ := h
    obtain ⟨ih1, ih2⟩ := findNow_set law hs x l ents (i + 1) h3
    have hn : Instr.findNow kd (k x) (e :: ents) i = (if (x == y) = true then some (some (i, e.val)) else Instr.findNow kd (k x) ents (i + 1)) := by
      simp only [Instr.findNow, h1, hs]
      cases (x == y) <;> rfl
    constructor
    · intro ha
      rw [hn]
      by_cases q : (x == y) = true
      · rw [if_pos q]
        have : x = y := law x y q
        exact ⟨0, e, by rw [h2]; simp, by simp, by rw [h1, this], h2⟩
      · rw [if_neg q]
        simp only [List.any_cons, q, Bool.false_or] at ha
        obtain ⟨j, e', a1, a2, a3⟩ := ih1 ha
        exact ⟨j + 1, e', by rw [a1]; congr 2; simp; omega, by simpa using a2, a3⟩
    · intro ha
      simp only [List.any_cons, Bool.or_eq_false_iff] at ha
      rw [hn, if_neg (by rw [ha.1]; simp)]
      exact ih2 ha.2
section ops
variable {P : Program} {h h0 : Heap} {L : HL} {n : Nat} {kvs : KV} {ty : TypeId} {pos : String} {aft : Array Edge}
theorem a_mkmap {K : AV → Heap → Prop} {dst : Option Tmp} {t : TypeId} (hk : HOk h0 L)
    (k : ∀ q : Key, HOk h0 ((some q, .mp []) :: L) → K (.mpv q) (hp h0 ((some q, .mp []) :: L))) : AOp P ⟨dst, .makeMap t none, ty, pos, aft, none⟩ K (fm n kvs) (hp h0 L) := by
  intro E w a r hv Nx Qx hn
  obtain ⟨m, hm⟩ := r.fresh 0
  obtain ⟨E', e1, e2, e3⟩ := r.new_mp hm #[] 0
  have hrun : (execOp a.eval ⟨dst, .makeMap t none, ty, pos, aft, none⟩).run P w = .ok (.value (.map (some w.heap.size))) (w.alloc (.map #[] 0)) := by
    simp [execOp, Instr.makeMap, newObj, Sem.run]
  unfold Oper.wp
  rw [hrun]
  refine hn (.mpv (0, m)) _ _ E' _ e2 e3 (by simp only [VR]; exact ⟨_, e1, rfl⟩) ?_
  exact k (0, m) ⟨hk, fun k' e => by cases e; exact r.unused_none hm⟩
theorem o_look {α : Type} [BEq α] {kf : α → Value} {l : List α} {x : α} {dst : Option Tmp} {t kt et : TypeId} {m y : Operand} {q : Key} (ht : P.underlying t = some (.map kt et)) (hz : (P.info? et).bind (·.zero) = some (.bool false)) (hkt : KeyT P kt kf)
    (hm : evk n kvs m = .mpv q) (hy : evk n kvs y = .sc (kf x)) (hq : h q = some (.mp (mset kf l))) : AOpV P ⟨dst, .lookup t m y false, ty, pos, aft, none⟩ (.sc (.bool (l.any fun z => x == z))) (fm n kvs) h := by
  refine AOp_value (x := .sc (.bool (l.any fun z => x == z))) (fun E w ac r hv => ?_) ⟨rfl, rfl⟩
  have vm := hv m (by simp [Op.operands])
  have vy := hv y (by simp [Op.operands])
  rw [ev_fm, hm] at vm; rw [ev_fm, hy] at vy
  simp only [VR] at vm vy
  obtain ⟨g, hg, em⟩ := vm
  obtain ⟨g', ents, clk, e1, e2, e3⟩ := r.mp q _ hq
  rw [hg] at e1; cases e1
  obtain ⟨kd, hkd, hs, hck⟩ := hkt.d
  obtain ⟨f1, f2⟩ := findNow_set hkt.law hs x l ents.toList 0 e3
  refine ⟨.bool (l.any fun z => x == z), ?_, by simp only [VR]⟩
  have hz1 : (zeroValue et).run P w = .ok (.bool false) w := by
    cases hi : P.info? et with
    | none => rw [hi] at hz; simp at hz
    | some i =>
      rw [hi] at hz
      simp at hz
      simp [zeroValue, typeInfo, hi, hz]
  have hgo : (getObj g).run P w = .ok (.map ents clk) w := by simp [getObj, Sem.run, e2]
  simp only [execOp, em, vy, Instr.lookup, Sem.run_bind, run_underlying ht, Result.andThen_ok, hgo, Sem.run_pure, hck, Instr.findKey, run_underlying hkd]
  cases ha : (l.any fun z => x == z) with
  | true =>
    obtain ⟨j, e, a1, a2, a3, a4⟩ := f1 ha
    simp [a1]
  | false =>
    have := f2 ha
    simp [this, hz1]
theorem a_mset {K : AV → Heap → Prop} {α : Type} [BEq α] {kf : α → Value} {l : List α} {x : α} {dst : Option Tmp} {t kt et : TypeId} {m y v : Operand} {q : Key} (i : Nat) (hk : HOk h0 L) (ht : P.underlying t = some (.map kt et)) (hkt : KeyT P kt kf)
    (hm : evk n kvs m = .mpv q) (hy : evk n kvs y = .sc (kf x)) (hv : evk n kvs v = .sc (.bool true)) (hi : L[i]? = some (some q, .mp (mset kf l)))
    (k : HOk h0 (L.set i (some q, .mp (mset kf (madd l x)))) → K (.sc undef) (hp h0 (L.set i (some q, .mp (mset kf (madd l x)))))) :
    AOp P ⟨dst, .mapUpdate t m y v, ty, pos, aft, none⟩ K (fm n kvs) (hp h0 L) := by
  intro E w a r hva Nx Qx hn
  have vm := hva m (by simp [Op.operands])
  have vy := hva y (by simp [Op.operands])
  have vv := hva v (by simp [Op.operands])
  rw [ev_fm, hm] at vm; rw [ev_fm, hy] at vy; rw [ev_fm, hv] at vv
  simp only [VR] at vm vy vv
  obtain ⟨g, hg, em⟩ := vm
  have hq := Zd i hk hi
  obtain ⟨g', ents, clk, e1, e2, e3⟩ := r.mp q _ hq
  rw [hg] at e1; cases e1
  obtain ⟨kd, hkd, hs, hck⟩ := hkt.d
  obtain ⟨f1, f2⟩ := findNow_set hkt.law hs x l ents.toList 0 e3
  have hgo : (getObj g).run P w = .ok (.map ents clk) w := by simp [getObj, Sem.run, e2]
  have hglt := (Array.getElem?_eq_some_iff.1 e2).1
  obtain ⟨h1, h2, _⟩ := hp_put (e' := .mp (mset kf (madd l x))) i hk hi (.inl rfl)
  have fin : ∀ (ents' : Array MapEntry) (clk' : Nat), ents'.toList.map (fun e => (e.key, e.val)) = mset kf (madd l x) →
      (execOp a.eval ⟨dst, .mapUpdate t m y v, ty, pos, aft, none⟩).run P w = .ok .skip { w with heap := w.heap.setIfInBounds g (.map ents' clk') } → (⟨dst, .mapUpdate t m y v, ty, pos, aft, none⟩ : Oper).wp P a w Nx Qx := by
    intro ents' clk' hes hrun
    obtain ⟨k1, r1⟩ := r.set_mp hq hg ents' clk' (w' := { w with heap := w.heap.setIfInBounds g (.map ents' clk') }) (by simp [hglt]) (fun g' hg' => by simp [Ne.symm hg']) (by simp) rfl rfl rfl
    unfold Oper.wp
    rw [hrun]
    rw [hes, h1] at r1
    exact hn (.sc undef) undef _ E _ k1 r1 (by simp only [VR]) (k h2)
  cases ha : (l.any fun z => x == z) with
  | true =>
    obtain ⟨j, e, a1, a2, a3, a4⟩ := f1 ha
    have hje : ents[j]? = some e := by simpa using a2
    refine fin (ents.modify j fun e => { e with key := kf x, val := .bool true }) clk ?_ ?_
    · have : madd l x = l := by simp only [madd]; rw [if_pos ha]
      rw [this, ← e3]
      apply List.ext_getElem?
      intro z
      simp only [List.getElem?_map, Array.getElem?_toList, Array.getElem?_modify]
      by_cases hz : j = z
      · subst hz
        rw [if_pos rfl, hje]
        simp [a3, a4]
      · rw [if_neg hz]
    · have hst : (Instr.keyThatStays e.key (kf x)).run P w = .ok (kf x) w := by
        rw [a3]; simp [Instr.keyThatStays, hkt.bits]
      have hjd : ((ents[0 + j]?).map (·.key)).getD (kf x) = e.key := by simp [hje]
      have hfind : (Instr.findKey kt (kf x) ents.toList).run P w = .ok (some (0 + j, .bool true)) w := by
        simp only [Instr.findKey, Sem.run_bind, run_underlying hkd, Result.andThen_ok, a1, Sem.run_pure]
      simp only [execOp, em, vy, vv, Instr.mapUpdate, Sem.run_bind, run_underlying ht, Result.andThen_ok, hgo, hck, hfind]
      rw [hjd]
      simp only [hst, Result.andThen_ok, Nat.zero_add]
      simp [setObj, Sem.run, e2]
  | false =>
    have hf := f2 ha
    refine fin (ents.push { key := kf x, val := .bool true, born := clk }) (clk + 1) ?_ ?_
    · have : madd l x = l ++ [x] := by simp only [madd]; rw [if_neg (by simp [ha])]
      rw [this]
      simp only [Array.toList_push, List.map_append, e3, mset, List.map_cons, List.map_nil]
    · have hfind : (Instr.findKey kt (kf x) ents.toList).run P w = .ok none w := by
        simp only [Instr.findKey, Sem.run_bind, run_underlying hkd, Result.andThen_ok, hf, Sem.run_pure]
      simp only [execOp, em, vy, vv, Instr.mapUpdate, Sem.run_bind, run_underlying ht, Result.andThen_ok, hgo, hck, hfind]
      simp [setObj, Sem.run, e2]
end ops
def bA (xs : List Int) : ByteArray := xs.foldl (fun acc z => acc.push z.toNat.toUInt8) .empty
def cmpI (xs ys : List Int) : Int := Extern.BytealgCompare.cmp (bA xs) (bA ys)
theorem run_loadBytes {P : Program} {w : World} {g : Nat} : ∀ (xs : List Int) (o : Nat) (acc : ByteArray), (∀ (j : Nat) (z : Int), xs[j]? = some z → w.cell? ⟨g, o + j, none⟩ = some (.int .u8 z)) →
    (Extern.Bytes.loadBytes ⟨g, o, none⟩ xs.length acc).run P w = .ok (xs.foldl (fun acc z => acc.push z.toNat.toUInt8) acc) w
  | [], _, _, _ => rfl
  | z :: xs, o, acc, hc => by
    have h0 := hc 0 z rfl
    simp only [Nat.add_zero] at h0
    have ih := run_loadBytes (P := P) xs (o + 1) (acc.push z.toNat.toUInt8) (fun j y hj => by
      have := hc (j + 1) y (by simpa using hj)
      rwa [show o + (j + 1) = o + 1 + j from by omega] at this)
    have hl : (load ⟨g, o, none⟩).run P w = .ok (.int .u8 z) w := by simp [load, Sem.run, h0]
    simp only [List.length_cons, Extern.Bytes.loadBytes, Sem.run_bind, hl, Result.andThen_ok, List.foldl_cons]
    rw [Addr.add_lit]
    exact ih
def Byt (P : Program) (h : Heap) (a : AV) (xs : List Int) : Prop := ∀ E w v, Rel E h w → VR E w a v → (Extern.Bytes.bytesOf v).run P w = .ok (bA xs) w
theorem flat1 (xs : List Int) : (xs.map fun z => [AV.sc (.int .u8 z)]).flatten = xs.map fun z => AV.sc (.int .u8 z) := by
 induction xs with
 | nil => rfl
 | cons x xs ih => simp [ih]
theorem Byt.sl {P : Program} (h : Heap) (tag : Option Key) (xs : List Int) : Byt P h (.sl tag 1 (xs.map fun z => [AV.sc (.int .u8 z)])) xs := by
 intro E w v r hv
 cases xs with
 | nil =>
  simp only [VR, List.map_nil] at hv
  obtain ⟨a, cap, rfl, _⟩ := hv
  cases a with
  | none => rfl
  | some a => rfl
 | cons x xs =>
  obtain ⟨g, o, cap, cv, rfl, c1, c2, c3, c4⟩ := sl_cells hv (by simp)
  rw [flat1] at c1
  have hcv := VRL_ints c1
  subst hcv
  have := run_loadBytes (P := P) (w := w) (g := g) (x :: xs) o .empty (fun j z hj => (c4 j (.int .u8 z) (by rw [List.getElem?_map, hj]; rfl)).1)
  simpa [Extern.Bytes.bytesOf, bA] using this
theorem Byt.view {P : Program} {h : Heap} {q : Key} {off : Nat} {ty : TypeId} {cs : List AV} {y : Id32} (hq : h q = some (.obj ty cs)) (hc : (cs.drop off).take 32 = c_id y) : Byt P h (.view q off 32) y.1 := by
 intro E w v r hv
 simp only [VR] at hv
 obtain ⟨g, cap, hg, rfl, _⟩ := hv
 obtain ⟨g', cur, e1, e2, e3, e4⟩ := r.obj q ty cs hq
 rw [hg] at e1; cases e1
 have hl := VRL_take 32 (VRL_drop off e3)
 rw [hc, c_id_map] at hl
 have hcv := VRL_ints hl
 have := run_loadBytes (P := P) (w := w) (g := g) y.1 off .empty (fun j z hj => by
  have h1 : ((cur.toList.drop off).take 32)[j]? = some (.int .u8 z) := by rw [hcv, List.getElem?_map, hj]; rfl
  have hj32 : j < 32 := by
   have := (List.getElem?_eq_some_iff.1 h1).1
   rw [List.length_take] at this; omega
  rw [List.getElem?_take_of_lt hj32, List.getElem?_drop] at h1
  simp only [World.cell?, e2]
  simpa using h1)
 rw [y.2] at this
 simpa [Extern.Bytes.bytesOf, bA] using this
structure CmpF (P : Program) (f : FuncId) : Prop where
 ex : ∃ fn, P.funcs[f]? = some fn ∧ (fn.name == "runtime.NumGoroutine") = false ∧ fn.body.isNone = true ∧ Extern.findNext fn = none ∧ Extern.find fn = some Extern.BytealgCompare.compare
section ops
variable {P : Program} {h : Heap} {n : Nat} {kvs : KV} {ty : TypeId} {pos : String} {aft : Array Edge}
theorem o_cmp {dst : Option Tmp} {f : FuncId} {x y : Operand} {ts : Array TypeId} {a b : AV} {xs ys : List Int} (hf : CmpF P f) (ha : evk n kvs x = a) (hb : evk n kvs y = b) (h1 : Byt P h a xs) (h2 : Byt P h b ys) :
    AOpV P ⟨dst, .call { callee := .value (.func f), args := #[x, y], argTypes := ts }, ty, pos, aft, none⟩ (.sc (.int .i64 (cmpI xs ys))) (fm n kvs) h := by
  refine AOp_value (x := .sc (.int .i64 (cmpI xs ys))) (fun E w ac r hv => ?_) ⟨rfl, rfl⟩
  have va := hv x (by simp [Op.operands, Call.operands])
  have vb := hv y (by simp [Op.operands, Call.operands])
  rw [ev_fm, ha] at va; rw [ev_fm, hb] at vb
  obtain ⟨fn, f1, f2, f3, f4, f5⟩ := hf.ex
  refine ⟨.int .i64 (cmpI xs ys), ?_, by simp only [VR]⟩
  have hext := run_callFunc_extern f1 f2 f3 f4 f5 #[ac.eval x, ac.eval y] w
  have r1 := h1 E w _ r va
  have r2 := h2 E w _ r vb
  have hcmp : (Extern.BytealgCompare.compare #[ac.eval x, ac.eval y]).run P w = .ok (.int .i64 (cmpI xs ys)) w := by
    change Sem.run P (do
      let p ← Extern.Bytes.bytesOf (ac.eval x)
      let q ← Extern.Bytes.bytesOf (ac.eval y)
      pure (goInt (Extern.BytealgCompare.cmp p q))) w = _
    simp only [Sem.run_bind, r1, r2, Result.andThen_ok, Sem.run_pure]
    rfl
  rw [hcmp] at hext
  simp only [execOp, resolve, List.map_toArray, List.map_cons, List.map_nil]
  have : (ac.eval (.func f)) = .func (.func f) #[] #[] := rfl
  simp only [this, Deferred.ofValue, Sem.run_bind, Sem.run_pure, Result.andThen_ok, invoke]
  simpa using hext
theorem o_slv {dst : Option Tmp} {t : TypeId} {a : Operand} {q : Key} {off : Nat} (ht : arS P t = some (32, 1)) (ha : evk n kvs a = .ptr q off) : AOpV P ⟨dst, .slice t a none none none, ty, pos, aft, none⟩ (.view q off 32) (fm n kvs) h := by
 have hT : slT P t = true := by simp [slT, ht]
 refine o_pv (c := ((32 : Nat) ≤ 1000000 ∧ (0 : Int) ≤ 0 ∧ (0 : Int) < 32 ∧ (32 : Int) ≤ (32 : Nat))) ?_ ⟨by decide, by decide, by decide, by decide⟩
 simp only [pv, ev_fm, ha, Option.map_none, slA, ht, Option.bind_some, bdA, hT, if_true]
 rfl
end ops
theorem upd_comm (h : Heap) {k k' : Key} (e e' : Option Ent) (hn : k ≠ k') : upd (upd h k e) k' e' = upd (upd h k' e') k e := by
 funext x
 unfold upd
 by_cases h1 : x = k
 ·by_cases h2 : x = k'
  ·exact absurd (h1.symm.trans h2) hn
  ·simp [h1, hn]
 ·simp [h1]
theorem hp_swap {h0 : Heap} {a b : Option Key × Ent} {L : HL} (hk : HOk h0 (a :: b :: L)) : hp h0 (a :: b :: L) = hp h0 (b :: a :: L) ∧ HOk h0 (b :: a :: L) := by
 obtain ⟨ta, ea⟩ := a
 obtain ⟨tb, eb⟩ := b
 obtain ⟨⟨h1, h2⟩, h3⟩ := hk
 cases ta with
 | none => cases tb with
  | none => exact ⟨rfl, ⟨⟨h1, nofun⟩, nofun⟩⟩
  | some kb => exact ⟨rfl, ⟨⟨h1, nofun⟩, h2⟩⟩
 | some ka =>
  have q := h3 ka rfl
  cases tb with
  | none => exact ⟨rfl, ⟨⟨h1, h3⟩, nofun⟩⟩
  | some kb =>
   have hne : ka ≠ kb := fun e => by
    subst e
    simp only [hp, upd_same] at q
    cases q
   have q2 : hp h0 L ka = none := by
    simp only [hp] at q
    rwa [upd_ne _ _ hne] at q
   refine ⟨?_, ⟨h1, fun k e => by cases e; exact q2⟩, fun k e => ?_⟩
   ·simp only [hp]
    exact upd_comm _ _ _ (Ne.symm hne)
   ·cases e
    simp only [hp]
    rw [upd_ne _ _ (Ne.symm hne)]
    exact h2 _ rfl
theorem HOk.cons_eq {h0 : Heap} {a : Option Key × Ent} {L L' : HL} (e : hp h0 L = hp h0 L') (hk : HOk h0 L') (h2 : HOk h0 (a :: L)) : hp h0 (a :: L) = hp h0 (a :: L') ∧ HOk h0 (a :: L') := by
 obtain ⟨t, en⟩ := a
 refine ⟨?_, hk, ?_⟩
 ·cases t <;> simp only [hp, e]
 ·intro k q; rw [← e]; exact h2.2 k q
theorem hp_perm {h0 : Heap} {L L' : HL} (p : L.Perm L') : HOk h0 L → hp h0 L = hp h0 L' ∧ HOk h0 L' := by
 induction p with
 | nil => intro hk; exact ⟨rfl, hk⟩
 | cons x p ih =>
  intro hk
  obtain ⟨e, h2⟩ := ih hk.1
  exact HOk.cons_eq e h2 hk
 | swap x y l => intro hk; exact hp_swap hk
 | trans p q ih1 ih2 =>
  intro hk
  obtain ⟨e1, k1⟩ := ih1 hk
  obtain ⟨e2, k2⟩ := ih2 k1
  exact ⟨e1.trans e2, k2⟩
theorem hp_app (h0 : Heap) : ∀ (A R : HL), hp (hp h0 R) A = hp h0 (A ++ R)
 | [], R => rfl
 | (none, e) :: A, R => hp_app h0 A R
 | (some k, e) :: A, R => by
  show upd (hp (hp h0 R) A) k (some e) = upd (hp h0 (A ++ R)) k (some e)
  rw [hp_app h0 A R]
theorem HOk_app {h0 : Heap} : ∀ {A R : HL}, HOk h0 R → HOk (hp h0 R) A → HOk h0 (A ++ R)
 | [], _, hr, _ => hr
 | (t, e) :: A, R, hr, ha => ⟨HOk_app hr ha.1, fun k q => by show hp h0 (A ++ R) k = none; rw [← hp_app]; exact ha.2 k q⟩
theorem HOk_spl {h0 : Heap} : ∀ (A R : HL), HOk h0 (A ++ R) → HOk h0 R ∧ HOk (hp h0 R) A
 | [], _, h => ⟨h, trivial⟩
 | (t, e) :: A, R, h => by
  obtain ⟨h1, h2⟩ := h
  obtain ⟨h3, h4⟩ := HOk_spl A R h1
  exact ⟨h3, h4, fun k q => by rw [hp_app]; exact h2 k q⟩
theorem HOk.co {h0 : Heap} {L : HL} {x : Option Key × Ent} (a : HOk h0 L) (b : HOk (hp h0 L) [x]) : HOk h0 (x :: L) := ⟨a, b.2⟩
theorem AOp_eqh {P : Program} {o : Oper} {K : AV → Heap → Prop} {fr : Fr} {h h' : Heap} (e : h = h') (ho : AOp P o K fr h') : AOp P o K fr h := by subst e; exact ho
theorem LeF.aops {P : Program} {ops : Array Oper} {l : List Oper} {K : Fr → Heap → Prop} {fr fr' : Fr} {h h' : Heap} (le : LeF fr' h' fr h) (k : AOps P ops l K fr' h') : AOps P ops l K fr h := by
 intro E w a r vv d Q hQ
 obtain ⟨E', k', r', v'⟩ := le E w _ r vv
 exact k E' w a r' v' d Q fun a' w' p => hQ _ _ (p.trans k')
def LqE (Q : Exit → Fr → Heap → Prop) : Exit → Fr → Heap → Prop := fun e fr h => ∃ fr' h', LeF fr' h' fr h ∧ Q e fr' h'
theorem LqE.mk {Q : Exit → Fr → Heap → Prop} {e : Exit} {fr fr' : Fr} {h h' : Heap} (le : LeF fr' h' fr h) (q : Q e fr' h') : LqE Q e fr h := ⟨_, _, le, q⟩
theorem AW_lq {P : Program} {c : Code} {Q : Exit → Fr → Heap → Prop} {fr : Fr} {h : Heap} (hc : AW P c (LqE Q) fr h) : AW P c Q fr h :=
 fun E w a r v d => wp_mono (hc E w a r v d) fun _ _ w' ⟨_, _, _, k, r', v', d', fr2, h2, le, q⟩ => let ⟨E'', k2, r2, v2⟩ := le _ w' _ r' v'; ⟨E'', fr2, h2, k.trans k2, r2, v2, d', q⟩
theorem LeF.eqh {fr : Fr} {h h' : Heap} (e : h = h') : LeF fr h' fr h := by subst e; exact LeF.of (Sub.refl h) (ALeL.refl _ _)
structure AGh where
 t : Option Key
 n : Nat
 cap : Nat
 sp : List AV
def aw (t : Option Key) (n cap : Nat) : AV := match t with
 | none => .e0
 | some k => .vw k n cap
def apt (t : Option Key) (off : Nat) : AV := match t with
 | none => .any
 | some k => .ptr k off
def fl {α : Type} (c : α → List AV) (xs : List α) (sp : List AV) : List AV := (xs.map c).flatten ++ sp
structure AOk (g : AGh) (sz n : Nat) : Prop where
 eqn : g.n = n
 nil : g.t = none → n = 0
 le : n ≤ g.cap
 mx : g.cap ≤ maxLen
 len : n * sz + g.sp.length = g.cap * sz
def g0 : AGh := ⟨none, 0, 0, []⟩
theorem AOk.g0 (sz : Nat) : AOk g0 sz 0 := ⟨rfl, fun _ => rfl, Nat.le_refl _, Nat.zero_le _, by simp [Vm.g0]⟩
section flat
variable {α : Type} {c : α → List AV} {sz : Nat}
theorem flat_len (hc : ∀ y, (c y).length = sz) : ∀ (xs : List α), (xs.map c).flatten.length = xs.length * sz
 | [] => by simp
 | x :: xs => by simp only [List.map_cons, List.flatten_cons, List.length_append, hc, flat_len hc xs, List.length_cons, Nat.add_mul, Nat.one_mul]; omega
theorem fl_len (hc : ∀ y, (c y).length = sz) (xs : List α) (sp : List AV) : (fl c xs sp).length = xs.length * sz + sp.length := by
 unfold fl; rw [List.length_append, flat_len hc]
theorem fl_drop (hc : ∀ y, (c y).length = sz) (sp : List AV) : ∀ {xs : List α} {i : Nat} {x : α}, xs[i]? = some x → ∃ r, (fl c xs sp).drop (i * sz) = c x ++ r
 | [], _, _, h => by simp at h
 | y :: ys, 0, x, h => by
  simp only [List.getElem?_cons_zero, Option.some.injEq] at h
  subst h
  exact ⟨fl c ys sp, by simp [fl]⟩
 | y :: ys, i + 1, x, h => by
  obtain ⟨r, e⟩ := fl_drop hc sp (xs := ys) (i := i) (by simpa using h)
  refine ⟨r, ?_⟩
  rw [← e]
  have : fl c (y :: ys) sp = c y ++ fl c ys sp := by simp [fl]
  rw [this, Nat.add_mul, Nat.one_mul, Nat.add_comm, ← List.drop_drop, List.drop_left' (hc y)]
theorem fl_splice (hc : ∀ y, (c y).length = sz) (sp : List AV) {ys : List AV} {fo : Nat} (hf : fo + ys.length ≤ sz) {x' : α} : ∀ {xs : List α} {i : Nat} {x : α}, xs[i]? = some x → splice (c x) fo ys = c x' → splice (fl c xs sp) (i * sz + fo) ys = fl c (xs.set i x') sp
 | [], _, _, h, _ => by simp at h
 | y :: zs, 0, x, h, hs => by
  simp only [List.getElem?_cons_zero, Option.some.injEq] at h
  subst h
  have e1 : fl c (y :: zs) sp = c y ++ fl c zs sp := by simp [fl]
  have e2 : fl c ((y :: zs).set 0 x') sp = c x' ++ fl c zs sp := by simp [fl]
  rw [e1, e2, ← hs, Nat.zero_mul, Nat.zero_add]
  unfold splice
  rw [List.take_append_of_le_length (by rw [hc]; omega), List.drop_append_of_le_length (by rw [hc]; omega)]
  simp
 | y :: zs, i + 1, x, h, hs => by
  have ih := fl_splice hc sp hf (xs := zs) (i := i) (by simpa using h) hs
  have e1 : fl c (y :: zs) sp = c y ++ fl c zs sp := by simp [fl]
  have e2 : fl c ((y :: zs).set (i + 1) x') sp = c y ++ fl c (zs.set i x') sp := by simp [fl]
  rw [e1, e2, ← ih, show (i + 1) * sz + fo = (c y).length + (i * sz + fo) from by rw [hc, Nat.add_mul]; omega]
  unfold splice
  rw [List.take_length_add_append, show (c y).length + (i * sz + fo) + ys.length = (c y).length + (i * sz + fo + ys.length) from by omega, List.drop_length_add_append]
  simp
end flat
section ops
variable {P : Program} {ops : Array Oper} {K : Fr → Heap → Prop} {h h0 : Heap} {L : HL} {n : Nat} {kvs : KV} {l : List Oper} {ty : TypeId} {pos : String} {aft : Array Edge}
theorem AOp_lek {o : Oper} {K : AV → Heap → Prop} {kvs' : KV} (hl : ∀ y ∈ o.op.operands, ALe h (evk n kvs y) (evk n kvs' y)) (ho : AOp P o K (fm n kvs') h) : AOp P o K (fm n kvs) h :=
 AOp_le (fun y hy => by rw [ev_fm, ev_fm]; exact hl y hy) ho
theorem ALe_vw (h : Heap) (k : Key) (n cap : Nat) : ALe h (.vw k n cap) (.view k 0 n) := by
 intro E w v r hv
 simp only [VR] at hv ⊢
 obtain ⟨g, hg, rfl, h1, h2⟩ := hv
 exact ⟨g, cap, hg, rfl, h1, h2⟩
theorem AOp_put {o : Oper} {K : AV → Heap → Prop} {s : Nat} (v : AV) (hv : ALe h (lk n kvs s) v) (ho : AOp P o K (fm n (kp kvs s v)) h) : AOp P o K (fm n kvs) h := by
 refine AOp_lek (fun y _ => ?_) ho
 cases y with
 | tmp u =>
  simp only [evk, lk_eq] at hv ⊢
  by_cases e : s = u
  ·subst e
   rw [kp_same]
   split
   ·rename_i q; rw [if_pos q] at hv; exact hv
   ·exact ALe.refl _ _
  ·rw [kp_ne _ _ e]; exact ALe.refl _ _
 | const v => exact ALe.refl _ _
 | global g => exact ALe.refl _ _
 | func f => exact ALe.refl _ _
theorem lk_kp {s : Nat} {v x : AV} (hs : lk n kvs s = x) (hx : x ≠ .any) : lk n (kp kvs s v) s = v := by
 rw [lk_eq] at hs
 rw [lk_eq, kp_same]
 split
 ·rfl
 ·rename_i q; rw [if_neg q] at hs; exact absurd hs.symm hx
theorem evk_kp {s : Nat} {v x : AV} {b : Operand} {u : Value} (hs : lk n kvs s = x) (hx : ∀ u, x ≠ .sc u) (hb : evk n kvs b = .sc u) : evk n (kp kvs s v) b = .sc u := by
 cases b with
 | tmp t =>
  simp only [evk] at hb ⊢
  by_cases e : s = t
  ·subst e; rw [hs] at hb; exact absurd hb (hx u)
  ·rw [lk_eq] at hb ⊢; rw [kp_ne _ _ e]; exact hb
 | const v => exact hb
 | global g => exact hb
 | func f => exact hb
theorem o_lenA {dst : Option Tmp} {s : Nat} {t : TypeId} {g : AGh} {m sz : Nat} (ht : lnT P t = some true) (ok : AOk g sz m) (ha : lk n kvs s = aw g.t g.n g.cap) :
    AOpV P ⟨dst, .call { callee := .builtin .len, args := #[.tmp s], argTypes := #[t] }, ty, pos, aft, none⟩ (.sc (.int .i64 m)) (fm n kvs) h := by
  rw [ok.eqn] at ha
  cases ht' : g.t with
  | none =>
    have hm := ok.nil ht'
    subst hm
    rw [ht'] at ha
    have ha : evk n kvs (.tmp s) = .e0 := ha
    refine o_pv (c := True) ?_ trivial
    simp only [pv, pvc, ev_fm, ha, ht, lnA, Option.map_some, Option.bind_some, tt, if_true]
  | some k =>
    rw [ht'] at ha
    refine AOp_put (s := s) (.view k 0 m) (by rw [ha]; exact ALe_vw _ _ _ _) (o_pv (c := True) ?_ trivial)
    have e : evk n (kp kvs s (.view k 0 m)) (.tmp s) = .view k 0 m := lk_kp ha (by simp [aw])
    simp only [pv, pvc, ev_fm, e, ht, lnA, Option.map_some, Option.bind_some, tt, if_true]
theorem o_ixA {α : Type} {xs : List α} {x : α} {dst : Option Tmp} {s : Nat} {b : Operand} {t : TypeId} {g : AGh} {sz : Nat} {q : IntKind} {i : Int} (hi : ix xs i = some x) (ht : elS P t = some sz) (ok : AOk g sz xs.length) (ha : lk n kvs s = aw g.t g.n g.cap) (hb : evk n kvs b = .sc (.int q i)) :
    AOpV P ⟨dst, .indexAddr t (.tmp s) b, ty, pos, aft, none⟩ (apt g.t (i.toNat * sz)) (fm n kvs) h := by
  obtain ⟨h1, h2, h3⟩ := ix_spec hi
  rw [ok.eqn] at ha
  cases ht' : g.t with
  | none => have := ok.nil ht'; omega
  | some k =>
    rw [ht'] at ha
    refine AOp_put (s := s) (.view k 0 xs.length) (by rw [ha]; exact ALe_vw _ _ _ _) (o_pv (c := 0 ≤ i ∧ i < xs.length) ?_ ⟨h1, h2⟩)
    have e : evk n (kp kvs s (.view k 0 xs.length)) (.tmp s) = .view k 0 xs.length := lk_kp ha (by simp [aw])
    have e2 : evk n (kp kvs s (.view k 0 xs.length)) b = .sc (.int q i) := evk_kp ha (by simp [aw]) hb
    simp only [pv, ev_fm, e, e2, intA, Option.bind_some, ixA, ht, apt, Nat.zero_add]
theorem o_flA {dst : Option Tmp} {a : Operand} {t : TypeId} {f : Nat} {tg : Option Key} {off : Nat} {o s : Nat} (hne : tg ≠ none) (hf : fdS P t f = some (o, s)) (hs : Nat.beq s 0 = false) (ha : evk n kvs a = apt tg off) :
    AOpV P ⟨dst, .fieldAddr t a f, ty, pos, aft, none⟩ (apt tg (off + o)) (fm n kvs) h := by
  cases tg with
  | none => exact absurd rfl hne
  | some k => exact Zh hf hs ha
theorem o_nilA {dst : Option Tmp} {a : Operand} {tg : Option Key} {off : Nat} (hne : tg ≠ none) (ha : evk n kvs a = apt tg off) : AOpV P ⟨dst, .nilCheck a, ty, pos, aft, none⟩ (apt tg off) (fm n kvs) h := by
 cases tg with
 | none => exact absurd rfl hne
 | some k => exact o_nil ha
theorem AOk.ne {α : Type} {g : AGh} {sz : Nat} {xs : List α} {i : Int} {x : α} (ok : AOk g sz xs.length) (hi : ix xs i = some x) : g.t ≠ none := fun e => by
 have := ok.nil e
 have := ix_spec hi
 omega
theorem o_ldA {α : Type} {c : α → List AV} {xs : List α} {x : α} {dst : Option Tmp} {a : Operand} {t : TypeId} {g : AGh} {sz fo : Nat} {i : Int} {oty : TypeId} {ag : Bool} {m : Nat} (v : AV) (hi : ix xs i = some x) (hc : ∀ y, (c y).length = sz) (ok : AOk g sz xs.length) (ht : ldT P t = some (ag, m))
    (ha : evk n kvs a = apt g.t (i.toNat * sz + fo)) (hA : At h g.t (.obj oty (fl c xs g.sp))) (hx : ∀ r, ldv ag m ((c x ++ r).drop fo) = some v) :
    AOpV P ⟨dst, .load t a, ty, pos, aft, none⟩ v (fm n kvs) h := by
  obtain ⟨h1, h2, h3⟩ := ix_spec hi
  have hne := ok.ne hi
  cases ht' : g.t with
  | none => exact absurd ht' hne
  | some k =>
    rw [ht'] at ha hA
    obtain ⟨r, e⟩ := fl_drop hc g.sp h3
    refine Zg v ht ha hA.s ?_
    rw [← List.drop_drop, e]
    exact hx r
theorem ix_set {α : Type} {xs : List α} {i : Int} {x x' : α} (h : ix xs i = some x) : ix (xs.set i.toNat x') i = some x' := by
 obtain ⟨h1, h2, h3⟩ := ix_spec h
 unfold ix
 rw [if_pos h1, List.getElem?_set_self (List.getElem?_eq_some_iff.1 h3).1]
theorem ocell_aw (t : Option Key) (m c : Nat) : ocell (aw t m c) = true := by cases t <;> rfl
theorem cellsOf_aw {x : AV} {t : Option Key} {m c : Nat} (h : x = aw t m c) : cellsOf x = some [aw t m c] := by subst h; cases t <;> rfl
theorem AOp_storeL {K : AV → Heap → Prop} {o : Oper} {fr : Fr} {t : TypeId} {x y : Operand} (hop : o.op = .store t x y) {k : Key} {off : Nat} (hx : ev fr x = .ptr k off) {ty : TypeId} {cs xs0 xs : List AV} (hk : h k = some (.obj ty cs))
    (hy : cellsOf (ev fr y) = some xs0) (ho : xs0.all ocell = true) (hle : ALeL h xs0 xs) (hs : tSz P t = some xs.length) (hl : off + xs.length ≤ cs.length)
    (hK : K (.sc undef) (upd h k (some (.obj ty (splice cs off xs))))) : AOp P o K fr h := by
  intro E w a r hv Nx Qx hn
  have vx := hv x (by rw [hop]; simp [Op.operands])
  have vy := hv y (by rw [hop]; simp [Op.operands])
  rw [hx] at vx
  simp only [VR] at vx
  obtain ⟨g, hg, ex⟩ := vx
  obtain ⟨c0, c2⟩ := cellsOf_spec hy ho vy
  have c1 := hle.spec r c0
  obtain ⟨g', cur, f1, f2, f3, f4⟩ := r.obj k ty cs hk
  rw [hg] at f1; cases f1
  have hlen : cs.length = cur.size := by simpa using VRL_length f3
  have hlx : xs.length = (a.eval y).cells.toList.length := VRL_length c1
  have hlx' : xs.length = (a.eval y).cells.size := by simpa using hlx
  have hst := run_storeCells_at P g off ty (a.eval y).cells.toList 0 cur w f2 (by simp only [Array.length_toList]; omega) c2
  have hv' : VRL E w (splice cs off xs) (cur.toList.take (off + 0) ++ (a.eval y).cells.toList ++ cur.toList.drop (off + 0 + (a.eval y).cells.toList.length)) := by
    simp only [Nat.add_zero, splice]
    rw [← hlx]
    exact VRL_append (VRL_append (VRL_take _ f3) c1) (VRL_drop _ f3)
  have h1' : ∀ v ∈ cur.toList.take (off + 0) ++ (a.eval y).cells.toList ++ cur.toList.drop (off + 0 + (a.eval y).cells.toList.length), v.oneCell' = true := by
    intro v hv
    rcases List.mem_append.1 hv with hv | hv
    · rcases List.mem_append.1 hv with hv | hv
      · exact f4 v (List.mem_of_mem_take hv)
      · exact c2 v hv
    · exact f4 v (List.mem_of_mem_drop hv)
  obtain ⟨k1, k2⟩ := r.set_obj (cur := (cur.toList.take (off + 0) ++ (a.eval y).cells.toList ++ cur.toList.drop (off + 0 + (a.eval y).cells.toList.length)).toArray) hk hg
    (w' := w.setRow g (cur.toList.take (off + 0) ++ (a.eval y).cells.toList ++ cur.toList.drop (off + 0 + (a.eval y).cells.toList.length)).toArray)
    (setRow_heap w g cur _ ty _ f2) (fun g' hg' => setRow_other w g g' _ hg') (by simp) rfl rfl rfl hv' h1'
  unfold Oper.wp
  rw [show (execOp a.eval o).run P w = .ok .skip (w.setRow g (cur.toList.take (off + 0) ++ (a.eval y).cells.toList ++ cur.toList.drop (off + 0 + (a.eval y).cells.toList.length)).toArray) from by
    simp only [execOp, hop, Instr.storeAt, ex, Instr.sureAddr, storeVar, Sem.run_bind, Sem.run_pure, Result.andThen_ok, run_sizeOf' hs, hlx', ne_eq, not_true_eq_false, if_false, hst]]
  exact hn _ undef _ E _ k1 k2 (by simp only [VR]) hK
theorem a_storeL {K : AV → Heap → Prop} {dst : Option Tmp} {t oty : TypeId} {x y : Operand} {q : Key} {off : Nat} {cs xs0 xs : List AV} (i : Nat) (cs' : List AV) (hk : HOk h0 L) (ha : evk n kvs x = .ptr q off) (hi : L[i]? = some (some q, .obj oty cs))
    (hy : cellsOf (evk n kvs y) = some xs0) (ho : xs0.all ocell = true) (hle : ALeL (hp h0 L) xs0 xs) (hs : tSz P t = some xs.length) (hl : Nat.ble (off + xs.length) cs.length = true) (hcs : splice cs off xs = cs')
    (k : HOk h0 (L.set i (some q, .obj oty cs')) → K (.sc undef) (hp h0 (L.set i (some q, .obj oty cs')))) : AOp P ⟨dst, .store t x y, ty, pos, aft, none⟩ K (fm n kvs) (hp h0 L) := by
  subst hcs
  obtain ⟨h1, h2, _⟩ := hp_put (e' := .obj oty (splice cs off xs)) i hk hi (.inl rfl)
  refine (AOp_storeL rfl (by rw [ev_fm]; exact ha) (Zd i hk hi) (by rw [ev_fm]; exact hy) ho hle hs (Nat.le_of_ble_eq_true hl) ?_)
  rw [h1]
  exact k h2
theorem a_storeA {K : AV → Heap → Prop} {α : Type} {c : α → List AV} {xs : List α} {x : α} (x' : α) {dst : Option Tmp} {t oty : TypeId} {a y : Operand} {g : AGh} {sz fo : Nat} {i : Int} {ys : List AV} (p : Nat) (hk : HOk h0 L) (hi : ix xs i = some x) (hc : ∀ y, (c y).length = sz) (ok : AOk g sz xs.length)
    (ha : evk n kvs a = apt g.t (i.toNat * sz + fo)) (hL : L[p]? = some (g.t, .obj oty (fl c xs g.sp))) {ys0 : List AV} (hy : cellsOf (evk n kvs y) = some ys0) (ho : ys0.all ocell = true) (hle : ALeL (hp h0 L) ys0 ys) (hs : tSz P t = some ys.length) (hf : Nat.ble (fo + ys.length) sz = true) (hcs : splice (c x) fo ys = c x')
    (k : HOk h0 (L.set p (g.t, .obj oty (fl c (xs.set i.toNat x') g.sp))) → K (.sc undef) (hp h0 (L.set p (g.t, .obj oty (fl c (xs.set i.toNat x') g.sp))))) : AOp P ⟨dst, .store t a y, ty, pos, aft, none⟩ K (fm n kvs) (hp h0 L) := by
  obtain ⟨h1, h2, h3⟩ := ix_spec hi
  have hne := ok.ne hi
  have hf' := Nat.le_of_ble_eq_true hf
  cases ht' : g.t with
  | none => exact absurd ht' hne
  | some q =>
    rw [ht'] at ha hL k
    refine a_storeL p (fl c (xs.set i.toNat x') g.sp) hk ha hL hy ho hle hs ?_ (fl_splice hc g.sp hf' h3 hcs) k
    rw [Nat.ble_eq, fl_len hc]
    have h4 : i.toNat < xs.length := (List.getElem?_eq_some_iff.1 h3).1
    have : i.toNat * sz + sz ≤ xs.length * sz := by
      rw [← Nat.succ_mul]; exact Nat.mul_le_mul_right _ h4
    omega
theorem AOk.set {g : AGh} {sz : Nat} {α : Type} {xs : List α} {i : Nat} {x : α} (ok : AOk g sz xs.length) : AOk g sz (xs.set i x).length := by rw [List.length_set]; exact ok
theorem ALe_e0 (h : Heap) (sz : Nat) : ALe h .e0 (.sl none sz []) := by
 intro E w v r hv
 simp only [VR] at hv ⊢
 obtain ⟨a, rfl⟩ := hv
 exact ⟨a, 0, rfl, Nat.le_refl _, Nat.zero_le _, .inl trivial, by simp, fun _ q => by cases q⟩
theorem ALe_nilA (h : Heap) : ALe h (.sc (.slice none 0 0)) (aw g0.t g0.n g0.cap) := by
 intro E w v r hv
 simp only [VR] at hv
 subst hv
 simp only [g0, aw, VR]
 exact ⟨none, rfl⟩
end ops
theorem mem_zeroCells {z : Array Value} {n : Nat} (hz : ∀ u ∈ z.toList, u.oneCell' = true) : ∀ v ∈ (Builtin.zeroCells z n).toList, v.oneCell' = true := by
 intro v hv
 simp only [Builtin.zeroCells, Array.mem_toList_iff, Array.mem_map, Array.mem_range] at hv
 obtain ⟨i, hi, rfl⟩ := hv
 have h0 : 0 < z.size := Nat.pos_of_ne_zero fun e => by rw [e, Nat.mul_zero] at hi; omega
 have hm : i % z.size < z.size := Nat.mod_lt _ h0
 rw [getElem!_pos z _ hm]
 exact hz _ (by simp)
section app
variable {P : Program} {E : Env} {h : Heap} {w : World}
theorem app_arr0 {t ty e : TypeId} {sz b : Nat} (ht : ElT P t e sz b) {zs : List Value} (hzr : zrT P e = some zs) (hzo : zs.all (·.oneCell') = true) (r : Rel E h w) {k : Key} (hk : ¬ E.used k) {ys : List (List AV)} {y : Value} (hy : Src E w sz ys y) (hne : ys ≠ [])
    (hb : ys.length * b ≤ 140737488355328) (hlen : ys.length ≤ 140737488355328) (a0 : Option Addr) :
    ∃ v' w' E' cap sp, (Builtin.append_ #[t, t] ty #[.slice a0 0 0, y]).run P w = .ok v' w' ∧ Keep E w E' w' ∧ Rel E' (upd h k (some (.obj e (ys.flatten ++ sp)))) w' ∧ VR E' w' (.vw k ys.length cap) v' ∧
      ys.length ≤ cap ∧ cap ≤ maxLen ∧ ys.length * sz + sp.length = cap * sz := by
  obtain ⟨i, z, hi, hz, rfl, rfl, hzs, hsp⟩ := ht.inf
  have hzc : ∀ u ∈ z.cells.toList, u.oneCell' = true := by
    have : zs = z.cells.toList := by
      unfold zrT at hzr
      rw [hi] at hzr
      simp only [Option.bind_some, hz, Option.map_some, Option.some.injEq] at hzr
      exact hzr.symm
    subst this
    exact fun u hu => List.all_eq_true.1 hzo u hu
  have hs : ∀ x ∈ ys, x.length = i.size := hy.1
  obtain ⟨g, o, cap, cv, rfl, c1, c2, c3, c4⟩ := hy.2.resolve_left fun e => hne e.1
  have hpos : 0 < ys.length := List.length_pos_iff.2 hne
  have hrun : (Builtin.append_ #[t, t] ty #[.slice a0 0 0, .slice (some ⟨g, o, none⟩) ys.length cap]).run P w =
      .ok (.slice (some ⟨w.heap.size, 0, none⟩) ys.length (grownCap w ys.length 0 e)) (w.drew.alloc (.cells (cv.toArray ++ Builtin.zeroCells z.cells (grownCap w ys.length 0 e - ys.length)) e)) := by
    cases a0 with
    | none => exact run_append_nil (P := P) w t ty e i z ht.ut hi hz ⟨g, o, none⟩ ys.length cap cv c3 (fun j u hj => by rw [Addr.add_lit]; exact c4 j u hj) hpos (by omega) (by omega)
    | some b0 =>
      have := run_append_grow (P := P) w t ty e i z ht.ut hi hz b0 0 0 [] (by simp) (by simp) ⟨g, o, none⟩ ys.length cap cv c3 (fun j u hj => by rw [Addr.add_lit]; exact c4 j u hj) (by omega) (by omega) (growslice_fits (by omega) (by rw [Nat.zero_add]; exact hb))
      simpa using this
  have hge := grownCap_ge w ys.length 0 e
  have hcm : grownCap w ys.length 0 e ≤ maxLen := grownCap_le_maxLen w ys.length 0 e (by simp only [maxLen]; omega)
  obtain ⟨rd, kd⟩ := r.drewn (w.drawn + 1)
  have hvl : VRL E w.drew (ys.flatten ++ List.replicate (Builtin.zeroCells z.cells (grownCap w ys.length 0 e - ys.length)).toList.length AV.any) (cv.toArray ++ Builtin.zeroCells z.cells (grownCap w ys.length 0 e - ys.length)).toList := by
    rw [Array.toList_append]
    exact VRL_append (VRL_keep kd _ _ c1) (VRL_any _ rfl)
  obtain ⟨E', e1, e2, e3⟩ := Rel.new_obj (w := w.drew) rd hk e hvl (by
    intro v hv
    rw [Array.toList_append] at hv
    rcases List.mem_append.1 hv with hv | hv
    · exact c2 v (by simpa using hv)
    · exact mem_zeroCells hzc v hv)
  refine ⟨_, _, E', grownCap w ys.length 0 e, _, hrun, kd.trans e2, e3, ?_, hge, hcm, ?_⟩
  · simp only [VR]
    exact ⟨_, e1, rfl, hge, hcm⟩
  · have hzl : ∀ m, (Builtin.zeroCells z.cells m).toList.length = m * i.size := fun m => by rw [Array.length_toList, size_zeroCells, hzs]
    rw [List.length_replicate, hzl, ← Nat.add_mul]
    congr 1; omega
theorem app_arr {t ty e : TypeId} {sz b : Nat} (ht : ElT P t e sz b) {zs : List Value} (hzr : zrT P e = some zs) (hzo : zs.all (·.oneCell') = true) (r : Rel E h w) (d : Nat) {k : Key} {xs ys : List (List AV)} {sp : List AV} {cap : Nat} (hk : h k = some (.obj e (xs.flatten ++ sp)))
    (hsx : xs.flatten.length = xs.length * sz) (hcl : xs.length * sz + sp.length = cap * sz) {v : Value} (hv : VR E w (.vw k xs.length cap) v) {y : Value} (hy : Src E w sz ys y) (hne : ys ≠ []) (hb : (xs.length + ys.length) * b ≤ 140737488355328) (hlen : xs.length + ys.length ≤ 140737488355328) :
    ∃ v' w' E' k2 cap' sp', (k2 = k ∨ (k2 ≠ k ∧ h k2 = none)) ∧ (Builtin.append_ #[t, t] ty #[v, y]).run P w = .ok v' w' ∧ Keep E w E' w' ∧ Rel E' (upd (upd h k none) k2 (some (.obj e ((xs ++ ys).flatten ++ sp')))) w' ∧ VR E' w' (.vw k2 (xs ++ ys).length cap') v' ∧
      (xs ++ ys).length ≤ cap' ∧ cap' ≤ maxLen ∧ (xs ++ ys).length * sz + sp'.length = cap' * sz := by
  obtain ⟨i, z, hi, hz, rfl, rfl, hzs, hsp⟩ := ht.inf
  have hzc : ∀ u ∈ z.cells.toList, u.oneCell' = true := by
    have : zs = z.cells.toList := by
      unfold zrT at hzr
      rw [hi] at hzr
      simp only [Option.bind_some, hz, Option.map_some, Option.some.injEq] at hzr
      exact hzr.symm
    subst this
    exact fun u hu => List.all_eq_true.1 hzo u hu
  have hsy : ∀ x ∈ ys, x.length = i.size := hy.1
  obtain ⟨g, o, capy, cy, rfl, c1, c2, c3, c4⟩ := hy.2.resolve_left fun e => hne e.1
  have hpos : 0 < ys.length := List.length_pos_iff.2 hne
  obtain ⟨gb, cur, g1, g2, g3, g4⟩ := r.obj _ _ _ hk
  simp only [VR] at hv
  obtain ⟨gb', q1, rfl, v1, v2⟩ := hv
  rw [g1] at q1; cases q1
  have hcl' : cur.toList.length = cap * i.size := by rw [← VRL_length g3, List.length_append, hsx, hcl]
  have hsz : cur.size = cap * i.size := by simpa using hcl'
  have htake : VRL E w xs.flatten (cur.toList.take (xs.length * i.size)) := by
    have := VRL_take (xs.length * i.size) g3
    rwa [List.take_left' hsx] at this
  have hdrop : ∀ m, VRL E w (sp.drop m) (cur.toList.drop (xs.length * i.size + m)) := by
    intro m
    have := VRL_drop (xs.length * i.size + m) g3
    rwa [← List.drop_drop, List.drop_left' hsx] at this
  have hl2 : (xs ++ ys).length * i.size = xs.length * i.size + ys.length * i.size := by rw [List.length_append, Nat.add_mul]
  have hle : xs.length * i.size ≤ cur.size := by rw [hsz]; exact Nat.mul_le_mul_right _ v1
  have htl : (cur.toList.take (xs.length * i.size)).length = xs.length * i.size := by
    rw [List.length_take]
    have : cur.toList.length = cur.size := by simp
    omega
  by_cases hroom : xs.length + ys.length ≤ cap
  · have hfit : xs.length * i.size + cy.length ≤ cur.size := by rw [c3, hsz, ← Nat.add_mul]; exact Nat.mul_le_mul_right _ hroom
    have hrun := run_append_room (P := P) w t ty e i ht.ut hi gb xs.length cap cur g2 ⟨g, o, none⟩ ys.length capy cy c3 (fun j u hj => by rw [Addr.add_lit]; exact c4 j u hj) c2 hroom hfit
    have hvl : VRL E w ((xs ++ ys).flatten ++ sp.drop cy.length) (cur.toList.take (xs.length * i.size) ++ cy ++ cur.toList.drop (xs.length * i.size + cy.length)).toArray.toList := by
      rw [List.flatten_append]
      exact VRL_append (VRL_append htake c1) (hdrop _)
    obtain ⟨k1, k2⟩ := r.set_obj hk g1 (w' := w.setRow gb (cur.toList.take (xs.length * i.size) ++ cy ++ cur.toList.drop (xs.length * i.size + cy.length)).toArray)
      (setRow_heap w gb cur _ e _ g2) (fun g' hg' => setRow_other w gb g' _ hg') (by simp) rfl rfl rfl hvl (by
        intro u hu
        rcases List.mem_append.1 hu with hu | hu
        · rcases List.mem_append.1 hu with hu | hu
          · exact g4 u (List.mem_of_mem_take hu)
          · exact c2 u hu
        · exact g4 u (List.mem_of_mem_drop hu))
    refine ⟨_, _, E, k, cap, sp.drop cy.length, .inl rfl, hrun, k1, ?_, ?_, ?_, v2, ?_⟩
    · have e1 : upd (upd h k none) k (some (.obj e ((xs ++ ys).flatten ++ sp.drop cy.length))) = upd h k (some (.obj e ((xs ++ ys).flatten ++ sp.drop cy.length))) := by
        funext x; unfold upd; split <;> rfl
      rw [e1]; exact k2
    · simp only [VR, List.length_append]
      exact ⟨gb, g1, rfl, hroom, v2⟩
    · rw [List.length_append]; exact hroom
    · rw [hl2, List.length_drop, c3]
      rw [c3] at hfit
      omega
  · have hold : ∀ j u, (cur.toList.take (xs.length * i.size))[j]? = some u → w.cell? ((⟨gb, 0, none⟩ : Addr).add j) = some u := by
      intro j u hj
      rw [Addr.add_lit, Nat.zero_add]
      simp only [World.cell?, g2]
      rw [List.getElem?_take] at hj
      split at hj
      · simpa using hj
      · cases hj
    have hrun := run_append_grow (P := P) w t ty e i z ht.ut hi hz ⟨gb, 0, none⟩ xs.length cap (cur.toList.take (xs.length * i.size)) htl hold ⟨g, o, none⟩ ys.length capy cy c3 (fun j u hj => by rw [Addr.add_lit]; exact c4 j u hj) (by omega) (by omega) (growslice_fits (by omega) hb)
    have hge := grownCap_ge w (xs.length + ys.length) cap e
    have hcm : grownCap w (xs.length + ys.length) cap e ≤ maxLen := grownCap_le_maxLen w (xs.length + ys.length) cap e (by simp only [maxLen]; omega)
    generalize hgc : grownCap w (xs.length + ys.length) cap e = gc at hge hcm hrun
    obtain ⟨rd, kd⟩ := r.drewn (w.drawn + 1)
    have rd' : Rel E h w.drew := rd
    obtain ⟨E1, kx, rx⟩ := rd'.drop (h' := upd h k none) (fun x en hx => by
      unfold upd at hx
      split at hx
      · cases hx
      · exact hx)
    obtain ⟨nn, hE1⟩ := rx.fresh d
    have hEu : ¬ E.used (d, nn) := fun q => hE1 (kx.used _ (kd.used _ q))
    have hne2 : (d, nn) ≠ k := fun q => hEu (by rw [q]; exact r.hus _ _ hk)
    have kk := kd.trans kx
    have hvl : VRL E1 w.drew ((xs ++ ys).flatten ++ List.replicate (Builtin.zeroCells z.cells (gc - (xs.length + ys.length))).toList.length AV.any) ((cur.toList.take (xs.length * i.size)).toArray ++ cy.toArray ++ Builtin.zeroCells z.cells (gc - (xs.length + ys.length))).toList := by
      rw [Array.toList_append, Array.toList_append, List.flatten_append]
      exact VRL_append (VRL_append (VRL_keep kk _ _ htake) (VRL_keep kk _ _ c1)) (VRL_any _ rfl)
    obtain ⟨E', e1, e2, e3⟩ := Rel.new_obj (w := w.drew) rx hE1 e hvl (by
      intro v hv
      rw [Array.toList_append, Array.toList_append] at hv
      rcases List.mem_append.1 hv with hv | hv
      · rcases List.mem_append.1 hv with hv | hv
        · exact g4 v (List.mem_of_mem_take (by simpa using hv))
        · exact c2 v (by simpa using hv)
      · exact mem_zeroCells hzc v hv)
    refine ⟨_, _, E', (d, nn), gc, _, .inr ⟨hne2, r.unused_none hEu⟩, hrun, kk.trans e2, e3, ?_, by rw [List.length_append]; exact hge, hcm, ?_⟩
    · simp only [VR, List.length_append]
      exact ⟨_, e1, rfl, hge, hcm⟩
    · have hzl : ∀ m, (Builtin.zeroCells z.cells m).toList.length = m * i.size := fun m => by rw [Array.length_toList, size_zeroCells, hzs]
      rw [hl2, List.length_replicate, hzl, ← Nat.add_mul, ← Nat.add_mul]
      congr 1; omega
end app
theorem hp_setNone {h0 : Heap} {e' : Ent} : ∀ {L : HL} (i : Nat), HOk h0 L → i < L.length → hp h0 (L.set i (none, e')) = hp h0 (L.eraseIdx i) ∧ HOk h0 (L.set i (none, e'))
 | [], i, _, h => by simp at h
 | (t, e) :: r, 0, ok, _ => ⟨rfl, ok.1, nofun⟩
 | (t, e) :: r, i + 1, ok, h => by
  obtain ⟨h1, h2⟩ := hp_setNone (e' := e') (L := r) i ok.1 (by simpa using h)
  simp only [List.set_cons_succ, List.eraseIdx_cons_succ]
  refine ⟨?_, h2, ?_⟩
  ·cases t <;> simp only [hp, h1]
  ·intro k q
   rw [h1]
   exact sub_none (hp_sub (List.eraseIdx_sublist r i) ok.1).1 (ok.2 k q)
theorem hp_eraseK {h0 : Heap} {k : Key} {e : Ent} : ∀ {L : HL} (i : Nat), HOk h0 L → L[i]? = some (some k, e) → hp h0 (L.eraseIdx i) = upd (hp h0 L) k none
 | [], i, _, h => by simp at h
 | (t, e') :: r, 0, ok, h => by
  simp only [List.getElem?_cons_zero, Option.some.injEq, Prod.mk.injEq] at h
  obtain ⟨rfl, rfl⟩ := h
  have := ok.2 k rfl
  funext x
  simp only [List.eraseIdx_zero, List.tail_cons, hp]
  unfold upd
  by_cases hx : x = k
  ·subst hx; simp [this]
  ·simp [hx]
 | (t, e') :: r, i + 1, ok, h => by
  have h' : r[i]? = some (some k, e) := by simpa using h
  have ih := hp_eraseK (L := r) i ok.1 h'
  simp only [List.eraseIdx_cons_succ]
  cases t with
  | none => exact ih
  | some k' =>
   have hne : k' ≠ k := fun q => by
    have h1 := ok.2 k' rfl
    rw [q, Zd i ok.1 h'] at h1
    cases h1
   simp only [hp]
   rw [ih]
   exact upd_comm _ _ _ (Ne.symm hne)
section ops2
variable {P : Program} {ops : Array Oper} {h h0 : Heap} {L : HL} {n : Nat} {kvs : KV} {l : List Oper} {ty : TypeId} {pos : String} {aft : Array Edge}
theorem a_appA {K : AV → Heap → Prop} {α : Type} {c : α → List AV} {xs ys zs : List α} {dst : Option Tmp} {s x : Operand} {t e : TypeId} {sz b : Nat} {zv : List Value} {g : AGh} (i : Nat) (hm : app xs ys = some zs) (ht : ElT P t e sz b) (hb : Nat.ble b 100000 = true)
    (hzr : zrT P e = some zv) (hzo : zv.all (·.oneCell') = true) (hc : ∀ y, (c y).length = sz)
    (ha : evk n kvs s = aw g.t g.n g.cap) (hi : L[i]? = some (g.t, .obj e (fl c xs g.sp))) (ok : AOk g sz xs.length) (hk : HOk h0 L) (hx : srcOf (hp h0 L) sz (evk n kvs x) = some (ys.map c))
    (k : ∀ g' : AGh, AOk g' sz zs.length → HOk h0 (L.set i (g'.t, .obj e (fl c zs g'.sp))) → K (aw g'.t g'.n g'.cap) (hp h0 (L.set i (g'.t, .obj e (fl c zs g'.sp))))) :
    AOp P ⟨dst, .call { callee := .builtin .append, args := #[s, x], argTypes := #[t, t] }, ty, pos, aft, none⟩ K (fm n kvs) (hp h0 L) := by
  obtain ⟨rfl, hsz⟩ := app_spec hm
  have hb' := Nat.le_of_ble_eq_true hb
  have hbound : (xs.length + ys.length) * (b + 1) ≤ 140737488355328 := by
    have : (xs.length + ys.length) * (b + 1) ≤ 1000000000 * 100001 := Nat.mul_le_mul hsz (by omega)
    omega
  rw [Nat.mul_add, Nat.mul_one] at hbound
  have hil : i < L.length := (List.getElem?_eq_some_iff.1 hi).1
  have hset : ∀ a, L[i]? = some a → L.set i a = L := by
    intro a ha
    apply List.ext_getElem?; intro j; rw [List.getElem?_set]; split
    · rename_i q; first | (subst q; exact ha.symm) | (subst q; rw [if_pos hil]; exact ha.symm)
    · rfl
  intro E w a r hv Nx Qx hn
  have vs := hv s (by simp [Op.operands, Call.operands])
  have vx := hv x (by simp [Op.operands, Call.operands])
  rw [ev_fm] at vs vx
  rw [ha, ok.eqn] at vs
  have src := srcOf_spec r hx vx
  have hop : (⟨dst, .call { callee := .builtin .append, args := #[s, x], argTypes := #[t, t] }, ty, pos, aft, none⟩ : Oper).op = .call { callee := .builtin .append, args := #[s, x], argTypes := #[t, t] } := rfl
  by_cases hy : ys = []
  · subst hy
    have hsv : ∃ q cap, a.eval s = .slice q xs.length cap ∧ xs.length ≤ cap ∧ (q = none → cap = 0) := by
      have hnil := ok.nil
      cases htg : g.t with
      | none =>
        rw [htg] at vs
        simp only [aw, VR] at vs
        obtain ⟨q, e⟩ := vs
        exact ⟨q, 0, by rw [e, hnil htg], by rw [hnil htg]; exact Nat.le_refl _, fun _ => rfl⟩
      | some kk =>
        rw [htg] at vs
        simp only [aw, VR] at vs
        obtain ⟨q, _, e, e2, _⟩ := vs
        exact ⟨_, _, e, e2, nofun⟩
    obtain ⟨q, cap, es, ec, hq⟩ := hsv
    have src0 : ∃ q c, a.eval x = .slice q 0 c := by
      rcases src.2 with ⟨_, q, c, e⟩ | ⟨g, oo, c, cv, e, _⟩
      · exact ⟨q, c, e⟩
      · exact ⟨_, c, e⟩
    obtain ⟨qx, cx, ex⟩ := src0
    have hv0 : (a.eval s = .slice none 0 0 ∧ xs.length = 0) ∨ ∃ a' cap, a.eval s = .slice (some a') xs.length cap ∧ xs.length ≤ cap := by
      cases q with
      | none => have h0 := hq rfl; subst h0; have h0 : xs.length = 0 := by omega
                exact .inl ⟨by rw [es, h0], h0⟩
      | some b => exact .inr ⟨b, cap, es, ec⟩
    have hr := run_append_none (P := P) (w := w) (ty := ty) ht hv0 ex
    unfold Oper.wp
    rw [exec_append hop hr]
    have hk1 := k g (by simpa using ok) (by rw [List.append_nil, hset _ hi]; exact hk)
    rw [List.append_nil, hset _ hi, ok.eqn] at hk1
    exact hn _ _ _ E _ (Keep.refl E w) r vs hk1
  · have hyc : ys.map c ≠ [] := by simpa using hy
    cases htg : g.t with
    | none =>
      have hx0 := ok.nil htg
      have hxs : xs = [] := List.length_eq_zero_iff.1 hx0
      subst hxs
      rw [htg] at vs hi
      simp only [aw, VR] at vs
      obtain ⟨a0, ea0⟩ := vs
      obtain ⟨m, hm'⟩ := r.fresh 0
      obtain ⟨v', w', E', cap, sp, e1, e2, e3, e4, e5, e6, e7⟩ := app_arr0 (ty := ty) ht hzr hzo r hm' src hyc (by rw [List.length_map]; simp only [List.length_nil, Nat.zero_add] at hbound; omega) (by rw [List.length_map]; simp only [List.length_nil, Nat.zero_add] at hbound; omega) a0
      unfold Oper.wp
      rw [exec_append hop (by rw [ea0]; exact e1)]
      rw [List.length_map] at e4 e5 e7
      have hnone := r.unused_none hm'
      obtain ⟨p1, p2, _⟩ := hp_put (k := (0, m)) (e' := .obj e (fl c ys sp)) i hk hi (.inr ⟨rfl, hnone⟩)
      have hk1 := k ⟨some (0, m), ys.length, cap, sp⟩ ⟨by simp, nofun, by simpa using e5, e6, by simpa using e7⟩ p2
      refine hn _ _ _ E' _ e2 e3 e4 ?_
      have : upd (hp h0 L) (0, m) (some (.obj e ((ys.map c).flatten ++ sp))) = hp h0 (L.set i (some (0, m), .obj e (fl c ys sp))) := p1
      rw [this]
      exact hk1
    | some kk =>
      rw [htg] at vs hi
      have hg := Zd i hk hi
      have hcl : (xs.map c).length * sz + g.sp.length = g.cap * sz := by rw [List.length_map]; exact ok.len
      obtain ⟨v', w', E', k2, cap, sp, e0, e1, e2, e3, e4, e5, e6, e7⟩ := app_arr (ty := ty) ht hzr hzo r 0 (xs := xs.map c) (sp := g.sp) (cap := g.cap) hg (by rw [flat_len hc, List.length_map]) hcl (by rw [List.length_map]; exact vs) src hyc (by simp only [List.length_map]; omega) (by simp only [List.length_map]; omega)
      unfold Oper.wp
      rw [exec_append hop e1]
      rw [← List.map_append, List.length_map] at e4 e5 e7
      rw [← List.map_append] at e3
      obtain ⟨s1, s2⟩ := hp_setNone (e' := .obj e (fl c xs g.sp)) i hk hil
      have hsn : (L.set i (none, Ent.obj e (fl c xs g.sp)))[i]? = some (none, .obj e (fl c xs g.sp)) := by rw [List.getElem?_set_self hil]
      have hnk : hp h0 (L.set i (none, .obj e (fl c xs g.sp))) k2 = none := by
        rw [s1]
        rcases e0 with rfl | ⟨_, q⟩
        · exact hp_erase i hk hi
        · exact sub_none (hp_sub (List.eraseIdx_sublist L i) hk).1 q
      obtain ⟨p1, p2, _⟩ := hp_put (k := k2) (e' := .obj e (fl c (xs ++ ys) sp)) i s2 hsn (.inr ⟨rfl, hnk⟩)
      rw [List.set_set] at p1 p2
      have hq : upd (upd (hp h0 L) kk none) k2 (some (.obj e (fl c (xs ++ ys) sp))) = hp h0 (L.set i (some k2, .obj e (fl c (xs ++ ys) sp))) := by
        rw [← p1]
        congr 1
        rw [s1]
        exact (hp_eraseK i hk hi).symm
      have hk1 := k ⟨some k2, (xs ++ ys).length, cap, sp⟩ ⟨rfl, nofun, e5, e6, e7⟩ p2
      refine hn _ _ _ E' _ e2 e3 e4 ?_
      have : upd (upd (hp h0 L) kk none) k2 (some (.obj e (((xs ++ ys).map c).flatten ++ sp))) = hp h0 (L.set i (some k2, .obj e (fl c (xs ++ ys) sp))) := hq
      rw [this]
      exact hk1
theorem a_appA0 {K : AV → Heap → Prop} {α : Type} {c : α → List AV} {ys zs : List α} {dst : Option Tmp} {s : Nat} {x : Operand} {t e : TypeId} {sz b : Nat} {zv : List Value} (hm : app [] ys = some zs) (ht : ElT P t e sz b) (hb : Nat.ble b 100000 = true)
    (hzr : zrT P e = some zv) (hzo : zv.all (·.oneCell') = true) (hc : ∀ y, (c y).length = sz)
    (ha : lk n kvs s = .sc (.slice none 0 0)) (hk : HOk h0 L) (hx : srcOf (hp h0 L) sz (evk n (kp kvs s .e0) x) = some (ys.map c))
    (k : ∀ g' : AGh, AOk g' sz zs.length → HOk h0 ((g'.t, .obj e (fl c zs g'.sp)) :: L) → K (aw g'.t g'.n g'.cap) (hp h0 ((g'.t, .obj e (fl c zs g'.sp)) :: L))) :
    AOp P ⟨dst, .call { callee := .builtin .append, args := #[.tmp s, x], argTypes := #[t, t] }, ty, pos, aft, none⟩ K (fm n kvs) (hp h0 L) := by
  have hl := lk_kp (v := .e0) ha (by simp)
  refine AOp_put (s := s) .e0 (by rw [ha]; exact ALe_nilA _) (a_appA (L := (none, .obj e (fl c ([] : List α) [])) :: L) (g := g0) (c := c) (xs := []) 0 hm ht hb hzr hzo hc ?_ rfl (AOk.g0 sz) ⟨hk, nofun⟩ hx ?_)
  · exact hl
  · exact fun g' h1 h2 => k g' h1 h2
end ops2
def Epl (E : Env) (H : Heap) (w : World) : Env where
 imm g o := E.imm g o ∨ ((∃ k, E.at H k g) ∧ ∃ v, w.cell? ⟨g, o, none⟩ = some v)
 lock g := E.lock g ∨ ∃ k, E.at H k g
 used := E.used
 ob := E.ob
 tk _ := none
abbrev hz : Heap := fun _ => none
theorem Epl_rel {E : Env} {H : Heap} {w : World} (r : Rel E H w) : Rel (Epl E H w) hz w where
 obj := nofun
 tok := nofun
 tkh := nofun
 sep k k' g ha _ := by
  rcases ha with ⟨e, _, h, _⟩ | ⟨_, _, _, _, h, _⟩ <;> cases h
 dis k g ha := by
  rcases ha with ⟨e, _, h, _⟩ | ⟨_, _, _, _, h, _⟩ <;> cases h
 hus := nofun
 obu := r.obu
 fre := r.fre
 imb g o h := by
  rcases h with h | ⟨_, h⟩
  ·exact r.imb g o h
  ·exact h
 lkb g h := by
  rcases h with h | ⟨k, h⟩
  ·exact r.lkb g h
  ·exact r.at_lt h
 mp := nofun
theorem Epl_keep {E : Env} {H : Heap} {w : World} (r : Rel E H w) : KeepV E w (Epl E H w) w where
 imm g o h := ⟨.inl h, rfl⟩
 used _ h := h
 ob _ _ h := h
 tkc k t ht o ho := by
  refine ⟨.inl (.inr ?_), rfl⟩
  obtain ⟨ty, e⟩ := r.tkh k t ht
  obtain ⟨t', cur, e1, e2, e3, e4, e5, e6, e7⟩ := r.tok _ _ _ _ e
  rw [ht] at e1; cases e1
  refine ⟨⟨k, .inr ⟨ty, _, _, t, e, ht, rfl⟩⟩, ?_⟩
  have : o < cur.size := by omega
  exact ⟨cur[o], by simp [World.cell?, e4, this]⟩
 tkf := nofun
def Br (H : Heap) (x y : AV) : Prop := ∀ E w v, Rel E H w → VR E w x v → VR (Epl E H w) w y v
theorem Br.refl (H : Heap) (x : AV) : Br H x x := fun _ _ _ r h => VR_keepV (Epl_keep r) _ _ h
theorem Br.ale {H : Heap} {x y : AV} (h : ALe H x y) : Br H x y := fun E w v r hv => VR_keepV (Epl_keep r) _ _ (h E w v r hv)
theorem Br.ale0 {H : Heap} {x y : AV} (h : ALe hz x y) : Br H x y := fun _ w v r hv => h _ w v (Epl_rel r) (VR_keepV (Epl_keep r) _ _ hv)
theorem Br.ow {α : Type} {c : α → List AV} {xs : List α} {t : Option Key} {H : Heap} (sz : Nat) (ot : t = none → xs = []) : Br H (ow t sz (xs.map c)) (.sl none sz (xs.map c)) :=
 Br.ale0 (own_frz sz ot fun _ _ => rfl)
theorem Br.vw {α : Type} {c : α → List AV} {xs : List α} {H : Heap} {k : Key} {ty : TypeId} {sp : List AV} {sz cap : Nat} (hc : ∀ y, (c y).length = sz) (hk : H k = some (.obj ty (fl c xs sp))) : Br H (.vw k xs.length cap) (.sl none sz (xs.map c)) := by
 intro E w v r hv
 simp only [VR] at hv ⊢
 obtain ⟨g, hg, rfl, h1, h2⟩ := hv
 obtain ⟨g', cur, e1, e2, e3, e4⟩ := r.obj _ _ _ hk
 rw [hg] at e1; cases e1
 refine ⟨_, cap, by rw [List.length_map], by rw [List.length_map]; exact h1, h2, ?_, ?_, nofun⟩
 ·refine .inr ⟨g, 0, rfl, VRG_flat.2 ?_⟩
  have htake : VRL E w (xs.map c).flatten (cur.toList.take ((xs.map c).flatten.length)) := by
   have := VRL_take ((xs.map c).flatten.length) e3
   rwa [fl, List.take_left' rfl] at this
  refine VRM_of_cells (VRL_keepV (Epl_keep r) _ _ htake) (fun u hu => e4 u (List.mem_of_mem_take hu)) ?_
  intro j u hj
  rw [List.getElem?_take] at hj
  split at hj
  ·have hcell : w.cell? ⟨g, 0 + j, none⟩ = some u := by
    simp only [World.cell?, e2, Nat.zero_add]
    simpa using hj
   exact ⟨hcell, .inl (.inr ⟨⟨k, .inl ⟨_, rfl, hk, hg⟩⟩, u, hcell⟩)⟩
  ·cases hj
 ·intro x hx
  obtain ⟨y, _, rfl⟩ := List.mem_map.1 hx
  exact hc y
theorem Br.aw {α : Type} {c : α → List AV} {xs : List α} {h0 : Heap} {L : HL} {ty : TypeId} {g : AGh} {sz : Nat} (i : Nat) (hc : ∀ y, (c y).length = sz) (ok : AOk g sz xs.length) (hk : HOk h0 L) (hi : L[i]? = some (g.t, .obj ty (fl c xs g.sp))) : Br (hp h0 L) (aw g.t g.n g.cap) (.sl none sz (xs.map c)) := by
 rw [ok.eqn]
 cases ht : g.t with
 | none =>
  have h0 : xs = [] := List.length_eq_zero_iff.1 (ok.nil ht)
  subst h0
  exact Br.ale (ALe_e0 _ sz)
 | some k =>
  rw [ht] at hi
  exact Br.vw hc (Zd i hk hi)
inductive BrL (H : Heap) : List AV → List AV → Prop where
 | nil : BrL H [] []
 | cons {x y : AV} {xs ys : List AV} : Br H x y → BrL H xs ys → BrL H (x :: xs) (y :: ys)
theorem BrL.spec {H : Heap} {xs ys : List AV} (hl : BrL H xs ys) {E : Env} {w : World} (r : Rel E H w) : ∀ {vs : List Value}, VRL E w xs vs → VRL (Epl E H w) w ys vs := by
 induction hl with
 | nil => intro vs v; cases vs with
  | nil => simp only [VRL]
  | cons _ _ => simp only [VRL] at v
 | cons h1 _ ih => intro vs v; cases vs with
  | nil => simp only [VRL] at v
  | cons u us =>
   simp only [VRL] at v ⊢
   exact ⟨h1 E w u r v.1, ih v.2⟩
theorem BrL.refl (H : Heap) : ∀ (xs : List AV), BrL H xs xs
 | [] => .nil
 | x :: xs => .cons (Br.refl H x) (BrL.refl H xs)
theorem BrL.app {H : Heap} {xs ys : List AV} : ∀ (k : Nat) {zs : List AV}, zs.length = k → BrL H xs ys → BrL H (zs ++ xs) (zs ++ ys)
 | 0, [], _, hl => hl
 | k + 1, z :: zs, hz, hl => .cons (Br.refl _ _) (BrL.app k (by simpa using hz) hl)
 | 0, _ :: _, hz, _ => by simp at hz
 | _ + 1, [], hz, _ => by simp at hz
theorem Br.agg {H : Heap} {xs ys : List AV} (hl : BrL H xs ys) : Br H (.agg xs) (.agg ys) := by
 intro E w v r hv
 simp only [VR] at hv ⊢
 obtain ⟨cs, rfl, h⟩ := hv
 exact ⟨cs, rfl, hl.spec r h⟩
def flatA : AV → Bool
 | .sc _ => true
 | .tup xs => xs.all fun | .sc _ => true | _ => false
 | _ => false
theorem flatA_spec {x : AV} (hx : flatA x = true) {E E' : Env} {w w' : World} {v : Value} (hv : VR E w x v) : VR E' w' x v := by
 cases x with
 | sc u => simpa only [VR] using hv
 | tup xs =>
  simp only [VR] at hv ⊢
  obtain ⟨cs, rfl, h⟩ := hv
  refine ⟨cs, rfl, ?_⟩
  simp only [flatA] at hx
  generalize cs.toList = l at h
  induction xs generalizing l with
  | nil => cases l with
   | nil => simp only [VRL]
   | cons _ _ => simp only [VRL] at h
  | cons y ys ih => cases l with
   | nil => simp only [VRL] at h
   | cons u us =>
    simp only [VRL] at h ⊢
    simp only [List.all_cons, Bool.and_eq_true] at hx
    refine ⟨?_, ih hx.2 us h.2⟩
    cases y with
    | sc z => simpa only [VR] using h.1
    | _ => cases hx.1
 | _ => cases hx
theorem ACalls_pure {P : Program} {f : FuncId} {us bs : List AV} {x : AV} {H : Heap} (hb : BrL H us bs) (hx : flatA x = true) (hc : ACalls P f bs hz (fun r h' => r = x ∧ h' = hz)) : ACalls P f us H (fun r h' => r = x ∧ h' = H) := by
 intro E w vs r hv
 refine (hc (Epl E H w) w vs (Epl_rel r) (hb.spec r hv)).mono ?_
 rintro e w' ⟨v, E'', y, h', rfl, k, r'', vx, rfl, rfl⟩
 have hblk : ∀ kk g, E.at H kk g → w'.heap[g]? = w.heap[g]? := fun kk g ha => k.lock g (.inr ⟨kk, ha⟩)
 have hat : ∀ kk t, E.tk kk = some t → E.at H kk t.b := fun kk t ht => by
  obtain ⟨ty, e⟩ := r.tkh kk t ht
  exact .inr ⟨ty, _, _, t, e, ht, rfl⟩
 have kE : Keep E w E w' := ⟨fun g o h => ⟨h, (k.imm g o (.inl h)).2⟩, fun _ => Iff.rfl, fun g hg => k.lock g (.inl hg), fun _ h => h, fun _ _ h => h,
  fun kk t ht o ho => ⟨.inr ⟨t, ht, rfl, ho⟩, cell_of_block (hblk kk t.b (hat kk t ht)) o⟩, fun kk t' h _ => ⟨t', h, Nat.le_refl _, fun _ => rfl⟩, k.os, k.tape, k.output, k.size⟩
 refine ⟨v, E, y, H, rfl, kE, ?_, flatA_spec hx vx, rfl, rfl⟩
 constructor
 ·intro kk ty cs hk
  obtain ⟨g, cur, e1, e2, e3, e4⟩ := r.obj kk ty cs hk
  exact ⟨g, cur, e1, (hblk kk g (.inl ⟨_, rfl, hk, e1⟩)).trans e2, VRL_keep kE _ _ e3, e4⟩
 ·intro kk ty sz m hk
  obtain ⟨t, cur, e1, e2, e3, e4, e5⟩ := r.tok kk ty sz m hk
  exact ⟨t, cur, e1, e2, e3, (hblk kk t.b (hat kk t e1)).trans e4, e5⟩
 ·exact r.tkh
 ·exact r.sep
 ·exact r.dis
 ·exact r.hus
 ·exact r.obu
 ·exact r.fre
 ·intro g o ho
  obtain ⟨v, hv⟩ := r.imb g o ho
  exact ⟨v, (kE.imm g o ho).2.trans hv⟩
 ·intro g hg
  exact Nat.lt_of_lt_of_le (r.lkb g hg) k.size
 ·intro kk es hk
  obtain ⟨g, ents, clk, e1, e2, e3⟩ := r.mp kk es hk
  exact ⟨g, ents, clk, e1, (hblk kk g (.inl ⟨_, rfl, hk, e1⟩)).trans e2, e3⟩
def Efz (E : Env) (H H' : Heap) (w : World) : Env := { E with
 imm := fun g o => E.imm g o ∨ ((∃ k, E.at H k g ∧ H' k = none) ∧ ∃ v, w.cell? ⟨g, o, none⟩ = some v)
 tk := fun k => if (H' k).isSome then E.tk k else none }
theorem Efz_keep {E : Env} {H H' : Heap} {w : World} (r : Rel E H w) : Keep E w (Efz E H H' w) w := by
 refine ⟨fun g o h => ⟨.inl h, rfl⟩, fun _ => Iff.rfl, fun _ _ => rfl, fun _ h => h, fun _ _ h => h, ?_, ?_, rfl, rfl, rfl, Nat.le_refl _⟩
 ·intro k t ht o ho
  refine ⟨?_, rfl⟩
  cases hk : H' k with
  | some e => exact .inr ⟨t, by simp [Efz, hk, ht], rfl, ho⟩
  | none =>
   obtain ⟨ty, e⟩ := r.tkh k t ht
   obtain ⟨t', cur, e1, e2, e3, e4, e5, e6, e7⟩ := r.tok _ _ _ _ e
   rw [ht] at e1; cases e1
   have : o < cur.size := by omega
   exact .inl (.inr ⟨⟨k, .inr ⟨ty, _, _, t, e, ht, rfl⟩, hk⟩, cur[o], by simp [World.cell?, e4, this]⟩)
 ·intro k t' ht _
  simp only [Efz] at ht
  split at ht
  ·exact ⟨t', ht, Nat.le_refl _, fun _ => rfl⟩
  ·cases ht
theorem Efz_rel {E : Env} {H H' : Heap} {w : World} (r : Rel E H w) (hs : Sub H' H) : Rel (Efz E H H' w) H' w := by
 have key : Keep E w (Efz E H H' w) w := Efz_keep r
 have at' : ∀ k g, Env.at (Efz E H H' w) H' k g → E.at H k g ∧ (H' k).isSome = true := by
  intro k g ha
  rcases ha with ⟨ty, cs, h1, h2⟩ | ⟨ty, sz, m, t, h1, h2, h3⟩
  ·exact ⟨.inl ⟨ty, cs, hs _ _ h1, h2⟩, by simp [h1]⟩
  ·simp only [Efz, h1, Option.isSome_some, if_true] at h2
   exact ⟨.inr ⟨ty, sz, m, t, hs _ _ h1, h2, h3⟩, by simp [h1]⟩
 constructor
 ·intro k ty cs hk
  obtain ⟨g, cur, e1, e2, e3, e4⟩ := r.obj k ty cs (hs _ _ hk)
  exact ⟨g, cur, e1, e2, VRL_keep key _ _ e3, e4⟩
 ·intro k ty sz m hk
  obtain ⟨t, cur, e1, e2⟩ := r.tok k ty sz m (hs _ _ hk)
  exact ⟨t, cur, by simp [Efz, hk, e1], e2⟩
 ·intro k t hk
  simp only [Efz] at hk
  split at hk
  ·rename_i hsome
   obtain ⟨ty, e⟩ := r.tkh k t hk
   obtain ⟨e', he'⟩ := Option.isSome_iff_exists.1 hsome
   have := hs _ _ he'
   rw [e] at this
   cases this
   exact ⟨ty, he'⟩
  ·cases hk
 ·intro k k' g ha hb
  exact r.sep k k' g (at' _ _ ha).1 (at' _ _ hb).1
 ·intro k g ha
  obtain ⟨h1, h2⟩ := r.dis k g (at' _ _ ha).1
  refine ⟨h1, fun o ho => ?_⟩
  rcases ho with ho | ⟨⟨k', e1, e2⟩, _⟩
  ·exact h2 o ho
  ·have : k = k' := r.sep k k' g (at' _ _ ha).1 e1
   subst this
   have := (at' _ _ ha).2
   rw [e2] at this
   cases this
 ·exact fun k e hk => r.hus k e (hs _ _ hk)
 ·exact r.obu
 ·exact r.fre
 ·intro g o ho
  rcases ho with ho | ⟨_, h⟩
  ·exact r.imb g o ho
  ·exact h
 ·exact r.lkb
 ·exact fun k es hk => r.mp k es (hs _ _ hk)
def Fz (H H' : Heap) (x y : AV) : Prop := ∀ E w v, Rel E H w → VR E w x v → VR (Efz E H H' w) w y v
theorem Fz.refl (H H' : Heap) (x : AV) : Fz H H' x x := fun _ _ _ r h => VR_keep (Efz_keep r) _ _ h
theorem Fz.ale {H H' : Heap} {x y : AV} (hs : Sub H' H) (h : ALe H' x y) : Fz H H' x y := fun _ w v r hv => h _ w v (Efz_rel r hs) (VR_keep (Efz_keep r) _ _ hv)
theorem Fz.vw {α : Type} {c : α → List AV} {xs : List α} {H H' : Heap} {k : Key} {ty : TypeId} {sp : List AV} {sz cap : Nat} (hc : ∀ y, (c y).length = sz) (hk : H k = some (.obj ty (fl c xs sp))) (hn : H' k = none) : Fz H H' (.vw k xs.length cap) (.sl none sz (xs.map c)) := by
 intro E w v r hv
 simp only [VR] at hv ⊢
 obtain ⟨g, hg, rfl, h1, h2⟩ := hv
 obtain ⟨g', cur, e1, e2, e3, e4⟩ := r.obj _ _ _ hk
 rw [hg] at e1; cases e1
 refine ⟨_, cap, by rw [List.length_map], by rw [List.length_map]; exact h1, h2, ?_, ?_, nofun⟩
 ·refine .inr ⟨g, 0, rfl, VRG_flat.2 ?_⟩
  have htake : VRL E w (xs.map c).flatten (cur.toList.take ((xs.map c).flatten.length)) := by
   have := VRL_take ((xs.map c).flatten.length) e3
   rwa [fl, List.take_left' rfl] at this
  refine VRM_of_cells (VRL_keep (Efz_keep r) _ _ htake) (fun u hu => e4 u (List.mem_of_mem_take hu)) ?_
  intro j u hj
  rw [List.getElem?_take] at hj
  split at hj
  ·have hcell : w.cell? ⟨g, 0 + j, none⟩ = some u := by
    simp only [World.cell?, e2, Nat.zero_add]
    simpa using hj
   exact ⟨hcell, .inl (.inr ⟨⟨k, .inl ⟨_, rfl, hk, hg⟩, hn⟩, u, hcell⟩)⟩
  ·cases hj
 ·intro x hx
  obtain ⟨y, _, rfl⟩ := List.mem_map.1 hx
  exact hc y
theorem Fz.aw {α : Type} {c : α → List AV} {xs : List α} {h0 : Heap} {L L' : HL} {ty : TypeId} {g : AGh} {sz : Nat} (i : Nat) (hc : ∀ y, (c y).length = sz) (ok : AOk g sz xs.length) (hk : HOk h0 L) (hi : L[i]? = some (g.t, .obj ty (fl c xs g.sp))) (hs : L'.Sublist (L.eraseIdx i)) :
    Fz (hp h0 L) (hp h0 L') (aw g.t g.n g.cap) (.sl none sz (xs.map c)) := by
  rw [ok.eqn]
  cases ht : g.t with
  | none =>
    have h0 : xs = [] := List.length_eq_zero_iff.1 (ok.nil ht)
    subst h0
    exact Fz.ale (hp_sub (hs.trans (List.eraseIdx_sublist L i)) hk).1 (ALe_e0 _ sz)
  | some k =>
    rw [ht] at hi
    exact Fz.vw hc (Zd i hk hi) (sub_none (hp_sub hs (hp_sub (List.eraseIdx_sublist L i) hk).2).1 (hp_erase i hk hi))
inductive FzL (H H' : Heap) : List AV → List AV → Prop where
 | nil : FzL H H' [] []
 | cons {x y : AV} {xs ys : List AV} : Fz H H' x y → FzL H H' xs ys → FzL H H' (x :: xs) (y :: ys)
theorem FzL.spec {H H' : Heap} {xs ys : List AV} (hl : FzL H H' xs ys) {E : Env} {w : World} (r : Rel E H w) : ∀ {vs : List Value}, VRL E w xs vs → VRL (Efz E H H' w) w ys vs := by
 induction hl with
 | nil => intro vs v; cases vs with
  | nil => simp only [VRL]
  | cons _ _ => simp only [VRL] at v
 | cons h1 _ ih => intro vs v; cases vs with
  | nil => simp only [VRL] at v
  | cons u us =>
   simp only [VRL] at v ⊢
   exact ⟨h1 E w u r v.1, ih v.2⟩
theorem FzL.refl (H H' : Heap) : ∀ (xs : List AV), FzL H H' xs xs
 | [] => .nil
 | x :: xs => .cons (Fz.refl H H' x) (FzL.refl H H' xs)
theorem FzL.app {H H' : Heap} {xs ys : List AV} : ∀ (k : Nat) {zs : List AV}, zs.length = k → FzL H H' xs ys → FzL H H' (zs ++ xs) (zs ++ ys)
 | 0, [], _, hl => hl
 | k + 1, z :: zs, hz, hl => .cons (Fz.refl _ _ _) (FzL.app k (by simpa using hz) hl)
 | 0, _ :: _, hz, _ => by simp at hz
 | _ + 1, [], hz, _ => by simp at hz
theorem Fz.agg {H H' : Heap} {xs ys : List AV} (hl : FzL H H' xs ys) : Fz H H' (.agg xs) (.agg ys) := by
 intro E w v r hv
 simp only [VR] at hv ⊢
 obtain ⟨cs, rfl, h⟩ := hv
 exact ⟨cs, rfl, hl.spec r h⟩
theorem LeF.fz {n : Nat} {kvs : KV} {H H' : Heap} {t : Nat} {v : AV} (hs : Sub H' H) (hv : Fz H H' (lk n kvs t) v) : LeF (Vm.fm n (kp kvs t v)) H' (Vm.fm n kvs) H := by
 intro E w vs r vv
 refine ⟨_, Efz_keep r, Efz_rel r hs, ?_⟩
 have key : FzL H H' (Vm.fm n kvs) (Vm.fm n (kp kvs t v)) := by
  have : ∀ {xs ys : List AV}, xs.length = ys.length → (∀ (i : Nat) (x y : AV), xs[i]? = some x → ys[i]? = some y → Fz H H' x y) → FzL H H' xs ys := by
   intro xs
   induction xs with
   | nil => intro ys hl _; cases ys with
    | nil => exact .nil
    | cons _ _ => simp at hl
   | cons x xs ih => intro ys hl hg; cases ys with
    | nil => simp at hl
    | cons y ys => exact .cons (hg 0 x y rfl rfl) (ih (by simpa using hl) fun i a b ha hb => hg (i + 1) a b (by simpa using ha) (by simpa using hb))
  refine this (by rw [fm_length, fm_length]) ?_
  intro i x y hx hy
  rw [fm_get] at hx hy
  by_cases hi : i < n
  ·rw [if_pos hi] at hx hy
   cases hx; cases hy
   by_cases e : t = i
   ·subst e
    rw [kp_same]
    rw [lk_eq, if_pos hi] at hv
    exact hv
   ·rw [kp_ne _ _ e]; exact Fz.refl _ _ _
  ·rw [if_neg hi] at hx; cases hx
 exact key.spec r vv
section more
variable {P : Program} {h0 : Heap} {L : HL} {n : Nat} {kvs : KV}
theorem AOp_fz {o : Oper} {K : AV → Heap → Prop} {H H' : Heap} {s : Nat} (v : AV) (hs : Sub H' H) (hv : Fz H H' (lk n kvs s) v) (ho : AOp P o K (fm n (kp kvs s v)) H') : AOp P o K (fm n kvs) H := by
 intro E w a r hvv Nx Qx hn
 refine ho (Efz E H H' w) w a (Efz_rel r hs) (fun y hy => ?_) Nx Qx (fun x v' w' E' h' k r' vx kx => hn x v' w' E' h' ((Efz_keep r).trans k) r' vx kx)
 have h1 := hvv y hy
 rw [ev_fm] at h1 ⊢
 cases y with
 | tmp u =>
  simp only [evk, lk_eq] at h1 hv ⊢
  by_cases e : s = u
  ·subst e
   rw [kp_same]
   split
   ·rename_i q; rw [if_pos q] at h1 hv; exact hv E w _ r h1
   ·exact VR_keep (Efz_keep r) _ _ (by rename_i q; rw [if_neg q] at h1; exact h1)
  ·rw [kp_ne _ _ e]; exact VR_keep (Efz_keep r) _ _ h1
 | const v => exact VR_keep (Efz_keep r) _ _ h1
 | global g => exact VR_keep (Efz_keep r) _ _ h1
 | func f => exact VR_keep (Efz_keep r) _ _ h1
theorem LeF.fzO {f : KV} {k : Key} {ty : TypeId} {cs : List AV} (p j : Nat) (cs' : List AV) (hk : HOk h0 L) (hj : (L.eraseIdx p)[j]? = some (some k, .obj ty cs)) (hl : FzL (hp h0 L) (hp h0 (L.eraseIdx p)) cs cs') :
    HOk h0 ((L.eraseIdx p).set j (some k, .obj ty cs')) ∧ LeF (Vm.fm n f) (hp h0 ((L.eraseIdx p).set j (some k, .obj ty cs'))) (Vm.fm n f) (hp h0 L) := by
  obtain ⟨hs, hk1⟩ := hp_sub (List.eraseIdx_sublist L p) hk
  obtain ⟨h1, h2, _⟩ := hp_put (e' := .obj ty cs') j hk1 hj (.inl rfl)
  refine ⟨h2, fun E w vs r v => ?_⟩
  have hg1 := Zd j hk1 hj
  obtain ⟨g, cur, e1, e2, e3, e4⟩ := r.obj k ty cs (hs _ _ hg1)
  have r1 := Efz_rel r hs
  have k1 : Keep E w (Efz E (hp h0 L) (hp h0 (L.eraseIdx p)) w) w := Efz_keep r
  obtain ⟨k2, r2⟩ := r1.set_obj hg1 (show (Efz E (hp h0 L) (hp h0 (L.eraseIdx p)) w).ob k = some g from e1) (w' := w) e2 (fun _ _ => rfl) (Nat.le_refl _) rfl rfl rfl (hl.spec r e3) e4
  rw [h1] at r2
  exact ⟨_, k1.trans k2, r2, VRL_keep (k1.trans k2) _ _ v⟩
theorem zeqh {ops : Array Oper} {fs : List (Nat × Option Key × Ent)} {K : Fr → Heap → Prop} {f : Nat} {S : Array Bool} {fr : Fr} {h1 h2 : Heap} (e : h1 = h2) (k : InvL fs S h2 ∧ AGI P ops fs K f S fr h2) : InvL fs S h1 ∧ AGI P ops fs K f S fr h1 := by subst e; exact k
end more
abbrev Ar (n : Nat) := {l : List Int // l.length = n}
def cA (q : IntKind) (n : Nat) (x : Ar n) : List AV := (List.range n).map fun i => .sc (.int q (x.1.getD i 0))
def arZ (n : Nat) : Ar n := ⟨List.replicate n 0, by simp⟩
def arU {n : Nat} (x : Ar n) (i : Nat) (v : Int) : Ar n := ⟨x.1.set i v, by rw [List.length_set]; exact x.2⟩
theorem cA_map {q : IntKind} {n : Nat} (x : Ar n) : cA q n x = x.1.map fun z => AV.sc (.int q z) := by
 obtain ⟨l, rfl⟩ := x
 unfold cA
 apply List.ext_getElem?
 intro i
 simp only [List.getElem?_map]
 by_cases h : i < l.length
 ·rw [List.getElem?_range h, List.getElem?_eq_getElem h]
  simp [List.getD, List.getElem?_eq_getElem h]
 ·rw [List.getElem?_eq_none (by simpa using h), List.getElem?_eq_none (by simpa using h)]
  rfl
theorem splice_one (l : List AV) (i : Nat) (v : AV) (h : i < l.length) : splice l i [v] = l.set i v := by
 unfold splice
 rw [List.set_eq_take_append_cons_drop, if_pos h]
 simp
section ops
variable {P : Program} {ops : Array Oper} {h h0 : Heap} {L : HL} {n : Nat} {kvs : KV} {l : List Oper} {ty : TypeId} {pos : String} {aft : Array Edge}
theorem o_ixarp {m : Nat} {dst : Option Tmp} {a b : Operand} {t : TypeId} {q : Key} {off : Nat} {k : IntKind} {i x : Int} {y : Ar m} (hi : ix y.1 i = some x) (ht : arS P t = some (m, 1)) (ha : evk n kvs a = .ptr q off) (hb : evk n kvs b = .sc (.int k i)) :
    AOpV P ⟨dst, .indexAddr t a b, ty, pos, aft, none⟩ (.ptr q (off + i.toNat)) (fm n kvs) h := by
  obtain ⟨h0, h1, h2⟩ := ix_spec hi
  rw [y.2] at h1
  refine o_pv (c := 0 ≤ i ∧ i < m) ?_ ⟨h0, by omega⟩
  simp only [pv, ev_fm, ha, hb, intA, ixA, ht, Option.bind_some, Nat.mul_one]
theorem o_ldarp {m : Nat} {kq : IntKind} {dst : Option Tmp} {a : Operand} {t : TypeId} {q : Key} (off : Nat) {i x : Int} {y : Ar m} {oty : TypeId} {cs : List AV} (hi : ix y.1 i = some x) (ht : ldT P t = some (false, 1)) (ha : evk n kvs a = .ptr q (off + i.toNat)) (hk : h q = some (.obj oty cs)) (hc : (cs.drop off).take m = cA kq m y) :
    AOpV P ⟨dst, .load t a, ty, pos, aft, none⟩ (.sc (.int kq x)) (fm n kvs) h := by
  refine Zg _ ht ha hk ?_
  obtain ⟨h0, h1, h2⟩ := ix_spec hi
  rw [y.2] at h1
  have e : (cs.drop off)[i.toNat]? = some (.sc (.int kq x)) := by
    have : ((cs.drop off).take m)[i.toNat]? = (cA kq m y)[i.toNat]? := by rw [hc]
    rw [List.getElem?_take_of_lt (by omega), cA_map, List.getElem?_map, h2] at this
    exact this
  simp only [ldv]
  rw [← List.drop_drop, List.head?_drop, e]
theorem take_cA {kq : IntKind} {m : Nat} (y : Ar m) : ((cA kq m y).drop 0).take m = cA kq m y := by
 rw [List.drop_zero, List.take_of_length_le]
 simp [cA]
theorem a_starp {K : AV → Heap → Prop} {m : Nat} {kq : IntKind} {dst : Option Tmp} {t oty : TypeId} {a b : Operand} {q : Key} {i x v : Int} {y : Ar m} (p : Nat) (hk : HOk h0 L) (hi : ix y.1 i = some x) (ha : evk n kvs a = .ptr q (0 + i.toNat)) (hL : L[p]? = some (some q, .obj oty (cA kq m y)))
    (hy : evk n kvs b = .sc (.int kq v)) (hs : tSz P t = some 1)
    (k : HOk h0 (L.set p (some q, .obj oty (cA kq m (arU y i.toNat v)))) → K (.sc undef) (hp h0 (L.set p (some q, .obj oty (cA kq m (arU y i.toNat v)))))) : AOp P ⟨dst, .store t a b, ty, pos, aft, none⟩ K (fm n kvs) (hp h0 L) := by
  obtain ⟨h1, h2, h3⟩ := ix_spec hi
  have hl : i.toNat < y.1.length := (List.getElem?_eq_some_iff.1 h3).1
  rw [Nat.zero_add] at ha
  refine a_store (xs := [.sc (.int kq v)]) p (cA kq m (arU y i.toNat v)) hk ha hL (by rw [hy]; rfl) rfl hs ?_ ?_ k
  · rw [Nat.ble_eq, cA_map, List.length_map]; simp only [List.length_singleton]; omega
  · rw [splice_one _ _ _ (by rw [cA_map, List.length_map]; exact hl), cA_map, cA_map, arU, List.map_set]
theorem o_inv {dst : Option Tmp} {t : TypeId} {a : Operand} {q : IntKind} {x : Int} (hq : q.signed = false) (ha : evk n kvs a = .sc (.int q x)) :
    AOpV P ⟨dst, .unOp .xor t a, ty, pos, aft, none⟩ (.sc (.int q (bitsV .xor q q.max x))) (fm n kvs) h := by
  refine AOp_value (x := .sc (.int q (bitsV .xor q q.max x))) (fun E w ac _ hv => ?_) ⟨rfl, rfl⟩
  have va := hv a (by simp [Op.operands])
  rw [ev_fm, ha] at va
  simp only [VR] at va
  refine ⟨.int q (bitsV .xor q q.max x), ?_, by simp only [VR]⟩
  simp [execOp, va, Op.unary, hq, Op.intBits, bitsV]
def bstr (l : List Int) : Option ByteArray := if (l.all fun z => decide (0 ≤ z) && decide (z < 256)) = true then some ⟨(l.map fun z => z.toNat.toUInt8).toArray⟩ else none
theorem strOf_b : ∀ {l : List Int}, (l.all fun z => decide (0 ≤ z) && decide (z < 256)) = true → strOf (l.map fun z => [AV.sc (.int .u8 z)]) = some (l.map fun z => z.toNat.toUInt8)
 | [], _ => rfl
 | z :: l, h => by
  simp only [List.all_cons, Bool.and_eq_true, decide_eq_true_eq] at h
  have ih := strOf_b (l := l) (by simpa using h.2)
  simp only [List.map_cons, strOf, ih]
  simp [h.1.1, h.1.2]
theorem o_bstr {c : Int → List AV} {dst : Option Tmp} {src dt e : TypeId} {x : Operand} {tag : Option Key} {l : List Int} {s : ByteArray} (hm : bstr l = some s) (hc : ∀ z, c z = [.sc (.int .u8 z)]) (hs : P.underlying src = some (.slice e)) (he : P.underlying e = some (.int .u8)) (hd : P.underlying dt = some .string)
    (hx : evk n kvs x = .sl tag 1 (l.map c)) : AOpV P ⟨dst, .convert src dt x, ty, pos, aft, none⟩ (.sc (.string s)) (fm n kvs) h := by
  unfold bstr at hm
  split at hm
  · rename_i hh
    cases hm
    have hcf : c = fun z => [.sc (.int .u8 z)] := funext hc
    subst hcf
    exact AOp_str rfl hs he hd (by rw [ev_fm]; exact hx) (strOf_b hh) ⟨rfl, rfl⟩
  · cases hm
theorem slc_nil {α : Type} {xs ys : List α} {tg : Option Key} {x y : Int} (hm : slc xs x y = some ys) (ot : tg = none → xs = []) : tg = none → ys = [] := by
 intro h
 have := ot h
 subst this
 unfold slc at hm
 split at hm
 ·cases hm; simp
 ·cases hm
theorem o_slco {α : Type} {c : α → List AV} {xs ys : List α} {dst : Option Tmp} {a : Operand} {lo hi : Option Operand} {t : TypeId} {tg : Option Key} {sz : Nat} {x y : Int} (hm : slc xs x y = some ys) (ht : elS P t = some sz) (h0 : Nat.blt 0 sz = true) (ot : tg = none → xs = []) (ha : evk n kvs a = ow tg sz (xs.map c))
    (hl : bdA 0 (evo n kvs lo) = some x) (hh : bdA xs.length (evo n kvs hi) = some y) : AOpV P ⟨dst, .slice t a lo hi none, ty, pos, aft, none⟩ (ow tg sz (ys.map c)) (fm n kvs) h := by
  cases tg with
  | some k => exact o_slc hm ht h0 ha hl hh
  | none =>
    have hx := ot rfl
    subst hx
    have hy := slc_nil hm ot rfl
    subst hy
    have hxy : x = 0 ∧ y = 0 := by
      unfold slc at hm
      split at hm
      · rename_i hc
        simp only [List.length_nil] at hc
        omega
      · cases hm
    obtain ⟨rfl, rfl⟩ := hxy
    have ha : evk n kvs a = .e0 := ha
    have e : ∀ o : Option Operand, o.map (ev (fm n kvs)) = evo n kvs o := fun o => by cases o <;> simp [evo, ev_fm]
    refine o_pv (c := (0 : Int) = 0 ∧ (0 : Int) = 0) ?_ ⟨rfl, rfl⟩
    have hT : slT P t = true := by simp [slT, ht]
    have hh' : bdA 0 (evo n kvs hi) = some 0 := hh
    simp only [pv, ev_fm, ha, e, slA, ht, Option.bind_some, hl, hh', hT, if_true]
    rfl
theorem o_weak {o : Oper} {x y : AV} (hx : AOpV P o x (fm n kvs) h) (le : ALe h x y) : AOpV P o y (fm n kvs) h := by
 intro E w a r hv Nx Qx hn
 refine hx E w a r hv Nx Qx fun x' v w' E' h' k r' vx kx => ?_
 obtain ⟨rfl, rfl⟩ := kx
 exact hn y v w' E' h' k r' (le E' w' v r' vx) ⟨rfl, rfl⟩
def bldTA (P : Program) (t : TypeId) : Option (List Value × List (Nat × Nat)) := match P.info? t, P.underlying t with
 | some it, some (.array n e) => match it.zero, P.info? e with
  | some z, some ie => some (z.cells.toList, (List.range n).map fun i => (i * ie.size, ie.size))
  | _, _ => none
 | _, _ => none
theorem fill_mono {f g : Nat → Option (Nat × Nat)} (hfg : ∀ i p, f i = some p → g i = some p) : ∀ {vs : List (Nat × Value)} {cur c : Array Value}, Instr.fill f cur vs = some c → Instr.fill g cur vs = some c
 | [], cur, c, h => h
 | (i, v) :: r, cur, c, h => by
  unfold Instr.fill at h ⊢
  cases e : f i with
  | none => rw [e] at h; cases h
  | some p =>
   rw [hfg i p e]
   rw [e] at h
   obtain ⟨off, sz⟩ := p
   simp only at h ⊢
   split at h
   ·cases h
   ·rename_i q
    rw [if_neg q]
    exact fill_mono hfg h
theorem o_blda {dst : Option Tmp} {t : TypeId} {parts : Array (Nat × Operand)} {zs : List Value} {pl : List (Nat × Nat)} (cs : List AV) (hb : bldTA P t = some (zs, pl)) (hc : bldA pl (zs.map .sc) (parts.toList.map fun p => (p.1, evk n kvs p.2)) = some cs) :
    AOpV P ⟨dst, .build t parts, ty, pos, aft, none⟩ (.agg cs) (fm n kvs) h := by
  refine AOp_value (x := .agg cs) (fun E w ac _ hv => ?_) ⟨rfl, rfl⟩
  have hps : ∀ (l : List (Nat × Operand)), (∀ p ∈ l, VR E w (ev (fm n kvs) p.2) (ac.eval p.2)) → PL E w (l.map fun p => (p.1, evk n kvs p.2)) (l.map fun p => (p.1, ac.eval p.2)) := by
    intro l
    induction l with
    | nil => intro _; exact .nil
    | cons p l ih =>
      intro hl
      refine .cons ?_ (ih fun q hq => hl q (by simp [hq]))
      have := hl p (by simp)
      rwa [ev_fm] at this
  have hall : ∀ p ∈ parts.toList, VR E w (ev (fm n kvs) p.2) (ac.eval p.2) := by
    intro p hp
    refine hv p.2 ?_
    simp only [Op.operands, Array.mem_def, List.mem_map]
    exact ⟨p, hp, rfl⟩
  have hz := VRL_sc (E := E) (w := w) zs
  obtain ⟨cur', f1, f2⟩ := bldA_sound (cur := zs.toArray) hc hz (hps _ hall)
  refine ⟨.agg cur', ?_, by simp only [VR]; exact ⟨_, rfl, f2⟩⟩
  have hbuilt : P.built t (parts.map fun (i, x) => (i, ac.eval x)).toList = some cur' := by
    unfold bldTA at hb
    unfold Program.built
    cases hit : P.info? t with
    | none => simp [hit] at hb
    | some it =>
      cases hu : P.underlying t with
      | none => simp [hit, hu] at hb
      | some d =>
        cases d <;> try (simp [hit, hu] at hb; done)
        case array m e =>
          cases hzr : it.zero with
          | none => simp [hit, hu, hzr] at hb
          | some z =>
            cases hp : P.info? e with
            | none => simp [hit, hu, hzr, hp] at hb
            | some ie =>
              simp only [hit, hu, hzr, hp, Option.some.injEq, Prod.mk.injEq] at hb
              obtain ⟨rfl, rfl⟩ := hb
              simp only [hzr, hp]
              have : (parts.map fun (i, x) => (i, ac.eval x)).toList = parts.toList.map fun p => (p.1, ac.eval p.2) := by simp
              rw [this]
              refine fill_mono (fun i p hi => ?_) (by simpa using f1)
              simp only [List.getElem?_toArray, List.getElem?_map, Option.map_eq_some_iff] at hi
              obtain ⟨j, hj, rfl⟩ := hi
              have := List.getElem?_eq_some_iff.1 hj
              obtain ⟨_, rfl⟩ := this
              simp
  simp only [execOp, Sem.run_bind, run_build w t _ cur' hbuilt, Result.andThen_ok, Sem.run_pure]
theorem bldA_run (q : IntKind) : ∀ (xs : List Int) (k : Nat) (pl : List (Nat × Nat)) (cs : List AV), (∀ i, i < k + xs.length → pl[i]? = some (i, 1)) → k + xs.length ≤ cs.length →
    bldA pl cs ((xs.zipIdx k).map fun p => (p.2, AV.sc (.int q p.1))) = some (cs.take k ++ xs.map (fun z => AV.sc (.int q z)) ++ cs.drop (k + xs.length))
  | [], k, pl, cs, _, _ => by simp [bldA]
  | x :: xs, k, pl, cs, h1, h2 => by
    simp only [List.length_cons] at h1 h2
    have hlt : k < cs.length := by omega
    simp only [List.zipIdx_cons, List.map_cons, bldA, h1 k (by omega), cellsOf]
    have hb : Nat.ble (k + 1) cs.length = true := by rw [Nat.ble_eq]; omega
    simp only [List.length_singleton, beq_self_eq_true, hb, Bool.and_true, Bool.true_and, List.all_cons, List.all_nil, ocell, Value.oneCell', if_true]
    rw [splice_one _ _ _ hlt, bldA_run q xs (k + 1) pl _ (fun i hi => h1 i (by omega)) (by rw [List.length_set]; omega)]
    congr 1
    rw [List.take_set, List.drop_set_of_lt (by omega)]
    have e1 : (cs.take (k + 1)).set k (AV.sc (.int q x)) = cs.take k ++ [AV.sc (.int q x)] := by
      rw [List.take_succ_eq_append_getElem hlt, List.set_append_right _ _ (by rw [List.length_take]; omega)]
      rw [List.length_take, Nat.min_eq_left (by omega), Nat.sub_self]
      rfl
    rw [e1, show k + 1 + xs.length = k + (xs.length + 1) from by omega]
    simp
theorem o_bldar {m : Nat} {q : IntKind} {dst : Option Tmp} {t : TypeId} {parts : Array (Nat × Operand)} {zs : List Value} {pl : List (Nat × Nat)} (xs : List Int) (hx : xs.length = m) (hb : bldTA P t = some (zs, pl)) (hpl : pl = (List.range m).map fun i => (i, 1)) (hz : zs.length = m)
    (hv : (parts.toList.map fun p => (p.1, evk n kvs p.2)) = (xs.zipIdx 0).map fun p => (p.2, AV.sc (.int q p.1))) : AOpV P ⟨dst, .build t parts, ty, pos, aft, none⟩ (.agg (cA q m ⟨xs, hx⟩)) (fm n kvs) h := by
  refine o_blda _ hb ?_
  rw [hv, bldA_run q xs 0 pl (zs.map .sc) (fun i hi => ?_) (by rw [List.length_map]; omega)]
  · rw [cA_map, List.take_zero, List.nil_append, List.drop_of_length_le (by rw [List.length_map]; omega), List.append_nil]
  · subst hpl
    rw [Nat.zero_add] at hi
    rw [List.getElem?_map, List.getElem?_range (by omega)]
    rfl
end ops
def pick {α : Type} (σ : List Nat) (L : List α) : List α := σ.filterMap fun i => L[i]?
def restI (σ : List Nat) (n : Nat) : List Nat := (List.range n).filter fun i => !σ.contains i
theorem pick_range {α : Type} (L : List α) : pick (List.range L.length) L = L := by
 induction L with
 | nil => rfl
 | cons x L ih =>
  unfold pick at ih ⊢
  rw [List.length_cons, List.range_succ_eq_map, List.filterMap_cons]
  simp only [List.getElem?_cons_zero, List.filterMap_map]
  exact congrArg (x :: ·) ih
theorem pick_perm {α : Type} {L : List α} {σ : List Nat} (h : σ.isPerm (List.range L.length) = true) : L.Perm (pick σ L) := by
 have := ((List.isPerm_iff.1 h).filterMap fun i => L[i]?).symm
 rwa [show (List.range L.length).filterMap (fun i => L[i]?) = L from pick_range L] at this
theorem hp_permI {h0 : Heap} {L L' : HL} (hk : HOk h0 L) (σ : List Nat) (hL : pick σ L = L') (ho : σ.isPerm (List.range L.length) = true) : hp h0 L = hp h0 L' ∧ HOk h0 L' :=
 hp_perm (hL ▸ pick_perm ho) hk
theorem hp_pick {h0 : Heap} {L : HL} (hk : HOk h0 L) (σ : List Nat) (ho : (σ ++ restI σ L.length).isPerm (List.range L.length) = true) : HOk h0 (pick σ L) ∧ Sub (hp h0 (pick σ L)) (hp h0 L) := by
 obtain ⟨e, k⟩ := hp_perm (pick_perm ho) hk
 have e2 : pick (σ ++ restI σ L.length) L = pick σ L ++ pick (restI σ L.length) L := List.filterMap_append
 rw [e2] at e k
 have := hp_sub (L' := pick σ L) (List.sublist_append_left _ _) k
 exact ⟨this.2, by rw [e]; exact this.1⟩
theorem FT.k2 {h : Heap} {n : Nat} {f g : KV} {d0 d1 : Nat} (hf : FT h n f g) : FT h n f (kp (kp g d1 (lk n f d1)) d0 (lk n f d0)) := .cons (ALe.refl _ _) (.cons (ALe.refl _ _) hf)
theorem ALeL.k2 {h : Heap} {x0 x1 : AV} {xs ys : List AV} (hf : ALeL h xs ys) : ALeL h (x0 :: x1 :: xs) (x0 :: x1 :: ys) := .cons (ALe.refl _ _) (.cons (ALe.refl _ _) hf)
theorem FT.k3 {h : Heap} {n : Nat} {f g : KV} {d0 d1 d2 : Nat} (hf : FT h n f g) : FT h n f (kp (kp (kp g d2 (lk n f d2)) d1 (lk n f d1)) d0 (lk n f d0)) := .cons (ALe.refl _ _) (.cons (ALe.refl _ _) (.cons (ALe.refl _ _) hf))
theorem ALeL.k3 {h : Heap} {x0 x1 x2 : AV} {xs ys : List AV} (hf : ALeL h xs ys) : ALeL h (x0 :: x1 :: x2 :: xs) (x0 :: x1 :: x2 :: ys) := .cons (ALe.refl _ _) (.cons (ALe.refl _ _) (.cons (ALe.refl _ _) hf))
theorem FT.k4 {h : Heap} {n : Nat} {f g : KV} {d0 d1 d2 d3 : Nat} (hf : FT h n f g) : FT h n f (kp (kp (kp (kp g d3 (lk n f d3)) d2 (lk n f d2)) d1 (lk n f d1)) d0 (lk n f d0)) := .cons (ALe.refl _ _) (.cons (ALe.refl _ _) (.cons (ALe.refl _ _) (.cons (ALe.refl _ _) hf)))
theorem ALeL.k4 {h : Heap} {x0 x1 x2 x3 : AV} {xs ys : List AV} (hf : ALeL h xs ys) : ALeL h (x0 :: x1 :: x2 :: x3 :: xs) (x0 :: x1 :: x2 :: x3 :: ys) := .cons (ALe.refl _ _) (.cons (ALe.refl _ _) (.cons (ALe.refl _ _) (.cons (ALe.refl _ _) hf)))
theorem FT.k5 {h : Heap} {n : Nat} {f g : KV} {d0 d1 d2 d3 d4 : Nat} (hf : FT h n f g) : FT h n f (kp (kp (kp (kp (kp g d4 (lk n f d4)) d3 (lk n f d3)) d2 (lk n f d2)) d1 (lk n f d1)) d0 (lk n f d0)) := .cons (ALe.refl _ _) (.cons (ALe.refl _ _) (.cons (ALe.refl _ _) (.cons (ALe.refl _ _) (.cons (ALe.refl _ _) hf))))
theorem ALeL.k5 {h : Heap} {x0 x1 x2 x3 x4 : AV} {xs ys : List AV} (hf : ALeL h xs ys) : ALeL h (x0 :: x1 :: x2 :: x3 :: x4 :: xs) (x0 :: x1 :: x2 :: x3 :: x4 :: ys) := .cons (ALe.refl _ _) (.cons (ALe.refl _ _) (.cons (ALe.refl _ _) (.cons (ALe.refl _ _) (.cons (ALe.refl _ _) hf))))
theorem FT.k6 {h : Heap} {n : Nat} {f g : KV} {d0 d1 d2 d3 d4 d5 : Nat} (hf : FT h n f g) : FT h n f (kp (kp (kp (kp (kp (kp g d5 (lk n f d5)) d4 (lk n f d4)) d3 (lk n f d3)) d2 (lk n f d2)) d1 (lk n f d1)) d0 (lk n f d0)) := .cons (ALe.refl _ _) (.cons (ALe.refl _ _) (.cons (ALe.refl _ _) (.cons (ALe.refl _ _) (.cons (ALe.refl _ _) (.cons (ALe.refl _ _) hf)))))
theorem ALeL.k6 {h : Heap} {x0 x1 x2 x3 x4 x5 : AV} {xs ys : List AV} (hf : ALeL h xs ys) : ALeL h (x0 :: x1 :: x2 :: x3 :: x4 :: x5 :: xs) (x0 :: x1 :: x2 :: x3 :: x4 :: x5 :: ys) := .cons (ALe.refl _ _) (.cons (ALe.refl _ _) (.cons (ALe.refl _ _) (.cons (ALe.refl _ _) (.cons (ALe.refl _ _) (.cons (ALe.refl _ _) hf)))))
theorem FT.k7 {h : Heap} {n : Nat} {f g : KV} {d0 d1 d2 d3 d4 d5 d6 : Nat} (hf : FT h n f g) : FT h n f (kp (kp (kp (kp (kp (kp (kp g d6 (lk n f d6)) d5 (lk n f d5)) d4 (lk n f d4)) d3 (lk n f d3)) d2 (lk n f d2)) d1 (lk n f d1)) d0 (lk n f d0)) := .cons (ALe.refl _ _) (.cons (ALe.refl _ _) (.cons (ALe.refl _ _) (.cons (ALe.refl _ _) (.cons (ALe.refl _ _) (.cons (ALe.refl _ _) (.cons (ALe.refl _ _) hf))))))
theorem ALeL.k7 {h : Heap} {x0 x1 x2 x3 x4 x5 x6 : AV} {xs ys : List AV} (hf : ALeL h xs ys) : ALeL h (x0 :: x1 :: x2 :: x3 :: x4 :: x5 :: x6 :: xs) (x0 :: x1 :: x2 :: x3 :: x4 :: x5 :: x6 :: ys) := .cons (ALe.refl _ _) (.cons (ALe.refl _ _) (.cons (ALe.refl _ _) (.cons (ALe.refl _ _) (.cons (ALe.refl _ _) (.cons (ALe.refl _ _) (.cons (ALe.refl _ _) hf))))))
theorem FT.k8 {h : Heap} {n : Nat} {f g : KV} {d0 d1 d2 d3 d4 d5 d6 d7 : Nat} (hf : FT h n f g) : FT h n f (kp (kp (kp (kp (kp (kp (kp (kp g d7 (lk n f d7)) d6 (lk n f d6)) d5 (lk n f d5)) d4 (lk n f d4)) d3 (lk n f d3)) d2 (lk n f d2)) d1 (lk n f d1)) d0 (lk n f d0)) := .cons (ALe.refl _ _) (.cons (ALe.refl _ _) (.cons (ALe.refl _ _) (.cons (ALe.refl _ _) (.cons (ALe.refl _ _) (.cons (ALe.refl _ _) (.cons (ALe.refl _ _) (.cons (ALe.refl _ _) hf)))))))
theorem ALeL.k8 {h : Heap} {x0 x1 x2 x3 x4 x5 x6 x7 : AV} {xs ys : List AV} (hf : ALeL h xs ys) : ALeL h (x0 :: x1 :: x2 :: x3 :: x4 :: x5 :: x6 :: x7 :: xs) (x0 :: x1 :: x2 :: x3 :: x4 :: x5 :: x6 :: x7 :: ys) := .cons (ALe.refl _ _) (.cons (ALe.refl _ _) (.cons (ALe.refl _ _) (.cons (ALe.refl _ _) (.cons (ALe.refl _ _) (.cons (ALe.refl _ _) (.cons (ALe.refl _ _) (.cons (ALe.refl _ _) hf)))))))
theorem FT.k9 {h : Heap} {n : Nat} {f g : KV} {d0 d1 d2 d3 d4 d5 d6 d7 d8 : Nat} (hf : FT h n f g) : FT h n f (kp (kp (kp (kp (kp (kp (kp (kp (kp g d8 (lk n f d8)) d7 (lk n f d7)) d6 (lk n f d6)) d5 (lk n f d5)) d4 (lk n f d4)) d3 (lk n f d3)) d2 (lk n f d2)) d1 (lk n f d1)) d0 (lk n f d0)) := .cons (ALe.refl _ _) (.cons (ALe.refl _ _) (.cons (ALe.refl _ _) (.cons (ALe.refl _ _) (.cons (ALe.refl _ _) (.cons (ALe.refl _ _) (.cons (ALe.refl _ _) (.cons (ALe.refl _ _) (.cons (ALe.refl _ _) hf))))))))
theorem ALeL.k9 {h : Heap} {x0 x1 x2 x3 x4 x5 x6 x7 x8 : AV} {xs ys : List AV} (hf : ALeL h xs ys) : ALeL h (x0 :: x1 :: x2 :: x3 :: x4 :: x5 :: x6 :: x7 :: x8 :: xs) (x0 :: x1 :: x2 :: x3 :: x4 :: x5 :: x6 :: x7 :: x8 :: ys) := .cons (ALe.refl _ _) (.cons (ALe.refl _ _) (.cons (ALe.refl _ _) (.cons (ALe.refl _ _) (.cons (ALe.refl _ _) (.cons (ALe.refl _ _) (.cons (ALe.refl _ _) (.cons (ALe.refl _ _) (.cons (ALe.refl _ _) hf))))))))
theorem FT.k11 {h : Heap} {n : Nat} {f g : KV} {d0 d1 d2 d3 d4 d5 d6 d7 d8 d9 d10 : Nat} (hf : FT h n f g) : FT h n f (kp (kp (kp (kp (kp (kp (kp (kp (kp (kp (kp g d10 (lk n f d10)) d9 (lk n f d9)) d8 (lk n f d8)) d7 (lk n f d7)) d6 (lk n f d6)) d5 (lk n f d5)) d4 (lk n f d4)) d3 (lk n f d3)) d2 (lk n f d2)) d1 (lk n f d1)) d0 (lk n f d0)) := .cons (ALe.refl _ _) (.cons (ALe.refl _ _) (.cons (ALe.refl _ _) (.cons (ALe.refl _ _) (.cons (ALe.refl _ _) (.cons (ALe.refl _ _) (.cons (ALe.refl _ _) (.cons (ALe.refl _ _) (.cons (ALe.refl _ _) (.cons (ALe.refl _ _) (.cons (ALe.refl _ _) hf))))))))))
theorem ALeL.k11 {h : Heap} {x0 x1 x2 x3 x4 x5 x6 x7 x8 x9 x10 : AV} {xs ys : List AV} (hf : ALeL h xs ys) : ALeL h (x0 :: x1 :: x2 :: x3 :: x4 :: x5 :: x6 :: x7 :: x8 :: x9 :: x10 :: xs) (x0 :: x1 :: x2 :: x3 :: x4 :: x5 :: x6 :: x7 :: x8 :: x9 :: x10 :: ys) := .cons (ALe.refl _ _) (.cons (ALe.refl _ _) (.cons (ALe.refl _ _) (.cons (ALe.refl _ _) (.cons (ALe.refl _ _) (.cons (ALe.refl _ _) (.cons (ALe.refl _ _) (.cons (ALe.refl _ _) (.cons (ALe.refl _ _) (.cons (ALe.refl _ _) (.cons (ALe.refl _ _) hf))))))))))
theorem FT.k12 {h : Heap} {n : Nat} {f g : KV} {d0 d1 d2 d3 d4 d5 d6 d7 d8 d9 d10 d11 : Nat} (hf : FT h n f g) : FT h n f (kp (kp (kp (kp (kp (kp (kp (kp (kp (kp (kp (kp g d11 (lk n f d11)) d10 (lk n f d10)) d9 (lk n f d9)) d8 (lk n f d8)) d7 (lk n f d7)) d6 (lk n f d6)) d5 (lk n f d5)) d4 (lk n f d4)) d3 (lk n f d3)) d2 (lk n f d2)) d1 (lk n f d1)) d0 (lk n f d0)) := .cons (ALe.refl _ _) (.cons (ALe.refl _ _) (.cons (ALe.refl _ _) (.cons (ALe.refl _ _) (.cons (ALe.refl _ _) (.cons (ALe.refl _ _) (.cons (ALe.refl _ _) (.cons (ALe.refl _ _) (.cons (ALe.refl _ _) (.cons (ALe.refl _ _) (.cons (ALe.refl _ _) (.cons (ALe.refl _ _) hf)))))))))))
theorem ALeL.k12 {h : Heap} {x0 x1 x2 x3 x4 x5 x6 x7 x8 x9 x10 x11 : AV} {xs ys : List AV} (hf : ALeL h xs ys) : ALeL h (x0 :: x1 :: x2 :: x3 :: x4 :: x5 :: x6 :: x7 :: x8 :: x9 :: x10 :: x11 :: xs) (x0 :: x1 :: x2 :: x3 :: x4 :: x5 :: x6 :: x7 :: x8 :: x9 :: x10 :: x11 :: ys) := .cons (ALe.refl _ _) (.cons (ALe.refl _ _) (.cons (ALe.refl _ _) (.cons (ALe.refl _ _) (.cons (ALe.refl _ _) (.cons (ALe.refl _ _) (.cons (ALe.refl _ _) (.cons (ALe.refl _ _) (.cons (ALe.refl _ _) (.cons (ALe.refl _ _) (.cons (ALe.refl _ _) (.cons (ALe.refl _ _) hf)))))))))))
section
variable {P : Program} {Q : Exit → Fr → Heap → Prop} {h h' : Heap} {n : Nat}
end
section
variable {P : Program} {ops : Array Oper} {K : Fr → Heap → Prop} {KQ : Fr → Prop} {h : Heap} {n : Nat} {kvs : KV} {l : List Oper} {ty : TypeId} {pos : String} {aft : Array Edge} {d : Option Tmp} {a b c : Operand} {q : IntKind} {x y : Int} {z t u : Bool} {T U : TypeId} {xs : List (List AV)} {sz : Nat} {w : Option Key}
theorem vC (e : evk n kvs a = .sc (.int q x)) (k : AOps P ops l K (fm n (putk kvs d (.sc (.int q x)))) h) : AOps P ops (⟨d, .assign a, ty, pos, aft, none⟩ :: l) K (fm n kvs) h := s_v (o_as (.sc (.int q x)) e) k
theorem vE (e : evk n kvs a = .sl w sz xs) (k : AOps P ops l K (fm n (putk kvs d (.sl w sz xs))) h) : AOps P ops (⟨d, .move a, ty, pos, aft, none⟩ :: l) K (fm n kvs) h := s_v (o_mv (.sl w sz xs) e) k
end
theorem LeF.s {n : Nat} {f g : KV} {h : Heap} (hf : FT h n f g) : LeF (Vm.fm n g) h (Vm.fm n f) h := LeF.fm (Sub.refl _) hf
theorem AW_rq {P : Program} {Q : Exit → Fr → Heap → Prop} {fr : Fr} {h : Heap} {id : Nat} {l : List Oper} (hm : P.follows .mixedOrders = true) (h2 : lexS 0 (l.map (summ l.toArray)) = true)
    (hl : AQuiet P l.toArray h (fun fr' => Q .normal fr' h) l fr) : AW P (.region id l.toArray true) Q fr h := AW_region_q _ hm rfl h2 hl
section
variable {P : Program} {ops : Array Oper} {K : Fr → Heap → Prop} {fs : List (Nat × Option Key × Ent)} {h : Heap} {n : Nat} {kvs : KV} {ty : TypeId} {pos : String} {aft' : Array Edge}
theorem z_w {f : Nat} {S : Array Bool} (i : Nat) {dst : Option Tmp} {op : Op} {x : AV} (hi : ops[i]? = some ⟨dst, op, ty, pos, aft', none⟩)
    (ho : ∀ S' h', InvL fs S' h' → (∀ j, aft ops i j = true → S'.getD j false = false) → AOpV P ⟨dst, op, ty, pos, aft', none⟩ x (fm n kvs) h')
    (k : AGI P ops fs K f (S.setIfInBounds i true) (fm n (putk kvs dst x)) h) (hz : zq ops S i = true := by kernel_rfl) (hn : (fs.all fun q => q.1 != i) = true := by rfl) : AGI P ops fs K (f + 1) S (fm n kvs) h := z_v i hi hz hn ho k
end
inductive Tr (α : Type) where
 | nil
 | node (k : Nat) (v : α) (l r : Tr α)
def Tr.find {α : Type} : Tr α → Nat → Option α
 | .nil, _ => none
 | .node k v l r, q => bif Nat.beq q k then some v else bif Nat.blt q k then l.find q else r.find q
def Tr.all {α : Type} (p : Nat → α → Bool) : Tr α → Bool
 | .nil => true
 | .node k v l r => p k v && l.all p && r.all p
theorem Tr.find_all {α : Type} {p : Nat → α → Bool} {q : Nat} {i : α} : ∀ {t : Tr α}, t.all p = true → t.find q = some i → p q i = true
 | .nil, _, h => by cases h
 | .node k v l r, ha, h => by
  simp only [Tr.all, Bool.and_eq_true] at ha
  simp only [Tr.find] at h
  cases e : Nat.beq q k
  ·rw [e] at h
   cases e2 : Nat.blt q k
   ·rw [e2] at h; exact find_all ha.2 h
   ·rw [e2] at h; exact find_all ha.1.2 h
  ·rw [e] at h
   cases h
   have := Nat.eq_of_beq_eq_true e
   subst this
   exact ha.1.1
structure TI where
 ld : Option (Bool × Nat)
 ti : Option IntKind
 fs : List Nat
def tiOk (P : Program) (q : Nat) (i : TI) : Bool :=
 (match i.ld with | none => true | some x => ldT P q == some x) && (match i.ti with | none => true | some k => decide (tInt P q = some k)) &&
 (List.range i.fs.length).all fun f => match i.fs[f]?, fdS P q f with | some o, some (o', s) => o == o' && s != 0 | _, _ => false
def TOk (P : Program) (T : Tr TI) : Prop := T.all (tiOk P) = true
theorem TOk.nil (P : Program) : TOk P .nil := rfl
section
variable {P : Program} {T : Tr TI}
theorem TOk.ld (hT : TOk P T) {t : Nat} {i : TI} (hi : T.find t = some i) {x : Bool × Nat} (hx : i.ld = some x) : ldT P t = some x := by
 have := Tr.find_all hT hi
 simp only [tiOk, Bool.and_eq_true, hx] at this
 exact beq_iff_eq.1 this.1.1
theorem TOk.ti (hT : TOk P T) {t : Nat} {i : TI} (hi : T.find t = some i) {k : IntKind} (hx : i.ti = some k) : tInt P t = some k := by
 have := Tr.find_all hT hi
 simp only [tiOk, Bool.and_eq_true, hx] at this
 exact of_decide_eq_true this.1.2
theorem TOk.fs (hT : TOk P T) {t f o : Nat} {i : TI} (hi : T.find t = some i) (hx : i.fs[f]? = some o) : ∃ s, fdS P t f = some (o, s) ∧ s ≠ 0 := by
 have := Tr.find_all hT hi
 simp only [tiOk, Bool.and_eq_true, List.all_eq_true, List.mem_range] at this
 have h1 := this.2 f (List.getElem?_eq_some_iff.1 hx).1
 rw [hx] at h1
 cases hf : fdS P t f with
 | none => rw [hf] at h1; cases h1
 | some y =>
  rw [hf] at h1
  simp only [Bool.and_eq_true, beq_iff_eq, bne_iff_ne, ne_eq] at h1
  exact ⟨y.2, by rw [h1.1], h1.2⟩
end
def cnd (b : Bool) (X Y : Prop) : Prop := match b with | true => X | false => Y
def cni (b : Bool) (X Y : Prop) : Prop := match b with | true => X | false => Y
inductive FR where
 | nil
 | c (d : Nat) (x : AV) (r : FR)
def FR.k : FR → KV
 | .nil => k0
 | .c d x r => kp r.k d x
def FR.put (f : FR) (d : Option Tmp) (x : AV) : FR := match d with | some d => .c d x f | none => f
theorem FR.put_k (f : FR) (d : Option Tmp) (x : AV) : (f.put d x).k = putk f.k d x := by cases d <;> rfl
def FR.find (f : FR) (t : Nat) (K : AV → Prop) : Prop := match f with
 | .nil => K .any
 | .c d x r => cni (Nat.beq d t) (K x) (r.find t K)
theorem FR.find_eq (t : Nat) (K : AV → Prop) : ∀ f : FR, f.find t K = K (f.k t)
 | .nil => rfl
 | .c d x r => by
  simp only [FR.find, FR.k, kp]
  cases Nat.beq d t
  ·exact FR.find_eq t K r
  ·rfl
def lkc (n : Nat) (f : FR) (t : Nat) (K : AV → Prop) : Prop := cni (Nat.blt t n) (f.find t K) (K .any)
theorem lkc_eq (n : Nat) (f : FR) (t : Nat) (K : AV → Prop) : lkc n f t K = K (lk n f.k t) := by
 unfold lkc lk
 cases Nat.blt t n
 ·rfl
 ·exact FR.find_eq t K f
def evc (n : Nat) (f : FR) (a : Operand) (K : AV → Prop) : Prop := match a with
 | .tmp t => lkc n f t K
 | .const v => K (cv v)
 | .global _ => K .any
 | .func f => K (.fn (.func f) [])
theorem evc_eq (n : Nat) (f : FR) (a : Operand) (K : AV → Prop) : evc n f a K = K (evk n f.k a) := by
 cases a <;> first | rfl | exact lkc_eq n f _ K
def iop (op : BinOp) (k : IntKind) (a b : Int) : Option Value :=
 match op with
 | .add => some (.int k (k.wrap (a + b)))
 | .sub => some (.int k (k.wrap (a - b)))
 | .mul => some (.int k (k.wrap (a * b)))
 | .and => some (.int k (bitsV .and k a b))
 | .or => some (.int k (bitsV .or k a b))
 | .xor => some (.int k (bitsV .xor k a b))
 | .eql => some (.bool (a == b))
 | .neq => some (.bool (a != b))
 | .lss => some (.bool (decide (a < b)))
 | .leq => some (.bool (decide (a ≤ b)))
 | .gtr => some (.bool (decide (b < a)))
 | .geq => some (.bool (decide (b ≤ a)))
 | _ => none
def vint (op : BinOp) (q : IntKind) (x : Int) (r : IntKind) (y : Int) (K : AV → Prop) (E : Prop) : Prop :=
 match op with
 | .shl => cnd (decide (0 ≤ y)) (K (.sc (.int q (q.wrap (x * 2 ^ (min y.toNat q.bits)))))) False
 | .shr => cnd (decide (0 ≤ y)) (K (.sc (.int q (x.fdiv (2 ^ (min y.toNat q.bits)))))) False
 | .quo => cni (decide (q = r)) (cnd (y != 0) (K (.sc (.int q (q.wrap (x.tdiv y))))) False) E
 | .rem => cni (decide (q = r)) (cnd (y != 0) (K (.sc (.int q (x.tmod y)))) False) E
 | op => cni (decide (q = r)) (match iop op q x y with | some v => K (.sc v) | none => E) E
def vbo (op : BinOp) (K : AV → Prop) (E : Prop) : AV → AV → Prop
 | .sc (.int q x), .sc (.int r y) => vint op q x r y K E
 | _, _ => E
def vpk (X Y : Prop) : AV → Prop
 | .sc (.bool b) => cnd b X Y
 | _ => False
def vnt (K : AV → Prop) (E : Prop) : AV → Prop
 | .sc (.bool b) => K (.sc (.bool (!b)))
 | _ => E
def vng (K : AV → Prop) (E : Prop) : AV → Prop
 | .sc (.int q x) => K (.sc (.int q (q.wrap (0 - x))))
 | _ => E
def vcv (a b : Option TI) (K : AV → Prop) (E : Prop) : AV → Prop
 | .sc (.int _ x) => match a.bind TI.ti, b.bind TI.ti with
  | some _, some r => K (.sc (.int r (r.wrap x)))
  | _, _ => E
 | _ => E
def vex (i : Nat) (K : AV → Prop) : AV → Prop
 | .tup xs => match xs[i]? with | some x => K x | none => False
 | _ => False
def vfl (a : Bool) (o : Option Nat) (x : AV) (K : AV → Prop) (E : Prop) : Prop := match a, o with
 | true, _ => E
 | _, none => E
 | false, some o => match x with
  | .rp t cs => K (.rp t (cs.drop o))
  | .ptr q f => K (.ptr q (f + o))
  | _ => E
def vld (a : Bool) (o : Option (Bool × Nat)) (x : AV) (K : AV → Prop) (E : Prop) : Prop := match a, o with
 | false, some (false, _) => match x with
  | .rp _ cs => match cs.head? with | some y => K y | none => False
  | _ => E
 | _, _ => E
def vnl (a : Bool) (x : AV) (K : AV → Prop) (E : Prop) : Prop := match a with
 | true => E
 | false => match x with
  | .ptr q f => K (.ptr q f)
  | .rp t cs => K (.rp t cs)
  | _ => E
def fsO (T : Tr TI) (t f : Nat) : Option Nat := (T.find t).bind fun i => i.fs[f]?
def vv (T : Tr TI) (w : Bool) (n : Nat) (f : FR) (op : Op) (K : AV → Prop) (E : Prop) : Prop :=
 match op with
 | .move a => evc n f a K
 | .assign a => evc n f a K
 | .pick c a b => evc n f c (vpk (evc n f a K) (evc n f b K))
 | .binOp op _ a b _ => evc n f a fun x => evc n f b fun y => vbo op K E x y
 | .unOp .not _ a => evc n f a (vnt K E)
 | .unOp .neg _ a => evc n f a (vng K E)
 | .convert t u a => evc n f a (vcv (T.find t) (T.find u) K E)
 | .extract a i => evc n f a (vex i K)
 | .fieldAddr t a g => evc n f a fun x => vfl w (fsO T t g) x K E
 | .load t a => evc n f a fun x => vld w ((T.find t).bind TI.ld) x K E
 | .nilCheck a => evc n f a fun x => vnl w x K E
 | .makeFunc fn first caps => cni (Nat.beq first.size 0) (K (.fn fn (caps.toList.map (evk n f.k)))) E
 | _ => E
theorem cnd_of {b : Bool} {X Y : Prop} (h : cnd b X Y) : (b = true ∧ X) ∨ (b = false ∧ Y) := by
 cases b
 ·exact .inr ⟨rfl, h⟩
 ·exact .inl ⟨rfl, h⟩
theorem cni_of {b : Bool} {X Y : Prop} (h : cni b X Y) : (b = true ∧ X) ∨ (b = false ∧ Y) := by
 cases b
 ·exact .inr ⟨rfl, h⟩
 ·exact .inl ⟨rfl, h⟩
theorem iop_ib {op : BinOp} {k : IntKind} {a b : Int} {v : Value} (h : iop op k a b = some v) : ib op k a b = some (True, v) ∧ op ≠ .shl ∧ op ≠ .shr := by
 cases op <;> simp only [iop, Option.some.injEq, reduceCtorEq] at h <;> subst h <;> exact ⟨rfl, nofun, nofun⟩
theorem bv_iop {op : BinOp} {k : IntKind} {a b : Int} {v : Value} (h : iop op k a b = some v) : bv op (.sc (.int k a)) (.sc (.int k b)) = some (True, v) := by
 obtain ⟨h1, h2, h3⟩ := iop_ib h
 cases op <;> first | exact absurd rfl h2 | exact absurd rfl h3 | (simp only [bv, if_true]; exact h1)
section
variable {P : Program} {T : Tr TI} {h : Heap} {n : Nat} {f : FR} {K : AV → Prop} {E : Prop}
def PV (P : Program) (h : Heap) (n : Nat) (f : FR) (op : Op) (K : AV → Prop) : Prop := ∃ x, (∃ c, pv P h (fm n f.k) op = some (c, x) ∧ c) ∧ K x
theorem PV.mk {op : Op} {x : AV} (c : Prop) (hp : pv P h (fm n f.k) op = some (c, x)) (hc : c) (k : K x) : PV P h n f op K := ⟨x, ⟨c, hp, hc⟩, k⟩
theorem vint_sound {op : BinOp} {q r : IntKind} {x y : Int} (hv : vint op q x r y K E) : (∃ c v, bv op (.sc (.int q x)) (.sc (.int r y)) = some (c, v) ∧ c ∧ K (.sc v)) ∨ E := by
 unfold vint at hv
 split at hv
 ·rcases cnd_of hv with ⟨h1, h2⟩ | ⟨_, h2⟩
  ·exact .inl ⟨_, _, rfl, of_decide_eq_true h1, h2⟩
  ·exact h2.elim
 ·rcases cnd_of hv with ⟨h1, h2⟩ | ⟨_, h2⟩
  ·exact .inl ⟨_, _, rfl, of_decide_eq_true h1, h2⟩
  ·exact h2.elim
 ·rcases cni_of hv with ⟨h1, h2⟩ | ⟨_, h2⟩
  ·have := of_decide_eq_true h1; subst this
   rcases cnd_of h2 with ⟨h3, h4⟩ | ⟨_, h4⟩
   ·exact .inl ⟨y ≠ 0, _, by simp only [bv, if_true, ib], by simpa using h3, h4⟩
   ·exact h4.elim
  ·exact .inr h2
 ·rcases cni_of hv with ⟨h1, h2⟩ | ⟨_, h2⟩
  ·have := of_decide_eq_true h1; subst this
   rcases cnd_of h2 with ⟨h3, h4⟩ | ⟨_, h4⟩
   ·exact .inl ⟨y ≠ 0, _, by simp only [bv, if_true, ib], by simpa using h3, h4⟩
   ·exact h4.elim
  ·exact .inr h2
 ·rcases cni_of hv with ⟨h1, h2⟩ | ⟨_, h2⟩
  ·have := of_decide_eq_true h1; subst this
   split at h2
   ·rename_i v hv; exact .inl ⟨True, v, bv_iop hv, trivial, h2⟩
   ·exact .inr h2
  ·exact .inr h2
theorem vv_sound (hT : TOk P T) {w : Bool} {op : Op} (hv : vv T w n f op K E) : PV P h n f op K ∨ E := by
 unfold vv at hv
 split at hv
 ·rename_i a; rw [evc_eq] at hv; exact .inl (.mk True (by simp only [pv, ev_fm]) trivial hv)
 ·rename_i a; rw [evc_eq] at hv; exact .inl (.mk True (by simp only [pv, ev_fm]) trivial hv)
 ·rename_i c a b
  simp only [evc_eq] at hv
  unfold vpk at hv
  split at hv
  ·rename_i t hc
   rcases cnd_of hv with ⟨h1, h2⟩ | ⟨h1, h2⟩ <;> subst h1 <;> exact .inl (.mk True (by simp only [pv, ev_fm, hc, pkA, pk, Option.map_some, tt]) trivial h2)
  ·exact hv.elim
 ·rename_i op t a b u
  simp only [evc_eq] at hv
  unfold vbo at hv
  split at hv
  ·rename_i q x r y ha hb
   rcases vint_sound hv with ⟨c, v, h1, h2, h3⟩ | hE
   ·exact .inl (.mk c (by simp only [pv, ev_fm, ha, hb, h1, Option.map_some]) h2 h3)
   ·exact .inr hE
  ·exact .inr hv
 ·rename_i t a
  simp only [evc_eq] at hv
  unfold vnt at hv
  split at hv
  ·rename_i b ha; exact .inl (.mk True (by simp only [pv, ev_fm, ha, unA, Option.map_some, tt]) trivial hv)
  ·exact .inr hv
 ·rename_i t a
  simp only [evc_eq] at hv
  unfold vng at hv
  split at hv
  ·rename_i q x ha; exact .inl (.mk True (by simp only [pv, ev_fm, ha, unA, Option.map_some, tt]) trivial hv)
  ·exact .inr hv
 ·rename_i t u a
  simp only [evc_eq] at hv
  unfold vcv at hv
  split at hv
  ·rename_i q x ha
   split at hv
   ·rename_i k r h1 h2
    rw [Option.bind_eq_some_iff] at h1 h2
    obtain ⟨i1, a1, b1⟩ := h1
    obtain ⟨i2, a2, b2⟩ := h2
    have e1 := hT.ti a1 b1
    have e2 := hT.ti a2 b2
    exact .inl (.mk True (by simp only [pv, ev_fm, ha, e1, e2, cvA, Option.map_some, Option.bind_some, tt]) trivial hv)
   ·exact .inr hv
  ·exact .inr hv
 ·rename_i a i
  simp only [evc_eq] at hv
  unfold vex at hv
  split at hv
  ·rename_i xs ha
   split at hv
   ·rename_i x hx
    exact .inl (.mk True (by simp only [pv, ev_fm, ha, exA, hx, Option.map_some, tt]) trivial hv)
   ·exact hv.elim
  ·exact hv.elim
 ·rename_i t a g
  simp only [evc_eq] at hv
  unfold vfl fsO at hv
  split at hv
  ·exact .inr hv
  ·exact .inr hv
  ·rename_i o ho
   rw [Option.bind_eq_some_iff] at ho
   obtain ⟨i, a1, b1⟩ := ho
   obtain ⟨s, e1, e2⟩ := hT.fs a1 b1
   split at hv
   ·rename_i tg cs ha; exact .inl (.mk True (by simp only [pv, ev_fm, ha, e1, Option.bind_some, e2, if_false, fdA, Option.map_some, tt]) trivial hv)
   ·rename_i q off ha; exact .inl (.mk True (by simp only [pv, ev_fm, ha, e1, Option.bind_some, e2, if_false, fdA, Option.map_some, tt]) trivial hv)
   ·exact .inr hv
 ·rename_i t a
  simp only [evc_eq] at hv
  unfold vld at hv
  split at hv
  ·rename_i m ho
   rw [Option.bind_eq_some_iff] at ho
   obtain ⟨i, a1, b1⟩ := ho
   have e1 := hT.ld a1 b1
   split at hv
   ·rename_i tg cs ha
    split at hv
    ·rename_i y hy
     exact .inl (.mk True (by simp only [pv, ev_fm, ha, e1, Option.bind_some, ldA, ldv, hy, Option.map_some, tt]) trivial hv)
    ·exact hv.elim
   ·exact .inr hv
  ·exact .inr hv
 ·rename_i a
  simp only [evc_eq] at hv
  unfold vnl at hv
  split at hv
  ·exact .inr hv
  ·split at hv
   ·rename_i q off ha; exact .inl (.mk True (by simp only [pv, ev_fm, ha, nilA, Option.map_some, tt]) trivial hv)
   ·rename_i tg cs ha; exact .inl (.mk True (by simp only [pv, ev_fm, ha, nilA, Option.map_some, tt]) trivial hv)
   ·exact .inr hv
 ·rename_i fn first caps
  rcases cni_of hv with ⟨h1, h2⟩ | ⟨_, h2⟩
  ·have h1 := Nat.eq_of_beq_eq_true h1
   refine .inl (.mk True ?_ trivial h2)
   have e : caps.toList.map (ev (fm n f.k)) = caps.toList.map (evk n f.k) := List.map_congr_left fun o _ => ev_fm n f.k o
   simp only [pv, h1, if_true, e]
  ·exact .inr h2
 ·exact .inr hv
end
def QK (h : Heap) (n : Nat) (K : FR → HL → Prop) (fr : Fr) (hh : Heap) : Prop := ∃ f L, HOk h L ∧ LeF (fm n f.k) (hp h L) fr hh ∧ K f L
theorem LeF.rfl' {fr : Fr} {h : Heap} : LeF fr h fr h := LeF.eqh rfl
structure VN (q : Bool) (P : Program) (h : Heap) (n : Nat) (o : Oper) (K : FR → HL → Prop) (f : FR) (L : HL) : Prop where
 v : q = true → HOk h L → ∃ x, AOpV P o x (fm n f.k) (hp h L) ∧ K (f.put o.dst x) L
 e : q = false → HOk h L → AOp P o (fun x h' => QK h n K (fm n (f.put o.dst x).k) h') (fm n f.k) (hp h L)
def gd (_ : Nat) (w : Bool) (X Y : FR → Prop) (f : FR) (b : Bool) : Prop := match w with
 | true => cnd b (X f) (Y f)
 | false => cnd b (Y f) (X f)
def vgb (d : Nat) (w : Bool) (X Y : FR → Prop) (f : FR) : AV → Prop
 | .sc (.bool b) => gd d w X Y f b
 | .sc (.tuple _) => Y f
 | _ => False
def vgd (l0 : List Oper) (n : Nat) (g : Option (Nat × Bool)) (X Y : FR → Prop) (f : FR) : Prop := match g with
 | none => X f
 | some (j, w) => match (l0[j]?).bind (·.dst) with
  | some d => lkc n f d (vgb d w X Y f)
  | none => False
def vo (q : Bool) (T : Tr TI) (w : Bool) (P : Program) (h : Heap) (n : Nat) (l0 : List Oper) (K : FR → HL → Prop) : List Oper → FR → HL → Prop
  | [], f, L => K f L
  | ⟨d, op, ty, pos, aft, g⟩ :: l, f, L => vgd l0 n g
      (fun f => vv T w n f op (fun x => vo q T w P h n l0 K l (f.put d x) L) (VN q P h n ⟨d, op, ty, pos, aft, none⟩ (vo q T w P h n l0 K l) f L))
      (fun f => vo q T w P h n l0 K l (f.put d (.sc undef)) L) f
section
variable {P : Program} {T : Tr TI} {w : Bool} {h : Heap} {n : Nat} {l0 : List Oper} {K : FR → HL → Prop}
theorem vo_s (hT : TOk P T) : ∀ (l : List Oper) (f : FR) (L : HL), vo false T w P h n l0 K l f L → HOk h L → AOps P l0.toArray l (QK h n K) (fm n f.k) (hp h L)
 | [], f, L, hv, hk => AOps_nil ⟨f, L, hk, LeF.rfl', hv⟩
 | ⟨d, op, ty, pos, aft, g⟩ :: l, f, L, hv, hk => by
  have ih : ∀ (f : FR) (d : Option Tmp) (x : AV) (L : HL), vo false T w P h n l0 K l (f.put d x) L → HOk h L → AOps P l0.toArray l (QK h n K) (fm n (putk f.k d x)) (hp h L) := fun f d x L a b => by
   rw [← FR.put_k]; exact vo_s hT l _ _ a b
  have main : ∀ f, vv T w n f op (fun x => vo false T w P h n l0 K l (f.put d x) L) (VN false P h n ⟨d, op, ty, pos, aft, none⟩ (vo false T w P h n l0 K l) f L) → AOps P l0.toArray (⟨d, op, ty, pos, aft, none⟩ :: l) (QK h n K) (fm n f.k) (hp h L) := by
   intro f hv
   rcases vv_sound (h := hp h L) hT hv with ⟨x, ⟨c, hp, hc⟩, k⟩ | hE
   ·exact s_v (o_pv hp hc) (ih _ _ _ _ k hk)
   ·refine s_op ((hE.e rfl hk).mono ?_)
    intro x h' q
    rw [FR.put_k] at q
    obtain ⟨f', L', hk', le, k⟩ := q
    exact le.aops (vo_s hT l _ _ k hk')
  unfold vo vgd at hv
  split at hv
  ·exact main f hv
  ·rename_i j w'
   split at hv
   ·rename_i dj hd
    have hd' : (l0.toArray[j]?).bind (·.dst) = some dj := by simpa using hd
    rw [lkc_eq] at hv
    unfold vgb at hv
    split at hv
    ·rename_i b hu
     unfold gd at hv
     split at hv
     ·rcases cnd_of hv with ⟨h1, h2⟩ | ⟨h1, h2⟩
      ·exact sg_y hd' hu h1 (main f h2)
      ·exact Zo hd' hu h1 (ih _ _ _ _ h2 hk)
     ·rcases cnd_of hv with ⟨h1, h2⟩ | ⟨h1, h2⟩
      ·exact Zo hd' hu h1 (ih _ _ _ _ h2 hk)
      ·exact sg_y hd' hu h1 (main f h2)
    ·rename_i vs hu; exact sg_u hd' hu (ih _ _ _ _ hv hk)
    ·exact hv.elim
   ·exact hv.elim
theorem vo_q (hT : TOk P T) : ∀ (l : List Oper) (f : FR) (L : HL), vo true T w P h n l0 K l f L → HOk h L → AQuiet P l0.toArray (hp h L) (fun fr => ∃ f, fr = fm n f.k ∧ K f L) l (fm n f.k)
 | [], f, L, hv, hk => ⟨f, rfl, hv⟩
 | ⟨d, op, ty, pos, aft, g⟩ :: l, f, L, hv, hk => by
  have ih : ∀ (f : FR) (d : Option Tmp) (x : AV) (L : HL), vo true T w P h n l0 K l (f.put d x) L → HOk h L → AQuiet P l0.toArray (hp h L) (fun fr => ∃ f : FR, fr = fm n f.k ∧ K f L) l (fm n (putk f.k d x)) := fun f d x L a b => by
   rw [← FR.put_k]; exact vo_q hT l _ _ a b
  have main : ∀ f, vv T w n f op (fun x => vo true T w P h n l0 K l (f.put d x) L) (VN true P h n ⟨d, op, ty, pos, aft, none⟩ (vo true T w P h n l0 K l) f L) → AQuiet P l0.toArray (hp h L) (fun fr => ∃ f, fr = fm n f.k ∧ K f L) (⟨d, op, ty, pos, aft, none⟩ :: l) (fm n f.k) := by
   intro f hv
   rcases vv_sound (h := hp h L) hT hv with ⟨x, ⟨c, hp, hc⟩, k⟩ | hE
   ·exact q_v (o_pv hp hc) (ih _ _ _ _ k hk)
   ·obtain ⟨x, ho, k⟩ := hE.v rfl hk
    exact q_v ho (ih _ _ _ _ k hk)
  unfold vo vgd at hv
  split at hv
  ·exact main f hv
  ·rename_i j w'
   split at hv
   ·rename_i dj hd
    have hd' : (l0.toArray[j]?).bind (·.dst) = some dj := by simpa using hd
    rw [lkc_eq] at hv
    unfold vgb at hv
    split at hv
    ·rename_i b hu
     unfold gd at hv
     split at hv
     ·rcases cnd_of hv with ⟨h1, h2⟩ | ⟨h1, h2⟩
      ·exact Zk hd' hu h1 (main f h2)
      ·exact Ze hd' hu h1 (ih _ _ _ _ h2 hk)
     ·rcases cnd_of hv with ⟨h1, h2⟩ | ⟨h1, h2⟩
      ·exact Ze hd' hu h1 (ih _ _ _ _ h2 hk)
      ·exact Zk hd' hu h1 (main f h2)
    ·rename_i vs hu; exact qg_u hd' hu (ih _ _ _ _ hv hk)
    ·exact hv.elim
   ·exact hv.elim
end
def QQ (h : Heap) (n : Nat) (kn : FR → HL → Prop) (ke : Exit → FR → HL → Prop) (e : Exit) : Fr → Heap → Prop := QK h n (match e with | .normal => kn | e => ke e)
structure VC (P : Program) (h : Heap) (n : Nat) (c : Code) (kn : FR → HL → Prop) (ke : Exit → FR → HL → Prop) (f : FR) (L : HL) : Prop where
 r : HOk h L → AW P c (QQ h n kn ke) (fm n f.k) (hp h L)
structure VD (P : Program) (h : Heap) (n : Nat) (id : Nat) (ops : Array Oper) (kn : FR → HL → Prop) (f : FR) (L : HL) : Prop where
 r : HOk h L → AW P (.region id ops true) (fun e fr hh => e = .normal ∧ QK h n kn fr hh) (fm n f.k) (hp h L)
def vbx (id : Nat) (kn : FR → HL → Prop) (ke : Exit → FR → HL → Prop) : Exit → FR → HL → Prop
 | .exit i => bif Nat.beq i id then kn else ke (.exit i)
 | e => ke e
def vc (T : Tr TI) (w : Bool) (P : Program) (h : Heap) (n : Nat) : Code → (FR → HL → Prop) → (Exit → FR → HL → Prop) → FR → HL → Prop
 | .skip, kn, _, f, L => kn f L
 | .region id ops z, kn, _, f, L => match z with
  | false => vo false T w P h n ops.toList kn ops.toList f L
  | true => VD P h n id ops kn f L
 | .seq a b, kn, ke, f, L => vc T w P h n a (VC P h n b kn ke) ke f L
 | .cond c a b, kn, ke, f, L => evc n f c (vpk (VC P h n a kn ke f L) (VC P h n b kn ke f L))
 | .block id c, kn, ke, f, L => VC P h n c kn (vbx id kn ke) f L
 | .exit id, _, ke, f, L => ke (.exit id) f L
 | .label _, kn, _, f, L => kn f L
 | .ret, _, ke, f, L => ke .ret f L
 | .goto l, _, ke, f, L => ke (.goto l) f L
 | c, kn, ke, f, L => VC P h n c kn ke f L
section
variable {P : Program} {T : Tr TI} {w : Bool} {h : Heap} {n : Nat}
theorem QK.aw {c : Code} {Q : Exit → Fr → Heap → Prop} {K : FR → HL → Prop} {fr : Fr} {hh : Heap} (hq : QK h n K fr hh) (hc : ∀ f L, HOk h L → K f L → AW P c Q (fm n f.k) (hp h L)) : AW P c Q fr hh :=
 let ⟨f, L, hk, le, k⟩ := hq; le.aw (hc f L hk k)
theorem QK.of {K : FR → HL → Prop} {f : FR} {L : HL} (hk : HOk h L) (k : K f L) : QK h n K (fm n f.k) (hp h L) := ⟨f, L, hk, LeF.rfl', k⟩
theorem vcS (hT : TOk P T) : ∀ (c : Code) {kn : FR → HL → Prop} {ke : Exit → FR → HL → Prop} {f : FR} {L : HL}, vc T w P h n c kn ke f L → VC P h n c kn ke f L
  | .skip, _, _, _, _, hv => ⟨fun hk => Zl (QK.of hk hv)⟩
  | .region id ops false, kn, ke, f, L, hv => ⟨fun hk => by
      have h1 := vo_s hT ops.toList f L hv hk
      exact AW_region (l := ops.toList) h1⟩
  | .region id ops true, kn, ke, f, L, hv => ⟨fun hk => (VD.r hv hk).mono fun e fr hh q => by obtain ⟨rfl, q⟩ := q; exact q⟩
  | .seq a b, kn, ke, f, L, hv => ⟨fun hk => AW_seq (((vcS hT a hv).r hk).mono fun e fr hh q => by
      cases e with
      | normal => exact QK.aw q fun f L hk k => k.r hk
      | exit i => exact q
      | goto l => exact q
      | ret => exact q
      | panic c => exact q
      | outgrown => exact q)⟩
  | .cond c a b, kn, ke, f, L, hv => ⟨fun hk => by
      unfold vc at hv
      rw [evc_eq] at hv
      unfold vpk at hv
      split at hv
      · rename_i t hc
        rcases cnd_of hv with ⟨h1, h2⟩ | ⟨h1, h2⟩
        · exact AW_if' hc (fun _ => h2.r hk) (fun e => by rw [e] at h1; cases h1)
        · exact AW_if' hc (fun e => by rw [e] at h1; cases h1) (fun _ => h2.r hk)
      · exact hv.elim⟩
  | .block id c, kn, ke, f, L, hv => ⟨fun hk => AW_block ((VC.r hv hk).mono fun e fr hh q => by
      cases e with
      | normal => exact q
      | exit i =>
        simp only [QQ, vbx] at q
        by_cases hi : i = id
        · subst hi
          have : Nat.beq i i = true := Nat.beq_refl i
          rw [this] at q
          simp only [Blk, if_true]
          exact q
        · have : Nat.beq i id = false := by
            cases e : Nat.beq i id with
            | false => rfl
            | true => exact absurd (Nat.eq_of_beq_eq_true e) hi
          rw [this] at q
          simp only [Blk, hi, if_false]
          exact q
      | goto l => exact q
      | ret => exact q
      | panic c => exact q
      | outgrown => exact q)⟩
  | .exit id, _, _, _, _, hv => ⟨fun hk => AW_exit (QK.of hk hv)⟩
  | .label l, _, _, _, _, hv => ⟨fun hk => AW_label (QK.of hk hv)⟩
  | .ret, _, _, _, _, hv => ⟨fun hk => AW_ret (QK.of hk hv)⟩
  | .goto l, _, _, _, _, hv => ⟨fun hk => AW_goto (QK.of hk hv)⟩
  | .loop c, _, _, _, _, hv => hv
  | .rangeFunc a b c d, _, _, _, _, hv => hv
  | .scope c, _, _, _, _, hv => hv
  | .refuse s, _, _, _, _, hv => hv
theorem vs {a b : Code} {kn : FR → HL → Prop} {ke : Exit → FR → HL → Prop} {f : FR} {L : HL} (hv : VC P h n a (VC P h n b kn ke) ke f L) : VC P h n (.seq a b) kn ke f L :=
  ⟨fun hk => AW_seq ((hv.r hk).mono fun e fr hh q => by
      cases e with
      | normal => exact QK.aw q fun f L hk k => k.r hk
      | exit i => exact q
      | goto l => exact q
      | ret => exact q
      | panic c => exact q
      | outgrown => exact q)⟩
theorem vle {c : Code} {kn : FR → HL → Prop} {ke : Exit → FR → HL → Prop} {f g : FR} {L L' : HL} (le : HOk h L → HOk h L' ∧ LeF (fm n g.k) (hp h L') (fm n f.k) (hp h L)) (k : VC P h n c kn ke g L') : VC P h n c kn ke f L :=
 ⟨fun hk => let ⟨h1, h2⟩ := le hk; h2.aw (k.r h1)⟩
theorem AQuiet.mono {ops : Array Oper} {h : Heap} {K K' : Fr → Prop} (hk : ∀ fr, K fr → K' fr) : ∀ {l : List Oper} {fr : Fr}, AQuiet P ops h K l fr → AQuiet P ops h K' l fr
 | [], _, q => hk _ q
 | _ :: _, _, q => let ⟨x, hy, k⟩ := q; ⟨x, hy, AQuiet.mono hk k⟩
theorem vqT (hT : TOk P T) {id : Nat} {l : List Oper} {kn : FR → HL → Prop} {f : FR} {L : HL} (hm : P.follows .mixedOrders = true) (h2 : lexS 0 (l.map (summ l.toArray)) = true)
    (k : vo true T w P h n l kn l f L) : VD P h n id l.toArray kn f L :=
  ⟨fun hk => (AW_rq (Q := fun e fr hh => e = .normal ∧ QK h n kn fr hh) hm h2 ((vo_q hT l f L k hk).mono fun fr q => by
    obtain ⟨f', rfl, q⟩ := q; exact ⟨rfl, QK.of hk q⟩))⟩
end
section
variable {P : Program} {h : Heap} {n : Nat}
def LX (h : Heap) (n : Nat) (f : FR) (L : HL) (g : FR) (L' : HL) : Prop := HOk h L → HOk h L' ∧ LeF (fm n g.k) (hp h L') (fm n f.k) (hp h L)
theorem lx {f g : FR} {L : HL} (hf : FT (hp h L) n f.k g.k) : LX h n f L g L := fun hk => ⟨hk, LeF.s hf⟩
theorem lxs {f g : FR} {L L' : HL} (σ : List Nat) (hL : pick σ L = L') (ho : (σ ++ restI σ L.length).isPerm (List.range L.length) = true) (hf : FT (hp h L') n f.k g.k) : LX h n f L g L' := fun hk => by
 subst hL
 obtain ⟨h1, h2⟩ := hp_pick hk σ ho
 exact ⟨h1, LeF.fm h2 hf⟩
structure GN {τ σ ρ : Type} (h : Heap) (n : Nat) (J : τ → σ → Prop) (sl : τ → σ → FR) (Lg : τ → σ → HL) (w : σ → Lp σ ρ) (x : Lp σ ρ) (f : FR) (L : HL) : Prop where
 g : ∃ s g, x = w s ∧ J g s ∧ LX h n f L (sl g s) (Lg g s)
inductive GE {τ σ ρ : Type} (h : Heap) (n : Nat) (J : τ → σ → Prop) (sl : τ → σ → FR) (Lg : τ → σ → HL) (id : Option Nat) (ke : Exit → FR → HL → Prop) (o : ρ) (x : Lp σ ρ) (e : Exit) (f : FR) (L : HL) : Prop
 | b (i : Nat) (hi : id = some i) (he : e = .exit i) (q : GN h n J sl Lg .brk x f L)
 | r (y : ρ) (hx : x = .ret y) (h1 : e ≠ .normal) (h2 : ∀ i, id = some i → e ≠ .exit i) (k : y = o → ke e f L)
theorem vgo {τ σ ρ : Type} {J : τ → σ → Prop} {sl : τ → σ → FR} {Lg : τ → σ → HL} {w : σ → Lp σ ρ} {x : Lp σ ρ} {f : FR} {L : HL} {s : σ} (hm : some (w s) = some x) (g : τ) (j : J g s) (le : LX h n f L (sl g s) (Lg g s)) : GN h n J sl Lg w x f L :=
 ⟨s, g, (Option.some.inj hm).symm, j, le⟩
theorem vbk {τ σ ρ : Type} {J : τ → σ → Prop} {sl : τ → σ → FR} {Lg : τ → σ → HL} {i : Nat} {ke : Exit → FR → HL → Prop} {o : ρ} {x : Lp σ ρ} {f : FR} {L : HL} {s : σ} (hm : some (.brk s) = some x) (g : τ) (j : J g s) (le : LX h n f L (sl g s) (Lg g s)) : GE h n J sl Lg (some i) ke o x (.exit i) f L :=
 .b i rfl rfl (vgo hm g j le)
theorem vrt {τ σ ρ : Type} {J : τ → σ → Prop} {sl : τ → σ → FR} {Lg : τ → σ → HL} {id : Option Nat} {ke : Exit → FR → HL → Prop} {o y : ρ} {x : Lp σ ρ} {f : FR} {L : HL} (hm : some (.ret y) = some x) (k : some y = some o → ke .ret f L) : GE h n J sl Lg id ke o x .ret f L :=
 .r y (Option.some.inj hm).symm nofun (fun _ _ => nofun) fun e => k (by rw [e])
theorem vxt {τ σ ρ : Type} {J : τ → σ → Prop} {sl : τ → σ → FR} {Lg : τ → σ → HL} {id : Option Nat} {i : Nat} {ke : Exit → FR → HL → Prop} {o y : ρ} {x : Lp σ ρ} {f : FR} {L : HL} (hm : some (.ret y) = some x) (hi : (match id with | some j => Nat.beq i j | none => false) = false) (k : some y = some o → ke (.exit i) f L) : GE h n J sl Lg id ke o x (.exit i) f L :=
 .r y (Option.some.inj hm).symm nofun (fun j hj e => by subst hj; cases e; simp only [Nat.beq_refl] at hi; cases hi) fun e => k (by rw [e])
theorem LX.le {f g : FR} {L L' : HL} {fr : Fr} {hh : Heap} (le : LX h n f L g L') (hk : HOk h L) (l0 : LeF (fm n f.k) (hp h L) fr hh) : HOk h L' ∧ LeF (fm n g.k) (hp h L') fr hh :=
 let ⟨h1, h2⟩ := le hk; ⟨h1, l0.trans h2⟩
theorem vlp {τ σ ρ : Type} {id : Nat} {c : Code} {kn : FR → HL → Prop} {ke : Exit → FR → HL → Prop} {f : FR} {L : HL} {step : σ → Option (Lp σ ρ)} {fuel : Nat} {s0 : σ} {k : σ → Option ρ} {o : ρ} (hm : after (loopM step fuel s0) k = some o)
    (Lg : τ → σ → HL) (J : τ → σ → Prop) (sl : τ → σ → FR) (g0 : τ) (i0 : J g0 s0) (h0 : LX h n f L (sl g0 s0) (Lg g0 s0))
    (round : ∀ g s x, J g s → step s = some x → VC P h n c (GN h n J sl Lg .go x) (GE h n J sl Lg (some id) ke o x) (sl g s) (Lg g s))
    (next : ∀ g s, J g s → k s = some o → kn (sl g s) (Lg g s)) : VC P h n (.block id (.loop c)) kn ke f L := by
  refine ⟨fun hkL => AW_block ?_⟩
  obtain ⟨out, hout, hk⟩ : ∃ out, loopM step fuel s0 = some out ∧ ((∃ s, out = .brk s ∧ k s = some o) ∨ ∃ r, out = .ret r ∧ r = o) := by
    cases e : loopM step fuel s0 with
    | none => rw [e] at hm; cases hm
    | some out =>
      rw [e] at hm
      cases out with
      | go s => cases hm
      | brk s => exact ⟨_, rfl, .inl ⟨s, rfl, hm⟩⟩
      | ret r => exact ⟨_, rfl, .inr ⟨r, rfl, Option.some.inj hm⟩⟩
  obtain ⟨hk1, le1⟩ := h0 hkL
  refine AW_loop (fun m fr' h' => ∃ s, loopM step m s = some out ∧ ∃ g, J g s ∧ HOk h (Lg g s) ∧ LeF (fm n (sl g s).k) (hp h (Lg g s)) fr' h') fuel ⟨s0, hout, g0, i0, hk1, le1⟩ ?_
  rintro m fr' h' ⟨s, hs, g, hj, hk2, hle⟩
  cases m with
  | zero => cases hs
  | succ m =>
    simp only [loopM] at hs
    cases e : step s with
    | none => rw [e] at hs; cases hs
    | some x =>
      rw [e] at hs
      refine hle.aw (((round g s x hj e).r hk2).mono ?_)
      rintro ex fr'' h'' ⟨f1, L1, hk3, le3, q⟩
      cases ex with
      | normal =>
        obtain ⟨s', g', rfl, j', le4⟩ := q.g
        obtain ⟨hk5, le5⟩ := le4.le hk3 le3
        exact ⟨m, Nat.lt_succ_self m, s', hs, g', j', hk5, le5⟩
      | exit i =>
        cases q with
        | b i' hi he q =>
          cases hi; cases he
          obtain ⟨s', g', rfl, j', le4⟩ := q.g
          obtain ⟨hk5, le5⟩ := le4.le hk3 le3
          cases hs
          simp only [Seq, Blk, if_true]
          rcases hk with ⟨s2, e2, hk⟩ | ⟨r, e2, _⟩
          · cases e2; exact ⟨_, _, hk5, le5, next _ _ j' hk⟩
          · cases e2
        | r y hx h1 h2 k2 =>
          subst hx
          have : i ≠ id := fun e => h2 id rfl (by rw [e])
          cases hs
          simp only [Seq, Blk, this, if_false]
          rcases hk with ⟨s2, e2, _⟩ | ⟨r', e2, e3⟩
          · cases e2
          · cases e2; exact ⟨_, _, hk3, le3, k2 e3⟩
      | goto l =>
        cases q with
        | b i' hi he q => cases he
        | r y hx h1 h2 k2 =>
          subst hx; cases hs
          rcases hk with ⟨s2, e2, _⟩ | ⟨r', e2, e3⟩
          · cases e2
          · cases e2; exact ⟨_, _, hk3, le3, k2 e3⟩
      | ret =>
        cases q with
        | b i' hi he q => cases he
        | r y hx h1 h2 k2 =>
          subst hx; cases hs
          rcases hk with ⟨s2, e2, _⟩ | ⟨r', e2, e3⟩
          · cases e2
          · cases e2; exact ⟨_, _, hk3, le3, k2 e3⟩
      | panic c =>
        cases q with
        | b i' hi he q => cases he
        | r y hx h1 h2 k2 =>
          subst hx; cases hs
          rcases hk with ⟨s2, e2, _⟩ | ⟨r', e2, e3⟩
          · cases e2
          · cases e2; exact ⟨_, _, hk3, le3, k2 e3⟩
      | outgrown =>
        cases q with
        | b i' hi he q => cases he
        | r y hx h1 h2 k2 =>
          subst hx; cases hs
          rcases hk with ⟨s2, e2, _⟩ | ⟨r', e2, e3⟩
          · cases e2
          · cases e2; exact ⟨_, _, hk3, le3, k2 e3⟩
theorem vjn {τ σ ρ : Type} {c : Code} {kn : FR → HL → Prop} {ke : Exit → FR → HL → Prop} {f : FR} {L : HL} {m : Option (Lp σ ρ)} {k : σ → Option ρ} {o : ρ} (hm : after m k = some o)
    (Lg : τ → σ → HL) (J : τ → σ → Prop) (sl : τ → σ → FR)
    (hc : ∀ x, m = some x → VC P h n c (GN h n J sl Lg .brk x) (GE h n J sl Lg none ke o x) f L)
    (next : ∀ g s, J g s → k s = some o → kn (sl g s) (Lg g s)) : VC P h n c kn ke f L := by
  refine ⟨fun hkL => ?_⟩
  cases e : m with
  | none => rw [e] at hm; cases hm
  | some x =>
    rw [e] at hm
    refine ((hc x e).r hkL).mono ?_
    have fin : ∀ {ex : Exit} {f1 : FR} {L1 : HL}, GE h n J sl Lg none ke o x ex f1 L1 → ex ≠ .normal ∧ ke ex f1 L1 := by
      intro ex f1 L1 q
      cases q with
      | b i hi he q => cases hi
      | r y hx h1 h2 k2 => subst hx; exact ⟨h1, k2 (Option.some.inj hm)⟩
    rintro ex fr'' h'' ⟨f1, L1, hk3, le3, q⟩
    cases ex with
    | normal =>
      obtain ⟨s', g', rfl, j', le4⟩ := q.g
      obtain ⟨hk5, le5⟩ := le4.le hk3 le3
      exact ⟨_, _, hk5, le5, next _ _ j' hm⟩
    | exit i => exact ⟨_, _, hk3, le3, (fin q).2⟩
    | goto l => exact ⟨_, _, hk3, le3, (fin q).2⟩
    | ret => exact ⟨_, _, hk3, le3, (fin q).2⟩
    | panic c => exact ⟨_, _, hk3, le3, (fin q).2⟩
    | outgrown => exact ⟨_, _, hk3, le3, (fin q).2⟩
theorem vlpH {τ σ ρ : Type} {id : Nat} {c : Code} {kn : FR → HL → Prop} {ke : Exit → FR → HL → Prop} {f : FR} {L : HL} {step : σ → Option (Lp σ ρ)} {fuel : Nat} {s0 : σ} {k : σ → Option ρ} {o : ρ} (hm : after (loopM step fuel s0) k = some o)
    (Lg : τ → σ → HL) (sl : τ → σ → FR) (g0 : τ) (h0 : LX h n f L (sl g0 s0) (Lg g0 s0))
    (round : ∀ g s x, step s = some x → VC P h n c (GN h n (fun _ _ => True) sl Lg .go x) (GE h n (fun _ _ => True) sl Lg (some id) ke o x) (sl g s) (Lg g s))
    (next : ∀ g s, k s = some o → kn (sl g s) (Lg g s)) : VC P h n (.block id (.loop c)) kn ke f L :=
  vlp hm Lg (fun _ _ => True) sl g0 trivial h0 (fun g s x _ => round g s x) (fun g s _ => next g s)
theorem vjnH {τ σ ρ : Type} {c : Code} {kn : FR → HL → Prop} {ke : Exit → FR → HL → Prop} {f : FR} {L : HL} {m : Option (Lp σ ρ)} {k : σ → Option ρ} {o : ρ} (hm : after m k = some o)
    (Lg : τ → σ → HL) (sl : τ → σ → FR)
    (hc : ∀ x, m = some x → VC P h n c (GN h n (fun _ _ => True) sl Lg .brk x) (GE h n (fun _ _ => True) sl Lg none ke o x) f L)
    (next : ∀ g s, k s = some o → kn (sl g s) (Lg g s)) : VC P h n c kn ke f L :=
  vjn hm Lg (fun _ _ => True) sl hc (fun g s _ => next g s)
theorem lno {f : FR} {L : HL} (e : Ent) (t : Nat) (v : AV) (hv : ALe (hp h L) (lk n f.k t) v) (hk : HOk h L) : HOk h ((none, e) :: L) ∧ LeF (fm n (FR.c t v f).k) (hp h ((none, e) :: L)) (fm n f.k) (hp h L) := ⟨HOk.none hk, LeF.put (Sub.refl _) hv⟩
theorem leo {f : FR} {L : HL} {k : Key} {ty : TypeId} {cs : List AV} (e : Ent) (i : Nat) (cs' : List AV) (hi : ((none, e) :: L)[i]? = some (some k, .obj ty cs)) (hl : ALeL (hp h L) cs cs') (hk : HOk h L) :
    HOk h (((none, e) :: L).set i (some k, .obj ty cs')) ∧ LeF (fm n f.k) (hp h (((none, e) :: L).set i (some k, .obj ty cs'))) (fm n f.k) (hp h L) := LeF.obj (L := (none, e) :: L) i cs' (HOk.none hk) hi hl
def argf : Nat → List AV → FR
 | _, [] => .nil
 | i, x :: xs => .c i x (argf (i + 1) xs)
theorem argf_k : ∀ (i : Nat) (xs : List AV), (argf i xs).k = argk i xs
 | _, [] => rfl
 | i, x :: xs => by simp only [argf, argk, FR.k, argf_k (i + 1) xs]
structure RV (P : Program) (rs : List ResultVar) (Q : AV → Heap → Prop) (h : Heap) (n : Nat) (e : Exit) (f : FR) (L : HL) : Prop where
 r : HOk h L → LqE (Ret P rs Q) e (fm n f.k) (hp h L)
theorem ACp {f : FuncId} {fn : Func} {c : Code} {args : List AV} {Q : AV → Heap → Prop} {L : HL} (hk : HOk h L) (n : Nat) (rs : List ResultVar) (hf : P.funcs[f]? = some fn) (hb : fn.body = some c) (hn : fn.ntmps = n) (hr : fn.results.toList = rs) (hle : Nat.ble args.length n = true)
    (hc : VC P h n c (RV P rs Q h n .normal) (RV P rs Q h n) (argf 0 args) L) : ACalls P f args (hp h L) Q := by
  have hc := hc.r hk
  rw [argf_k] at hc
  refine ACalls_fm n rs hf hb hn hr hle (AW_lq (hc.mono ?_))
  rintro e fr hh ⟨f', L', hk, le, q⟩
  have fin : RV P rs Q h n e f' L' → LqE (Ret P rs Q) e fr hh := fun q => let ⟨fr2, h2, le2, q2⟩ := q.r hk; ⟨fr2, h2, le.trans le2, q2⟩
  cases e with
  | normal => exact fin q
  | exit i => exact fin q
  | goto l => exact fin q
  | ret => exact fin q
  | panic c => exact fin q
  | outgrown => exact fin q
theorem ACv {f : FuncId} {fn : Func} {c : Code} {args : List AV} {Q : AV → Heap → Prop} (n : Nat) (rs : List ResultVar) (hf : P.funcs[f]? = some fn) (hb : fn.body = some c) (hn : fn.ntmps = n) (hr : fn.results.toList = rs) (hle : Nat.ble args.length n = true)
    (hc : VC P h n c (RV P rs Q h n .normal) (RV P rs Q h n) (argf 0 args) []) : ACalls P f args h Q := ACp (L := []) trivial n rs hf hb hn hr hle hc
theorem vr {rs : List ResultVar} {Q : AV → Heap → Prop} {e : Exit} {f : FR} {L : HL} (k : HOk h L → Ret P rs Q e (fm n f.k) (hp h L)) : RV P rs Q h n e f L := ⟨fun hk => LqE.mk LeF.rfl' (k hk)⟩
theorem vrl {rs : List ResultVar} {Q : AV → Heap → Prop} {e : Exit} {f : FR} {L : HL} (k : HOk h L → LqE (Ret P rs Q) e (fm n f.k) (hp h L)) : RV P rs Q h n e f L := ⟨k⟩
theorem hp_nil {L : HL} (hk : HOk h L) : Sub h (hp h L) := (hp_sub (List.nil_sublist _) hk).1
theorem vr1 {t : Nat} {y : AV} {f : FR} {L : HL} {e : Exit} (hx : lk n f.k t = y) (he : e = .ret ∨ e = .normal := by first | exact .inl rfl | exact .inr rfl) : RV P [.tmp t] (fun r h' => r = y ∧ h' = h) h n e f L :=
 vr fun hk => Ret.of1 he (rsT _ _ y hx) (hp_nil hk) (ALe.refl _ _) ⟨rfl, rfl⟩
theorem vr2 {t u : Nat} {y z : AV} {f : FR} {L : HL} {e : Exit} (hx : lk n f.k t = y) (hz : lk n f.k u = z) (he : e = .ret ∨ e = .normal := by first | exact .inl rfl | exact .inr rfl) : RV P [.tmp t, .tmp u] (fun r h' => r = .tup [y, z] ∧ h' = h) h n e f L :=
 vr fun hk => Ret.of2 he (rsT _ _ y hx) (rsT _ _ z hz) (hp_nil hk) (ALe.refl _ _) (ALe.refl _ _) ⟨rfl, rfl⟩
theorem AG.mono {ops : Array Oper} {fs : List (Nat × Option Key × Ent)} {K K' : Fr → Heap → Prop} (hk : ∀ fr h, K fr h → K' fr h) : ∀ {m : Nat} {S : Array Bool} {fr : Fr} {h : Heap}, AG P ops fs K m S fr h → AG P ops fs K' m S fr h
  | 0, _, _, _, ⟨h1, h2⟩ => ⟨h1, hk _ _ h2⟩
  | m + 1, S, fr, h, ⟨h1, h2⟩ => ⟨fun e => hk _ _ (h1 e), fun i hi o ho => by
      rcases h2 i hi o ho with ⟨x, a, b⟩ | ⟨a, b⟩
      · exact .inl ⟨x, a, AG.mono hk b⟩
      · exact .inr ⟨a, b.mono fun x h' q => ⟨q.1, AG.mono hk q.2⟩⟩⟩
variable {q : Bool} {K : FR → HL → Prop} {f : FR} {L : HL} {dst : Option Tmp} {ty : TypeId} {pos : String} {aft : Array Edge} {ρ : Type} {r : ρ}
theorem qk {K : FR → HL → Prop} {f : FR} {L : HL} {hh : Heap} (hk : HOk h L) (e : hh = hp h L) (k : K f L) : QK h n K (fm n f.k) hh := by subst e; exact QK.of hk k
theorem vn {op : Op} {x : AV} (ho : HOk h L → AOpV P ⟨dst, op, ty, pos, aft, none⟩ x (fm n f.k) (hp h L)) (k : K (f.put dst x) L) : VN q P h n ⟨dst, op, ty, pos, aft, none⟩ K f L :=
 ⟨fun _ hk => ⟨x, ho hk, k⟩, fun _ hk => (ho hk).mono fun x' h' e => by obtain ⟨rfl, rfl⟩ := e; exact QK.of hk k⟩
theorem ve {o : Oper} (ho : HOk h L → AOp P o (fun x h' => QK h n K (fm n (f.put o.dst x).k) h') (fm n f.k) (hp h L)) : VN false P h n o K f L := ⟨nofun, fun _ => ho⟩
theorem a_v {K : AV → Heap → Prop} {o : Oper} {x : AV} {fr : Fr} {hh : Heap} (ho : AOpV P o x fr hh) (k : K x hh) : AOp P o K fr hh := ho.mono fun x' h' e => by obtain ⟨rfl, rfl⟩ := e; exact k
theorem AOp_sfz {K : AV → Heap → Prop} {o : Oper} {h1 h2 : Heap} {t : Nat} (v : AV) (hs : Sub h2 h1) (hv : ALe h2 (lk n f.k t) v) (ho : AOp P o K (fm n (kp f.k t v)) h2) : AOp P o K (fm n f.k) h1 := by
 intro E w a r hva Nx Qx hn
 obtain ⟨E', k, r'⟩ := r.drop hs
 refine ho E' w a r' (fun y hy => ?_) Nx Qx fun x u w' E'' h' k' => hn x u w' E'' h' (k.trans k')
 have h1 := VR_keep k _ _ (hva y hy)
 rw [ev_fm] at h1 ⊢
 cases y with
 | tmp s =>
  simp only [evk] at h1 ⊢
  by_cases e : t = s
  ·subst e
   have h3 := hv E' w _ r' h1
   rw [lk_eq]
   split
   ·rw [kp_same]; exact h3
   ·simp only [VR]
  ·rw [lk_eq] at h1 ⊢
   rw [kp_ne _ _ e]; exact h1
 | const v => exact h1
 | global g => exact h1
 | func g => exact h1
theorem vz {id : Nat} {l : List Oper} {kn : FR → HL → Prop} (fs : List (Nat × Option Key × Ent)) (hm : P.follows .mixedOrders = true) (hI : HOk h L → InvL fs (Array.replicate l.length false) (hp h L))
    (hl : HOk h L → AGI P l.toArray fs (QK h n kn) l.length (Array.replicate l.length false) (fm n f.k) (hp h L)) : VD P h n id l.toArray kn f L :=
  ⟨fun hk => AW_zreg (Q := fun e fr hh => e = .normal ∧ QK h n kn fr hh) fs hm (hI hk) fun hi => (AG.mono fun _ _ q => ⟨rfl, q⟩) (hl hk hi)⟩
theorem vi {b : Bool} {X Y : Prop} {x y : Option ρ} (hm : (if b = true then x else y) = some r) (ht : b = true → x = some r → X) (hf : b = false → y = some r → Y) : cnd b X Y := by
 cases b
 ·exact hf rfl (by simpa using hm)
 ·exact ht rfl (by simpa using hm)
theorem vt {b : Bool} {X Y : Prop} (hb : b = true) (k : X) : cnd b X Y := by subst hb; exact k
theorem vf {b : Bool} {X Y : Prop} (hb : b = false) (k : Y) : cnd b X Y := by subst hb; exact k
theorem vgr {b : Bool} {X Y : Prop} {k : Option ρ} (hm : grd b k = some r) (hx : b = true → k = some r → X) : cnd b X Y := let ⟨h1, h2⟩ := grd_of hm; vt h1 (hx h1 h2)
theorem vx {α : Type} {c : α → List AV} {xs : List α} {i : Int} {kk : α → Option ρ} {a b : Operand} {t : TypeId} {tag : Option Key} {sz : Nat} {m : IntKind} (hm : (ix xs i).bind kk = some r) (he : elS P t = some sz) (ha : evk n f.k a = .sl tag sz (xs.map c)) (hb : evk n f.k b = .sc (.int m i))
    (k : ∀ x, ix xs i = some x → kk x = some r → K (f.put dst (.rp tag (c x))) L) : VN q P h n ⟨dst, .indexAddr t a b, ty, pos, aft, none⟩ K f L :=
  let ⟨x, h1, h2⟩ := Zc hm; vn (fun _ => o_ix h1 he ha hb) (k x h1 h2)
theorem vl {a : Operand} {t : TypeId} {p : Key} {off : Nat} {oty : TypeId} {cs : List AV} {ag : Bool} {m : Nat} (i : Nat) (x : AV) (ht : ldT P t = some (ag, m)) (ha : evk n f.k a = .ptr p off) (hi : L[i]? = some (some p, .obj oty cs)) (hx : ldv ag m (cs.drop off) = some x) (k : K (f.put dst x) L) :
    VN q P h n ⟨dst, .load t a, ty, pos, aft, none⟩ K f L := vn (fun hk => Zg x ht ha (Zd i hk hi) hx) k
theorem va {a : Operand} {t : TypeId} {tag : Option Key} {cs : List AV} {ag : Bool} {m : Nat} (x : AV) (ht : ldT P t = some (ag, m)) (ha : evk n f.k a = .rp tag cs) (hx : ldv ag m cs = some x) (k : K (f.put dst x) L) :
    VN q P h n ⟨dst, .load t a, ty, pos, aft, none⟩ K f L := vn (fun _ => o_ld x ht ha hx) k
theorem vln {α : Type} {e : α → List AV} {xs : List α} {a : Operand} {t : TypeId} {tag : Option Key} {sz : Nat} (ht : lnT P t = some true) (ha : evk n f.k a = .sl tag sz (xs.map e)) (k : K (f.put dst (.sc (.int .i64 xs.length))) L) :
    VN q P h n ⟨dst, .call { callee := .builtin .len, args := #[a], argTypes := #[t] }, ty, pos, aft, none⟩ K f L := vn (fun _ => o_lenm ht ha) k
theorem vk {α : Type} {m : Option α} {kk : α → Option ρ} {e : α → AV} {fid : FuncId} {g : Operand} {args : Array Operand} {ts : Array TypeId} {caps az : List AV} (hc : ∀ {y : α} (h : Heap), m = some y → ACalls P fid az h (fun r h' => r = e y ∧ h' = h)) (hb : bodied P fid = true) (hm : m.bind kk = some r)
    (hg : evk n f.k g = .fn (.func fid) caps) (ha : args.toList.map (evk n f.k) ++ caps = az) (k : ∀ y, kk y = some r → K (f.put dst (e y)) L) :
    VN q P h n ⟨dst, .call { callee := .value g, args := args, argTypes := ts }, ty, pos, aft, none⟩ K f L :=
  let ⟨_, h1, h2⟩ := Zc hm; vn (fun _ => o_call (hc _ h1) hg hb ha) (k _ h2)
theorem val {t : TypeId} {zs : List Value} (cs : List AV) (hz : zrT P t = some zs) (ho : zs.all (·.oneCell') = true) (hcs : zs.map AV.sc = cs) (k : ∀ q : Key, K (f.put dst (.ptr q 0)) ((some q, .obj t cs) :: L)) : VN false P h n ⟨dst, .alloc t, ty, pos, aft, none⟩ K f L :=
 ve fun hk => a_alloc cs hk hz ho hcs fun q hk' => qk hk' rfl (k q)
end
end Go.Vm
