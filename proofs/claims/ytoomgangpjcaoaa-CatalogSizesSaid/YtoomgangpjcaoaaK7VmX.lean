/-
  Sets: maps from strings or integers to true, made by the call.
-/
import Derived.Test.YtoomgangpjcaoaaK7VmW
namespace Go.Vm

section
variable {P : Program} {E : Env} {h : Heap} {w : World}

theorem Rel.new_mp (r : Rel E h w) {k : Key} (hk : ¬ E.used k) (ents : Array MapEntry) (clk : Nat) :
    ∃ E', E'.ob k = some w.heap.size ∧ Keep E w E' (w.alloc (.map ents clk)) ∧ Rel E' (upd h k (some (.mp (ents.toList.map fun e => (e.key, e.val))))) (w.alloc (.map ents clk)) := by
  let E' : Env := { E with ob := fun x => if x = k then some w.heap.size else E.ob x, used := fun x => x = k ∨ E.used x }
  have hkeep : Keep E w E' (w.alloc (.map ents clk)) := by
    refine r.keep_ext (fun g hg => heap_alloc_old w _ g hg) (by simp) rfl rfl rfl (fun _ _ h => h) rfl (fun _ h => .inr h) ?_ (fun _ _ => rfl)
    intro x g hx
    have : x ≠ k := fun e => hk (by subst e; exact r.obu _ _ hx)
    simpa [E', this] using hx
  have hnew := heap_alloc_new w (.map ents clk)
  have at' : ∀ x g, E'.at (upd h k (some (.mp (ents.toList.map fun e => (e.key, e.val))))) x g → (x = k ∧ g = w.heap.size) ∨ (x ≠ k ∧ E.at h x g) := by
    intro x g ha
    by_cases hx : x = k
    · subst hx
      refine .inl ⟨rfl, ?_⟩
      rcases ha with ⟨_, _, _, h2⟩ | ⟨_, _, _, _, h2, _⟩
      · simp only [E', if_true, Option.some.injEq] at h2; exact h2.symm
      · simp [upd] at h2
    · refine .inr ⟨hx, ?_⟩
      rcases ha with ⟨a, b, h2, h3⟩ | ⟨a, b, c, t, h2, h3⟩
      · rw [upd_ne _ _ hx] at h2
        simp only [E', hx, if_false] at h3
        exact .inl ⟨a, b, h2, h3⟩
      · rw [upd_ne _ _ hx] at h2
        exact .inr ⟨a, b, c, t, h2, h3⟩
  refine ⟨E', by simp [E'], hkeep, ?_⟩
  constructor
  · intro x ty' cs' hx
    by_cases e : x = k
    · subst e; rw [upd_same] at hx; cases hx
    · rw [upd_ne _ _ e] at hx
      obtain ⟨g, cur', e1, e2, e3, e4⟩ := r.obj x ty' cs' hx
      exact ⟨g, cur', hkeep.ob _ _ e1, by rw [heap_alloc_old w _ g (Array.getElem?_eq_some_iff.1 e2).1]; exact e2, VRL_keep hkeep _ _ e3, e4⟩
  · intro x ty' sz m hx
    by_cases e : x = k
    · subst e; rw [upd_same] at hx; cases hx
    · rw [upd_ne _ _ e] at hx
      obtain ⟨t, cur', e1, e2, e3, e4, e5⟩ := r.tok x ty' sz m hx
      exact ⟨t, cur', e1, e2, e3, by rw [heap_alloc_old w _ _ (Array.getElem?_eq_some_iff.1 e4).1]; exact e4, e5⟩
  · intro x t hx
    obtain ⟨ty', e⟩ := r.tkh x t hx
    have : x ≠ k := fun e' => hk (by subst e'; exact r.tk_used hx)
    exact ⟨ty', by rw [upd_ne _ _ this]; exact e⟩
  · intro x y g hx hy
    rcases at' x g hx with ⟨rfl, hg⟩ | ⟨_, hx'⟩ <;> rcases at' y g hy with ⟨rfl, hg'⟩ | ⟨_, hy'⟩
    · rfl
    · have := r.at_lt hy'; omega
    · have := r.at_lt hx'; omega
    · exact r.sep x y g hx' hy'
  · intro x g hx
    rcases at' x g hx with ⟨rfl, rfl⟩ | ⟨_, hx'⟩
    · refine ⟨fun hl => ?_, fun o ho => ?_⟩
      · have := r.lkb _ hl; omega
      · obtain ⟨v, hv⟩ := r.imb _ _ ho
        have := block_of_cell hv; omega
    · exact r.dis x g hx'
  · intro x e hx
    by_cases e' : x = k
    · exact .inl e'
    · rw [upd_ne _ _ e'] at hx; exact .inr (r.hus x e hx)
  · intro x g hx
    by_cases e' : x = k
    · exact .inl e'
    · simp only [E', e', if_false] at hx; exact .inr (r.obu x g hx)
  · exact fre_add r k
  · intro g o ho
    obtain ⟨v, hv⟩ := r.imb g o ho
    exact ⟨v, (hkeep.imm g o ho).2.trans hv⟩
  · intro g hg
    have := r.lkb g hg
    simp; omega
  · intro x es hx
    by_cases e' : x = k
    · subst e'
      rw [upd_same] at hx
      cases hx
      exact ⟨_, ents, clk, by simp [E'], hnew, rfl⟩
    · rw [upd_ne _ _ e'] at hx
      obtain ⟨g, ents', clk', e1, e2, e3⟩ := r.mp x es hx
      exact ⟨g, ents', clk', hkeep.ob _ _ e1, by rw [heap_alloc_old w _ g (Array.getElem?_eq_some_iff.1 e2).1]; exact e2, e3⟩

theorem Rel.set_mp (r : Rel E h w) {k : Key} {g : Nat} {es0 : List (Value × Value)} (hk : h k = some (.mp es0)) (hg : E.ob k = some g) (ents : Array MapEntry) (clk : Nat) {w' : World}
    (hw : w'.heap[g]? = some (.map ents clk)) (hoth : ∀ g', g' ≠ g → w'.heap[g']? = w.heap[g']?) (hsz : w.heap.size ≤ w'.heap.size) (hos : w'.os = w.os) (htp : w'.tape = w.tape) (hout : w'.output = w.output) :
    Keep E w E w' ∧ Rel E (upd h k (some (.mp (ents.toList.map fun e => (e.key, e.val))))) w' := by
  have hat : E.at h k g := .inl ⟨_, rfl, hk, hg⟩
  obtain ⟨d1, d2⟩ := r.dis k g hat
  have hkeep : Keep E w E w' := by
    refine ⟨fun g' o ho => ⟨ho, ?_⟩, fun _ => Iff.rfl, fun g' hl => hoth g' fun e => d1 (e ▸ hl), fun _ h => h, fun _ _ h => h, ?_, fun _ t ht _ => ⟨t, ht, Nat.le_refl _, fun _ => rfl⟩, hos, htp, hout, hsz⟩
    · exact cell_of_block (hoth g' fun e => d2 o (e ▸ ho)) o
    · intro x t ht o ho
      refine ⟨.inr ⟨t, ht, rfl, ho⟩, cell_of_block (hoth _ fun e => ?_) o⟩
      obtain ⟨ty', e'⟩ := r.tkh x t ht
      have : x = k := r.sep x k g (.inr ⟨ty', _, _, t, e', ht, e⟩) hat
      subst this
      rw [hk] at e'; cases e'
  have at' : ∀ x g', E.at (upd h k (some (.mp (ents.toList.map fun e => (e.key, e.val))))) x g' → E.at h x g' := by
    intro x g' ha
    by_cases hx : x = k
    · subst hx
      rcases ha with ⟨a, b, h2, h3⟩ | ⟨_, _, _, _, h2, _⟩
      · exact .inl ⟨_, rfl, hk, h3⟩
      · rw [upd_same] at h2; cases h2
    · rcases ha with ⟨a, b, h2, h3⟩ | ⟨a, b, c, t, h2, h3⟩
      · rw [upd_ne _ _ hx] at h2; exact .inl ⟨a, b, h2, h3⟩
      · rw [upd_ne _ _ hx] at h2; exact .inr ⟨a, b, c, t, h2, h3⟩
  have ne : ∀ x e' g', x ≠ k → h x = some e' → e'.isOb = true → E.ob x = some g' → g' ≠ g := fun x e' g' hx he hb ho q => hx (r.sep x k g (.inl ⟨e', hb, he, q ▸ ho⟩) hat)
  refine ⟨hkeep, ?_⟩
  constructor
  · intro x ty' cs' hx
    by_cases e : x = k
    · subst e; rw [upd_same] at hx; cases hx
    · rw [upd_ne _ _ e] at hx
      obtain ⟨g', cur', e1, e2, e3, e4⟩ := r.obj x ty' cs' hx
      exact ⟨g', cur', e1, by rw [hoth g' (ne x _ g' e hx rfl e1)]; exact e2, VRL_keep hkeep _ _ e3, e4⟩
  · intro x ty' sz m hx
    by_cases e : x = k
    · subst e; rw [upd_same] at hx; cases hx
    · rw [upd_ne _ _ e] at hx
      obtain ⟨t, cur', e1, e2, e3, e4, e5⟩ := r.tok x ty' sz m hx
      refine ⟨t, cur', e1, e2, e3, ?_, e5⟩
      rw [hoth _ (fun e' => e (r.sep x k g (.inr ⟨ty', sz, m, t, hx, e1, e'⟩) hat))]
      exact e4
  · intro x t hx
    obtain ⟨ty', e⟩ := r.tkh x t hx
    have : x ≠ k := fun e' => by subst e'; rw [hk] at e; cases e
    exact ⟨ty', by rw [upd_ne _ _ this]; exact e⟩
  · exact fun x y g' hx hy => r.sep x y g' (at' _ _ hx) (at' _ _ hy)
  · exact fun x g' hx => r.dis x g' (at' _ _ hx)
  · intro x e hx
    by_cases e' : x = k
    · subst e'; exact r.hus _ _ hk
    · rw [upd_ne _ _ e'] at hx; exact r.hus x e hx
  · exact r.obu
  · exact r.fre
  · intro g' o ho
    obtain ⟨v, hv⟩ := r.imb g' o ho
    exact ⟨v, (hkeep.imm g' o ho).2.trans hv⟩
  · intro g' hg'
    have := r.lkb g' hg'
    omega
  · intro x es hx
    by_cases e : x = k
    · subst e
      rw [upd_same] at hx
      cases hx
      exact ⟨g, ents, clk, hg, hw, rfl⟩
    · rw [upd_ne _ _ e] at hx
      obtain ⟨g', ents', clk', e1, e2, e3⟩ := r.mp x es hx
      exact ⟨g', ents', clk', e1, by rw [hoth g' (ne x _ g' e hx rfl e1)]; exact e2, e3⟩
end

/-! ### Sets -/

def kS (x : ByteArray) : Value := .string x
def kI (x : Int) : Value := .int .i64 x
def mset {α : Type} (k : α → Value) (l : List α) : List (Value × Value) := l.map fun x => (k x, .bool true)
def madd {α : Type} [BEq α] (l : List α) (x : α) : List α := if l.any (fun y => x == y) = true then l else l ++ [x]

theorem bytes_beq (a b : ByteArray) : (a == b) = true ↔ a = b := by
  constructor
  · intro h
    have h' : (a.data == b.data) = true := h
    have : a.data = b.data := by simpa using h'
    cases a; cases b; simp_all
  · rintro rfl
    show (a.data == a.data) = true
    simp

/-- Keys of a kind: how they are held against each other. -/
structure KeyT (P : Program) (t : TypeId) {α : Type} [BEq α] (k : α → Value) : Prop where
  law : ∀ x y : α, (x == y) = true → x = y
  d : ∃ kd, P.underlying t = some kd ∧ (∀ x y, Instr.sameNow kd (k x) (k y) = some (x == y)) ∧ (∀ x b w, (Instr.checkKey b 10000 t (k x)).run P w = .ok () w)
  bits : ∀ x, Instr.sameBits 10000 (k x) (k x) = true
theorem sameBits_str (n : Nat) (x : ByteArray) : Instr.sameBits n (.string x) (.string x) = true := by
  have : (x == x) = true := (bytes_beq x x).2 rfl
  cases n <;> simp [Instr.sameBits, this]
theorem sameBits_int (n : Nat) (x : Int) : Instr.sameBits n (.int .i64 x) (.int .i64 x) = true := by cases n <;> simp [Instr.sameBits]
theorem checkKey_str {P : Program} {t : TypeId} (ht : P.underlying t = some .string) (n : Nat) (x : ByteArray) (b : Bool) (w : World) : (Instr.checkKey b (n + 1) t (.string x)).run P w = .ok () w := by
  simp [Instr.checkKey, run_underlying ht]
theorem checkKey_int {P : Program} {t : TypeId} (ht : P.underlying t = some (.int .i64)) (n : Nat) (x : Int) (b : Bool) (w : World) : (Instr.checkKey b (n + 1) t (.int .i64 x)).run P w = .ok () w := by
  simp [Instr.checkKey, run_underlying ht]
theorem KeyT.str {P : Program} {t : TypeId} (ht : P.underlying t = some .string) : KeyT P t kS :=
  ⟨fun x y h => (bytes_beq x y).1 h, ⟨_, ht, fun _ _ => rfl, fun x b w => checkKey_str ht 9999 x b w⟩, fun x => sameBits_str 10000 x⟩
theorem KeyT.int {P : Program} {t : TypeId} (ht : P.underlying t = some (.int .i64)) : KeyT P t kI :=
  ⟨fun x y h => by simpa using h, ⟨_, ht, fun x y => by simp only [Instr.sameNow, kI, if_true], fun x b w => checkKey_int ht 9999 x b w⟩, fun x => sameBits_int 10000 x⟩

theorem findNow_set {α : Type} [BEq α] {k : α → Value} {kd : TypeDesc} (law : ∀ x y : α, (x == y) = true → x = y) (hs : ∀ x y, Instr.sameNow kd (k x) (k y) = some (x == y)) (x : α) : ∀ (l : List α) (ents : List MapEntry) (i : Nat), ents.map (fun e => (e.key, e.val)) = mset k l →
    (l.any (fun y => x == y) = true → ∃ j e, Instr.findNow kd (k x) ents i = some (some (i + j, .bool true)) ∧ ents[j]? = some e ∧ e.key = k x ∧ e.val = .bool true) ∧
    (l.any (fun y => x == y) = false → Instr.findNow kd (k x) ents i = some none)
  | [], [], i, _ => ⟨fun h => by simp at h, fun _ => rfl⟩
  | [], _ :: _, _, h => by simp [mset] at h
  | _ :: _, [], _, h => by simp [mset] at h
  | y :: l, e :: ents, i, h => by
    simp only [List.map_cons, mset, List.cons.injEq, Prod.mk.injEq] at h
    obtain ⟨⟨h1, h2⟩, h3⟩ := h
    obtain ⟨ih1, ih2⟩ := findNow_set law hs x l ents (i + 1) h3
    have hn : Instr.findNow kd (k x) (e :: ents) i = (if (x == y) = true then some (some (i, e.val)) else Instr.findNow kd (k x) ents (i + 1)) := by
      simp only [Instr.findNow, h1, hs]
      cases (x == y) <;> rfl
    constructor
    · intro ha
      rw [hn]
      by_cases q : (x == y) = true
      · rw [if_pos q]
        have : x = y := law x y q
        exact ⟨0, e, by rw [h2]; simp, by simp, by rw [h1, this], h2⟩
      · rw [if_neg q]
        simp only [List.any_cons, q, Bool.false_or] at ha
        obtain ⟨j, e', a1, a2, a3⟩ := ih1 ha
        exact ⟨j + 1, e', by rw [a1]; congr 2; simp; omega, by simpa using a2, a3⟩
    · intro ha
      simp only [List.any_cons, Bool.or_eq_false_iff] at ha
      rw [hn, if_neg (by rw [ha.1]; simp)]
      exact ih2 ha.2

section ops
variable {P : Program} {h h0 : Heap} {L : HL} {n : Nat} {kvs : KV} {ty : TypeId} {pos : String} {aft : Array Edge}

theorem a_mkmap {K : AV → Heap → Prop} {dst : Option Tmp} {t : TypeId} (hk : HOk h0 L)
    (k : ∀ q : Key, HOk h0 ((some q, .mp []) :: L) → K (.mpv q) (hp h0 ((some q, .mp []) :: L))) : AOp P ⟨dst, .makeMap t none, ty, pos, aft, none⟩ K (fm n kvs) (hp h0 L) := by
  intro E w a r hv Nx Qx hn
  obtain ⟨m, hm⟩ := r.fresh 0
  obtain ⟨E', e1, e2, e3⟩ := r.new_mp hm #[] 0
  have hrun : (execOp a.eval ⟨dst, .makeMap t none, ty, pos, aft, none⟩).run P w = .ok (.value (.map (some w.heap.size))) (w.alloc (.map #[] 0)) := by
    simp [execOp, Instr.makeMap, newObj, Sem.run]
  unfold Oper.wp
  rw [hrun]
  refine hn (.mpv (0, m)) _ _ E' _ e2 e3 (by simp only [VR]; exact ⟨_, e1, rfl⟩) ?_
  exact k (0, m) ⟨hk, fun k' e => by cases e; exact r.unused_none hm⟩

theorem o_look {α : Type} [BEq α] {kf : α → Value} {l : List α} {x : α} {dst : Option Tmp} {t kt et : TypeId} {m y : Operand} {q : Key} (ht : P.underlying t = some (.map kt et)) (hz : (P.info? et).bind (·.zero) = some (.bool false)) (hkt : KeyT P kt kf)
    (hm : evk n kvs m = .mpv q) (hy : evk n kvs y = .sc (kf x)) (hq : h q = some (.mp (mset kf l))) : AOpV P ⟨dst, .lookup t m y false, ty, pos, aft, none⟩ (.sc (.bool (l.any fun z => x == z))) (fm n kvs) h := by
  refine AOp_value (x := .sc (.bool (l.any fun z => x == z))) (fun E w ac r hv => ?_) ⟨rfl, rfl⟩
  have vm := hv m (by simp [Op.operands])
  have vy := hv y (by simp [Op.operands])
  rw [ev_fm, hm] at vm; rw [ev_fm, hy] at vy
  simp only [VR] at vm vy
  obtain ⟨g, hg, em⟩ := vm
  obtain ⟨g', ents, clk, e1, e2, e3⟩ := r.mp q _ hq
  rw [hg] at e1; cases e1
  obtain ⟨kd, hkd, hs, hck⟩ := hkt.d
  obtain ⟨f1, f2⟩ := findNow_set hkt.law hs x l ents.toList 0 e3
  refine ⟨.bool (l.any fun z => x == z), ?_, by simp only [VR]⟩
  have hz1 : (zeroValue et).run P w = .ok (.bool false) w := by
    cases hi : P.info? et with
    | none => rw [hi] at hz; simp at hz
    | some i =>
      rw [hi] at hz
      simp at hz
      simp [zeroValue, typeInfo, hi, hz]
  have hgo : (getObj g).run P w = .ok (.map ents clk) w := by simp [getObj, Sem.run, e2]
  simp only [execOp, em, vy, Instr.lookup, Sem.run_bind, run_underlying ht, Result.andThen_ok, hgo, Sem.run_pure, hck, Instr.findKey, run_underlying hkd]
  cases ha : (l.any fun z => x == z) with
  | true =>
    obtain ⟨j, e, a1, a2, a3, a4⟩ := f1 ha
    simp [a1]
  | false =>
    have := f2 ha
    simp [this, hz1]

theorem a_mset {K : AV → Heap → Prop} {α : Type} [BEq α] {kf : α → Value} {l : List α} {x : α} {dst : Option Tmp} {t kt et : TypeId} {m y v : Operand} {q : Key} (i : Nat) (hk : HOk h0 L) (ht : P.underlying t = some (.map kt et)) (hkt : KeyT P kt kf)
    (hm : evk n kvs m = .mpv q) (hy : evk n kvs y = .sc (kf x)) (hv : evk n kvs v = .sc (.bool true)) (hi : L[i]? = some (some q, .mp (mset kf l)))
    (k : HOk h0 (L.set i (some q, .mp (mset kf (madd l x)))) → K (.sc undef) (hp h0 (L.set i (some q, .mp (mset kf (madd l x)))))) :
    AOp P ⟨dst, .mapUpdate t m y v, ty, pos, aft, none⟩ K (fm n kvs) (hp h0 L) := by
  intro E w a r hva Nx Qx hn
  have vm := hva m (by simp [Op.operands])
  have vy := hva y (by simp [Op.operands])
  have vv := hva v (by simp [Op.operands])
  rw [ev_fm, hm] at vm; rw [ev_fm, hy] at vy; rw [ev_fm, hv] at vv
  simp only [VR] at vm vy vv
  obtain ⟨g, hg, em⟩ := vm
  have hq := hp_get i hk hi
  obtain ⟨g', ents, clk, e1, e2, e3⟩ := r.mp q _ hq
  rw [hg] at e1; cases e1
  obtain ⟨kd, hkd, hs, hck⟩ := hkt.d
  obtain ⟨f1, f2⟩ := findNow_set hkt.law hs x l ents.toList 0 e3
  have hgo : (getObj g).run P w = .ok (.map ents clk) w := by simp [getObj, Sem.run, e2]
  have hglt := (Array.getElem?_eq_some_iff.1 e2).1
  obtain ⟨h1, h2, _⟩ := hp_put (e' := .mp (mset kf (madd l x))) i hk hi (.inl rfl)
  have fin : ∀ (ents' : Array MapEntry) (clk' : Nat), ents'.toList.map (fun e => (e.key, e.val)) = mset kf (madd l x) →
      (execOp a.eval ⟨dst, .mapUpdate t m y v, ty, pos, aft, none⟩).run P w = .ok .skip { w with heap := w.heap.setIfInBounds g (.map ents' clk') } → (⟨dst, .mapUpdate t m y v, ty, pos, aft, none⟩ : Oper).wp P a w Nx Qx := by
    intro ents' clk' hes hrun
    obtain ⟨k1, r1⟩ := r.set_mp hq hg ents' clk' (w' := { w with heap := w.heap.setIfInBounds g (.map ents' clk') }) (by simp [hglt]) (fun g' hg' => by simp [Ne.symm hg']) (by simp) rfl rfl rfl
    unfold Oper.wp
    rw [hrun]
    rw [hes, h1] at r1
    exact hn (.sc undef) undef _ E _ k1 r1 (by simp only [VR]) (k h2)
  cases ha : (l.any fun z => x == z) with
  | true =>
    obtain ⟨j, e, a1, a2, a3, a4⟩ := f1 ha
    have hje : ents[j]? = some e := by simpa using a2
    refine fin (ents.modify j fun e => { e with key := kf x, val := .bool true }) clk ?_ ?_
    · have : madd l x = l := by simp only [madd]; rw [if_pos ha]
      rw [this, ← e3]
      apply List.ext_getElem?
      intro z
      simp only [List.getElem?_map, Array.getElem?_toList, Array.getElem?_modify]
      by_cases hz : j = z
      · subst hz
        rw [if_pos rfl, hje]
        simp [a3, a4]
      · rw [if_neg hz]
    · have hst : (Instr.keyThatStays e.key (kf x)).run P w = .ok (kf x) w := by
        rw [a3]; simp [Instr.keyThatStays, hkt.bits]
      have hjd : ((ents[0 + j]?).map (·.key)).getD (kf x) = e.key := by simp [hje]
      have hfind : (Instr.findKey kt (kf x) ents.toList).run P w = .ok (some (0 + j, .bool true)) w := by
        simp only [Instr.findKey, Sem.run_bind, run_underlying hkd, Result.andThen_ok, a1, Sem.run_pure]
      simp only [execOp, em, vy, vv, Instr.mapUpdate, Sem.run_bind, run_underlying ht, Result.andThen_ok, hgo, hck, hfind]
      rw [hjd]
      simp only [hst, Result.andThen_ok, Nat.zero_add]
      simp [setObj, Sem.run, e2]
  | false =>
    have hf := f2 ha
    refine fin (ents.push { key := kf x, val := .bool true, born := clk }) (clk + 1) ?_ ?_
    · have : madd l x = l ++ [x] := by simp only [madd]; rw [if_neg (by simp [ha])]
      rw [this]
      simp only [Array.toList_push, List.map_append, e3, mset, List.map_cons, List.map_nil]
    · have hfind : (Instr.findKey kt (kf x) ents.toList).run P w = .ok none w := by
        simp only [Instr.findKey, Sem.run_bind, run_underlying hkd, Result.andThen_ok, hf, Sem.run_pure]
      simp only [execOp, em, vy, vv, Instr.mapUpdate, Sem.run_bind, run_underlying ht, Result.andThen_ok, hgo, hck, hfind]
      simp [setObj, Sem.run, e2]
end ops
end Go.Vm
