/-
  Code over abstract frames and heaps: what holds of every world that stands behind them.
-/
import Derived.Test.YtafflcbcpbgloaaQ7VmB
import Derived.Tactics
import Derived.Still
import Derived.Deep.LoopGhost
namespace Go.Vm

abbrev Fr := List AV

def fput (fr : Fr) (d : Option Tmp) (x : AV) : Fr := match d with | some d => fr.set d x | none => fr
/-- The value of a constant. -/
def cv : Value → AV
  | .agg cs => .agg (cs.toList.map .sc)
  | v => .sc v
def ev (fr : Fr) : Operand → AV
  | .tmp t => fr.getD t .any
  | .const v => cv v
  | .global _ => .any
  | .func f => .fn (.func f) []

section
variable {E : Env} {w : World}
theorem VRL_length : ∀ {xs : List AV} {vs : List Value}, VRL E w xs vs → xs.length = vs.length
  | [], [], _ => rfl
  | _ :: _, _ :: _, h => by simp only [VRL] at h; simp [VRL_length h.2]
  | [], _ :: _, h => by simp only [VRL] at h
  | _ :: _, [], h => by simp only [VRL] at h
theorem VRL_getD : ∀ {xs : List AV} {vs : List Value} (i : Nat) (d : Value), VRL E w xs vs → VR E w (xs.getD i .any) (vs.getD i d)
  | [], [], i, d, _ => by simp [VR]
  | x :: xs, v :: vs, 0, d, h => by simp only [VRL] at h; simpa using h.1
  | x :: xs, v :: vs, i + 1, d, h => by simp only [VRL] at h; simpa using VRL_getD i d h.2
  | [], _ :: _, _, _, h => by simp only [VRL] at h
  | _ :: _, [], _, _, h => by simp only [VRL] at h
theorem VRL_set : ∀ {xs : List AV} {vs : List Value} (i : Nat) {x : AV} {v : Value}, VRL E w xs vs → VR E w x v → VRL E w (xs.set i x) (vs.set i v)
  | [], [], _, _, _, _, _ => by simp [VRL]
  | y :: ys, u :: us, 0, x, v, h, hx => by simp only [VRL] at h; simp only [List.set, VRL]; exact ⟨hx, h.2⟩
  | y :: ys, u :: us, i + 1, x, v, h, hx => by simp only [VRL] at h; simp only [List.set, VRL]; exact ⟨h.1, VRL_set i h.2 hx⟩
  | [], _ :: _, _, _, _, h, _ => by simp only [VRL] at h
  | _ :: _, [], _, _, _, h, _ => by simp only [VRL] at h
theorem VRL_append : ∀ {xs ys : List AV} {vs us : List Value}, VRL E w xs vs → VRL E w ys us → VRL E w (xs ++ ys) (vs ++ us)
  | [], _, [], _, _, h => by simpa using h
  | x :: xs, ys, v :: vs, us, h, k => by simp only [VRL] at h; simp only [List.cons_append, VRL]; exact ⟨h.1, VRL_append h.2 k⟩
  | [], _, _ :: _, _, h, _ => by simp only [VRL] at h
  | _ :: _, _, [], _, h, _ => by simp only [VRL] at h
theorem VRL_put {fr : Fr} {a : Act} {x : AV} {v : Value} (d : Option Tmp) (h : VRL E w fr a.tmps.toList) (hx : VR E w x v) : VRL E w (fput fr d x) (a.put d v).tmps.toList := by
  cases d with
  | none => exact h
  | some d => simpa [fput, Act.put] using VRL_set d h hx
theorem put_defers {a : Act} (d : Option Tmp) (v : Value) : (a.put d v).defers = a.defers := by cases d <;> rfl
theorem VRL_sc : ∀ (l : List Value), VRL E w (l.map .sc) l
  | [] => by simp [VRL]
  | v :: l => by simp only [List.map_cons, VRL, VR]; exact ⟨trivial, VRL_sc l⟩
theorem VR_cv (v : Value) : VR E w (cv v) v := by
  cases v <;> simp only [cv, VR] <;> exact ⟨_, rfl, VRL_sc _⟩
theorem VR_ev {fr : Fr} {a : Act} (h : VRL E w fr a.tmps.toList) (x : Operand) : VR E w (ev fr x) (a.eval x) := by
  cases x with
  | tmp t =>
    have := VRL_getD t undef h
    simpa [ev, Act.eval, Array.getD_eq_getD_getElem?, List.getD] using this
  | const v => simpa only [ev, Act.eval] using VR_cv v
  | global g => simp [ev, VR]
  | func f => simp only [ev, Act.eval, VR]; exact ⟨#[], rfl, by simp [VRL]⟩
theorem ev_sc {fr : Fr} {a : Act} (h : VRL E w fr a.tmps.toList) {x : Operand} {v : Value} (e : ev fr x = .sc v) : a.eval x = v := by
  have := VR_ev h x
  rw [e] at this
  simpa only [VR] using this
end

def Post (E : Env) (w : World) (K : Fr → Heap → Prop) (a' : Act) (w' : World) : Prop :=
  ∃ E' fr' h', Keep E w E' w' ∧ Rel E' h' w' ∧ VRL E' w' fr' a'.tmps.toList ∧ a'.defers = [] ∧ K fr' h'

theorem Post.mono {E : Env} {w : World} {K K' : Fr → Heap → Prop} {a' : Act} {w' : World} (hk : ∀ fr h, K fr h → K' fr h) (h : Post E w K a' w') : Post E w K' a' w' :=
  let ⟨E', fr', h', h1, h2, h3, h4, h5⟩ := h; ⟨E', fr', h', h1, h2, h3, h4, hk _ _ h5⟩
theorem Post.trans {E E' : Env} {w w' : World} {K : Fr → Heap → Prop} {a'' : Act} {w'' : World} (k : Keep E w E' w') (h : Post E' w' K a'' w'') : Post E w K a'' w'' :=
  let ⟨E'', fr', h', h1, h2, h3, h4, h5⟩ := h; ⟨E'', fr', h', k.trans h1, h2, h3, h4, h5⟩

def AW (P : Program) (c : Code) (Q : Exit → Fr → Heap → Prop) (fr : Fr) (h : Heap) : Prop :=
  ∀ E w a, Rel E h w → VRL E w fr a.tmps.toList → a.defers = [] → c.wp P (fun e a' w' => Post E w (Q e) a' w') a w

section rules
variable {P : Program} {Q : Exit → Fr → Heap → Prop} {fr : Fr} {h : Heap}

theorem AW.mono {c : Code} {Q' : Exit → Fr → Heap → Prop} (hc : AW P c Q fr h) (hq : ∀ e fr h, Q e fr h → Q' e fr h) : AW P c Q' fr h :=
  fun E w a r v d => wp_mono (hc E w a r v d) fun e _ _ p => p.mono (hq e)

theorem AW_now {c : Code} {e : Exit} (hc : ∀ (R : Exit → Act → World → Prop) a w, R e a w → c.wp P R a w) (hq : Q e fr h) : AW P c Q fr h :=
  fun E w a r v d => hc _ a w ⟨E, fr, h, Keep.refl E w, r, v, d, hq⟩

theorem AW_skip (hq : Q .normal fr h) : AW P .skip Q fr h := AW_now (fun _ _ _ => wp_skip) hq
theorem AW_exit {id : Nat} (hq : Q (.exit id) fr h) : AW P (.exit id) Q fr h := AW_now (fun _ _ _ => wp_exit) hq
theorem AW_ret (hq : Q .ret fr h) : AW P .ret Q fr h := AW_now (fun _ _ _ => wp_ret) hq

def Seq (K : Fr → Heap → Prop) (Q : Exit → Fr → Heap → Prop) : Exit → Fr → Heap → Prop
  | .normal, fr, h => K fr h
  | e, fr, h => Q e fr h

theorem AW_seq {x y : Code} (hx : AW P x (Seq (AW P y Q) Q) fr h) : AW P (.seq x y) Q fr h := by
  intro E w a r v d
  refine wp_seq (wp_mono (hx E w a r v d) ?_)
  intro e a' w' p
  cases e with
  | normal =>
    obtain ⟨E', fr', h', k, r', v', d', q⟩ := p
    exact wp_mono (q E' w' a' r' v' d') fun _ _ _ p' => p'.trans k
  | exit id => exact p
  | goto l => exact p
  | ret => exact p
  | panic ch => exact p
  | outgrown => exact p

theorem AW_cond {c : Operand} {x y : Code} {t : Bool} (hc : ev fr c = .sc (.bool t)) (hb : AW P (if t then x else y) Q fr h) : AW P (.cond c x y) Q fr h :=
  fun E w a r v d => wp_cond (t := t) (ev_sc v hc) (hb E w a r v d)

theorem AW_if {c : Operand} {x y : Code} {t : Bool} (hc : ev fr c = .sc (.bool t)) (ht : t = true → AW P x Q fr h) (hf : t = false → AW P y Q fr h) : AW P (.cond c x y) Q fr h := by
  refine AW_cond hc ?_
  cases t
  · exact hf rfl
  · exact ht rfl

def Blk (id : Nat) (Q : Exit → Fr → Heap → Prop) : Exit → Fr → Heap → Prop
  | .exit id', fr, h => if id' = id then Q .normal fr h else Q (.exit id') fr h
  | e, fr, h => Q e fr h

theorem AW_block {id : Nat} {c : Code} (hc : AW P c (Blk id Q) fr h) : AW P (.block id c) Q fr h := by
  intro E w a r v d
  refine wp_block (wp_mono (hc E w a r v d) ?_)
  intro e a' w' p
  cases e with
  | exit id' =>
    by_cases hid : id' = id
    · simp only [Exit.inBlock, hid, if_true]
      exact p.mono (fun fr h q => by simpa [Blk, hid] using q)
    · simp only [Exit.inBlock, hid, if_false]
      exact p.mono (fun fr h q => by simpa [Blk, hid] using q)
  | normal => exact p
  | goto l => exact p
  | ret => exact p
  | panic ch => exact p
  | outgrown => exact p

theorem AW_loop {c : Code} (I : Nat → Fr → Heap → Prop) (n : Nat) (h0 : I n fr h)
    (round : ∀ n fr h, I n fr h → AW P c (Seq (fun fr' h' => ∃ n', n' < n ∧ I n' fr' h') Q) fr h) : AW P (.loop c) Q fr h := by
  intro E w a r v d
  refine wp_loop_ghost (fun n a' w' => Post E w (I n) a' w') n ⟨E, fr, h, Keep.refl E w, r, v, d, h0⟩ ?_
  intro n a' w' p
  obtain ⟨E', fr', h', k, r', v', d', q⟩ := p
  refine wp_mono (round n fr' h' q E' w' a' r' v' d') ?_
  intro e a'' w'' p'
  cases e with
  | normal =>
    obtain ⟨E'', fr'', h'', k', r'', v'', d'', n', hn, q'⟩ := p'
    exact ⟨n', hn, E'', fr'', h'', k.trans k', r'', v'', d'', q'⟩
  | exit id => exact p'.trans k
  | goto l => exact p'.trans k
  | ret => exact p'.trans k
  | panic ch => exact p'.trans k
  | outgrown => exact p'.trans k
end rules

/-- One operation. -/
def AOp (P : Program) (o : Oper) (K : AV → Heap → Prop) (fr : Fr) (h : Heap) : Prop :=
  ∀ E w (a : Act), Rel E h w → (∀ y ∈ o.op.operands, VR E w (ev fr y) (a.eval y)) → ∀ (Nx : Act → World → Prop) (Qx : Exit → Act → World → Prop),
    (∀ x v w' E' h', Keep E w E' w' → Rel E' h' w' → VR E' w' x v → K x h' → Nx (a.put o.dst v) w') → o.wp P a w Nx Qx

def AOps (P : Program) (ops : Array Oper) (l : List Oper) (K : Fr → Heap → Prop) (fr : Fr) (h : Heap) : Prop :=
  ∀ E w a, Rel E h w → VRL E w fr a.tmps.toList → a.defers = [] → ∀ Q, (∀ a' w', Post E w K a' w' → Q .normal a' w') → wpList P ops Q l a w

theorem AOps_nil {P : Program} {ops : Array Oper} {K : Fr → Heap → Prop} {fr : Fr} {h : Heap} (hk : K fr h) : AOps P ops [] K fr h :=
  fun E w a r v d _ hQ => wpList_nil (hQ a w ⟨E, fr, h, Keep.refl E w, r, v, d, hk⟩)

theorem AOps_step {P : Program} {ops : Array Oper} {K : Fr → Heap → Prop} {fr : Fr} {h : Heap} {o : Oper} {l : List Oper} (hw : ∀ E w (a : Act), VRL E w fr a.tmps.toList → Region.wanted o (yielded ops a.tmps) = true)
    (ho : AOp P o (fun x h' => AOps P ops l K (fput fr o.dst x) h') fr h) : AOps P ops (o :: l) K fr h := by
  intro E w a r v d Q hQ
  refine wpList_step fun K' hK' => ?_
  rw [hw E w a v, if_pos rfl]
  refine ho E w a r (fun y _ => VR_ev v y) K' Q ?_
  intro x u w' E' h' k r' vx kx
  refine hK' _ _ (kx E' w' _ r' (VRL_put _ (VRL_keep k _ _ v) vx) (by rw [put_defers]; exact d) Q ?_)
  intro a' w'' p
  exact hQ _ _ (p.trans k)

theorem AOps_plain {P : Program} {ops : Array Oper} {K : Fr → Heap → Prop} {fr : Fr} {h : Heap} {o : Oper} {l : List Oper} (hg : o.guard = none)
    (ho : AOp P o (fun x h' => AOps P ops l K (fput fr o.dst x) h') fr h) : AOps P ops (o :: l) K fr h :=
  AOps_step (fun _ _ _ _ => by simp [Region.wanted, hg]) ho

theorem AOps_skip {P : Program} {ops : Array Oper} {K : Fr → Heap → Prop} {fr : Fr} {h : Heap} {o : Oper} {l : List Oper} (hw : ∀ E w (a : Act), VRL E w fr a.tmps.toList → Region.wanted o (yielded ops a.tmps) = false)
    (ho : AOps P ops l K (fput fr o.dst (.sc undef)) h) : AOps P ops (o :: l) K fr h := by
  intro E w a r v d Q hQ
  refine wpList_step fun K' hK' => ?_
  rw [hw E w a v]
  simp only [Bool.false_eq_true, if_false]
  exact hK' _ _ (ho E w _ r (VRL_put _ v (by simp [VR])) (by rw [put_defers]; exact d) Q hQ)

theorem yielded_of {ops : Array Oper} {fr : Fr} {a : Act} {E : Env} {w : World} (hv : VRL E w fr a.tmps.toList) {j d : Nat} (hd : (ops[j]?).bind (·.dst) = some d) {u : Value} (hu : fr[d]? = some (.sc u)) :
    yielded ops a.tmps j = (match u with | .bool b => some b | _ => none : Option Bool) := by
  have hl := VRL_length hv
  have hlt : d < fr.length := (List.getElem?_eq_some_iff.1 hu).1
  have h1 := VRL_getD d undef hv
  have h2 : fr.getD d .any = .sc u := by simp [List.getD, hu]
  rw [h2] at h1
  simp only [VR] at h1
  have h3 : a.tmps[d]? = some u := by
    have : d < a.tmps.size := by have hl' := hl; simp only [Array.length_toList] at hl'; omega
    rw [Array.getElem?_eq_getElem this]
    simpa [List.getD, this] using h1
  unfold yielded
  rw [hd]
  simp only [Option.bind_some, h3]
  cases u <;> rfl

theorem AW_region {P : Program} {Q : Exit → Fr → Heap → Prop} {fr : Fr} {h : Heap} {id : Nat} {l : List Oper} (hl : AOps P l.toArray l (Q .normal) fr h) : AW P (.region id l.toArray false) Q fr h :=
  fun E w a r v d => wp_region_lit (hl E w a r v d _ fun _ _ p => p)

theorem AOp.mono {P : Program} {o : Oper} {K K' : AV → Heap → Prop} {fr : Fr} {h : Heap} (hk : ∀ x h, K x h → K' x h) (ho : AOp P o K fr h) : AOp P o K' fr h :=
  fun E w a r v Nx Qx hn => ho E w a r v Nx Qx fun x u w' E' h' k r' vx kx => hn x u w' E' h' k r' vx (hk _ _ kx)

theorem AOp.congr {P : Program} {o : Oper} {K : AV → Heap → Prop} {fr fr' : Fr} {h : Heap} (he : ∀ y ∈ o.op.operands, ev fr' y = ev fr y) (ho : AOp P o K fr h) : AOp P o K fr' h :=
  fun E w a r v => ho E w a r fun y hy => by rw [← he y hy]; exact v y hy

/-! ### A region that draws its order, each of whose operations leaves the heap alone -/

/-- Whether an operation is asked, by the abstract frame. -/
def AWant (ops : Array Oper) (fr : Fr) (o : Oper) (b : Bool) : Prop :=
  (o.guard = none ∧ b = true) ∨
  ∃ j want d, o.guard = some (j, want) ∧ (ops[j]?).bind (·.dst) = some d ∧ ((∃ c, fr[d]? = some (.sc (.bool c)) ∧ b = (c == want)) ∨ ((∃ vs, fr[d]? = some (.sc (.tuple vs))) ∧ b = false))

theorem AWant.wanted {ops : Array Oper} {fr : Fr} {o : Oper} {b : Bool} (hw : AWant ops fr o b) {E : Env} {w : World} {a : Act} (v : VRL E w fr a.tmps.toList) : Region.wanted o (yielded ops a.tmps) = b := by
  rcases hw with ⟨hg, rfl⟩ | ⟨j, want, d, hg, hd, hu⟩
  · simp [Region.wanted, hg]
  · rcases hu with ⟨c, hu, rfl⟩ | ⟨⟨vs, hu⟩, rfl⟩
    · simp only [Region.wanted, hg, yielded_of v hd hu]
      cases c <;> cases want <;> rfl
    · simp [Region.wanted, hg, yielded_of v hd hu]

theorem AWant.put {ops : Array Oper} {fr : Fr} {o : Oper} {b : Bool} (hw : AWant ops fr o b) {d : Option Tmp} {x : AV} (ha : ∀ e, d = some e → e ∉ o.looksAt ops) : AWant ops (fput fr d x) o b := by
  cases d with
  | none => exact hw
  | some e =>
    rcases hw with hw | ⟨j, want, d, hg, hd, hu⟩
    · exact .inl hw
    · refine .inr ⟨j, want, d, hg, hd, ?_⟩
      have hne : e ≠ d := fun h => ha e rfl (by subst h; simp [Oper.looksAt, hg, hd])
      simpa [fput, List.getElem?_set_ne hne] using hu

theorem ev_put {ops : Array Oper} {fr : Fr} {o : Oper} {d : Option Tmp} {x : AV} (ha : ∀ e, d = some e → e ∉ o.looksAt ops) (y : Operand) (hy : y ∈ o.op.operands) : ev (fput fr d x) y = ev fr y := by
  cases d with
  | none => rfl
  | some e =>
    cases y with
    | tmp t =>
      have hne : e ≠ t := fun h => ha e rfl (by
        subst h
        exact List.mem_append_left _ (List.mem_filterMap.2 ⟨.tmp e, by simpa using hy, rfl⟩))
      simp [ev, fput, List.getD, List.getElem?_set_ne hne]
    | const v => rfl
    | global g => rfl
    | func f => rfl

theorem fput_comm (fr : Fr) {d e : Option Tmp} (x y : AV) (h : ∀ t, d = some t → e ≠ some t) : fput (fput fr d x) e y = fput (fput fr e y) d x := by
  cases d with
  | none => rfl
  | some d =>
    cases e with
    | none => rfl
    | some e =>
      have hne : d ≠ e := fun he => h d rfl (by rw [he])
      simp [fput, List.set_comm _ _ hne]

/-- In this frame and heap the operation leaves x, and the heap as it is. -/
def AYields (P : Program) (ops : Array Oper) (h : Heap) (fr : Fr) (o : Oper) (x : AV) : Prop :=
  (AWant ops fr o true ∧ AOp P o (fun x' h' => x' = x ∧ h' = h) fr h) ∨ (AWant ops fr o false ∧ x = .sc undef)

theorem AYields.put {P : Program} {ops : Array Oper} {h : Heap} {fr : Fr} {o : Oper} {x : AV} (hy : AYields P ops h fr o x) {d : Option Tmp} {y : AV} (ha : ∀ e, d = some e → e ∉ o.looksAt ops) : AYields P ops h (fput fr d y) o x := by
  rcases hy with ⟨h1, h2⟩ | ⟨h1, h2⟩
  · exact .inl ⟨h1.put ha, h2.congr (ev_put ha)⟩
  · exact .inr ⟨h1.put ha, h2⟩
theorem AYields.unput {P : Program} {ops : Array Oper} {h : Heap} {fr : Fr} {o : Oper} {x : AV} {d : Option Tmp} {y : AV} (ha : ∀ e, d = some e → e ∉ o.looksAt ops) (hy : AYields P ops h (fput fr d y) o x) : AYields P ops h fr o x := by
  have want : ∀ b, AWant ops (fput fr d y) o b → AWant ops fr o b := by
    intro b hw
    cases d with
    | none => exact hw
    | some e =>
      rcases hw with hw | ⟨j, want, d, hg, hd, hu⟩
      · exact .inl hw
      · refine .inr ⟨j, want, d, hg, hd, ?_⟩
        have hne : e ≠ d := fun h => ha e rfl (by subst h; simp [Oper.looksAt, hg, hd])
        simpa [fput, List.getElem?_set_ne hne] using hu
  rcases hy with ⟨h1, h2⟩ | ⟨h1, h2⟩
  · exact .inl ⟨want _ h1, h2.congr fun z hz => (ev_put ha z hz).symm⟩
  · exact .inr ⟨want _ h1, h2⟩

section quiet
variable {P : Program} {ops : Array Oper} {h : Heap} {md : Region.Mode}

/-- The operations in the text's order. -/
def AQuiet (P : Program) (ops : Array Oper) (h : Heap) (K : Fr → Prop) : List Oper → Fr → Prop
  | [], fr => K fr
  | o :: l, fr => ∃ x, AYields P ops h fr o x ∧ AQuiet P ops h K l (fput fr o.dst x)

/-- Whatever order. -/
def AAny (P : Program) (md : Region.Mode) (ops : Array Oper) (h : Heap) (K : Fr → Prop) : Nat → Array Bool → Fr → Prop
  | 0, listed, fr => Region.ready md ops listed = [] ∧ K fr
  | fuel + 1, listed, fr => (Region.ready md ops listed = [] → K fr) ∧
    ∀ i ∈ Region.ready md ops listed, ∀ o, ops[i]? = some o → ∃ x, AYields P ops h fr o x ∧ AAny P md ops h K fuel (listed.setIfInBounds i true) (fput fr o.dst x)

theorem AAny_first {K : Fr → Prop} {i : Nat} {oi : Oper} {x : AV} (hi : ops[i]? = some oi) : ∀ (fuel : Nat) (listed : Array Bool) (fr : Fr),
    (∀ j oj, ops[j]? = some oj → j ≠ i → listed.getD j true = false → (∀ e ∈ oj.after, Region.binds md e = true → e.on ≠ i) → oi.apart ops oj = true) →
    i ∈ Region.ready md ops listed → AYields P ops h fr oi x →
    AAny P md ops h K fuel (listed.setIfInBounds i true) (fput fr oi.dst x) → AAny P md ops h K (fuel + 1) listed fr := by
  intro fuel
  induction fuel with
  | zero =>
    intro listed fr _ hr hy H
    refine ⟨fun e => (by rw [e] at hr; cases hr), fun j hj oj hoj => ?_⟩
    by_cases hji : j = i
    · subst hji
      rw [hi] at hoj; cases hoj
      exact ⟨x, hy, H⟩
    · have := ready_mono hj hji
      rw [H.1] at this
      cases this
  | succ fuel ih =>
    intro listed fr hfree hr hy H
    refine ⟨fun e => (by rw [e] at hr; cases hr), fun j hj oj hoj => ?_⟩
    by_cases hji : j = i
    · subst hji
      rw [hi] at hoj; cases hoj
      exact ⟨x, hy, H⟩
    · obtain ⟨y, hy2, hn⟩ := H.2 j (ready_mono hj hji) oj hoj
      obtain ⟨hjun, oj', hoj', hall⟩ := mem_ready.1 hj
      rw [hoj] at hoj'; cases hoj'
      have hnot : ∀ e ∈ oj.after, Region.binds md e = true → e.on ≠ i := fun e he hb heq => by
        have h1 := hall e he hb
        have h0 := (mem_ready.1 hr).1
        rw [heq] at h1
        rcases Nat.lt_or_ge i listed.size with h' | h'
        · simp [h'] at h0 h1; rw [h0] at h1; cases h1
        · simp [Array.getElem?_eq_none h'] at h1
      obtain ⟨a1, a2, a3⟩ := Oper.apart_spec (hfree j oj hoj hji hjun hnot)
      refine ⟨y, hy2.unput a1, ?_⟩
      have hfree' : ∀ k ok, ops[k]? = some ok → k ≠ i → (listed.setIfInBounds j true).getD k true = false →
          (∀ e ∈ ok.after, Region.binds md e = true → e.on ≠ i) → oi.apart ops ok = true := fun k ok hk hki hun hno => by
        refine hfree k ok hk hki ?_ hno
        by_cases hjk : j = k
        · subst hjk; exact hjun
        · rw [getD_set_ne true hjk] at hun; exact hun
      refine ih (listed.setIfInBounds j true) (fput fr oj.dst y) hfree' (ready_mono hr (Ne.symm hji)) (hy.put a3) ?_
      rw [Array.setIfInBounds_comm _ _ hji, ← fput_comm fr _ _ a2]
      exact hn

theorem AAny_lex {K : Fr → Prop} : ∀ (l : List Oper) (k : Nat) (listed : Array Bool) (fr : Fr), (∀ j, l[j]? = ops[k + j]?) →
    Region.lexFrom md ops l.length k listed = true → AQuiet P ops h K l fr → AAny P md ops h K l.length listed fr
  | [], _, _, _, _, hB, q => ⟨by simpa [Region.lexFrom] using hB, q⟩
  | o :: l, k, listed, fr, hl, hB, q => by
    have h0 : ops[k]? = some o := by simpa using (hl 0).symm
    simp only [List.length_cons, Region.lexFrom, Bool.and_eq_true] at hB
    obtain ⟨⟨hr, hf⟩, hB'⟩ := hB
    obtain ⟨x, hy, hK⟩ := q
    exact AAny_first h0 l.length listed fr (Region.free_spec h0 hf) (by simpa using hr) hy
      (AAny_lex l (k + 1) _ _ (fun j => by have := hl (j + 1); simpa [Nat.add_assoc, Nat.add_comm 1 j] using this) hB' hK)

theorem AAny_sound {K : Fr → Prop} : ∀ (fuel : Nat) (listed : Array Bool) (fr : Fr) (E : Env) (w : World) (a : Act), AAny P md ops h K fuel listed fr → Rel E h w → VRL E w fr a.tmps.toList → a.defers = [] →
    ∀ Q, (∀ a' w', Post E w (fun fr' h' => K fr' ∧ h' = h) a' w' → Q .normal a' w') → wpAny P md ops Q fuel listed a w
  | 0, _, fr, E, w, a, H, r, v, d, Q, hQ => ⟨H.1, hQ _ _ ⟨E, fr, h, Keep.refl E w, r, v, d, H.2, rfl⟩⟩
  | fuel + 1, listed, fr, E, w, a, H, r, v, d, Q, hQ => by
    refine ⟨fun e => hQ _ _ ⟨E, fr, h, Keep.refl E w, r, v, d, H.1 e, rfl⟩, fun i hi => ?_⟩
    obtain ⟨_, o, ho, _⟩ := mem_ready.1 hi
    obtain ⟨x, hy, hn⟩ := H.2 i hi o ho
    unfold wpOp
    simp only [ho]
    rcases hy with ⟨h1, h2⟩ | ⟨h1, rfl⟩
    · rw [h1.wanted v, if_pos rfl]
      refine .inl (h2 E w a r (fun y _ => VR_ev v y) _ Q ?_)
      rintro x' u w' E' h' k r' vx ⟨ex, eh⟩
      rw [ex] at vx
      rw [eh] at r'
      refine AAny_sound fuel _ _ E' w' _ hn r' (VRL_put _ (VRL_keep k _ _ v) vx) (by rw [put_defers]; exact d) Q ?_
      intro a' w'' p
      exact hQ _ _ (p.trans k)
    · rw [h1.wanted v]
      simp only [Bool.false_eq_true, if_false]
      exact AAny_sound fuel _ _ E w _ hn r (VRL_put _ v (by simp [VR])) (by rw [put_defers]; exact d) Q hQ
end quiet

theorem Rel.drewn {E : Env} {h : Heap} {w : World} (r : Rel E h w) (n : Nat) : Rel E h { w with drawn := n } ∧ Keep E w E { w with drawn := n } := by
  have k : Keep E w E { w with drawn := n } :=
    ⟨fun _ _ h => ⟨h, rfl⟩, fun _ => Iff.rfl, fun _ _ => rfl, fun _ h => h, fun _ _ h => h,
     fun k t h o ho => ⟨.inr ⟨t, h, rfl, ho⟩, rfl⟩, fun _ t h _ => ⟨t, h, Nat.le_refl _, fun _ => rfl⟩, rfl, rfl, rfl, Nat.le_refl _⟩
  refine ⟨⟨?_, r.tok, r.tkh, r.sep, r.dis, r.hus, r.obu, r.fre, r.imb, r.lkb, r.mp⟩, k⟩
  intro x ty cs hx
  obtain ⟨g, cur, h1, h2, h3, h4⟩ := r.obj x ty cs hx
  exact ⟨g, cur, h1, h2, VRL_keep k _ _ h3, h4⟩

theorem AQuiet_plain {P : Program} {ops : Array Oper} {h : Heap} {K : Fr → Prop} {fr : Fr} {o : Oper} {l : List Oper} (x : AV) (hg : o.guard = none)
    (ho : AOp P o (fun x' h' => x' = x ∧ h' = h) fr h) (hl : AQuiet P ops h K l (fput fr o.dst x)) : AQuiet P ops h K (o :: l) fr :=
  ⟨x, .inl ⟨.inl ⟨hg, rfl⟩, ho⟩, hl⟩
end Go.Vm
