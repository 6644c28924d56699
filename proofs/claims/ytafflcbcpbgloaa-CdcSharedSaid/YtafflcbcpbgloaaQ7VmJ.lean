/-
  The evaluation of a list of operations, and contracts out of bodies.
-/
import Derived.Test.YtafflcbcpbgloaaQ7VmI
namespace Go.Vm

/-- The operations one by one, as far as 'pv' knows them; what it does not know is left as 'AOps'. -/
def aops (P : Program) (ops : Array Oper) (K : Fr → Heap → Prop) : List Oper → Fr → Heap → Prop
  | [], fr, h => K fr h
  | o :: l, fr, h =>
    match o.guard with
    | none => match pv P h fr o.op with
      | some r => r.1 ∧ aops P ops K l (fput fr o.dst r.2) h
      | none => AOps P ops (o :: l) K fr h
    | some (j, want) => match (ops[j]?).bind (·.dst) with
      | some d => match fr[d]? with
        | some (.sc (.bool b)) => if b = want then match pv P h fr o.op with
            | some r => r.1 ∧ aops P ops K l (fput fr o.dst r.2) h
            | none => AOps P ops ({ o with guard := none } :: l) K fr h
          else aops P ops K l (fput fr o.dst (.sc undef)) h
        | some (.sc (.tuple _)) => aops P ops K l (fput fr o.dst (.sc undef)) h
        | _ => AOps P ops (o :: l) K fr h
      | none => AOps P ops (o :: l) K fr h

theorem AOp_pv {P : Program} {o : Oper} {K : AV → Heap → Prop} {fr : Fr} {h : Heap} {r : Prop × AV} (hp : pv P h fr o.op = some r) (hc : r.1) (hk : K r.2 h) : AOp P o K fr h :=
  AOp_value (x := r.2) (fun E w a rel hv => pv_sound (c := r.1) (x := r.2) hp hc E w a rel hv) hk

theorem AOps_unguard {P : Program} {ops : Array Oper} {o : Oper} {l : List Oper} {K : Fr → Heap → Prop} {fr : Fr} {h : Heap} (hw : ∀ E w (a : Act), VRL E w fr a.tmps.toList → Region.wanted o (yielded ops a.tmps) = true)
    (hu : AOps P ops ({ o with guard := none } :: l) K fr h) : AOps P ops (o :: l) K fr h := by
  intro E w a r v d Q hQ
  have := hu E w a r v d Q hQ
  unfold wpList at this ⊢
  rw [if_pos (hw E w a v)]
  rw [if_pos (show Region.wanted { o with guard := none } (yielded ops a.tmps) = true from rfl)] at this
  exact this

/-! ### What is known of a value may be said in fewer words -/

def ALe (h : Heap) (x y : AV) : Prop := ∀ E w v, Rel E h w → VR E w x v → VR E w y v

theorem ALe.refl (h : Heap) (x : AV) : ALe h x x := fun _ _ _ _ v => v
theorem ALe.trans {h : Heap} {x y z : AV} (a : ALe h x y) (b : ALe h y z) : ALe h x z := fun E w v r u => b E w v r (a E w v r u)
theorem ALe.any (h : Heap) (x : AV) : ALe h x .any := fun _ _ _ _ _ => by simp only [VR]
theorem ALe.nil (h : Heap) (sz n : Nat) (hn : n ≤ maxLen) : ALe h (.sc (.slice none 0 n)) (.sl none sz []) := fun _ _ v _ u => by
  simp only [VR] at u ⊢
  subst u
  exact ⟨none, n, rfl, Nat.zero_le _, hn, by simp, by simp, by simp⟩
theorem ALe.nil_e0 (h : Heap) : ALe h (.sc (.slice none 0 0)) .e0 := fun _ _ v _ u => by
  simp only [VR] at u ⊢
  exact ⟨none, u⟩
theorem ALe.e0 (h : Heap) (sz : Nat) : ALe h .e0 (.sl none sz []) := fun _ _ v _ u => by
  simp only [VR] at u ⊢
  obtain ⟨a, rfl⟩ := u
  exact ⟨a, 0, rfl, Nat.zero_le _, by simp [maxLen], by simp, by simp, by simp⟩

def notTok (h : Heap) (k : Key) : Prop := ∀ ty sz m, h k ≠ some (.tok ty sz m)

theorem Rel.tk_none {E : Env} {h : Heap} {w : World} (r : Rel E h w) {k : Key} (hk : notTok h k) : E.tk k = none := by
  cases e : E.tk k with
  | none => rfl
  | some t => obtain ⟨ty, e'⟩ := r.tkh k t e; exact absurd e' (hk _ _ _)

theorem VRM_untag {E : Env} {w : World} {k : Key} (hk : E.tk k = none) {g : Nat} : ∀ {o : Nat} {cs : List AV}, VRM E w (some k) g o cs → VRM E w none g o cs
  | _, [], _ => by simp [VRM]
  | o, x :: cs, hv => by
    simp only [VRM] at hv ⊢
    obtain ⟨h1, h2, h3⟩ := hv
    refine ⟨?_, h2, VRM_untag hk h3⟩
    rcases h1 with h1 | ⟨k', t, e1, e2, _⟩
    · exact .inl h1
    · cases e1; rw [hk] at e2; cases e2

/-- A slice whose array does not grow any more. -/
theorem ALe.freeze {h : Heap} {k : Key} (hk : notTok h k) (sz : Nat) (xs : List (List AV)) : ALe h (.sl (some k) sz xs) (.sl none sz xs) := fun E w v r u => by
  have ht := r.tk_none hk
  simp only [VR] at u ⊢
  obtain ⟨a, cap, e, h1, h2, h3, h4, h5⟩ := u
  refine ⟨a, cap, e, h1, h2, ?_, h4, by simp⟩
  rcases h3 with h3 | ⟨g, o, e', h3⟩
  · exact .inl h3
  · exact .inr ⟨g, o, e', VRG_flat.2 (VRM_untag ht (VRG_flat.1 h3))⟩

inductive ALeL (h : Heap) : List AV → List AV → Prop where
  | nil : ALeL h [] []
  | cons {x y : AV} {xs ys : List AV} : ALe h x y → ALeL h xs ys → ALeL h (x :: xs) (y :: ys)

theorem ALeL.spec {h : Heap} {xs ys : List AV} (hl : ALeL h xs ys) : ∀ {E : Env} {w : World} {vs : List Value}, Rel E h w → VRL E w xs vs → VRL E w ys vs := by
  induction hl with
  | nil => intro E w vs r v; exact v
  | cons hx _ ih =>
    intro E w vs r v
    cases vs with
    | nil => simp only [VRL] at v
    | cons u us => simp only [VRL] at v ⊢; exact ⟨hx E w u r v.1, ih r v.2⟩
theorem ALeL.refl (h : Heap) : ∀ (xs : List AV), ALeL h xs xs
  | [] => .nil
  | x :: xs => .cons (ALe.refl h x) (ALeL.refl h xs)
theorem ALe.agg {h : Heap} {xs ys : List AV} (hl : ALeL h xs ys) : ALe h (.agg xs) (.agg ys) := fun E w v r u => by
  simp only [VR] at u ⊢
  obtain ⟨cs, e, hc⟩ := u
  exact ⟨cs, e, hl.spec r hc⟩
theorem ALe.tup {h : Heap} {xs ys : List AV} (hl : ALeL h xs ys) : ALe h (.tup xs) (.tup ys) := fun E w v r u => by
  simp only [VR] at u ⊢
  obtain ⟨cs, e, hc⟩ := u
  exact ⟨cs, e, hl.spec r hc⟩

theorem VRM_le {h : Heap} {E : Env} {w : World} (r : Rel E h w) {tag : Option Key} {g : Nat} {xs ys : List AV} (hl : ALeL h xs ys) : ∀ {o : Nat}, VRM E w tag g o xs → VRM E w tag g o ys := by
  induction hl with
  | nil => intro o v; exact v
  | cons hx _ ih =>
    intro o v
    simp only [VRM] at v ⊢
    obtain ⟨h1, ⟨cv, h2, h3, h4⟩, h5⟩ := v
    exact ⟨h1, ⟨cv, h2, h3, hx E w cv r h4⟩, ih h5⟩

inductive ALeG (h : Heap) : List (List AV) → List (List AV) → Prop where
  | nil : ALeG h [] []
  | cons {x y : List AV} {xs ys : List (List AV)} : ALeL h x y → ALeG h xs ys → ALeG h (x :: xs) (y :: ys)
theorem ALeL.length {h : Heap} {xs ys : List AV} (hl : ALeL h xs ys) : xs.length = ys.length := by
  induction hl with
  | nil => rfl
  | cons _ _ ih => simp [ih]
theorem ALeG.length {h : Heap} {xs ys : List (List AV)} (hl : ALeG h xs ys) : xs.length = ys.length := by
  induction hl with
  | nil => rfl
  | cons _ _ ih => simp [ih]
theorem ALeG.each {h : Heap} {xs ys : List (List AV)} (hl : ALeG h xs ys) {sz : Nat} (hs : ∀ x ∈ xs, x.length = sz) : ∀ y ∈ ys, y.length = sz := by
  induction hl with
  | nil => simp
  | cons hx _ ih =>
    intro y hy
    rcases List.mem_cons.1 hy with rfl | hy
    · rw [← hx.length]; exact hs _ (by simp)
    · exact ih (fun z hz => hs z (by simp [hz])) y hy
theorem VRG_le {h : Heap} {E : Env} {w : World} (r : Rel E h w) {tag : Option Key} {g : Nat} {xs ys : List (List AV)} (hl : ALeG h xs ys) : ∀ {o : Nat}, VRG E w tag g o xs → VRG E w tag g o ys := by
  induction hl with
  | nil => intro o v; exact v
  | cons hx _ ih =>
    intro o v
    simp only [VRG] at v ⊢
    rw [← hx.length]
    exact ⟨VRM_le r hx v.1, ih v.2⟩
theorem ALe.sl {h : Heap} {tag : Option Key} {sz : Nat} {xs ys : List (List AV)} (hl : ALeG h xs ys) : ALe h (.sl tag sz xs) (.sl tag sz ys) := fun E w v r u => by
  simp only [VR] at u ⊢
  obtain ⟨a, cap, e, h1, h2, h3, h4, h5⟩ := u
  rw [← hl.length]
  refine ⟨a, cap, e, h1, h2, ?_, hl.each h4, h5⟩
  rcases h3 with h3 | ⟨g, o, e', h3⟩
  · subst h3; cases hl; exact .inl rfl
  · exact .inr ⟨g, o, e', VRG_le r hl h3⟩

def Sub (h' h : Heap) : Prop := ∀ k e, h' k = some e → h k = some e
theorem Sub.refl (h : Heap) : Sub h h := fun _ _ e => e
theorem Sub.trans {a b c : Heap} (h : Sub a b) (k : Sub b c) : Sub a c := fun x e q => k x e (h x e q)
theorem Sub.upd {h' h : Heap} (hs : Sub h' h) {k : Key} (hk : h' k = none) (e : Option Ent) : Sub h' (upd h k e) := fun x e' hx => by
  have : x ≠ k := fun q => by subst q; rw [hk] at hx; cases hx
  rw [upd_ne _ _ this]
  exact hs x e' hx

/-- Less is known. -/
theorem AW_le {P : Program} {c : Code} {Q : Exit → Fr → Heap → Prop} {fr fr' : Fr} {h h' : Heap} (hs : Sub h' h) (hl : ALeL h' fr fr') (hc : AW P c Q fr' h') : AW P c Q fr h := by
  intro E w a r v d
  obtain ⟨E', k, r'⟩ := r.drop hs
  exact wp_mono (hc E' w a r' (hl.spec r' (VRL_keep k _ _ v)) d) fun _ _ _ p => p.trans k
theorem ACalls_le {P : Program} {f : FuncId} {args args' : List AV} {Q : AV → Heap → Prop} {h : Heap} (hl : ALeL h args args') (hc : ACalls P f args' h Q) : ACalls P f args h Q :=
  fun E w vs r v => hc E w vs r (hl.spec r v)
/-! ### A function's results, and its contract out of its body -/

def rdR (tmps : Array Value) : ResultVar → Sem Value
  | .tmp t => pure (tmps.getD t undef)
  | .cell a t => do loadVar t (← asAddr (tmps.getD a undef))

theorem results_rdR (fn : Func) (tmps : Array Value) : results fn tmps = (do let vs ← fn.results.mapM (rdR tmps); pure (if h : vs.size = 1 then vs[0] else .tuple vs)) := by
  unfold results
  congr 1

def rsA (P : Program) (h : Heap) (fr : Fr) : ResultVar → Option AV
  | .tmp t => some (fr.getD t .any)
  | .cell a t => (ldT P t).bind fun x => match fr.getD a .any with | .ptr k off => ldA h x.1 x.2 (.ptr k off) | _ => none

def rsL (P : Program) (h : Heap) (fr : Fr) : List ResultVar → Option (List AV)
  | [] => some []
  | r :: rs => (rsA P h fr r).bind fun x => (rsL P h fr rs).map fun xs => x :: xs

def resA (P : Program) (h : Heap) (fr : Fr) : List ResultVar → Option AV
  | [r] => rsA P h fr r
  | rs => (rsL P h fr rs).map .tup

section res
variable {P : Program} {E : Env} {h : Heap} {w : World}
theorem rsA_sound (r : Rel E h w) {fr : Fr} {tmps : Array Value} (v : VRL E w fr tmps.toList) {rv : ResultVar} {x : AV} (hx : rsA P h fr rv = some x) :
    ∃ u, (rdR tmps rv).run P w = .ok u w ∧ VR E w x u := by
  have hg : ∀ t, VR E w (fr.getD t .any) (tmps.getD t undef) := by
    intro t
    have := VRL_getD t undef v
    simpa [Array.getD_eq_getD_getElem?, List.getD] using this
  cases rv with
  | tmp t =>
    simp only [rsA, Option.some.injEq] at hx
    subst hx
    exact ⟨_, rfl, hg t⟩
  | cell a t =>
    simp only [rsA, Option.bind_eq_some_iff] at hx
    obtain ⟨⟨ag, n⟩, h1, h2⟩ := hx
    have ha := hg a
    split at h2
    · rename_i k off hk
      rw [hk] at ha
      obtain ⟨u, h3, h4⟩ := ldA_sound r h1 h2 ha
      simp only [VR] at ha
      obtain ⟨g, _, e⟩ := ha
      refine ⟨u, ?_, h4⟩
      rw [e] at h3
      have e' : tmps.getD a undef = .pointer (some ⟨g, off, none⟩) := e
      simp only [rdR, e']
      simpa [Instr.loadAt, Instr.sureAddr, asAddr] using h3
    · cases h2

theorem rsL_sound (r : Rel E h w) {fr : Fr} {tmps : Array Value} (v : VRL E w fr tmps.toList) : ∀ {rs : List ResultVar} {xs : List AV}, rsL P h fr rs = some xs →
    ∃ us, (rs.mapM (rdR tmps)).run P w = .ok us w ∧ VRL E w xs us
  | [], xs, hx => by cases hx; exact ⟨[], by simp, by simp [VRL]⟩
  | rv :: rs, xs, hx => by
    simp only [rsL, Option.bind_eq_some_iff, Option.map_eq_some_iff] at hx
    obtain ⟨x, h1, xs', h2, rfl⟩ := hx
    obtain ⟨u, h3, h4⟩ := rsA_sound (P := P) r v h1
    obtain ⟨us, h5, h6⟩ := rsL_sound r v h2
    refine ⟨u :: us, ?_, by simp only [VRL]; exact ⟨h4, h6⟩⟩
    simp only [List.mapM_cons, Sem.run_bind]
    rw [h3]
    simp only [Result.andThen_ok, h5]
    rfl

theorem resA_sound (r : Rel E h w) {fr : Fr} {tmps : Array Value} (v : VRL E w fr tmps.toList) {fn : Func} {x : AV} (hx : resA P h fr fn.results.toList = some x) : ∃ u, (results fn tmps).run P w = .ok u w ∧ VR E w x u := by
  obtain ⟨rs, hrs⟩ : ∃ rs, rs = fn.results.toList := ⟨_, rfl⟩
  have hre : fn.results = rs.toArray := by rw [hrs]
  have hrun : ∀ us, (rs.mapM (rdR tmps)).run P w = .ok us w →
      (results fn tmps).run P w = .ok (if h : us.toArray.size = 1 then us.toArray[0] else .tuple us.toArray) w := by
    intro us hus
    rw [results_rdR, hre, List.mapM_toArray]
    simp only [Sem.run_bind, Sem.run_map, hus, Result.andThen_ok, Sem.run_pure]
  rw [← hrs] at hx
  have gen : ∀ xs, rsL P h fr rs = some xs → ∃ us, (results fn tmps).run P w = .ok (if h : us.toArray.size = 1 then us.toArray[0] else .tuple us.toArray) w ∧ VRL E w xs us := by
    intro xs hxs
    obtain ⟨us, h1, h2⟩ := rsL_sound (P := P) r v hxs
    exact ⟨us, hrun us h1, h2⟩
  unfold resA at hx
  split at hx
  · rename_i rv
    obtain ⟨us, h1, h2⟩ := gen [x] (by simp [rsL, hx])
    cases us with
    | nil => simp only [VRL] at h2
    | cons u us =>
      simp only [VRL] at h2
      cases us with
      | nil => exact ⟨u, by simpa using h1, h2.1⟩
      | cons _ _ => simp only [VRL, and_false] at h2
  · rename_i hns
    simp only [Option.map_eq_some_iff] at hx
    obtain ⟨xs, h1, rfl⟩ := hx
    obtain ⟨us, h2, h3⟩ := gen xs h1
    have hl : us.length = rs.length := by
      have e1 := VRL_length h3
      have : ∀ (rs : List ResultVar) (xs : List AV), rsL P h fr rs = some xs → xs.length = rs.length := by
        intro rs
        induction rs with
        | nil => intro xs hx; cases hx; rfl
        | cons q rs ih =>
          intro xs hx
          simp only [rsL, Option.bind_eq_some_iff, Option.map_eq_some_iff] at hx
          obtain ⟨y, _, ys, hy, rfl⟩ := hx
          simp [ih ys hy]
      rw [← e1, this rs xs h1]
    have hne : ¬ us.toArray.size = 1 := by
      intro e
      have : rs.length = 1 := by rw [← hl]; simpa using e
      obtain ⟨q, hq⟩ := List.length_eq_one_iff.1 this
      exact hns q hq
    rw [dif_neg hne] at h2
    exact ⟨_, h2, by simp only [VR]; exact ⟨_, rfl, by simpa using h3⟩⟩
end res

/-- What a body must come to. -/
def Ret (P : Program) (rs : List ResultVar) (Q : AV → Heap → Prop) : Exit → Fr → Heap → Prop
  | .normal, fr, h | .ret, fr, h => ∃ x y h'', resA P h fr rs = some x ∧ Sub h'' h ∧ ALe h'' x y ∧ Q y h''
  | _, _, _ => False

theorem ACalls_of_AW {P : Program} {f : FuncId} {fn : Func} {c : Code} {args : List AV} {h : Heap} {Q : AV → Heap → Prop} (hf : P.funcs[f]? = some fn) (hb : fn.body = some c)
    (hc : AW P c (Ret P fn.results.toList Q) (args ++ List.replicate (fn.ntmps - args.length) (.sc undef)) h) : ACalls P f args h Q := by
  intro E w vs r v
  refine calls_of_wp hf hb ?_
  have hl : args.length = vs.size := by simpa using VRL_length v
  have hv : VRL E w (args ++ List.replicate (fn.ntmps - args.length) (.sc undef)) (vs ++ Array.replicate (fn.ntmps - vs.size) undef).toList := by
    rw [Array.toList_append, ← hl]
    refine VRL_append v ?_
    have := VRL_sc (E := E) (w := w) (List.replicate (fn.ntmps - args.length) undef)
    simpa using this
  refine wp_mono (hc E w { tmps := vs ++ Array.replicate (fn.ntmps - vs.size) undef, defers := [] } r hv rfl) ?_
  intro e a' w' p
  obtain ⟨E', fr', h', k, r', v', d', q⟩ := p
  have fin : ∀ x y h'', resA P h' fr' fn.results.toList = some x → Sub h'' h' → ALe h'' x y → Q y h'' →
      a'.defers = [] ∧ ∃ u, (results fn a'.tmps).run P w' = .ok u w' ∧ (fun e w' => ∃ v E' x h', e = Ending.returned v ∧ Keep E w E' w' ∧ Rel E' h' w' ∧ VR E' w' x v ∧ Q x h') (Ending.returned u) w' := by
    intro x y h'' hx hs hl hq
    obtain ⟨u, h1, h2⟩ := resA_sound r' v' hx
    obtain ⟨E'', k'', r''⟩ := r'.drop hs
    exact ⟨d', u, h1, u, E'', y, h'', rfl, k.trans k'', r'', hl _ _ _ r'' (VR_keep k'' _ _ h2), hq⟩
  cases e with
  | normal => obtain ⟨x, y, h'', q1, q2, q3, q4⟩ := q; exact fin x y h'' q1 q2 q3 q4
  | ret => obtain ⟨x, y, h'', q1, q2, q3, q4⟩ := q; exact fin x y h'' q1 q2 q3 q4
  | exit id => exact q.elim
  | goto l => exact q.elim
  | panic ch => exact q.elim
  | outgrown => exact q.elim

end Go.Vm
