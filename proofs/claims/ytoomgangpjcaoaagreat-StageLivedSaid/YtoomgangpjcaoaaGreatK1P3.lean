import Derived.Test.YtoomgangpjcaoaaGreatK1P2
import Derived.Test.YtoomgangpjcaoaaGreatProg
set_option linter.unusedSimpArgs false
set_option linter.unusedVariables false
namespace Go.Vm
def avt (t : Option Key) (off n : Nat) : AV := match t with
 | none => .any
 | some k => .view k off n
section ops
variable {P : Program} {h h0 : Heap} {L : HL} {n : Nat} {kvs : KV} {ty : TypeId} {pos : String} {aft : Array Edge}
theorem o_slAt {dst : Option Tmp} {s : Nat} {lo : Operand} {t : TypeId} {g : AGh} {m sz : Nat} {q : IntKind} {i : Int} (hi : (decide (0 ≤ i) && decide (i < (m : Int))) = true) (ht : elS P t = some sz) (ok : AOk g sz m) (ha : lk n kvs s = aw g.t g.n g.cap) (hb : evk n kvs lo = .sc (.int q i)) :
    AOpV P ⟨dst, .slice t (.tmp s) (some lo) none none, ty, pos, aft, none⟩ (avt g.t (i.toNat * sz) (m - i.toNat)) (fm n kvs) h := by
  simp only [Bool.and_eq_true, decide_eq_true_eq] at hi
  rw [ok.eqn] at ha
  cases ht' : g.t with
  | none => have := ok.nil ht'; omega
  | some k =>
    rw [ht'] at ha
    have hT : slT P t = true := by simp [slT, ht]
    refine AOp_put (s := s) (.view k 0 m) (by rw [ha]; exact ALe_vw _ _ _ _) (o_pv (c := 0 ≤ i ∧ i < (m : Int) ∧ (m : Int) ≤ m) ?_ ⟨hi.1, hi.2, by omega⟩)
    have e : evk n (kp kvs s (.view k 0 m)) (.tmp s) = .view k 0 m := lk_kp ha (by simp [aw])
    have e2 : evk n (kp kvs s (.view k 0 m)) lo = .sc (.int q i) := evk_kp ha (by simp [aw]) hb
    simp only [pv, ev_fm, e, Option.map_some, e2, Option.map_none, slA, ht, Option.bind_some, bdA, intA, hT, if_true, avt, Nat.zero_add, Int.toNat_natCast]
theorem o_slAh {dst : Option Tmp} {s : Nat} {hi : Operand} {t : TypeId} {g : AGh} {m sz : Nat} {q : IntKind} {i : Int} (hi' : (decide (0 ≤ i) && decide (i ≤ (m : Int))) = true) (ok : AOk g sz m) (ht : elS P t = some sz) (ha : evk n kvs (.tmp s) = aw g.t g.n g.cap) (hb : evk n kvs hi = .sc (.int q i)) :
    AOpV P ⟨dst, .slice t (.tmp s) none (some hi) none, ty, pos, aft, none⟩ (aw g.t i.toNat g.cap) (fm n kvs) h := by
  have hn : g.t = none → g.n = 0 := fun e => ok.eqn.trans (ok.nil e)
  have hc : g.n ≤ g.cap := by rw [ok.eqn]; exact ok.le
  rw [← ok.eqn] at hi'
  obtain ⟨tg, n0, cap, sp⟩ := g
  simp only at hn hc ha hi' ⊢
  simp only [Bool.and_eq_true, decide_eq_true_eq] at hi'
  obtain ⟨e, hu, he⟩ := elS_spec ht
  cases tg with
  | none =>
    have := hn rfl
    have hi0 : i = 0 := by omega
    subst hi0
    have hT : slT P t = true := by simp [slT, ht]
    have ha : evk n kvs (.tmp s) = .e0 := ha
    refine o_pv (c := (0 : Int) = 0 ∧ (0 : Int) = 0) ?_ ⟨rfl, rfl⟩
    simp only [pv, ev_fm, ha, Option.map_some, hb, Option.map_none, slA, ht, Option.bind_some, bdA, intA, hT, if_true]
    rfl
  | some k =>
    have ha : evk n kvs (.tmp s) = .vw k n0 cap := ha
    refine AOp_value (x := .vw k i.toNat cap) (fun E w ac r hv => ?_) ⟨rfl, rfl⟩
    have va := hv (.tmp s) (by simp [Op.operands])
    have vb := hv hi (by simp [Op.operands])
    rw [ev_fm, ha] at va; rw [ev_fm, hb] at vb
    simp only [VR] at va vb
    obtain ⟨g, hg, e1, e2, e3⟩ := va
    have hbd := run_bounds (P := P) (w := w) (sl := true) (len := n0) (cap := cap) (l := 0) (h := i) (lo := none) (hi := some (.sc (.int q i))) (lv := none) (hv := some (.int q i)) rfl rfl (E := E) nofun (fun _ => rfl)
      (fun x hx => by cases hx; exact ⟨_, rfl, by simp only [VR]⟩) nofun (by omega) hi'.1 (by omega)
    refine ⟨.slice (some ⟨g, 0, none⟩) i.toNat cap, ?_, by simp only [VR]; exact ⟨g, hg, rfl, by omega, e3⟩⟩
    by_cases hz : cap = 0
    · subst hz
      have hi0 : i.toNat = 0 := by omega
      simp [execOp, e1, vb, Instr.sliceAt, Instr.slice, run_underlying hu, hbd, run_sizeOf' he, hi0]
    · have : ¬ cap = (0 : Int).toNat := by simpa using hz
      simp [execOp, e1, vb, Instr.sliceAt, Instr.slice, run_underlying hu, hbd, run_sizeOf' he, hz, Addr.add]
theorem a_clr {K : AV → Heap → Prop} {α : Type} {c : α → List AV} {xs : List α} {dst : Option Tmp} {t e : TypeId} {x : Operand} {g : AGh} {sz : Nat} {zs : List Value} {i : Int} (p : Nat) (hk : HOk h0 L) (hi : (decide (0 ≤ i) && decide (i < (xs.length : Int))) = true) (hc : ∀ y, (c y).length = sz) (ok : AOk g sz xs.length)
    (hu : P.underlying t = some (.slice e)) (hz : zrT P e = some zs) (hzl : zs.length = sz) (hzo : zs.all (·.oneCell') = true) (ha : evk n kvs x = avt g.t (i.toNat * sz) (xs.length - i.toNat)) (hL : L[p]? = some (g.t, .obj e (fl c xs g.sp)))
    (k : ∀ sp : List AV, AOk ⟨g.t, i.toNat, g.cap, sp⟩ sz (xs.take i.toNat).length → HOk h0 (L.set p (g.t, .obj e (fl c (xs.take i.toNat) sp))) → K (.tup []) (hp h0 (L.set p (g.t, .obj e (fl c (xs.take i.toNat) sp))))) :
    AOp P ⟨dst, .call { callee := .builtin .clear, args := #[x], argTypes := #[t] }, ty, pos, aft, none⟩ K (fm n kvs) (hp h0 L) := by
  simp only [Bool.and_eq_true, decide_eq_true_eq] at hi
  obtain ⟨i1, i2⟩ := hi
  have hil : i.toNat < xs.length := by omega
  cases ht' : g.t with
  | none => have := ok.nil ht'; omega
  | some q =>
    rw [ht'] at ha hL k
    have hq := Zd p hk hL
    have hfl : (fl c xs g.sp).length = xs.length * sz + g.sp.length := fl_len hc xs g.sp
    have hm : (xs.length - i.toNat) * sz + i.toNat * sz = xs.length * sz := by rw [← Nat.add_mul]; congr 1; omega
    have htk : (xs.take i.toNat).length = i.toNat := by rw [List.length_take]; omega
    have key := k (List.replicate ((xs.length - i.toNat) * sz) .any ++ g.sp) ⟨htk.symm, nofun, by rw [htk]; exact Nat.le_trans (Nat.le_of_lt hil) ok.le, ok.mx, by
      rw [htk, List.length_append, List.length_replicate]
      have := ok.len
      simp only
      omega⟩
    obtain ⟨h1, h2, _⟩ := hp_put (e' := .obj e (fl c (xs.take i.toNat) (List.replicate ((xs.length - i.toNat) * sz) .any ++ g.sp))) p hk hL (.inl rfl)
    have key := key h2
    rw [← h1] at key
    intro E w a r hv Nx Qx hn
    have vx := hv x (by simp [Op.operands, Call.operands])
    rw [ev_fm, ha] at vx
    simp only [avt, VR] at vx
    obtain ⟨gg, cap, hg, ex, hc1, hc2⟩ := vx
    obtain ⟨g', cur, f1, f2, f3, f4⟩ := r.obj q e _ hq
    rw [hg] at f1; cases f1
    have hcl : xs.length * sz + g.sp.length = cur.size := by rw [← hfl]; simpa using VRL_length f3
    unfold zrT at hz
    cases hinf : P.info? e with
    | none => rw [hinf] at hz; simp at hz
    | some ii =>
    cases hzz : ii.zero with
    | none => rw [hinf] at hz; simp [hzz] at hz
    | some z =>
    rw [hinf] at hz
    simp only [Option.bind_some, hzz, Option.map_some, Option.some.injEq] at hz
    subst hz
    have hzs : z.cells.size = sz := by simpa using hzl
    have hzc : ∀ v ∈ (Builtin.zeroCells z.cells (xs.length - i.toNat)).toList, v.oneCell' = true := mem_zeroCells (List.all_eq_true.1 hzo)
    have hzn : (Builtin.zeroCells z.cells (xs.length - i.toNat)).toList.length = (xs.length - i.toNat) * sz := by rw [Array.length_toList, size_zeroCells, hzs]
    have hst := run_storeCells_at P gg (i.toNat * sz) e (Builtin.zeroCells z.cells (xs.length - i.toNat)).toList 0 cur w f2 (by rw [hzn]; omega) hzc
    rw [hzn] at hst
    simp only [Nat.add_zero] at hst
    have hspl : fl c (xs.take i.toNat) (List.replicate ((xs.length - i.toNat) * sz) .any ++ g.sp) = (fl c xs g.sp).take (i.toNat * sz) ++ List.replicate ((xs.length - i.toNat) * sz) .any ++ (fl c xs g.sp).drop (i.toNat * sz + (xs.length - i.toNat) * sz) := by
      have e1 : (xs.map c).flatten = ((xs.take i.toNat).map c).flatten ++ ((xs.drop i.toNat).map c).flatten := by
        rw [← List.flatten_append, ← List.map_append, List.take_append_drop]
      have l1 : ((xs.take i.toNat).map c).flatten.length = i.toNat * sz := by rw [flat_len hc, htk]
      have l2 : (xs.map c).flatten.length = xs.length * sz := flat_len hc xs
      unfold fl
      rw [show i.toNat * sz + (xs.length - i.toNat) * sz = (xs.map c).flatten.length from by rw [l2]; omega, List.drop_left]
      rw [e1, ← l1]
      simp only [List.append_assoc, List.take_left']
    have hv' : VRL E w (fl c (xs.take i.toNat) (List.replicate ((xs.length - i.toNat) * sz) .any ++ g.sp)) (cur.toList.take (i.toNat * sz) ++ (Builtin.zeroCells z.cells (xs.length - i.toNat)).toList ++ cur.toList.drop (i.toNat * sz + (xs.length - i.toNat) * sz)) := by
      rw [hspl]
      exact VRL_append (VRL_append (VRL_take _ f3) (VRL_any _ hzn)) (VRL_drop _ f3)
    have h1' : ∀ v ∈ cur.toList.take (i.toNat * sz) ++ (Builtin.zeroCells z.cells (xs.length - i.toNat)).toList ++ cur.toList.drop (i.toNat * sz + (xs.length - i.toNat) * sz), v.oneCell' = true := by
      intro v hv
      rcases List.mem_append.1 hv with hv | hv
      · rcases List.mem_append.1 hv with hv | hv
        · exact f4 v (List.mem_of_mem_take hv)
        · exact hzc v hv
      · exact f4 v (List.mem_of_mem_drop hv)
    obtain ⟨k1, k2⟩ := r.set_obj (cur := (cur.toList.take (i.toNat * sz) ++ (Builtin.zeroCells z.cells (xs.length - i.toNat)).toList ++ cur.toList.drop (i.toNat * sz + (xs.length - i.toNat) * sz)).toArray) hq hg
      (w' := w.setRow gg (cur.toList.take (i.toNat * sz) ++ (Builtin.zeroCells z.cells (xs.length - i.toNat)).toList ++ cur.toList.drop (i.toNat * sz + (xs.length - i.toNat) * sz)).toArray)
      (setRow_heap w gg cur _ e _ f2) (fun g' hg' => setRow_other w gg g' _ hg') (by simp) rfl rfl rfl hv' h1'
    unfold Oper.wp
    have hpos : ¬ xs.length - i.toNat = 0 := by omega
    have hzv : (zeroValue e).run P w = .ok z w := by simp [zeroValue, typeInfo, hinf, hzz]
    have hrun : (Builtin.clear_ #[t] ty #[.slice (some ⟨gg, i.toNat * sz, none⟩) (xs.length - i.toNat) cap]).run P w = .ok (.tuple #[]) (w.setRow gg (cur.toList.take (i.toNat * sz) ++ (Builtin.zeroCells z.cells (xs.length - i.toNat)).toList ++ cur.toList.drop (i.toNat * sz + (xs.length - i.toNat) * sz)).toArray) := by
      simp [Builtin.clear_, run_underlying hu, hzv, hst, hpos]
    have hex : (execOp a.eval ⟨dst, .call { callee := .builtin .clear, args := #[x], argTypes := #[t] }, ty, pos, aft, none⟩).run P w = .ok (.value (.tuple #[])) (w.setRow gg (cur.toList.take (i.toNat * sz) ++ (Builtin.zeroCells z.cells (xs.length - i.toNat)).toList ++ cur.toList.drop (i.toNat * sz + (xs.length - i.toNat) * sz)).toArray) := by
      simp only [execOp, resolve, invoke, builtin, List.map_toArray, List.map_cons, List.map_nil, ex, Sem.run_bind, Sem.run_pure, Result.andThen_ok, hrun]
    rw [hex]
    exact hn (.tup []) (.tuple #[]) _ E _ k1 k2 (by simp only [VR]; exact ⟨#[], rfl, by simp [VRL]⟩) key
theorem a_lit0A {K : AV → Heap → Prop} {α : Type} {c : α → List AV} {dst : Option Tmp} {t e : TypeId} {sz b : Nat} (hk : HOk h0 L) (ht : ElT P t e sz b)
    (k : HOk h0 ((none, .obj e (fl c ([] : List α) g0.sp)) :: L) → K (aw g0.t g0.n g0.cap) (hp h0 ((none, .obj e (fl c ([] : List α) g0.sp)) :: L))) :
    AOp P ⟨dst, .buildSlice t 0 #[], ty, pos, aft, none⟩ K (fm n kvs) (hp h0 L) :=
  AOp_lit0 rfl ht (k ⟨hk, nofun⟩)
end ops
end Go.Vm
namespace Go.Proofs.YtoomgangpjcaoaaGreat
open Go.Vm
abbrev c_i64 (x : Int) : List AV := [.sc (.int .i64 x)]
abbrev c_bool (x : Bool) : List AV := [.sc (.bool x)]
abbrev c_u8 (x : Int) : List AV := [.sc (.int .u8 x)]
abbrev c_str (x : ByteArray) : List AV := [.sc (.string x)]
abbrev c_s_i64 (x : List Int) : List AV := [.sl none 1 (List.map c_i64 x)]
abbrev c_s_u8 (x : List Int) : List AV := [.sl none 1 (List.map c_u8 x)]
structure TFile where
 Path : ByteArray
 Data : List Int
 deriving DecidableEq
def c_File (x : TFile) : List AV := [.sc (.string x.Path), .sl none 1 (List.map c_u8 x.Data)]
abbrev c_s_File (x : List TFile) : List AV := [.sl none 2 (List.map c_File x)]
abbrev c_s_bool (x : List Bool) : List AV := [.sl none 1 (List.map c_bool x)]
structure TAct where
 Do : Int
 N : Int
 Vol : Int
 Tree : List TFile
 Pick : List Bool
 deriving DecidableEq
def c_Act (x : TAct) : List AV := [.sc (.int .i64 x.Do), .sc (.int .i64 x.N), .sc (.int .i64 x.Vol), .sl none 2 (List.map c_File x.Tree), .sl none 1 (List.map c_bool x.Pick)]
abbrev c_s_Act (x : List TAct) : List AV := [.sl none 5 (List.map c_Act x)]
structure TPart where
 Path : ByteArray
 Size : Int
 Ids : List Id32
 deriving DecidableEq
def c_Part (x : TPart) : List AV := [.sc (.string x.Path), .sc (.int .i64 x.Size), .sl none 32 (List.map c_id x.Ids)]
structure TManifest where
 Name : ByteArray
 Parts : List TPart
 deriving DecidableEq
def c_Manifest (x : TManifest) : List AV := [.sc (.string x.Name), .sl none 3 (List.map c_Part x.Parts)]
structure TLoc where
 Vol : Int
 File : Int
 Off : Int
 Len : Int
 deriving DecidableEq
def c_Loc (x : TLoc) : List AV := [.sc (.int .i64 x.Vol), .sc (.int .i64 x.File), .sc (.int .i64 x.Off), .sc (.int .i64 x.Len)]
theorem cz_Loc : ∀ y, (c_Loc y).length = 4 := fun y => by first | rfl | simp [c_Loc, c_id, Id32.len]
structure TSnap where
 Seq : Int
 Man : TManifest
 Locs : List TLoc
 deriving DecidableEq
def c_Snap (x : TSnap) : List AV := [.sc (.int .i64 x.Seq), .sc (.string x.Man.Name), .sl none 3 (List.map c_Part x.Man.Parts), .sl none 4 (List.map c_Loc x.Locs)]
theorem cz_Snap : ∀ y, (c_Snap y).length = 4 := fun y => by first | rfl | simp [c_Snap, c_id, Id32.len]
structure TChunk where
 Id : Id32
 Staged : Bool
 Data : List Int
 Locs : List TLoc
 deriving DecidableEq
def c_Chunk (x : TChunk) : List AV := c_id x.Id ++ [.sc (.bool x.Staged), .sl none 1 (List.map c_u8 x.Data), .sl none 4 (List.map c_Loc x.Locs)]
theorem cz_Chunk : ∀ y, (c_Chunk y).length = 35 := fun y => by first | rfl | simp [c_Chunk, c_id, Id32.len]
structure TExp where
 Seq : Int
 Of : Int
 Locs : List TLoc
 deriving DecidableEq
def c_Exp (x : TExp) : List AV := [.sc (.int .i64 x.Seq), .sc (.int .i64 x.Of), .sl none 4 (List.map c_Loc x.Locs)]
theorem cz_Exp : ∀ y, (c_Exp y).length = 3 := fun y => by first | rfl | simp [c_Exp, c_id, Id32.len]
structure TVol where
 Pool : Int
 Epoch : Int
 State : Int
 Files : Int
 deriving DecidableEq
def c_Vol (x : TVol) : List AV := [.sc (.int .i64 x.Pool), .sc (.int .i64 x.Epoch), .sc (.int .i64 x.State), .sc (.int .i64 x.Files)]
theorem cz_Vol : ∀ y, (c_Vol y).length = 4 := fun y => by first | rfl | simp [c_Vol, c_id, Id32.len]
structure TCatalog where
 Seq : Int
 Snaps : List TSnap
 Chunks : List TChunk
 Exps : List TExp
 Vols : List TVol
 deriving DecidableEq
def c_Catalog (x : TCatalog) : List AV := [.sc (.int .i64 x.Seq), .sl none 4 (List.map c_Snap x.Snaps), .sl none 35 (List.map c_Chunk x.Chunks), .sl none 3 (List.map c_Exp x.Exps), .sl none 4 (List.map c_Vol x.Vols)]
structure TItem where
 Kind : Int
 Id : Id32
 Seq : Int
 Of : Int
 Off : Int
 Len : Int
 deriving DecidableEq
def c_Item (x : TItem) : List AV := [.sc (.int .i64 x.Kind)] ++ c_id x.Id ++ [.sc (.int .i64 x.Seq), .sc (.int .i64 x.Of), .sc (.int .i64 x.Off), .sc (.int .i64 x.Len)]
abbrev c_s_Item (x : List TItem) : List AV := [.sl none 37 (List.map c_Item x)]
structure TChange where
 Kind : Int
 Snap : TSnap
 Chunks : List TChunk
 Seq : Int
 Vol : Int
 Items : List TItem
 deriving DecidableEq
def c_Change (x : TChange) : List AV := [.sc (.int .i64 x.Kind), .sc (.int .i64 x.Snap.Seq), .sc (.string x.Snap.Man.Name), .sl none 3 (List.map c_Part x.Snap.Man.Parts), .sl none 4 (List.map c_Loc x.Snap.Locs), .sl none 35 (List.map c_Chunk x.Chunks), .sc (.int .i64 x.Seq), .sc (.int .i64 x.Vol), .sl none 37 (List.map c_Item x.Items)]
abbrev c_arr64_u32 (x : Ar 64) : List AV := cA .u32 64 x
abbrev c_arr8_u32 (x : Ar 8) : List AV := cA .u32 8 x
theorem ld3 : ldT Tryz.prog 3 = some (false, 1) := by kernel_rfl
theorem sz3 : tSz Tryz.prog 3 = some 1 := by kernel_rfl
theorem ti3 : tInt Tryz.prog 3 = some .i64 := by kernel_rfl
theorem u3 : Tryz.prog.underlying 3 = some (.int .i64) := by kernel_rfl
theorem zr3 : zrT Tryz.prog 3 = some [.int .i64 0] := by kernel_rfl
theorem ld4 : ldT Tryz.prog 4 = some (false, 1) := by kernel_rfl
theorem sz4 : tSz Tryz.prog 4 = some 1 := by kernel_rfl
theorem u4 : Tryz.prog.underlying 4 = some .bool := by kernel_rfl
theorem zb4 : (Tryz.prog.info? 4).bind (·.zero) = some (.bool false) := by kernel_rfl
theorem ld5 : ldT Tryz.prog 5 = some (false, 1) := by kernel_rfl
theorem sz5 : tSz Tryz.prog 5 = some 1 := by kernel_rfl
theorem ti5 : tInt Tryz.prog 5 = some .u8 := by kernel_rfl
theorem u5 : Tryz.prog.underlying 5 = some (.int .u8) := by kernel_rfl
theorem ln9 : lnT Tryz.prog 9 = some false := by kernel_rfl
theorem ld9 : ldT Tryz.prog 9 = some (false, 1) := by kernel_rfl
theorem u9 : Tryz.prog.underlying 9 = some .string := by kernel_rfl
theorem ln22 : lnT Tryz.prog 22 = some true := by kernel_rfl
theorem el22 : elS Tryz.prog 22 = some 1 := by kernel_rfl
theorem et22 : ElT Tryz.prog 22 3 1 8 := ElT.of (by kernel_rfl) (by kernel_rfl) (by decide)
theorem u22 : Tryz.prog.underlying 22 = some (.slice 3) := by kernel_rfl
theorem ln23 : lnT Tryz.prog 23 = some true := by kernel_rfl
theorem el23 : elS Tryz.prog 23 = some 5 := by kernel_rfl
theorem u23 : Tryz.prog.underlying 23 = some (.slice 67) := by kernel_rfl
theorem ln25 : lnT Tryz.prog 25 = some true := by kernel_rfl
theorem el25 : elS Tryz.prog 25 = some 4 := by kernel_rfl
theorem et25 : ElT Tryz.prog 25 60 4 72 := ElT.of (by kernel_rfl) (by kernel_rfl) (by decide)
theorem ld25 : ldT Tryz.prog 25 = some (false, 1) := by kernel_rfl
theorem sz25 : tSz Tryz.prog 25 = some 1 := by kernel_rfl
theorem ln26 : lnT Tryz.prog 26 = some true := by kernel_rfl
theorem el26 : elS Tryz.prog 26 = some 35 := by kernel_rfl
theorem et26 : ElT Tryz.prog 26 44 35 88 := ElT.of (by kernel_rfl) (by kernel_rfl) (by decide)
theorem ld26 : ldT Tryz.prog 26 = some (false, 1) := by kernel_rfl
theorem sz26 : tSz Tryz.prog 26 = some 1 := by kernel_rfl
theorem ln27 : lnT Tryz.prog 27 = some true := by kernel_rfl
theorem el27 : elS Tryz.prog 27 = some 3 := by kernel_rfl
theorem et27 : ElT Tryz.prog 27 99 3 40 := ElT.of (by kernel_rfl) (by kernel_rfl) (by decide)
theorem ld27 : ldT Tryz.prog 27 = some (false, 1) := by kernel_rfl
theorem sz27 : tSz Tryz.prog 27 = some 1 := by kernel_rfl
theorem ln28 : lnT Tryz.prog 28 = some true := by kernel_rfl
theorem el28 : elS Tryz.prog 28 = some 4 := by kernel_rfl
theorem et28 : ElT Tryz.prog 28 49 4 32 := ElT.of (by kernel_rfl) (by kernel_rfl) (by decide)
theorem ld28 : ldT Tryz.prog 28 = some (false, 1) := by kernel_rfl
theorem sz28 : tSz Tryz.prog 28 = some 1 := by kernel_rfl
theorem ld30 : ldT Tryz.prog 30 = some (true, 5) := by kernel_rfl
theorem sz30 : tSz Tryz.prog 30 = some 5 := by kernel_rfl
theorem fd30_0 : fdS Tryz.prog 30 0 = some (0, 1) := by kernel_rfl
theorem fd30_1 : fdS Tryz.prog 30 1 = some (1, 1) := by kernel_rfl
theorem fd30_2 : fdS Tryz.prog 30 2 = some (2, 1) := by kernel_rfl
theorem fd30_3 : fdS Tryz.prog 30 3 = some (3, 1) := by kernel_rfl
theorem fd30_4 : fdS Tryz.prog 30 4 = some (4, 1) := by kernel_rfl
theorem bt30 : bldT Tryz.prog 30 = some ([.int .i64 0, .slice none 0 0, .slice none 0 0, .slice none 0 0, .slice none 0 0], [(0, 1), (1, 1), (2, 1), (3, 1), (4, 1)]) := by kernel_rfl
theorem zr30 : zrT Tryz.prog 30 = some [.int .i64 0, .slice none 0 0, .slice none 0 0, .slice none 0 0, .slice none 0 0] := by kernel_rfl
theorem ln33 : lnT Tryz.prog 33 = some true := by kernel_rfl
theorem el33 : elS Tryz.prog 33 = some 37 := by kernel_rfl
theorem et33 : ElT Tryz.prog 33 38 37 72 := ElT.of (by kernel_rfl) (by kernel_rfl) (by decide)
theorem ld33 : ldT Tryz.prog 33 = some (false, 1) := by kernel_rfl
theorem sz33 : tSz Tryz.prog 33 = some 1 := by kernel_rfl
theorem ar36 : arS Tryz.prog 36 = some (32, 1) := by kernel_rfl
theorem ld36 : ldT Tryz.prog 36 = some (true, 32) := by kernel_rfl
theorem sz36 : tSz Tryz.prog 36 = some 32 := by kernel_rfl
theorem u36 : Tryz.prog.underlying 36 = some (.array 32 5) := by kernel_rfl
theorem eg36 : Tryz.prog.eqGuardType Tryz.prog.depth 36 = false := by kernel_rfl
theorem zr36 : zrT Tryz.prog 36 = some [.int .u8 0, .int .u8 0, .int .u8 0, .int .u8 0, .int .u8 0, .int .u8 0, .int .u8 0, .int .u8 0, .int .u8 0, .int .u8 0, .int .u8 0, .int .u8 0, .int .u8 0, .int .u8 0, .int .u8 0, .int .u8 0, .int .u8 0, .int .u8 0, .int .u8 0, .int .u8 0, .int .u8 0, .int .u8 0, .int .u8 0, .int .u8 0, .int .u8 0, .int .u8 0, .int .u8 0, .int .u8 0, .int .u8 0, .int .u8 0, .int .u8 0, .int .u8 0] := by kernel_rfl
theorem ld38 : ldT Tryz.prog 38 = some (true, 37) := by kernel_rfl
theorem sz38 : tSz Tryz.prog 38 = some 37 := by kernel_rfl
theorem fd38_0 : fdS Tryz.prog 38 0 = some (0, 1) := by kernel_rfl
theorem fd38_1 : fdS Tryz.prog 38 1 = some (1, 32) := by kernel_rfl
theorem fd38_2 : fdS Tryz.prog 38 2 = some (33, 1) := by kernel_rfl
theorem fd38_3 : fdS Tryz.prog 38 3 = some (34, 1) := by kernel_rfl
theorem fd38_4 : fdS Tryz.prog 38 4 = some (35, 1) := by kernel_rfl
theorem fd38_5 : fdS Tryz.prog 38 5 = some (36, 1) := by kernel_rfl
theorem bt38 : bldT Tryz.prog 38 = some ([.int .i64 0, .int .u8 0, .int .u8 0, .int .u8 0, .int .u8 0, .int .u8 0, .int .u8 0, .int .u8 0, .int .u8 0, .int .u8 0, .int .u8 0, .int .u8 0, .int .u8 0, .int .u8 0, .int .u8 0, .int .u8 0, .int .u8 0, .int .u8 0, .int .u8 0, .int .u8 0, .int .u8 0, .int .u8 0, .int .u8 0, .int .u8 0, .int .u8 0, .int .u8 0, .int .u8 0, .int .u8 0, .int .u8 0, .int .u8 0, .int .u8 0, .int .u8 0, .int .u8 0, .int .i64 0, .int .i64 0, .int .i64 0, .int .i64 0], [(0, 1), (1, 32), (33, 1), (34, 1), (35, 1), (36, 1)]) := by kernel_rfl
theorem zr38 : zrT Tryz.prog 38 = some [.int .i64 0, .int .u8 0, .int .u8 0, .int .u8 0, .int .u8 0, .int .u8 0, .int .u8 0, .int .u8 0, .int .u8 0, .int .u8 0, .int .u8 0, .int .u8 0, .int .u8 0, .int .u8 0, .int .u8 0, .int .u8 0, .int .u8 0, .int .u8 0, .int .u8 0, .int .u8 0, .int .u8 0, .int .u8 0, .int .u8 0, .int .u8 0, .int .u8 0, .int .u8 0, .int .u8 0, .int .u8 0, .int .u8 0, .int .u8 0, .int .u8 0, .int .u8 0, .int .u8 0, .int .i64 0, .int .i64 0, .int .i64 0, .int .i64 0] := by kernel_rfl
theorem ln41 : lnT Tryz.prog 41 = some true := by kernel_rfl
theorem el41 : elS Tryz.prog 41 = some 1 := by kernel_rfl
theorem et41 : ElT Tryz.prog 41 5 1 1 := ElT.of (by kernel_rfl) (by kernel_rfl) (by decide)
theorem ld41 : ldT Tryz.prog 41 = some (false, 1) := by kernel_rfl
theorem sz41 : tSz Tryz.prog 41 = some 1 := by kernel_rfl
theorem u41 : Tryz.prog.underlying 41 = some (.slice 5) := by kernel_rfl
theorem ln42 : lnT Tryz.prog 42 = some true := by kernel_rfl
theorem el42 : elS Tryz.prog 42 = some 4 := by kernel_rfl
theorem et42 : ElT Tryz.prog 42 81 4 32 := ElT.of (by kernel_rfl) (by kernel_rfl) (by decide)
theorem ld42 : ldT Tryz.prog 42 = some (false, 1) := by kernel_rfl
theorem sz42 : tSz Tryz.prog 42 = some 1 := by kernel_rfl
theorem u42 : Tryz.prog.underlying 42 = some (.slice 81) := by kernel_rfl
theorem ld44 : ldT Tryz.prog 44 = some (true, 35) := by kernel_rfl
theorem sz44 : tSz Tryz.prog 44 = some 35 := by kernel_rfl
theorem fd44_0 : fdS Tryz.prog 44 0 = some (0, 32) := by kernel_rfl
theorem fd44_1 : fdS Tryz.prog 44 1 = some (32, 1) := by kernel_rfl
theorem fd44_2 : fdS Tryz.prog 44 2 = some (33, 1) := by kernel_rfl
theorem fd44_3 : fdS Tryz.prog 44 3 = some (34, 1) := by kernel_rfl
theorem bt44 : bldT Tryz.prog 44 = some ([.int .u8 0, .int .u8 0, .int .u8 0, .int .u8 0, .int .u8 0, .int .u8 0, .int .u8 0, .int .u8 0, .int .u8 0, .int .u8 0, .int .u8 0, .int .u8 0, .int .u8 0, .int .u8 0, .int .u8 0, .int .u8 0, .int .u8 0, .int .u8 0, .int .u8 0, .int .u8 0, .int .u8 0, .int .u8 0, .int .u8 0, .int .u8 0, .int .u8 0, .int .u8 0, .int .u8 0, .int .u8 0, .int .u8 0, .int .u8 0, .int .u8 0, .int .u8 0, .bool false, .slice none 0 0, .slice none 0 0], [(0, 32), (32, 1), (33, 1), (34, 1)]) := by kernel_rfl
theorem zr44 : zrT Tryz.prog 44 = some [.int .u8 0, .int .u8 0, .int .u8 0, .int .u8 0, .int .u8 0, .int .u8 0, .int .u8 0, .int .u8 0, .int .u8 0, .int .u8 0, .int .u8 0, .int .u8 0, .int .u8 0, .int .u8 0, .int .u8 0, .int .u8 0, .int .u8 0, .int .u8 0, .int .u8 0, .int .u8 0, .int .u8 0, .int .u8 0, .int .u8 0, .int .u8 0, .int .u8 0, .int .u8 0, .int .u8 0, .int .u8 0, .int .u8 0, .int .u8 0, .int .u8 0, .int .u8 0, .bool false, .slice none 0 0, .slice none 0 0] := by kernel_rfl
theorem ld49 : ldT Tryz.prog 49 = some (true, 4) := by kernel_rfl
theorem sz49 : tSz Tryz.prog 49 = some 4 := by kernel_rfl
theorem fd49_0 : fdS Tryz.prog 49 0 = some (0, 1) := by kernel_rfl
theorem fd49_1 : fdS Tryz.prog 49 1 = some (1, 1) := by kernel_rfl
theorem fd49_2 : fdS Tryz.prog 49 2 = some (2, 1) := by kernel_rfl
theorem fd49_3 : fdS Tryz.prog 49 3 = some (3, 1) := by kernel_rfl
theorem bt49 : bldT Tryz.prog 49 = some ([.int .i64 0, .int .i64 0, .int .i64 0, .int .i64 0], [(0, 1), (1, 1), (2, 1), (3, 1)]) := by kernel_rfl
theorem zr49 : zrT Tryz.prog 49 = some [.int .i64 0, .int .i64 0, .int .i64 0, .int .i64 0] := by kernel_rfl
theorem ln50 : lnT Tryz.prog 50 = some true := by kernel_rfl
theorem el50 : elS Tryz.prog 50 = some 1 := by kernel_rfl
theorem et50 : ElT Tryz.prog 50 33 1 24 := ElT.of (by kernel_rfl) (by kernel_rfl) (by decide)
theorem ld50 : ldT Tryz.prog 50 = some (false, 1) := by kernel_rfl
theorem sz50 : tSz Tryz.prog 50 = some 1 := by kernel_rfl
theorem zr50 : zrT Tryz.prog 50 = some [.slice none 0 0] := by kernel_rfl
theorem ln56 : lnT Tryz.prog 56 = some true := by kernel_rfl
theorem el56 : elS Tryz.prog 56 = some 3 := by kernel_rfl
theorem et56 : ElT Tryz.prog 56 70 3 48 := ElT.of (by kernel_rfl) (by kernel_rfl) (by decide)
theorem ld56 : ldT Tryz.prog 56 = some (false, 1) := by kernel_rfl
theorem sz56 : tSz Tryz.prog 56 = some 1 := by kernel_rfl
theorem ld58 : ldT Tryz.prog 58 = some (true, 2) := by kernel_rfl
theorem sz58 : tSz Tryz.prog 58 = some 2 := by kernel_rfl
theorem fd58_0 : fdS Tryz.prog 58 0 = some (0, 1) := by kernel_rfl
theorem bt58 : bldT Tryz.prog 58 = some ([.string ByteArray.empty, .slice none 0 0], [(0, 1), (1, 1)]) := by kernel_rfl
theorem zr58 : zrT Tryz.prog 58 = some [.string ByteArray.empty, .slice none 0 0] := by kernel_rfl
theorem ld60 : ldT Tryz.prog 60 = some (true, 4) := by kernel_rfl
theorem sz60 : tSz Tryz.prog 60 = some 4 := by kernel_rfl
theorem fd60_0 : fdS Tryz.prog 60 0 = some (0, 1) := by kernel_rfl
theorem fd60_1 : fdS Tryz.prog 60 1 = some (1, 2) := by kernel_rfl
theorem fd60_2 : fdS Tryz.prog 60 2 = some (3, 1) := by kernel_rfl
theorem bt60 : bldT Tryz.prog 60 = some ([.int .i64 0, .string ByteArray.empty, .slice none 0 0, .slice none 0 0], [(0, 1), (1, 2), (3, 1)]) := by kernel_rfl
theorem zr60 : zrT Tryz.prog 60 = some [.int .i64 0, .string ByteArray.empty, .slice none 0 0, .slice none 0 0] := by kernel_rfl
theorem ld62 : ldT Tryz.prog 62 = some (true, 9) := by kernel_rfl
theorem sz62 : tSz Tryz.prog 62 = some 9 := by kernel_rfl
theorem fd62_0 : fdS Tryz.prog 62 0 = some (0, 1) := by kernel_rfl
theorem fd62_1 : fdS Tryz.prog 62 1 = some (1, 4) := by kernel_rfl
theorem fd62_2 : fdS Tryz.prog 62 2 = some (5, 1) := by kernel_rfl
theorem fd62_3 : fdS Tryz.prog 62 3 = some (6, 1) := by kernel_rfl
theorem fd62_4 : fdS Tryz.prog 62 4 = some (7, 1) := by kernel_rfl
theorem fd62_5 : fdS Tryz.prog 62 5 = some (8, 1) := by kernel_rfl
theorem bt62 : bldT Tryz.prog 62 = some ([.int .i64 0, .int .i64 0, .string ByteArray.empty, .slice none 0 0, .slice none 0 0, .slice none 0 0, .int .i64 0, .int .i64 0, .slice none 0 0], [(0, 1), (1, 4), (5, 1), (6, 1), (7, 1), (8, 1)]) := by kernel_rfl
theorem zr62 : zrT Tryz.prog 62 = some [.int .i64 0, .int .i64 0, .string ByteArray.empty, .slice none 0 0, .slice none 0 0, .slice none 0 0, .int .i64 0, .int .i64 0, .slice none 0 0] := by kernel_rfl
theorem ti63 : tInt Tryz.prog 63 = some .u64 := by kernel_rfl
theorem ln64 : lnT Tryz.prog 64 = some true := by kernel_rfl
theorem el64 : elS Tryz.prog 64 = some 2 := by kernel_rfl
theorem et64 : ElT Tryz.prog 64 95 2 40 := ElT.of (by kernel_rfl) (by kernel_rfl) (by decide)
theorem ld64 : ldT Tryz.prog 64 = some (false, 1) := by kernel_rfl
theorem u64 : Tryz.prog.underlying 64 = some (.slice 95) := by kernel_rfl
theorem ln65 : lnT Tryz.prog 65 = some true := by kernel_rfl
theorem el65 : elS Tryz.prog 65 = some 1 := by kernel_rfl
theorem ld65 : ldT Tryz.prog 65 = some (false, 1) := by kernel_rfl
theorem u65 : Tryz.prog.underlying 65 = some (.slice 4) := by kernel_rfl
theorem ld67 : ldT Tryz.prog 67 = some (true, 5) := by kernel_rfl
theorem tf67_0 : tFld Tryz.prog 67 0 = some (0, 3) := by kernel_rfl
theorem fd67_1 : fdS Tryz.prog 67 1 = some (1, 1) := by kernel_rfl
theorem tf67_1 : tFld Tryz.prog 67 1 = some (1, 3) := by kernel_rfl
theorem tf67_2 : tFld Tryz.prog 67 2 = some (2, 3) := by kernel_rfl
theorem tf67_3 : tFld Tryz.prog 67 3 = some (3, 64) := by kernel_rfl
theorem tf67_4 : tFld Tryz.prog 67 4 = some (4, 65) := by kernel_rfl
theorem ln68 : lnT Tryz.prog 68 = some true := by kernel_rfl
theorem el68 : elS Tryz.prog 68 = some 32 := by kernel_rfl
theorem et68 : ElT Tryz.prog 68 36 32 32 := ElT.of (by kernel_rfl) (by kernel_rfl) (by decide)
theorem ld68 : ldT Tryz.prog 68 = some (false, 1) := by kernel_rfl
theorem sz68 : tSz Tryz.prog 68 = some 1 := by kernel_rfl
theorem ld70 : ldT Tryz.prog 70 = some (true, 3) := by kernel_rfl
theorem sz70 : tSz Tryz.prog 70 = some 3 := by kernel_rfl
theorem bt70 : bldT Tryz.prog 70 = some ([.string ByteArray.empty, .int .i64 0, .slice none 0 0], [(0, 1), (1, 1), (2, 1)]) := by kernel_rfl
theorem zr70 : zrT Tryz.prog 70 = some [.string ByteArray.empty, .int .i64 0, .slice none 0 0] := by kernel_rfl
theorem ld81 : ldT Tryz.prog 81 = some (true, 4) := by kernel_rfl
theorem sz81 : tSz Tryz.prog 81 = some 4 := by kernel_rfl
theorem bt81 : bldT Tryz.prog 81 = some ([.int .i64 0, .int .i64 0, .int .i64 0, .int .i64 0], [(0, 1), (1, 1), (2, 1), (3, 1)]) := by kernel_rfl
theorem zr81 : zrT Tryz.prog 81 = some [.int .i64 0, .int .i64 0, .int .i64 0, .int .i64 0] := by kernel_rfl
theorem fd95_0 : fdS Tryz.prog 95 0 = some (0, 1) := by kernel_rfl
theorem tf95_0 : tFld Tryz.prog 95 0 = some (0, 9) := by kernel_rfl
theorem fd95_1 : fdS Tryz.prog 95 1 = some (1, 1) := by kernel_rfl
theorem tf95_1 : tFld Tryz.prog 95 1 = some (1, 41) := by kernel_rfl
theorem bt95 : bldT Tryz.prog 95 = some ([.string ByteArray.empty, .slice none 0 0], [(0, 1), (1, 1)]) := by kernel_rfl
theorem ld99 : ldT Tryz.prog 99 = some (true, 3) := by kernel_rfl
theorem sz99 : tSz Tryz.prog 99 = some 3 := by kernel_rfl
theorem fd99_0 : fdS Tryz.prog 99 0 = some (0, 1) := by kernel_rfl
theorem fd99_1 : fdS Tryz.prog 99 1 = some (1, 1) := by kernel_rfl
theorem fd99_2 : fdS Tryz.prog 99 2 = some (2, 1) := by kernel_rfl
theorem bt99 : bldT Tryz.prog 99 = some ([.int .i64 0, .int .i64 0, .slice none 0 0], [(0, 1), (1, 1), (2, 1)]) := by kernel_rfl
theorem zr99 : zrT Tryz.prog 99 = some [.int .i64 0, .int .i64 0, .slice none 0 0] := by kernel_rfl
theorem ln129 : lnT Tryz.prog 129 = some true := by kernel_rfl
theorem el129 : elS Tryz.prog 129 = some 1 := by kernel_rfl
theorem et129 : ElT Tryz.prog 129 41 1 24 := ElT.of (by kernel_rfl) (by kernel_rfl) (by decide)
theorem um175 : Tryz.prog.underlying 175 = some (.map 9 4) := by kernel_rfl
theorem ld180 : ldT Tryz.prog 180 = some (false, 1) := by kernel_rfl
theorem sz180 : tSz Tryz.prog 180 = some 1 := by kernel_rfl
theorem ti180 : tInt Tryz.prog 180 = some .u32 := by kernel_rfl
theorem ar181 : arS Tryz.prog 181 = some (64, 1) := by kernel_rfl
theorem ld181 : ldT Tryz.prog 181 = some (true, 64) := by kernel_rfl
theorem sz181 : tSz Tryz.prog 181 = some 64 := by kernel_rfl
theorem bta181 : bldTA Tryz.prog 181 = some ([.int .u32 0, .int .u32 0, .int .u32 0, .int .u32 0, .int .u32 0, .int .u32 0, .int .u32 0, .int .u32 0, .int .u32 0, .int .u32 0, .int .u32 0, .int .u32 0, .int .u32 0, .int .u32 0, .int .u32 0, .int .u32 0, .int .u32 0, .int .u32 0, .int .u32 0, .int .u32 0, .int .u32 0, .int .u32 0, .int .u32 0, .int .u32 0, .int .u32 0, .int .u32 0, .int .u32 0, .int .u32 0, .int .u32 0, .int .u32 0, .int .u32 0, .int .u32 0, .int .u32 0, .int .u32 0, .int .u32 0, .int .u32 0, .int .u32 0, .int .u32 0, .int .u32 0, .int .u32 0, .int .u32 0, .int .u32 0, .int .u32 0, .int .u32 0, .int .u32 0, .int .u32 0, .int .u32 0, .int .u32 0, .int .u32 0, .int .u32 0, .int .u32 0, .int .u32 0, .int .u32 0, .int .u32 0, .int .u32 0, .int .u32 0, .int .u32 0, .int .u32 0, .int .u32 0, .int .u32 0, .int .u32 0, .int .u32 0, .int .u32 0, .int .u32 0], [(0, 1), (1, 1), (2, 1), (3, 1), (4, 1), (5, 1), (6, 1), (7, 1), (8, 1), (9, 1), (10, 1), (11, 1), (12, 1), (13, 1), (14, 1), (15, 1), (16, 1), (17, 1), (18, 1), (19, 1), (20, 1), (21, 1), (22, 1), (23, 1), (24, 1), (25, 1), (26, 1), (27, 1), (28, 1), (29, 1), (30, 1), (31, 1), (32, 1), (33, 1), (34, 1), (35, 1), (36, 1), (37, 1), (38, 1), (39, 1), (40, 1), (41, 1), (42, 1), (43, 1), (44, 1), (45, 1), (46, 1), (47, 1), (48, 1), (49, 1), (50, 1), (51, 1), (52, 1), (53, 1), (54, 1), (55, 1), (56, 1), (57, 1), (58, 1), (59, 1), (60, 1), (61, 1), (62, 1), (63, 1)]) := by kernel_rfl
theorem zr181 : zrT Tryz.prog 181 = some [.int .u32 0, .int .u32 0, .int .u32 0, .int .u32 0, .int .u32 0, .int .u32 0, .int .u32 0, .int .u32 0, .int .u32 0, .int .u32 0, .int .u32 0, .int .u32 0, .int .u32 0, .int .u32 0, .int .u32 0, .int .u32 0, .int .u32 0, .int .u32 0, .int .u32 0, .int .u32 0, .int .u32 0, .int .u32 0, .int .u32 0, .int .u32 0, .int .u32 0, .int .u32 0, .int .u32 0, .int .u32 0, .int .u32 0, .int .u32 0, .int .u32 0, .int .u32 0, .int .u32 0, .int .u32 0, .int .u32 0, .int .u32 0, .int .u32 0, .int .u32 0, .int .u32 0, .int .u32 0, .int .u32 0, .int .u32 0, .int .u32 0, .int .u32 0, .int .u32 0, .int .u32 0, .int .u32 0, .int .u32 0, .int .u32 0, .int .u32 0, .int .u32 0, .int .u32 0, .int .u32 0, .int .u32 0, .int .u32 0, .int .u32 0, .int .u32 0, .int .u32 0, .int .u32 0, .int .u32 0, .int .u32 0, .int .u32 0, .int .u32 0, .int .u32 0] := by kernel_rfl
theorem ar183 : arS Tryz.prog 183 = some (8, 1) := by kernel_rfl
theorem ld183 : ldT Tryz.prog 183 = some (true, 8) := by kernel_rfl
theorem sz183 : tSz Tryz.prog 183 = some 8 := by kernel_rfl
theorem bta183 : bldTA Tryz.prog 183 = some ([.int .u32 0, .int .u32 0, .int .u32 0, .int .u32 0, .int .u32 0, .int .u32 0, .int .u32 0, .int .u32 0], [(0, 1), (1, 1), (2, 1), (3, 1), (4, 1), (5, 1), (6, 1), (7, 1)]) := by kernel_rfl
theorem zr183 : zrT Tryz.prog 183 = some [.int .u32 0, .int .u32 0, .int .u32 0, .int .u32 0, .int .u32 0, .int .u32 0, .int .u32 0, .int .u32 0] := by kernel_rfl
theorem mixed : Tryz.prog.follows .mixedOrders = true := by kernel_rfl
def tb : Tr TI := .node 114 ⟨some (false, 1), none, []⟩ (.node 60 ⟨some (true, 4), none, [0, 1, 3]⟩ (.node 33 ⟨some (false, 1), none, []⟩ (.node 18 ⟨some (true, 1), none, [0]⟩ (.node 9 ⟨some (false, 1), none, []⟩ (.node 4 ⟨some (false, 1), none, []⟩ (.node 2 ⟨some (false, 1), some .i64, []⟩ (.node 1 ⟨some (false, 1), none, []⟩ .nil .nil) (.node 3 ⟨some (false, 1), some .i64, []⟩ .nil .nil)) (.node 7 ⟨some (true, 4), none, [0, 1, 2, 3]⟩ (.node 5 ⟨some (false, 1), some .u8, []⟩ .nil .nil) .nil)) (.node 15 ⟨some (false, 1), none, []⟩ (.node 13 ⟨some (true, 2), none, [0, 1]⟩ (.node 12 ⟨some (false, 1), some .u64, []⟩ .nil .nil) .nil) (.node 17 ⟨some (false, 1), none, []⟩ (.node 16 ⟨some (false, 1), none, []⟩ .nil .nil) .nil))) (.node 27 ⟨some (false, 1), none, []⟩ (.node 24 ⟨some (false, 1), none, []⟩ (.node 22 ⟨some (false, 1), none, []⟩ (.node 21 ⟨some (false, 1), some .i32, []⟩ .nil .nil) (.node 23 ⟨some (false, 1), none, []⟩ .nil .nil)) (.node 26 ⟨some (false, 1), none, []⟩ (.node 25 ⟨some (false, 1), none, []⟩ .nil .nil) .nil)) (.node 30 ⟨some (true, 5), none, [0, 1, 2, 3, 4]⟩ (.node 29 ⟨some (true, 5), none, [0, 1, 2, 3, 4]⟩ (.node 28 ⟨some (false, 1), none, []⟩ .nil .nil) .nil) (.node 32 ⟨some (false, 1), none, []⟩ (.node 31 ⟨some (false, 1), none, []⟩ .nil .nil) .nil)))) (.node 46 ⟨some (false, 1), none, []⟩ (.node 40 ⟨some (false, 1), none, []⟩ (.node 37 ⟨some (true, 37), none, [0, 1, 33, 34, 35, 36]⟩ (.node 35 ⟨some (false, 1), none, []⟩ (.node 34 ⟨some (false, 1), none, []⟩ .nil .nil) (.node 36 ⟨some (true, 32), none, []⟩ .nil .nil)) (.node 39 ⟨some (false, 1), none, []⟩ (.node 38 ⟨some (true, 37), none, [0, 1, 33, 34, 35, 36]⟩ .nil .nil) .nil)) (.node 43 ⟨some (true, 35), none, [0, 32, 33, 34]⟩ (.node 42 ⟨some (false, 1), none, []⟩ (.node 41 ⟨some (false, 1), none, []⟩ .nil .nil) .nil) (.node 45 ⟨some (false, 1), none, []⟩ (.node 44 ⟨some (true, 35), none, [0, 32, 33, 34]⟩ .nil .nil) .nil))) (.node 54 ⟨some (false, 1), none, []⟩ (.node 50 ⟨some (false, 1), none, []⟩ (.node 48 ⟨some (true, 4), none, [0, 1, 2, 3]⟩ (.node 47 ⟨some (false, 1), none, []⟩ .nil .nil) (.node 49 ⟨some (true, 4), none, [0, 1, 2, 3]⟩ .nil .nil)) (.node 52 ⟨some (false, 1), some .i64, []⟩ (.node 51 ⟨some (false, 1), none, []⟩ .nil .nil) .nil)) (.node 57 ⟨some (true, 2), none, [0, 1]⟩ (.node 56 ⟨some (false, 1), none, []⟩ (.node 55 ⟨some (false, 1), none, []⟩ .nil .nil) .nil) (.node 59 ⟨some (true, 4), none, [0, 1, 3]⟩ (.node 58 ⟨some (true, 2), none, [0, 1]⟩ .nil .nil) .nil))))) (.node 88 ⟨some (false, 1), none, []⟩ (.node 73 ⟨some (false, 1), none, []⟩ (.node 67 ⟨some (true, 5), none, [0, 1, 2, 3, 4]⟩ (.node 64 ⟨some (false, 1), none, []⟩ (.node 62 ⟨some (true, 9), none, [0, 1, 5, 6, 7, 8]⟩ (.node 61 ⟨some (true, 9), none, [0, 1, 5, 6, 7, 8]⟩ .nil .nil) (.node 63 ⟨some (false, 1), some .u64, []⟩ .nil .nil)) (.node 66 ⟨some (true, 5), none, [0, 1, 2, 3, 4]⟩ (.node 65 ⟨some (false, 1), none, []⟩ .nil .nil) .nil)) (.node 70 ⟨some (true, 3), none, [0, 1, 2]⟩ (.node 69 ⟨some (true, 3), none, [0, 1, 2]⟩ (.node 68 ⟨some (false, 1), none, []⟩ .nil .nil) .nil) (.node 72 ⟨some (false, 1), none, []⟩ (.node 71 ⟨some (false, 1), none, []⟩ .nil .nil) .nil))) (.node 81 ⟨some (true, 4), none, [0, 1, 2, 3]⟩ (.node 78 ⟨some (false, 1), none, []⟩ (.node 75 ⟨some (false, 1), none, []⟩ (.node 74 ⟨some (false, 1), none, []⟩ .nil .nil) (.node 76 ⟨some (false, 1), none, []⟩ .nil .nil)) (.node 80 ⟨some (true, 4), none, [0, 1, 2, 3]⟩ (.node 79 ⟨some (false, 1), none, []⟩ .nil .nil) .nil)) (.node 85 ⟨some (false, 1), none, []⟩ (.node 84 ⟨some (false, 1), none, []⟩ (.node 82 ⟨some (false, 1), none, []⟩ .nil .nil) .nil) (.node 87 ⟨some (false, 1), none, []⟩ (.node 86 ⟨some (false, 1), none, []⟩ .nil .nil) .nil)))) (.node 101 ⟨some (false, 1), none, []⟩ (.node 95 ⟨some (true, 2), none, [0, 1]⟩ (.node 92 ⟨some (false, 1), none, []⟩ (.node 90 ⟨some (false, 1), none, []⟩ (.node 89 ⟨some (false, 1), none, []⟩ .nil .nil) (.node 91 ⟨some (false, 1), none, []⟩ .nil .nil)) (.node 94 ⟨some (true, 2), none, [0, 1]⟩ (.node 93 ⟨some (false, 1), none, []⟩ .nil .nil) .nil)) (.node 98 ⟨some (true, 3), none, [0, 1, 2]⟩ (.node 97 ⟨some (false, 1), none, []⟩ (.node 96 ⟨some (false, 1), none, []⟩ .nil .nil) .nil) (.node 100 ⟨some (false, 1), none, []⟩ (.node 99 ⟨some (true, 3), none, [0, 1, 2]⟩ .nil .nil) .nil))) (.node 108 ⟨some (false, 1), none, []⟩ (.node 105 ⟨some (false, 1), none, []⟩ (.node 103 ⟨some (false, 1), none, []⟩ (.node 102 ⟨some (false, 1), none, []⟩ .nil .nil) (.node 104 ⟨some (false, 1), none, []⟩ .nil .nil)) (.node 107 ⟨some (false, 1), none, []⟩ (.node 106 ⟨some (false, 1), none, []⟩ .nil .nil) .nil)) (.node 111 ⟨some (false, 1), none, []⟩ (.node 110 ⟨some (false, 1), none, []⟩ (.node 109 ⟨some (false, 1), none, []⟩ .nil .nil) .nil) (.node 113 ⟨some (false, 1), none, []⟩ (.node 112 ⟨some (false, 1), none, []⟩ .nil .nil) .nil)))))) (.node 172 ⟨some (false, 1), none, []⟩ (.node 144 ⟨some (false, 1), none, []⟩ (.node 129 ⟨some (false, 1), none, []⟩ (.node 122 ⟨some (false, 1), none, []⟩ (.node 118 ⟨some (false, 1), none, []⟩ (.node 116 ⟨some (false, 1), none, []⟩ (.node 115 ⟨some (false, 1), none, []⟩ .nil .nil) (.node 117 ⟨some (false, 1), none, []⟩ .nil .nil)) (.node 121 ⟨some (false, 1), none, []⟩ (.node 120 ⟨some (false, 1), none, []⟩ .nil .nil) .nil)) (.node 125 ⟨some (false, 1), none, []⟩ (.node 124 ⟨some (false, 1), none, []⟩ (.node 123 ⟨some (false, 1), none, []⟩ .nil .nil) .nil) (.node 128 ⟨some (false, 1), none, []⟩ (.node 126 ⟨some (false, 1), none, []⟩ .nil .nil) .nil))) (.node 137 ⟨some (false, 1), none, []⟩ (.node 134 ⟨some (false, 1), none, []⟩ (.node 132 ⟨some (false, 1), none, []⟩ (.node 131 ⟨some (false, 1), none, []⟩ .nil .nil) (.node 133 ⟨some (false, 1), none, []⟩ .nil .nil)) (.node 136 ⟨some (false, 1), none, []⟩ (.node 135 ⟨some (false, 1), none, []⟩ .nil .nil) .nil)) (.node 140 ⟨some (false, 1), none, []⟩ (.node 139 ⟨some (false, 1), none, []⟩ (.node 138 ⟨some (false, 1), none, []⟩ .nil .nil) .nil) (.node 142 ⟨some (false, 1), none, []⟩ (.node 141 ⟨some (false, 1), none, []⟩ .nil .nil) .nil)))) (.node 159 ⟨some (false, 1), none, []⟩ (.node 152 ⟨some (false, 1), none, []⟩ (.node 149 ⟨some (false, 1), none, []⟩ (.node 146 ⟨some (false, 1), none, []⟩ (.node 145 ⟨some (false, 1), none, []⟩ .nil .nil) (.node 147 ⟨some (false, 1), none, []⟩ .nil .nil)) (.node 151 ⟨some (false, 1), none, []⟩ (.node 150 ⟨some (false, 1), none, []⟩ .nil .nil) .nil)) (.node 156 ⟨some (false, 1), none, []⟩ (.node 155 ⟨some (false, 1), none, []⟩ (.node 154 ⟨some (false, 1), none, []⟩ .nil .nil) .nil) (.node 158 ⟨some (false, 1), none, []⟩ (.node 157 ⟨some (false, 1), none, []⟩ .nil .nil) .nil))) (.node 166 ⟨some (false, 1), none, []⟩ (.node 163 ⟨some (false, 1), none, []⟩ (.node 161 ⟨some (false, 1), none, []⟩ (.node 160 ⟨some (false, 1), none, []⟩ .nil .nil) (.node 162 ⟨some (false, 1), none, []⟩ .nil .nil)) (.node 165 ⟨some (false, 1), none, []⟩ (.node 164 ⟨some (false, 1), none, []⟩ .nil .nil) .nil)) (.node 169 ⟨some (false, 1), none, []⟩ (.node 168 ⟨some (false, 1), none, []⟩ (.node 167 ⟨some (false, 1), none, []⟩ .nil .nil) .nil) (.node 171 ⟨some (false, 1), none, []⟩ (.node 170 ⟨some (false, 1), none, []⟩ .nil .nil) .nil))))) (.node 198 ⟨some (false, 1), none, []⟩ (.node 185 ⟨some (false, 1), none, []⟩ (.node 179 ⟨some (false, 1), none, []⟩ (.node 176 ⟨some (false, 1), none, []⟩ (.node 174 ⟨some (false, 1), none, []⟩ (.node 173 ⟨some (false, 1), none, []⟩ .nil .nil) (.node 175 ⟨some (false, 1), none, []⟩ .nil .nil)) (.node 178 ⟨some (false, 1), none, []⟩ (.node 177 ⟨some (false, 1), none, []⟩ .nil .nil) .nil)) (.node 182 ⟨some (false, 1), none, []⟩ (.node 181 ⟨some (true, 64), none, []⟩ (.node 180 ⟨some (false, 1), some .u32, []⟩ .nil .nil) .nil) (.node 184 ⟨some (false, 1), none, []⟩ (.node 183 ⟨some (true, 8), none, []⟩ .nil .nil) .nil))) (.node 192 ⟨some (false, 1), none, []⟩ (.node 189 ⟨some (false, 1), none, []⟩ (.node 187 ⟨some (false, 1), none, []⟩ (.node 186 ⟨some (false, 1), none, []⟩ .nil .nil) (.node 188 ⟨some (false, 1), none, []⟩ .nil .nil)) (.node 191 ⟨some (false, 1), none, []⟩ (.node 190 ⟨some (false, 1), none, []⟩ .nil .nil) .nil)) (.node 195 ⟨some (false, 1), none, []⟩ (.node 194 ⟨some (false, 1), none, []⟩ (.node 193 ⟨some (false, 1), none, []⟩ .nil .nil) .nil) (.node 197 ⟨some (false, 1), none, []⟩ (.node 196 ⟨some (false, 1), none, []⟩ .nil .nil) .nil)))) (.node 211 ⟨some (false, 1), none, []⟩ (.node 205 ⟨some (false, 1), none, []⟩ (.node 202 ⟨some (false, 1), none, []⟩ (.node 200 ⟨some (false, 1), none, []⟩ (.node 199 ⟨some (false, 1), none, []⟩ .nil .nil) (.node 201 ⟨some (false, 1), none, []⟩ .nil .nil)) (.node 204 ⟨some (false, 1), none, []⟩ (.node 203 ⟨some (false, 1), none, []⟩ .nil .nil) .nil)) (.node 208 ⟨some (false, 1), none, []⟩ (.node 207 ⟨some (false, 1), some .u64, []⟩ (.node 206 ⟨some (false, 1), none, []⟩ .nil .nil) .nil) (.node 210 ⟨some (false, 1), none, []⟩ (.node 209 ⟨some (false, 1), none, []⟩ .nil .nil) .nil))) (.node 218 ⟨some (true, 0), none, []⟩ (.node 214 ⟨some (false, 1), none, []⟩ (.node 213 ⟨some (false, 1), none, []⟩ (.node 212 ⟨some (false, 1), none, []⟩ .nil .nil) .nil) (.node 216 ⟨some (true, 4), none, [0, 1, 2, 3]⟩ (.node 215 ⟨some (false, 1), none, []⟩ .nil .nil) .nil)) (.node 224 ⟨some (false, 1), none, []⟩ (.node 221 ⟨some (false, 1), none, []⟩ (.node 219 ⟨some (true, 0), none, []⟩ .nil .nil) .nil) (.node 228 ⟨some (true, 11), none, [0, 1, 2, 3, 4, 5, 6, 7, 8, 9, 10]⟩ (.node 225 ⟨some (false, 1), none, []⟩ .nil .nil) .nil))))))
theorem tbk : TOk Tryz.prog tb := by unfold TOk; kernel_rfl
section
variable {h : Heap} {n : Nat} {c : Code} {kn : FR → HL → Prop} {ke : Exit → FR → HL → Prop} {f : FR} {L : HL} {id : Nat} {l : List Oper}
theorem v (k : vc tb false Tryz.prog h n c kn ke f L) : VC Tryz.prog h n c kn ke f L := vcS tbk c k
theorem v0 (k : vc tb true Tryz.prog h n c kn ke f L) : VC Tryz.prog h n c kn ke f L := vcS tbk c k
theorem vq (h2 : lexS 0 (l.map (summ l.toArray)) = true) (k : vo true tb false Tryz.prog h n l kn l f L) : VD Tryz.prog h n id l.toArray kn f L := vqT tbk mixed h2 k
theorem vq0 (h2 : lexS 0 (l.map (summ l.toArray)) = true) (k : vo true tb true Tryz.prog h n l kn l f L) : VD Tryz.prog h n id l.toArray kn f L := vqT tbk mixed h2 k
end
end Go.Proofs.YtoomgangpjcaoaaGreat
namespace Go.Vm
theorem wr {n : Int} (h : -9223372036854775808 ≤ n) (h2 : n < 9223372036854775808) : IntKind.wrap .i64 n = n := by
 have e : IntKind.wrap .i64 n = (if decide (n % 18446744073709551616 ≥ 9223372036854775808) = true then n % 18446744073709551616 - 18446744073709551616 else n % 18446744073709551616) := rfl
 rw [e]
 simp only [decide_eq_true_eq]
 split <;> omega
theorem wr1 {i : Nat} (h : i < 1000000000) : IntKind.wrap .i64 ((i : Int) + 1) = ((i + 1 : Nat) : Int) := by rw [wr (by omega) (by omega)]; rfl
theorem wr_1 {i : Nat} (h : i < 1000000000) (h0 : 0 < i) : IntKind.wrap .i64 ((i : Int) - 1) = ((i - 1 : Nat) : Int) := by rw [wr (by omega) (by omega)]; omega
theorem ix_nat {α : Type} (l : List α) (i : Nat) : ix l (i : Int) = l[i]? := by simp [ix]
theorem ix_pos {α : Type} (l : List α) {i : Int} (h : 0 ≤ i) : ix l i = l[i.toNat]? := by simp [ix, h]
theorem app_some {α : Type} {xs ys : List α} (h : xs.length + ys.length ≤ 1000000000) : app xs ys = some (xs ++ ys) := by simp [app, h]
theorem after_ite {σ ρ : Type} (c : Prop) [Decidable c] (a b : Option (Lp σ ρ)) (k : σ → Option ρ) : after (if c then a else b) k = if c then after a k else after b k := by split <;> rfl
theorem after_brk {σ ρ : Type} (s : σ) (k : σ → Option ρ) : after (some (.brk s)) k = k s := rfl
theorem after_ret {σ ρ : Type} (r : ρ) (k : σ → Option ρ) : after (some (.ret r)) k = some r := rfl
theorem bind_ite' {α β : Type} (c : Prop) [Decidable c] (a b : Option α) (k : α → Option β) : (if c then a else b).bind k = if c then a.bind k else b.bind k := by split <;> rfl
def LF {S ρ : Type} (emb : Nat → S) (p : Nat → Bool) (rv : Nat → ρ) (n : Nat) : Lp S ρ := match (List.range n).find? p with
 | none => .brk (emb n)
 | some i => .ret (rv i)
theorem loop_ffG {S ρ : Type} {body : S → Option (Lp S ρ)} (emb : Nat → S) (p : Nat → Bool) (rv : Nat → ρ) : ∀ (m k F : Nat), m < F →
    (∀ i, k ≤ i → i < k + m → (∀ j, j < i → k ≤ j → p j = false) → body (emb i) = some (if p i then .ret (rv i) else .go (emb (i + 1)))) → ((∀ j, k ≤ j → j < k + m → p j = false) → body (emb (k + m)) = some (.brk (emb (k + m)))) →
    loopM body F (emb k) = some (match (List.range' k m).find? p with | none => .brk (emb (k + m)) | some i => .ret (rv i))
  | 0, k, F + 1, _, _, he => by
    have := he (fun j h1 h2 => by omega)
    simp only [Nat.add_zero] at this
    simp [loopM, this]
  | m + 1, k, F + 1, hF, hb, he => by
    have h0 := hb k (Nat.le_refl _) (by omega) (fun j h1 h2 => by omega)
    rw [List.range'_succ, List.find?_cons]
    cases hp : p k with
    | true => simp [loopM, h0, hp]
    | false =>
      have := loop_ffG (body := body) emb p rv m (k + 1) F (by omega) (fun i h1 h2 h3 => hb i (by omega) (by omega) (fun j h4 h5 => by
        by_cases e : j = k
        · subst e; exact hp
        · exact h3 j h4 (by omega))) (fun h => by
        rw [show k + 1 + m = k + (m + 1) from by omega]
        exact he fun j h4 h5 => by
          by_cases e : j = k
          · subst e; exact hp
          · exact h j (by omega) (by omega))
      simp only [loopM, h0, hp]
      rw [if_neg (by simp)]
      simp only [this, show k + 1 + m = k + (m + 1) from by omega]
theorem loop_ff {S ρ : Type} {body : S → Option (Lp S ρ)} {n F : Nat} {s0 : S} (emb : Nat → S) (p : Nat → Bool) (rv : Nat → ρ) (hF : n < F) (h0 : s0 = emb 0)
    (hb : ∀ i, i < n → (∀ j, j < i → p j = false) → body (emb i) = some (if p i then .ret (rv i) else .go (emb (i + 1)))) (he : (∀ j, j < n → p j = false) → body (emb n) = some (.brk (emb n))) :
    loopM body F s0 = some (LF emb p rv n) := by
  subst h0
  have := loop_ffG (body := body) emb p rv n 0 F hF (fun i _ h2 h3 => hb i (by omega) fun j hj => h3 j hj (Nat.zero_le _)) (fun h => by simpa using he fun j hj => h j (Nat.zero_le _) (by omega))
  rw [this, LF, List.range_eq_range']
  simp
theorem LF_all {S ρ : Type} {emb : Nat → S} {p : Nat → Bool} {r : ρ} {n : Nat} : LF emb p (fun _ => r) n = if (List.range n).any p then .ret r else .brk (emb n) := by
 unfold LF
 split
 ·rename_i h
  rw [if_neg]
  simp only [List.any_eq_true, not_exists, not_and]
  exact fun x hx => List.find?_eq_none.1 h x hx
 ·rename_i i h
  rw [if_pos]
  exact List.any_eq_true.2 ⟨i, List.mem_of_find?_eq_some h, List.find?_some h⟩
end Go.Vm
namespace Go.Proofs.YtoomgangpjcaoaaGreat
open Go.Vm
def M57 (fuel : Nat) (p0 : Int) (p1 : Int) (p2 : Int) : Option (Bool) :=
 after (if (decide (p1 ≤ p0)) = true then (some (.brk (decide (p0 ≤ p2)))) else some (.brk false) : Option (Lp (Bool) (Bool))) fun j4 => some j4
set_option maxHeartbeats 4000000 in
set_option maxRecDepth 100000 in
theorem W57 {fuel : Nat} {p0 : Int} {p1 : Int} {p2 : Int} {o : Bool} (h : Heap) (hm : M57 fuel p0 p1 p2 = some o) :
 ACalls Tryz.prog 57 [.sc (.int .i64 p0), .sc (.int .i64 p1), .sc (.int .i64 p2)] h (fun r h' => r = .sc (.bool o) ∧ h' = h) := by
 refine ACv 15 [.tmp 6] Tryz.func57 rfl rfl rfl rfl ?_
 unfold M57 at hm
 refine v (vs ?_)
 refine vjnH hm (σ := Bool) (τ := Unit) (fun g s => []) (fun g s => .c 6 (.sc (.bool s)) .nil) (fun x hm => ?_) ?_
 refine v ?_
 refine vi hm (fun hb5 hm => ?_) fun hb5 hm => ?_
 rw [hb5]
 exact vgo hm () trivial (lx (.cons (ALe.refl _ _) .nil))
 rw [hb5]
 exact vgo hm () trivial (lx (.cons (ALe.refl _ _) .nil))
 rintro _ j4 hm
 refine v ?_
 injection hm with hm; subst hm
 exact vr1 rfl
theorem bd57 : bodied Tryz.prog 57 = true := by kernel_rfl
def M78_L0 (fuel : Nat) (p0 : List TVol) (q0 : Int) : Option (Lp (Int) (Bool)) :=
 if (decide (q0 < (p0.length : Int))) = true then ((ix p0 q0).bind fun x0 => after (if (x0.State == 2) = true then ((M57 fuel x0.Files 1 65535).bind fun y0 => some (.brk y0)) else some (.brk false) : Option (Lp (Bool) (Lp (Int) (Bool)))) fun j0 => after (if (x0.State == 1) = true then (some (.brk (x0.Files == 0))) else if (x0.State == 3) = true then (some (.brk (x0.Files == 0))) else some (.brk false) : Option (Lp (Bool) (Lp (Int) (Bool)))) fun j1 => after ((M57 fuel x0.Pool 0 1).bind fun y1 => if (!y1) = true then (some (.brk true)) else (M57 fuel x0.Epoch 0 1048576).bind fun y2 => if (!y2) = true then (some (.brk true)) else if (!j0) = true then (some (.brk (!j1))) else some (.brk false) : Option (Lp (Bool) (Lp (Int) (Bool)))) fun j2 => if j2 = true then (some (.ret false)) else some (.go (IntKind.wrap .i64 (q0 + 1)))) else some (.brk q0)
def M78 (fuel : Nat) (p0 : List TVol) : Option (Bool) :=
 after (loopM (fun s => M78_L0 fuel p0 s) fuel 0) fun r0 => (M57 fuel (p0.length : Int) 1 8).bind fun y0 => some y0
set_option maxHeartbeats 4000000 in
set_option maxRecDepth 100000 in
theorem W78 {fuel : Nat} {p0 : List TVol} {o : Bool} (h : Heap) (hm : M78 fuel p0 = some o) :
 ACalls Tryz.prog 78 [.sl none 4 (List.map c_Vol p0)] h (fun r h' => r = .sc (.bool o) ∧ h' = h) := by
 refine ACv 56 [.tmp 2] Tryz.func78 rfl rfl rfl rfl ?_
 unfold M78 at hm
 refine v (v (vln ln28 rfl ?_))
 refine vlpH hm (σ := Int) (τ := Unit) (fun g s => []) (fun g s => .c 0 (.sl none 4 (List.map c_Vol p0)) (.c 7 (.sl none 4 (List.map c_Vol p0)) (.c 8 (.sc (.int .i64 (p0.length : Int))) (.c 9 (.sc (.int .i64 s)) .nil)))) () (lx (.k4 .nil)) ?_ ?_
 rintro _ q0 x hm
 replace hm : M78_L0 fuel p0 q0 = some x := hm
 unfold M78_L0 at hm
 refine v (v ?_)
 refine vi hm (fun hc0 hm => ?_) fun hc0 hm => ?_
 refine v (v (v ?_))
 refine vx hm el28 rfl rfl fun x0 _ hm => ?_
 refine va (.agg (c_Vol x0)) ld49 rfl rfl ?_
 refine ve fun hk => a_alloc ([.sc (.int .i64 0), .sc (.int .i64 0), .sc (.int .i64 0), .sc (.int .i64 0)]) hk zr49 rfl rfl fun k105 hk0 => qk hk0 rfl ?_
 refine ve fun hk => a_store 0 (c_Vol x0) hk rfl rfl rfl rfl sz49 rfl rfl fun hk1 => qk hk1 rfl ?_
 refine vs ?_
 refine vjnH hm (σ := Bool) (τ := Unit) (fun g s => [(some k105, .obj 49 (c_Vol x0))]) (fun g s => .c 0 (.sl none 4 (List.map c_Vol p0)) (.c 4 (.ptr k105 0) (.c 5 (.sc (.bool s)) (.c 7 (.sl none 4 (List.map c_Vol p0)) (.c 8 (.sc (.int .i64 (p0.length : Int))) (.c 9 (.sc (.int .i64 q0)) .nil)))))) (fun x hm => ?_) ?_
 refine v (vl 0 _ ld3 rfl rfl rfl ?_)
 refine vi hm (fun hb0 hm => ?_) fun hb0 hm => ?_
 rw [hb0]
 refine vl 0 _ ld3 rfl rfl rfl ?_
 refine vk W57 bd57 hm rfl rfl fun _ hm => ?_
 exact vgo hm () trivial (lx (.k6 .nil))
 rw [hb0]
 exact vgo hm () trivial (lx (.k6 .nil))
 rintro _ j0 hm
 refine vs ?_
 refine vjnH hm (σ := Bool) (τ := Unit) (fun g s => [(some k105, .obj 49 (c_Vol x0))]) (fun g s => .c 0 (.sl none 4 (List.map c_Vol p0)) (.c 4 (.ptr k105 0) (.c 5 (.sc (.bool j0)) (.c 6 (.sc (.bool s)) (.c 7 (.sl none 4 (List.map c_Vol p0)) (.c 8 (.sc (.int .i64 (p0.length : Int))) (.c 9 (.sc (.int .i64 q0)) .nil))))))) (fun x hm => ?_) ?_
 refine v (vl 0 _ ld3 rfl rfl rfl ?_)
 refine vi hm (fun hb1 hm => ?_) fun hb1 hm => ?_
 rw [hb1]
 refine vl 0 _ ld3 rfl rfl rfl ?_
 exact vgo hm () trivial (lx (.k7 .nil))
 rw [hb1]
 refine vl 0 _ ld3 rfl rfl rfl ?_
 refine vi hm (fun hb2 hm => ?_) fun hb2 hm => ?_
 rw [hb2]
 refine vl 0 _ ld3 rfl rfl rfl ?_
 exact vgo hm () trivial (lx (.k7 .nil))
 rw [hb2]
 exact vgo hm () trivial (lx (.k7 .nil))
 rintro _ j1 hm
 refine vs ?_
 refine vjnH hm (σ := Bool) (τ := Unit) (fun g s => [(some k105, .obj 49 (c_Vol x0))]) (fun g s => .c 0 (.sl none 4 (List.map c_Vol p0)) (.c 7 (.sl none 4 (List.map c_Vol p0)) (.c 8 (.sc (.int .i64 (p0.length : Int))) (.c 9 (.sc (.int .i64 q0)) (.c 51 (.sc (.bool s)) .nil))))) (fun x hm => ?_) ?_
 refine v (vl 0 _ ld3 rfl rfl rfl ?_)
 refine vk W57 bd57 hm rfl rfl fun _ hm => ?_
 refine vi hm (fun hb3 hm => ?_) fun hb3 hm => ?_
 rw [hb3]
 exact vgo hm () trivial (lx (.k5 .nil))
 rw [hb3]
 refine vl 0 _ ld3 rfl rfl rfl ?_
 refine vk W57 bd57 hm rfl rfl fun _ hm => ?_
 refine vi hm (fun hb4 hm => ?_) fun hb4 hm => ?_
 rw [hb4]
 exact vgo hm () trivial (lx (.k5 .nil))
 rw [hb4]
 refine vi hm (fun hb5 hm => ?_) fun hb5 hm => ?_
 rw [hb5]
 exact vgo hm () trivial (lx (.k5 .nil))
 rw [hb5]
 exact vgo hm () trivial (lx (.k5 .nil))
 rintro _ j2 hm
 refine v ?_
 refine vi hm (fun hc1 hm => ?_) fun hc1 hm => ?_
 refine v (v ?_)
 refine vrt hm fun hm => ?_
 injection hm with hm; subst hm
 exact vr1 rfl
 refine v (v ?_)
 exact vgo hm () trivial (lxs [] rfl rfl (.k4 .nil))
 refine v ?_
 exact vbk hm () trivial (lx (.k4 .nil))
 rintro _ r0 hm
 refine v (vln ln28 rfl ?_)
 refine vk W57 bd57 hm rfl rfl fun _ hm => ?_
 refine v ?_
 injection hm with hm; subst hm
 exact vr1 rfl
theorem bd78 : bodied Tryz.prog 78 = true := by kernel_rfl
def M183 (fuel : Nat) (p0 : TLoc) (p1 : TLoc) : Option (Bool) :=
 if (p0.Vol != p1.Vol) = true then (some (decide (p1.Vol < p0.Vol))) else if (p0.File != p1.File) = true then (some (decide (p1.File < p0.File))) else some (decide (p1.Off < p0.Off))
set_option maxHeartbeats 4000000 in
set_option maxRecDepth 100000 in
theorem W183 {fuel : Nat} {p0 : TLoc} {p1 : TLoc} {o : Bool} (h : Heap) (hm : M183 fuel p0 p1 = some o) :
 ACalls Tryz.prog 183 [.agg (c_Loc p0), .agg (c_Loc p1)] h (fun r h' => r = .sc (.bool o) ∧ h' = h) := by
 refine ACv 32 [.tmp 4] Tryz.func183 rfl rfl rfl rfl ?_
 unfold M183 at hm
 refine v ?_
 refine ve fun hk => a_box hk rfl rfl fun k2 hk3 => qk hk3 rfl ?_
 refine ve fun hk => a_box hk rfl rfl fun k5 hk6 => qk hk6 rfl ?_
 refine v (v (vl 1 _ ld3 rfl rfl rfl (vl 0 _ ld3 rfl rfl rfl (v ?_))))
 refine vi hm (fun hc0 hm => ?_) fun hc0 hm => ?_
 refine v (vl 1 _ ld3 rfl rfl rfl (vl 0 _ ld3 rfl rfl rfl (v ?_)))
 cases hm
 exact vr1 rfl
 refine v (vl 1 _ ld3 rfl rfl rfl (vl 0 _ ld3 rfl rfl rfl (v ?_)))
 refine vi hm (fun hc1 hm => ?_) fun hc1 hm => ?_
 refine v (vl 1 _ ld3 rfl rfl rfl (vl 0 _ ld3 rfl rfl rfl (v ?_)))
 cases hm
 exact vr1 rfl
 refine v (v (vl 1 _ ld3 rfl rfl rfl (vl 0 _ ld3 rfl rfl rfl (v ?_))))
 cases hm
 exact vr1 rfl
theorem bd183 : bodied Tryz.prog 183 = true := by kernel_rfl
def M137_L0 (fuel : Nat) (p0 : TCatalog) (p1 : List TLoc) (q0 : Int) : Option (Lp (Int) (Bool)) :=
 if (decide (q0 < (p1.length : Int))) = true then ((ix p1 q0).bind fun x0 => after ((M57 fuel x0.Vol 0 (IntKind.wrap .i64 ((p0.Vols.length : Int) - 1))).bind fun y0 => if (!y0) = true then (some (.brk true)) else (ix p0.Vols x0.Vol).bind fun x1 => if (x1.State != 2) = true then (some (.brk true)) else (ix p0.Vols x0.Vol).bind fun x2 => (M57 fuel x0.File 1 x2.Files).bind fun y1 => if (!y1) = true then (some (.brk true)) else (M57 fuel x0.Off 0 16777215).bind fun y2 => if (!y2) = true then (some (.brk true)) else (M57 fuel x0.Len 13 8013).bind fun y3 => if (!y3) = true then (some (.brk true)) else if (decide (0 < q0)) = true then ((ix p1 (IntKind.wrap .i64 (q0 - 1))).bind fun x3 => (M183 fuel x0 x3).bind fun y4 => some (.brk (!y4))) else some (.brk false) : Option (Lp (Bool) (Lp (Int) (Bool)))) fun j0 => if j0 = true then (some (.ret false)) else some (.go (IntKind.wrap .i64 (q0 + 1)))) else some (.brk q0)
def M137 (fuel : Nat) (p0 : TCatalog) (p1 : List TLoc) : Option (Bool) :=
 if (decide (200 < (p1.length : Int))) = true then (some false) else after (loopM (fun s => M137_L0 fuel p0 p1 s) fuel 0) fun r0 => some true
set_option maxHeartbeats 4000000 in
set_option maxRecDepth 100000 in
theorem W137 {fuel : Nat} {p0 : TCatalog} {p1 : List TLoc} {o : Bool} (h : Heap) (hm : M137 fuel p0 p1 = some o) :
 ACalls Tryz.prog 137 [.agg (c_Catalog p0), .sl none 4 (List.map c_Loc p1)] h (fun r h' => r = .sc (.bool o) ∧ h' = h) := by
 refine ACv 75 [.tmp 4] Tryz.func137 rfl rfl rfl rfl ?_
 unfold M137 at hm
 refine v ?_
 refine ve fun hk => a_box hk rfl rfl fun k2 hk3 => qk hk3 rfl ?_
 refine v (vln ln42 rfl (v ?_))
 refine vi hm (fun hc7 hm => ?_) fun hc7 hm => ?_
 refine v (v ?_)
 injection hm with hm; subst hm
 exact vr1 rfl
 refine v (v (vln ln42 rfl ?_))
 refine vlpH hm (σ := Int) (τ := Unit) (fun g s => [(some k2, .obj 30 (c_Catalog p0))]) (fun g s => .c 1 (.sl none 4 (List.map c_Loc p1)) (.c 2 (.ptr k2 0) (.c 10 (.sl none 4 (List.map c_Loc p1)) (.c 11 (.sc (.int .i64 (p1.length : Int))) (.c 12 (.sc (.int .i64 s)) .nil))))) () (lx (.k5 .nil)) ?_ ?_
 rintro _ q0 x hm
 replace hm : M137_L0 fuel p0 p1 q0 = some x := hm
 unfold M137_L0 at hm
 refine v (v ?_)
 refine vi hm (fun hc0 hm => ?_) fun hc0 hm => ?_
 refine v (v (v ?_))
 refine vx hm el42 rfl rfl fun x0 _ hm => ?_
 refine va (.agg (c_Loc x0)) ld81 rfl rfl ?_
 refine ve fun hk => a_alloc ([.sc (.int .i64 0), .sc (.int .i64 0), .sc (.int .i64 0), .sc (.int .i64 0)]) hk zr81 rfl rfl fun k140 hk0 => qk hk0 rfl ?_
 refine ve fun hk => a_store 0 (c_Loc x0) hk rfl rfl rfl rfl sz81 rfl rfl fun hk1 => qk hk1 rfl ?_
 refine vs ?_
 refine vjnH hm (σ := Bool) (τ := Unit) (fun g s => [(some k140, .obj 81 (c_Loc x0)), (some k2, .obj 30 (c_Catalog p0))]) (fun g s => .c 1 (.sl none 4 (List.map c_Loc p1)) (.c 2 (.ptr k2 0) (.c 10 (.sl none 4 (List.map c_Loc p1)) (.c 11 (.sc (.int .i64 (p1.length : Int))) (.c 12 (.sc (.int .i64 q0)) (.c 73 (.sc (.bool s)) .nil)))))) (fun x hm => ?_) ?_
 refine v (vq (by kernel_rfl) (vl 0 _ ld3 rfl rfl rfl (vl 1 _ ld28 rfl rfl rfl (vln ln28 rfl ?_))))
 refine vk W57 bd57 hm rfl rfl fun _ hm => ?_
 refine vi hm (fun hb0 hm => ?_) fun hb0 hm => ?_
 rw [hb0]
 exact vgo hm () trivial (lx (.k6 .nil))
 rw [hb0]
 refine vl 1 _ ld28 rfl rfl rfl (vl 0 _ ld3 rfl rfl rfl ?_)
 refine vx hm el28 rfl rfl fun _ _ hm => ?_
 refine vi hm (fun hb1 hm => ?_) fun hb1 hm => ?_
 rw [hb1]
 exact vgo hm () trivial (lx (.k6 .nil))
 rw [hb1]
 refine vl 0 _ ld3 rfl rfl rfl (vl 1 _ ld28 rfl rfl rfl (vl 0 _ ld3 rfl rfl rfl ?_))
 refine vx hm el28 rfl rfl fun _ _ hm => ?_
 refine vk W57 bd57 hm rfl rfl fun _ hm => ?_
 refine vi hm (fun hb2 hm => ?_) fun hb2 hm => ?_
 rw [hb2]
 exact vgo hm () trivial (lx (.k6 .nil))
 rw [hb2]
 refine vl 0 _ ld3 rfl rfl rfl ?_
 refine vk W57 bd57 hm rfl rfl fun _ hm => ?_
 refine vi hm (fun hb3 hm => ?_) fun hb3 hm => ?_
 rw [hb3]
 exact vgo hm () trivial (lx (.k6 .nil))
 rw [hb3]
 refine vl 0 _ ld3 rfl rfl rfl ?_
 refine vk W57 bd57 hm rfl rfl fun _ hm => ?_
 refine vi hm (fun hb4 hm => ?_) fun hb4 hm => ?_
 rw [hb4]
 exact vgo hm () trivial (lx (.k6 .nil))
 rw [hb4]
 refine vi hm (fun hb5 hm => ?_) fun hb5 hm => ?_
 rw [hb5]
 refine vl 0 (.agg (c_Loc x0)) ld81 rfl rfl rfl ?_
 refine vx hm el42 rfl rfl fun x1 _ hm => ?_
 refine va (.agg (c_Loc x1)) ld81 rfl rfl ?_
 refine vk W183 bd183 hm rfl rfl fun _ hm => ?_
 exact vgo hm () trivial (lx (.k6 .nil))
 rw [hb5]
 exact vgo hm () trivial (lx (.k6 .nil))
 rintro _ j0 hm
 refine v ?_
 refine vi hm (fun hc1 hm => ?_) fun hc1 hm => ?_
 refine v (v ?_)
 refine vrt hm fun hm => ?_
 injection hm with hm; subst hm
 exact vr1 rfl
 refine v (v ?_)
 exact vgo hm () trivial (lxs [1] rfl rfl (.k5 .nil))
 refine v ?_
 exact vbk hm () trivial (lx (.k5 .nil))
 rintro _ r0 hm
 refine v (v ?_)
 injection hm with hm; subst hm
 exact vr1 rfl
theorem bd137 : bodied Tryz.prog 137 = true := by kernel_rfl
def M164_L0 (fuel : Nat) (p0 : ByteArray) (q0 : Int) : Option (Lp (Int) (Bool)) :=
 if (decide (q0 < (p0.size : Int))) = true then (after ((six p0 q0).bind fun x0 => if (decide (x0 < 33)) = true then (some (.brk true)) else (six p0 q0).bind fun x1 => some (.brk (decide (126 < x1))) : Option (Lp (Bool) (Lp (Int) (Bool)))) fun j0 => if j0 = true then (some (.ret false)) else some (.go (IntKind.wrap .i64 (q0 + 1)))) else some (.brk q0)
def M164 (fuel : Nat) (p0 : ByteArray) : Option (Bool) :=
 after (if (decide ((p0.size : Int) < 1)) = true then (some (.brk true)) else some (.brk (decide (20 < (p0.size : Int)))) : Option (Lp (Bool) (Bool))) fun j5 => if j5 = true then (some false) else after (loopM (fun s => M164_L0 fuel p0 s) fuel 0) fun r0 => some true
set_option maxHeartbeats 4000000 in
set_option maxRecDepth 100000 in
theorem W164 {fuel : Nat} {p0 : ByteArray} {o : Bool} (h : Heap) (hm : M164 fuel p0 = some o) :
 ACalls Tryz.prog 164 [.sc (.string p0)] h (fun r h' => r = .sc (.bool o) ∧ h' = h) := by
 refine ACv 28 [.tmp 2] Tryz.func164 rfl rfl rfl rfl ?_
 unfold M164 at hm
 refine v (vs (vs ?_))
 refine vjnH hm (σ := Bool) (τ := Unit) (fun g s => []) (fun g s => .c 0 (.sc (.string p0)) (.c 11 (.sc (.bool s)) .nil)) (fun x hm => ?_) ?_
 refine v (vn (fun _ => o_lent ln9 rfl) ?_)
 refine vi hm (fun hb6 hm => ?_) fun hb6 hm => ?_
 rw [hb6]
 exact vgo hm () trivial (lx (.k2 .nil))
 rw [hb6]
 refine vn (fun _ => o_lent ln9 rfl) ?_
 exact vgo hm () trivial (lx (.k2 .nil))
 rintro _ j5 hm
 refine v ?_
 refine vi hm (fun hc8 hm => ?_) fun hc8 hm => ?_
 refine v (v ?_)
 injection hm with hm; subst hm
 exact vr1 rfl
 refine v (v (vn (fun _ => o_lent ln9 rfl) ?_))
 refine vlpH hm (σ := Int) (τ := Unit) (fun g s => []) (fun g s => .c 0 (.sc (.string p0)) (.c 13 (.sc (.int .i64 (p0.size : Int))) (.c 14 (.sc (.int .i64 s)) .nil))) () (lx (.k3 .nil)) ?_ ?_
 rintro _ q0 x hm
 replace hm : M164_L0 fuel p0 q0 = some x := hm
 unfold M164_L0 at hm
 refine v (v ?_)
 refine vi hm (fun hc0 hm => ?_) fun hc0 hm => ?_
 refine v (v (v (vs ?_)))
 refine vjnH hm (σ := Bool) (τ := Unit) (fun g s => []) (fun g s => .c 0 (.sc (.string p0)) (.c 13 (.sc (.int .i64 (p0.size : Int))) (.c 14 (.sc (.int .i64 q0)) (.c 26 (.sc (.bool s)) .nil)))) (fun x hm => ?_) ?_
 refine v ?_
 obtain ⟨_, hx0, hm⟩ := Zc hm
 refine vn (fun _ => o_six hx0 u9 rfl rfl) ?_
 refine vi hm (fun hb0 hm => ?_) fun hb0 hm => ?_
 rw [hb0]
 exact vgo hm () trivial (lx (.k4 .nil))
 rw [hb0]
 obtain ⟨_, hx1, hm⟩ := Zc hm
 refine vn (fun _ => o_six hx1 u9 rfl rfl) ?_
 exact vgo hm () trivial (lx (.k4 .nil))
 rintro _ j0 hm
 refine v ?_
 refine vi hm (fun hc1 hm => ?_) fun hc1 hm => ?_
 refine v (v ?_)
 refine vrt hm fun hm => ?_
 injection hm with hm; subst hm
 exact vr1 rfl
 refine v (v ?_)
 exact vgo hm () trivial (lx (.k3 .nil))
 refine v ?_
 exact vbk hm () trivial (lx (.k3 .nil))
 rintro _ r0 hm
 refine v (v ?_)
 injection hm with hm; subst hm
 exact vr1 rfl
theorem bd164 : bodied Tryz.prog 164 = true := by kernel_rfl
def M165 (fuel : Nat) (p0 : TPart) : Option (Bool) :=
 after ((M164 fuel p0.Path).bind fun y0 => if y0 = true then (if (decide (0 ≤ p0.Size)) = true then (if (decide (p0.Size ≤ 200)) = true then (if (decide ((p0.Ids.length : Int) ≤ 25)) = true then (some (.brk (((p0.Ids.length : Int) == 0) == (p0.Size == 0)))) else some (.brk false)) else some (.brk false)) else some (.brk false)) else some (.brk false) : Option (Lp (Bool) (Bool))) fun j0 => some j0
set_option maxHeartbeats 4000000 in
set_option maxRecDepth 100000 in
theorem W165 {fuel : Nat} {p0 : TPart} {o : Bool} (h : Heap) (hm : M165 fuel p0 = some o) :
 ACalls Tryz.prog 165 [.agg (c_Part p0)] h (fun r h' => r = .sc (.bool o) ∧ h' = h) := by
 refine ACv 32 [.tmp 2] Tryz.func165 rfl rfl rfl rfl ?_
 unfold M165 at hm
 refine v ?_
 refine ve fun hk => a_box hk rfl rfl fun k2 hk3 => qk hk3 rfl ?_
 refine vs ?_
 refine vjnH hm (σ := Bool) (τ := Unit) (fun g s => [(some k2, .obj 70 (c_Part p0))]) (fun g s => .c 2 (.sc (.bool s)) .nil) (fun x hm => ?_) ?_
 refine v (vl 0 _ ld9 rfl rfl rfl ?_)
 refine vk W164 bd164 hm rfl rfl fun _ hm => ?_
 refine vi hm (fun hb0 hm => ?_) fun hb0 hm => ?_
 rw [hb0]
 refine vl 0 _ ld3 rfl rfl rfl ?_
 refine vi hm (fun hb1 hm => ?_) fun hb1 hm => ?_
 rw [hb1]
 refine vl 0 _ ld3 rfl rfl rfl ?_
 refine vi hm (fun hb2 hm => ?_) fun hb2 hm => ?_
 rw [hb2]
 refine vl 0 _ ld68 rfl rfl rfl (vln ln68 rfl ?_)
 refine vi hm (fun hb3 hm => ?_) fun hb3 hm => ?_
 rw [hb3]
 refine vl 0 _ ld68 rfl rfl rfl (vln ln68 rfl (vl 0 _ ld3 rfl rfl rfl (vn (fun _ => o_bb u4 rfl rfl rfl) ?_)))
 exact vgo hm () trivial (lx (.cons (ALe.refl _ _) .nil))
 rw [hb3]
 exact vgo hm () trivial (lx (.cons (ALe.refl _ _) .nil))
 rw [hb2]
 exact vgo hm () trivial (lx (.cons (ALe.refl _ _) .nil))
 rw [hb1]
 exact vgo hm () trivial (lx (.cons (ALe.refl _ _) .nil))
 rw [hb0]
 exact vgo hm () trivial (lx (.cons (ALe.refl _ _) .nil))
 rintro _ j0 hm
 refine v ?_
 injection hm with hm; subst hm
 exact vr1 rfl
theorem bd165 : bodied Tryz.prog 165 = true := by kernel_rfl
def M100_L0 (fuel : Nat) (p0 : TManifest) (q0 : Int) : Option (Lp (Int) (Int)) :=
 if (decide (q0 < (p0.Parts.length : Int))) = true then ((ix p0.Parts q0).bind fun x0 => after ((M165 fuel x0).bind fun y0 => if (!y0) = true then (some (.brk true)) else if (decide (0 < q0)) = true then ((ix p0.Parts (IntKind.wrap .i64 (q0 - 1))).bind fun x1 => some (.brk (Op.bytesLess x0.Path.toList x1.Path.toList || x0.Path.toList == x1.Path.toList))) else some (.brk false) : Option (Lp (Bool) (Lp (Int) (Int)))) fun j0 => if j0 = true then (some (.ret 1)) else some (.go (IntKind.wrap .i64 (q0 + 1)))) else some (.brk q0)
def M100 (fuel : Nat) (p0 : TManifest) : Option (Int) :=
 after ((M164 fuel p0.Name).bind fun y0 => if (!y0) = true then (some (.brk true)) else some (.brk (decide (6 < (p0.Parts.length : Int)))) : Option (Lp (Bool) (Int))) fun j0 => if j0 = true then (some 1) else after (loopM (fun s => M100_L0 fuel p0 s) fuel 0) fun r0 => some 0
set_option maxHeartbeats 4000000 in
set_option maxRecDepth 100000 in
theorem W100 {fuel : Nat} {p0 : TManifest} {o : Int} (h : Heap) (hm : M100 fuel p0 = some o) :
 ACalls Tryz.prog 100 [.agg (c_Manifest p0)] h (fun r h' => r = .sc (.int .i64 o) ∧ h' = h) := by
 refine ACv 43 [.tmp 2] Tryz.func100 rfl rfl rfl rfl ?_
 unfold M100 at hm
 refine v ?_
 refine ve fun hk => a_box hk rfl rfl fun k2 hk3 => qk hk3 rfl ?_
 refine vs (vs ?_)
 refine vjnH hm (σ := Bool) (τ := Unit) (fun g s => [(some k2, .obj 58 (c_Manifest p0))]) (fun g s => .c 1 (.ptr k2 0) (.c 14 (.sc (.bool s)) .nil)) (fun x hm => ?_) ?_
 refine v (vl 0 _ ld9 rfl rfl rfl ?_)
 refine vk W164 bd164 hm rfl rfl fun _ hm => ?_
 refine vi hm (fun hb0 hm => ?_) fun hb0 hm => ?_
 rw [hb0]
 exact vgo hm () trivial (lx (.k2 .nil))
 rw [hb0]
 refine vl 0 _ ld56 rfl rfl rfl (vln ln56 rfl ?_)
 exact vgo hm () trivial (lx (.k2 .nil))
 rintro _ j0 hm
 refine v ?_
 refine vi hm (fun hc0 hm => ?_) fun hc0 hm => ?_
 refine v (v ?_)
 injection hm with hm; subst hm
 exact vr1 rfl
 refine v (v (vl 0 _ ld56 rfl rfl rfl (vln ln56 rfl ?_)))
 refine vlpH hm (σ := Int) (τ := Unit) (fun g s => [(some k2, .obj 58 (c_Manifest p0))]) (fun g s => .c 1 (.ptr k2 0) (.c 16 (.sl none 3 (List.map c_Part p0.Parts)) (.c 17 (.sc (.int .i64 (p0.Parts.length : Int))) (.c 18 (.sc (.int .i64 s)) .nil)))) () (lx (.k4 .nil)) ?_ ?_
 rintro _ q0 x hm
 replace hm : M100_L0 fuel p0 q0 = some x := hm
 unfold M100_L0 at hm
 refine v (v ?_)
 refine vi hm (fun hc1 hm => ?_) fun hc1 hm => ?_
 refine v (v (v ?_))
 refine vx hm el56 rfl rfl fun x0 _ hm => ?_
 refine va (.agg (c_Part x0)) ld70 rfl rfl ?_
 refine ve fun hk => a_alloc ([.sc (.string ByteArray.empty), .sc (.int .i64 0), .sc (.slice none 0 0)]) hk zr70 rfl rfl fun k84 hk0 => qk hk0 rfl ?_
 refine ve fun hk => a_store 0 (c_Part x0) hk rfl rfl rfl rfl sz70 rfl rfl fun hk1 => qk hk1 rfl ?_
 refine vs ?_
 refine vjnH hm (σ := Bool) (τ := Unit) (fun g s => [(some k84, .obj 70 (c_Part x0)), (some k2, .obj 58 (c_Manifest p0))]) (fun g s => .c 1 (.ptr k2 0) (.c 16 (.sl none 3 (List.map c_Part p0.Parts)) (.c 17 (.sc (.int .i64 (p0.Parts.length : Int))) (.c 18 (.sc (.int .i64 q0)) (.c 41 (.sc (.bool s)) .nil))))) (fun x hm => ?_) ?_
 refine v (vq (by kernel_rfl) (vl 0 (.agg (c_Part x0)) ld70 rfl rfl rfl ?_))
 refine vk W165 bd165 hm rfl rfl fun _ hm => ?_
 refine vi hm (fun hb1 hm => ?_) fun hb1 hm => ?_
 rw [hb1]
 exact vgo hm () trivial (lx (.k5 .nil))
 rw [hb1]
 refine vi hm (fun hb2 hm => ?_) fun hb2 hm => ?_
 rw [hb2]
 refine vl 0 _ ld9 rfl rfl rfl (vl 1 _ ld56 rfl rfl rfl ?_)
 refine vx hm el56 rfl rfl fun _ _ hm => ?_
 refine vn (fun _ => o_bs rfl rfl rfl trivial) ?_
 exact vgo hm () trivial (lx (.k5 .nil))
 rw [hb2]
 exact vgo hm () trivial (lx (.k5 .nil))
 rintro _ j1 hm
 refine v ?_
 refine vi hm (fun hc2 hm => ?_) fun hc2 hm => ?_
 refine v (v ?_)
 refine vrt hm fun hm => ?_
 injection hm with hm; subst hm
 exact vr1 rfl
 refine v (v ?_)
 exact vgo hm () trivial (lxs [1] rfl rfl (.k4 .nil))
 refine v ?_
 exact vbk hm () trivial (lx (.k4 .nil))
 rintro _ r0 hm
 refine v (v ?_)
 injection hm with hm; subst hm
 exact vr1 rfl
theorem bd100 : bodied Tryz.prog 100 = true := by kernel_rfl
def M171_L0 (fuel : Nat) (p0 : List TChunk) (p1 : Id32) (p2 : TChunk → Id32 → Option Int) (q0 : Int) (q1 : Int) : Option (Lp (Int × Int) (Int × Bool)) :=
 if (decide (q0 < q1)) = true then ((ix p0 (IntKind.wrap .i64 ((IntKind.wrap .u64 (IntKind.wrap .i64 (q0 + q1))).fdiv (2 ^ (min (1 : Int).toNat (IntKind.bits .u64)))))).bind fun x0 => (p2 x0 p1).bind fun y0 => after (if (decide (y0 < 0)) = true then (some (.brk (IntKind.wrap .i64 ((IntKind.wrap .i64 ((IntKind.wrap .u64 (IntKind.wrap .i64 (q0 + q1))).fdiv (2 ^ (min (1 : Int).toNat (IntKind.bits .u64))))) + 1), q1))) else some (.brk (q0, IntKind.wrap .i64 ((IntKind.wrap .u64 (IntKind.wrap .i64 (q0 + q1))).fdiv (2 ^ (min (1 : Int).toNat (IntKind.bits .u64)))))) : Option (Lp (Int × Int) (Lp (Int × Int) (Int × Bool)))) fun ⟨j0, j1⟩ => some (.go (j0, j1))) else some (.brk (q0, q1))
def M171 (fuel : Nat) (p0 : List TChunk) (p1 : Id32) (p2 : TChunk → Id32 → Option Int) : Option (Int × Bool) :=
 after (loopM (fun s => M171_L0 fuel p0 p1 p2 s.1 s.2) fuel (0, (p0.length : Int))) fun ⟨r0, r1⟩ => after (if (decide (r0 < (p0.length : Int))) = true then ((ix p0 r0).bind fun x0 => (p2 x0 p1).bind fun y0 => some (.brk (r0, (y0 == 0)))) else some (.brk (r0, false)) : Option (Lp (Int × Bool) (Int × Bool))) fun ⟨j0, j1⟩ => some (j0, j1)
set_option maxHeartbeats 4000000 in
set_option maxRecDepth 100000 in
theorem W171 {fuel : Nat} {p0 : List TChunk} {p1 : Id32} {p2 : TChunk → Id32 → Option Int} {o : Int × Bool} (h : Heap) {p2F : Nat} {p2C : List AV} (p2B : bodied Tryz.prog p2F = true) (p2H : ∀ x0 x1 o h0, Sub h h0 → p2 x0 x1 = some o → ACalls Tryz.prog p2F ([.agg (c_Chunk x0), .agg (c_id x1)] ++ p2C) h0 (fun r h' => r = .sc (.int .i64 o) ∧ h' = h0)) (hm : M171 fuel p0 p1 p2 = some o) :
 ACalls Tryz.prog 171 [.sl none 35 (List.map c_Chunk p0), .agg (c_id p1), .fn (.func p2F) p2C] h (fun r h' => r = .tup [.sc (.int .i64 o.1), .sc (.bool o.2)] ∧ h' = h) := by
 refine ACv 49 [.tmp 6, .tmp 7] Tryz.func171 rfl rfl rfl rfl ?_
 unfold M171 at hm
 refine v ?_
 refine ve fun hk => a_box hk rfl rfl fun k2 hk3 => qk hk3 rfl ?_
 refine v (vln ln26 rfl (v (vs ?_)))
 refine vlpH hm (σ := Int × Int) (τ := Unit) (fun g s => [(some k2, .obj 36 (c_id p1))]) (fun g s => .c 0 (.sl none 35 (List.map c_Chunk p0)) (.c 2 (.fn (.func p2F) p2C) (.c 4 (.ptr k2 0) (.c 8 (.sc (.int .i64 (p0.length : Int))) (.c 9 (.sc (.int .i64 s.1)) (.c 10 (.sc (.int .i64 s.2)) .nil)))))) () (lx (.k6 .nil)) ?_ ?_
 rintro _ ⟨q0, q1⟩ x hm
 replace hm : M171_L0 fuel p0 p1 p2 q0 q1 = some x := hm
 unfold M171_L0 at hm
 refine v (v ?_)
 refine vi hm (fun hc0 hm => ?_) fun hc0 hm => ?_
 refine v (v (v (v (vq (by kernel_rfl) ?_))))
 refine vx hm el26 rfl rfl fun x2 _ hm => ?_
 refine va (.agg (c_Chunk x2)) ld44 rfl rfl (vl 0 (.agg (c_id p1)) ld36 rfl rfl rfl ?_)
 obtain ⟨_, hy0, hm⟩ := Zc hm
 refine vn (fun hk => o_call (p2H _ _ _ _ (hp_sub (List.nil_sublist _) hk).1 hy0) rfl p2B rfl) ?_
 refine vjnH hm (σ := Int × Int) (τ := Unit) (fun g s => [(some k2, .obj 36 (c_id p1))]) (fun g s => .c 0 (.sl none 35 (List.map c_Chunk p0)) (.c 2 (.fn (.func p2F) p2C) (.c 4 (.ptr k2 0) (.c 8 (.sc (.int .i64 (p0.length : Int))) (.c 9 (.sc (.int .i64 s.1)) (.c 10 (.sc (.int .i64 s.2)) .nil)))))) (fun x hm => ?_) ?_
 refine v ?_
 refine vi hm (fun hc1 hm => ?_) fun hc1 hm => ?_
 refine v ?_
 exact vgo hm () trivial (lx (.k6 .nil))
 refine v ?_
 exact vgo hm () trivial (lx (.k6 .nil))
 rintro _ ⟨j0, j1⟩ hm
 exact vgo hm () trivial (lx (.k6 .nil))
 refine v ?_
 exact vbk hm () trivial (lx (.k6 .nil))
 rintro _ ⟨r0, r1⟩ hm
 refine vs ?_
 refine vjnH hm (σ := Int × Bool) (τ := Unit) (fun g s => [(some k2, .obj 36 (c_id p1))]) (fun g s => .c 6 (.sc (.int .i64 s.1)) (.c 7 (.sc (.bool s.2)) .nil)) (fun x hm => ?_) ?_
 refine v (vq (by kernel_rfl) ?_)
 refine vi hm (fun hb0 hm => ?_) fun hb0 hm => ?_
 rw [hb0]
 refine vx hm el26 rfl rfl fun x3 _ hm => ?_
 refine va (.agg (c_Chunk x3)) ld44 rfl rfl (vl 0 (.agg (c_id p1)) ld36 rfl rfl rfl ?_)
 obtain ⟨_, hy1, hm⟩ := Zc hm
 refine vn (fun hk => o_call (p2H _ _ _ _ (hp_sub (List.nil_sublist _) hk).1 hy1) rfl p2B rfl) ?_
 exact vgo hm () trivial (lx (.k2 .nil))
 rw [hb0]
 exact vgo hm () trivial (lx (.k2 .nil))
 rintro _ ⟨j2, j3⟩ hm
 refine v ?_
 cases hm
 exact vr2 rfl rfl
theorem bd171 : bodied Tryz.prog 171 = true := by kernel_rfl
def M103_L0 (fuel : Nat) (p0 : List TSnap) (p1 : TSnap → Option Bool) (q0 : Int) : Option (Lp (Int) (Int)) :=
 if (decide (q0 < (p0.length : Int))) = true then ((ix p0 q0).bind fun x0 => (p1 x0).bind fun y0 => if y0 = true then (some (.ret q0)) else some (.go (IntKind.wrap .i64 (q0 + 1)))) else some (.brk q0)
def M103 (fuel : Nat) (p0 : List TSnap) (p1 : TSnap → Option Bool) : Option (Int) :=
 after (loopM (fun s => M103_L0 fuel p0 p1 s) fuel 0) fun r0 => some (-1)
set_option maxHeartbeats 4000000 in
set_option maxRecDepth 100000 in
theorem W103 {fuel : Nat} {p0 : List TSnap} {p1 : TSnap → Option Bool} {o : Int} (h : Heap) {p1F : Nat} {p1C : List AV} (p1B : bodied Tryz.prog p1F = true) (p1H : ∀ x0 o h0, Sub h h0 → p1 x0 = some o → ACalls Tryz.prog p1F ([.agg (c_Snap x0)] ++ p1C) h0 (fun r h' => r = .sc (.bool o) ∧ h' = h0)) (hm : M103 fuel p0 p1 = some o) :
 ACalls Tryz.prog 103 [.sl none 4 (List.map c_Snap p0), .fn (.func p1F) p1C] h (fun r h' => r = .sc (.int .i64 o) ∧ h' = h) := by
 refine ACv 19 [.tmp 4] Tryz.func103 rfl rfl rfl rfl ?_
 unfold M103 at hm
 refine v (v (vln ln25 rfl ?_))
 refine vlpH hm (σ := Int) (τ := Unit) (fun g s => []) (fun g s => .c 0 (.sl none 4 (List.map c_Snap p0)) (.c 1 (.fn (.func p1F) p1C) (.c 7 (.sc (.int .i64 (p0.length : Int))) (.c 8 (.sc (.int .i64 s)) .nil)))) () (lx (.k4 .nil)) ?_ ?_
 rintro _ q0 x hm
 replace hm : M103_L0 fuel p0 p1 q0 = some x := hm
 unfold M103_L0 at hm
 refine v (v ?_)
 refine vi hm (fun hc0 hm => ?_) fun hc0 hm => ?_
 refine v (v (v (v ?_)))
 refine vx hm el25 rfl rfl fun x1 _ hm => ?_
 refine va (.agg (c_Snap x1)) ld60 rfl rfl ?_
 obtain ⟨_, hy0, hm⟩ := Zc hm
 refine vn (fun hk => o_call (p1H _ _ _ (hp_sub (List.nil_sublist _) hk).1 hy0) rfl p1B rfl) (v ?_)
 refine vi hm (fun hc1 hm => ?_) fun hc1 hm => ?_
 refine v (v ?_)
 refine vrt hm fun hm => ?_
 injection hm with hm; subst hm
 exact vr1 rfl
 refine v (v ?_)
 exact vgo hm () trivial (lx (.k4 .nil))
 refine v ?_
 exact vbk hm () trivial (lx (.k4 .nil))
 rintro _ r0 hm
 refine v (v ?_)
 cases hm
 exact vr1 rfl
theorem bd103 : bodied Tryz.prog 103 = true := by kernel_rfl
def M58 (fuel : Nat) (p0 : List TSnap) (p1 : TSnap → Option Bool) : Option (Bool) :=
 (M103 fuel p0 p1).bind fun y3 => some (decide (0 ≤ y3))
set_option maxHeartbeats 4000000 in
set_option maxRecDepth 100000 in
theorem W58 {fuel : Nat} {p0 : List TSnap} {p1 : TSnap → Option Bool} {o : Bool} (h : Heap) {p1F : Nat} {p1C : List AV} (p1B : bodied Tryz.prog p1F = true) (p1H : ∀ x0 o h0, Sub h h0 → p1 x0 = some o → ACalls Tryz.prog p1F ([.agg (c_Snap x0)] ++ p1C) h0 (fun r h' => r = .sc (.bool o) ∧ h' = h0)) (hm : M58 fuel p0 p1 = some o) :
 ACalls Tryz.prog 58 [.sl none 4 (List.map c_Snap p0), .fn (.func p1F) p1C] h (fun r h' => r = .sc (.bool o) ∧ h' = h) := by
 refine ACv 9 [.tmp 4] Tryz.func58 rfl rfl rfl rfl ?_
 unfold M58 at hm
 refine v (v ?_)
 obtain ⟨_, hy4, hm⟩ := Zc hm
 refine vn (fun hk => o_call (W103 _ p1B (fun x0 o h0 hs ho => p1H x0 o h0 ((hp_sub (List.nil_sublist _) hk).1.trans hs) ho) hy4) rfl bd103 rfl) (v ?_)
 cases hm
 exact vr1 rfl
theorem bd58 : bodied Tryz.prog 58 = true := by kernel_rfl
def M138 (fuel : Nat) (p0 : TSnap) (c0 : TExp) : Option (Bool) :=
 some (p0.Seq == c0.Of)
set_option maxHeartbeats 4000000 in
set_option maxRecDepth 100000 in
theorem W138 {fuel : Nat} {p0 : TSnap} {c0 : TExp} {o : Bool} (h : Heap) {c0K : Key} (c0H : h c0K = some (.obj 99 (c_Exp c0))) (hm : M138 fuel p0 c0 = some o) :
 ACalls Tryz.prog 138 [.agg (c_Snap p0), .ptr c0K 0] h (fun r h' => r = .sc (.bool o) ∧ h' = h) := by
 refine ACv 9 [.tmp 3] Tryz.func138 rfl rfl rfl rfl ?_
 unfold M138 at hm
 refine v ?_
 refine ve fun hk => a_box hk rfl rfl fun k2 hk3 => qk hk3 rfl ?_
 refine v (vl 0 _ ld3 rfl rfl rfl (vn (fun hk => Zg (.sc (.int .i64 c0.Of)) ld3 rfl (hp_base hk c0H) rfl) (v ?_)))
 cases hm
 exact vr1 rfl
theorem bd138 : bodied Tryz.prog 138 = true := by kernel_rfl
def M81_L0 (fuel : Nat) (p0 : TCatalog) (q0 : Int) : Option (Lp (Int) (Bool)) :=
 if (decide (q0 < (p0.Exps.length : Int))) = true then ((ix p0.Exps q0).bind fun x1 => after ((M57 fuel x1.Seq 0 (IntKind.wrap .i64 (p0.Seq - 1))).bind fun y0 => if (!y0) = true then (some (.brk true)) else if (decide (0 < q0)) = true then ((ix p0.Exps (IntKind.wrap .i64 (q0 - 1))).bind fun x2 => if (decide (x1.Seq ≤ x2.Seq)) = true then (some (.brk true)) else (M57 fuel x1.Of 0 (IntKind.wrap .i64 (x1.Seq - 1))).bind fun y1 => if (!y1) = true then (some (.brk true)) else if ((x1.Locs.length : Int) == 0) = true then (some (.brk true)) else (M137 fuel p0 x1.Locs).bind fun y2 => some (.brk (!y2))) else (M57 fuel x1.Of 0 (IntKind.wrap .i64 (x1.Seq - 1))).bind fun y3 => if (!y3) = true then (some (.brk true)) else if ((x1.Locs.length : Int) == 0) = true then (some (.brk true)) else (M137 fuel p0 x1.Locs).bind fun y4 => some (.brk (!y4)) : Option (Lp (Bool) (Lp (Int) (Bool)))) fun j0 => if j0 = true then (some (.ret false)) else (M58 fuel p0.Snaps (fun x0 => M138 fuel x0 x1)).bind fun y5 => if y5 = true then (some (.ret false)) else some (.go (IntKind.wrap .i64 (q0 + 1)))) else some (.brk q0)
def M81 (fuel : Nat) (p0 : TCatalog) : Option (Bool) :=
 after (loopM (fun s => M81_L0 fuel p0 s) fuel 0) fun r0 => some (decide ((p0.Exps.length : Int) ≤ 200))
set_option maxHeartbeats 4000000 in
set_option maxRecDepth 100000 in
theorem W81 {fuel : Nat} {p0 : TCatalog} {o : Bool} (h : Heap) (hm : M81 fuel p0 = some o) :
 ACalls Tryz.prog 81 [.agg (c_Catalog p0)] h (fun r h' => r = .sc (.bool o) ∧ h' = h) := by
 refine ACv 67 [.tmp 2] Tryz.func81 rfl rfl rfl rfl ?_
 unfold M81 at hm
 refine v ?_
 refine ve fun hk => a_box hk rfl rfl fun k2 hk3 => qk hk3 rfl ?_
 refine v (vl 0 _ ld27 rfl rfl rfl (vln ln27 rfl ?_))
 refine vlpH hm (σ := Int) (τ := Unit) (fun g s => [(some k2, .obj 30 (c_Catalog p0))]) (fun g s => .c 1 (.ptr k2 0) (.c 6 (.sl none 3 (List.map c_Exp p0.Exps)) (.c 7 (.sc (.int .i64 (p0.Exps.length : Int))) (.c 8 (.sc (.int .i64 s)) .nil)))) () (lx (.k4 .nil)) ?_ ?_
 rintro _ q0 x hm
 replace hm : M81_L0 fuel p0 q0 = some x := hm
 unfold M81_L0 at hm
 refine v (v ?_)
 refine vi hm (fun hc0 hm => ?_) fun hc0 hm => ?_
 refine v (v (v ?_))
 refine vx hm el27 rfl rfl fun x0 _ hm => ?_
 refine va (.agg (c_Exp x0)) ld99 rfl rfl ?_
 refine ve fun hk => a_alloc ([.sc (.int .i64 0), .sc (.int .i64 0), .sc (.slice none 0 0)]) hk zr99 rfl rfl fun k136 hk0 => qk hk0 rfl ?_
 refine ve fun hk => a_store 0 (c_Exp x0) hk rfl rfl rfl rfl sz99 rfl rfl fun hk1 => qk hk1 rfl ?_
 refine vs (vs ?_)
 refine vjnH hm (σ := Bool) (τ := Unit) (fun g s => [(some k136, .obj 99 (c_Exp x0)), (some k2, .obj 30 (c_Catalog p0))]) (fun g s => .c 1 (.ptr k2 0) (.c 4 (.ptr k136 0) (.c 6 (.sl none 3 (List.map c_Exp p0.Exps)) (.c 7 (.sc (.int .i64 (p0.Exps.length : Int))) (.c 8 (.sc (.int .i64 q0)) (.c 57 (.sc (.bool s)) .nil)))))) (fun x hm => ?_) ?_
 refine v (vq (by kernel_rfl) (vl 0 _ ld3 rfl rfl rfl (vl 1 _ ld3 rfl rfl rfl ?_)))
 refine vk W57 bd57 hm rfl rfl fun _ hm => ?_
 refine vi hm (fun hb0 hm => ?_) fun hb0 hm => ?_
 rw [hb0]
 exact vgo hm () trivial (lx (.k6 .nil))
 rw [hb0]
 refine vi hm (fun hb1 hm => ?_) fun hb1 hm => ?_
 rw [hb1]
 refine vl 1 _ ld27 rfl rfl rfl ?_
 refine vx hm el27 rfl rfl fun _ _ hm => ?_
 refine vl 0 _ ld3 rfl rfl rfl ?_
 refine vi hm (fun hb2 hm => ?_) fun hb2 hm => ?_
 rw [hb2]
 exact vgo hm () trivial (lx (.k6 .nil))
 rw [hb2]
 refine vl 0 _ ld3 rfl rfl rfl (vl 0 _ ld3 rfl rfl rfl ?_)
 refine vk W57 bd57 hm rfl rfl fun _ hm => ?_
 refine vi hm (fun hb3 hm => ?_) fun hb3 hm => ?_
 rw [hb3]
 exact vgo hm () trivial (lx (.k6 .nil))
 rw [hb3]
 refine vl 0 _ ld42 rfl rfl rfl (vln ln42 rfl ?_)
 refine vi hm (fun hb4 hm => ?_) fun hb4 hm => ?_
 rw [hb4]
 exact vgo hm () trivial (lx (.k6 .nil))
 rw [hb4]
 refine vl 1 (.agg (c_Catalog p0)) ld30 rfl rfl rfl (vl 0 _ ld42 rfl rfl rfl ?_)
 refine vk W137 bd137 hm rfl rfl fun _ hm => ?_
 exact vgo hm () trivial (lx (.k6 .nil))
 rw [hb1]
 refine vl 0 _ ld3 rfl rfl rfl (vl 0 _ ld3 rfl rfl rfl ?_)
 refine vk W57 bd57 hm rfl rfl fun _ hm => ?_
 refine vi hm (fun hb5 hm => ?_) fun hb5 hm => ?_
 rw [hb5]
 exact vgo hm () trivial (lx (.k6 .nil))
 rw [hb5]
 refine vl 0 _ ld42 rfl rfl rfl (vln ln42 rfl ?_)
 refine vi hm (fun hb6 hm => ?_) fun hb6 hm => ?_
 rw [hb6]
 exact vgo hm () trivial (lx (.k6 .nil))
 rw [hb6]
 refine vl 1 (.agg (c_Catalog p0)) ld30 rfl rfl rfl (vl 0 _ ld42 rfl rfl rfl ?_)
 refine vk W137 bd137 hm rfl rfl fun _ hm => ?_
 exact vgo hm () trivial (lx (.k6 .nil))
 rintro _ j0 hm
 refine v ?_
 refine vi hm (fun hc1 hm => ?_) fun hc1 hm => ?_
 refine v (v ?_)
 refine vrt hm fun hm => ?_
 injection hm with hm; subst hm
 exact vr1 rfl
 refine v (v (vl 1 _ ld25 rfl rfl rfl ?_))
 obtain ⟨_, hy0, hm⟩ := Zc hm
 refine vn (fun hk => o_call (W58 _ bd138 (fun _ o h0 hs ho => W138 _ (hs _ _ (Zd 0 hk rfl)) ho) hy0) rfl bd58 rfl) (v ?_)
 refine vi hm (fun hc2 hm => ?_) fun hc2 hm => ?_
 refine v (v ?_)
 refine vrt hm fun hm => ?_
 injection hm with hm; subst hm
 exact vr1 rfl
 refine v (v ?_)
 exact vgo hm () trivial (lxs [1] rfl rfl (.k4 .nil))
 refine v ?_
 exact vbk hm () trivial (lx (.k4 .nil))
 rintro _ r0 hm
 refine v (vl 0 _ ld27 rfl rfl rfl (vln ln27 rfl (v ?_)))
 cases hm
 exact vr1 rfl
theorem bd81 : bodied Tryz.prog 81 = true := by kernel_rfl
open Go.Vm
def M97 (fuel : Nat) (p0 : Int) (p1 : Int) (p2 : Int) : Option (Bool) :=
 after (if (decide (p1 ≤ p0)) = true then (some (.brk (decide (p0 ≤ p2)))) else some (.brk false) : Option (Lp (Bool) (Bool))) fun j4 => some j4
set_option maxHeartbeats 4000000 in
set_option maxRecDepth 100000 in
theorem W97 {fuel : Nat} {p0 : Int} {p1 : Int} {p2 : Int} {o : Bool} (h : Heap) (hm : M97 fuel p0 p1 p2 = some o) :
 ACalls Tryz.prog 97 [.sc (.int .i64 p0), .sc (.int .i64 p1), .sc (.int .i64 p2)] h (fun r h' => r = .sc (.bool o) ∧ h' = h) := by
 refine ACv 15 [.tmp 6] Tryz.func97 rfl rfl rfl rfl ?_
 unfold M97 at hm
 refine v (vs ?_)
 refine vjnH hm (σ := Bool) (τ := Unit) (fun g s => []) (fun g s => .c 6 (.sc (.bool s)) .nil) (fun x hm => ?_) ?_
 refine v ?_
 refine vi hm (fun hb5 hm => ?_) fun hb5 hm => ?_
 rw [hb5]
 exact vgo hm () trivial (lx (.cons (ALe.refl _ _) .nil))
 rw [hb5]
 exact vgo hm () trivial (lx (.cons (ALe.refl _ _) .nil))
 rintro _ j4 hm
 refine v ?_
 injection hm with hm; subst hm
 exact vr1 rfl
theorem bd97 : bodied Tryz.prog 97 = true := by kernel_rfl
def M147_L0 (fuel : Nat) (p0 : Id32) (p1 : Id32) (q0 : Int) : Option (Lp (Int) (Bool)) :=
 if (decide (q0 < 32)) = true then ((ix p0.1 q0).bind fun x0 => (ix p1.1 q0).bind fun x1 => if (x0 != x1) = true then ((ix p0.1 q0).bind fun x2 => (ix p1.1 q0).bind fun x3 => some (.ret (decide (x2 < x3)))) else some (.go (IntKind.wrap .i64 (q0 + 1)))) else some (.brk q0)
def M147 (fuel : Nat) (p0 : Id32) (p1 : Id32) : Option (Bool) :=
 after (loopM (fun s => M147_L0 fuel p0 p1 s) fuel 0) fun r0 => some false
set_option maxHeartbeats 4000000 in
set_option maxRecDepth 100000 in
theorem W147 {fuel : Nat} {p0 : Id32} {p1 : Id32} {o : Bool} (h : Heap) (hm : M147 fuel p0 p1 = some o) :
 ACalls Tryz.prog 147 [.agg (c_id p0), .agg (c_id p1)] h (fun r h' => r = .sc (.bool o) ∧ h' = h) := by
 refine ACv 24 [.tmp 4] Tryz.func147 rfl rfl rfl rfl ?_
 unfold M147 at hm
 refine v ?_
 refine ve fun hk => a_box hk rfl rfl fun k2 hk3 => qk hk3 rfl ?_
 refine ve fun hk => a_box hk rfl rfl fun k5 hk6 => qk hk6 rfl ?_
 refine v ?_
 refine vlpH hm (σ := Int) (τ := Unit) (fun g s => [(some k5, .obj 36 (c_id p1)), (some k2, .obj 36 (c_id p0))]) (fun g s => .c 2 (.ptr k2 0) (.c 3 (.ptr k5 0) (.c 5 (.sc (.int .i64 s)) .nil))) () (lx (.k3 .nil)) ?_ ?_
 rintro _ q0 x hm
 replace hm : M147_L0 fuel p0 p1 q0 = some x := hm
 unfold M147_L0 at hm
 refine v (v ?_)
 refine vi hm (fun hc0 hm => ?_) fun hc0 hm => ?_
 refine v (v (v (vq (by kernel_rfl) ?_)))
 obtain ⟨_, hx0, hm⟩ := Zc hm
 refine vn (fun _ => o_ixidp hx0 ar36 rfl rfl) (vn (fun hk => o_ldidp 0 hx0 ld5 rfl (Zd 1 hk rfl) rfl) ?_)
 obtain ⟨_, hx1, hm⟩ := Zc hm
 refine vn (fun _ => o_ixidp hx1 ar36 rfl rfl) (vn (fun hk => o_ldidp 0 hx1 ld5 rfl (Zd 0 hk rfl) rfl) (v ?_))
 refine vi hm (fun hc1 hm => ?_) fun hc1 hm => ?_
 refine v (vq (by kernel_rfl) ?_)
 obtain ⟨_, hx2, hm⟩ := Zc hm
 refine vn (fun _ => o_ixidp hx2 ar36 rfl rfl) (vn (fun hk => o_ldidp 0 hx2 ld5 rfl (Zd 1 hk rfl) rfl) ?_)
 obtain ⟨_, hx3, hm⟩ := Zc hm
 refine vn (fun _ => o_ixidp hx3 ar36 rfl rfl) (vn (fun hk => o_ldidp 0 hx3 ld5 rfl (Zd 0 hk rfl) rfl) (v ?_))
 refine vrt hm fun hm => ?_
 cases hm
 exact vr1 rfl
 refine v (v ?_)
 exact vgo hm () trivial (lx (.k3 .nil))
 refine v ?_
 exact vbk hm () trivial (lx (.k3 .nil))
 rintro _ r0 hm
 refine v (v ?_)
 injection hm with hm; subst hm
 exact vr1 rfl
theorem bd147 : bodied Tryz.prog 147 = true := by kernel_rfl
def M148_L0 (fuel : Nat) (p0 : TCatalog) (p1 : List TLoc) (q0 : Int) : Option (Lp (Int) (Bool)) :=
 if (decide (q0 < (p1.length : Int))) = true then ((ix p1 q0).bind fun x0 => after (if (decide (x0.Vol < 0)) = true then (some (.brk true)) else if (decide ((p0.Vols.length : Int) ≤ x0.Vol)) = true then (some (.brk true)) else (ix p0.Vols x0.Vol).bind fun x1 => if (x1.State != 2) = true then (some (.brk true)) else (ix p0.Vols x0.Vol).bind fun x2 => (M97 fuel x0.File 1 x2.Files).bind fun y0 => if (!y0) = true then (some (.brk true)) else (M97 fuel x0.Off 0 16777215).bind fun y1 => if (!y1) = true then (some (.brk true)) else (M97 fuel x0.Len 13 8013).bind fun y2 => some (.brk (!y2)) : Option (Lp (Bool) (Lp (Int) (Bool)))) fun j0 => if j0 = true then (some (.ret false)) else after (if (decide (0 < q0)) = true then ((ix p1 (IntKind.wrap .i64 (q0 - 1))).bind fun x3 => after (if (decide (x3.Vol < x0.Vol)) = true then (some (.brk (!true))) else if (x3.Vol == x0.Vol) = true then (if (decide (x3.File < x0.File)) = true then (some (.brk (!true))) else if (x3.File == x0.File) = true then (some (.brk (!(decide (x3.Off < x0.Off))))) else some (.brk (!false))) else some (.brk (!false)) : Option (Lp (Bool) (Lp (Unit) (Lp (Int) (Bool))))) fun j1 => if j1 = true then (some (.ret (.ret false))) else some (.brk ())) else some (.brk ()) : Option (Lp (Unit) (Lp (Int) (Bool)))) fun _ => some (.go (IntKind.wrap .i64 (q0 + 1)))) else some (.brk q0)
def M148 (fuel : Nat) (p0 : TCatalog) (p1 : List TLoc) : Option (Bool) :=
 if (decide (200 < (p1.length : Int))) = true then (some false) else after (loopM (fun s => M148_L0 fuel p0 p1 s) fuel 0) fun r0 => some true
set_option maxHeartbeats 4000000 in
set_option maxRecDepth 100000 in
theorem W148 {fuel : Nat} {p0 : TCatalog} {p1 : List TLoc} {o : Bool} (h : Heap) (hm : M148 fuel p0 p1 = some o) :
 ACalls Tryz.prog 148 [.agg (c_Catalog p0), .sl none 4 (List.map c_Loc p1)] h (fun r h' => r = .sc (.bool o) ∧ h' = h) := by
 refine ACv 108 [.tmp 4] Tryz.func148 rfl rfl rfl rfl ?_
 unfold M148 at hm
 refine v ?_
 refine ve fun hk => a_box hk rfl rfl fun k2 hk3 => qk hk3 rfl ?_
 refine v (vln ln42 rfl (v ?_))
 refine vi hm (fun hc7 hm => ?_) fun hc7 hm => ?_
 refine v (v ?_)
 injection hm with hm; subst hm
 exact vr1 rfl
 refine v (v ?_)
 refine vlpH hm (σ := Int) (τ := Unit) (fun g s => [(some k2, .obj 30 (c_Catalog p0))]) (fun g s => .c 1 (.sl none 4 (List.map c_Loc p1)) (.c 2 (.ptr k2 0) (.c 5 (.sc (.int .i64 s)) .nil))) () (lx (.k3 .nil)) ?_ ?_
 rintro _ q0 x hm
 replace hm : M148_L0 fuel p0 p1 q0 = some x := hm
 unfold M148_L0 at hm
 refine v (vln ln42 rfl (v ?_))
 refine vi hm (fun hc0 hm => ?_) fun hc0 hm => ?_
 refine v (v (v ?_))
 refine vx hm el42 rfl rfl fun x0 _ hm => ?_
 refine va (.agg (c_Loc x0)) ld81 rfl rfl ?_
 refine ve fun hk => a_alloc ([.sc (.int .i64 0), .sc (.int .i64 0), .sc (.int .i64 0), .sc (.int .i64 0)]) hk zr81 rfl rfl fun k202 hk0 => qk hk0 rfl ?_
 refine ve fun hk => a_store 0 (c_Loc x0) hk rfl rfl rfl rfl sz81 rfl rfl fun hk1 => qk hk1 rfl ?_
 refine vs (vs ?_)
 refine vjnH hm (σ := Bool) (τ := Unit) (fun g s => [(some k202, .obj 81 (c_Loc x0)), (some k2, .obj 30 (c_Catalog p0))]) (fun g s => .c 1 (.sl none 4 (List.map c_Loc p1)) (.c 2 (.ptr k2 0) (.c 5 (.sc (.int .i64 q0)) (.c 6 (.ptr k202 0) (.c 66 (.sc (.bool s)) .nil))))) (fun x hm => ?_) ?_
 refine v (vq (by kernel_rfl) (vl 0 _ ld3 rfl rfl rfl ?_))
 refine vi hm (fun hb0 hm => ?_) fun hb0 hm => ?_
 rw [hb0]
 exact vgo hm () trivial (lx (.k5 .nil))
 rw [hb0]
 refine vl 0 _ ld3 rfl rfl rfl (vl 1 _ ld28 rfl rfl rfl (vln ln28 rfl ?_))
 refine vi hm (fun hb1 hm => ?_) fun hb1 hm => ?_
 rw [hb1]
 exact vgo hm () trivial (lx (.k5 .nil))
 rw [hb1]
 refine vl 1 _ ld28 rfl rfl rfl (vl 0 _ ld3 rfl rfl rfl ?_)
 refine vx hm el28 rfl rfl fun _ _ hm => ?_
 refine vi hm (fun hb2 hm => ?_) fun hb2 hm => ?_
 rw [hb2]
 exact vgo hm () trivial (lx (.k5 .nil))
 rw [hb2]
 refine vl 0 _ ld3 rfl rfl rfl (vl 1 _ ld28 rfl rfl rfl (vl 0 _ ld3 rfl rfl rfl ?_))
 refine vx hm el28 rfl rfl fun _ _ hm => ?_
 refine vk W97 bd97 hm rfl rfl fun _ hm => ?_
 refine vi hm (fun hb3 hm => ?_) fun hb3 hm => ?_
 rw [hb3]
 exact vgo hm () trivial (lx (.k5 .nil))
 rw [hb3]
 refine vl 0 _ ld3 rfl rfl rfl ?_
 refine vk W97 bd97 hm rfl rfl fun _ hm => ?_
 refine vi hm (fun hb4 hm => ?_) fun hb4 hm => ?_
 rw [hb4]
 exact vgo hm () trivial (lx (.k5 .nil))
 rw [hb4]
 refine vl 0 _ ld3 rfl rfl rfl ?_
 refine vk W97 bd97 hm rfl rfl fun _ hm => ?_
 exact vgo hm () trivial (lx (.k5 .nil))
 rintro _ j0 hm
 refine v ?_
 refine vi hm (fun hc1 hm => ?_) fun hc1 hm => ?_
 refine v (v ?_)
 refine vrt hm fun hm => ?_
 injection hm with hm; subst hm
 exact vr1 rfl
 refine v (v ?_)
 refine vjnH hm (σ := Unit) (τ := Unit) (fun g s => [(some k202, .obj 81 (c_Loc x0)), (some k2, .obj 30 (c_Catalog p0))]) (fun g s => .c 1 (.sl none 4 (List.map c_Loc p1)) (.c 2 (.ptr k2 0) (.c 5 (.sc (.int .i64 q0)) .nil))) (fun x hm => ?_) ?_
 refine v ?_
 refine vi hm (fun hc2 hm => ?_) fun hc2 hm => ?_
 refine v ?_
 refine vx hm el42 rfl rfl fun x1 _ hm => ?_
 refine va (.agg (c_Loc x1)) ld81 rfl rfl ?_
 refine ve fun hk => a_alloc ([.sc (.int .i64 0), .sc (.int .i64 0), .sc (.int .i64 0), .sc (.int .i64 0)]) hk zr81 rfl rfl fun k268 hk2 => qk hk2 rfl ?_
 refine ve fun hk => a_store 0 (c_Loc x1) hk rfl rfl rfl rfl sz81 rfl rfl fun hk4 => qk hk4 rfl ?_
 refine vs ?_
 refine vjnH hm (σ := Bool) (τ := Unit) (fun g s => [(some k268, .obj 81 (c_Loc x1)), (some k202, .obj 81 (c_Loc x0)), (some k2, .obj 30 (c_Catalog p0))]) (fun g s => .c 1 (.sl none 4 (List.map c_Loc p1)) (.c 2 (.ptr k2 0) (.c 5 (.sc (.int .i64 q0)) (.c 107 (.sc (.bool s)) .nil)))) (fun x hm => ?_) ?_
 refine v (vl 0 _ ld3 rfl rfl rfl (vl 1 _ ld3 rfl rfl rfl ?_))
 refine vi hm (fun hb5 hm => ?_) fun hb5 hm => ?_
 rw [hb5]
 exact vgo hm () trivial (lx (.k4 .nil))
 rw [hb5]
 refine vl 0 _ ld3 rfl rfl rfl (vl 1 _ ld3 rfl rfl rfl ?_)
 refine vi hm (fun hb6 hm => ?_) fun hb6 hm => ?_
 rw [hb6]
 refine vl 0 _ ld3 rfl rfl rfl (vl 1 _ ld3 rfl rfl rfl ?_)
 refine vi hm (fun hb7 hm => ?_) fun hb7 hm => ?_
 rw [hb7]
 exact vgo hm () trivial (lx (.k4 .nil))
 rw [hb7]
 refine vl 0 _ ld3 rfl rfl rfl (vl 1 _ ld3 rfl rfl rfl ?_)
 refine vi hm (fun hb8 hm => ?_) fun hb8 hm => ?_
 rw [hb8]
 refine vl 0 _ ld3 rfl rfl rfl (vl 1 _ ld3 rfl rfl rfl ?_)
 exact vgo hm () trivial (lx (.k4 .nil))
 rw [hb8]
 exact vgo hm () trivial (lx (.k4 .nil))
 rw [hb6]
 exact vgo hm () trivial (lx (.k4 .nil))
 rintro _ j1 hm
 refine v ?_
 refine vi hm (fun hc3 hm => ?_) fun hc3 hm => ?_
 refine v (v ?_)
 refine vrt hm fun hm => ?_
 refine vrt hm fun hm => ?_
 injection hm with hm; subst hm
 exact vr1 rfl
 refine v ?_
 exact vgo hm () trivial (lxs [1, 2] rfl rfl (.k3 .nil))
 refine v ?_
 exact vgo hm () trivial (lx (.k3 .nil))
 rintro _ _ hm
 refine v ?_
 exact vgo hm () trivial (lxs [1] rfl rfl (.k3 .nil))
 refine v ?_
 exact vbk hm () trivial (lx (.k3 .nil))
 rintro _ r0 hm
 refine v (v ?_)
 injection hm with hm; subst hm
 exact vr1 rfl
theorem bd148 : bodied Tryz.prog 148 = true := by kernel_rfl
def M140_L0 (fuel : Nat) (p0 : ByteArray) (q0 : Int) : Option (Lp (Int) (Bool)) :=
 if (decide (q0 < (p0.size : Int))) = true then (after ((six p0 q0).bind fun x0 => if (decide (x0 < 33)) = true then (some (.brk true)) else (six p0 q0).bind fun x1 => some (.brk (decide (126 < x1))) : Option (Lp (Bool) (Lp (Int) (Bool)))) fun j0 => if j0 = true then (some (.ret false)) else some (.go (IntKind.wrap .i64 (q0 + 1)))) else some (.brk q0)
def M140 (fuel : Nat) (p0 : ByteArray) : Option (Bool) :=
 after (loopM (fun s => M140_L0 fuel p0 s) fuel 0) fun r0 => after (if (decide (1 ≤ (p0.size : Int))) = true then (some (.brk (decide ((p0.size : Int) ≤ 20)))) else some (.brk false) : Option (Lp (Bool) (Bool))) fun j0 => some j0
set_option maxHeartbeats 4000000 in
set_option maxRecDepth 100000 in
theorem W140 {fuel : Nat} {p0 : ByteArray} {o : Bool} (h : Heap) (hm : M140 fuel p0 = some o) :
 ACalls Tryz.prog 140 [.sc (.string p0)] h (fun r h' => r = .sc (.bool o) ∧ h' = h) := by
 refine ACv 28 [.tmp 2] Tryz.func140 rfl rfl rfl rfl ?_
 unfold M140 at hm
 refine v (v ?_)
 refine vlpH hm (σ := Int) (τ := Unit) (fun g s => []) (fun g s => .c 0 (.sc (.string p0)) (.c 3 (.sc (.int .i64 s)) .nil)) () (lx (.k2 .nil)) ?_ ?_
 rintro _ q0 x hm
 replace hm : M140_L0 fuel p0 q0 = some x := hm
 unfold M140_L0 at hm
 refine v (vn (fun _ => o_lent ln9 rfl) (v ?_))
 refine vi hm (fun hc0 hm => ?_) fun hc0 hm => ?_
 refine v (v (vs ?_))
 refine vjnH hm (σ := Bool) (τ := Unit) (fun g s => []) (fun g s => .c 0 (.sc (.string p0)) (.c 3 (.sc (.int .i64 q0)) (.c 19 (.sc (.bool s)) .nil))) (fun x hm => ?_) ?_
 refine v ?_
 obtain ⟨_, hx0, hm⟩ := Zc hm
 refine vn (fun _ => o_six hx0 u9 rfl rfl) ?_
 refine vi hm (fun hb0 hm => ?_) fun hb0 hm => ?_
 rw [hb0]
 exact vgo hm () trivial (lx (.k3 .nil))
 rw [hb0]
 obtain ⟨_, hx1, hm⟩ := Zc hm
 refine vn (fun _ => o_six hx1 u9 rfl rfl) ?_
 exact vgo hm () trivial (lx (.k3 .nil))
 rintro _ j0 hm
 refine v ?_
 refine vi hm (fun hc1 hm => ?_) fun hc1 hm => ?_
 refine v (v ?_)
 refine vrt hm fun hm => ?_
 injection hm with hm; subst hm
 exact vr1 rfl
 refine v (v ?_)
 exact vgo hm () trivial (lx (.k2 .nil))
 refine v ?_
 exact vbk hm () trivial (lx (.k2 .nil))
 rintro _ r0 hm
 refine vs ?_
 refine vjnH hm (σ := Bool) (τ := Unit) (fun g s => []) (fun g s => .c 2 (.sc (.bool s)) .nil) (fun x hm => ?_) ?_
 refine v (vn (fun _ => o_lent ln9 rfl) ?_)
 refine vi hm (fun hb1 hm => ?_) fun hb1 hm => ?_
 rw [hb1]
 refine vn (fun _ => o_lent ln9 rfl) ?_
 exact vgo hm () trivial (lx (.cons (ALe.refl _ _) .nil))
 rw [hb1]
 exact vgo hm () trivial (lx (.cons (ALe.refl _ _) .nil))
 rintro _ j1 hm
 refine v ?_
 injection hm with hm; subst hm
 exact vr1 rfl
theorem bd140 : bodied Tryz.prog 140 = true := by kernel_rfl
def M98_L0 (fuel : Nat) (p0 : TManifest) (q0 : Int) : Option (Lp (Int) (Bool)) :=
 if (decide (q0 < (p0.Parts.length : Int))) = true then ((ix p0.Parts q0).bind fun x0 => after ((M140 fuel x0.Path).bind fun y0 => if (!y0) = true then (some (.brk true)) else if (decide (0 < q0)) = true then ((ix p0.Parts (IntKind.wrap .i64 (q0 - 1))).bind fun x1 => if (Op.bytesLess x0.Path.toList x1.Path.toList || x0.Path.toList == x1.Path.toList) = true then (some (.brk true)) else if (decide (x0.Size < 0)) = true then (some (.brk true)) else if (decide (200 < x0.Size)) = true then (some (.brk true)) else if (decide (25 < (x0.Ids.length : Int))) = true then (some (.brk true)) else some (.brk (((x0.Ids.length : Int) == 0) != (x0.Size == 0)))) else if (decide (x0.Size < 0)) = true then (some (.brk true)) else if (decide (200 < x0.Size)) = true then (some (.brk true)) else if (decide (25 < (x0.Ids.length : Int))) = true then (some (.brk true)) else some (.brk (((x0.Ids.length : Int) == 0) != (x0.Size == 0))) : Option (Lp (Bool) (Lp (Int) (Bool)))) fun j0 => if j0 = true then (some (.ret false)) else some (.go (IntKind.wrap .i64 (q0 + 1)))) else some (.brk q0)
def M98 (fuel : Nat) (p0 : TManifest) : Option (Bool) :=
 after ((M140 fuel p0.Name).bind fun y0 => if (!y0) = true then (some (.brk true)) else some (.brk (decide (6 < (p0.Parts.length : Int)))) : Option (Lp (Bool) (Bool))) fun j0 => if j0 = true then (some false) else after (loopM (fun s => M98_L0 fuel p0 s) fuel 0) fun r0 => some true
set_option maxHeartbeats 4000000 in
set_option maxRecDepth 100000 in
theorem W98 {fuel : Nat} {p0 : TManifest} {o : Bool} (h : Heap) (hm : M98 fuel p0 = some o) :
 ACalls Tryz.prog 98 [.agg (c_Manifest p0)] h (fun r h' => r = .sc (.bool o) ∧ h' = h) := by
 refine ACv 73 [.tmp 2] Tryz.func98 rfl rfl rfl rfl ?_
 unfold M98 at hm
 refine v ?_
 refine ve fun hk => a_box hk rfl rfl fun k2 hk3 => qk hk3 rfl ?_
 refine vs (vs ?_)
 refine vjnH hm (σ := Bool) (τ := Unit) (fun g s => [(some k2, .obj 58 (c_Manifest p0))]) (fun g s => .c 1 (.ptr k2 0) (.c 14 (.sc (.bool s)) .nil)) (fun x hm => ?_) ?_
 refine v (vl 0 _ ld9 rfl rfl rfl ?_)
 refine vk W140 bd140 hm rfl rfl fun _ hm => ?_
 refine vi hm (fun hb0 hm => ?_) fun hb0 hm => ?_
 rw [hb0]
 exact vgo hm () trivial (lx (.k2 .nil))
 rw [hb0]
 refine vl 0 _ ld56 rfl rfl rfl (vln ln56 rfl ?_)
 exact vgo hm () trivial (lx (.k2 .nil))
 rintro _ j0 hm
 refine v ?_
 refine vi hm (fun hc0 hm => ?_) fun hc0 hm => ?_
 refine v (v ?_)
 injection hm with hm; subst hm
 exact vr1 rfl
 refine v (v ?_)
 refine vlpH hm (σ := Int) (τ := Unit) (fun g s => [(some k2, .obj 58 (c_Manifest p0))]) (fun g s => .c 1 (.ptr k2 0) (.c 3 (.sc (.int .i64 s)) .nil)) () (lx (.k2 .nil)) ?_ ?_
 rintro _ q0 x hm
 replace hm : M98_L0 fuel p0 q0 = some x := hm
 unfold M98_L0 at hm
 refine v (vl 0 _ ld56 rfl rfl rfl (vln ln56 rfl (v ?_)))
 refine vi hm (fun hc1 hm => ?_) fun hc1 hm => ?_
 refine v (v (v (vl 0 _ ld56 rfl rfl rfl ?_)))
 refine vx hm el56 rfl rfl fun x0 _ hm => ?_
 refine va (.agg (c_Part x0)) ld70 rfl rfl ?_
 refine ve fun hk => a_alloc ([.sc (.string ByteArray.empty), .sc (.int .i64 0), .sc (.slice none 0 0)]) hk zr70 rfl rfl fun k112 hk0 => qk hk0 rfl ?_
 refine ve fun hk => a_store 0 (c_Part x0) hk rfl rfl rfl rfl sz70 rfl rfl fun hk1 => qk hk1 rfl ?_
 refine vs ?_
 refine vjnH hm (σ := Bool) (τ := Unit) (fun g s => [(some k112, .obj 70 (c_Part x0)), (some k2, .obj 58 (c_Manifest p0))]) (fun g s => .c 1 (.ptr k2 0) (.c 3 (.sc (.int .i64 q0)) (.c 72 (.sc (.bool s)) .nil))) (fun x hm => ?_) ?_
 refine v (vq (by kernel_rfl) (vl 0 _ ld9 rfl rfl rfl ?_))
 refine vk W140 bd140 hm rfl rfl fun _ hm => ?_
 refine vi hm (fun hb1 hm => ?_) fun hb1 hm => ?_
 rw [hb1]
 exact vgo hm () trivial (lx (.k3 .nil))
 rw [hb1]
 refine vi hm (fun hb2 hm => ?_) fun hb2 hm => ?_
 rw [hb2]
 refine vl 0 _ ld9 rfl rfl rfl (vl 1 _ ld56 rfl rfl rfl ?_)
 refine vx hm el56 rfl rfl fun _ _ hm => ?_
 refine vn (fun _ => o_bs rfl rfl rfl trivial) ?_
 refine vi hm (fun hb3 hm => ?_) fun hb3 hm => ?_
 rw [hb3]
 exact vgo hm () trivial (lx (.k3 .nil))
 rw [hb3]
 refine vl 0 _ ld3 rfl rfl rfl ?_
 refine vi hm (fun hb4 hm => ?_) fun hb4 hm => ?_
 rw [hb4]
 exact vgo hm () trivial (lx (.k3 .nil))
 rw [hb4]
 refine vl 0 _ ld3 rfl rfl rfl ?_
 refine vi hm (fun hb5 hm => ?_) fun hb5 hm => ?_
 rw [hb5]
 exact vgo hm () trivial (lx (.k3 .nil))
 rw [hb5]
 refine vl 0 _ ld68 rfl rfl rfl (vln ln68 rfl ?_)
 refine vi hm (fun hb6 hm => ?_) fun hb6 hm => ?_
 rw [hb6]
 exact vgo hm () trivial (lx (.k3 .nil))
 rw [hb6]
 refine vl 0 _ ld68 rfl rfl rfl (vln ln68 rfl (vl 0 _ ld3 rfl rfl rfl (vn (fun _ => o_bb u4 rfl rfl rfl) ?_)))
 exact vgo hm () trivial (lx (.k3 .nil))
 rw [hb2]
 refine vl 0 _ ld3 rfl rfl rfl ?_
 refine vi hm (fun hb7 hm => ?_) fun hb7 hm => ?_
 rw [hb7]
 exact vgo hm () trivial (lx (.k3 .nil))
 rw [hb7]
 refine vl 0 _ ld3 rfl rfl rfl ?_
 refine vi hm (fun hb8 hm => ?_) fun hb8 hm => ?_
 rw [hb8]
 exact vgo hm () trivial (lx (.k3 .nil))
 rw [hb8]
 refine vl 0 _ ld68 rfl rfl rfl (vln ln68 rfl ?_)
 refine vi hm (fun hb9 hm => ?_) fun hb9 hm => ?_
 rw [hb9]
 exact vgo hm () trivial (lx (.k3 .nil))
 rw [hb9]
 refine vl 0 _ ld68 rfl rfl rfl (vln ln68 rfl (vl 0 _ ld3 rfl rfl rfl (vn (fun _ => o_bb u4 rfl rfl rfl) ?_)))
 exact vgo hm () trivial (lx (.k3 .nil))
 rintro _ j1 hm
 refine v ?_
 refine vi hm (fun hc2 hm => ?_) fun hc2 hm => ?_
 refine v (v ?_)
 refine vrt hm fun hm => ?_
 injection hm with hm; subst hm
 exact vr1 rfl
 refine v (v ?_)
 exact vgo hm () trivial (lxs [1] rfl rfl (.k2 .nil))
 refine v ?_
 exact vbk hm () trivial (lx (.k2 .nil))
 rintro _ r0 hm
 refine v (v ?_)
 injection hm with hm; subst hm
 exact vr1 rfl
theorem bd98 : bodied Tryz.prog 98 = true := by kernel_rfl
def M167_L0 (fuel : Nat) (p0 : Id32) (p1 : Id32) (q0 : Int) : Option (Lp (Int) (Bool)) :=
 if (decide (q0 < 32)) = true then ((ix p0.1 q0).bind fun x0 => (ix p1.1 q0).bind fun x1 => if (x0 != x1) = true then ((ix p0.1 q0).bind fun x2 => (ix p1.1 q0).bind fun x3 => some (.ret (decide (x2 < x3)))) else some (.go (IntKind.wrap .i64 (q0 + 1)))) else some (.brk q0)
def M167 (fuel : Nat) (p0 : Id32) (p1 : Id32) : Option (Bool) :=
 after (loopM (fun s => M167_L0 fuel p0 p1 s) fuel 0) fun r0 => some false
set_option maxHeartbeats 4000000 in
set_option maxRecDepth 100000 in
theorem W167 {fuel : Nat} {p0 : Id32} {p1 : Id32} {o : Bool} (h : Heap) (hm : M167 fuel p0 p1 = some o) :
 ACalls Tryz.prog 167 [.agg (c_id p0), .agg (c_id p1)] h (fun r h' => r = .sc (.bool o) ∧ h' = h) := by
 refine ACv 24 [.tmp 4] Tryz.func167 rfl rfl rfl rfl ?_
 unfold M167 at hm
 refine v ?_
 refine ve fun hk => a_box hk rfl rfl fun k2 hk3 => qk hk3 rfl ?_
 refine ve fun hk => a_box hk rfl rfl fun k5 hk6 => qk hk6 rfl ?_
 refine v ?_
 refine vlpH hm (σ := Int) (τ := Unit) (fun g s => [(some k5, .obj 36 (c_id p1)), (some k2, .obj 36 (c_id p0))]) (fun g s => .c 2 (.ptr k2 0) (.c 3 (.ptr k5 0) (.c 5 (.sc (.int .i64 s)) .nil))) () (lx (.k3 .nil)) ?_ ?_
 rintro _ q0 x hm
 replace hm : M167_L0 fuel p0 p1 q0 = some x := hm
 unfold M167_L0 at hm
 refine v (v ?_)
 refine vi hm (fun hc0 hm => ?_) fun hc0 hm => ?_
 refine v (v (v (vq (by kernel_rfl) ?_)))
 obtain ⟨_, hx0, hm⟩ := Zc hm
 refine vn (fun _ => o_ixidp hx0 ar36 rfl rfl) (vn (fun hk => o_ldidp 0 hx0 ld5 rfl (Zd 1 hk rfl) rfl) ?_)
 obtain ⟨_, hx1, hm⟩ := Zc hm
 refine vn (fun _ => o_ixidp hx1 ar36 rfl rfl) (vn (fun hk => o_ldidp 0 hx1 ld5 rfl (Zd 0 hk rfl) rfl) (v ?_))
 refine vi hm (fun hc1 hm => ?_) fun hc1 hm => ?_
 refine v (vq (by kernel_rfl) ?_)
 obtain ⟨_, hx2, hm⟩ := Zc hm
 refine vn (fun _ => o_ixidp hx2 ar36 rfl rfl) (vn (fun hk => o_ldidp 0 hx2 ld5 rfl (Zd 1 hk rfl) rfl) ?_)
 obtain ⟨_, hx3, hm⟩ := Zc hm
 refine vn (fun _ => o_ixidp hx3 ar36 rfl rfl) (vn (fun hk => o_ldidp 0 hx3 ld5 rfl (Zd 0 hk rfl) rfl) (v ?_))
 refine vrt hm fun hm => ?_
 cases hm
 exact vr1 rfl
 refine v (v ?_)
 exact vgo hm () trivial (lx (.k3 .nil))
 refine v ?_
 exact vbk hm () trivial (lx (.k3 .nil))
 rintro _ r0 hm
 refine v (v ?_)
 injection hm with hm; subst hm
 exact vr1 rfl
theorem bd167 : bodied Tryz.prog 167 = true := by kernel_rfl
def M106_L0 (fuel : Nat) (p0 : List Id32) (p1 : Id32) (q0 : Int) : Option (Lp (Int) ((List Id32) × Int × Bool)) :=
 after (if (decide (q0 < (p0.length : Int))) = true then ((ix p0 q0).bind fun x0 => (M167 fuel x0 p1).bind fun y0 => some (.brk y0)) else some (.brk false) : Option (Lp (Bool) (Lp (Int) ((List Id32) × Int × Bool)))) fun j0 => if j0 = true then (some (.go (IntKind.wrap .i64 (q0 + 1)))) else some (.brk q0)
def M106 (fuel : Nat) (p0 : List Id32) (p1 : Id32) : Option ((List Id32) × Int × Bool) :=
 after (loopM (fun s => M106_L0 fuel p0 p1 s) fuel 0) fun r0 => after (if (decide (r0 < (p0.length : Int))) = true then ((ix p0 r0).bind fun x0 => some (.brk (decide (x0 = p1)))) else some (.brk false) : Option (Lp (Bool) ((List Id32) × Int × Bool))) fun j0 => if j0 = true then (some (p0, r0, false)) else (slc p0 0 r0).bind fun x1 => (app ([] : List Id32) x1).bind fun z0 => (app z0 ([p1] : List Id32)).bind fun z1 => (slc p0 r0 (p0).length).bind fun x2 => (app z1 x2).bind fun z2 => some (z2, r0, true)
set_option maxHeartbeats 4000000 in
set_option maxRecDepth 100000 in
theorem W106 {fuel : Nat} {p0 : List Id32} {p1 : Id32} {o : (List Id32) × Int × Bool} (h : Heap) (hm : M106 fuel p0 p1 = some o) :
 ACalls Tryz.prog 106 [.sl none 32 (List.map c_id p0), .agg (c_id p1)] h (fun r h' => r = .tup [.sl none 32 (List.map c_id o.1), .sc (.int .i64 o.2.1), .sc (.bool o.2.2)] ∧ h' = h) := by
 refine ACv 51 [.tmp 4, .tmp 5, .tmp 6] Tryz.func106 rfl rfl rfl rfl ?_
 unfold M106 at hm
 refine v ?_
 refine ve fun hk => a_box hk rfl rfl fun k2 hk3 => qk hk3 rfl ?_
 refine v (vs ?_)
 refine vlpH hm (σ := Int) (τ := Unit) (fun g s => [(some k2, .obj 36 (c_id p1))]) (fun g s => .c 0 (.sl none 32 (List.map c_id p0)) (.c 3 (.ptr k2 0) (.c 7 (.sc (.int .i64 s)) .nil))) () (lx (.k3 .nil)) ?_ ?_
 rintro _ q0 x hm
 replace hm : M106_L0 fuel p0 p1 q0 = some x := hm
 unfold M106_L0 at hm
 refine vs (vs ?_)
 refine vjnH hm (σ := Bool) (τ := Unit) (fun g s => [(some k2, .obj 36 (c_id p1))]) (fun g s => .c 0 (.sl none 32 (List.map c_id p0)) (.c 3 (.ptr k2 0) (.c 7 (.sc (.int .i64 q0)) (.c 20 (.sc (.bool s)) .nil)))) (fun x hm => ?_) ?_
 refine v (vq (by kernel_rfl) (vln ln68 rfl ?_))
 refine vi hm (fun hb0 hm => ?_) fun hb0 hm => ?_
 rw [hb0]
 refine vx hm el68 rfl rfl fun x0 _ hm => ?_
 refine va (.agg (c_id x0)) ld36 rfl rfl (vl 0 (.agg (c_id p1)) ld36 rfl rfl rfl ?_)
 refine vk W167 bd167 hm rfl rfl fun _ hm => ?_
 exact vgo hm () trivial (lx (.k4 .nil))
 rw [hb0]
 exact vgo hm () trivial (lx (.k4 .nil))
 rintro _ j0 hm
 refine v ?_
 refine vi hm (fun hc0 hm => ?_) fun hc0 hm => ?_
 refine v (v (v ?_))
 exact vgo hm () trivial (lx (.k3 .nil))
 refine v ?_
 exact vbk hm () trivial (lx (.k3 .nil))
 rintro _ r0 hm
 refine vs (vs ?_)
 refine vjnH hm (σ := Bool) (τ := Unit) (fun g s => [(some k2, .obj 36 (c_id p1))]) (fun g s => .c 0 (.sl none 32 (List.map c_id p0)) (.c 3 (.ptr k2 0) (.c 7 (.sc (.int .i64 r0)) (.c 34 (.sc (.bool s)) .nil)))) (fun x hm => ?_) ?_
 refine v (vq (by kernel_rfl) (vln ln68 rfl ?_))
 refine vi hm (fun hb1 hm => ?_) fun hb1 hm => ?_
 rw [hb1]
 refine vx hm el68 rfl rfl fun x1 _ hm => ?_
 refine va (.agg (c_id x1)) ld36 rfl rfl (vl 0 (.agg (c_id p1)) ld36 rfl rfl rfl (vn (fun _ => o_ide eg36 u36 u5 ld5 rfl rfl) ?_))
 exact vgo hm () trivial (lx (.k4 .nil))
 rw [hb1]
 exact vgo hm () trivial (lx (.k4 .nil))
 rintro _ j1 hm
 refine v ?_
 refine vi hm (fun hc1 hm => ?_) fun hc1 hm => ?_
 refine v (v ?_)
 cases hm
 exact vr fun hk => Ret.of3 (.inl rfl) (rsT _ _ (.sl _ _ _) rfl) (rsT _ _ (.sc (.int _ _)) rfl) (rsT _ _ (.sc (.bool _)) rfl) (hp_sub (List.nil_sublist _) hk).1 (ALe.refl _ _) (ALe.refl _ _) (ALe.refl _ _) ⟨rfl, rfl⟩
 refine v (v (v ?_))
 refine vz [(1000000, some k2, .obj 36 (c_id p1))] mixed (fun hk => ⟨fun _ => hp_at 0 hk rfl, trivial⟩) fun hk => ?_
 refine z_w 0 rfl (fun S' h' hi hB => o_mv (.sc (.slice _ _ _)) rfl) ?_
 refine z_w 1 rfl (fun S' h' hi hB => o_mv (.sl _ _ _) rfl) ?_
 refine z_w 2 rfl (fun S' h' hi hB => o_mv (.sc (.int _ _)) rfl) ?_
 obtain ⟨_, hx0, hm⟩ := Zc hm
 refine z_w 3 rfl (fun S' h' hi hB => o_slc hx0 el68 rfl rfl rfl rfl) ?_
 refine z_w 5 rfl (fun S' h' hi hB => Zg (.agg (c_id p1)) ld36 rfl (At.s (InvL.get 0 hi rfl (hB 1000000 (by kernel_rfl)))) rfl) ?_
 refine z_w 6 rfl (fun S' h' hi hB => o_lit (List.map c_id ([p1] : List Id32)) et68 rfl rfl rfl rfl) ?_
 obtain ⟨z0, hz0, hm⟩ := Zc hm
 refine z_e 4 rfl (by kernel_rfl) (a_app0 (c := c_id) hz0 et68 rfl rfl hk nofun rfl fun tg0 ot0 hk0 => ⟨⟨fun _ => hp_at 1 hk0 rfl, trivial⟩, ?_⟩)
 obtain ⟨z1, hz1, hm⟩ := Zc hm
 refine z_e 7 rfl (by kernel_rfl) (a_app (c := c_id) 0 hz1 et68 rfl rfl rfl ot0 hk0 rfl fun tg1 ot1 hk1 => ⟨⟨fun _ => hp_at 1 hk1 rfl, trivial⟩, ?_⟩)
 refine z_w 8 rfl (fun S' h' hi hB => o_as (ow _ _ _) rfl) ?_
 refine z_nil (by kernel_rfl) (qk (f := .c 8 _ (.c 44 _ (.c 41 _ (.c 43 _ (.c 42 _ (.c 40 _ (.c 39 _ (.c 38 _ (.c 37 _ _))))))))) hk1 rfl ?_)
 refine v ?_
 obtain ⟨_, hx1, hm⟩ := Zc hm
 refine vn (fun _ => o_slc hx1 el68 rfl rfl rfl rfl) ?_
 obtain ⟨z2, hz2, hm⟩ := Zc hm
 refine ve fun hk => a_app (c := c_id) 0 hz2 et68 rfl rfl rfl ot1 hk rfl fun tg2 ot2 hk2 => qk hk2 rfl ?_
 refine v ?_
 cases hm
 exact vr fun hk => Ret.of3 (.inl rfl) (rsT _ _ (ow _ _ _) rfl) (rsT _ _ (.sc (.int _ _)) rfl) (rsT _ _ (.sc (.bool _)) rfl) (hp_sub (List.nil_sublist _) hk).1 ((own_frz0 _ 0 ot2 hk rfl)) (ALe.refl _ _) (ALe.refl _ _) ⟨rfl, rfl⟩
theorem bd106 : bodied Tryz.prog 106 = true := by kernel_rfl
def M49_L2 (fuel : Nat) (p0 : TManifest) (q0 : Int) (q1 : List Id32) (q2 : Int) : Option (Lp ((List Id32) × Int) (Lp ((List Id32) × Int) ((List Id32)))) :=
 (ix p0.Parts q0).bind fun x0 => if (decide (q2 < (x0.Ids.length : Int))) = true then ((ix p0.Parts q0).bind fun x1 => (ix x1.Ids q2).bind fun x2 => (M106 fuel q1 x2).bind fun y0 => some (.go (y0.1, IntKind.wrap .i64 (q2 + 1)))) else some (.brk (q1, q2))
def M49_L0 (fuel : Nat) (p0 : TManifest) (q0 : List Id32) (q1 : Int) : Option (Lp ((List Id32) × Int) ((List Id32))) :=
 if (decide (q1 < (p0.Parts.length : Int))) = true then (after (loopM (fun s => M49_L2 fuel p0 q1 s.1 s.2) fuel (q0, 0)) fun ⟨r0, r1⟩ => some (.go (r0, IntKind.wrap .i64 (q1 + 1)))) else some (.brk (q0, q1))
def M49 (fuel : Nat) (p0 : TManifest) : Option ((List Id32)) :=
 after (loopM (fun s => M49_L0 fuel p0 s.1 s.2) fuel ([], 0)) fun ⟨r0, r1⟩ => some r0
set_option maxHeartbeats 4000000 in
set_option maxRecDepth 100000 in
theorem W49 {fuel : Nat} {p0 : TManifest} {o : (List Id32)} (h : Heap) (hm : M49 fuel p0 = some o) :
 ACalls Tryz.prog 49 [.agg (c_Manifest p0)] h (fun r h' => r = .sl none 32 (List.map c_id o) ∧ h' = h) := by
 refine ACv 40 [.tmp 2] Tryz.func49 rfl rfl rfl rfl ?_
 unfold M49 at hm
 refine v ?_
 refine ve fun hk => a_box hk rfl rfl fun k2 hk3 => qk hk3 rfl ?_
 refine v (v ?_)
 refine vlpH hm (σ := (List Id32) × Int) (τ := Unit) (fun g s => [(some k2, .obj 58 (c_Manifest p0))]) (fun g s => .c 1 (.ptr k2 0) (.c 3 (.sl none 32 (List.map c_id s.1)) (.c 4 (.sc (.int .i64 s.2)) .nil))) () (lx (.cons (ALe.refl _ _) (.cons (nil_lem _) (.cons (ALe.refl _ _) .nil)))) ?_ ?_
 rintro _ ⟨q0, q1⟩ x hm
 replace hm : M49_L0 fuel p0 q0 q1 = some x := hm
 unfold M49_L0 at hm
 refine v (vl 0 _ ld56 rfl rfl rfl (vln ln56 rfl (v ?_)))
 refine vi hm (fun hc0 hm => ?_) fun hc0 hm => ?_
 refine v (v (v ?_))
 refine vlpH hm (σ := (List Id32) × Int) (τ := Unit) (fun g s => [(some k2, .obj 58 (c_Manifest p0))]) (fun g s => .c 1 (.ptr k2 0) (.c 3 (.sl none 32 (List.map c_id s.1)) (.c 4 (.sc (.int .i64 q1)) (.c 5 (.sc (.int .i64 s.2)) .nil)))) () (lx (.k4 .nil)) ?_ ?_
 rintro _ ⟨q2, q3⟩ x hm
 replace hm : M49_L2 fuel p0 q1 q2 q3 = some x := hm
 unfold M49_L2 at hm
 refine v (vl 0 _ ld56 rfl rfl rfl ?_)
 refine vx hm el56 rfl rfl fun _ _ hm => ?_
 refine vln ln68 rfl (v ?_)
 refine vi hm (fun hc1 hm => ?_) fun hc1 hm => ?_
 refine v (v (v (vl 0 _ ld56 rfl rfl rfl ?_)))
 refine vx hm el56 rfl rfl fun _ _ hm => ?_
 refine vx hm el68 rfl rfl fun x0 _ hm => ?_
 refine va (.agg (c_id x0)) ld36 rfl rfl ?_
 refine vk W106 bd106 hm rfl rfl fun _ hm => ?_
 refine v ?_
 exact vgo hm () trivial (lx (.k4 .nil))
 refine v ?_
 exact vbk hm () trivial (lx (.k4 .nil))
 rintro _ ⟨r0, r1⟩ hm
 refine v ?_
 exact vgo hm () trivial (lx (.k3 .nil))
 refine v ?_
 exact vbk hm () trivial (lx (.k3 .nil))
 rintro _ ⟨r2, r3⟩ hm
 refine v (v ?_)
 injection hm with hm; subst hm
 exact vr1 rfl
theorem bd49 : bodied Tryz.prog 49 = true := by kernel_rfl
def M88_L0 (fuel : Nat) (p0 : TCatalog) (p1 : Id32) (q0 : Int) : Option (Lp (Int) (Int)) :=
 if (decide (q0 < (p0.Chunks.length : Int))) = true then ((ix p0.Chunks q0).bind fun x0 => if (decide (x0.Id = p1)) = true then (some (.ret q0)) else some (.go (IntKind.wrap .i64 (q0 + 1)))) else some (.brk q0)
def M88 (fuel : Nat) (p0 : TCatalog) (p1 : Id32) : Option (Int) :=
 after (loopM (fun s => M88_L0 fuel p0 p1 s) fuel 0) fun r0 => some (-1)
set_option maxHeartbeats 4000000 in
set_option maxRecDepth 100000 in
theorem W88 {fuel : Nat} {p0 : TCatalog} {p1 : Id32} {o : Int} (h : Heap) (hm : M88 fuel p0 p1 = some o) :
 ACalls Tryz.prog 88 [.agg (c_Catalog p0), .agg (c_id p1)] h (fun r h' => r = .sc (.int .i64 o) ∧ h' = h) := by
 refine ACv 22 [.tmp 4] Tryz.func88 rfl rfl rfl rfl ?_
 unfold M88 at hm
 refine v ?_
 refine ve fun hk => a_box hk rfl rfl fun k2 hk3 => qk hk3 rfl ?_
 refine ve fun hk => a_box hk rfl rfl fun k5 hk6 => qk hk6 rfl ?_
 refine v ?_
 refine vlpH hm (σ := Int) (τ := Unit) (fun g s => [(some k5, .obj 36 (c_id p1)), (some k2, .obj 30 (c_Catalog p0))]) (fun g s => .c 2 (.ptr k2 0) (.c 3 (.ptr k5 0) (.c 5 (.sc (.int .i64 s)) .nil))) () (lx (.k3 .nil)) ?_ ?_
 rintro _ q0 x hm
 replace hm : M88_L0 fuel p0 p1 q0 = some x := hm
 unfold M88_L0 at hm
 refine v (vl 1 _ ld26 rfl rfl rfl (vln ln26 rfl (v ?_)))
 refine vi hm (fun hc0 hm => ?_) fun hc0 hm => ?_
 refine v (v (v (vq (by kernel_rfl) (vl 1 _ ld26 rfl rfl rfl ?_))))
 refine vx hm el26 rfl rfl fun x0 _ hm => ?_
 refine va (.agg (c_id x0.Id)) ld36 rfl rfl (vl 0 (.agg (c_id p1)) ld36 rfl rfl rfl (vn (fun _ => o_ide eg36 u36 u5 ld5 rfl rfl) (v ?_)))
 refine vi hm (fun hc1 hm => ?_) fun hc1 hm => ?_
 refine v (v ?_)
 refine vrt hm fun hm => ?_
 injection hm with hm; subst hm
 exact vr1 rfl
 refine v (v ?_)
 exact vgo hm () trivial (lx (.k3 .nil))
 refine v ?_
 exact vbk hm () trivial (lx (.k3 .nil))
 rintro _ r0 hm
 refine v (v ?_)
 cases hm
 exact vr1 rfl
theorem bd88 : bodied Tryz.prog 88 = true := by kernel_rfl
def M149_L0 (fuel : Nat) (p0 : TCatalog) (p1 : ByteArray) (q0 : Int) : Option (Lp (Int) (Int)) :=
 if (decide (q0 < (p0.Snaps.length : Int))) = true then ((ix p0.Snaps q0).bind fun x0 => if (x0.Man.Name.toList == p1.toList) = true then (some (.ret q0)) else some (.go (IntKind.wrap .i64 (q0 + 1)))) else some (.brk q0)
def M149 (fuel : Nat) (p0 : TCatalog) (p1 : ByteArray) : Option (Int) :=
 after (loopM (fun s => M149_L0 fuel p0 p1 s) fuel 0) fun r0 => some (-1)
set_option maxHeartbeats 4000000 in
set_option maxRecDepth 100000 in
theorem W149 {fuel : Nat} {p0 : TCatalog} {p1 : ByteArray} {o : Int} (h : Heap) (hm : M149 fuel p0 p1 = some o) :
 ACalls Tryz.prog 149 [.agg (c_Catalog p0), .sc (.string p1)] h (fun r h' => r = .sc (.int .i64 o) ∧ h' = h) := by
 refine ACv 23 [.tmp 4] Tryz.func149 rfl rfl rfl rfl ?_
 unfold M149 at hm
 refine v ?_
 refine ve fun hk => a_box hk rfl rfl fun k2 hk3 => qk hk3 rfl ?_
 refine v ?_
 refine vlpH hm (σ := Int) (τ := Unit) (fun g s => [(some k2, .obj 30 (c_Catalog p0))]) (fun g s => .c 1 (.sc (.string p1)) (.c 2 (.ptr k2 0) (.c 5 (.sc (.int .i64 s)) .nil))) () (lx (.k3 .nil)) ?_ ?_
 rintro _ q0 x hm
 replace hm : M149_L0 fuel p0 p1 q0 = some x := hm
 unfold M149_L0 at hm
 refine v (vl 0 _ ld25 rfl rfl rfl (vln ln25 rfl (v ?_)))
 refine vi hm (fun hc0 hm => ?_) fun hc0 hm => ?_
 refine v (v (v (vl 0 _ ld25 rfl rfl rfl ?_)))
 refine vx hm el25 rfl rfl fun _ _ hm => ?_
 refine vn (fun _ => o_bs rfl rfl rfl trivial) (v ?_)
 refine vi hm (fun hc1 hm => ?_) fun hc1 hm => ?_
 refine v (v ?_)
 refine vrt hm fun hm => ?_
 injection hm with hm; subst hm
 exact vr1 rfl
 refine v (v ?_)
 exact vgo hm () trivial (lx (.k3 .nil))
 refine v ?_
 exact vbk hm () trivial (lx (.k3 .nil))
 rintro _ r0 hm
 refine v (v ?_)
 cases hm
 exact vr1 rfl
theorem bd149 : bodied Tryz.prog 149 = true := by kernel_rfl
def M89_L0 (fuel : Nat) (p0 : TCatalog) (q0 : Int) : Option (Lp (Int) (Bool)) :=
 if (decide (q0 < (p0.Vols.length : Int))) = true then ((ix p0.Vols q0).bind fun x0 => after ((M97 fuel x0.Pool 0 1).bind fun y0 => if (!y0) = true then (some (.brk true)) else (M97 fuel x0.Epoch 0 1048576).bind fun y1 => some (.brk (!y1)) : Option (Lp (Bool) (Lp (Int) (Bool)))) fun j0 => if j0 = true then (some (.ret false)) else after (if (x0.State == 1) = true then (some (.brk (x0.State == 1))) else some (.brk (x0.State == 3)) : Option (Lp (Bool) (Lp (Int) (Bool)))) fun j1 => after (if j1 = true then (if (x0.Files != 0) = true then (some (.ret (.ret false))) else some (.brk ())) else if (x0.State == 2) = true then ((M97 fuel x0.Files 1 65535).bind fun y2 => if (!y2) = true then (some (.ret (.ret false))) else some (.brk ())) else some (.ret (.ret false)) : Option (Lp (Unit) (Lp (Int) (Bool)))) fun _ => some (.go (IntKind.wrap .i64 (q0 + 1)))) else some (.brk q0)
def M89_L3 (fuel : Nat) (p0 : TCatalog) (q0 : Int) : Option (Lp (Int) (Bool)) :=
 if (decide (q0 < (p0.Chunks.length : Int))) = true then ((ix p0.Chunks q0).bind fun x0 => after (if (decide (0 < q0)) = true then ((ix p0.Chunks (IntKind.wrap .i64 (q0 - 1))).bind fun x1 => (M147 fuel x1.Id x0.Id).bind fun y0 => if (!y0) = true then (some (.brk true)) else (M148 fuel p0 x0.Locs).bind fun y1 => if (!y1) = true then (some (.brk true)) else if x0.Staged = true then ((M97 fuel (x0.Data.length : Int) 1 64).bind fun y2 => if (!y2) = true then (some (.brk true)) else if (!x0.Staged) = true then (if (decide (0 < (x0.Data.length : Int))) = true then (some (.brk true)) else some (.brk ((x0.Locs.length : Int) == 0))) else some (.brk false)) else if (!x0.Staged) = true then (if (decide (0 < (x0.Data.length : Int))) = true then (some (.brk true)) else some (.brk ((x0.Locs.length : Int) == 0))) else some (.brk false)) else (M148 fuel p0 x0.Locs).bind fun y3 => if (!y3) = true then (some (.brk true)) else if x0.Staged = true then ((M97 fuel (x0.Data.length : Int) 1 64).bind fun y4 => if (!y4) = true then (some (.brk true)) else if (!x0.Staged) = true then (if (decide (0 < (x0.Data.length : Int))) = true then (some (.brk true)) else some (.brk ((x0.Locs.length : Int) == 0))) else some (.brk false)) else if (!x0.Staged) = true then (if (decide (0 < (x0.Data.length : Int))) = true then (some (.brk true)) else some (.brk ((x0.Locs.length : Int) == 0))) else some (.brk false) : Option (Lp (Bool) (Lp (Int) (Bool)))) fun j0 => if j0 = true then (some (.ret false)) else some (.go (IntKind.wrap .i64 (q0 + 1)))) else some (.brk q0)
def M89_L7 (fuel : Nat) (p0 : TCatalog) (y0 : (List Id32)) (q0 : Int) : Option (Lp (Int) (Lp (Int) (Bool))) :=
 if (decide (q0 < (y0.length : Int))) = true then ((ix y0 q0).bind fun x0 => (M88 fuel p0 x0).bind fun y1 => if (decide (y1 < 0)) = true then (some (.ret (.ret false))) else some (.go (IntKind.wrap .i64 (q0 + 1)))) else some (.brk q0)
def M89_L9 (fuel : Nat) (p0 : TCatalog) (x0 : TSnap) (q0 : Int) : Option (Lp (Int) (Lp (Int) (Bool))) :=
 if (decide (q0 < (p0.Exps.length : Int))) = true then ((ix p0.Exps q0).bind fun x1 => if (x1.Of == x0.Seq) = true then (some (.ret (.ret false))) else some (.go (IntKind.wrap .i64 (q0 + 1)))) else some (.brk q0)
def M89_L5 (fuel : Nat) (p0 : TCatalog) (q0 : Int) : Option (Lp (Int) (Bool)) :=
 if (decide (q0 < (p0.Snaps.length : Int))) = true then ((ix p0.Snaps q0).bind fun x0 => after (if (decide (x0.Seq < 0)) = true then (some (.brk true)) else if (decide (p0.Seq ≤ x0.Seq)) = true then (some (.brk true)) else if (decide (0 < q0)) = true then ((ix p0.Snaps (IntKind.wrap .i64 (q0 - 1))).bind fun x1 => if (decide (x0.Seq ≤ x1.Seq)) = true then (some (.brk true)) else (M98 fuel x0.Man).bind fun y0 => if (!y0) = true then (some (.brk true)) else (M148 fuel p0 x0.Locs).bind fun y1 => if (!y1) = true then (some (.brk true)) else (M149 fuel p0 x0.Man.Name).bind fun y2 => some (.brk (y2 != q0))) else (M98 fuel x0.Man).bind fun y3 => if (!y3) = true then (some (.brk true)) else (M148 fuel p0 x0.Locs).bind fun y4 => if (!y4) = true then (some (.brk true)) else (M149 fuel p0 x0.Man.Name).bind fun y5 => some (.brk (y5 != q0)) : Option (Lp (Bool) (Lp (Int) (Bool)))) fun j0 => if j0 = true then (some (.ret false)) else (M49 fuel x0.Man).bind fun y6 => after (loopM (fun s => M89_L7 fuel p0 y6 s) fuel 0) fun r0 => after (loopM (fun s => M89_L9 fuel p0 x0 s) fuel 0) fun r1 => some (.go (IntKind.wrap .i64 (q0 + 1)))) else some (.brk q0)
def M89_L11 (fuel : Nat) (p0 : TCatalog) (q0 : Int) : Option (Lp (Int) (Bool)) :=
 if (decide (q0 < (p0.Exps.length : Int))) = true then ((ix p0.Exps q0).bind fun x0 => after (if (decide (x0.Seq < 0)) = true then (some (.brk true)) else if (decide (p0.Seq ≤ x0.Seq)) = true then (some (.brk true)) else if (decide (0 < q0)) = true then ((ix p0.Exps (IntKind.wrap .i64 (q0 - 1))).bind fun x1 => if (decide (x0.Seq ≤ x1.Seq)) = true then (some (.brk true)) else if (decide (x0.Of < 0)) = true then (some (.brk true)) else if (decide (x0.Seq ≤ x0.Of)) = true then (some (.brk true)) else (M148 fuel p0 x0.Locs).bind fun y0 => if (!y0) = true then (some (.brk true)) else some (.brk ((x0.Locs.length : Int) == 0))) else if (decide (x0.Of < 0)) = true then (some (.brk true)) else if (decide (x0.Seq ≤ x0.Of)) = true then (some (.brk true)) else (M148 fuel p0 x0.Locs).bind fun y1 => if (!y1) = true then (some (.brk true)) else some (.brk ((x0.Locs.length : Int) == 0)) : Option (Lp (Bool) (Lp (Int) (Bool)))) fun j0 => if j0 = true then (some (.ret false)) else some (.go (IntKind.wrap .i64 (q0 + 1)))) else some (.brk q0)
def M89 (fuel : Nat) (p0 : TCatalog) : Option (Bool) :=
 after ((M97 fuel p0.Seq 0 1073741824).bind fun y0 => if (!y0) = true then (some (.brk true)) else if (decide (8 < (p0.Snaps.length : Int))) = true then (some (.brk true)) else if (decide (200 < (p0.Chunks.length : Int))) = true then (some (.brk true)) else if (decide (200 < (p0.Exps.length : Int))) = true then (some (.brk true)) else (M97 fuel (p0.Vols.length : Int) 1 8).bind fun y1 => some (.brk (!y1)) : Option (Lp (Bool) (Bool))) fun j0 => if j0 = true then (some false) else after (loopM (fun s => M89_L0 fuel p0 s) fuel 0) fun r0 => after (loopM (fun s => M89_L3 fuel p0 s) fuel 0) fun r1 => after (loopM (fun s => M89_L5 fuel p0 s) fuel 0) fun r2 => after (loopM (fun s => M89_L11 fuel p0 s) fuel 0) fun r3 => some true
set_option maxHeartbeats 4000000 in
set_option maxRecDepth 100000 in
theorem W89 {fuel : Nat} {p0 : TCatalog} {o : Bool} (h : Heap) (hm : M89 fuel p0 = some o) :
 ACalls Tryz.prog 89 [.agg (c_Catalog p0)] h (fun r h' => r = .sc (.bool o) ∧ h' = h) := by
 refine ACv 296 [.tmp 2] Tryz.func89 rfl rfl rfl rfl ?_
 unfold M89 at hm
 refine v ?_
 refine ve fun hk => a_box hk rfl rfl fun k2 hk3 => qk hk3 rfl ?_
 refine vs (vs ?_)
 refine vjnH hm (σ := Bool) (τ := Unit) (fun g s => [(some k2, .obj 30 (c_Catalog p0))]) (fun g s => .c 1 (.ptr k2 0) (.c 42 (.sc (.bool s)) .nil)) (fun x hm => ?_) ?_
 refine v (vl 0 _ ld3 rfl rfl rfl ?_)
 refine vk W97 bd97 hm rfl rfl fun _ hm => ?_
 refine vi hm (fun hb0 hm => ?_) fun hb0 hm => ?_
 rw [hb0]
 exact vgo hm () trivial (lx (.k2 .nil))
 rw [hb0]
 refine vl 0 _ ld25 rfl rfl rfl (vln ln25 rfl ?_)
 refine vi hm (fun hb1 hm => ?_) fun hb1 hm => ?_
 rw [hb1]
 exact vgo hm () trivial (lx (.k2 .nil))
 rw [hb1]
 refine vl 0 _ ld26 rfl rfl rfl (vln ln26 rfl ?_)
 refine vi hm (fun hb2 hm => ?_) fun hb2 hm => ?_
 rw [hb2]
 exact vgo hm () trivial (lx (.k2 .nil))
 rw [hb2]
 refine vl 0 _ ld27 rfl rfl rfl (vln ln27 rfl ?_)
 refine vi hm (fun hb3 hm => ?_) fun hb3 hm => ?_
 rw [hb3]
 exact vgo hm () trivial (lx (.k2 .nil))
 rw [hb3]
 refine vl 0 _ ld28 rfl rfl rfl (vln ln28 rfl ?_)
 refine vk W97 bd97 hm rfl rfl fun _ hm => ?_
 exact vgo hm () trivial (lx (.k2 .nil))
 rintro _ j0 hm
 refine v ?_
 refine vi hm (fun hc0 hm => ?_) fun hc0 hm => ?_
 refine v (v ?_)
 injection hm with hm; subst hm
 exact vr1 rfl
 refine v (v ?_)
 refine vlpH hm (σ := Int) (τ := Unit) (fun g s => [(some k2, .obj 30 (c_Catalog p0))]) (fun g s => .c 1 (.ptr k2 0) (.c 3 (.sc (.int .i64 s)) .nil)) () (lx (.k2 .nil)) ?_ ?_
 rintro _ q0 x hm
 replace hm : M89_L0 fuel p0 q0 = some x := hm
 unfold M89_L0 at hm
 refine v (vl 0 _ ld28 rfl rfl rfl (vln ln28 rfl (v ?_)))
 refine vi hm (fun hc1 hm => ?_) fun hc1 hm => ?_
 refine v (v (v (vl 0 _ ld28 rfl rfl rfl ?_)))
 refine vx hm el28 rfl rfl fun x0 _ hm => ?_
 refine va (.agg (c_Vol x0)) ld49 rfl rfl ?_
 refine ve fun hk => a_alloc ([.sc (.int .i64 0), .sc (.int .i64 0), .sc (.int .i64 0), .sc (.int .i64 0)]) hk zr49 rfl rfl fun k156 hk0 => qk hk0 rfl ?_
 refine ve fun hk => a_store 0 (c_Vol x0) hk rfl rfl rfl rfl sz49 rfl rfl fun hk1 => qk hk1 rfl ?_
 refine vs (vs ?_)
 refine vjnH hm (σ := Bool) (τ := Unit) (fun g s => [(some k156, .obj 49 (c_Vol x0)), (some k2, .obj 30 (c_Catalog p0))]) (fun g s => .c 1 (.ptr k2 0) (.c 3 (.sc (.int .i64 q0)) (.c 4 (.ptr k156 0) (.c 64 (.sc (.bool s)) .nil)))) (fun x hm => ?_) ?_
 refine v (vl 0 _ ld3 rfl rfl rfl ?_)
 refine vk W97 bd97 hm rfl rfl fun _ hm => ?_
 refine vi hm (fun hb4 hm => ?_) fun hb4 hm => ?_
 rw [hb4]
 exact vgo hm () trivial (lx (.k4 .nil))
 rw [hb4]
 refine vl 0 _ ld3 rfl rfl rfl ?_
 refine vk W97 bd97 hm rfl rfl fun _ hm => ?_
 exact vgo hm () trivial (lx (.k4 .nil))
 rintro _ j1 hm
 refine v ?_
 refine vi hm (fun hc2 hm => ?_) fun hc2 hm => ?_
 refine v (v ?_)
 refine vrt hm fun hm => ?_
 injection hm with hm; subst hm
 exact vr1 rfl
 refine v (v (vl 0 _ ld3 rfl rfl rfl (v (v ?_))))
 refine vjnH hm (σ := Bool) (τ := Unit) (fun g s => [(some k156, .obj 49 (c_Vol x0)), (some k2, .obj 30 (c_Catalog p0))]) (fun g s => .c 1 (.ptr k2 0) (.c 3 (.sc (.int .i64 q0)) (.c 4 (.ptr k156 0) (.c 66 (.sc (.int .i64 x0.State)) (.c 67 (.sc (.bool s)) .nil))))) (fun x hm => ?_) ?_
 refine v ?_
 refine vi hm (fun hc3 hm => ?_) fun hc3 hm => ?_
 refine v ?_
 exact vgo hm () trivial (lx (.k5 .nil))
 refine v ?_
 exact vgo hm () trivial (lx (.k5 .nil))
 rintro _ j2 hm
 refine vjnH hm (σ := Unit) (τ := Unit) (fun g s => [(some k156, .obj 49 (c_Vol x0)), (some k2, .obj 30 (c_Catalog p0))]) (fun g s => .c 1 (.ptr k2 0) (.c 3 (.sc (.int .i64 q0)) .nil)) (fun x hm => ?_) ?_
 refine v ?_
 refine vi hm (fun hc4 hm => ?_) fun hc4 hm => ?_
 refine v (vl 0 _ ld3 rfl rfl rfl (v ?_))
 refine vi hm (fun hc5 hm => ?_) fun hc5 hm => ?_
 refine v (v ?_)
 refine vrt hm fun hm => ?_
 refine vrt hm fun hm => ?_
 injection hm with hm; subst hm
 exact vr1 rfl
 refine v ?_
 exact vgo hm () trivial (lx (.k2 .nil))
 refine v (v ?_)
 refine vi hm (fun hc6 hm => ?_) fun hc6 hm => ?_
 refine v (vl 0 _ ld3 rfl rfl rfl ?_)
 refine vk W97 bd97 hm rfl rfl fun _ hm => ?_
 refine v ?_
 refine vi hm (fun hc7 hm => ?_) fun hc7 hm => ?_
 refine v (v ?_)
 refine vrt hm fun hm => ?_
 refine vrt hm fun hm => ?_
 injection hm with hm; subst hm
 exact vr1 rfl
 refine v ?_
 exact vgo hm () trivial (lx (.k2 .nil))
 refine v (v ?_)
 refine vrt hm fun hm => ?_
 refine vrt hm fun hm => ?_
 injection hm with hm; subst hm
 exact vr1 rfl
 rintro _ _ hm
 refine v ?_
 exact vgo hm () trivial (lxs [1] rfl rfl (.k2 .nil))
 refine v ?_
 exact vbk hm () trivial (lx (.k2 .nil))
 rintro _ r0 hm
 refine v ?_
 refine vlpH hm (σ := Int) (τ := Unit) (fun g s => [(some k2, .obj 30 (c_Catalog p0))]) (fun g s => .c 1 (.ptr k2 0) (.c 5 (.sc (.int .i64 s)) .nil)) () (lx (.k2 .nil)) ?_ ?_
 rintro _ q1 x hm
 replace hm : M89_L3 fuel p0 q1 = some x := hm
 unfold M89_L3 at hm
 refine v (vl 0 _ ld26 rfl rfl rfl (vln ln26 rfl (v ?_)))
 refine vi hm (fun hc8 hm => ?_) fun hc8 hm => ?_
 refine v (v (v (vl 0 _ ld26 rfl rfl rfl ?_)))
 refine vx hm el26 rfl rfl fun x1 _ hm => ?_
 refine va (.agg (c_Chunk x1)) ld44 rfl rfl ?_
 refine ve fun hk => a_alloc (c_id idZ ++ ([.sc (.bool false), .sc (.slice none 0 0), .sc (.slice none 0 0)] : List AV)) hk zr44 rfl rfl fun k364 hk2 => qk hk2 rfl ?_
 refine ve fun hk => a_store 0 (c_Chunk x1) hk rfl rfl rfl rfl sz44 rfl rfl fun hk4 => qk hk4 rfl ?_
 refine vs ?_
 refine vjnH hm (σ := Bool) (τ := Unit) (fun g s => [(some k364, .obj 44 (c_Chunk x1)), (some k2, .obj 30 (c_Catalog p0))]) (fun g s => .c 1 (.ptr k2 0) (.c 5 (.sc (.int .i64 q1)) (.c 140 (.sc (.bool s)) .nil))) (fun x hm => ?_) ?_
 refine v (vq (by kernel_rfl) ?_)
 refine vi hm (fun hb5 hm => ?_) fun hb5 hm => ?_
 rw [hb5]
 refine vl 1 _ ld26 rfl rfl rfl ?_
 refine vx hm el26 rfl rfl fun x2 _ hm => ?_
 refine va (.agg (c_id x2.Id)) ld36 rfl rfl (vl 0 (.agg (c_id x1.Id)) ld36 rfl rfl rfl ?_)
 refine vk W147 bd147 hm rfl rfl fun _ hm => ?_
 refine vi hm (fun hb6 hm => ?_) fun hb6 hm => ?_
 rw [hb6]
 exact vgo hm () trivial (lx (.k3 .nil))
 rw [hb6]
 refine vl 1 (.agg (c_Catalog p0)) ld30 rfl rfl rfl (vl 0 _ ld42 rfl rfl rfl ?_)
 refine vk W148 bd148 hm rfl rfl fun _ hm => ?_
 refine vi hm (fun hb7 hm => ?_) fun hb7 hm => ?_
 rw [hb7]
 exact vgo hm () trivial (lx (.k3 .nil))
 rw [hb7]
 refine vl 0 _ ld4 rfl rfl rfl ?_
 refine vi hm (fun hb8 hm => ?_) fun hb8 hm => ?_
 rw [hb8]
 refine vl 0 _ ld41 rfl rfl rfl (vln ln41 rfl ?_)
 refine vk W97 bd97 hm rfl rfl fun _ hm => ?_
 refine vi hm (fun hb9 hm => ?_) fun hb9 hm => ?_
 rw [hb9]
 exact vgo hm () trivial (lx (.k3 .nil))
 rw [hb9]
 refine vl 0 _ ld4 rfl rfl rfl ?_
 refine vi hm (fun hb10 hm => ?_) fun hb10 hm => ?_
 rw [hb10]
 refine vl 0 _ ld41 rfl rfl rfl (vln ln41 rfl ?_)
 refine vi hm (fun hb11 hm => ?_) fun hb11 hm => ?_
 rw [hb11]
 exact vgo hm () trivial (lx (.k3 .nil))
 rw [hb11]
 refine vl 0 _ ld42 rfl rfl rfl (vln ln42 rfl ?_)
 exact vgo hm () trivial (lx (.k3 .nil))
 rw [hb10]
 exact vgo hm () trivial (lx (.k3 .nil))
 rw [hb8]
 refine vl 0 _ ld4 rfl rfl rfl ?_
 refine vi hm (fun hb12 hm => ?_) fun hb12 hm => ?_
 rw [hb12]
 refine vl 0 _ ld41 rfl rfl rfl (vln ln41 rfl ?_)
 refine vi hm (fun hb13 hm => ?_) fun hb13 hm => ?_
 rw [hb13]
 exact vgo hm () trivial (lx (.k3 .nil))
 rw [hb13]
 refine vl 0 _ ld42 rfl rfl rfl (vln ln42 rfl ?_)
 exact vgo hm () trivial (lx (.k3 .nil))
 rw [hb12]
 exact vgo hm () trivial (lx (.k3 .nil))
 rw [hb5]
 refine vl 1 (.agg (c_Catalog p0)) ld30 rfl rfl rfl (vl 0 _ ld42 rfl rfl rfl ?_)
 refine vk W148 bd148 hm rfl rfl fun _ hm => ?_
 refine vi hm (fun hb14 hm => ?_) fun hb14 hm => ?_
 rw [hb14]
 exact vgo hm () trivial (lx (.k3 .nil))
 rw [hb14]
 refine vl 0 _ ld4 rfl rfl rfl ?_
 refine vi hm (fun hb15 hm => ?_) fun hb15 hm => ?_
 rw [hb15]
 refine vl 0 _ ld41 rfl rfl rfl (vln ln41 rfl ?_)
 refine vk W97 bd97 hm rfl rfl fun _ hm => ?_
 refine vi hm (fun hb16 hm => ?_) fun hb16 hm => ?_
 rw [hb16]
 exact vgo hm () trivial (lx (.k3 .nil))
 rw [hb16]
 refine vl 0 _ ld4 rfl rfl rfl ?_
 refine vi hm (fun hb17 hm => ?_) fun hb17 hm => ?_
 rw [hb17]
 refine vl 0 _ ld41 rfl rfl rfl (vln ln41 rfl ?_)
 refine vi hm (fun hb22 hm => ?_) fun hb22 hm => ?_
 rw [hb22]
 exact vgo hm () trivial (lx (.k3 .nil))
 rw [hb22]
 refine vl 0 _ ld42 rfl rfl rfl (vln ln42 rfl ?_)
 exact vgo hm () trivial (lx (.k3 .nil))
 rw [hb17]
 exact vgo hm () trivial (lx (.k3 .nil))
 rw [hb15]
 refine vl 0 _ ld4 rfl rfl rfl ?_
 refine vi hm (fun hb23 hm => ?_) fun hb23 hm => ?_
 rw [hb23]
 refine vl 0 _ ld41 rfl rfl rfl (vln ln41 rfl ?_)
 refine vi hm (fun hb24 hm => ?_) fun hb24 hm => ?_
 rw [hb24]
 exact vgo hm () trivial (lx (.k3 .nil))
 rw [hb24]
 refine vl 0 _ ld42 rfl rfl rfl (vln ln42 rfl ?_)
 exact vgo hm () trivial (lx (.k3 .nil))
 rw [hb23]
 exact vgo hm () trivial (lx (.k3 .nil))
 rintro _ j3 hm
 refine v ?_
 refine vi hm (fun hc9 hm => ?_) fun hc9 hm => ?_
 refine v (v ?_)
 refine vrt hm fun hm => ?_
 injection hm with hm; subst hm
 exact vr1 rfl
 refine v (v ?_)
 exact vgo hm () trivial (lxs [1] rfl rfl (.k2 .nil))
 refine v ?_
 exact vbk hm () trivial (lx (.k2 .nil))
 rintro _ r1 hm
 refine v ?_
 refine vlpH hm (σ := Int) (τ := Unit) (fun g s => [(some k2, .obj 30 (c_Catalog p0))]) (fun g s => .c 1 (.ptr k2 0) (.c 7 (.sc (.int .i64 s)) .nil)) () (lx (.k2 .nil)) ?_ ?_
 rintro _ q2 x hm
 replace hm : M89_L5 fuel p0 q2 = some x := hm
 unfold M89_L5 at hm
 refine v (vl 0 _ ld25 rfl rfl rfl (vln ln25 rfl (v ?_)))
 refine vi hm (fun hc10 hm => ?_) fun hc10 hm => ?_
 refine v (v (v (vl 0 _ ld25 rfl rfl rfl ?_)))
 refine vx hm el25 rfl rfl fun x3 _ hm => ?_
 refine va (.agg (c_Snap x3)) ld60 rfl rfl ?_
 refine ve fun hk => a_alloc ([.sc (.int .i64 0), .sc (.string ByteArray.empty), .sc (.slice none 0 0), .sc (.slice none 0 0)]) hk zr60 rfl rfl fun k707 hk5 => qk hk5 rfl ?_
 refine ve fun hk => a_store 0 (c_Snap x3) hk rfl rfl rfl rfl sz60 rfl rfl fun hk6 => qk hk6 rfl ?_
 refine vs (vs ?_)
 refine vjnH hm (σ := Bool) (τ := Unit) (fun g s => [(some k707, .obj 60 (c_Snap x3)), (some k2, .obj 30 (c_Catalog p0))]) (fun g s => .c 1 (.ptr k2 0) (.c 7 (.sc (.int .i64 q2)) (.c 8 (.ptr k707 0) (.c 200 (.sc (.bool s)) .nil)))) (fun x hm => ?_) ?_
 refine v (vq (by kernel_rfl) (vl 0 _ ld3 rfl rfl rfl ?_))
 refine vi hm (fun hb25 hm => ?_) fun hb25 hm => ?_
 rw [hb25]
 exact vgo hm () trivial (lx (.k4 .nil))
 rw [hb25]
 refine vl 0 _ ld3 rfl rfl rfl (vl 1 _ ld3 rfl rfl rfl ?_)
 refine vi hm (fun hb26 hm => ?_) fun hb26 hm => ?_
 rw [hb26]
 exact vgo hm () trivial (lx (.k4 .nil))
 rw [hb26]
 refine vi hm (fun hb27 hm => ?_) fun hb27 hm => ?_
 rw [hb27]
 refine vl 0 _ ld3 rfl rfl rfl (vl 1 _ ld25 rfl rfl rfl ?_)
 refine vx hm el25 rfl rfl fun _ _ hm => ?_
 refine vi hm (fun hb28 hm => ?_) fun hb28 hm => ?_
 rw [hb28]
 exact vgo hm () trivial (lx (.k4 .nil))
 rw [hb28]
 refine vl 0 (.agg (c_Manifest x3.Man)) ld58 rfl rfl rfl ?_
 refine vk W98 bd98 hm rfl rfl fun _ hm => ?_
 refine vi hm (fun hb29 hm => ?_) fun hb29 hm => ?_
 rw [hb29]
 exact vgo hm () trivial (lx (.k4 .nil))
 rw [hb29]
 refine vl 1 (.agg (c_Catalog p0)) ld30 rfl rfl rfl (vl 0 _ ld42 rfl rfl rfl ?_)
 refine vk W148 bd148 hm rfl rfl fun _ hm => ?_
 refine vi hm (fun hb30 hm => ?_) fun hb30 hm => ?_
 rw [hb30]
 exact vgo hm () trivial (lx (.k4 .nil))
 rw [hb30]
 refine vl 1 (.agg (c_Catalog p0)) ld30 rfl rfl rfl (vl 0 _ ld9 rfl rfl rfl ?_)
 refine vk W149 bd149 hm rfl rfl fun _ hm => ?_
 exact vgo hm () trivial (lx (.k4 .nil))
 rw [hb27]
 refine vl 0 (.agg (c_Manifest x3.Man)) ld58 rfl rfl rfl ?_
 refine vk W98 bd98 hm rfl rfl fun _ hm => ?_
 refine vi hm (fun hb31 hm => ?_) fun hb31 hm => ?_
 rw [hb31]
 exact vgo hm () trivial (lx (.k4 .nil))
 rw [hb31]
 refine vl 1 (.agg (c_Catalog p0)) ld30 rfl rfl rfl (vl 0 _ ld42 rfl rfl rfl ?_)
 refine vk W148 bd148 hm rfl rfl fun _ hm => ?_
 refine vi hm (fun hb32 hm => ?_) fun hb32 hm => ?_
 rw [hb32]
 exact vgo hm () trivial (lx (.k4 .nil))
 rw [hb32]
 refine vl 1 (.agg (c_Catalog p0)) ld30 rfl rfl rfl (vl 0 _ ld9 rfl rfl rfl ?_)
 refine vk W149 bd149 hm rfl rfl fun _ hm => ?_
 exact vgo hm () trivial (lx (.k4 .nil))
 rintro _ j4 hm
 refine v ?_
 refine vi hm (fun hc11 hm => ?_) fun hc11 hm => ?_
 refine v (v ?_)
 refine vrt hm fun hm => ?_
 injection hm with hm; subst hm
 exact vr1 rfl
 refine v (v (vl 0 (.agg (c_Manifest x3.Man)) ld58 rfl rfl rfl ?_))
 refine vk W49 bd49 hm rfl rfl fun y0 hm => ?_
 refine v ?_
 refine vlpH hm (σ := Int) (τ := Unit) (fun g s => [(some k707, .obj 60 (c_Snap x3)), (some k2, .obj 30 (c_Catalog p0))]) (fun g s => .c 1 (.ptr k2 0) (.c 7 (.sc (.int .i64 q2)) (.c 8 (.ptr k707 0) (.c 9 (.sl none 32 (List.map c_id y0)) (.c 10 (.sc (.int .i64 s)) .nil))))) () (lx (.k5 .nil)) ?_ ?_
 rintro _ q3 x hm
 replace hm : M89_L7 fuel p0 y0 q3 = some x := hm
 unfold M89_L7 at hm
 refine v (vln ln68 rfl (v ?_))
 refine vi hm (fun hc12 hm => ?_) fun hc12 hm => ?_
 refine v (v (v (vq (by kernel_rfl) (vl 1 (.agg (c_Catalog p0)) ld30 rfl rfl rfl ?_))))
 refine vx hm el68 rfl rfl fun x4 _ hm => ?_
 refine va (.agg (c_id x4)) ld36 rfl rfl ?_
 refine vk W88 bd88 hm rfl rfl fun _ hm => ?_
 refine v ?_
 refine vi hm (fun hc13 hm => ?_) fun hc13 hm => ?_
 refine v (v ?_)
 refine vrt hm fun hm => ?_
 refine vrt hm fun hm => ?_
 injection hm with hm; subst hm
 exact vr1 rfl
 refine v (v ?_)
 exact vgo hm () trivial (lx (.k5 .nil))
 refine v ?_
 exact vbk hm () trivial (lx (.k5 .nil))
 rintro _ r2 hm
 refine v ?_
 refine vlpH hm (σ := Int) (τ := Unit) (fun g s => [(some k707, .obj 60 (c_Snap x3)), (some k2, .obj 30 (c_Catalog p0))]) (fun g s => .c 1 (.ptr k2 0) (.c 7 (.sc (.int .i64 q2)) (.c 8 (.ptr k707 0) (.c 11 (.sc (.int .i64 s)) .nil)))) () (lx (.k4 .nil)) ?_ ?_
 rintro _ q4 x hm
 replace hm : M89_L9 fuel p0 x3 q4 = some x := hm
 unfold M89_L9 at hm
 refine v (vl 1 _ ld27 rfl rfl rfl (vln ln27 rfl (v ?_)))
 refine vi hm (fun hc14 hm => ?_) fun hc14 hm => ?_
 refine v (v (v (vq (by kernel_rfl) (vl 1 _ ld27 rfl rfl rfl ?_))))
 refine vx hm el27 rfl rfl fun _ _ hm => ?_
 refine vl 0 _ ld3 rfl rfl rfl (v ?_)
 refine vi hm (fun hc15 hm => ?_) fun hc15 hm => ?_
 refine v (v ?_)
 refine vrt hm fun hm => ?_
 refine vrt hm fun hm => ?_
 injection hm with hm; subst hm
 exact vr1 rfl
 refine v (v ?_)
 exact vgo hm () trivial (lx (.k4 .nil))
 refine v ?_
 exact vbk hm () trivial (lx (.k4 .nil))
 rintro _ r3 hm
 refine v ?_
 exact vgo hm () trivial (lxs [1] rfl rfl (.k2 .nil))
 refine v ?_
 exact vbk hm () trivial (lx (.k2 .nil))
 rintro _ r4 hm
 refine v ?_
 refine vlpH hm (σ := Int) (τ := Unit) (fun g s => [(some k2, .obj 30 (c_Catalog p0))]) (fun g s => .c 1 (.ptr k2 0) (.c 12 (.sc (.int .i64 s)) .nil)) () (lx (.k2 .nil)) ?_ ?_
 rintro _ q5 x hm
 replace hm : M89_L11 fuel p0 q5 = some x := hm
 unfold M89_L11 at hm
 refine v (vl 0 _ ld27 rfl rfl rfl (vln ln27 rfl (v ?_)))
 refine vi hm (fun hc16 hm => ?_) fun hc16 hm => ?_
 refine v (v (v (vl 0 _ ld27 rfl rfl rfl ?_)))
 refine vx hm el27 rfl rfl fun x5 _ hm => ?_
 refine va (.agg (c_Exp x5)) ld99 rfl rfl ?_
 refine ve fun hk => a_alloc ([.sc (.int .i64 0), .sc (.int .i64 0), .sc (.slice none 0 0)]) hk zr99 rfl rfl fun k941 hk7 => qk hk7 rfl ?_
 refine ve fun hk => a_store 0 (c_Exp x5) hk rfl rfl rfl rfl sz99 rfl rfl fun hk8 => qk hk8 rfl ?_
 refine vs ?_
 refine vjnH hm (σ := Bool) (τ := Unit) (fun g s => [(some k941, .obj 99 (c_Exp x5)), (some k2, .obj 30 (c_Catalog p0))]) (fun g s => .c 1 (.ptr k2 0) (.c 12 (.sc (.int .i64 q5)) (.c 295 (.sc (.bool s)) .nil))) (fun x hm => ?_) ?_
 refine v (vq (by kernel_rfl) (vl 0 _ ld3 rfl rfl rfl ?_))
 refine vi hm (fun hb33 hm => ?_) fun hb33 hm => ?_
 rw [hb33]
 exact vgo hm () trivial (lx (.k3 .nil))
 rw [hb33]
 refine vl 0 _ ld3 rfl rfl rfl (vl 1 _ ld3 rfl rfl rfl ?_)
 refine vi hm (fun hb34 hm => ?_) fun hb34 hm => ?_
 rw [hb34]
 exact vgo hm () trivial (lx (.k3 .nil))
 rw [hb34]
 refine vi hm (fun hb35 hm => ?_) fun hb35 hm => ?_
 rw [hb35]
 refine vl 0 _ ld3 rfl rfl rfl (vl 1 _ ld27 rfl rfl rfl ?_)
 refine vx hm el27 rfl rfl fun _ _ hm => ?_
 refine vi hm (fun hb36 hm => ?_) fun hb36 hm => ?_
 rw [hb36]
 exact vgo hm () trivial (lx (.k3 .nil))
 rw [hb36]
 refine vl 0 _ ld3 rfl rfl rfl ?_
 refine vi hm (fun hb37 hm => ?_) fun hb37 hm => ?_
 rw [hb37]
 exact vgo hm () trivial (lx (.k3 .nil))
 rw [hb37]
 refine vl 0 _ ld3 rfl rfl rfl (vl 0 _ ld3 rfl rfl rfl ?_)
 refine vi hm (fun hb38 hm => ?_) fun hb38 hm => ?_
 rw [hb38]
 exact vgo hm () trivial (lx (.k3 .nil))
 rw [hb38]
 refine vl 1 (.agg (c_Catalog p0)) ld30 rfl rfl rfl (vl 0 _ ld42 rfl rfl rfl ?_)
 refine vk W148 bd148 hm rfl rfl fun _ hm => ?_
 refine vi hm (fun hb39 hm => ?_) fun hb39 hm => ?_
 rw [hb39]
 exact vgo hm () trivial (lx (.k3 .nil))
 rw [hb39]
 refine vl 0 _ ld42 rfl rfl rfl (vln ln42 rfl ?_)
 exact vgo hm () trivial (lx (.k3 .nil))
 rw [hb35]
 refine vl 0 _ ld3 rfl rfl rfl ?_
 refine vi hm (fun hb40 hm => ?_) fun hb40 hm => ?_
 rw [hb40]
 exact vgo hm () trivial (lx (.k3 .nil))
 rw [hb40]
 refine vl 0 _ ld3 rfl rfl rfl (vl 0 _ ld3 rfl rfl rfl ?_)
 refine vi hm (fun hb41 hm => ?_) fun hb41 hm => ?_
 rw [hb41]
 exact vgo hm () trivial (lx (.k3 .nil))
 rw [hb41]
 refine vl 1 (.agg (c_Catalog p0)) ld30 rfl rfl rfl (vl 0 _ ld42 rfl rfl rfl ?_)
 refine vk W148 bd148 hm rfl rfl fun _ hm => ?_
 refine vi hm (fun hb42 hm => ?_) fun hb42 hm => ?_
 rw [hb42]
 exact vgo hm () trivial (lx (.k3 .nil))
 rw [hb42]
 refine vl 0 _ ld42 rfl rfl rfl (vln ln42 rfl ?_)
 exact vgo hm () trivial (lx (.k3 .nil))
 rintro _ j5 hm
 refine v ?_
 refine vi hm (fun hc17 hm => ?_) fun hc17 hm => ?_
 refine v (v ?_)
 refine vrt hm fun hm => ?_
 injection hm with hm; subst hm
 exact vr1 rfl
 refine v (v ?_)
 exact vgo hm () trivial (lxs [1] rfl rfl (.k2 .nil))
 refine v ?_
 exact vbk hm () trivial (lx (.k2 .nil))
 rintro _ r5 hm
 refine v (v ?_)
 injection hm with hm; subst hm
 exact vr1 rfl
theorem bd89 : bodied Tryz.prog 89 = true := by kernel_rfl
end Go.Proofs.YtoomgangpjcaoaaGreat
