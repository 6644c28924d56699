/-
  Bytes held against each other by the runtime's Compare.
-/
import Derived.Test.YtafflcbcpbgloaaQ7VmX
namespace Go.Vm

def bA (xs : List Int) : ByteArray := xs.foldl (fun acc z => acc.push z.toNat.toUInt8) .empty
theorem run_loadBytes {P : Program} {w : World} {g : Nat} : ∀ (xs : List Int) (o : Nat) (acc : ByteArray), (∀ (j : Nat) (z : Int), xs[j]? = some z → w.cell? ⟨g, o + j, none⟩ = some (.int .u8 z)) →
    (Extern.Bytes.loadBytes ⟨g, o, none⟩ xs.length acc).run P w = .ok (xs.foldl (fun acc z => acc.push z.toNat.toUInt8) acc) w
  | [], _, _, _ => rfl
  | z :: xs, o, acc, hc => by
    have h0 := hc 0 z rfl
    simp only [Nat.add_zero] at h0
    have ih := run_loadBytes (P := P) xs (o + 1) (acc.push z.toNat.toUInt8) (fun j y hj => by
      have := hc (j + 1) y (by simpa using hj)
      rwa [show o + (j + 1) = o + 1 + j from by omega] at this)
    have hl : (load ⟨g, o, none⟩).run P w = .ok (.int .u8 z) w := by simp [load, Sem.run, h0]
    simp only [List.length_cons, Extern.Bytes.loadBytes, Sem.run_bind, hl, Result.andThen_ok, List.foldl_cons]
    rw [Addr.add_lit]
    exact ih

def Byt (P : Program) (h : Heap) (a : AV) (xs : List Int) : Prop := ∀ E w v, Rel E h w → VR E w a v → (Extern.Bytes.bytesOf v).run P w = .ok (bA xs) w

theorem flat1 (xs : List Int) : (xs.map fun z => [AV.sc (.int .u8 z)]).flatten = xs.map fun z => AV.sc (.int .u8 z) := by
  induction xs with
  | nil => rfl
  | cons x xs ih => simp [ih]

theorem Byt.sl {P : Program} (h : Heap) (tag : Option Key) (xs : List Int) : Byt P h (.sl tag 1 (xs.map fun z => [AV.sc (.int .u8 z)])) xs := by
  intro E w v r hv
  cases xs with
  | nil =>
    simp only [VR, List.map_nil] at hv
    obtain ⟨a, cap, rfl, _⟩ := hv
    cases a with
    | none => rfl
    | some a => rfl
  | cons x xs =>
    obtain ⟨g, o, cap, cv, rfl, c1, c2, c3, c4⟩ := sl_cells hv (by simp)
    rw [flat1] at c1
    have hcv := VRL_ints c1
    subst hcv
    have := run_loadBytes (P := P) (w := w) (g := g) (x :: xs) o .empty (fun j z hj => (c4 j (.int .u8 z) (by rw [List.getElem?_map, hj]; rfl)).1)
    simpa [Extern.Bytes.bytesOf, bA] using this
theorem Byt.view {P : Program} {h : Heap} {q : Key} {off : Nat} {ty : TypeId} {cs : List AV} {y : Id32} (hq : h q = some (.obj ty cs)) (hc : (cs.drop off).take 32 = c_id y) : Byt P h (.view q off 32) y.1 := by
  intro E w v r hv
  simp only [VR] at hv
  obtain ⟨g, cap, hg, rfl, _⟩ := hv
  obtain ⟨g', cur, e1, e2, e3, e4⟩ := r.obj q ty cs hq
  rw [hg] at e1; cases e1
  have hl := VRL_take 32 (VRL_drop off e3)
  rw [hc, c_id_map] at hl
  have hcv := VRL_ints hl
  have := run_loadBytes (P := P) (w := w) (g := g) y.1 off .empty (fun j z hj => by
    have h1 : ((cur.toList.drop off).take 32)[j]? = some (.int .u8 z) := by rw [hcv, List.getElem?_map, hj]; rfl
    have hj32 : j < 32 := by
      have := (List.getElem?_eq_some_iff.1 h1).1
      rw [List.length_take] at this; omega
    rw [List.getElem?_take_of_lt hj32, List.getElem?_drop] at h1
    simp only [World.cell?, e2]
    simpa using h1)
  rw [y.2] at this
  simpa [Extern.Bytes.bytesOf, bA] using this

section ops
variable {P : Program} {h : Heap} {n : Nat} {kvs : KV} {ty : TypeId} {pos : String} {aft : Array Edge}

end ops
theorem Seq_exit {Q : Exit → Fr → Heap → Prop} {h : Heap} {K : Fr → Heap → Prop} {i : Nat} {fr : Fr} (hq : Q (.exit i) fr h) : Seq K Q (.exit i) fr h := hq

end Go.Vm
