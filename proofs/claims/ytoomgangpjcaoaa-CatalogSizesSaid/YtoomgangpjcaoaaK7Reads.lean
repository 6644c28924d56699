import Derived.Test.YtoomgangpjcaoaaK7VmZ
import Derived.Test.YtoomgangpjcaoaaK7Types
set_option linter.unusedSimpArgs false
namespace Go.Proofs.Ytoomgangpjcaoaa
open Go.Vm Go.ChangeShapes Go.WideShapes
section
variable {H : Type} {enc : TypeId × Value → H} {W : World}
theorem ce27 : Try.prog.cellsOf 27 = 5 := by kernel_rfl
theorem ce3 : Try.prog.cellsOf 3 = 1 := by kernel_rfl
theorem rd3 : Rd enc Try.prog W 3 c_i64 gI := Rd_i64 u3
theorem ce22 : Try.prog.cellsOf 22 = 1 := by kernel_rfl
theorem ce60 : Try.prog.cellsOf 60 = 4 := by kernel_rfl
theorem ce57 : Try.prog.cellsOf 57 = 2 := by kernel_rfl
theorem ce9 : Try.prog.cellsOf 9 = 1 := by kernel_rfl
theorem rd9 : Rd enc Try.prog W 9 c_str gT := Rd_str u9
theorem ce55 : Try.prog.cellsOf 55 = 1 := by kernel_rfl
theorem ce82 : Try.prog.cellsOf 82 = 3 := by kernel_rfl
theorem ce80 : Try.prog.cellsOf 80 = 1 := by kernel_rfl
theorem ce61 : Try.prog.cellsOf 61 = 32 := by kernel_rfl
theorem ce5 : Try.prog.cellsOf 5 = 1 := by kernel_rfl
theorem rd61 : Rd enc Try.prog W 61 c_id (fun x : Id32 => gL gB x.1) := Rd.id u61 u5 ce5 ce61
theorem rd80 : Rd enc Try.prog W 80 c_s_id (gL (fun x : Id32 => gL gB x.1)) := Rd.slice rd61 u80 ce61 (fun x => by rw [c_id_map, List.length_map, x.2]) (by decide)
def g_Part (x : TPart) : Prop := gT x.Path ∧ gI x.Size ∧ (gL (fun x : Id32 => gL gB x.1)) x.Ids
theorem sn82 : strN Try.prog 82 = some 3 := by kernel_rfl
theorem rd82 : Rd enc Try.prog W 82 c_Part g_Part := by
  intro fuel cs x h
  obtain ⟨hl, hf⟩ := Rd.flds sn82 ce82 h
  obtain ⟨a0, g0, v0, w0⟩ := hf 0 0 1 tf82_0 ce9 rd9
  obtain ⟨a1, g1, v1, w1⟩ := hf 1 1 1 tf82_1 ce3 rd3
  obtain ⟨a2, g2, v2, w2⟩ := hf 2 2 1 tf82_2 ce80 rd80
  obtain ⟨v, w⟩ := (Win.cons v0 w0 (Win.cons v1 w1 (Win.cons v2 w2 (Win.nil hl) rfl) rfl) rfl)
  exact ⟨⟨a0, a1, a2⟩, ⟨g0, g1, g2⟩, by simpa [c_Part, c_str, c_i64, c_s_id] using v, by simpa using w⟩
theorem rd55 : Rd enc Try.prog W 55 c_s_Part (gL g_Part) := Rd.slice rd82 u55 ce82 (fun x => by simp [c_Part, c_id]) (by decide)
def g_Manifest (x : TManifest) : Prop := gT x.Name ∧ (gL g_Part) x.Parts
theorem sn57 : strN Try.prog 57 = some 2 := by kernel_rfl
theorem rd57 : Rd enc Try.prog W 57 c_Manifest g_Manifest := by
  intro fuel cs x h
  obtain ⟨hl, hf⟩ := Rd.flds sn57 ce57 h
  obtain ⟨a0, g0, v0, w0⟩ := hf 0 0 1 tf57_0 ce9 rd9
  obtain ⟨a1, g1, v1, w1⟩ := hf 1 1 1 tf57_1 ce55 rd55
  obtain ⟨v, w⟩ := (Win.cons v0 w0 (Win.cons v1 w1 (Win.nil hl) rfl) rfl)
  exact ⟨⟨a0, a1⟩, ⟨g0, g1⟩, by simpa [c_Manifest, c_str, c_s_Part] using v, by simpa using w⟩
theorem ce58 : Try.prog.cellsOf 58 = 1 := by kernel_rfl
theorem ce77 : Try.prog.cellsOf 77 = 4 := by kernel_rfl
def g_Loc (x : TLoc) : Prop := gI x.Vol ∧ gI x.File ∧ gI x.Off ∧ gI x.Len
theorem sn77 : strN Try.prog 77 = some 4 := by kernel_rfl
theorem rd77 : Rd enc Try.prog W 77 c_Loc g_Loc := by
  intro fuel cs x h
  obtain ⟨hl, hf⟩ := Rd.flds sn77 ce77 h
  obtain ⟨a0, g0, v0, w0⟩ := hf 0 0 1 tf77_0 ce3 rd3
  obtain ⟨a1, g1, v1, w1⟩ := hf 1 1 1 tf77_1 ce3 rd3
  obtain ⟨a2, g2, v2, w2⟩ := hf 2 2 1 tf77_2 ce3 rd3
  obtain ⟨a3, g3, v3, w3⟩ := hf 3 3 1 tf77_3 ce3 rd3
  obtain ⟨v, w⟩ := (Win.cons v0 w0 (Win.cons v1 w1 (Win.cons v2 w2 (Win.cons v3 w3 (Win.nil hl) rfl) rfl) rfl) rfl)
  exact ⟨⟨a0, a1, a2, a3⟩, ⟨g0, g1, g2, g3⟩, by simpa [c_Loc, c_i64, c_i64, c_i64, c_i64] using v, by simpa using w⟩
theorem rd58 : Rd enc Try.prog W 58 c_s_Loc (gL g_Loc) := Rd.slice rd77 u58 ce77 (fun x => by simp [c_Loc, c_id]) (by decide)
def g_Snap (x : TSnap) : Prop := gI x.Seq ∧ g_Manifest x.Man ∧ (gL g_Loc) x.Locs
theorem sn60 : strN Try.prog 60 = some 3 := by kernel_rfl
theorem rd60 : Rd enc Try.prog W 60 c_Snap g_Snap := by
  intro fuel cs x h
  obtain ⟨hl, hf⟩ := Rd.flds sn60 ce60 h
  obtain ⟨a0, g0, v0, w0⟩ := hf 0 0 1 tf60_0 ce3 rd3
  obtain ⟨a1, g1, v1, w1⟩ := hf 1 1 2 tf60_1 ce57 rd57
  obtain ⟨a2, g2, v2, w2⟩ := hf 2 3 1 tf60_2 ce58 rd58
  obtain ⟨v, w⟩ := (Win.cons v0 w0 (Win.cons v1 w1 (Win.cons v2 w2 (Win.nil hl) rfl) rfl) rfl)
  exact ⟨⟨a0, a1, a2⟩, ⟨g0, g1, g2⟩, by simpa [c_Snap, c_i64, c_Manifest, c_s_Loc] using v, by simpa using w⟩
theorem rd22 : Rd enc Try.prog W 22 c_s_Snap (gL g_Snap) := Rd.slice rd60 u22 ce60 (fun x => by simp [c_Snap, c_id]) (by decide)
theorem ce23 : Try.prog.cellsOf 23 = 1 := by kernel_rfl
theorem ce63 : Try.prog.cellsOf 63 = 35 := by kernel_rfl
theorem ce4 : Try.prog.cellsOf 4 = 1 := by kernel_rfl
theorem rd4 : Rd enc Try.prog W 4 c_bool gT := Rd_bool u4
theorem ce52 : Try.prog.cellsOf 52 = 1 := by kernel_rfl
theorem rd5 : Rd enc Try.prog W 5 c_u8 gB := Rd_u8 u5
theorem rd52 : Rd enc Try.prog W 52 c_s_u8 (gL gB) := Rd.slice rd5 u52 ce5 (fun _ => rfl) (by decide)
def g_Chunk (x : TChunk) : Prop := (fun x : Id32 => gL gB x.1) x.Id ∧ gT x.Staged ∧ (gL gB) x.Data ∧ (gL g_Loc) x.Locs
theorem sn63 : strN Try.prog 63 = some 4 := by kernel_rfl
theorem rd63 : Rd enc Try.prog W 63 c_Chunk g_Chunk := by
  intro fuel cs x h
  obtain ⟨hl, hf⟩ := Rd.flds sn63 ce63 h
  obtain ⟨a0, g0, v0, w0⟩ := hf 0 0 32 tf63_0 ce61 rd61
  obtain ⟨a1, g1, v1, w1⟩ := hf 1 32 1 tf63_1 ce4 rd4
  obtain ⟨a2, g2, v2, w2⟩ := hf 2 33 1 tf63_2 ce52 rd52
  obtain ⟨a3, g3, v3, w3⟩ := hf 3 34 1 tf63_3 ce58 rd58
  obtain ⟨v, w⟩ := (Win.cons v0 w0 (Win.cons v1 w1 (Win.cons v2 w2 (Win.cons v3 w3 (Win.nil hl) rfl) rfl) rfl) rfl)
  exact ⟨⟨a0, a1, a2, a3⟩, ⟨g0, g1, g2, g3⟩, by simpa [c_Chunk, c_bool, c_s_u8, c_s_Loc] using v, by simpa using w⟩
theorem rd23 : Rd enc Try.prog W 23 c_s_Chunk (gL g_Chunk) := Rd.slice rd63 u23 ce63 (fun x => by simp [c_Chunk, c_id]) (by decide)
theorem ce24 : Try.prog.cellsOf 24 = 1 := by kernel_rfl
theorem ce65 : Try.prog.cellsOf 65 = 3 := by kernel_rfl
def g_Exp (x : TExp) : Prop := gI x.Seq ∧ gI x.Of ∧ (gL g_Loc) x.Locs
theorem sn65 : strN Try.prog 65 = some 3 := by kernel_rfl
theorem rd65 : Rd enc Try.prog W 65 c_Exp g_Exp := by
  intro fuel cs x h
  obtain ⟨hl, hf⟩ := Rd.flds sn65 ce65 h
  obtain ⟨a0, g0, v0, w0⟩ := hf 0 0 1 tf65_0 ce3 rd3
  obtain ⟨a1, g1, v1, w1⟩ := hf 1 1 1 tf65_1 ce3 rd3
  obtain ⟨a2, g2, v2, w2⟩ := hf 2 2 1 tf65_2 ce58 rd58
  obtain ⟨v, w⟩ := (Win.cons v0 w0 (Win.cons v1 w1 (Win.cons v2 w2 (Win.nil hl) rfl) rfl) rfl)
  exact ⟨⟨a0, a1, a2⟩, ⟨g0, g1, g2⟩, by simpa [c_Exp, c_i64, c_i64, c_s_Loc] using v, by simpa using w⟩
theorem rd24 : Rd enc Try.prog W 24 c_s_Exp (gL g_Exp) := Rd.slice rd65 u24 ce65 (fun x => by simp [c_Exp, c_id]) (by decide)
theorem ce25 : Try.prog.cellsOf 25 = 1 := by kernel_rfl
theorem ce40 : Try.prog.cellsOf 40 = 4 := by kernel_rfl
def g_Vol (x : TVol) : Prop := gI x.Pool ∧ gI x.Epoch ∧ gI x.State ∧ gI x.Files
theorem sn40 : strN Try.prog 40 = some 4 := by kernel_rfl
theorem rd40 : Rd enc Try.prog W 40 c_Vol g_Vol := by
  intro fuel cs x h
  obtain ⟨hl, hf⟩ := Rd.flds sn40 ce40 h
  obtain ⟨a0, g0, v0, w0⟩ := hf 0 0 1 tf40_0 ce3 rd3
  obtain ⟨a1, g1, v1, w1⟩ := hf 1 1 1 tf40_1 ce3 rd3
  obtain ⟨a2, g2, v2, w2⟩ := hf 2 2 1 tf40_2 ce3 rd3
  obtain ⟨a3, g3, v3, w3⟩ := hf 3 3 1 tf40_3 ce3 rd3
  obtain ⟨v, w⟩ := (Win.cons v0 w0 (Win.cons v1 w1 (Win.cons v2 w2 (Win.cons v3 w3 (Win.nil hl) rfl) rfl) rfl) rfl)
  exact ⟨⟨a0, a1, a2, a3⟩, ⟨g0, g1, g2, g3⟩, by simpa [c_Vol, c_i64, c_i64, c_i64, c_i64] using v, by simpa using w⟩
theorem rd25 : Rd enc Try.prog W 25 c_s_Vol (gL g_Vol) := Rd.slice rd40 u25 ce40 (fun x => by simp [c_Vol, c_id]) (by decide)
def g_Catalog (x : TCatalog) : Prop := gI x.Seq ∧ (gL g_Snap) x.Snaps ∧ (gL g_Chunk) x.Chunks ∧ (gL g_Exp) x.Exps ∧ (gL g_Vol) x.Vols
theorem sn27 : strN Try.prog 27 = some 5 := by kernel_rfl
theorem rd27 : Rd enc Try.prog W 27 c_Catalog g_Catalog := by
  intro fuel cs x h
  obtain ⟨hl, hf⟩ := Rd.flds sn27 ce27 h
  obtain ⟨a0, g0, v0, w0⟩ := hf 0 0 1 tf27_0 ce3 rd3
  obtain ⟨a1, g1, v1, w1⟩ := hf 1 1 1 tf27_1 ce22 rd22
  obtain ⟨a2, g2, v2, w2⟩ := hf 2 2 1 tf27_2 ce23 rd23
  obtain ⟨a3, g3, v3, w3⟩ := hf 3 3 1 tf27_3 ce24 rd24
  obtain ⟨a4, g4, v4, w4⟩ := hf 4 4 1 tf27_4 ce25 rd25
  obtain ⟨v, w⟩ := (Win.cons v0 w0 (Win.cons v1 w1 (Win.cons v2 w2 (Win.cons v3 w3 (Win.cons v4 w4 (Win.nil hl) rfl) rfl) rfl) rfl) rfl)
  exact ⟨⟨a0, a1, a2, a3, a4⟩, ⟨g0, g1, g2, g3, g4⟩, by simpa [c_Catalog, c_i64, c_s_Snap, c_s_Chunk, c_s_Exp, c_s_Vol] using v, by simpa using w⟩
theorem rr27 : Try.prog.readableRec 27 = true ∧ 27 < Try.prog.types.size := ⟨by kernel_rfl, of_decide_eq_true (by kernel_rfl)⟩
theorem own0 : ownKnob Try.prog.godebug = none := by kernel_rfl
theorem laidOut0 : laidOutB Try.prog = true := by kernel_rfl
end
end Go.Proofs.Ytoomgangpjcaoaa
