import Derived.Test.YtoomgangpjcaoaaK6VmZ
import Derived.Test.YtoomgangpjcaoaaK6Types
set_option linter.unusedSimpArgs false
namespace Go.Proofs.Ytoomgangpjcaoaa
open Go.Vm Go.ChangeShapes Go.WideShapes
section
variable {H : Type} {enc : TypeId × Value → H} {W : World}
theorem ce3 : Try.prog.cellsOf 3 = 1 := by kernel_rfl
theorem rd3 : Rd enc Try.prog W 3 c_i64 gI := Rd_i64 u3
def g_Part (x : TPart) : Prop := gT x.Path ∧ gI x.Size ∧ (gL (fun x : Id32 => gL gB x.1)) x.Ids
def g_Manifest (x : TManifest) : Prop := gT x.Name ∧ (gL g_Part) x.Parts
def g_Loc (x : TLoc) : Prop := gI x.Vol ∧ gI x.File ∧ gI x.Off ∧ gI x.Len
def g_Snap (x : TSnap) : Prop := gI x.Seq ∧ g_Manifest x.Man ∧ (gL g_Loc) x.Locs
def g_Chunk (x : TChunk) : Prop := (fun x : Id32 => gL gB x.1) x.Id ∧ gT x.Staged ∧ (gL gB) x.Data ∧ (gL g_Loc) x.Locs
def g_Exp (x : TExp) : Prop := gI x.Seq ∧ gI x.Of ∧ (gL g_Loc) x.Locs
def g_Vol (x : TVol) : Prop := gI x.Pool ∧ gI x.Epoch ∧ gI x.State ∧ gI x.Files
def g_Catalog (x : TCatalog) : Prop := gI x.Seq ∧ (gL g_Snap) x.Snaps ∧ (gL g_Chunk) x.Chunks ∧ (gL g_Exp) x.Exps ∧ (gL g_Vol) x.Vols
theorem rd28 : Rd enc Try.prog W 28 c_s_i64 (gL gI) := Rd.slice rd3 u28 ce3 (fun _ => rfl) (by decide)
theorem rr28 : Try.prog.readableRec 28 = true ∧ 28 < Try.prog.types.size := ⟨by kernel_rfl, of_decide_eq_true (by kernel_rfl)⟩
theorem own0 : ownKnob Try.prog.godebug = none := by kernel_rfl
theorem laidOut0 : laidOutB Try.prog = true := by kernel_rfl
end
end Go.Proofs.Ytoomgangpjcaoaa
