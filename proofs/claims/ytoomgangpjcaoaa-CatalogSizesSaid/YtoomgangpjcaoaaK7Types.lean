/-
  The types of plain data of this program, as cells; closed facts of the program's types, by computation.
-/
import Derived.Test.YtoomgangpjcaoaaK7VmStr
import Derived.Test.YtoomgangpjcaoaaProg
set_option linter.unusedSimpArgs false
namespace Go.Proofs.Ytoomgangpjcaoaa
open Go.Vm
abbrev c_i64 (x : Int) : List AV := [.sc (.int .i64 x)]
abbrev c_bool (x : Bool) : List AV := [.sc (.bool x)]
abbrev c_u8 (x : Int) : List AV := [.sc (.int .u8 x)]
abbrev c_str (x : ByteArray) : List AV := [.sc (.string x)]
abbrev c_s_id (x : List Id32) : List AV := [.sl none 32 (List.map c_id x)]
structure TPart where
  Path : ByteArray
  Size : Int
  Ids : List Id32
  deriving DecidableEq
def c_Part (x : TPart) : List AV := [.sc (.string x.Path), .sc (.int .i64 x.Size), .sl none 32 (List.map c_id x.Ids)]
abbrev c_s_Part (x : List TPart) : List AV := [.sl none 3 (List.map c_Part x)]
structure TManifest where
  Name : ByteArray
  Parts : List TPart
  deriving DecidableEq
def c_Manifest (x : TManifest) : List AV := [.sc (.string x.Name), .sl none 3 (List.map c_Part x.Parts)]
structure TLoc where
  Vol : Int
  File : Int
  Off : Int
  Len : Int
  deriving DecidableEq
def c_Loc (x : TLoc) : List AV := [.sc (.int .i64 x.Vol), .sc (.int .i64 x.File), .sc (.int .i64 x.Off), .sc (.int .i64 x.Len)]
abbrev c_s_Loc (x : List TLoc) : List AV := [.sl none 4 (List.map c_Loc x)]
structure TSnap where
  Seq : Int
  Man : TManifest
  Locs : List TLoc
  deriving DecidableEq
def c_Snap (x : TSnap) : List AV := [.sc (.int .i64 x.Seq), .sc (.string x.Man.Name), .sl none 3 (List.map c_Part x.Man.Parts), .sl none 4 (List.map c_Loc x.Locs)]
abbrev c_s_Snap (x : List TSnap) : List AV := [.sl none 4 (List.map c_Snap x)]
abbrev c_s_u8 (x : List Int) : List AV := [.sl none 1 (List.map c_u8 x)]
structure TChunk where
  Id : Id32
  Staged : Bool
  Data : List Int
  Locs : List TLoc
  deriving DecidableEq
def c_Chunk (x : TChunk) : List AV := c_id x.Id ++ [.sc (.bool x.Staged), .sl none 1 (List.map c_u8 x.Data), .sl none 4 (List.map c_Loc x.Locs)]
abbrev c_s_Chunk (x : List TChunk) : List AV := [.sl none 35 (List.map c_Chunk x)]
structure TExp where
  Seq : Int
  Of : Int
  Locs : List TLoc
  deriving DecidableEq
def c_Exp (x : TExp) : List AV := [.sc (.int .i64 x.Seq), .sc (.int .i64 x.Of), .sl none 4 (List.map c_Loc x.Locs)]
abbrev c_s_Exp (x : List TExp) : List AV := [.sl none 3 (List.map c_Exp x)]
structure TVol where
  Pool : Int
  Epoch : Int
  State : Int
  Files : Int
  deriving DecidableEq
def c_Vol (x : TVol) : List AV := [.sc (.int .i64 x.Pool), .sc (.int .i64 x.Epoch), .sc (.int .i64 x.State), .sc (.int .i64 x.Files)]
abbrev c_s_Vol (x : List TVol) : List AV := [.sl none 4 (List.map c_Vol x)]
structure TCatalog where
  Seq : Int
  Snaps : List TSnap
  Chunks : List TChunk
  Exps : List TExp
  Vols : List TVol
  deriving DecidableEq
def c_Catalog (x : TCatalog) : List AV := [.sc (.int .i64 x.Seq), .sl none 4 (List.map c_Snap x.Snaps), .sl none 35 (List.map c_Chunk x.Chunks), .sl none 3 (List.map c_Exp x.Exps), .sl none 4 (List.map c_Vol x.Vols)]
structure TItem where
  Kind : Int
  Id : Id32
  Seq : Int
  Of : Int
  Off : Int
  Len : Int
  deriving DecidableEq
structure Twriter where
  b : List Int
  deriving DecidableEq
theorem ld3 : ldT Try.prog 3 = some (false, 1) := by kernel_rfl
theorem ti3 : tInt Try.prog 3 = some .i64 := by kernel_rfl
theorem u3 : Try.prog.underlying 3 = some (.int .i64) := by kernel_rfl
theorem ld4 : ldT Try.prog 4 = some (false, 1) := by kernel_rfl
theorem u4 : Try.prog.underlying 4 = some .bool := by kernel_rfl
theorem zb4 : (Try.prog.info? 4).bind (·.zero) = some (.bool false) := by kernel_rfl
theorem ld5 : ldT Try.prog 5 = some (false, 1) := by kernel_rfl
theorem ti5 : tInt Try.prog 5 = some .u8 := by kernel_rfl
theorem u5 : Try.prog.underlying 5 = some (.int .u8) := by kernel_rfl
theorem ln9 : lnT Try.prog 9 = some false := by kernel_rfl
theorem ld9 : ldT Try.prog 9 = some (false, 1) := by kernel_rfl
theorem u9 : Try.prog.underlying 9 = some .string := by kernel_rfl
theorem ln22 : lnT Try.prog 22 = some true := by kernel_rfl
theorem el22 : elS Try.prog 22 = some 4 := by kernel_rfl
theorem ld22 : ldT Try.prog 22 = some (false, 1) := by kernel_rfl
theorem u22 : Try.prog.underlying 22 = some (.slice 60) := by kernel_rfl
theorem ln23 : lnT Try.prog 23 = some true := by kernel_rfl
theorem el23 : elS Try.prog 23 = some 35 := by kernel_rfl
theorem ld23 : ldT Try.prog 23 = some (false, 1) := by kernel_rfl
theorem u23 : Try.prog.underlying 23 = some (.slice 63) := by kernel_rfl
theorem ln24 : lnT Try.prog 24 = some true := by kernel_rfl
theorem el24 : elS Try.prog 24 = some 3 := by kernel_rfl
theorem ld24 : ldT Try.prog 24 = some (false, 1) := by kernel_rfl
theorem u24 : Try.prog.underlying 24 = some (.slice 65) := by kernel_rfl
theorem ln25 : lnT Try.prog 25 = some true := by kernel_rfl
theorem el25 : elS Try.prog 25 = some 4 := by kernel_rfl
theorem et25 : ElT Try.prog 25 40 4 32 := ElT.of (by kernel_rfl) (by kernel_rfl) (by decide)
theorem ld25 : ldT Try.prog 25 = some (false, 1) := by kernel_rfl
theorem sz25 : tSz Try.prog 25 = some 1 := by kernel_rfl
theorem u25 : Try.prog.underlying 25 = some (.slice 40) := by kernel_rfl
theorem ld27 : ldT Try.prog 27 = some (true, 5) := by kernel_rfl
theorem sz27 : tSz Try.prog 27 = some 5 := by kernel_rfl
theorem fd27_0 : fdS Try.prog 27 0 = some (0, 1) := by kernel_rfl
theorem tf27_0 : tFld Try.prog 27 0 = some (0, 3) := by kernel_rfl
theorem fd27_1 : fdS Try.prog 27 1 = some (1, 1) := by kernel_rfl
theorem tf27_1 : tFld Try.prog 27 1 = some (1, 22) := by kernel_rfl
theorem fd27_2 : fdS Try.prog 27 2 = some (2, 1) := by kernel_rfl
theorem tf27_2 : tFld Try.prog 27 2 = some (2, 23) := by kernel_rfl
theorem fd27_3 : fdS Try.prog 27 3 = some (3, 1) := by kernel_rfl
theorem tf27_3 : tFld Try.prog 27 3 = some (3, 24) := by kernel_rfl
theorem fd27_4 : fdS Try.prog 27 4 = some (4, 1) := by kernel_rfl
theorem tf27_4 : tFld Try.prog 27 4 = some (4, 25) := by kernel_rfl
theorem bt27 : bldT Try.prog 27 = some ([.int .i64 0, .slice none 0 0, .slice none 0 0, .slice none 0 0, .slice none 0 0], [(0, 1), (1, 1), (2, 1), (3, 1), (4, 1)]) := by kernel_rfl
theorem zr27 : zrT Try.prog 27 = some [.int .i64 0, .slice none 0 0, .slice none 0 0, .slice none 0 0, .slice none 0 0] := by kernel_rfl
theorem ln28 : lnT Try.prog 28 = some true := by kernel_rfl
theorem el28 : elS Try.prog 28 = some 1 := by kernel_rfl
theorem et28 : ElT Try.prog 28 3 1 8 := ElT.of (by kernel_rfl) (by kernel_rfl) (by decide)
theorem ld40 : ldT Try.prog 40 = some (true, 4) := by kernel_rfl
theorem sz40 : tSz Try.prog 40 = some 4 := by kernel_rfl
theorem fd40_0 : fdS Try.prog 40 0 = some (0, 1) := by kernel_rfl
theorem tf40_0 : tFld Try.prog 40 0 = some (0, 3) := by kernel_rfl
theorem fd40_1 : fdS Try.prog 40 1 = some (1, 1) := by kernel_rfl
theorem tf40_1 : tFld Try.prog 40 1 = some (1, 3) := by kernel_rfl
theorem fd40_2 : fdS Try.prog 40 2 = some (2, 1) := by kernel_rfl
theorem tf40_2 : tFld Try.prog 40 2 = some (2, 3) := by kernel_rfl
theorem fd40_3 : fdS Try.prog 40 3 = some (3, 1) := by kernel_rfl
theorem tf40_3 : tFld Try.prog 40 3 = some (3, 3) := by kernel_rfl
theorem bt40 : bldT Try.prog 40 = some ([.int .i64 0, .int .i64 0, .int .i64 0, .int .i64 0], [(0, 1), (1, 1), (2, 1), (3, 1)]) := by kernel_rfl
theorem zr40 : zrT Try.prog 40 = some [.int .i64 0, .int .i64 0, .int .i64 0, .int .i64 0] := by kernel_rfl
theorem ti46 : tInt Try.prog 46 = some .u64 := by kernel_rfl
theorem ln52 : lnT Try.prog 52 = some true := by kernel_rfl
theorem el52 : elS Try.prog 52 = some 1 := by kernel_rfl
theorem et52 : ElT Try.prog 52 5 1 1 := ElT.of (by kernel_rfl) (by kernel_rfl) (by decide)
theorem ld52 : ldT Try.prog 52 = some (false, 1) := by kernel_rfl
theorem sz52 : tSz Try.prog 52 = some 1 := by kernel_rfl
theorem u52 : Try.prog.underlying 52 = some (.slice 5) := by kernel_rfl
theorem ln55 : lnT Try.prog 55 = some true := by kernel_rfl
theorem el55 : elS Try.prog 55 = some 3 := by kernel_rfl
theorem ld55 : ldT Try.prog 55 = some (false, 1) := by kernel_rfl
theorem u55 : Try.prog.underlying 55 = some (.slice 82) := by kernel_rfl
theorem ld57 : ldT Try.prog 57 = some (true, 2) := by kernel_rfl
theorem fd57_0 : fdS Try.prog 57 0 = some (0, 1) := by kernel_rfl
theorem tf57_0 : tFld Try.prog 57 0 = some (0, 9) := by kernel_rfl
theorem fd57_1 : fdS Try.prog 57 1 = some (1, 1) := by kernel_rfl
theorem tf57_1 : tFld Try.prog 57 1 = some (1, 55) := by kernel_rfl
theorem ln58 : lnT Try.prog 58 = some true := by kernel_rfl
theorem el58 : elS Try.prog 58 = some 4 := by kernel_rfl
theorem ld58 : ldT Try.prog 58 = some (false, 1) := by kernel_rfl
theorem u58 : Try.prog.underlying 58 = some (.slice 77) := by kernel_rfl
theorem ld60 : ldT Try.prog 60 = some (true, 4) := by kernel_rfl
theorem sz60 : tSz Try.prog 60 = some 4 := by kernel_rfl
theorem fd60_0 : fdS Try.prog 60 0 = some (0, 1) := by kernel_rfl
theorem tf60_0 : tFld Try.prog 60 0 = some (0, 3) := by kernel_rfl
theorem fd60_1 : fdS Try.prog 60 1 = some (1, 2) := by kernel_rfl
theorem tf60_1 : tFld Try.prog 60 1 = some (1, 57) := by kernel_rfl
theorem fd60_2 : fdS Try.prog 60 2 = some (3, 1) := by kernel_rfl
theorem tf60_2 : tFld Try.prog 60 2 = some (3, 58) := by kernel_rfl
theorem zr60 : zrT Try.prog 60 = some [.int .i64 0, .string ByteArray.empty, .slice none 0 0, .slice none 0 0] := by kernel_rfl
theorem ar61 : arS Try.prog 61 = some (32, 1) := by kernel_rfl
theorem ld61 : ldT Try.prog 61 = some (true, 32) := by kernel_rfl
theorem sz61 : tSz Try.prog 61 = some 32 := by kernel_rfl
theorem u61 : Try.prog.underlying 61 = some (.array 32 5) := by kernel_rfl
theorem eg61 : Try.prog.eqGuardType Try.prog.depth 61 = false := by kernel_rfl
theorem zr61 : zrT Try.prog 61 = some [.int .u8 0, .int .u8 0, .int .u8 0, .int .u8 0, .int .u8 0, .int .u8 0, .int .u8 0, .int .u8 0, .int .u8 0, .int .u8 0, .int .u8 0, .int .u8 0, .int .u8 0, .int .u8 0, .int .u8 0, .int .u8 0, .int .u8 0, .int .u8 0, .int .u8 0, .int .u8 0, .int .u8 0, .int .u8 0, .int .u8 0, .int .u8 0, .int .u8 0, .int .u8 0, .int .u8 0, .int .u8 0, .int .u8 0, .int .u8 0, .int .u8 0, .int .u8 0] := by kernel_rfl
theorem ld63 : ldT Try.prog 63 = some (true, 35) := by kernel_rfl
theorem sz63 : tSz Try.prog 63 = some 35 := by kernel_rfl
theorem fd63_0 : fdS Try.prog 63 0 = some (0, 32) := by kernel_rfl
theorem tf63_0 : tFld Try.prog 63 0 = some (0, 61) := by kernel_rfl
theorem fd63_1 : fdS Try.prog 63 1 = some (32, 1) := by kernel_rfl
theorem tf63_1 : tFld Try.prog 63 1 = some (32, 4) := by kernel_rfl
theorem fd63_2 : fdS Try.prog 63 2 = some (33, 1) := by kernel_rfl
theorem tf63_2 : tFld Try.prog 63 2 = some (33, 52) := by kernel_rfl
theorem fd63_3 : fdS Try.prog 63 3 = some (34, 1) := by kernel_rfl
theorem tf63_3 : tFld Try.prog 63 3 = some (34, 58) := by kernel_rfl
theorem zr63 : zrT Try.prog 63 = some [.int .u8 0, .int .u8 0, .int .u8 0, .int .u8 0, .int .u8 0, .int .u8 0, .int .u8 0, .int .u8 0, .int .u8 0, .int .u8 0, .int .u8 0, .int .u8 0, .int .u8 0, .int .u8 0, .int .u8 0, .int .u8 0, .int .u8 0, .int .u8 0, .int .u8 0, .int .u8 0, .int .u8 0, .int .u8 0, .int .u8 0, .int .u8 0, .int .u8 0, .int .u8 0, .int .u8 0, .int .u8 0, .int .u8 0, .int .u8 0, .int .u8 0, .int .u8 0, .bool false, .slice none 0 0, .slice none 0 0] := by kernel_rfl
theorem ld65 : ldT Try.prog 65 = some (true, 3) := by kernel_rfl
theorem sz65 : tSz Try.prog 65 = some 3 := by kernel_rfl
theorem fd65_0 : fdS Try.prog 65 0 = some (0, 1) := by kernel_rfl
theorem tf65_0 : tFld Try.prog 65 0 = some (0, 3) := by kernel_rfl
theorem fd65_1 : fdS Try.prog 65 1 = some (1, 1) := by kernel_rfl
theorem tf65_1 : tFld Try.prog 65 1 = some (1, 3) := by kernel_rfl
theorem fd65_2 : fdS Try.prog 65 2 = some (2, 1) := by kernel_rfl
theorem tf65_2 : tFld Try.prog 65 2 = some (2, 58) := by kernel_rfl
theorem zr65 : zrT Try.prog 65 = some [.int .i64 0, .int .i64 0, .slice none 0 0] := by kernel_rfl
theorem ld77 : ldT Try.prog 77 = some (true, 4) := by kernel_rfl
theorem sz77 : tSz Try.prog 77 = some 4 := by kernel_rfl
theorem fd77_0 : fdS Try.prog 77 0 = some (0, 1) := by kernel_rfl
theorem tf77_0 : tFld Try.prog 77 0 = some (0, 3) := by kernel_rfl
theorem fd77_1 : fdS Try.prog 77 1 = some (1, 1) := by kernel_rfl
theorem tf77_1 : tFld Try.prog 77 1 = some (1, 3) := by kernel_rfl
theorem fd77_2 : fdS Try.prog 77 2 = some (2, 1) := by kernel_rfl
theorem tf77_2 : tFld Try.prog 77 2 = some (2, 3) := by kernel_rfl
theorem fd77_3 : fdS Try.prog 77 3 = some (3, 1) := by kernel_rfl
theorem tf77_3 : tFld Try.prog 77 3 = some (3, 3) := by kernel_rfl
theorem zr77 : zrT Try.prog 77 = some [.int .i64 0, .int .i64 0, .int .i64 0, .int .i64 0] := by kernel_rfl
theorem ln80 : lnT Try.prog 80 = some true := by kernel_rfl
theorem el80 : elS Try.prog 80 = some 32 := by kernel_rfl
theorem et80 : ElT Try.prog 80 61 32 32 := ElT.of (by kernel_rfl) (by kernel_rfl) (by decide)
theorem ld80 : ldT Try.prog 80 = some (false, 1) := by kernel_rfl
theorem u80 : Try.prog.underlying 80 = some (.slice 61) := by kernel_rfl
theorem ld82 : ldT Try.prog 82 = some (true, 3) := by kernel_rfl
theorem sz82 : tSz Try.prog 82 = some 3 := by kernel_rfl
theorem fd82_0 : fdS Try.prog 82 0 = some (0, 1) := by kernel_rfl
theorem tf82_0 : tFld Try.prog 82 0 = some (0, 9) := by kernel_rfl
theorem fd82_1 : fdS Try.prog 82 1 = some (1, 1) := by kernel_rfl
theorem tf82_1 : tFld Try.prog 82 1 = some (1, 3) := by kernel_rfl
theorem fd82_2 : fdS Try.prog 82 2 = some (2, 1) := by kernel_rfl
theorem tf82_2 : tFld Try.prog 82 2 = some (2, 80) := by kernel_rfl
theorem zr82 : zrT Try.prog 82 = some [.string ByteArray.empty, .int .i64 0, .slice none 0 0] := by kernel_rfl
theorem fd116_0 : fdS Try.prog 116 0 = some (0, 1) := by kernel_rfl
theorem bt116 : bldT Try.prog 116 = some ([.slice none 0 0], [(0, 1)]) := by kernel_rfl
theorem um153 : Try.prog.underlying 153 = some (.map 9 4) := by kernel_rfl
theorem mixed : Try.prog.follows .mixedOrders = true := by kernel_rfl
end Go.Proofs.Ytoomgangpjcaoaa
