/-
  Closed facts on the types of the translation, as the evaluation of operations uses them (written by a program of this claim, gentypes.py).
-/
import Derived.Test.YtafflcbcpbgloaaChecked
import Derived.Test.YtafflcbcpbgloaaVmL
import Derived.KernelRfl
namespace Go.Proofs.Ytafflcbcpbgloaa
open Go.Vm
@[go_sem] theorem Ty.ld1 : ldT Try.prog 1 = some (false, 1) := by kernel_rfl
theorem Ty.sz1 : tSz Try.prog 1 = some 1 := by kernel_rfl
@[go_sem] theorem Ty.ld2 : ldT Try.prog 2 = some (false, 1) := by kernel_rfl
theorem Ty.sz2 : tSz Try.prog 2 = some 1 := by kernel_rfl
@[go_sem] theorem Ty.int2 : tInt Try.prog 2 = some .i64 := by kernel_rfl
@[go_sem] theorem Ty.ld3 : ldT Try.prog 3 = some (false, 1) := by kernel_rfl
theorem Ty.sz3 : tSz Try.prog 3 = some 1 := by kernel_rfl
@[go_sem] theorem Ty.int3 : tInt Try.prog 3 = some .i64 := by kernel_rfl
@[go_sem] theorem Ty.ld4 : ldT Try.prog 4 = some (false, 1) := by kernel_rfl
theorem Ty.sz4 : tSz Try.prog 4 = some 1 := by kernel_rfl
@[go_sem] theorem Ty.ld5 : ldT Try.prog 5 = some (false, 1) := by kernel_rfl
theorem Ty.sz5 : tSz Try.prog 5 = some 1 := by kernel_rfl
@[go_sem] theorem Ty.int5 : tInt Try.prog 5 = some .u8 := by kernel_rfl
@[go_sem] theorem Ty.ld6 : ldT Try.prog 6 = some (false, 1) := by kernel_rfl
theorem Ty.sz6 : tSz Try.prog 6 = some 1 := by kernel_rfl
@[go_sem] theorem Ty.int6 : tInt Try.prog 6 = some .u8 := by kernel_rfl
@[go_sem] theorem Ty.ld7 : ldT Try.prog 7 = some (true, 4) := by kernel_rfl
theorem Ty.sz7 : tSz Try.prog 7 = some 4 := by kernel_rfl
@[go_sem] theorem Ty.fd7_0 : fdS Try.prog 7 0 = some (0, 1) := by kernel_rfl
@[go_sem] theorem Ty.fd7_1 : fdS Try.prog 7 1 = some (1, 1) := by kernel_rfl
@[go_sem] theorem Ty.fd7_2 : fdS Try.prog 7 2 = some (2, 1) := by kernel_rfl
@[go_sem] theorem Ty.fd7_3 : fdS Try.prog 7 3 = some (3, 1) := by kernel_rfl
@[go_sem] theorem Ty.ld8 : ldT Try.prog 8 = some (true, 4) := by kernel_rfl
theorem Ty.sz8 : tSz Try.prog 8 = some 4 := by kernel_rfl
@[go_sem] theorem Ty.fd8_0 : fdS Try.prog 8 0 = some (0, 1) := by kernel_rfl
@[go_sem] theorem Ty.fd8_1 : fdS Try.prog 8 1 = some (1, 1) := by kernel_rfl
@[go_sem] theorem Ty.fd8_2 : fdS Try.prog 8 2 = some (2, 1) := by kernel_rfl
@[go_sem] theorem Ty.fd8_3 : fdS Try.prog 8 3 = some (3, 1) := by kernel_rfl
@[go_sem] theorem Ty.ld9 : ldT Try.prog 9 = some (false, 1) := by kernel_rfl
theorem Ty.sz9 : tSz Try.prog 9 = some 1 := by kernel_rfl
@[go_sem] theorem Ty.el9 : elS Try.prog 9 = none := by kernel_rfl
@[go_sem] theorem Ty.ar9 : arS Try.prog 9 = none := by kernel_rfl
@[go_sem] theorem Ty.ln9 : lnT Try.prog 9 = some false := by kernel_rfl
@[go_sem] theorem Ty.sl9 : slT Try.prog 9 = true := by kernel_rfl
@[go_sem] theorem Ty.ld10 : ldT Try.prog 10 = some (false, 1) := by kernel_rfl
theorem Ty.sz10 : tSz Try.prog 10 = some 1 := by kernel_rfl
@[go_sem] theorem Ty.el10 : elS Try.prog 10 = none := by kernel_rfl
@[go_sem] theorem Ty.ar10 : arS Try.prog 10 = none := by kernel_rfl
@[go_sem] theorem Ty.ln10 : lnT Try.prog 10 = some false := by kernel_rfl
@[go_sem] theorem Ty.sl10 : slT Try.prog 10 = true := by kernel_rfl
@[go_sem] theorem Ty.ld11 : ldT Try.prog 11 = some (false, 1) := by kernel_rfl
theorem Ty.sz11 : tSz Try.prog 11 = some 1 := by kernel_rfl
@[go_sem] theorem Ty.el11 : elS Try.prog 11 = none := by kernel_rfl
@[go_sem] theorem Ty.ar11 : arS Try.prog 11 = none := by kernel_rfl
@[go_sem] theorem Ty.ln11 : lnT Try.prog 11 = some false := by kernel_rfl
@[go_sem] theorem Ty.sl11 : slT Try.prog 11 = true := by kernel_rfl
@[go_sem] theorem Ty.ld12 : ldT Try.prog 12 = some (false, 1) := by kernel_rfl
theorem Ty.sz12 : tSz Try.prog 12 = some 1 := by kernel_rfl
@[go_sem] theorem Ty.int12 : tInt Try.prog 12 = some .u64 := by kernel_rfl
@[go_sem] theorem Ty.ld13 : ldT Try.prog 13 = some (true, 2) := by kernel_rfl
theorem Ty.sz13 : tSz Try.prog 13 = some 2 := by kernel_rfl
@[go_sem] theorem Ty.fd13_0 : fdS Try.prog 13 0 = some (0, 1) := by kernel_rfl
@[go_sem] theorem Ty.fd13_1 : fdS Try.prog 13 1 = some (1, 1) := by kernel_rfl
@[go_sem] theorem Ty.ld14 : ldT Try.prog 14 = some (true, 2) := by kernel_rfl
theorem Ty.sz14 : tSz Try.prog 14 = some 2 := by kernel_rfl
@[go_sem] theorem Ty.fd14_0 : fdS Try.prog 14 0 = some (0, 1) := by kernel_rfl
@[go_sem] theorem Ty.fd14_1 : fdS Try.prog 14 1 = some (1, 1) := by kernel_rfl
@[go_sem] theorem Ty.ld15 : ldT Try.prog 15 = some (false, 1) := by kernel_rfl
theorem Ty.sz15 : tSz Try.prog 15 = some 1 := by kernel_rfl
@[go_sem] theorem Ty.ld16 : ldT Try.prog 16 = some (false, 1) := by kernel_rfl
theorem Ty.sz16 : tSz Try.prog 16 = some 1 := by kernel_rfl
@[go_sem] theorem Ty.ld17 : ldT Try.prog 17 = some (false, 1) := by kernel_rfl
theorem Ty.sz17 : tSz Try.prog 17 = some 1 := by kernel_rfl
@[go_sem] theorem Ty.ld18 : ldT Try.prog 18 = some (true, 1) := by kernel_rfl
theorem Ty.sz18 : tSz Try.prog 18 = some 1 := by kernel_rfl
@[go_sem] theorem Ty.fd18_0 : fdS Try.prog 18 0 = some (0, 1) := by kernel_rfl
@[go_sem] theorem Ty.ld19 : ldT Try.prog 19 = some (true, 1) := by kernel_rfl
theorem Ty.sz19 : tSz Try.prog 19 = some 1 := by kernel_rfl
@[go_sem] theorem Ty.fd19_0 : fdS Try.prog 19 0 = some (0, 1) := by kernel_rfl
@[go_sem] theorem Ty.ld20 : ldT Try.prog 20 = some (false, 1) := by kernel_rfl
theorem Ty.sz20 : tSz Try.prog 20 = some 1 := by kernel_rfl
@[go_sem] theorem Ty.ld21 : ldT Try.prog 21 = some (false, 1) := by kernel_rfl
theorem Ty.sz21 : tSz Try.prog 21 = some 1 := by kernel_rfl
@[go_sem] theorem Ty.int21 : tInt Try.prog 21 = some .i32 := by kernel_rfl
@[go_sem] theorem Ty.ld22 : ldT Try.prog 22 = some (false, 1) := by kernel_rfl
theorem Ty.sz22 : tSz Try.prog 22 = some 1 := by kernel_rfl
@[go_sem] theorem Ty.el22 : elS Try.prog 22 = some 1 := by kernel_rfl
@[go_sem] theorem Ty.ar22 : arS Try.prog 22 = none := by kernel_rfl
@[go_sem] theorem Ty.ln22 : lnT Try.prog 22 = some true := by kernel_rfl
@[go_sem] theorem Ty.sl22 : slT Try.prog 22 = true := by kernel_rfl
theorem Ty.et22 : ElT Try.prog 22 5 1 1 := ElT.of (by kernel_rfl) (by kernel_rfl) (by decide)
@[go_sem] theorem Ty.ld23 : ldT Try.prog 23 = some (false, 1) := by kernel_rfl
theorem Ty.sz23 : tSz Try.prog 23 = some 1 := by kernel_rfl
@[go_sem] theorem Ty.ld24 : ldT Try.prog 24 = some (false, 1) := by kernel_rfl
theorem Ty.sz24 : tSz Try.prog 24 = some 1 := by kernel_rfl
@[go_sem] theorem Ty.el24 : elS Try.prog 24 = some 1 := by kernel_rfl
@[go_sem] theorem Ty.ar24 : arS Try.prog 24 = none := by kernel_rfl
@[go_sem] theorem Ty.ln24 : lnT Try.prog 24 = some true := by kernel_rfl
@[go_sem] theorem Ty.sl24 : slT Try.prog 24 = true := by kernel_rfl
theorem Ty.et24 : ElT Try.prog 24 22 1 24 := ElT.of (by kernel_rfl) (by kernel_rfl) (by decide)
@[go_sem] theorem Ty.ld25 : ldT Try.prog 25 = some (false, 1) := by kernel_rfl
theorem Ty.sz25 : tSz Try.prog 25 = some 1 := by kernel_rfl
@[go_sem] theorem Ty.int25 : tInt Try.prog 25 = some .i64 := by kernel_rfl
@[go_sem] theorem Ty.ld27 : ldT Try.prog 27 = some (false, 1) := by kernel_rfl
theorem Ty.sz27 : tSz Try.prog 27 = some 1 := by kernel_rfl
@[go_sem] theorem Ty.ld28 : ldT Try.prog 28 = some (false, 1) := by kernel_rfl
theorem Ty.sz28 : tSz Try.prog 28 = some 1 := by kernel_rfl
@[go_sem] theorem Ty.ld29 : ldT Try.prog 29 = some (false, 1) := by kernel_rfl
theorem Ty.sz29 : tSz Try.prog 29 = some 1 := by kernel_rfl
@[go_sem] theorem Ty.ld30 : ldT Try.prog 30 = some (false, 1) := by kernel_rfl
theorem Ty.sz30 : tSz Try.prog 30 = some 1 := by kernel_rfl
@[go_sem] theorem Ty.ld31 : ldT Try.prog 31 = some (false, 1) := by kernel_rfl
theorem Ty.sz31 : tSz Try.prog 31 = some 1 := by kernel_rfl
@[go_sem] theorem Ty.ld32 : ldT Try.prog 32 = some (false, 1) := by kernel_rfl
theorem Ty.sz32 : tSz Try.prog 32 = some 1 := by kernel_rfl
@[go_sem] theorem Ty.ld33 : ldT Try.prog 33 = some (false, 1) := by kernel_rfl
theorem Ty.sz33 : tSz Try.prog 33 = some 1 := by kernel_rfl
@[go_sem] theorem Ty.ld34 : ldT Try.prog 34 = some (false, 1) := by kernel_rfl
theorem Ty.sz34 : tSz Try.prog 34 = some 1 := by kernel_rfl
@[go_sem] theorem Ty.ld35 : ldT Try.prog 35 = some (false, 1) := by kernel_rfl
theorem Ty.sz35 : tSz Try.prog 35 = some 1 := by kernel_rfl
@[go_sem] theorem Ty.ld36 : ldT Try.prog 36 = some (false, 1) := by kernel_rfl
theorem Ty.sz36 : tSz Try.prog 36 = some 1 := by kernel_rfl
@[go_sem] theorem Ty.ld37 : ldT Try.prog 37 = some (false, 1) := by kernel_rfl
theorem Ty.sz37 : tSz Try.prog 37 = some 1 := by kernel_rfl
@[go_sem] theorem Ty.int37 : tInt Try.prog 37 = some .u64 := by kernel_rfl
@[go_sem] theorem Ty.ld38 : ldT Try.prog 38 = some (false, 1) := by kernel_rfl
theorem Ty.sz38 : tSz Try.prog 38 = some 1 := by kernel_rfl
@[go_sem] theorem Ty.ld39 : ldT Try.prog 39 = some (false, 1) := by kernel_rfl
theorem Ty.sz39 : tSz Try.prog 39 = some 1 := by kernel_rfl
@[go_sem] theorem Ty.el39 : elS Try.prog 39 = some 37 := by kernel_rfl
@[go_sem] theorem Ty.ar39 : arS Try.prog 39 = none := by kernel_rfl
@[go_sem] theorem Ty.ln39 : lnT Try.prog 39 = some true := by kernel_rfl
@[go_sem] theorem Ty.sl39 : slT Try.prog 39 = true := by kernel_rfl
theorem Ty.et39 : ElT Try.prog 39 51 37 72 := ElT.of (by kernel_rfl) (by kernel_rfl) (by decide)
@[go_sem] theorem Ty.ld40 : ldT Try.prog 40 = some (false, 1) := by kernel_rfl
theorem Ty.sz40 : tSz Try.prog 40 = some 1 := by kernel_rfl
@[go_sem] theorem Ty.el40 : elS Try.prog 40 = some 1 := by kernel_rfl
@[go_sem] theorem Ty.ar40 : arS Try.prog 40 = none := by kernel_rfl
@[go_sem] theorem Ty.ln40 : lnT Try.prog 40 = some true := by kernel_rfl
@[go_sem] theorem Ty.sl40 : slT Try.prog 40 = true := by kernel_rfl
theorem Ty.et40 : ElT Try.prog 40 39 1 24 := ElT.of (by kernel_rfl) (by kernel_rfl) (by decide)
@[go_sem] theorem Ty.ld41 : ldT Try.prog 41 = some (false, 1) := by kernel_rfl
theorem Ty.sz41 : tSz Try.prog 41 = some 1 := by kernel_rfl
@[go_sem] theorem Ty.ld42 : ldT Try.prog 42 = some (false, 1) := by kernel_rfl
theorem Ty.sz42 : tSz Try.prog 42 = some 1 := by kernel_rfl
@[go_sem] theorem Ty.ld43 : ldT Try.prog 43 = some (false, 1) := by kernel_rfl
theorem Ty.sz43 : tSz Try.prog 43 = some 1 := by kernel_rfl
@[go_sem] theorem Ty.ld44 : ldT Try.prog 44 = some (false, 1) := by kernel_rfl
theorem Ty.sz44 : tSz Try.prog 44 = some 1 := by kernel_rfl
@[go_sem] theorem Ty.int44 : tInt Try.prog 44 = some .u32 := by kernel_rfl
@[go_sem] theorem Ty.ld45 : ldT Try.prog 45 = some (false, 1) := by kernel_rfl
theorem Ty.sz45 : tSz Try.prog 45 = some 1 := by kernel_rfl
@[go_sem] theorem Ty.ld46 : ldT Try.prog 46 = some (false, 1) := by kernel_rfl
theorem Ty.sz46 : tSz Try.prog 46 = some 1 := by kernel_rfl
@[go_sem] theorem Ty.ld47 : ldT Try.prog 47 = some (false, 1) := by kernel_rfl
theorem Ty.sz47 : tSz Try.prog 47 = some 1 := by kernel_rfl
@[go_sem] theorem Ty.ld48 : ldT Try.prog 48 = some (false, 1) := by kernel_rfl
theorem Ty.sz48 : tSz Try.prog 48 = some 1 := by kernel_rfl
@[go_sem] theorem Ty.ld49 : ldT Try.prog 49 = some (true, 32) := by kernel_rfl
theorem Ty.sz49 : tSz Try.prog 49 = some 32 := by kernel_rfl
@[go_sem] theorem Ty.el49 : elS Try.prog 49 = none := by kernel_rfl
@[go_sem] theorem Ty.ar49 : arS Try.prog 49 = some (32, 1) := by kernel_rfl
@[go_sem] theorem Ty.sl49 : slT Try.prog 49 = true := by kernel_rfl
@[go_sem] theorem Ty.ld50 : ldT Try.prog 50 = some (true, 37) := by kernel_rfl
theorem Ty.sz50 : tSz Try.prog 50 = some 37 := by kernel_rfl
@[go_sem] theorem Ty.fd50_0 : fdS Try.prog 50 0 = some (0, 1) := by kernel_rfl
@[go_sem] theorem Ty.fd50_1 : fdS Try.prog 50 1 = some (1, 32) := by kernel_rfl
@[go_sem] theorem Ty.fd50_2 : fdS Try.prog 50 2 = some (33, 1) := by kernel_rfl
@[go_sem] theorem Ty.fd50_3 : fdS Try.prog 50 3 = some (34, 1) := by kernel_rfl
@[go_sem] theorem Ty.fd50_4 : fdS Try.prog 50 4 = some (35, 1) := by kernel_rfl
@[go_sem] theorem Ty.fd50_5 : fdS Try.prog 50 5 = some (36, 1) := by kernel_rfl
@[go_sem] theorem Ty.ld51 : ldT Try.prog 51 = some (true, 37) := by kernel_rfl
theorem Ty.sz51 : tSz Try.prog 51 = some 37 := by kernel_rfl
@[go_sem] theorem Ty.fd51_0 : fdS Try.prog 51 0 = some (0, 1) := by kernel_rfl
@[go_sem] theorem Ty.fd51_1 : fdS Try.prog 51 1 = some (1, 32) := by kernel_rfl
@[go_sem] theorem Ty.fd51_2 : fdS Try.prog 51 2 = some (33, 1) := by kernel_rfl
@[go_sem] theorem Ty.fd51_3 : fdS Try.prog 51 3 = some (34, 1) := by kernel_rfl
@[go_sem] theorem Ty.fd51_4 : fdS Try.prog 51 4 = some (35, 1) := by kernel_rfl
@[go_sem] theorem Ty.fd51_5 : fdS Try.prog 51 5 = some (36, 1) := by kernel_rfl
@[go_sem] theorem Ty.ld52 : ldT Try.prog 52 = some (false, 1) := by kernel_rfl
theorem Ty.sz52 : tSz Try.prog 52 = some 1 := by kernel_rfl
@[go_sem] theorem Ty.ld53 : ldT Try.prog 53 = some (false, 1) := by kernel_rfl
theorem Ty.sz53 : tSz Try.prog 53 = some 1 := by kernel_rfl
@[go_sem] theorem Ty.ld54 : ldT Try.prog 54 = some (false, 1) := by kernel_rfl
theorem Ty.sz54 : tSz Try.prog 54 = some 1 := by kernel_rfl
@[go_sem] theorem Ty.ld55 : ldT Try.prog 55 = some (true, 4) := by kernel_rfl
theorem Ty.sz55 : tSz Try.prog 55 = some 4 := by kernel_rfl
@[go_sem] theorem Ty.fd55_0 : fdS Try.prog 55 0 = some (0, 1) := by kernel_rfl
@[go_sem] theorem Ty.fd55_1 : fdS Try.prog 55 1 = some (1, 1) := by kernel_rfl
@[go_sem] theorem Ty.fd55_2 : fdS Try.prog 55 2 = some (2, 1) := by kernel_rfl
@[go_sem] theorem Ty.fd55_3 : fdS Try.prog 55 3 = some (3, 1) := by kernel_rfl
@[go_sem] theorem Ty.ld56 : ldT Try.prog 56 = some (true, 4) := by kernel_rfl
theorem Ty.sz56 : tSz Try.prog 56 = some 4 := by kernel_rfl
@[go_sem] theorem Ty.fd56_0 : fdS Try.prog 56 0 = some (0, 1) := by kernel_rfl
@[go_sem] theorem Ty.fd56_1 : fdS Try.prog 56 1 = some (1, 1) := by kernel_rfl
@[go_sem] theorem Ty.fd56_2 : fdS Try.prog 56 2 = some (2, 1) := by kernel_rfl
@[go_sem] theorem Ty.fd56_3 : fdS Try.prog 56 3 = some (3, 1) := by kernel_rfl
@[go_sem] theorem Ty.ld57 : ldT Try.prog 57 = some (true, 0) := by kernel_rfl
theorem Ty.sz57 : tSz Try.prog 57 = some 0 := by kernel_rfl
@[go_sem] theorem Ty.el57 : elS Try.prog 57 = none := by kernel_rfl
@[go_sem] theorem Ty.ar57 : arS Try.prog 57 = some (0, 1) := by kernel_rfl
@[go_sem] theorem Ty.sl57 : slT Try.prog 57 = true := by kernel_rfl
@[go_sem] theorem Ty.ld58 : ldT Try.prog 58 = some (true, 0) := by kernel_rfl
theorem Ty.sz58 : tSz Try.prog 58 = some 0 := by kernel_rfl
@[go_sem] theorem Ty.fd58_0 : fdS Try.prog 58 0 = some (0, 0) := by kernel_rfl
@[go_sem] theorem Ty.ld59 : ldT Try.prog 59 = some (true, 0) := by kernel_rfl
theorem Ty.sz59 : tSz Try.prog 59 = some 0 := by kernel_rfl
@[go_sem] theorem Ty.fd59_0 : fdS Try.prog 59 0 = some (0, 0) := by kernel_rfl
@[go_sem] theorem Ty.ld60 : ldT Try.prog 60 = some (false, 1) := by kernel_rfl
theorem Ty.sz60 : tSz Try.prog 60 = some 1 := by kernel_rfl
@[go_sem] theorem Ty.ld61 : ldT Try.prog 61 = some (false, 1) := by kernel_rfl
theorem Ty.sz61 : tSz Try.prog 61 = some 1 := by kernel_rfl
@[go_sem] theorem Ty.int61 : tInt Try.prog 61 = some .u8 := by kernel_rfl
@[go_sem] theorem Ty.ld62 : ldT Try.prog 62 = some (false, 1) := by kernel_rfl
theorem Ty.sz62 : tSz Try.prog 62 = some 1 := by kernel_rfl
@[go_sem] theorem Ty.int62 : tInt Try.prog 62 = some .u8 := by kernel_rfl
@[go_sem] theorem Ty.ld63 : ldT Try.prog 63 = some (false, 1) := by kernel_rfl
theorem Ty.sz63 : tSz Try.prog 63 = some 1 := by kernel_rfl
@[go_sem] theorem Ty.ld64 : ldT Try.prog 64 = some (false, 1) := by kernel_rfl
theorem Ty.sz64 : tSz Try.prog 64 = some 1 := by kernel_rfl
@[go_sem] theorem Ty.ld65 : ldT Try.prog 65 = some (false, 1) := by kernel_rfl
theorem Ty.sz65 : tSz Try.prog 65 = some 1 := by kernel_rfl
@[go_sem] theorem Ty.int65 : tInt Try.prog 65 = some .i32 := by kernel_rfl
@[go_sem] theorem Ty.ld66 : ldT Try.prog 66 = some (false, 1) := by kernel_rfl
theorem Ty.sz66 : tSz Try.prog 66 = some 1 := by kernel_rfl
@[go_sem] theorem Ty.int66 : tInt Try.prog 66 = some .i32 := by kernel_rfl
@[go_sem] theorem Ty.ld67 : ldT Try.prog 67 = some (true, 11) := by kernel_rfl
theorem Ty.sz67 : tSz Try.prog 67 = some 11 := by kernel_rfl
@[go_sem] theorem Ty.fd67_0 : fdS Try.prog 67 0 = some (0, 1) := by kernel_rfl
@[go_sem] theorem Ty.fd67_1 : fdS Try.prog 67 1 = some (1, 1) := by kernel_rfl
@[go_sem] theorem Ty.fd67_2 : fdS Try.prog 67 2 = some (2, 1) := by kernel_rfl
@[go_sem] theorem Ty.fd67_3 : fdS Try.prog 67 3 = some (3, 1) := by kernel_rfl
@[go_sem] theorem Ty.fd67_4 : fdS Try.prog 67 4 = some (4, 1) := by kernel_rfl
@[go_sem] theorem Ty.fd67_5 : fdS Try.prog 67 5 = some (5, 1) := by kernel_rfl
@[go_sem] theorem Ty.fd67_6 : fdS Try.prog 67 6 = some (6, 1) := by kernel_rfl
@[go_sem] theorem Ty.fd67_7 : fdS Try.prog 67 7 = some (7, 1) := by kernel_rfl
@[go_sem] theorem Ty.fd67_8 : fdS Try.prog 67 8 = some (8, 1) := by kernel_rfl
@[go_sem] theorem Ty.fd67_9 : fdS Try.prog 67 9 = some (9, 1) := by kernel_rfl
@[go_sem] theorem Ty.fd67_10 : fdS Try.prog 67 10 = some (10, 1) := by kernel_rfl
@[go_sem] theorem Ty.ld68 : ldT Try.prog 68 = some (true, 11) := by kernel_rfl
theorem Ty.sz68 : tSz Try.prog 68 = some 11 := by kernel_rfl
@[go_sem] theorem Ty.fd68_0 : fdS Try.prog 68 0 = some (0, 1) := by kernel_rfl
@[go_sem] theorem Ty.fd68_1 : fdS Try.prog 68 1 = some (1, 1) := by kernel_rfl
@[go_sem] theorem Ty.fd68_2 : fdS Try.prog 68 2 = some (2, 1) := by kernel_rfl
@[go_sem] theorem Ty.fd68_3 : fdS Try.prog 68 3 = some (3, 1) := by kernel_rfl
@[go_sem] theorem Ty.fd68_4 : fdS Try.prog 68 4 = some (4, 1) := by kernel_rfl
@[go_sem] theorem Ty.fd68_5 : fdS Try.prog 68 5 = some (5, 1) := by kernel_rfl
@[go_sem] theorem Ty.fd68_6 : fdS Try.prog 68 6 = some (6, 1) := by kernel_rfl
@[go_sem] theorem Ty.fd68_7 : fdS Try.prog 68 7 = some (7, 1) := by kernel_rfl
@[go_sem] theorem Ty.fd68_8 : fdS Try.prog 68 8 = some (8, 1) := by kernel_rfl
@[go_sem] theorem Ty.fd68_9 : fdS Try.prog 68 9 = some (9, 1) := by kernel_rfl
@[go_sem] theorem Ty.fd68_10 : fdS Try.prog 68 10 = some (10, 1) := by kernel_rfl
@[go_sem] theorem Ty.ld69 : ldT Try.prog 69 = some (false, 1) := by kernel_rfl
theorem Ty.sz69 : tSz Try.prog 69 = some 1 := by kernel_rfl
end Go.Proofs.Ytafflcbcpbgloaa
