import Derived.Test.YtbbifdfldpfphaaGreatK7P2
import Derived.Test.YtbbifdfldpfphaaGreatProg
import Derived.Test.YtbbifdfldpfphaaGreatK7P1
import Derived.Lib.Bytealg
set_option linter.unusedSimpArgs false
set_option linter.unusedVariables false
set_option maxHeartbeats 4000000
set_option maxRecDepth 100000
namespace Go.Proofs.YtbbifdfldpfphaaGreat
open Go.Vm
abbrev fD (x:Int):List AV:= [.sc (.int .i64 x)]
abbrev xJ (x:Bool):List AV:= [.sc (.bool x)]
abbrev bZ (x:Int):List AV:= [.sc (.int .u8 x)]
abbrev uM (x:ByteArray):List AV:= [.sc (.string x)]
abbrev xK (x:List Int):List AV:= [.sl none 1 (List.map bZ x)]
abbrev xL (x:List cF):List AV:= [.sl none 32 (List.map bH x)]
structure dR where
 Path:ByteArray
 Size:Int
 Ids:List cF
 deriving DecidableEq
def a9 (x:dR):List AV:= [.sc (.string x.Path),.sc (.int .i64 x.Size),.sl none 32 (List.map bH x.Ids)]
theorem mP:∀y,(a9 y).length=3:=λy=>by first | rfl | simp[a9,bH,cF.len]
abbrev rN (x:List dR):List AV:= [.sl none 3 (List.map a9 x)]
structure aK where
 Name:ByteArray
 Parts:List dR
 deriving DecidableEq
def aH (x:aK):List AV:= [.sc (.string x.Name),.sl none 3 (List.map a9 x.Parts)]
structure cA where
 Vol:Int
 File:Int
 Off:Int
 Len:Int
 deriving DecidableEq
def bD (x:cA):List AV:= [.sc (.int .i64 x.Vol),.sc (.int .i64 x.File),.sc (.int .i64 x.Off),.sc (.int .i64 x.Len)]
theorem p7:∀y,(bD y).length=4:=λy=>by first | rfl | simp[bD,bH,cF.len]
abbrev p9 (x:List cA):List AV:= [.sl none 4 (List.map bD x)]
structure aF where
 Seq:Int
 Man:aK
 Locs:List cA
 deriving DecidableEq
def bI (x:aF):List AV:= [.sc (.int .i64 x.Seq),.sc (.string x.Man.Name),.sl none 3 (List.map a9 x.Man.Parts),.sl none 4 (List.map bD x.Locs)]
theorem kQ:∀y,(bI y).length=4:=λy=>by first | rfl | simp[bI,bH,cF.len]
structure aB where
 Id:cF
 Staged:Bool
 Data:List Int
 Locs:List cA
 deriving DecidableEq
def aI (x:aB):List AV:=bH x.Id++ [.sc (.bool x.Staged),.sl none 1 (List.map bZ x.Data),.sl none 4 (List.map bD x.Locs)]
theorem fM:∀y,(aI y).length=35:=λy=>by first | rfl | simp[aI,bH,cF.len]
abbrev oZ (x:List aB):List AV:= [.sl none 35 (List.map aI x)]
structure aV where
 Seq:Int
 Of:Int
 Locs:List cA
 deriving DecidableEq
def eB (x:aV):List AV:= [.sc (.int .i64 x.Seq),.sc (.int .i64 x.Of),.sl none 4 (List.map bD x.Locs)]
theorem qA:∀y,(eB y).length=3:=λy=>by first | rfl | simp[eB,bH,cF.len]
structure e8 where
 Pool:Int
 Epoch:Int
 State:Int
 Files:Int
 deriving DecidableEq
def cD (x:e8):List AV:= [.sc (.int .i64 x.Pool),.sc (.int .i64 x.Epoch),.sc (.int .i64 x.State),.sc (.int .i64 x.Files)]
theorem qB:∀y,(cD y).length=4:=λy=>by first | rfl | simp[cD,bH,cF.len]
structure aD where
 Seq:Int
 Snaps:List aF
 Chunks:List aB
 Exps:List aV
 Vols:List e8
 deriving DecidableEq
def aM (x:aD):List AV:= [.sc (.int .i64 x.Seq),.sl none 4 (List.map bI x.Snaps),.sl none 35 (List.map aI x.Chunks),.sl none 3 (List.map eB x.Exps),.sl none 4 (List.map cD x.Vols)]
def jD:aD:= { Seq:=0,Snaps:= [],Chunks:= [],Exps:= [],Vols:= []}
structure bL where
 Kind:Int
 Id:cF
 Seq:Int
 Of:Int
 Off:Int
 Len:Int
 deriving DecidableEq
def bB (x:bL):List AV:= [.sc (.int .i64 x.Kind)]++bH x.Id++ [.sc (.int .i64 x.Seq),.sc (.int .i64 x.Of),.sc (.int .i64 x.Off),.sc (.int .i64 x.Len)]
abbrev rO (x:List bL):List AV:= [.sl none 37 (List.map bB x)]
structure aR where
 Kind:Int
 Snap:aF
 Chunks:List aB
 Seq:Int
 Vol:Int
 Items:List bL
 deriving DecidableEq
def aC (x:aR):List AV:= [.sc (.int .i64 x.Kind),.sc (.int .i64 x.Snap.Seq),.sc (.string x.Snap.Man.Name),.sl none 3 (List.map a9 x.Snap.Man.Parts),.sl none 4 (List.map bD x.Snap.Locs),.sl none 35 (List.map aI x.Chunks),.sc (.int .i64 x.Seq),.sc (.int .i64 x.Vol),.sl none 37 (List.map bB x.Items)]
theorem u2:Tryz.prog.underlying 2=some (.int .i64):=by kernel_rfl
theorem bQ:h9 Tryz.prog 3=some (false,1):=by kernel_rfl
theorem J4:iL Tryz.prog 3=some 1:=by kernel_rfl
theorem ON:n0 Tryz.prog 3=some .i64:=by kernel_rfl
theorem u3:Tryz.prog.underlying 3=some (.int .i64):=by kernel_rfl
theorem A0:h9 Tryz.prog 4=some (false,1):=by kernel_rfl
theorem PP:iL Tryz.prog 4=some 1:=by kernel_rfl
theorem u4:Tryz.prog.underlying 4=some .bool:=by kernel_rfl
theorem OO:(Tryz.prog.info? 4).bind (·.zero)=some (.bool false):=by kernel_rfl
theorem BZ:h9 Tryz.prog 5=some (false,1):=by kernel_rfl
theorem OP:n0 Tryz.prog 5=some .u8:=by kernel_rfl
theorem u5:Tryz.prog.underlying 5=some (.int .u8):=by kernel_rfl
theorem z7:oF Tryz.prog 9=some false:=by kernel_rfl
theorem mQ:h9 Tryz.prog 9=some (false,1):=by kernel_rfl
theorem u9:Tryz.prog.underlying 9=some .string:=by kernel_rfl
theorem GD:oF Tryz.prog 22=some true:=by kernel_rfl
theorem J5:kA Tryz.prog 22=some 1:=by kernel_rfl
theorem J6:gN Tryz.prog 22 3 1 8:=gN.of (by kernel_rfl) (by kernel_rfl) (by decide)
theorem xM:oF Tryz.prog 25=some true:=by kernel_rfl
theorem xN:kA Tryz.prog 25=some 4:=by kernel_rfl
theorem A1:gN Tryz.prog 25 60 4 72:=gN.of (by kernel_rfl) (by kernel_rfl) (by decide)
theorem n3:h9 Tryz.prog 25=some (false,1):=by kernel_rfl
theorem GF:iL Tryz.prog 25=some 1:=by kernel_rfl
theorem gJ:oF Tryz.prog 26=some true:=by kernel_rfl
theorem e9:kA Tryz.prog 26=some 35:=by kernel_rfl
theorem n4:gN Tryz.prog 26 44 35 88:=gN.of (by kernel_rfl) (by kernel_rfl) (by decide)
theorem dW:h9 Tryz.prog 26=some (false,1):=by kernel_rfl
theorem GG:iL Tryz.prog 26=some 1:=by kernel_rfl
theorem OQ:Tryz.prog.underlying 26=some (.slice 44):=by kernel_rfl
theorem DA:oF Tryz.prog 27=some true:=by kernel_rfl
theorem xO:kA Tryz.prog 27=some 3:=by kernel_rfl
theorem GH:gN Tryz.prog 27 99 3 40:=gN.of (by kernel_rfl) (by kernel_rfl) (by decide)
theorem sY:h9 Tryz.prog 27=some (false,1):=by kernel_rfl
theorem J7:iL Tryz.prog 27=some 1:=by kernel_rfl
theorem DB:oF Tryz.prog 28=some true:=by kernel_rfl
theorem A2:kA Tryz.prog 28=some 4:=by kernel_rfl
theorem A3:gN Tryz.prog 28 49 4 32:=gN.of (by kernel_rfl) (by kernel_rfl) (by decide)
theorem vO:h9 Tryz.prog 28=some (false,1):=by kernel_rfl
theorem GI:iL Tryz.prog 28=some 1:=by kernel_rfl
theorem fN:h9 Tryz.prog 30=some (true,5):=by kernel_rfl
theorem mK:iL Tryz.prog 30=some 5:=by kernel_rfl
theorem s3:iQ Tryz.prog 30 0=some (0,1):=by kernel_rfl
theorem lL:iQ Tryz.prog 30 1=some (1,1):=by kernel_rfl
theorem iF:iQ Tryz.prog 30 2=some (2,1):=by kernel_rfl
theorem nF:iQ Tryz.prog 30 3=some (3,1):=by kernel_rfl
theorem xP:iQ Tryz.prog 30 4=some (4,1):=by kernel_rfl
theorem vP:rJ Tryz.prog 30=some ([.int .i64 0,.slice none 0 0,.slice none 0 0,.slice none 0 0,.slice none 0 0], [(0,1),(1,1),(2,1),(3,1),(4,1)]):=by kernel_rfl
theorem s4:nW Tryz.prog 30=some [.int .i64 0,.slice none 0 0,.slice none 0 0,.slice none 0 0,.slice none 0 0]:=by kernel_rfl
theorem jW:oF Tryz.prog 33=some true:=by kernel_rfl
theorem xQ:kA Tryz.prog 33=some 37:=by kernel_rfl
theorem jX:h9 Tryz.prog 33=some (false,1):=by kernel_rfl
theorem PQ:Tryz.prog.underlying 33=some (.slice 38):=by kernel_rfl
theorem xR:AC Tryz.prog 36=some (32,1):=by kernel_rfl
theorem fW:h9 Tryz.prog 36=some (true,32):=by kernel_rfl
theorem GJ:iL Tryz.prog 36=some 32:=by kernel_rfl
theorem A4:Tryz.prog.underlying 36=some (.array 32 5):=by kernel_rfl
theorem rP:Tryz.prog.eqGuardType Tryz.prog.depth 36=false:=by kernel_rfl
theorem GK:nW Tryz.prog 36=some [.int .u8 0,.int .u8 0,.int .u8 0,.int .u8 0,.int .u8 0,.int .u8 0,.int .u8 0,.int .u8 0,.int .u8 0,.int .u8 0,.int .u8 0,.int .u8 0,.int .u8 0,.int .u8 0,.int .u8 0,.int .u8 0,.int .u8 0,.int .u8 0,.int .u8 0,.int .u8 0,.int .u8 0,.int .u8 0,.int .u8 0,.int .u8 0,.int .u8 0,.int .u8 0,.int .u8 0,.int .u8 0,.int .u8 0,.int .u8 0,.int .u8 0,.int .u8 0]:=by kernel_rfl
theorem vQ:h9 Tryz.prog 38=some (true,37):=by kernel_rfl
theorem vR:iL Tryz.prog 38=some 37:=by kernel_rfl
theorem DC:iQ Tryz.prog 38 0=some (0,1):=by kernel_rfl
theorem DD:eC Tryz.prog 38 0=some (0,3):=by kernel_rfl
theorem DE:iQ Tryz.prog 38 1=some (1,32):=by kernel_rfl
theorem DF:eC Tryz.prog 38 1=some (1,36):=by kernel_rfl
theorem DG:iQ Tryz.prog 38 2=some (33,1):=by kernel_rfl
theorem DH:eC Tryz.prog 38 2=some (33,3):=by kernel_rfl
theorem DI:iQ Tryz.prog 38 3=some (34,1):=by kernel_rfl
theorem DJ:eC Tryz.prog 38 3=some (34,3):=by kernel_rfl
theorem DK:iQ Tryz.prog 38 4=some (35,1):=by kernel_rfl
theorem DL:eC Tryz.prog 38 4=some (35,3):=by kernel_rfl
theorem DM:iQ Tryz.prog 38 5=some (36,1):=by kernel_rfl
theorem DN:eC Tryz.prog 38 5=some (36,3):=by kernel_rfl
theorem vS:nW Tryz.prog 38=some [.int .i64 0,.int .u8 0,.int .u8 0,.int .u8 0,.int .u8 0,.int .u8 0,.int .u8 0,.int .u8 0,.int .u8 0,.int .u8 0,.int .u8 0,.int .u8 0,.int .u8 0,.int .u8 0,.int .u8 0,.int .u8 0,.int .u8 0,.int .u8 0,.int .u8 0,.int .u8 0,.int .u8 0,.int .u8 0,.int .u8 0,.int .u8 0,.int .u8 0,.int .u8 0,.int .u8 0,.int .u8 0,.int .u8 0,.int .u8 0,.int .u8 0,.int .u8 0,.int .u8 0,.int .i64 0,.int .i64 0,.int .i64 0,.int .i64 0]:=by kernel_rfl
theorem iG:oF Tryz.prog 41=some true:=by kernel_rfl
theorem A5:kA Tryz.prog 41=some 1:=by kernel_rfl
theorem fO:gN Tryz.prog 41 5 1 1:=gN.of (by kernel_rfl) (by kernel_rfl) (by decide)
theorem lM:h9 Tryz.prog 41=some (false,1):=by kernel_rfl
theorem GL:iL Tryz.prog 41=some 1:=by kernel_rfl
theorem PR:Tryz.prog.underlying 41=some (.slice 5):=by kernel_rfl
theorem i6:oF Tryz.prog 42=some true:=by kernel_rfl
theorem xS:kA Tryz.prog 42=some 4:=by kernel_rfl
theorem GM:gN Tryz.prog 42 81 4 32:=gN.of (by kernel_rfl) (by kernel_rfl) (by decide)
theorem gK:h9 Tryz.prog 42=some (false,1):=by kernel_rfl
theorem DO:iL Tryz.prog 42=some 1:=by kernel_rfl
theorem PS:Tryz.prog.underlying 42=some (.slice 81):=by kernel_rfl
theorem rQ:h9 Tryz.prog 44=some (true,35):=by kernel_rfl
theorem DP:iL Tryz.prog 44=some 35:=by kernel_rfl
theorem xT:iQ Tryz.prog 44 0=some (0,32):=by kernel_rfl
theorem DQ:eC Tryz.prog 44 0=some (0,36):=by kernel_rfl
theorem DR:iQ Tryz.prog 44 1=some (32,1):=by kernel_rfl
theorem DS:eC Tryz.prog 44 1=some (32,4):=by kernel_rfl
theorem lN:iQ Tryz.prog 44 2=some (33,1):=by kernel_rfl
theorem DT:eC Tryz.prog 44 2=some (33,41):=by kernel_rfl
theorem xU:iQ Tryz.prog 44 3=some (34,1):=by kernel_rfl
theorem DU:eC Tryz.prog 44 3=some (34,42):=by kernel_rfl
theorem J8:rJ Tryz.prog 44=some ([.int .u8 0,.int .u8 0,.int .u8 0,.int .u8 0,.int .u8 0,.int .u8 0,.int .u8 0,.int .u8 0,.int .u8 0,.int .u8 0,.int .u8 0,.int .u8 0,.int .u8 0,.int .u8 0,.int .u8 0,.int .u8 0,.int .u8 0,.int .u8 0,.int .u8 0,.int .u8 0,.int .u8 0,.int .u8 0,.int .u8 0,.int .u8 0,.int .u8 0,.int .u8 0,.int .u8 0,.int .u8 0,.int .u8 0,.int .u8 0,.int .u8 0,.int .u8 0,.bool false,.slice none 0 0,.slice none 0 0], [(0,32),(32,1),(33,1),(34,1)]):=by kernel_rfl
theorem vT:nW Tryz.prog 44=some [.int .u8 0,.int .u8 0,.int .u8 0,.int .u8 0,.int .u8 0,.int .u8 0,.int .u8 0,.int .u8 0,.int .u8 0,.int .u8 0,.int .u8 0,.int .u8 0,.int .u8 0,.int .u8 0,.int .u8 0,.int .u8 0,.int .u8 0,.int .u8 0,.int .u8 0,.int .u8 0,.int .u8 0,.int .u8 0,.int .u8 0,.int .u8 0,.int .u8 0,.int .u8 0,.int .u8 0,.int .u8 0,.int .u8 0,.int .u8 0,.int .u8 0,.int .u8 0,.bool false,.slice none 0 0,.slice none 0 0]:=by kernel_rfl
theorem J9:h9 Tryz.prog 49=some (true,4):=by kernel_rfl
theorem KA:iL Tryz.prog 49=some 4:=by kernel_rfl
theorem KB:rJ Tryz.prog 49=some ([.int .i64 0,.int .i64 0,.int .i64 0,.int .i64 0], [(0,1),(1,1),(2,1),(3,1)]):=by kernel_rfl
theorem GO:nW Tryz.prog 49=some [.int .i64 0,.int .i64 0,.int .i64 0,.int .i64 0]:=by kernel_rfl
theorem kR:oF Tryz.prog 56=some true:=by kernel_rfl
theorem lO:kA Tryz.prog 56=some 3:=by kernel_rfl
theorem GP:gN Tryz.prog 56 70 3 48:=gN.of (by kernel_rfl) (by kernel_rfl) (by decide)
theorem fX:h9 Tryz.prog 56=some (false,1):=by kernel_rfl
theorem KC:iL Tryz.prog 56=some 1:=by kernel_rfl
theorem PT:Tryz.prog.underlying 56=some (.slice 70):=by kernel_rfl
theorem kT:h9 Tryz.prog 58=some (true,2):=by kernel_rfl
theorem GQ:iL Tryz.prog 58=some 2:=by kernel_rfl
theorem DV:iQ Tryz.prog 58 0=some (0,1):=by kernel_rfl
theorem DW:eC Tryz.prog 58 0=some (0,9):=by kernel_rfl
theorem jY:iQ Tryz.prog 58 1=some (1,1):=by kernel_rfl
theorem DX:eC Tryz.prog 58 1=some (1,56):=by kernel_rfl
theorem KD:rJ Tryz.prog 58=some ([.string ByteArray.empty,.slice none 0 0], [(0,1),(1,1)]):=by kernel_rfl
theorem KE:nW Tryz.prog 58=some [.string ByteArray.empty,.slice none 0 0]:=by kernel_rfl
theorem xV:h9 Tryz.prog 60=some (true,4):=by kernel_rfl
theorem KF:iL Tryz.prog 60=some 4:=by kernel_rfl
theorem xW:iQ Tryz.prog 60 0=some (0,1):=by kernel_rfl
theorem DY:eC Tryz.prog 60 0=some (0,3):=by kernel_rfl
theorem qC:iQ Tryz.prog 60 1=some (1,2):=by kernel_rfl
theorem DZ:eC Tryz.prog 60 1=some (1,58):=by kernel_rfl
theorem s5:iQ Tryz.prog 60 2=some (3,1):=by kernel_rfl
theorem D0:eC Tryz.prog 60 2=some (3,42):=by kernel_rfl
theorem D1:rJ Tryz.prog 60=some ([.int .i64 0,.string ByteArray.empty,.slice none 0 0,.slice none 0 0], [(0,1),(1,2),(3,1)]):=by kernel_rfl
theorem D2:nW Tryz.prog 60=some [.int .i64 0,.string ByteArray.empty,.slice none 0 0,.slice none 0 0]:=by kernel_rfl
theorem mL:h9 Tryz.prog 62=some (true,9):=by kernel_rfl
theorem GR:iL Tryz.prog 62=some 9:=by kernel_rfl
theorem D3:iQ Tryz.prog 62 0=some (0,1):=by kernel_rfl
theorem D4:eC Tryz.prog 62 0=some (0,3):=by kernel_rfl
theorem nG:iQ Tryz.prog 62 1=some (1,4):=by kernel_rfl
theorem D5:eC Tryz.prog 62 1=some (1,60):=by kernel_rfl
theorem xX:iQ Tryz.prog 62 2=some (5,1):=by kernel_rfl
theorem D6:eC Tryz.prog 62 2=some (5,26):=by kernel_rfl
theorem D7:eC Tryz.prog 62 3=some (6,3):=by kernel_rfl
theorem D8:eC Tryz.prog 62 4=some (7,3):=by kernel_rfl
theorem D9:eC Tryz.prog 62 5=some (8,33):=by kernel_rfl
theorem GS:rJ Tryz.prog 62=some ([.int .i64 0,.int .i64 0,.string ByteArray.empty,.slice none 0 0,.slice none 0 0,.slice none 0 0,.int .i64 0,.int .i64 0,.slice none 0 0], [(0,1),(1,4),(5,1),(6,1),(7,1),(8,1)]):=by kernel_rfl
theorem GT:nW Tryz.prog 62=some [.int .i64 0,.int .i64 0,.string ByteArray.empty,.slice none 0 0,.slice none 0 0,.slice none 0 0,.int .i64 0,.int .i64 0,.slice none 0 0]:=by kernel_rfl
theorem u64:Tryz.prog.underlying 64=some (.slice 95):=by kernel_rfl
theorem lP:oF Tryz.prog 68=some true:=by kernel_rfl
theorem xY:kA Tryz.prog 68=some 32:=by kernel_rfl
theorem GU:gN Tryz.prog 68 36 32 32:=gN.of (by kernel_rfl) (by kernel_rfl) (by decide)
theorem kU:h9 Tryz.prog 68=some (false,1):=by kernel_rfl
theorem KG:iL Tryz.prog 68=some 1:=by kernel_rfl
theorem PU:Tryz.prog.underlying 68=some (.slice 36):=by kernel_rfl
theorem s6:h9 Tryz.prog 70=some (true,3):=by kernel_rfl
theorem rR:iL Tryz.prog 70=some 3:=by kernel_rfl
theorem xZ:iQ Tryz.prog 70 0=some (0,1):=by kernel_rfl
theorem EA:eC Tryz.prog 70 0=some (0,9):=by kernel_rfl
theorem EB:eC Tryz.prog 70 1=some (1,3):=by kernel_rfl
theorem yA:iQ Tryz.prog 70 2=some (2,1):=by kernel_rfl
theorem EC:eC Tryz.prog 70 2=some (2,68):=by kernel_rfl
theorem qD:nW Tryz.prog 70=some [.string ByteArray.empty,.int .i64 0,.slice none 0 0]:=by kernel_rfl
theorem yB:h9 Tryz.prog 81=some (true,4):=by kernel_rfl
theorem KH:iL Tryz.prog 81=some 4:=by kernel_rfl
theorem ED:eC Tryz.prog 81 0=some (0,3):=by kernel_rfl
theorem EE:eC Tryz.prog 81 1=some (1,3):=by kernel_rfl
theorem EF:eC Tryz.prog 81 2=some (2,3):=by kernel_rfl
theorem EG:eC Tryz.prog 81 3=some (3,3):=by kernel_rfl
theorem GV:nW Tryz.prog 81=some [.int .i64 0,.int .i64 0,.int .i64 0,.int .i64 0]:=by kernel_rfl
theorem KI:h9 Tryz.prog 99=some (true,3):=by kernel_rfl
theorem KJ:iL Tryz.prog 99=some 3:=by kernel_rfl
theorem yC:iQ Tryz.prog 99 2=some (2,1):=by kernel_rfl
theorem GW:nW Tryz.prog 99=some [.int .i64 0,.int .i64 0,.slice none 0 0]:=by kernel_rfl
theorem nH:Tryz.prog.underlying 118=some (.map 3 117):=by kernel_rfl
theorem yD:Tryz.prog.underlying 175=some (.map 9 4):=by kernel_rfl
theorem mixed:Tryz.prog.follows .mixedOrders=true:=by kernel_rfl
def tb:Tr TI:=.node 114 bO (.node 60 ⟨some (true,4),none, [0,1,3]⟩ (.node 33 bO (.node 18 ⟨some (true,1),none, [0]⟩ (.node 9 bO (.node 4 bO (.node 2 ⟨some (false,1),some .i64, []⟩ (.node 1 bO .nil .nil) (.node 3 ⟨some (false,1),some .i64, []⟩ .nil .nil)) (.node 7 ⟨some (true,4),none, [0,1,2,3]⟩ (.node 5 ⟨some (false,1),some .u8, []⟩ .nil .nil) .nil)) (.node 15 bO (.node 13 ⟨some (true,2),none, [0,1]⟩ (.node 12 ⟨some (false,1),some .u64, []⟩ .nil .nil) .nil) (.node 17 bO (.node 16 bO .nil .nil) .nil))) (.node 27 bO (.node 24 bO (.node 22 bO (.node 21 ⟨some (false,1),some .i32, []⟩ .nil .nil) (.node 23 bO .nil .nil)) (.node 26 bO (.node 25 bO .nil .nil) .nil)) (.node 30 ⟨some (true,5),none, [0,1,2,3,4]⟩ (.node 29 ⟨some (true,5),none, [0,1,2,3,4]⟩ (.node 28 bO .nil .nil) .nil) (.node 32 bO (.node 31 bO .nil .nil) .nil)))) (.node 46 bO (.node 40 bO (.node 37 ⟨some (true,37),none, [0,1,33,34,35,36]⟩ (.node 35 bO (.node 34 bO .nil .nil) (.node 36 ⟨some (true,32),none, []⟩ .nil .nil)) (.node 39 bO (.node 38 ⟨some (true,37),none, [0,1,33,34,35,36]⟩ .nil .nil) .nil)) (.node 43 ⟨some (true,35),none, [0,32,33,34]⟩ (.node 42 bO (.node 41 bO .nil .nil) .nil) (.node 45 bO (.node 44 ⟨some (true,35),none, [0,32,33,34]⟩ .nil .nil) .nil))) (.node 54 bO (.node 50 bO (.node 48 ⟨some (true,4),none, [0,1,2,3]⟩ (.node 47 bO .nil .nil) (.node 49 ⟨some (true,4),none, [0,1,2,3]⟩ .nil .nil)) (.node 52 ⟨some (false,1),some .i64, []⟩ (.node 51 bO .nil .nil) .nil)) (.node 57 ⟨some (true,2),none, [0,1]⟩ (.node 56 bO (.node 55 bO .nil .nil) .nil) (.node 59 ⟨some (true,4),none, [0,1,3]⟩ (.node 58 ⟨some (true,2),none, [0,1]⟩ .nil .nil) .nil))))) (.node 88 bO (.node 73 bO (.node 67 ⟨some (true,5),none, [0,1,2,3,4]⟩ (.node 64 bO (.node 62 ⟨some (true,9),none, [0,1,5,6,7,8]⟩ (.node 61 ⟨some (true,9),none, [0,1,5,6,7,8]⟩ .nil .nil) (.node 63 ⟨some (false,1),some .u64, []⟩ .nil .nil)) (.node 66 ⟨some (true,5),none, [0,1,2,3,4]⟩ (.node 65 bO .nil .nil) .nil)) (.node 70 ⟨some (true,3),none, [0,1,2]⟩ (.node 69 ⟨some (true,3),none, [0,1,2]⟩ (.node 68 bO .nil .nil) .nil) (.node 72 bO (.node 71 bO .nil .nil) .nil))) (.node 81 ⟨some (true,4),none, [0,1,2,3]⟩ (.node 78 bO (.node 75 bO (.node 74 bO .nil .nil) (.node 76 bO .nil .nil)) (.node 80 ⟨some (true,4),none, [0,1,2,3]⟩ (.node 79 bO .nil .nil) .nil)) (.node 85 bO (.node 84 bO (.node 82 bO .nil .nil) .nil) (.node 87 bO (.node 86 bO .nil .nil) .nil)))) (.node 101 bO (.node 95 ⟨some (true,2),none, [0,1]⟩ (.node 92 bO (.node 90 bO (.node 89 bO .nil .nil) (.node 91 bO .nil .nil)) (.node 94 ⟨some (true,2),none, [0,1]⟩ (.node 93 bO .nil .nil) .nil)) (.node 98 ⟨some (true,3),none, [0,1,2]⟩ (.node 97 bO (.node 96 bO .nil .nil) .nil) (.node 100 bO (.node 99 ⟨some (true,3),none, [0,1,2]⟩ .nil .nil) .nil))) (.node 108 bO (.node 105 bO (.node 103 bO (.node 102 bO .nil .nil) (.node 104 bO .nil .nil)) (.node 107 bO (.node 106 bO .nil .nil) .nil)) (.node 111 bO (.node 110 bO (.node 109 bO .nil .nil) .nil) (.node 113 bO (.node 112 bO .nil .nil) .nil)))))) (.node 172 bO (.node 144 bO (.node 129 bO (.node 122 bO (.node 118 bO (.node 116 bO (.node 115 bO .nil .nil) (.node 117 bO .nil .nil)) (.node 121 bO (.node 120 bO .nil .nil) .nil)) (.node 125 bO (.node 124 bO (.node 123 bO .nil .nil) .nil) (.node 128 bO (.node 126 bO .nil .nil) .nil))) (.node 137 bO (.node 134 bO (.node 132 bO (.node 131 bO .nil .nil) (.node 133 bO .nil .nil)) (.node 136 bO (.node 135 bO .nil .nil) .nil)) (.node 140 bO (.node 139 bO (.node 138 bO .nil .nil) .nil) (.node 142 bO (.node 141 bO .nil .nil) .nil)))) (.node 159 bO (.node 152 bO (.node 149 bO (.node 146 bO (.node 145 bO .nil .nil) (.node 147 bO .nil .nil)) (.node 151 bO (.node 150 bO .nil .nil) .nil)) (.node 156 bO (.node 155 bO (.node 154 bO .nil .nil) .nil) (.node 158 bO (.node 157 bO .nil .nil) .nil))) (.node 166 bO (.node 163 bO (.node 161 bO (.node 160 bO .nil .nil) (.node 162 bO .nil .nil)) (.node 165 bO (.node 164 bO .nil .nil) .nil)) (.node 169 bO (.node 168 bO (.node 167 bO .nil .nil) .nil) (.node 171 bO (.node 170 bO .nil .nil) .nil))))) (.node 198 bO (.node 185 bO (.node 179 bO (.node 176 bO (.node 174 bO (.node 173 bO .nil .nil) (.node 175 bO .nil .nil)) (.node 178 bO (.node 177 bO .nil .nil) .nil)) (.node 182 bO (.node 181 ⟨some (true,64),none, []⟩ (.node 180 ⟨some (false,1),some .u32, []⟩ .nil .nil) .nil) (.node 184 bO (.node 183 ⟨some (true,8),none, []⟩ .nil .nil) .nil))) (.node 192 bO (.node 189 bO (.node 187 bO (.node 186 bO .nil .nil) (.node 188 bO .nil .nil)) (.node 191 bO (.node 190 bO .nil .nil) .nil)) (.node 195 bO (.node 194 bO (.node 193 bO .nil .nil) .nil) (.node 197 bO (.node 196 bO .nil .nil) .nil)))) (.node 211 bO (.node 205 bO (.node 202 bO (.node 200 bO (.node 199 bO .nil .nil) (.node 201 bO .nil .nil)) (.node 204 bO (.node 203 bO .nil .nil) .nil)) (.node 208 bO (.node 207 ⟨some (false,1),some .u64, []⟩ (.node 206 bO .nil .nil) .nil) (.node 210 bO (.node 209 bO .nil .nil) .nil))) (.node 218 ⟨some (true,0),none, []⟩ (.node 214 bO (.node 213 bO (.node 212 bO .nil .nil) .nil) (.node 216 ⟨some (true,4),none, [0,1,2,3]⟩ (.node 215 bO .nil .nil) .nil)) (.node 224 bO (.node 221 bO (.node 219 ⟨some (true,0),none, []⟩ .nil .nil) .nil) (.node 228 ⟨some (true,11),none, [0,1,2,3,4,5,6,7,8,9,10]⟩ (.node 225 bO .nil .nil) .nil))))))
theorem JI:sU Tryz.prog tb:=by unfold sU; kernel_rfl
section
variable {h:aA} {n:Nat} {c:Code} {kn:FR→HL→Prop} {ke:Exit→FR→HL→Prop} {f:FR} {L:HL} {id:Nat} {l:List Oper}
theorem v (k:vc tb false Tryz.prog h n c kn ke f L):VC Tryz.prog h n c kn ke f L:=JX JI c k
theorem v0 (k:vc tb true Tryz.prog h n c kn ke f L):VC Tryz.prog h n c kn ke f L:=JX JI c k
theorem vq (h2:rF 0 (l.map (mI l.toArray))=true) (k:vo true tb false Tryz.prog h n l kn l f L):VD Tryz.prog h n id l.toArray kn f L:=OB JI mixed h2 k
theorem KK (h2:rF 0 (l.map (mI l.toArray))=true) (k:vo true tb true Tryz.prog h n l kn l f L):VD Tryz.prog h n id l.toArray kn f L:=OB JI mixed h2 k
end
abbrev QY:=(List aF)×(List aB)×(List aV)
abbrev QZ:=(List aF)×(List aB)×(List aV)×(List e8)
abbrev A6 (g:eM) (e:List aF):Option aY×dX:=(g.t,.obj 60 (fl bI e g.sp))
abbrev yE (g:eM) (e:List aB):Option aY×dX:=(g.t,.obj 44 (fl aI e g.sp))
abbrev EH (g:eM) (e:List aV):Option aY×dX:=(g.t,.obj 99 (fl eB e g.sp))
abbrev EI (g:eM) (e:List e8):Option aY×dX:=(g.t,.obj 49 (fl cD e g.sp))
abbrev s7 (g:eM) (e:List cA):Option aY×dX:=(g.t,.obj 81 (fl bD e g.sp))
abbrev hO (k:aY) (q:Int) (a b c d:eM):Option aY×dX:=(some k,.obj 30 [nZ q,aZ a,aZ b,aZ c,aZ d])
abbrev hL (k:aY) (q:Int) (a b c d:eM) (s:List aF) (t:List aB) (u:List aV) (v:List e8):HL:= [hO k q a b c d,A6 a s,yE b t,EH c u,EI d v]
abbrev hC (k:aY) (x:aD) (a b c d:eM):HL:=hL k x.Seq a b c d x.Snaps x.Chunks x.Exps x.Vols
open Go.Vm
def n5 (m:Nat) (p0:Int) (p1:Int) (p2:Int):Option (Bool):=
 after (if (decide (p1≤p0))=true then (some (.brk (decide (p0≤p2)))) else some (.brk false):Option (Lp (Bool) (Bool))) λj4=>some j4
theorem qE {u:Nat} {p0:Int} {p1:Int} {p2:Int} {o:Bool} (h:aA) (m:n5 u p0 p1 p2=some o):
 aG Tryz.prog 57 [nZ p0,nZ p1,nZ p2] h (λr h'=>r= .sc (.bool o)∧h'=h):=by
 refine fC 15 [.tmp 6] Tryz.func57 rfl rfl rfl rfl ?_
 unfold n5 at m
 refine v (vs (eN m (σ:=Bool) (λs=> []) (λs=>.c 6 (.sc (.bool s)) .nil) (λx m=> ?_) ?_))
 refine v ?_
 apply vi m <;> intro b5 m
 rw[b5]
 exact dJ m
 rw[b5]
 exact dJ m
 rintro _ j4 m
 refine v ?_
 obtain rfl:=cX m
 exact cH rfl
theorem iH:aJ Tryz.prog 57=true:=by kernel_rfl
def s8 (m:Nat) (p0:List e8) (q0:Int):Option (Lp (Int) (Bool)):=
 if (decide (q0 < (p0.length:Int)))=true then ((ix p0 q0).bind λx0=>after (if (x0.State==2)=true then ((n5 m x0.Files 1 65535).bind λy0=>some (.brk y0)) else some (.brk false):Option (Lp (Bool) (Lp (Int) (Bool)))) λj0=>after (if (x0.State==1)=true then (some (.brk (x0.Files==0))) else if (x0.State==3)=true then (some (.brk (x0.Files==0))) else some (.brk false):Option (Lp (Bool) (Lp (Int) (Bool)))) λj1=>after ((n5 m x0.Pool 0 1).bind λy1=>if (!y1)=true then (some (.brk true)) else (n5 m x0.Epoch 0 1048576).bind λy2=>if (!y2)=true then (some (.brk true)) else if (!j0)=true then (some (.brk (!j1))) else some (.brk false):Option (Lp (Bool) (Lp (Int) (Bool)))) λj2=>if j2=true then (some (.ret false)) else some (.go (IntKind.wrap .i64 (q0+1)))) else some (.brk q0)
def KL (m:Nat) (p0:List e8):Option (Bool):=
 after (bC (λs=>s8 m p0 s) m 0) λr0=>(n5 m (p0.length:Int) 1 8).bind λy0=>some y0
theorem PW {w:Nat} {p0:List e8} {o:Bool} (h:aA) (m:KL w p0=some o):
 aG Tryz.prog 78 [.sl none 4 (List.map cD p0)] h (λr h'=>r= .sc (.bool o)∧h'=h):=by
 refine fC 56 [.tmp 2] Tryz.func78 rfl rfl rfl rfl ?_
 unfold KL at m
 refine v (v (cI DB rfl (mE m (σ:=Int) (λs=> []) (λs=>.c 0 (.sl none 4 (List.map cD p0)) (.c 7 (.sl none 4 (List.map cD p0)) (.c 8 (nZ (p0.length:Int)) (.c 9 (nZ s) .nil)))) (lx (.k4 .nil)) ?_ ?_)))
 rintro _ q0 x m
 replace m:s8 w p0 q0=some x:=m
 unfold s8 at m
 refine v (v ?_)
 apply vi m <;> intro c0 m
 refine v (v (v (vx m A2 rfl rfl λx0 _ m=>va (.agg (cD x0)) J9 rfl rfl (ve λu=>bN (BW) u GO rfl rfl λk105 K0=>qk K0 rfl (ve λu=>aQ 0 (cD x0) u rfl rfl rfl rfl KA rfl rfl λK1=>qk K1 rfl (vs (eN m (σ:=Bool) (λs=> [(some k105,.obj 49 (cD x0))]) (λs=>.c 0 (.sl none 4 (List.map cD p0)) (.c 4 (.ptr k105 0) (.c 5 (.sc (.bool s)) (.c 7 (.sl none 4 (List.map cD p0)) (.c 8 (nZ (p0.length:Int)) (.c 9 (nZ q0) .nil)))))) (λx m=> ?_) ?_)))))))
 refine v (vl 0 _ bQ rfl rfl rfl ?_)
 apply vi m <;> intro b0 m
 rw[b0]
 exact vl 0 _ bQ rfl rfl rfl (vk qE iH m rfl rfl λ_ m=>oY m)
 rw[b0]
 exact oY m
 rintro _ j0 m
 refine vs (eN m (σ:=Bool) (λs=> [(some k105,.obj 49 (cD x0))]) (λs=>.c 0 (.sl none 4 (List.map cD p0)) (.c 4 (.ptr k105 0) (.c 5 (.sc (.bool j0)) (.c 6 (.sc (.bool s)) (.c 7 (.sl none 4 (List.map cD p0)) (.c 8 (nZ (p0.length:Int)) (.c 9 (nZ q0) .nil))))))) (λx m=> ?_) ?_)
 refine v (vl 0 _ bQ rfl rfl rfl ?_)
 apply vi m <;> intro b1 m
 rw[b1]
 exact vl 0 _ bQ rfl rfl rfl (xI m)
 rw[b1]
 refine vl 0 _ bQ rfl rfl rfl ?_
 apply vi m <;> intro b2 m
 rw[b2]
 exact vl 0 _ bQ rfl rfl rfl (xI m)
 rw[b2]
 exact xI m
 rintro _ j1 m
 refine vs (eN m (σ:=Bool) (λs=> [(some k105,.obj 49 (cD x0))]) (λs=>.c 0 (.sl none 4 (List.map cD p0)) (.c 7 (.sl none 4 (List.map cD p0)) (.c 8 (nZ (p0.length:Int)) (.c 9 (nZ q0) (.c 51 (.sc (.bool s)) .nil))))) (λx m=> ?_) ?_)
 refine v (vl 0 _ bQ rfl rfl rfl (vk qE iH m rfl rfl λ_ m=> ?_))
 apply vi m <;> intro b3 m
 rw[b3]
 exact nE m
 rw[b3]
 refine vl 0 _ bQ rfl rfl rfl (vk qE iH m rfl rfl λ_ m=> ?_)
 apply vi m <;> intro b4 m
 rw[b4]
 exact nE m
 rw[b4]
 apply vi m <;> intro b5 m
 rw[b5]
 exact nE m
 rw[b5]
 exact nE m
 rintro _ j2 m
 refine v ?_
 apply vi m <;> intro c1 m
 refine v (v (kC m λm=> ?_))
 obtain rfl:=cX m
 exact cH rfl
 exact v (v (uL m (p4 [] rfl rfl (.k4 .nil))))
 exact v (C9 m)
 rintro _ r0 m
 refine v (cI DB rfl (vk qE iH m rfl rfl λ_ m=>v ?_))
 obtain rfl:=cX m
 exact cH rfl
theorem KM:aJ Tryz.prog 78=true:=by kernel_rfl
def EJ (m:Nat) (p0:cA) (p1:cA):Option (Bool):=
 if (p0.Vol !=p1.Vol)=true then (some (decide (p1.Vol < p0.Vol))) else if (p0.File !=p1.File)=true then (some (decide (p1.File < p0.File))) else some (decide (p1.Off < p0.Off))
theorem KN {u:Nat} {p0:cA} {p1:cA} {o:Bool} (h:aA) (m:EJ u p0 p1=some o):
 aG Tryz.prog 183 [.agg (bD p0),.agg (bD p1)] h (λr h'=>r= .sc (.bool o)∧h'=h):=by
 refine fC 32 [.tmp 4] Tryz.func183 rfl rfl rfl rfl ?_
 unfold EJ at m
 refine v (gH rfl rfl λk2 K3=>gH rfl rfl λk5 K6=>v (v (vl 1 _ bQ rfl rfl rfl (vl 0 _ bQ rfl rfl rfl (v ?_)))))
 apply vi m <;> intro c0 m
 refine v (vl 1 _ bQ rfl rfl rfl (vl 0 _ bQ rfl rfl rfl (v ?_)))
 cases m
 exact cH rfl
 refine v (vl 1 _ bQ rfl rfl rfl (vl 0 _ bQ rfl rfl rfl (v ?_)))
 apply vi m <;> intro c1 m
 refine v (vl 1 _ bQ rfl rfl rfl (vl 0 _ bQ rfl rfl rfl (v ?_)))
 cases m
 exact cH rfl
 refine v (v (vl 1 _ bQ rfl rfl rfl (vl 0 _ bQ rfl rfl rfl (v ?_))))
 cases m
 exact cH rfl
theorem GX:aJ Tryz.prog 183=true:=by kernel_rfl
def qF (m:Nat) (p0:aD) (p1:List cA) (q0:Int):Option (Lp (Int) (Bool)):=
 if (decide (q0 < (p1.length:Int)))=true then ((ix p1 q0).bind λx0=>after ((n5 m x0.Vol 0 (IntKind.wrap .i64 ((p0.Vols.length:Int) - 1))).bind λy0=>if (!y0)=true then (some (.brk true)) else (ix p0.Vols x0.Vol).bind λx1=>if (x1.State !=2)=true then (some (.brk true)) else (ix p0.Vols x0.Vol).bind λx2=>(n5 m x0.File 1 x2.Files).bind λy1=>if (!y1)=true then (some (.brk true)) else (n5 m x0.Off 0 16777215).bind λy2=>if (!y2)=true then (some (.brk true)) else (n5 m x0.Len 13 8013).bind λy3=>if (!y3)=true then (some (.brk true)) else if (decide (0 < q0))=true then ((ix p1 (IntKind.wrap .i64 (q0 - 1))).bind λx3=>(EJ m x0 x3).bind λy4=>some (.brk (!y4))) else some (.brk false):Option (Lp (Bool) (Lp (Int) (Bool)))) λj0=>if j0=true then (some (.ret false)) else some (.go (IntKind.wrap .i64 (q0+1)))) else some (.brk q0)
def rS (m:Nat) (p0:aD) (p1:List cA):Option (Bool):=
 if (decide (200 < (p1.length:Int)))=true then (some false) else after (bC (λs=>qF m p0 p1 s) m 0) λr0=>some true
theorem vU {w:Nat} {p0:aD} {p1:List cA} {o:Bool} (h:aA) (m:rS w p0 p1=some o):
 aG Tryz.prog 137 [.agg (aM p0),.sl none 4 (List.map bD p1)] h (λr h'=>r= .sc (.bool o)∧h'=h):=by
 refine fC 75 [.tmp 4] Tryz.func137 rfl rfl rfl rfl ?_
 unfold rS at m
 refine v (gH rfl rfl λk2 K3=>v (cI i6 rfl (v ?_)))
 apply vi m <;> intro c7 m
 refine v (v ?_)
 obtain rfl:=cX m
 exact cH rfl
 refine v (v (cI i6 rfl (mE m (σ:=Int) (λs=> [(some k2,.obj 30 (aM p0))]) (λs=>.c 1 (.sl none 4 (List.map bD p1)) (.c 2 (.ptr k2 0) (.c 10 (.sl none 4 (List.map bD p1)) (.c 11 (nZ (p1.length:Int)) (.c 12 (nZ s) .nil))))) (lx (.k5 .nil)) ?_ ?_)))
 rintro _ q0 x m
 replace m:qF w p0 p1 q0=some x:=m
 unfold qF at m
 refine v (v ?_)
 apply vi m <;> intro c0 m
 refine v (v (v (vx m xS rfl rfl λx0 _ m=>va (.agg (bD x0)) yB rfl rfl (ve λu=>bN (BW) u GV rfl rfl λk140 K0=>qk K0 rfl (ve λu=>aQ 0 (bD x0) u rfl rfl rfl rfl KH rfl rfl λK1=>qk K1 rfl (vs (eN m (σ:=Bool) (λs=> [(some k140,.obj 81 (bD x0)),(some k2,.obj 30 (aM p0))]) (λs=>.c 1 (.sl none 4 (List.map bD p1)) (.c 2 (.ptr k2 0) (.c 10 (.sl none 4 (List.map bD p1)) (.c 11 (nZ (p1.length:Int)) (.c 12 (nZ q0) (.c 73 (.sc (.bool s)) .nil)))))) (λx m=> ?_) ?_)))))))
 refine v (vq (by kernel_rfl) (vl 0 _ bQ rfl rfl rfl (vl 1 _ vO rfl rfl rfl (cI DB rfl (vk qE iH m rfl rfl λ_ m=> ?_)))))
 apply vi m <;> intro b0 m
 rw[b0]
 exact oY m
 rw[b0]
 refine vl 1 _ vO rfl rfl rfl (vl 0 _ bQ rfl rfl rfl (vx m A2 rfl rfl λ_ _ m=> ?_))
 apply vi m <;> intro b1 m
 rw[b1]
 exact oY m
 rw[b1]
 refine vl 0 _ bQ rfl rfl rfl (vl 1 _ vO rfl rfl rfl (vl 0 _ bQ rfl rfl rfl (vx m A2 rfl rfl λ_ _ m=>vk qE iH m rfl rfl λ_ m=> ?_)))
 apply vi m <;> intro b2 m
 rw[b2]
 exact oY m
 rw[b2]
 refine vl 0 _ bQ rfl rfl rfl (vk qE iH m rfl rfl λ_ m=> ?_)
 apply vi m <;> intro b3 m
 rw[b3]
 exact oY m
 rw[b3]
 refine vl 0 _ bQ rfl rfl rfl (vk qE iH m rfl rfl λ_ m=> ?_)
 apply vi m <;> intro b4 m
 rw[b4]
 exact oY m
 rw[b4]
 apply vi m <;> intro b5 m
 rw[b5]
 exact vl 0 (.agg (bD x0)) yB rfl rfl rfl (vx m xS rfl rfl λx1 _ m=>va (.agg (bD x1)) yB rfl rfl (vk KN GX m rfl rfl λ_ m=>oY m))
 rw[b5]
 exact oY m
 rintro _ j0 m
 refine v ?_
 apply vi m <;> intro c1 m
 refine v (v (kC m λm=> ?_))
 obtain rfl:=cX m
 exact cH rfl
 exact v (v (uL m (p4 [1] rfl rfl (.k5 .nil))))
 exact v (J2 m)
 rintro _ r0 m
 refine v (v ?_)
 obtain rfl:=cX m
 exact cH rfl
theorem o0:aJ Tryz.prog 137=true:=by kernel_rfl
def kV (m:Nat) (p0:ByteArray) (q0:Int):Option (Lp (Int) (Bool)):=
 if (decide (q0 < (p0.size:Int)))=true then (after ((AN p0 q0).bind λx0=>if (decide (x0 < 33))=true then (some (.brk true)) else (AN p0 q0).bind λx1=>some (.brk (decide (126 < x1))):Option (Lp (Bool) (Lp (Int) (Bool)))) λj0=>if j0=true then (some (.ret false)) else some (.go (IntKind.wrap .i64 (q0+1)))) else some (.brk q0)
def vV (m:Nat) (p0:ByteArray):Option (Bool):=
 after (if (decide ((p0.size:Int) < 1))=true then (some (.brk true)) else some (.brk (decide (20 < (p0.size:Int)))):Option (Lp (Bool) (Bool))) λj5=>if j5=true then (some false) else after (bC (λs=>kV m p0 s) m 0) λr0=>some true
theorem GY {u:Nat} {p0:ByteArray} {o:Bool} (h:aA) (m:vV u p0=some o):
 aG Tryz.prog 164 [.sc (.string p0)] h (λr h'=>r= .sc (.bool o)∧h'=h):=by
 refine fC 28 [.tmp 2] Tryz.func164 rfl rfl rfl rfl ?_
 unfold vV at m
 refine v (vs (vs (eN m (σ:=Bool) (λs=> []) (λs=>.c 0 (.sc (.string p0)) (.c 11 (.sc (.bool s)) .nil)) (λx m=> ?_) ?_)))
 refine v (dK (gX z7 rfl) ?_)
 apply vi m <;> intro b6 m
 rw[b6]
 exact iE m
 rw[b6]
 exact dK (gX z7 rfl) (iE m)
 rintro _ j5 m
 refine v ?_
 apply vi m <;> intro c8 m
 refine v (v ?_)
 obtain rfl:=cX m
 exact cH rfl
 refine v (v (dK (gX z7 rfl) (mE m (σ:=Int) (λs=> []) (λs=>.c 0 (.sc (.string p0)) (.c 13 (nZ (p0.size:Int)) (.c 14 (nZ s) .nil))) (lx (.k3 .nil)) ?_ ?_)))
 rintro _ q0 x m
 replace m:kV u p0 q0=some x:=m
 unfold kV at m
 refine v (v ?_)
 apply vi m <;> intro c0 m
 refine v (v (v (vs (eN m (σ:=Bool) (λs=> []) (λs=>.c 0 (.sc (.string p0)) (.c 13 (nZ (p0.size:Int)) (.c 14 (nZ q0) (.c 26 (.sc (.bool s)) .nil)))) (λx m=> ?_) ?_))))
 refine v ?_
 obtain⟨_,X0,m⟩:=aE m
 refine dK (uF X0 u9 rfl rfl) ?_
 apply vi m <;> intro b0 m
 rw[b0]
 exact jK m
 rw[b0]
 obtain⟨_,X1,m⟩:=aE m
 exact dK (uF X1 u9 rfl rfl) (jK m)
 rintro _ j0 m
 refine v ?_
 apply vi m <;> intro c1 m
 refine v (v (kC m λm=> ?_))
 obtain rfl:=cX m
 exact cH rfl
 exact v (v (f8 m))
 exact v (C8 m)
 rintro _ r0 m
 refine v (v ?_)
 obtain rfl:=cX m
 exact cH rfl
theorem B0:aJ Tryz.prog 164=true:=by kernel_rfl
def yF (m:Nat) (p0:dR):Option (Bool):=
 after ((vV m p0.Path).bind λy0=>if y0=true then (if (decide (0≤p0.Size))=true then (if (decide (p0.Size≤200))=true then (if (decide ((p0.Ids.length:Int)≤25))=true then (some (.brk (((p0.Ids.length:Int)==0)==(p0.Size==0)))) else some (.brk false)) else some (.brk false)) else some (.brk false)) else some (.brk false):Option (Lp (Bool) (Bool))) λj0=>some j0
theorem KO {u:Nat} {p0:dR} {o:Bool} (h:aA) (m:yF u p0=some o):
 aG Tryz.prog 165 [.agg (a9 p0)] h (λr h'=>r= .sc (.bool o)∧h'=h):=by
 refine fC 32 [.tmp 2] Tryz.func165 rfl rfl rfl rfl ?_
 unfold yF at m
 refine v (gH rfl rfl λk2 K3=>vs (eN m (σ:=Bool) (λs=> [(some k2,.obj 70 (a9 p0))]) (λs=>.c 2 (.sc (.bool s)) .nil) (λx m=> ?_) ?_))
 refine v (vl 0 _ mQ rfl rfl rfl (vk GY B0 m rfl rfl λ_ m=> ?_))
 apply vi m <;> intro b0 m
 rw[b0]
 refine vl 0 _ bQ rfl rfl rfl ?_
 apply vi m <;> intro b1 m
 rw[b1]
 refine vl 0 _ bQ rfl rfl rfl ?_
 apply vi m <;> intro b2 m
 rw[b2]
 refine vl 0 _ kU rfl rfl rfl (cI lP rfl ?_)
 apply vi m <;> intro b3 m
 rw[b3]
 exact vl 0 _ kU rfl rfl rfl (cI lP rfl (vl 0 _ bQ rfl rfl rfl (dK (AM u4 rfl rfl rfl) (dJ m))))
 rw[b3]
 exact dJ m
 rw[b2]
 exact dJ m
 rw[b1]
 exact dJ m
 rw[b0]
 exact dJ m
 rintro _ j0 m
 refine v ?_
 obtain rfl:=cX m
 exact cH rfl
theorem GZ:aJ Tryz.prog 165=true:=by kernel_rfl
def kW (m:Nat) (p0:aK) (q0:Int):Option (Lp (Int) (Int)):=
 if (decide (q0 < (p0.Parts.length:Int)))=true then ((ix p0.Parts q0).bind λx0=>after ((yF m x0).bind λy0=>if (!y0)=true then (some (.brk true)) else if (decide (0 < q0))=true then ((ix p0.Parts (IntKind.wrap .i64 (q0 - 1))).bind λx1=>some (.brk (Op.bytesLess x0.Path.toList x1.Path.toList || x0.Path.toList==x1.Path.toList))) else some (.brk false):Option (Lp (Bool) (Lp (Int) (Int)))) λj0=>if j0=true then (some (.ret 1)) else some (.go (IntKind.wrap .i64 (q0+1)))) else some (.brk q0)
def rT (m:Nat) (p0:aK):Option (Int):=
 after ((vV m p0.Name).bind λy0=>if (!y0)=true then (some (.brk true)) else some (.brk (decide (6 < (p0.Parts.length:Int)))):Option (Lp (Bool) (Int))) λj0=>if j0=true then (some 1) else after (bC (λs=>kW m p0 s) m 0) λr0=>some 0
theorem A7 {w:Nat} {p0:aK} {o:Int} (h:aA) (m:rT w p0=some o):
 aG Tryz.prog 100 [.agg (aH p0)] h (λr h'=>r=nZ o∧h'=h):=by
 refine fC 43 [.tmp 2] Tryz.func100 rfl rfl rfl rfl ?_
 unfold rT at m
 refine v (gH rfl rfl λk2 K3=>vs (vs (eN m (σ:=Bool) (λs=> [(some k2,.obj 58 (aH p0))]) (λs=>.c 1 (.ptr k2 0) (.c 14 (.sc (.bool s)) .nil)) (λx m=> ?_) ?_)))
 refine v (vl 0 _ mQ rfl rfl rfl (vk GY B0 m rfl rfl λ_ m=> ?_))
 apply vi m <;> intro b0 m
 rw[b0]
 exact iE m
 rw[b0]
 exact vl 0 _ fX rfl rfl rfl (cI kR rfl (iE m))
 rintro _ j0 m
 refine v ?_
 apply vi m <;> intro c0 m
 refine v (v ?_)
 obtain rfl:=cX m
 exact cH rfl
 refine v (v (vl 0 _ fX rfl rfl rfl (cI kR rfl (mE m (σ:=Int) (λs=> [(some k2,.obj 58 (aH p0))]) (λs=>.c 1 (.ptr k2 0) (.c 16 (.sl none 3 (List.map a9 p0.Parts)) (.c 17 (nZ (p0.Parts.length:Int)) (.c 18 (nZ s) .nil)))) (lx (.k4 .nil)) ?_ ?_))))
 rintro _ q0 x m
 replace m:kW w p0 q0=some x:=m
 unfold kW at m
 refine v (v ?_)
 apply vi m <;> intro c1 m
 refine v (v (v (vx m lO rfl rfl λx0 _ m=>va (.agg (a9 x0)) s6 rfl rfl (ve λu=>bN (BX) u qD rfl rfl λk84 K0=>qk K0 rfl (ve λu=>aQ 0 (a9 x0) u rfl rfl rfl rfl rR rfl rfl λK1=>qk K1 rfl (vs (eN m (σ:=Bool) (λs=> [(some k84,.obj 70 (a9 x0)),(some k2,.obj 58 (aH p0))]) (λs=>.c 1 (.ptr k2 0) (.c 16 (.sl none 3 (List.map a9 p0.Parts)) (.c 17 (nZ (p0.Parts.length:Int)) (.c 18 (nZ q0) (.c 41 (.sc (.bool s)) .nil))))) (λx m=> ?_) ?_)))))))
 refine v (vq (by kernel_rfl) (vl 0 (.agg (a9 x0)) s6 rfl rfl rfl (vk KO GZ m rfl rfl λ_ m=> ?_)))
 apply vi m <;> intro b1 m
 rw[b1]
 exact nE m
 rw[b1]
 apply vi m <;> intro b2 m
 rw[b2]
 exact vl 0 _ mQ rfl rfl rfl (vl 1 _ fX rfl rfl rfl (vx m lO rfl rfl λ_ _ m=>dK (sN rfl rfl rfl trivial) (nE m)))
 rw[b2]
 exact nE m
 rintro _ j1 m
 refine v ?_
 apply vi m <;> intro c2 m
 refine v (v (kC m λm=> ?_))
 obtain rfl:=cX m
 exact cH rfl
 exact v (v (uL m (p4 [1] rfl rfl (.k4 .nil))))
 exact v (C9 m)
 rintro _ r0 m
 refine v (v ?_)
 obtain rfl:=cX m
 exact cH rfl
theorem uN:aJ Tryz.prog 100=true:=by kernel_rfl
def qG (m:Nat) (p0:List aB) (p1:cF) (p2:aB→cF→Option Int) (q0:Int) (q1:Int):Option (Lp (Int×Int) (Int×Bool)):=
 if (decide (q0 < q1))=true then ((ix p0 (IntKind.wrap .i64 ((IntKind.wrap .u64 (IntKind.wrap .i64 (q0+q1))).fdiv (2 ^ (min (1:Int).toNat (IntKind.bits .u64)))))).bind λx0=>(p2 x0 p1).bind λy0=>after (if (decide (y0 < 0))=true then (some (.brk (IntKind.wrap .i64 ((IntKind.wrap .i64 ((IntKind.wrap .u64 (IntKind.wrap .i64 (q0+q1))).fdiv (2 ^ (min (1:Int).toNat (IntKind.bits .u64)))))+1),q1))) else some (.brk (q0,IntKind.wrap .i64 ((IntKind.wrap .u64 (IntKind.wrap .i64 (q0+q1))).fdiv (2 ^ (min (1:Int).toNat (IntKind.bits .u64)))))):Option (Lp (Int×Int) (Lp (Int×Int) (Int×Bool)))) λ⟨j0,j1⟩=>some (.go (j0,j1))) else some (.brk (q0,q1))
def EK (m:Nat) (p0:List aB) (p1:cF) (p2:aB→cF→Option Int):Option (Int×Bool):=
 after (bC (λs=>qG m p0 p1 p2 s.1 s.2) m (0,(p0.length:Int))) λ⟨r0,r1⟩=>after (if (decide (r0 < (p0.length:Int)))=true then ((ix p0 r0).bind λx0=>(p2 x0 p1).bind λy0=>some (.brk (r0,(y0==0)))) else some (.brk (r0,false)):Option (Lp (Int×Bool) (Int×Bool))) λ⟨j0,j1⟩=>some (j0,j1)
theorem KP {w:Nat} {p0:List aB} {p1:cF} {p2:aB→cF→Option Int} {o:Int×Bool} (h:aA) {p2F:Nat} {p2C:List AV} (p2B:aJ Tryz.prog p2F=true) (p2H:∀x0 x1 o h0,eO h h0→p2 x0 x1=some o→aG Tryz.prog p2F ([.agg (aI x0),.agg (bH x1)]++p2C) h0 (λr h'=>r=nZ o∧h'=h0)) (m:EK w p0 p1 p2=some o):
 aG Tryz.prog 171 [.sl none 35 (List.map aI p0),.agg (bH p1),.fn (.func p2F) p2C] h (λr h'=>r= .tup [nZ o.1,.sc (.bool o.2)]∧h'=h):=by
 refine fC 49 [.tmp 6,.tmp 7] Tryz.func171 rfl rfl rfl rfl ?_
 unfold EK at m
 refine v (gH rfl rfl λk2 K3=>v (cI gJ rfl (v (vs (mE m (σ:=Int×Int) (λs=> [(some k2,.obj 36 (bH p1))]) (λs=>.c 0 (.sl none 35 (List.map aI p0)) (.c 2 (.fn (.func p2F) p2C) (.c 4 (.ptr k2 0) (.c 8 (nZ (p0.length:Int)) (.c 9 (nZ s.1) (.c 10 (nZ s.2) .nil)))))) (lx (.k6 .nil)) ?_ ?_)))))
 rintro _ ⟨q0,q1⟩ x m
 replace m:qG w p0 p1 p2 q0 q1=some x:=m
 unfold qG at m
 refine v (v ?_)
 apply vi m <;> intro c0 m
 refine v (v (v (v (vq (by kernel_rfl) (vx m e9 rfl rfl λx2 _ m=>va (.agg (aI x2)) rQ rfl rfl (vl 0 (.agg (bH p1)) fW rfl rfl rfl ?_))))))
 obtain⟨_,Y0,m⟩:=aE m
 refine vn (λu=>cK (p2H _ _ _ _ (aW (List.nil_sublist _) u).1 Y0) rfl p2B rfl) (eN m (σ:=Int×Int) (λs=> [(some k2,.obj 36 (bH p1))]) (λs=>.c 0 (.sl none 35 (List.map aI p0)) (.c 2 (.fn (.func p2F) p2C) (.c 4 (.ptr k2 0) (.c 8 (nZ (p0.length:Int)) (.c 9 (nZ s.1) (.c 10 (nZ s.2) .nil)))))) (λx m=> ?_) ?_)
 refine v ?_
 apply vi m <;> intro c1 m
 exact v (oY m)
 exact v (oY m)
 rintro _ ⟨j0,j1⟩ m
 exact oY m
 exact v (PN m)
 rintro _ ⟨r0,r1⟩ m
 refine vs (eN m (σ:=Int×Bool) (λs=> [(some k2,.obj 36 (bH p1))]) (λs=>.c 6 (nZ s.1) (.c 7 (.sc (.bool s.2)) .nil)) (λx m=> ?_) ?_)
 refine v (vq (by kernel_rfl) ?_)
 apply vi m <;> intro b0 m
 rw[b0]
 refine vx m e9 rfl rfl λx3 _ m=>va (.agg (aI x3)) rQ rfl rfl (vl 0 (.agg (bH p1)) fW rfl rfl rfl ?_)
 obtain⟨_,Y1,m⟩:=aE m
 exact vn (λu=>cK (p2H _ _ _ _ (aW (List.nil_sublist _) u).1 Y1) rfl p2B rfl) (iE m)
 rw[b0]
 exact iE m
 rintro _ ⟨j2,j3⟩ m
 refine v ?_
 cases m
 exact OL rfl rfl
theorem G0:aJ Tryz.prog 171=true:=by kernel_rfl
def qH (m:Nat) (p0:List aF) (p1:aF→Option Bool) (q0:Int):Option (Lp (Int) (Int)):=
 if (decide (q0 < (p0.length:Int)))=true then ((ix p0 q0).bind λx0=>(p1 x0).bind λy0=>if y0=true then (some (.ret q0)) else some (.go (IntKind.wrap .i64 (q0+1)))) else some (.brk q0)
def A8 (m:Nat) (p0:List aF) (p1:aF→Option Bool):Option (Int):=
 after (bC (λs=>qH m p0 p1 s) m 0) λr0=>some (-1)
theorem G1 {w:Nat} {p0:List aF} {p1:aF→Option Bool} {o:Int} (h:aA) {p1F:Nat} {p1C:List AV} (p1B:aJ Tryz.prog p1F=true) (p1H:∀x0 o h0,eO h h0→p1 x0=some o→aG Tryz.prog p1F ([.agg (bI x0)]++p1C) h0 (λr h'=>r= .sc (.bool o)∧h'=h0)) (m:A8 w p0 p1=some o):
 aG Tryz.prog 103 [.sl none 4 (List.map bI p0),.fn (.func p1F) p1C] h (λr h'=>r=nZ o∧h'=h):=by
 refine fC 19 [.tmp 4] Tryz.func103 rfl rfl rfl rfl ?_
 unfold A8 at m
 refine v (v (cI xM rfl (mE m (σ:=Int) (λs=> []) (λs=>.c 0 (.sl none 4 (List.map bI p0)) (.c 1 (.fn (.func p1F) p1C) (.c 7 (nZ (p0.length:Int)) (.c 8 (nZ s) .nil)))) (lx (.k4 .nil)) ?_ ?_)))
 rintro _ q0 x m
 replace m:qH w p0 p1 q0=some x:=m
 unfold qH at m
 refine v (v ?_)
 apply vi m <;> intro c0 m
 refine v (v (v (v (vx m xN rfl rfl λx1 _ m=>va (.agg (bI x1)) xV rfl rfl ?_))))
 obtain⟨_,Y0,m⟩:=aE m
 refine vn (λu=>cK (p1H _ _ _ (aW (List.nil_sublist _) u).1 Y0) rfl p1B rfl) (v ?_)
 apply vi m <;> intro c1 m
 refine v (v (kC m λm=> ?_))
 obtain rfl:=cX m
 exact cH rfl
 exact v (v (jK m))
 exact v (C9 m)
 rintro _ r0 m
 refine v (v ?_)
 cases m
 exact cH rfl
theorem B1:aJ Tryz.prog 103=true:=by kernel_rfl
def KR (m:Nat) (p0:List aF) (p1:aF→Option Bool):Option (Bool):=
 (A8 m p0 p1).bind λy3=>some (decide (0≤y3))
theorem PX {w:Nat} {p0:List aF} {p1:aF→Option Bool} {o:Bool} (h:aA) {p1F:Nat} {p1C:List AV} (p1B:aJ Tryz.prog p1F=true) (p1H:∀x0 o h0,eO h h0→p1 x0=some o→aG Tryz.prog p1F ([.agg (bI x0)]++p1C) h0 (λr h'=>r= .sc (.bool o)∧h'=h0)) (m:KR w p0 p1=some o):
 aG Tryz.prog 58 [.sl none 4 (List.map bI p0),.fn (.func p1F) p1C] h (λr h'=>r= .sc (.bool o)∧h'=h):=by
 refine fC 9 [.tmp 4] Tryz.func58 rfl rfl rfl rfl ?_
 unfold KR at m
 refine v (v ?_)
 obtain⟨_,Y4,m⟩:=aE m
 refine vn (λu=>cK (G1 _ p1B (λx0 o h0 hs ho=>p1H x0 o h0 ((aW (List.nil_sublist _) u).1.trans hs) ho) Y4) rfl B1 rfl) (v ?_)
 cases m
 exact cH rfl
theorem KS:aJ Tryz.prog 58=true:=by kernel_rfl
def EL (m:Nat) (p0:aF) (c0:aV):Option (Bool):=
 some (p0.Seq==c0.Of)
theorem KT {w:Nat} {p0:aF} {c0:aV} {o:Bool} (h:aA) {c0K:aY} (c0H:h c0K=some (.obj 99 (eB c0))) (m:EL w p0 c0=some o):
 aG Tryz.prog 138 [.agg (bI p0),.ptr c0K 0] h (λr h'=>r= .sc (.bool o)∧h'=h):=by
 refine fC 9 [.tmp 3] Tryz.func138 rfl rfl rfl rfl ?_
 unfold EL at m
 refine v (gH rfl rfl λk2 K3=>v (vl 0 _ bQ rfl rfl rfl (vn (λu=>rE (nZ c0.Of) bQ rfl (pE u c0H) rfl) (v ?_))))
 cases m
 exact cH rfl
theorem G2:aJ Tryz.prog 138=true:=by kernel_rfl
def s9 (m:Nat) (p0:aD) (q0:Int):Option (Lp (Int) (Bool)):=
 if (decide (q0 < (p0.Exps.length:Int)))=true then ((ix p0.Exps q0).bind λx1=>after ((n5 m x1.Seq 0 (IntKind.wrap .i64 (p0.Seq - 1))).bind λy0=>if (!y0)=true then (some (.brk true)) else if (decide (0 < q0))=true then ((ix p0.Exps (IntKind.wrap .i64 (q0 - 1))).bind λx2=>if (decide (x1.Seq≤x2.Seq))=true then (some (.brk true)) else (n5 m x1.Of 0 (IntKind.wrap .i64 (x1.Seq - 1))).bind λy1=>if (!y1)=true then (some (.brk true)) else if ((x1.Locs.length:Int)==0)=true then (some (.brk true)) else (rS m p0 x1.Locs).bind λy2=>some (.brk (!y2))) else (n5 m x1.Of 0 (IntKind.wrap .i64 (x1.Seq - 1))).bind λy3=>if (!y3)=true then (some (.brk true)) else if ((x1.Locs.length:Int)==0)=true then (some (.brk true)) else (rS m p0 x1.Locs).bind λy4=>some (.brk (!y4)):Option (Lp (Bool) (Lp (Int) (Bool)))) λj0=>if j0=true then (some (.ret false)) else (KR m p0.Snaps (λx0=>EL m x0 x1)).bind λy5=>if y5=true then (some (.ret false)) else some (.go (IntKind.wrap .i64 (q0+1)))) else some (.brk q0)
def KU (m:Nat) (p0:aD):Option (Bool):=
 after (bC (λs=>s9 m p0 s) m 0) λr0=>some (decide ((p0.Exps.length:Int)≤200))
theorem PY {w:Nat} {p0:aD} {o:Bool} (h:aA) (m:KU w p0=some o):
 aG Tryz.prog 81 [.agg (aM p0)] h (λr h'=>r= .sc (.bool o)∧h'=h):=by
 refine fC 67 [.tmp 2] Tryz.func81 rfl rfl rfl rfl ?_
 unfold KU at m
 refine v (gH rfl rfl λk2 K3=>v (vl 0 _ sY rfl rfl rfl (cI DA rfl (mE m (σ:=Int) (λs=> [(some k2,.obj 30 (aM p0))]) (λs=>.c 1 (.ptr k2 0) (.c 6 (.sl none 3 (List.map eB p0.Exps)) (.c 7 (nZ (p0.Exps.length:Int)) (.c 8 (nZ s) .nil)))) (lx (.k4 .nil)) ?_ ?_))))
 rintro _ q0 x m
 replace m:s9 w p0 q0=some x:=m
 unfold s9 at m
 refine v (v ?_)
 apply vi m <;> intro c0 m
 refine v (v (v (vx m xO rfl rfl λx0 _ m=>va (.agg (eB x0)) KI rfl rfl (ve λu=>bN ([nZ 0,nZ 0,sZ]) u GW rfl rfl λk136 K0=>qk K0 rfl (ve λu=>aQ 0 (eB x0) u rfl rfl rfl rfl KJ rfl rfl λK1=>qk K1 rfl (vs (vs (eN m (σ:=Bool) (λs=> [(some k136,.obj 99 (eB x0)),(some k2,.obj 30 (aM p0))]) (λs=>.c 1 (.ptr k2 0) (.c 4 (.ptr k136 0) (.c 6 (.sl none 3 (List.map eB p0.Exps)) (.c 7 (nZ (p0.Exps.length:Int)) (.c 8 (nZ q0) (.c 57 (.sc (.bool s)) .nil)))))) (λx m=> ?_) ?_))))))))
 refine v (vq (by kernel_rfl) (vl 0 _ bQ rfl rfl rfl (vl 1 _ bQ rfl rfl rfl (vk qE iH m rfl rfl λ_ m=> ?_))))
 apply vi m <;> intro b0 m
 rw[b0]
 exact oY m
 rw[b0]
 apply vi m <;> intro b1 m
 rw[b1]
 refine vl 1 _ sY rfl rfl rfl (vx m xO rfl rfl λ_ _ m=>vl 0 _ bQ rfl rfl rfl ?_)
 apply vi m <;> intro b2 m
 rw[b2]
 exact oY m
 rw[b2]
 refine vl 0 _ bQ rfl rfl rfl (vl 0 _ bQ rfl rfl rfl (vk qE iH m rfl rfl λ_ m=> ?_))
 apply vi m <;> intro b3 m
 rw[b3]
 exact oY m
 rw[b3]
 refine vl 0 _ gK rfl rfl rfl (cI i6 rfl ?_)
 apply vi m <;> intro b4 m
 rw[b4]
 exact oY m
 rw[b4]
 exact vl 1 (.agg (aM p0)) fN rfl rfl rfl (vl 0 _ gK rfl rfl rfl (vk vU o0 m rfl rfl λ_ m=>oY m))
 rw[b1]
 refine vl 0 _ bQ rfl rfl rfl (vl 0 _ bQ rfl rfl rfl (vk qE iH m rfl rfl λ_ m=> ?_))
 apply vi m <;> intro b5 m
 rw[b5]
 exact oY m
 rw[b5]
 refine vl 0 _ gK rfl rfl rfl (cI i6 rfl ?_)
 apply vi m <;> intro b6 m
 rw[b6]
 exact oY m
 rw[b6]
 exact vl 1 (.agg (aM p0)) fN rfl rfl rfl (vl 0 _ gK rfl rfl rfl (vk vU o0 m rfl rfl λ_ m=>oY m))
 rintro _ j0 m
 refine v ?_
 apply vi m <;> intro c1 m
 refine v (v (kC m λm=> ?_))
 obtain rfl:=cX m
 exact cH rfl
 refine v (v (vl 1 _ n3 rfl rfl rfl ?_))
 obtain⟨_,Y0,m⟩:=aE m
 refine vn (λu=>cK (PX _ G2 (λ_ o h0 hs ho=>KT _ (hs _ _ (bF 0 u rfl)) ho) Y0) rfl KS rfl) (v ?_)
 apply vi m <;> intro c2 m
 refine v (v (kC m λm=> ?_))
 obtain rfl:=cX m
 exact cH rfl
 exact v (v (uL m (p4 [1] rfl rfl (.k4 .nil))))
 exact v (C9 m)
 rintro _ r0 m
 refine v (vl 0 _ sY rfl rfl rfl (cI DA rfl (v ?_)))
 cases m
 exact cH rfl
theorem KW:aJ Tryz.prog 81=true:=by kernel_rfl
open Go.Vm
theorem KX:F3 Tryz.prog 190:=⟨Tryz.f190,Tryz.func190,by kernel_rfl,by kernel_rfl,rfl,rfl⟩
theorem KY {a b:AV} {xs ys:List Int} (h:aA) (h1:zZ Tryz.prog h a xs) (h2:zZ Tryz.prog h b ys):aG Tryz.prog 182 [a,b] h (λr h'=>r=nZ (vN xs ys)∧h'=h):=by
 exact dY 8 [.tmp 4] Tryz.func182 rfl rfl rfl rfl (dD λK1 H1=>bU (vC rfl (cP (H1 _ _ (dD λK1 H1=>bU (kB (gG a rfl) (kB (gG b rfl) (kB (F4 KX rfl rfl h1 h2) (vC rfl (cP (H1 _ _ (dQ (eS.one (.inl rfl) (eO.refl _) (aN.refl _ _) ⟨rfl,rfl⟩)))))))))))))
theorem G3:aJ Tryz.prog 182=true:=by kernel_rfl
def A9 (m:Nat) (p0:cF) (p1:cF):Option (Int):=
 some (vN p0.1 p1.1)
theorem G4 {w:Nat} {p0:cF} {p1:cF} {o:Int} (h:aA) (m:A9 w p0 p1=some o):
 aG Tryz.prog 136 [.agg (bH p0),.agg (bH p1)] h (λr h'=>r=nZ o∧h'=h):=by
 refine fC 8 [.tmp 4] Tryz.func136 rfl rfl rfl rfl ?_
 unfold A9 at m
 refine v (gH rfl rfl λk2 K3=>gH rfl rfl λk5 K6=>v (vq (by kernel_rfl) (dK (rK xR rfl) (dK (rK xR rfl) (vn (λu=>cK (KY _ (zZ.view (bF 1 u rfl) rfl) (zZ.view (bF 0 u rfl) rfl)) rfl G3 rfl) (v ?_))))))
 cases m
 exact cH rfl
theorem B2:aJ Tryz.prog 136=true:=by kernel_rfl
def B3 (m:Nat) (p0:List Int):Option (List Int):=app [] p0
theorem JJ {w:Nat} {p0:List Int} {o:List Int} (h:aA) (m:B3 w p0=some o):
 aG Tryz.prog 96 [.sl none 1 (List.map bZ p0)] h (λr h'=>∃t,(t=none→o= [])∧aS h [(t,.tok 5 1 (o.length*1))]∧r=ow t 1 (List.map bZ o)∧h'=hp h [(t,.tok 5 1 (o.length*1))]):=by
 refine dY 8 [.tmp 2] Tryz.func96 rfl rfl rfl rfl ?_
 unfold B3 at m
 refine dD λK1 H1=>bU (kB (eW (.sc (.slice _ _ _)) rfl) (cP (H1 _ _ (dD λK1 H1=>dD λK2 H2=>bU (vE rfl (fK (eP rfl (by rw[A5]; rfl) (by rw[aO]; exact rfl) (.inl ⟨_,_,_,rfl,λb hb=> ?_⟩))))))))
 refine cP (H2 _ _ (gW rfl (λhc=> ?_) (λhc=> ?_)))
 have h0:p0= []:=by
   cases p0 with
   | nil=>rfl
   | cons x l=>have:=hb (by simp); rw[this] at hc; cases hc
 subst h0
 obtain⟨rfl, -⟩:=dV m
 exact dD λK1 H1=>bU (kB (eW (.sc (.slice _ _ _)) rfl) (cP (H1 _ _ (dQ (eS.one (.inl rfl) (eO.refl _) (pG _ _) ⟨none,λ_=>rfl,aS.none (aS.nil _),rfl,rfl⟩)))))
 exact fV (H1 _ _ (dD λK1 H1=>bU (fK (wZ (c:=bZ) (aS.nil _) fO λu=>vE rfl (fK (fS (c:=bZ) 0 m fO rfl rfl rfl (λ_=>rfl) u rfl λtg ot u=>kB (eW (ow _ _ _) rfl) (cP (H1 _ _ (dQ (eS.one (.inl rfl) (eO.refl _) (aN.refl _ _) ⟨tg,ot,u,rfl,rfl⟩))))))))))
theorem BA:aJ Tryz.prog 96=true:=by kernel_rfl
def tA (m:Nat) (p0:aD) (q0:Int):Option (Lp (Int) (Bool)):=
 if (decide (q0 < (p0.Chunks.length:Int)))=true then ((ix p0.Chunks q0).bind λx0=>after (if (decide (0 < q0))=true then ((ix p0.Chunks (IntKind.wrap .i64 (q0 - 1))).bind λx1=>(A9 m x1.Id x0.Id).bind λy0=>if (decide (0≤y0))=true then (some (.brk true)) else (rS m p0 x0.Locs).bind λy1=>if (!y1)=true then (some (.brk true)) else if (!x0.Staged)=true then (if (decide (0 < (x0.Data.length:Int)))=true then (some (.brk true)) else if ((x0.Locs.length:Int)==0)=true then (some (.brk true)) else if x0.Staged=true then ((n5 m (x0.Data.length:Int) 1 64).bind λy2=>some (.brk (!y2))) else some (.brk false)) else if x0.Staged=true then ((n5 m (x0.Data.length:Int) 1 64).bind λy3=>some (.brk (!y3))) else some (.brk false)) else (rS m p0 x0.Locs).bind λy4=>if (!y4)=true then (some (.brk true)) else if (!x0.Staged)=true then (if (decide (0 < (x0.Data.length:Int)))=true then (some (.brk true)) else if ((x0.Locs.length:Int)==0)=true then (some (.brk true)) else if x0.Staged=true then ((n5 m (x0.Data.length:Int) 1 64).bind λy5=>some (.brk (!y5))) else some (.brk false)) else if x0.Staged=true then ((n5 m (x0.Data.length:Int) 1 64).bind λy6=>some (.brk (!y6))) else some (.brk false):Option (Lp (Bool) (Lp (Int) (Bool)))) λj0=>if j0=true then (some (.ret false)) else some (.go (IntKind.wrap .i64 (q0+1)))) else some (.brk q0)
def KZ (m:Nat) (p0:aD):Option (Bool):=
 after (bC (λs=>tA m p0 s) m 0) λr0=>some (decide ((p0.Chunks.length:Int)≤200))
theorem PZ {w:Nat} {p0:aD} {o:Bool} (h:aA) (m:KZ w p0=some o):
 aG Tryz.prog 79 [.agg (aM p0)] h (λr h'=>r= .sc (.bool o)∧h'=h):=by
 refine fC 68 [.tmp 2] Tryz.func79 rfl rfl rfl rfl ?_
 unfold KZ at m
 refine v (gH rfl rfl λk2 K3=>v (vl 0 _ dW rfl rfl rfl (cI gJ rfl (mE m (σ:=Int) (λs=> [(some k2,.obj 30 (aM p0))]) (λs=>.c 1 (.ptr k2 0) (.c 6 (.sl none 35 (List.map aI p0.Chunks)) (.c 7 (nZ (p0.Chunks.length:Int)) (.c 8 (nZ s) .nil)))) (lx (.k4 .nil)) ?_ ?_))))
 rintro _ q0 x m
 replace m:tA w p0 q0=some x:=m
 unfold tA at m
 refine v (v ?_)
 apply vi m <;> intro c0 m
 refine v (v (v (vx m e9 rfl rfl λx0 _ m=>va (.agg (aI x0)) rQ rfl rfl (ve λu=>bN (bH lB++(I9:List AV)) u vT rfl rfl λk168 K0=>qk K0 rfl (ve λu=>aQ 0 (aI x0) u rfl rfl rfl rfl DP rfl rfl λK1=>qk K1 rfl (vs (eN m (σ:=Bool) (λs=> [(some k168,.obj 44 (aI x0)),(some k2,.obj 30 (aM p0))]) (λs=>.c 1 (.ptr k2 0) (.c 6 (.sl none 35 (List.map aI p0.Chunks)) (.c 7 (nZ (p0.Chunks.length:Int)) (.c 8 (nZ q0) (.c 62 (.sc (.bool s)) .nil))))) (λx m=> ?_) ?_)))))))
 refine v (vq (by kernel_rfl) ?_)
 apply vi m <;> intro b0 m
 rw[b0]
 refine vl 1 _ dW rfl rfl rfl (vx m e9 rfl rfl λx1 _ m=>va (.agg (bH x1.Id)) fW rfl rfl (vl 0 (.agg (bH x0.Id)) fW rfl rfl rfl (vk G4 B2 m rfl rfl λ_ m=> ?_)))
 apply vi m <;> intro b1 m
 rw[b1]
 exact nE m
 rw[b1]
 refine vl 1 (.agg (aM p0)) fN rfl rfl rfl (vl 0 _ gK rfl rfl rfl (vk vU o0 m rfl rfl λ_ m=> ?_))
 apply vi m <;> intro b2 m
 rw[b2]
 exact nE m
 rw[b2]
 refine vl 0 _ A0 rfl rfl rfl ?_
 apply vi m <;> intro b3 m
 rw[b3]
 refine vl 0 _ lM rfl rfl rfl (cI iG rfl ?_)
 apply vi m <;> intro b4 m
 rw[b4]
 exact nE m
 rw[b4]
 refine vl 0 _ gK rfl rfl rfl (cI i6 rfl ?_)
 apply vi m <;> intro b5 m
 rw[b5]
 exact nE m
 rw[b5]
 refine vl 0 _ A0 rfl rfl rfl ?_
 apply vi m <;> intro b6 m
 rw[b6]
 exact vl 0 _ lM rfl rfl rfl (cI iG rfl (vk qE iH m rfl rfl λ_ m=>nE m))
 rw[b6]
 exact nE m
 rw[b3]
 refine vl 0 _ A0 rfl rfl rfl ?_
 apply vi m <;> intro b7 m
 rw[b7]
 exact vl 0 _ lM rfl rfl rfl (cI iG rfl (vk qE iH m rfl rfl λ_ m=>nE m))
 rw[b7]
 exact nE m
 rw[b0]
 refine vl 1 (.agg (aM p0)) fN rfl rfl rfl (vl 0 _ gK rfl rfl rfl (vk vU o0 m rfl rfl λ_ m=> ?_))
 apply vi m <;> intro b8 m
 rw[b8]
 exact nE m
 rw[b8]
 refine vl 0 _ A0 rfl rfl rfl ?_
 apply vi m <;> intro b9 m
 rw[b9]
 refine vl 0 _ lM rfl rfl rfl (cI iG rfl ?_)
 apply vi m <;> intro b10 m
 rw[b10]
 exact nE m
 rw[b10]
 refine vl 0 _ gK rfl rfl rfl (cI i6 rfl ?_)
 apply vi m <;> intro b11 m
 rw[b11]
 exact nE m
 rw[b11]
 refine vl 0 _ A0 rfl rfl rfl ?_
 apply vi m <;> intro b12 m
 rw[b12]
 exact vl 0 _ lM rfl rfl rfl (cI iG rfl (vk qE iH m rfl rfl λ_ m=>nE m))
 rw[b12]
 exact nE m
 rw[b9]
 refine vl 0 _ A0 rfl rfl rfl ?_
 apply vi m <;> intro b13 m
 rw[b13]
 exact vl 0 _ lM rfl rfl rfl (cI iG rfl (vk qE iH m rfl rfl λ_ m=>nE m))
 rw[b13]
 exact nE m
 rintro _ j0 m
 refine v ?_
 apply vi m <;> intro c1 m
 refine v (v (kC m λm=> ?_))
 obtain rfl:=cX m
 exact cH rfl
 exact v (v (uL m (p4 [1] rfl rfl (.k4 .nil))))
 exact v (C9 m)
 rintro _ r0 m
 refine v (vl 0 _ dW rfl rfl rfl (cI gJ rfl (v ?_)))
 cases m
 exact cH rfl
theorem LA:aJ Tryz.prog 79=true:=by kernel_rfl
def EM (m:Nat) (p0:aB) (p1:cF):Option (Int):=
 (A9 m p0.Id p1).bind λy9=>some y9
theorem LB {u:Nat} {p0:aB} {p1:cF} {o:Int} (h:aA) (m:EM u p0 p1=some o):
 aG Tryz.prog 172 [.agg (aI p0),.agg (bH p1)] h (λr h'=>r=nZ o∧h'=h):=by
 refine fC 9 [.tmp 4] Tryz.func172 rfl rfl rfl rfl ?_
 unfold EM at m
 refine v (gH rfl rfl λk2 K3=>gH rfl rfl λk5 K6=>v (vl 1 (.agg (bH p0.Id)) fW rfl rfl rfl (vl 0 (.agg (bH p1)) fW rfl rfl rfl (vk G4 B2 m rfl rfl λ_ m=>v ?_))))
 obtain rfl:=cX m
 exact cH rfl
theorem G5:aJ Tryz.prog 172=true:=by kernel_rfl
def BB (m:Nat) (p0:List aB) (p1:cF):Option (Int×Bool):=
 (EK m p0 p1 (λx0 x1=>EM m x0 x1)).bind λy6=>some (y6.1,y6.2)
theorem G6 {u:Nat} {p0:List aB} {p1:cF} {o:Int×Bool} (h:aA) (m:BB u p0 p1=some o):
 aG Tryz.prog 116 [.sl none 35 (List.map aI p0),.agg (bH p1)] h (λr h'=>r= .tup [nZ o.1,.sc (.bool o.2)]∧h'=h):=by
 refine fC 11 [.tmp 4,.tmp 5] Tryz.func116 rfl rfl rfl rfl ?_
 unfold BB at m
 refine v (gH rfl rfl λk2 K3=>v (vl 0 (.agg (bH p1)) fW rfl rfl rfl ?_))
 obtain⟨_,Y7,m⟩:=aE m
 refine dK (cK (KP _ G5 (λ_ _ o h0 hs ho=>LB _ ho) Y7) rfl G0 rfl) (v ?_)
 cases m
 exact OL rfl rfl
theorem B4:aJ Tryz.prog 116=true:=by kernel_rfl
def tB (m:Nat) (p0:aD) (x0:dR) (q0:Int):Option (Lp (Int) (Lp (Int) (Lp ((List ByteArray)×Int) (Bool)))):=
 if (decide (q0 < (x0.Ids.length:Int)))=true then ((ix x0.Ids q0).bind λx1=>(BB m p0.Chunks x1).bind λy0=>if (!y0.2)=true then (some (.ret (.ret (.ret false)))) else some (.go (IntKind.wrap .i64 (q0+1)))) else some (.brk q0)
def tC (m:Nat) (p0:aD) (x0:aF) (q0:Int):Option (Lp (Int) (Lp ((List ByteArray)×Int) (Bool))):=
 if (decide (q0 < (x0.Man.Parts.length:Int)))=true then ((ix x0.Man.Parts q0).bind λx1=>after (bC (λs=>tB m p0 x1 s) m 0) λr0=>some (.go (IntKind.wrap .i64 (q0+1)))) else some (.brk q0)
def tD (m:Nat) (p0:aD) (q0:List ByteArray) (q1:Int):Option (Lp ((List ByteArray)×Int) (Bool)):=
 if (decide (q1 < (p0.Snaps.length:Int)))=true then ((ix p0.Snaps q1).bind λx0=>after ((n5 m x0.Seq 0 (IntKind.wrap .i64 (p0.Seq - 1))).bind λy0=>if (!y0)=true then (some (.brk true)) else if (decide (0 < q1))=true then ((ix p0.Snaps (IntKind.wrap .i64 (q1 - 1))).bind λx1=>if (decide (x0.Seq≤x1.Seq))=true then (some (.brk true)) else if ((q0:List ByteArray).any λz=>x0.Man.Name==z)=true then (some (.brk true)) else (rT m x0.Man).bind λy1=>if (y1 !=0)=true then (some (.brk true)) else (rS m p0 x0.Locs).bind λy2=>some (.brk (!y2))) else if ((q0:List ByteArray).any λz=>x0.Man.Name==z)=true then (some (.brk true)) else (rT m x0.Man).bind λy3=>if (y3 !=0)=true then (some (.brk true)) else (rS m p0 x0.Locs).bind λy4=>some (.brk (!y4)):Option (Lp (Bool) (Lp ((List ByteArray)×Int) (Bool)))) λj0=>if j0=true then (some (.ret false)) else after (bC (λs=>tC m p0 x0 s) m 0) λr0=>some (.go (mJ (q0:List ByteArray) x0.Man.Name,IntKind.wrap .i64 (q1+1)))) else some (.brk (q0,q1))
def LC (m:Nat) (p0:aD):Option (Bool):=
 after (bC (λs=>tD m p0 s.1 s.2) m ([],0)) λ⟨r0,r1⟩=>some (decide ((p0.Snaps.length:Int)≤8))
theorem P0 {w:Nat} {p0:aD} {o:Bool} (h:aA) (m:LC w p0=some o):
 aG Tryz.prog 80 [.agg (aM p0)] h (λr h'=>r= .sc (.bool o)∧h'=h):=by
 refine fC 99 [.tmp 2] Tryz.func80 rfl rfl rfl rfl ?_
 unfold LC at m
 refine v (gH rfl rfl λk2 K3=>v (ve λu=>uG u λk6 K7=>qk K7 rfl (v (vl 1 _ n3 rfl rfl rfl (cI xM rfl (mE m (σ:=(List ByteArray)×Int) (λs=> [(some k6,.mp (jV kS (s.1:List ByteArray))),(some k2,.obj 30 (aM p0))]) (λs=>.c 1 (.ptr k2 0) (.c 3 (.mpv k6) (.c 14 (.sl none 4 (List.map bI p0.Snaps)) (.c 15 (nZ (p0.Snaps.length:Int)) (.c 16 (nZ s.2) .nil))))) (lx (.k5 .nil)) ?_ ?_))))))
 rintro _ ⟨q0,q1⟩ x m
 replace m:tD w p0 q0 q1=some x:=m
 unfold tD at m
 refine v (v ?_)
 apply vi m <;> intro c0 m
 refine v (v (v (vx m xN rfl rfl λx0 _ m=>va (.agg (bI x0)) xV rfl rfl (ve λu=>bN (NX) u D2 rfl rfl λk540 K0=>qk K0 rfl (ve λu=>aQ 0 (bI x0) u rfl rfl rfl rfl KF rfl rfl λK1=>qk K1 rfl (vs (vs (eN m (σ:=Bool) (λs=> [(some k540,.obj 60 (bI x0)),(some k6,.mp (jV kS (q0:List ByteArray))),(some k2,.obj 30 (aM p0))]) (λs=>.c 1 (.ptr k2 0) (.c 3 (.mpv k6) (.c 5 (.ptr k540 0) (.c 14 (.sl none 4 (List.map bI p0.Snaps)) (.c 15 (nZ (p0.Snaps.length:Int)) (.c 16 (nZ q1) (.c 63 (.sc (.bool s)) .nil))))))) (λx m=> ?_) ?_))))))))
 refine v (vq (by kernel_rfl) (vl 0 _ bQ rfl rfl rfl (vl 2 _ bQ rfl rfl rfl (vk qE iH m rfl rfl λ_ m=> ?_))))
 apply vi m <;> intro b0 m
 rw[b0]
 exact xI m
 rw[b0]
 apply vi m <;> intro b1 m
 rw[b1]
 refine vl 2 _ n3 rfl rfl rfl (vx m xN rfl rfl λ_ _ m=>vl 0 _ bQ rfl rfl rfl ?_)
 apply vi m <;> intro b2 m
 rw[b2]
 exact xI m
 rw[b2]
 refine vl 0 _ mQ rfl rfl rfl (vn (λu=>xA yD OO (pM.str u9) rfl rfl (bF 1 u rfl)) ?_)
 apply vi m <;> intro b3 m
 rw[b3]
 exact xI m
 rw[b3]
 refine vl 0 (.agg (aH x0.Man)) kT rfl rfl rfl (vk A7 uN m rfl rfl λ_ m=> ?_)
 apply vi m <;> intro b4 m
 rw[b4]
 exact xI m
 rw[b4]
 exact vl 2 (.agg (aM p0)) fN rfl rfl rfl (vl 0 _ gK rfl rfl rfl (vk vU o0 m rfl rfl λ_ m=>xI m))
 rw[b1]
 refine vl 0 _ mQ rfl rfl rfl (vn (λu=>xA yD OO (pM.str u9) rfl rfl (bF 1 u rfl)) ?_)
 apply vi m <;> intro b5 m
 rw[b5]
 exact xI m
 rw[b5]
 refine vl 0 (.agg (aH x0.Man)) kT rfl rfl rfl (vk A7 uN m rfl rfl λ_ m=> ?_)
 apply vi m <;> intro b6 m
 rw[b6]
 exact xI m
 rw[b6]
 exact vl 2 (.agg (aM p0)) fN rfl rfl rfl (vl 0 _ gK rfl rfl rfl (vk vU o0 m rfl rfl λ_ m=>xI m))
 rintro _ j0 m
 refine v ?_
 apply vi m <;> intro c1 m
 refine v (v (kC m λm=> ?_))
 obtain rfl:=cX m
 exact cH rfl
 refine v (v (vl 0 _ mQ rfl rfl rfl (ve λu=>C0 1 u yD (pM.str u9) rfl rfl rfl rfl λK2=>qk K2 rfl (v (vl 0 _ fX rfl rfl rfl (cI kR rfl (mE m (σ:=Int) (λs=> [(some k540,.obj 60 (bI x0)),(some k6,.mp (jV kS (mJ (q0:List ByteArray) x0.Man.Name:List ByteArray))),(some k2,.obj 30 (aM p0))]) (λs=>.c 1 (.ptr k2 0) (.c 3 (.mpv k6) (.c 14 (.sl none 4 (List.map bI p0.Snaps)) (.c 15 (nZ (p0.Snaps.length:Int)) (.c 16 (nZ q1) (.c 70 (.sl none 3 (List.map a9 x0.Man.Parts)) (.c 71 (nZ (x0.Man.Parts.length:Int)) (.c 72 (nZ s) .nil)))))))) (lx (.k8 .nil)) ?_ ?_)))))))
 rintro _ q2 x m
 replace m:tC w p0 x0 q2=some x:=m
 unfold tC at m
 refine v (v ?_)
 apply vi m <;> intro c2 m
 refine v (v (v (vx m lO rfl rfl λx1 _ m=>va (.agg (a9 x1)) s6 rfl rfl (ve λu=>bN (BX) u qD rfl rfl λk732 K4=>qk K4 rfl (ve λu=>aQ 0 (a9 x1) u rfl rfl rfl rfl rR rfl rfl λK5=>qk K5 rfl (v (vl 0 _ kU rfl rfl rfl (cI lP rfl (mE m (σ:=Int) (λs=> [(some k732,.obj 70 (a9 x1)),(some k540,.obj 60 (bI x0)),(some k6,.mp (jV kS (mJ (q0:List ByteArray) x0.Man.Name:List ByteArray))),(some k2,.obj 30 (aM p0))]) (λs=>.c 1 (.ptr k2 0) (.c 3 (.mpv k6) (.c 14 (.sl none 4 (List.map bI p0.Snaps)) (.c 15 (nZ (p0.Snaps.length:Int)) (.c 16 (nZ q1) (.c 70 (.sl none 3 (List.map a9 x0.Man.Parts)) (.c 71 (nZ (x0.Man.Parts.length:Int)) (.c 72 (nZ q2) (.c 77 (.sl none 32 (List.map bH x1.Ids)) (.c 78 (nZ (x1.Ids.length:Int)) (.c 79 (nZ s) .nil))))))))))) (lx (.k11 .nil)) ?_ ?_)))))))))
 rintro _ q3 x m
 replace m:tB w p0 x1 q3=some x:=m
 unfold tB at m
 refine v (v ?_)
 apply vi m <;> intro c3 m
 refine v (v (v (vx m xY rfl rfl λx2 _ m=>va (.agg (bH x2)) fW rfl rfl (ve λu=>bN (bH lB) u GK rfl rfl λk780 K6=>qk K6 rfl (ve λu=>aQ 0 (bH x2) u rfl rfl rfl rfl GJ rfl rfl λK8=>qk K8 rfl (v (vl 4 _ dW rfl rfl rfl (vl 0 (.agg (bH x2)) fW rfl rfl rfl (vk G6 B4 m rfl rfl λ_ m=>v (v ?_))))))))))
 apply vi m <;> intro c4 m
 refine v (v (kC m λm=>kC m λm=>kC m λm=> ?_))
 obtain rfl:=cX m
 exact cH rfl
 exact v (v (uL m (p4 [1,2,3,4] rfl rfl (.k11 .nil))))
 exact v (J3 m)
 rintro _ r0 m
 exact v (uL m (p4 [1,2,3] rfl rfl (.k8 .nil)))
 exact v (PO m)
 rintro _ r1 m
 exact v (uL m (p4 [1,2] rfl rfl (.k5 .nil)))
 exact v (J2 m)
 rintro _ ⟨r2,r3⟩ m
 refine v (vl 1 _ n3 rfl rfl rfl (cI xM rfl (v ?_)))
 cases m
 exact cH rfl
theorem LD:aJ Tryz.prog 80=true:=by kernel_rfl
def JK (m:Nat) (p0:aD):Option (Int):=
 after ((n5 m p0.Seq 0 1073741824).bind λy0=>if y0=true then ((KL m p0.Vols).bind λy1=>if y1=true then ((KZ m p0).bind λy2=>if y2=true then ((LC m p0).bind λy3=>if y3=true then ((KU m p0).bind λy4=>some (.brk y4)) else some (.brk false)) else some (.brk false)) else some (.brk false)) else some (.brk false):Option (Lp (Bool) (Int))) λj0=>if j0=true then (some 0) else some 1
theorem OR {u:Nat} {p0:aD} {o:Int} (h:aA) (m:JK u p0=some o):
 aG Tryz.prog 31 [.agg (aM p0)] h (λr h'=>r=nZ o∧h'=h):=by
 refine fC 23 [.tmp 2] Tryz.func31 rfl rfl rfl rfl ?_
 unfold JK at m
 refine v (gH rfl rfl λk2 K3=>vs (vs (eN m (σ:=Bool) (λs=> [(some k2,.obj 30 (aM p0))]) (λs=>.c 22 (.sc (.bool s)) .nil) (λx m=> ?_) ?_)))
 refine v (vl 0 _ bQ rfl rfl rfl (vk qE iH m rfl rfl λ_ m=> ?_))
 apply vi m <;> intro b0 m
 rw[b0]
 refine vl 0 _ vO rfl rfl rfl (vk PW KM m rfl rfl λ_ m=> ?_)
 apply vi m <;> intro b1 m
 rw[b1]
 refine vl 0 (.agg (aM p0)) fN rfl rfl rfl (vk PZ LA m rfl rfl λ_ m=> ?_)
 apply vi m <;> intro b2 m
 rw[b2]
 refine vl 0 (.agg (aM p0)) fN rfl rfl rfl (vk P0 LD m rfl rfl λ_ m=> ?_)
 apply vi m <;> intro b3 m
 rw[b3]
 exact vl 0 (.agg (aM p0)) fN rfl rfl rfl (vk PY KW m rfl rfl λ_ m=>dJ m)
 rw[b3]
 exact dJ m
 rw[b2]
 exact dJ m
 rw[b1]
 exact dJ m
 rw[b0]
 exact dJ m
 rintro _ j0 m
 refine v ?_
 apply vi m <;> intro c0 m
 refine v (v ?_)
 obtain rfl:=cX m
 exact cH rfl
 refine v (v (v ?_))
 obtain rfl:=cX m
 exact cH rfl
theorem G7:aJ Tryz.prog 31=true:=by kernel_rfl
open Go.Vm
def BC (m:Nat) (p0:Int):Option (Int):=
 grd (decide (0≤(IntKind.wrap .i64 (8*p0)))) <| some (IntKind.wrap .i64 (1*2 ^ (min ((IntKind.wrap .i64 (8*p0)):Int).toNat (IntKind.bits .i64))))
theorem LE {u:Nat} {p0:Int} {o:Int} (h:aA) (m:BC u p0=some o):
 aG Tryz.prog 166 [nZ p0] h (λr h'=>r=nZ o∧h'=h):=by
 refine fC 6 [.tmp 2] Tryz.func166 rfl rfl rfl rfl ?_
 unfold BC at m
 refine v (v (OM m λ_ m=>v ?_))
 cases m
 exact cH rfl
theorem G8:aJ Tryz.prog 166=true:=by kernel_rfl
def hS (m:Nat) (p1:Int) (q0:List Int) (q1:Int):Option (Lp ((List Int)×Int) ((List Int)×Int)):=
 if (decide (0≤q1))=true then (grd (decide (0≤(IntKind.wrap .i64 (8*q1)))) <| (app q0 ([IntKind.wrap .u8 (p1.fdiv (2 ^ (min ((IntKind.wrap .i64 (8*q1)):Int).toNat (IntKind.bits .i64))))]:List Int)).bind λz0=>some (.go (z0,IntKind.wrap .i64 (q1 - 1)))) else some (.brk (q0,q1))
def o1 (m:Nat) (p0:List Int) (p1:Int) (p2:Int):Option ((List Int)×Int):=
 after (if (decide (p2 < 1))=true then (some (.brk true)) else if (decide (7 < p2))=true then (some (.brk true)) else if (decide (p1 < 0))=true then (some (.brk true)) else (BC m p2).bind λy0=>some (.brk (decide (y0≤p1))):Option (Lp (Bool) ((List Int)×Int))) λj9=>if j9=true then (some (([]:List Int),1)) else (B3 m p0).bind λy1=>after (bC (λs=>hS m p1 s.1 s.2) m (y1,IntKind.wrap .i64 (p2 - 1))) λ⟨r0,r1⟩=>some (r0,0)
theorem B5 {w:Nat} {p0:List Int} {p1:Int} {p2:Int} {o:(List Int)×Int} (h:aA) (m:o1 w p0 p1 p2=some o):
 aG Tryz.prog 101 [.sl none 1 (List.map bZ p0),nZ p1,nZ p2] h (λr h'=>∃t:Option aY,(t=none→o.1= [])∧aS h [(t,.tok 5 1 ((o.1:List Int).length*1))]∧r= .tup [ow t 1 (List.map bZ o.1),nZ o.2]∧h'=hp h [(t,.tok 5 1 ((o.1:List Int).length*1))]):=by
 refine fC 43 [.tmp 6,.tmp 7] Tryz.func101 rfl rfl rfl rfl ?_
 unfold o1 at m
 refine v (vs (vs (eN m (σ:=Bool) (λs=> []) (λs=>.c 0 (.sl none 1 (List.map bZ p0)) (.c 1 (nZ p1) (.c 2 (nZ p2) (.c 25 (.sc (.bool s)) .nil)))) (λx m=> ?_) ?_)))
 refine v ?_
 apply vi m <;> intro b0 m
 rw[b0]
 exact jK m
 rw[b0]
 apply vi m <;> intro b1 m
 rw[b1]
 exact jK m
 rw[b1]
 apply vi m <;> intro b2 m
 rw[b2]
 exact jK m
 rw[b2]
 exact vk LE G8 m rfl rfl λ_ m=>jK m
 rintro _ j9 m
 refine v ?_
 apply vi m <;> intro c0 m
 refine v (v ?_)
 cases m
 exact vr λu=>eS.of2 (.inl rfl) (mA _ _ (.sc (.slice _ _ _)) rfl) (mA _ _ (.sc (.int _ _)) rfl) (eO.refl _) (pG _ _) (aN.refl _ _) ⟨none,λ_=>rfl,aS.none (aS.nil _),rfl,rfl⟩
 refine v (v ?_)
 obtain⟨_,Y0,m⟩:=aE m
 refine ve λu=>cG (JJ _ Y0) rfl BA rfl ?_
 rintro x h' ⟨tg0,t0,K0,rfl,rfl⟩
 refine qk (aS.co u K0) (eL _ _ _) (v (AY m (σ:=(List Int)×Int) (τ:=Option aY) (λg s=> [(g,.tok 5 1 ((s.1:List Int).length*1))]) (λg s=>(g=none→s.1= [])) (λg s=>.c 1 (nZ p1) (.c 8 (ow g 1 (List.map bZ s.1)) (.c 9 (nZ s.2) .nil))) tg0 t0 (lx (.k3 .nil)) ?_ ?_))
 rintro tg1 ⟨q0,q1⟩ x t1 m
 replace m:hS w p1 q0 q1=some x:=m
 unfold hS at m
 refine v (v ?_)
 apply vi m <;> intro c1 m
 refine v (v (v (OM m λ_ m=>dK (iW (List.map bZ ([IntKind.wrap .u8 (p1.fdiv (2 ^ (min ((IntKind.wrap .i64 (8*q1)):Int).toNat (IntKind.bits .i64))))]:List Int)) fO rfl rfl rfl rfl) ?_)))
 obtain⟨z0,Z0,m⟩:=aE m
 exact ve λu=>fS (c:=bZ) 0 Z0 fO rfl rfl rfl t1 u rfl λtg2 t2 K1=>qk K1 rfl (v (kP m tg2 t2 (lx (.k3 .nil))))
 exact v (p5 m tg1 t1 (lx (.k3 .nil)))
 rintro tg3 ⟨r0,r1⟩ t3 m
 refine v (v ?_)
 cases m
 exact vr λu=>eS.of2 (.inl rfl) (mA _ _ (ow _ _ _) rfl) (mA _ _ (.sc (.int _ _)) rfl) (aW (h0:=h) (L':= [(tg3,.tok 5 1 ((r0:List Int).length*1))]) (.refl _) u).1 (aN.refl _ _) (aN.refl _ _) ⟨tg3,t3,(aW (h0:=h) (L':= [(tg3,.tok 5 1 ((r0:List Int).length*1))]) (.refl _) u).2,rfl,rfl⟩
theorem B6:aJ Tryz.prog 101=true:=by kernel_rfl
def lQ (m:Nat) (x0:dR) (q0:List Int) (q1:Int):Option (Lp ((List Int)×Int) (Lp ((List Int)×Int) ((List Int)×Int))):=
 if (decide (q1 < (x0.Ids.length:Int)))=true then ((ix x0.Ids q1).bind λx1=>(app q0 x1.1).bind λz0=>some (.go (z0,IntKind.wrap .i64 (q1+1)))) else some (.brk (q0,q1))
def lR (m:Nat) (p0:aK) (q0:List Int) (q1:Int):Option (Lp ((List Int)×Int) ((List Int)×Int)):=
 if (decide (q1 < (p0.Parts.length:Int)))=true then ((ix p0.Parts q1).bind λx0=>(app q0 ([IntKind.wrap .u8 (x0.Path.size:Int)]:List Int)).bind λz0=>(app z0 (jJ x0.Path)).bind λz1=>(o1 m z1 x0.Size 2).bind λy0=>(app y0.1 ([IntKind.wrap .u8 (x0.Ids.length:Int)]:List Int)).bind λz2=>after (bC (λs=>lQ m x0 s.1 s.2) m (z2,0)) λ⟨r0,r1⟩=>some (.go (r0,IntKind.wrap .i64 (q1+1)))) else some (.brk (q0,q1))
def FD (m:Nat) (p0:aK):Option ((List Int)×Int):=
 (rT m p0).bind λy6=>if (y6 !=0)=true then (some ([],y6)) else (app ([IntKind.wrap .u8 (p0.Name.size:Int)]:List Int) (jJ p0.Name)).bind λz0=>(app z0 ([IntKind.wrap .u8 (p0.Parts.length:Int)]:List Int)).bind λz1=>after (bC (λs=>lR m p0 s.1 s.2) m (z1,0)) λ⟨r0,r1⟩=>some (r0,0)
theorem OS {w:Nat} {p0:aK} {o:(List Int)×Int} (h:aA) (m:FD w p0=some o):
 aG Tryz.prog 42 [.agg (aH p0)] h (λr h'=>r= .tup [.sl none 1 (List.map bZ o.1),nZ o.2]∧h'=h):=by
 refine fC 74 [.tmp 2,.tmp 3] Tryz.func42 rfl rfl rfl rfl ?_
 unfold FD at m
 refine v (gH rfl rfl λk2 K3=>v (vl 0 (.agg (aH p0)) kT rfl rfl rfl (vk A7 uN m rfl rfl λ_ m=>v (v ?_))))
 apply vi m <;> intro c0 m
 refine v (v ?_)
 cases m
 exact vr λu=>eS.of2 (.inl rfl) (mA _ _ (.sc (.slice _ _ _)) rfl) (mA _ _ (.sc (.int _ _)) rfl) (aW (List.nil_sublist _) u).1 (aP _) (aN.refl _ _) ⟨rfl,rfl⟩
 refine v (v (vl 0 _ mQ rfl rfl rfl (dK (gX z7 rfl) (ve λu=>wY (c:=bZ) ([IntKind.wrap .u8 (p0.Name.size:Int)]:List Int) u fO rfl rfl rfl rfl λtg0 t0 K0=>qk K0 rfl (vl 1 _ mQ rfl rfl rfl ?_)))))
 obtain⟨z0,Z0,m⟩:=aE m
 refine ve λu=>xG (c:=bZ) 0 Z0 u9 fO rfl (λ_=>rfl) rfl rfl t0 u rfl λtg1 t1 K1=>qk K1 rfl (v (vl 1 _ fX rfl rfl rfl (cI kR rfl (dK (iW (List.map bZ ([IntKind.wrap .u8 (p0.Parts.length:Int)]:List Int)) fO rfl rfl rfl rfl) ?_))))
 obtain⟨z1,Z1,m⟩:=aE m
 refine ve λu=>fS (c:=bZ) 0 Z1 fO rfl rfl rfl t1 u rfl λtg2 t2 K2=>qk K2 rfl (v (vl 1 _ fX rfl rfl rfl (cI kR rfl (AY m (σ:=(List Int)×Int) (τ:=Option aY) (λg s=> [(g,.tok 5 1 ((s.1:List Int).length*1)),(some k2,.obj 58 (aH p0))]) (λg s=>(g=none→s.1= [])) (λg s=>.c 5 (ow g 1 (List.map bZ s.1)) (.c 31 (.sl none 3 (List.map a9 p0.Parts)) (.c 32 (nZ (p0.Parts.length:Int)) (.c 33 (nZ s.2) .nil)))) tg2 t2 (lx (.k4 .nil)) ?_ ?_))))
 rintro tg3 ⟨q0,q1⟩ x t3 m
 replace m:lR w p0 q0 q1=some x:=m
 unfold lR at m
 refine v (v ?_)
 apply vi m <;> intro c1 m
 refine v (v (v (vx m lO rfl rfl λx0 _ m=>va (.agg (a9 x0)) s6 rfl rfl (ve λu=>bN (BX) u qD rfl rfl λk257 K4=>qk K4 rfl (ve λu=>aQ 0 (a9 x0) u rfl rfl rfl rfl rR rfl rfl λK5=>qk K5 rfl (v (vz [(1000000,some k257,.obj 70 (a9 x0))] mixed (λu=>⟨λ_=>aX 0 u rfl,trivial⟩) λu=>zC 0 rfl (gG (ow _ _ _) rfl) (zF 1 rfl xZ rfl (zL 2 0 (.sc (.string x0.Path)) rfl mQ rfl rfl rfl (zC 3 rfl (gX z7 rfl) (zC 4 rfl (FW ON OP rfl) (zC 5 rfl (iW (List.map bZ ([IntKind.wrap .u8 (x0.Path.size:Int)]:List Int)) fO rfl rfl rfl rfl) (zF 7 rfl xZ rfl (zL 8 0 (.sc (.string x0.Path)) rfl mQ rfl rfl rfl ?_))))))))))))))
 obtain⟨z2,Z2,m⟩:=aE m
 refine zE 6 rfl (fS (c:=bZ) 1 Z2 fO rfl rfl rfl t3 u rfl λtg4 t4 K6=>⟨⟨λ_=>aX 0 K6 rfl,trivial⟩, ?_⟩)
 obtain⟨z3,Z3,m⟩:=aE m
 refine zE 9 rfl (xG (c:=bZ) 1 Z3 u9 fO rfl (λ_=>rfl) rfl rfl t4 K6 rfl λtg5 t5 K7=>⟨⟨λ_=>aX 0 K7 rfl,trivial⟩, ?_⟩)
 refine zC 10 rfl (eW (ow _ _ _) rfl) (zX (qk (f:=.c 5 _ (.c 46 _ (.c 43 _ (.c 45 _ (.c 44 _ (OF 42 _ _ _ _ _ _ _)))))) K7 rfl (v (vl 0 _ bQ rfl rfl rfl ?_))))
 obtain⟨_,Y0,m⟩:=aE m
 refine ve λu=>pT (s:=48) (.sl none 1 (List.map bZ z3)) (aW (.cons_cons _ (.cons _ (.refl _))) u).1 (Fz.ale (aW (.cons_cons _ (.cons _ (.refl _))) u).1 (iV _ 1 t5 u rfl (.refl _))) (cG (B5 _ Y0) rfl B6 rfl ?_)
 rintro x h' ⟨tg6,t6,K8,rfl,rfl⟩
 refine qk (aS.co ((aW (.cons_cons _ (.cons _ (.refl _))) u).2) K8) (eL _ _ _) (v (vl 1 _ kU rfl rfl rfl (cI lP rfl (dK (iW (List.map bZ ([IntKind.wrap .u8 (x0.Ids.length:Int)]:List Int)) fO rfl rfl rfl rfl) ?_))))
 obtain⟨z4,Z4,m⟩:=aE m
 refine ve λu=>fS (c:=bZ) 0 Z4 fO rfl rfl rfl t6 u rfl λtg7 t7 K9=>qk K9 rfl (v (vl 1 _ kU rfl rfl rfl (cI lP rfl (AY m (σ:=(List Int)×Int) (τ:=Option aY) (λg s=> [(g,.tok 5 1 ((s.1:List Int).length*1)),(some k257,.obj 70 (a9 x0)),(some k2,.obj 58 (aH p0))]) (λg s=>(g=none→s.1= [])) (λg s=>.c 5 (ow g 1 (List.map bZ s.1)) (.c 31 (.sl none 3 (List.map a9 p0.Parts)) (.c 32 (nZ (p0.Parts.length:Int)) (.c 33 (nZ q1) (.c 62 (.sl none 32 (List.map bH x0.Ids)) (.c 63 (nZ (x0.Ids.length:Int)) (.c 64 (nZ s.2) .nil))))))) tg7 t7 (lx (.k7 .nil)) ?_ ?_))))
 rintro tg8 ⟨q2,q3⟩ x t8 m
 replace m:lQ w x0 q2 q3=some x:=m
 unfold lQ at m
 refine v (v ?_)
 apply vi m <;> intro c2 m
 refine v (v (v (vx m xY rfl rfl λx1 _ m=>va (.agg (bH x1)) fW rfl rfl (ve λu=>bN (bH lB) u GK rfl rfl λk343 K10=>qk K10 rfl (ve λu=>aQ 0 (bH x1) u rfl rfl rfl rfl GJ rfl rfl λK11=>qk K11 rfl (v (dK (rK xR rfl) ?_)))))))
 obtain⟨z5,Z5,m⟩:=aE m
 exact ve λu=>fS (c:=bZ) 1 Z5 fO rfl rfl rfl t8 u (m9 (bF 0 u rfl) rfl rfl) λtg9 t9 K12=>qk K12 rfl (v (kP m tg9 t9 (p4 [1,2,3] rfl rfl (.k7 .nil))))
 exact v (p5 m tg8 t8 (lx (.k7 .nil)))
 rintro tg10 ⟨r0,r1⟩ t10 m
 exact v (kP m tg10 t10 (p4 [0,2] rfl rfl (.k4 .nil)))
 exact v (p5 m tg3 t3 (lx (.k4 .nil)))
 rintro tg11 ⟨r2,r3⟩ t11 m
 refine v (v ?_)
 cases m
 exact vr λu=>eS.of2 (.inl rfl) (mA _ _ (ow _ _ _) rfl) (mA _ _ (.sc (.int _ _)) rfl) (aW (List.nil_sublist _) u).1 ((m5 _ 0 t11 u rfl)) (aN.refl _ _) ⟨rfl,rfl⟩
theorem G9:aJ Tryz.prog 42=true:=by kernel_rfl
end Go.Proofs.YtbbifdfldpfphaaGreat
namespace Go.Vm
theorem wr {n:Int} (h: -9223372036854775808≤n) (h2:n < 9223372036854775808):IntKind.wrap .i64 n=n:=by
 have e:IntKind.wrap .i64 n=(if decide (n % 18446744073709551616≥9223372036854775808)=true then n % 18446744073709551616 - 18446744073709551616 else n % 18446744073709551616):=rfl
 rw[e]
 simp only[decide_eq_true_eq]
 split <;> omega
theorem uO {i:Nat} (h:i < 1000000000):IntKind.wrap .i64 ((i:Int)+1)=((i+1:Nat):Int):=by rw[wr (by omega) (by omega)]; rfl
theorem HA {i:Nat} (h:i < 1000000000) (h0:0 < i):IntKind.wrap .i64 ((i:Int) - 1)=((i - 1:Nat):Int):=by rw[wr (by omega) (by omega)]; omega
theorem fA {α:Type} (l:List α) (i:Nat):ix l (i:Int)=l[i]? :=by simp[ix]
theorem EN {α:Type} (l:List α) {i:Int} (h:0≤i):ix l i=l[i.toNat]? :=by simp[ix,h]
theorem cL {α:Type} {xs ys:List α} (h:xs.length+ys.length≤1000000000):app xs ys=some (xs++ys):=by simp[app,h]
theorem dZ {σ ρ:Type} (c:Prop) [Decidable c] (a b:Option (Lp σ ρ)) (k:σ→Option ρ):after (if c then a else b) k=if c then after a k else after b k:=by split <;> rfl
theorem aL {σ ρ:Type} (s:σ) (k:σ→Option ρ):after (some (.brk s)) k=k s:=rfl
theorem hU {σ ρ:Type} (r:ρ) (k:σ→Option ρ):after (some (.ret r)) k=some r:=rfl
theorem fF {α β:Type} (c:Prop) [Decidable c] (a b:Option α) (k:α→Option β):(if c then a else b).bind k=if c then a.bind k else b.bind k:=by split <;> rfl
def LF {S ρ:Type} (emb:Nat→S) (p:Nat→Bool) (rv:Nat→ρ) (n:Nat):Lp S ρ:=match (List.range n).find? p with
 | none=>.brk (emb n)
 | some i=>.ret (rv i)
theorem rU {S ρ:Type} {body:S→Option (Lp S ρ)} (emb:Nat→S) (p:Nat→Bool) (rv:Nat→ρ):∀(m k F:Nat),m < F→
    (∀i,k≤i→i < k+m→(∀j,j < i→k≤j→p j=false)→body (emb i)=some (if p i then .ret (rv i) else .go (emb (i+1))))→((∀j,k≤j→j < k+m→p j=false)→body (emb (k+m))=some (.brk (emb (k+m))))→
    bC body F (emb k)=some (match (List.range' k m).find? p with | none=>.brk (emb (k+m)) | some i=>.ret (rv i))
  | 0,k,F+1,_,_,he=>by
    have:=he (λj h1 h2=>by omega)
    simp only[Nat.add_zero] at this
    simp[bC,this]
  | m+1,k,F+1,hF,hb,he=>by
    have h0:=hb k (Nat.le_refl _) (by omega) (λj h1 h2=>by omega)
    rw[List.range'_succ,List.find?_cons]
    cases hp:p k with
    | true=>simp[bC,h0,hp]
    | false=>
      have:=rU (body:=body) emb p rv m (k+1) F (by omega) (λi h1 h2 h3=>hb i (by omega) (by omega) (λj h4 h5=>by
        by_cases e:j=k
        · subst e; exact hp
        · exact h3 j h4 (by omega))) (λh=>by
        rw[show k+1+m=k+(m+1) from by omega]
        exact he λj h4 h5=>by
          by_cases e:j=k
          · subst e; exact hp
          · exact h j (by omega) (by omega))
      simp only[bC,h0,hp]
      rw[if_neg (by simp)]
      simp only[this,show k+1+m=k+(m+1) from by omega]
theorem jE {S ρ:Type} {body:S→Option (Lp S ρ)} {n F:Nat} {s0:S} (emb:Nat→S) (p:Nat→Bool) (rv:Nat→ρ) (hF:n < F) (h0:s0=emb 0)
    (hb:∀i,i < n→(∀j,j < i→p j=false)→body (emb i)=some (if p i then .ret (rv i) else .go (emb (i+1)))) (he:(∀j,j < n→p j=false)→body (emb n)=some (.brk (emb n))):
    bC body F s0=some (LF emb p rv n):=by
  subst h0
  have:=rU (body:=body) emb p rv n 0 F hF (λi _ h2 h3=>hb i (by omega) λj hj=>h3 j hj (Nat.zero_le _)) (λh=>by simpa using he λj hj=>h j (Nat.zero_le _) (by omega))
  rw[this,LF,List.range_eq_range']
  simp
theorem nI {S ρ:Type} {emb:Nat→S} {p:Nat→Bool} {r:ρ} {n:Nat}:LF emb p (λ_=>r) n=if (List.range n).any p then .ret r else .brk (emb n):=by
 unfold LF
 split
 ·rename_i h
  rw[if_neg]
  simp only[List.any_eq_true,not_exists,not_and]
  exact λx hx=>List.find?_eq_none.1 h x hx
 ·rename_i i h
  rw[if_pos]
  exact List.any_eq_true.2 ⟨i,List.mem_of_find?_eq_some h,List.find?_some h⟩
end Go.Vm
namespace Go.Proofs.YtbbifdfldpfphaaGreat
open Go.Vm
def vW (m:Nat) (p0:Int) (p1:Int) (p2:Int):Option (Bool):=
 after (if (decide (p1≤p0))=true then (some (.brk (decide (p0≤p2)))) else some (.brk false):Option (Lp (Bool) (Bool))) λj4=>some j4
theorem BD {u:Nat} {p0:Int} {p1:Int} {p2:Int} {o:Bool} (h:aA) (m:vW u p0 p1 p2=some o):
 aG Tryz.prog 97 [nZ p0,nZ p1,nZ p2] h (λr h'=>r= .sc (.bool o)∧h'=h):=by
 refine fC 15 [.tmp 6] Tryz.func97 rfl rfl rfl rfl ?_
 unfold vW at m
 refine v (vs (eN m (σ:=Bool) (λs=> []) (λs=>.c 6 (.sc (.bool s)) .nil) (λx m=> ?_) ?_))
 refine v ?_
 apply vi m <;> intro b5 m
 rw[b5]
 exact dJ m
 rw[b5]
 exact dJ m
 rintro _ j4 m
 refine v ?_
 obtain rfl:=cX m
 exact cH rfl
theorem qI:aJ Tryz.prog 97=true:=by kernel_rfl
def kX (m:Nat) (p0:ByteArray) (q0:Int):Option (Lp (Int) (Bool)):=
 if (decide (q0 < (p0.size:Int)))=true then (after ((AN p0 q0).bind λx0=>if (decide (x0 < 33))=true then (some (.brk true)) else (AN p0 q0).bind λx1=>some (.brk (decide (126 < x1))):Option (Lp (Bool) (Lp (Int) (Bool)))) λj0=>if j0=true then (some (.ret false)) else some (.go (IntKind.wrap .i64 (q0+1)))) else some (.brk q0)
def vX (m:Nat) (p0:ByteArray):Option (Bool):=
 after (bC (λs=>kX m p0 s) m 0) λr0=>after (if (decide (1≤(p0.size:Int)))=true then (some (.brk (decide ((p0.size:Int)≤20)))) else some (.brk false):Option (Lp (Bool) (Bool))) λj0=>some j0
theorem HB {u:Nat} {p0:ByteArray} {o:Bool} (h:aA) (m:vX u p0=some o):
 aG Tryz.prog 140 [.sc (.string p0)] h (λr h'=>r= .sc (.bool o)∧h'=h):=by
 refine fC 28 [.tmp 2] Tryz.func140 rfl rfl rfl rfl ?_
 unfold vX at m
 refine v (v (mE m (σ:=Int) (λs=> []) (λs=>.c 0 (.sc (.string p0)) (.c 3 (nZ s) .nil)) (lx (.k2 .nil)) ?_ ?_))
 rintro _ q0 x m
 replace m:kX u p0 q0=some x:=m
 unfold kX at m
 refine v (dK (gX z7 rfl) (v ?_))
 apply vi m <;> intro c0 m
 refine v (v (vs (eN m (σ:=Bool) (λs=> []) (λs=>.c 0 (.sc (.string p0)) (.c 3 (nZ q0) (.c 19 (.sc (.bool s)) .nil))) (λx m=> ?_) ?_)))
 refine v ?_
 obtain⟨_,X0,m⟩:=aE m
 refine dK (uF X0 u9 rfl rfl) ?_
 apply vi m <;> intro b0 m
 rw[b0]
 exact f8 m
 rw[b0]
 obtain⟨_,X1,m⟩:=aE m
 exact dK (uF X1 u9 rfl rfl) (f8 m)
 rintro _ j0 m
 refine v ?_
 apply vi m <;> intro c1 m
 refine v (v (kC m λm=> ?_))
 obtain rfl:=cX m
 exact cH rfl
 exact v (v (iE m))
 exact v (FC m)
 rintro _ r0 m
 refine vs (eN m (σ:=Bool) (λs=> []) (λs=>.c 2 (.sc (.bool s)) .nil) (λx m=> ?_) ?_)
 refine v (dK (gX z7 rfl) ?_)
 apply vi m <;> intro b1 m
 rw[b1]
 exact dK (gX z7 rfl) (dJ m)
 rw[b1]
 exact dJ m
 rintro _ j1 m
 refine v ?_
 obtain rfl:=cX m
 exact cH rfl
theorem B7:aJ Tryz.prog 140=true:=by kernel_rfl
def nJ (m:Nat) (p0:aK) (q0:Int):Option (Lp (Int) (Bool)):=
 if (decide (q0 < (p0.Parts.length:Int)))=true then ((ix p0.Parts q0).bind λx0=>after ((vX m x0.Path).bind λy0=>if (!y0)=true then (some (.brk true)) else if (decide (0 < q0))=true then ((ix p0.Parts (IntKind.wrap .i64 (q0 - 1))).bind λx1=>if (Op.bytesLess x0.Path.toList x1.Path.toList || x0.Path.toList==x1.Path.toList)=true then (some (.brk true)) else if (decide (x0.Size < 0))=true then (some (.brk true)) else if (decide (200 < x0.Size))=true then (some (.brk true)) else if (decide (25 < (x0.Ids.length:Int)))=true then (some (.brk true)) else some (.brk (((x0.Ids.length:Int)==0) !=(x0.Size==0)))) else if (decide (x0.Size < 0))=true then (some (.brk true)) else if (decide (200 < x0.Size))=true then (some (.brk true)) else if (decide (25 < (x0.Ids.length:Int)))=true then (some (.brk true)) else some (.brk (((x0.Ids.length:Int)==0) !=(x0.Size==0))):Option (Lp (Bool) (Lp (Int) (Bool)))) λj0=>if j0=true then (some (.ret false)) else some (.go (IntKind.wrap .i64 (q0+1)))) else some (.brk q0)
def HC (m:Nat) (p0:aK):Option (Bool):=
 after ((vX m p0.Name).bind λy0=>if (!y0)=true then (some (.brk true)) else some (.brk (decide (6 < (p0.Parts.length:Int)))):Option (Lp (Bool) (Bool))) λj0=>if j0=true then (some false) else after (bC (λs=>nJ m p0 s) m 0) λr0=>some true
theorem P1 {w:Nat} {p0:aK} {o:Bool} (h:aA) (m:HC w p0=some o):
 aG Tryz.prog 98 [.agg (aH p0)] h (λr h'=>r= .sc (.bool o)∧h'=h):=by
 refine fC 73 [.tmp 2] Tryz.func98 rfl rfl rfl rfl ?_
 unfold HC at m
 refine v (gH rfl rfl λk2 K3=>vs (vs (eN m (σ:=Bool) (λs=> [(some k2,.obj 58 (aH p0))]) (λs=>.c 1 (.ptr k2 0) (.c 14 (.sc (.bool s)) .nil)) (λx m=> ?_) ?_)))
 refine v (vl 0 _ mQ rfl rfl rfl (vk HB B7 m rfl rfl λ_ m=> ?_))
 apply vi m <;> intro b0 m
 rw[b0]
 exact iE m
 rw[b0]
 exact vl 0 _ fX rfl rfl rfl (cI kR rfl (iE m))
 rintro _ j0 m
 refine v ?_
 apply vi m <;> intro c0 m
 refine v (v ?_)
 obtain rfl:=cX m
 exact cH rfl
 refine v (v (mE m (σ:=Int) (λs=> [(some k2,.obj 58 (aH p0))]) (λs=>.c 1 (.ptr k2 0) (.c 3 (nZ s) .nil)) (lx (.k2 .nil)) ?_ ?_))
 rintro _ q0 x m
 replace m:nJ w p0 q0=some x:=m
 unfold nJ at m
 refine v (vl 0 _ fX rfl rfl rfl (cI kR rfl (v ?_)))
 apply vi m <;> intro c1 m
 refine v (v (v (vl 0 _ fX rfl rfl rfl (vx m lO rfl rfl λx0 _ m=>va (.agg (a9 x0)) s6 rfl rfl (ve λu=>bN (BX) u qD rfl rfl λk112 K0=>qk K0 rfl (ve λu=>aQ 0 (a9 x0) u rfl rfl rfl rfl rR rfl rfl λK1=>qk K1 rfl (vs (eN m (σ:=Bool) (λs=> [(some k112,.obj 70 (a9 x0)),(some k2,.obj 58 (aH p0))]) (λs=>.c 1 (.ptr k2 0) (.c 3 (nZ q0) (.c 72 (.sc (.bool s)) .nil))) (λx m=> ?_) ?_))))))))
 refine v (vq (by kernel_rfl) (vl 0 _ mQ rfl rfl rfl (vk HB B7 m rfl rfl λ_ m=> ?_)))
 apply vi m <;> intro b1 m
 rw[b1]
 exact f8 m
 rw[b1]
 apply vi m <;> intro b2 m
 rw[b2]
 refine vl 0 _ mQ rfl rfl rfl (vl 1 _ fX rfl rfl rfl (vx m lO rfl rfl λ_ _ m=>dK (sN rfl rfl rfl trivial) ?_))
 apply vi m <;> intro b3 m
 rw[b3]
 exact f8 m
 rw[b3]
 refine vl 0 _ bQ rfl rfl rfl ?_
 apply vi m <;> intro b4 m
 rw[b4]
 exact f8 m
 rw[b4]
 refine vl 0 _ bQ rfl rfl rfl ?_
 apply vi m <;> intro b5 m
 rw[b5]
 exact f8 m
 rw[b5]
 refine vl 0 _ kU rfl rfl rfl (cI lP rfl ?_)
 apply vi m <;> intro b6 m
 rw[b6]
 exact f8 m
 rw[b6]
 exact vl 0 _ kU rfl rfl rfl (cI lP rfl (vl 0 _ bQ rfl rfl rfl (dK (AM u4 rfl rfl rfl) (f8 m))))
 rw[b2]
 refine vl 0 _ bQ rfl rfl rfl ?_
 apply vi m <;> intro b7 m
 rw[b7]
 exact f8 m
 rw[b7]
 refine vl 0 _ bQ rfl rfl rfl ?_
 apply vi m <;> intro b8 m
 rw[b8]
 exact f8 m
 rw[b8]
 refine vl 0 _ kU rfl rfl rfl (cI lP rfl ?_)
 apply vi m <;> intro b9 m
 rw[b9]
 exact f8 m
 rw[b9]
 exact vl 0 _ kU rfl rfl rfl (cI lP rfl (vl 0 _ bQ rfl rfl rfl (dK (AM u4 rfl rfl rfl) (f8 m))))
 rintro _ j1 m
 refine v ?_
 apply vi m <;> intro c2 m
 refine v (v (kC m λm=> ?_))
 obtain rfl:=cX m
 exact cH rfl
 exact v (v (uL m (p4 [1] rfl rfl (.k2 .nil))))
 exact v (FC m)
 rintro _ r0 m
 refine v (v ?_)
 obtain rfl:=cX m
 exact cH rfl
theorem LG:aJ Tryz.prog 98=true:=by kernel_rfl
open Go.Vm
def EO (m:Nat) (p0:aF) (c0:ByteArray):Option (Bool):=
 some (p0.Man.Name.toList==c0.toList)
theorem LH {w:Nat} {p0:aF} {c0:ByteArray} {o:Bool} (h:aA) {c0K:aY} (c0H:h c0K=some (.obj 9 (uM c0))) (m:EO w p0 c0=some o):
 aG Tryz.prog 104 [.agg (bI p0),.ptr c0K 0] h (λr h'=>r= .sc (.bool o)∧h'=h):=by
 refine fC 9 [.tmp 3] Tryz.func104 rfl rfl rfl rfl ?_
 unfold EO at m
 refine v (gH rfl rfl λk2 K3=>v (vl 0 _ mQ rfl rfl rfl (vn (λu=>rE (.sc (.string c0)) mQ rfl (pE u c0H) rfl) (dK (sN rfl rfl rfl trivial) (v ?_)))))
 cases m
 exact cH rfl
theorem HD:aJ Tryz.prog 104=true:=by kernel_rfl
def LI (m:Nat) (p0:aD) (p1:ByteArray):Option (Int):=
 (A8 m p0.Snaps (λx0=>EO m x0 p1)).bind λy9=>some y9
theorem P2 {w:Nat} {p0:aD} {p1:ByteArray} {o:Int} (h:aA) (m:LI w p0 p1=some o):
 aG Tryz.prog 46 [.agg (aM p0),.sc (.string p1)] h (λr h'=>r=nZ o∧h'=h):=by
 refine fC 9 [.tmp 4] Tryz.func46 rfl rfl rfl rfl ?_
 unfold LI at m
 refine v (gH rfl rfl λk2 K3=>gH rfl rfl λk5 K6=>v (vl 1 _ n3 rfl rfl rfl ?_))
 obtain⟨_,Y0,m⟩:=aE m
 refine vn (λu=>cK (G1 _ HD (λ_ o h0 hs ho=>LH _ (hs _ _ (bF 0 u rfl)) ho) Y0) rfl B1 rfl) (v ?_)
 obtain rfl:=cX m
 exact cH rfl
theorem LJ:aJ Tryz.prog 46=true:=by kernel_rfl
def nK (m:Nat) (p0:List aB) (p1:aB→Option Bool) (q0:Int):Option (Lp (Int) (Int)):=
 if (decide (q0 < (p0.length:Int)))=true then ((ix p0 q0).bind λx0=>(p1 x0).bind λy0=>if y0=true then (some (.ret q0)) else some (.go (IntKind.wrap .i64 (q0+1)))) else some (.brk q0)
def HE (m:Nat) (p0:List aB) (p1:aB→Option Bool):Option (Int):=
 after (bC (λs=>nK m p0 p1 s) m 0) λr0=>some (-1)
theorem P3 {w:Nat} {p0:List aB} {p1:aB→Option Bool} {o:Int} (h:aA) {p1F:Nat} {p1C:List AV} (p1B:aJ Tryz.prog p1F=true) (p1H:∀x0 o h0,eO h h0→p1 x0=some o→aG Tryz.prog p1F ([.agg (aI x0)]++p1C) h0 (λr h'=>r= .sc (.bool o)∧h'=h0)) (m:HE w p0 p1=some o):
 aG Tryz.prog 53 [.sl none 35 (List.map aI p0),.fn (.func p1F) p1C] h (λr h'=>r=nZ o∧h'=h):=by
 refine fC 19 [.tmp 4] Tryz.func53 rfl rfl rfl rfl ?_
 unfold HE at m
 refine v (v (cI gJ rfl (mE m (σ:=Int) (λs=> []) (λs=>.c 0 (.sl none 35 (List.map aI p0)) (.c 1 (.fn (.func p1F) p1C) (.c 7 (nZ (p0.length:Int)) (.c 8 (nZ s) .nil)))) (lx (.k4 .nil)) ?_ ?_)))
 rintro _ q0 x m
 replace m:nK w p0 p1 q0=some x:=m
 unfold nK at m
 refine v (v ?_)
 apply vi m <;> intro c0 m
 refine v (v (v (v (vx m e9 rfl rfl λx1 _ m=>va (.agg (aI x1)) rQ rfl rfl ?_))))
 obtain⟨_,Y0,m⟩:=aE m
 refine vn (λu=>cK (p1H _ _ _ (aW (List.nil_sublist _) u).1 Y0) rfl p1B rfl) (v ?_)
 apply vi m <;> intro c1 m
 refine v (v (kC m λm=> ?_))
 obtain rfl:=cX m
 exact cH rfl
 exact v (v (jK m))
 exact v (C9 m)
 rintro _ r0 m
 refine v (v ?_)
 cases m
 exact cH rfl
theorem LK:aJ Tryz.prog 53=true:=by kernel_rfl
open Go.Vm Go.ChangeShapes Go.WideShapes
section
variable {H:Type} {enc:TypeId×Value→H} {W:World}
theorem uP:Tryz.prog.cellsOf 3=1:=by kernel_rfl
theorem uQ:Rd enc Tryz.prog W 3 fD gI:=CX u3
theorem OT:Tryz.prog.cellsOf 9=1:=by kernel_rfl
theorem OU:Rd enc Tryz.prog W 9 uM gT:=CY u9
theorem LL:Tryz.prog.cellsOf 41=1:=by kernel_rfl
theorem OV:Tryz.prog.cellsOf 5=1:=by kernel_rfl
theorem P4:Rd enc Tryz.prog W 5 bZ gB:=F1 u5
theorem LM:Rd enc Tryz.prog W 41 xK (gL gB):=Rd.slice P4 PR OV (λ_=>rfl) (by decide)
theorem P5:Tryz.prog.cellsOf 4=1:=by kernel_rfl
theorem P6:Rd enc Tryz.prog W 4 xJ gT:=AQ u4
theorem LN:Tryz.prog.cellsOf 62=9:=by kernel_rfl
theorem HF:Tryz.prog.cellsOf 60=4:=by kernel_rfl
theorem HG:Tryz.prog.cellsOf 58=2:=by kernel_rfl
theorem LO:Tryz.prog.cellsOf 56=1:=by kernel_rfl
theorem HH:Tryz.prog.cellsOf 70=3:=by kernel_rfl
theorem LP:Tryz.prog.cellsOf 68=1:=by kernel_rfl
theorem BE:Tryz.prog.cellsOf 36=32:=by kernel_rfl
theorem EP:Rd enc Tryz.prog W 36 bH (λx:cF=>gL gB x.1):=Rd.id A4 u5 OV BE
theorem LQ:Rd enc Tryz.prog W 68 xL (gL (λx:cF=>gL gB x.1)):=Rd.slice EP PU BE (λx=>by rw[iX,List.length_map,x.2]) (by decide)
def tE (x:dR):Prop:=gT x.Path∧gI x.Size∧(gL (λx:cF=>gL gB x.1)) x.Ids
theorem LR:m8 Tryz.prog 70=some 3:=by kernel_rfl
theorem LS:Rd enc Tryz.prog W 70 a9 tE:=by
 intro fuel cs x h
 obtain⟨hl,hf⟩:=Rd.flds LR HH h
 obtain⟨a0,g0,v0,w0⟩:=hf 0 0 1 EA OT OU
 obtain⟨a1,g1,v1,w1⟩:=hf 1 1 1 EB uP uQ
 obtain⟨a2,g2,v2,w2⟩:=hf 2 2 1 EC LP LQ
 obtain⟨v,w⟩:=(hJ.cons v0 w0 (hJ.cons v1 w1 (hJ.cons v2 w2 (hJ.nil hl) rfl) rfl) rfl)
 exact⟨⟨a0,a1,a2⟩,⟨g0,g1,g2⟩,by simpa [a9,uM,fD,xL] using v,by simpa using w⟩
theorem LT:Rd enc Tryz.prog W 56 rN (gL tE):=Rd.slice LS PT HH (λx=>by simp[a9,bH]) (by decide)
def nL (x:aK):Prop:=gT x.Name∧(gL tE) x.Parts
theorem LU:m8 Tryz.prog 58=some 2:=by kernel_rfl
theorem LV:Rd enc Tryz.prog W 58 aH nL:=by
 intro fuel cs x h
 obtain⟨hl,hf⟩:=Rd.flds LU HG h
 obtain⟨a0,g0,v0,w0⟩:=hf 0 0 1 DW OT OU
 obtain⟨a1,g1,v1,w1⟩:=hf 1 1 1 DX LO LT
 obtain⟨v,w⟩:=(hJ.cons v0 w0 (hJ.cons v1 w1 (hJ.nil hl) rfl) rfl)
 exact⟨⟨a0,a1⟩,⟨g0,g1⟩,by simpa [aH,uM,rN] using v,by simpa using w⟩
theorem HI:Tryz.prog.cellsOf 42=1:=by kernel_rfl
theorem HJ:Tryz.prog.cellsOf 81=4:=by kernel_rfl
def i7 (x:cA):Prop:=gI x.Vol∧gI x.File∧gI x.Off∧gI x.Len
theorem LW:m8 Tryz.prog 81=some 4:=by kernel_rfl
theorem LY:Rd enc Tryz.prog W 81 bD i7:=by
 intro fuel cs x h
 obtain⟨hl,hf⟩:=Rd.flds LW HJ h
 obtain⟨a0,g0,v0,w0⟩:=hf 0 0 1 ED uP uQ
 obtain⟨a1,g1,v1,w1⟩:=hf 1 1 1 EE uP uQ
 obtain⟨a2,g2,v2,w2⟩:=hf 2 2 1 EF uP uQ
 obtain⟨a3,g3,v3,w3⟩:=hf 3 3 1 EG uP uQ
 obtain⟨v,w⟩:=(hJ.cons v0 w0 (hJ.cons v1 w1 (hJ.cons v2 w2 (hJ.cons v3 w3 (hJ.nil hl) rfl) rfl) rfl) rfl)
 exact⟨⟨a0,a1,a2,a3⟩,⟨g0,g1,g2,g3⟩,by simpa [bD,fD,fD,fD,fD] using v,by simpa using w⟩
theorem HK:Rd enc Tryz.prog W 42 p9 (gL i7):=Rd.slice LY PS HJ (λx=>by simp[bD,bH]) (by decide)
def tF (x:aF):Prop:=gI x.Seq∧nL x.Man∧(gL i7) x.Locs
theorem LZ:m8 Tryz.prog 60=some 3:=by kernel_rfl
theorem L0:Rd enc Tryz.prog W 60 bI tF:=by
 intro fuel cs x h
 obtain⟨hl,hf⟩:=Rd.flds LZ HF h
 obtain⟨a0,g0,v0,w0⟩:=hf 0 0 1 DY uP uQ
 obtain⟨a1,g1,v1,w1⟩:=hf 1 1 2 DZ HG LV
 obtain⟨a2,g2,v2,w2⟩:=hf 2 3 1 D0 HI HK
 obtain⟨v,w⟩:=(hJ.cons v0 w0 (hJ.cons v1 w1 (hJ.cons v2 w2 (hJ.nil hl) rfl) rfl) rfl)
 exact⟨⟨a0,a1,a2⟩,⟨g0,g1,g2⟩,by simpa [bI,fD,aH,p9] using v,by simpa using w⟩
theorem L2:Tryz.prog.cellsOf 26=1:=by kernel_rfl
theorem HM:Tryz.prog.cellsOf 44=35:=by kernel_rfl
def mR (x:aB):Prop:=(λx:cF=>gL gB x.1) x.Id∧gT x.Staged∧(gL gB) x.Data∧(gL i7) x.Locs
theorem L4:m8 Tryz.prog 44=some 4:=by kernel_rfl
theorem L5:Rd enc Tryz.prog W 44 aI mR:=by
 intro fuel cs x h
 obtain⟨hl,hf⟩:=Rd.flds L4 HM h
 obtain⟨a0,g0,v0,w0⟩:=hf 0 0 32 DQ BE EP
 obtain⟨a1,g1,v1,w1⟩:=hf 1 32 1 DS P5 P6
 obtain⟨a2,g2,v2,w2⟩:=hf 2 33 1 DT LL LM
 obtain⟨a3,g3,v3,w3⟩:=hf 3 34 1 DU HI HK
 obtain⟨v,w⟩:=(hJ.cons v0 w0 (hJ.cons v1 w1 (hJ.cons v2 w2 (hJ.cons v3 w3 (hJ.nil hl) rfl) rfl) rfl) rfl)
 exact⟨⟨a0,a1,a2,a3⟩,⟨g0,g1,g2,g3⟩,by simpa [aI,xJ,xK,p9] using v,by simpa using w⟩
theorem L6:Rd enc Tryz.prog W 26 oZ (gL mR):=Rd.slice L5 OQ HM (λx=>by simp[aI,bH]) (by decide)
theorem L7:Tryz.prog.cellsOf 33=1:=by kernel_rfl
theorem HN:Tryz.prog.cellsOf 38=37:=by kernel_rfl
def tG (x:bL):Prop:=gI x.Kind∧(λx:cF=>gL gB x.1) x.Id∧gI x.Seq∧gI x.Of∧gI x.Off∧gI x.Len
theorem L8:m8 Tryz.prog 38=some 6:=by kernel_rfl
theorem L9:Rd enc Tryz.prog W 38 bB tG:=by
 intro fuel cs x h
 obtain⟨hl,hf⟩:=Rd.flds L8 HN h
 obtain⟨a0,g0,v0,w0⟩:=hf 0 0 1 DD uP uQ
 obtain⟨a1,g1,v1,w1⟩:=hf 1 1 32 DF BE EP
 obtain⟨a2,g2,v2,w2⟩:=hf 2 33 1 DH uP uQ
 obtain⟨a3,g3,v3,w3⟩:=hf 3 34 1 DJ uP uQ
 obtain⟨a4,g4,v4,w4⟩:=hf 4 35 1 DL uP uQ
 obtain⟨a5,g5,v5,w5⟩:=hf 5 36 1 DN uP uQ
 obtain⟨v,w⟩:=(hJ.cons v0 w0 (hJ.cons v1 w1 (hJ.cons v2 w2 (hJ.cons v3 w3 (hJ.cons v4 w4 (hJ.cons v5 w5 (hJ.nil hl) rfl) rfl) rfl) rfl) rfl) rfl)
 exact⟨⟨a0,a1,a2,a3,a4,a5⟩,⟨g0,g1,g2,g3,g4,g5⟩,by simpa [bB,fD,fD,fD,fD,fD] using v,by simpa using w⟩
theorem MA:Rd enc Tryz.prog W 33 rO (gL tG):=Rd.slice L9 PQ HN (λx=>by simp[bB,bH]) (by decide)
def rV (x:aR):Prop:=gI x.Kind∧tF x.Snap∧(gL mR) x.Chunks∧gI x.Seq∧gI x.Vol∧(gL tG) x.Items
theorem HO:m8 Tryz.prog 62=some 6:=by kernel_rfl
theorem MB:Rd enc Tryz.prog W 62 aC rV:=by
 intro fuel cs x h
 obtain⟨hl,hf⟩:=Rd.flds HO LN h
 obtain⟨a0,g0,v0,w0⟩:=hf 0 0 1 D4 uP uQ
 obtain⟨a1,g1,v1,w1⟩:=hf 1 1 4 D5 HF L0
 obtain⟨a2,g2,v2,w2⟩:=hf 2 5 1 D6 L2 L6
 obtain⟨a3,g3,v3,w3⟩:=hf 3 6 1 D7 uP uQ
 obtain⟨a4,g4,v4,w4⟩:=hf 4 7 1 D8 uP uQ
 obtain⟨a5,g5,v5,w5⟩:=hf 5 8 1 D9 L7 MA
 obtain⟨v,w⟩:=(hJ.cons v0 w0 (hJ.cons v1 w1 (hJ.cons v2 w2 (hJ.cons v3 w3 (hJ.cons v4 w4 (hJ.cons v5 w5 (hJ.nil hl) rfl) rfl) rfl) rfl) rfl) rfl)
 exact⟨⟨a0,a1,a2,a3,a4,a5⟩,⟨g0,g1,g2,g3,g4,g5⟩,by simpa [aC,fD,bI,oZ,fD,fD,rO] using v,by simpa using w⟩
def HP (x:aV):Prop:=gI x.Seq∧gI x.Of∧(gL i7) x.Locs
def HQ (x:e8):Prop:=gI x.Pool∧gI x.Epoch∧gI x.State∧gI x.Files
def o2 (x:aD):Prop:=gI x.Seq∧(gL tF) x.Snaps∧(gL mR) x.Chunks∧(gL HP) x.Exps∧(gL HQ) x.Vols
theorem MC:Tryz.prog.readableRec 62=true∧62 < Tryz.prog.types.size:=⟨by kernel_rfl,of_decide_eq_true (by kernel_rfl)⟩
theorem MD:ownKnob Tryz.prog.godebug=none:=by kernel_rfl
theorem yG:laidOutB Tryz.prog=true:=by kernel_rfl
end
open Go.Vm
def eR (a b c:Int):Bool:=decide (b≤a) && decide (a≤c)
theorem HR (F:Nat) (a b c:Int):vW F a b c=some (eR a b c):=by
 unfold vW eR
 by_cases h:b≤a <;> simp[after,h]
def BF (a b:cA):Bool:=if a.Vol !=b.Vol then decide (b.Vol < a.Vol) else if a.File !=b.File then decide (b.File < a.File) else decide (b.Off < a.Off)
def ME (c:aD) (l:List cA) (i:Nat):Bool:=match l[i]? with
  | none=>true
  | some x=>eR x.Vol 0 ((c.Vols.length:Int) - 1) && (match c.Vols[x.Vol.toNat]? with | none=>false | some v=>v.State==2 && eR x.File 1 v.Files) && eR x.Off 0 16777215 && eR x.Len 13 8013 &&
      (i==0 || (match l[i - 1]? with | none=>true | some y=>BF x y))
def HS (c:aD) (l:List cA):Bool:=decide (l.length≤200) && !(List.range l.length).any λi=> !ME c l i
open Go.Vm Go.Lib
def key:List Int→Int
 | []=>0
 | a::u=>a*256 ^ u.length+key u
def JL (x:cF):Prop:=gL gB x.1
def ky (x:cF):Int:=key x.1
open Go.Vm
structure Sm (c:aD):Prop where
 g:o2 c
 sn:c.Snaps.length≤12
 ch:c.Chunks.length≤400
 ex:c.Exps.length≤300
 vo:c.Vols.length≤20
 sl:∀s∈c.Snaps,s.Locs.length≤300
 cl:∀x∈c.Chunks,x.Locs.length≤300∧x.Data.length≤300
 el:∀x∈c.Exps,x.Locs.length≤300
 man:∀s∈c.Snaps,s.Man.Name.size≤100∧s.Man.Parts.length≤10∧∀p∈s.Man.Parts,p.Path.size≤100∧p.Ids.length≤40
theorem vY {α:Type} (l:List α) (q:α→Bool):((List.range l.length).any λi=>(l[i]?).any q)=l.any q:=by
 rw[Bool.eq_iff_iff]
 simp only[List.any_eq_true,List.mem_range]
 constructor
 ·rintro⟨i,hi,h⟩
  rw[List.getElem?_eq_getElem hi] at h
  exact⟨l[i],List.getElem_mem hi,by simpa using h⟩
 ·rintro⟨x,hx,h⟩
  obtain⟨i,hi,rfl⟩:=List.getElem_of_mem hx
  exact⟨i,hi,by rw[List.getElem?_eq_getElem hi]; simpa using h⟩
def MF (v:e8):Bool:=eR v.Pool 0 1 && eR v.Epoch 0 1048576 && ((v.State==2 && eR v.Files 1 65535) || ((v.State==1 || v.State==3) && v.Files==0))
open Go.Vm
theorem rW {s:ByteArray} {i:Nat} (h:i < s.size):∃z:Int,AN s (i:Int)=some z:=by
 unfold AN
 rw[if_pos (Int.natCast_nonneg i),Int.toNat_natCast]
 have:s[i]? =some s[i]:=getElem?_pos s i h
 rw[this]
 exact⟨_,rfl⟩
def EQ (s:ByteArray) (i:Nat):Bool:=(AN s (i:Int)).any λz=>decide (z < 33) || decide (126 < z)
def iN (s:ByteArray):Bool:=eR s.size 1 20 && !(List.range s.size).any (EQ s)
theorem HT {F:Nat} {s:ByteArray} (hF:1000≤F):vV F s=some (iN s):=by
 unfold vV iN eR
 by_cases h1:(s.size:Int) < 1
 ·have h2:¬(1:Int)≤s.size:=by omega
  simp[after,h1,h2]
 ·by_cases h2:20 < (s.size:Int)
  ·have h3:¬(s.size:Int)≤20:=by omega
   simp[after,h1,h2,h3]
  ·rw[jE (s0:=(0:Int)) (n:=s.size) (F:=F) (λi:Nat=>(i:Int)) (EQ s) (λ_=>false) (by omega) rfl,nI]
   ·have h3:(s.size:Int)≤20:=by omega
    have h4:(1:Int)≤s.size:=by omega
    simp only[h1,h2,h3,h4]
    cases h:(List.range s.size).any (EQ s) <;> simp[after]
   ·intro i hi _
    unfold kV EQ
    obtain⟨z,hz⟩:=rW hi
    rw[uO (by omega)]
    simp only[hz,Option.bind_some,dZ,aL,hU,fF,Int.ofNat_lt,hi,decide_true,if_true,Option.any_some]
    grind
   ·intro _
    unfold kV
    simp
theorem HU {F:Nat} {s:ByteArray} (hF:1000≤F) (hs:s.size≤100):vX F s=some (iN s):=by
 unfold vX iN eR
 rw[jE (s0:=(0:Int)) (n:=s.size) (F:=F) (λi:Nat=>(i:Int)) (EQ s) (λ_=>false) (by omega) rfl,nI]
 ·cases h:(List.range s.size).any (EQ s)
  ·simp only[dZ,aL,hU]
   by_cases h1:(1:Int)≤s.size <;> simp[aL,h1]
  ·simp[after]
 ·intro i hi _
  unfold kX EQ
  obtain⟨z,hz⟩:=rW hi
  rw[uO (by omega)]
  simp only[hz,Option.bind_some,dZ,aL,hU,fF,Int.ofNat_lt,hi,decide_true,if_true,Option.any_some]
  grind
 ·intro _
  unfold kX
  simp
def yH (x y:dR):Bool:=Op.bytesLess x.Path.toList y.Path.toList || x.Path.toList==y.Path.toList
def o3 (x:dR):Bool:=iN x.Path && decide (0≤x.Size) && decide (x.Size≤200) && decide (x.Ids.length≤25) && ((x.Ids.length==0)==(x.Size==0))
def BG (m:aK) (i:Nat):Bool:=match m.Parts[i]? with
 | none=>true
 | some x=>o3 x && (i==0 || (match m.Parts[i - 1]? with | none=>true | some y=> !yH x y))
def mM (m:aK):Bool:=iN m.Name && decide (m.Parts.length≤6) && !(List.range m.Parts.length).any λi=> !BG m i
theorem CZ (n:Nat):((n:Int)==0)=(n==0):=by
 rw[Bool.eq_iff_iff]; simp
theorem MG {F:Nat} {x:dR} (hF:1000≤F):yF F x=some (o3 x):=by
 unfold yF o3
 simp only[HT hF,Option.bind_some,dZ,aL,CZ]
 generalize iN x.Path=a
 generalize x.Ids.length=n
 by_cases h1:(n:Int)≤25
 ·have h2:n≤25:=by omega
  simp only[h1,h2]
  grind
 ·have h2:¬n≤25:=by omega
  simp only[h1,h2]
  grind
theorem OW {F:Nat} {m:aK} (hF:1000≤F):rT F m=some (if mM m then 0 else 1):=by
 unfold rT mM
 simp only[HT hF,Option.bind_some,dZ,aL,fF]
 cases hn:iN m.Name
 ·simp
 ·by_cases hl:6 < (m.Parts.length:Int)
  ·have:¬m.Parts.length≤6:=by omega
   simp[hl,this]
  ·have h6:m.Parts.length≤6:=by omega
   rw[jE (s0:=(0:Int)) (n:=m.Parts.length) (F:=F) (λi:Nat=>(i:Int)) (λi=> !BG m i) (λ_=>1) (by omega) rfl,nI]
   ·simp only[hl,h6]
    cases (List.range m.Parts.length).any λi=> !BG m i <;> simp[after]
   ·intro i hi _
    unfold kW BG
    have hx:m.Parts[i]? =some m.Parts[i]:=List.getElem?_eq_getElem hi
    generalize m.Parts[i]=x at hx
    rw[uO (by omega)]
    simp only[fA,hx,MG hF,Option.bind_some,dZ,aL,hU,fF,Int.ofNat_lt,hi,decide_true,if_true]
    by_cases h0:i=0
    ·subst h0
     simp
     split <;> rfl
    ·have h5:m.Parts[i - 1]? =some m.Parts[i - 1]:=List.getElem?_eq_getElem (by omega)
     generalize m.Parts[i - 1]=y at h5
     rw[HA (by omega) (by omega)]
     simp only[fA,h5,Option.bind_some,aL]
     rw[show (Op.bytesLess x.Path.toList y.Path.toList || x.Path.toList==y.Path.toList)=yH x y from rfl]
     have h7:(0:Int) < i:=by omega
     simp only[h7,decide_true,if_true,h0]
     cases o3 x <;> cases yH x y <;> simp[h0]
   ·intro _; unfold kW; simp
theorem P7 {F:Nat} {m:aK} (hF:1000≤F) (hm:m.Name.size≤100) (hp:∀p∈m.Parts,p.Path.size≤100):HC F m=some (mM m):=by
 unfold HC mM
 simp only[HU hF hm,Option.bind_some,dZ,aL,fF]
 cases hn:iN m.Name
 ·simp
 ·by_cases hl:6 < (m.Parts.length:Int)
  ·have:¬m.Parts.length≤6:=by omega
   simp[hl,this]
  ·have h6:m.Parts.length≤6:=by omega
   rw[jE (s0:=(0:Int)) (n:=m.Parts.length) (F:=F) (λi:Nat=>(i:Int)) (λi=> !BG m i) (λ_=>false) (by omega) rfl,nI]
   ·simp only[hl,h6]
    cases (List.range m.Parts.length).any λi=> !BG m i <;> simp[after]
   ·intro i hi _
    unfold nJ BG o3
    have hx:m.Parts[i]? =some m.Parts[i]:=List.getElem?_eq_getElem hi
    have hpx:=hp _ (List.mem_of_getElem? hx)
    generalize m.Parts[i]=x at hx hpx
    rw[uO (by omega)]
    simp only[fA,hx,HU hF hpx,Option.bind_some,dZ,aL,hU,fF,Int.ofNat_lt,hi,decide_true,if_true,CZ]
    generalize iN x.Path=a
    generalize x.Ids.length=n
    have hn:(25 < (n:Int))=(25 < n):=by simp; omega
    simp only[hn]
    by_cases h0:i=0
    ·subst h0
     simp
     grind
    ·have h5:m.Parts[i - 1]? =some m.Parts[i - 1]:=List.getElem?_eq_getElem (by omega)
     generalize m.Parts[i - 1]=y at h5
     rw[HA (by omega) (by omega)]
     simp only[fA,h5,Option.bind_some,aL]
     rw[show (Op.bytesLess x.Path.toList y.Path.toList || x.Path.toList==y.Path.toList)=yH x y from rfl]
     have h7:(0:Int) < i:=by omega
     have h8:(i==0)=false:=by simpa using h0
     simp only[h7,decide_true,if_true,h8,Bool.false_or]
     generalize yH x y=o
     generalize ((n==0):Bool)=e0
     generalize (x.Size==0:Bool)=e1
     have e2:decide (x.Size < 0)= !decide (0≤x.Size):=by rw[← decide_not]; congr 1; simp
     have e3:decide (200 < x.Size)= !decide (x.Size≤200):=by rw[← decide_not]; congr 1; simp
     have e4:decide (25 < n)= !decide (n≤25):=by rw[← decide_not]; congr 1; simp
     rw[e2,e3,e4]
     generalize decide (0≤x.Size)=f2
     generalize decide (x.Size≤200)=f3
     generalize decide (n≤25)=f4
     cases a <;> cases o <;> cases f2 <;> cases f3 <;> cases f4 <;> cases e0 <;> cases e1 <;> rfl
   ·intro _; unfold nJ; simp
open Go.Vm
def HV (c:aD) (d:cF):Bool:=c.Snaps.any λs=>s.Man.Parts.any λp=>p.Ids.any λx=>decide (d=x)
def FM (c:aD) (i:Nat):Bool:=match c.Exps[i]? with
 | none=>true
 | some x=>eR x.Seq 0 (c.Seq - 1) && (i==0 || (match c.Exps[i - 1]? with | none=>true | some y=>decide (y.Seq < x.Seq))) && eR x.Of 0 (x.Seq - 1) && !(x.Locs.length==0) && HS c x.Locs
open Go.Vm
def HW (l:List aB):Prop:=(∀x∈l,JL x.Id)∧∀(i j:Nat) (x y:aB),l[i]? =some x→l[j]? =some y→i < j→ky x.Id < ky y.Id
def MH (l:List aB) (d:cF):Bool:=l.any λx=>decide (x.Id=d)
theorem i8 {S ρ:Type} {body:S→Option (Lp S ρ)} {I:Nat→S→Prop} {n:Nat} (hb:∀i s,i < n→I i s→∃s',body s=some (.go s')∧I (i+1) s') (he:∀s,I n s→body s=some (.brk s)):∀(G k:Nat) (s:S),k≤n→n - k < G→I k s→
    ∃s',I n s'∧bC body G s=some (.brk s')
  | 0,_,_,_,h,_=>by omega
  | G+1,k,s,hk,h,hi=>by
    unfold bC
    by_cases e:k=n
    · subst e
      rw[he s hi]
      exact⟨s,hi,rfl⟩
    · obtain⟨s',h1,h2⟩:=hb k s (by omega) hi
      rw[h1]
      exact i8 hb he G (k+1) s' (by omega) (by omega) h2
open Go.Vm
def P8 (c:aD) (m:aK):Bool:=m.Parts.all λp=>p.Ids.all λd=>MH c.Chunks d
open Go.Vm
def nM (m:Nat) (p0:aK) (q0:Int):Option (Lp (Int) (Bool)):=
 if (decide (q0 < (p0.Parts.length:Int)))=true then (after ((ix p0.Parts q0).bind λx0=>if (decide (100 < (x0.Path.size:Int)))=true then (some (.brk true)) else (ix p0.Parts q0).bind λx1=>some (.brk (decide (40 < (x1.Ids.length:Int)))):Option (Lp (Bool) (Lp (Int) (Bool)))) λj0=>if j0=true then (some (.ret true)) else some (.go (IntKind.wrap .i64 (q0+1)))) else some (.brk q0)
def HX (m:Nat) (p0:aK):Option (Bool):=
 after (if (decide (100 < (p0.Name.size:Int)))=true then (some (.brk true)) else some (.brk (decide (10 < (p0.Parts.length:Int)))):Option (Lp (Bool) (Bool))) λj8=>if j8=true then (some true) else after (bC (λs=>nM m p0 s) m 0) λr0=>some false
theorem P9 {u:Nat} {p0:aK} {o:Bool} (h:aA) (m:HX u p0=some o):
 aG Tryz.prog 93 [.agg (aH p0)] h (λr h'=>r= .sc (.bool o)∧h'=h):=by
 refine fC 39 [.tmp 2] Tryz.func93 rfl rfl rfl rfl ?_
 unfold HX at m
 refine v (gH rfl rfl λk2 K3=>vs (vs (eN m (σ:=Bool) (λs=> [(some k2,.obj 58 (aH p0))]) (λs=>.c 1 (.ptr k2 0) (.c 13 (.sc (.bool s)) .nil)) (λx m=> ?_) ?_)))
 refine v (vl 0 _ mQ rfl rfl rfl (dK (gX z7 rfl) ?_))
 apply vi m <;> intro b9 m
 rw[b9]
 exact iE m
 rw[b9]
 exact vl 0 _ fX rfl rfl rfl (cI kR rfl (iE m))
 rintro _ j8 m
 refine v ?_
 apply vi m <;> intro c0 m
 refine v (v ?_)
 obtain rfl:=cX m
 exact cH rfl
 refine v (v (mE m (σ:=Int) (λs=> [(some k2,.obj 58 (aH p0))]) (λs=>.c 1 (.ptr k2 0) (.c 3 (nZ s) .nil)) (lx (.k2 .nil)) ?_ ?_))
 rintro _ q0 x m
 replace m:nM u p0 q0=some x:=m
 unfold nM at m
 refine v (vl 0 _ fX rfl rfl rfl (cI kR rfl (v ?_)))
 apply vi m <;> intro c1 m
 refine v (v (vs (eN m (σ:=Bool) (λs=> [(some k2,.obj 58 (aH p0))]) (λs=>.c 1 (.ptr k2 0) (.c 3 (nZ q0) (.c 38 (.sc (.bool s)) .nil))) (λx m=> ?_) ?_)))
 refine v (vl 0 _ fX rfl rfl rfl (vx m lO rfl rfl λ_ _ m=>dK (gX z7 rfl) ?_))
 apply vi m <;> intro b0 m
 rw[b0]
 exact f8 m
 rw[b0]
 exact vl 0 _ fX rfl rfl rfl (vx m lO rfl rfl λ_ _ m=>cI lP rfl (f8 m))
 rintro _ j0 m
 refine v ?_
 apply vi m <;> intro c2 m
 refine v (v (kC m λm=> ?_))
 obtain rfl:=cX m
 exact cH rfl
 exact v (v (iE m))
 exact v (FC m)
 rintro _ r0 m
 refine v (v ?_)
 obtain rfl:=cX m
 exact cH rfl
theorem MI:aJ Tryz.prog 93=true:=by kernel_rfl
open Go.Vm
def ER (m:Nat) (p0:cA) (p1:cA):Option (Bool):=
 after (if (p0.Vol==p1.Vol)=true then (if (p0.File==p1.File)=true then (if (p0.Off==p1.Off)=true then (some (.brk (p0.Len==p1.Len))) else some (.brk false)) else some (.brk false)) else some (.brk false):Option (Lp (Bool) (Bool))) λj0=>some j0
theorem MJ {u:Nat} {p0:cA} {p1:cA} {o:Bool} (h:aA) (m:ER u p0 p1=some o):
 aG Tryz.prog 102 [.agg (bD p0),.agg (bD p1)] h (λr h'=>r= .sc (.bool o)∧h'=h):=by
 refine fC 31 [.tmp 4] Tryz.func102 rfl rfl rfl rfl ?_
 unfold ER at m
 refine v (gH rfl rfl λk2 K3=>gH rfl rfl λk5 K6=>vs (eN m (σ:=Bool) (λs=> [(some k5,.obj 81 (bD p1)),(some k2,.obj 81 (bD p0))]) (λs=>.c 4 (.sc (.bool s)) .nil) (λx m=> ?_) ?_))
 refine v (vl 1 _ bQ rfl rfl rfl (vl 0 _ bQ rfl rfl rfl ?_))
 apply vi m <;> intro b0 m
 rw[b0]
 refine vl 1 _ bQ rfl rfl rfl (vl 0 _ bQ rfl rfl rfl ?_)
 apply vi m <;> intro b1 m
 rw[b1]
 refine vl 1 _ bQ rfl rfl rfl (vl 0 _ bQ rfl rfl rfl ?_)
 apply vi m <;> intro b2 m
 rw[b2]
 exact vl 1 _ bQ rfl rfl rfl (vl 0 _ bQ rfl rfl rfl (dJ m))
 rw[b2]
 exact dJ m
 rw[b1]
 exact dJ m
 rw[b0]
 exact dJ m
 rintro _ j0 m
 refine v ?_
 obtain rfl:=cX m
 exact cH rfl
theorem HY:aJ Tryz.prog 102=true:=by kernel_rfl
def tH (m:Nat) (p0:List cA) (p1:List cA) (q0:Int):Option (Lp (Int) (Bool)):=
 if (decide (q0 < (p0.length:Int)))=true then ((ix p0 q0).bind λx0=>(ix p1 q0).bind λx1=>(ER m x0 x1).bind λy0=>if (!y0)=true then (some (.ret false)) else some (.go (IntKind.wrap .i64 (q0+1)))) else some (.brk q0)
def B8 (m:Nat) (p0:List cA) (p1:List cA):Option (Bool):=
 if ((p0.length:Int) !=(p1.length:Int))=true then (some false) else after (bC (λs=>tH m p0 p1 s) m 0) λr0=>some true
theorem OX {u:Nat} {p0:List cA} {p1:List cA} {o:Bool} (h:aA) (m:B8 u p0 p1=some o):
 aG Tryz.prog 84 [.sl none 4 (List.map bD p0),.sl none 4 (List.map bD p1)] h (λr h'=>r= .sc (.bool o)∧h'=h):=by
 refine fC 27 [.tmp 4] Tryz.func84 rfl rfl rfl rfl ?_
 unfold B8 at m
 refine v (v (cI i6 rfl (cI i6 rfl (v ?_))))
 apply vi m <;> intro c4 m
 refine v (v ?_)
 obtain rfl:=cX m
 exact cH rfl
 refine v (v (mE m (σ:=Int) (λs=> []) (λs=>.c 0 (.sl none 4 (List.map bD p0)) (.c 1 (.sl none 4 (List.map bD p1)) (.c 5 (nZ s) .nil))) (lx (.k3 .nil)) ?_ ?_))
 rintro _ q0 x m
 replace m:tH u p0 p1 q0=some x:=m
 unfold tH at m
 refine v (cI i6 rfl (v ?_))
 apply vi m <;> intro c0 m
 refine v (v (v (vq (by kernel_rfl) (vx m xS rfl rfl λx0 _ m=>va (.agg (bD x0)) yB rfl rfl (vx m xS rfl rfl λx1 _ m=>va (.agg (bD x1)) yB rfl rfl (vk MJ HY m rfl rfl λ_ m=>v ?_))))))
 apply vi m <;> intro c1 m
 refine v (v (kC m λm=> ?_))
 obtain rfl:=cX m
 exact cH rfl
 exact v (v (f8 m))
 exact v (C8 m)
 rintro _ r0 m
 refine v (v ?_)
 obtain rfl:=cX m
 exact cH rfl
theorem HZ:aJ Tryz.prog 84=true:=by kernel_rfl
def tI (m:Nat) (p0:List Int) (p1:List Int) (q0:Int):Option (Lp (Int) (Bool)):=
 if (decide (q0 < (p0.length:Int)))=true then ((ix p0 q0).bind λx0=>(ix p1 q0).bind λx1=>if (x0 !=x1)=true then (some (.ret false)) else some (.go (IntKind.wrap .i64 (q0+1)))) else some (.brk q0)
def MK (m:Nat) (p0:List Int) (p1:List Int):Option (Bool):=
 if ((p0.length:Int) !=(p1.length:Int))=true then (some false) else after (bC (λs=>tI m p0 p1 s) m 0) λr0=>some true
theorem QA {u:Nat} {p0:List Int} {p1:List Int} {o:Bool} (h:aA) (m:MK u p0 p1=some o):
 aG Tryz.prog 44 [.sl none 1 (List.map bZ p0),.sl none 1 (List.map bZ p1)] h (λr h'=>r= .sc (.bool o)∧h'=h):=by
 refine fC 26 [.tmp 4] Tryz.func44 rfl rfl rfl rfl ?_
 unfold MK at m
 refine v (v (cI iG rfl (cI iG rfl (v ?_))))
 apply vi m <;> intro c4 m
 refine v (v ?_)
 obtain rfl:=cX m
 exact cH rfl
 refine v (v (mE m (σ:=Int) (λs=> []) (λs=>.c 0 (.sl none 1 (List.map bZ p0)) (.c 1 (.sl none 1 (List.map bZ p1)) (.c 5 (nZ s) .nil))) (lx (.k3 .nil)) ?_ ?_))
 rintro _ q0 x m
 replace m:tI u p0 p1 q0=some x:=m
 unfold tI at m
 refine v (cI iG rfl (v ?_))
 apply vi m <;> intro c0 m
 refine v (v (v (vq (by kernel_rfl) (vx m A5 rfl rfl λ_ _ m=>vx m A5 rfl rfl λ_ _ m=>v ?_))))
 apply vi m <;> intro c1 m
 refine v (v (kC m λm=> ?_))
 obtain rfl:=cX m
 exact cH rfl
 exact v (v (f8 m))
 exact v (C8 m)
 rintro _ r0 m
 refine v (v ?_)
 obtain rfl:=cX m
 exact cH rfl
theorem ML:aJ Tryz.prog 44=true:=by kernel_rfl
def MM (m:Nat) (p0:aB) (p1:aB):Option (Bool):=
 after (if (decide (p0.Id=p1.Id))=true then (if (p0.Staged==p1.Staged)=true then ((MK m p0.Data p1.Data).bind λy0=>if y0=true then ((B8 m p0.Locs p1.Locs).bind λy1=>some (.brk y1)) else some (.brk false)) else some (.brk false)) else some (.brk false):Option (Lp (Bool) (Bool))) λj0=>some j0
theorem QB {u:Nat} {p0:aB} {p1:aB} {o:Bool} (h:aA) (m:MM u p0 p1=some o):
 aG Tryz.prog 43 [.agg (aI p0),.agg (aI p1)] h (λr h'=>r= .sc (.bool o)∧h'=h):=by
 refine fC 31 [.tmp 4] Tryz.func43 rfl rfl rfl rfl ?_
 unfold MM at m
 refine v (gH rfl rfl λk2 K3=>gH rfl rfl λk5 K6=>vs (eN m (σ:=Bool) (λs=> [(some k5,.obj 44 (aI p1)),(some k2,.obj 44 (aI p0))]) (λs=>.c 4 (.sc (.bool s)) .nil) (λx m=> ?_) ?_))
 refine v (vl 1 (.agg (bH p0.Id)) fW rfl rfl rfl (vl 0 (.agg (bH p1.Id)) fW rfl rfl rfl (dK (w9 rP A4 u5 BZ rfl rfl) ?_)))
 apply vi m <;> intro b0 m
 rw[b0]
 refine vl 1 _ A0 rfl rfl rfl (vl 0 _ A0 rfl rfl rfl (dK (AM u4 rfl rfl rfl) ?_))
 apply vi m <;> intro b1 m
 rw[b1]
 refine vl 1 _ lM rfl rfl rfl (vl 0 _ lM rfl rfl rfl (vk QA ML m rfl rfl λ_ m=> ?_))
 apply vi m <;> intro b2 m
 rw[b2]
 exact vl 1 _ gK rfl rfl rfl (vl 0 _ gK rfl rfl rfl (vk OX HZ m rfl rfl λ_ m=>dJ m))
 rw[b2]
 exact dJ m
 rw[b1]
 exact dJ m
 rw[b0]
 exact dJ m
 rintro _ j0 m
 refine v ?_
 obtain rfl:=cX m
 exact cH rfl
theorem MN:aJ Tryz.prog 43=true:=by kernel_rfl
def tJ (m:Nat) (p0:List aB) (p1:List aB) (q0:Int):Option (Lp (Int) (Bool)):=
 if (decide (q0 < (p0.length:Int)))=true then ((ix p0 q0).bind λx0=>(ix p1 q0).bind λx1=>(MM m x0 x1).bind λy0=>if (!y0)=true then (some (.ret false)) else some (.go (IntKind.wrap .i64 (q0+1)))) else some (.brk q0)
def H3 (m:Nat) (p0:List aB) (p1:List aB):Option (Bool):=
 if ((p0.length:Int) !=(p1.length:Int))=true then (some false) else after (bC (λs=>tJ m p0 p1 s) m 0) λr0=>some true
theorem QC {u:Nat} {p0:List aB} {p1:List aB} {o:Bool} (h:aA) (m:H3 u p0 p1=some o):
 aG Tryz.prog 47 [.sl none 35 (List.map aI p0),.sl none 35 (List.map aI p1)] h (λr h'=>r= .sc (.bool o)∧h'=h):=by
 refine fC 27 [.tmp 4] Tryz.func47 rfl rfl rfl rfl ?_
 unfold H3 at m
 refine v (v (cI gJ rfl (cI gJ rfl (v ?_))))
 apply vi m <;> intro c4 m
 refine v (v ?_)
 obtain rfl:=cX m
 exact cH rfl
 refine v (v (mE m (σ:=Int) (λs=> []) (λs=>.c 0 (.sl none 35 (List.map aI p0)) (.c 1 (.sl none 35 (List.map aI p1)) (.c 5 (nZ s) .nil))) (lx (.k3 .nil)) ?_ ?_))
 rintro _ q0 x m
 replace m:tJ u p0 p1 q0=some x:=m
 unfold tJ at m
 refine v (cI gJ rfl (v ?_))
 apply vi m <;> intro c0 m
 refine v (v (v (vq (by kernel_rfl) (vx m e9 rfl rfl λx0 _ m=>va (.agg (aI x0)) rQ rfl rfl (vx m e9 rfl rfl λx1 _ m=>va (.agg (aI x1)) rQ rfl rfl (vk QB MN m rfl rfl λ_ m=>v ?_))))))
 apply vi m <;> intro c1 m
 refine v (v (kC m λm=> ?_))
 obtain rfl:=cX m
 exact cH rfl
 exact v (v (f8 m))
 exact v (C8 m)
 rintro _ r0 m
 refine v (v ?_)
 obtain rfl:=cX m
 exact cH rfl
theorem MO:aJ Tryz.prog 47=true:=by kernel_rfl
def qJ (m:Nat) (p0:List cF) (p1:List cF) (q0:Int):Option (Lp (Int) (Bool)):=
 if (decide (q0 < (p0.length:Int)))=true then ((ix p0 q0).bind λx0=>(ix p1 q0).bind λx1=>if (!decide (x0=x1))=true then (some (.ret false)) else some (.go (IntKind.wrap .i64 (q0+1)))) else some (.brk q0)
def ES (m:Nat) (p0:List cF) (p1:List cF):Option (Bool):=
 if ((p0.length:Int) !=(p1.length:Int))=true then (some false) else after (bC (λs=>qJ m p0 p1 s) m 0) λr0=>some true
theorem H4 {u:Nat} {p0:List cF} {p1:List cF} {o:Bool} (h:aA) (m:ES u p0 p1=some o):
 aG Tryz.prog 105 [.sl none 32 (List.map bH p0),.sl none 32 (List.map bH p1)] h (λr h'=>r= .sc (.bool o)∧h'=h):=by
 refine fC 26 [.tmp 4] Tryz.func105 rfl rfl rfl rfl ?_
 unfold ES at m
 refine v (v (cI lP rfl (cI lP rfl (v ?_))))
 apply vi m <;> intro c4 m
 refine v (v ?_)
 obtain rfl:=cX m
 exact cH rfl
 refine v (v (mE m (σ:=Int) (λs=> []) (λs=>.c 0 (.sl none 32 (List.map bH p0)) (.c 1 (.sl none 32 (List.map bH p1)) (.c 5 (nZ s) .nil))) (lx (.k3 .nil)) ?_ ?_))
 rintro _ q0 x m
 replace m:qJ u p0 p1 q0=some x:=m
 unfold qJ at m
 refine v (cI lP rfl (v ?_))
 apply vi m <;> intro c0 m
 refine v (v (v (vq (by kernel_rfl) (vx m xY rfl rfl λx0 _ m=>va (.agg (bH x0)) fW rfl rfl (vx m xY rfl rfl λx1 _ m=>va (.agg (bH x1)) fW rfl rfl (dK (rI rP A4 u5 BZ rfl rfl) (v ?_)))))))
 apply vi m <;> intro c1 m
 refine v (v (kC m λm=> ?_))
 obtain rfl:=cX m
 exact cH rfl
 exact v (v (f8 m))
 exact v (C8 m)
 rintro _ r0 m
 refine v (v ?_)
 obtain rfl:=cX m
 exact cH rfl
theorem B9:aJ Tryz.prog 105=true:=by kernel_rfl
def tK (m:Nat) (p0:aK) (p1:aK) (q0:Int):Option (Lp (Int) (Bool)):=
 if (decide (q0 < (p0.Parts.length:Int)))=true then ((ix p0.Parts q0).bind λx0=>(ix p1.Parts q0).bind λx1=>after (if (!(x0.Path.toList==x1.Path.toList))=true then (some (.brk true)) else if (x0.Size !=x1.Size)=true then (some (.brk true)) else (ES m x0.Ids x1.Ids).bind λy0=>some (.brk (!y0)):Option (Lp (Bool) (Lp (Int) (Bool)))) λj0=>if j0=true then (some (.ret false)) else some (.go (IntKind.wrap .i64 (q0+1)))) else some (.brk q0)
def ET (m:Nat) (p0:aK) (p1:aK):Option (Bool):=
 after (if (!(p0.Name.toList==p1.Name.toList))=true then (some (.brk true)) else some (.brk ((p0.Parts.length:Int) !=(p1.Parts.length:Int))):Option (Lp (Bool) (Bool))) λj0=>if j0=true then (some false) else after (bC (λs=>tK m p0 p1 s) m 0) λr0=>some true
theorem QD {w:Nat} {p0:aK} {p1:aK} {o:Bool} (h:aA) (m:ET w p0 p1=some o):
 aG Tryz.prog 48 [.agg (aH p0),.agg (aH p1)] h (λr h'=>r= .sc (.bool o)∧h'=h):=by
 refine fC 59 [.tmp 4] Tryz.func48 rfl rfl rfl rfl ?_
 unfold ET at m
 refine v (gH rfl rfl λk2 K3=>gH rfl rfl λk5 K6=>vs (vs (eN m (σ:=Bool) (λs=> [(some k5,.obj 58 (aH p1)),(some k2,.obj 58 (aH p0))]) (λs=>.c 2 (.ptr k2 0) (.c 3 (.ptr k5 0) (.c 21 (.sc (.bool s)) .nil))) (λx m=> ?_) ?_)))
 refine v (vl 1 _ mQ rfl rfl rfl (vl 0 _ mQ rfl rfl rfl (dK (sN rfl rfl rfl trivial) ?_)))
 apply vi m <;> intro b0 m
 rw[b0]
 exact f8 m
 rw[b0]
 exact vl 1 _ fX rfl rfl rfl (cI kR rfl (vl 0 _ fX rfl rfl rfl (cI kR rfl (f8 m))))
 rintro _ j0 m
 refine v ?_
 apply vi m <;> intro c0 m
 refine v (v ?_)
 obtain rfl:=cX m
 exact cH rfl
 refine v (v (mE m (σ:=Int) (λs=> [(some k5,.obj 58 (aH p1)),(some k2,.obj 58 (aH p0))]) (λs=>.c 2 (.ptr k2 0) (.c 3 (.ptr k5 0) (.c 5 (nZ s) .nil))) (lx (.k3 .nil)) ?_ ?_))
 rintro _ q0 x m
 replace m:tK w p0 p1 q0=some x:=m
 unfold tK at m
 refine v (vl 1 _ fX rfl rfl rfl (cI kR rfl (v ?_)))
 apply vi m <;> intro c1 m
 refine v (v (v (vz [(1000000,some k2,.obj 58 (aH p0)),(1000000,some k5,.obj 58 (aH p1))] mixed (λu=>⟨λ_=>aX 1 u rfl,λ_=>aX 0 u rfl,trivial⟩) λu=>zF 0 rfl jY rfl (zL 1 0 (.sl none 3 (List.map a9 p0.Parts)) rfl fX rfl rfl rfl (zI 2 rfl rfl ?_)))))
 obtain⟨x0,X0,m⟩:=aE m
 refine zC 3 rfl (wV X0 lO rfl rfl) (zC 4 rfl (wX (.agg (a9 x0)) s6 rfl rfl) (zF 5 rfl jY rfl (zL 6 1 (.sl none 3 (List.map a9 p1.Parts)) rfl fX rfl rfl rfl (zI 7 rfl rfl ?_))))
 obtain⟨x1,X1,m⟩:=aE m
 refine zC 8 rfl (wV X1 lO rfl rfl) (zC 9 rfl (wX (.agg (a9 x1)) s6 rfl rfl) (FZ 10 11 rfl rfl (by kernel_rfl) ?_ ?_))
 refine(bN (BX) u qD rfl rfl λk191 K0=>⟨⟨λ_=>aX 2 K0 rfl,λ_=>aX 1 K0 rfl,trivial⟩, ?_⟩)
 refine zE 11 rfl (bN (BX) K0 qD rfl rfl λk194 K1=>⟨⟨λ_=>aX 3 K1 rfl,λ_=>aX 2 K1 rfl,trivial⟩, ?_⟩)
 refine zE 12 rfl (aQ 1 (a9 x0) K1 rfl rfl rfl rfl rR rfl rfl λK2=>⟨⟨λ_=>aX 3 K2 rfl,λ_=>aX 2 K2 rfl,trivial⟩, ?_⟩)
 refine zE 13 rfl (aQ 0 (a9 x1) K2 rfl rfl rfl rfl rR rfl rfl λK4=>⟨⟨λ_=>aX 3 K4 rfl,λ_=>aX 2 K4 rfl,trivial⟩, ?_⟩)
 refine zX (qk (f:=.c 7 _ (.c 6 _ (F9 38 _ _ _ _ _ _ _ _ _ _ _))) K4 rfl (vs (eN m (σ:=Bool) (λs=> [(some k194,.obj 70 (a9 x1)),(some k191,.obj 70 (a9 x0)),(some k5,.obj 58 (aH p1)),(some k2,.obj 58 (aH p0))]) (λs=>.c 2 (.ptr k2 0) (.c 3 (.ptr k5 0) (.c 5 (nZ q0) (.c 58 (.sc (.bool s)) .nil)))) (λx m=> ?_) ?_)))
 refine v (vl 1 _ mQ rfl rfl rfl (vl 0 _ mQ rfl rfl rfl (dK (sN rfl rfl rfl trivial) ?_)))
 apply vi m <;> intro b1 m
 rw[b1]
 exact jK m
 rw[b1]
 refine vl 1 _ bQ rfl rfl rfl (vl 0 _ bQ rfl rfl rfl ?_)
 apply vi m <;> intro b2 m
 rw[b2]
 exact jK m
 rw[b2]
 exact vl 1 _ kU rfl rfl rfl (vl 0 _ kU rfl rfl rfl (vk H4 B9 m rfl rfl λ_ m=>jK m))
 rintro _ j1 m
 refine v ?_
 apply vi m <;> intro c2 m
 refine v (v (kC m λm=> ?_))
 obtain rfl:=cX m
 exact cH rfl
 exact v (v (uL m (p4 [2,3] rfl rfl (.k3 .nil))))
 refine(bN (BX) u qD rfl rfl λk212 K5=>⟨⟨λ_=>aX 2 K5 rfl,λ_=>aX 1 K5 rfl,trivial⟩, ?_⟩)
 refine zE 10 rfl (bN (BX) K5 qD rfl rfl λk215 K7=>⟨⟨λ_=>aX 3 K7 rfl,λ_=>aX 2 K7 rfl,trivial⟩, ?_⟩)
 refine zE 12 rfl (aQ 0 (a9 x0) K7 rfl rfl rfl rfl rR rfl rfl λK8=>⟨⟨λ_=>aX 3 K8 rfl,λ_=>aX 2 K8 rfl,trivial⟩, ?_⟩)
 refine zE 13 rfl (aQ 1 (a9 x1) K8 rfl rfl rfl rfl rR rfl rfl λK9=>⟨⟨λ_=>aX 3 K9 rfl,λ_=>aX 2 K9 rfl,trivial⟩, ?_⟩)
 refine zX (qk (f:=.c 6 _ (.c 7 _ (F9 38 _ _ _ _ _ _ _ _ _ _ _))) K9 rfl (vs (eN m (σ:=Bool) (λs=> [(some k215,.obj 70 (a9 x0)),(some k212,.obj 70 (a9 x1)),(some k5,.obj 58 (aH p1)),(some k2,.obj 58 (aH p0))]) (λs=>.c 2 (.ptr k2 0) (.c 3 (.ptr k5 0) (.c 5 (nZ q0) (.c 58 (.sc (.bool s)) .nil)))) (λx m=> ?_) ?_)))
 refine v (vl 0 _ mQ rfl rfl rfl (vl 1 _ mQ rfl rfl rfl (dK (sN rfl rfl rfl trivial) ?_)))
 apply vi m <;> intro b3 m
 rw[b3]
 exact jK m
 rw[b3]
 refine vl 0 _ bQ rfl rfl rfl (vl 1 _ bQ rfl rfl rfl ?_)
 apply vi m <;> intro b4 m
 rw[b4]
 exact jK m
 rw[b4]
 exact vl 0 _ kU rfl rfl rfl (vl 1 _ kU rfl rfl rfl (vk H4 B9 m rfl rfl λ_ m=>jK m))
 rintro _ j2 m
 refine v ?_
 apply vi m <;> intro c3 m
 refine v (v (kC m λm=> ?_))
 obtain rfl:=cX m
 exact cH rfl
 exact v (v (uL m (p4 [2,3] rfl rfl (.k3 .nil))))
 exact v (C8 m)
 rintro _ r0 m
 refine v (v ?_)
 obtain rfl:=cX m
 exact cH rfl
theorem MP:aJ Tryz.prog 48=true:=by kernel_rfl
def CA (m:Nat) (p0:aF) (p1:aF):Option (Bool):=
 after (if (p0.Seq==p1.Seq)=true then ((ET m p0.Man p1.Man).bind λy0=>if y0=true then ((B8 m p0.Locs p1.Locs).bind λy1=>some (.brk y1)) else some (.brk false)) else some (.brk false):Option (Lp (Bool) (Bool))) λj0=>some j0
theorem OY {u:Nat} {p0:aF} {p1:aF} {o:Bool} (h:aA) (m:CA u p0 p1=some o):
 aG Tryz.prog 83 [.agg (bI p0),.agg (bI p1)] h (λr h'=>r= .sc (.bool o)∧h'=h):=by
 refine fC 24 [.tmp 4] Tryz.func83 rfl rfl rfl rfl ?_
 unfold CA at m
 refine v (gH rfl rfl λk2 K3=>gH rfl rfl λk5 K6=>vs (eN m (σ:=Bool) (λs=> [(some k5,.obj 60 (bI p1)),(some k2,.obj 60 (bI p0))]) (λs=>.c 4 (.sc (.bool s)) .nil) (λx m=> ?_) ?_))
 refine v (vl 1 _ bQ rfl rfl rfl (vl 0 _ bQ rfl rfl rfl ?_))
 apply vi m <;> intro b0 m
 rw[b0]
 refine vl 1 (.agg (aH p0.Man)) kT rfl rfl rfl (vl 0 (.agg (aH p1.Man)) kT rfl rfl rfl (vk QD MP m rfl rfl λ_ m=> ?_))
 apply vi m <;> intro b1 m
 rw[b1]
 exact vl 1 _ gK rfl rfl rfl (vl 0 _ gK rfl rfl rfl (vk OX HZ m rfl rfl λ_ m=>dJ m))
 rw[b1]
 exact dJ m
 rw[b0]
 exact dJ m
 rintro _ j0 m
 refine v ?_
 obtain rfl:=cX m
 exact cH rfl
theorem H5:aJ Tryz.prog 83=true:=by kernel_rfl
def tL (m:Nat) (p0:List bL) (p1:List bL) (q0:Int):Option (Lp (Int) (Bool)):=
 if (decide (q0 < (p0.length:Int)))=true then ((ix p0 q0).bind λx0=>(ix p1 q0).bind λx1=>after (if (x0.Kind !=x1.Kind)=true then (some (.brk true)) else if (!decide (x0.Id=x1.Id))=true then (some (.brk true)) else if (x0.Seq !=x1.Seq)=true then (some (.brk true)) else if (x0.Of !=x1.Of)=true then (some (.brk true)) else if (x0.Off !=x1.Off)=true then (some (.brk true)) else some (.brk (x0.Len !=x1.Len)):Option (Lp (Bool) (Lp (Int) (Bool)))) λj0=>if j0=true then (some (.ret false)) else some (.go (IntKind.wrap .i64 (q0+1)))) else some (.brk q0)
def H6 (m:Nat) (p0:List bL) (p1:List bL):Option (Bool):=
 if ((p0.length:Int) !=(p1.length:Int))=true then (some false) else after (bC (λs=>tL m p0 p1 s) m 0) λr0=>some true
theorem QE {w:Nat} {p0:List bL} {p1:List bL} {o:Bool} (h:aA) (m:H6 w p0 p1=some o):
 aG Tryz.prog 18 [.sl none 37 (List.map bB p0),.sl none 37 (List.map bB p1)] h (λr h'=>r= .sc (.bool o)∧h'=h):=by
 refine fC 67 [.tmp 4] Tryz.func18 rfl rfl rfl rfl ?_
 unfold H6 at m
 refine v (v (cI jW rfl (cI jW rfl (v ?_))))
 apply vi m <;> intro c4 m
 refine v (v ?_)
 obtain rfl:=cX m
 exact cH rfl
 refine v (v (mE m (σ:=Int) (λs=> []) (λs=>.c 0 (.sl none 37 (List.map bB p0)) (.c 1 (.sl none 37 (List.map bB p1)) (.c 5 (nZ s) .nil))) (lx (.k3 .nil)) ?_ ?_))
 rintro _ q0 x m
 replace m:tL w p0 p1 q0=some x:=m
 unfold tL at m
 refine v (cI jW rfl (v ?_))
 apply vi m <;> intro c0 m
 refine v (v (v (vz [] mixed (λu=>trivial) λu=>zC 0 rfl (gG (.sl _ _ _) rfl) (zI 1 rfl rfl ?_))))
 obtain⟨x0,X0,m⟩:=aE m
 refine zC 2 rfl (wV X0 xQ rfl rfl) (zC 3 rfl (wX (.agg (bB x0)) vQ rfl rfl) (zC 4 rfl (gG (.sl _ _ _) rfl) (zI 5 rfl rfl ?_)))
 obtain⟨x1,X1,m⟩:=aE m
 refine zC 6 rfl (wV X1 xQ rfl rfl) (zC 7 rfl (wX (.agg (bB x1)) vQ rfl rfl) (FZ 8 9 rfl rfl (by kernel_rfl) ?_ ?_))
 refine(bN (([nZ 0]:List AV)++bH lB++(BW:List AV)) u vS rfl rfl λk189 K0=>⟨trivial, ?_⟩)
 refine zE 9 rfl (bN (([nZ 0]:List AV)++bH lB++(BW:List AV)) K0 vS rfl rfl λk192 K1=>⟨trivial, ?_⟩)
 refine zE 10 rfl (aQ 1 (bB x0) K1 rfl rfl rfl rfl vR rfl rfl λK2=>⟨trivial, ?_⟩)
 refine zE 11 rfl (aQ 0 (bB x1) K2 rfl rfl rfl rfl vR rfl rfl λK3=>⟨trivial, ?_⟩)
 refine zX (qk (f:=.c 7 _ (.c 6 _ (OH 26 _ _ _ _ _ _ _ _ _))) K3 rfl (vs (eN m (σ:=Bool) (λs=> [(some k192,.obj 38 (bB x1)),(some k189,.obj 38 (bB x0))]) (λs=>.c 0 (.sl none 37 (List.map bB p0)) (.c 1 (.sl none 37 (List.map bB p1)) (.c 5 (nZ q0) (.c 66 (.sc (.bool s)) .nil)))) (λx m=> ?_) ?_)))
 refine v (vl 1 _ bQ rfl rfl rfl (vl 0 _ bQ rfl rfl rfl ?_))
 apply vi m <;> intro b0 m
 rw[b0]
 exact jK m
 rw[b0]
 refine vl 1 (.agg (bH x0.Id)) fW rfl rfl rfl (vl 0 (.agg (bH x1.Id)) fW rfl rfl rfl (dK (rI rP A4 u5 BZ rfl rfl) ?_))
 apply vi m <;> intro b1 m
 rw[b1]
 exact jK m
 rw[b1]
 refine vl 1 _ bQ rfl rfl rfl (vl 0 _ bQ rfl rfl rfl ?_)
 apply vi m <;> intro b2 m
 rw[b2]
 exact jK m
 rw[b2]
 refine vl 1 _ bQ rfl rfl rfl (vl 0 _ bQ rfl rfl rfl ?_)
 apply vi m <;> intro b3 m
 rw[b3]
 exact jK m
 rw[b3]
 refine vl 1 _ bQ rfl rfl rfl (vl 0 _ bQ rfl rfl rfl ?_)
 apply vi m <;> intro b4 m
 rw[b4]
 exact jK m
 rw[b4]
 exact vl 1 _ bQ rfl rfl rfl (vl 0 _ bQ rfl rfl rfl (jK m))
 rintro _ j0 m
 refine v ?_
 apply vi m <;> intro c1 m
 refine v (v (kC m λm=> ?_))
 obtain rfl:=cX m
 exact cH rfl
 exact v (v (uL m (p4 [] rfl rfl (.k3 .nil))))
 refine(bN (([nZ 0]:List AV)++bH lB++(BW:List AV)) u vS rfl rfl λk212 K4=>⟨trivial, ?_⟩)
 refine zE 8 rfl (bN (([nZ 0]:List AV)++bH lB++(BW:List AV)) K4 vS rfl rfl λk215 K5=>⟨trivial, ?_⟩)
 refine zE 10 rfl (aQ 0 (bB x0) K5 rfl rfl rfl rfl vR rfl rfl λK6=>⟨trivial, ?_⟩)
 refine zE 11 rfl (aQ 1 (bB x1) K6 rfl rfl rfl rfl vR rfl rfl λK7=>⟨trivial, ?_⟩)
 refine zX (qk (f:=.c 6 _ (.c 7 _ (OH 26 _ _ _ _ _ _ _ _ _))) K7 rfl (vs (eN m (σ:=Bool) (λs=> [(some k215,.obj 38 (bB x0)),(some k212,.obj 38 (bB x1))]) (λs=>.c 0 (.sl none 37 (List.map bB p0)) (.c 1 (.sl none 37 (List.map bB p1)) (.c 5 (nZ q0) (.c 66 (.sc (.bool s)) .nil)))) (λx m=> ?_) ?_)))
 refine v (vl 0 _ bQ rfl rfl rfl (vl 1 _ bQ rfl rfl rfl ?_))
 apply vi m <;> intro b5 m
 rw[b5]
 exact jK m
 rw[b5]
 refine vl 0 (.agg (bH x0.Id)) fW rfl rfl rfl (vl 1 (.agg (bH x1.Id)) fW rfl rfl rfl (dK (rI rP A4 u5 BZ rfl rfl) ?_))
 apply vi m <;> intro b6 m
 rw[b6]
 exact jK m
 rw[b6]
 refine vl 0 _ bQ rfl rfl rfl (vl 1 _ bQ rfl rfl rfl ?_)
 apply vi m <;> intro b7 m
 rw[b7]
 exact jK m
 rw[b7]
 refine vl 0 _ bQ rfl rfl rfl (vl 1 _ bQ rfl rfl rfl ?_)
 apply vi m <;> intro b8 m
 rw[b8]
 exact jK m
 rw[b8]
 refine vl 0 _ bQ rfl rfl rfl (vl 1 _ bQ rfl rfl rfl ?_)
 apply vi m <;> intro b9 m
 rw[b9]
 exact jK m
 rw[b9]
 exact vl 0 _ bQ rfl rfl rfl (vl 1 _ bQ rfl rfl rfl (jK m))
 rintro _ j1 m
 refine v ?_
 apply vi m <;> intro c2 m
 refine v (v (kC m λm=> ?_))
 obtain rfl:=cX m
 exact cH rfl
 exact v (v (uL m (p4 [] rfl rfl (.k3 .nil))))
 exact v (C8 m)
 rintro _ r0 m
 refine v (v ?_)
 obtain rfl:=cX m
 exact cH rfl
theorem MQ:aJ Tryz.prog 18=true:=by kernel_rfl
open Go.Vm
theorem nN {α ρ:Type} {l:List α} {F:Nat} {body:Int→Option (Lp Int ρ)} (q:α→Bool) (r:ρ) (hF:l.length < F) (hb:∀(i:Nat) (x:α),l[i]? =some x→x∈l→i < l.length→body (i:Int)=some (if q x then .ret r else .go ((i+1:Nat):Int)))
    (he:body (l.length:Int)=some (.brk (l.length:Int))):bC body F 0=some (if l.any q then .ret r else .brk (l.length:Int)):=by
  rw[jE (s0:=(0:Int)) (n:=l.length) (F:=F) (λi:Nat=>(i:Int)) (λi=>(l[i]?).any q) (λ_=>r) hF rfl (λi hi _=>by
    rw[hb i l[i] (List.getElem?_eq_getElem hi) (List.getElem_mem hi) hi,List.getElem?_eq_getElem hi]; rfl) (λ_=>he),nI,vY]
theorem QF {F:Nat} {m:aK} (hF:1000≤F):∃b,HX F m=some b∧(b=false→m.Name.size≤100∧m.Parts.length≤10∧∀p∈m.Parts,p.Path.size≤100∧p.Ids.length≤40):=by
 unfold HX
 by_cases h1:100 < (m.Name.size:Int)
 ·exact⟨true,by simp[after,h1],λh=>by cases h⟩
 ·by_cases h2:10 < (m.Parts.length:Int)
  ·exact⟨true,by simp[after,h1,h2],λh=>by cases h⟩
  ·rw[nN (F:=F) (l:=m.Parts) (λp=>decide (100 < (p.Path.size:Int)) || decide (40 < (p.Ids.length:Int))) true (by omega) (λi x hx _ hi=>by
    unfold nM
    rw[uO (by omega)]
    simp only[fA,hx,Option.bind_some,dZ,aL,Int.ofNat_lt,hi,decide_true,if_true,fF]
    cases decide (100 < (x.Path.size:Int)) <;> cases decide (40 < (x.Ids.length:Int)) <;> rfl) (by unfold nM; simp)]
   simp only[h1,h2,decide_false,Bool.false_eq_true,if_false,aL]
   cases h:m.Parts.any λp=>decide (100 < (p.Path.size:Int)) || decide (40 < (p.Ids.length:Int))
   ·refine⟨false,by simp[after],λ_=>⟨by omega,by omega,λp hp=> ?_⟩⟩
    have:=List.any_eq_false.1 h p hp
    simp at this
    omega
   ·exact⟨true,by simp[after],λh=>by cases h⟩
theorem BH {S ρ:Type} {body:S→Option (Lp S ρ)} {n F:Nat} {s0:S} (emb:Nat→S) (hF:n < F) (h0:s0=emb 0) (hb:∀i,i < n→body (emb i)=some (.go (emb (i+1)))) (he:body (emb n)=some (.brk (emb n))):
    bC body F s0=some (.brk (emb n)):=by
  obtain⟨s',h1,h2⟩:=i8 (body:=body) (I:=λi s=>s=emb i) (n:=n) (λi s hi hs=>⟨_,by rw[hs]; exact hb i hi,rfl⟩) (λs hs=>by rw[hs]; exact he) F 0 s0 (Nat.zero_le _) (by omega) h0
  rw[h2,h1]
open Go.Vm
def tM (m:Nat) (p0:List Int) (q0:List e8) (q1:Int):Option (Lp ((List e8)×Int) (aD×Int)):=
 if (decide (q1 < (p0.length:Int)))=true then ((ix p0 q1).bind λx0=>(n5 m x0 0 1).bind λy0=>if (!y0)=true then (some (.ret (({ Seq:=0,Snaps:= [],Chunks:= [],Exps:= [],Vols:= []}:aD),1))) else (app q0 ([({ Pool:=x0,Epoch:=0,State:=1,Files:=0}:e8)]:List e8)).bind λz0=>some (.go (z0,IntKind.wrap .i64 (q1+1)))) else some (.brk (q0,q1))
def MR (m:Nat) (p0:List Int):Option (aD×Int):=
 (n5 m (p0.length:Int) 1 8).bind λy7=>if (!y7)=true then (some (({ Seq:=0,Snaps:= [],Chunks:= [],Exps:= [],Vols:= []}:aD),2)) else after (bC (λs=>tM m p0 s.1 s.2) m ([],0)) λ⟨r0,r1⟩=>some (({ Seq:=0,Snaps:= [],Chunks:= [],Exps:= [],Vols:=r0}:aD),0)
theorem QG {w:Nat} {p0:List Int} {o:aD×Int} (h:aA) (m:MR w p0=some o):
 aG Tryz.prog 32 [.sl none 1 (List.map fD p0)] h (λr h'=>r= .tup [.agg (aM o.1),nZ o.2]∧h'=h):=by
 refine fC 31 [.cell 2 30,.tmp 3] Tryz.func32 rfl rfl rfl rfl ?_
 unfold MR at m
 refine v (ve λu=>bN (fU) u s4 rfl rfl λk2 K3=>qk K3 rfl (v (cI GD rfl (vk qE iH m rfl rfl λ_ m=>v ?_))))
 apply vi m <;> intro c9 m
 refine v (dK (gQ (fU) vP rfl) (ve λu=>aQ 0 (fU) u rfl rfl rfl rfl mK rfl rfl λK0=>qk K0 rfl (v ?_)))
 cases m
 exact vr λu=>eS.of2 (.inl rfl) (zY (.agg (fU)) fN rfl (bF 0 u rfl) rfl) (mA _ _ (.sc (.int _ _)) rfl) (aW (List.nil_sublist _) u).1 (aN.agg (.cons (aN.refl _ _) (.cons (aP _) (.cons (aP _) (.cons (aP _) (.cons (aP _) .nil)))))) (aN.refl _ _) ⟨rfl,rfl⟩
 refine v (v (ve λu=>bN (fU) u s4 rfl rfl λk13 K1=>qk K1 rfl (v (cI GD rfl (C7 (PM (.tok 49 4 (([]:List e8).length*4)) 1 ([nZ 0,sZ,sZ,sZ,ow none 4 (List.map cD [])]) rfl (.k4 (.cons (pG (c:=cD) _ 4) .nil))) (AY m (σ:=(List e8)×Int) (τ:=Option aY) (λg s=> [(g,.tok 49 4 ((s.1:List e8).length*4)),(some k13,.obj 30 ([nZ 0,sZ,sZ,sZ,ow g 4 (List.map cD s.1)])),(some k2,.obj 30 (fU))]) (λg s=>(g=none→s.1= [])) (λg s=>.c 2 (.ptr k2 0) (.c 4 (.ptr k13 0) (.c 12 (.sl none 1 (List.map fD p0)) (.c 13 (nZ (p0.length:Int)) (.c 14 (nZ s.2) .nil))))) none (λ_=>rfl) (lx (.k5 .nil)) ?_ ?_))))))
 rintro tg0 ⟨q0,q1⟩ x t0 m
 replace m:tM w p0 q0 q1=some x:=m
 unfold tM at m
 refine v (v ?_)
 apply vi m <;> intro c0 m
 refine v (v (v (vx m J5 rfl rfl λx0 _ m=>v (vk qE iH m rfl rfl λ_ m=>v ?_))))
 apply vi m <;> intro c1 m
 refine v (dK (gQ (fU) vP rfl) (ve λu=>aQ 2 (fU) u rfl rfl rfl rfl mK rfl rfl λK2=>qk K2 rfl (v (kC m λm=> ?_))))
 cases m
 exact vr λu=>eS.of2 (.inl rfl) (zY (.agg (fU)) fN rfl (bF 2 u rfl) rfl) (mA _ _ (.sc (.int _ _)) rfl) (aW (List.nil_sublist _) u).1 (aN.agg (.cons (aN.refl _ _) (.cons (aP _) (.cons (aP _) (.cons (aP _) (.cons (aP _) .nil)))))) (aN.refl _ _) ⟨rfl,rfl⟩
 refine v (v (vl 1 (ow tg0 4 (List.map cD q0)) vO rfl rfl rfl (dK (gQ (cD ({ Pool:=x0,Epoch:=0,State:=1,Files:=0}:e8)) KB rfl) (dK (iW (List.map cD ([({ Pool:=x0,Epoch:=0,State:=1,Files:=0}:e8)]:List e8)) A3 rfl rfl rfl rfl) ?_))))
 obtain⟨z0,Z0,m⟩:=aE m
 exact ve λu=>fS (c:=cD) 0 Z0 A3 rfl rfl rfl t0 u rfl λtg1 t1 K4=>qk K4 rfl (ve λu=>aQ 1 ([nZ 0,sZ,sZ,sZ,ow tg1 4 (List.map cD z0)]) u rfl rfl (sO rfl) (CT _ _ _) GI rfl rfl λK5=>qk K5 rfl (v (kP m tg1 t1 (lx (.k5 .nil)))))
 exact v (p5 m tg0 t0 (lx (.k5 .nil)))
 rintro tg2 ⟨r0,r1⟩ t2 m
 refine v (vl 1 (.agg ([nZ 0,sZ,sZ,sZ,ow tg2 4 (List.map cD r0)])) fN rfl rfl rfl (ve λu=>aQ 2 ([nZ 0,sZ,sZ,sZ,ow tg2 4 (List.map cD r0)]) u rfl rfl rfl (by repeat (first | exact rfl | refine dM (m6 _ _ _) ?_ | refine dM (cU _ _ _) ?_ | refine dM (lS _ _ _ _) ?_ | refine dM rfl ?_)) mK rfl rfl λK6=>qk K6 rfl ?_))
 refine v ?_
 cases m
 exact vr λu=>eS.of2 (.inl rfl) (zY (.agg ([nZ 0,sZ,sZ,sZ,ow tg2 4 (List.map cD r0)])) fN rfl (bF 2 u rfl) rfl) (mA _ _ (.sc (.int _ _)) rfl) (aW (List.nil_sublist _) u).1 (aN.agg (.cons (aN.refl _ _) (.cons (aP _) (.cons (aP _) (.cons (aP _) (.cons ((m5 _ 0 t2 u rfl)) .nil)))))) (aN.refl _ _) ⟨rfl,rfl⟩
theorem MS:aJ Tryz.prog 32=true:=by kernel_rfl
open Go.Vm
def MT (v:Int) (l:List cA):Bool:=l.any λy=>y.Vol==v
def QH (x:aB):bL:= { Kind:=1,Id:=x.Id,Seq:=0,Of:=0,Off:=0,Len:=0}
def QI (x:aF):bL:= { Kind:=2,Id:=lB,Seq:=x.Seq,Of:=0,Off:=0,Len:=0}
def QJ (x:aV):bL:= { Kind:=3,Id:=lB,Seq:=x.Seq,Of:=x.Of,Off:=0,Len:=0}
def QL (c:aD) (v:Int):List bL:=(c.Chunks.filter λx=>MT v x.Locs).map QH++(c.Snaps.filter λx=>MT v x.Locs).map QI++(c.Exps.filter λx=>MT v x.Locs).map QJ
def QM (c:aD) (v:Int):Nat:=((QL c v).filter λx=>x.Kind !=1 || HV c x.Id).length
open Go.Vm
def CP (c:aD) (p need:Int) (r:List Int) (nt st:Int) (i:Nat):Bool:=match c.Vols[i]?,r[i]? with
 | some x,some z=>x.Pool==p && (i:Int) !=nt && x.State==st && decide (need≤z)
 | _,_=>false
open Go.Vm
def rX {α:Type} (l:List α) (q:α→Bool):Int:=match (List.range l.length).find? λi=>(l[i]?).any q with
 | none=> -1
 | some i=>(i:Int)
theorem o4 {α:Type} {l:List α} (q:α→Bool) {F:Nat} {body:Int→Option (Lp Int Int)} (hF:l.length < F)
    (hb:∀(i:Nat) (x:α),l[i]? =some x→x∈l→i < l.length→body (i:Int)=some (if q x then .ret (i:Int) else .go ((i+1:Nat):Int))) (he:body (l.length:Int)=some (.brk (l.length:Int))):
    (after (bC body F 0) λ_=>some (-1))=some (rX l q):=by
  rw[jE (s0:=(0:Int)) (n:=l.length) (F:=F) (λi:Nat=>(i:Int)) (λi=>(l[i]?).any q) (λi=>(i:Int)) hF rfl (λi hi _=>by
    rw[hb i l[i] (List.getElem?_eq_getElem hi) (List.getElem_mem hi) hi,List.getElem?_eq_getElem hi]; rfl) (λ_=>he)]
  unfold LF rX
  cases (List.range l.length).find? λi=>(l[i]?).any q <;> rfl
theorem OZ {F:Nat} {l:List aB} {f:aB→Option Bool} (q:aB→Bool) (hF:l.length < F) (hl:l.length < 1000) (hf:∀x∈l,f x=some (q x)):HE F l f=some (rX l q):=by
 unfold HE
 refine o4 q hF (λi x hx hm hi=> ?_) (by unfold nK; simp)
 unfold nK
 rw[uO (by omega)]
 simp only[fA,hx,hf x hm,Option.bind_some,Int.ofNat_lt,hi,decide_true,if_true]
 cases q x <;> simp
end Go.Proofs.YtbbifdfldpfphaaGreat
