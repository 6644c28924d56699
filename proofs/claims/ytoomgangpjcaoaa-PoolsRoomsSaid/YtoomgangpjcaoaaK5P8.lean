import Derived.Test.YtoomgangpjcaoaaK5P4
import Derived.Test.YtoomgangpjcaoaaK5P7
import Derived.Test.YtoomgangpjcaoaaK5P6
set_option linter.unusedSimpArgs false
set_option linter.unusedVariables false
namespace Go.Proofs.Ytoomgangpjcaoaa
open Go.Vm
def M109_L1 (fuel : Nat) (p1 : TChange) (q0 : Bool) (q1 : Int) : Option (Lp (Bool × Int) (Lp (Int × (List TSnap) × (List TChunk) × (List TExp) × (List TVol)) (Int × Int × (List TSnap) × (List TChunk) × (List TExp) × (List TVol)))) :=
 if (decide (q1 < (p1.Chunks.length : Int))) = true then (after (if q0 = true then ((ix p1.Chunks q1).bind fun x0 => if x0.Staged = true then ((ix p1.Chunks q1).bind fun x1 => some (.brk ((x1.Locs.length : Int) == 0))) else some (.brk false)) else some (.brk false) : Option (Lp (Bool) (Lp (Bool × Int) (Lp (Int × (List TSnap) × (List TChunk) × (List TExp) × (List TVol)) (Int × Int × (List TSnap) × (List TChunk) × (List TExp) × (List TVol)))))) fun j0 => some (.go (j0, IntKind.wrap .i64 (q1 + 1)))) else some (.brk (q0, q1))
def M109_L3 (fuel : Nat) (p1 : TChange) (q0 : List TChunk) (q1 : Int) : Option (Lp ((List TChunk) × Int) (Lp (Int × (List TSnap) × (List TChunk) × (List TExp) × (List TVol)) (Int × Int × (List TSnap) × (List TChunk) × (List TExp) × (List TVol)))) :=
 if (decide (q1 < (p1.Chunks.length : Int))) = true then ((ix p1.Chunks q1).bind fun x0 => (M135a fuel q0 x0).bind fun y0 => some (.go (y0, IntKind.wrap .i64 (q1 + 1)))) else some (.brk (q0, q1))
def M109_L5 (fuel : Nat) (p1 : TChange) (q0 : Bool) (q1 : Int) : Option (Lp (Bool × Int) (Lp (Int × (List TSnap) × (List TChunk) × (List TExp) × (List TVol)) (Lp (Int × (List TSnap) × (List TChunk) × (List TExp) × (List TVol)) (Lp (Int × (List TSnap) × (List TChunk) × (List TExp) × (List TVol)) (Int × Int × (List TSnap) × (List TChunk) × (List TExp) × (List TVol)))))) :=
 if (decide (q1 < (p1.Items.length : Int))) = true then (after (if q0 = true then ((ix p1.Items q1).bind fun x0 => if (decide (1 ≤ x0.Kind)) = true then ((ix p1.Items q1).bind fun x1 => some (.brk (decide (x1.Kind ≤ 3)))) else some (.brk false)) else some (.brk false) : Option (Lp (Bool) (Lp (Bool × Int) (Lp (Int × (List TSnap) × (List TChunk) × (List TExp) × (List TVol)) (Lp (Int × (List TSnap) × (List TChunk) × (List TExp) × (List TVol)) (Lp (Int × (List TSnap) × (List TChunk) × (List TExp) × (List TVol)) (Int × Int × (List TSnap) × (List TChunk) × (List TExp) × (List TVol)))))))) fun j0 => some (.go (j0, IntKind.wrap .i64 (q1 + 1)))) else some (.brk (q0, q1))
def M109_L7 (fuel : Nat) (p0 : TCatalog) (p1 : TChange) (x0 : TVol) (q0 : Int) (q1 : List TSnap) (q2 : List TChunk) (q3 : List TExp) (q4 : Int) : Option (Lp (Int × (List TSnap) × (List TChunk) × (List TExp) × Int) (Lp (Int × (List TSnap) × (List TChunk) × (List TExp) × (List TVol)) (Lp (Int × (List TSnap) × (List TChunk) × (List TExp) × (List TVol)) (Lp (Int × (List TSnap) × (List TChunk) × (List TExp) × (List TVol)) (Int × Int × (List TSnap) × (List TChunk) × (List TExp) × (List TVol)))))) :=
 if (decide (q4 < (p1.Items.length : Int))) = true then ((ix p1.Items q4).bind fun x1 => (ix p1.Items q4).bind fun x2 => (ix p1.Items q4).bind fun x3 => (M138 fuel ({ Seq := q0, Snaps := q1, Chunks := q2, Exps := q3, Vols := (p0.Vols.set p1.Vol.toNat ({ x0 with State := 2 })).set p1.Vol.toNat ({ ({ x0 with State := 2 } : TVol) with Files := IntKind.wrap .i64 (x0.Files + 1) }) } : TCatalog) x1 ({ Vol := p1.Vol, File := ({ ({ x0 with State := 2 } : TVol) with Files := IntKind.wrap .i64 (x0.Files + 1) } : TVol).Files, Off := x2.Off, Len := x3.Len } : TLoc)).bind fun y0 => if (!y0.1) = true then (some (.ret (.ret (.ret (.ret (8, y0.2.1, y0.2.2.1, y0.2.2.2.1, y0.2.2.2.2, (p0.Vols.set p1.Vol.toNat ({ x0 with State := 2 })).set p1.Vol.toNat ({ ({ x0 with State := 2 } : TVol) with Files := IntKind.wrap .i64 (x0.Files + 1) }))))))) else some (.go (y0.2.1, y0.2.2.1, y0.2.2.2.1, y0.2.2.2.2, IntKind.wrap .i64 (q4 + 1)))) else some (.brk (q0, q1, q2, q3, q4))
def M109_L9 (fuel : Nat) (p0 : TCatalog) (p1 : TChange) (x0 : TVol) (r0 : Int) (r1 : List TExp) (q0 : List TSnap) (q1 : List TChunk) (q2 : Int) : Option (Lp ((List TSnap) × (List TChunk) × Int) (Lp (Int × (List TSnap) × (List TChunk) × (List TExp) × (List TVol)) (Lp (Int × (List TSnap) × (List TChunk) × (List TExp) × (List TVol)) (Lp (Int × (List TSnap) × (List TChunk) × (List TExp) × (List TVol)) (Int × Int × (List TSnap) × (List TChunk) × (List TExp) × (List TVol)))))) :=
 if (decide (q2 < (p1.Items.length : Int))) = true then ((ix p1.Items q2).bind fun x1 => after (if (x1.Kind == 3) = true then ((ix p1.Items q2).bind fun x2 => (M136 fuel ({ Seq := r0, Snaps := q0, Chunks := q1, Exps := r1, Vols := (p0.Vols.set p1.Vol.toNat ({ x0 with State := 2 })).set p1.Vol.toNat ({ ({ x0 with State := 2 } : TVol) with Files := IntKind.wrap .i64 (x0.Files + 1) }) } : TCatalog) x2.Of).bind fun y0 => some (.brk (y0.2.1, y0.2.2))) else some (.brk (q0, q1)) : Option (Lp ((List TSnap) × (List TChunk)) (Lp ((List TSnap) × (List TChunk) × Int) (Lp (Int × (List TSnap) × (List TChunk) × (List TExp) × (List TVol)) (Lp (Int × (List TSnap) × (List TChunk) × (List TExp) × (List TVol)) (Lp (Int × (List TSnap) × (List TChunk) × (List TExp) × (List TVol)) (Int × Int × (List TSnap) × (List TChunk) × (List TExp) × (List TVol)))))))) fun ⟨j0, j1⟩ => some (.go (j0, j1, IntKind.wrap .i64 (q2 + 1)))) else some (.brk (q0, q1, q2))
def M109_L11 (fuel : Nat) (p0 : TCatalog) (p1 : TChange) (x0 : TVol) (r0 : Int) (r1 : List TExp) (r2 : List TSnap) (q0 : List TChunk) (q1 : Int) : Option (Lp ((List TChunk) × Int) (Lp ((List TChunk)) (Lp (Int × (List TSnap) × (List TChunk) × (List TExp) × (List TVol)) (Lp (Int × (List TSnap) × (List TChunk) × (List TExp) × (List TVol)) (Lp (Int × (List TSnap) × (List TChunk) × (List TExp) × (List TVol)) (Int × Int × (List TSnap) × (List TChunk) × (List TExp) × (List TVol))))))) :=
 if (decide (q1 < (p1.Items.length : Int))) = true then ((ix p1.Items q1).bind fun x1 => after (if (x1.Kind == 1) = true then ((ix p1.Items q1).bind fun x2 => (M64 fuel ({ Seq := r0, Snaps := r2, Chunks := q0, Exps := r1, Vols := (p0.Vols.set p1.Vol.toNat ({ x0 with State := 2 })).set p1.Vol.toNat ({ ({ x0 with State := 2 } : TVol) with Files := IntKind.wrap .i64 (x0.Files + 1) }) } : TCatalog) x2.Id).bind fun y0 => after (if (decide (0 ≤ y0)) = true then ((ix q0 y0).bind fun x3 => (ix (q0.set y0.toNat ({ x3 with Staged := false })) y0).bind fun x4 => some (.brk ((q0.set y0.toNat ({ x3 with Staged := false })).set y0.toNat ({ x4 with Data := ([] : List Int) })))) else some (.brk q0) : Option (Lp ((List TChunk)) (Lp ((List TChunk)) (Lp ((List TChunk) × Int) (Lp ((List TChunk)) (Lp (Int × (List TSnap) × (List TChunk) × (List TExp) × (List TVol)) (Lp (Int × (List TSnap) × (List TChunk) × (List TExp) × (List TVol)) (Lp (Int × (List TSnap) × (List TChunk) × (List TExp) × (List TVol)) (Int × Int × (List TSnap) × (List TChunk) × (List TExp) × (List TVol)))))))))) fun j0 => some (.brk j0)) else some (.brk q0) : Option (Lp ((List TChunk)) (Lp ((List TChunk) × Int) (Lp ((List TChunk)) (Lp (Int × (List TSnap) × (List TChunk) × (List TExp) × (List TVol)) (Lp (Int × (List TSnap) × (List TChunk) × (List TExp) × (List TVol)) (Lp (Int × (List TSnap) × (List TChunk) × (List TExp) × (List TVol)) (Int × Int × (List TSnap) × (List TChunk) × (List TExp) × (List TVol))))))))) fun j1 => some (.go (j1, IntKind.wrap .i64 (q1 + 1)))) else some (.brk (q0, q1))
def M109_L13 (fuel : Nat) (p0 : TCatalog) (p1 : TChange) (q0 : List TChunk) (q1 : Int) : Option (Lp ((List TChunk) × Int) (Lp ((List TSnap) × (List TChunk) × (List TExp) × (List TVol)) (Lp (Int × (List TSnap) × (List TChunk) × (List TExp) × (List TVol)) (Lp (Int × (List TSnap) × (List TChunk) × (List TExp) × (List TVol)) (Lp (Int × (List TSnap) × (List TChunk) × (List TExp) × (List TVol)) (Int × Int × (List TSnap) × (List TChunk) × (List TExp) × (List TVol))))))) :=
 if (decide (q1 < (p0.Chunks.length : Int))) = true then ((ix p0.Chunks q1).bind fun x0 => (M139 fuel x0.Locs p1.Vol).bind fun y0 => after (if ({ x0 with Locs := y0 }.Staged) = true then (some (.brk true)) else some (.brk (decide (0 < (({ x0 with Locs := y0 }.Locs).length : Int)))) : Option (Lp (Bool) (Lp ((List TChunk) × Int) (Lp ((List TSnap) × (List TChunk) × (List TExp) × (List TVol)) (Lp (Int × (List TSnap) × (List TChunk) × (List TExp) × (List TVol)) (Lp (Int × (List TSnap) × (List TChunk) × (List TExp) × (List TVol)) (Lp (Int × (List TSnap) × (List TChunk) × (List TExp) × (List TVol)) (Int × Int × (List TSnap) × (List TChunk) × (List TExp) × (List TVol))))))))) fun j0 => after (if j0 = true then ((app q0 ([{ x0 with Locs := y0 }] : List TChunk)).bind fun z0 => some (.brk z0)) else some (.brk q0) : Option (Lp ((List TChunk)) (Lp ((List TChunk) × Int) (Lp ((List TSnap) × (List TChunk) × (List TExp) × (List TVol)) (Lp (Int × (List TSnap) × (List TChunk) × (List TExp) × (List TVol)) (Lp (Int × (List TSnap) × (List TChunk) × (List TExp) × (List TVol)) (Lp (Int × (List TSnap) × (List TChunk) × (List TExp) × (List TVol)) (Int × Int × (List TSnap) × (List TChunk) × (List TExp) × (List TVol))))))))) fun j1 => some (.go (j1, IntKind.wrap .i64 (q1 + 1)))) else some (.brk (q0, q1))
def M109_L15 (fuel : Nat) (p1 : TChange) (q0 : List TSnap) (q1 : Int) : Option (Lp ((List TSnap) × Int) (Lp ((List TSnap) × (List TChunk) × (List TExp) × (List TVol)) (Lp (Int × (List TSnap) × (List TChunk) × (List TExp) × (List TVol)) (Lp (Int × (List TSnap) × (List TChunk) × (List TExp) × (List TVol)) (Lp (Int × (List TSnap) × (List TChunk) × (List TExp) × (List TVol)) (Int × Int × (List TSnap) × (List TChunk) × (List TExp) × (List TVol))))))) :=
 if (decide (q1 < (q0.length : Int))) = true then ((ix q0 q1).bind fun x0 => (M139 fuel x0.Locs p1.Vol).bind fun y0 => (ix q0 q1).bind fun x1 => some (.go (q0.set q1.toNat ({ x1 with Locs := y0 }), IntKind.wrap .i64 (q1 + 1)))) else some (.brk (q0, q1))
def M109_L17 (fuel : Nat) (p0 : TCatalog) (p1 : TChange) (q0 : List TExp) (q1 : Int) : Option (Lp ((List TExp) × Int) (Lp ((List TSnap) × (List TChunk) × (List TExp) × (List TVol)) (Lp (Int × (List TSnap) × (List TChunk) × (List TExp) × (List TVol)) (Lp (Int × (List TSnap) × (List TChunk) × (List TExp) × (List TVol)) (Lp (Int × (List TSnap) × (List TChunk) × (List TExp) × (List TVol)) (Int × Int × (List TSnap) × (List TChunk) × (List TExp) × (List TVol))))))) :=
 if (decide (q1 < (p0.Exps.length : Int))) = true then ((ix p0.Exps q1).bind fun x0 => (M139 fuel x0.Locs p1.Vol).bind fun y0 => after (if (decide (0 < (({ x0 with Locs := y0 }.Locs).length : Int))) = true then ((app q0 ([{ x0 with Locs := y0 }] : List TExp)).bind fun z0 => some (.brk z0)) else some (.brk q0) : Option (Lp ((List TExp)) (Lp ((List TExp) × Int) (Lp ((List TSnap) × (List TChunk) × (List TExp) × (List TVol)) (Lp (Int × (List TSnap) × (List TChunk) × (List TExp) × (List TVol)) (Lp (Int × (List TSnap) × (List TChunk) × (List TExp) × (List TVol)) (Lp (Int × (List TSnap) × (List TChunk) × (List TExp) × (List TVol)) (Int × Int × (List TSnap) × (List TChunk) × (List TExp) × (List TVol))))))))) fun j0 => some (.go (j0, IntKind.wrap .i64 (q1 + 1)))) else some (.brk (q0, q1))
def M109 (fuel : Nat) (p0 : TCatalog) (p1 : TChange) : Option (Int × Int × (List TSnap) × (List TChunk) × (List TExp) × (List TVol)) :=
 after (if (p1.Kind == 1) = true then (after (if (p1.Snap.Seq == p0.Seq) = true then (some (.brk ((p1.Snap.Locs.length : Int) == 0))) else some (.brk false) : Option (Lp (Bool) (Lp (Int × (List TSnap) × (List TChunk) × (List TExp) × (List TVol)) (Int × Int × (List TSnap) × (List TChunk) × (List TExp) × (List TVol))))) fun j0 => after (loopM (fun s => M109_L1 fuel p1 s.1 s.2) fuel (j0, 0)) fun ⟨r0, r1⟩ => if (!r0) = true then (some (.ret (1, p0.Seq, p0.Snaps, p0.Chunks, p0.Exps, p0.Vols))) else (M50 fuel ({ Seq := p0.Seq, Snaps := p0.Snaps, Chunks := p0.Chunks, Exps := p0.Exps, Vols := p0.Vols } : TCatalog) p1.Snap.Man.Name).bind fun y0 => if (decide (0 ≤ y0)) = true then (some (.ret (9, p0.Seq, p0.Snaps, p0.Chunks, p0.Exps, p0.Vols))) else (app p0.Snaps ([p1.Snap] : List TSnap)).bind fun z0 => after (loopM (fun s => M109_L3 fuel p1 s.1 s.2) fuel (p0.Chunks, 0)) fun ⟨r2, r3⟩ => some (.brk (IntKind.wrap .i64 (p0.Seq + 1), z0, r2, p0.Exps, p0.Vols))) else after (if (p1.Kind == 2) = true then ((M136 fuel ({ Seq := p0.Seq, Snaps := p0.Snaps, Chunks := p0.Chunks, Exps := p0.Exps, Vols := p0.Vols } : TCatalog) p1.Seq).bind fun y1 => if (!y1.1) = true then (some (.ret (.ret (8, p0.Seq, y1.2.1, y1.2.2, p0.Exps, p0.Vols)))) else some (.brk (p0.Seq, y1.2.1, y1.2.2, p0.Exps, p0.Vols))) else after (if (p1.Kind == 3) = true then (after ((M137 fuel ({ Seq := p0.Seq, Snaps := p0.Snaps, Chunks := p0.Chunks, Exps := p0.Exps, Vols := p0.Vols } : TCatalog) p1.Vol 1 2).bind fun y2 => if y2 = true then (if (decide (1 ≤ (p1.Items.length : Int))) = true then (some (.brk (decide ((p1.Items.length : Int) ≤ 64)))) else some (.brk false)) else some (.brk false) : Option (Lp (Bool) (Lp (Int × (List TSnap) × (List TChunk) × (List TExp) × (List TVol)) (Lp (Int × (List TSnap) × (List TChunk) × (List TExp) × (List TVol)) (Lp (Int × (List TSnap) × (List TChunk) × (List TExp) × (List TVol)) (Int × Int × (List TSnap) × (List TChunk) × (List TExp) × (List TVol))))))) fun j1 => after (loopM (fun s => M109_L5 fuel p1 s.1 s.2) fuel (j1, 0)) fun ⟨r4, r5⟩ => if (!r4) = true then (some (.ret (.ret (.ret (1, p0.Seq, p0.Snaps, p0.Chunks, p0.Exps, p0.Vols))))) else (ix p0.Vols p1.Vol).bind fun x0 => after (loopM (fun s => M109_L7 fuel p0 p1 x0 s.1 s.2.1 s.2.2.1 s.2.2.2.1 s.2.2.2.2) fuel (p0.Seq, p0.Snaps, p0.Chunks, p0.Exps, 0)) fun ⟨r6, r7, r8, r9, r10⟩ => after (loopM (fun s => M109_L9 fuel p0 p1 x0 r6 r9 s.1 s.2.1 s.2.2) fuel (r7, r8, 0)) fun ⟨r11, r12, r13⟩ => after (if ((({ ({ x0 with State := 2 } : TVol) with Files := IntKind.wrap .i64 (x0.Files + 1) } : TVol).Pool) == 0) = true then (after (loopM (fun s => M109_L11 fuel p0 p1 x0 r6 r9 r11 s.1 s.2) fuel (r12, 0)) fun ⟨r14, r15⟩ => some (.brk r14)) else some (.brk r12) : Option (Lp ((List TChunk)) (Lp (Int × (List TSnap) × (List TChunk) × (List TExp) × (List TVol)) (Lp (Int × (List TSnap) × (List TChunk) × (List TExp) × (List TVol)) (Lp (Int × (List TSnap) × (List TChunk) × (List TExp) × (List TVol)) (Int × Int × (List TSnap) × (List TChunk) × (List TExp) × (List TVol))))))) fun j2 => some (.brk (r6, r11, j2, r9, (p0.Vols.set p1.Vol.toNat ({ x0 with State := 2 })).set p1.Vol.toNat ({ ({ x0 with State := 2 } : TVol) with Files := IntKind.wrap .i64 (x0.Files + 1) })))) else after (if (p1.Kind == 4) = true then ((M137 fuel ({ Seq := p0.Seq, Snaps := p0.Snaps, Chunks := p0.Chunks, Exps := p0.Exps, Vols := p0.Vols } : TCatalog) p1.Vol 2 2).bind fun y3 => if (!y3) = true then (some (.ret (.ret (.ret (.ret (1, p0.Seq, p0.Snaps, p0.Chunks, p0.Exps, p0.Vols)))))) else (ix p0.Vols p1.Vol).bind fun x1 => (ix (p0.Vols.set p1.Vol.toNat ({ x1 with State := 3 })) p1.Vol).bind fun x2 => after (loopM (fun s => M109_L13 fuel p0 p1 s.1 s.2) fuel ([], 0)) fun ⟨r16, r17⟩ => after (loopM (fun s => M109_L15 fuel p1 s.1 s.2) fuel (p0.Snaps, 0)) fun ⟨r18, r19⟩ => after (loopM (fun s => M109_L17 fuel p0 p1 s.1 s.2) fuel ([], 0)) fun ⟨r20, r21⟩ => some (.brk (r18, r16, r20, (p0.Vols.set p1.Vol.toNat ({ x1 with State := 3 })).set p1.Vol.toNat ({ x2 with Files := 0 })))) else after (if (p1.Kind == 5) = true then ((M137 fuel ({ Seq := p0.Seq, Snaps := p0.Snaps, Chunks := p0.Chunks, Exps := p0.Exps, Vols := p0.Vols } : TCatalog) p1.Vol 3 3).bind fun y4 => if (!y4) = true then (some (.ret (.ret (.ret (.ret (.ret (1, p0.Seq, p0.Snaps, p0.Chunks, p0.Exps, p0.Vols))))))) else (ix p0.Vols p1.Vol).bind fun x3 => (ix p0.Vols p1.Vol).bind fun x4 => (ix (p0.Vols.set p1.Vol.toNat ({ x4 with State := 1 })) p1.Vol).bind fun x5 => some (.brk ((p0.Vols.set p1.Vol.toNat ({ x4 with State := 1 })).set p1.Vol.toNat ({ x5 with Epoch := IntKind.wrap .i64 (x3.Epoch + 1) })))) else some (.brk p0.Vols) : Option (Lp ((List TVol)) (Lp ((List TSnap) × (List TChunk) × (List TExp) × (List TVol)) (Lp (Int × (List TSnap) × (List TChunk) × (List TExp) × (List TVol)) (Lp (Int × (List TSnap) × (List TChunk) × (List TExp) × (List TVol)) (Lp (Int × (List TSnap) × (List TChunk) × (List TExp) × (List TVol)) (Int × Int × (List TSnap) × (List TChunk) × (List TExp) × (List TVol)))))))) fun j3 => some (.brk (p0.Snaps, p0.Chunks, p0.Exps, j3)) : Option (Lp ((List TSnap) × (List TChunk) × (List TExp) × (List TVol)) (Lp (Int × (List TSnap) × (List TChunk) × (List TExp) × (List TVol)) (Lp (Int × (List TSnap) × (List TChunk) × (List TExp) × (List TVol)) (Lp (Int × (List TSnap) × (List TChunk) × (List TExp) × (List TVol)) (Int × Int × (List TSnap) × (List TChunk) × (List TExp) × (List TVol))))))) fun ⟨j4, j5, j6, j7⟩ => some (.brk (p0.Seq, j4, j5, j6, j7)) : Option (Lp (Int × (List TSnap) × (List TChunk) × (List TExp) × (List TVol)) (Lp (Int × (List TSnap) × (List TChunk) × (List TExp) × (List TVol)) (Lp (Int × (List TSnap) × (List TChunk) × (List TExp) × (List TVol)) (Int × Int × (List TSnap) × (List TChunk) × (List TExp) × (List TVol)))))) fun ⟨j8, j9, j10, j11, j12⟩ => some (.brk (j8, j9, j10, j11, j12)) : Option (Lp (Int × (List TSnap) × (List TChunk) × (List TExp) × (List TVol)) (Lp (Int × (List TSnap) × (List TChunk) × (List TExp) × (List TVol)) (Int × Int × (List TSnap) × (List TChunk) × (List TExp) × (List TVol))))) fun ⟨j13, j14, j15, j16, j17⟩ => some (.brk (j13, j14, j15, j16, j17)) : Option (Lp (Int × (List TSnap) × (List TChunk) × (List TExp) × (List TVol)) (Int × Int × (List TSnap) × (List TChunk) × (List TExp) × (List TVol)))) fun ⟨j18, j19, j20, j21, j22⟩ => some (0, j18, j19, j20, j21, j22)
set_option maxHeartbeats 4000000 in
set_option maxRecDepth 100000 in
theorem W109 {fuel : Nat} {p0 : TCatalog} {p1 : TChange} {o : Int × Int × (List TSnap) × (List TChunk) × (List TExp) × (List TVol)} (h : Heap) {p0K : Key} {g_Snaps : AGh} (ok_Snaps : AOk g_Snaps 4 p0.Snaps.length) {g_Chunks : AGh} (ok_Chunks : AOk g_Chunks 35 p0.Chunks.length) {g_Exps : AGh} (ok_Exps : AOk g_Exps 3 p0.Exps.length) {g_Vols : AGh} (ok_Vols : AOk g_Vols 4 p0.Vols.length) (hk0 : HOk h [(some p0K, .obj 27 ([.sc (.int .i64 p0.Seq), aw g_Snaps.t g_Snaps.n g_Snaps.cap, aw g_Chunks.t g_Chunks.n g_Chunks.cap, aw g_Exps.t g_Exps.n g_Exps.cap, aw g_Vols.t g_Vols.n g_Vols.cap])), (g_Snaps.t, .obj 60 (fl c_Snap (p0.Snaps : List TSnap) g_Snaps.sp)), (g_Chunks.t, .obj 63 (fl c_Chunk (p0.Chunks : List TChunk) g_Chunks.sp)), (g_Exps.t, .obj 65 (fl c_Exp (p0.Exps : List TExp) g_Exps.sp)), (g_Vols.t, .obj 40 (fl c_Vol (p0.Vols : List TVol) g_Vols.sp))]) (hm : M109 fuel p0 p1 = some o) :
 ACalls Try.prog 109 [.ptr p0K 0, .agg (c_Change p1)] (hp h [(some p0K, .obj 27 ([.sc (.int .i64 p0.Seq), aw g_Snaps.t g_Snaps.n g_Snaps.cap, aw g_Chunks.t g_Chunks.n g_Chunks.cap, aw g_Exps.t g_Exps.n g_Exps.cap, aw g_Vols.t g_Vols.n g_Vols.cap])), (g_Snaps.t, .obj 60 (fl c_Snap (p0.Snaps : List TSnap) g_Snaps.sp)), (g_Chunks.t, .obj 63 (fl c_Chunk (p0.Chunks : List TChunk) g_Chunks.sp)), (g_Exps.t, .obj 65 (fl c_Exp (p0.Exps : List TExp) g_Exps.sp)), (g_Vols.t, .obj 40 (fl c_Vol (p0.Vols : List TVol) g_Vols.sp))]) (fun r h' => ∃ g_Snaps' : AGh, AOk g_Snaps' 4 (o.2.2.1 : List TSnap).length ∧ ∃ g_Chunks' : AGh, AOk g_Chunks' 35 (o.2.2.2.1 : List TChunk).length ∧ ∃ g_Exps' : AGh, AOk g_Exps' 3 (o.2.2.2.2.1 : List TExp).length ∧ ∃ g_Vols' : AGh, AOk g_Vols' 4 (o.2.2.2.2.2 : List TVol).length ∧ HOk h [(some p0K, .obj 27 ([.sc (.int .i64 o.2.1), aw g_Snaps'.t g_Snaps'.n g_Snaps'.cap, aw g_Chunks'.t g_Chunks'.n g_Chunks'.cap, aw g_Exps'.t g_Exps'.n g_Exps'.cap, aw g_Vols'.t g_Vols'.n g_Vols'.cap])), (g_Snaps'.t, .obj 60 (fl c_Snap (o.2.2.1 : List TSnap) g_Snaps'.sp)), (g_Chunks'.t, .obj 63 (fl c_Chunk (o.2.2.2.1 : List TChunk) g_Chunks'.sp)), (g_Exps'.t, .obj 65 (fl c_Exp (o.2.2.2.2.1 : List TExp) g_Exps'.sp)), (g_Vols'.t, .obj 40 (fl c_Vol (o.2.2.2.2.2 : List TVol) g_Vols'.sp))] ∧ r = .sc (.int .i64 o.1) ∧ h' = hp h [(some p0K, .obj 27 ([.sc (.int .i64 o.2.1), aw g_Snaps'.t g_Snaps'.n g_Snaps'.cap, aw g_Chunks'.t g_Chunks'.n g_Chunks'.cap, aw g_Exps'.t g_Exps'.n g_Exps'.cap, aw g_Vols'.t g_Vols'.n g_Vols'.cap])), (g_Snaps'.t, .obj 60 (fl c_Snap (o.2.2.1 : List TSnap) g_Snaps'.sp)), (g_Chunks'.t, .obj 63 (fl c_Chunk (o.2.2.2.1 : List TChunk) g_Chunks'.sp)), (g_Exps'.t, .obj 65 (fl c_Exp (o.2.2.2.2.1 : List TExp) g_Exps'.sp)), (g_Vols'.t, .obj 40 (fl c_Vol (o.2.2.2.2.2 : List TVol) g_Vols'.sp))]) := by
 refine ACalls_fm 443 [.tmp 4] Try.func109 rfl rfl rfl rfl ?_
 unfold M109 at hm
 refine AW_lq ?_
 refine Zf fun K1 H1 => (Za ?_)
 refine s_op (a_box hk0 rfl rfl fun k2 hk3 => ?_)
 refine vC rfl (Zb (H1 _ _ (Zf fun K5 H5 => (Zf fun K6 H6 => (Za (s_v (Zh fd107_0 rfl rfl) (s_v (Zg (.sc (.int .i64 p1.Kind)) ld3 rfl (Zd 0 hk3 rfl) rfl) (Zb (H6 _ _ (AW_block (Zf fun K7 H7 => (Za (vF rfl rfl rfl (vD rfl (Zb ?_)))))))))))))))
 refine H7 _ _ ?_
 refine AW_joinL (n := 443) (h := h) hm (σ := Int × (List TSnap) × (List TChunk) × (List TExp) × (List TVol)) (τ := AGh × AGh × AGh × AGh) (fun g s => [(some k2, .obj 107 (c_Change p1)), (some p0K, .obj 27 ([.sc (.int .i64 s.1), aw g.1.t g.1.n g.1.cap, aw g.2.1.t g.2.1.n g.2.1.cap, aw g.2.2.1.t g.2.2.1.n g.2.2.1.cap, aw g.2.2.2.t g.2.2.2.n g.2.2.2.cap])), (g.1.t, .obj 60 (fl c_Snap (s.2.1 : List TSnap) g.1.sp)), (g.2.1.t, .obj 63 (fl c_Chunk (s.2.2.1 : List TChunk) g.2.1.sp)), (g.2.2.1.t, .obj 65 (fl c_Exp (s.2.2.2.1 : List TExp) g.2.2.1.sp)), (g.2.2.2.t, .obj 40 (fl c_Vol (s.2.2.2.2 : List TVol) g.2.2.2.sp))]) (fun g s => AOk g.1 4 (s.2.1 : List TSnap).length ∧ AOk g.2.1 35 (s.2.2.1 : List TChunk).length ∧ AOk g.2.2.1 3 (s.2.2.2.1 : List TExp).length ∧ AOk g.2.2.2 4 (s.2.2.2.2 : List TVol).length) (fun g s => k0) (fun x hm => ?_) ?_
 refine AW_if' rfl (fun hc0 => ?_) (fun hc0 => ?_)
 have hm := Zi hm hc0
 refine Zf fun K0 H2 => ?_
 refine AW_joinH (n := 443) (h := h) hm (σ := Bool) (τ := Unit) (fun g s => [(some k2, .obj 107 (c_Change p1)), (some p0K, .obj 27 ([.sc (.int .i64 p0.Seq), aw g_Snaps.t g_Snaps.n g_Snaps.cap, aw g_Chunks.t g_Chunks.n g_Chunks.cap, aw g_Exps.t g_Exps.n g_Exps.cap, aw g_Vols.t g_Vols.n g_Vols.cap])), (g_Snaps.t, .obj 60 (fl c_Snap (p0.Snaps : List TSnap) g_Snaps.sp)), (g_Chunks.t, .obj 63 (fl c_Chunk (p0.Chunks : List TChunk) g_Chunks.sp)), (g_Exps.t, .obj 65 (fl c_Exp (p0.Exps : List TExp) g_Exps.sp)), (g_Vols.t, .obj 40 (fl c_Vol (p0.Vols : List TVol) g_Vols.sp))]) (fun g s => kp (kp (kp (k0) 5 (.sc (.bool s))) 3 (.ptr k2 0)) 0 (.ptr p0K 0)) (fun x hm => ?_) ?_
 refine AW_rq mixed (by kernel_rfl) ?_
 refine q_v (Zh fd107_1 rfl rfl) (q_v (Zh fd60_0 rfl rfl) (q_v (Zg (.sc (.int .i64 p1.Snap.Seq)) ld3 rfl (Zd 0 hk3 rfl) rfl) (q_v (o_mv (.ptr _ _) rfl) (q_v (o_nil rfl) (q_v (Zh fd27_0 rfl rfl) (q_v (Zg (.sc (.int .i64 p0.Seq)) ld3 rfl (Zd 1 hk3 rfl) rfl) (wF rfl rfl rfl (wB rfl ?_))))))))
 rcases Bool.eq_false_or_eq_true (p1.Snap.Seq == p0.Seq) with hb0 | hb0
 have hm := Zi hm hb0
 refine Zk rfl rfl hb0 (q_v (Zh fd107_1 rfl rfl) (Zk rfl rfl hb0 (q_v (Zh fd60_2 rfl rfl) (Zk rfl rfl hb0 (q_v (Zg (.sl none 4 (List.map c_Loc p1.Snap.Locs)) ld58 rfl (Zd 0 hk3 rfl) rfl) (Zk rfl rfl hb0 (q_v (o_lenm ln58 rfl) (Zk rfl rfl hb0 (wF rfl rfl rfl (q_v (Zm (.sc (.bool _)) rfl hb0 rfl) (wD rfl (q_nil ?_))))))))))))
 cases hm
 exact ⟨rfl, (), hk3, LeF.s (.k3 .nil)⟩
 have hm := Zj hm hb0
 refine Ze rfl rfl hb0 (Ze rfl rfl hb0 (Ze rfl rfl hb0 (Ze rfl rfl hb0 (Ze rfl rfl hb0 (q_v (Zn (.sc (.bool _)) rfl hb0 rfl) (wD rfl (q_nil ?_)))))))
 cases hm
 exact ⟨rfl, (), hk3, LeF.s (.k3 .nil)⟩
 rintro _ j0 fr' h' hk1 hm le
 refine H2 _ _ (le.aw ?_)
 refine Zf fun K2 H3 => (Zf fun K3 H4 => (Za (vC rfl (Zb (H4 _ _ ?_)))))
 refine AW_loopH (n := 443) (h := h) hm (σ := Bool × Int) (τ := Unit) (fun g s => [(some k2, .obj 107 (c_Change p1)), (some p0K, .obj 27 ([.sc (.int .i64 p0.Seq), aw g_Snaps.t g_Snaps.n g_Snaps.cap, aw g_Chunks.t g_Chunks.n g_Chunks.cap, aw g_Exps.t g_Exps.n g_Exps.cap, aw g_Vols.t g_Vols.n g_Vols.cap])), (g_Snaps.t, .obj 60 (fl c_Snap (p0.Snaps : List TSnap) g_Snaps.sp)), (g_Chunks.t, .obj 63 (fl c_Chunk (p0.Chunks : List TChunk) g_Chunks.sp)), (g_Exps.t, .obj 65 (fl c_Exp (p0.Exps : List TExp) g_Exps.sp)), (g_Vols.t, .obj 40 (fl c_Vol (p0.Vols : List TVol) g_Vols.sp))]) (fun g s => kp (kp (kp (kp (k0) 6 (.sc (.int .i64 s.2))) 5 (.sc (.bool s.1))) 3 (.ptr k2 0)) 0 (.ptr p0K 0)) () hk1 (LeF.s (.k4 .nil)) ?_ ?_
 rintro _ ⟨q0, q1⟩ x hk2 hm
 replace hm : M109_L1 fuel p1 q0 q1 = some x := hm
 unfold M109_L1 at hm
 refine Zf fun K4 H8 => (Zf fun K8 H9 => (Za (vA rfl (s_v (Zh fd107_2 rfl rfl) (s_v (Zg (.sl none 35 (List.map c_Chunk p1.Chunks)) ld23 rfl (Zd 0 hk2 rfl) rfl) (s_v (o_lenm ln23 rfl) (vF rfl rfl rfl (Zb (H9 _ _ ?_)))))))))
 refine AW_if' rfl (fun hc1 => ?_) (fun hc1 => ?_)
 have hm := Zi hm hc1
 refine Zl (H8 _ _ (Zf fun K9 H10 => (AW_block ?_)))
 refine AW_joinH (n := 443) (h := h) hm (σ := Bool) (τ := Unit) (fun g s => [(some k2, .obj 107 (c_Change p1)), (some p0K, .obj 27 ([.sc (.int .i64 p0.Seq), aw g_Snaps.t g_Snaps.n g_Snaps.cap, aw g_Chunks.t g_Chunks.n g_Chunks.cap, aw g_Exps.t g_Exps.n g_Exps.cap, aw g_Vols.t g_Vols.n g_Vols.cap])), (g_Snaps.t, .obj 60 (fl c_Snap (p0.Snaps : List TSnap) g_Snaps.sp)), (g_Chunks.t, .obj 63 (fl c_Chunk (p0.Chunks : List TChunk) g_Chunks.sp)), (g_Exps.t, .obj 65 (fl c_Exp (p0.Exps : List TExp) g_Exps.sp)), (g_Vols.t, .obj 40 (fl c_Vol (p0.Vols : List TVol) g_Vols.sp))]) (fun g s => kp (kp (kp (kp (k0) 6 (.sc (.int .i64 q1))) 5 (.sc (.bool s))) 3 (.ptr k2 0)) 0 (.ptr p0K 0)) (fun x hm => ?_) ?_
 refine Za (vB rfl (vB rfl ?_))
 rcases Bool.eq_false_or_eq_true q0 with hb1 | hb1
 have hm := Zi hm hb1
 refine sg_y rfl rfl hb1 (s_v (Zh fd107_2 rfl rfl) (sg_y rfl rfl hb1 (s_v (Zg (.sl none 35 (List.map c_Chunk p1.Chunks)) ld23 rfl (Zd 0 hk2 rfl) rfl) (sg_y rfl rfl hb1 (vA rfl (sg_y rfl rfl hb1 ?_))))))
 obtain ⟨x0, hx0, hm⟩ := Zc hm
 refine s_v (o_ix hx0 el23 rfl rfl) (sg_y rfl rfl hb1 (s_v (o_fl fd63_1 rfl rfl) (sg_y rfl rfl hb1 (s_v (o_ld (.sc (.bool x0.Staged)) ld4 rfl rfl) (s_v (Zm (.sc (.bool _)) rfl hb1 rfl) (vB rfl ?_))))))
 rcases Bool.eq_false_or_eq_true x0.Staged with hb2 | hb2
 have hm := Zi hm hb2
 refine sg_y rfl rfl hb2 (s_v (Zh fd107_2 rfl rfl) (sg_y rfl rfl hb2 (s_v (Zg (.sl none 35 (List.map c_Chunk p1.Chunks)) ld23 rfl (Zd 0 hk2 rfl) rfl) (sg_y rfl rfl hb2 (vA rfl (sg_y rfl rfl hb2 ?_))))))
 obtain ⟨x1, hx1, hm⟩ := Zc hm
 refine s_v (o_ix hx1 el23 rfl rfl) (sg_y rfl rfl hb2 (s_v (o_fl fd63_3 rfl rfl) (sg_y rfl rfl hb2 (s_v (o_ld (.sl none 4 (List.map c_Loc x1.Locs)) ld58 rfl rfl) (sg_y rfl rfl hb2 (s_v (o_lenm ln58 rfl) (sg_y rfl rfl hb2 (vF rfl rfl rfl (s_v (Zm (.sc (.bool _)) rfl hb2 rfl) (vD rfl (Zb ?_)))))))))))
 cases hm
 exact ⟨rfl, (), hk2, LeF.s (.k4 .nil)⟩
 have hm := Zj hm hb2
 refine Zo rfl rfl hb2 (Zo rfl rfl hb2 (Zo rfl rfl hb2 (Zo rfl rfl hb2 (Zo rfl rfl hb2 (Zo rfl rfl hb2 (Zo rfl rfl hb2 (Zo rfl rfl hb2 (s_v (Zn (.sc (.bool _)) rfl hb2 rfl) (vD rfl (Zb ?_))))))))))
 cases hm
 exact ⟨rfl, (), hk2, LeF.s (.k4 .nil)⟩
 have hm := Zj hm hb1
 refine Zo rfl rfl hb1 (Zo rfl rfl hb1 (Zo rfl rfl hb1 (Zo rfl rfl hb1 (Zo rfl rfl hb1 (Zo rfl rfl hb1 (s_v (Zn (.sc (.bool _)) rfl hb1 rfl) (vB rfl (Zo rfl rfl rfl (Zo rfl rfl rfl (Zo rfl rfl rfl (Zo rfl rfl rfl (Zo rfl rfl rfl (Zo rfl rfl rfl (Zo rfl rfl rfl (Zo rfl rfl rfl ?_)))))))))))))))
 refine s_v (Zn (.sc (.bool _)) rfl rfl rfl) (vD rfl (Zb ?_))
 cases hm
 exact ⟨rfl, (), hk2, LeF.s (.k4 .nil)⟩
 rintro _ j1 fr' h' hk4 hm le
 refine H10 _ _ (le.aw ?_)
 refine Za (vA rfl (vF rfl rfl rfl (vC rfl (Zb ?_))))
 cases hm
 exact ⟨rfl, (), hk4, LeF.s (.k4 .nil)⟩
 have hm := Zj hm hc1
 refine AW_exit ?_
 refine Seq_exit ?_
 cases hm
 exact ⟨rfl, (), hk2, LeF.s (.k4 .nil)⟩
 rintro _ ⟨r0, r1⟩ fr' h' hk5 hm le
 refine H3 _ _ (le.aw ?_)
 refine Zf fun K10 H11 => (Zf fun K11 H12 => (Za (vB rfl (s_v (o_not rfl) (Zb (H12 _ _ ?_))))))
 refine AW_if' rfl (fun hc2 => ?_) (fun hc2 => ?_)
 have hm := Zi hm hc2
 refine Zf fun K12 H13 => (Za (vC rfl (Zb (H13 _ _ (AW_ret ?_)))))
 cases hm
 refine ⟨nofun, fun he => ?_⟩
 subst he
 exact LqE.mk (LeF.eqh rfl) (Ret.of1 (.inl rfl) (rsT _ _ (.sc (.int _ _)) rfl) (hp_pick hk5 [1, 2, 3, 4, 5] rfl).2 (ALe.refl _ _) ⟨g_Snaps, ok_Snaps, g_Chunks, ok_Chunks, g_Exps, ok_Exps, g_Vols, ok_Vols, (hp_pick hk5 [1, 2, 3, 4, 5] rfl).1, rfl, rfl⟩)
 have hm := Zj hm hc2
 refine Zl (H11 _ _ (Zf fun K13 H14 => (Zf fun K14 H15 => ?_)))
 refine AW_rq mixed (by kernel_rfl) ?_
 refine q_v (o_mv (.ptr _ _) rfl) (q_v (o_nil rfl) (q_v (Zg (.agg ([.sc (.int .i64 p0.Seq), aw g_Snaps.t g_Snaps.n g_Snaps.cap, aw g_Chunks.t g_Chunks.n g_Chunks.cap, aw g_Exps.t g_Exps.n g_Exps.cap, aw g_Vols.t g_Vols.n g_Vols.cap])) ld27 rfl (Zd 1 hk5 rfl) rfl) (q_v (Zh fd107_1 rfl rfl) (q_v (Zh fd60_1 rfl rfl) (q_v (Zh fd57_0 rfl rfl) (q_v (Zg (.sc (.string p1.Snap.Man.Name)) ld9 rfl (Zd 0 hk5 rfl) rfl) ?_))))))
 obtain ⟨y0, hy0, hm⟩ := Zc hm
 refine q_v (o_call (ACalls_pure (.cons (Br.agg (.cons (Br.refl _ _) (.cons (Br.aw 2 cz_Snap ok_Snaps hk5 rfl) (.cons (Br.aw 3 cz_Chunk ok_Chunks hk5 rfl) (.cons (Br.aw 4 cz_Exp ok_Exps hk5 rfl) (.cons (Br.aw 5 cz_Vol ok_Vols hk5 rfl) .nil)))))) (.cons (Br.refl _ _) .nil)) rfl (W50 _ hy0)) rfl bd50 rfl) (wF rfl rfl rfl (q_nil (H15 _ _ ?_)))
 refine AW_if' rfl (fun hc3 => ?_) (fun hc3 => ?_)
 have hm := Zi hm hc3
 refine Zf fun K15 H16 => (Za (vC rfl (Zb (H16 _ _ (AW_ret ?_)))))
 cases hm
 refine ⟨nofun, fun he => ?_⟩
 subst he
 exact LqE.mk (LeF.eqh rfl) (Ret.of1 (.inl rfl) (rsT _ _ (.sc (.int _ _)) rfl) (hp_pick hk5 [1, 2, 3, 4, 5] rfl).2 (ALe.refl _ _) ⟨g_Snaps, ok_Snaps, g_Chunks, ok_Chunks, g_Exps, ok_Exps, g_Vols, ok_Vols, (hp_pick hk5 [1, 2, 3, 4, 5] rfl).1, rfl, rfl⟩)
 have hm := Zj hm hc3
 refine Zl (H14 _ _ (Zf fun K16 H17 => (Za (s_v (o_mv (.ptr _ _) rfl) (s_v (o_nil rfl) (s_v (Zh fd27_0 rfl rfl) (s_v (Zg (.sc (.int .i64 p0.Seq)) ld3 rfl (Zd 1 hk5 rfl) rfl) (vF rfl rfl rfl (s_v (o_nil rfl) (s_v (Zh fd27_0 rfl rfl) ?_))))))))))
 refine s_op (a_store 1 ([.sc (.int .i64 (IntKind.wrap .i64 (p0.Seq + 1))), aw g_Snaps.t g_Snaps.n g_Snaps.cap, aw g_Chunks.t g_Chunks.n g_Chunks.cap, aw g_Exps.t g_Exps.n g_Exps.cap, aw g_Vols.t g_Vols.n g_Vols.cap]) hk5 rfl rfl rfl rfl sz3 rfl rfl fun hk6 => ?_)
 refine Zb (H17 _ _ (Zf fun K17 H18 => ?_))
 refine AW_zreg [(11, some p0K, .obj 27 ([.sc (.int .i64 (IntKind.wrap .i64 (p0.Seq + 1))), aw g_Snaps.t g_Snaps.n g_Snaps.cap, aw g_Chunks.t g_Chunks.n g_Chunks.cap, aw g_Exps.t g_Exps.n g_Exps.cap, aw g_Vols.t g_Vols.n g_Vols.cap])), (1000000, some k2, .obj 107 (c_Change p1))] mixed (⟨fun _ => hp_at 1 hk6 rfl, fun _ => hp_at 0 hk6 rfl, trivial⟩) ?_
 refine z_w 0 rfl (fun S' h' hi hB => o_mv (.ptr _ _) rfl) ?_
 refine z_w 1 rfl (fun S' h' hi hB => o_mv (.ptr _ _) rfl) ?_
 refine z_w 2 rfl (fun S' h' hi hB => o_nil rfl) ?_
 refine z_w 3 rfl (fun S' h' hi hB => Zh fd27_1 rfl rfl) ?_
 refine z_w 4 rfl (fun S' h' hi hB => Zg (aw g_Snaps.t g_Snaps.n g_Snaps.cap) ld22 rfl (At.s (InvL.get 0 hi rfl (hB 11 (by kernel_rfl)))) rfl) ?_
 refine z_w 5 rfl (fun S' h' hi hB => Zh fd107_1 rfl rfl) ?_
 refine z_w 6 rfl (fun S' h' hi hB => Zg (.agg (c_Snap p1.Snap)) ld60 rfl (At.s (InvL.get 1 hi rfl (hB 1000000 (by kernel_rfl)))) rfl) ?_
 refine z_w 7 rfl (fun S' h' hi hB => o_lit (List.map c_Snap ([p1.Snap] : List TSnap)) et22 rfl rfl rfl rfl) ?_
 obtain ⟨z0, hz0, hm⟩ := Zc hm
 refine z_e 8 rfl (by kernel_rfl) (a_appA (c := c_Snap) 2 hz0 et22 rfl zr60 rfl cz_Snap rfl rfl ok_Snaps hk6 rfl fun ag0 ok0 hk7 => ⟨⟨fun _ => hp_at 1 hk7 rfl, fun _ => hp_at 0 hk7 rfl, trivial⟩, ?_⟩)
 refine z_w 9 rfl (fun S' h' hi hB => o_nil rfl) ?_
 refine z_w 10 rfl (fun S' h' hi hB => Zh fd27_1 rfl rfl) ?_
 refine z_e 11 rfl (by kernel_rfl) (a_store 1 ([.sc (.int .i64 (IntKind.wrap .i64 (p0.Seq + 1))), aw ag0.t ag0.n ag0.cap, aw g_Chunks.t g_Chunks.n g_Chunks.cap, aw g_Exps.t g_Exps.n g_Exps.cap, aw g_Vols.t g_Vols.n g_Vols.cap]) hk7 rfl rfl (cellsOf_aw rfl) (all_c (ocell_aw _ _ _) rfl) sz22 rfl rfl fun hk8 => ⟨⟨fun e => absurd e (by decide), fun _ => hp_at 0 hk8 rfl, trivial⟩, ?_⟩)
 refine z_nil (by kernel_rfl) ?_
 refine H18 _ _ (Zf fun K18 H19 => (Za (vC rfl (Zb (H19 _ _ ?_)))))
 refine AW_loopL (n := 443) (h := h) hm (σ := (List TChunk) × Int) (τ := AGh) (fun g s => [(some k2, .obj 107 (c_Change p1)), (some p0K, .obj 27 ([.sc (.int .i64 (IntKind.wrap .i64 (p0.Seq + 1))), aw ag0.t ag0.n ag0.cap, aw g.t g.n g.cap, aw g_Exps.t g_Exps.n g_Exps.cap, aw g_Vols.t g_Vols.n g_Vols.cap])), (ag0.t, .obj 60 (fl c_Snap (z0 : List TSnap) ag0.sp)), (g.t, .obj 63 (fl c_Chunk (s.1 : List TChunk) g.sp)), (g_Exps.t, .obj 65 (fl c_Exp (p0.Exps : List TExp) g_Exps.sp)), (g_Vols.t, .obj 40 (fl c_Vol (p0.Vols : List TVol) g_Vols.sp))]) (fun g s => AOk g 35 (s.1 : List TChunk).length) (fun g s => kp (kp (kp (k0) 7 (.sc (.int .i64 s.2))) 3 (.ptr k2 0)) 0 (.ptr p0K 0)) g_Chunks (⟨hk8, ok_Chunks⟩) (LeF.s (.k3 .nil)) ?_ ?_
 rintro ag1 ⟨q2, q3⟩ x ⟨hk9, ok1⟩ hm
 replace hm : M109_L3 fuel p1 q2 q3 = some x := hm
 unfold M109_L3 at hm
 refine Zf fun K19 H20 => (Zf fun K20 H21 => (Za (vA rfl (s_v (Zh fd107_2 rfl rfl) (s_v (Zg (.sl none 35 (List.map c_Chunk p1.Chunks)) ld23 rfl (Zd 0 hk9 rfl) rfl) (s_v (o_lenm ln23 rfl) (vF rfl rfl rfl (Zb (H21 _ _ ?_)))))))))
 refine AW_if' rfl (fun hc4 => ?_) (fun hc4 => ?_)
 have hm := Zi hm hc4
 refine Zl (H20 _ _ (Zf fun K21 H22 => (AW_block ?_)))
 refine AW_zreg [(13, some p0K, .obj 27 ([.sc (.int .i64 (IntKind.wrap .i64 (p0.Seq + 1))), aw ag0.t ag0.n ag0.cap, aw ag1.t ag1.n ag1.cap, aw g_Exps.t g_Exps.n g_Exps.cap, aw g_Vols.t g_Vols.n g_Vols.cap])), (1000000, some k2, .obj 107 (c_Change p1))] mixed (⟨fun _ => hp_at 1 hk9 rfl, fun _ => hp_at 0 hk9 rfl, trivial⟩) ?_
 refine z_w 0 rfl (fun S' h' hi hB => o_mv (.ptr _ _) rfl) ?_
 refine z_w 1 rfl (fun S' h' hi hB => o_mv (.ptr _ _) rfl) ?_
 refine z_w 2 rfl (fun S' h' hi hB => o_nil rfl) ?_
 refine z_w 3 rfl (fun S' h' hi hB => Zh fd27_2 rfl rfl) ?_
 refine z_w 4 rfl (fun S' h' hi hB => Zg (aw ag1.t ag1.n ag1.cap) ld23 rfl (At.s (InvL.get 0 hi rfl (hB 13 (by kernel_rfl)))) rfl) ?_
 refine z_w 5 rfl (fun S' h' hi hB => Zh fd107_2 rfl rfl) ?_
 refine z_w 6 rfl (fun S' h' hi hB => Zg (.sl none 35 (List.map c_Chunk p1.Chunks)) ld23 rfl (At.s (InvL.get 1 hi rfl (hB 1000000 (by kernel_rfl)))) rfl) ?_
 refine z_w 7 rfl (fun S' h' hi hB => o_mv (.sc (.int _ _)) rfl) ?_
 obtain ⟨x2, hx2, hm⟩ := Zc hm
 refine z_w 8 rfl (fun S' h' hi hB => o_ix hx2 el23 rfl rfl) ?_
 refine z_w 9 rfl (fun S' h' hi hB => o_ld (.agg (c_Chunk x2)) ld63 rfl rfl) ?_
 obtain ⟨y1, hy1, hm⟩ := Zc hm
 refine z_e 10 rfl (by kernel_rfl) (AOp_fz (s := 107) (.sl none 35 (List.map c_Chunk q2)) (hp_sub (.cons_cons _ (.cons_cons _ (.cons_cons _ (.cons _ (.refl _))))) hk9).1 (Fz.aw 3 cz_Chunk ok1 hk9 rfl (.refl _)) (a_call (W135a _ hy1) rfl bd135 rfl ?_))
 rintro x h' ⟨ag2, ok2, hk10, rfl, rfl⟩
 rw [hp_cat]
 refine ⟨⟨fun _ => hp_at 2 (HOk.co ((hp_sub (.cons_cons _ (.cons_cons _ (.cons_cons _ (.cons _ (.refl _))))) hk9).2) hk10) rfl, fun _ => hp_at 1 (HOk.co ((hp_sub (.cons_cons _ (.cons_cons _ (.cons_cons _ (.cons _ (.refl _))))) hk9).2) hk10) rfl, trivial⟩, ?_⟩
 refine z_w 11 rfl (fun S' h' hi hB => o_nil rfl) ?_
 refine z_w 12 rfl (fun S' h' hi hB => Zh fd27_2 rfl rfl) ?_
 refine z_e 13 rfl (by kernel_rfl) (a_store 2 ([.sc (.int .i64 (IntKind.wrap .i64 (p0.Seq + 1))), aw ag0.t ag0.n ag0.cap, aw ag2.t ag2.n ag2.cap, aw g_Exps.t g_Exps.n g_Exps.cap, aw g_Vols.t g_Vols.n g_Vols.cap]) (HOk.co ((hp_sub (.cons_cons _ (.cons_cons _ (.cons_cons _ (.cons _ (.refl _))))) hk9).2) hk10) rfl rfl (cellsOf_aw rfl) (all_c (ocell_aw _ _ _) rfl) sz23 rfl rfl fun hk11 => ⟨⟨fun e => absurd e (by decide), fun _ => hp_at 1 hk11 rfl, trivial⟩, ?_⟩)
 refine z_nil (by kernel_rfl) ?_
 refine H22 _ _ (Za (vA rfl (vF rfl rfl rfl (vC rfl (Zb ?_)))))
 cases hm
 exact ⟨rfl, ag2, ⟨(hp_pick hk11 [1, 2, 3, 0, 4, 5] rfl).1, ok2⟩, LeF.fm ((hp_pick hk11 [1, 2, 3, 0, 4, 5] rfl).2) (.k3 .nil)⟩
 have hm := Zj hm hc4
 refine AW_exit ?_
 refine Seq_exit ?_
 cases hm
 exact ⟨rfl, ag1, ⟨hk9, ok1⟩, LeF.s (.k3 .nil)⟩
 rintro ag3 ⟨r2, r3⟩ fr' h' ⟨hk12, ot0⟩ hm le
 cases hm
 exact ⟨rfl, (ag0, ag3, g_Exps, g_Vols), ⟨hk12, ok0, ot0, ok_Exps, ok_Vols⟩, LeF.trans le (LeF.s .nil)⟩
 have hm := Zj hm hc0
 refine Zf fun K22 H23 => (Za (vF rfl rfl rfl (vD rfl (Zb (H23 _ _ ?_)))))
 refine AW_joinL (n := 443) (h := h) hm (σ := Int × (List TSnap) × (List TChunk) × (List TExp) × (List TVol)) (τ := AGh × AGh × AGh × AGh) (fun g s => [(some k2, .obj 107 (c_Change p1)), (some p0K, .obj 27 ([.sc (.int .i64 s.1), aw g.1.t g.1.n g.1.cap, aw g.2.1.t g.2.1.n g.2.1.cap, aw g.2.2.1.t g.2.2.1.n g.2.2.1.cap, aw g.2.2.2.t g.2.2.2.n g.2.2.2.cap])), (g.1.t, .obj 60 (fl c_Snap (s.2.1 : List TSnap) g.1.sp)), (g.2.1.t, .obj 63 (fl c_Chunk (s.2.2.1 : List TChunk) g.2.1.sp)), (g.2.2.1.t, .obj 65 (fl c_Exp (s.2.2.2.1 : List TExp) g.2.2.1.sp)), (g.2.2.2.t, .obj 40 (fl c_Vol (s.2.2.2.2 : List TVol) g.2.2.2.sp))]) (fun g s => AOk g.1 4 (s.2.1 : List TSnap).length ∧ AOk g.2.1 35 (s.2.2.1 : List TChunk).length ∧ AOk g.2.2.1 3 (s.2.2.2.1 : List TExp).length ∧ AOk g.2.2.2 4 (s.2.2.2.2 : List TVol).length) (fun g s => k0) (fun x hm => ?_) ?_
 refine AW_if' rfl (fun hc5 => ?_) (fun hc5 => ?_)
 have hm := Zi hm hc5
 refine Zf fun K23 H24 => (Za (s_v (o_mv (.ptr _ _) rfl) (s_v (Zh fd107_3 rfl rfl) (s_v (Zg (.sc (.int .i64 p1.Seq)) ld3 rfl (Zd 0 hk3 rfl) rfl) ?_))))
 obtain ⟨y2, hy2, hm⟩ := Zc hm
 refine s_op (AOp_eqh ((hp_permI hk3 [1, 2, 3, 4, 5, 0] rfl rfl).1.trans (hp_app h [(some p0K, .obj 27 ([.sc (.int .i64 p0.Seq), aw g_Snaps.t g_Snaps.n g_Snaps.cap, aw g_Chunks.t g_Chunks.n g_Chunks.cap, aw g_Exps.t g_Exps.n g_Exps.cap, aw g_Vols.t g_Vols.n g_Vols.cap])), (g_Snaps.t, .obj 60 (fl c_Snap (p0.Snaps : List TSnap) g_Snaps.sp)), (g_Chunks.t, .obj 63 (fl c_Chunk (p0.Chunks : List TChunk) g_Chunks.sp)), (g_Exps.t, .obj 65 (fl c_Exp (p0.Exps : List TExp) g_Exps.sp)), (g_Vols.t, .obj 40 (fl c_Vol (p0.Vols : List TVol) g_Vols.sp))] [(some k2, .obj 107 (c_Change p1))]).symm) (a_call (W136 (hp h [(some k2, .obj 107 (c_Change p1))]) ok_Snaps ok_Chunks ok_Exps ok_Vols (HOk_spl [(some p0K, .obj 27 ([.sc (.int .i64 p0.Seq), aw g_Snaps.t g_Snaps.n g_Snaps.cap, aw g_Chunks.t g_Chunks.n g_Chunks.cap, aw g_Exps.t g_Exps.n g_Exps.cap, aw g_Vols.t g_Vols.n g_Vols.cap])), (g_Snaps.t, .obj 60 (fl c_Snap (p0.Snaps : List TSnap) g_Snaps.sp)), (g_Chunks.t, .obj 63 (fl c_Chunk (p0.Chunks : List TChunk) g_Chunks.sp)), (g_Exps.t, .obj 65 (fl c_Exp (p0.Exps : List TExp) g_Exps.sp)), (g_Vols.t, .obj 40 (fl c_Vol (p0.Vols : List TVol) g_Vols.sp))] [(some k2, .obj 107 (c_Change p1))] (hp_permI hk3 [1, 2, 3, 4, 5, 0] rfl rfl).2).2 hy2) rfl bd136 rfl ?_))
 rintro x h' ⟨ag4, ok3, ag5, ok4, hk13, rfl, rfl⟩
 have hk14 := hp_permI (L' := [(some k2, .obj 107 (c_Change p1)), (some p0K, .obj 27 ([.sc (.int .i64 p0.Seq), aw ag4.t ag4.n ag4.cap, aw ag5.t ag5.n ag5.cap, aw g_Exps.t g_Exps.n g_Exps.cap, aw g_Vols.t g_Vols.n g_Vols.cap])), (ag4.t, .obj 60 (fl c_Snap (y2.2.1 : List TSnap) ag4.sp)), (ag5.t, .obj 63 (fl c_Chunk (y2.2.2 : List TChunk) ag5.sp)), (g_Exps.t, .obj 65 (fl c_Exp (p0.Exps : List TExp) g_Exps.sp)), (g_Vols.t, .obj 40 (fl c_Vol (p0.Vols : List TVol) g_Vols.sp))]) (HOk_app (HOk_spl [(some p0K, .obj 27 ([.sc (.int .i64 p0.Seq), aw g_Snaps.t g_Snaps.n g_Snaps.cap, aw g_Chunks.t g_Chunks.n g_Chunks.cap, aw g_Exps.t g_Exps.n g_Exps.cap, aw g_Vols.t g_Vols.n g_Vols.cap])), (g_Snaps.t, .obj 60 (fl c_Snap (p0.Snaps : List TSnap) g_Snaps.sp)), (g_Chunks.t, .obj 63 (fl c_Chunk (p0.Chunks : List TChunk) g_Chunks.sp)), (g_Exps.t, .obj 65 (fl c_Exp (p0.Exps : List TExp) g_Exps.sp)), (g_Vols.t, .obj 40 (fl c_Vol (p0.Vols : List TVol) g_Vols.sp))] [(some k2, .obj 107 (c_Change p1))] (hp_permI hk3 [1, 2, 3, 4, 5, 0] rfl rfl).2).1 hk13) [5, 0, 1, 2, 3, 4] rfl rfl
 refine AOps_eqh ((hp_app h [(some p0K, .obj 27 ([.sc (.int .i64 p0.Seq), aw ag4.t ag4.n ag4.cap, aw ag5.t ag5.n ag5.cap, aw g_Exps.t g_Exps.n g_Exps.cap, aw g_Vols.t g_Vols.n g_Vols.cap])), (ag4.t, .obj 60 (fl c_Snap (y2.2.1 : List TSnap) ag4.sp)), (ag5.t, .obj 63 (fl c_Chunk (y2.2.2 : List TChunk) ag5.sp)), (g_Exps.t, .obj 65 (fl c_Exp (p0.Exps : List TExp) g_Exps.sp)), (g_Vols.t, .obj 40 (fl c_Vol (p0.Vols : List TVol) g_Vols.sp))] [(some k2, .obj 107 (c_Change p1))]).trans hk14.1) ?_
 refine s_v (o_not rfl) (Zb (H24 _ _ ?_))
 refine AW_if' rfl (fun hc6 => ?_) (fun hc6 => ?_)
 have hm := Zi hm hc6
 refine Zf fun K24 H25 => (Za (vC rfl (Zb (H25 _ _ (AW_ret ?_)))))
 cases hm
 refine ⟨nofun, fun he => ?_⟩
 subst he
 refine ⟨nofun, fun he => ?_⟩
 subst he
 exact LqE.mk (LeF.eqh rfl) (Ret.of1 (.inl rfl) (rsT _ _ (.sc (.int _ _)) rfl) (hp_pick hk14.2 [1, 2, 3, 4, 5] rfl).2 (ALe.refl _ _) ⟨ag4, ok3, ag5, ok4, g_Exps, ok_Exps, g_Vols, ok_Vols, (hp_pick hk14.2 [1, 2, 3, 4, 5] rfl).1, rfl, rfl⟩)
 have hm := Zj hm hc6
 refine Zl ?_
 cases hm
 exact ⟨rfl, (ag4, ag5, g_Exps, g_Vols), ⟨hk14.2, ok3, ok4, ok_Exps, ok_Vols⟩, LeF.s .nil⟩
 have hm := Zj hm hc5
 refine Zf fun K25 H26 => (Za (vF rfl rfl rfl (vD rfl (Zb (H26 _ _ ?_)))))
 refine AW_joinL (n := 443) (h := h) hm (σ := Int × (List TSnap) × (List TChunk) × (List TExp) × (List TVol)) (τ := AGh × AGh × AGh × AGh) (fun g s => [(some k2, .obj 107 (c_Change p1)), (some p0K, .obj 27 ([.sc (.int .i64 s.1), aw g.1.t g.1.n g.1.cap, aw g.2.1.t g.2.1.n g.2.1.cap, aw g.2.2.1.t g.2.2.1.n g.2.2.1.cap, aw g.2.2.2.t g.2.2.2.n g.2.2.2.cap])), (g.1.t, .obj 60 (fl c_Snap (s.2.1 : List TSnap) g.1.sp)), (g.2.1.t, .obj 63 (fl c_Chunk (s.2.2.1 : List TChunk) g.2.1.sp)), (g.2.2.1.t, .obj 65 (fl c_Exp (s.2.2.2.1 : List TExp) g.2.2.1.sp)), (g.2.2.2.t, .obj 40 (fl c_Vol (s.2.2.2.2 : List TVol) g.2.2.2.sp))]) (fun g s => AOk g.1 4 (s.2.1 : List TSnap).length ∧ AOk g.2.1 35 (s.2.2.1 : List TChunk).length ∧ AOk g.2.2.1 3 (s.2.2.2.1 : List TExp).length ∧ AOk g.2.2.2 4 (s.2.2.2.2 : List TVol).length) (fun g s => k0) (fun x hm => ?_) ?_
 refine AW_if' rfl (fun hc7 => ?_) (fun hc7 => ?_)
 have hm := Zi hm hc7
 refine Zf fun K26 H27 => ?_
 refine AW_joinH (n := 443) (h := h) hm (σ := Bool) (τ := Unit) (fun g s => [(some k2, .obj 107 (c_Change p1)), (some p0K, .obj 27 ([.sc (.int .i64 p0.Seq), aw g_Snaps.t g_Snaps.n g_Snaps.cap, aw g_Chunks.t g_Chunks.n g_Chunks.cap, aw g_Exps.t g_Exps.n g_Exps.cap, aw g_Vols.t g_Vols.n g_Vols.cap])), (g_Snaps.t, .obj 60 (fl c_Snap (p0.Snaps : List TSnap) g_Snaps.sp)), (g_Chunks.t, .obj 63 (fl c_Chunk (p0.Chunks : List TChunk) g_Chunks.sp)), (g_Exps.t, .obj 65 (fl c_Exp (p0.Exps : List TExp) g_Exps.sp)), (g_Vols.t, .obj 40 (fl c_Vol (p0.Vols : List TVol) g_Vols.sp))]) (fun g s => kp (kp (kp (k0) 8 (.sc (.bool s))) 3 (.ptr k2 0)) 0 (.ptr p0K 0)) (fun x hm => ?_) ?_
 refine Za (s_v (o_mv (.ptr _ _) rfl) (s_v (Zh fd107_4 rfl rfl) (s_v (Zg (.sc (.int .i64 p1.Vol)) ld3 rfl (Zd 0 hk3 rfl) rfl) ?_)))
 obtain ⟨y3, hy3, hm⟩ := Zc hm
 refine s_op (AOp_eqh ((hp_permI hk3 [1, 2, 3, 4, 5, 0] rfl rfl).1.trans (hp_app h [(some p0K, .obj 27 ([.sc (.int .i64 p0.Seq), aw g_Snaps.t g_Snaps.n g_Snaps.cap, aw g_Chunks.t g_Chunks.n g_Chunks.cap, aw g_Exps.t g_Exps.n g_Exps.cap, aw g_Vols.t g_Vols.n g_Vols.cap])), (g_Snaps.t, .obj 60 (fl c_Snap (p0.Snaps : List TSnap) g_Snaps.sp)), (g_Chunks.t, .obj 63 (fl c_Chunk (p0.Chunks : List TChunk) g_Chunks.sp)), (g_Exps.t, .obj 65 (fl c_Exp (p0.Exps : List TExp) g_Exps.sp)), (g_Vols.t, .obj 40 (fl c_Vol (p0.Vols : List TVol) g_Vols.sp))] [(some k2, .obj 107 (c_Change p1))]).symm) (a_call (W137 (hp h [(some k2, .obj 107 (c_Change p1))]) ok_Snaps ok_Chunks ok_Exps ok_Vols (HOk_spl [(some p0K, .obj 27 ([.sc (.int .i64 p0.Seq), aw g_Snaps.t g_Snaps.n g_Snaps.cap, aw g_Chunks.t g_Chunks.n g_Chunks.cap, aw g_Exps.t g_Exps.n g_Exps.cap, aw g_Vols.t g_Vols.n g_Vols.cap])), (g_Snaps.t, .obj 60 (fl c_Snap (p0.Snaps : List TSnap) g_Snaps.sp)), (g_Chunks.t, .obj 63 (fl c_Chunk (p0.Chunks : List TChunk) g_Chunks.sp)), (g_Exps.t, .obj 65 (fl c_Exp (p0.Exps : List TExp) g_Exps.sp)), (g_Vols.t, .obj 40 (fl c_Vol (p0.Vols : List TVol) g_Vols.sp))] [(some k2, .obj 107 (c_Change p1))] (hp_permI hk3 [1, 2, 3, 4, 5, 0] rfl rfl).2).2 hy3) rfl bd137 rfl ?_))
 rintro x h' ⟨hk15, rfl, rfl⟩
 have hk16 := hp_permI (L' := [(some k2, .obj 107 (c_Change p1)), (some p0K, .obj 27 ([.sc (.int .i64 p0.Seq), aw g_Snaps.t g_Snaps.n g_Snaps.cap, aw g_Chunks.t g_Chunks.n g_Chunks.cap, aw g_Exps.t g_Exps.n g_Exps.cap, aw g_Vols.t g_Vols.n g_Vols.cap])), (g_Snaps.t, .obj 60 (fl c_Snap (p0.Snaps : List TSnap) g_Snaps.sp)), (g_Chunks.t, .obj 63 (fl c_Chunk (p0.Chunks : List TChunk) g_Chunks.sp)), (g_Exps.t, .obj 65 (fl c_Exp (p0.Exps : List TExp) g_Exps.sp)), (g_Vols.t, .obj 40 (fl c_Vol (p0.Vols : List TVol) g_Vols.sp))]) (HOk_app (HOk_spl [(some p0K, .obj 27 ([.sc (.int .i64 p0.Seq), aw g_Snaps.t g_Snaps.n g_Snaps.cap, aw g_Chunks.t g_Chunks.n g_Chunks.cap, aw g_Exps.t g_Exps.n g_Exps.cap, aw g_Vols.t g_Vols.n g_Vols.cap])), (g_Snaps.t, .obj 60 (fl c_Snap (p0.Snaps : List TSnap) g_Snaps.sp)), (g_Chunks.t, .obj 63 (fl c_Chunk (p0.Chunks : List TChunk) g_Chunks.sp)), (g_Exps.t, .obj 65 (fl c_Exp (p0.Exps : List TExp) g_Exps.sp)), (g_Vols.t, .obj 40 (fl c_Vol (p0.Vols : List TVol) g_Vols.sp))] [(some k2, .obj 107 (c_Change p1))] (hp_permI hk3 [1, 2, 3, 4, 5, 0] rfl rfl).2).1 hk15) [5, 0, 1, 2, 3, 4] rfl rfl
 refine AOps_eqh ((hp_app h [(some p0K, .obj 27 ([.sc (.int .i64 p0.Seq), aw g_Snaps.t g_Snaps.n g_Snaps.cap, aw g_Chunks.t g_Chunks.n g_Chunks.cap, aw g_Exps.t g_Exps.n g_Exps.cap, aw g_Vols.t g_Vols.n g_Vols.cap])), (g_Snaps.t, .obj 60 (fl c_Snap (p0.Snaps : List TSnap) g_Snaps.sp)), (g_Chunks.t, .obj 63 (fl c_Chunk (p0.Chunks : List TChunk) g_Chunks.sp)), (g_Exps.t, .obj 65 (fl c_Exp (p0.Exps : List TExp) g_Exps.sp)), (g_Vols.t, .obj 40 (fl c_Vol (p0.Vols : List TVol) g_Vols.sp))] [(some k2, .obj 107 (c_Change p1))]).trans hk16.1) ?_
 refine vB rfl ?_
 rcases Bool.eq_false_or_eq_true y3 with hb3 | hb3
 have hm := Zi hm hb3
 refine sg_y rfl rfl hb3 (s_v (Zh fd107_5 rfl rfl) (sg_y rfl rfl hb3 (s_v (Zg (.sl none 37 (List.map c_Item p1.Items)) ld70 rfl (Zd 0 hk16.2 rfl) rfl) (sg_y rfl rfl hb3 (s_v (o_lenm ln70 rfl) (sg_y rfl rfl hb3 (vF rfl rfl rfl (s_v (Zm (.sc (.bool _)) rfl hb3 rfl) (vB rfl ?_)))))))))
 rcases Bool.eq_false_or_eq_true (decide (1 ≤ (p1.Items.length : Int))) with hb4 | hb4
 have hm := Zi hm hb4
 refine sg_y rfl rfl hb4 (s_v (Zh fd107_5 rfl rfl) (sg_y rfl rfl hb4 (s_v (Zg (.sl none 37 (List.map c_Item p1.Items)) ld70 rfl (Zd 0 hk16.2 rfl) rfl) (sg_y rfl rfl hb4 (s_v (o_lenm ln70 rfl) (sg_y rfl rfl hb4 (vF rfl rfl rfl (s_v (Zm (.sc (.bool _)) rfl hb4 rfl) (vD rfl (Zb ?_))))))))))
 cases hm
 exact ⟨rfl, (), hk16.2, LeF.s (.k3 .nil)⟩
 have hm := Zj hm hb4
 refine Zo rfl rfl hb4 (Zo rfl rfl hb4 (Zo rfl rfl hb4 (Zo rfl rfl hb4 (s_v (Zn (.sc (.bool _)) rfl hb4 rfl) (vD rfl (Zb ?_))))))
 cases hm
 exact ⟨rfl, (), hk16.2, LeF.s (.k3 .nil)⟩
 have hm := Zj hm hb3
 refine Zo rfl rfl hb3 (Zo rfl rfl hb3 (Zo rfl rfl hb3 (Zo rfl rfl hb3 (s_v (Zn (.sc (.bool _)) rfl hb3 rfl) (vB rfl (Zo rfl rfl rfl (Zo rfl rfl rfl (Zo rfl rfl rfl (Zo rfl rfl rfl (s_v (Zn (.sc (.bool _)) rfl rfl rfl) (vD rfl (Zb ?_))))))))))))
 cases hm
 exact ⟨rfl, (), hk16.2, LeF.s (.k3 .nil)⟩
 rintro _ j2 fr' h' hk17 hm le
 refine H27 _ _ (le.aw ?_)
 refine Zf fun K27 H28 => (Zf fun K28 H29 => (Za (vC rfl (Zb (H29 _ _ ?_)))))
 refine AW_loopH (n := 443) (h := h) hm (σ := Bool × Int) (τ := Unit) (fun g s => [(some k2, .obj 107 (c_Change p1)), (some p0K, .obj 27 ([.sc (.int .i64 p0.Seq), aw g_Snaps.t g_Snaps.n g_Snaps.cap, aw g_Chunks.t g_Chunks.n g_Chunks.cap, aw g_Exps.t g_Exps.n g_Exps.cap, aw g_Vols.t g_Vols.n g_Vols.cap])), (g_Snaps.t, .obj 60 (fl c_Snap (p0.Snaps : List TSnap) g_Snaps.sp)), (g_Chunks.t, .obj 63 (fl c_Chunk (p0.Chunks : List TChunk) g_Chunks.sp)), (g_Exps.t, .obj 65 (fl c_Exp (p0.Exps : List TExp) g_Exps.sp)), (g_Vols.t, .obj 40 (fl c_Vol (p0.Vols : List TVol) g_Vols.sp))]) (fun g s => kp (kp (kp (kp (k0) 9 (.sc (.int .i64 s.2))) 8 (.sc (.bool s.1))) 3 (.ptr k2 0)) 0 (.ptr p0K 0)) () hk17 (LeF.s (.k4 .nil)) ?_ ?_
 rintro _ ⟨q4, q5⟩ x hk18 hm
 replace hm : M109_L5 fuel p1 q4 q5 = some x := hm
 unfold M109_L5 at hm
 refine Zf fun K29 H30 => (Zf fun K30 H31 => (Za (vA rfl (s_v (Zh fd107_5 rfl rfl) (s_v (Zg (.sl none 37 (List.map c_Item p1.Items)) ld70 rfl (Zd 0 hk18 rfl) rfl) (s_v (o_lenm ln70 rfl) (vF rfl rfl rfl (Zb (H31 _ _ ?_)))))))))
 refine AW_if' rfl (fun hc8 => ?_) (fun hc8 => ?_)
 have hm := Zi hm hc8
 refine Zl (H30 _ _ (Zf fun K31 H32 => (AW_block ?_)))
 refine AW_joinH (n := 443) (h := h) hm (σ := Bool) (τ := Unit) (fun g s => [(some k2, .obj 107 (c_Change p1)), (some p0K, .obj 27 ([.sc (.int .i64 p0.Seq), aw g_Snaps.t g_Snaps.n g_Snaps.cap, aw g_Chunks.t g_Chunks.n g_Chunks.cap, aw g_Exps.t g_Exps.n g_Exps.cap, aw g_Vols.t g_Vols.n g_Vols.cap])), (g_Snaps.t, .obj 60 (fl c_Snap (p0.Snaps : List TSnap) g_Snaps.sp)), (g_Chunks.t, .obj 63 (fl c_Chunk (p0.Chunks : List TChunk) g_Chunks.sp)), (g_Exps.t, .obj 65 (fl c_Exp (p0.Exps : List TExp) g_Exps.sp)), (g_Vols.t, .obj 40 (fl c_Vol (p0.Vols : List TVol) g_Vols.sp))]) (fun g s => kp (kp (kp (kp (k0) 9 (.sc (.int .i64 q5))) 8 (.sc (.bool s))) 3 (.ptr k2 0)) 0 (.ptr p0K 0)) (fun x hm => ?_) ?_
 refine Za (vB rfl (vB rfl ?_))
 rcases Bool.eq_false_or_eq_true q4 with hb5 | hb5
 have hm := Zi hm hb5
 refine sg_y rfl rfl hb5 (s_v (Zh fd107_5 rfl rfl) (sg_y rfl rfl hb5 (s_v (Zg (.sl none 37 (List.map c_Item p1.Items)) ld70 rfl (Zd 0 hk18 rfl) rfl) (sg_y rfl rfl hb5 (vA rfl (sg_y rfl rfl hb5 ?_))))))
 obtain ⟨x3, hx3, hm⟩ := Zc hm
 refine s_v (o_ix hx3 el70 rfl rfl) (sg_y rfl rfl hb5 (s_v (o_fl fd99_0 rfl rfl) (sg_y rfl rfl hb5 (s_v (o_ld (.sc (.int .i64 x3.Kind)) ld3 rfl rfl) (sg_y rfl rfl hb5 (vF rfl rfl rfl (s_v (Zm (.sc (.bool _)) rfl hb5 rfl) (vB rfl ?_))))))))
 rcases Bool.eq_false_or_eq_true (decide (1 ≤ x3.Kind)) with hb6 | hb6
 have hm := Zi hm hb6
 refine sg_y rfl rfl hb6 (s_v (Zh fd107_5 rfl rfl) (sg_y rfl rfl hb6 (s_v (Zg (.sl none 37 (List.map c_Item p1.Items)) ld70 rfl (Zd 0 hk18 rfl) rfl) (sg_y rfl rfl hb6 (vA rfl (sg_y rfl rfl hb6 ?_))))))
 obtain ⟨x4, hx4, hm⟩ := Zc hm
 refine s_v (o_ix hx4 el70 rfl rfl) (sg_y rfl rfl hb6 (s_v (o_fl fd99_0 rfl rfl) (sg_y rfl rfl hb6 (s_v (o_ld (.sc (.int .i64 x4.Kind)) ld3 rfl rfl) (sg_y rfl rfl hb6 (vF rfl rfl rfl (s_v (Zm (.sc (.bool _)) rfl hb6 rfl) (vD rfl (Zb ?_)))))))))
 cases hm
 exact ⟨rfl, (), hk18, LeF.s (.k4 .nil)⟩
 have hm := Zj hm hb6
 refine Zo rfl rfl hb6 (Zo rfl rfl hb6 (Zo rfl rfl hb6 (Zo rfl rfl hb6 (Zo rfl rfl hb6 (Zo rfl rfl hb6 (Zo rfl rfl hb6 (s_v (Zn (.sc (.bool _)) rfl hb6 rfl) (vD rfl (Zb ?_)))))))))
 cases hm
 exact ⟨rfl, (), hk18, LeF.s (.k4 .nil)⟩
 have hm := Zj hm hb5
 refine Zo rfl rfl hb5 (Zo rfl rfl hb5 (Zo rfl rfl hb5 (Zo rfl rfl hb5 (Zo rfl rfl hb5 (Zo rfl rfl hb5 (Zo rfl rfl hb5 (s_v (Zn (.sc (.bool _)) rfl hb5 rfl) (vB rfl (Zo rfl rfl rfl (Zo rfl rfl rfl (Zo rfl rfl rfl (Zo rfl rfl rfl (Zo rfl rfl rfl (Zo rfl rfl rfl (Zo rfl rfl rfl ?_)))))))))))))))
 refine s_v (Zn (.sc (.bool _)) rfl rfl rfl) (vD rfl (Zb ?_))
 cases hm
 exact ⟨rfl, (), hk18, LeF.s (.k4 .nil)⟩
 rintro _ j3 fr' h' hk19 hm le
 refine H32 _ _ (le.aw ?_)
 refine Za (vA rfl (vF rfl rfl rfl (vC rfl (Zb ?_))))
 cases hm
 exact ⟨rfl, (), hk19, LeF.s (.k4 .nil)⟩
 have hm := Zj hm hc8
 refine AW_exit ?_
 refine Seq_exit ?_
 cases hm
 exact ⟨rfl, (), hk18, LeF.s (.k4 .nil)⟩
 rintro _ ⟨r4, r5⟩ fr' h' hk20 hm le
 refine H28 _ _ (le.aw ?_)
 refine Zf fun K32 H33 => (Zf fun K33 H34 => (Za (vB rfl (s_v (o_not rfl) (Zb (H34 _ _ ?_))))))
 refine AW_if' rfl (fun hc9 => ?_) (fun hc9 => ?_)
 have hm := Zi hm hc9
 refine Zf fun K34 H35 => (Za (vC rfl (Zb (H35 _ _ (AW_ret ?_)))))
 cases hm
 refine ⟨nofun, fun he => ?_⟩
 subst he
 refine ⟨nofun, fun he => ?_⟩
 subst he
 refine ⟨nofun, fun he => ?_⟩
 subst he
 exact LqE.mk (LeF.eqh rfl) (Ret.of1 (.inl rfl) (rsT _ _ (.sc (.int _ _)) rfl) (hp_pick hk20 [1, 2, 3, 4, 5] rfl).2 (ALe.refl _ _) ⟨g_Snaps, ok_Snaps, g_Chunks, ok_Chunks, g_Exps, ok_Exps, g_Vols, ok_Vols, (hp_pick hk20 [1, 2, 3, 4, 5] rfl).1, rfl, rfl⟩)
 have hm := Zj hm hc9
 refine Zl (H33 _ _ (Zf fun K35 H36 => ?_))
 refine AW_rq mixed (by kernel_rfl) ?_
 refine q_v (o_mv (.ptr _ _) rfl) (q_v (o_nil rfl) (q_v (Zh fd27_4 rfl rfl) (q_v (Zg (aw g_Vols.t g_Vols.n g_Vols.cap) ld25 rfl (Zd 1 hk20 rfl) rfl) (q_v (Zh fd107_4 rfl rfl) (q_v (Zg (.sc (.int .i64 p1.Vol)) ld3 rfl (Zd 0 hk20 rfl) rfl) ?_)))))
 obtain ⟨x5, hx5, hm⟩ := Zc hm
 refine q_v (o_ixA hx5 el25 ok_Vols rfl rfl) (q_v (o_as (apt _ _) rfl) (q_nil (H36 _ _ (Zf fun K36 H37 => (Za (s_v (o_mv (apt _ _) rfl) (s_v (o_mv (apt _ _) rfl) (s_v (o_mv (apt _ _) rfl) (s_v (o_nilA (AOk.ne ok_Vols hx5) rfl) (s_v (o_flA (AOk.ne ok_Vols hx5) fd40_3 rfl rfl) (s_v (o_ldA (fo := 3) (.sc (.int .i64 x5.Files)) hx5 cz_Vol ok_Vols ld3 rfl (hp_at 5 hk20 rfl) (fun _ => rfl)) (vF rfl rfl rfl (s_v (o_nilA (AOk.ne ok_Vols hx5) rfl) (s_v (o_flA (AOk.ne ok_Vols hx5) fd40_2 rfl rfl) ?_))))))))))))))
 refine s_op (a_storeA (fo := 2) ({ x5 with State := 2 } : TVol) 5 hk20 hx5 cz_Vol ok_Vols rfl rfl rfl rfl (ALeL.refl _ _) sz3 rfl rfl fun hk21 => ?_)
 refine s_v (o_nilA (AOk.ne (AOk.set ok_Vols) (ix_set (x' := ({ x5 with State := 2 } : TVol)) hx5)) rfl) (s_v (o_flA (AOk.ne (AOk.set ok_Vols) (ix_set (x' := ({ x5 with State := 2 } : TVol)) hx5)) fd40_3 rfl rfl) ?_)
 refine s_op (a_storeA (fo := 3) ({ ({ x5 with State := 2 } : TVol) with Files := IntKind.wrap .i64 (x5.Files + 1) } : TVol) 5 hk21 (ix_set (x' := ({ x5 with State := 2 } : TVol)) hx5) cz_Vol (AOk.set ok_Vols) rfl rfl rfl rfl (ALeL.refl _ _) sz3 rfl rfl fun hk22 => ?_)
 refine Zb (H37 _ _ (Zf fun K37 H38 => (Zf fun K38 H39 => (Za (vC rfl (Zb (H39 _ _ ?_)))))))
 refine AW_loopL (n := 443) (h := h) hm (σ := Int × (List TSnap) × (List TChunk) × (List TExp) × Int) (τ := AGh × AGh × AGh) (fun g s => [(some k2, .obj 107 (c_Change p1)), (some p0K, .obj 27 ([.sc (.int .i64 s.1), aw g.1.t g.1.n g.1.cap, aw g.2.1.t g.2.1.n g.2.1.cap, aw g.2.2.t g.2.2.n g.2.2.cap, aw g_Vols.t g_Vols.n g_Vols.cap])), (g.1.t, .obj 60 (fl c_Snap (s.2.1 : List TSnap) g.1.sp)), (g.2.1.t, .obj 63 (fl c_Chunk (s.2.2.1 : List TChunk) g.2.1.sp)), (g.2.2.t, .obj 65 (fl c_Exp (s.2.2.2.1 : List TExp) g.2.2.sp)), (g_Vols.t, .obj 40 (fl c_Vol ((p0.Vols.set p1.Vol.toNat ({ x5 with State := 2 })).set p1.Vol.toNat ({ ({ x5 with State := 2 } : TVol) with Files := IntKind.wrap .i64 (x5.Files + 1) }) : List TVol) g_Vols.sp))]) (fun g s => AOk g.1 4 (s.2.1 : List TSnap).length ∧ AOk g.2.1 35 (s.2.2.1 : List TChunk).length ∧ AOk g.2.2 3 (s.2.2.2.1 : List TExp).length) (fun g s => kp (kp (kp (kp (k0) 11 (.sc (.int .i64 s.2.2.2.2))) 10 (apt g_Vols.t (p1.Vol.toNat * 4 + 0))) 3 (.ptr k2 0)) 0 (.ptr p0K 0)) (g_Snaps, g_Chunks, g_Exps) (⟨hk22, ok_Snaps, ok_Chunks, ok_Exps⟩) (LeF.s (.k4 .nil)) ?_ ?_
 rintro ⟨ag6, ag7, ag8⟩ ⟨q6, q7, q8, q9, q10⟩ x ⟨hk23, ok5, ok6, ok7⟩ hm
 replace hm : M109_L7 fuel p0 p1 x5 q6 q7 q8 q9 q10 = some x := hm
 unfold M109_L7 at hm
 refine Zf fun K39 H40 => (Zf fun K40 H41 => (Za (vA rfl (s_v (Zh fd107_5 rfl rfl) (s_v (Zg (.sl none 37 (List.map c_Item p1.Items)) ld70 rfl (Zd 0 hk23 rfl) rfl) (s_v (o_lenm ln70 rfl) (vF rfl rfl rfl (Zb (H41 _ _ ?_)))))))))
 refine AW_if' rfl (fun hc10 => ?_) (fun hc10 => ?_)
 have hm := Zi hm hc10
 refine Zl (H40 _ _ (Zf fun K41 H42 => (AW_block (Zf fun K42 H43 => ?_))))
 refine AW_zreg [(1000000, some k2, .obj 107 (c_Change p1)), (1000000, g_Vols.t, .obj 40 (fl c_Vol ((p0.Vols.set p1.Vol.toNat ({ x5 with State := 2 })).set p1.Vol.toNat ({ ({ x5 with State := 2 } : TVol) with Files := IntKind.wrap .i64 (x5.Files + 1) }) : List TVol) g_Vols.sp))] mixed (⟨fun _ => hp_at 0 hk23 rfl, fun _ => hp_at 5 hk23 rfl, trivial⟩) ?_
 refine z_w 0 rfl (fun S' h' hi hB => o_mv (.ptr _ _) rfl) ?_
 refine z_w 1 rfl (fun S' h' hi hB => Zh fd107_5 rfl rfl) ?_
 refine z_w 2 rfl (fun S' h' hi hB => Zg (.sl none 37 (List.map c_Item p1.Items)) ld70 rfl (At.s (InvL.get 0 hi rfl (hB 1000000 (by kernel_rfl)))) rfl) ?_
 refine z_w 3 rfl (fun S' h' hi hB => o_mv (.sc (.int _ _)) rfl) ?_
 obtain ⟨x6, hx6, hm⟩ := Zc hm
 refine z_w 4 rfl (fun S' h' hi hB => o_ix hx6 el70 rfl rfl) ?_
 refine z_w 5 rfl (fun S' h' hi hB => o_ld (.agg (c_Item x6)) ld99 rfl rfl) ?_
 refine z_w 6 rfl (fun S' h' hi hB => Zh fd107_4 rfl rfl) ?_
 refine z_w 7 rfl (fun S' h' hi hB => Zg (.sc (.int .i64 p1.Vol)) ld3 rfl (At.s (InvL.get 0 hi rfl (hB 1000000 (by kernel_rfl)))) rfl) ?_
 refine z_w 8 rfl (fun S' h' hi hB => o_mv (apt _ _) rfl) ?_
 refine z_w 9 rfl (fun S' h' hi hB => o_nilA (AOk.ne (AOk.set (AOk.set ok_Vols)) (ix_set (x' := ({ ({ x5 with State := 2 } : TVol) with Files := IntKind.wrap .i64 (x5.Files + 1) } : TVol)) (ix_set (x' := ({ x5 with State := 2 } : TVol)) hx5))) rfl) ?_
 refine z_w 10 rfl (fun S' h' hi hB => o_flA (AOk.ne (AOk.set (AOk.set ok_Vols)) (ix_set (x' := ({ ({ x5 with State := 2 } : TVol) with Files := IntKind.wrap .i64 (x5.Files + 1) } : TVol)) (ix_set (x' := ({ x5 with State := 2 } : TVol)) hx5))) fd40_3 rfl rfl) ?_
 refine z_w 11 rfl (fun S' h' hi hB => o_ldA (fo := 3) (.sc (.int .i64 (({ ({ x5 with State := 2 } : TVol) with Files := IntKind.wrap .i64 (x5.Files + 1) } : TVol).Files))) (ix_set (x' := ({ ({ x5 with State := 2 } : TVol) with Files := IntKind.wrap .i64 (x5.Files + 1) } : TVol)) (ix_set (x' := ({ x5 with State := 2 } : TVol)) hx5)) cz_Vol (AOk.set (AOk.set ok_Vols)) ld3 rfl (InvL.get 1 hi rfl (hB 1000000 (by kernel_rfl))) (fun _ => rfl)) ?_
 refine z_w 12 rfl (fun S' h' hi hB => Zh fd107_5 rfl rfl) ?_
 refine z_w 13 rfl (fun S' h' hi hB => Zg (.sl none 37 (List.map c_Item p1.Items)) ld70 rfl (At.s (InvL.get 0 hi rfl (hB 1000000 (by kernel_rfl)))) rfl) ?_
 refine z_w 14 rfl (fun S' h' hi hB => o_mv (.sc (.int _ _)) rfl) ?_
 obtain ⟨x7, hx7, hm⟩ := Zc hm
 refine z_w 15 rfl (fun S' h' hi hB => o_ix hx7 el70 rfl rfl) ?_
 refine z_w 16 rfl (fun S' h' hi hB => o_fl fd99_4 rfl rfl) ?_
 refine z_w 17 rfl (fun S' h' hi hB => o_ld (.sc (.int .i64 x7.Off)) ld3 rfl rfl) ?_
 refine z_w 18 rfl (fun S' h' hi hB => Zh fd107_5 rfl rfl) ?_
 refine z_w 19 rfl (fun S' h' hi hB => Zg (.sl none 37 (List.map c_Item p1.Items)) ld70 rfl (At.s (InvL.get 0 hi rfl (hB 1000000 (by kernel_rfl)))) rfl) ?_
 refine z_w 20 rfl (fun S' h' hi hB => o_mv (.sc (.int _ _)) rfl) ?_
 obtain ⟨x8, hx8, hm⟩ := Zc hm
 refine z_w 21 rfl (fun S' h' hi hB => o_ix hx8 el70 rfl rfl) ?_
 refine z_w 22 rfl (fun S' h' hi hB => o_fl fd99_5 rfl rfl) ?_
 refine z_w 23 rfl (fun S' h' hi hB => o_ld (.sc (.int .i64 x8.Len)) ld3 rfl rfl) ?_
 refine z_w 24 rfl (fun S' h' hi hB => o_bld (c_Loc ({ Vol := p1.Vol, File := ({ ({ x5 with State := 2 } : TVol) with Files := IntKind.wrap .i64 (x5.Files + 1) } : TVol).Files, Off := x7.Off, Len := x8.Len } : TLoc)) bt77 rfl) ?_
 obtain ⟨y4, hy4, hm⟩ := Zc hm
 refine z_e 25 rfl (by kernel_rfl) (AOp_eqh ((hp_permI hk23 [1, 2, 3, 4, 5, 0] rfl rfl).1.trans (hp_app h [(some p0K, .obj 27 ([.sc (.int .i64 q6), aw ag6.t ag6.n ag6.cap, aw ag7.t ag7.n ag7.cap, aw ag8.t ag8.n ag8.cap, aw g_Vols.t g_Vols.n g_Vols.cap])), (ag6.t, .obj 60 (fl c_Snap (q7 : List TSnap) ag6.sp)), (ag7.t, .obj 63 (fl c_Chunk (q8 : List TChunk) ag7.sp)), (ag8.t, .obj 65 (fl c_Exp (q9 : List TExp) ag8.sp)), (g_Vols.t, .obj 40 (fl c_Vol ((p0.Vols.set p1.Vol.toNat ({ x5 with State := 2 })).set p1.Vol.toNat ({ ({ x5 with State := 2 } : TVol) with Files := IntKind.wrap .i64 (x5.Files + 1) }) : List TVol) g_Vols.sp))] [(some k2, .obj 107 (c_Change p1))]).symm) (a_call (W138 (hp h [(some k2, .obj 107 (c_Change p1))]) ok5 ok6 ok7 (AOk.set (AOk.set ok_Vols)) (HOk_spl [(some p0K, .obj 27 ([.sc (.int .i64 q6), aw ag6.t ag6.n ag6.cap, aw ag7.t ag7.n ag7.cap, aw ag8.t ag8.n ag8.cap, aw g_Vols.t g_Vols.n g_Vols.cap])), (ag6.t, .obj 60 (fl c_Snap (q7 : List TSnap) ag6.sp)), (ag7.t, .obj 63 (fl c_Chunk (q8 : List TChunk) ag7.sp)), (ag8.t, .obj 65 (fl c_Exp (q9 : List TExp) ag8.sp)), (g_Vols.t, .obj 40 (fl c_Vol ((p0.Vols.set p1.Vol.toNat ({ x5 with State := 2 })).set p1.Vol.toNat ({ ({ x5 with State := 2 } : TVol) with Files := IntKind.wrap .i64 (x5.Files + 1) }) : List TVol) g_Vols.sp))] [(some k2, .obj 107 (c_Change p1))] (hp_permI hk23 [1, 2, 3, 4, 5, 0] rfl rfl).2).2 hy4) rfl bd138 rfl ?_))
 rintro x h' ⟨ag9, ok8, ag10, ok9, ag11, ok10, hk24, rfl, rfl⟩
 have hk25 := hp_permI (L' := [(some k2, .obj 107 (c_Change p1)), (some p0K, .obj 27 ([.sc (.int .i64 y4.2.1), aw ag9.t ag9.n ag9.cap, aw ag10.t ag10.n ag10.cap, aw ag11.t ag11.n ag11.cap, aw g_Vols.t g_Vols.n g_Vols.cap])), (ag9.t, .obj 60 (fl c_Snap (y4.2.2.1 : List TSnap) ag9.sp)), (ag10.t, .obj 63 (fl c_Chunk (y4.2.2.2.1 : List TChunk) ag10.sp)), (ag11.t, .obj 65 (fl c_Exp (y4.2.2.2.2 : List TExp) ag11.sp)), (g_Vols.t, .obj 40 (fl c_Vol ((p0.Vols.set p1.Vol.toNat ({ x5 with State := 2 })).set p1.Vol.toNat ({ ({ x5 with State := 2 } : TVol) with Files := IntKind.wrap .i64 (x5.Files + 1) }) : List TVol) g_Vols.sp))]) (HOk_app (HOk_spl [(some p0K, .obj 27 ([.sc (.int .i64 q6), aw ag6.t ag6.n ag6.cap, aw ag7.t ag7.n ag7.cap, aw ag8.t ag8.n ag8.cap, aw g_Vols.t g_Vols.n g_Vols.cap])), (ag6.t, .obj 60 (fl c_Snap (q7 : List TSnap) ag6.sp)), (ag7.t, .obj 63 (fl c_Chunk (q8 : List TChunk) ag7.sp)), (ag8.t, .obj 65 (fl c_Exp (q9 : List TExp) ag8.sp)), (g_Vols.t, .obj 40 (fl c_Vol ((p0.Vols.set p1.Vol.toNat ({ x5 with State := 2 })).set p1.Vol.toNat ({ ({ x5 with State := 2 } : TVol) with Files := IntKind.wrap .i64 (x5.Files + 1) }) : List TVol) g_Vols.sp))] [(some k2, .obj 107 (c_Change p1))] (hp_permI hk23 [1, 2, 3, 4, 5, 0] rfl rfl).2).1 hk24) [5, 0, 1, 2, 3, 4] rfl rfl
 refine zeqh ((hp_app h [(some p0K, .obj 27 ([.sc (.int .i64 y4.2.1), aw ag9.t ag9.n ag9.cap, aw ag10.t ag10.n ag10.cap, aw ag11.t ag11.n ag11.cap, aw g_Vols.t g_Vols.n g_Vols.cap])), (ag9.t, .obj 60 (fl c_Snap (y4.2.2.1 : List TSnap) ag9.sp)), (ag10.t, .obj 63 (fl c_Chunk (y4.2.2.2.1 : List TChunk) ag10.sp)), (ag11.t, .obj 65 (fl c_Exp (y4.2.2.2.2 : List TExp) ag11.sp)), (g_Vols.t, .obj 40 (fl c_Vol ((p0.Vols.set p1.Vol.toNat ({ x5 with State := 2 })).set p1.Vol.toNat ({ ({ x5 with State := 2 } : TVol) with Files := IntKind.wrap .i64 (x5.Files + 1) }) : List TVol) g_Vols.sp))] [(some k2, .obj 107 (c_Change p1))]).trans hk25.1) ?_
 refine ⟨⟨fun _ => hp_at 0 hk25.2 rfl, fun _ => hp_at 5 hk25.2 rfl, trivial⟩, ?_⟩
 refine z_w 26 rfl (fun S' h' hi hB => o_not rfl) ?_
 refine z_nil (by kernel_rfl) ?_
 refine H43 _ _ ?_
 refine AW_if' rfl (fun hc11 => ?_) (fun hc11 => ?_)
 have hm := Zi hm hc11
 refine Zf fun K43 H44 => (Za (vC rfl (Zb (H44 _ _ (AW_ret ?_)))))
 cases hm
 refine ⟨⟨nofun, nofun⟩, fun he => ?_⟩
 subst he
 refine ⟨nofun, fun he => ?_⟩
 subst he
 refine ⟨nofun, fun he => ?_⟩
 subst he
 refine ⟨nofun, fun he => ?_⟩
 subst he
 exact LqE.mk (LeF.eqh rfl) (Ret.of1 (.inl rfl) (rsT _ _ (.sc (.int _ _)) rfl) (hp_pick hk25.2 [1, 2, 3, 4, 5] rfl).2 (ALe.refl _ _) ⟨ag9, ok8, ag10, ok9, ag11, ok10, g_Vols, (AOk.set (AOk.set ok_Vols)), (hp_pick hk25.2 [1, 2, 3, 4, 5] rfl).1, rfl, rfl⟩)
 have hm := Zj hm hc11
 refine Zl (H42 _ _ (Za (vA rfl (vF rfl rfl rfl (vC rfl (Zb ?_))))))
 cases hm
 exact ⟨rfl, (ag9, ag10, ag11), ⟨hk25.2, ok8, ok9, ok10⟩, LeF.s (.k4 .nil)⟩
 have hm := Zj hm hc10
 refine AW_exit ?_
 refine Seq_exit ?_
 cases hm
 exact ⟨rfl, (ag6, ag7, ag8), ⟨hk23, ok5, ok6, ok7⟩, LeF.s (.k4 .nil)⟩
 rintro ⟨ag12, ag13, ag14⟩ ⟨r6, r7, r8, r9, r10⟩ fr' h' ⟨hk26, ot1, ot2, ot3⟩ hm le
 refine H38 _ _ (le.aw ?_)
 refine Zf fun K44 H45 => (Zf fun K45 H46 => (Za (vC rfl (Zb (H46 _ _ ?_)))))
 refine AW_loopL (n := 443) (h := h) hm (σ := (List TSnap) × (List TChunk) × Int) (τ := AGh × AGh) (fun g s => [(some k2, .obj 107 (c_Change p1)), (some p0K, .obj 27 ([.sc (.int .i64 r6), aw g.1.t g.1.n g.1.cap, aw g.2.t g.2.n g.2.cap, aw ag14.t ag14.n ag14.cap, aw g_Vols.t g_Vols.n g_Vols.cap])), (g.1.t, .obj 60 (fl c_Snap (s.1 : List TSnap) g.1.sp)), (g.2.t, .obj 63 (fl c_Chunk (s.2.1 : List TChunk) g.2.sp)), (ag14.t, .obj 65 (fl c_Exp (r9 : List TExp) ag14.sp)), (g_Vols.t, .obj 40 (fl c_Vol ((p0.Vols.set p1.Vol.toNat ({ x5 with State := 2 })).set p1.Vol.toNat ({ ({ x5 with State := 2 } : TVol) with Files := IntKind.wrap .i64 (x5.Files + 1) }) : List TVol) g_Vols.sp))]) (fun g s => AOk g.1 4 (s.1 : List TSnap).length ∧ AOk g.2 35 (s.2.1 : List TChunk).length) (fun g s => kp (kp (kp (kp (k0) 12 (.sc (.int .i64 s.2.2))) 10 (apt g_Vols.t (p1.Vol.toNat * 4 + 0))) 3 (.ptr k2 0)) 0 (.ptr p0K 0)) (ag12, ag13) (⟨hk26, ot1, ot2⟩) (LeF.s (.k4 .nil)) ?_ ?_
 rintro ⟨ag15, ag16⟩ ⟨q11, q12, q13⟩ x ⟨hk27, ok11, ok12⟩ hm
 replace hm : M109_L9 fuel p0 p1 x5 r6 r9 q11 q12 q13 = some x := hm
 unfold M109_L9 at hm
 refine Zf fun K46 H47 => (Zf fun K47 H48 => (Za (vA rfl (s_v (Zh fd107_5 rfl rfl) (s_v (Zg (.sl none 37 (List.map c_Item p1.Items)) ld70 rfl (Zd 0 hk27 rfl) rfl) (s_v (o_lenm ln70 rfl) (vF rfl rfl rfl (Zb (H48 _ _ ?_)))))))))
 refine AW_if' rfl (fun hc12 => ?_) (fun hc12 => ?_)
 have hm := Zi hm hc12
 refine Zl (H47 _ _ (Zf fun K48 H49 => (AW_block (Zf fun K49 H50 => (Za (s_v (Zh fd107_5 rfl rfl) (s_v (Zg (.sl none 37 (List.map c_Item p1.Items)) ld70 rfl (Zd 0 hk27 rfl) rfl) (vA rfl ?_))))))))
 obtain ⟨x9, hx9, hm⟩ := Zc hm
 refine s_v (o_ix hx9 el70 rfl rfl) (s_v (o_fl fd99_0 rfl rfl) (s_v (o_ld (.sc (.int .i64 x9.Kind)) ld3 rfl rfl) (vF rfl rfl rfl (Zb (H50 _ _ ?_)))))
 refine AW_joinL (n := 443) (h := h) hm (σ := (List TSnap) × (List TChunk)) (τ := AGh × AGh) (fun g s => [(some k2, .obj 107 (c_Change p1)), (some p0K, .obj 27 ([.sc (.int .i64 r6), aw g.1.t g.1.n g.1.cap, aw g.2.t g.2.n g.2.cap, aw ag14.t ag14.n ag14.cap, aw g_Vols.t g_Vols.n g_Vols.cap])), (g.1.t, .obj 60 (fl c_Snap (s.1 : List TSnap) g.1.sp)), (g.2.t, .obj 63 (fl c_Chunk (s.2 : List TChunk) g.2.sp)), (ag14.t, .obj 65 (fl c_Exp (r9 : List TExp) ag14.sp)), (g_Vols.t, .obj 40 (fl c_Vol ((p0.Vols.set p1.Vol.toNat ({ x5 with State := 2 })).set p1.Vol.toNat ({ ({ x5 with State := 2 } : TVol) with Files := IntKind.wrap .i64 (x5.Files + 1) }) : List TVol) g_Vols.sp))]) (fun g s => AOk g.1 4 (s.1 : List TSnap).length ∧ AOk g.2 35 (s.2 : List TChunk).length) (fun g s => kp (kp (kp (kp (k0) 12 (.sc (.int .i64 q13))) 10 (apt g_Vols.t (p1.Vol.toNat * 4 + 0))) 3 (.ptr k2 0)) 0 (.ptr p0K 0)) (fun x hm => ?_) ?_
 refine AW_if' rfl (fun hc13 => ?_) (fun hc13 => ?_)
 have hm := Zi hm hc13
 refine Za (s_v (o_mv (.ptr _ _) rfl) (s_v (Zh fd107_5 rfl rfl) (s_v (Zg (.sl none 37 (List.map c_Item p1.Items)) ld70 rfl (Zd 0 hk27 rfl) rfl) (vA rfl ?_))))
 obtain ⟨x10, hx10, hm⟩ := Zc hm
 refine s_v (o_ix hx10 el70 rfl rfl) (s_v (o_fl fd99_3 rfl rfl) (s_v (o_ld (.sc (.int .i64 x10.Of)) ld3 rfl rfl) ?_))
 obtain ⟨y5, hy5, hm⟩ := Zc hm
 refine s_op (AOp_eqh ((hp_permI hk27 [1, 2, 3, 4, 5, 0] rfl rfl).1.trans (hp_app h [(some p0K, .obj 27 ([.sc (.int .i64 r6), aw ag15.t ag15.n ag15.cap, aw ag16.t ag16.n ag16.cap, aw ag14.t ag14.n ag14.cap, aw g_Vols.t g_Vols.n g_Vols.cap])), (ag15.t, .obj 60 (fl c_Snap (q11 : List TSnap) ag15.sp)), (ag16.t, .obj 63 (fl c_Chunk (q12 : List TChunk) ag16.sp)), (ag14.t, .obj 65 (fl c_Exp (r9 : List TExp) ag14.sp)), (g_Vols.t, .obj 40 (fl c_Vol ((p0.Vols.set p1.Vol.toNat ({ x5 with State := 2 })).set p1.Vol.toNat ({ ({ x5 with State := 2 } : TVol) with Files := IntKind.wrap .i64 (x5.Files + 1) }) : List TVol) g_Vols.sp))] [(some k2, .obj 107 (c_Change p1))]).symm) (a_call (W136 (hp h [(some k2, .obj 107 (c_Change p1))]) ok11 ok12 ot3 (AOk.set (AOk.set ok_Vols)) (HOk_spl [(some p0K, .obj 27 ([.sc (.int .i64 r6), aw ag15.t ag15.n ag15.cap, aw ag16.t ag16.n ag16.cap, aw ag14.t ag14.n ag14.cap, aw g_Vols.t g_Vols.n g_Vols.cap])), (ag15.t, .obj 60 (fl c_Snap (q11 : List TSnap) ag15.sp)), (ag16.t, .obj 63 (fl c_Chunk (q12 : List TChunk) ag16.sp)), (ag14.t, .obj 65 (fl c_Exp (r9 : List TExp) ag14.sp)), (g_Vols.t, .obj 40 (fl c_Vol ((p0.Vols.set p1.Vol.toNat ({ x5 with State := 2 })).set p1.Vol.toNat ({ ({ x5 with State := 2 } : TVol) with Files := IntKind.wrap .i64 (x5.Files + 1) }) : List TVol) g_Vols.sp))] [(some k2, .obj 107 (c_Change p1))] (hp_permI hk27 [1, 2, 3, 4, 5, 0] rfl rfl).2).2 hy5) rfl bd136 rfl ?_))
 rintro x h' ⟨ag17, ok13, ag18, ok14, hk28, rfl, rfl⟩
 have hk29 := hp_permI (L' := [(some k2, .obj 107 (c_Change p1)), (some p0K, .obj 27 ([.sc (.int .i64 r6), aw ag17.t ag17.n ag17.cap, aw ag18.t ag18.n ag18.cap, aw ag14.t ag14.n ag14.cap, aw g_Vols.t g_Vols.n g_Vols.cap])), (ag17.t, .obj 60 (fl c_Snap (y5.2.1 : List TSnap) ag17.sp)), (ag18.t, .obj 63 (fl c_Chunk (y5.2.2 : List TChunk) ag18.sp)), (ag14.t, .obj 65 (fl c_Exp (r9 : List TExp) ag14.sp)), (g_Vols.t, .obj 40 (fl c_Vol ((p0.Vols.set p1.Vol.toNat ({ x5 with State := 2 })).set p1.Vol.toNat ({ ({ x5 with State := 2 } : TVol) with Files := IntKind.wrap .i64 (x5.Files + 1) }) : List TVol) g_Vols.sp))]) (HOk_app (HOk_spl [(some p0K, .obj 27 ([.sc (.int .i64 r6), aw ag15.t ag15.n ag15.cap, aw ag16.t ag16.n ag16.cap, aw ag14.t ag14.n ag14.cap, aw g_Vols.t g_Vols.n g_Vols.cap])), (ag15.t, .obj 60 (fl c_Snap (q11 : List TSnap) ag15.sp)), (ag16.t, .obj 63 (fl c_Chunk (q12 : List TChunk) ag16.sp)), (ag14.t, .obj 65 (fl c_Exp (r9 : List TExp) ag14.sp)), (g_Vols.t, .obj 40 (fl c_Vol ((p0.Vols.set p1.Vol.toNat ({ x5 with State := 2 })).set p1.Vol.toNat ({ ({ x5 with State := 2 } : TVol) with Files := IntKind.wrap .i64 (x5.Files + 1) }) : List TVol) g_Vols.sp))] [(some k2, .obj 107 (c_Change p1))] (hp_permI hk27 [1, 2, 3, 4, 5, 0] rfl rfl).2).1 hk28) [5, 0, 1, 2, 3, 4] rfl rfl
 refine AOps_eqh ((hp_app h [(some p0K, .obj 27 ([.sc (.int .i64 r6), aw ag17.t ag17.n ag17.cap, aw ag18.t ag18.n ag18.cap, aw ag14.t ag14.n ag14.cap, aw g_Vols.t g_Vols.n g_Vols.cap])), (ag17.t, .obj 60 (fl c_Snap (y5.2.1 : List TSnap) ag17.sp)), (ag18.t, .obj 63 (fl c_Chunk (y5.2.2 : List TChunk) ag18.sp)), (ag14.t, .obj 65 (fl c_Exp (r9 : List TExp) ag14.sp)), (g_Vols.t, .obj 40 (fl c_Vol ((p0.Vols.set p1.Vol.toNat ({ x5 with State := 2 })).set p1.Vol.toNat ({ ({ x5 with State := 2 } : TVol) with Files := IntKind.wrap .i64 (x5.Files + 1) }) : List TVol) g_Vols.sp))] [(some k2, .obj 107 (c_Change p1))]).trans hk29.1) ?_
 refine Zb ?_
 cases hm
 exact ⟨rfl, (ag17, ag18), ⟨hk29.2, ok13, ok14⟩, LeF.s (.k4 .nil)⟩
 have hm := Zj hm hc13
 refine Zl ?_
 cases hm
 exact ⟨rfl, (ag15, ag16), ⟨hk27, ok11, ok12⟩, LeF.s (.k4 .nil)⟩
 rintro ⟨ag19, ag20⟩ ⟨j4, j5⟩ fr' h' ⟨hk30, ok15, ok16⟩ hm le
 refine H49 _ _ (le.aw ?_)
 refine Za (vA rfl (vF rfl rfl rfl (vC rfl (Zb ?_))))
 cases hm
 exact ⟨rfl, (ag19, ag20), ⟨hk30, ok15, ok16⟩, LeF.s (.k4 .nil)⟩
 have hm := Zj hm hc12
 refine AW_exit ?_
 refine Seq_exit ?_
 cases hm
 exact ⟨rfl, (ag15, ag16), ⟨hk27, ok11, ok12⟩, LeF.s (.k4 .nil)⟩
 rintro ⟨ag21, ag22⟩ ⟨r11, r12, r13⟩ fr' h' ⟨hk31, ot4, ot5⟩ hm le
 refine H45 _ _ (le.aw ?_)
 refine Zf fun K50 H51 => (Za (s_v (o_mv (apt _ _) rfl) (s_v (o_nilA (AOk.ne (AOk.set (AOk.set ok_Vols)) (ix_set (x' := ({ ({ x5 with State := 2 } : TVol) with Files := IntKind.wrap .i64 (x5.Files + 1) } : TVol)) (ix_set (x' := ({ x5 with State := 2 } : TVol)) hx5))) rfl) (s_v (o_flA (AOk.ne (AOk.set (AOk.set ok_Vols)) (ix_set (x' := ({ ({ x5 with State := 2 } : TVol) with Files := IntKind.wrap .i64 (x5.Files + 1) } : TVol)) (ix_set (x' := ({ x5 with State := 2 } : TVol)) hx5))) fd40_0 rfl rfl) (s_v (o_ldA (fo := 0) (.sc (.int .i64 (({ ({ x5 with State := 2 } : TVol) with Files := IntKind.wrap .i64 (x5.Files + 1) } : TVol).Pool))) (ix_set (x' := ({ ({ x5 with State := 2 } : TVol) with Files := IntKind.wrap .i64 (x5.Files + 1) } : TVol)) (ix_set (x' := ({ x5 with State := 2 } : TVol)) hx5)) cz_Vol (AOk.set (AOk.set ok_Vols)) ld3 rfl (hp_at 5 hk31 rfl) (fun _ => rfl)) (vF rfl rfl rfl (Zb (H51 _ _ ?_))))))))
 refine AW_joinL (n := 443) (h := h) hm (σ := (List TChunk)) (τ := AGh) (fun g s => [(some k2, .obj 107 (c_Change p1)), (some p0K, .obj 27 ([.sc (.int .i64 r6), aw ag21.t ag21.n ag21.cap, aw g.t g.n g.cap, aw ag14.t ag14.n ag14.cap, aw g_Vols.t g_Vols.n g_Vols.cap])), (ag21.t, .obj 60 (fl c_Snap (r11 : List TSnap) ag21.sp)), (g.t, .obj 63 (fl c_Chunk (s : List TChunk) g.sp)), (ag14.t, .obj 65 (fl c_Exp (r9 : List TExp) ag14.sp)), (g_Vols.t, .obj 40 (fl c_Vol ((p0.Vols.set p1.Vol.toNat ({ x5 with State := 2 })).set p1.Vol.toNat ({ ({ x5 with State := 2 } : TVol) with Files := IntKind.wrap .i64 (x5.Files + 1) }) : List TVol) g_Vols.sp))]) (fun g s => AOk g 35 (s : List TChunk).length) (fun g s => k0) (fun x hm => ?_) ?_
 refine AW_if' rfl (fun hc14 => ?_) (fun hc14 => ?_)
 have hm := Zi hm hc14
 refine Zf fun K51 H52 => (Za (vC rfl (Zb (H52 _ _ ?_))))
 refine AW_loopL (n := 443) (h := h) hm (σ := (List TChunk) × Int) (τ := AGh) (fun g s => [(some k2, .obj 107 (c_Change p1)), (some p0K, .obj 27 ([.sc (.int .i64 r6), aw ag21.t ag21.n ag21.cap, aw g.t g.n g.cap, aw ag14.t ag14.n ag14.cap, aw g_Vols.t g_Vols.n g_Vols.cap])), (ag21.t, .obj 60 (fl c_Snap (r11 : List TSnap) ag21.sp)), (g.t, .obj 63 (fl c_Chunk (s.1 : List TChunk) g.sp)), (ag14.t, .obj 65 (fl c_Exp (r9 : List TExp) ag14.sp)), (g_Vols.t, .obj 40 (fl c_Vol ((p0.Vols.set p1.Vol.toNat ({ x5 with State := 2 })).set p1.Vol.toNat ({ ({ x5 with State := 2 } : TVol) with Files := IntKind.wrap .i64 (x5.Files + 1) }) : List TVol) g_Vols.sp))]) (fun g s => AOk g 35 (s.1 : List TChunk).length) (fun g s => kp (kp (kp (k0) 13 (.sc (.int .i64 s.2))) 3 (.ptr k2 0)) 0 (.ptr p0K 0)) ag22 (⟨hk31, ot5⟩) (LeF.s (.k3 .nil)) ?_ ?_
 rintro ag23 ⟨q14, q15⟩ x ⟨hk32, ok17⟩ hm
 replace hm : M109_L11 fuel p0 p1 x5 r6 r9 r11 q14 q15 = some x := hm
 unfold M109_L11 at hm
 refine Zf fun K52 H53 => (Zf fun K53 H54 => (Za (vA rfl (s_v (Zh fd107_5 rfl rfl) (s_v (Zg (.sl none 37 (List.map c_Item p1.Items)) ld70 rfl (Zd 0 hk32 rfl) rfl) (s_v (o_lenm ln70 rfl) (vF rfl rfl rfl (Zb (H54 _ _ ?_)))))))))
 refine AW_if' rfl (fun hc15 => ?_) (fun hc15 => ?_)
 have hm := Zi hm hc15
 refine Zl (H53 _ _ (Zf fun K54 H55 => (AW_block (Zf fun K55 H56 => (Za (s_v (Zh fd107_5 rfl rfl) (s_v (Zg (.sl none 37 (List.map c_Item p1.Items)) ld70 rfl (Zd 0 hk32 rfl) rfl) (vA rfl ?_))))))))
 obtain ⟨x11, hx11, hm⟩ := Zc hm
 refine s_v (o_ix hx11 el70 rfl rfl) (s_v (o_fl fd99_0 rfl rfl) (s_v (o_ld (.sc (.int .i64 x11.Kind)) ld3 rfl rfl) (vF rfl rfl rfl (Zb (H56 _ _ ?_)))))
 refine AW_joinL (n := 443) (h := h) hm (σ := (List TChunk)) (τ := AGh) (fun g s => [(some k2, .obj 107 (c_Change p1)), (some p0K, .obj 27 ([.sc (.int .i64 r6), aw ag21.t ag21.n ag21.cap, aw g.t g.n g.cap, aw ag14.t ag14.n ag14.cap, aw g_Vols.t g_Vols.n g_Vols.cap])), (ag21.t, .obj 60 (fl c_Snap (r11 : List TSnap) ag21.sp)), (g.t, .obj 63 (fl c_Chunk (s : List TChunk) g.sp)), (ag14.t, .obj 65 (fl c_Exp (r9 : List TExp) ag14.sp)), (g_Vols.t, .obj 40 (fl c_Vol ((p0.Vols.set p1.Vol.toNat ({ x5 with State := 2 })).set p1.Vol.toNat ({ ({ x5 with State := 2 } : TVol) with Files := IntKind.wrap .i64 (x5.Files + 1) }) : List TVol) g_Vols.sp))]) (fun g s => AOk g 35 (s : List TChunk).length) (fun g s => kp (kp (kp (k0) 13 (.sc (.int .i64 q15))) 3 (.ptr k2 0)) 0 (.ptr p0K 0)) (fun x hm => ?_) ?_
 refine AW_if' rfl (fun hc16 => ?_) (fun hc16 => ?_)
 have hm := Zi hm hc16
 refine Zf fun K56 H57 => ?_
 refine AW_rq mixed (by kernel_rfl) ?_
 refine q_v (o_mv (.ptr _ _) rfl) (q_v (o_nil rfl) (q_v (Zg (.agg ([.sc (.int .i64 r6), aw ag21.t ag21.n ag21.cap, aw ag23.t ag23.n ag23.cap, aw ag14.t ag14.n ag14.cap, aw g_Vols.t g_Vols.n g_Vols.cap])) ld27 rfl (Zd 1 hk32 rfl) rfl) (q_v (Zh fd107_5 rfl rfl) (q_v (Zg (.sl none 37 (List.map c_Item p1.Items)) ld70 rfl (Zd 0 hk32 rfl) rfl) (wA rfl ?_)))))
 obtain ⟨x12, hx12, hm⟩ := Zc hm
 refine q_v (o_ix hx12 el70 rfl rfl) (q_v (o_fl fd99_1 rfl rfl) (q_v (o_ld (.agg (c_id x12.Id)) ld61 rfl rfl) ?_))
 obtain ⟨y6, hy6, hm⟩ := Zc hm
 refine q_v (o_call (ACalls_pure (.cons (Br.agg (.cons (Br.refl _ _) (.cons (Br.aw 2 cz_Snap ot4 hk32 rfl) (.cons (Br.aw 3 cz_Chunk ok17 hk32 rfl) (.cons (Br.aw 4 cz_Exp ot3 hk32 rfl) (.cons (Br.aw 5 cz_Vol (AOk.set (AOk.set ok_Vols)) hk32 rfl) .nil)))))) (.cons (Br.refl _ _) .nil)) rfl (W64 _ hy6)) rfl bd64 rfl) (wC rfl (q_nil (H57 _ _ (Zf fun K57 H58 => (Za (vA rfl (vF rfl rfl rfl (Zb (H58 _ _ ?_)))))))))
 refine AW_joinL (n := 443) (h := h) hm (σ := (List TChunk)) (τ := AGh) (fun g s => [(some k2, .obj 107 (c_Change p1)), (some p0K, .obj 27 ([.sc (.int .i64 r6), aw ag21.t ag21.n ag21.cap, aw g.t g.n g.cap, aw ag14.t ag14.n ag14.cap, aw g_Vols.t g_Vols.n g_Vols.cap])), (ag21.t, .obj 60 (fl c_Snap (r11 : List TSnap) ag21.sp)), (g.t, .obj 63 (fl c_Chunk (s : List TChunk) g.sp)), (ag14.t, .obj 65 (fl c_Exp (r9 : List TExp) ag14.sp)), (g_Vols.t, .obj 40 (fl c_Vol ((p0.Vols.set p1.Vol.toNat ({ x5 with State := 2 })).set p1.Vol.toNat ({ ({ x5 with State := 2 } : TVol) with Files := IntKind.wrap .i64 (x5.Files + 1) }) : List TVol) g_Vols.sp))]) (fun g s => AOk g 35 (s : List TChunk).length) (fun g s => kp (kp (kp (k0) 13 (.sc (.int .i64 q15))) 3 (.ptr k2 0)) 0 (.ptr p0K 0)) (fun x hm => ?_) ?_
 refine AW_if' rfl (fun hc17 => ?_) (fun hc17 => ?_)
 have hm := Zi hm hc17
 refine AW_zreg [(1000000, some p0K, .obj 27 ([.sc (.int .i64 r6), aw ag21.t ag21.n ag21.cap, aw ag23.t ag23.n ag23.cap, aw ag14.t ag14.n ag14.cap, aw g_Vols.t g_Vols.n g_Vols.cap]))] mixed (⟨fun _ => hp_at 1 hk32 rfl, trivial⟩) ?_
 refine z_w 0 rfl (fun S' h' hi hB => o_mv (.ptr _ _) rfl) ?_
 refine z_w 1 rfl (fun S' h' hi hB => o_nil rfl) ?_
 refine z_w 2 rfl (fun S' h' hi hB => Zh fd27_2 rfl rfl) ?_
 refine z_w 3 rfl (fun S' h' hi hB => Zg (aw ag23.t ag23.n ag23.cap) ld23 rfl (At.s (InvL.get 0 hi rfl (hB 1000000 (by kernel_rfl)))) rfl) ?_
 refine z_w 4 rfl (fun S' h' hi hB => o_mv (.sc (.int _ _)) rfl) ?_
 refine z_w 5 rfl (fun S' h' hi hB => o_mv (.ptr _ _) rfl) ?_
 refine z_w 6 rfl (fun S' h' hi hB => o_nil rfl) ?_
 refine z_w 7 rfl (fun S' h' hi hB => Zh fd27_2 rfl rfl) ?_
 refine z_w 8 rfl (fun S' h' hi hB => Zg (aw ag23.t ag23.n ag23.cap) ld23 rfl (At.s (InvL.get 0 hi rfl (hB 1000000 (by kernel_rfl)))) rfl) ?_
 refine z_w 9 rfl (fun S' h' hi hB => o_mv (.sc (.int _ _)) rfl) ?_
 obtain ⟨x13, hx13, hm⟩ := Zc hm
 refine z_w 10 rfl (fun S' h' hi hB => o_ixA hx13 el23 ok17 rfl rfl) ?_
 refine z_w 11 rfl (fun S' h' hi hB => o_flA (AOk.ne ok17 hx13) fd63_1 rfl rfl) ?_
 refine z_e 12 rfl (by kernel_rfl) (a_storeA (fo := 32) ({ x13 with Staged := false } : TChunk) 3 hk32 hx13 cz_Chunk ok17 rfl rfl rfl rfl (ALeL.refl _ _) sz4 rfl rfl fun hk33 => ⟨⟨fun _ => hp_at 1 hk33 rfl, trivial⟩, ?_⟩)
 obtain ⟨x14, hx14, hm⟩ := Zc hm
 refine z_w 13 rfl (fun S' h' hi hB => o_ixA hx14 el23 (AOk.set ok17) rfl rfl) ?_
 refine z_w 14 rfl (fun S' h' hi hB => o_flA (AOk.ne (AOk.set ok17) hx14) fd63_2 rfl rfl) ?_
 refine z_e 15 rfl (by kernel_rfl) (a_storeA (fo := 33) ({ x14 with Data := ([] : List Int) } : TChunk) 3 hk33 hx14 cz_Chunk (AOk.set ok17) rfl rfl rfl rfl (.cons (nil_lem _) .nil) sz52 rfl rfl fun hk34 => ⟨⟨fun _ => hp_at 1 hk34 rfl, trivial⟩, ?_⟩)
 refine z_nil (by kernel_rfl) ?_
 cases hm
 exact ⟨rfl, ag23, ⟨hk34, (AOk.set (AOk.set ok17))⟩, LeF.s (.k3 .nil)⟩
 have hm := Zj hm hc17
 refine Zl ?_
 cases hm
 exact ⟨rfl, ag23, ⟨hk32, ok17⟩, LeF.s (.k3 .nil)⟩
 rintro ag24 j6 fr' h' ⟨hk35, ok18⟩ hm le
 cases hm
 exact ⟨rfl, ag24, ⟨hk35, ok18⟩, LeF.trans le (LeF.s (.k3 .nil))⟩
 have hm := Zj hm hc16
 refine Zl ?_
 cases hm
 exact ⟨rfl, ag23, ⟨hk32, ok17⟩, LeF.s (.k3 .nil)⟩
 rintro ag25 j7 fr' h' ⟨hk36, ok19⟩ hm le
 refine H55 _ _ (le.aw ?_)
 refine Za (vA rfl (vF rfl rfl rfl (vC rfl (Zb ?_))))
 cases hm
 exact ⟨rfl, ag25, ⟨hk36, ok19⟩, LeF.s (.k3 .nil)⟩
 have hm := Zj hm hc15
 refine AW_exit ?_
 refine Seq_exit ?_
 cases hm
 exact ⟨rfl, ag23, ⟨hk32, ok17⟩, LeF.s (.k3 .nil)⟩
 rintro ag26 ⟨r14, r15⟩ fr' h' ⟨hk37, ot6⟩ hm le
 cases hm
 exact ⟨rfl, ag26, ⟨hk37, ot6⟩, LeF.trans le (LeF.s .nil)⟩
 have hm := Zj hm hc14
 refine Zl ?_
 cases hm
 exact ⟨rfl, ag22, ⟨hk31, ot5⟩, LeF.s .nil⟩
 rintro ag27 j8 fr' h' ⟨hk38, ok20⟩ hm le
 cases hm
 exact ⟨rfl, (ag21, ag27, ag14, g_Vols), ⟨hk38, ot4, ok20, ot3, (AOk.set (AOk.set ok_Vols))⟩, LeF.trans le (LeF.s .nil)⟩
 have hm := Zj hm hc7
 refine Zf fun K58 H59 => (Za (vF rfl rfl rfl (vD rfl (Zb (H59 _ _ ?_)))))
 refine AW_joinL (n := 443) (h := h) hm (σ := (List TSnap) × (List TChunk) × (List TExp) × (List TVol)) (τ := AGh × AGh × AGh × AGh) (fun g s => [(some k2, .obj 107 (c_Change p1)), (some p0K, .obj 27 ([.sc (.int .i64 p0.Seq), aw g.1.t g.1.n g.1.cap, aw g.2.1.t g.2.1.n g.2.1.cap, aw g.2.2.1.t g.2.2.1.n g.2.2.1.cap, aw g.2.2.2.t g.2.2.2.n g.2.2.2.cap])), (g.1.t, .obj 60 (fl c_Snap (s.1 : List TSnap) g.1.sp)), (g.2.1.t, .obj 63 (fl c_Chunk (s.2.1 : List TChunk) g.2.1.sp)), (g.2.2.1.t, .obj 65 (fl c_Exp (s.2.2.1 : List TExp) g.2.2.1.sp)), (g.2.2.2.t, .obj 40 (fl c_Vol (s.2.2.2 : List TVol) g.2.2.2.sp))]) (fun g s => AOk g.1 4 (s.1 : List TSnap).length ∧ AOk g.2.1 35 (s.2.1 : List TChunk).length ∧ AOk g.2.2.1 3 (s.2.2.1 : List TExp).length ∧ AOk g.2.2.2 4 (s.2.2.2 : List TVol).length) (fun g s => k0) (fun x hm => ?_) ?_
 refine AW_if' rfl (fun hc18 => ?_) (fun hc18 => ?_)
 have hm := Zi hm hc18
 refine Zf fun K59 H60 => (Zf fun K60 H61 => (Za (s_v (o_mv (.ptr _ _) rfl) (s_v (Zh fd107_4 rfl rfl) (s_v (Zg (.sc (.int .i64 p1.Vol)) ld3 rfl (Zd 0 hk3 rfl) rfl) ?_)))))
 obtain ⟨y7, hy7, hm⟩ := Zc hm
 refine s_op (AOp_eqh ((hp_permI hk3 [1, 2, 3, 4, 5, 0] rfl rfl).1.trans (hp_app h [(some p0K, .obj 27 ([.sc (.int .i64 p0.Seq), aw g_Snaps.t g_Snaps.n g_Snaps.cap, aw g_Chunks.t g_Chunks.n g_Chunks.cap, aw g_Exps.t g_Exps.n g_Exps.cap, aw g_Vols.t g_Vols.n g_Vols.cap])), (g_Snaps.t, .obj 60 (fl c_Snap (p0.Snaps : List TSnap) g_Snaps.sp)), (g_Chunks.t, .obj 63 (fl c_Chunk (p0.Chunks : List TChunk) g_Chunks.sp)), (g_Exps.t, .obj 65 (fl c_Exp (p0.Exps : List TExp) g_Exps.sp)), (g_Vols.t, .obj 40 (fl c_Vol (p0.Vols : List TVol) g_Vols.sp))] [(some k2, .obj 107 (c_Change p1))]).symm) (a_call (W137 (hp h [(some k2, .obj 107 (c_Change p1))]) ok_Snaps ok_Chunks ok_Exps ok_Vols (HOk_spl [(some p0K, .obj 27 ([.sc (.int .i64 p0.Seq), aw g_Snaps.t g_Snaps.n g_Snaps.cap, aw g_Chunks.t g_Chunks.n g_Chunks.cap, aw g_Exps.t g_Exps.n g_Exps.cap, aw g_Vols.t g_Vols.n g_Vols.cap])), (g_Snaps.t, .obj 60 (fl c_Snap (p0.Snaps : List TSnap) g_Snaps.sp)), (g_Chunks.t, .obj 63 (fl c_Chunk (p0.Chunks : List TChunk) g_Chunks.sp)), (g_Exps.t, .obj 65 (fl c_Exp (p0.Exps : List TExp) g_Exps.sp)), (g_Vols.t, .obj 40 (fl c_Vol (p0.Vols : List TVol) g_Vols.sp))] [(some k2, .obj 107 (c_Change p1))] (hp_permI hk3 [1, 2, 3, 4, 5, 0] rfl rfl).2).2 hy7) rfl bd137 rfl ?_))
 rintro x h' ⟨hk39, rfl, rfl⟩
 have hk40 := hp_permI (L' := [(some k2, .obj 107 (c_Change p1)), (some p0K, .obj 27 ([.sc (.int .i64 p0.Seq), aw g_Snaps.t g_Snaps.n g_Snaps.cap, aw g_Chunks.t g_Chunks.n g_Chunks.cap, aw g_Exps.t g_Exps.n g_Exps.cap, aw g_Vols.t g_Vols.n g_Vols.cap])), (g_Snaps.t, .obj 60 (fl c_Snap (p0.Snaps : List TSnap) g_Snaps.sp)), (g_Chunks.t, .obj 63 (fl c_Chunk (p0.Chunks : List TChunk) g_Chunks.sp)), (g_Exps.t, .obj 65 (fl c_Exp (p0.Exps : List TExp) g_Exps.sp)), (g_Vols.t, .obj 40 (fl c_Vol (p0.Vols : List TVol) g_Vols.sp))]) (HOk_app (HOk_spl [(some p0K, .obj 27 ([.sc (.int .i64 p0.Seq), aw g_Snaps.t g_Snaps.n g_Snaps.cap, aw g_Chunks.t g_Chunks.n g_Chunks.cap, aw g_Exps.t g_Exps.n g_Exps.cap, aw g_Vols.t g_Vols.n g_Vols.cap])), (g_Snaps.t, .obj 60 (fl c_Snap (p0.Snaps : List TSnap) g_Snaps.sp)), (g_Chunks.t, .obj 63 (fl c_Chunk (p0.Chunks : List TChunk) g_Chunks.sp)), (g_Exps.t, .obj 65 (fl c_Exp (p0.Exps : List TExp) g_Exps.sp)), (g_Vols.t, .obj 40 (fl c_Vol (p0.Vols : List TVol) g_Vols.sp))] [(some k2, .obj 107 (c_Change p1))] (hp_permI hk3 [1, 2, 3, 4, 5, 0] rfl rfl).2).1 hk39) [5, 0, 1, 2, 3, 4] rfl rfl
 refine AOps_eqh ((hp_app h [(some p0K, .obj 27 ([.sc (.int .i64 p0.Seq), aw g_Snaps.t g_Snaps.n g_Snaps.cap, aw g_Chunks.t g_Chunks.n g_Chunks.cap, aw g_Exps.t g_Exps.n g_Exps.cap, aw g_Vols.t g_Vols.n g_Vols.cap])), (g_Snaps.t, .obj 60 (fl c_Snap (p0.Snaps : List TSnap) g_Snaps.sp)), (g_Chunks.t, .obj 63 (fl c_Chunk (p0.Chunks : List TChunk) g_Chunks.sp)), (g_Exps.t, .obj 65 (fl c_Exp (p0.Exps : List TExp) g_Exps.sp)), (g_Vols.t, .obj 40 (fl c_Vol (p0.Vols : List TVol) g_Vols.sp))] [(some k2, .obj 107 (c_Change p1))]).trans hk40.1) ?_
 refine s_v (o_not rfl) (Zb (H61 _ _ ?_))
 refine AW_if' rfl (fun hc19 => ?_) (fun hc19 => ?_)
 have hm := Zi hm hc19
 refine Zf fun K61 H62 => (Za (vC rfl (Zb (H62 _ _ (AW_ret ?_)))))
 cases hm
 refine ⟨nofun, fun he => ?_⟩
 subst he
 refine ⟨nofun, fun he => ?_⟩
 subst he
 refine ⟨nofun, fun he => ?_⟩
 subst he
 refine ⟨nofun, fun he => ?_⟩
 subst he
 exact LqE.mk (LeF.eqh rfl) (Ret.of1 (.inl rfl) (rsT _ _ (.sc (.int _ _)) rfl) (hp_pick hk40.2 [1, 2, 3, 4, 5] rfl).2 (ALe.refl _ _) ⟨g_Snaps, ok_Snaps, g_Chunks, ok_Chunks, g_Exps, ok_Exps, g_Vols, ok_Vols, (hp_pick hk40.2 [1, 2, 3, 4, 5] rfl).1, rfl, rfl⟩)
 have hm := Zj hm hc19
 refine Zl (H60 _ _ (Zf fun K62 H63 => ?_))
 refine AW_zreg [(1000000, some p0K, .obj 27 ([.sc (.int .i64 p0.Seq), aw g_Snaps.t g_Snaps.n g_Snaps.cap, aw g_Chunks.t g_Chunks.n g_Chunks.cap, aw g_Exps.t g_Exps.n g_Exps.cap, aw g_Vols.t g_Vols.n g_Vols.cap])), (1000000, some k2, .obj 107 (c_Change p1))] mixed (⟨fun _ => hp_at 1 hk40.2 rfl, fun _ => hp_at 0 hk40.2 rfl, trivial⟩) ?_
 refine z_w 0 rfl (fun S' h' hi hB => o_mv (.ptr _ _) rfl) ?_
 refine z_w 1 rfl (fun S' h' hi hB => o_nil rfl) ?_
 refine z_w 2 rfl (fun S' h' hi hB => Zh fd27_4 rfl rfl) ?_
 refine z_w 3 rfl (fun S' h' hi hB => Zg (aw g_Vols.t g_Vols.n g_Vols.cap) ld25 rfl (At.s (InvL.get 0 hi rfl (hB 1000000 (by kernel_rfl)))) rfl) ?_
 refine z_w 4 rfl (fun S' h' hi hB => Zh fd107_4 rfl rfl) ?_
 refine z_w 5 rfl (fun S' h' hi hB => Zg (.sc (.int .i64 p1.Vol)) ld3 rfl (At.s (InvL.get 1 hi rfl (hB 1000000 (by kernel_rfl)))) rfl) ?_
 refine z_w 6 rfl (fun S' h' hi hB => o_mv (.ptr _ _) rfl) ?_
 refine z_w 7 rfl (fun S' h' hi hB => o_nil rfl) ?_
 refine z_w 8 rfl (fun S' h' hi hB => Zh fd27_4 rfl rfl) ?_
 refine z_w 9 rfl (fun S' h' hi hB => Zg (aw g_Vols.t g_Vols.n g_Vols.cap) ld25 rfl (At.s (InvL.get 0 hi rfl (hB 1000000 (by kernel_rfl)))) rfl) ?_
 refine z_w 10 rfl (fun S' h' hi hB => Zh fd107_4 rfl rfl) ?_
 refine z_w 11 rfl (fun S' h' hi hB => Zg (.sc (.int .i64 p1.Vol)) ld3 rfl (At.s (InvL.get 1 hi rfl (hB 1000000 (by kernel_rfl)))) rfl) ?_
 obtain ⟨x15, hx15, hm⟩ := Zc hm
 refine z_w 12 rfl (fun S' h' hi hB => o_ixA hx15 el25 ok_Vols rfl rfl) ?_
 refine z_w 13 rfl (fun S' h' hi hB => o_flA (AOk.ne ok_Vols hx15) fd40_2 rfl rfl) ?_
 refine z_e 14 rfl (by kernel_rfl) (a_storeA (fo := 2) ({ x15 with State := 3 } : TVol) 5 hk40.2 hx15 cz_Vol ok_Vols rfl rfl rfl rfl (ALeL.refl _ _) sz3 rfl rfl fun hk41 => ⟨⟨fun _ => hp_at 1 hk41 rfl, fun _ => hp_at 0 hk41 rfl, trivial⟩, ?_⟩)
 obtain ⟨x16, hx16, hm⟩ := Zc hm
 refine z_w 15 rfl (fun S' h' hi hB => o_ixA hx16 el25 (AOk.set ok_Vols) rfl rfl) ?_
 refine z_w 16 rfl (fun S' h' hi hB => o_flA (AOk.ne (AOk.set ok_Vols) hx16) fd40_3 rfl rfl) ?_
 refine z_e 17 rfl (by kernel_rfl) (a_storeA (fo := 3) ({ x16 with Files := 0 } : TVol) 5 hk41 hx16 cz_Vol (AOk.set ok_Vols) rfl rfl rfl rfl (ALeL.refl _ _) sz3 rfl rfl fun hk42 => ⟨⟨fun _ => hp_at 1 hk42 rfl, fun _ => hp_at 0 hk42 rfl, trivial⟩, ?_⟩)
 refine z_nil (by kernel_rfl) ?_
 refine H63 _ _ (Zf fun K63 H64 => (Za (s_v (o_as (.sc (.slice _ _ _)) rfl) (Zb (H64 _ _ (Zf fun K64 H65 => (Zf fun K65 H66 => (Za (vC rfl (Zb (H66 _ _ ?_)))))))))))
 refine (LeF.put (t := 15) (v := aw g0.t g0.n g0.cap) (Sub.refl _) (ALe_nilA _)).aw ?_
 refine AW_loopL (n := 443) (h := h) hm (σ := (List TChunk) × Int) (τ := AGh) (fun g s => [(g.t, .obj 63 (fl c_Chunk (s.1 : List TChunk) g.sp)), (some k2, .obj 107 (c_Change p1)), (some p0K, .obj 27 ([.sc (.int .i64 p0.Seq), aw g_Snaps.t g_Snaps.n g_Snaps.cap, aw g_Chunks.t g_Chunks.n g_Chunks.cap, aw g_Exps.t g_Exps.n g_Exps.cap, aw g_Vols.t g_Vols.n g_Vols.cap])), (g_Snaps.t, .obj 60 (fl c_Snap (p0.Snaps : List TSnap) g_Snaps.sp)), (g_Chunks.t, .obj 63 (fl c_Chunk (p0.Chunks : List TChunk) g_Chunks.sp)), (g_Exps.t, .obj 65 (fl c_Exp (p0.Exps : List TExp) g_Exps.sp)), (g_Vols.t, .obj 40 (fl c_Vol ((p0.Vols.set p1.Vol.toNat ({ x15 with State := 3 })).set p1.Vol.toNat ({ x16 with Files := 0 }) : List TVol) g_Vols.sp))]) (fun g s => AOk g 35 (s.1 : List TChunk).length) (fun g s => kp (kp (kp (kp (k0) 16 (.sc (.int .i64 s.2))) 15 (aw g.t g.n g.cap)) 3 (.ptr k2 0)) 0 (.ptr p0K 0)) g0 (⟨HOk.none hk42, (AOk.g0 35)⟩) (LeF.s (.k4 .nil)) ?_ ?_
 rintro ag28 ⟨q16, q17⟩ x ⟨hk43, ok21⟩ hm
 replace hm : M109_L13 fuel p0 p1 q16 q17 = some x := hm
 unfold M109_L13 at hm
 refine Zf fun K66 H67 => (Zf fun K67 H68 => (Za (vA rfl (s_v (o_mv (.ptr _ _) rfl) (s_v (o_nil rfl) (s_v (Zh fd27_2 rfl rfl) (s_v (Zg (aw g_Chunks.t g_Chunks.n g_Chunks.cap) ld23 rfl (Zd 2 hk43 rfl) rfl) (s_v (o_lenA ln23 ok_Chunks rfl) (vF rfl rfl rfl (Zb (H68 _ _ ?_)))))))))))
 refine AW_if' rfl (fun hc20 => ?_) (fun hc20 => ?_)
 have hm := Zi hm hc20
 refine Zl (H67 _ _ (Zf fun K68 H69 => (AW_block (Zf fun K69 H70 => (Za (s_v (o_mv (.ptr _ _) rfl) (s_v (o_nil rfl) (s_v (Zh fd27_2 rfl rfl) (s_v (Zg (aw g_Chunks.t g_Chunks.n g_Chunks.cap) ld23 rfl (Zd 2 hk43 rfl) rfl) (vA rfl ?_))))))))))
 obtain ⟨x17, hx17, hm⟩ := Zc hm
 refine s_v (o_ixA hx17 el23 ok_Chunks rfl rfl) (s_v (o_ldA (fo := 0) (.agg (c_Chunk x17)) hx17 cz_Chunk ok_Chunks ld63 rfl (hp_at 4 hk43 rfl) (fun _ => rfl)) ?_)
 refine s_op (a_alloc (c_id idZ ++ ([.sc (.bool false), .sc (.slice none 0 0), .sc (.slice none 0 0)] : List AV)) hk43 zr63 rfl rfl fun k16034 hk44 => ?_)
 refine s_op (a_store 0 (c_Chunk x17) hk44 rfl rfl rfl rfl sz63 rfl rfl fun hk45 => ?_)
 refine Zb (H70 _ _ (Zf fun K70 H71 => (Za (s_v (Zh fd63_3 rfl rfl) (s_v (Zg (.sl none 4 (List.map c_Loc x17.Locs)) ld58 rfl (Zd 0 hk45 rfl) rfl) (s_v (Zh fd107_4 rfl rfl) (s_v (Zg (.sc (.int .i64 p1.Vol)) ld3 rfl (Zd 2 hk45 rfl) rfl) ?_)))))))
 obtain ⟨y8, hy8, hm⟩ := Zc hm
 refine s_v (o_call (W139 _ hy8) rfl bd139 rfl) (s_v (Zh fd63_3 rfl rfl) ?_)
 refine s_op (a_store 0 (c_Chunk { x17 with Locs := y8 }) hk45 rfl rfl rfl rfl sz58 rfl rfl fun hk46 => ?_)
 refine Zb (H71 _ _ (Zf fun K71 H72 => ?_))
 refine AW_joinH (n := 443) (h := h) hm (σ := Bool) (τ := Unit) (fun g s => [(some k16034, .obj 63 (c_Chunk { x17 with Locs := y8 })), (ag28.t, .obj 63 (fl c_Chunk (q16 : List TChunk) ag28.sp)), (some k2, .obj 107 (c_Change p1)), (some p0K, .obj 27 ([.sc (.int .i64 p0.Seq), aw g_Snaps.t g_Snaps.n g_Snaps.cap, aw g_Chunks.t g_Chunks.n g_Chunks.cap, aw g_Exps.t g_Exps.n g_Exps.cap, aw g_Vols.t g_Vols.n g_Vols.cap])), (g_Snaps.t, .obj 60 (fl c_Snap (p0.Snaps : List TSnap) g_Snaps.sp)), (g_Chunks.t, .obj 63 (fl c_Chunk (p0.Chunks : List TChunk) g_Chunks.sp)), (g_Exps.t, .obj 65 (fl c_Exp (p0.Exps : List TExp) g_Exps.sp)), (g_Vols.t, .obj 40 (fl c_Vol ((p0.Vols.set p1.Vol.toNat ({ x15 with State := 3 })).set p1.Vol.toNat ({ x16 with Files := 0 }) : List TVol) g_Vols.sp))]) (fun g s => kp (kp (kp (kp (kp (kp (k0) 340 (.sc (.bool s))) 17 (.ptr k16034 0)) 16 (.sc (.int .i64 q17))) 15 (aw ag28.t ag28.n ag28.cap)) 3 (.ptr k2 0)) 0 (.ptr p0K 0)) (fun x hm => ?_) ?_
 refine Za (s_v (Zh fd63_1 rfl rfl) (s_v (Zg (.sc (.bool ({ x17 with Locs := y8 }.Staged))) ld4 rfl (Zd 0 hk46 rfl) rfl) (vB rfl ?_)))
 rcases Bool.eq_false_or_eq_true ({ x17 with Locs := y8 }.Staged) with hb7 | hb7
 have hm := Zi hm hb7
 refine Zo rfl rfl hb7 (Zo rfl rfl hb7 (Zo rfl rfl hb7 (Zo rfl rfl hb7 (s_v (Zm (.sc (.bool _)) rfl hb7 rfl) (Zb ?_)))))
 cases hm
 exact ⟨rfl, (), hk46, LeF.s (.k6 .nil)⟩
 have hm := Zj hm hb7
 refine sg_y rfl rfl hb7 (s_v (Zh fd63_3 rfl rfl) (sg_y rfl rfl hb7 (s_v (Zg (.sl none 4 (List.map c_Loc ({ x17 with Locs := y8 }.Locs))) ld58 rfl (Zd 0 hk46 rfl) rfl) (sg_y rfl rfl hb7 (s_v (o_lenm ln58 rfl) (sg_y rfl rfl hb7 (vF rfl rfl rfl (s_v (Zn (.sc (.bool _)) rfl hb7 rfl) (Zb ?_)))))))))
 cases hm
 exact ⟨rfl, (), hk46, LeF.s (.k6 .nil)⟩
 rintro _ j9 fr' h' hk47 hm le
 refine H72 _ _ (le.aw ?_)
 refine AW_joinL (n := 443) (h := h) hm (σ := (List TChunk)) (τ := AGh) (fun g s => [(some k16034, .obj 63 (c_Chunk { x17 with Locs := y8 })), (g.t, .obj 63 (fl c_Chunk (s : List TChunk) g.sp)), (some k2, .obj 107 (c_Change p1)), (some p0K, .obj 27 ([.sc (.int .i64 p0.Seq), aw g_Snaps.t g_Snaps.n g_Snaps.cap, aw g_Chunks.t g_Chunks.n g_Chunks.cap, aw g_Exps.t g_Exps.n g_Exps.cap, aw g_Vols.t g_Vols.n g_Vols.cap])), (g_Snaps.t, .obj 60 (fl c_Snap (p0.Snaps : List TSnap) g_Snaps.sp)), (g_Chunks.t, .obj 63 (fl c_Chunk (p0.Chunks : List TChunk) g_Chunks.sp)), (g_Exps.t, .obj 65 (fl c_Exp (p0.Exps : List TExp) g_Exps.sp)), (g_Vols.t, .obj 40 (fl c_Vol ((p0.Vols.set p1.Vol.toNat ({ x15 with State := 3 })).set p1.Vol.toNat ({ x16 with Files := 0 }) : List TVol) g_Vols.sp))]) (fun g s => AOk g 35 (s : List TChunk).length) (fun g s => kp (kp (kp (kp (k0) 16 (.sc (.int .i64 q17))) 15 (aw g.t g.n g.cap)) 3 (.ptr k2 0)) 0 (.ptr p0K 0)) (fun x hm => ?_) ?_
 refine AW_if' rfl (fun hc21 => ?_) (fun hc21 => ?_)
 have hm := Zi hm hc21
 refine Za (s_v (o_mv (aw _ _ _) rfl) (s_v (Zg (.agg (c_Chunk { x17 with Locs := y8 })) ld63 rfl (Zd 0 hk47 rfl) rfl) (s_v (o_lit (List.map c_Chunk ([{ x17 with Locs := y8 }] : List TChunk)) et23 rfl rfl rfl rfl) ?_)))
 obtain ⟨z1, hz1, hm⟩ := Zc hm
 refine s_op (a_appA (c := c_Chunk) 1 hz1 et23 rfl zr63 rfl cz_Chunk rfl rfl ok21 hk47 rfl fun ag29 ok22 hk48 => ?_)
 refine s_v (o_as (aw _ _ _) rfl) (Zb ?_)
 cases hm
 exact ⟨rfl, ag29, ⟨hk48, ok22⟩, LeF.s (.k4 .nil)⟩
 have hm := Zj hm hc21
 refine Zl ?_
 cases hm
 exact ⟨rfl, ag28, ⟨hk47, ok21⟩, LeF.s (.k4 .nil)⟩
 rintro ag30 j10 fr' h' ⟨hk49, ok23⟩ hm le
 refine H69 _ _ (le.aw ?_)
 refine Za (vA rfl (vF rfl rfl rfl (vC rfl (Zb ?_))))
 cases hm
 exact ⟨rfl, ag30, ⟨(hp_sub (.cons _ (.refl _)) hk49).2, ok23⟩, LeF.fm ((hp_sub (.cons _ (.refl _)) hk49).1) (.k4 .nil)⟩
 have hm := Zj hm hc20
 refine AW_exit ?_
 refine Seq_exit ?_
 cases hm
 exact ⟨rfl, ag28, ⟨hk43, ok21⟩, LeF.s (.k4 .nil)⟩
 rintro ag31 ⟨r16, r17⟩ fr' h' ⟨hk50, ot7⟩ hm le
 refine H65 _ _ (le.aw ?_)
 refine Zf fun K72 H73 => (Za (s_v (o_mv (.ptr _ _) rfl) (s_v (o_mv (aw _ _ _) rfl) (s_v (o_nil rfl) (s_v (Zh fd27_2 rfl rfl) ?_)))))
 refine s_op (a_store 2 ([.sc (.int .i64 p0.Seq), aw g_Snaps.t g_Snaps.n g_Snaps.cap, aw ag31.t ag31.n ag31.cap, aw g_Exps.t g_Exps.n g_Exps.cap, aw g_Vols.t g_Vols.n g_Vols.cap]) hk50 rfl rfl (cellsOf_aw rfl) (all_c (ocell_aw _ _ _) rfl) sz23 rfl rfl fun hk51 => ?_)
 refine Zb (H73 _ _ (Zf fun K73 H74 => (Zf fun K74 H75 => (Za (vC rfl (Zb (H75 _ _ ?_)))))))
 refine AW_loopL (n := 443) (h := h) hm (σ := (List TSnap) × Int) (τ := AGh) (fun g s => [(ag31.t, .obj 63 (fl c_Chunk (r16 : List TChunk) ag31.sp)), (some k2, .obj 107 (c_Change p1)), (some p0K, .obj 27 ([.sc (.int .i64 p0.Seq), aw g.t g.n g.cap, aw ag31.t ag31.n ag31.cap, aw g_Exps.t g_Exps.n g_Exps.cap, aw g_Vols.t g_Vols.n g_Vols.cap])), (g.t, .obj 60 (fl c_Snap (s.1 : List TSnap) g.sp)), (g_Chunks.t, .obj 63 (fl c_Chunk (p0.Chunks : List TChunk) g_Chunks.sp)), (g_Exps.t, .obj 65 (fl c_Exp (p0.Exps : List TExp) g_Exps.sp)), (g_Vols.t, .obj 40 (fl c_Vol ((p0.Vols.set p1.Vol.toNat ({ x15 with State := 3 })).set p1.Vol.toNat ({ x16 with Files := 0 }) : List TVol) g_Vols.sp))]) (fun g s => AOk g 4 (s.1 : List TSnap).length) (fun g s => kp (kp (kp (k0) 18 (.sc (.int .i64 s.2))) 3 (.ptr k2 0)) 0 (.ptr p0K 0)) g_Snaps (⟨hk51, ok_Snaps⟩) (LeF.s (.k3 .nil)) ?_ ?_
 rintro ag32 ⟨q18, q19⟩ x ⟨hk52, ok24⟩ hm
 replace hm : M109_L15 fuel p1 q18 q19 = some x := hm
 unfold M109_L15 at hm
 refine Zf fun K75 H76 => (Zf fun K76 H77 => (Za (vA rfl (s_v (o_mv (.ptr _ _) rfl) (s_v (o_nil rfl) (s_v (Zh fd27_1 rfl rfl) (s_v (Zg (aw ag32.t ag32.n ag32.cap) ld22 rfl (Zd 2 hk52 rfl) rfl) (s_v (o_lenA ln22 ok24 rfl) (vF rfl rfl rfl (Zb (H77 _ _ ?_)))))))))))
 refine AW_if' rfl (fun hc22 => ?_) (fun hc22 => ?_)
 have hm := Zi hm hc22
 refine Zl (H76 _ _ (Zf fun K77 H78 => (AW_block ?_)))
 refine AW_zreg [(1000000, some p0K, .obj 27 ([.sc (.int .i64 p0.Seq), aw ag32.t ag32.n ag32.cap, aw ag31.t ag31.n ag31.cap, aw g_Exps.t g_Exps.n g_Exps.cap, aw g_Vols.t g_Vols.n g_Vols.cap])), (18, ag32.t, .obj 60 (fl c_Snap (q18 : List TSnap) ag32.sp)), (1000000, some k2, .obj 107 (c_Change p1))] mixed (⟨fun _ => hp_at 2 hk52 rfl, fun _ => hp_at 3 hk52 rfl, fun _ => hp_at 1 hk52 rfl, trivial⟩) ?_
 refine z_w 0 rfl (fun S' h' hi hB => o_mv (.ptr _ _) rfl) ?_
 refine z_w 1 rfl (fun S' h' hi hB => o_nil rfl) ?_
 refine z_w 2 rfl (fun S' h' hi hB => Zh fd27_1 rfl rfl) ?_
 refine z_w 3 rfl (fun S' h' hi hB => Zg (aw ag32.t ag32.n ag32.cap) ld22 rfl (At.s (InvL.get 0 hi rfl (hB 1000000 (by kernel_rfl)))) rfl) ?_
 refine z_w 4 rfl (fun S' h' hi hB => o_mv (.sc (.int _ _)) rfl) ?_
 refine z_w 5 rfl (fun S' h' hi hB => o_mv (.ptr _ _) rfl) ?_
 refine z_w 6 rfl (fun S' h' hi hB => o_nil rfl) ?_
 refine z_w 7 rfl (fun S' h' hi hB => Zh fd27_1 rfl rfl) ?_
 refine z_w 8 rfl (fun S' h' hi hB => Zg (aw ag32.t ag32.n ag32.cap) ld22 rfl (At.s (InvL.get 0 hi rfl (hB 1000000 (by kernel_rfl)))) rfl) ?_
 refine z_w 9 rfl (fun S' h' hi hB => o_mv (.sc (.int _ _)) rfl) ?_
 obtain ⟨x18, hx18, hm⟩ := Zc hm
 refine z_w 10 rfl (fun S' h' hi hB => o_ixA hx18 el22 ok24 rfl rfl) ?_
 refine z_w 11 rfl (fun S' h' hi hB => o_flA (AOk.ne ok24 hx18) fd60_2 rfl rfl) ?_
 refine z_w 12 rfl (fun S' h' hi hB => o_ldA (fo := 3) (.sl none 4 (List.map c_Loc x18.Locs)) hx18 cz_Snap ok24 ld58 rfl (InvL.get 1 hi rfl (hB 18 (by kernel_rfl))) (fun _ => rfl)) ?_
 refine z_w 13 rfl (fun S' h' hi hB => Zh fd107_4 rfl rfl) ?_
 refine z_w 14 rfl (fun S' h' hi hB => Zg (.sc (.int .i64 p1.Vol)) ld3 rfl (At.s (InvL.get 2 hi rfl (hB 1000000 (by kernel_rfl)))) rfl) ?_
 obtain ⟨y9, hy9, hm⟩ := Zc hm
 refine z_w 15 rfl (fun S' h' hi hB => o_call (W139 _ hy9) rfl bd139 rfl) ?_
 obtain ⟨x19, hx19, hm⟩ := Zc hm
 refine z_w 16 rfl (fun S' h' hi hB => o_ixA hx19 el22 ok24 rfl rfl) ?_
 refine z_w 17 rfl (fun S' h' hi hB => o_flA (AOk.ne ok24 hx19) fd60_2 rfl rfl) ?_
 refine z_e 18 rfl (by kernel_rfl) (a_storeA (fo := 3) ({ x19 with Locs := y9 } : TSnap) 3 hk52 hx19 cz_Snap ok24 rfl rfl rfl rfl (ALeL.refl _ _) sz58 rfl rfl fun hk53 => ⟨⟨fun _ => hp_at 2 hk53 rfl, fun e => absurd e (by decide), fun _ => hp_at 1 hk53 rfl, trivial⟩, ?_⟩)
 refine z_nil (by kernel_rfl) ?_
 refine H78 _ _ (Za (vA rfl (vF rfl rfl rfl (vC rfl (Zb ?_)))))
 cases hm
 exact ⟨rfl, ag32, ⟨hk53, (AOk.set ok24)⟩, LeF.s (.k3 .nil)⟩
 have hm := Zj hm hc22
 refine AW_exit ?_
 refine Seq_exit ?_
 cases hm
 exact ⟨rfl, ag32, ⟨hk52, ok24⟩, LeF.s (.k3 .nil)⟩
 rintro ag33 ⟨r18, r19⟩ fr' h' ⟨hk54, ot8⟩ hm le
 refine H74 _ _ (le.aw ?_)
 refine Zf fun K78 H79 => (Za (s_v (o_as (.sc (.slice _ _ _)) rfl) (Zb (H79 _ _ (Zf fun K79 H80 => (Zf fun K80 H81 => (Za (vC rfl (Zb (H81 _ _ ?_))))))))))
 refine (LeF.put (t := 19) (v := aw g0.t g0.n g0.cap) (Sub.refl _) (ALe_nilA _)).aw ?_
 refine AW_loopL (n := 443) (h := h) hm (σ := (List TExp) × Int) (τ := AGh) (fun g s => [(g.t, .obj 65 (fl c_Exp (s.1 : List TExp) g.sp)), (ag31.t, .obj 63 (fl c_Chunk (r16 : List TChunk) ag31.sp)), (some k2, .obj 107 (c_Change p1)), (some p0K, .obj 27 ([.sc (.int .i64 p0.Seq), aw ag33.t ag33.n ag33.cap, aw ag31.t ag31.n ag31.cap, aw g_Exps.t g_Exps.n g_Exps.cap, aw g_Vols.t g_Vols.n g_Vols.cap])), (ag33.t, .obj 60 (fl c_Snap (r18 : List TSnap) ag33.sp)), (g_Chunks.t, .obj 63 (fl c_Chunk (p0.Chunks : List TChunk) g_Chunks.sp)), (g_Exps.t, .obj 65 (fl c_Exp (p0.Exps : List TExp) g_Exps.sp)), (g_Vols.t, .obj 40 (fl c_Vol ((p0.Vols.set p1.Vol.toNat ({ x15 with State := 3 })).set p1.Vol.toNat ({ x16 with Files := 0 }) : List TVol) g_Vols.sp))]) (fun g s => AOk g 3 (s.1 : List TExp).length) (fun g s => kp (kp (kp (kp (k0) 20 (.sc (.int .i64 s.2))) 19 (aw g.t g.n g.cap)) 3 (.ptr k2 0)) 0 (.ptr p0K 0)) g0 (⟨HOk.none hk54, (AOk.g0 3)⟩) (LeF.s (.k4 .nil)) ?_ ?_
 rintro ag34 ⟨q20, q21⟩ x ⟨hk55, ok25⟩ hm
 replace hm : M109_L17 fuel p0 p1 q20 q21 = some x := hm
 unfold M109_L17 at hm
 refine Zf fun K81 H82 => (Zf fun K82 H83 => (Za (vA rfl (s_v (o_mv (.ptr _ _) rfl) (s_v (o_nil rfl) (s_v (Zh fd27_3 rfl rfl) (s_v (Zg (aw g_Exps.t g_Exps.n g_Exps.cap) ld24 rfl (Zd 3 hk55 rfl) rfl) (s_v (o_lenA ln24 ok_Exps rfl) (vF rfl rfl rfl (Zb (H83 _ _ ?_)))))))))))
 refine AW_if' rfl (fun hc23 => ?_) (fun hc23 => ?_)
 have hm := Zi hm hc23
 refine Zl (H82 _ _ (Zf fun K83 H84 => (AW_block (Zf fun K84 H85 => (Za (s_v (o_mv (.ptr _ _) rfl) (s_v (o_nil rfl) (s_v (Zh fd27_3 rfl rfl) (s_v (Zg (aw g_Exps.t g_Exps.n g_Exps.cap) ld24 rfl (Zd 3 hk55 rfl) rfl) (vA rfl ?_))))))))))
 obtain ⟨x20, hx20, hm⟩ := Zc hm
 refine s_v (o_ixA hx20 el24 ok_Exps rfl rfl) (s_v (o_ldA (fo := 0) (.agg (c_Exp x20)) hx20 cz_Exp ok_Exps ld65 rfl (hp_at 6 hk55 rfl) (fun _ => rfl)) ?_)
 refine s_op (a_alloc ([.sc (.int .i64 0), .sc (.int .i64 0), .sc (.slice none 0 0)]) hk55 zr65 rfl rfl fun k16283 hk56 => ?_)
 refine s_op (a_store 0 (c_Exp x20) hk56 rfl rfl rfl rfl sz65 rfl rfl fun hk57 => ?_)
 refine Zb (H85 _ _ (Zf fun K85 H86 => (Za (s_v (Zh fd65_2 rfl rfl) (s_v (Zg (.sl none 4 (List.map c_Loc x20.Locs)) ld58 rfl (Zd 0 hk57 rfl) rfl) (s_v (Zh fd107_4 rfl rfl) (s_v (Zg (.sc (.int .i64 p1.Vol)) ld3 rfl (Zd 3 hk57 rfl) rfl) ?_)))))))
 obtain ⟨y10, hy10, hm⟩ := Zc hm
 refine s_v (o_call (W139 _ hy10) rfl bd139 rfl) (s_v (Zh fd65_2 rfl rfl) ?_)
 refine s_op (a_store 0 (c_Exp { x20 with Locs := y10 }) hk57 rfl rfl rfl rfl sz58 rfl rfl fun hk58 => ?_)
 refine Zb (H86 _ _ (Zf fun K86 H87 => (Za (s_v (Zh fd65_2 rfl rfl) (s_v (Zg (.sl none 4 (List.map c_Loc ({ x20 with Locs := y10 }.Locs))) ld58 rfl (Zd 0 hk58 rfl) rfl) (s_v (o_lenm ln58 rfl) (vF rfl rfl rfl (Zb (H87 _ _ ?_)))))))))
 refine AW_joinL (n := 443) (h := h) hm (σ := (List TExp)) (τ := AGh) (fun g s => [(some k16283, .obj 65 (c_Exp { x20 with Locs := y10 })), (g.t, .obj 65 (fl c_Exp (s : List TExp) g.sp)), (ag31.t, .obj 63 (fl c_Chunk (r16 : List TChunk) ag31.sp)), (some k2, .obj 107 (c_Change p1)), (some p0K, .obj 27 ([.sc (.int .i64 p0.Seq), aw ag33.t ag33.n ag33.cap, aw ag31.t ag31.n ag31.cap, aw g_Exps.t g_Exps.n g_Exps.cap, aw g_Vols.t g_Vols.n g_Vols.cap])), (ag33.t, .obj 60 (fl c_Snap (r18 : List TSnap) ag33.sp)), (g_Chunks.t, .obj 63 (fl c_Chunk (p0.Chunks : List TChunk) g_Chunks.sp)), (g_Exps.t, .obj 65 (fl c_Exp (p0.Exps : List TExp) g_Exps.sp)), (g_Vols.t, .obj 40 (fl c_Vol ((p0.Vols.set p1.Vol.toNat ({ x15 with State := 3 })).set p1.Vol.toNat ({ x16 with Files := 0 }) : List TVol) g_Vols.sp))]) (fun g s => AOk g 3 (s : List TExp).length) (fun g s => kp (kp (kp (kp (k0) 20 (.sc (.int .i64 q21))) 19 (aw g.t g.n g.cap)) 3 (.ptr k2 0)) 0 (.ptr p0K 0)) (fun x hm => ?_) ?_
 refine AW_if' rfl (fun hc24 => ?_) (fun hc24 => ?_)
 have hm := Zi hm hc24
 refine Za (s_v (o_mv (aw _ _ _) rfl) (s_v (Zg (.agg (c_Exp { x20 with Locs := y10 })) ld65 rfl (Zd 0 hk58 rfl) rfl) (s_v (o_lit (List.map c_Exp ([{ x20 with Locs := y10 }] : List TExp)) et24 rfl rfl rfl rfl) ?_)))
 obtain ⟨z2, hz2, hm⟩ := Zc hm
 refine s_op (a_appA (c := c_Exp) 1 hz2 et24 rfl zr65 rfl cz_Exp rfl rfl ok25 hk58 rfl fun ag35 ok26 hk59 => ?_)
 refine s_v (o_as (aw _ _ _) rfl) (Zb ?_)
 cases hm
 exact ⟨rfl, ag35, ⟨hk59, ok26⟩, LeF.s (.k4 .nil)⟩
 have hm := Zj hm hc24
 refine Zl ?_
 cases hm
 exact ⟨rfl, ag34, ⟨hk58, ok25⟩, LeF.s (.k4 .nil)⟩
 rintro ag36 j11 fr' h' ⟨hk60, ok27⟩ hm le
 refine H84 _ _ (le.aw ?_)
 refine Za (vA rfl (vF rfl rfl rfl (vC rfl (Zb ?_))))
 cases hm
 exact ⟨rfl, ag36, ⟨(hp_sub (.cons _ (.refl _)) hk60).2, ok27⟩, LeF.fm ((hp_sub (.cons _ (.refl _)) hk60).1) (.k4 .nil)⟩
 have hm := Zj hm hc23
 refine AW_exit ?_
 refine Seq_exit ?_
 cases hm
 exact ⟨rfl, ag34, ⟨hk55, ok25⟩, LeF.s (.k4 .nil)⟩
 rintro ag37 ⟨r20, r21⟩ fr' h' ⟨hk61, ot9⟩ hm le
 refine H80 _ _ (le.aw ?_)
 refine Za (s_v (o_mv (.ptr _ _) rfl) (s_v (o_mv (aw _ _ _) rfl) (s_v (o_nil rfl) (s_v (Zh fd27_3 rfl rfl) ?_))))
 refine s_op (a_store 3 ([.sc (.int .i64 p0.Seq), aw ag33.t ag33.n ag33.cap, aw ag31.t ag31.n ag31.cap, aw ag37.t ag37.n ag37.cap, aw g_Vols.t g_Vols.n g_Vols.cap]) hk61 rfl rfl (cellsOf_aw rfl) (all_c (ocell_aw _ _ _) rfl) sz24 rfl rfl fun hk62 => ?_)
 refine Zb ?_
 cases hm
 exact ⟨rfl, (ag33, ag31, ag37, g_Vols), ⟨(hp_pick hk62 [2, 3, 4, 1, 0, 7] rfl).1, ot8, ot7, ot9, (AOk.set (AOk.set ok_Vols))⟩, LeF.fm ((hp_pick hk62 [2, 3, 4, 1, 0, 7] rfl).2) .nil⟩
 have hm := Zj hm hc18
 refine Zf fun K87 H88 => (Za (vF rfl rfl rfl (vD rfl (Zb (H88 _ _ ?_)))))
 refine AW_joinL (n := 443) (h := h) hm (σ := (List TVol)) (τ := AGh) (fun g s => [(some k2, .obj 107 (c_Change p1)), (some p0K, .obj 27 ([.sc (.int .i64 p0.Seq), aw g_Snaps.t g_Snaps.n g_Snaps.cap, aw g_Chunks.t g_Chunks.n g_Chunks.cap, aw g_Exps.t g_Exps.n g_Exps.cap, aw g.t g.n g.cap])), (g_Snaps.t, .obj 60 (fl c_Snap (p0.Snaps : List TSnap) g_Snaps.sp)), (g_Chunks.t, .obj 63 (fl c_Chunk (p0.Chunks : List TChunk) g_Chunks.sp)), (g_Exps.t, .obj 65 (fl c_Exp (p0.Exps : List TExp) g_Exps.sp)), (g.t, .obj 40 (fl c_Vol (s : List TVol) g.sp))]) (fun g s => AOk g 4 (s : List TVol).length) (fun g s => k0) (fun x hm => ?_) ?_
 refine AW_if' rfl (fun hc25 => ?_) (fun hc25 => ?_)
 have hm := Zi hm hc25
 refine Zf fun K88 H89 => (Zf fun K89 H90 => (Za (s_v (o_mv (.ptr _ _) rfl) (s_v (Zh fd107_4 rfl rfl) (s_v (Zg (.sc (.int .i64 p1.Vol)) ld3 rfl (Zd 0 hk3 rfl) rfl) ?_)))))
 obtain ⟨y11, hy11, hm⟩ := Zc hm
 refine s_op (AOp_eqh ((hp_permI hk3 [1, 2, 3, 4, 5, 0] rfl rfl).1.trans (hp_app h [(some p0K, .obj 27 ([.sc (.int .i64 p0.Seq), aw g_Snaps.t g_Snaps.n g_Snaps.cap, aw g_Chunks.t g_Chunks.n g_Chunks.cap, aw g_Exps.t g_Exps.n g_Exps.cap, aw g_Vols.t g_Vols.n g_Vols.cap])), (g_Snaps.t, .obj 60 (fl c_Snap (p0.Snaps : List TSnap) g_Snaps.sp)), (g_Chunks.t, .obj 63 (fl c_Chunk (p0.Chunks : List TChunk) g_Chunks.sp)), (g_Exps.t, .obj 65 (fl c_Exp (p0.Exps : List TExp) g_Exps.sp)), (g_Vols.t, .obj 40 (fl c_Vol (p0.Vols : List TVol) g_Vols.sp))] [(some k2, .obj 107 (c_Change p1))]).symm) (a_call (W137 (hp h [(some k2, .obj 107 (c_Change p1))]) ok_Snaps ok_Chunks ok_Exps ok_Vols (HOk_spl [(some p0K, .obj 27 ([.sc (.int .i64 p0.Seq), aw g_Snaps.t g_Snaps.n g_Snaps.cap, aw g_Chunks.t g_Chunks.n g_Chunks.cap, aw g_Exps.t g_Exps.n g_Exps.cap, aw g_Vols.t g_Vols.n g_Vols.cap])), (g_Snaps.t, .obj 60 (fl c_Snap (p0.Snaps : List TSnap) g_Snaps.sp)), (g_Chunks.t, .obj 63 (fl c_Chunk (p0.Chunks : List TChunk) g_Chunks.sp)), (g_Exps.t, .obj 65 (fl c_Exp (p0.Exps : List TExp) g_Exps.sp)), (g_Vols.t, .obj 40 (fl c_Vol (p0.Vols : List TVol) g_Vols.sp))] [(some k2, .obj 107 (c_Change p1))] (hp_permI hk3 [1, 2, 3, 4, 5, 0] rfl rfl).2).2 hy11) rfl bd137 rfl ?_))
 rintro x h' ⟨hk63, rfl, rfl⟩
 have hk64 := hp_permI (L' := [(some k2, .obj 107 (c_Change p1)), (some p0K, .obj 27 ([.sc (.int .i64 p0.Seq), aw g_Snaps.t g_Snaps.n g_Snaps.cap, aw g_Chunks.t g_Chunks.n g_Chunks.cap, aw g_Exps.t g_Exps.n g_Exps.cap, aw g_Vols.t g_Vols.n g_Vols.cap])), (g_Snaps.t, .obj 60 (fl c_Snap (p0.Snaps : List TSnap) g_Snaps.sp)), (g_Chunks.t, .obj 63 (fl c_Chunk (p0.Chunks : List TChunk) g_Chunks.sp)), (g_Exps.t, .obj 65 (fl c_Exp (p0.Exps : List TExp) g_Exps.sp)), (g_Vols.t, .obj 40 (fl c_Vol (p0.Vols : List TVol) g_Vols.sp))]) (HOk_app (HOk_spl [(some p0K, .obj 27 ([.sc (.int .i64 p0.Seq), aw g_Snaps.t g_Snaps.n g_Snaps.cap, aw g_Chunks.t g_Chunks.n g_Chunks.cap, aw g_Exps.t g_Exps.n g_Exps.cap, aw g_Vols.t g_Vols.n g_Vols.cap])), (g_Snaps.t, .obj 60 (fl c_Snap (p0.Snaps : List TSnap) g_Snaps.sp)), (g_Chunks.t, .obj 63 (fl c_Chunk (p0.Chunks : List TChunk) g_Chunks.sp)), (g_Exps.t, .obj 65 (fl c_Exp (p0.Exps : List TExp) g_Exps.sp)), (g_Vols.t, .obj 40 (fl c_Vol (p0.Vols : List TVol) g_Vols.sp))] [(some k2, .obj 107 (c_Change p1))] (hp_permI hk3 [1, 2, 3, 4, 5, 0] rfl rfl).2).1 hk63) [5, 0, 1, 2, 3, 4] rfl rfl
 refine AOps_eqh ((hp_app h [(some p0K, .obj 27 ([.sc (.int .i64 p0.Seq), aw g_Snaps.t g_Snaps.n g_Snaps.cap, aw g_Chunks.t g_Chunks.n g_Chunks.cap, aw g_Exps.t g_Exps.n g_Exps.cap, aw g_Vols.t g_Vols.n g_Vols.cap])), (g_Snaps.t, .obj 60 (fl c_Snap (p0.Snaps : List TSnap) g_Snaps.sp)), (g_Chunks.t, .obj 63 (fl c_Chunk (p0.Chunks : List TChunk) g_Chunks.sp)), (g_Exps.t, .obj 65 (fl c_Exp (p0.Exps : List TExp) g_Exps.sp)), (g_Vols.t, .obj 40 (fl c_Vol (p0.Vols : List TVol) g_Vols.sp))] [(some k2, .obj 107 (c_Change p1))]).trans hk64.1) ?_
 refine s_v (o_not rfl) (Zb (H90 _ _ ?_))
 refine AW_if' rfl (fun hc26 => ?_) (fun hc26 => ?_)
 have hm := Zi hm hc26
 refine Zf fun K90 H91 => (Za (vC rfl (Zb (H91 _ _ (AW_ret ?_)))))
 cases hm
 refine ⟨nofun, fun he => ?_⟩
 subst he
 refine ⟨nofun, fun he => ?_⟩
 subst he
 refine ⟨nofun, fun he => ?_⟩
 subst he
 refine ⟨nofun, fun he => ?_⟩
 subst he
 refine ⟨nofun, fun he => ?_⟩
 subst he
 exact LqE.mk (LeF.eqh rfl) (Ret.of1 (.inl rfl) (rsT _ _ (.sc (.int _ _)) rfl) (hp_pick hk64.2 [1, 2, 3, 4, 5] rfl).2 (ALe.refl _ _) ⟨g_Snaps, ok_Snaps, g_Chunks, ok_Chunks, g_Exps, ok_Exps, g_Vols, ok_Vols, (hp_pick hk64.2 [1, 2, 3, 4, 5] rfl).1, rfl, rfl⟩)
 have hm := Zj hm hc26
 refine Zl (H89 _ _ ?_)
 refine AW_zreg [(1000000, some p0K, .obj 27 ([.sc (.int .i64 p0.Seq), aw g_Snaps.t g_Snaps.n g_Snaps.cap, aw g_Chunks.t g_Chunks.n g_Chunks.cap, aw g_Exps.t g_Exps.n g_Exps.cap, aw g_Vols.t g_Vols.n g_Vols.cap])), (1000000, some k2, .obj 107 (c_Change p1)), (24, g_Vols.t, .obj 40 (fl c_Vol (p0.Vols : List TVol) g_Vols.sp))] mixed (⟨fun _ => hp_at 1 hk64.2 rfl, fun _ => hp_at 0 hk64.2 rfl, fun _ => hp_at 5 hk64.2 rfl, trivial⟩) ?_
 refine z_w 0 rfl (fun S' h' hi hB => o_mv (.ptr _ _) rfl) ?_
 refine z_w 1 rfl (fun S' h' hi hB => o_nil rfl) ?_
 refine z_w 2 rfl (fun S' h' hi hB => Zh fd27_4 rfl rfl) ?_
 refine z_w 3 rfl (fun S' h' hi hB => Zg (aw g_Vols.t g_Vols.n g_Vols.cap) ld25 rfl (At.s (InvL.get 0 hi rfl (hB 1000000 (by kernel_rfl)))) rfl) ?_
 refine z_w 4 rfl (fun S' h' hi hB => Zh fd107_4 rfl rfl) ?_
 refine z_w 5 rfl (fun S' h' hi hB => Zg (.sc (.int .i64 p1.Vol)) ld3 rfl (At.s (InvL.get 1 hi rfl (hB 1000000 (by kernel_rfl)))) rfl) ?_
 refine z_w 6 rfl (fun S' h' hi hB => o_mv (.ptr _ _) rfl) ?_
 refine z_w 7 rfl (fun S' h' hi hB => o_nil rfl) ?_
 refine z_w 8 rfl (fun S' h' hi hB => Zh fd27_4 rfl rfl) ?_
 refine z_w 9 rfl (fun S' h' hi hB => Zg (aw g_Vols.t g_Vols.n g_Vols.cap) ld25 rfl (At.s (InvL.get 0 hi rfl (hB 1000000 (by kernel_rfl)))) rfl) ?_
 refine z_w 10 rfl (fun S' h' hi hB => Zh fd107_4 rfl rfl) ?_
 refine z_w 11 rfl (fun S' h' hi hB => Zg (.sc (.int .i64 p1.Vol)) ld3 rfl (At.s (InvL.get 1 hi rfl (hB 1000000 (by kernel_rfl)))) rfl) ?_
 refine z_w 12 rfl (fun S' h' hi hB => o_mv (.ptr _ _) rfl) ?_
 refine z_w 13 rfl (fun S' h' hi hB => o_nil rfl) ?_
 refine z_w 14 rfl (fun S' h' hi hB => Zh fd27_4 rfl rfl) ?_
 refine z_w 15 rfl (fun S' h' hi hB => Zg (aw g_Vols.t g_Vols.n g_Vols.cap) ld25 rfl (At.s (InvL.get 0 hi rfl (hB 1000000 (by kernel_rfl)))) rfl) ?_
 refine z_w 16 rfl (fun S' h' hi hB => Zh fd107_4 rfl rfl) ?_
 refine z_w 17 rfl (fun S' h' hi hB => Zg (.sc (.int .i64 p1.Vol)) ld3 rfl (At.s (InvL.get 1 hi rfl (hB 1000000 (by kernel_rfl)))) rfl) ?_
 obtain ⟨x21, hx21, hm⟩ := Zc hm
 refine z_w 18 rfl (fun S' h' hi hB => o_ixA hx21 el25 ok_Vols rfl rfl) ?_
 refine z_w 19 rfl (fun S' h' hi hB => o_flA (AOk.ne ok_Vols hx21) fd40_1 rfl rfl) ?_
 refine z_w 20 rfl (fun S' h' hi hB => o_ldA (fo := 1) (.sc (.int .i64 x21.Epoch)) hx21 cz_Vol ok_Vols ld3 rfl (InvL.get 2 hi rfl (hB 24 (by kernel_rfl))) (fun _ => rfl)) ?_
 refine z_w 21 rfl (fun S' h' hi hB => o_bi rfl rfl rfl trivial) ?_
 obtain ⟨x22, hx22, hm⟩ := Zc hm
 refine z_w 22 rfl (fun S' h' hi hB => o_ixA hx22 el25 ok_Vols rfl rfl) ?_
 refine z_w 23 rfl (fun S' h' hi hB => o_flA (AOk.ne ok_Vols hx22) fd40_2 rfl rfl) ?_
 refine z_e 24 rfl (by kernel_rfl) (a_storeA (fo := 2) ({ x22 with State := 1 } : TVol) 5 hk64.2 hx22 cz_Vol ok_Vols rfl rfl rfl rfl (ALeL.refl _ _) sz3 rfl rfl fun hk65 => ⟨⟨fun _ => hp_at 1 hk65 rfl, fun _ => hp_at 0 hk65 rfl, fun e => absurd e (by decide), trivial⟩, ?_⟩)
 obtain ⟨x23, hx23, hm⟩ := Zc hm
 refine z_w 25 rfl (fun S' h' hi hB => o_ixA hx23 el25 (AOk.set ok_Vols) rfl rfl) ?_
 refine z_w 26 rfl (fun S' h' hi hB => o_flA (AOk.ne (AOk.set ok_Vols) hx23) fd40_1 rfl rfl) ?_
 refine z_e 27 rfl (by kernel_rfl) (a_storeA (fo := 1) ({ x23 with Epoch := IntKind.wrap .i64 (x21.Epoch + 1) } : TVol) 5 hk65 hx23 cz_Vol (AOk.set ok_Vols) rfl rfl rfl rfl (ALeL.refl _ _) sz3 rfl rfl fun hk66 => ⟨⟨fun _ => hp_at 1 hk66 rfl, fun _ => hp_at 0 hk66 rfl, fun e => absurd e (by decide), trivial⟩, ?_⟩)
 refine z_nil (by kernel_rfl) ?_
 cases hm
 exact ⟨rfl, g_Vols, ⟨hk66, (AOk.set (AOk.set ok_Vols))⟩, LeF.s .nil⟩
 have hm := Zj hm hc25
 refine Zl ?_
 cases hm
 exact ⟨rfl, g_Vols, ⟨hk3, ok_Vols⟩, LeF.s .nil⟩
 rintro ag38 j12 fr' h' ⟨hk67, ok28⟩ hm le
 cases hm
 exact ⟨rfl, (g_Snaps, g_Chunks, g_Exps, ag38), ⟨hk67, ok_Snaps, ok_Chunks, ok_Exps, ok28⟩, LeF.trans le (LeF.s .nil)⟩
 rintro ⟨ag39, ag40, ag41, ag42⟩ ⟨j13, j14, j15, j16⟩ fr' h' ⟨hk68, ok29, ok30, ok31, ok32⟩ hm le
 cases hm
 exact ⟨rfl, (ag39, ag40, ag41, ag42), ⟨hk68, ok29, ok30, ok31, ok32⟩, LeF.trans le (LeF.s .nil)⟩
 rintro ⟨ag43, ag44, ag45, ag46⟩ ⟨j17, j18, j19, j20, j21⟩ fr' h' ⟨hk69, ok33, ok34, ok35, ok36⟩ hm le
 cases hm
 exact ⟨rfl, (ag43, ag44, ag45, ag46), ⟨hk69, ok33, ok34, ok35, ok36⟩, LeF.trans le (LeF.s .nil)⟩
 rintro ⟨ag47, ag48, ag49, ag50⟩ ⟨j22, j23, j24, j25, j26⟩ fr' h' ⟨hk70, ok37, ok38, ok39, ok40⟩ hm le
 cases hm
 exact ⟨rfl, (ag47, ag48, ag49, ag50), ⟨hk70, ok37, ok38, ok39, ok40⟩, LeF.trans le (LeF.s .nil)⟩
 rintro ⟨ag51, ag52, ag53, ag54⟩ ⟨j27, j28, j29, j30, j31⟩ fr' h' ⟨hk71, ok41, ok42, ok43, ok44⟩ hm le
 refine H5 _ _ (le.aw ?_)
 refine Zf fun K91 H92 => (Za (vC rfl (Zb (H92 _ _ (AW_ret ?_)))))
 have hmo := Option.some.inj hm; subst hmo
 exact LqE.mk (LeF.eqh rfl) (Ret.of1 (.inl rfl) (rsT _ _ (.sc (.int _ _)) rfl) (hp_pick hk71 [1, 2, 3, 4, 5] rfl).2 (ALe.refl _ _) ⟨ag51, ok41, ag52, ok42, ag53, ok43, ag54, ok44, (hp_pick hk71 [1, 2, 3, 4, 5] rfl).1, rfl, rfl⟩)
theorem bd109 : bodied Try.prog 109 = true := by kernel_rfl
open Go.Vm
def M67 (fuel : Nat) (p0 : TCatalog) (p1 : TChange) : Option (TCatalog × Int) :=
 after ((M19 fuel p0).bind fun y0 => if (!y0) = true then (some (.brk true)) else if (decide (p1.Kind < 1)) = true then (some (.brk true)) else some (.brk (decide (5 < p1.Kind))) : Option (Lp (Bool) (TCatalog × Int))) fun j0 => if j0 = true then (some (({ Seq := 0, Snaps := [], Chunks := [], Exps := [], Vols := [] } : TCatalog), 1)) else (M14d fuel p0).bind fun y1 => (M110 fuel p1).bind fun y2 => (M109 fuel ({ Seq := y1.Seq, Snaps := y1.Snaps, Chunks := y1.Chunks, Exps := y1.Exps, Vols := y1.Vols } : TCatalog) y2).bind fun y3 => if (y3.1 != 0) = true then (some (({ Seq := 0, Snaps := [], Chunks := [], Exps := [], Vols := [] } : TCatalog), y3.1)) else (M19 fuel ({ Seq := y3.2.1, Snaps := y3.2.2.1, Chunks := y3.2.2.2.1, Exps := y3.2.2.2.2.1, Vols := y3.2.2.2.2.2 } : TCatalog)).bind fun y4 => if (!y4) = true then (some (({ Seq := 0, Snaps := [], Chunks := [], Exps := [], Vols := [] } : TCatalog), 1)) else some (({ Seq := y3.2.1, Snaps := y3.2.2.1, Chunks := y3.2.2.2.1, Exps := y3.2.2.2.2.1, Vols := y3.2.2.2.2.2 } : TCatalog), 0)
set_option maxHeartbeats 4000000 in
set_option maxRecDepth 100000 in
theorem W67 {fuel : Nat} {p0 : TCatalog} {p1 : TChange} {o : TCatalog × Int} (h : Heap) (hm : M67 fuel p0 p1 = some o) :
 ACalls Try.prog 67 [.agg (c_Catalog p0), .agg (c_Change p1)] h (fun r h' => r = .tup [.agg (c_Catalog o.1), .sc (.int .i64 o.2)] ∧ h' = h) := by
 refine ACalls_hp 36 [.cell 4 27, .tmp 5] Try.func67 rfl rfl rfl rfl ?_
 unfold M67 at hm
 refine AW_lq ?_
 refine Zf fun K1 H1 => (Za ?_)
 refine s_op (a_box (HOk.nil _) rfl rfl fun k2 hk3 => ?_)
 refine s_op (a_box hk3 rfl rfl fun k5 hk6 => ?_)
 refine s_op (a_alloc ([.sc (.int .i64 0), .sc (.slice none 0 0), .sc (.slice none 0 0), .sc (.slice none 0 0), .sc (.slice none 0 0)]) hk6 zr27 rfl rfl fun k8 hk9 => ?_)
 refine vC rfl (Zb (H1 _ _ (Zf fun K0 H2 => (Zf fun K2 H3 => ?_))))
 refine AW_joinH (n := 36) (h := h) hm (σ := Bool) (τ := Unit) (fun g s => [(some k8, .obj 27 ([.sc (.int .i64 0), .sc (.slice none 0 0), .sc (.slice none 0 0), .sc (.slice none 0 0), .sc (.slice none 0 0)])), (some k5, .obj 107 (c_Change p1)), (some k2, .obj 27 (c_Catalog p0))]) (fun g s => kp (kp (kp (kp (k0) 20 (.sc (.bool s))) 4 (.ptr k8 0)) 3 (.ptr k5 0)) 2 (.ptr k2 0)) (fun x hm => ?_) ?_
 refine Za (s_v (Zg (.agg (c_Catalog p0)) ld27 rfl (Zd 2 hk9 rfl) rfl) ?_)
 obtain ⟨y0, hy0, hm⟩ := Zc hm
 refine s_v (o_call (W19 _ hy0) rfl bd19 rfl) (s_v (o_not rfl) (vB rfl ?_))
 rcases Bool.eq_false_or_eq_true (!y0) with hb0 | hb0
 have hm := Zi hm hb0
 refine Zo rfl rfl hb0 (Zo rfl rfl hb0 (Zo rfl rfl hb0 (s_v (Zm (.sc (.bool _)) rfl hb0 rfl) (vB rfl (Zo rfl rfl rfl (Zo rfl rfl rfl (Zo rfl rfl rfl (s_v (Zm (.sc (.bool _)) rfl rfl rfl) (Zb ?_)))))))))
 cases hm
 exact ⟨rfl, (), hk9, LeF.s (.k4 .nil)⟩
 have hm := Zj hm hb0
 refine sg_y rfl rfl hb0 (s_v (Zh fd107_0 rfl rfl) (sg_y rfl rfl hb0 (s_v (Zg (.sc (.int .i64 p1.Kind)) ld3 rfl (Zd 1 hk9 rfl) rfl) (sg_y rfl rfl hb0 (vF rfl rfl rfl (s_v (Zn (.sc (.bool _)) rfl hb0 rfl) (vB rfl ?_)))))))
 rcases Bool.eq_false_or_eq_true (decide (p1.Kind < 1)) with hb1 | hb1
 have hm := Zi hm hb1
 refine Zo rfl rfl hb1 (Zo rfl rfl hb1 (Zo rfl rfl hb1 (s_v (Zm (.sc (.bool _)) rfl hb1 rfl) (Zb ?_))))
 cases hm
 exact ⟨rfl, (), hk9, LeF.s (.k4 .nil)⟩
 have hm := Zj hm hb1
 refine sg_y rfl rfl hb1 (s_v (Zh fd107_0 rfl rfl) (sg_y rfl rfl hb1 (s_v (Zg (.sc (.int .i64 p1.Kind)) ld3 rfl (Zd 1 hk9 rfl) rfl) (sg_y rfl rfl hb1 (vF rfl rfl rfl (s_v (Zn (.sc (.bool _)) rfl hb1 rfl) (Zb ?_)))))))
 cases hm
 exact ⟨rfl, (), hk9, LeF.s (.k4 .nil)⟩
 rintro _ j0 fr' h' hk0 hm le
 refine H3 _ _ (le.aw ?_)
 refine AW_if' rfl (fun hc0 => ?_) (fun hc0 => ?_)
 have hm := Zi hm hc0
 refine Zf fun K3 H4 => (Za (s_v (o_bld ([.sc (.int .i64 0), .sc (.slice none 0 0), .sc (.slice none 0 0), .sc (.slice none 0 0), .sc (.slice none 0 0)]) bt27 rfl) ?_))
 refine s_op (a_store 0 ([.sc (.int .i64 0), .sc (.slice none 0 0), .sc (.slice none 0 0), .sc (.slice none 0 0), .sc (.slice none 0 0)]) hk0 rfl rfl rfl rfl sz27 rfl rfl fun hk1 => ?_)
 refine vC rfl (Zb (H4 _ _ (AW_ret ?_)))
 have hmo := Option.some.inj hm; subst hmo
 exact LqE.mk (LeF.eqh rfl) (Ret.of2 (.inl rfl) (rsC (.agg ([.sc (.int .i64 0), .sc (.slice none 0 0), .sc (.slice none 0 0), .sc (.slice none 0 0), .sc (.slice none 0 0)])) ld27 rfl (Zd 0 hk1 rfl) rfl) (rsT _ _ (.sc (.int _ _)) rfl) (hp_sub (List.nil_sublist _) hk1).1 (ALe.agg (.cons (ALe.refl _ _) (.cons (nil_lem _) (.cons (nil_lem _) (.cons (nil_lem _) (.cons (nil_lem _) .nil)))))) (ALe.refl _ _) ⟨rfl, rfl⟩)
 have hm := Zj hm hc0
 refine Zl (H2 _ _ (Zf fun K4 H5 => (Za (s_v (Zg (.agg (c_Catalog p0)) ld27 rfl (Zd 2 hk0 rfl) rfl) ?_))))
 obtain ⟨y1, hy1, hm⟩ := Zc hm
 refine s_op (a_call (W14d _ hy1) rfl bd14 rfl ?_)
 rintro x h' ⟨ag0, ok0, ag1, ok1, ag2, ok2, ag3, ok3, hk2, rfl, rfl⟩
 refine AOps_eqh (hp_app h [(ag0.t, .obj 60 (fl c_Snap (y1.Snaps : List TSnap) ag0.sp)), (ag1.t, .obj 63 (fl c_Chunk (y1.Chunks : List TChunk) ag1.sp)), (ag2.t, .obj 65 (fl c_Exp (y1.Exps : List TExp) ag2.sp)), (ag3.t, .obj 40 (fl c_Vol (y1.Vols : List TVol) ag3.sp))] [(some k8, .obj 27 ([.sc (.int .i64 0), .sc (.slice none 0 0), .sc (.slice none 0 0), .sc (.slice none 0 0), .sc (.slice none 0 0)])), (some k5, .obj 107 (c_Change p1)), (some k2, .obj 27 (c_Catalog p0))]) ?_
 refine s_op (a_alloc ([.sc (.int .i64 0), .sc (.slice none 0 0), .sc (.slice none 0 0), .sc (.slice none 0 0), .sc (.slice none 0 0)]) (HOk_app hk0 hk2) zr27 rfl rfl fun k42 hk4 => ?_)
 refine s_op (a_store 0 ([.sc (.int .i64 y1.Seq), aw ag0.t ag0.n ag0.cap, aw ag1.t ag1.n ag1.cap, aw ag2.t ag2.n ag2.cap, aw ag3.t ag3.n ag3.cap]) hk4 rfl rfl rfl (by repeat (first | exact rfl | refine all_c (ocell_ow _ _ _) ?_ | refine all_c (ocell_aw _ _ _) ?_ | refine all_c rfl ?_)) sz27 rfl rfl fun hk5 => ?_)
 refine Zb (H5 _ _ (Zf fun K5 H6 => (Za (s_v (Zg (.agg (c_Change p1)) ld107 rfl (Zd 6 hk5 rfl) rfl) ?_))))
 obtain ⟨y2, hy2, hm⟩ := Zc hm
 refine s_v (o_call (W110 _ hy2) rfl bd110 rfl) ?_
 obtain ⟨y3, hy3, hm⟩ := Zc hm
 refine s_op (AOp_eqh ((hp_permI hk5 [0, 1, 2, 3, 4, 5, 6, 7] rfl rfl).1.trans (hp_app h [(some k42, .obj 27 ([.sc (.int .i64 y1.Seq), aw ag0.t ag0.n ag0.cap, aw ag1.t ag1.n ag1.cap, aw ag2.t ag2.n ag2.cap, aw ag3.t ag3.n ag3.cap])), (ag0.t, .obj 60 (fl c_Snap (y1.Snaps : List TSnap) ag0.sp)), (ag1.t, .obj 63 (fl c_Chunk (y1.Chunks : List TChunk) ag1.sp)), (ag2.t, .obj 65 (fl c_Exp (y1.Exps : List TExp) ag2.sp)), (ag3.t, .obj 40 (fl c_Vol (y1.Vols : List TVol) ag3.sp))] [(some k8, .obj 27 ([.sc (.int .i64 0), .sc (.slice none 0 0), .sc (.slice none 0 0), .sc (.slice none 0 0), .sc (.slice none 0 0)])), (some k5, .obj 107 (c_Change p1)), (some k2, .obj 27 (c_Catalog p0))]).symm) (a_call (W109 (hp h [(some k8, .obj 27 ([.sc (.int .i64 0), .sc (.slice none 0 0), .sc (.slice none 0 0), .sc (.slice none 0 0), .sc (.slice none 0 0)])), (some k5, .obj 107 (c_Change p1)), (some k2, .obj 27 (c_Catalog p0))]) ok0 ok1 ok2 ok3 (HOk_spl [(some k42, .obj 27 ([.sc (.int .i64 y1.Seq), aw ag0.t ag0.n ag0.cap, aw ag1.t ag1.n ag1.cap, aw ag2.t ag2.n ag2.cap, aw ag3.t ag3.n ag3.cap])), (ag0.t, .obj 60 (fl c_Snap (y1.Snaps : List TSnap) ag0.sp)), (ag1.t, .obj 63 (fl c_Chunk (y1.Chunks : List TChunk) ag1.sp)), (ag2.t, .obj 65 (fl c_Exp (y1.Exps : List TExp) ag2.sp)), (ag3.t, .obj 40 (fl c_Vol (y1.Vols : List TVol) ag3.sp))] [(some k8, .obj 27 ([.sc (.int .i64 0), .sc (.slice none 0 0), .sc (.slice none 0 0), .sc (.slice none 0 0), .sc (.slice none 0 0)])), (some k5, .obj 107 (c_Change p1)), (some k2, .obj 27 (c_Catalog p0))] (hp_permI hk5 [0, 1, 2, 3, 4, 5, 6, 7] rfl rfl).2).2 hy3) rfl bd109 rfl ?_))
 rintro x h' ⟨ag4, ok4, ag5, ok5, ag6, ok6, ag7, ok7, hk7, rfl, rfl⟩
 have hk8 := hp_permI (L' := [(some k42, .obj 27 ([.sc (.int .i64 y3.2.1), aw ag4.t ag4.n ag4.cap, aw ag5.t ag5.n ag5.cap, aw ag6.t ag6.n ag6.cap, aw ag7.t ag7.n ag7.cap])), (ag4.t, .obj 60 (fl c_Snap (y3.2.2.1 : List TSnap) ag4.sp)), (ag5.t, .obj 63 (fl c_Chunk (y3.2.2.2.1 : List TChunk) ag5.sp)), (ag6.t, .obj 65 (fl c_Exp (y3.2.2.2.2.1 : List TExp) ag6.sp)), (ag7.t, .obj 40 (fl c_Vol (y3.2.2.2.2.2 : List TVol) ag7.sp)), (some k8, .obj 27 ([.sc (.int .i64 0), .sc (.slice none 0 0), .sc (.slice none 0 0), .sc (.slice none 0 0), .sc (.slice none 0 0)])), (some k5, .obj 107 (c_Change p1)), (some k2, .obj 27 (c_Catalog p0))]) (HOk_app (HOk_spl [(some k42, .obj 27 ([.sc (.int .i64 y1.Seq), aw ag0.t ag0.n ag0.cap, aw ag1.t ag1.n ag1.cap, aw ag2.t ag2.n ag2.cap, aw ag3.t ag3.n ag3.cap])), (ag0.t, .obj 60 (fl c_Snap (y1.Snaps : List TSnap) ag0.sp)), (ag1.t, .obj 63 (fl c_Chunk (y1.Chunks : List TChunk) ag1.sp)), (ag2.t, .obj 65 (fl c_Exp (y1.Exps : List TExp) ag2.sp)), (ag3.t, .obj 40 (fl c_Vol (y1.Vols : List TVol) ag3.sp))] [(some k8, .obj 27 ([.sc (.int .i64 0), .sc (.slice none 0 0), .sc (.slice none 0 0), .sc (.slice none 0 0), .sc (.slice none 0 0)])), (some k5, .obj 107 (c_Change p1)), (some k2, .obj 27 (c_Catalog p0))] (hp_permI hk5 [0, 1, 2, 3, 4, 5, 6, 7] rfl rfl).2).1 hk7) [0, 1, 2, 3, 4, 5, 6, 7] rfl rfl
 refine AOps_eqh ((hp_app h [(some k42, .obj 27 ([.sc (.int .i64 y3.2.1), aw ag4.t ag4.n ag4.cap, aw ag5.t ag5.n ag5.cap, aw ag6.t ag6.n ag6.cap, aw ag7.t ag7.n ag7.cap])), (ag4.t, .obj 60 (fl c_Snap (y3.2.2.1 : List TSnap) ag4.sp)), (ag5.t, .obj 63 (fl c_Chunk (y3.2.2.2.1 : List TChunk) ag5.sp)), (ag6.t, .obj 65 (fl c_Exp (y3.2.2.2.2.1 : List TExp) ag6.sp)), (ag7.t, .obj 40 (fl c_Vol (y3.2.2.2.2.2 : List TVol) ag7.sp))] [(some k8, .obj 27 ([.sc (.int .i64 0), .sc (.slice none 0 0), .sc (.slice none 0 0), .sc (.slice none 0 0), .sc (.slice none 0 0)])), (some k5, .obj 107 (c_Change p1)), (some k2, .obj 27 (c_Catalog p0))]).trans hk8.1) ?_
 refine vC rfl (Zb (H6 _ _ (Zf fun K6 H7 => (Zf fun K7 H8 => (Za (vA rfl (vF rfl rfl rfl (Zb (H8 _ _ ?_)))))))))
 refine AW_if' rfl (fun hc1 => ?_) (fun hc1 => ?_)
 have hm := Zi hm hc1
 refine Zf fun K8 H9 => (Za (s_v (o_bld ([.sc (.int .i64 0), .sc (.slice none 0 0), .sc (.slice none 0 0), .sc (.slice none 0 0), .sc (.slice none 0 0)]) bt27 rfl) (vA rfl ?_)))
 refine s_op (a_store 5 ([.sc (.int .i64 0), .sc (.slice none 0 0), .sc (.slice none 0 0), .sc (.slice none 0 0), .sc (.slice none 0 0)]) hk8.2 rfl rfl rfl rfl sz27 rfl rfl fun hk66 => ?_)
 refine vC rfl (Zb (H9 _ _ (AW_ret ?_)))
 have hmo := Option.some.inj hm; subst hmo
 exact LqE.mk (LeF.eqh rfl) (Ret.of2 (.inl rfl) (rsC (.agg ([.sc (.int .i64 0), .sc (.slice none 0 0), .sc (.slice none 0 0), .sc (.slice none 0 0), .sc (.slice none 0 0)])) ld27 rfl (Zd 5 hk66 rfl) rfl) (rsT _ _ (.sc (.int _ _)) rfl) (hp_sub (List.nil_sublist _) hk66).1 (ALe.agg (.cons (ALe.refl _ _) (.cons (nil_lem _) (.cons (nil_lem _) (.cons (nil_lem _) (.cons (nil_lem _) .nil)))))) (ALe.refl _ _) ⟨rfl, rfl⟩)
 have hm := Zj hm hc1
 refine Zl (H7 _ _ (Zf fun K9 H67 => (Zf fun K68 H68 => (Za (s_v (Zg (.agg ([.sc (.int .i64 y3.2.1), aw ag4.t ag4.n ag4.cap, aw ag5.t ag5.n ag5.cap, aw ag6.t ag6.n ag6.cap, aw ag7.t ag7.n ag7.cap])) ld27 rfl (Zd 0 hk8.2 rfl) rfl) ?_)))))
 obtain ⟨y4, hy4, hm⟩ := Zc hm
 refine s_v (o_call (ACalls_pure (.cons (Br.agg (.cons (Br.refl _ _) (.cons (Br.aw 1 cz_Snap ok4 hk8.2 rfl) (.cons (Br.aw 2 cz_Chunk ok5 hk8.2 rfl) (.cons (Br.aw 3 cz_Exp ok6 hk8.2 rfl) (.cons (Br.aw 4 cz_Vol ok7 hk8.2 rfl) .nil)))))) .nil) rfl (W19 _ hy4)) rfl bd19 rfl) (s_v (o_not rfl) (Zb (H68 _ _ ?_)))
 refine AW_if' rfl (fun hc2 => ?_) (fun hc2 => ?_)
 have hm := Zi hm hc2
 refine Zf fun K72 H72 => (Za (s_v (o_bld ([.sc (.int .i64 0), .sc (.slice none 0 0), .sc (.slice none 0 0), .sc (.slice none 0 0), .sc (.slice none 0 0)]) bt27 rfl) ?_))
 refine s_op (a_store 5 ([.sc (.int .i64 0), .sc (.slice none 0 0), .sc (.slice none 0 0), .sc (.slice none 0 0), .sc (.slice none 0 0)]) hk8.2 rfl rfl rfl rfl sz27 rfl rfl fun hk73 => ?_)
 refine vC rfl (Zb (H72 _ _ (AW_ret ?_)))
 have hmo := Option.some.inj hm; subst hmo
 exact LqE.mk (LeF.eqh rfl) (Ret.of2 (.inl rfl) (rsC (.agg ([.sc (.int .i64 0), .sc (.slice none 0 0), .sc (.slice none 0 0), .sc (.slice none 0 0), .sc (.slice none 0 0)])) ld27 rfl (Zd 5 hk73 rfl) rfl) (rsT _ _ (.sc (.int _ _)) rfl) (hp_sub (List.nil_sublist _) hk73).1 (ALe.agg (.cons (ALe.refl _ _) (.cons (nil_lem _) (.cons (nil_lem _) (.cons (nil_lem _) (.cons (nil_lem _) .nil)))))) (ALe.refl _ _) ⟨rfl, rfl⟩)
 have hm := Zj hm hc2
 refine Zl (H67 _ _ (Zf fun K74 H74 => (Za (s_v (Zg (.agg ([.sc (.int .i64 y3.2.1), aw ag4.t ag4.n ag4.cap, aw ag5.t ag5.n ag5.cap, aw ag6.t ag6.n ag6.cap, aw ag7.t ag7.n ag7.cap])) ld27 rfl (Zd 0 hk8.2 rfl) rfl) ?_))))
 refine s_op (a_store 5 ([.sc (.int .i64 y3.2.1), aw ag4.t ag4.n ag4.cap, aw ag5.t ag5.n ag5.cap, aw ag6.t ag6.n ag6.cap, aw ag7.t ag7.n ag7.cap]) hk8.2 rfl rfl rfl (by repeat (first | exact rfl | refine all_c (ocell_ow _ _ _) ?_ | refine all_c (ocell_aw _ _ _) ?_ | refine all_c rfl ?_)) sz27 rfl rfl fun hk75 => ?_)
 refine vC rfl (Zb (H74 _ _ (AW_ret ?_)))
 have hmo := Option.some.inj hm; subst hmo
 obtain ⟨hk76, le0⟩ := LeF.fzO (n := 36) (f := _) 1 4 ([.sc (.int .i64 y3.2.1), .sl none 4 (List.map c_Snap y3.2.2.1), aw ag5.t ag5.n ag5.cap, aw ag6.t ag6.n ag6.cap, aw ag7.t ag7.n ag7.cap]) hk75 rfl (.cons (Fz.refl _ _ _) (.cons (Fz.aw 1 cz_Snap ok4 hk75 rfl (.refl _)) (.cons (Fz.refl _ _ _) (.cons (Fz.refl _ _ _) (.cons (Fz.refl _ _ _) .nil)))))
 obtain ⟨hk78, le1⟩ := LeF.fzO (n := 36) (f := _) 1 3 ([.sc (.int .i64 y3.2.1), .sl none 4 (List.map c_Snap y3.2.2.1), .sl none 35 (List.map c_Chunk y3.2.2.2.1), aw ag6.t ag6.n ag6.cap, aw ag7.t ag7.n ag7.cap]) hk76 rfl (.cons (Fz.refl _ _ _) (.cons (Fz.refl _ _ _) (.cons (Fz.aw 1 cz_Chunk ok5 hk76 rfl (.refl _)) (.cons (Fz.refl _ _ _) (.cons (Fz.refl _ _ _) .nil)))))
 obtain ⟨hk80, le2⟩ := LeF.fzO (n := 36) (f := _) 1 2 ([.sc (.int .i64 y3.2.1), .sl none 4 (List.map c_Snap y3.2.2.1), .sl none 35 (List.map c_Chunk y3.2.2.2.1), .sl none 3 (List.map c_Exp y3.2.2.2.2.1), aw ag7.t ag7.n ag7.cap]) hk78 rfl (.cons (Fz.refl _ _ _) (.cons (Fz.refl _ _ _) (.cons (Fz.refl _ _ _) (.cons (Fz.aw 1 cz_Exp ok6 hk78 rfl (.refl _)) (.cons (Fz.refl _ _ _) .nil)))))
 obtain ⟨hk82, le3⟩ := LeF.fzO (n := 36) (f := _) 1 1 ([.sc (.int .i64 y3.2.1), .sl none 4 (List.map c_Snap y3.2.2.1), .sl none 35 (List.map c_Chunk y3.2.2.2.1), .sl none 3 (List.map c_Exp y3.2.2.2.2.1), .sl none 4 (List.map c_Vol y3.2.2.2.2.2)]) hk80 rfl (.cons (Fz.refl _ _ _) (.cons (Fz.refl _ _ _) (.cons (Fz.refl _ _ _) (.cons (Fz.refl _ _ _) (.cons (Fz.aw 1 cz_Vol ok7 hk80 rfl (.refl _)) .nil)))))
 exact LqE.mk (LeF.trans (LeF.trans (LeF.trans le0 le1) le2) le3) (Ret.of2 (.inl rfl) (rsC (.agg (c_Catalog ({ Seq := y3.2.1, Snaps := y3.2.2.1, Chunks := y3.2.2.2.1, Exps := y3.2.2.2.2.1, Vols := y3.2.2.2.2.2 } : TCatalog))) ld27 rfl (Zd 1 hk82 rfl) rfl) (rsT _ _ (.sc (.int _ _)) rfl) (hp_sub (List.nil_sublist _) hk82).1 (ALe.refl _ _) (ALe.refl _ _) ⟨rfl, rfl⟩)
theorem bd67 : bodied Try.prog 67 = true := by kernel_rfl
end Go.Proofs.Ytoomgangpjcaoaa
